/- Part 5 of the texts on which the proof rests. Conditions: none. -/
import Derived.Test.YtclhljenjphofaaZM4
set_option linter.unusedVariables false
set_option linter.unusedSimpArgs false
set_option linter.unusedSectionVars false
namespace Go.Proofs.Ytclhljenjphofaa
open Go Go.Nm
def m_nilometerref01_parted_b0 (n_Marks : Int) (m_ : Mv) : ((List Line) × Nat) → M (((List Line) × Nat) ⊕ ((List Line) × (List Line))) := fun (l, i) =>
  bif decide ((i : Int) < (l.length : Int)) then (
  M.grd (decide ((i : Int) < (l.length : Int))) <|
  bif ((decide (m_.day ≤ ((l.getD i default).day))) && (((l.getD i default).src) == m_.mark)) then (
  M.grd (decide ((i : Int) < ((l.set i ({ (l.getD i default) with src := n_Marks })).length : Int))) <|
  bif ((decide (m_.day ≤ (((l.set i ({ (l.getD i default) with src := n_Marks })).getD i default).day))) && ((((l.set i ({ (l.getD i default) with src := n_Marks })).getD i default).dst) == m_.mark)) then (
  M.pure (.inl ((l.set i ({ (l.getD i default) with src := n_Marks })).set i ({ ((l.set i ({ (l.getD i default) with src := n_Marks })).getD i default) with dst := n_Marks }), i + 1)))
  else (
  M.pure (.inl (l.set i ({ (l.getD i default) with src := n_Marks }), i + 1))))
  else (
  M.grd (decide ((i : Int) < (l.length : Int))) <|
  bif ((decide (m_.day ≤ ((l.getD i default).day))) && (((l.getD i default).dst) == m_.mark)) then (
  M.pure (.inl (l.set i ({ (l.getD i default) with dst := n_Marks }), i + 1)))
  else (
  M.pure (.inl (l, i + 1)))))
  else (
  M.pure (.inr (l, l)))
def m_nilometerref01_parted (n_Marks : Int) (n_Lines : List Line) (m_ : Mv) : M (Int × (List Line)) :=
  M.grd (decide ((-9223372036854775808 : Int) ≤ (n_Marks + 1)) && decide ((n_Marks + 1) ≤ (9223372036854775807 : Int))) <|
  M.grd (decide ((([] : List Line).length + n_Lines.length) * 40 ≤ 140737488355328)) <|
  M.bind (M.iter (m_nilometerref01_parted_b0 n_Marks m_) (n_Lines, 0)) fun (l2, l3) =>
  M.pure ((n_Marks + 1), l3)
set_option maxRecDepth 100000 in
set_option maxHeartbeats 16000000 in
theorem nilometerref01_parted_ok {R : List Chunk} {C_n_Lines : Cells} {v_n_Lines : Value} (n_Marks : Int) (n_Lines : List Line) (m_ : Mv) (hC_n_Lines : Reads R C_n_Lines) (hs_n_Lines : Sl C_n_Lines v_n_Lines n_Lines) {r : (Int × (List Line))} (hM : (m_nilometerref01_parted n_Marks n_Lines m_).Ends r) (w : World) (H : St w w [] R) : Ret Try.prog 70 #[.agg #[I n_Marks, v_n_Lines], .agg #[I m_.mark, I m_.day]] w fun v w' => ∃ (y0 : Int) (y1 : List Line) (u0 : Value), (y0, y1) = r ∧ v = .agg #[I y0, u0] ∧ St w w' [cOwn (α := Line) 133 u0 y1] R := by
 refine ret_of_W Try.func70 rfl rfl rfl ?_
 refine W.seq ?_
 refine W.region rfl ?_
 refine t_box (v := .agg #[I n_Marks, v_n_Lines]) (cs := [I n_Marks, v_n_Lines]) H rfl rfl ?_
 intro b_1 w1z H
 refine t_box (v := .agg #[I m_.mark, I m_.day]) (cs := [I m_.mark, I m_.day]) H rfl rfl ?_
 intro b_2 w2z H
 refine t_alloc (cs := [I 0, .slice none 0 0]) H Al64 rfl ?_
 intro b_3 w3z H
 refine s_nil ?_
 refine W.seq ?_
 refine W.drawT (fun W => St w W [cBlk b_3 [I 0, .slice none 0 0] 64, cBlk b_2 [I m_.mark, I m_.day] 68, cBlk b_1 [I n_Marks, v_n_Lines] 64] R) (.q 0 (.q 1 (.q 2 (.q 4 (.q 5 (.l2 3 (.l2 6 (.l2 7 (.l 8 (.l 9 .nil)) 8 (.l 7 (.l 9 .nil))) 8 (.l 6 (.l 7 (.l 9 .nil)))) 8 (.l 3 (.l 6 (.l 7 (.l 9 .nil)))))))))) mixed (by decide +kernel) rfl ?_
 intro w4z hx_
 replace H : St w w4z [cBlk b_3 [I 0, .slice none 0 0] 64, cBlk b_2 [I m_.mark, I m_.day] 68, cBlk b_1 [I n_Marks, v_n_Lines] 64] R := H.ext hx_
 clear hx_
 refine ⟨(H.pick [0, 1, 2] (by decide) rfl), ?_⟩
 refine t_q rfl (fun w' H => x_fa (a := .pointer (some ⟨b_1, 0, none⟩)) (v := .pointer (some ⟨b_1, 0, none⟩)) rfl (fa_blk (o := 0) Fd64_0 Sz3)) ?_
 refine t_q rfl (fun w' H => x_ld (p := .pointer (some ⟨b_1, 0, none⟩)) (v := I n_Marks) rfl (ldb_sc Sc3 (H.blk (k := 2) rfl) rfl)) ?_
 obtain ⟨sd5z, hM⟩ := M.e_grd hM
 simp only [Bool.and_eq_true, decide_eq_true_eq] at sd5z
 refine t_q rfl (fun w' H => x_ari (a := n_Marks) (b := 1) (r := n_Marks + 1) rfl rfl rfl (by omega)) ?_
 refine t_q rfl (fun w' H => x_fa (a := .pointer (some ⟨b_1, 0, none⟩)) (v := .pointer (some ⟨b_1, 1, none⟩)) rfl (fa_blk (o := 0) Fd64_1 Sz62)) ?_
 refine t_q rfl (fun w' H => x_ld (p := .pointer (some ⟨b_1, 1, none⟩)) (v := v_n_Lines) rfl (ldb_sc Sc62 (H.blk (k := 2) rfl) rfl)) ?_
 obtain ⟨sd8z, hM⟩ := M.e_grd hM
 simp only [Bool.and_eq_true, decide_eq_true_eq] at sd8z
 refine t_l2 rfl rfl ?_ ?_
 ·skip
  refine t_bs0 (α := Line) T62 H ?_
  intro v13z w14z H
  have hvc_q15z := Sl.cells (ownSl (H.get (k := 0) rfl))
  have hvo_q15z := Sl.oc (ownSl (H.get (k := 0) rfl))
  refine s_nil ⟨(H.pick [1, 2, 3] (by decide) rfl), ?_⟩
  refine t_l2 rfl rfl ?_ ?_
  ·skip
   refine t_app (α := Line) (k := 0) (l := []) (l2 := n_Lines) (l' := n_Lines) (vy := v_n_Lines) T62 rfl H rfl rfl rfl hs_n_Lines (hC_n_Lines.at H) (List.nil_append _) (by first | omega | (simp only [List.length_nil] at *; omega)) ?_
   intro v16z w17z H
   replace H : St w w17z [cOwn (α := Line) 133 v16z n_Lines, cBlk b_3 [I 0, .slice none 0 0] 64, cBlk b_2 [I m_.mark, I m_.day] 68, cBlk b_1 [I n_Marks, v_n_Lines] 64] R := H
   have hvc_q18z := Sl.cells (ownSl (H.get (k := 0) rfl))
   have hvo_q18z := Sl.oc (ownSl (H.get (k := 0) rfl))
   refine s_nil ⟨(H.pick [1, 2, 3] (by decide) rfl), ?_⟩
   refine t_l2 rfl rfl ?_ ?_
   ·skip
    refine s_val (x_bld (ps := [(0, I (n_Marks + 1)), (1, v16z)]) (zs := [I 0, .slice none 0 0]) (L' := [I (n_Marks + 1), v16z]) rfl Try.underlying64 Al64 rfl (Bd64 Try.underlying64) (.cons (cs := [I (n_Marks + 1)]) rfl rfl rfl rfl rfl <| .cons (cs := [v16z]) (Sl.cells (ownSl (H.get (k := 0) rfl))) rfl rfl rfl rfl <| .nil)) ?_
    refine s_nil ⟨(H.pick [1, 2, 3] (by decide) rfl), ?_⟩
    refine t_l rfl ?_
    refine t_alloc (cs := [I 0, .slice none 0 0]) H Al64 rfl ?_
    intro b_5 w19z H
    refine s_nil ⟨(H.pick [2, 3, 4] (by decide) rfl), ?_⟩
    refine t_l rfl ?_
    refine t_st (k := 0) (b := b_5) (off := 0) (cs := [I 0, .slice none 0 0]) (vs := [I (n_Marks + 1), v16z]) (cs' := [I (n_Marks + 1), v16z]) (v := .agg #[I (n_Marks + 1), v16z]) (L' := [cBlk b_5 [I (n_Marks + 1), v16z] 64, cOwn (α := Line) 133 v16z n_Lines, cBlk b_3 [I 0, .slice none 0 0] 64, cBlk b_2 [I m_.mark, I m_.day] 68, cBlk b_1 [I n_Marks, v_n_Lines] 64]) H rfl rfl rfl Sz64 rfl rfl rfl (by simp only [List.all_cons, List.all_nil, Bool.true_and, Bool.and_true, Sl.oc (ownSl (H.get (k := 1) rfl))]; try rfl) rfl rfl ?_
    intro w20z H
    refine s_nil ⟨(H.pick [2, 3, 4] (by decide) rfl), ?_⟩
    refine t_nil ?_
    refine W.seq ?_
    refine W.seq ?_
    refine W.region rfl ?_
    refine s_val (x_as (v := I 0) rfl) ?_
    refine s_nil ?_
    refine W.block ?_
    obtain ⟨ex21z, hi22z, hk23z⟩ := M.e_bind hM
    obtain ⟨m0_, hi22z⟩ := M.e_iter hi22z
    refine W.loop (fun m σ W => ∃ (l : List Line) (i : Nat) (v_l : Value) (ρ : Env), σ = upds ρ [(2, .pointer (some ⟨b_1, 0, none⟩)), (3, .pointer (some ⟨b_2, 0, none⟩)), (4, .pointer (some ⟨b_3, 0, none⟩)), (5, .pointer (some ⟨b_5, 0, none⟩)), (6, I (i : Int))] ∧ M.iterN (m_nilometerref01_parted_b0 n_Marks m_) m (l, i) = some ex21z ∧ St w W [cBlk b_5 [I (n_Marks + 1), v_l] 64, cOwn (α := Line) 133 v_l l, cBlk b_3 [I 0, .slice none 0 0] 64, cBlk b_2 [I m_.mark, I m_.day] 68, cBlk b_1 [I n_Marks, v_n_Lines] 64] R) ?_ ?_
    ·exact ⟨_, n_Lines, 0, v16z, _, upds_of _ _ ⟨rfl, rfl, rfl, rfl, rfl, trivial⟩, hi22z, H⟩
    ·rintro m26z σ w24z ⟨l, i, v_l, ρ, rfl, hI25z, H⟩
     obtain ⟨m27z, lt28z, x29z, hM, hN30z⟩ := M.e_iterN hI25z
     simp only [m_nilometerref01_parted_b0] at hM
     clear hI25z
     refine W.seq ?_
     refine W.seq ?_
     refine W.region rfl ?_
     refine s_val (x_mv (v := I (i : Int)) rfl) ?_
     refine s_val (x_fa (a := .pointer (some ⟨b_5, 0, none⟩)) (v := .pointer (some ⟨b_5, 1, none⟩)) rfl (fa_blk (o := 0) Fd64_1 Sz62)) ?_
     refine s_val (x_ld (p := .pointer (some ⟨b_5, 1, none⟩)) (v := v_l) rfl (ldb_sc Sc62 (H.blk (k := 0) rfl) rfl)) ?_
     have hl31z := ((ownSl (H.get (k := 1) rfl))).len_le
     refine s_val (x_lenS T62.und rfl (ownSl (H.get (k := 1) rfl))) ?_
     refine s_val (x_cmp (kd := .i64) (a := (i : Int)) (b := (l.length : Int)) (r := decide ((i : Int) < (l.length : Int))) rfl rfl rfl) ?_
     refine s_nil ?_
     refine W.cond (decide ((i : Int) < (l.length : Int))) rfl (fun c32z => ?_) (fun c32z => ?_)
     ·replace hM := M.e_t hM c32z
      simp only [decide_eq_true_eq, decide_eq_false_iff_not, beq_iff_eq, bne_iff_ne, beq_eq_false_iff_ne, bne_eq_false_iff_eq, ne_eq, Decidable.not_not] at c32z
      refine W.skip ?_
      refine W.seq ?_
      refine W.block ?_
      refine W.seq ?_
      refine W.seq ?_
      refine W.draw (fun W => St w W [cBlk b_5 [I (n_Marks + 1), v_l] 64, cOwn (α := Line) 133 v_l l, cBlk b_3 [I 0, .slice none 0 0] 64, cBlk b_2 [I m_.mark, I m_.day] 68, cBlk b_1 [I n_Marks, v_n_Lines] 64] R) [(0, true), (1, true), (2, true), (3, true), (4, true), (5, true), (6, true), (7, true), (8, true), (9, true), (10, true), (11, true), (12, true), (13, true), (14, true), (15, true), (16, true), (17, true), (18, true), (19, true)] mixed (by decide +kernel) rfl ?_
      intro w33z hx_
      replace H : St w w33z [cBlk b_5 [I (n_Marks + 1), v_l] 64, cOwn (α := Line) 133 v_l l, cBlk b_3 [I 0, .slice none 0 0] 64, cBlk b_2 [I m_.mark, I m_.day] 68, cBlk b_1 [I n_Marks, v_n_Lines] 64] R := H.ext hx_
      clear hx_
      refine ⟨(H.pick [0, 1, 2, 3, 4] (by decide) rfl), ?_⟩
      refine d_q rfl (fun w' H => x_fa (a := .pointer (some ⟨b_5, 0, none⟩)) (v := .pointer (some ⟨b_5, 1, none⟩)) rfl (fa_blk (o := 0) Fd64_1 Sz62)) ?_
      refine d_q rfl (fun w' H => x_ld (p := .pointer (some ⟨b_5, 1, none⟩)) (v := v_l) rfl (ldb_sc Sc62 (H.blk (k := 0) rfl) rfl)) ?_
      refine d_q rfl (fun w' H => x_mv (v := I (i : Int)) rfl) ?_
      obtain ⟨sd34z, hM⟩ := M.e_grd hM
      simp only [Bool.and_eq_true, decide_eq_true_eq] at sd34z
      refine d_q rfl (fun w' H => x_ix (a := v_l) (b := I (i : Int)) (v := vat v_l 5 (Int.toNat (i : Int))) rfl rfl (Sl.ix (α := Line) T62.und T62.size (ownSl (H.get (k := 1) rfl)) (by omega) (by omega))) ?_
      refine d_q rfl (fun w' H => x_fa (a := vat v_l 5 (Int.toNat (i : Int))) (v := fat (vat v_l 5 (Int.toNat (i : Int))) 2) rfl (fa_pl Fd133_2 Sz3 (Sl.pl (i := (i : Int)) (ownSl (H.get (k := 1) rfl)) (by omega) (by omega)))) ?_
      refine d_q rfl (fun w' H => x_ld (p := fat (vat v_l 5 (Int.toNat (i : Int))) 2) (v := I ((l.getD i default).day)) rfl (ld_sc Sc3 (At.mono (Line_at2 (ownSl (H.get (k := 1) rfl)) (i := (i : Int)) (by omega) (by omega)) (ownLe _ (H.get (k := 1) rfl))))) ?_
      refine d_q rfl (fun w' H => x_fa (a := .pointer (some ⟨b_2, 0, none⟩)) (v := .pointer (some ⟨b_2, 1, none⟩)) rfl (fa_blk (o := 0) Fd68_1 Sz3)) ?_
      refine d_q rfl (fun w' H => x_ld (p := .pointer (some ⟨b_2, 1, none⟩)) (v := I m_.day) rfl (ldb_sc Sc3 (H.blk (k := 3) rfl) rfl)) ?_
      refine d_q rfl (fun w' H => x_cmp (kd := .i64) (a := (l.getD i default).day) (b := m_.day) (r := decide (m_.day ≤ ((l.getD i default).day))) rfl rfl rfl) ?_
      refine d_q rfl (fun w' H => x_mv (v := B (decide (m_.day ≤ ((l.getD i default).day)))) rfl) ?_
      refine d_qg (decide (m_.day ≤ ((l.getD i default).day))) rfl (gy_t rfl) (fun hg => (fun w' H => x_fa (a := .pointer (some ⟨b_5, 0, none⟩)) (v := .pointer (some ⟨b_5, 1, none⟩)) rfl (fa_blk (o := 0) Fd64_1 Sz62))) ?_
      refine d_qg (decide (m_.day ≤ ((l.getD i default).day))) rfl (gy_t rfl) (fun hg => (fun w' H => x_ld (p := .pointer (some ⟨b_5, 1, none⟩)) (v := v_l) (gd_of (c := decide (m_.day ≤ ((l.getD i default).day))) hg (.pointer (some ⟨b_5, 1, none⟩))) (ldb_sc Sc62 (H.blk (k := 0) rfl) rfl))) ?_
      refine d_qg (decide (m_.day ≤ ((l.getD i default).day))) rfl (gy_t rfl) (fun hg => (fun w' H => x_mv (v := I (i : Int)) rfl)) ?_
      refine d_qg (decide (m_.day ≤ ((l.getD i default).day))) rfl (gy_t rfl) (fun hg => (fun w' H => x_ix (a := v_l) (b := I (i : Int)) (v := vat v_l 5 (Int.toNat (i : Int))) (gd_of (c := decide (m_.day ≤ ((l.getD i default).day))) hg (v_l)) (gd_of (c := decide (m_.day ≤ ((l.getD i default).day))) hg (I (i : Int))) (Sl.ix (α := Line) T62.und T62.size (ownSl (H.get (k := 1) rfl)) (by first | omega | (have hx_ := hg; simp at hx_; omega)) (by first | omega | (have hx_ := hg; simp at hx_; omega))))) ?_
      refine d_qg (decide (m_.day ≤ ((l.getD i default).day))) rfl (gy_t rfl) (fun hg => (fun w' H => x_fa (a := vat v_l 5 (Int.toNat (i : Int))) (v := fat (vat v_l 5 (Int.toNat (i : Int))) 0) (gd_of (c := decide (m_.day ≤ ((l.getD i default).day))) hg (vat v_l 5 (Int.toNat (i : Int)))) (fa_pl Fd133_0 Sz3 (Sl.pl (i := (i : Int)) (ownSl (H.get (k := 1) rfl)) (by first | omega | (have hx_ := hg; simp at hx_; omega)) (by first | omega | (have hx_ := hg; simp at hx_; omega)))))) ?_
      refine d_qg (decide (m_.day ≤ ((l.getD i default).day))) rfl (gy_t rfl) (fun hg => (fun w' H => x_ld (p := fat (vat v_l 5 (Int.toNat (i : Int))) 0) (v := I ((l.getD i default).src)) (gd_of (c := decide (m_.day ≤ ((l.getD i default).day))) hg (fat (vat v_l 5 (Int.toNat (i : Int))) 0)) (ld_sc Sc3 (At.mono (Line_at0 (ownSl (H.get (k := 1) rfl)) (i := (i : Int)) (by first | omega | (have hx_ := hg; simp at hx_; omega)) (by first | omega | (have hx_ := hg; simp at hx_; omega))) (ownLe _ (H.get (k := 1) rfl)))))) ?_
      refine d_qg (decide (m_.day ≤ ((l.getD i default).day))) rfl (gy_t rfl) (fun hg => (fun w' H => x_fa (a := .pointer (some ⟨b_2, 0, none⟩)) (v := .pointer (some ⟨b_2, 0, none⟩)) rfl (fa_blk (o := 0) Fd68_0 Sz3))) ?_
      refine d_qg (decide (m_.day ≤ ((l.getD i default).day))) rfl (gy_t rfl) (fun hg => (fun w' H => x_ld (p := .pointer (some ⟨b_2, 0, none⟩)) (v := I m_.mark) (gd_of (c := decide (m_.day ≤ ((l.getD i default).day))) hg (.pointer (some ⟨b_2, 0, none⟩))) (ldb_sc Sc3 (H.blk (k := 3) rfl) rfl))) ?_
      refine d_qg (decide (m_.day ≤ ((l.getD i default).day))) rfl (gy_t rfl) (fun hg => (fun w' H => x_cmp (kd := .i64) (a := (l.getD i default).src) (b := m_.mark) (r := ((l.getD i default).src) == m_.mark) (gd_of (c := decide (m_.day ≤ ((l.getD i default).day))) hg (I ((l.getD i default).src))) (gd_of (c := decide (m_.day ≤ ((l.getD i default).day))) hg (I m_.mark)) rfl)) ?_
      refine d_q rfl (fun w' H => x_pand (b := decide (m_.day ≤ ((l.getD i default).day))) (r := ((l.getD i default).src) == m_.mark) rfl (fun hb => gd_of (c := decide (m_.day ≤ ((l.getD i default).day))) (by first | exact hb | (rw [hb]; rfl) | simp_all) (B (((l.getD i default).src) == m_.mark))) rfl) ?_
      refine d_nil ?_
      refine W.cond ((decide (m_.day ≤ ((l.getD i default).day))) && (((l.getD i default).src) == m_.mark)) rfl (fun c35z => ?_) (fun c35z => ?_)
      ·replace hM := M.e_t hM c35z
       refine W.region rfl ?_
       refine s_val (x_fa (a := .pointer (some ⟨b_5, 0, none⟩)) (v := .pointer (some ⟨b_5, 1, none⟩)) rfl (fa_blk (o := 0) Fd64_1 Sz62)) ?_
       refine s_val (x_ld (p := .pointer (some ⟨b_5, 1, none⟩)) (v := v_l) rfl (ldb_sc Sc62 (H.blk (k := 0) rfl) rfl)) ?_
       refine s_val (x_mv (v := I (i : Int)) rfl) ?_
       refine s_val (x_fa (a := .pointer (some ⟨b_1, 0, none⟩)) (v := .pointer (some ⟨b_1, 0, none⟩)) rfl (fa_blk (o := 0) Fd64_0 Sz3)) ?_
       refine s_val (x_ld (p := .pointer (some ⟨b_1, 0, none⟩)) (v := I n_Marks) rfl (ldb_sc Sc3 (H.blk (k := 4) rfl) rfl)) ?_
       refine s_val (x_ix (a := v_l) (b := I (i : Int)) (v := vat v_l 5 (Int.toNat (i : Int))) rfl rfl (Sl.ix (α := Line) T62.und T62.size (ownSl (H.get (k := 1) rfl)) (by omega) (by omega))) ?_
       refine s_val (x_fa (a := vat v_l 5 (Int.toNat (i : Int))) (v := fat (vat v_l 5 (Int.toNat (i : Int))) 0) rfl (fa_pl Fd133_0 Sz3 (Sl.pl (i := (i : Int)) (ownSl (H.get (k := 1) rfl)) (by omega) (by omega)))) ?_
       refine t_fst (α := Line) (k := 1) (i := (i : Int)) (off := 0) (l := l) (l' := l.set i ({ (l.getD i default) with src := n_Marks })) (val := I n_Marks) (L' := [cBlk b_5 [I (n_Marks + 1), v_l] 64, cOwn (α := Line) 133 v_l (l.set i ({ (l.getD i default) with src := n_Marks })), cBlk b_3 [I 0, .slice none 0 0] 64, cBlk b_2 [I m_.mark, I m_.day] 68, cBlk b_1 [I n_Marks, v_n_Lines] 64]) H rfl Sz3 (by omega) (by omega) (l.getD i default) ({ (l.getD i default) with src := n_Marks }) (getD_some _ (by omega) _) rfl rfl [I n_Marks] rfl rfl rfl rfl rfl rfl rfl ?_
       intro w36z H
       have hls_q37z : (l.set i ({ (l.getD i default) with src := n_Marks })).length = (l).length := List.length_set
       refine s_nil ?_
       refine W.seq ?_
       refine W.draw (fun W => St w W [cBlk b_5 [I (n_Marks + 1), v_l] 64, cOwn (α := Line) 133 v_l (l.set i ({ (l.getD i default) with src := n_Marks })), cBlk b_3 [I 0, .slice none 0 0] 64, cBlk b_2 [I m_.mark, I m_.day] 68, cBlk b_1 [I n_Marks, v_n_Lines] 64] R) [(0, true), (1, true), (2, true), (3, true), (4, true), (5, true), (6, true), (7, true), (8, true), (9, true), (10, true), (11, true), (12, true), (13, true), (14, true), (15, true), (16, true), (17, true), (18, true), (19, true)] mixed (by decide +kernel) rfl ?_
       intro w38z hx_
       replace H : St w w38z [cBlk b_5 [I (n_Marks + 1), v_l] 64, cOwn (α := Line) 133 v_l (l.set i ({ (l.getD i default) with src := n_Marks })), cBlk b_3 [I 0, .slice none 0 0] 64, cBlk b_2 [I m_.mark, I m_.day] 68, cBlk b_1 [I n_Marks, v_n_Lines] 64] R := H.ext hx_
       clear hx_
       refine ⟨(H.pick [0, 1, 2, 3, 4] (by decide) rfl), ?_⟩
       refine d_q rfl (fun w' H => x_fa (a := .pointer (some ⟨b_5, 0, none⟩)) (v := .pointer (some ⟨b_5, 1, none⟩)) rfl (fa_blk (o := 0) Fd64_1 Sz62)) ?_
       refine d_q rfl (fun w' H => x_ld (p := .pointer (some ⟨b_5, 1, none⟩)) (v := v_l) rfl (ldb_sc Sc62 (H.blk (k := 0) rfl) rfl)) ?_
       refine d_q rfl (fun w' H => x_mv (v := I (i : Int)) rfl) ?_
       obtain ⟨sd39z, hM⟩ := M.e_grd hM
       simp only [Bool.and_eq_true, decide_eq_true_eq] at sd39z
       refine d_q rfl (fun w' H => x_ix (a := v_l) (b := I (i : Int)) (v := vat v_l 5 (Int.toNat (i : Int))) rfl rfl (Sl.ix (α := Line) T62.und T62.size (ownSl (H.get (k := 1) rfl)) (by omega) (by omega))) ?_
       refine d_q rfl (fun w' H => x_fa (a := vat v_l 5 (Int.toNat (i : Int))) (v := fat (vat v_l 5 (Int.toNat (i : Int))) 2) rfl (fa_pl Fd133_2 Sz3 (Sl.pl (i := (i : Int)) (ownSl (H.get (k := 1) rfl)) (by omega) (by omega)))) ?_
       refine d_q rfl (fun w' H => x_ld (p := fat (vat v_l 5 (Int.toNat (i : Int))) 2) (v := I (((l.set i ({ (l.getD i default) with src := n_Marks })).getD i default).day)) rfl (ld_sc Sc3 (At.mono (Line_at2 (ownSl (H.get (k := 1) rfl)) (i := (i : Int)) (by omega) (by omega)) (ownLe _ (H.get (k := 1) rfl))))) ?_
       refine d_q rfl (fun w' H => x_fa (a := .pointer (some ⟨b_2, 0, none⟩)) (v := .pointer (some ⟨b_2, 1, none⟩)) rfl (fa_blk (o := 0) Fd68_1 Sz3)) ?_
       refine d_q rfl (fun w' H => x_ld (p := .pointer (some ⟨b_2, 1, none⟩)) (v := I m_.day) rfl (ldb_sc Sc3 (H.blk (k := 3) rfl) rfl)) ?_
       refine d_q rfl (fun w' H => x_cmp (kd := .i64) (a := ((l.set i ({ (l.getD i default) with src := n_Marks })).getD i default).day) (b := m_.day) (r := decide (m_.day ≤ (((l.set i ({ (l.getD i default) with src := n_Marks })).getD i default).day))) rfl rfl rfl) ?_
       refine d_q rfl (fun w' H => x_mv (v := B (decide (m_.day ≤ (((l.set i ({ (l.getD i default) with src := n_Marks })).getD i default).day)))) rfl) ?_
       refine d_qg (decide (m_.day ≤ (((l.set i ({ (l.getD i default) with src := n_Marks })).getD i default).day))) rfl (gy_t rfl) (fun hg => (fun w' H => x_fa (a := .pointer (some ⟨b_5, 0, none⟩)) (v := .pointer (some ⟨b_5, 1, none⟩)) rfl (fa_blk (o := 0) Fd64_1 Sz62))) ?_
       refine d_qg (decide (m_.day ≤ (((l.set i ({ (l.getD i default) with src := n_Marks })).getD i default).day))) rfl (gy_t rfl) (fun hg => (fun w' H => x_ld (p := .pointer (some ⟨b_5, 1, none⟩)) (v := v_l) (gd_of (c := decide (m_.day ≤ (((l.set i ({ (l.getD i default) with src := n_Marks })).getD i default).day))) hg (.pointer (some ⟨b_5, 1, none⟩))) (ldb_sc Sc62 (H.blk (k := 0) rfl) rfl))) ?_
       refine d_qg (decide (m_.day ≤ (((l.set i ({ (l.getD i default) with src := n_Marks })).getD i default).day))) rfl (gy_t rfl) (fun hg => (fun w' H => x_mv (v := I (i : Int)) rfl)) ?_
       refine d_qg (decide (m_.day ≤ (((l.set i ({ (l.getD i default) with src := n_Marks })).getD i default).day))) rfl (gy_t rfl) (fun hg => (fun w' H => x_ix (a := v_l) (b := I (i : Int)) (v := vat v_l 5 (Int.toNat (i : Int))) (gd_of (c := decide (m_.day ≤ (((l.set i ({ (l.getD i default) with src := n_Marks })).getD i default).day))) hg (v_l)) (gd_of (c := decide (m_.day ≤ (((l.set i ({ (l.getD i default) with src := n_Marks })).getD i default).day))) hg (I (i : Int))) (Sl.ix (α := Line) T62.und T62.size (ownSl (H.get (k := 1) rfl)) (by first | omega | (have hx_ := hg; simp at hx_; omega)) (by first | omega | (have hx_ := hg; simp at hx_; omega))))) ?_
       refine d_qg (decide (m_.day ≤ (((l.set i ({ (l.getD i default) with src := n_Marks })).getD i default).day))) rfl (gy_t rfl) (fun hg => (fun w' H => x_fa (a := vat v_l 5 (Int.toNat (i : Int))) (v := fat (vat v_l 5 (Int.toNat (i : Int))) 1) (gd_of (c := decide (m_.day ≤ (((l.set i ({ (l.getD i default) with src := n_Marks })).getD i default).day))) hg (vat v_l 5 (Int.toNat (i : Int)))) (fa_pl Fd133_1 Sz3 (Sl.pl (i := (i : Int)) (ownSl (H.get (k := 1) rfl)) (by first | omega | (have hx_ := hg; simp at hx_; omega)) (by first | omega | (have hx_ := hg; simp at hx_; omega)))))) ?_
       refine d_qg (decide (m_.day ≤ (((l.set i ({ (l.getD i default) with src := n_Marks })).getD i default).day))) rfl (gy_t rfl) (fun hg => (fun w' H => x_ld (p := fat (vat v_l 5 (Int.toNat (i : Int))) 1) (v := I (((l.set i ({ (l.getD i default) with src := n_Marks })).getD i default).dst)) (gd_of (c := decide (m_.day ≤ (((l.set i ({ (l.getD i default) with src := n_Marks })).getD i default).day))) hg (fat (vat v_l 5 (Int.toNat (i : Int))) 1)) (ld_sc Sc3 (At.mono (Line_at1 (ownSl (H.get (k := 1) rfl)) (i := (i : Int)) (by first | omega | (have hx_ := hg; simp at hx_; omega)) (by first | omega | (have hx_ := hg; simp at hx_; omega))) (ownLe _ (H.get (k := 1) rfl)))))) ?_
       refine d_qg (decide (m_.day ≤ (((l.set i ({ (l.getD i default) with src := n_Marks })).getD i default).day))) rfl (gy_t rfl) (fun hg => (fun w' H => x_fa (a := .pointer (some ⟨b_2, 0, none⟩)) (v := .pointer (some ⟨b_2, 0, none⟩)) rfl (fa_blk (o := 0) Fd68_0 Sz3))) ?_
       refine d_qg (decide (m_.day ≤ (((l.set i ({ (l.getD i default) with src := n_Marks })).getD i default).day))) rfl (gy_t rfl) (fun hg => (fun w' H => x_ld (p := .pointer (some ⟨b_2, 0, none⟩)) (v := I m_.mark) (gd_of (c := decide (m_.day ≤ (((l.set i ({ (l.getD i default) with src := n_Marks })).getD i default).day))) hg (.pointer (some ⟨b_2, 0, none⟩))) (ldb_sc Sc3 (H.blk (k := 3) rfl) rfl))) ?_
       refine d_qg (decide (m_.day ≤ (((l.set i ({ (l.getD i default) with src := n_Marks })).getD i default).day))) rfl (gy_t rfl) (fun hg => (fun w' H => x_cmp (kd := .i64) (a := ((l.set i ({ (l.getD i default) with src := n_Marks })).getD i default).dst) (b := m_.mark) (r := (((l.set i ({ (l.getD i default) with src := n_Marks })).getD i default).dst) == m_.mark) (gd_of (c := decide (m_.day ≤ (((l.set i ({ (l.getD i default) with src := n_Marks })).getD i default).day))) hg (I (((l.set i ({ (l.getD i default) with src := n_Marks })).getD i default).dst))) (gd_of (c := decide (m_.day ≤ (((l.set i ({ (l.getD i default) with src := n_Marks })).getD i default).day))) hg (I m_.mark)) rfl)) ?_
       refine d_q rfl (fun w' H => x_pand (b := decide (m_.day ≤ (((l.set i ({ (l.getD i default) with src := n_Marks })).getD i default).day))) (r := (((l.set i ({ (l.getD i default) with src := n_Marks })).getD i default).dst) == m_.mark) rfl (fun hb => gd_of (c := decide (m_.day ≤ (((l.set i ({ (l.getD i default) with src := n_Marks })).getD i default).day))) (by first | exact hb | (rw [hb]; rfl) | simp_all) (B ((((l.set i ({ (l.getD i default) with src := n_Marks })).getD i default).dst) == m_.mark))) rfl) ?_
       refine d_nil ?_
       refine W.cond ((decide (m_.day ≤ (((l.set i ({ (l.getD i default) with src := n_Marks })).getD i default).day))) && ((((l.set i ({ (l.getD i default) with src := n_Marks })).getD i default).dst) == m_.mark)) rfl (fun c40z => ?_) (fun c40z => ?_)
       ·replace hM := M.e_t hM c40z
        refine W.region rfl ?_
        refine s_val (x_fa (a := .pointer (some ⟨b_5, 0, none⟩)) (v := .pointer (some ⟨b_5, 1, none⟩)) rfl (fa_blk (o := 0) Fd64_1 Sz62)) ?_
        refine s_val (x_ld (p := .pointer (some ⟨b_5, 1, none⟩)) (v := v_l) rfl (ldb_sc Sc62 (H.blk (k := 0) rfl) rfl)) ?_
        refine s_val (x_mv (v := I (i : Int)) rfl) ?_
        refine s_val (x_fa (a := .pointer (some ⟨b_1, 0, none⟩)) (v := .pointer (some ⟨b_1, 0, none⟩)) rfl (fa_blk (o := 0) Fd64_0 Sz3)) ?_
        refine s_val (x_ld (p := .pointer (some ⟨b_1, 0, none⟩)) (v := I n_Marks) rfl (ldb_sc Sc3 (H.blk (k := 4) rfl) rfl)) ?_
        refine s_val (x_ix (a := v_l) (b := I (i : Int)) (v := vat v_l 5 (Int.toNat (i : Int))) rfl rfl (Sl.ix (α := Line) T62.und T62.size (ownSl (H.get (k := 1) rfl)) (by omega) (by omega))) ?_
        refine s_val (x_fa (a := vat v_l 5 (Int.toNat (i : Int))) (v := fat (vat v_l 5 (Int.toNat (i : Int))) 1) rfl (fa_pl Fd133_1 Sz3 (Sl.pl (i := (i : Int)) (ownSl (H.get (k := 1) rfl)) (by omega) (by omega)))) ?_
        refine t_fst (α := Line) (k := 1) (i := (i : Int)) (off := 1) (l := l.set i ({ (l.getD i default) with src := n_Marks })) (l' := (l.set i ({ (l.getD i default) with src := n_Marks })).set i ({ ((l.set i ({ (l.getD i default) with src := n_Marks })).getD i default) with dst := n_Marks })) (val := I n_Marks) (L' := [cBlk b_5 [I (n_Marks + 1), v_l] 64, cOwn (α := Line) 133 v_l ((l.set i ({ (l.getD i default) with src := n_Marks })).set i ({ ((l.set i ({ (l.getD i default) with src := n_Marks })).getD i default) with dst := n_Marks })), cBlk b_3 [I 0, .slice none 0 0] 64, cBlk b_2 [I m_.mark, I m_.day] 68, cBlk b_1 [I n_Marks, v_n_Lines] 64]) H rfl Sz3 (by omega) (by omega) ((l.set i ({ (l.getD i default) with src := n_Marks })).getD i default) ({ ((l.set i ({ (l.getD i default) with src := n_Marks })).getD i default) with dst := n_Marks }) (getD_some _ (by omega) _) rfl rfl [I n_Marks] rfl rfl rfl rfl rfl rfl rfl ?_
        intro w41z H
        have hls_q42z : ((l.set i ({ (l.getD i default) with src := n_Marks })).set i ({ ((l.set i ({ (l.getD i default) with src := n_Marks })).getD i default) with dst := n_Marks })).length = (l.set i ({ (l.getD i default) with src := n_Marks })).length := List.length_set
        refine s_nil ?_
        refine W.region rfl ?_
        refine s_val (x_mv (v := I (i : Int)) rfl) ?_
        refine s_val (x_ari (a := (i : Int)) (b := 1) (r := (i : Int) + 1) rfl rfl rfl (by omega)) ?_
        refine s_val (x_as (v := I ((i : Int) + 1)) rfl) ?_
        refine s_nil ?_
        exact ⟨m27z, lt28z, (l.set i ({ (l.getD i default) with src := n_Marks })).set i ({ ((l.set i ({ (l.getD i default) with src := n_Marks })).getD i default) with dst := n_Marks }), i + 1, v_l, _, upds_of _ _ ⟨rfl, rfl, rfl, rfl, rfl, trivial⟩, M.e_inl hM hN30z, H⟩
       ·replace hM := M.e_f hM c40z
        refine W.skip ?_
        refine W.region rfl ?_
        refine s_val (x_mv (v := I (i : Int)) rfl) ?_
        refine s_val (x_ari (a := (i : Int)) (b := 1) (r := (i : Int) + 1) rfl rfl rfl (by omega)) ?_
        refine s_val (x_as (v := I ((i : Int) + 1)) rfl) ?_
        refine s_nil ?_
        exact ⟨m27z, lt28z, l.set i ({ (l.getD i default) with src := n_Marks }), i + 1, v_l, _, upds_of _ _ ⟨rfl, rfl, rfl, rfl, rfl, trivial⟩, M.e_inl hM hN30z, H⟩
      ·replace hM := M.e_f hM c35z
       refine W.skip ?_
       refine W.seq ?_
       refine W.draw (fun W => St w W [cBlk b_5 [I (n_Marks + 1), v_l] 64, cOwn (α := Line) 133 v_l l, cBlk b_3 [I 0, .slice none 0 0] 64, cBlk b_2 [I m_.mark, I m_.day] 68, cBlk b_1 [I n_Marks, v_n_Lines] 64] R) [(0, true), (1, true), (2, true), (3, true), (4, true), (5, true), (6, true), (7, true), (8, true), (9, true), (10, true), (11, true), (12, true), (13, true), (14, true), (15, true), (16, true), (17, true), (18, true), (19, true)] mixed (by decide +kernel) rfl ?_
       intro w43z hx_
       replace H : St w w43z [cBlk b_5 [I (n_Marks + 1), v_l] 64, cOwn (α := Line) 133 v_l l, cBlk b_3 [I 0, .slice none 0 0] 64, cBlk b_2 [I m_.mark, I m_.day] 68, cBlk b_1 [I n_Marks, v_n_Lines] 64] R := H.ext hx_
       clear hx_
       refine ⟨(H.pick [0, 1, 2, 3, 4] (by decide) rfl), ?_⟩
       refine d_q rfl (fun w' H => x_fa (a := .pointer (some ⟨b_5, 0, none⟩)) (v := .pointer (some ⟨b_5, 1, none⟩)) rfl (fa_blk (o := 0) Fd64_1 Sz62)) ?_
       refine d_q rfl (fun w' H => x_ld (p := .pointer (some ⟨b_5, 1, none⟩)) (v := v_l) rfl (ldb_sc Sc62 (H.blk (k := 0) rfl) rfl)) ?_
       refine d_q rfl (fun w' H => x_mv (v := I (i : Int)) rfl) ?_
       obtain ⟨sd44z, hM⟩ := M.e_grd hM
       simp only [Bool.and_eq_true, decide_eq_true_eq] at sd44z
       refine d_q rfl (fun w' H => x_ix (a := v_l) (b := I (i : Int)) (v := vat v_l 5 (Int.toNat (i : Int))) rfl rfl (Sl.ix (α := Line) T62.und T62.size (ownSl (H.get (k := 1) rfl)) (by omega) (by omega))) ?_
       refine d_q rfl (fun w' H => x_fa (a := vat v_l 5 (Int.toNat (i : Int))) (v := fat (vat v_l 5 (Int.toNat (i : Int))) 2) rfl (fa_pl Fd133_2 Sz3 (Sl.pl (i := (i : Int)) (ownSl (H.get (k := 1) rfl)) (by omega) (by omega)))) ?_
       refine d_q rfl (fun w' H => x_ld (p := fat (vat v_l 5 (Int.toNat (i : Int))) 2) (v := I ((l.getD i default).day)) rfl (ld_sc Sc3 (At.mono (Line_at2 (ownSl (H.get (k := 1) rfl)) (i := (i : Int)) (by omega) (by omega)) (ownLe _ (H.get (k := 1) rfl))))) ?_
       refine d_q rfl (fun w' H => x_fa (a := .pointer (some ⟨b_2, 0, none⟩)) (v := .pointer (some ⟨b_2, 1, none⟩)) rfl (fa_blk (o := 0) Fd68_1 Sz3)) ?_
       refine d_q rfl (fun w' H => x_ld (p := .pointer (some ⟨b_2, 1, none⟩)) (v := I m_.day) rfl (ldb_sc Sc3 (H.blk (k := 3) rfl) rfl)) ?_
       refine d_q rfl (fun w' H => x_cmp (kd := .i64) (a := (l.getD i default).day) (b := m_.day) (r := decide (m_.day ≤ ((l.getD i default).day))) rfl rfl rfl) ?_
       refine d_q rfl (fun w' H => x_mv (v := B (decide (m_.day ≤ ((l.getD i default).day)))) rfl) ?_
       refine d_qg (decide (m_.day ≤ ((l.getD i default).day))) rfl (gy_t rfl) (fun hg => (fun w' H => x_fa (a := .pointer (some ⟨b_5, 0, none⟩)) (v := .pointer (some ⟨b_5, 1, none⟩)) rfl (fa_blk (o := 0) Fd64_1 Sz62))) ?_
       refine d_qg (decide (m_.day ≤ ((l.getD i default).day))) rfl (gy_t rfl) (fun hg => (fun w' H => x_ld (p := .pointer (some ⟨b_5, 1, none⟩)) (v := v_l) (gd_of (c := decide (m_.day ≤ ((l.getD i default).day))) hg (.pointer (some ⟨b_5, 1, none⟩))) (ldb_sc Sc62 (H.blk (k := 0) rfl) rfl))) ?_
       refine d_qg (decide (m_.day ≤ ((l.getD i default).day))) rfl (gy_t rfl) (fun hg => (fun w' H => x_mv (v := I (i : Int)) rfl)) ?_
       refine d_qg (decide (m_.day ≤ ((l.getD i default).day))) rfl (gy_t rfl) (fun hg => (fun w' H => x_ix (a := v_l) (b := I (i : Int)) (v := vat v_l 5 (Int.toNat (i : Int))) (gd_of (c := decide (m_.day ≤ ((l.getD i default).day))) hg (v_l)) (gd_of (c := decide (m_.day ≤ ((l.getD i default).day))) hg (I (i : Int))) (Sl.ix (α := Line) T62.und T62.size (ownSl (H.get (k := 1) rfl)) (by first | omega | (have hx_ := hg; simp at hx_; omega)) (by first | omega | (have hx_ := hg; simp at hx_; omega))))) ?_
       refine d_qg (decide (m_.day ≤ ((l.getD i default).day))) rfl (gy_t rfl) (fun hg => (fun w' H => x_fa (a := vat v_l 5 (Int.toNat (i : Int))) (v := fat (vat v_l 5 (Int.toNat (i : Int))) 1) (gd_of (c := decide (m_.day ≤ ((l.getD i default).day))) hg (vat v_l 5 (Int.toNat (i : Int)))) (fa_pl Fd133_1 Sz3 (Sl.pl (i := (i : Int)) (ownSl (H.get (k := 1) rfl)) (by first | omega | (have hx_ := hg; simp at hx_; omega)) (by first | omega | (have hx_ := hg; simp at hx_; omega)))))) ?_
       refine d_qg (decide (m_.day ≤ ((l.getD i default).day))) rfl (gy_t rfl) (fun hg => (fun w' H => x_ld (p := fat (vat v_l 5 (Int.toNat (i : Int))) 1) (v := I ((l.getD i default).dst)) (gd_of (c := decide (m_.day ≤ ((l.getD i default).day))) hg (fat (vat v_l 5 (Int.toNat (i : Int))) 1)) (ld_sc Sc3 (At.mono (Line_at1 (ownSl (H.get (k := 1) rfl)) (i := (i : Int)) (by first | omega | (have hx_ := hg; simp at hx_; omega)) (by first | omega | (have hx_ := hg; simp at hx_; omega))) (ownLe _ (H.get (k := 1) rfl)))))) ?_
       refine d_qg (decide (m_.day ≤ ((l.getD i default).day))) rfl (gy_t rfl) (fun hg => (fun w' H => x_fa (a := .pointer (some ⟨b_2, 0, none⟩)) (v := .pointer (some ⟨b_2, 0, none⟩)) rfl (fa_blk (o := 0) Fd68_0 Sz3))) ?_
       refine d_qg (decide (m_.day ≤ ((l.getD i default).day))) rfl (gy_t rfl) (fun hg => (fun w' H => x_ld (p := .pointer (some ⟨b_2, 0, none⟩)) (v := I m_.mark) (gd_of (c := decide (m_.day ≤ ((l.getD i default).day))) hg (.pointer (some ⟨b_2, 0, none⟩))) (ldb_sc Sc3 (H.blk (k := 3) rfl) rfl))) ?_
       refine d_qg (decide (m_.day ≤ ((l.getD i default).day))) rfl (gy_t rfl) (fun hg => (fun w' H => x_cmp (kd := .i64) (a := (l.getD i default).dst) (b := m_.mark) (r := ((l.getD i default).dst) == m_.mark) (gd_of (c := decide (m_.day ≤ ((l.getD i default).day))) hg (I ((l.getD i default).dst))) (gd_of (c := decide (m_.day ≤ ((l.getD i default).day))) hg (I m_.mark)) rfl)) ?_
       refine d_q rfl (fun w' H => x_pand (b := decide (m_.day ≤ ((l.getD i default).day))) (r := ((l.getD i default).dst) == m_.mark) rfl (fun hb => gd_of (c := decide (m_.day ≤ ((l.getD i default).day))) (by first | exact hb | (rw [hb]; rfl) | simp_all) (B (((l.getD i default).dst) == m_.mark))) rfl) ?_
       refine d_nil ?_
       refine W.cond ((decide (m_.day ≤ ((l.getD i default).day))) && (((l.getD i default).dst) == m_.mark)) rfl (fun c45z => ?_) (fun c45z => ?_)
       ·replace hM := M.e_t hM c45z
        refine W.region rfl ?_
        refine s_val (x_fa (a := .pointer (some ⟨b_5, 0, none⟩)) (v := .pointer (some ⟨b_5, 1, none⟩)) rfl (fa_blk (o := 0) Fd64_1 Sz62)) ?_
        refine s_val (x_ld (p := .pointer (some ⟨b_5, 1, none⟩)) (v := v_l) rfl (ldb_sc Sc62 (H.blk (k := 0) rfl) rfl)) ?_
        refine s_val (x_mv (v := I (i : Int)) rfl) ?_
        refine s_val (x_fa (a := .pointer (some ⟨b_1, 0, none⟩)) (v := .pointer (some ⟨b_1, 0, none⟩)) rfl (fa_blk (o := 0) Fd64_0 Sz3)) ?_
        refine s_val (x_ld (p := .pointer (some ⟨b_1, 0, none⟩)) (v := I n_Marks) rfl (ldb_sc Sc3 (H.blk (k := 4) rfl) rfl)) ?_
        refine s_val (x_ix (a := v_l) (b := I (i : Int)) (v := vat v_l 5 (Int.toNat (i : Int))) rfl rfl (Sl.ix (α := Line) T62.und T62.size (ownSl (H.get (k := 1) rfl)) (by omega) (by omega))) ?_
        refine s_val (x_fa (a := vat v_l 5 (Int.toNat (i : Int))) (v := fat (vat v_l 5 (Int.toNat (i : Int))) 1) rfl (fa_pl Fd133_1 Sz3 (Sl.pl (i := (i : Int)) (ownSl (H.get (k := 1) rfl)) (by omega) (by omega)))) ?_
        refine t_fst (α := Line) (k := 1) (i := (i : Int)) (off := 1) (l := l) (l' := l.set i ({ (l.getD i default) with dst := n_Marks })) (val := I n_Marks) (L' := [cBlk b_5 [I (n_Marks + 1), v_l] 64, cOwn (α := Line) 133 v_l (l.set i ({ (l.getD i default) with dst := n_Marks })), cBlk b_3 [I 0, .slice none 0 0] 64, cBlk b_2 [I m_.mark, I m_.day] 68, cBlk b_1 [I n_Marks, v_n_Lines] 64]) H rfl Sz3 (by omega) (by omega) (l.getD i default) ({ (l.getD i default) with dst := n_Marks }) (getD_some _ (by omega) _) rfl rfl [I n_Marks] rfl rfl rfl rfl rfl rfl rfl ?_
        intro w46z H
        have hls_q47z : (l.set i ({ (l.getD i default) with dst := n_Marks })).length = (l).length := List.length_set
        refine s_nil ?_
        refine W.region rfl ?_
        refine s_val (x_mv (v := I (i : Int)) rfl) ?_
        refine s_val (x_ari (a := (i : Int)) (b := 1) (r := (i : Int) + 1) rfl rfl rfl (by omega)) ?_
        refine s_val (x_as (v := I ((i : Int) + 1)) rfl) ?_
        refine s_nil ?_
        exact ⟨m27z, lt28z, l.set i ({ (l.getD i default) with dst := n_Marks }), i + 1, v_l, _, upds_of _ _ ⟨rfl, rfl, rfl, rfl, rfl, trivial⟩, M.e_inl hM hN30z, H⟩
       ·replace hM := M.e_f hM c45z
        refine W.skip ?_
        refine W.region rfl ?_
        refine s_val (x_mv (v := I (i : Int)) rfl) ?_
        refine s_val (x_ari (a := (i : Int)) (b := 1) (r := (i : Int) + 1) rfl rfl rfl (by omega)) ?_
        refine s_val (x_as (v := I ((i : Int) + 1)) rfl) ?_
        refine s_nil ?_
        exact ⟨m27z, lt28z, l, i + 1, v_l, _, upds_of _ _ ⟨rfl, rfl, rfl, rfl, rfl, trivial⟩, M.e_inl hM hN30z, H⟩
     ·replace hM := M.e_f hM c32z
      simp only [decide_eq_true_eq, decide_eq_false_iff_not, beq_iff_eq, bne_iff_ne, beq_eq_false_iff_ne, bne_eq_false_iff_eq, ne_eq, Decidable.not_not] at c32z
      refine W.exit ?_
      have hX48z := M.e_inr hM hN30z
      subst hX48z
      replace hM := hk23z
      try dsimp only at hM
      refine W.seq ?_
      refine W.region rfl ?_
      refine s_val (x_ld (p := .pointer (some ⟨b_5, 0, none⟩)) (v := .agg #[I (n_Marks + 1), v_l]) rfl (ldb_ag (ds := [I (n_Marks + 1), v_l]) Ag64 Sz64 (H.blk (k := 0) rfl) rfl rfl)) ?_
      refine t_st (k := 2) (b := b_3) (off := 0) (cs := [I 0, .slice none 0 0]) (vs := [I (n_Marks + 1), v_l]) (cs' := [I (n_Marks + 1), v_l]) (v := .agg #[I (n_Marks + 1), v_l]) (L' := [cBlk b_5 [I (n_Marks + 1), v_l] 64, cOwn (α := Line) 133 v_l l, cBlk b_3 [I (n_Marks + 1), v_l] 64, cBlk b_2 [I m_.mark, I m_.day] 68, cBlk b_1 [I n_Marks, v_n_Lines] 64]) H rfl rfl rfl Sz64 rfl rfl rfl (by simp only [List.all_cons, List.all_nil, Bool.true_and, Bool.and_true, Sl.oc (ownSl (H.get (k := 1) rfl))]; try rfl) rfl rfl ?_
      intro w49z H
      refine s_nil ?_
      refine W.ret ?_
      have hb50z := (H.blk (k := 2) rfl)
      have hr_ := M.e_pure hM
      exact ⟨_, (resE_of1 (v := .agg #[I (n_Marks + 1), v_l]) rfl (.cell (v := .agg #[I (n_Marks + 1), v_l]) rfl (run_loadVar_ag (ds := [I (n_Marks + 1), v_l]) Ag64 Sz64 hb50z rfl rfl) <| .nil)), ⟨(n_Marks + 1), l, v_l, hr_, rfl, (H.pick [1] (by decide) rfl)⟩⟩
   ·skip
    refine t_alloc (cs := [I 0, .slice none 0 0]) H Al64 rfl ?_
    intro b_5 w51z H
    refine s_nil ⟨(H.pick [2, 3, 4] (by decide) rfl), ?_⟩
    refine t_l rfl ?_
    refine s_val (x_bld (ps := [(0, I (n_Marks + 1)), (1, v16z)]) (zs := [I 0, .slice none 0 0]) (L' := [I (n_Marks + 1), v16z]) rfl Try.underlying64 Al64 rfl (Bd64 Try.underlying64) (.cons (cs := [I (n_Marks + 1)]) rfl rfl rfl rfl rfl <| .cons (cs := [v16z]) (Sl.cells (ownSl (H.get (k := 1) rfl))) rfl rfl rfl rfl <| .nil)) ?_
    refine s_nil ⟨(H.pick [2, 3, 4] (by decide) rfl), ?_⟩
    refine t_l rfl ?_
    refine t_st (k := 0) (b := b_5) (off := 0) (cs := [I 0, .slice none 0 0]) (vs := [I (n_Marks + 1), v16z]) (cs' := [I (n_Marks + 1), v16z]) (v := .agg #[I (n_Marks + 1), v16z]) (L' := [cBlk b_5 [I (n_Marks + 1), v16z] 64, cOwn (α := Line) 133 v16z n_Lines, cBlk b_3 [I 0, .slice none 0 0] 64, cBlk b_2 [I m_.mark, I m_.day] 68, cBlk b_1 [I n_Marks, v_n_Lines] 64]) H rfl rfl rfl Sz64 rfl rfl rfl (by simp only [List.all_cons, List.all_nil, Bool.true_and, Bool.and_true, Sl.oc (ownSl (H.get (k := 1) rfl))]; try rfl) rfl rfl ?_
    intro w52z H
    refine s_nil ⟨(H.pick [2, 3, 4] (by decide) rfl), ?_⟩
    refine t_nil ?_
    refine W.seq ?_
    refine W.seq ?_
    refine W.region rfl ?_
    refine s_val (x_as (v := I 0) rfl) ?_
    refine s_nil ?_
    refine W.block ?_
    obtain ⟨ex53z, hi54z, hk55z⟩ := M.e_bind hM
    obtain ⟨m0_, hi54z⟩ := M.e_iter hi54z
    refine W.loop (fun m σ W => ∃ (l : List Line) (i : Nat) (v_l : Value) (ρ : Env), σ = upds ρ [(2, .pointer (some ⟨b_1, 0, none⟩)), (3, .pointer (some ⟨b_2, 0, none⟩)), (4, .pointer (some ⟨b_3, 0, none⟩)), (5, .pointer (some ⟨b_5, 0, none⟩)), (6, I (i : Int))] ∧ M.iterN (m_nilometerref01_parted_b0 n_Marks m_) m (l, i) = some ex53z ∧ St w W [cBlk b_5 [I (n_Marks + 1), v_l] 64, cOwn (α := Line) 133 v_l l, cBlk b_3 [I 0, .slice none 0 0] 64, cBlk b_2 [I m_.mark, I m_.day] 68, cBlk b_1 [I n_Marks, v_n_Lines] 64] R) ?_ ?_
    ·exact ⟨_, n_Lines, 0, v16z, _, upds_of _ _ ⟨rfl, rfl, rfl, rfl, rfl, trivial⟩, hi54z, H⟩
    ·rintro m58z σ w56z ⟨l, i, v_l, ρ, rfl, hI57z, H⟩
     obtain ⟨m59z, lt60z, x61z, hM, hN62z⟩ := M.e_iterN hI57z
     simp only [m_nilometerref01_parted_b0] at hM
     clear hI57z
     refine W.seq ?_
     refine W.seq ?_
     refine W.region rfl ?_
     refine s_val (x_mv (v := I (i : Int)) rfl) ?_
     refine s_val (x_fa (a := .pointer (some ⟨b_5, 0, none⟩)) (v := .pointer (some ⟨b_5, 1, none⟩)) rfl (fa_blk (o := 0) Fd64_1 Sz62)) ?_
     refine s_val (x_ld (p := .pointer (some ⟨b_5, 1, none⟩)) (v := v_l) rfl (ldb_sc Sc62 (H.blk (k := 0) rfl) rfl)) ?_
     have hl63z := ((ownSl (H.get (k := 1) rfl))).len_le
     refine s_val (x_lenS T62.und rfl (ownSl (H.get (k := 1) rfl))) ?_
     refine s_val (x_cmp (kd := .i64) (a := (i : Int)) (b := (l.length : Int)) (r := decide ((i : Int) < (l.length : Int))) rfl rfl rfl) ?_
     refine s_nil ?_
     refine W.cond (decide ((i : Int) < (l.length : Int))) rfl (fun c64z => ?_) (fun c64z => ?_)
     ·replace hM := M.e_t hM c64z
      simp only [decide_eq_true_eq, decide_eq_false_iff_not, beq_iff_eq, bne_iff_ne, beq_eq_false_iff_ne, bne_eq_false_iff_eq, ne_eq, Decidable.not_not] at c64z
      refine W.skip ?_
      refine W.seq ?_
      refine W.block ?_
      refine W.seq ?_
      refine W.seq ?_
      refine W.draw (fun W => St w W [cBlk b_5 [I (n_Marks + 1), v_l] 64, cOwn (α := Line) 133 v_l l, cBlk b_3 [I 0, .slice none 0 0] 64, cBlk b_2 [I m_.mark, I m_.day] 68, cBlk b_1 [I n_Marks, v_n_Lines] 64] R) [(0, true), (1, true), (2, true), (3, true), (4, true), (5, true), (6, true), (7, true), (8, true), (9, true), (10, true), (11, true), (12, true), (13, true), (14, true), (15, true), (16, true), (17, true), (18, true), (19, true)] mixed (by decide +kernel) rfl ?_
      intro w65z hx_
      replace H : St w w65z [cBlk b_5 [I (n_Marks + 1), v_l] 64, cOwn (α := Line) 133 v_l l, cBlk b_3 [I 0, .slice none 0 0] 64, cBlk b_2 [I m_.mark, I m_.day] 68, cBlk b_1 [I n_Marks, v_n_Lines] 64] R := H.ext hx_
      clear hx_
      refine ⟨(H.pick [0, 1, 2, 3, 4] (by decide) rfl), ?_⟩
      refine d_q rfl (fun w' H => x_fa (a := .pointer (some ⟨b_5, 0, none⟩)) (v := .pointer (some ⟨b_5, 1, none⟩)) rfl (fa_blk (o := 0) Fd64_1 Sz62)) ?_
      refine d_q rfl (fun w' H => x_ld (p := .pointer (some ⟨b_5, 1, none⟩)) (v := v_l) rfl (ldb_sc Sc62 (H.blk (k := 0) rfl) rfl)) ?_
      refine d_q rfl (fun w' H => x_mv (v := I (i : Int)) rfl) ?_
      obtain ⟨sd66z, hM⟩ := M.e_grd hM
      simp only [Bool.and_eq_true, decide_eq_true_eq] at sd66z
      refine d_q rfl (fun w' H => x_ix (a := v_l) (b := I (i : Int)) (v := vat v_l 5 (Int.toNat (i : Int))) rfl rfl (Sl.ix (α := Line) T62.und T62.size (ownSl (H.get (k := 1) rfl)) (by omega) (by omega))) ?_
      refine d_q rfl (fun w' H => x_fa (a := vat v_l 5 (Int.toNat (i : Int))) (v := fat (vat v_l 5 (Int.toNat (i : Int))) 2) rfl (fa_pl Fd133_2 Sz3 (Sl.pl (i := (i : Int)) (ownSl (H.get (k := 1) rfl)) (by omega) (by omega)))) ?_
      refine d_q rfl (fun w' H => x_ld (p := fat (vat v_l 5 (Int.toNat (i : Int))) 2) (v := I ((l.getD i default).day)) rfl (ld_sc Sc3 (At.mono (Line_at2 (ownSl (H.get (k := 1) rfl)) (i := (i : Int)) (by omega) (by omega)) (ownLe _ (H.get (k := 1) rfl))))) ?_
      refine d_q rfl (fun w' H => x_fa (a := .pointer (some ⟨b_2, 0, none⟩)) (v := .pointer (some ⟨b_2, 1, none⟩)) rfl (fa_blk (o := 0) Fd68_1 Sz3)) ?_
      refine d_q rfl (fun w' H => x_ld (p := .pointer (some ⟨b_2, 1, none⟩)) (v := I m_.day) rfl (ldb_sc Sc3 (H.blk (k := 3) rfl) rfl)) ?_
      refine d_q rfl (fun w' H => x_cmp (kd := .i64) (a := (l.getD i default).day) (b := m_.day) (r := decide (m_.day ≤ ((l.getD i default).day))) rfl rfl rfl) ?_
      refine d_q rfl (fun w' H => x_mv (v := B (decide (m_.day ≤ ((l.getD i default).day)))) rfl) ?_
      refine d_qg (decide (m_.day ≤ ((l.getD i default).day))) rfl (gy_t rfl) (fun hg => (fun w' H => x_fa (a := .pointer (some ⟨b_5, 0, none⟩)) (v := .pointer (some ⟨b_5, 1, none⟩)) rfl (fa_blk (o := 0) Fd64_1 Sz62))) ?_
      refine d_qg (decide (m_.day ≤ ((l.getD i default).day))) rfl (gy_t rfl) (fun hg => (fun w' H => x_ld (p := .pointer (some ⟨b_5, 1, none⟩)) (v := v_l) (gd_of (c := decide (m_.day ≤ ((l.getD i default).day))) hg (.pointer (some ⟨b_5, 1, none⟩))) (ldb_sc Sc62 (H.blk (k := 0) rfl) rfl))) ?_
      refine d_qg (decide (m_.day ≤ ((l.getD i default).day))) rfl (gy_t rfl) (fun hg => (fun w' H => x_mv (v := I (i : Int)) rfl)) ?_
      refine d_qg (decide (m_.day ≤ ((l.getD i default).day))) rfl (gy_t rfl) (fun hg => (fun w' H => x_ix (a := v_l) (b := I (i : Int)) (v := vat v_l 5 (Int.toNat (i : Int))) (gd_of (c := decide (m_.day ≤ ((l.getD i default).day))) hg (v_l)) (gd_of (c := decide (m_.day ≤ ((l.getD i default).day))) hg (I (i : Int))) (Sl.ix (α := Line) T62.und T62.size (ownSl (H.get (k := 1) rfl)) (by first | omega | (have hx_ := hg; simp at hx_; omega)) (by first | omega | (have hx_ := hg; simp at hx_; omega))))) ?_
      refine d_qg (decide (m_.day ≤ ((l.getD i default).day))) rfl (gy_t rfl) (fun hg => (fun w' H => x_fa (a := vat v_l 5 (Int.toNat (i : Int))) (v := fat (vat v_l 5 (Int.toNat (i : Int))) 0) (gd_of (c := decide (m_.day ≤ ((l.getD i default).day))) hg (vat v_l 5 (Int.toNat (i : Int)))) (fa_pl Fd133_0 Sz3 (Sl.pl (i := (i : Int)) (ownSl (H.get (k := 1) rfl)) (by first | omega | (have hx_ := hg; simp at hx_; omega)) (by first | omega | (have hx_ := hg; simp at hx_; omega)))))) ?_
      refine d_qg (decide (m_.day ≤ ((l.getD i default).day))) rfl (gy_t rfl) (fun hg => (fun w' H => x_ld (p := fat (vat v_l 5 (Int.toNat (i : Int))) 0) (v := I ((l.getD i default).src)) (gd_of (c := decide (m_.day ≤ ((l.getD i default).day))) hg (fat (vat v_l 5 (Int.toNat (i : Int))) 0)) (ld_sc Sc3 (At.mono (Line_at0 (ownSl (H.get (k := 1) rfl)) (i := (i : Int)) (by first | omega | (have hx_ := hg; simp at hx_; omega)) (by first | omega | (have hx_ := hg; simp at hx_; omega))) (ownLe _ (H.get (k := 1) rfl)))))) ?_
      refine d_qg (decide (m_.day ≤ ((l.getD i default).day))) rfl (gy_t rfl) (fun hg => (fun w' H => x_fa (a := .pointer (some ⟨b_2, 0, none⟩)) (v := .pointer (some ⟨b_2, 0, none⟩)) rfl (fa_blk (o := 0) Fd68_0 Sz3))) ?_
      refine d_qg (decide (m_.day ≤ ((l.getD i default).day))) rfl (gy_t rfl) (fun hg => (fun w' H => x_ld (p := .pointer (some ⟨b_2, 0, none⟩)) (v := I m_.mark) (gd_of (c := decide (m_.day ≤ ((l.getD i default).day))) hg (.pointer (some ⟨b_2, 0, none⟩))) (ldb_sc Sc3 (H.blk (k := 3) rfl) rfl))) ?_
      refine d_qg (decide (m_.day ≤ ((l.getD i default).day))) rfl (gy_t rfl) (fun hg => (fun w' H => x_cmp (kd := .i64) (a := (l.getD i default).src) (b := m_.mark) (r := ((l.getD i default).src) == m_.mark) (gd_of (c := decide (m_.day ≤ ((l.getD i default).day))) hg (I ((l.getD i default).src))) (gd_of (c := decide (m_.day ≤ ((l.getD i default).day))) hg (I m_.mark)) rfl)) ?_
      refine d_q rfl (fun w' H => x_pand (b := decide (m_.day ≤ ((l.getD i default).day))) (r := ((l.getD i default).src) == m_.mark) rfl (fun hb => gd_of (c := decide (m_.day ≤ ((l.getD i default).day))) (by first | exact hb | (rw [hb]; rfl) | simp_all) (B (((l.getD i default).src) == m_.mark))) rfl) ?_
      refine d_nil ?_
      refine W.cond ((decide (m_.day ≤ ((l.getD i default).day))) && (((l.getD i default).src) == m_.mark)) rfl (fun c67z => ?_) (fun c67z => ?_)
      ·replace hM := M.e_t hM c67z
       refine W.region rfl ?_
       refine s_val (x_fa (a := .pointer (some ⟨b_5, 0, none⟩)) (v := .pointer (some ⟨b_5, 1, none⟩)) rfl (fa_blk (o := 0) Fd64_1 Sz62)) ?_
       refine s_val (x_ld (p := .pointer (some ⟨b_5, 1, none⟩)) (v := v_l) rfl (ldb_sc Sc62 (H.blk (k := 0) rfl) rfl)) ?_
       refine s_val (x_mv (v := I (i : Int)) rfl) ?_
       refine s_val (x_fa (a := .pointer (some ⟨b_1, 0, none⟩)) (v := .pointer (some ⟨b_1, 0, none⟩)) rfl (fa_blk (o := 0) Fd64_0 Sz3)) ?_
       refine s_val (x_ld (p := .pointer (some ⟨b_1, 0, none⟩)) (v := I n_Marks) rfl (ldb_sc Sc3 (H.blk (k := 4) rfl) rfl)) ?_
       refine s_val (x_ix (a := v_l) (b := I (i : Int)) (v := vat v_l 5 (Int.toNat (i : Int))) rfl rfl (Sl.ix (α := Line) T62.und T62.size (ownSl (H.get (k := 1) rfl)) (by omega) (by omega))) ?_
       refine s_val (x_fa (a := vat v_l 5 (Int.toNat (i : Int))) (v := fat (vat v_l 5 (Int.toNat (i : Int))) 0) rfl (fa_pl Fd133_0 Sz3 (Sl.pl (i := (i : Int)) (ownSl (H.get (k := 1) rfl)) (by omega) (by omega)))) ?_
       refine t_fst (α := Line) (k := 1) (i := (i : Int)) (off := 0) (l := l) (l' := l.set i ({ (l.getD i default) with src := n_Marks })) (val := I n_Marks) (L' := [cBlk b_5 [I (n_Marks + 1), v_l] 64, cOwn (α := Line) 133 v_l (l.set i ({ (l.getD i default) with src := n_Marks })), cBlk b_3 [I 0, .slice none 0 0] 64, cBlk b_2 [I m_.mark, I m_.day] 68, cBlk b_1 [I n_Marks, v_n_Lines] 64]) H rfl Sz3 (by omega) (by omega) (l.getD i default) ({ (l.getD i default) with src := n_Marks }) (getD_some _ (by omega) _) rfl rfl [I n_Marks] rfl rfl rfl rfl rfl rfl rfl ?_
       intro w68z H
       have hls_q69z : (l.set i ({ (l.getD i default) with src := n_Marks })).length = (l).length := List.length_set
       refine s_nil ?_
       refine W.seq ?_
       refine W.draw (fun W => St w W [cBlk b_5 [I (n_Marks + 1), v_l] 64, cOwn (α := Line) 133 v_l (l.set i ({ (l.getD i default) with src := n_Marks })), cBlk b_3 [I 0, .slice none 0 0] 64, cBlk b_2 [I m_.mark, I m_.day] 68, cBlk b_1 [I n_Marks, v_n_Lines] 64] R) [(0, true), (1, true), (2, true), (3, true), (4, true), (5, true), (6, true), (7, true), (8, true), (9, true), (10, true), (11, true), (12, true), (13, true), (14, true), (15, true), (16, true), (17, true), (18, true), (19, true)] mixed (by decide +kernel) rfl ?_
       intro w70z hx_
       replace H : St w w70z [cBlk b_5 [I (n_Marks + 1), v_l] 64, cOwn (α := Line) 133 v_l (l.set i ({ (l.getD i default) with src := n_Marks })), cBlk b_3 [I 0, .slice none 0 0] 64, cBlk b_2 [I m_.mark, I m_.day] 68, cBlk b_1 [I n_Marks, v_n_Lines] 64] R := H.ext hx_
       clear hx_
       refine ⟨(H.pick [0, 1, 2, 3, 4] (by decide) rfl), ?_⟩
       refine d_q rfl (fun w' H => x_fa (a := .pointer (some ⟨b_5, 0, none⟩)) (v := .pointer (some ⟨b_5, 1, none⟩)) rfl (fa_blk (o := 0) Fd64_1 Sz62)) ?_
       refine d_q rfl (fun w' H => x_ld (p := .pointer (some ⟨b_5, 1, none⟩)) (v := v_l) rfl (ldb_sc Sc62 (H.blk (k := 0) rfl) rfl)) ?_
       refine d_q rfl (fun w' H => x_mv (v := I (i : Int)) rfl) ?_
       obtain ⟨sd71z, hM⟩ := M.e_grd hM
       simp only [Bool.and_eq_true, decide_eq_true_eq] at sd71z
       refine d_q rfl (fun w' H => x_ix (a := v_l) (b := I (i : Int)) (v := vat v_l 5 (Int.toNat (i : Int))) rfl rfl (Sl.ix (α := Line) T62.und T62.size (ownSl (H.get (k := 1) rfl)) (by omega) (by omega))) ?_
       refine d_q rfl (fun w' H => x_fa (a := vat v_l 5 (Int.toNat (i : Int))) (v := fat (vat v_l 5 (Int.toNat (i : Int))) 2) rfl (fa_pl Fd133_2 Sz3 (Sl.pl (i := (i : Int)) (ownSl (H.get (k := 1) rfl)) (by omega) (by omega)))) ?_
       refine d_q rfl (fun w' H => x_ld (p := fat (vat v_l 5 (Int.toNat (i : Int))) 2) (v := I (((l.set i ({ (l.getD i default) with src := n_Marks })).getD i default).day)) rfl (ld_sc Sc3 (At.mono (Line_at2 (ownSl (H.get (k := 1) rfl)) (i := (i : Int)) (by omega) (by omega)) (ownLe _ (H.get (k := 1) rfl))))) ?_
       refine d_q rfl (fun w' H => x_fa (a := .pointer (some ⟨b_2, 0, none⟩)) (v := .pointer (some ⟨b_2, 1, none⟩)) rfl (fa_blk (o := 0) Fd68_1 Sz3)) ?_
       refine d_q rfl (fun w' H => x_ld (p := .pointer (some ⟨b_2, 1, none⟩)) (v := I m_.day) rfl (ldb_sc Sc3 (H.blk (k := 3) rfl) rfl)) ?_
       refine d_q rfl (fun w' H => x_cmp (kd := .i64) (a := ((l.set i ({ (l.getD i default) with src := n_Marks })).getD i default).day) (b := m_.day) (r := decide (m_.day ≤ (((l.set i ({ (l.getD i default) with src := n_Marks })).getD i default).day))) rfl rfl rfl) ?_
       refine d_q rfl (fun w' H => x_mv (v := B (decide (m_.day ≤ (((l.set i ({ (l.getD i default) with src := n_Marks })).getD i default).day)))) rfl) ?_
       refine d_qg (decide (m_.day ≤ (((l.set i ({ (l.getD i default) with src := n_Marks })).getD i default).day))) rfl (gy_t rfl) (fun hg => (fun w' H => x_fa (a := .pointer (some ⟨b_5, 0, none⟩)) (v := .pointer (some ⟨b_5, 1, none⟩)) rfl (fa_blk (o := 0) Fd64_1 Sz62))) ?_
       refine d_qg (decide (m_.day ≤ (((l.set i ({ (l.getD i default) with src := n_Marks })).getD i default).day))) rfl (gy_t rfl) (fun hg => (fun w' H => x_ld (p := .pointer (some ⟨b_5, 1, none⟩)) (v := v_l) (gd_of (c := decide (m_.day ≤ (((l.set i ({ (l.getD i default) with src := n_Marks })).getD i default).day))) hg (.pointer (some ⟨b_5, 1, none⟩))) (ldb_sc Sc62 (H.blk (k := 0) rfl) rfl))) ?_
       refine d_qg (decide (m_.day ≤ (((l.set i ({ (l.getD i default) with src := n_Marks })).getD i default).day))) rfl (gy_t rfl) (fun hg => (fun w' H => x_mv (v := I (i : Int)) rfl)) ?_
       refine d_qg (decide (m_.day ≤ (((l.set i ({ (l.getD i default) with src := n_Marks })).getD i default).day))) rfl (gy_t rfl) (fun hg => (fun w' H => x_ix (a := v_l) (b := I (i : Int)) (v := vat v_l 5 (Int.toNat (i : Int))) (gd_of (c := decide (m_.day ≤ (((l.set i ({ (l.getD i default) with src := n_Marks })).getD i default).day))) hg (v_l)) (gd_of (c := decide (m_.day ≤ (((l.set i ({ (l.getD i default) with src := n_Marks })).getD i default).day))) hg (I (i : Int))) (Sl.ix (α := Line) T62.und T62.size (ownSl (H.get (k := 1) rfl)) (by first | omega | (have hx_ := hg; simp at hx_; omega)) (by first | omega | (have hx_ := hg; simp at hx_; omega))))) ?_
       refine d_qg (decide (m_.day ≤ (((l.set i ({ (l.getD i default) with src := n_Marks })).getD i default).day))) rfl (gy_t rfl) (fun hg => (fun w' H => x_fa (a := vat v_l 5 (Int.toNat (i : Int))) (v := fat (vat v_l 5 (Int.toNat (i : Int))) 1) (gd_of (c := decide (m_.day ≤ (((l.set i ({ (l.getD i default) with src := n_Marks })).getD i default).day))) hg (vat v_l 5 (Int.toNat (i : Int)))) (fa_pl Fd133_1 Sz3 (Sl.pl (i := (i : Int)) (ownSl (H.get (k := 1) rfl)) (by first | omega | (have hx_ := hg; simp at hx_; omega)) (by first | omega | (have hx_ := hg; simp at hx_; omega)))))) ?_
       refine d_qg (decide (m_.day ≤ (((l.set i ({ (l.getD i default) with src := n_Marks })).getD i default).day))) rfl (gy_t rfl) (fun hg => (fun w' H => x_ld (p := fat (vat v_l 5 (Int.toNat (i : Int))) 1) (v := I (((l.set i ({ (l.getD i default) with src := n_Marks })).getD i default).dst)) (gd_of (c := decide (m_.day ≤ (((l.set i ({ (l.getD i default) with src := n_Marks })).getD i default).day))) hg (fat (vat v_l 5 (Int.toNat (i : Int))) 1)) (ld_sc Sc3 (At.mono (Line_at1 (ownSl (H.get (k := 1) rfl)) (i := (i : Int)) (by first | omega | (have hx_ := hg; simp at hx_; omega)) (by first | omega | (have hx_ := hg; simp at hx_; omega))) (ownLe _ (H.get (k := 1) rfl)))))) ?_
       refine d_qg (decide (m_.day ≤ (((l.set i ({ (l.getD i default) with src := n_Marks })).getD i default).day))) rfl (gy_t rfl) (fun hg => (fun w' H => x_fa (a := .pointer (some ⟨b_2, 0, none⟩)) (v := .pointer (some ⟨b_2, 0, none⟩)) rfl (fa_blk (o := 0) Fd68_0 Sz3))) ?_
       refine d_qg (decide (m_.day ≤ (((l.set i ({ (l.getD i default) with src := n_Marks })).getD i default).day))) rfl (gy_t rfl) (fun hg => (fun w' H => x_ld (p := .pointer (some ⟨b_2, 0, none⟩)) (v := I m_.mark) (gd_of (c := decide (m_.day ≤ (((l.set i ({ (l.getD i default) with src := n_Marks })).getD i default).day))) hg (.pointer (some ⟨b_2, 0, none⟩))) (ldb_sc Sc3 (H.blk (k := 3) rfl) rfl))) ?_
       refine d_qg (decide (m_.day ≤ (((l.set i ({ (l.getD i default) with src := n_Marks })).getD i default).day))) rfl (gy_t rfl) (fun hg => (fun w' H => x_cmp (kd := .i64) (a := ((l.set i ({ (l.getD i default) with src := n_Marks })).getD i default).dst) (b := m_.mark) (r := (((l.set i ({ (l.getD i default) with src := n_Marks })).getD i default).dst) == m_.mark) (gd_of (c := decide (m_.day ≤ (((l.set i ({ (l.getD i default) with src := n_Marks })).getD i default).day))) hg (I (((l.set i ({ (l.getD i default) with src := n_Marks })).getD i default).dst))) (gd_of (c := decide (m_.day ≤ (((l.set i ({ (l.getD i default) with src := n_Marks })).getD i default).day))) hg (I m_.mark)) rfl)) ?_
       refine d_q rfl (fun w' H => x_pand (b := decide (m_.day ≤ (((l.set i ({ (l.getD i default) with src := n_Marks })).getD i default).day))) (r := (((l.set i ({ (l.getD i default) with src := n_Marks })).getD i default).dst) == m_.mark) rfl (fun hb => gd_of (c := decide (m_.day ≤ (((l.set i ({ (l.getD i default) with src := n_Marks })).getD i default).day))) (by first | exact hb | (rw [hb]; rfl) | simp_all) (B ((((l.set i ({ (l.getD i default) with src := n_Marks })).getD i default).dst) == m_.mark))) rfl) ?_
       refine d_nil ?_
       refine W.cond ((decide (m_.day ≤ (((l.set i ({ (l.getD i default) with src := n_Marks })).getD i default).day))) && ((((l.set i ({ (l.getD i default) with src := n_Marks })).getD i default).dst) == m_.mark)) rfl (fun c72z => ?_) (fun c72z => ?_)
       ·replace hM := M.e_t hM c72z
        refine W.region rfl ?_
        refine s_val (x_fa (a := .pointer (some ⟨b_5, 0, none⟩)) (v := .pointer (some ⟨b_5, 1, none⟩)) rfl (fa_blk (o := 0) Fd64_1 Sz62)) ?_
        refine s_val (x_ld (p := .pointer (some ⟨b_5, 1, none⟩)) (v := v_l) rfl (ldb_sc Sc62 (H.blk (k := 0) rfl) rfl)) ?_
        refine s_val (x_mv (v := I (i : Int)) rfl) ?_
        refine s_val (x_fa (a := .pointer (some ⟨b_1, 0, none⟩)) (v := .pointer (some ⟨b_1, 0, none⟩)) rfl (fa_blk (o := 0) Fd64_0 Sz3)) ?_
        refine s_val (x_ld (p := .pointer (some ⟨b_1, 0, none⟩)) (v := I n_Marks) rfl (ldb_sc Sc3 (H.blk (k := 4) rfl) rfl)) ?_
        refine s_val (x_ix (a := v_l) (b := I (i : Int)) (v := vat v_l 5 (Int.toNat (i : Int))) rfl rfl (Sl.ix (α := Line) T62.und T62.size (ownSl (H.get (k := 1) rfl)) (by omega) (by omega))) ?_
        refine s_val (x_fa (a := vat v_l 5 (Int.toNat (i : Int))) (v := fat (vat v_l 5 (Int.toNat (i : Int))) 1) rfl (fa_pl Fd133_1 Sz3 (Sl.pl (i := (i : Int)) (ownSl (H.get (k := 1) rfl)) (by omega) (by omega)))) ?_
        refine t_fst (α := Line) (k := 1) (i := (i : Int)) (off := 1) (l := l.set i ({ (l.getD i default) with src := n_Marks })) (l' := (l.set i ({ (l.getD i default) with src := n_Marks })).set i ({ ((l.set i ({ (l.getD i default) with src := n_Marks })).getD i default) with dst := n_Marks })) (val := I n_Marks) (L' := [cBlk b_5 [I (n_Marks + 1), v_l] 64, cOwn (α := Line) 133 v_l ((l.set i ({ (l.getD i default) with src := n_Marks })).set i ({ ((l.set i ({ (l.getD i default) with src := n_Marks })).getD i default) with dst := n_Marks })), cBlk b_3 [I 0, .slice none 0 0] 64, cBlk b_2 [I m_.mark, I m_.day] 68, cBlk b_1 [I n_Marks, v_n_Lines] 64]) H rfl Sz3 (by omega) (by omega) ((l.set i ({ (l.getD i default) with src := n_Marks })).getD i default) ({ ((l.set i ({ (l.getD i default) with src := n_Marks })).getD i default) with dst := n_Marks }) (getD_some _ (by omega) _) rfl rfl [I n_Marks] rfl rfl rfl rfl rfl rfl rfl ?_
        intro w73z H
        have hls_q74z : ((l.set i ({ (l.getD i default) with src := n_Marks })).set i ({ ((l.set i ({ (l.getD i default) with src := n_Marks })).getD i default) with dst := n_Marks })).length = (l.set i ({ (l.getD i default) with src := n_Marks })).length := List.length_set
        refine s_nil ?_
        refine W.region rfl ?_
        refine s_val (x_mv (v := I (i : Int)) rfl) ?_
        refine s_val (x_ari (a := (i : Int)) (b := 1) (r := (i : Int) + 1) rfl rfl rfl (by omega)) ?_
        refine s_val (x_as (v := I ((i : Int) + 1)) rfl) ?_
        refine s_nil ?_
        exact ⟨m59z, lt60z, (l.set i ({ (l.getD i default) with src := n_Marks })).set i ({ ((l.set i ({ (l.getD i default) with src := n_Marks })).getD i default) with dst := n_Marks }), i + 1, v_l, _, upds_of _ _ ⟨rfl, rfl, rfl, rfl, rfl, trivial⟩, M.e_inl hM hN62z, H⟩
       ·replace hM := M.e_f hM c72z
        refine W.skip ?_
        refine W.region rfl ?_
        refine s_val (x_mv (v := I (i : Int)) rfl) ?_
        refine s_val (x_ari (a := (i : Int)) (b := 1) (r := (i : Int) + 1) rfl rfl rfl (by omega)) ?_
        refine s_val (x_as (v := I ((i : Int) + 1)) rfl) ?_
        refine s_nil ?_
        exact ⟨m59z, lt60z, l.set i ({ (l.getD i default) with src := n_Marks }), i + 1, v_l, _, upds_of _ _ ⟨rfl, rfl, rfl, rfl, rfl, trivial⟩, M.e_inl hM hN62z, H⟩
      ·replace hM := M.e_f hM c67z
       refine W.skip ?_
       refine W.seq ?_
       refine W.draw (fun W => St w W [cBlk b_5 [I (n_Marks + 1), v_l] 64, cOwn (α := Line) 133 v_l l, cBlk b_3 [I 0, .slice none 0 0] 64, cBlk b_2 [I m_.mark, I m_.day] 68, cBlk b_1 [I n_Marks, v_n_Lines] 64] R) [(0, true), (1, true), (2, true), (3, true), (4, true), (5, true), (6, true), (7, true), (8, true), (9, true), (10, true), (11, true), (12, true), (13, true), (14, true), (15, true), (16, true), (17, true), (18, true), (19, true)] mixed (by decide +kernel) rfl ?_
       intro w75z hx_
       replace H : St w w75z [cBlk b_5 [I (n_Marks + 1), v_l] 64, cOwn (α := Line) 133 v_l l, cBlk b_3 [I 0, .slice none 0 0] 64, cBlk b_2 [I m_.mark, I m_.day] 68, cBlk b_1 [I n_Marks, v_n_Lines] 64] R := H.ext hx_
       clear hx_
       refine ⟨(H.pick [0, 1, 2, 3, 4] (by decide) rfl), ?_⟩
       refine d_q rfl (fun w' H => x_fa (a := .pointer (some ⟨b_5, 0, none⟩)) (v := .pointer (some ⟨b_5, 1, none⟩)) rfl (fa_blk (o := 0) Fd64_1 Sz62)) ?_
       refine d_q rfl (fun w' H => x_ld (p := .pointer (some ⟨b_5, 1, none⟩)) (v := v_l) rfl (ldb_sc Sc62 (H.blk (k := 0) rfl) rfl)) ?_
       refine d_q rfl (fun w' H => x_mv (v := I (i : Int)) rfl) ?_
       obtain ⟨sd76z, hM⟩ := M.e_grd hM
       simp only [Bool.and_eq_true, decide_eq_true_eq] at sd76z
       refine d_q rfl (fun w' H => x_ix (a := v_l) (b := I (i : Int)) (v := vat v_l 5 (Int.toNat (i : Int))) rfl rfl (Sl.ix (α := Line) T62.und T62.size (ownSl (H.get (k := 1) rfl)) (by omega) (by omega))) ?_
       refine d_q rfl (fun w' H => x_fa (a := vat v_l 5 (Int.toNat (i : Int))) (v := fat (vat v_l 5 (Int.toNat (i : Int))) 2) rfl (fa_pl Fd133_2 Sz3 (Sl.pl (i := (i : Int)) (ownSl (H.get (k := 1) rfl)) (by omega) (by omega)))) ?_
       refine d_q rfl (fun w' H => x_ld (p := fat (vat v_l 5 (Int.toNat (i : Int))) 2) (v := I ((l.getD i default).day)) rfl (ld_sc Sc3 (At.mono (Line_at2 (ownSl (H.get (k := 1) rfl)) (i := (i : Int)) (by omega) (by omega)) (ownLe _ (H.get (k := 1) rfl))))) ?_
       refine d_q rfl (fun w' H => x_fa (a := .pointer (some ⟨b_2, 0, none⟩)) (v := .pointer (some ⟨b_2, 1, none⟩)) rfl (fa_blk (o := 0) Fd68_1 Sz3)) ?_
       refine d_q rfl (fun w' H => x_ld (p := .pointer (some ⟨b_2, 1, none⟩)) (v := I m_.day) rfl (ldb_sc Sc3 (H.blk (k := 3) rfl) rfl)) ?_
       refine d_q rfl (fun w' H => x_cmp (kd := .i64) (a := (l.getD i default).day) (b := m_.day) (r := decide (m_.day ≤ ((l.getD i default).day))) rfl rfl rfl) ?_
       refine d_q rfl (fun w' H => x_mv (v := B (decide (m_.day ≤ ((l.getD i default).day)))) rfl) ?_
       refine d_qg (decide (m_.day ≤ ((l.getD i default).day))) rfl (gy_t rfl) (fun hg => (fun w' H => x_fa (a := .pointer (some ⟨b_5, 0, none⟩)) (v := .pointer (some ⟨b_5, 1, none⟩)) rfl (fa_blk (o := 0) Fd64_1 Sz62))) ?_
       refine d_qg (decide (m_.day ≤ ((l.getD i default).day))) rfl (gy_t rfl) (fun hg => (fun w' H => x_ld (p := .pointer (some ⟨b_5, 1, none⟩)) (v := v_l) (gd_of (c := decide (m_.day ≤ ((l.getD i default).day))) hg (.pointer (some ⟨b_5, 1, none⟩))) (ldb_sc Sc62 (H.blk (k := 0) rfl) rfl))) ?_
       refine d_qg (decide (m_.day ≤ ((l.getD i default).day))) rfl (gy_t rfl) (fun hg => (fun w' H => x_mv (v := I (i : Int)) rfl)) ?_
       refine d_qg (decide (m_.day ≤ ((l.getD i default).day))) rfl (gy_t rfl) (fun hg => (fun w' H => x_ix (a := v_l) (b := I (i : Int)) (v := vat v_l 5 (Int.toNat (i : Int))) (gd_of (c := decide (m_.day ≤ ((l.getD i default).day))) hg (v_l)) (gd_of (c := decide (m_.day ≤ ((l.getD i default).day))) hg (I (i : Int))) (Sl.ix (α := Line) T62.und T62.size (ownSl (H.get (k := 1) rfl)) (by first | omega | (have hx_ := hg; simp at hx_; omega)) (by first | omega | (have hx_ := hg; simp at hx_; omega))))) ?_
       refine d_qg (decide (m_.day ≤ ((l.getD i default).day))) rfl (gy_t rfl) (fun hg => (fun w' H => x_fa (a := vat v_l 5 (Int.toNat (i : Int))) (v := fat (vat v_l 5 (Int.toNat (i : Int))) 1) (gd_of (c := decide (m_.day ≤ ((l.getD i default).day))) hg (vat v_l 5 (Int.toNat (i : Int)))) (fa_pl Fd133_1 Sz3 (Sl.pl (i := (i : Int)) (ownSl (H.get (k := 1) rfl)) (by first | omega | (have hx_ := hg; simp at hx_; omega)) (by first | omega | (have hx_ := hg; simp at hx_; omega)))))) ?_
       refine d_qg (decide (m_.day ≤ ((l.getD i default).day))) rfl (gy_t rfl) (fun hg => (fun w' H => x_ld (p := fat (vat v_l 5 (Int.toNat (i : Int))) 1) (v := I ((l.getD i default).dst)) (gd_of (c := decide (m_.day ≤ ((l.getD i default).day))) hg (fat (vat v_l 5 (Int.toNat (i : Int))) 1)) (ld_sc Sc3 (At.mono (Line_at1 (ownSl (H.get (k := 1) rfl)) (i := (i : Int)) (by first | omega | (have hx_ := hg; simp at hx_; omega)) (by first | omega | (have hx_ := hg; simp at hx_; omega))) (ownLe _ (H.get (k := 1) rfl)))))) ?_
       refine d_qg (decide (m_.day ≤ ((l.getD i default).day))) rfl (gy_t rfl) (fun hg => (fun w' H => x_fa (a := .pointer (some ⟨b_2, 0, none⟩)) (v := .pointer (some ⟨b_2, 0, none⟩)) rfl (fa_blk (o := 0) Fd68_0 Sz3))) ?_
       refine d_qg (decide (m_.day ≤ ((l.getD i default).day))) rfl (gy_t rfl) (fun hg => (fun w' H => x_ld (p := .pointer (some ⟨b_2, 0, none⟩)) (v := I m_.mark) (gd_of (c := decide (m_.day ≤ ((l.getD i default).day))) hg (.pointer (some ⟨b_2, 0, none⟩))) (ldb_sc Sc3 (H.blk (k := 3) rfl) rfl))) ?_
       refine d_qg (decide (m_.day ≤ ((l.getD i default).day))) rfl (gy_t rfl) (fun hg => (fun w' H => x_cmp (kd := .i64) (a := (l.getD i default).dst) (b := m_.mark) (r := ((l.getD i default).dst) == m_.mark) (gd_of (c := decide (m_.day ≤ ((l.getD i default).day))) hg (I ((l.getD i default).dst))) (gd_of (c := decide (m_.day ≤ ((l.getD i default).day))) hg (I m_.mark)) rfl)) ?_
       refine d_q rfl (fun w' H => x_pand (b := decide (m_.day ≤ ((l.getD i default).day))) (r := ((l.getD i default).dst) == m_.mark) rfl (fun hb => gd_of (c := decide (m_.day ≤ ((l.getD i default).day))) (by first | exact hb | (rw [hb]; rfl) | simp_all) (B (((l.getD i default).dst) == m_.mark))) rfl) ?_
       refine d_nil ?_
       refine W.cond ((decide (m_.day ≤ ((l.getD i default).day))) && (((l.getD i default).dst) == m_.mark)) rfl (fun c77z => ?_) (fun c77z => ?_)
       ·replace hM := M.e_t hM c77z
        refine W.region rfl ?_
        refine s_val (x_fa (a := .pointer (some ⟨b_5, 0, none⟩)) (v := .pointer (some ⟨b_5, 1, none⟩)) rfl (fa_blk (o := 0) Fd64_1 Sz62)) ?_
        refine s_val (x_ld (p := .pointer (some ⟨b_5, 1, none⟩)) (v := v_l) rfl (ldb_sc Sc62 (H.blk (k := 0) rfl) rfl)) ?_
        refine s_val (x_mv (v := I (i : Int)) rfl) ?_
        refine s_val (x_fa (a := .pointer (some ⟨b_1, 0, none⟩)) (v := .pointer (some ⟨b_1, 0, none⟩)) rfl (fa_blk (o := 0) Fd64_0 Sz3)) ?_
        refine s_val (x_ld (p := .pointer (some ⟨b_1, 0, none⟩)) (v := I n_Marks) rfl (ldb_sc Sc3 (H.blk (k := 4) rfl) rfl)) ?_
        refine s_val (x_ix (a := v_l) (b := I (i : Int)) (v := vat v_l 5 (Int.toNat (i : Int))) rfl rfl (Sl.ix (α := Line) T62.und T62.size (ownSl (H.get (k := 1) rfl)) (by omega) (by omega))) ?_
        refine s_val (x_fa (a := vat v_l 5 (Int.toNat (i : Int))) (v := fat (vat v_l 5 (Int.toNat (i : Int))) 1) rfl (fa_pl Fd133_1 Sz3 (Sl.pl (i := (i : Int)) (ownSl (H.get (k := 1) rfl)) (by omega) (by omega)))) ?_
        refine t_fst (α := Line) (k := 1) (i := (i : Int)) (off := 1) (l := l) (l' := l.set i ({ (l.getD i default) with dst := n_Marks })) (val := I n_Marks) (L' := [cBlk b_5 [I (n_Marks + 1), v_l] 64, cOwn (α := Line) 133 v_l (l.set i ({ (l.getD i default) with dst := n_Marks })), cBlk b_3 [I 0, .slice none 0 0] 64, cBlk b_2 [I m_.mark, I m_.day] 68, cBlk b_1 [I n_Marks, v_n_Lines] 64]) H rfl Sz3 (by omega) (by omega) (l.getD i default) ({ (l.getD i default) with dst := n_Marks }) (getD_some _ (by omega) _) rfl rfl [I n_Marks] rfl rfl rfl rfl rfl rfl rfl ?_
        intro w78z H
        have hls_q79z : (l.set i ({ (l.getD i default) with dst := n_Marks })).length = (l).length := List.length_set
        refine s_nil ?_
        refine W.region rfl ?_
        refine s_val (x_mv (v := I (i : Int)) rfl) ?_
        refine s_val (x_ari (a := (i : Int)) (b := 1) (r := (i : Int) + 1) rfl rfl rfl (by omega)) ?_
        refine s_val (x_as (v := I ((i : Int) + 1)) rfl) ?_
        refine s_nil ?_
        exact ⟨m59z, lt60z, l.set i ({ (l.getD i default) with dst := n_Marks }), i + 1, v_l, _, upds_of _ _ ⟨rfl, rfl, rfl, rfl, rfl, trivial⟩, M.e_inl hM hN62z, H⟩
       ·replace hM := M.e_f hM c77z
        refine W.skip ?_
        refine W.region rfl ?_
        refine s_val (x_mv (v := I (i : Int)) rfl) ?_
        refine s_val (x_ari (a := (i : Int)) (b := 1) (r := (i : Int) + 1) rfl rfl rfl (by omega)) ?_
        refine s_val (x_as (v := I ((i : Int) + 1)) rfl) ?_
        refine s_nil ?_
        exact ⟨m59z, lt60z, l, i + 1, v_l, _, upds_of _ _ ⟨rfl, rfl, rfl, rfl, rfl, trivial⟩, M.e_inl hM hN62z, H⟩
     ·replace hM := M.e_f hM c64z
      simp only [decide_eq_true_eq, decide_eq_false_iff_not, beq_iff_eq, bne_iff_ne, beq_eq_false_iff_ne, bne_eq_false_iff_eq, ne_eq, Decidable.not_not] at c64z
      refine W.exit ?_
      have hX80z := M.e_inr hM hN62z
      subst hX80z
      replace hM := hk55z
      try dsimp only at hM
      refine W.seq ?_
      refine W.region rfl ?_
      refine s_val (x_ld (p := .pointer (some ⟨b_5, 0, none⟩)) (v := .agg #[I (n_Marks + 1), v_l]) rfl (ldb_ag (ds := [I (n_Marks + 1), v_l]) Ag64 Sz64 (H.blk (k := 0) rfl) rfl rfl)) ?_
      refine t_st (k := 2) (b := b_3) (off := 0) (cs := [I 0, .slice none 0 0]) (vs := [I (n_Marks + 1), v_l]) (cs' := [I (n_Marks + 1), v_l]) (v := .agg #[I (n_Marks + 1), v_l]) (L' := [cBlk b_5 [I (n_Marks + 1), v_l] 64, cOwn (α := Line) 133 v_l l, cBlk b_3 [I (n_Marks + 1), v_l] 64, cBlk b_2 [I m_.mark, I m_.day] 68, cBlk b_1 [I n_Marks, v_n_Lines] 64]) H rfl rfl rfl Sz64 rfl rfl rfl (by simp only [List.all_cons, List.all_nil, Bool.true_and, Bool.and_true, Sl.oc (ownSl (H.get (k := 1) rfl))]; try rfl) rfl rfl ?_
      intro w81z H
      refine s_nil ?_
      refine W.ret ?_
      have hb82z := (H.blk (k := 2) rfl)
      have hr_ := M.e_pure hM
      exact ⟨_, (resE_of1 (v := .agg #[I (n_Marks + 1), v_l]) rfl (.cell (v := .agg #[I (n_Marks + 1), v_l]) rfl (run_loadVar_ag (ds := [I (n_Marks + 1), v_l]) Ag64 Sz64 hb82z rfl rfl) <| .nil)), ⟨(n_Marks + 1), l, v_l, hr_, rfl, (H.pick [1] (by decide) rfl)⟩⟩
  ·skip
   refine t_alloc (cs := [I 0, .slice none 0 0]) H Al64 rfl ?_
   intro b_5 w83z H
   refine s_nil ⟨(H.pick [2, 3, 4] (by decide) rfl), ?_⟩
   refine t_l rfl ?_
   refine t_app (α := Line) (k := 1) (l := []) (l2 := n_Lines) (l' := n_Lines) (vy := v_n_Lines) T62 rfl H rfl rfl rfl hs_n_Lines (hC_n_Lines.at H) (List.nil_append _) (by first | omega | (simp only [List.length_nil] at *; omega)) ?_
   intro v84z w85z H
   replace H : St w w85z [cBlk b_5 [I 0, .slice none 0 0] 64, cOwn (α := Line) 133 v84z n_Lines, cBlk b_3 [I 0, .slice none 0 0] 64, cBlk b_2 [I m_.mark, I m_.day] 68, cBlk b_1 [I n_Marks, v_n_Lines] 64] R := H
   have hvc_q86z := Sl.cells (ownSl (H.get (k := 1) rfl))
   have hvo_q86z := Sl.oc (ownSl (H.get (k := 1) rfl))
   refine s_nil ⟨(H.pick [2, 3, 4] (by decide) rfl), ?_⟩
   refine t_l rfl ?_
   refine s_val (x_bld (ps := [(0, I (n_Marks + 1)), (1, v84z)]) (zs := [I 0, .slice none 0 0]) (L' := [I (n_Marks + 1), v84z]) rfl Try.underlying64 Al64 rfl (Bd64 Try.underlying64) (.cons (cs := [I (n_Marks + 1)]) rfl rfl rfl rfl rfl <| .cons (cs := [v84z]) (Sl.cells (ownSl (H.get (k := 1) rfl))) rfl rfl rfl rfl <| .nil)) ?_
   refine s_nil ⟨(H.pick [2, 3, 4] (by decide) rfl), ?_⟩
   refine t_l rfl ?_
   refine t_st (k := 0) (b := b_5) (off := 0) (cs := [I 0, .slice none 0 0]) (vs := [I (n_Marks + 1), v84z]) (cs' := [I (n_Marks + 1), v84z]) (v := .agg #[I (n_Marks + 1), v84z]) (L' := [cBlk b_5 [I (n_Marks + 1), v84z] 64, cOwn (α := Line) 133 v84z n_Lines, cBlk b_3 [I 0, .slice none 0 0] 64, cBlk b_2 [I m_.mark, I m_.day] 68, cBlk b_1 [I n_Marks, v_n_Lines] 64]) H rfl rfl rfl Sz64 rfl rfl rfl (by simp only [List.all_cons, List.all_nil, Bool.true_and, Bool.and_true, Sl.oc (ownSl (H.get (k := 1) rfl))]; try rfl) rfl rfl ?_
   intro w87z H
   refine s_nil ⟨(H.pick [2, 3, 4] (by decide) rfl), ?_⟩
   refine t_nil ?_
   refine W.seq ?_
   refine W.seq ?_
   refine W.region rfl ?_
   refine s_val (x_as (v := I 0) rfl) ?_
   refine s_nil ?_
   refine W.block ?_
   obtain ⟨ex88z, hi89z, hk90z⟩ := M.e_bind hM
   obtain ⟨m0_, hi89z⟩ := M.e_iter hi89z
   refine W.loop (fun m σ W => ∃ (l : List Line) (i : Nat) (v_l : Value) (ρ : Env), σ = upds ρ [(2, .pointer (some ⟨b_1, 0, none⟩)), (3, .pointer (some ⟨b_2, 0, none⟩)), (4, .pointer (some ⟨b_3, 0, none⟩)), (5, .pointer (some ⟨b_5, 0, none⟩)), (6, I (i : Int))] ∧ M.iterN (m_nilometerref01_parted_b0 n_Marks m_) m (l, i) = some ex88z ∧ St w W [cBlk b_5 [I (n_Marks + 1), v_l] 64, cOwn (α := Line) 133 v_l l, cBlk b_3 [I 0, .slice none 0 0] 64, cBlk b_2 [I m_.mark, I m_.day] 68, cBlk b_1 [I n_Marks, v_n_Lines] 64] R) ?_ ?_
   ·exact ⟨_, n_Lines, 0, v84z, _, upds_of _ _ ⟨rfl, rfl, rfl, rfl, rfl, trivial⟩, hi89z, H⟩
   ·rintro m93z σ w91z ⟨l, i, v_l, ρ, rfl, hI92z, H⟩
    obtain ⟨m94z, lt95z, x96z, hM, hN97z⟩ := M.e_iterN hI92z
    simp only [m_nilometerref01_parted_b0] at hM
    clear hI92z
    refine W.seq ?_
    refine W.seq ?_
    refine W.region rfl ?_
    refine s_val (x_mv (v := I (i : Int)) rfl) ?_
    refine s_val (x_fa (a := .pointer (some ⟨b_5, 0, none⟩)) (v := .pointer (some ⟨b_5, 1, none⟩)) rfl (fa_blk (o := 0) Fd64_1 Sz62)) ?_
    refine s_val (x_ld (p := .pointer (some ⟨b_5, 1, none⟩)) (v := v_l) rfl (ldb_sc Sc62 (H.blk (k := 0) rfl) rfl)) ?_
    have hl98z := ((ownSl (H.get (k := 1) rfl))).len_le
    refine s_val (x_lenS T62.und rfl (ownSl (H.get (k := 1) rfl))) ?_
    refine s_val (x_cmp (kd := .i64) (a := (i : Int)) (b := (l.length : Int)) (r := decide ((i : Int) < (l.length : Int))) rfl rfl rfl) ?_
    refine s_nil ?_
    refine W.cond (decide ((i : Int) < (l.length : Int))) rfl (fun c99z => ?_) (fun c99z => ?_)
    ·replace hM := M.e_t hM c99z
     simp only [decide_eq_true_eq, decide_eq_false_iff_not, beq_iff_eq, bne_iff_ne, beq_eq_false_iff_ne, bne_eq_false_iff_eq, ne_eq, Decidable.not_not] at c99z
     refine W.skip ?_
     refine W.seq ?_
     refine W.block ?_
     refine W.seq ?_
     refine W.seq ?_
     refine W.draw (fun W => St w W [cBlk b_5 [I (n_Marks + 1), v_l] 64, cOwn (α := Line) 133 v_l l, cBlk b_3 [I 0, .slice none 0 0] 64, cBlk b_2 [I m_.mark, I m_.day] 68, cBlk b_1 [I n_Marks, v_n_Lines] 64] R) [(0, true), (1, true), (2, true), (3, true), (4, true), (5, true), (6, true), (7, true), (8, true), (9, true), (10, true), (11, true), (12, true), (13, true), (14, true), (15, true), (16, true), (17, true), (18, true), (19, true)] mixed (by decide +kernel) rfl ?_
     intro w100z hx_
     replace H : St w w100z [cBlk b_5 [I (n_Marks + 1), v_l] 64, cOwn (α := Line) 133 v_l l, cBlk b_3 [I 0, .slice none 0 0] 64, cBlk b_2 [I m_.mark, I m_.day] 68, cBlk b_1 [I n_Marks, v_n_Lines] 64] R := H.ext hx_
     clear hx_
     refine ⟨(H.pick [0, 1, 2, 3, 4] (by decide) rfl), ?_⟩
     refine d_q rfl (fun w' H => x_fa (a := .pointer (some ⟨b_5, 0, none⟩)) (v := .pointer (some ⟨b_5, 1, none⟩)) rfl (fa_blk (o := 0) Fd64_1 Sz62)) ?_
     refine d_q rfl (fun w' H => x_ld (p := .pointer (some ⟨b_5, 1, none⟩)) (v := v_l) rfl (ldb_sc Sc62 (H.blk (k := 0) rfl) rfl)) ?_
     refine d_q rfl (fun w' H => x_mv (v := I (i : Int)) rfl) ?_
     obtain ⟨sd101z, hM⟩ := M.e_grd hM
     simp only [Bool.and_eq_true, decide_eq_true_eq] at sd101z
     refine d_q rfl (fun w' H => x_ix (a := v_l) (b := I (i : Int)) (v := vat v_l 5 (Int.toNat (i : Int))) rfl rfl (Sl.ix (α := Line) T62.und T62.size (ownSl (H.get (k := 1) rfl)) (by omega) (by omega))) ?_
     refine d_q rfl (fun w' H => x_fa (a := vat v_l 5 (Int.toNat (i : Int))) (v := fat (vat v_l 5 (Int.toNat (i : Int))) 2) rfl (fa_pl Fd133_2 Sz3 (Sl.pl (i := (i : Int)) (ownSl (H.get (k := 1) rfl)) (by omega) (by omega)))) ?_
     refine d_q rfl (fun w' H => x_ld (p := fat (vat v_l 5 (Int.toNat (i : Int))) 2) (v := I ((l.getD i default).day)) rfl (ld_sc Sc3 (At.mono (Line_at2 (ownSl (H.get (k := 1) rfl)) (i := (i : Int)) (by omega) (by omega)) (ownLe _ (H.get (k := 1) rfl))))) ?_
     refine d_q rfl (fun w' H => x_fa (a := .pointer (some ⟨b_2, 0, none⟩)) (v := .pointer (some ⟨b_2, 1, none⟩)) rfl (fa_blk (o := 0) Fd68_1 Sz3)) ?_
     refine d_q rfl (fun w' H => x_ld (p := .pointer (some ⟨b_2, 1, none⟩)) (v := I m_.day) rfl (ldb_sc Sc3 (H.blk (k := 3) rfl) rfl)) ?_
     refine d_q rfl (fun w' H => x_cmp (kd := .i64) (a := (l.getD i default).day) (b := m_.day) (r := decide (m_.day ≤ ((l.getD i default).day))) rfl rfl rfl) ?_
     refine d_q rfl (fun w' H => x_mv (v := B (decide (m_.day ≤ ((l.getD i default).day)))) rfl) ?_
     refine d_qg (decide (m_.day ≤ ((l.getD i default).day))) rfl (gy_t rfl) (fun hg => (fun w' H => x_fa (a := .pointer (some ⟨b_5, 0, none⟩)) (v := .pointer (some ⟨b_5, 1, none⟩)) rfl (fa_blk (o := 0) Fd64_1 Sz62))) ?_
     refine d_qg (decide (m_.day ≤ ((l.getD i default).day))) rfl (gy_t rfl) (fun hg => (fun w' H => x_ld (p := .pointer (some ⟨b_5, 1, none⟩)) (v := v_l) (gd_of (c := decide (m_.day ≤ ((l.getD i default).day))) hg (.pointer (some ⟨b_5, 1, none⟩))) (ldb_sc Sc62 (H.blk (k := 0) rfl) rfl))) ?_
     refine d_qg (decide (m_.day ≤ ((l.getD i default).day))) rfl (gy_t rfl) (fun hg => (fun w' H => x_mv (v := I (i : Int)) rfl)) ?_
     refine d_qg (decide (m_.day ≤ ((l.getD i default).day))) rfl (gy_t rfl) (fun hg => (fun w' H => x_ix (a := v_l) (b := I (i : Int)) (v := vat v_l 5 (Int.toNat (i : Int))) (gd_of (c := decide (m_.day ≤ ((l.getD i default).day))) hg (v_l)) (gd_of (c := decide (m_.day ≤ ((l.getD i default).day))) hg (I (i : Int))) (Sl.ix (α := Line) T62.und T62.size (ownSl (H.get (k := 1) rfl)) (by first | omega | (have hx_ := hg; simp at hx_; omega)) (by first | omega | (have hx_ := hg; simp at hx_; omega))))) ?_
     refine d_qg (decide (m_.day ≤ ((l.getD i default).day))) rfl (gy_t rfl) (fun hg => (fun w' H => x_fa (a := vat v_l 5 (Int.toNat (i : Int))) (v := fat (vat v_l 5 (Int.toNat (i : Int))) 0) (gd_of (c := decide (m_.day ≤ ((l.getD i default).day))) hg (vat v_l 5 (Int.toNat (i : Int)))) (fa_pl Fd133_0 Sz3 (Sl.pl (i := (i : Int)) (ownSl (H.get (k := 1) rfl)) (by first | omega | (have hx_ := hg; simp at hx_; omega)) (by first | omega | (have hx_ := hg; simp at hx_; omega)))))) ?_
     refine d_qg (decide (m_.day ≤ ((l.getD i default).day))) rfl (gy_t rfl) (fun hg => (fun w' H => x_ld (p := fat (vat v_l 5 (Int.toNat (i : Int))) 0) (v := I ((l.getD i default).src)) (gd_of (c := decide (m_.day ≤ ((l.getD i default).day))) hg (fat (vat v_l 5 (Int.toNat (i : Int))) 0)) (ld_sc Sc3 (At.mono (Line_at0 (ownSl (H.get (k := 1) rfl)) (i := (i : Int)) (by first | omega | (have hx_ := hg; simp at hx_; omega)) (by first | omega | (have hx_ := hg; simp at hx_; omega))) (ownLe _ (H.get (k := 1) rfl)))))) ?_
     refine d_qg (decide (m_.day ≤ ((l.getD i default).day))) rfl (gy_t rfl) (fun hg => (fun w' H => x_fa (a := .pointer (some ⟨b_2, 0, none⟩)) (v := .pointer (some ⟨b_2, 0, none⟩)) rfl (fa_blk (o := 0) Fd68_0 Sz3))) ?_
     refine d_qg (decide (m_.day ≤ ((l.getD i default).day))) rfl (gy_t rfl) (fun hg => (fun w' H => x_ld (p := .pointer (some ⟨b_2, 0, none⟩)) (v := I m_.mark) (gd_of (c := decide (m_.day ≤ ((l.getD i default).day))) hg (.pointer (some ⟨b_2, 0, none⟩))) (ldb_sc Sc3 (H.blk (k := 3) rfl) rfl))) ?_
     refine d_qg (decide (m_.day ≤ ((l.getD i default).day))) rfl (gy_t rfl) (fun hg => (fun w' H => x_cmp (kd := .i64) (a := (l.getD i default).src) (b := m_.mark) (r := ((l.getD i default).src) == m_.mark) (gd_of (c := decide (m_.day ≤ ((l.getD i default).day))) hg (I ((l.getD i default).src))) (gd_of (c := decide (m_.day ≤ ((l.getD i default).day))) hg (I m_.mark)) rfl)) ?_
     refine d_q rfl (fun w' H => x_pand (b := decide (m_.day ≤ ((l.getD i default).day))) (r := ((l.getD i default).src) == m_.mark) rfl (fun hb => gd_of (c := decide (m_.day ≤ ((l.getD i default).day))) (by first | exact hb | (rw [hb]; rfl) | simp_all) (B (((l.getD i default).src) == m_.mark))) rfl) ?_
     refine d_nil ?_
     refine W.cond ((decide (m_.day ≤ ((l.getD i default).day))) && (((l.getD i default).src) == m_.mark)) rfl (fun c102z => ?_) (fun c102z => ?_)
     ·replace hM := M.e_t hM c102z
      refine W.region rfl ?_
      refine s_val (x_fa (a := .pointer (some ⟨b_5, 0, none⟩)) (v := .pointer (some ⟨b_5, 1, none⟩)) rfl (fa_blk (o := 0) Fd64_1 Sz62)) ?_
      refine s_val (x_ld (p := .pointer (some ⟨b_5, 1, none⟩)) (v := v_l) rfl (ldb_sc Sc62 (H.blk (k := 0) rfl) rfl)) ?_
      refine s_val (x_mv (v := I (i : Int)) rfl) ?_
      refine s_val (x_fa (a := .pointer (some ⟨b_1, 0, none⟩)) (v := .pointer (some ⟨b_1, 0, none⟩)) rfl (fa_blk (o := 0) Fd64_0 Sz3)) ?_
      refine s_val (x_ld (p := .pointer (some ⟨b_1, 0, none⟩)) (v := I n_Marks) rfl (ldb_sc Sc3 (H.blk (k := 4) rfl) rfl)) ?_
      refine s_val (x_ix (a := v_l) (b := I (i : Int)) (v := vat v_l 5 (Int.toNat (i : Int))) rfl rfl (Sl.ix (α := Line) T62.und T62.size (ownSl (H.get (k := 1) rfl)) (by omega) (by omega))) ?_
      refine s_val (x_fa (a := vat v_l 5 (Int.toNat (i : Int))) (v := fat (vat v_l 5 (Int.toNat (i : Int))) 0) rfl (fa_pl Fd133_0 Sz3 (Sl.pl (i := (i : Int)) (ownSl (H.get (k := 1) rfl)) (by omega) (by omega)))) ?_
      refine t_fst (α := Line) (k := 1) (i := (i : Int)) (off := 0) (l := l) (l' := l.set i ({ (l.getD i default) with src := n_Marks })) (val := I n_Marks) (L' := [cBlk b_5 [I (n_Marks + 1), v_l] 64, cOwn (α := Line) 133 v_l (l.set i ({ (l.getD i default) with src := n_Marks })), cBlk b_3 [I 0, .slice none 0 0] 64, cBlk b_2 [I m_.mark, I m_.day] 68, cBlk b_1 [I n_Marks, v_n_Lines] 64]) H rfl Sz3 (by omega) (by omega) (l.getD i default) ({ (l.getD i default) with src := n_Marks }) (getD_some _ (by omega) _) rfl rfl [I n_Marks] rfl rfl rfl rfl rfl rfl rfl ?_
      intro w103z H
      have hls_q104z : (l.set i ({ (l.getD i default) with src := n_Marks })).length = (l).length := List.length_set
      refine s_nil ?_
      refine W.seq ?_
      refine W.draw (fun W => St w W [cBlk b_5 [I (n_Marks + 1), v_l] 64, cOwn (α := Line) 133 v_l (l.set i ({ (l.getD i default) with src := n_Marks })), cBlk b_3 [I 0, .slice none 0 0] 64, cBlk b_2 [I m_.mark, I m_.day] 68, cBlk b_1 [I n_Marks, v_n_Lines] 64] R) [(0, true), (1, true), (2, true), (3, true), (4, true), (5, true), (6, true), (7, true), (8, true), (9, true), (10, true), (11, true), (12, true), (13, true), (14, true), (15, true), (16, true), (17, true), (18, true), (19, true)] mixed (by decide +kernel) rfl ?_
      intro w105z hx_
      replace H : St w w105z [cBlk b_5 [I (n_Marks + 1), v_l] 64, cOwn (α := Line) 133 v_l (l.set i ({ (l.getD i default) with src := n_Marks })), cBlk b_3 [I 0, .slice none 0 0] 64, cBlk b_2 [I m_.mark, I m_.day] 68, cBlk b_1 [I n_Marks, v_n_Lines] 64] R := H.ext hx_
      clear hx_
      refine ⟨(H.pick [0, 1, 2, 3, 4] (by decide) rfl), ?_⟩
      refine d_q rfl (fun w' H => x_fa (a := .pointer (some ⟨b_5, 0, none⟩)) (v := .pointer (some ⟨b_5, 1, none⟩)) rfl (fa_blk (o := 0) Fd64_1 Sz62)) ?_
      refine d_q rfl (fun w' H => x_ld (p := .pointer (some ⟨b_5, 1, none⟩)) (v := v_l) rfl (ldb_sc Sc62 (H.blk (k := 0) rfl) rfl)) ?_
      refine d_q rfl (fun w' H => x_mv (v := I (i : Int)) rfl) ?_
      obtain ⟨sd106z, hM⟩ := M.e_grd hM
      simp only [Bool.and_eq_true, decide_eq_true_eq] at sd106z
      refine d_q rfl (fun w' H => x_ix (a := v_l) (b := I (i : Int)) (v := vat v_l 5 (Int.toNat (i : Int))) rfl rfl (Sl.ix (α := Line) T62.und T62.size (ownSl (H.get (k := 1) rfl)) (by omega) (by omega))) ?_
      refine d_q rfl (fun w' H => x_fa (a := vat v_l 5 (Int.toNat (i : Int))) (v := fat (vat v_l 5 (Int.toNat (i : Int))) 2) rfl (fa_pl Fd133_2 Sz3 (Sl.pl (i := (i : Int)) (ownSl (H.get (k := 1) rfl)) (by omega) (by omega)))) ?_
      refine d_q rfl (fun w' H => x_ld (p := fat (vat v_l 5 (Int.toNat (i : Int))) 2) (v := I (((l.set i ({ (l.getD i default) with src := n_Marks })).getD i default).day)) rfl (ld_sc Sc3 (At.mono (Line_at2 (ownSl (H.get (k := 1) rfl)) (i := (i : Int)) (by omega) (by omega)) (ownLe _ (H.get (k := 1) rfl))))) ?_
      refine d_q rfl (fun w' H => x_fa (a := .pointer (some ⟨b_2, 0, none⟩)) (v := .pointer (some ⟨b_2, 1, none⟩)) rfl (fa_blk (o := 0) Fd68_1 Sz3)) ?_
      refine d_q rfl (fun w' H => x_ld (p := .pointer (some ⟨b_2, 1, none⟩)) (v := I m_.day) rfl (ldb_sc Sc3 (H.blk (k := 3) rfl) rfl)) ?_
      refine d_q rfl (fun w' H => x_cmp (kd := .i64) (a := ((l.set i ({ (l.getD i default) with src := n_Marks })).getD i default).day) (b := m_.day) (r := decide (m_.day ≤ (((l.set i ({ (l.getD i default) with src := n_Marks })).getD i default).day))) rfl rfl rfl) ?_
      refine d_q rfl (fun w' H => x_mv (v := B (decide (m_.day ≤ (((l.set i ({ (l.getD i default) with src := n_Marks })).getD i default).day)))) rfl) ?_
      refine d_qg (decide (m_.day ≤ (((l.set i ({ (l.getD i default) with src := n_Marks })).getD i default).day))) rfl (gy_t rfl) (fun hg => (fun w' H => x_fa (a := .pointer (some ⟨b_5, 0, none⟩)) (v := .pointer (some ⟨b_5, 1, none⟩)) rfl (fa_blk (o := 0) Fd64_1 Sz62))) ?_
      refine d_qg (decide (m_.day ≤ (((l.set i ({ (l.getD i default) with src := n_Marks })).getD i default).day))) rfl (gy_t rfl) (fun hg => (fun w' H => x_ld (p := .pointer (some ⟨b_5, 1, none⟩)) (v := v_l) (gd_of (c := decide (m_.day ≤ (((l.set i ({ (l.getD i default) with src := n_Marks })).getD i default).day))) hg (.pointer (some ⟨b_5, 1, none⟩))) (ldb_sc Sc62 (H.blk (k := 0) rfl) rfl))) ?_
      refine d_qg (decide (m_.day ≤ (((l.set i ({ (l.getD i default) with src := n_Marks })).getD i default).day))) rfl (gy_t rfl) (fun hg => (fun w' H => x_mv (v := I (i : Int)) rfl)) ?_
      refine d_qg (decide (m_.day ≤ (((l.set i ({ (l.getD i default) with src := n_Marks })).getD i default).day))) rfl (gy_t rfl) (fun hg => (fun w' H => x_ix (a := v_l) (b := I (i : Int)) (v := vat v_l 5 (Int.toNat (i : Int))) (gd_of (c := decide (m_.day ≤ (((l.set i ({ (l.getD i default) with src := n_Marks })).getD i default).day))) hg (v_l)) (gd_of (c := decide (m_.day ≤ (((l.set i ({ (l.getD i default) with src := n_Marks })).getD i default).day))) hg (I (i : Int))) (Sl.ix (α := Line) T62.und T62.size (ownSl (H.get (k := 1) rfl)) (by first | omega | (have hx_ := hg; simp at hx_; omega)) (by first | omega | (have hx_ := hg; simp at hx_; omega))))) ?_
      refine d_qg (decide (m_.day ≤ (((l.set i ({ (l.getD i default) with src := n_Marks })).getD i default).day))) rfl (gy_t rfl) (fun hg => (fun w' H => x_fa (a := vat v_l 5 (Int.toNat (i : Int))) (v := fat (vat v_l 5 (Int.toNat (i : Int))) 1) (gd_of (c := decide (m_.day ≤ (((l.set i ({ (l.getD i default) with src := n_Marks })).getD i default).day))) hg (vat v_l 5 (Int.toNat (i : Int)))) (fa_pl Fd133_1 Sz3 (Sl.pl (i := (i : Int)) (ownSl (H.get (k := 1) rfl)) (by first | omega | (have hx_ := hg; simp at hx_; omega)) (by first | omega | (have hx_ := hg; simp at hx_; omega)))))) ?_
      refine d_qg (decide (m_.day ≤ (((l.set i ({ (l.getD i default) with src := n_Marks })).getD i default).day))) rfl (gy_t rfl) (fun hg => (fun w' H => x_ld (p := fat (vat v_l 5 (Int.toNat (i : Int))) 1) (v := I (((l.set i ({ (l.getD i default) with src := n_Marks })).getD i default).dst)) (gd_of (c := decide (m_.day ≤ (((l.set i ({ (l.getD i default) with src := n_Marks })).getD i default).day))) hg (fat (vat v_l 5 (Int.toNat (i : Int))) 1)) (ld_sc Sc3 (At.mono (Line_at1 (ownSl (H.get (k := 1) rfl)) (i := (i : Int)) (by first | omega | (have hx_ := hg; simp at hx_; omega)) (by first | omega | (have hx_ := hg; simp at hx_; omega))) (ownLe _ (H.get (k := 1) rfl)))))) ?_
      refine d_qg (decide (m_.day ≤ (((l.set i ({ (l.getD i default) with src := n_Marks })).getD i default).day))) rfl (gy_t rfl) (fun hg => (fun w' H => x_fa (a := .pointer (some ⟨b_2, 0, none⟩)) (v := .pointer (some ⟨b_2, 0, none⟩)) rfl (fa_blk (o := 0) Fd68_0 Sz3))) ?_
      refine d_qg (decide (m_.day ≤ (((l.set i ({ (l.getD i default) with src := n_Marks })).getD i default).day))) rfl (gy_t rfl) (fun hg => (fun w' H => x_ld (p := .pointer (some ⟨b_2, 0, none⟩)) (v := I m_.mark) (gd_of (c := decide (m_.day ≤ (((l.set i ({ (l.getD i default) with src := n_Marks })).getD i default).day))) hg (.pointer (some ⟨b_2, 0, none⟩))) (ldb_sc Sc3 (H.blk (k := 3) rfl) rfl))) ?_
      refine d_qg (decide (m_.day ≤ (((l.set i ({ (l.getD i default) with src := n_Marks })).getD i default).day))) rfl (gy_t rfl) (fun hg => (fun w' H => x_cmp (kd := .i64) (a := ((l.set i ({ (l.getD i default) with src := n_Marks })).getD i default).dst) (b := m_.mark) (r := (((l.set i ({ (l.getD i default) with src := n_Marks })).getD i default).dst) == m_.mark) (gd_of (c := decide (m_.day ≤ (((l.set i ({ (l.getD i default) with src := n_Marks })).getD i default).day))) hg (I (((l.set i ({ (l.getD i default) with src := n_Marks })).getD i default).dst))) (gd_of (c := decide (m_.day ≤ (((l.set i ({ (l.getD i default) with src := n_Marks })).getD i default).day))) hg (I m_.mark)) rfl)) ?_
      refine d_q rfl (fun w' H => x_pand (b := decide (m_.day ≤ (((l.set i ({ (l.getD i default) with src := n_Marks })).getD i default).day))) (r := (((l.set i ({ (l.getD i default) with src := n_Marks })).getD i default).dst) == m_.mark) rfl (fun hb => gd_of (c := decide (m_.day ≤ (((l.set i ({ (l.getD i default) with src := n_Marks })).getD i default).day))) (by first | exact hb | (rw [hb]; rfl) | simp_all) (B ((((l.set i ({ (l.getD i default) with src := n_Marks })).getD i default).dst) == m_.mark))) rfl) ?_
      refine d_nil ?_
      refine W.cond ((decide (m_.day ≤ (((l.set i ({ (l.getD i default) with src := n_Marks })).getD i default).day))) && ((((l.set i ({ (l.getD i default) with src := n_Marks })).getD i default).dst) == m_.mark)) rfl (fun c107z => ?_) (fun c107z => ?_)
      ·replace hM := M.e_t hM c107z
       refine W.region rfl ?_
       refine s_val (x_fa (a := .pointer (some ⟨b_5, 0, none⟩)) (v := .pointer (some ⟨b_5, 1, none⟩)) rfl (fa_blk (o := 0) Fd64_1 Sz62)) ?_
       refine s_val (x_ld (p := .pointer (some ⟨b_5, 1, none⟩)) (v := v_l) rfl (ldb_sc Sc62 (H.blk (k := 0) rfl) rfl)) ?_
       refine s_val (x_mv (v := I (i : Int)) rfl) ?_
       refine s_val (x_fa (a := .pointer (some ⟨b_1, 0, none⟩)) (v := .pointer (some ⟨b_1, 0, none⟩)) rfl (fa_blk (o := 0) Fd64_0 Sz3)) ?_
       refine s_val (x_ld (p := .pointer (some ⟨b_1, 0, none⟩)) (v := I n_Marks) rfl (ldb_sc Sc3 (H.blk (k := 4) rfl) rfl)) ?_
       refine s_val (x_ix (a := v_l) (b := I (i : Int)) (v := vat v_l 5 (Int.toNat (i : Int))) rfl rfl (Sl.ix (α := Line) T62.und T62.size (ownSl (H.get (k := 1) rfl)) (by omega) (by omega))) ?_
       refine s_val (x_fa (a := vat v_l 5 (Int.toNat (i : Int))) (v := fat (vat v_l 5 (Int.toNat (i : Int))) 1) rfl (fa_pl Fd133_1 Sz3 (Sl.pl (i := (i : Int)) (ownSl (H.get (k := 1) rfl)) (by omega) (by omega)))) ?_
       refine t_fst (α := Line) (k := 1) (i := (i : Int)) (off := 1) (l := l.set i ({ (l.getD i default) with src := n_Marks })) (l' := (l.set i ({ (l.getD i default) with src := n_Marks })).set i ({ ((l.set i ({ (l.getD i default) with src := n_Marks })).getD i default) with dst := n_Marks })) (val := I n_Marks) (L' := [cBlk b_5 [I (n_Marks + 1), v_l] 64, cOwn (α := Line) 133 v_l ((l.set i ({ (l.getD i default) with src := n_Marks })).set i ({ ((l.set i ({ (l.getD i default) with src := n_Marks })).getD i default) with dst := n_Marks })), cBlk b_3 [I 0, .slice none 0 0] 64, cBlk b_2 [I m_.mark, I m_.day] 68, cBlk b_1 [I n_Marks, v_n_Lines] 64]) H rfl Sz3 (by omega) (by omega) ((l.set i ({ (l.getD i default) with src := n_Marks })).getD i default) ({ ((l.set i ({ (l.getD i default) with src := n_Marks })).getD i default) with dst := n_Marks }) (getD_some _ (by omega) _) rfl rfl [I n_Marks] rfl rfl rfl rfl rfl rfl rfl ?_
       intro w108z H
       have hls_q109z : ((l.set i ({ (l.getD i default) with src := n_Marks })).set i ({ ((l.set i ({ (l.getD i default) with src := n_Marks })).getD i default) with dst := n_Marks })).length = (l.set i ({ (l.getD i default) with src := n_Marks })).length := List.length_set
       refine s_nil ?_
       refine W.region rfl ?_
       refine s_val (x_mv (v := I (i : Int)) rfl) ?_
       refine s_val (x_ari (a := (i : Int)) (b := 1) (r := (i : Int) + 1) rfl rfl rfl (by omega)) ?_
       refine s_val (x_as (v := I ((i : Int) + 1)) rfl) ?_
       refine s_nil ?_
       exact ⟨m94z, lt95z, (l.set i ({ (l.getD i default) with src := n_Marks })).set i ({ ((l.set i ({ (l.getD i default) with src := n_Marks })).getD i default) with dst := n_Marks }), i + 1, v_l, _, upds_of _ _ ⟨rfl, rfl, rfl, rfl, rfl, trivial⟩, M.e_inl hM hN97z, H⟩
      ·replace hM := M.e_f hM c107z
       refine W.skip ?_
       refine W.region rfl ?_
       refine s_val (x_mv (v := I (i : Int)) rfl) ?_
       refine s_val (x_ari (a := (i : Int)) (b := 1) (r := (i : Int) + 1) rfl rfl rfl (by omega)) ?_
       refine s_val (x_as (v := I ((i : Int) + 1)) rfl) ?_
       refine s_nil ?_
       exact ⟨m94z, lt95z, l.set i ({ (l.getD i default) with src := n_Marks }), i + 1, v_l, _, upds_of _ _ ⟨rfl, rfl, rfl, rfl, rfl, trivial⟩, M.e_inl hM hN97z, H⟩
     ·replace hM := M.e_f hM c102z
      refine W.skip ?_
      refine W.seq ?_
      refine W.draw (fun W => St w W [cBlk b_5 [I (n_Marks + 1), v_l] 64, cOwn (α := Line) 133 v_l l, cBlk b_3 [I 0, .slice none 0 0] 64, cBlk b_2 [I m_.mark, I m_.day] 68, cBlk b_1 [I n_Marks, v_n_Lines] 64] R) [(0, true), (1, true), (2, true), (3, true), (4, true), (5, true), (6, true), (7, true), (8, true), (9, true), (10, true), (11, true), (12, true), (13, true), (14, true), (15, true), (16, true), (17, true), (18, true), (19, true)] mixed (by decide +kernel) rfl ?_
      intro w110z hx_
      replace H : St w w110z [cBlk b_5 [I (n_Marks + 1), v_l] 64, cOwn (α := Line) 133 v_l l, cBlk b_3 [I 0, .slice none 0 0] 64, cBlk b_2 [I m_.mark, I m_.day] 68, cBlk b_1 [I n_Marks, v_n_Lines] 64] R := H.ext hx_
      clear hx_
      refine ⟨(H.pick [0, 1, 2, 3, 4] (by decide) rfl), ?_⟩
      refine d_q rfl (fun w' H => x_fa (a := .pointer (some ⟨b_5, 0, none⟩)) (v := .pointer (some ⟨b_5, 1, none⟩)) rfl (fa_blk (o := 0) Fd64_1 Sz62)) ?_
      refine d_q rfl (fun w' H => x_ld (p := .pointer (some ⟨b_5, 1, none⟩)) (v := v_l) rfl (ldb_sc Sc62 (H.blk (k := 0) rfl) rfl)) ?_
      refine d_q rfl (fun w' H => x_mv (v := I (i : Int)) rfl) ?_
      obtain ⟨sd111z, hM⟩ := M.e_grd hM
      simp only [Bool.and_eq_true, decide_eq_true_eq] at sd111z
      refine d_q rfl (fun w' H => x_ix (a := v_l) (b := I (i : Int)) (v := vat v_l 5 (Int.toNat (i : Int))) rfl rfl (Sl.ix (α := Line) T62.und T62.size (ownSl (H.get (k := 1) rfl)) (by omega) (by omega))) ?_
      refine d_q rfl (fun w' H => x_fa (a := vat v_l 5 (Int.toNat (i : Int))) (v := fat (vat v_l 5 (Int.toNat (i : Int))) 2) rfl (fa_pl Fd133_2 Sz3 (Sl.pl (i := (i : Int)) (ownSl (H.get (k := 1) rfl)) (by omega) (by omega)))) ?_
      refine d_q rfl (fun w' H => x_ld (p := fat (vat v_l 5 (Int.toNat (i : Int))) 2) (v := I ((l.getD i default).day)) rfl (ld_sc Sc3 (At.mono (Line_at2 (ownSl (H.get (k := 1) rfl)) (i := (i : Int)) (by omega) (by omega)) (ownLe _ (H.get (k := 1) rfl))))) ?_
      refine d_q rfl (fun w' H => x_fa (a := .pointer (some ⟨b_2, 0, none⟩)) (v := .pointer (some ⟨b_2, 1, none⟩)) rfl (fa_blk (o := 0) Fd68_1 Sz3)) ?_
      refine d_q rfl (fun w' H => x_ld (p := .pointer (some ⟨b_2, 1, none⟩)) (v := I m_.day) rfl (ldb_sc Sc3 (H.blk (k := 3) rfl) rfl)) ?_
      refine d_q rfl (fun w' H => x_cmp (kd := .i64) (a := (l.getD i default).day) (b := m_.day) (r := decide (m_.day ≤ ((l.getD i default).day))) rfl rfl rfl) ?_
      refine d_q rfl (fun w' H => x_mv (v := B (decide (m_.day ≤ ((l.getD i default).day)))) rfl) ?_
      refine d_qg (decide (m_.day ≤ ((l.getD i default).day))) rfl (gy_t rfl) (fun hg => (fun w' H => x_fa (a := .pointer (some ⟨b_5, 0, none⟩)) (v := .pointer (some ⟨b_5, 1, none⟩)) rfl (fa_blk (o := 0) Fd64_1 Sz62))) ?_
      refine d_qg (decide (m_.day ≤ ((l.getD i default).day))) rfl (gy_t rfl) (fun hg => (fun w' H => x_ld (p := .pointer (some ⟨b_5, 1, none⟩)) (v := v_l) (gd_of (c := decide (m_.day ≤ ((l.getD i default).day))) hg (.pointer (some ⟨b_5, 1, none⟩))) (ldb_sc Sc62 (H.blk (k := 0) rfl) rfl))) ?_
      refine d_qg (decide (m_.day ≤ ((l.getD i default).day))) rfl (gy_t rfl) (fun hg => (fun w' H => x_mv (v := I (i : Int)) rfl)) ?_
      refine d_qg (decide (m_.day ≤ ((l.getD i default).day))) rfl (gy_t rfl) (fun hg => (fun w' H => x_ix (a := v_l) (b := I (i : Int)) (v := vat v_l 5 (Int.toNat (i : Int))) (gd_of (c := decide (m_.day ≤ ((l.getD i default).day))) hg (v_l)) (gd_of (c := decide (m_.day ≤ ((l.getD i default).day))) hg (I (i : Int))) (Sl.ix (α := Line) T62.und T62.size (ownSl (H.get (k := 1) rfl)) (by first | omega | (have hx_ := hg; simp at hx_; omega)) (by first | omega | (have hx_ := hg; simp at hx_; omega))))) ?_
      refine d_qg (decide (m_.day ≤ ((l.getD i default).day))) rfl (gy_t rfl) (fun hg => (fun w' H => x_fa (a := vat v_l 5 (Int.toNat (i : Int))) (v := fat (vat v_l 5 (Int.toNat (i : Int))) 1) (gd_of (c := decide (m_.day ≤ ((l.getD i default).day))) hg (vat v_l 5 (Int.toNat (i : Int)))) (fa_pl Fd133_1 Sz3 (Sl.pl (i := (i : Int)) (ownSl (H.get (k := 1) rfl)) (by first | omega | (have hx_ := hg; simp at hx_; omega)) (by first | omega | (have hx_ := hg; simp at hx_; omega)))))) ?_
      refine d_qg (decide (m_.day ≤ ((l.getD i default).day))) rfl (gy_t rfl) (fun hg => (fun w' H => x_ld (p := fat (vat v_l 5 (Int.toNat (i : Int))) 1) (v := I ((l.getD i default).dst)) (gd_of (c := decide (m_.day ≤ ((l.getD i default).day))) hg (fat (vat v_l 5 (Int.toNat (i : Int))) 1)) (ld_sc Sc3 (At.mono (Line_at1 (ownSl (H.get (k := 1) rfl)) (i := (i : Int)) (by first | omega | (have hx_ := hg; simp at hx_; omega)) (by first | omega | (have hx_ := hg; simp at hx_; omega))) (ownLe _ (H.get (k := 1) rfl)))))) ?_
      refine d_qg (decide (m_.day ≤ ((l.getD i default).day))) rfl (gy_t rfl) (fun hg => (fun w' H => x_fa (a := .pointer (some ⟨b_2, 0, none⟩)) (v := .pointer (some ⟨b_2, 0, none⟩)) rfl (fa_blk (o := 0) Fd68_0 Sz3))) ?_
      refine d_qg (decide (m_.day ≤ ((l.getD i default).day))) rfl (gy_t rfl) (fun hg => (fun w' H => x_ld (p := .pointer (some ⟨b_2, 0, none⟩)) (v := I m_.mark) (gd_of (c := decide (m_.day ≤ ((l.getD i default).day))) hg (.pointer (some ⟨b_2, 0, none⟩))) (ldb_sc Sc3 (H.blk (k := 3) rfl) rfl))) ?_
      refine d_qg (decide (m_.day ≤ ((l.getD i default).day))) rfl (gy_t rfl) (fun hg => (fun w' H => x_cmp (kd := .i64) (a := (l.getD i default).dst) (b := m_.mark) (r := ((l.getD i default).dst) == m_.mark) (gd_of (c := decide (m_.day ≤ ((l.getD i default).day))) hg (I ((l.getD i default).dst))) (gd_of (c := decide (m_.day ≤ ((l.getD i default).day))) hg (I m_.mark)) rfl)) ?_
      refine d_q rfl (fun w' H => x_pand (b := decide (m_.day ≤ ((l.getD i default).day))) (r := ((l.getD i default).dst) == m_.mark) rfl (fun hb => gd_of (c := decide (m_.day ≤ ((l.getD i default).day))) (by first | exact hb | (rw [hb]; rfl) | simp_all) (B (((l.getD i default).dst) == m_.mark))) rfl) ?_
      refine d_nil ?_
      refine W.cond ((decide (m_.day ≤ ((l.getD i default).day))) && (((l.getD i default).dst) == m_.mark)) rfl (fun c112z => ?_) (fun c112z => ?_)
      ·replace hM := M.e_t hM c112z
       refine W.region rfl ?_
       refine s_val (x_fa (a := .pointer (some ⟨b_5, 0, none⟩)) (v := .pointer (some ⟨b_5, 1, none⟩)) rfl (fa_blk (o := 0) Fd64_1 Sz62)) ?_
       refine s_val (x_ld (p := .pointer (some ⟨b_5, 1, none⟩)) (v := v_l) rfl (ldb_sc Sc62 (H.blk (k := 0) rfl) rfl)) ?_
       refine s_val (x_mv (v := I (i : Int)) rfl) ?_
       refine s_val (x_fa (a := .pointer (some ⟨b_1, 0, none⟩)) (v := .pointer (some ⟨b_1, 0, none⟩)) rfl (fa_blk (o := 0) Fd64_0 Sz3)) ?_
       refine s_val (x_ld (p := .pointer (some ⟨b_1, 0, none⟩)) (v := I n_Marks) rfl (ldb_sc Sc3 (H.blk (k := 4) rfl) rfl)) ?_
       refine s_val (x_ix (a := v_l) (b := I (i : Int)) (v := vat v_l 5 (Int.toNat (i : Int))) rfl rfl (Sl.ix (α := Line) T62.und T62.size (ownSl (H.get (k := 1) rfl)) (by omega) (by omega))) ?_
       refine s_val (x_fa (a := vat v_l 5 (Int.toNat (i : Int))) (v := fat (vat v_l 5 (Int.toNat (i : Int))) 1) rfl (fa_pl Fd133_1 Sz3 (Sl.pl (i := (i : Int)) (ownSl (H.get (k := 1) rfl)) (by omega) (by omega)))) ?_
       refine t_fst (α := Line) (k := 1) (i := (i : Int)) (off := 1) (l := l) (l' := l.set i ({ (l.getD i default) with dst := n_Marks })) (val := I n_Marks) (L' := [cBlk b_5 [I (n_Marks + 1), v_l] 64, cOwn (α := Line) 133 v_l (l.set i ({ (l.getD i default) with dst := n_Marks })), cBlk b_3 [I 0, .slice none 0 0] 64, cBlk b_2 [I m_.mark, I m_.day] 68, cBlk b_1 [I n_Marks, v_n_Lines] 64]) H rfl Sz3 (by omega) (by omega) (l.getD i default) ({ (l.getD i default) with dst := n_Marks }) (getD_some _ (by omega) _) rfl rfl [I n_Marks] rfl rfl rfl rfl rfl rfl rfl ?_
       intro w113z H
       have hls_q114z : (l.set i ({ (l.getD i default) with dst := n_Marks })).length = (l).length := List.length_set
       refine s_nil ?_
       refine W.region rfl ?_
       refine s_val (x_mv (v := I (i : Int)) rfl) ?_
       refine s_val (x_ari (a := (i : Int)) (b := 1) (r := (i : Int) + 1) rfl rfl rfl (by omega)) ?_
       refine s_val (x_as (v := I ((i : Int) + 1)) rfl) ?_
       refine s_nil ?_
       exact ⟨m94z, lt95z, l.set i ({ (l.getD i default) with dst := n_Marks }), i + 1, v_l, _, upds_of _ _ ⟨rfl, rfl, rfl, rfl, rfl, trivial⟩, M.e_inl hM hN97z, H⟩
      ·replace hM := M.e_f hM c112z
       refine W.skip ?_
       refine W.region rfl ?_
       refine s_val (x_mv (v := I (i : Int)) rfl) ?_
       refine s_val (x_ari (a := (i : Int)) (b := 1) (r := (i : Int) + 1) rfl rfl rfl (by omega)) ?_
       refine s_val (x_as (v := I ((i : Int) + 1)) rfl) ?_
       refine s_nil ?_
       exact ⟨m94z, lt95z, l, i + 1, v_l, _, upds_of _ _ ⟨rfl, rfl, rfl, rfl, rfl, trivial⟩, M.e_inl hM hN97z, H⟩
    ·replace hM := M.e_f hM c99z
     simp only [decide_eq_true_eq, decide_eq_false_iff_not, beq_iff_eq, bne_iff_ne, beq_eq_false_iff_ne, bne_eq_false_iff_eq, ne_eq, Decidable.not_not] at c99z
     refine W.exit ?_
     have hX115z := M.e_inr hM hN97z
     subst hX115z
     replace hM := hk90z
     try dsimp only at hM
     refine W.seq ?_
     refine W.region rfl ?_
     refine s_val (x_ld (p := .pointer (some ⟨b_5, 0, none⟩)) (v := .agg #[I (n_Marks + 1), v_l]) rfl (ldb_ag (ds := [I (n_Marks + 1), v_l]) Ag64 Sz64 (H.blk (k := 0) rfl) rfl rfl)) ?_
     refine t_st (k := 2) (b := b_3) (off := 0) (cs := [I 0, .slice none 0 0]) (vs := [I (n_Marks + 1), v_l]) (cs' := [I (n_Marks + 1), v_l]) (v := .agg #[I (n_Marks + 1), v_l]) (L' := [cBlk b_5 [I (n_Marks + 1), v_l] 64, cOwn (α := Line) 133 v_l l, cBlk b_3 [I (n_Marks + 1), v_l] 64, cBlk b_2 [I m_.mark, I m_.day] 68, cBlk b_1 [I n_Marks, v_n_Lines] 64]) H rfl rfl rfl Sz64 rfl rfl rfl (by simp only [List.all_cons, List.all_nil, Bool.true_and, Bool.and_true, Sl.oc (ownSl (H.get (k := 1) rfl))]; try rfl) rfl rfl ?_
     intro w116z H
     refine s_nil ?_
     refine W.ret ?_
     have hb117z := (H.blk (k := 2) rfl)
     have hr_ := M.e_pure hM
     exact ⟨_, (resE_of1 (v := .agg #[I (n_Marks + 1), v_l]) rfl (.cell (v := .agg #[I (n_Marks + 1), v_l]) rfl (run_loadVar_ag (ds := [I (n_Marks + 1), v_l]) Ag64 Sz64 hb117z rfl rfl) <| .nil)), ⟨(n_Marks + 1), l, v_l, hr_, rfl, (H.pick [1] (by decide) rfl)⟩⟩
 ·skip
  refine t_alloc (cs := [I 0, .slice none 0 0]) H Al64 rfl ?_
  intro b_5 w118z H
  refine s_nil ⟨(H.pick [1, 2, 3] (by decide) rfl), ?_⟩
  refine t_l rfl ?_
  refine t_bs0 (α := Line) T62 H ?_
  intro v119z w120z H
  have hvc_q121z := Sl.cells (ownSl (H.get (k := 0) rfl))
  have hvo_q121z := Sl.oc (ownSl (H.get (k := 0) rfl))
  refine s_nil ⟨(H.pick [2, 3, 4] (by decide) rfl), ?_⟩
  refine t_l rfl ?_
  refine t_app (α := Line) (k := 0) (l := []) (l2 := n_Lines) (l' := n_Lines) (vy := v_n_Lines) T62 rfl H rfl rfl rfl hs_n_Lines (hC_n_Lines.at H) (List.nil_append _) (by first | omega | (simp only [List.length_nil] at *; omega)) ?_
  intro v122z w123z H
  replace H : St w w123z [cOwn (α := Line) 133 v122z n_Lines, cBlk b_5 [I 0, .slice none 0 0] 64, cBlk b_3 [I 0, .slice none 0 0] 64, cBlk b_2 [I m_.mark, I m_.day] 68, cBlk b_1 [I n_Marks, v_n_Lines] 64] R := H
  have hvc_q124z := Sl.cells (ownSl (H.get (k := 0) rfl))
  have hvo_q124z := Sl.oc (ownSl (H.get (k := 0) rfl))
  refine s_nil ⟨(H.pick [2, 3, 4] (by decide) rfl), ?_⟩
  refine t_l rfl ?_
  refine s_val (x_bld (ps := [(0, I (n_Marks + 1)), (1, v122z)]) (zs := [I 0, .slice none 0 0]) (L' := [I (n_Marks + 1), v122z]) rfl Try.underlying64 Al64 rfl (Bd64 Try.underlying64) (.cons (cs := [I (n_Marks + 1)]) rfl rfl rfl rfl rfl <| .cons (cs := [v122z]) (Sl.cells (ownSl (H.get (k := 0) rfl))) rfl rfl rfl rfl <| .nil)) ?_
  refine s_nil ⟨(H.pick [2, 3, 4] (by decide) rfl), ?_⟩
  refine t_l rfl ?_
  refine t_st (k := 1) (b := b_5) (off := 0) (cs := [I 0, .slice none 0 0]) (vs := [I (n_Marks + 1), v122z]) (cs' := [I (n_Marks + 1), v122z]) (v := .agg #[I (n_Marks + 1), v122z]) (L' := [cOwn (α := Line) 133 v122z n_Lines, cBlk b_5 [I (n_Marks + 1), v122z] 64, cBlk b_3 [I 0, .slice none 0 0] 64, cBlk b_2 [I m_.mark, I m_.day] 68, cBlk b_1 [I n_Marks, v_n_Lines] 64]) H rfl rfl rfl Sz64 rfl rfl rfl (by simp only [List.all_cons, List.all_nil, Bool.true_and, Bool.and_true, Sl.oc (ownSl (H.get (k := 0) rfl))]; try rfl) rfl rfl ?_
  intro w125z H
  refine s_nil ⟨(H.pick [2, 3, 4] (by decide) rfl), ?_⟩
  refine t_nil ?_
  refine W.seq ?_
  refine W.seq ?_
  refine W.region rfl ?_
  refine s_val (x_as (v := I 0) rfl) ?_
  refine s_nil ?_
  refine W.block ?_
  obtain ⟨ex126z, hi127z, hk128z⟩ := M.e_bind hM
  obtain ⟨m0_, hi127z⟩ := M.e_iter hi127z
  refine W.loop (fun m σ W => ∃ (l : List Line) (i : Nat) (v_l : Value) (ρ : Env), σ = upds ρ [(2, .pointer (some ⟨b_1, 0, none⟩)), (3, .pointer (some ⟨b_2, 0, none⟩)), (4, .pointer (some ⟨b_3, 0, none⟩)), (5, .pointer (some ⟨b_5, 0, none⟩)), (6, I (i : Int))] ∧ M.iterN (m_nilometerref01_parted_b0 n_Marks m_) m (l, i) = some ex126z ∧ St w W [cOwn (α := Line) 133 v_l l, cBlk b_5 [I (n_Marks + 1), v_l] 64, cBlk b_3 [I 0, .slice none 0 0] 64, cBlk b_2 [I m_.mark, I m_.day] 68, cBlk b_1 [I n_Marks, v_n_Lines] 64] R) ?_ ?_
  ·exact ⟨_, n_Lines, 0, v122z, _, upds_of _ _ ⟨rfl, rfl, rfl, rfl, rfl, trivial⟩, hi127z, H⟩
  ·rintro m131z σ w129z ⟨l, i, v_l, ρ, rfl, hI130z, H⟩
   obtain ⟨m132z, lt133z, x134z, hM, hN135z⟩ := M.e_iterN hI130z
   simp only [m_nilometerref01_parted_b0] at hM
   clear hI130z
   refine W.seq ?_
   refine W.seq ?_
   refine W.region rfl ?_
   refine s_val (x_mv (v := I (i : Int)) rfl) ?_
   refine s_val (x_fa (a := .pointer (some ⟨b_5, 0, none⟩)) (v := .pointer (some ⟨b_5, 1, none⟩)) rfl (fa_blk (o := 0) Fd64_1 Sz62)) ?_
   refine s_val (x_ld (p := .pointer (some ⟨b_5, 1, none⟩)) (v := v_l) rfl (ldb_sc Sc62 (H.blk (k := 1) rfl) rfl)) ?_
   have hl136z := ((ownSl (H.get (k := 0) rfl))).len_le
   refine s_val (x_lenS T62.und rfl (ownSl (H.get (k := 0) rfl))) ?_
   refine s_val (x_cmp (kd := .i64) (a := (i : Int)) (b := (l.length : Int)) (r := decide ((i : Int) < (l.length : Int))) rfl rfl rfl) ?_
   refine s_nil ?_
   refine W.cond (decide ((i : Int) < (l.length : Int))) rfl (fun c137z => ?_) (fun c137z => ?_)
   ·replace hM := M.e_t hM c137z
    simp only [decide_eq_true_eq, decide_eq_false_iff_not, beq_iff_eq, bne_iff_ne, beq_eq_false_iff_ne, bne_eq_false_iff_eq, ne_eq, Decidable.not_not] at c137z
    refine W.skip ?_
    refine W.seq ?_
    refine W.block ?_
    refine W.seq ?_
    refine W.seq ?_
    refine W.draw (fun W => St w W [cOwn (α := Line) 133 v_l l, cBlk b_5 [I (n_Marks + 1), v_l] 64, cBlk b_3 [I 0, .slice none 0 0] 64, cBlk b_2 [I m_.mark, I m_.day] 68, cBlk b_1 [I n_Marks, v_n_Lines] 64] R) [(0, true), (1, true), (2, true), (3, true), (4, true), (5, true), (6, true), (7, true), (8, true), (9, true), (10, true), (11, true), (12, true), (13, true), (14, true), (15, true), (16, true), (17, true), (18, true), (19, true)] mixed (by decide +kernel) rfl ?_
    intro w138z hx_
    replace H : St w w138z [cOwn (α := Line) 133 v_l l, cBlk b_5 [I (n_Marks + 1), v_l] 64, cBlk b_3 [I 0, .slice none 0 0] 64, cBlk b_2 [I m_.mark, I m_.day] 68, cBlk b_1 [I n_Marks, v_n_Lines] 64] R := H.ext hx_
    clear hx_
    refine ⟨(H.pick [0, 1, 2, 3, 4] (by decide) rfl), ?_⟩
    refine d_q rfl (fun w' H => x_fa (a := .pointer (some ⟨b_5, 0, none⟩)) (v := .pointer (some ⟨b_5, 1, none⟩)) rfl (fa_blk (o := 0) Fd64_1 Sz62)) ?_
    refine d_q rfl (fun w' H => x_ld (p := .pointer (some ⟨b_5, 1, none⟩)) (v := v_l) rfl (ldb_sc Sc62 (H.blk (k := 1) rfl) rfl)) ?_
    refine d_q rfl (fun w' H => x_mv (v := I (i : Int)) rfl) ?_
    obtain ⟨sd139z, hM⟩ := M.e_grd hM
    simp only [Bool.and_eq_true, decide_eq_true_eq] at sd139z
    refine d_q rfl (fun w' H => x_ix (a := v_l) (b := I (i : Int)) (v := vat v_l 5 (Int.toNat (i : Int))) rfl rfl (Sl.ix (α := Line) T62.und T62.size (ownSl (H.get (k := 0) rfl)) (by omega) (by omega))) ?_
    refine d_q rfl (fun w' H => x_fa (a := vat v_l 5 (Int.toNat (i : Int))) (v := fat (vat v_l 5 (Int.toNat (i : Int))) 2) rfl (fa_pl Fd133_2 Sz3 (Sl.pl (i := (i : Int)) (ownSl (H.get (k := 0) rfl)) (by omega) (by omega)))) ?_
    refine d_q rfl (fun w' H => x_ld (p := fat (vat v_l 5 (Int.toNat (i : Int))) 2) (v := I ((l.getD i default).day)) rfl (ld_sc Sc3 (At.mono (Line_at2 (ownSl (H.get (k := 0) rfl)) (i := (i : Int)) (by omega) (by omega)) (ownLe _ (H.get (k := 0) rfl))))) ?_
    refine d_q rfl (fun w' H => x_fa (a := .pointer (some ⟨b_2, 0, none⟩)) (v := .pointer (some ⟨b_2, 1, none⟩)) rfl (fa_blk (o := 0) Fd68_1 Sz3)) ?_
    refine d_q rfl (fun w' H => x_ld (p := .pointer (some ⟨b_2, 1, none⟩)) (v := I m_.day) rfl (ldb_sc Sc3 (H.blk (k := 3) rfl) rfl)) ?_
    refine d_q rfl (fun w' H => x_cmp (kd := .i64) (a := (l.getD i default).day) (b := m_.day) (r := decide (m_.day ≤ ((l.getD i default).day))) rfl rfl rfl) ?_
    refine d_q rfl (fun w' H => x_mv (v := B (decide (m_.day ≤ ((l.getD i default).day)))) rfl) ?_
    refine d_qg (decide (m_.day ≤ ((l.getD i default).day))) rfl (gy_t rfl) (fun hg => (fun w' H => x_fa (a := .pointer (some ⟨b_5, 0, none⟩)) (v := .pointer (some ⟨b_5, 1, none⟩)) rfl (fa_blk (o := 0) Fd64_1 Sz62))) ?_
    refine d_qg (decide (m_.day ≤ ((l.getD i default).day))) rfl (gy_t rfl) (fun hg => (fun w' H => x_ld (p := .pointer (some ⟨b_5, 1, none⟩)) (v := v_l) (gd_of (c := decide (m_.day ≤ ((l.getD i default).day))) hg (.pointer (some ⟨b_5, 1, none⟩))) (ldb_sc Sc62 (H.blk (k := 1) rfl) rfl))) ?_
    refine d_qg (decide (m_.day ≤ ((l.getD i default).day))) rfl (gy_t rfl) (fun hg => (fun w' H => x_mv (v := I (i : Int)) rfl)) ?_
    refine d_qg (decide (m_.day ≤ ((l.getD i default).day))) rfl (gy_t rfl) (fun hg => (fun w' H => x_ix (a := v_l) (b := I (i : Int)) (v := vat v_l 5 (Int.toNat (i : Int))) (gd_of (c := decide (m_.day ≤ ((l.getD i default).day))) hg (v_l)) (gd_of (c := decide (m_.day ≤ ((l.getD i default).day))) hg (I (i : Int))) (Sl.ix (α := Line) T62.und T62.size (ownSl (H.get (k := 0) rfl)) (by first | omega | (have hx_ := hg; simp at hx_; omega)) (by first | omega | (have hx_ := hg; simp at hx_; omega))))) ?_
    refine d_qg (decide (m_.day ≤ ((l.getD i default).day))) rfl (gy_t rfl) (fun hg => (fun w' H => x_fa (a := vat v_l 5 (Int.toNat (i : Int))) (v := fat (vat v_l 5 (Int.toNat (i : Int))) 0) (gd_of (c := decide (m_.day ≤ ((l.getD i default).day))) hg (vat v_l 5 (Int.toNat (i : Int)))) (fa_pl Fd133_0 Sz3 (Sl.pl (i := (i : Int)) (ownSl (H.get (k := 0) rfl)) (by first | omega | (have hx_ := hg; simp at hx_; omega)) (by first | omega | (have hx_ := hg; simp at hx_; omega)))))) ?_
    refine d_qg (decide (m_.day ≤ ((l.getD i default).day))) rfl (gy_t rfl) (fun hg => (fun w' H => x_ld (p := fat (vat v_l 5 (Int.toNat (i : Int))) 0) (v := I ((l.getD i default).src)) (gd_of (c := decide (m_.day ≤ ((l.getD i default).day))) hg (fat (vat v_l 5 (Int.toNat (i : Int))) 0)) (ld_sc Sc3 (At.mono (Line_at0 (ownSl (H.get (k := 0) rfl)) (i := (i : Int)) (by first | omega | (have hx_ := hg; simp at hx_; omega)) (by first | omega | (have hx_ := hg; simp at hx_; omega))) (ownLe _ (H.get (k := 0) rfl)))))) ?_
    refine d_qg (decide (m_.day ≤ ((l.getD i default).day))) rfl (gy_t rfl) (fun hg => (fun w' H => x_fa (a := .pointer (some ⟨b_2, 0, none⟩)) (v := .pointer (some ⟨b_2, 0, none⟩)) rfl (fa_blk (o := 0) Fd68_0 Sz3))) ?_
    refine d_qg (decide (m_.day ≤ ((l.getD i default).day))) rfl (gy_t rfl) (fun hg => (fun w' H => x_ld (p := .pointer (some ⟨b_2, 0, none⟩)) (v := I m_.mark) (gd_of (c := decide (m_.day ≤ ((l.getD i default).day))) hg (.pointer (some ⟨b_2, 0, none⟩))) (ldb_sc Sc3 (H.blk (k := 3) rfl) rfl))) ?_
    refine d_qg (decide (m_.day ≤ ((l.getD i default).day))) rfl (gy_t rfl) (fun hg => (fun w' H => x_cmp (kd := .i64) (a := (l.getD i default).src) (b := m_.mark) (r := ((l.getD i default).src) == m_.mark) (gd_of (c := decide (m_.day ≤ ((l.getD i default).day))) hg (I ((l.getD i default).src))) (gd_of (c := decide (m_.day ≤ ((l.getD i default).day))) hg (I m_.mark)) rfl)) ?_
    refine d_q rfl (fun w' H => x_pand (b := decide (m_.day ≤ ((l.getD i default).day))) (r := ((l.getD i default).src) == m_.mark) rfl (fun hb => gd_of (c := decide (m_.day ≤ ((l.getD i default).day))) (by first | exact hb | (rw [hb]; rfl) | simp_all) (B (((l.getD i default).src) == m_.mark))) rfl) ?_
    refine d_nil ?_
    refine W.cond ((decide (m_.day ≤ ((l.getD i default).day))) && (((l.getD i default).src) == m_.mark)) rfl (fun c140z => ?_) (fun c140z => ?_)
    ·replace hM := M.e_t hM c140z
     refine W.region rfl ?_
     refine s_val (x_fa (a := .pointer (some ⟨b_5, 0, none⟩)) (v := .pointer (some ⟨b_5, 1, none⟩)) rfl (fa_blk (o := 0) Fd64_1 Sz62)) ?_
     refine s_val (x_ld (p := .pointer (some ⟨b_5, 1, none⟩)) (v := v_l) rfl (ldb_sc Sc62 (H.blk (k := 1) rfl) rfl)) ?_
     refine s_val (x_mv (v := I (i : Int)) rfl) ?_
     refine s_val (x_fa (a := .pointer (some ⟨b_1, 0, none⟩)) (v := .pointer (some ⟨b_1, 0, none⟩)) rfl (fa_blk (o := 0) Fd64_0 Sz3)) ?_
     refine s_val (x_ld (p := .pointer (some ⟨b_1, 0, none⟩)) (v := I n_Marks) rfl (ldb_sc Sc3 (H.blk (k := 4) rfl) rfl)) ?_
     refine s_val (x_ix (a := v_l) (b := I (i : Int)) (v := vat v_l 5 (Int.toNat (i : Int))) rfl rfl (Sl.ix (α := Line) T62.und T62.size (ownSl (H.get (k := 0) rfl)) (by omega) (by omega))) ?_
     refine s_val (x_fa (a := vat v_l 5 (Int.toNat (i : Int))) (v := fat (vat v_l 5 (Int.toNat (i : Int))) 0) rfl (fa_pl Fd133_0 Sz3 (Sl.pl (i := (i : Int)) (ownSl (H.get (k := 0) rfl)) (by omega) (by omega)))) ?_
     refine t_fst (α := Line) (k := 0) (i := (i : Int)) (off := 0) (l := l) (l' := l.set i ({ (l.getD i default) with src := n_Marks })) (val := I n_Marks) (L' := [cOwn (α := Line) 133 v_l (l.set i ({ (l.getD i default) with src := n_Marks })), cBlk b_5 [I (n_Marks + 1), v_l] 64, cBlk b_3 [I 0, .slice none 0 0] 64, cBlk b_2 [I m_.mark, I m_.day] 68, cBlk b_1 [I n_Marks, v_n_Lines] 64]) H rfl Sz3 (by omega) (by omega) (l.getD i default) ({ (l.getD i default) with src := n_Marks }) (getD_some _ (by omega) _) rfl rfl [I n_Marks] rfl rfl rfl rfl rfl rfl rfl ?_
     intro w141z H
     have hls_q142z : (l.set i ({ (l.getD i default) with src := n_Marks })).length = (l).length := List.length_set
     refine s_nil ?_
     refine W.seq ?_
     refine W.draw (fun W => St w W [cOwn (α := Line) 133 v_l (l.set i ({ (l.getD i default) with src := n_Marks })), cBlk b_5 [I (n_Marks + 1), v_l] 64, cBlk b_3 [I 0, .slice none 0 0] 64, cBlk b_2 [I m_.mark, I m_.day] 68, cBlk b_1 [I n_Marks, v_n_Lines] 64] R) [(0, true), (1, true), (2, true), (3, true), (4, true), (5, true), (6, true), (7, true), (8, true), (9, true), (10, true), (11, true), (12, true), (13, true), (14, true), (15, true), (16, true), (17, true), (18, true), (19, true)] mixed (by decide +kernel) rfl ?_
     intro w143z hx_
     replace H : St w w143z [cOwn (α := Line) 133 v_l (l.set i ({ (l.getD i default) with src := n_Marks })), cBlk b_5 [I (n_Marks + 1), v_l] 64, cBlk b_3 [I 0, .slice none 0 0] 64, cBlk b_2 [I m_.mark, I m_.day] 68, cBlk b_1 [I n_Marks, v_n_Lines] 64] R := H.ext hx_
     clear hx_
     refine ⟨(H.pick [0, 1, 2, 3, 4] (by decide) rfl), ?_⟩
     refine d_q rfl (fun w' H => x_fa (a := .pointer (some ⟨b_5, 0, none⟩)) (v := .pointer (some ⟨b_5, 1, none⟩)) rfl (fa_blk (o := 0) Fd64_1 Sz62)) ?_
     refine d_q rfl (fun w' H => x_ld (p := .pointer (some ⟨b_5, 1, none⟩)) (v := v_l) rfl (ldb_sc Sc62 (H.blk (k := 1) rfl) rfl)) ?_
     refine d_q rfl (fun w' H => x_mv (v := I (i : Int)) rfl) ?_
     obtain ⟨sd144z, hM⟩ := M.e_grd hM
     simp only [Bool.and_eq_true, decide_eq_true_eq] at sd144z
     refine d_q rfl (fun w' H => x_ix (a := v_l) (b := I (i : Int)) (v := vat v_l 5 (Int.toNat (i : Int))) rfl rfl (Sl.ix (α := Line) T62.und T62.size (ownSl (H.get (k := 0) rfl)) (by omega) (by omega))) ?_
     refine d_q rfl (fun w' H => x_fa (a := vat v_l 5 (Int.toNat (i : Int))) (v := fat (vat v_l 5 (Int.toNat (i : Int))) 2) rfl (fa_pl Fd133_2 Sz3 (Sl.pl (i := (i : Int)) (ownSl (H.get (k := 0) rfl)) (by omega) (by omega)))) ?_
     refine d_q rfl (fun w' H => x_ld (p := fat (vat v_l 5 (Int.toNat (i : Int))) 2) (v := I (((l.set i ({ (l.getD i default) with src := n_Marks })).getD i default).day)) rfl (ld_sc Sc3 (At.mono (Line_at2 (ownSl (H.get (k := 0) rfl)) (i := (i : Int)) (by omega) (by omega)) (ownLe _ (H.get (k := 0) rfl))))) ?_
     refine d_q rfl (fun w' H => x_fa (a := .pointer (some ⟨b_2, 0, none⟩)) (v := .pointer (some ⟨b_2, 1, none⟩)) rfl (fa_blk (o := 0) Fd68_1 Sz3)) ?_
     refine d_q rfl (fun w' H => x_ld (p := .pointer (some ⟨b_2, 1, none⟩)) (v := I m_.day) rfl (ldb_sc Sc3 (H.blk (k := 3) rfl) rfl)) ?_
     refine d_q rfl (fun w' H => x_cmp (kd := .i64) (a := ((l.set i ({ (l.getD i default) with src := n_Marks })).getD i default).day) (b := m_.day) (r := decide (m_.day ≤ (((l.set i ({ (l.getD i default) with src := n_Marks })).getD i default).day))) rfl rfl rfl) ?_
     refine d_q rfl (fun w' H => x_mv (v := B (decide (m_.day ≤ (((l.set i ({ (l.getD i default) with src := n_Marks })).getD i default).day)))) rfl) ?_
     refine d_qg (decide (m_.day ≤ (((l.set i ({ (l.getD i default) with src := n_Marks })).getD i default).day))) rfl (gy_t rfl) (fun hg => (fun w' H => x_fa (a := .pointer (some ⟨b_5, 0, none⟩)) (v := .pointer (some ⟨b_5, 1, none⟩)) rfl (fa_blk (o := 0) Fd64_1 Sz62))) ?_
     refine d_qg (decide (m_.day ≤ (((l.set i ({ (l.getD i default) with src := n_Marks })).getD i default).day))) rfl (gy_t rfl) (fun hg => (fun w' H => x_ld (p := .pointer (some ⟨b_5, 1, none⟩)) (v := v_l) (gd_of (c := decide (m_.day ≤ (((l.set i ({ (l.getD i default) with src := n_Marks })).getD i default).day))) hg (.pointer (some ⟨b_5, 1, none⟩))) (ldb_sc Sc62 (H.blk (k := 1) rfl) rfl))) ?_
     refine d_qg (decide (m_.day ≤ (((l.set i ({ (l.getD i default) with src := n_Marks })).getD i default).day))) rfl (gy_t rfl) (fun hg => (fun w' H => x_mv (v := I (i : Int)) rfl)) ?_
     refine d_qg (decide (m_.day ≤ (((l.set i ({ (l.getD i default) with src := n_Marks })).getD i default).day))) rfl (gy_t rfl) (fun hg => (fun w' H => x_ix (a := v_l) (b := I (i : Int)) (v := vat v_l 5 (Int.toNat (i : Int))) (gd_of (c := decide (m_.day ≤ (((l.set i ({ (l.getD i default) with src := n_Marks })).getD i default).day))) hg (v_l)) (gd_of (c := decide (m_.day ≤ (((l.set i ({ (l.getD i default) with src := n_Marks })).getD i default).day))) hg (I (i : Int))) (Sl.ix (α := Line) T62.und T62.size (ownSl (H.get (k := 0) rfl)) (by first | omega | (have hx_ := hg; simp at hx_; omega)) (by first | omega | (have hx_ := hg; simp at hx_; omega))))) ?_
     refine d_qg (decide (m_.day ≤ (((l.set i ({ (l.getD i default) with src := n_Marks })).getD i default).day))) rfl (gy_t rfl) (fun hg => (fun w' H => x_fa (a := vat v_l 5 (Int.toNat (i : Int))) (v := fat (vat v_l 5 (Int.toNat (i : Int))) 1) (gd_of (c := decide (m_.day ≤ (((l.set i ({ (l.getD i default) with src := n_Marks })).getD i default).day))) hg (vat v_l 5 (Int.toNat (i : Int)))) (fa_pl Fd133_1 Sz3 (Sl.pl (i := (i : Int)) (ownSl (H.get (k := 0) rfl)) (by first | omega | (have hx_ := hg; simp at hx_; omega)) (by first | omega | (have hx_ := hg; simp at hx_; omega)))))) ?_
     refine d_qg (decide (m_.day ≤ (((l.set i ({ (l.getD i default) with src := n_Marks })).getD i default).day))) rfl (gy_t rfl) (fun hg => (fun w' H => x_ld (p := fat (vat v_l 5 (Int.toNat (i : Int))) 1) (v := I (((l.set i ({ (l.getD i default) with src := n_Marks })).getD i default).dst)) (gd_of (c := decide (m_.day ≤ (((l.set i ({ (l.getD i default) with src := n_Marks })).getD i default).day))) hg (fat (vat v_l 5 (Int.toNat (i : Int))) 1)) (ld_sc Sc3 (At.mono (Line_at1 (ownSl (H.get (k := 0) rfl)) (i := (i : Int)) (by first | omega | (have hx_ := hg; simp at hx_; omega)) (by first | omega | (have hx_ := hg; simp at hx_; omega))) (ownLe _ (H.get (k := 0) rfl)))))) ?_
     refine d_qg (decide (m_.day ≤ (((l.set i ({ (l.getD i default) with src := n_Marks })).getD i default).day))) rfl (gy_t rfl) (fun hg => (fun w' H => x_fa (a := .pointer (some ⟨b_2, 0, none⟩)) (v := .pointer (some ⟨b_2, 0, none⟩)) rfl (fa_blk (o := 0) Fd68_0 Sz3))) ?_
     refine d_qg (decide (m_.day ≤ (((l.set i ({ (l.getD i default) with src := n_Marks })).getD i default).day))) rfl (gy_t rfl) (fun hg => (fun w' H => x_ld (p := .pointer (some ⟨b_2, 0, none⟩)) (v := I m_.mark) (gd_of (c := decide (m_.day ≤ (((l.set i ({ (l.getD i default) with src := n_Marks })).getD i default).day))) hg (.pointer (some ⟨b_2, 0, none⟩))) (ldb_sc Sc3 (H.blk (k := 3) rfl) rfl))) ?_
     refine d_qg (decide (m_.day ≤ (((l.set i ({ (l.getD i default) with src := n_Marks })).getD i default).day))) rfl (gy_t rfl) (fun hg => (fun w' H => x_cmp (kd := .i64) (a := ((l.set i ({ (l.getD i default) with src := n_Marks })).getD i default).dst) (b := m_.mark) (r := (((l.set i ({ (l.getD i default) with src := n_Marks })).getD i default).dst) == m_.mark) (gd_of (c := decide (m_.day ≤ (((l.set i ({ (l.getD i default) with src := n_Marks })).getD i default).day))) hg (I (((l.set i ({ (l.getD i default) with src := n_Marks })).getD i default).dst))) (gd_of (c := decide (m_.day ≤ (((l.set i ({ (l.getD i default) with src := n_Marks })).getD i default).day))) hg (I m_.mark)) rfl)) ?_
     refine d_q rfl (fun w' H => x_pand (b := decide (m_.day ≤ (((l.set i ({ (l.getD i default) with src := n_Marks })).getD i default).day))) (r := (((l.set i ({ (l.getD i default) with src := n_Marks })).getD i default).dst) == m_.mark) rfl (fun hb => gd_of (c := decide (m_.day ≤ (((l.set i ({ (l.getD i default) with src := n_Marks })).getD i default).day))) (by first | exact hb | (rw [hb]; rfl) | simp_all) (B ((((l.set i ({ (l.getD i default) with src := n_Marks })).getD i default).dst) == m_.mark))) rfl) ?_
     refine d_nil ?_
     refine W.cond ((decide (m_.day ≤ (((l.set i ({ (l.getD i default) with src := n_Marks })).getD i default).day))) && ((((l.set i ({ (l.getD i default) with src := n_Marks })).getD i default).dst) == m_.mark)) rfl (fun c145z => ?_) (fun c145z => ?_)
     ·replace hM := M.e_t hM c145z
      refine W.region rfl ?_
      refine s_val (x_fa (a := .pointer (some ⟨b_5, 0, none⟩)) (v := .pointer (some ⟨b_5, 1, none⟩)) rfl (fa_blk (o := 0) Fd64_1 Sz62)) ?_
      refine s_val (x_ld (p := .pointer (some ⟨b_5, 1, none⟩)) (v := v_l) rfl (ldb_sc Sc62 (H.blk (k := 1) rfl) rfl)) ?_
      refine s_val (x_mv (v := I (i : Int)) rfl) ?_
      refine s_val (x_fa (a := .pointer (some ⟨b_1, 0, none⟩)) (v := .pointer (some ⟨b_1, 0, none⟩)) rfl (fa_blk (o := 0) Fd64_0 Sz3)) ?_
      refine s_val (x_ld (p := .pointer (some ⟨b_1, 0, none⟩)) (v := I n_Marks) rfl (ldb_sc Sc3 (H.blk (k := 4) rfl) rfl)) ?_
      refine s_val (x_ix (a := v_l) (b := I (i : Int)) (v := vat v_l 5 (Int.toNat (i : Int))) rfl rfl (Sl.ix (α := Line) T62.und T62.size (ownSl (H.get (k := 0) rfl)) (by omega) (by omega))) ?_
      refine s_val (x_fa (a := vat v_l 5 (Int.toNat (i : Int))) (v := fat (vat v_l 5 (Int.toNat (i : Int))) 1) rfl (fa_pl Fd133_1 Sz3 (Sl.pl (i := (i : Int)) (ownSl (H.get (k := 0) rfl)) (by omega) (by omega)))) ?_
      refine t_fst (α := Line) (k := 0) (i := (i : Int)) (off := 1) (l := l.set i ({ (l.getD i default) with src := n_Marks })) (l' := (l.set i ({ (l.getD i default) with src := n_Marks })).set i ({ ((l.set i ({ (l.getD i default) with src := n_Marks })).getD i default) with dst := n_Marks })) (val := I n_Marks) (L' := [cOwn (α := Line) 133 v_l ((l.set i ({ (l.getD i default) with src := n_Marks })).set i ({ ((l.set i ({ (l.getD i default) with src := n_Marks })).getD i default) with dst := n_Marks })), cBlk b_5 [I (n_Marks + 1), v_l] 64, cBlk b_3 [I 0, .slice none 0 0] 64, cBlk b_2 [I m_.mark, I m_.day] 68, cBlk b_1 [I n_Marks, v_n_Lines] 64]) H rfl Sz3 (by omega) (by omega) ((l.set i ({ (l.getD i default) with src := n_Marks })).getD i default) ({ ((l.set i ({ (l.getD i default) with src := n_Marks })).getD i default) with dst := n_Marks }) (getD_some _ (by omega) _) rfl rfl [I n_Marks] rfl rfl rfl rfl rfl rfl rfl ?_
      intro w146z H
      have hls_q147z : ((l.set i ({ (l.getD i default) with src := n_Marks })).set i ({ ((l.set i ({ (l.getD i default) with src := n_Marks })).getD i default) with dst := n_Marks })).length = (l.set i ({ (l.getD i default) with src := n_Marks })).length := List.length_set
      refine s_nil ?_
      refine W.region rfl ?_
      refine s_val (x_mv (v := I (i : Int)) rfl) ?_
      refine s_val (x_ari (a := (i : Int)) (b := 1) (r := (i : Int) + 1) rfl rfl rfl (by omega)) ?_
      refine s_val (x_as (v := I ((i : Int) + 1)) rfl) ?_
      refine s_nil ?_
      exact ⟨m132z, lt133z, (l.set i ({ (l.getD i default) with src := n_Marks })).set i ({ ((l.set i ({ (l.getD i default) with src := n_Marks })).getD i default) with dst := n_Marks }), i + 1, v_l, _, upds_of _ _ ⟨rfl, rfl, rfl, rfl, rfl, trivial⟩, M.e_inl hM hN135z, H⟩
     ·replace hM := M.e_f hM c145z
      refine W.skip ?_
      refine W.region rfl ?_
      refine s_val (x_mv (v := I (i : Int)) rfl) ?_
      refine s_val (x_ari (a := (i : Int)) (b := 1) (r := (i : Int) + 1) rfl rfl rfl (by omega)) ?_
      refine s_val (x_as (v := I ((i : Int) + 1)) rfl) ?_
      refine s_nil ?_
      exact ⟨m132z, lt133z, l.set i ({ (l.getD i default) with src := n_Marks }), i + 1, v_l, _, upds_of _ _ ⟨rfl, rfl, rfl, rfl, rfl, trivial⟩, M.e_inl hM hN135z, H⟩
    ·replace hM := M.e_f hM c140z
     refine W.skip ?_
     refine W.seq ?_
     refine W.draw (fun W => St w W [cOwn (α := Line) 133 v_l l, cBlk b_5 [I (n_Marks + 1), v_l] 64, cBlk b_3 [I 0, .slice none 0 0] 64, cBlk b_2 [I m_.mark, I m_.day] 68, cBlk b_1 [I n_Marks, v_n_Lines] 64] R) [(0, true), (1, true), (2, true), (3, true), (4, true), (5, true), (6, true), (7, true), (8, true), (9, true), (10, true), (11, true), (12, true), (13, true), (14, true), (15, true), (16, true), (17, true), (18, true), (19, true)] mixed (by decide +kernel) rfl ?_
     intro w148z hx_
     replace H : St w w148z [cOwn (α := Line) 133 v_l l, cBlk b_5 [I (n_Marks + 1), v_l] 64, cBlk b_3 [I 0, .slice none 0 0] 64, cBlk b_2 [I m_.mark, I m_.day] 68, cBlk b_1 [I n_Marks, v_n_Lines] 64] R := H.ext hx_
     clear hx_
     refine ⟨(H.pick [0, 1, 2, 3, 4] (by decide) rfl), ?_⟩
     refine d_q rfl (fun w' H => x_fa (a := .pointer (some ⟨b_5, 0, none⟩)) (v := .pointer (some ⟨b_5, 1, none⟩)) rfl (fa_blk (o := 0) Fd64_1 Sz62)) ?_
     refine d_q rfl (fun w' H => x_ld (p := .pointer (some ⟨b_5, 1, none⟩)) (v := v_l) rfl (ldb_sc Sc62 (H.blk (k := 1) rfl) rfl)) ?_
     refine d_q rfl (fun w' H => x_mv (v := I (i : Int)) rfl) ?_
     obtain ⟨sd149z, hM⟩ := M.e_grd hM
     simp only [Bool.and_eq_true, decide_eq_true_eq] at sd149z
     refine d_q rfl (fun w' H => x_ix (a := v_l) (b := I (i : Int)) (v := vat v_l 5 (Int.toNat (i : Int))) rfl rfl (Sl.ix (α := Line) T62.und T62.size (ownSl (H.get (k := 0) rfl)) (by omega) (by omega))) ?_
     refine d_q rfl (fun w' H => x_fa (a := vat v_l 5 (Int.toNat (i : Int))) (v := fat (vat v_l 5 (Int.toNat (i : Int))) 2) rfl (fa_pl Fd133_2 Sz3 (Sl.pl (i := (i : Int)) (ownSl (H.get (k := 0) rfl)) (by omega) (by omega)))) ?_
     refine d_q rfl (fun w' H => x_ld (p := fat (vat v_l 5 (Int.toNat (i : Int))) 2) (v := I ((l.getD i default).day)) rfl (ld_sc Sc3 (At.mono (Line_at2 (ownSl (H.get (k := 0) rfl)) (i := (i : Int)) (by omega) (by omega)) (ownLe _ (H.get (k := 0) rfl))))) ?_
     refine d_q rfl (fun w' H => x_fa (a := .pointer (some ⟨b_2, 0, none⟩)) (v := .pointer (some ⟨b_2, 1, none⟩)) rfl (fa_blk (o := 0) Fd68_1 Sz3)) ?_
     refine d_q rfl (fun w' H => x_ld (p := .pointer (some ⟨b_2, 1, none⟩)) (v := I m_.day) rfl (ldb_sc Sc3 (H.blk (k := 3) rfl) rfl)) ?_
     refine d_q rfl (fun w' H => x_cmp (kd := .i64) (a := (l.getD i default).day) (b := m_.day) (r := decide (m_.day ≤ ((l.getD i default).day))) rfl rfl rfl) ?_
     refine d_q rfl (fun w' H => x_mv (v := B (decide (m_.day ≤ ((l.getD i default).day)))) rfl) ?_
     refine d_qg (decide (m_.day ≤ ((l.getD i default).day))) rfl (gy_t rfl) (fun hg => (fun w' H => x_fa (a := .pointer (some ⟨b_5, 0, none⟩)) (v := .pointer (some ⟨b_5, 1, none⟩)) rfl (fa_blk (o := 0) Fd64_1 Sz62))) ?_
     refine d_qg (decide (m_.day ≤ ((l.getD i default).day))) rfl (gy_t rfl) (fun hg => (fun w' H => x_ld (p := .pointer (some ⟨b_5, 1, none⟩)) (v := v_l) (gd_of (c := decide (m_.day ≤ ((l.getD i default).day))) hg (.pointer (some ⟨b_5, 1, none⟩))) (ldb_sc Sc62 (H.blk (k := 1) rfl) rfl))) ?_
     refine d_qg (decide (m_.day ≤ ((l.getD i default).day))) rfl (gy_t rfl) (fun hg => (fun w' H => x_mv (v := I (i : Int)) rfl)) ?_
     refine d_qg (decide (m_.day ≤ ((l.getD i default).day))) rfl (gy_t rfl) (fun hg => (fun w' H => x_ix (a := v_l) (b := I (i : Int)) (v := vat v_l 5 (Int.toNat (i : Int))) (gd_of (c := decide (m_.day ≤ ((l.getD i default).day))) hg (v_l)) (gd_of (c := decide (m_.day ≤ ((l.getD i default).day))) hg (I (i : Int))) (Sl.ix (α := Line) T62.und T62.size (ownSl (H.get (k := 0) rfl)) (by first | omega | (have hx_ := hg; simp at hx_; omega)) (by first | omega | (have hx_ := hg; simp at hx_; omega))))) ?_
     refine d_qg (decide (m_.day ≤ ((l.getD i default).day))) rfl (gy_t rfl) (fun hg => (fun w' H => x_fa (a := vat v_l 5 (Int.toNat (i : Int))) (v := fat (vat v_l 5 (Int.toNat (i : Int))) 1) (gd_of (c := decide (m_.day ≤ ((l.getD i default).day))) hg (vat v_l 5 (Int.toNat (i : Int)))) (fa_pl Fd133_1 Sz3 (Sl.pl (i := (i : Int)) (ownSl (H.get (k := 0) rfl)) (by first | omega | (have hx_ := hg; simp at hx_; omega)) (by first | omega | (have hx_ := hg; simp at hx_; omega)))))) ?_
     refine d_qg (decide (m_.day ≤ ((l.getD i default).day))) rfl (gy_t rfl) (fun hg => (fun w' H => x_ld (p := fat (vat v_l 5 (Int.toNat (i : Int))) 1) (v := I ((l.getD i default).dst)) (gd_of (c := decide (m_.day ≤ ((l.getD i default).day))) hg (fat (vat v_l 5 (Int.toNat (i : Int))) 1)) (ld_sc Sc3 (At.mono (Line_at1 (ownSl (H.get (k := 0) rfl)) (i := (i : Int)) (by first | omega | (have hx_ := hg; simp at hx_; omega)) (by first | omega | (have hx_ := hg; simp at hx_; omega))) (ownLe _ (H.get (k := 0) rfl)))))) ?_
     refine d_qg (decide (m_.day ≤ ((l.getD i default).day))) rfl (gy_t rfl) (fun hg => (fun w' H => x_fa (a := .pointer (some ⟨b_2, 0, none⟩)) (v := .pointer (some ⟨b_2, 0, none⟩)) rfl (fa_blk (o := 0) Fd68_0 Sz3))) ?_
     refine d_qg (decide (m_.day ≤ ((l.getD i default).day))) rfl (gy_t rfl) (fun hg => (fun w' H => x_ld (p := .pointer (some ⟨b_2, 0, none⟩)) (v := I m_.mark) (gd_of (c := decide (m_.day ≤ ((l.getD i default).day))) hg (.pointer (some ⟨b_2, 0, none⟩))) (ldb_sc Sc3 (H.blk (k := 3) rfl) rfl))) ?_
     refine d_qg (decide (m_.day ≤ ((l.getD i default).day))) rfl (gy_t rfl) (fun hg => (fun w' H => x_cmp (kd := .i64) (a := (l.getD i default).dst) (b := m_.mark) (r := ((l.getD i default).dst) == m_.mark) (gd_of (c := decide (m_.day ≤ ((l.getD i default).day))) hg (I ((l.getD i default).dst))) (gd_of (c := decide (m_.day ≤ ((l.getD i default).day))) hg (I m_.mark)) rfl)) ?_
     refine d_q rfl (fun w' H => x_pand (b := decide (m_.day ≤ ((l.getD i default).day))) (r := ((l.getD i default).dst) == m_.mark) rfl (fun hb => gd_of (c := decide (m_.day ≤ ((l.getD i default).day))) (by first | exact hb | (rw [hb]; rfl) | simp_all) (B (((l.getD i default).dst) == m_.mark))) rfl) ?_
     refine d_nil ?_
     refine W.cond ((decide (m_.day ≤ ((l.getD i default).day))) && (((l.getD i default).dst) == m_.mark)) rfl (fun c150z => ?_) (fun c150z => ?_)
     ·replace hM := M.e_t hM c150z
      refine W.region rfl ?_
      refine s_val (x_fa (a := .pointer (some ⟨b_5, 0, none⟩)) (v := .pointer (some ⟨b_5, 1, none⟩)) rfl (fa_blk (o := 0) Fd64_1 Sz62)) ?_
      refine s_val (x_ld (p := .pointer (some ⟨b_5, 1, none⟩)) (v := v_l) rfl (ldb_sc Sc62 (H.blk (k := 1) rfl) rfl)) ?_
      refine s_val (x_mv (v := I (i : Int)) rfl) ?_
      refine s_val (x_fa (a := .pointer (some ⟨b_1, 0, none⟩)) (v := .pointer (some ⟨b_1, 0, none⟩)) rfl (fa_blk (o := 0) Fd64_0 Sz3)) ?_
      refine s_val (x_ld (p := .pointer (some ⟨b_1, 0, none⟩)) (v := I n_Marks) rfl (ldb_sc Sc3 (H.blk (k := 4) rfl) rfl)) ?_
      refine s_val (x_ix (a := v_l) (b := I (i : Int)) (v := vat v_l 5 (Int.toNat (i : Int))) rfl rfl (Sl.ix (α := Line) T62.und T62.size (ownSl (H.get (k := 0) rfl)) (by omega) (by omega))) ?_
      refine s_val (x_fa (a := vat v_l 5 (Int.toNat (i : Int))) (v := fat (vat v_l 5 (Int.toNat (i : Int))) 1) rfl (fa_pl Fd133_1 Sz3 (Sl.pl (i := (i : Int)) (ownSl (H.get (k := 0) rfl)) (by omega) (by omega)))) ?_
      refine t_fst (α := Line) (k := 0) (i := (i : Int)) (off := 1) (l := l) (l' := l.set i ({ (l.getD i default) with dst := n_Marks })) (val := I n_Marks) (L' := [cOwn (α := Line) 133 v_l (l.set i ({ (l.getD i default) with dst := n_Marks })), cBlk b_5 [I (n_Marks + 1), v_l] 64, cBlk b_3 [I 0, .slice none 0 0] 64, cBlk b_2 [I m_.mark, I m_.day] 68, cBlk b_1 [I n_Marks, v_n_Lines] 64]) H rfl Sz3 (by omega) (by omega) (l.getD i default) ({ (l.getD i default) with dst := n_Marks }) (getD_some _ (by omega) _) rfl rfl [I n_Marks] rfl rfl rfl rfl rfl rfl rfl ?_
      intro w151z H
      have hls_q152z : (l.set i ({ (l.getD i default) with dst := n_Marks })).length = (l).length := List.length_set
      refine s_nil ?_
      refine W.region rfl ?_
      refine s_val (x_mv (v := I (i : Int)) rfl) ?_
      refine s_val (x_ari (a := (i : Int)) (b := 1) (r := (i : Int) + 1) rfl rfl rfl (by omega)) ?_
      refine s_val (x_as (v := I ((i : Int) + 1)) rfl) ?_
      refine s_nil ?_
      exact ⟨m132z, lt133z, l.set i ({ (l.getD i default) with dst := n_Marks }), i + 1, v_l, _, upds_of _ _ ⟨rfl, rfl, rfl, rfl, rfl, trivial⟩, M.e_inl hM hN135z, H⟩
     ·replace hM := M.e_f hM c150z
      refine W.skip ?_
      refine W.region rfl ?_
      refine s_val (x_mv (v := I (i : Int)) rfl) ?_
      refine s_val (x_ari (a := (i : Int)) (b := 1) (r := (i : Int) + 1) rfl rfl rfl (by omega)) ?_
      refine s_val (x_as (v := I ((i : Int) + 1)) rfl) ?_
      refine s_nil ?_
      exact ⟨m132z, lt133z, l, i + 1, v_l, _, upds_of _ _ ⟨rfl, rfl, rfl, rfl, rfl, trivial⟩, M.e_inl hM hN135z, H⟩
   ·replace hM := M.e_f hM c137z
    simp only [decide_eq_true_eq, decide_eq_false_iff_not, beq_iff_eq, bne_iff_ne, beq_eq_false_iff_ne, bne_eq_false_iff_eq, ne_eq, Decidable.not_not] at c137z
    refine W.exit ?_
    have hX153z := M.e_inr hM hN135z
    subst hX153z
    replace hM := hk128z
    try dsimp only at hM
    refine W.seq ?_
    refine W.region rfl ?_
    refine s_val (x_ld (p := .pointer (some ⟨b_5, 0, none⟩)) (v := .agg #[I (n_Marks + 1), v_l]) rfl (ldb_ag (ds := [I (n_Marks + 1), v_l]) Ag64 Sz64 (H.blk (k := 1) rfl) rfl rfl)) ?_
    refine t_st (k := 2) (b := b_3) (off := 0) (cs := [I 0, .slice none 0 0]) (vs := [I (n_Marks + 1), v_l]) (cs' := [I (n_Marks + 1), v_l]) (v := .agg #[I (n_Marks + 1), v_l]) (L' := [cOwn (α := Line) 133 v_l l, cBlk b_5 [I (n_Marks + 1), v_l] 64, cBlk b_3 [I (n_Marks + 1), v_l] 64, cBlk b_2 [I m_.mark, I m_.day] 68, cBlk b_1 [I n_Marks, v_n_Lines] 64]) H rfl rfl rfl Sz64 rfl rfl rfl (by simp only [List.all_cons, List.all_nil, Bool.true_and, Bool.and_true, Sl.oc (ownSl (H.get (k := 0) rfl))]; try rfl) rfl rfl ?_
    intro w154z H
    refine s_nil ?_
    refine W.ret ?_
    have hb155z := (H.blk (k := 2) rfl)
    have hr_ := M.e_pure hM
    exact ⟨_, (resE_of1 (v := .agg #[I (n_Marks + 1), v_l]) rfl (.cell (v := .agg #[I (n_Marks + 1), v_l]) rfl (run_loadVar_ag (ds := [I (n_Marks + 1), v_l]) Ag64 Sz64 hb155z rfl rfl) <| .nil)), ⟨(n_Marks + 1), l, v_l, hr_, rfl, (H.pick [0] (by decide) rfl)⟩⟩

def m_nilometerref01_Part (n_Marks : Int) (n_Lines : List Line) (m_ : Mv) : M (Int × (List Line) × Int) :=
  M.bind (m_nilometerref01_Check n_Marks n_Lines) fun r2 =>
  bif r2 != 0 then (
  M.pure (0, ([]), r2))
  else (
  M.grd (decide ((-9223372036854775808 : Int) ≤ (n_Marks - 1)) && decide ((n_Marks - 1) ≤ (9223372036854775807 : Int))) <|
  M.bind (m_nilometerref01_outside m_.mark 0 (n_Marks - 1)) fun r3 =>
  bif r3 then (
  M.pure (0, ([]), 2))
  else (
  M.bind (m_nilometerref01_outside m_.day 1 40000) fun r4 =>
  bif r4 then (
  M.pure (0, ([]), 4))
  else (
  bif decide (11 < n_Marks) then (
  M.pure (0, ([]), 3))
  else (
  M.bind (m_nilometerref01_parted n_Marks n_Lines m_) fun (r0, r1) =>
  M.pure (r0, r1, 0)))))
set_option maxRecDepth 100000 in
set_option maxHeartbeats 16000000 in
theorem nilometerref01_Part_ok {R : List Chunk} {C_n_Lines : Cells} {v_n_Lines : Value} (n_Marks : Int) (n_Lines : List Line) (m_ : Mv) (hC_n_Lines : Reads R C_n_Lines) (hs_n_Lines : Sl C_n_Lines v_n_Lines n_Lines) {r : (Int × (List Line) × Int)} (hM : (m_nilometerref01_Part n_Marks n_Lines m_).Ends r) (w : World) (H : St w w [] R) : Ret Try.prog 27 #[.agg #[I n_Marks, v_n_Lines], .agg #[I m_.mark, I m_.day]] w fun v w' => ∃ (y0 : Int) (y1 : List Line) (y2 : Int) (u0 : Value), (y0, y1, y2) = r ∧ v = .tuple #[.agg #[I y0, u0], I y2] ∧ St w w' [cOwn (α := Line) 133 u0 y1] R := by
 refine ret_of_W Try.func27 rfl rfl rfl ?_
 refine W.seq ?_
 refine W.region rfl ?_
 refine t_box (v := .agg #[I n_Marks, v_n_Lines]) (cs := [I n_Marks, v_n_Lines]) H rfl rfl ?_
 intro b_1 w1z H
 refine t_box (v := .agg #[I m_.mark, I m_.day]) (cs := [I m_.mark, I m_.day]) H rfl rfl ?_
 intro b_2 w2z H
 refine t_alloc (cs := [I 0, .slice none 0 0]) H Al64 rfl ?_
 intro b_3 w3z H
 refine s_val (x_as (v := I 0) rfl) ?_
 refine s_nil ?_
 refine W.seq ?_
 refine W.seq ?_
 refine W.region rfl ?_
 refine s_val (x_ld (p := .pointer (some ⟨b_1, 0, none⟩)) (v := .agg #[I n_Marks, v_n_Lines]) rfl (ldb_ag (ds := [I n_Marks, v_n_Lines]) Ag64 Sz64 (H.blk (k := 2) rfl) rfl rfl)) ?_
 obtain ⟨r5z, hx4z, hM⟩ := M.e_bind hM
 refine s_call cf38 [.agg #[I n_Marks, v_n_Lines]] rfl (nilometerref01_Check_ok n_Marks n_Lines (hC_n_Lines.app _) hs_n_Lines hx4z _ (St.give (T := [cBlk b_3 [I 0, .slice none 0 0] 64, cBlk b_2 [I m_.mark, I m_.day] 68, cBlk b_1 [I n_Marks, v_n_Lines] 64]) H rfl)) ?_
 rintro vq w6z ⟨r2, hr7z, hvq, H2_⟩
 subst hr7z
 subst vq
 try dsimp only at hM
 replace H : St w w6z [cBlk b_3 [I 0, .slice none 0 0] 64, cBlk b_2 [I m_.mark, I m_.day] 68, cBlk b_1 [I n_Marks, v_n_Lines] 64] R := H.back H2_ rfl
 clear H2_
 refine s_val (x_as (v := I r2) rfl) ?_
 refine s_nil ?_
 refine W.seq ?_
 refine W.region rfl ?_
 refine s_val (x_mv (v := I r2) rfl) ?_
 refine s_val (x_cmp (kd := .i64) (a := r2) (b := 0) (r := r2 != 0) rfl rfl rfl) ?_
 refine s_nil ?_
 refine W.cond (r2 != 0) rfl (fun c8z => ?_) (fun c8z => ?_)
 ·replace hM := M.e_t hM c8z
  simp only [decide_eq_true_eq, decide_eq_false_iff_not, beq_iff_eq, bne_iff_ne, beq_eq_false_iff_ne, bne_eq_false_iff_eq, ne_eq, Decidable.not_not] at c8z
  refine W.seq ?_
  refine W.region rfl ?_
  refine s_val (x_bld (ps := []) (zs := [I 0, .slice none 0 0]) (L' := [I 0, .slice none 0 0]) rfl Try.underlying64 Al64 rfl (Bd64 Try.underlying64) (.nil)) ?_
  refine s_val (x_mv (v := I r2) rfl) ?_
  refine t_st (k := 0) (b := b_3) (off := 0) (cs := [I 0, .slice none 0 0]) (vs := [I 0, .slice none 0 0]) (cs' := [I 0, .slice none 0 0]) (v := .agg #[I 0, .slice none 0 0]) (L' := [cBlk b_3 [I 0, .slice none 0 0] 64, cBlk b_2 [I m_.mark, I m_.day] 68, cBlk b_1 [I n_Marks, v_n_Lines] 64]) H rfl rfl rfl Sz64 rfl rfl rfl rfl rfl rfl ?_
  intro w9z H
  refine s_val (x_as (v := I r2) rfl) ?_
  refine s_nil ?_
  refine W.ret ?_
  have hb10z := (H.blk (k := 0) rfl)
  have hr_ := M.e_pure hM
  replace H : St w w9z [cOwn (α := Line) 133 (.slice none 0 0) ([]), cBlk b_3 [I 0, .slice none 0 0] 64, cBlk b_2 [I m_.mark, I m_.day] 68, cBlk b_1 [I n_Marks, v_n_Lines] 64] R := H.nilOwn (α := Line) 133
  exact ⟨_, (resE_ofn (vs := [.agg #[I 0, .slice none 0 0], I r2]) rfl rfl (.cell (v := .agg #[I 0, .slice none 0 0]) rfl (run_loadVar_ag (ds := [I 0, .slice none 0 0]) Ag64 Sz64 hb10z rfl rfl) <| .tmp (v := I r2) rfl <| .nil)), ⟨0, ([]), r2, (.slice none 0 0), hr_, rfl, (H.pick [0] (by decide) rfl)⟩⟩
 ·replace hM := M.e_f hM c8z
  simp only [decide_eq_true_eq, decide_eq_false_iff_not, beq_iff_eq, bne_iff_ne, beq_eq_false_iff_ne, bne_eq_false_iff_eq, ne_eq, Decidable.not_not] at c8z
  refine W.skip ?_
  refine W.seq ?_
  refine W.seq ?_
  refine W.region rfl ?_
  refine s_val (x_fa (a := .pointer (some ⟨b_2, 0, none⟩)) (v := .pointer (some ⟨b_2, 0, none⟩)) rfl (fa_blk (o := 0) Fd68_0 Sz3)) ?_
  refine s_val (x_ld (p := .pointer (some ⟨b_2, 0, none⟩)) (v := I m_.mark) rfl (ldb_sc Sc3 (H.blk (k := 1) rfl) rfl)) ?_
  refine s_val (x_fa (a := .pointer (some ⟨b_1, 0, none⟩)) (v := .pointer (some ⟨b_1, 0, none⟩)) rfl (fa_blk (o := 0) Fd64_0 Sz3)) ?_
  refine s_val (x_ld (p := .pointer (some ⟨b_1, 0, none⟩)) (v := I n_Marks) rfl (ldb_sc Sc3 (H.blk (k := 2) rfl) rfl)) ?_
  obtain ⟨sd11z, hM⟩ := M.e_grd hM
  simp only [Bool.and_eq_true, decide_eq_true_eq] at sd11z
  refine s_val (x_ari (a := n_Marks) (b := 1) (r := n_Marks - 1) rfl rfl rfl (by omega)) ?_
  obtain ⟨r13z, hx12z, hM⟩ := M.e_bind hM
  refine s_call cf69 [I m_.mark, I 0, I (n_Marks - 1)] rfl (nilometerref01_outside_ok m_.mark 0 (n_Marks - 1) hx12z _ (St.give (T := [cBlk b_3 [I 0, .slice none 0 0] 64, cBlk b_2 [I m_.mark, I m_.day] 68, cBlk b_1 [I n_Marks, v_n_Lines] 64]) H rfl)) ?_
  rintro vq w14z ⟨r3, hr15z, hvq, H2_⟩
  subst hr15z
  subst vq
  try dsimp only at hM
  replace H : St w w14z [cBlk b_3 [I 0, .slice none 0 0] 64, cBlk b_2 [I m_.mark, I m_.day] 68, cBlk b_1 [I n_Marks, v_n_Lines] 64] R := H.back H2_ rfl
  clear H2_
  refine s_nil ?_
  refine W.cond r3 rfl (fun c16z => ?_) (fun c16z => ?_)
  ·replace hM := M.e_t hM c16z
   refine W.seq ?_
   refine W.region rfl ?_
   refine s_val (x_bld (ps := []) (zs := [I 0, .slice none 0 0]) (L' := [I 0, .slice none 0 0]) rfl Try.underlying64 Al64 rfl (Bd64 Try.underlying64) (.nil)) ?_
   refine t_st (k := 0) (b := b_3) (off := 0) (cs := [I 0, .slice none 0 0]) (vs := [I 0, .slice none 0 0]) (cs' := [I 0, .slice none 0 0]) (v := .agg #[I 0, .slice none 0 0]) (L' := [cBlk b_3 [I 0, .slice none 0 0] 64, cBlk b_2 [I m_.mark, I m_.day] 68, cBlk b_1 [I n_Marks, v_n_Lines] 64]) H rfl rfl rfl Sz64 rfl rfl rfl rfl rfl rfl ?_
   intro w17z H
   refine s_val (x_as (v := I 2) rfl) ?_
   refine s_nil ?_
   refine W.ret ?_
   have hb18z := (H.blk (k := 0) rfl)
   have hr_ := M.e_pure hM
   replace H : St w w17z [cOwn (α := Line) 133 (.slice none 0 0) ([]), cBlk b_3 [I 0, .slice none 0 0] 64, cBlk b_2 [I m_.mark, I m_.day] 68, cBlk b_1 [I n_Marks, v_n_Lines] 64] R := H.nilOwn (α := Line) 133
   exact ⟨_, (resE_ofn (vs := [.agg #[I 0, .slice none 0 0], I 2]) rfl rfl (.cell (v := .agg #[I 0, .slice none 0 0]) rfl (run_loadVar_ag (ds := [I 0, .slice none 0 0]) Ag64 Sz64 hb18z rfl rfl) <| .tmp (v := I 2) rfl <| .nil)), ⟨0, ([]), 2, (.slice none 0 0), hr_, rfl, (H.pick [0] (by decide) rfl)⟩⟩
  ·replace hM := M.e_f hM c16z
   refine W.skip ?_
   refine W.seq ?_
   refine W.seq ?_
   refine W.region rfl ?_
   refine s_val (x_fa (a := .pointer (some ⟨b_2, 0, none⟩)) (v := .pointer (some ⟨b_2, 1, none⟩)) rfl (fa_blk (o := 0) Fd68_1 Sz3)) ?_
   refine s_val (x_ld (p := .pointer (some ⟨b_2, 1, none⟩)) (v := I m_.day) rfl (ldb_sc Sc3 (H.blk (k := 1) rfl) rfl)) ?_
   obtain ⟨r20z, hx19z, hM⟩ := M.e_bind hM
   refine s_call cf69 [I m_.day, I 1, I 40000] rfl (nilometerref01_outside_ok m_.day 1 40000 hx19z _ (St.give (T := [cBlk b_3 [I 0, .slice none 0 0] 64, cBlk b_2 [I m_.mark, I m_.day] 68, cBlk b_1 [I n_Marks, v_n_Lines] 64]) H rfl)) ?_
   rintro vq w21z ⟨r4, hr22z, hvq, H2_⟩
   subst hr22z
   subst vq
   try dsimp only at hM
   replace H : St w w21z [cBlk b_3 [I 0, .slice none 0 0] 64, cBlk b_2 [I m_.mark, I m_.day] 68, cBlk b_1 [I n_Marks, v_n_Lines] 64] R := H.back H2_ rfl
   clear H2_
   refine s_nil ?_
   refine W.cond r4 rfl (fun c23z => ?_) (fun c23z => ?_)
   ·replace hM := M.e_t hM c23z
    refine W.seq ?_
    refine W.region rfl ?_
    refine s_val (x_bld (ps := []) (zs := [I 0, .slice none 0 0]) (L' := [I 0, .slice none 0 0]) rfl Try.underlying64 Al64 rfl (Bd64 Try.underlying64) (.nil)) ?_
    refine t_st (k := 0) (b := b_3) (off := 0) (cs := [I 0, .slice none 0 0]) (vs := [I 0, .slice none 0 0]) (cs' := [I 0, .slice none 0 0]) (v := .agg #[I 0, .slice none 0 0]) (L' := [cBlk b_3 [I 0, .slice none 0 0] 64, cBlk b_2 [I m_.mark, I m_.day] 68, cBlk b_1 [I n_Marks, v_n_Lines] 64]) H rfl rfl rfl Sz64 rfl rfl rfl rfl rfl rfl ?_
    intro w24z H
    refine s_val (x_as (v := I 4) rfl) ?_
    refine s_nil ?_
    refine W.ret ?_
    have hb25z := (H.blk (k := 0) rfl)
    have hr_ := M.e_pure hM
    replace H : St w w24z [cOwn (α := Line) 133 (.slice none 0 0) ([]), cBlk b_3 [I 0, .slice none 0 0] 64, cBlk b_2 [I m_.mark, I m_.day] 68, cBlk b_1 [I n_Marks, v_n_Lines] 64] R := H.nilOwn (α := Line) 133
    exact ⟨_, (resE_ofn (vs := [.agg #[I 0, .slice none 0 0], I 4]) rfl rfl (.cell (v := .agg #[I 0, .slice none 0 0]) rfl (run_loadVar_ag (ds := [I 0, .slice none 0 0]) Ag64 Sz64 hb25z rfl rfl) <| .tmp (v := I 4) rfl <| .nil)), ⟨0, ([]), 4, (.slice none 0 0), hr_, rfl, (H.pick [0] (by decide) rfl)⟩⟩
   ·replace hM := M.e_f hM c23z
    refine W.skip ?_
    refine W.seq ?_
    refine W.seq ?_
    refine W.region rfl ?_
    refine s_val (x_fa (a := .pointer (some ⟨b_1, 0, none⟩)) (v := .pointer (some ⟨b_1, 0, none⟩)) rfl (fa_blk (o := 0) Fd64_0 Sz3)) ?_
    refine s_val (x_ld (p := .pointer (some ⟨b_1, 0, none⟩)) (v := I n_Marks) rfl (ldb_sc Sc3 (H.blk (k := 2) rfl) rfl)) ?_
    refine s_val (x_cmp (kd := .i64) (a := n_Marks) (b := 11) (r := decide (11 < n_Marks)) rfl rfl rfl) ?_
    refine s_nil ?_
    refine W.cond (decide (11 < n_Marks)) rfl (fun c26z => ?_) (fun c26z => ?_)
    ·replace hM := M.e_t hM c26z
     simp only [decide_eq_true_eq, decide_eq_false_iff_not, beq_iff_eq, bne_iff_ne, beq_eq_false_iff_ne, bne_eq_false_iff_eq, ne_eq, Decidable.not_not] at c26z
     refine W.seq ?_
     refine W.region rfl ?_
     refine s_val (x_bld (ps := []) (zs := [I 0, .slice none 0 0]) (L' := [I 0, .slice none 0 0]) rfl Try.underlying64 Al64 rfl (Bd64 Try.underlying64) (.nil)) ?_
     refine t_st (k := 0) (b := b_3) (off := 0) (cs := [I 0, .slice none 0 0]) (vs := [I 0, .slice none 0 0]) (cs' := [I 0, .slice none 0 0]) (v := .agg #[I 0, .slice none 0 0]) (L' := [cBlk b_3 [I 0, .slice none 0 0] 64, cBlk b_2 [I m_.mark, I m_.day] 68, cBlk b_1 [I n_Marks, v_n_Lines] 64]) H rfl rfl rfl Sz64 rfl rfl rfl rfl rfl rfl ?_
     intro w27z H
     refine s_val (x_as (v := I 3) rfl) ?_
     refine s_nil ?_
     refine W.ret ?_
     have hb28z := (H.blk (k := 0) rfl)
     have hr_ := M.e_pure hM
     replace H : St w w27z [cOwn (α := Line) 133 (.slice none 0 0) ([]), cBlk b_3 [I 0, .slice none 0 0] 64, cBlk b_2 [I m_.mark, I m_.day] 68, cBlk b_1 [I n_Marks, v_n_Lines] 64] R := H.nilOwn (α := Line) 133
     exact ⟨_, (resE_ofn (vs := [.agg #[I 0, .slice none 0 0], I 3]) rfl rfl (.cell (v := .agg #[I 0, .slice none 0 0]) rfl (run_loadVar_ag (ds := [I 0, .slice none 0 0]) Ag64 Sz64 hb28z rfl rfl) <| .tmp (v := I 3) rfl <| .nil)), ⟨0, ([]), 3, (.slice none 0 0), hr_, rfl, (H.pick [0] (by decide) rfl)⟩⟩
    ·replace hM := M.e_f hM c26z
     simp only [decide_eq_true_eq, decide_eq_false_iff_not, beq_iff_eq, bne_iff_ne, beq_eq_false_iff_ne, bne_eq_false_iff_eq, ne_eq, Decidable.not_not] at c26z
     refine W.skip ?_
     refine W.seq ?_
     refine W.region rfl ?_
     refine s_val (x_ld (p := .pointer (some ⟨b_1, 0, none⟩)) (v := .agg #[I n_Marks, v_n_Lines]) rfl (ldb_ag (ds := [I n_Marks, v_n_Lines]) Ag64 Sz64 (H.blk (k := 2) rfl) rfl rfl)) ?_
     refine s_val (x_ld (p := .pointer (some ⟨b_2, 0, none⟩)) (v := .agg #[I m_.mark, I m_.day]) rfl (ldb_ag (ds := [I m_.mark, I m_.day]) Ag68 Sz68 (H.blk (k := 1) rfl) rfl rfl)) ?_
     obtain ⟨r30z, hx29z, hM⟩ := M.e_bind hM
     refine s_call cf70 [.agg #[I n_Marks, v_n_Lines], .agg #[I m_.mark, I m_.day]] rfl (nilometerref01_parted_ok n_Marks n_Lines m_ (hC_n_Lines.app _) hs_n_Lines hx29z _ (St.give (T := [cBlk b_3 [I 0, .slice none 0 0] 64, cBlk b_2 [I m_.mark, I m_.day] 68, cBlk b_1 [I n_Marks, v_n_Lines] 64]) H rfl)) ?_
     rintro vq w31z ⟨r0, r1, u0_4, hr32z, hvq, H2_⟩
     subst hr32z
     subst vq
     try dsimp only at hM
     replace H : St w w31z [cOwn (α := Line) 133 u0_4 r1, cBlk b_3 [I 0, .slice none 0 0] 64, cBlk b_2 [I m_.mark, I m_.day] 68, cBlk b_1 [I n_Marks, v_n_Lines] 64] R := H.back H2_ rfl
     clear H2_
     refine t_st (k := 1) (b := b_3) (off := 0) (cs := [I 0, .slice none 0 0]) (vs := [I r0, u0_4]) (cs' := [I r0, u0_4]) (v := .agg #[I r0, u0_4]) (L' := [cOwn (α := Line) 133 u0_4 r1, cBlk b_3 [I r0, u0_4] 64, cBlk b_2 [I m_.mark, I m_.day] 68, cBlk b_1 [I n_Marks, v_n_Lines] 64]) H rfl rfl rfl Sz64 rfl rfl rfl (by simp only [List.all_cons, List.all_nil, Bool.true_and, Bool.and_true, Sl.oc (ownSl (H.get (k := 0) rfl))]; try rfl) rfl rfl ?_
     intro w33z H
     refine s_val (x_as (v := I 0) rfl) ?_
     refine s_nil ?_
     refine W.ret ?_
     have hb34z := (H.blk (k := 1) rfl)
     have hr_ := M.e_pure hM
     exact ⟨_, (resE_ofn (vs := [.agg #[I r0, u0_4], I 0]) rfl rfl (.cell (v := .agg #[I r0, u0_4]) rfl (run_loadVar_ag (ds := [I r0, u0_4]) Ag64 Sz64 hb34z rfl rfl) <| .tmp (v := I 0) rfl <| .nil)), ⟨r0, r1, 0, u0_4, hr_, rfl, (H.pick [0] (by decide) rfl)⟩⟩

def m_nilometerlaw01_plain_b0 (n_Lines : List Line) : (Nat × (List Line)) → M ((Nat × (List Line)) ⊕ ((List Line) × (List Line))) := fun (s, l) =>
  bif decide ((s : Int) < (n_Lines.length : Int)) then (
  M.grd (decide ((s : Int) < (n_Lines.length : Int))) <|
  M.grd (decide ((l.length + ([(n_Lines.getD s default)]).length) * 40 ≤ 140737488355328)) <|
  M.pure (.inl (s + 1, l ++ ([(n_Lines.getD s default)]))))
  else (
  M.pure (.inr (l, l)))
def m_nilometerlaw01_plain (n_Marks : Int) (n_Lines : List Line) : M (Int × (List Line)) :=
  M.bind (M.iter (m_nilometerlaw01_plain_b0 n_Lines) (0, [])) fun (l2, l3) =>
  M.pure (n_Marks, l3)
set_option maxRecDepth 100000 in
set_option maxHeartbeats 16000000 in
theorem nilometerlaw01_plain_ok {R : List Chunk} {C_n_Lines : Cells} {v_n_Lines : Value} (n_Marks : Int) (n_Lines : List Line) (hC_n_Lines : Reads R C_n_Lines) (hs_n_Lines : Sl C_n_Lines v_n_Lines n_Lines) {r : (Int × (List Line))} (hM : (m_nilometerlaw01_plain n_Marks n_Lines).Ends r) (w : World) (H : St w w [] R) : Ret Try.prog 30 #[.agg #[I n_Marks, v_n_Lines]] w fun v w' => ∃ (y0 : Int) (y1 : List Line) (u0 : Value), (y0, y1) = r ∧ v = .agg #[I y0, u0] ∧ St w w' [cOwn (α := Line) 34 u0 y1] R := by
 refine ret_of_W Try.func30 rfl rfl rfl ?_
 refine W.seq ?_
 refine W.region rfl ?_
 refine t_box (v := .agg #[I n_Marks, v_n_Lines]) (cs := [I n_Marks, v_n_Lines]) H rfl rfl ?_
 intro b_1 w1z H
 refine t_alloc (cs := [I 0, .slice none 0 0]) H Al25 rfl ?_
 intro b_2 w2z H
 refine s_nil ?_
 refine W.seq ?_
 refine W.region rfl ?_
 refine s_val (x_fa (a := .pointer (some ⟨b_1, 0, none⟩)) (v := .pointer (some ⟨b_1, 0, none⟩)) rfl (fa_blk (o := 0) Fd64_0 Sz3)) ?_
 refine s_val (x_ld (p := .pointer (some ⟨b_1, 0, none⟩)) (v := I n_Marks) rfl (ldb_sc Sc3 (H.blk (k := 1) rfl) rfl)) ?_
 refine s_val (x_bld (ps := [(0, I n_Marks)]) (zs := [I 0, .slice none 0 0]) (L' := [I n_Marks, .slice none 0 0]) rfl Try.underlying25 Al25 rfl (Bd25 Try.underlying25) (.cons (cs := [I n_Marks]) rfl rfl rfl rfl rfl <| .nil)) ?_
 refine t_alloc (cs := [I 0, .slice none 0 0]) H Al25 rfl ?_
 intro b_3 w3z H
 refine t_st (k := 0) (b := b_3) (off := 0) (cs := [I 0, .slice none 0 0]) (vs := [I n_Marks, .slice none 0 0]) (cs' := [I n_Marks, .slice none 0 0]) (v := .agg #[I n_Marks, .slice none 0 0]) (L' := [cBlk b_3 [I n_Marks, .slice none 0 0] 25, cBlk b_2 [I 0, .slice none 0 0] 25, cBlk b_1 [I n_Marks, v_n_Lines] 64]) H rfl rfl rfl Sz25 rfl rfl rfl rfl rfl rfl ?_
 intro w4z H
 refine s_nil ?_
 refine W.seq ?_
 refine W.seq ?_
 refine W.region rfl ?_
 refine s_val (x_fa (a := .pointer (some ⟨b_1, 0, none⟩)) (v := .pointer (some ⟨b_1, 1, none⟩)) rfl (fa_blk (o := 0) Fd64_1 Sz62)) ?_
 refine s_val (x_ld (p := .pointer (some ⟨b_1, 1, none⟩)) (v := v_n_Lines) rfl (ldb_sc Sc62 (H.blk (k := 2) rfl) rfl)) ?_
 have hl5z := (hs_n_Lines).len_le
 refine s_val (x_lenS T62.und rfl hs_n_Lines) ?_
 refine s_val (x_mv (v := I 0) rfl) ?_
 refine s_nil ?_
 refine W.block ?_
 replace H : St w w4z [cOwn (α := Line) 34 (.slice none 0 0) ([]), cBlk b_3 [I n_Marks, .slice none 0 0] 25, cBlk b_2 [I 0, .slice none 0 0] 25, cBlk b_1 [I n_Marks, v_n_Lines] 64] R := H.nilOwn (α := Line) 34
 obtain ⟨ex6z, hi7z, hk8z⟩ := M.e_bind hM
 obtain ⟨m0_, hi7z⟩ := M.e_iter hi7z
 refine W.loop (fun m σ W => ∃ (s : Nat) (l : List Line) (v_l : Value) (ρ : Env), σ = upds ρ [(2, .pointer (some ⟨b_2, 0, none⟩)), (3, .pointer (some ⟨b_3, 0, none⟩)), (10, v_n_Lines), (11, I (n_Lines.length : Int)), (12, I (s : Int))] ∧ M.iterN (m_nilometerlaw01_plain_b0 n_Lines) m (s, l) = some ex6z ∧ St w W [cOwn (α := Line) 34 v_l l, cBlk b_3 [I n_Marks, v_l] 25, cBlk b_2 [I 0, .slice none 0 0] 25, cBlk b_1 [I n_Marks, v_n_Lines] 64] R) ?_ ?_
 ·exact ⟨_, 0, [], (.slice none 0 0), _, upds_of _ _ ⟨rfl, rfl, rfl, rfl, rfl, trivial⟩, hi7z, H⟩
 ·rintro m11z σ w9z ⟨s, l, v_l, ρ, rfl, hI10z, H⟩
  obtain ⟨m12z, lt13z, x14z, hM, hN15z⟩ := M.e_iterN hI10z
  simp only [m_nilometerlaw01_plain_b0] at hM
  clear hI10z
  refine W.seq ?_
  refine W.region rfl ?_
  refine s_val (x_cmp (kd := .i64) (a := (s : Int)) (b := (n_Lines.length : Int)) (r := decide ((s : Int) < (n_Lines.length : Int))) rfl rfl rfl) ?_
  refine s_nil ?_
  refine W.seq ?_
  refine W.cond (decide ((s : Int) < (n_Lines.length : Int))) rfl (fun c16z => ?_) (fun c16z => ?_)
  ·replace hM := M.e_t hM c16z
   simp only [decide_eq_true_eq, decide_eq_false_iff_not, beq_iff_eq, bne_iff_ne, beq_eq_false_iff_ne, bne_eq_false_iff_eq, ne_eq, Decidable.not_not] at c16z
   refine W.skip ?_
   refine W.seq ?_
   refine W.block ?_
   refine W.seq ?_
   refine W.region rfl ?_
   obtain ⟨sd17z, hM⟩ := M.e_grd hM
   simp only [Bool.and_eq_true, decide_eq_true_eq] at sd17z
   refine s_val (x_ix (a := v_n_Lines) (b := I (s : Int)) (v := vat v_n_Lines 5 (Int.toNat (s : Int))) rfl rfl (Sl.ix (α := Line) T62.und T62.size hs_n_Lines (by omega) (by omega))) ?_
   refine s_val (x_ld (p := vat v_n_Lines 5 (Int.toNat (s : Int))) (v := .agg #[I ((n_Lines.getD s default).src), I ((n_Lines.getD s default).dst), I ((n_Lines.getD s default).day), I ((n_Lines.getD s default).rise), I ((n_Lines.getD s default).err)]) rfl (ld_ag Ag133 Sz133 (At.mono (Line_atA hs_n_Lines (i := (s : Int)) (by omega) (by omega)) (hC_n_Lines.at H)))) ?_
   refine t_alloc (cs := [I 0, I 0, I 0, I 0, I 0]) H Al133 rfl ?_
   intro b_4 w18z H
   refine t_st (k := 0) (b := b_4) (off := 0) (cs := [I 0, I 0, I 0, I 0, I 0]) (vs := [I ((n_Lines.getD s default).src), I ((n_Lines.getD s default).dst), I ((n_Lines.getD s default).day), I ((n_Lines.getD s default).rise), I ((n_Lines.getD s default).err)]) (cs' := [I ((n_Lines.getD s default).src), I ((n_Lines.getD s default).dst), I ((n_Lines.getD s default).day), I ((n_Lines.getD s default).rise), I ((n_Lines.getD s default).err)]) (v := .agg #[I ((n_Lines.getD s default).src), I ((n_Lines.getD s default).dst), I ((n_Lines.getD s default).day), I ((n_Lines.getD s default).rise), I ((n_Lines.getD s default).err)]) (L' := [cBlk b_4 [I ((n_Lines.getD s default).src), I ((n_Lines.getD s default).dst), I ((n_Lines.getD s default).day), I ((n_Lines.getD s default).rise), I ((n_Lines.getD s default).err)] 133, cOwn (α := Line) 34 v_l l, cBlk b_3 [I n_Marks, v_l] 25, cBlk b_2 [I 0, .slice none 0 0] 25, cBlk b_1 [I n_Marks, v_n_Lines] 64]) H rfl rfl rfl Sz133 rfl rfl rfl rfl rfl rfl ?_
   intro w19z H
   refine s_nil ?_
   refine W.region rfl ?_
   refine s_val (x_fa (a := .pointer (some ⟨b_3, 0, none⟩)) (v := .pointer (some ⟨b_3, 1, none⟩)) rfl (fa_blk (o := 0) Fd25_1 Sz23)) ?_
   refine s_val (x_ld (p := .pointer (some ⟨b_3, 1, none⟩)) (v := v_l) rfl (ldb_sc Sc23 (H.blk (k := 2) rfl) rfl)) ?_
   refine s_val (x_ld (p := .pointer (some ⟨b_4, 0, none⟩)) (v := .agg #[I ((n_Lines.getD s default).src), I ((n_Lines.getD s default).dst), I ((n_Lines.getD s default).day), I ((n_Lines.getD s default).rise), I ((n_Lines.getD s default).err)]) rfl (ldb_ag (ds := [I ((n_Lines.getD s default).src), I ((n_Lines.getD s default).dst), I ((n_Lines.getD s default).day), I ((n_Lines.getD s default).rise), I ((n_Lines.getD s default).err)]) Ag133 Sz133 (H.blk (k := 0) rfl) rfl rfl)) ?_
   refine t_bs (α := Line) T23 [.agg #[I ((n_Lines.getD s default).src), I ((n_Lines.getD s default).dst), I ((n_Lines.getD s default).day), I ((n_Lines.getD s default).rise), I ((n_Lines.getD s default).err)]] [(n_Lines.getD s default)] H rfl (.cons rfl (Flat.rep_enc _ (n_Lines.getD s default)) <| .nil) rfl rfl rfl ?_
   intro v20z w21z H
   obtain ⟨sd22z, hM⟩ := M.e_grd hM
   simp only [Bool.and_eq_true, decide_eq_true_eq] at sd22z
   refine t_app (α := Line) (k := 2) (l := l) (l2 := [(n_Lines.getD s default)]) (l' := l ++ ([(n_Lines.getD s default)])) (vy := v20z) T23 rfl H rfl rfl rfl (ownSl (H.get (k := 0) rfl)) (ownLe _ (H.get (k := 0) rfl)) (rfl) (by first | omega | (simp only [List.length_nil] at *; omega)) ?_
   intro v23z w24z H
   replace H : St w w24z [cOwn (α := Line) 34 v20z ([(n_Lines.getD s default)]), cBlk b_4 [I ((n_Lines.getD s default).src), I ((n_Lines.getD s default).dst), I ((n_Lines.getD s default).day), I ((n_Lines.getD s default).rise), I ((n_Lines.getD s default).err)] 133, cOwn (α := Line) 34 v23z (l ++ ([(n_Lines.getD s default)])), cBlk b_3 [I n_Marks, v_l] 25, cBlk b_2 [I 0, .slice none 0 0] 25, cBlk b_1 [I n_Marks, v_n_Lines] 64] R := H
   refine s_val (x_fa (a := .pointer (some ⟨b_3, 0, none⟩)) (v := .pointer (some ⟨b_3, 1, none⟩)) rfl (fa_blk (o := 0) Fd25_1 Sz23)) ?_
   refine t_st (k := 3) (b := b_3) (off := 1) (cs := [I n_Marks, v_l]) (vs := [v23z]) (cs' := [I n_Marks, v23z]) (v := v23z) (L' := [cOwn (α := Line) 34 v20z ([(n_Lines.getD s default)]), cBlk b_4 [I ((n_Lines.getD s default).src), I ((n_Lines.getD s default).dst), I ((n_Lines.getD s default).day), I ((n_Lines.getD s default).rise), I ((n_Lines.getD s default).err)] 133, cOwn (α := Line) 34 v23z (l ++ ([(n_Lines.getD s default)])), cBlk b_3 [I n_Marks, v23z] 25, cBlk b_2 [I 0, .slice none 0 0] 25, cBlk b_1 [I n_Marks, v_n_Lines] 64]) H rfl rfl rfl Sz23 (Sl.cells (ownSl (H.get (k := 2) rfl))) rfl rfl (by simp only [List.all_cons, List.all_nil, Bool.true_and, Bool.and_true, Sl.oc (ownSl (H.get (k := 2) rfl))]; try rfl) rfl rfl ?_
   intro w25z H
   refine s_nil ?_
   refine W.region rfl ?_
   refine s_val (x_ari (a := (s : Int)) (b := 1) (r := (s : Int) + 1) rfl rfl rfl (by omega)) ?_
   refine s_val (x_mv (v := I ((s : Int) + 1)) rfl) ?_
   refine s_nil ?_
   exact ⟨m12z, lt13z, s + 1, l ++ ([(n_Lines.getD s default)]), v23z, _, upds_of _ _ ⟨rfl, rfl, rfl, rfl, rfl, trivial⟩, M.e_inl hM hN15z, (H.pick [2, 3, 4, 5] (by decide) rfl)⟩
  ·replace hM := M.e_f hM c16z
   simp only [decide_eq_true_eq, decide_eq_false_iff_not, beq_iff_eq, bne_iff_ne, beq_eq_false_iff_ne, bne_eq_false_iff_eq, ne_eq, Decidable.not_not] at c16z
   refine W.exit ?_
   have hX26z := M.e_inr hM hN15z
   subst hX26z
   replace hM := hk8z
   try dsimp only at hM
   refine W.seq ?_
   refine W.region rfl ?_
   refine s_val (x_ld (p := .pointer (some ⟨b_3, 0, none⟩)) (v := .agg #[I n_Marks, v_l]) rfl (ldb_ag (ds := [I n_Marks, v_l]) Ag25 Sz25 (H.blk (k := 1) rfl) rfl rfl)) ?_
   refine t_st (k := 2) (b := b_2) (off := 0) (cs := [I 0, .slice none 0 0]) (vs := [I n_Marks, v_l]) (cs' := [I n_Marks, v_l]) (v := .agg #[I n_Marks, v_l]) (L' := [cOwn (α := Line) 34 v_l l, cBlk b_3 [I n_Marks, v_l] 25, cBlk b_2 [I n_Marks, v_l] 25, cBlk b_1 [I n_Marks, v_n_Lines] 64]) H rfl rfl rfl Sz25 rfl rfl rfl (by simp only [List.all_cons, List.all_nil, Bool.true_and, Bool.and_true, Sl.oc (ownSl (H.get (k := 0) rfl))]; try rfl) rfl rfl ?_
   intro w27z H
   refine s_nil ?_
   refine W.ret ?_
   have hb28z := (H.blk (k := 2) rfl)
   have hr_ := M.e_pure hM
   exact ⟨_, (resE_of1 (v := .agg #[I n_Marks, v_l]) rfl (.cell (v := .agg #[I n_Marks, v_l]) rfl (run_loadVar_ag (ds := [I n_Marks, v_l]) Ag25 Sz25 hb28z rfl rfl) <| .nil)), ⟨n_Marks, l, v_l, hr_, rfl, (H.pick [0] (by decide) rfl)⟩⟩

end Go.Proofs.Ytclhljenjphofaa
