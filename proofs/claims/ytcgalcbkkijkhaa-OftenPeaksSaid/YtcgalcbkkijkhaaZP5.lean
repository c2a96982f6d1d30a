/- Part 5 of the texts on which the proof rests. Conditions: none. -/
import Derived.KernelRfl
import Derived.Test.YtcgalcbkkijkhaaZP4
set_option linter.unusedVariables false
set_option linter.unusedSimpArgs false
set_option linter.unusedSectionVars false
namespace Go.Proofs.Ytcgalcbkkijkhaa
open Go Go.Nm
def m_nilometerkit_Copy_often_Peak (l : List Pk) : M (List Pk) :=
  M.grd (decide ((([] : List Pk).length + l.length) * 16 ≤ 140737488355328)) <|
  M.pure l
set_option maxRecDepth 100000 in
set_option maxHeartbeats 16000000 in
theorem nilometerkit_Copy_often_Peak_ok {R : List Chunk} {C_l : Cells} {v_l : Value} (l : List Pk) (hC_l : Reads R C_l) (hs_l : Sl C_l v_l l) {r : (List Pk)} (hM : (m_nilometerkit_Copy_often_Peak l).Ends r) (w : World) (H : St w w [] R) : Ret Try.prog 30 #[v_l] w fun v w' => ∃ (y0 : List Pk) (u0 : Value), y0 = r ∧ v = u0 ∧ St w w' [cOwn (α := Pk) 72 u0 y0] R := by
 refine ret_of_W Try.func30 rfl rfl rfl ?_
 refine W.seq ?_
 refine W.region rfl ?_
 refine s_val (x_as (v := .slice none 0 0) rfl) ?_
 refine s_nil ?_
 refine W.seq ?_
 refine W.region rfl ?_
 refine s_val (x_as (v := .slice none 0 0) rfl) ?_
 refine s_nil ?_
 refine W.seq ?_
 refine W.region rfl ?_
 refine s_val (x_mv (v := .slice none 0 0) rfl) ?_
 refine s_val (x_mv (v := v_l) rfl) ?_
 replace H : St w w [cOwn (α := Pk) 72 (.slice none 0 0) ([])] R := H.nilOwn (α := Pk) 72
 obtain ⟨sd1z, hM⟩ := M.e_grd hM
 simp only [Bool.and_eq_true, decide_eq_true_eq] at sd1z
 refine t_app (α := Pk) (k := 0) (l := []) (l2 := l) (l' := l) (vy := v_l) T69 rfl H rfl rfl rfl hs_l (hC_l.at H) (List.nil_append _) (by first | omega | (simp only [List.length_nil] at *; omega)) ?_
 intro v2z w3z H
 replace H : St w w3z [cOwn (α := Pk) 72 v2z l] R := H
 refine s_val (x_as (v := v2z) rfl) ?_
 refine s_nil ?_
 refine W.ret ?_
 have hr_ := M.e_pure hM
 exact ⟨_, resE_tmp rfl, ⟨l, v2z, hr_, rfl, H⟩⟩

def m_nilometerkit_Copy_int (l : List Int) : M (List Int) :=
  M.grd (decide ((([] : List Int).length + l.length) * 8 ≤ 140737488355328)) <|
  M.pure l
set_option maxRecDepth 100000 in
set_option maxHeartbeats 16000000 in
theorem nilometerkit_Copy_int_ok {R : List Chunk} {C_l : Cells} {v_l : Value} (l : List Int) (hC_l : Reads R C_l) (hs_l : Sl C_l v_l l) {r : (List Int)} (hM : (m_nilometerkit_Copy_int l).Ends r) (w : World) (H : St w w [] R) : Ret Try.prog 31 #[v_l] w fun v w' => ∃ (y0 : List Int) (u0 : Value), y0 = r ∧ v = u0 ∧ St w w' [cOwn (α := Int) 3 u0 y0] R := by
 refine ret_of_W Try.func31 rfl rfl rfl ?_
 refine W.seq ?_
 refine W.region rfl ?_
 refine s_val (x_as (v := .slice none 0 0) rfl) ?_
 refine s_nil ?_
 refine W.seq ?_
 refine W.region rfl ?_
 refine s_val (x_as (v := .slice none 0 0) rfl) ?_
 refine s_nil ?_
 refine W.seq ?_
 refine W.region rfl ?_
 refine s_val (x_mv (v := .slice none 0 0) rfl) ?_
 refine s_val (x_mv (v := v_l) rfl) ?_
 replace H : St w w [cOwn (α := Int) 3 (.slice none 0 0) ([])] R := H.nilOwn (α := Int) 3
 obtain ⟨sd1z, hM⟩ := M.e_grd hM
 simp only [Bool.and_eq_true, decide_eq_true_eq] at sd1z
 refine t_app (α := Int) (k := 0) (l := []) (l2 := l) (l' := l) (vy := v_l) T27 rfl H rfl rfl rfl hs_l (hC_l.at H) (List.nil_append _) (by first | omega | (simp only [List.length_nil] at *; omega)) ?_
 intro v2z w3z H
 replace H : St w w3z [cOwn (α := Int) 3 v2z l] R := H
 refine s_val (x_as (v := v2z) rfl) ?_
 refine s_nil ?_
 refine W.ret ?_
 have hr_ := M.e_pure hM
 exact ⟨_, resE_tmp rfl, ⟨l, v2z, hr_, rfl, H⟩⟩

def m_nilometerlaw10_peaks_b0 (l : List Pk) : (Nat × (List Pk)) → M ((Nat × (List Pk)) ⊕ ((List Pk) × (List Pk))) := fun (i, l2) =>
  bif decide ((i : Int) < (l.length : Int)) then (
  M.grd (decide ((i : Int) < (l.length : Int))) <|
  M.grd (decide ((l2.length + ([(l.getD i default)]).length) * 16 ≤ 140737488355328)) <|
  M.pure (.inl (i + 1, l2 ++ ([(l.getD i default)]))))
  else (
  M.pure (.inr (l2, l2)))
def m_nilometerlaw10_peaks (l : List Pk) : M (List Pk) :=
  M.bind (M.iter (m_nilometerlaw10_peaks_b0 l) (0, [])) fun (l3, l4) =>
  M.pure l4
set_option maxRecDepth 100000 in
set_option maxHeartbeats 16000000 in
theorem nilometerlaw10_peaks_ok {R : List Chunk} {C_l : Cells} {v_l : Value} (l : List Pk) (hC_l : Reads R C_l) (hs_l : Sl C_l v_l l) {r : (List Pk)} (hM : (m_nilometerlaw10_peaks l).Ends r) (w : World) (H : St w w [] R) : Ret Try.prog 32 #[v_l] w fun v w' => ∃ (y0 : List Pk) (u0 : Value), y0 = r ∧ v = u0 ∧ St w w' [cOwn (α := Pk) 135 u0 y0] R := by
 refine ret_of_W Try.func32 rfl rfl rfl ?_
 refine W.seq ?_
 refine W.region rfl ?_
 refine s_val (x_as (v := .slice none 0 0) rfl) ?_
 refine s_nil ?_
 refine W.seq ?_
 refine W.region rfl ?_
 refine s_val (x_as (v := .slice none 0 0) rfl) ?_
 refine s_nil ?_
 refine W.seq ?_
 refine W.seq ?_
 refine W.region rfl ?_
 refine s_val (x_as (v := I 0) rfl) ?_
 refine s_nil ?_
 refine W.block ?_
 replace H : St w w [cOwn (α := Pk) 135 (.slice none 0 0) ([])] R := H.nilOwn (α := Pk) 135
 obtain ⟨ex1z, hi2z, hk3z⟩ := M.e_bind hM
 obtain ⟨m0_, hi2z⟩ := M.e_iter hi2z
 refine W.loop (fun m σ W => ∃ (i : Nat) (l2 : List Pk) (v_l2 : Value) (ρ : Env), σ = upds ρ [(0, v_l), (3, v_l2), (4, I (i : Int))] ∧ M.iterN (m_nilometerlaw10_peaks_b0 l) m (i, l2) = some ex1z ∧ St w W [cOwn (α := Pk) 135 v_l2 l2] R) ?_ ?_
 ·exact ⟨_, 0, [], (.slice none 0 0), _, upds_of _ _ ⟨rfl, rfl, rfl, trivial⟩, hi2z, H⟩
 ·rintro m6z σ w4z ⟨i, l2, v_l2, ρ, rfl, hI5z, H⟩
  obtain ⟨m7z, lt8z, x9z, hM, hN10z⟩ := M.e_iterN hI5z
  simp only [m_nilometerlaw10_peaks_b0] at hM
  clear hI5z
  refine W.seq ?_
  refine W.seq ?_
  refine W.region rfl ?_
  refine s_val (x_mv (v := I (i : Int)) rfl) ?_
  refine s_val (x_mv (v := v_l) rfl) ?_
  have hl11z := (hs_l).len_le
  refine s_val (x_lenS T69.und rfl hs_l) ?_
  refine s_val (x_cmp (kd := .i64) (a := (i : Int)) (b := (l.length : Int)) (r := decide ((i : Int) < (l.length : Int))) rfl rfl rfl) ?_
  refine s_nil ?_
  refine W.cond (decide ((i : Int) < (l.length : Int))) rfl (fun c12z => ?_) (fun c12z => ?_)
  ·replace hM := M.e_t hM c12z
   simp only [decide_eq_true_eq, decide_eq_false_iff_not, beq_iff_eq, bne_iff_ne, beq_eq_false_iff_ne, bne_eq_false_iff_eq, ne_eq, Decidable.not_not] at c12z
   refine W.skip ?_
   refine W.seq ?_
   refine W.block ?_
   refine W.region rfl ?_
   refine s_val (x_mv (v := v_l2) rfl) ?_
   refine s_val (x_mv (v := v_l) rfl) ?_
   refine s_val (x_mv (v := I (i : Int)) rfl) ?_
   obtain ⟨sd13z, hM⟩ := M.e_grd hM
   simp only [Bool.and_eq_true, decide_eq_true_eq] at sd13z
   refine s_val (x_ix (a := v_l) (b := I (i : Int)) (v := vat v_l 2 (Int.toNat (i : Int))) rfl rfl (Sl.ix (α := Pk) T69.und T69.size hs_l (by omega) (by omega))) ?_
   refine s_val (x_ld (p := vat v_l 2 (Int.toNat (i : Int))) (v := .agg #[I ((l.getD i default).day), I ((l.getD i default).stage)]) rfl (ld_ag Ag72 Sz72 (At.mono (Pk_atA hs_l (i := (i : Int)) (by omega) (by omega)) (hC_l.at H)))) ?_
   refine t_bs (α := Pk) T74 [.agg #[I ((l.getD i default).day), I ((l.getD i default).stage)]] [(l.getD i default)] H rfl (.cons rfl (Flat.rep_enc _ (l.getD i default)) <| .nil) rfl rfl rfl ?_
   intro v14z w15z H
   obtain ⟨sd16z, hM⟩ := M.e_grd hM
   simp only [Bool.and_eq_true, decide_eq_true_eq] at sd16z
   refine t_app (α := Pk) (k := 1) (l := l2) (l2 := [(l.getD i default)]) (l' := l2 ++ ([(l.getD i default)])) (vy := v14z) T74 rfl H rfl rfl rfl (ownSl (H.get (k := 0) rfl)) (ownLe _ (H.get (k := 0) rfl)) (rfl) (by first | omega | (simp only [List.length_nil] at *; omega)) ?_
   intro v17z w18z H
   replace H : St w w18z [cOwn (α := Pk) 135 v14z ([(l.getD i default)]), cOwn (α := Pk) 135 v17z (l2 ++ ([(l.getD i default)]))] R := H
   refine s_val (x_as (v := v17z) rfl) ?_
   refine s_nil ?_
   refine W.region rfl ?_
   refine s_val (x_mv (v := I (i : Int)) rfl) ?_
   refine s_val (x_ari (a := (i : Int)) (b := 1) (r := (i : Int) + 1) rfl rfl rfl (by omega)) ?_
   refine s_val (x_as (v := I ((i : Int) + 1)) rfl) ?_
   refine s_nil ?_
   exact ⟨m7z, lt8z, i + 1, l2 ++ ([(l.getD i default)]), v17z, _, upds_of _ _ ⟨rfl, rfl, rfl, trivial⟩, M.e_inl hM hN10z, (H.pick [1] (by decide) rfl)⟩
  ·replace hM := M.e_f hM c12z
   simp only [decide_eq_true_eq, decide_eq_false_iff_not, beq_iff_eq, bne_iff_ne, beq_eq_false_iff_ne, bne_eq_false_iff_eq, ne_eq, Decidable.not_not] at c12z
   refine W.exit ?_
   have hX19z := M.e_inr hM hN10z
   subst hX19z
   replace hM := hk3z
   try dsimp only at hM
   refine W.seq ?_
   refine W.region rfl ?_
   refine s_val (x_mv (v := v_l2) rfl) ?_
   refine s_val (x_as (v := v_l2) rfl) ?_
   refine s_nil ?_
   refine W.ret ?_
   have hr_ := M.e_pure hM
   exact ⟨_, resE_tmp rfl, ⟨l2, v_l2, hr_, rfl, H⟩⟩

def m_nilometerref10_outside (n : Int) (a : Int) (b : Int) : M Bool :=
  M.pure ((decide (n < a)) || (decide (b < n)))
set_option maxRecDepth 100000 in
set_option maxHeartbeats 16000000 in
theorem nilometerref10_outside_ok {R : List Chunk}  (n : Int) (a : Int) (b : Int)  {r : Bool} (hM : (m_nilometerref10_outside n a b).Ends r) (w : World) (H : St w w [] R) : Ret Try.prog 67 #[I n, I a, I b] w fun v w' => ∃ (y0 : Bool), y0 = r ∧ v = B y0 ∧ St w w' [] R := by
 refine ret_of_W Try.func67 rfl rfl rfl ?_
 refine W.seq ?_
 refine W.region rfl ?_
 refine s_val (x_as (v := B false) rfl) ?_
 refine s_nil ?_
 refine W.seq ?_
 refine W.region rfl ?_
 refine s_val (x_mv (v := I n) rfl) ?_
 refine s_val (x_mv (v := I a) rfl) ?_
 refine s_val (x_cmp (kd := .i64) (a := n) (b := a) (r := decide (n < a)) rfl rfl rfl) ?_
 refine s_val (x_mv (v := B (decide (n < a))) rfl) ?_
 refine g_val (!(decide (n < a))) (gy_f rfl) (fun hg => x_mv (v := I n) rfl) ?_
 refine g_val (!(decide (n < a))) (gy_f rfl) (fun hg => x_mv (v := I b) rfl) ?_
 refine g_val (!(decide (n < a))) (gy_f rfl) (fun hg => x_cmp (kd := .i64) (a := n) (b := b) (r := decide (b < n)) (gd_of (c := !(decide (n < a))) hg (I n)) (gd_of (c := !(decide (n < a))) hg (I b)) rfl) ?_
 refine s_val (x_por (b := decide (n < a)) (r := decide (b < n)) rfl rfl (fun hb => gd_of (c := !(decide (n < a))) (by first | exact hb | (rw [hb]; rfl) | simp_all) (B (decide (b < n))))) ?_
 refine s_val (x_as (v := B ((decide (n < a)) || (decide (b < n)))) rfl) ?_
 refine s_nil ?_
 refine W.ret ?_
 have hr_ := M.e_pure hM
 exact ⟨_, resE_tmp rfl, ⟨((decide (n < a)) || (decide (b < n))), hr_, rfl, H⟩⟩

def m_nilometerref10_CheckPeaks_b0 (l : List Pk) : Nat → M (Nat ⊕ (Int ⊕ Unit)) := fun i =>
  bif decide ((i : Int) < (l.length : Int)) then (
  M.grd (decide ((i : Int) < (l.length : Int))) <|
  M.bind (m_nilometerref10_outside ((l.getD i default).day) 0 4000) fun r2 =>
  M.bind (M.opt (!r2) (m_nilometerref10_outside ((l.getD i default).stage) 0 2000) false) fun r3 =>
  bif (r2 || r3) then (
  M.pure (.inr (.inl 110)))
  else (
  M.grd ((!(decide (0 < (i : Int))) || (decide ((-9223372036854775808 : Int) ≤ ((i : Int) - 1)) && decide (((i : Int) - 1) ≤ (9223372036854775807 : Int))))) <|
  M.grd ((!(decide (0 < (i : Int))) || (decide ((0 : Int) ≤ ((i : Int) - 1)) && decide (((i : Int) - 1) < (l.length : Int))))) <|
  bif ((decide (0 < (i : Int))) && (decide (((l.getD i default).day) ≤ ((l.getD (Int.toNat ((i : Int) - 1)) default).day)))) then (
  M.pure (.inr (.inl 9)))
  else (
  M.pure (.inl (i + 1)))))
  else (
  M.pure (.inr (.inr ())))
def m_nilometerref10_CheckPeaks (l : List Pk) : M Int :=
  bif decide (40 < (l.length : Int)) then (
  M.pure 3)
  else (
  M.bind (M.iter (m_nilometerref10_CheckPeaks_b0 l) 0) fun x_ => match x_ with
  | (.inl s) => (
  M.pure s)
  | (.inr (_ : Unit)) => (
  M.pure 0))
set_option maxRecDepth 100000 in
set_option maxHeartbeats 16000000 in
theorem nilometerref10_CheckPeaks_ok {R : List Chunk} {C_l : Cells} {v_l : Value} (l : List Pk) (hC_l : Reads R C_l) (hs_l : Sl C_l v_l l) {r : Int} (hM : (m_nilometerref10_CheckPeaks l).Ends r) (w : World) (H : St w w [] R) : Ret Try.prog 34 #[v_l] w fun v w' => ∃ (y0 : Int), y0 = r ∧ v = I y0 ∧ St w w' [] R := by
 refine ret_of_W Try.func34 rfl rfl rfl ?_
 refine W.seq ?_
 refine W.region rfl ?_
 refine s_val (x_as (v := I 0) rfl) ?_
 refine s_nil ?_
 refine W.seq ?_
 refine W.seq ?_
 refine W.region rfl ?_
 refine s_val (x_mv (v := v_l) rfl) ?_
 have hl1z := (hs_l).len_le
 refine s_val (x_lenS T74.und rfl hs_l) ?_
 refine s_val (x_cmp (kd := .i64) (a := (l.length : Int)) (b := 40) (r := decide (40 < (l.length : Int))) rfl rfl rfl) ?_
 refine s_nil ?_
 refine W.cond (decide (40 < (l.length : Int))) rfl (fun c2z => ?_) (fun c2z => ?_)
 ·replace hM := M.e_t hM c2z
  simp only [decide_eq_true_eq, decide_eq_false_iff_not, beq_iff_eq, bne_iff_ne, beq_eq_false_iff_ne, bne_eq_false_iff_eq, ne_eq, Decidable.not_not] at c2z
  refine W.seq ?_
  refine W.region rfl ?_
  refine s_val (x_as (v := I 3) rfl) ?_
  refine s_nil ?_
  refine W.ret ?_
  have hr_ := M.e_pure hM
  exact ⟨_, resE_tmp rfl, ⟨3, hr_, rfl, H⟩⟩
 ·replace hM := M.e_f hM c2z
  simp only [decide_eq_true_eq, decide_eq_false_iff_not, beq_iff_eq, bne_iff_ne, beq_eq_false_iff_ne, bne_eq_false_iff_eq, ne_eq, Decidable.not_not] at c2z
  refine W.skip ?_
  refine W.seq ?_
  refine W.seq ?_
  refine W.region rfl ?_
  refine s_val (x_as (v := I 0) rfl) ?_
  refine s_nil ?_
  refine W.block ?_
  obtain ⟨ex3z, hi4z, hk5z⟩ := M.e_bind hM
  obtain ⟨m0_, hi4z⟩ := M.e_iter hi4z
  refine W.loop (fun m σ W => ∃ (i : Nat) (ρ : Env), σ = upds ρ [(0, v_l), (3, I (i : Int))] ∧ M.iterN (m_nilometerref10_CheckPeaks_b0 l) m i = some ex3z ∧ St w W [] R) ?_ ?_
  ·exact ⟨_, 0, _, upds_of _ _ ⟨rfl, rfl, trivial⟩, hi4z, H⟩
  ·rintro m8z σ w6z ⟨i, ρ, rfl, hI7z, H⟩
   obtain ⟨m9z, lt10z, x11z, hM, hN12z⟩ := M.e_iterN hI7z
   simp only [m_nilometerref10_CheckPeaks_b0] at hM
   clear hI7z
   refine W.seq ?_
   refine W.seq ?_
   refine W.region rfl ?_
   refine s_val (x_mv (v := I (i : Int)) rfl) ?_
   refine s_val (x_mv (v := v_l) rfl) ?_
   have hl13z := (hs_l).len_le
   refine s_val (x_lenS T74.und rfl hs_l) ?_
   refine s_val (x_cmp (kd := .i64) (a := (i : Int)) (b := (l.length : Int)) (r := decide ((i : Int) < (l.length : Int))) rfl rfl rfl) ?_
   refine s_nil ?_
   refine W.cond (decide ((i : Int) < (l.length : Int))) rfl (fun c14z => ?_) (fun c14z => ?_)
   ·replace hM := M.e_t hM c14z
    simp only [decide_eq_true_eq, decide_eq_false_iff_not, beq_iff_eq, bne_iff_ne, beq_eq_false_iff_ne, bne_eq_false_iff_eq, ne_eq, Decidable.not_not] at c14z
    refine W.skip ?_
    refine W.seq ?_
    refine W.block ?_
    refine W.seq ?_
    refine W.seq ?_
    refine W.region rfl ?_
    refine s_val (x_mv (v := v_l) rfl) ?_
    refine s_val (x_mv (v := I (i : Int)) rfl) ?_
    obtain ⟨sd15z, hM⟩ := M.e_grd hM
    simp only [Bool.and_eq_true, decide_eq_true_eq] at sd15z
    refine s_val (x_ix (a := v_l) (b := I (i : Int)) (v := vat v_l 2 (Int.toNat (i : Int))) rfl rfl (Sl.ix (α := Pk) T74.und T74.size hs_l (by omega) (by omega))) ?_
    refine s_val (x_fa (a := vat v_l 2 (Int.toNat (i : Int))) (v := fat (vat v_l 2 (Int.toNat (i : Int))) 0) rfl (fa_pl Fd135_0 Sz3 (Sl.pl (i := (i : Int)) hs_l (by omega) (by omega)))) ?_
    refine s_val (x_ld (p := fat (vat v_l 2 (Int.toNat (i : Int))) 0) (v := I ((l.getD i default).day)) rfl (ld_sc Sc3 (At.mono (Pk_at0 hs_l (i := (i : Int)) (by omega) (by omega)) (hC_l.at H)))) ?_
    obtain ⟨r17z, hx16z, hM⟩ := M.e_bind hM
    refine s_call cf67 [I ((l.getD i default).day), I 0, I 4000] rfl (nilometerref10_outside_ok ((l.getD i default).day) 0 4000 hx16z _ (St.give (T := []) H rfl)) ?_
    rintro vq w18z ⟨r2, hr19z, hvq, H2_⟩
    subst hr19z
    subst vq
    try dsimp only at hM
    replace H : St w w18z [] R := H.back H2_ rfl
    clear H2_
    refine s_val (x_mv (v := B r2) rfl) ?_
    refine g_val (!r2) (gy_f rfl) (fun hg => x_mv (v := v_l) rfl) ?_
    refine g_val (!r2) (gy_f rfl) (fun hg => x_mv (v := I (i : Int)) rfl) ?_
    refine g_val (!r2) (gy_f rfl) (fun hg => x_ix (a := v_l) (b := I (i : Int)) (v := vat v_l 2 (Int.toNat (i : Int))) (gd_of (c := !r2) hg (v_l)) (gd_of (c := !r2) hg (I (i : Int))) (Sl.ix (α := Pk) T74.und T74.size hs_l (by first | omega | (have hx_ := hg; simp at hx_; omega)) (by first | omega | (have hx_ := hg; simp at hx_; omega)))) ?_
    refine g_val (!r2) (gy_f rfl) (fun hg => x_fa (a := vat v_l 2 (Int.toNat (i : Int))) (v := fat (vat v_l 2 (Int.toNat (i : Int))) 1) (gd_of (c := !r2) hg (vat v_l 2 (Int.toNat (i : Int)))) (fa_pl Fd135_1 Sz3 (Sl.pl (i := (i : Int)) hs_l (by first | omega | (have hx_ := hg; simp at hx_; omega)) (by first | omega | (have hx_ := hg; simp at hx_; omega))))) ?_
    refine g_val (!r2) (gy_f rfl) (fun hg => x_ld (p := fat (vat v_l 2 (Int.toNat (i : Int))) 1) (v := I ((l.getD i default).stage)) (gd_of (c := !r2) hg (fat (vat v_l 2 (Int.toNat (i : Int))) 1)) (ld_sc Sc3 (At.mono (Pk_at1 hs_l (i := (i : Int)) (by first | omega | (have hx_ := hg; simp at hx_; omega)) (by first | omega | (have hx_ := hg; simp at hx_; omega))) (hC_l.at H)))) ?_
    obtain ⟨r3, hx20z, hM⟩ := M.e_bind hM
    refine t_gcall (!r2) (gy_f rfl) cf67 (B r3) (fun _ => [I ((l.getD i default).stage), I 0, I 2000]) (fun hg => lst3 (gd_of (c := !r2) hg (I ((l.getD i default).stage))) rfl rfl) H (fun hg => (nilometerref10_outside_ok ((l.getD i default).stage) 0 2000 (M.e_opt hx20z hg) _ (H.give (A := []) rfl)).mono fun v_ w_ ⟨y_, hr_, hv_, H_⟩ => by subst hr_; exact ⟨hv_, H.via H_⟩) ?_
    intro w21z H
    refine s_val (x_por (b := r2) (r := r3) rfl rfl (fun hb => gd_of (c := !r2) (by first | exact hb | (rw [hb]; rfl) | simp_all) (B r3))) ?_
    refine s_nil ?_
    refine W.cond (r2 || r3) rfl (fun c22z => ?_) (fun c22z => ?_)
    ·replace hM := M.e_t hM c22z
     refine W.seq ?_
     refine W.region rfl ?_
     refine s_val (x_as (v := I 110) rfl) ?_
     refine s_nil ?_
     refine W.ret ?_
     have hX23z := M.e_inr hM hN12z
     subst hX23z
     replace hM := hk5z
     try dsimp only at hM
     have hr_ := M.e_pure hM
     exact ⟨_, resE_tmp rfl, ⟨110, hr_, rfl, H⟩⟩
    ·replace hM := M.e_f hM c22z
     refine W.skip ?_
     refine W.seq ?_
     refine W.draw (fun W => St w W [] R) [(0, true), (1, true), (2, true), (3, true), (4, true), (5, true), (6, true), (7, true), (8, true), (9, true), (10, true), (11, true), (12, true), (13, true), (14, true), (15, true)] mixed (by decide +kernel) rfl ?_
     intro w24z hx_
     replace H : St w w24z [] R := H.ext hx_
     clear hx_
     refine ⟨(H.pick [] (by decide) rfl), ?_⟩
     refine d_q rfl (fun w' H => x_mv (v := I (i : Int)) rfl) ?_
     refine d_q rfl (fun w' H => x_cmp (kd := .i64) (a := (i : Int)) (b := 0) (r := decide (0 < (i : Int))) rfl rfl rfl) ?_
     refine d_q rfl (fun w' H => x_mv (v := B (decide (0 < (i : Int)))) rfl) ?_
     refine d_qg (decide (0 < (i : Int))) rfl (gy_t rfl) (fun hg => (fun w' H => x_mv (v := v_l) rfl)) ?_
     refine d_qg (decide (0 < (i : Int))) rfl (gy_t rfl) (fun hg => (fun w' H => x_mv (v := I (i : Int)) rfl)) ?_
     refine d_qg (decide (0 < (i : Int))) rfl (gy_t rfl) (fun hg => (fun w' H => x_ix (a := v_l) (b := I (i : Int)) (v := vat v_l 2 (Int.toNat (i : Int))) (gd_of (c := decide (0 < (i : Int))) hg (v_l)) (gd_of (c := decide (0 < (i : Int))) hg (I (i : Int))) (Sl.ix (α := Pk) T74.und T74.size hs_l (by first | omega | (have hx_ := hg; simp at hx_; omega)) (by first | omega | (have hx_ := hg; simp at hx_; omega))))) ?_
     refine d_qg (decide (0 < (i : Int))) rfl (gy_t rfl) (fun hg => (fun w' H => x_fa (a := vat v_l 2 (Int.toNat (i : Int))) (v := fat (vat v_l 2 (Int.toNat (i : Int))) 0) (gd_of (c := decide (0 < (i : Int))) hg (vat v_l 2 (Int.toNat (i : Int)))) (fa_pl Fd135_0 Sz3 (Sl.pl (i := (i : Int)) hs_l (by first | omega | (have hx_ := hg; simp at hx_; omega)) (by first | omega | (have hx_ := hg; simp at hx_; omega)))))) ?_
     refine d_qg (decide (0 < (i : Int))) rfl (gy_t rfl) (fun hg => (fun w' H => x_ld (p := fat (vat v_l 2 (Int.toNat (i : Int))) 0) (v := I ((l.getD i default).day)) (gd_of (c := decide (0 < (i : Int))) hg (fat (vat v_l 2 (Int.toNat (i : Int))) 0)) (ld_sc Sc3 (At.mono (Pk_at0 hs_l (i := (i : Int)) (by first | omega | (have hx_ := hg; simp at hx_; omega)) (by first | omega | (have hx_ := hg; simp at hx_; omega))) (hC_l.at H))))) ?_
     refine d_qg (decide (0 < (i : Int))) rfl (gy_t rfl) (fun hg => (fun w' H => x_mv (v := v_l) rfl)) ?_
     refine d_qg (decide (0 < (i : Int))) rfl (gy_t rfl) (fun hg => (fun w' H => x_mv (v := I (i : Int)) rfl)) ?_
     obtain ⟨sd25z, hM⟩ := M.e_grd hM
     replace sd25z := M.imp_of sd25z
     simp only [Bool.and_eq_true, decide_eq_true_eq] at sd25z
     refine d_qg (decide (0 < (i : Int))) rfl (gy_t rfl) (fun hg => (fun w' H => x_ari (a := (i : Int)) (b := 1) (r := (i : Int) - 1) (gd_of (c := decide (0 < (i : Int))) hg (I (i : Int))) rfl rfl (by have h1_ := sd25z.resolve_left (by rw [hg]; decide); first | exact h1_ | exact h1_.1 | exact h1_.2 | omega | (have hx_ := hg; simp at hx_; omega)))) ?_
     obtain ⟨sd26z, hM⟩ := M.e_grd hM
     replace sd26z := M.imp_of sd26z
     simp only [Bool.and_eq_true, decide_eq_true_eq] at sd26z
     refine d_qg (decide (0 < (i : Int))) rfl (gy_t rfl) (fun hg => (fun w' H => x_ix (a := v_l) (b := I ((i : Int) - 1)) (v := vat v_l 2 (Int.toNat ((i : Int) - 1))) (gd_of (c := decide (0 < (i : Int))) hg (v_l)) (gd_of (c := decide (0 < (i : Int))) hg (I ((i : Int) - 1))) (Sl.ix (α := Pk) T74.und T74.size hs_l (by have h1_ := sd25z.resolve_left (by rw [hg]; decide); have h2_ := sd26z.resolve_left (by rw [hg]; decide); first | exact h1_ | exact h1_.1 | exact h1_.2 | exact h2_ | exact h2_.1 | exact h2_.2 | omega | (have hx_ := hg; simp at hx_; omega)) (by have h1_ := sd25z.resolve_left (by rw [hg]; decide); have h2_ := sd26z.resolve_left (by rw [hg]; decide); first | exact h1_ | exact h1_.1 | exact h1_.2 | exact h2_ | exact h2_.1 | exact h2_.2 | omega | (have hx_ := hg; simp at hx_; omega))))) ?_
     refine d_qg (decide (0 < (i : Int))) rfl (gy_t rfl) (fun hg => (fun w' H => x_fa (a := vat v_l 2 (Int.toNat ((i : Int) - 1))) (v := fat (vat v_l 2 (Int.toNat ((i : Int) - 1))) 0) (gd_of (c := decide (0 < (i : Int))) hg (vat v_l 2 (Int.toNat ((i : Int) - 1)))) (fa_pl Fd135_0 Sz3 (Sl.pl (i := (i : Int) - 1) hs_l (by have h1_ := sd25z.resolve_left (by rw [hg]; decide); have h2_ := sd26z.resolve_left (by rw [hg]; decide); first | exact h1_ | exact h1_.1 | exact h1_.2 | exact h2_ | exact h2_.1 | exact h2_.2 | omega | (have hx_ := hg; simp at hx_; omega)) (by have h1_ := sd25z.resolve_left (by rw [hg]; decide); have h2_ := sd26z.resolve_left (by rw [hg]; decide); first | exact h1_ | exact h1_.1 | exact h1_.2 | exact h2_ | exact h2_.1 | exact h2_.2 | omega | (have hx_ := hg; simp at hx_; omega)))))) ?_
     refine d_qg (decide (0 < (i : Int))) rfl (gy_t rfl) (fun hg => (fun w' H => x_ld (p := fat (vat v_l 2 (Int.toNat ((i : Int) - 1))) 0) (v := I ((l.getD (Int.toNat ((i : Int) - 1)) default).day)) (gd_of (c := decide (0 < (i : Int))) hg (fat (vat v_l 2 (Int.toNat ((i : Int) - 1))) 0)) (ld_sc Sc3 (At.mono (Pk_at0 hs_l (i := (i : Int) - 1) (by have h1_ := sd25z.resolve_left (by rw [hg]; decide); have h2_ := sd26z.resolve_left (by rw [hg]; decide); first | exact h1_ | exact h1_.1 | exact h1_.2 | exact h2_ | exact h2_.1 | exact h2_.2 | omega | (have hx_ := hg; simp at hx_; omega)) (by have h1_ := sd25z.resolve_left (by rw [hg]; decide); have h2_ := sd26z.resolve_left (by rw [hg]; decide); first | exact h1_ | exact h1_.1 | exact h1_.2 | exact h2_ | exact h2_.1 | exact h2_.2 | omega | (have hx_ := hg; simp at hx_; omega))) (hC_l.at H))))) ?_
     refine d_qg (decide (0 < (i : Int))) rfl (gy_t rfl) (fun hg => (fun w' H => x_cmp (kd := .i64) (a := (l.getD i default).day) (b := (l.getD (Int.toNat ((i : Int) - 1)) default).day) (r := decide (((l.getD i default).day) ≤ ((l.getD (Int.toNat ((i : Int) - 1)) default).day))) (gd_of (c := decide (0 < (i : Int))) hg (I ((l.getD i default).day))) (gd_of (c := decide (0 < (i : Int))) hg (I ((l.getD (Int.toNat ((i : Int) - 1)) default).day))) rfl)) ?_
     refine d_q rfl (fun w' H => x_pand (b := decide (0 < (i : Int))) (r := decide (((l.getD i default).day) ≤ ((l.getD (Int.toNat ((i : Int) - 1)) default).day))) rfl (fun hb => gd_of (c := decide (0 < (i : Int))) (by first | exact hb | (rw [hb]; rfl) | simp_all) (B (decide (((l.getD i default).day) ≤ ((l.getD (Int.toNat ((i : Int) - 1)) default).day))))) rfl) ?_
     refine d_nil ?_
     refine W.cond ((decide (0 < (i : Int))) && (decide (((l.getD i default).day) ≤ ((l.getD (Int.toNat ((i : Int) - 1)) default).day)))) rfl (fun c27z => ?_) (fun c27z => ?_)
     ·replace hM := M.e_t hM c27z
      refine W.seq ?_
      refine W.region rfl ?_
      refine s_val (x_as (v := I 9) rfl) ?_
      refine s_nil ?_
      refine W.ret ?_
      have hX28z := M.e_inr hM hN12z
      subst hX28z
      replace hM := hk5z
      try dsimp only at hM
      have hr_ := M.e_pure hM
      exact ⟨_, resE_tmp rfl, ⟨9, hr_, rfl, H⟩⟩
     ·replace hM := M.e_f hM c27z
      refine W.skip ?_
      refine W.region rfl ?_
      refine s_val (x_mv (v := I (i : Int)) rfl) ?_
      refine s_val (x_ari (a := (i : Int)) (b := 1) (r := (i : Int) + 1) rfl rfl rfl (by omega)) ?_
      refine s_val (x_as (v := I ((i : Int) + 1)) rfl) ?_
      refine s_nil ?_
      exact ⟨m9z, lt10z, i + 1, _, upds_of _ _ ⟨rfl, rfl, trivial⟩, M.e_inl hM hN12z, H⟩
   ·replace hM := M.e_f hM c14z
    simp only [decide_eq_true_eq, decide_eq_false_iff_not, beq_iff_eq, bne_iff_ne, beq_eq_false_iff_ne, bne_eq_false_iff_eq, ne_eq, Decidable.not_not] at c14z
    refine W.exit ?_
    have hX29z := M.e_inr hM hN12z
    subst hX29z
    replace hM := hk5z
    try dsimp only at hM
    refine W.seq ?_
    refine W.region rfl ?_
    refine s_val (x_as (v := I 0) rfl) ?_
    refine s_nil ?_
    refine W.ret ?_
    have hr_ := M.e_pure hM
    exact ⟨_, resE_tmp rfl, ⟨0, hr_, rfl, H⟩⟩

def m_nilometerref10_asked (l : List Pk) (apart : Int) (threshold : Int) : M Int :=
  M.bind (m_nilometerref10_CheckPeaks l) fun r2 =>
  bif r2 != 0 then (
  M.pure r2)
  else (
  M.bind (m_nilometerref10_outside apart 1 60) fun r3 =>
  M.bind (M.opt (!r3) (m_nilometerref10_outside threshold 0 2000) false) fun r4 =>
  bif (r3 || r4) then (
  M.pure 4)
  else (
  M.pure 0))
set_option maxRecDepth 100000 in
set_option maxHeartbeats 16000000 in
theorem nilometerref10_asked_ok {R : List Chunk} {C_l : Cells} {v_l : Value} (l : List Pk) (apart : Int) (threshold : Int) (hC_l : Reads R C_l) (hs_l : Sl C_l v_l l) {r : Int} (hM : (m_nilometerref10_asked l apart threshold).Ends r) (w : World) (H : St w w [] R) : Ret Try.prog 74 #[v_l, I apart, I threshold] w fun v w' => ∃ (y0 : Int), y0 = r ∧ v = I y0 ∧ St w w' [] R := by
 refine ret_of_W Try.func74 rfl rfl rfl ?_
 refine W.seq ?_
 refine W.region rfl ?_
 refine s_val (x_as (v := I 0) rfl) ?_
 refine s_nil ?_
 refine W.seq ?_
 refine W.seq ?_
 refine W.region rfl ?_
 refine s_val (x_mv (v := v_l) rfl) ?_
 obtain ⟨r2z, hx1z, hM⟩ := M.e_bind hM
 refine s_call cf34 [v_l] rfl (nilometerref10_CheckPeaks_ok l (hC_l.app _) hs_l hx1z _ (St.give (T := []) H rfl)) ?_
 rintro vq w3z ⟨r2, hr4z, hvq, H2_⟩
 subst hr4z
 subst vq
 try dsimp only at hM
 replace H : St w w3z [] R := H.back H2_ rfl
 clear H2_
 refine s_val (x_as (v := I r2) rfl) ?_
 refine s_nil ?_
 refine W.seq ?_
 refine W.region rfl ?_
 refine s_val (x_mv (v := I r2) rfl) ?_
 refine s_val (x_cmp (kd := .i64) (a := r2) (b := 0) (r := r2 != 0) rfl rfl rfl) ?_
 refine s_nil ?_
 refine W.cond (r2 != 0) rfl (fun c5z => ?_) (fun c5z => ?_)
 ·replace hM := M.e_t hM c5z
  simp only [decide_eq_true_eq, decide_eq_false_iff_not, beq_iff_eq, bne_iff_ne, beq_eq_false_iff_ne, bne_eq_false_iff_eq, ne_eq, Decidable.not_not] at c5z
  refine W.seq ?_
  refine W.region rfl ?_
  refine s_val (x_mv (v := I r2) rfl) ?_
  refine s_val (x_as (v := I r2) rfl) ?_
  refine s_nil ?_
  refine W.ret ?_
  have hr_ := M.e_pure hM
  exact ⟨_, resE_tmp rfl, ⟨r2, hr_, rfl, H⟩⟩
 ·replace hM := M.e_f hM c5z
  simp only [decide_eq_true_eq, decide_eq_false_iff_not, beq_iff_eq, bne_iff_ne, beq_eq_false_iff_ne, bne_eq_false_iff_eq, ne_eq, Decidable.not_not] at c5z
  refine W.skip ?_
  refine W.seq ?_
  refine W.seq ?_
  refine W.region rfl ?_
  refine s_val (x_mv (v := I apart) rfl) ?_
  obtain ⟨r7z, hx6z, hM⟩ := M.e_bind hM
  refine s_call cf67 [I apart, I 1, I 60] rfl (nilometerref10_outside_ok apart 1 60 hx6z _ (St.give (T := []) H rfl)) ?_
  rintro vq w8z ⟨r3, hr9z, hvq, H2_⟩
  subst hr9z
  subst vq
  try dsimp only at hM
  replace H : St w w8z [] R := H.back H2_ rfl
  clear H2_
  refine s_val (x_mv (v := B r3) rfl) ?_
  refine g_val (!r3) (gy_f rfl) (fun hg => x_mv (v := I threshold) rfl) ?_
  obtain ⟨r4, hx10z, hM⟩ := M.e_bind hM
  refine t_gcall (!r3) (gy_f rfl) cf67 (B r4) (fun _ => [I threshold, I 0, I 2000]) (fun hg => lst3 (gd_of (c := !r3) hg (I threshold)) rfl rfl) H (fun hg => (nilometerref10_outside_ok threshold 0 2000 (M.e_opt hx10z hg) _ (H.give (A := []) rfl)).mono fun v_ w_ ⟨y_, hr_, hv_, H_⟩ => by subst hr_; exact ⟨hv_, H.via H_⟩) ?_
  intro w11z H
  refine s_val (x_por (b := r3) (r := r4) rfl rfl (fun hb => gd_of (c := !r3) (by first | exact hb | (rw [hb]; rfl) | simp_all) (B r4))) ?_
  refine s_nil ?_
  refine W.cond (r3 || r4) rfl (fun c12z => ?_) (fun c12z => ?_)
  ·replace hM := M.e_t hM c12z
   refine W.seq ?_
   refine W.region rfl ?_
   refine s_val (x_as (v := I 4) rfl) ?_
   refine s_nil ?_
   refine W.ret ?_
   have hr_ := M.e_pure hM
   exact ⟨_, resE_tmp rfl, ⟨4, hr_, rfl, H⟩⟩
  ·replace hM := M.e_f hM c12z
   refine W.skip ?_
   refine W.seq ?_
   refine W.region rfl ?_
   refine s_val (x_as (v := I 0) rfl) ?_
   refine s_nil ?_
   refine W.ret ?_
   have hr_ := M.e_pure hM
   exact ⟨_, resE_tmp rfl, ⟨0, hr_, rfl, H⟩⟩

def m_nilometerref10_Worth_b0 (l : List Pk) (choice : List Int) : Nat → M (Nat ⊕ (Unit ⊕ Unit)) := fun k =>
  bif decide ((k : Int) < (choice.length : Int)) then (
  M.grd (decide ((k : Int) < (choice.length : Int))) <|
  M.bind (m_nilometerref10_outside (choice.getD k 0) 0 ((l.length : Int) - 1)) fun r3 =>
  M.grd ((!((!r3) && (decide (0 < (k : Int)))) || (decide ((-9223372036854775808 : Int) ≤ ((k : Int) - 1)) && decide (((k : Int) - 1) ≤ (9223372036854775807 : Int))))) <|
  M.grd ((!((!r3) && (decide (0 < (k : Int)))) || (decide ((0 : Int) ≤ ((k : Int) - 1)) && decide (((k : Int) - 1) < (choice.length : Int))))) <|
  bif (r3 || ((decide (0 < (k : Int))) && (decide ((choice.getD k 0) ≤ (choice.getD (Int.toNat ((k : Int) - 1)) 0))))) then (
  M.pure (.inr (.inl ())))
  else (
  M.pure (.inl (k + 1))))
  else (
  M.pure (.inr (.inr ())))
def m_nilometerref10_Worth_b2 (l : List Pk) (apart : Int) (choice : List Int) (k2 : Nat) : Nat → M (Nat ⊕ (Unit ⊕ Unit)) := fun j =>
  bif decide ((j : Int) < (k2 : Int)) then (
  M.grd (decide ((j : Int) < (choice.length : Int))) <|
  M.grd (decide ((0 : Int) ≤ (choice.getD j 0)) && decide ((choice.getD j 0) < (l.length : Int))) <|
  M.grd (decide ((-9223372036854775808 : Int) ≤ (((l.getD (Int.toNat (choice.getD k2 0)) default).day) - ((l.getD (Int.toNat (choice.getD j 0)) default).day))) && decide ((((l.getD (Int.toNat (choice.getD k2 0)) default).day) - ((l.getD (Int.toNat (choice.getD j 0)) default).day)) ≤ (9223372036854775807 : Int))) <|
  bif decide ((((l.getD (Int.toNat (choice.getD k2 0)) default).day) - ((l.getD (Int.toNat (choice.getD j 0)) default).day)) < apart) then (
  M.pure (.inr (.inl ())))
  else (
  M.pure (.inl (j + 1))))
  else (
  M.pure (.inr (.inr ())))
def m_nilometerref10_Worth_b3 (l : List Pk) (apart : Int) (threshold : Int) (choice : List Int) : (Int × Nat) → M ((Int × Nat) ⊕ (Unit ⊕ Int)) := fun (sum, k2) =>
  bif decide ((k2 : Int) < (choice.length : Int)) then (
  M.grd (decide ((k2 : Int) < (choice.length : Int))) <|
  M.grd (decide ((0 : Int) ≤ (choice.getD k2 0)) && decide ((choice.getD k2 0) < (l.length : Int))) <|
  bif decide (((l.getD (Int.toNat (choice.getD k2 0)) default).stage) ≤ threshold) then (
  M.pure (.inr (.inl ())))
  else (
  M.bind (M.iter (m_nilometerref10_Worth_b2 l apart choice k2) 0) fun x_ => match x_ with
  | (.inl (_ : Unit)) => (
  M.pure (.inr (.inl ())))
  | (.inr (_ : Unit)) => (
  M.grd (decide ((-9223372036854775808 : Int) ≤ (sum + ((l.getD (Int.toNat (choice.getD k2 0)) default).stage))) && decide ((sum + ((l.getD (Int.toNat (choice.getD k2 0)) default).stage)) ≤ (9223372036854775807 : Int))) <|
  M.grd (decide ((-9223372036854775808 : Int) ≤ ((sum + ((l.getD (Int.toNat (choice.getD k2 0)) default).stage)) - threshold)) && decide (((sum + ((l.getD (Int.toNat (choice.getD k2 0)) default).stage)) - threshold) ≤ (9223372036854775807 : Int))) <|
  M.pure (.inl ((sum + ((l.getD (Int.toNat (choice.getD k2 0)) default).stage)) - threshold, k2 + 1)))))
  else (
  M.pure (.inr (.inr sum)))
def m_nilometerref10_Worth (l : List Pk) (apart : Int) (threshold : Int) (choice : List Int) : M (Int × Int) :=
  M.bind (m_nilometerref10_asked l apart threshold) fun r2 =>
  bif r2 != 0 then (
  M.pure (0, r2))
  else (
  M.bind (M.iter (m_nilometerref10_Worth_b0 l choice) 0) fun x_ => match x_ with
  | (.inl (_ : Unit)) => (
  M.pure (0, 2))
  | (.inr (_ : Unit)) => (
  M.bind (M.iter (m_nilometerref10_Worth_b3 l apart threshold choice) (0, 0)) fun x_ => match x_ with
  | (.inl (_ : Unit)) => (
  M.pure (0, 7))
  | (.inr sum2) => (
  M.pure (sum2, 0))))
set_option maxRecDepth 100000 in
set_option maxHeartbeats 16000000 in
theorem nilometerref10_Worth_ok {R : List Chunk} {C_l : Cells} {v_l : Value} {C_choice : Cells} {v_choice : Value} (l : List Pk) (apart : Int) (threshold : Int) (choice : List Int) (hC_l : Reads R C_l) (hs_l : Sl C_l v_l l) (hC_choice : Reads R C_choice) (hs_choice : Sl C_choice v_choice choice) {r : (Int × Int)} (hM : (m_nilometerref10_Worth l apart threshold choice).Ends r) (w : World) (H : St w w [] R) : Ret Try.prog 36 #[v_l, I apart, I threshold, v_choice] w fun v w' => ∃ (y0 : Int) (y1 : Int), (y0, y1) = r ∧ v = .tuple #[I y0, I y1] ∧ St w w' [] R := by
 refine ret_of_W Try.func36 rfl rfl rfl ?_
 refine W.seq ?_
 refine W.region rfl ?_
 refine s_val (x_as (v := I 0) rfl) ?_
 refine s_val (x_as (v := I 0) rfl) ?_
 refine s_nil ?_
 refine W.seq ?_
 refine W.seq ?_
 refine W.region rfl ?_
 refine s_val (x_mv (v := v_l) rfl) ?_
 refine s_val (x_mv (v := I apart) rfl) ?_
 refine s_val (x_mv (v := I threshold) rfl) ?_
 obtain ⟨r2z, hx1z, hM⟩ := M.e_bind hM
 refine s_call cf74 [v_l, I apart, I threshold] rfl (nilometerref10_asked_ok l apart threshold (hC_l.app _) hs_l hx1z _ (St.give (T := []) H rfl)) ?_
 rintro vq w3z ⟨r2, hr4z, hvq, H2_⟩
 subst hr4z
 subst vq
 try dsimp only at hM
 replace H : St w w3z [] R := H.back H2_ rfl
 clear H2_
 refine s_val (x_as (v := I r2) rfl) ?_
 refine s_nil ?_
 refine W.seq ?_
 refine W.region rfl ?_
 refine s_val (x_mv (v := I r2) rfl) ?_
 refine s_val (x_cmp (kd := .i64) (a := r2) (b := 0) (r := r2 != 0) rfl rfl rfl) ?_
 refine s_nil ?_
 refine W.cond (r2 != 0) rfl (fun c5z => ?_) (fun c5z => ?_)
 ·replace hM := M.e_t hM c5z
  simp only [decide_eq_true_eq, decide_eq_false_iff_not, beq_iff_eq, bne_iff_ne, beq_eq_false_iff_ne, bne_eq_false_iff_eq, ne_eq, Decidable.not_not] at c5z
  refine W.seq ?_
  refine W.region rfl ?_
  refine s_val (x_mv (v := I r2) rfl) ?_
  refine s_val (x_as (v := I 0) rfl) ?_
  refine s_val (x_as (v := I r2) rfl) ?_
  refine s_nil ?_
  refine W.ret ?_
  have hr_ := M.e_pure hM
  exact ⟨_, resE_tmp2 rfl, ⟨0, r2, hr_, rfl, H⟩⟩
 ·replace hM := M.e_f hM c5z
  simp only [decide_eq_true_eq, decide_eq_false_iff_not, beq_iff_eq, bne_iff_ne, beq_eq_false_iff_ne, bne_eq_false_iff_eq, ne_eq, Decidable.not_not] at c5z
  refine W.skip ?_
  refine W.seq ?_
  refine W.seq ?_
  refine W.region rfl ?_
  refine s_val (x_as (v := I 0) rfl) ?_
  refine s_nil ?_
  refine W.block ?_
  obtain ⟨ex6z, hi7z, hk8z⟩ := M.e_bind hM
  obtain ⟨m0_, hi7z⟩ := M.e_iter hi7z
  refine W.loop (fun m σ W => ∃ (k : Nat) (ρ : Env), σ = upds ρ [(0, v_l), (1, I apart), (2, I threshold), (3, v_choice), (11, I (k : Int))] ∧ M.iterN (m_nilometerref10_Worth_b0 l choice) m k = some ex6z ∧ St w W [] R) ?_ ?_
  ·exact ⟨_, 0, _, upds_of _ _ ⟨rfl, rfl, rfl, rfl, rfl, trivial⟩, hi7z, H⟩
  ·rintro m11z σ w9z ⟨k, ρ, rfl, hI10z, H⟩
   obtain ⟨m12z, lt13z, x14z, hM, hN15z⟩ := M.e_iterN hI10z
   simp only [m_nilometerref10_Worth_b0] at hM
   clear hI10z
   refine W.seq ?_
   refine W.seq ?_
   refine W.region rfl ?_
   refine s_val (x_mv (v := I (k : Int)) rfl) ?_
   refine s_val (x_mv (v := v_choice) rfl) ?_
   have hl16z := (hs_choice).len_le
   refine s_val (x_lenS T27.und rfl hs_choice) ?_
   refine s_val (x_cmp (kd := .i64) (a := (k : Int)) (b := (choice.length : Int)) (r := decide ((k : Int) < (choice.length : Int))) rfl rfl rfl) ?_
   refine s_nil ?_
   refine W.cond (decide ((k : Int) < (choice.length : Int))) rfl (fun c17z => ?_) (fun c17z => ?_)
   ·replace hM := M.e_t hM c17z
    simp only [decide_eq_true_eq, decide_eq_false_iff_not, beq_iff_eq, bne_iff_ne, beq_eq_false_iff_ne, bne_eq_false_iff_eq, ne_eq, Decidable.not_not] at c17z
    refine W.skip ?_
    refine W.seq ?_
    refine W.block ?_
    refine W.seq ?_
    refine W.draw (fun W => St w W [] R) [(0, true), (1, true), (2, true), (3, true), (4, true), (5, true), (6, true), (7, false), (8, true), (9, true), (10, true), (11, true), (12, true), (13, true), (14, true), (15, true), (16, true), (17, true), (18, true), (19, true), (20, true), (21, true), (22, true), (23, true)] mixed (by decide +kernel) rfl ?_
    intro w18z hx_
    replace H : St w w18z [] R := H.ext hx_
    clear hx_
    refine ⟨(H.pick [] (by decide) rfl), ?_⟩
    refine d_q rfl (fun w' H => x_mv (v := v_choice) rfl) ?_
    refine d_q rfl (fun w' H => x_mv (v := I (k : Int)) rfl) ?_
    obtain ⟨sd19z, hM⟩ := M.e_grd hM
    simp only [Bool.and_eq_true, decide_eq_true_eq] at sd19z
    refine d_q rfl (fun w' H => x_ix (a := v_choice) (b := I (k : Int)) (v := vat v_choice 1 (Int.toNat (k : Int))) rfl rfl (Sl.ix (α := Int) T27.und T27.size hs_choice (by omega) (by omega))) ?_
    refine d_q rfl (fun w' H => x_ld (p := vat v_choice 1 (Int.toNat (k : Int))) (v := I (choice.getD k 0)) rfl (ld_sc Sc3 (At.mono (Int_at hs_choice (i := (k : Int)) (by omega) (by omega)) (hC_choice.at H)))) ?_
    refine d_q rfl (fun w' H => x_mv (v := v_l) rfl) ?_
    have hl20z := (hs_l).len_le
    refine d_q rfl (fun w' H => x_lenS T74.und rfl hs_l) ?_
    refine d_q rfl (fun w' H => x_ari (a := (l.length : Int)) (b := 1) (r := (l.length : Int) - 1) rfl rfl rfl (by omega)) ?_
    refine d_l rfl ?_
    obtain ⟨r22z, hx21z, hM⟩ := M.e_bind hM
    refine s_call cf67 [I (choice.getD k 0), I 0, I ((l.length : Int) - 1)] rfl (nilometerref10_outside_ok (choice.getD k 0) 0 ((l.length : Int) - 1) hx21z _ (St.give (T := []) H rfl)) ?_
    rintro vq w23z ⟨r3, hr24z, hvq, H2_⟩
    subst hr24z
    subst vq
    try dsimp only at hM
    replace H : St w w23z [] R := H.back H2_ rfl
    clear H2_
    refine s_nil ⟨(H.pick [] (by decide) rfl), ?_⟩
    refine d_q rfl (fun w' H => x_mv (v := B r3) rfl) ?_
    refine d_qg (!r3) rfl (gy_f rfl) (fun hg => (fun w' H => x_mv (v := I (k : Int)) rfl)) ?_
    refine d_qg (!r3) rfl (gy_f rfl) (fun hg => (fun w' H => x_cmp (kd := .i64) (a := (k : Int)) (b := 0) (r := decide (0 < (k : Int))) (gd_of (c := !r3) hg (I (k : Int))) rfl rfl)) ?_
    refine d_qg (!r3) rfl (gy_f rfl) (fun hg => (fun w' H => x_mv (v := B (decide (0 < (k : Int)))) (gd_of (c := !r3) hg (B (decide (0 < (k : Int))))))) ?_
    refine d_qg ((!r3) && (decide (0 < (k : Int)))) rfl (gy_gt rfl rfl) (fun hg => (fun w' H => x_mv (v := v_choice) rfl)) ?_
    refine d_qg ((!r3) && (decide (0 < (k : Int)))) rfl (gy_gt rfl rfl) (fun hg => (fun w' H => x_mv (v := I (k : Int)) rfl)) ?_
    refine d_qg ((!r3) && (decide (0 < (k : Int)))) rfl (gy_gt rfl rfl) (fun hg => (fun w' H => x_ix (a := v_choice) (b := I (k : Int)) (v := vat v_choice 1 (Int.toNat (k : Int))) (gd_of (c := ((!r3) && (decide (0 < (k : Int))))) hg (v_choice)) (gd_of (c := ((!r3) && (decide (0 < (k : Int))))) hg (I (k : Int))) (Sl.ix (α := Int) T27.und T27.size hs_choice (by first | omega | (have hx_ := hg; simp at hx_; omega)) (by first | omega | (have hx_ := hg; simp at hx_; omega))))) ?_
    refine d_qg ((!r3) && (decide (0 < (k : Int)))) rfl (gy_gt rfl rfl) (fun hg => (fun w' H => x_ld (p := vat v_choice 1 (Int.toNat (k : Int))) (v := I (choice.getD k 0)) (gd_of (c := ((!r3) && (decide (0 < (k : Int))))) hg (vat v_choice 1 (Int.toNat (k : Int)))) (ld_sc Sc3 (At.mono (Int_at hs_choice (i := (k : Int)) (by first | omega | (have hx_ := hg; simp at hx_; omega)) (by first | omega | (have hx_ := hg; simp at hx_; omega))) (hC_choice.at H))))) ?_
    refine d_qg ((!r3) && (decide (0 < (k : Int)))) rfl (gy_gt rfl rfl) (fun hg => (fun w' H => x_mv (v := v_choice) rfl)) ?_
    refine d_qg ((!r3) && (decide (0 < (k : Int)))) rfl (gy_gt rfl rfl) (fun hg => (fun w' H => x_mv (v := I (k : Int)) rfl)) ?_
    obtain ⟨sd25z, hM⟩ := M.e_grd hM
    replace sd25z := M.imp_of sd25z
    simp only [Bool.and_eq_true, decide_eq_true_eq] at sd25z
    refine d_qg ((!r3) && (decide (0 < (k : Int)))) rfl (gy_gt rfl rfl) (fun hg => (fun w' H => x_ari (a := (k : Int)) (b := 1) (r := (k : Int) - 1) (gd_of (c := ((!r3) && (decide (0 < (k : Int))))) hg (I (k : Int))) rfl rfl (by have h1_ := sd25z.resolve_left (by rw [hg]; decide); first | exact h1_ | exact h1_.1 | exact h1_.2 | omega | (have hx_ := hg; simp at hx_; omega)))) ?_
    obtain ⟨sd26z, hM⟩ := M.e_grd hM
    replace sd26z := M.imp_of sd26z
    simp only [Bool.and_eq_true, decide_eq_true_eq] at sd26z
    refine d_qg ((!r3) && (decide (0 < (k : Int)))) rfl (gy_gt rfl rfl) (fun hg => (fun w' H => x_ix (a := v_choice) (b := I ((k : Int) - 1)) (v := vat v_choice 1 (Int.toNat ((k : Int) - 1))) (gd_of (c := ((!r3) && (decide (0 < (k : Int))))) hg (v_choice)) (gd_of (c := ((!r3) && (decide (0 < (k : Int))))) hg (I ((k : Int) - 1))) (Sl.ix (α := Int) T27.und T27.size hs_choice (by have h1_ := sd25z.resolve_left (by rw [hg]; decide); have h2_ := sd26z.resolve_left (by rw [hg]; decide); first | exact h1_ | exact h1_.1 | exact h1_.2 | exact h2_ | exact h2_.1 | exact h2_.2 | omega | (have hx_ := hg; simp at hx_; omega)) (by have h1_ := sd25z.resolve_left (by rw [hg]; decide); have h2_ := sd26z.resolve_left (by rw [hg]; decide); first | exact h1_ | exact h1_.1 | exact h1_.2 | exact h2_ | exact h2_.1 | exact h2_.2 | omega | (have hx_ := hg; simp at hx_; omega))))) ?_
    refine d_qg ((!r3) && (decide (0 < (k : Int)))) rfl (gy_gt rfl rfl) (fun hg => (fun w' H => x_ld (p := vat v_choice 1 (Int.toNat ((k : Int) - 1))) (v := I (choice.getD (Int.toNat ((k : Int) - 1)) 0)) (gd_of (c := ((!r3) && (decide (0 < (k : Int))))) hg (vat v_choice 1 (Int.toNat ((k : Int) - 1)))) (ld_sc Sc3 (At.mono (Int_at hs_choice (i := (k : Int) - 1) (by have h1_ := sd25z.resolve_left (by rw [hg]; decide); have h2_ := sd26z.resolve_left (by rw [hg]; decide); first | exact h1_ | exact h1_.1 | exact h1_.2 | exact h2_ | exact h2_.1 | exact h2_.2 | omega | (have hx_ := hg; simp at hx_; omega)) (by have h1_ := sd25z.resolve_left (by rw [hg]; decide); have h2_ := sd26z.resolve_left (by rw [hg]; decide); first | exact h1_ | exact h1_.1 | exact h1_.2 | exact h2_ | exact h2_.1 | exact h2_.2 | omega | (have hx_ := hg; simp at hx_; omega))) (hC_choice.at H))))) ?_
    refine d_qg ((!r3) && (decide (0 < (k : Int)))) rfl (gy_gt rfl rfl) (fun hg => (fun w' H => x_cmp (kd := .i64) (a := choice.getD k 0) (b := choice.getD (Int.toNat ((k : Int) - 1)) 0) (r := decide ((choice.getD k 0) ≤ (choice.getD (Int.toNat ((k : Int) - 1)) 0))) (gd_of (c := ((!r3) && (decide (0 < (k : Int))))) hg (I (choice.getD k 0))) (gd_of (c := ((!r3) && (decide (0 < (k : Int))))) hg (I (choice.getD (Int.toNat ((k : Int) - 1)) 0))) rfl)) ?_
    refine d_qg (!r3) rfl (gy_f rfl) (fun hg => (fun w' H => x_pand (b := decide (0 < (k : Int))) (r := decide ((choice.getD k 0) ≤ (choice.getD (Int.toNat ((k : Int) - 1)) 0))) (gd_of (c := !r3) hg (B (decide (0 < (k : Int))))) (fun hb => gd_of (c := ((!r3) && (decide (0 < (k : Int))))) (by first | exact hb | (rw [hb]; rfl) | simp_all) (B (decide ((choice.getD k 0) ≤ (choice.getD (Int.toNat ((k : Int) - 1)) 0))))) rfl)) ?_
    refine d_q rfl (fun w' H => x_por (b := r3) (r := ((decide (0 < (k : Int))) && (decide ((choice.getD k 0) ≤ (choice.getD (Int.toNat ((k : Int) - 1)) 0))))) rfl rfl (fun hb => gd_of (c := !r3) (by first | exact hb | (rw [hb]; rfl) | simp_all) (B ((decide (0 < (k : Int))) && (decide ((choice.getD k 0) ≤ (choice.getD (Int.toNat ((k : Int) - 1)) 0))))))) ?_
    refine d_nil ?_
    refine W.cond (r3 || ((decide (0 < (k : Int))) && (decide ((choice.getD k 0) ≤ (choice.getD (Int.toNat ((k : Int) - 1)) 0))))) rfl (fun c27z => ?_) (fun c27z => ?_)
    ·replace hM := M.e_t hM c27z
     refine W.seq ?_
     refine W.region rfl ?_
     refine s_val (x_as (v := I 0) rfl) ?_
     refine s_val (x_as (v := I 2) rfl) ?_
     refine s_nil ?_
     refine W.ret ?_
     have hX28z := M.e_inr hM hN15z
     subst hX28z
     replace hM := hk8z
     try dsimp only at hM
     have hr_ := M.e_pure hM
     exact ⟨_, resE_tmp2 rfl, ⟨0, 2, hr_, rfl, H⟩⟩
    ·replace hM := M.e_f hM c27z
     refine W.skip ?_
     refine W.region rfl ?_
     refine s_val (x_mv (v := I (k : Int)) rfl) ?_
     refine s_val (x_ari (a := (k : Int)) (b := 1) (r := (k : Int) + 1) rfl rfl rfl (by omega)) ?_
     refine s_val (x_as (v := I ((k : Int) + 1)) rfl) ?_
     refine s_nil ?_
     exact ⟨m12z, lt13z, k + 1, _, upds_of _ _ ⟨rfl, rfl, rfl, rfl, rfl, trivial⟩, M.e_inl hM hN15z, H⟩
   ·replace hM := M.e_f hM c17z
    simp only [decide_eq_true_eq, decide_eq_false_iff_not, beq_iff_eq, bne_iff_ne, beq_eq_false_iff_ne, bne_eq_false_iff_eq, ne_eq, Decidable.not_not] at c17z
    refine W.exit ?_
    have hX29z := M.e_inr hM hN15z
    subst hX29z
    replace hM := hk8z
    try dsimp only at hM
    refine W.seq ?_
    refine W.region rfl ?_
    refine s_val (x_as (v := I 0) rfl) ?_
    refine s_nil ?_
    refine W.seq ?_
    refine W.seq ?_
    refine W.region rfl ?_
    refine s_val (x_as (v := I 0) rfl) ?_
    refine s_nil ?_
    refine W.block ?_
    obtain ⟨ex30z, hi31z, hk32z⟩ := M.e_bind hM
    obtain ⟨m0_, hi31z⟩ := M.e_iter hi31z
    refine W.loop (fun m σ W => ∃ (sum : Int) (k2 : Nat) (ρ : Env), σ = upds ρ [(0, v_l), (1, I apart), (2, I threshold), (3, v_choice), (12, I sum), (13, I (k2 : Int))] ∧ M.iterN (m_nilometerref10_Worth_b3 l apart threshold choice) m (sum, k2) = some ex30z ∧ St w W [] R) ?_ ?_
    ·exact ⟨_, 0, 0, _, upds_of _ _ ⟨rfl, rfl, rfl, rfl, rfl, rfl, trivial⟩, hi31z, H⟩
    ·rintro m35z σ w33z ⟨sum, k2, ρ, rfl, hI34z, H⟩
     obtain ⟨m36z, lt37z, x38z, hM, hN39z⟩ := M.e_iterN hI34z
     simp only [m_nilometerref10_Worth_b3] at hM
     clear hI34z
     refine W.seq ?_
     refine W.seq ?_
     refine W.region rfl ?_
     refine s_val (x_mv (v := I (k2 : Int)) rfl) ?_
     refine s_val (x_mv (v := v_choice) rfl) ?_
     have hl40z := (hs_choice).len_le
     refine s_val (x_lenS T27.und rfl hs_choice) ?_
     refine s_val (x_cmp (kd := .i64) (a := (k2 : Int)) (b := (choice.length : Int)) (r := decide ((k2 : Int) < (choice.length : Int))) rfl rfl rfl) ?_
     refine s_nil ?_
     refine W.cond (decide ((k2 : Int) < (choice.length : Int))) rfl (fun c41z => ?_) (fun c41z => ?_)
     ·replace hM := M.e_t hM c41z
      simp only [decide_eq_true_eq, decide_eq_false_iff_not, beq_iff_eq, bne_iff_ne, beq_eq_false_iff_ne, bne_eq_false_iff_eq, ne_eq, Decidable.not_not] at c41z
      refine W.skip ?_
      refine W.seq ?_
      refine W.block ?_
      refine W.seq ?_
      refine W.region rfl ?_
      refine s_val (x_mv (v := v_l) rfl) ?_
      refine s_val (x_mv (v := v_choice) rfl) ?_
      refine s_val (x_mv (v := I (k2 : Int)) rfl) ?_
      obtain ⟨sd42z, hM⟩ := M.e_grd hM
      simp only [Bool.and_eq_true, decide_eq_true_eq] at sd42z
      refine s_val (x_ix (a := v_choice) (b := I (k2 : Int)) (v := vat v_choice 1 (Int.toNat (k2 : Int))) rfl rfl (Sl.ix (α := Int) T27.und T27.size hs_choice (by omega) (by omega))) ?_
      refine s_val (x_ld (p := vat v_choice 1 (Int.toNat (k2 : Int))) (v := I (choice.getD k2 0)) rfl (ld_sc Sc3 (At.mono (Int_at hs_choice (i := (k2 : Int)) (by omega) (by omega)) (hC_choice.at H)))) ?_
      obtain ⟨sd43z, hM⟩ := M.e_grd hM
      simp only [Bool.and_eq_true, decide_eq_true_eq] at sd43z
      refine s_val (x_ix (a := v_l) (b := I (choice.getD k2 0)) (v := vat v_l 2 (Int.toNat (choice.getD k2 0))) rfl rfl (Sl.ix (α := Pk) T74.und T74.size hs_l (by omega) (by omega))) ?_
      refine s_val (x_ld (p := vat v_l 2 (Int.toNat (choice.getD k2 0))) (v := .agg #[I ((l.getD (Int.toNat (choice.getD k2 0)) default).day), I ((l.getD (Int.toNat (choice.getD k2 0)) default).stage)]) rfl (ld_ag Ag135 Sz135 (At.mono (Pk_atA hs_l (i := choice.getD k2 0) (by omega) (by omega)) (hC_l.at H)))) ?_
      refine t_alloc (cs := [I 0, I 0]) H Al135 rfl ?_
      intro b_1 w44z H
      refine t_st (k := 0) (b := b_1) (off := 0) (cs := [I 0, I 0]) (vs := [I ((l.getD (Int.toNat (choice.getD k2 0)) default).day), I ((l.getD (Int.toNat (choice.getD k2 0)) default).stage)]) (cs' := [I ((l.getD (Int.toNat (choice.getD k2 0)) default).day), I ((l.getD (Int.toNat (choice.getD k2 0)) default).stage)]) (v := .agg #[I ((l.getD (Int.toNat (choice.getD k2 0)) default).day), I ((l.getD (Int.toNat (choice.getD k2 0)) default).stage)]) (L' := [cBlk b_1 [I ((l.getD (Int.toNat (choice.getD k2 0)) default).day), I ((l.getD (Int.toNat (choice.getD k2 0)) default).stage)] 135]) H rfl rfl rfl Sz135 rfl rfl rfl rfl rfl rfl ?_
      intro w45z H
      refine s_nil ?_
      refine W.seq ?_
      refine W.seq ?_
      refine W.region rfl ?_
      refine s_val (x_fa (a := .pointer (some ⟨b_1, 0, none⟩)) (v := .pointer (some ⟨b_1, 1, none⟩)) rfl (fa_blk (o := 0) Fd135_1 Sz3)) ?_
      refine s_val (x_ld (p := .pointer (some ⟨b_1, 1, none⟩)) (v := I ((l.getD (Int.toNat (choice.getD k2 0)) default).stage)) rfl (ldb_sc Sc3 (H.blk (k := 0) rfl) rfl)) ?_
      refine s_val (x_mv (v := I threshold) rfl) ?_
      refine s_val (x_cmp (kd := .i64) (a := (l.getD (Int.toNat (choice.getD k2 0)) default).stage) (b := threshold) (r := decide (((l.getD (Int.toNat (choice.getD k2 0)) default).stage) ≤ threshold)) rfl rfl rfl) ?_
      refine s_nil ?_
      refine W.cond (decide (((l.getD (Int.toNat (choice.getD k2 0)) default).stage) ≤ threshold)) rfl (fun c46z => ?_) (fun c46z => ?_)
      ·replace hM := M.e_t hM c46z
       simp only [decide_eq_true_eq, decide_eq_false_iff_not, beq_iff_eq, bne_iff_ne, beq_eq_false_iff_ne, bne_eq_false_iff_eq, ne_eq, Decidable.not_not] at c46z
       refine W.seq ?_
       refine W.region rfl ?_
       refine s_val (x_as (v := I 0) rfl) ?_
       refine s_val (x_as (v := I 7) rfl) ?_
       refine s_nil ?_
       refine W.ret ?_
       have hX47z := M.e_inr hM hN39z
       subst hX47z
       replace hM := hk32z
       try dsimp only at hM
       have hr_ := M.e_pure hM
       exact ⟨_, resE_tmp2 rfl, ⟨0, 7, hr_, rfl, (H.pick [] (by decide) rfl)⟩⟩
      ·replace hM := M.e_f hM c46z
       simp only [decide_eq_true_eq, decide_eq_false_iff_not, beq_iff_eq, bne_iff_ne, beq_eq_false_iff_ne, bne_eq_false_iff_eq, ne_eq, Decidable.not_not] at c46z
       refine W.skip ?_
       refine W.seq ?_
       refine W.seq ?_
       refine W.region rfl ?_
       refine s_val (x_as (v := I 0) rfl) ?_
       refine s_nil ?_
       refine W.block ?_
       obtain ⟨ex48z, hi49z, hk50z⟩ := M.e_bind hM
       obtain ⟨m0_, hi49z⟩ := M.e_iter hi49z
       refine W.loop (fun m σ W => ∃ (j : Nat) (ρ : Env), σ = upds ρ [(0, v_l), (1, I apart), (2, I threshold), (3, v_choice), (12, I sum), (13, I (k2 : Int)), (14, .pointer (some ⟨b_1, 0, none⟩)), (15, I (j : Int))] ∧ M.iterN (m_nilometerref10_Worth_b2 l apart choice k2) m j = some ex48z ∧ St w W [cBlk b_1 [I ((l.getD (Int.toNat (choice.getD k2 0)) default).day), I ((l.getD (Int.toNat (choice.getD k2 0)) default).stage)] 135] R) ?_ ?_
       ·exact ⟨_, 0, _, upds_of _ _ ⟨rfl, rfl, rfl, rfl, rfl, rfl, rfl, rfl, trivial⟩, hi49z, H⟩
       ·rintro m53z σ w51z ⟨j, ρ, rfl, hI52z, H⟩
        obtain ⟨m54z, lt55z, x56z, hM, hN57z⟩ := M.e_iterN hI52z
        simp only [m_nilometerref10_Worth_b2] at hM
        clear hI52z
        refine W.seq ?_
        refine W.seq ?_
        refine W.region rfl ?_
        refine s_val (x_mv (v := I (j : Int)) rfl) ?_
        refine s_val (x_mv (v := I (k2 : Int)) rfl) ?_
        refine s_val (x_cmp (kd := .i64) (a := (j : Int)) (b := (k2 : Int)) (r := decide ((j : Int) < (k2 : Int))) rfl rfl rfl) ?_
        refine s_nil ?_
        refine W.cond (decide ((j : Int) < (k2 : Int))) rfl (fun c58z => ?_) (fun c58z => ?_)
        ·replace hM := M.e_t hM c58z
         simp only [decide_eq_true_eq, decide_eq_false_iff_not, beq_iff_eq, bne_iff_ne, beq_eq_false_iff_ne, bne_eq_false_iff_eq, ne_eq, Decidable.not_not] at c58z
         refine W.skip ?_
         refine W.seq ?_
         refine W.block ?_
         refine W.seq ?_
         refine W.draw (fun W => St w W [cBlk b_1 [I ((l.getD (Int.toNat (choice.getD k2 0)) default).day), I ((l.getD (Int.toNat (choice.getD k2 0)) default).stage)] 135] R) [(0, true), (1, true), (2, true), (3, true), (4, true), (5, true), (6, true), (7, true), (8, true), (9, true), (10, true), (11, true), (12, true)] mixed (by decide +kernel) rfl ?_
         intro w59z hx_
         replace H : St w w59z [cBlk b_1 [I ((l.getD (Int.toNat (choice.getD k2 0)) default).day), I ((l.getD (Int.toNat (choice.getD k2 0)) default).stage)] 135] R := H.ext hx_
         clear hx_
         refine ⟨(H.pick [0] (by decide) rfl), ?_⟩
         refine d_q rfl (fun w' H => x_fa (a := .pointer (some ⟨b_1, 0, none⟩)) (v := .pointer (some ⟨b_1, 0, none⟩)) rfl (fa_blk (o := 0) Fd135_0 Sz3)) ?_
         refine d_q rfl (fun w' H => x_ld (p := .pointer (some ⟨b_1, 0, none⟩)) (v := I ((l.getD (Int.toNat (choice.getD k2 0)) default).day)) rfl (ldb_sc Sc3 (H.blk (k := 0) rfl) rfl)) ?_
         refine d_q rfl (fun w' H => x_mv (v := v_l) rfl) ?_
         refine d_q rfl (fun w' H => x_mv (v := v_choice) rfl) ?_
         refine d_q rfl (fun w' H => x_mv (v := I (j : Int)) rfl) ?_
         obtain ⟨sd60z, hM⟩ := M.e_grd hM
         simp only [Bool.and_eq_true, decide_eq_true_eq] at sd60z
         refine d_q rfl (fun w' H => x_ix (a := v_choice) (b := I (j : Int)) (v := vat v_choice 1 (Int.toNat (j : Int))) rfl rfl (Sl.ix (α := Int) T27.und T27.size hs_choice (by omega) (by omega))) ?_
         refine d_q rfl (fun w' H => x_ld (p := vat v_choice 1 (Int.toNat (j : Int))) (v := I (choice.getD j 0)) rfl (ld_sc Sc3 (At.mono (Int_at hs_choice (i := (j : Int)) (by omega) (by omega)) (hC_choice.at H)))) ?_
         obtain ⟨sd61z, hM⟩ := M.e_grd hM
         simp only [Bool.and_eq_true, decide_eq_true_eq] at sd61z
         refine d_q rfl (fun w' H => x_ix (a := v_l) (b := I (choice.getD j 0)) (v := vat v_l 2 (Int.toNat (choice.getD j 0))) rfl rfl (Sl.ix (α := Pk) T74.und T74.size hs_l (by omega) (by omega))) ?_
         refine d_q rfl (fun w' H => x_fa (a := vat v_l 2 (Int.toNat (choice.getD j 0))) (v := fat (vat v_l 2 (Int.toNat (choice.getD j 0))) 0) rfl (fa_pl Fd135_0 Sz3 (Sl.pl (i := choice.getD j 0) hs_l (by omega) (by omega)))) ?_
         refine d_q rfl (fun w' H => x_ld (p := fat (vat v_l 2 (Int.toNat (choice.getD j 0))) 0) (v := I ((l.getD (Int.toNat (choice.getD j 0)) default).day)) rfl (ld_sc Sc3 (At.mono (Pk_at0 hs_l (i := choice.getD j 0) (by omega) (by omega)) (hC_l.at H)))) ?_
         obtain ⟨sd62z, hM⟩ := M.e_grd hM
         simp only [Bool.and_eq_true, decide_eq_true_eq] at sd62z
         refine d_q rfl (fun w' H => x_ari (a := (l.getD (Int.toNat (choice.getD k2 0)) default).day) (b := (l.getD (Int.toNat (choice.getD j 0)) default).day) (r := ((l.getD (Int.toNat (choice.getD k2 0)) default).day) - ((l.getD (Int.toNat (choice.getD j 0)) default).day)) rfl rfl rfl (by omega)) ?_
         refine d_q rfl (fun w' H => x_mv (v := I apart) rfl) ?_
         refine d_q rfl (fun w' H => x_cmp (kd := .i64) (a := ((l.getD (Int.toNat (choice.getD k2 0)) default).day) - ((l.getD (Int.toNat (choice.getD j 0)) default).day)) (b := apart) (r := decide ((((l.getD (Int.toNat (choice.getD k2 0)) default).day) - ((l.getD (Int.toNat (choice.getD j 0)) default).day)) < apart)) rfl rfl rfl) ?_
         refine d_nil ?_
         refine W.cond (decide ((((l.getD (Int.toNat (choice.getD k2 0)) default).day) - ((l.getD (Int.toNat (choice.getD j 0)) default).day)) < apart)) rfl (fun c63z => ?_) (fun c63z => ?_)
         ·replace hM := M.e_t hM c63z
          simp only [decide_eq_true_eq, decide_eq_false_iff_not, beq_iff_eq, bne_iff_ne, beq_eq_false_iff_ne, bne_eq_false_iff_eq, ne_eq, Decidable.not_not] at c63z
          refine W.seq ?_
          refine W.region rfl ?_
          refine s_val (x_as (v := I 0) rfl) ?_
          refine s_val (x_as (v := I 7) rfl) ?_
          refine s_nil ?_
          refine W.ret ?_
          have hX64z := M.e_inr hM hN57z
          subst hX64z
          replace hM := hk50z
          try dsimp only at hM
          have hX65z := M.e_inr hM hN39z
          subst hX65z
          replace hM := hk32z
          try dsimp only at hM
          have hr_ := M.e_pure hM
          exact ⟨_, resE_tmp2 rfl, ⟨0, 7, hr_, rfl, (H.pick [] (by decide) rfl)⟩⟩
         ·replace hM := M.e_f hM c63z
          simp only [decide_eq_true_eq, decide_eq_false_iff_not, beq_iff_eq, bne_iff_ne, beq_eq_false_iff_ne, bne_eq_false_iff_eq, ne_eq, Decidable.not_not] at c63z
          refine W.skip ?_
          refine W.region rfl ?_
          refine s_val (x_mv (v := I (j : Int)) rfl) ?_
          refine s_val (x_ari (a := (j : Int)) (b := 1) (r := (j : Int) + 1) rfl rfl rfl (by omega)) ?_
          refine s_val (x_as (v := I ((j : Int) + 1)) rfl) ?_
          refine s_nil ?_
          exact ⟨m54z, lt55z, j + 1, _, upds_of _ _ ⟨rfl, rfl, rfl, rfl, rfl, rfl, rfl, rfl, trivial⟩, M.e_inl hM hN57z, H⟩
        ·replace hM := M.e_f hM c58z
         simp only [decide_eq_true_eq, decide_eq_false_iff_not, beq_iff_eq, bne_iff_ne, beq_eq_false_iff_ne, bne_eq_false_iff_eq, ne_eq, Decidable.not_not] at c58z
         refine W.exit ?_
         have hX66z := M.e_inr hM hN57z
         subst hX66z
         replace hM := hk50z
         try dsimp only at hM
         refine W.region rfl ?_
         refine s_val (x_mv (v := I sum) rfl) ?_
         refine s_val (x_fa (a := .pointer (some ⟨b_1, 0, none⟩)) (v := .pointer (some ⟨b_1, 1, none⟩)) rfl (fa_blk (o := 0) Fd135_1 Sz3)) ?_
         refine s_val (x_ld (p := .pointer (some ⟨b_1, 1, none⟩)) (v := I ((l.getD (Int.toNat (choice.getD k2 0)) default).stage)) rfl (ldb_sc Sc3 (H.blk (k := 0) rfl) rfl)) ?_
         obtain ⟨sd67z, hM⟩ := M.e_grd hM
         simp only [Bool.and_eq_true, decide_eq_true_eq] at sd67z
         refine s_val (x_ari (a := sum) (b := (l.getD (Int.toNat (choice.getD k2 0)) default).stage) (r := sum + ((l.getD (Int.toNat (choice.getD k2 0)) default).stage)) rfl rfl rfl (by omega)) ?_
         refine s_val (x_mv (v := I threshold) rfl) ?_
         obtain ⟨sd68z, hM⟩ := M.e_grd hM
         simp only [Bool.and_eq_true, decide_eq_true_eq] at sd68z
         refine s_val (x_ari (a := sum + ((l.getD (Int.toNat (choice.getD k2 0)) default).stage)) (b := threshold) (r := (sum + ((l.getD (Int.toNat (choice.getD k2 0)) default).stage)) - threshold) rfl rfl rfl (by omega)) ?_
         refine s_val (x_as (v := I ((sum + ((l.getD (Int.toNat (choice.getD k2 0)) default).stage)) - threshold)) rfl) ?_
         refine s_nil ?_
         refine W.region rfl ?_
         refine s_val (x_mv (v := I (k2 : Int)) rfl) ?_
         refine s_val (x_ari (a := (k2 : Int)) (b := 1) (r := (k2 : Int) + 1) rfl rfl rfl (by omega)) ?_
         refine s_val (x_as (v := I ((k2 : Int) + 1)) rfl) ?_
         refine s_nil ?_
         exact ⟨m36z, lt37z, (sum + ((l.getD (Int.toNat (choice.getD k2 0)) default).stage)) - threshold, k2 + 1, _, upds_of _ _ ⟨rfl, rfl, rfl, rfl, rfl, rfl, trivial⟩, M.e_inl hM hN39z, (H.pick [] (by decide) rfl)⟩
     ·replace hM := M.e_f hM c41z
      simp only [decide_eq_true_eq, decide_eq_false_iff_not, beq_iff_eq, bne_iff_ne, beq_eq_false_iff_ne, bne_eq_false_iff_eq, ne_eq, Decidable.not_not] at c41z
      refine W.exit ?_
      have hX69z := M.e_inr hM hN39z
      subst hX69z
      replace hM := hk32z
      try dsimp only at hM
      refine W.seq ?_
      refine W.region rfl ?_
      refine s_val (x_mv (v := I sum) rfl) ?_
      refine s_val (x_as (v := I sum) rfl) ?_
      refine s_val (x_as (v := I 0) rfl) ?_
      refine s_nil ?_
      refine W.ret ?_
      have hr_ := M.e_pure hM
      exact ⟨_, resE_tmp2 rfl, ⟨sum, 0, hr_, rfl, H⟩⟩

def m_nilometerref10_Best_b1 (l : List Pk) (apart : Int) (i : Nat) : Int → M (Int ⊕ Int) := fun k =>
  M.grd ((!(decide (0 < k)) || (decide ((i : Int) < (l.length : Int))))) <|
  M.grd ((!(decide (0 < k)) || (decide ((-9223372036854775808 : Int) ≤ (k - 1)) && decide ((k - 1) ≤ (9223372036854775807 : Int))))) <|
  M.grd ((!(decide (0 < k)) || (decide ((0 : Int) ≤ (k - 1)) && decide ((k - 1) < (l.length : Int))))) <|
  M.grd ((!(decide (0 < k)) || (decide ((-9223372036854775808 : Int) ≤ (((l.getD i default).day) - ((l.getD (Int.toNat (k - 1)) default).day))) && decide ((((l.getD i default).day) - ((l.getD (Int.toNat (k - 1)) default).day)) ≤ (9223372036854775807 : Int))))) <|
  bif ((decide (0 < k)) && (decide ((((l.getD i default).day) - ((l.getD (Int.toNat (k - 1)) default).day)) < apart))) then (
  M.grd (decide ((-9223372036854775808 : Int) ≤ (k - 1)) && decide ((k - 1) ≤ (9223372036854775807 : Int))) <|
  M.pure (.inl (k - 1)))
  else (
  M.pure (.inr k))
def m_nilometerref10_Best_b2 (l : List Pk) (apart : Int) (threshold : Int) : ((List Int) × Nat) → M (((List Int) × Nat) ⊕ ((List Int) × (List Int))) := fun (l2, i) =>
  bif decide ((i : Int) < (l.length : Int)) then (
  M.bind (M.iter (m_nilometerref10_Best_b1 l apart i) (i : Int)) fun k2 =>
  M.grd (decide ((i : Int) < (l.length : Int))) <|
  M.grd (decide ((i : Int) < (l2.length : Int))) <|
  M.grd (decide ((0 : Int) ≤ k2) && decide (k2 < (l2.length : Int))) <|
  M.grd (decide ((-9223372036854775808 : Int) ≤ ((l2.getD (Int.toNat k2) 0) + ((l.getD i default).stage))) && decide (((l2.getD (Int.toNat k2) 0) + ((l.getD i default).stage)) ≤ (9223372036854775807 : Int))) <|
  M.grd (decide ((-9223372036854775808 : Int) ≤ (((l2.getD (Int.toNat k2) 0) + ((l.getD i default).stage)) - threshold)) && decide ((((l2.getD (Int.toNat k2) 0) + ((l.getD i default).stage)) - threshold) ≤ (9223372036854775807 : Int))) <|
  M.grd (decide ((0 : Int) ≤ ((i : Int) + 1)) && decide (((i : Int) + 1) < (l2.length : Int))) <|
  M.pure (.inl (l2.set (Int.toNat ((i : Int) + 1)) (max (l2.getD i 0) (((l2.getD (Int.toNat k2) 0) + ((l.getD i default).stage)) - threshold) : Int), i + 1)))
  else (
  M.pure (.inr (l2, l2)))
def m_nilometerref10_Best (l : List Pk) (apart : Int) (threshold : Int) : M (Int × Int) :=
  M.bind (m_nilometerref10_asked l apart threshold) fun r2 =>
  bif r2 != 0 then (
  M.pure (0, r2))
  else (
  M.grd (decide ((-9223372036854775808 : Int) ≤ ((l.length : Int) + 1)) && decide (((l.length : Int) + 1) ≤ (9223372036854775807 : Int))) <|
  M.grd (decide ((0 : Int) ≤ ((l.length : Int) + 1)) && decide ((8 : Int) * ((l.length : Int) + 1) ≤ 281474976710656) && decide (((l.length : Int) + 1) ≤ (9223372036854775807 : Int))) <|
  M.bind (M.iter (m_nilometerref10_Best_b2 l apart threshold) (List.replicate (Int.toNat ((l.length : Int) + 1)) (0 : Int), 0)) fun (l3, l4) =>
  M.grd (decide ((0 : Int) ≤ (l.length : Int)) && decide ((l.length : Int) < (l4.length : Int))) <|
  M.pure ((l4.getD (l.length) 0), 0))
set_option maxRecDepth 100000 in
set_option maxHeartbeats 16000000 in
theorem nilometerref10_Best_ok {R : List Chunk} {C_l : Cells} {v_l : Value} (l : List Pk) (apart : Int) (threshold : Int) (hC_l : Reads R C_l) (hs_l : Sl C_l v_l l) {r : (Int × Int)} (hM : (m_nilometerref10_Best l apart threshold).Ends r) (w : World) (H : St w w [] R) : Ret Try.prog 38 #[v_l, I apart, I threshold] w fun v w' => ∃ (y0 : Int) (y1 : Int), (y0, y1) = r ∧ v = .tuple #[I y0, I y1] ∧ St w w' [] R := by
 refine ret_of_W Try.func38 rfl rfl rfl ?_
 refine W.seq ?_
 refine W.region rfl ?_
 refine s_val (x_as (v := I 0) rfl) ?_
 refine s_val (x_as (v := I 0) rfl) ?_
 refine s_nil ?_
 refine W.seq ?_
 refine W.seq ?_
 refine W.region rfl ?_
 refine s_val (x_mv (v := v_l) rfl) ?_
 refine s_val (x_mv (v := I apart) rfl) ?_
 refine s_val (x_mv (v := I threshold) rfl) ?_
 obtain ⟨r2z, hx1z, hM⟩ := M.e_bind hM
 refine s_call cf74 [v_l, I apart, I threshold] rfl (nilometerref10_asked_ok l apart threshold (hC_l.app _) hs_l hx1z _ (St.give (T := []) H rfl)) ?_
 rintro vq w3z ⟨r2, hr4z, hvq, H2_⟩
 subst hr4z
 subst vq
 try dsimp only at hM
 replace H : St w w3z [] R := H.back H2_ rfl
 clear H2_
 refine s_val (x_as (v := I r2) rfl) ?_
 refine s_nil ?_
 refine W.seq ?_
 refine W.region rfl ?_
 refine s_val (x_mv (v := I r2) rfl) ?_
 refine s_val (x_cmp (kd := .i64) (a := r2) (b := 0) (r := r2 != 0) rfl rfl rfl) ?_
 refine s_nil ?_
 refine W.cond (r2 != 0) rfl (fun c5z => ?_) (fun c5z => ?_)
 ·replace hM := M.e_t hM c5z
  simp only [decide_eq_true_eq, decide_eq_false_iff_not, beq_iff_eq, bne_iff_ne, beq_eq_false_iff_ne, bne_eq_false_iff_eq, ne_eq, Decidable.not_not] at c5z
  refine W.seq ?_
  refine W.region rfl ?_
  refine s_val (x_mv (v := I r2) rfl) ?_
  refine s_val (x_as (v := I 0) rfl) ?_
  refine s_val (x_as (v := I r2) rfl) ?_
  refine s_nil ?_
  refine W.ret ?_
  have hr_ := M.e_pure hM
  exact ⟨_, resE_tmp2 rfl, ⟨0, r2, hr_, rfl, H⟩⟩
 ·replace hM := M.e_f hM c5z
  simp only [decide_eq_true_eq, decide_eq_false_iff_not, beq_iff_eq, bne_iff_ne, beq_eq_false_iff_ne, bne_eq_false_iff_eq, ne_eq, Decidable.not_not] at c5z
  refine W.skip ?_
  refine W.seq ?_
  refine W.region rfl ?_
  refine s_val (x_mv (v := v_l) rfl) ?_
  have hl6z := (hs_l).len_le
  refine s_val (x_lenS T74.und rfl hs_l) ?_
  obtain ⟨sd7z, hM⟩ := M.e_grd hM
  simp only [Bool.and_eq_true, decide_eq_true_eq] at sd7z
  refine s_val (x_ari (a := (l.length : Int)) (b := 1) (r := (l.length : Int) + 1) rfl rfl rfl (by omega)) ?_
  obtain ⟨sd8z, hM⟩ := M.e_grd hM
  simp only [Bool.and_eq_true, decide_eq_true_eq] at sd8z
  refine t_mk (α := Int) T27 (0 : Int) rfl (n := (l.length : Int) + 1) H rfl rfl (by omega) (by omega) (by omega) ?_
  intro v9z w10z H
  replace H : St w w10z [cOwn (α := Int) 3 v9z (List.replicate (Int.toNat ((l.length : Int) + 1)) (0 : Int))] R := H
  refine s_val (x_as (v := v9z) rfl) ?_
  refine s_nil ?_
  refine W.seq ?_
  refine W.seq ?_
  refine W.region rfl ?_
  refine s_val (x_as (v := I 0) rfl) ?_
  refine s_nil ?_
  refine W.block ?_
  obtain ⟨ex11z, hi12z, hk13z⟩ := M.e_bind hM
  obtain ⟨m0_, hi12z⟩ := M.e_iter hi12z
  refine W.loop (fun m σ W => ∃ (l2 : List Int) (i : Nat) (v_l2 : Value) (ρ : Env), σ = upds ρ [(0, v_l), (1, I apart), (2, I threshold), (9, v_l2), (10, I (i : Int))] ∧ M.iterN (m_nilometerref10_Best_b2 l apart threshold) m (l2, i) = some ex11z ∧ St w W [cOwn (α := Int) 3 v_l2 l2] R) ?_ ?_
  ·exact ⟨_, List.replicate (Int.toNat ((l.length : Int) + 1)) (0 : Int), 0, v9z, _, upds_of _ _ ⟨rfl, rfl, rfl, rfl, rfl, trivial⟩, hi12z, H⟩
  ·rintro m16z σ w14z ⟨l2, i, v_l2, ρ, rfl, hI15z, H⟩
   obtain ⟨m17z, lt18z, x19z, hM, hN20z⟩ := M.e_iterN hI15z
   simp only [m_nilometerref10_Best_b2] at hM
   clear hI15z
   refine W.seq ?_
   refine W.seq ?_
   refine W.region rfl ?_
   refine s_val (x_mv (v := I (i : Int)) rfl) ?_
   refine s_val (x_mv (v := v_l) rfl) ?_
   have hl21z := (hs_l).len_le
   refine s_val (x_lenS T74.und rfl hs_l) ?_
   refine s_val (x_cmp (kd := .i64) (a := (i : Int)) (b := (l.length : Int)) (r := decide ((i : Int) < (l.length : Int))) rfl rfl rfl) ?_
   refine s_nil ?_
   refine W.cond (decide ((i : Int) < (l.length : Int))) rfl (fun c22z => ?_) (fun c22z => ?_)
   ·replace hM := M.e_t hM c22z
    simp only [decide_eq_true_eq, decide_eq_false_iff_not, beq_iff_eq, bne_iff_ne, beq_eq_false_iff_ne, bne_eq_false_iff_eq, ne_eq, Decidable.not_not] at c22z
    refine W.skip ?_
    refine W.seq ?_
    refine W.block ?_
    refine W.seq ?_
    refine W.region rfl ?_
    refine s_val (x_mv (v := I (i : Int)) rfl) ?_
    refine s_val (x_as (v := I (i : Int)) rfl) ?_
    refine s_nil ?_
    refine W.seq ?_
    refine W.block ?_
    obtain ⟨ex23z, hi24z, hk25z⟩ := M.e_bind hM
    obtain ⟨m0_, hi24z⟩ := M.e_iter hi24z
    refine W.loop (fun m σ W => ∃ (k : Int) (ρ : Env), σ = upds ρ [(0, v_l), (1, I apart), (2, I threshold), (9, v_l2), (10, I (i : Int)), (11, I k)] ∧ M.iterN (m_nilometerref10_Best_b1 l apart i) m k = some ex23z ∧ St w W [cOwn (α := Int) 3 v_l2 l2] R) ?_ ?_
    ·exact ⟨_, (i : Int), _, upds_of _ _ ⟨rfl, rfl, rfl, rfl, rfl, rfl, trivial⟩, hi24z, H⟩
    ·rintro m28z σ w26z ⟨k, ρ, rfl, hI27z, H⟩
     obtain ⟨m29z, lt30z, x31z, hM, hN32z⟩ := M.e_iterN hI27z
     simp only [m_nilometerref10_Best_b1] at hM
     clear hI27z
     refine W.seq ?_
     refine W.seq ?_
     refine W.draw (fun W => St w W [cOwn (α := Int) 3 v_l2 l2] R) [(0, true), (1, true), (2, true), (3, true), (4, true), (5, true), (6, true), (7, true), (8, true), (9, true), (10, true), (11, true), (12, true), (13, true), (14, true), (15, true), (16, true), (17, true)] mixed (by decide +kernel) rfl ?_
     intro w33z hx_
     replace H : St w w33z [cOwn (α := Int) 3 v_l2 l2] R := H.ext hx_
     clear hx_
     refine ⟨(H.pick [0] (by decide) rfl), ?_⟩
     refine d_q rfl (fun w' H => x_mv (v := I k) rfl) ?_
     refine d_q rfl (fun w' H => x_cmp (kd := .i64) (a := k) (b := 0) (r := decide (0 < k)) rfl rfl rfl) ?_
     refine d_q rfl (fun w' H => x_mv (v := B (decide (0 < k))) rfl) ?_
     refine d_qg (decide (0 < k)) rfl (gy_t rfl) (fun hg => (fun w' H => x_mv (v := v_l) rfl)) ?_
     refine d_qg (decide (0 < k)) rfl (gy_t rfl) (fun hg => (fun w' H => x_mv (v := I (i : Int)) rfl)) ?_
     obtain ⟨sd34z, hM⟩ := M.e_grd hM
     replace sd34z := M.imp_of sd34z
     simp only [Bool.and_eq_true, decide_eq_true_eq] at sd34z
     refine d_qg (decide (0 < k)) rfl (gy_t rfl) (fun hg => (fun w' H => x_ix (a := v_l) (b := I (i : Int)) (v := vat v_l 2 (Int.toNat (i : Int))) (gd_of (c := decide (0 < k)) hg (v_l)) (gd_of (c := decide (0 < k)) hg (I (i : Int))) (Sl.ix (α := Pk) T74.und T74.size hs_l (by have h1_ := sd34z.resolve_left (by rw [hg]; decide); first | exact h1_ | exact h1_.1 | exact h1_.2 | omega | (have hx_ := hg; simp at hx_; omega)) (by have h1_ := sd34z.resolve_left (by rw [hg]; decide); first | exact h1_ | exact h1_.1 | exact h1_.2 | omega | (have hx_ := hg; simp at hx_; omega))))) ?_
     refine d_qg (decide (0 < k)) rfl (gy_t rfl) (fun hg => (fun w' H => x_fa (a := vat v_l 2 (Int.toNat (i : Int))) (v := fat (vat v_l 2 (Int.toNat (i : Int))) 0) (gd_of (c := decide (0 < k)) hg (vat v_l 2 (Int.toNat (i : Int)))) (fa_pl Fd135_0 Sz3 (Sl.pl (i := (i : Int)) hs_l (by have h1_ := sd34z.resolve_left (by rw [hg]; decide); first | exact h1_ | exact h1_.1 | exact h1_.2 | omega | (have hx_ := hg; simp at hx_; omega)) (by have h1_ := sd34z.resolve_left (by rw [hg]; decide); first | exact h1_ | exact h1_.1 | exact h1_.2 | omega | (have hx_ := hg; simp at hx_; omega)))))) ?_
     refine d_qg (decide (0 < k)) rfl (gy_t rfl) (fun hg => (fun w' H => x_ld (p := fat (vat v_l 2 (Int.toNat (i : Int))) 0) (v := I ((l.getD i default).day)) (gd_of (c := decide (0 < k)) hg (fat (vat v_l 2 (Int.toNat (i : Int))) 0)) (ld_sc Sc3 (At.mono (Pk_at0 hs_l (i := (i : Int)) (by have h1_ := sd34z.resolve_left (by rw [hg]; decide); first | exact h1_ | exact h1_.1 | exact h1_.2 | omega | (have hx_ := hg; simp at hx_; omega)) (by have h1_ := sd34z.resolve_left (by rw [hg]; decide); first | exact h1_ | exact h1_.1 | exact h1_.2 | omega | (have hx_ := hg; simp at hx_; omega))) (hC_l.at H))))) ?_
     refine d_qg (decide (0 < k)) rfl (gy_t rfl) (fun hg => (fun w' H => x_mv (v := v_l) rfl)) ?_
     refine d_qg (decide (0 < k)) rfl (gy_t rfl) (fun hg => (fun w' H => x_mv (v := I k) rfl)) ?_
     obtain ⟨sd35z, hM⟩ := M.e_grd hM
     replace sd35z := M.imp_of sd35z
     simp only [Bool.and_eq_true, decide_eq_true_eq] at sd35z
     refine d_qg (decide (0 < k)) rfl (gy_t rfl) (fun hg => (fun w' H => x_ari (a := k) (b := 1) (r := k - 1) (gd_of (c := decide (0 < k)) hg (I k)) rfl rfl (by have h1_ := sd34z.resolve_left (by rw [hg]; decide); have h2_ := sd35z.resolve_left (by rw [hg]; decide); first | exact h1_ | exact h1_.1 | exact h1_.2 | exact h2_ | exact h2_.1 | exact h2_.2 | omega | (have hx_ := hg; simp at hx_; omega)))) ?_
     obtain ⟨sd36z, hM⟩ := M.e_grd hM
     replace sd36z := M.imp_of sd36z
     simp only [Bool.and_eq_true, decide_eq_true_eq] at sd36z
     refine d_qg (decide (0 < k)) rfl (gy_t rfl) (fun hg => (fun w' H => x_ix (a := v_l) (b := I (k - 1)) (v := vat v_l 2 (Int.toNat (k - 1))) (gd_of (c := decide (0 < k)) hg (v_l)) (gd_of (c := decide (0 < k)) hg (I (k - 1))) (Sl.ix (α := Pk) T74.und T74.size hs_l (by have h1_ := sd34z.resolve_left (by rw [hg]; decide); have h2_ := sd35z.resolve_left (by rw [hg]; decide); have h3_ := sd36z.resolve_left (by rw [hg]; decide); first | exact h1_ | exact h1_.1 | exact h1_.2 | exact h2_ | exact h2_.1 | exact h2_.2 | exact h3_ | exact h3_.1 | exact h3_.2 | omega | (have hx_ := hg; simp at hx_; omega)) (by have h1_ := sd34z.resolve_left (by rw [hg]; decide); have h2_ := sd35z.resolve_left (by rw [hg]; decide); have h3_ := sd36z.resolve_left (by rw [hg]; decide); first | exact h1_ | exact h1_.1 | exact h1_.2 | exact h2_ | exact h2_.1 | exact h2_.2 | exact h3_ | exact h3_.1 | exact h3_.2 | omega | (have hx_ := hg; simp at hx_; omega))))) ?_
     refine d_qg (decide (0 < k)) rfl (gy_t rfl) (fun hg => (fun w' H => x_fa (a := vat v_l 2 (Int.toNat (k - 1))) (v := fat (vat v_l 2 (Int.toNat (k - 1))) 0) (gd_of (c := decide (0 < k)) hg (vat v_l 2 (Int.toNat (k - 1)))) (fa_pl Fd135_0 Sz3 (Sl.pl (i := k - 1) hs_l (by have h1_ := sd34z.resolve_left (by rw [hg]; decide); have h2_ := sd35z.resolve_left (by rw [hg]; decide); have h3_ := sd36z.resolve_left (by rw [hg]; decide); first | exact h1_ | exact h1_.1 | exact h1_.2 | exact h2_ | exact h2_.1 | exact h2_.2 | exact h3_ | exact h3_.1 | exact h3_.2 | omega | (have hx_ := hg; simp at hx_; omega)) (by have h1_ := sd34z.resolve_left (by rw [hg]; decide); have h2_ := sd35z.resolve_left (by rw [hg]; decide); have h3_ := sd36z.resolve_left (by rw [hg]; decide); first | exact h1_ | exact h1_.1 | exact h1_.2 | exact h2_ | exact h2_.1 | exact h2_.2 | exact h3_ | exact h3_.1 | exact h3_.2 | omega | (have hx_ := hg; simp at hx_; omega)))))) ?_
     refine d_qg (decide (0 < k)) rfl (gy_t rfl) (fun hg => (fun w' H => x_ld (p := fat (vat v_l 2 (Int.toNat (k - 1))) 0) (v := I ((l.getD (Int.toNat (k - 1)) default).day)) (gd_of (c := decide (0 < k)) hg (fat (vat v_l 2 (Int.toNat (k - 1))) 0)) (ld_sc Sc3 (At.mono (Pk_at0 hs_l (i := k - 1) (by have h1_ := sd34z.resolve_left (by rw [hg]; decide); have h2_ := sd35z.resolve_left (by rw [hg]; decide); have h3_ := sd36z.resolve_left (by rw [hg]; decide); first | exact h1_ | exact h1_.1 | exact h1_.2 | exact h2_ | exact h2_.1 | exact h2_.2 | exact h3_ | exact h3_.1 | exact h3_.2 | omega | (have hx_ := hg; simp at hx_; omega)) (by have h1_ := sd34z.resolve_left (by rw [hg]; decide); have h2_ := sd35z.resolve_left (by rw [hg]; decide); have h3_ := sd36z.resolve_left (by rw [hg]; decide); first | exact h1_ | exact h1_.1 | exact h1_.2 | exact h2_ | exact h2_.1 | exact h2_.2 | exact h3_ | exact h3_.1 | exact h3_.2 | omega | (have hx_ := hg; simp at hx_; omega))) (hC_l.at H))))) ?_
     obtain ⟨sd37z, hM⟩ := M.e_grd hM
     replace sd37z := M.imp_of sd37z
     simp only [Bool.and_eq_true, decide_eq_true_eq] at sd37z
     refine d_qg (decide (0 < k)) rfl (gy_t rfl) (fun hg => (fun w' H => x_ari (a := (l.getD i default).day) (b := (l.getD (Int.toNat (k - 1)) default).day) (r := ((l.getD i default).day) - ((l.getD (Int.toNat (k - 1)) default).day)) (gd_of (c := decide (0 < k)) hg (I ((l.getD i default).day))) (gd_of (c := decide (0 < k)) hg (I ((l.getD (Int.toNat (k - 1)) default).day))) rfl (by have h1_ := sd34z.resolve_left (by rw [hg]; decide); have h2_ := sd35z.resolve_left (by rw [hg]; decide); have h3_ := sd36z.resolve_left (by rw [hg]; decide); have h4_ := sd37z.resolve_left (by rw [hg]; decide); first | exact h1_ | exact h1_.1 | exact h1_.2 | exact h2_ | exact h2_.1 | exact h2_.2 | exact h3_ | exact h3_.1 | exact h3_.2 | exact h4_ | exact h4_.1 | exact h4_.2 | omega | (have hx_ := hg; simp at hx_; omega)))) ?_
     refine d_qg (decide (0 < k)) rfl (gy_t rfl) (fun hg => (fun w' H => x_mv (v := I apart) rfl)) ?_
     refine d_qg (decide (0 < k)) rfl (gy_t rfl) (fun hg => (fun w' H => x_cmp (kd := .i64) (a := ((l.getD i default).day) - ((l.getD (Int.toNat (k - 1)) default).day)) (b := apart) (r := decide ((((l.getD i default).day) - ((l.getD (Int.toNat (k - 1)) default).day)) < apart)) (gd_of (c := decide (0 < k)) hg (I (((l.getD i default).day) - ((l.getD (Int.toNat (k - 1)) default).day)))) (gd_of (c := decide (0 < k)) hg (I apart)) rfl)) ?_
     refine d_q rfl (fun w' H => x_pand (b := decide (0 < k)) (r := decide ((((l.getD i default).day) - ((l.getD (Int.toNat (k - 1)) default).day)) < apart)) rfl (fun hb => gd_of (c := decide (0 < k)) (by first | exact hb | (rw [hb]; rfl) | simp_all) (B (decide ((((l.getD i default).day) - ((l.getD (Int.toNat (k - 1)) default).day)) < apart)))) rfl) ?_
     refine d_nil ?_
     refine W.cond ((decide (0 < k)) && (decide ((((l.getD i default).day) - ((l.getD (Int.toNat (k - 1)) default).day)) < apart))) rfl (fun c38z => ?_) (fun c38z => ?_)
     ·replace hM := M.e_t hM c38z
      refine W.skip ?_
      refine W.block ?_
      refine W.region rfl ?_
      refine s_val (x_mv (v := I k) rfl) ?_
      obtain ⟨sd39z, hM⟩ := M.e_grd hM
      simp only [Bool.and_eq_true, decide_eq_true_eq] at sd39z
      refine s_val (x_ari (a := k) (b := 1) (r := k - 1) rfl rfl rfl (by omega)) ?_
      refine s_val (x_as (v := I (k - 1)) rfl) ?_
      refine s_nil ?_
      exact ⟨m29z, lt30z, k - 1, _, upds_of _ _ ⟨rfl, rfl, rfl, rfl, rfl, rfl, trivial⟩, M.e_inl hM hN32z, H⟩
     ·replace hM := M.e_f hM c38z
      refine W.exit ?_
      have hX40z := M.e_inr hM hN32z
      subst hX40z
      replace hM := hk25z
      try dsimp only at hM
      refine W.drawT (fun W => St w W [] R) (.q 0 (.q 1 (.q 2 (.q 3 (.q 4 (.q 7 (.q 8 (.q 11 (.q 12 (.q 13 (.q 14 (.q 15 (.q 17 (.l2 5 (.l2 6 (.l 9 (.l 10 (.q 16 (.q 18 (.q 19 (.l 20 (.l 21 .nil))))))) 9 (.l2 6 (.l 10 (.q 16 (.q 18 (.q 19 (.l 20 (.l 21 .nil)))))) 10 (.q 16 (.q 18 (.l 6 (.q 19 (.l 20 (.l 21 .nil)))))))) 9 (.l2 5 (.l2 6 (.l 10 (.q 16 (.q 18 (.q 19 (.l 20 (.l 21 .nil)))))) 10 (.q 16 (.q 18 (.l 6 (.q 19 (.l 20 (.l 21 .nil))))))) 10 (.q 16 (.q 18 (.l 5 (.l 6 (.q 19 (.l 20 (.l 21 .nil)))))))))))))))))))))) mixed (by decide +kernel) rfl ?_
      intro w41z hx_
      replace H : St w w41z [cOwn (α := Int) 3 v_l2 l2] R := H.ext hx_
      clear hx_
      refine ⟨(H.pick [] (by decide) rfl), ?_⟩
      refine t_q rfl (fun w' H => x_mv (v := v_l2) rfl) ?_
      refine t_q rfl (fun w' H => x_mv (v := I (i : Int)) rfl) ?_
      refine t_q rfl (fun w' H => x_ari (a := (i : Int)) (b := 1) (r := (i : Int) + 1) rfl rfl rfl (by omega)) ?_
      refine t_q rfl (fun w' H => x_mv (v := v_l2) rfl) ?_
      refine t_q rfl (fun w' H => x_mv (v := I (i : Int)) rfl) ?_
      refine t_q rfl (fun w' H => x_mv (v := v_l2) rfl) ?_
      refine t_q rfl (fun w' H => x_mv (v := I k) rfl) ?_
      refine t_q rfl (fun w' H => x_mv (v := v_l) rfl) ?_
      refine t_q rfl (fun w' H => x_mv (v := I (i : Int)) rfl) ?_
      obtain ⟨sd42z, hM⟩ := M.e_grd hM
      simp only [Bool.and_eq_true, decide_eq_true_eq] at sd42z
      refine t_q rfl (fun w' H => x_ix (a := v_l) (b := I (i : Int)) (v := vat v_l 2 (Int.toNat (i : Int))) rfl rfl (Sl.ix (α := Pk) T74.und T74.size hs_l (by omega) (by omega))) ?_
      refine t_q rfl (fun w' H => x_fa (a := vat v_l 2 (Int.toNat (i : Int))) (v := fat (vat v_l 2 (Int.toNat (i : Int))) 1) rfl (fa_pl Fd135_1 Sz3 (Sl.pl (i := (i : Int)) hs_l (by omega) (by omega)))) ?_
      refine t_q rfl (fun w' H => x_ld (p := fat (vat v_l 2 (Int.toNat (i : Int))) 1) (v := I ((l.getD i default).stage)) rfl (ld_sc Sc3 (At.mono (Pk_at1 hs_l (i := (i : Int)) (by omega) (by omega)) (hC_l.at H)))) ?_
      refine t_q rfl (fun w' H => x_mv (v := I threshold) rfl) ?_
      obtain ⟨sd43z, hM⟩ := M.e_grd hM
      simp only [Bool.and_eq_true, decide_eq_true_eq] at sd43z
      obtain ⟨sd44z, hM⟩ := M.e_grd hM
      simp only [Bool.and_eq_true, decide_eq_true_eq] at sd44z
      obtain ⟨sd45z, hM⟩ := M.e_grd hM
      simp only [Bool.and_eq_true, decide_eq_true_eq] at sd45z
      obtain ⟨sd46z, hM⟩ := M.e_grd hM
      simp only [Bool.and_eq_true, decide_eq_true_eq] at sd46z
      obtain ⟨sd47z, hM⟩ := M.e_grd hM
      simp only [Bool.and_eq_true, decide_eq_true_eq] at sd47z
      refine t_l2 rfl rfl ?_ ?_
      ·skip
       refine s_val (x_ix (a := v_l2) (b := I (i : Int)) (v := vat v_l2 1 (Int.toNat (i : Int))) rfl rfl (Sl.ix (α := Int) T27.und T27.size (ownSl (H.get (k := 0) rfl)) (by omega) (by omega))) ?_
       have hvc_q49z := Sl.cells (ownSl (H.get (k := 0) rfl))
       have hvo_q49z := Sl.oc (ownSl (H.get (k := 0) rfl))
       refine s_nil ⟨(H.pick [] (by decide) rfl), ?_⟩
       refine t_l2 rfl rfl ?_ ?_
       ·skip
        refine s_val (x_ld (p := vat v_l2 1 (Int.toNat (i : Int))) (v := I (l2.getD i 0)) rfl (ld_sc Sc3 (At.mono (Int_at (ownSl (H.get (k := 0) rfl)) (i := (i : Int)) (by omega) (by omega)) (ownLe _ (H.get (k := 0) rfl))))) ?_
        refine s_nil ⟨(H.pick [] (by decide) rfl), ?_⟩
        refine t_l rfl ?_
        refine s_val (x_ix (a := v_l2) (b := I k) (v := vat v_l2 1 (Int.toNat k)) rfl rfl (Sl.ix (α := Int) T27.und T27.size (ownSl (H.get (k := 0) rfl)) (by omega) (by omega))) ?_
        refine s_nil ⟨(H.pick [] (by decide) rfl), ?_⟩
        refine t_l rfl ?_
        refine s_val (x_ld (p := vat v_l2 1 (Int.toNat k)) (v := I (l2.getD (Int.toNat k) 0)) rfl (ld_sc Sc3 (At.mono (Int_at (ownSl (H.get (k := 0) rfl)) (i := k) (by omega) (by omega)) (ownLe _ (H.get (k := 0) rfl))))) ?_
        refine s_nil ⟨(H.pick [] (by decide) rfl), ?_⟩
        refine t_q rfl (fun w' H => x_ari (a := l2.getD (Int.toNat k) 0) (b := (l.getD i default).stage) (r := (l2.getD (Int.toNat k) 0) + ((l.getD i default).stage)) rfl rfl rfl (by omega)) ?_
        refine t_q rfl (fun w' H => x_ari (a := (l2.getD (Int.toNat k) 0) + ((l.getD i default).stage)) (b := threshold) (r := ((l2.getD (Int.toNat k) 0) + ((l.getD i default).stage)) - threshold) rfl rfl rfl (by omega)) ?_
        refine t_q rfl (fun w' H => x_max (kd := .i64) (a := l2.getD i 0) (b := ((l2.getD (Int.toNat k) 0) + ((l.getD i default).stage)) - threshold) rfl rfl) ?_
        refine t_l rfl ?_
        refine s_val (x_ix (a := v_l2) (b := I ((i : Int) + 1)) (v := vat v_l2 1 (Int.toNat ((i : Int) + 1))) rfl rfl (Sl.ix (α := Int) T27.und T27.size (ownSl (H.get (k := 0) rfl)) (by omega) (by omega))) ?_
        refine s_nil ⟨(H.pick [] (by decide) rfl), ?_⟩
        refine t_l rfl ?_
        refine t_ost (k := 0) (i := (i : Int) + 1) (l := l2) (l' := l2.set (Int.toNat ((i : Int) + 1)) (max (l2.getD i 0) (((l2.getD (Int.toNat k) 0) + ((l.getD i default).stage)) - threshold) : Int)) (val := I (max (l2.getD i 0) (((l2.getD (Int.toNat k) 0) + ((l.getD i default).stage)) - threshold))) (L' := [cOwn (α := Int) 3 v_l2 (l2.set (Int.toNat ((i : Int) + 1)) (max (l2.getD i 0) (((l2.getD (Int.toNat k) 0) + ((l.getD i default).stage)) - threshold) : Int))]) H rfl Sz3 (by omega) (by omega) (max (l2.getD i 0) (((l2.getD (Int.toNat k) 0) + ((l.getD i default).stage)) - threshold) : Int) rfl rfl rfl rfl rfl ?_
        intro w50z H
        refine s_nil ⟨(H.pick [] (by decide) rfl), ?_⟩
        refine t_nil ?_
        refine W.region rfl ?_
        refine s_val (x_mv (v := I (i : Int)) rfl) ?_
        refine s_val (x_ari (a := (i : Int)) (b := 1) (r := (i : Int) + 1) rfl rfl rfl (by omega)) ?_
        refine s_val (x_as (v := I ((i : Int) + 1)) rfl) ?_
        refine s_nil ?_
        exact ⟨m17z, lt18z, l2.set (Int.toNat ((i : Int) + 1)) (max (l2.getD i 0) (((l2.getD (Int.toNat k) 0) + ((l.getD i default).stage)) - threshold) : Int), i + 1, v_l2, _, upds_of _ _ ⟨rfl, rfl, rfl, rfl, rfl, trivial⟩, M.e_inl hM hN20z, H⟩
       ·skip
        refine s_val (x_ix (a := v_l2) (b := I k) (v := vat v_l2 1 (Int.toNat k)) rfl rfl (Sl.ix (α := Int) T27.und T27.size (ownSl (H.get (k := 0) rfl)) (by omega) (by omega))) ?_
        refine s_nil ⟨(H.pick [] (by decide) rfl), ?_⟩
        refine t_l2 rfl rfl ?_ ?_
        ·skip
         refine s_val (x_ld (p := vat v_l2 1 (Int.toNat (i : Int))) (v := I (l2.getD i 0)) rfl (ld_sc Sc3 (At.mono (Int_at (ownSl (H.get (k := 0) rfl)) (i := (i : Int)) (by omega) (by omega)) (ownLe _ (H.get (k := 0) rfl))))) ?_
         refine s_nil ⟨(H.pick [] (by decide) rfl), ?_⟩
         refine t_l rfl ?_
         refine s_val (x_ld (p := vat v_l2 1 (Int.toNat k)) (v := I (l2.getD (Int.toNat k) 0)) rfl (ld_sc Sc3 (At.mono (Int_at (ownSl (H.get (k := 0) rfl)) (i := k) (by omega) (by omega)) (ownLe _ (H.get (k := 0) rfl))))) ?_
         refine s_nil ⟨(H.pick [] (by decide) rfl), ?_⟩
         refine t_q rfl (fun w' H => x_ari (a := l2.getD (Int.toNat k) 0) (b := (l.getD i default).stage) (r := (l2.getD (Int.toNat k) 0) + ((l.getD i default).stage)) rfl rfl rfl (by omega)) ?_
         refine t_q rfl (fun w' H => x_ari (a := (l2.getD (Int.toNat k) 0) + ((l.getD i default).stage)) (b := threshold) (r := ((l2.getD (Int.toNat k) 0) + ((l.getD i default).stage)) - threshold) rfl rfl rfl (by omega)) ?_
         refine t_q rfl (fun w' H => x_max (kd := .i64) (a := l2.getD i 0) (b := ((l2.getD (Int.toNat k) 0) + ((l.getD i default).stage)) - threshold) rfl rfl) ?_
         refine t_l rfl ?_
         refine s_val (x_ix (a := v_l2) (b := I ((i : Int) + 1)) (v := vat v_l2 1 (Int.toNat ((i : Int) + 1))) rfl rfl (Sl.ix (α := Int) T27.und T27.size (ownSl (H.get (k := 0) rfl)) (by omega) (by omega))) ?_
         refine s_nil ⟨(H.pick [] (by decide) rfl), ?_⟩
         refine t_l rfl ?_
         refine t_ost (k := 0) (i := (i : Int) + 1) (l := l2) (l' := l2.set (Int.toNat ((i : Int) + 1)) (max (l2.getD i 0) (((l2.getD (Int.toNat k) 0) + ((l.getD i default).stage)) - threshold) : Int)) (val := I (max (l2.getD i 0) (((l2.getD (Int.toNat k) 0) + ((l.getD i default).stage)) - threshold))) (L' := [cOwn (α := Int) 3 v_l2 (l2.set (Int.toNat ((i : Int) + 1)) (max (l2.getD i 0) (((l2.getD (Int.toNat k) 0) + ((l.getD i default).stage)) - threshold) : Int))]) H rfl Sz3 (by omega) (by omega) (max (l2.getD i 0) (((l2.getD (Int.toNat k) 0) + ((l.getD i default).stage)) - threshold) : Int) rfl rfl rfl rfl rfl ?_
         intro w51z H
         refine s_nil ⟨(H.pick [] (by decide) rfl), ?_⟩
         refine t_nil ?_
         refine W.region rfl ?_
         refine s_val (x_mv (v := I (i : Int)) rfl) ?_
         refine s_val (x_ari (a := (i : Int)) (b := 1) (r := (i : Int) + 1) rfl rfl rfl (by omega)) ?_
         refine s_val (x_as (v := I ((i : Int) + 1)) rfl) ?_
         refine s_nil ?_
         exact ⟨m17z, lt18z, l2.set (Int.toNat ((i : Int) + 1)) (max (l2.getD i 0) (((l2.getD (Int.toNat k) 0) + ((l.getD i default).stage)) - threshold) : Int), i + 1, v_l2, _, upds_of _ _ ⟨rfl, rfl, rfl, rfl, rfl, trivial⟩, M.e_inl hM hN20z, H⟩
        ·skip
         refine s_val (x_ld (p := vat v_l2 1 (Int.toNat k)) (v := I (l2.getD (Int.toNat k) 0)) rfl (ld_sc Sc3 (At.mono (Int_at (ownSl (H.get (k := 0) rfl)) (i := k) (by omega) (by omega)) (ownLe _ (H.get (k := 0) rfl))))) ?_
         refine s_nil ⟨(H.pick [] (by decide) rfl), ?_⟩
         refine t_q rfl (fun w' H => x_ari (a := l2.getD (Int.toNat k) 0) (b := (l.getD i default).stage) (r := (l2.getD (Int.toNat k) 0) + ((l.getD i default).stage)) rfl rfl rfl (by omega)) ?_
         refine t_q rfl (fun w' H => x_ari (a := (l2.getD (Int.toNat k) 0) + ((l.getD i default).stage)) (b := threshold) (r := ((l2.getD (Int.toNat k) 0) + ((l.getD i default).stage)) - threshold) rfl rfl rfl (by omega)) ?_
         refine t_l rfl ?_
         refine s_val (x_ld (p := vat v_l2 1 (Int.toNat (i : Int))) (v := I (l2.getD i 0)) rfl (ld_sc Sc3 (At.mono (Int_at (ownSl (H.get (k := 0) rfl)) (i := (i : Int)) (by omega) (by omega)) (ownLe _ (H.get (k := 0) rfl))))) ?_
         refine s_nil ⟨(H.pick [] (by decide) rfl), ?_⟩
         refine t_q rfl (fun w' H => x_max (kd := .i64) (a := l2.getD i 0) (b := ((l2.getD (Int.toNat k) 0) + ((l.getD i default).stage)) - threshold) rfl rfl) ?_
         refine t_l rfl ?_
         refine s_val (x_ix (a := v_l2) (b := I ((i : Int) + 1)) (v := vat v_l2 1 (Int.toNat ((i : Int) + 1))) rfl rfl (Sl.ix (α := Int) T27.und T27.size (ownSl (H.get (k := 0) rfl)) (by omega) (by omega))) ?_
         refine s_nil ⟨(H.pick [] (by decide) rfl), ?_⟩
         refine t_l rfl ?_
         refine t_ost (k := 0) (i := (i : Int) + 1) (l := l2) (l' := l2.set (Int.toNat ((i : Int) + 1)) (max (l2.getD i 0) (((l2.getD (Int.toNat k) 0) + ((l.getD i default).stage)) - threshold) : Int)) (val := I (max (l2.getD i 0) (((l2.getD (Int.toNat k) 0) + ((l.getD i default).stage)) - threshold))) (L' := [cOwn (α := Int) 3 v_l2 (l2.set (Int.toNat ((i : Int) + 1)) (max (l2.getD i 0) (((l2.getD (Int.toNat k) 0) + ((l.getD i default).stage)) - threshold) : Int))]) H rfl Sz3 (by omega) (by omega) (max (l2.getD i 0) (((l2.getD (Int.toNat k) 0) + ((l.getD i default).stage)) - threshold) : Int) rfl rfl rfl rfl rfl ?_
         intro w52z H
         refine s_nil ⟨(H.pick [] (by decide) rfl), ?_⟩
         refine t_nil ?_
         refine W.region rfl ?_
         refine s_val (x_mv (v := I (i : Int)) rfl) ?_
         refine s_val (x_ari (a := (i : Int)) (b := 1) (r := (i : Int) + 1) rfl rfl rfl (by omega)) ?_
         refine s_val (x_as (v := I ((i : Int) + 1)) rfl) ?_
         refine s_nil ?_
         exact ⟨m17z, lt18z, l2.set (Int.toNat ((i : Int) + 1)) (max (l2.getD i 0) (((l2.getD (Int.toNat k) 0) + ((l.getD i default).stage)) - threshold) : Int), i + 1, v_l2, _, upds_of _ _ ⟨rfl, rfl, rfl, rfl, rfl, trivial⟩, M.e_inl hM hN20z, H⟩
      ·skip
       refine s_val (x_ix (a := v_l2) (b := I k) (v := vat v_l2 1 (Int.toNat k)) rfl rfl (Sl.ix (α := Int) T27.und T27.size (ownSl (H.get (k := 0) rfl)) (by omega) (by omega))) ?_
       have hvc_q53z := Sl.cells (ownSl (H.get (k := 0) rfl))
       have hvo_q53z := Sl.oc (ownSl (H.get (k := 0) rfl))
       refine s_nil ⟨(H.pick [] (by decide) rfl), ?_⟩
       refine t_l2 rfl rfl ?_ ?_
       ·skip
        refine s_val (x_ix (a := v_l2) (b := I (i : Int)) (v := vat v_l2 1 (Int.toNat (i : Int))) rfl rfl (Sl.ix (α := Int) T27.und T27.size (ownSl (H.get (k := 0) rfl)) (by omega) (by omega))) ?_
        refine s_nil ⟨(H.pick [] (by decide) rfl), ?_⟩
        refine t_l2 rfl rfl ?_ ?_
        ·skip
         refine s_val (x_ld (p := vat v_l2 1 (Int.toNat (i : Int))) (v := I (l2.getD i 0)) rfl (ld_sc Sc3 (At.mono (Int_at (ownSl (H.get (k := 0) rfl)) (i := (i : Int)) (by omega) (by omega)) (ownLe _ (H.get (k := 0) rfl))))) ?_
         refine s_nil ⟨(H.pick [] (by decide) rfl), ?_⟩
         refine t_l rfl ?_
         refine s_val (x_ld (p := vat v_l2 1 (Int.toNat k)) (v := I (l2.getD (Int.toNat k) 0)) rfl (ld_sc Sc3 (At.mono (Int_at (ownSl (H.get (k := 0) rfl)) (i := k) (by omega) (by omega)) (ownLe _ (H.get (k := 0) rfl))))) ?_
         refine s_nil ⟨(H.pick [] (by decide) rfl), ?_⟩
         refine t_q rfl (fun w' H => x_ari (a := l2.getD (Int.toNat k) 0) (b := (l.getD i default).stage) (r := (l2.getD (Int.toNat k) 0) + ((l.getD i default).stage)) rfl rfl rfl (by omega)) ?_
         refine t_q rfl (fun w' H => x_ari (a := (l2.getD (Int.toNat k) 0) + ((l.getD i default).stage)) (b := threshold) (r := ((l2.getD (Int.toNat k) 0) + ((l.getD i default).stage)) - threshold) rfl rfl rfl (by omega)) ?_
         refine t_q rfl (fun w' H => x_max (kd := .i64) (a := l2.getD i 0) (b := ((l2.getD (Int.toNat k) 0) + ((l.getD i default).stage)) - threshold) rfl rfl) ?_
         refine t_l rfl ?_
         refine s_val (x_ix (a := v_l2) (b := I ((i : Int) + 1)) (v := vat v_l2 1 (Int.toNat ((i : Int) + 1))) rfl rfl (Sl.ix (α := Int) T27.und T27.size (ownSl (H.get (k := 0) rfl)) (by omega) (by omega))) ?_
         refine s_nil ⟨(H.pick [] (by decide) rfl), ?_⟩
         refine t_l rfl ?_
         refine t_ost (k := 0) (i := (i : Int) + 1) (l := l2) (l' := l2.set (Int.toNat ((i : Int) + 1)) (max (l2.getD i 0) (((l2.getD (Int.toNat k) 0) + ((l.getD i default).stage)) - threshold) : Int)) (val := I (max (l2.getD i 0) (((l2.getD (Int.toNat k) 0) + ((l.getD i default).stage)) - threshold))) (L' := [cOwn (α := Int) 3 v_l2 (l2.set (Int.toNat ((i : Int) + 1)) (max (l2.getD i 0) (((l2.getD (Int.toNat k) 0) + ((l.getD i default).stage)) - threshold) : Int))]) H rfl Sz3 (by omega) (by omega) (max (l2.getD i 0) (((l2.getD (Int.toNat k) 0) + ((l.getD i default).stage)) - threshold) : Int) rfl rfl rfl rfl rfl ?_
         intro w54z H
         refine s_nil ⟨(H.pick [] (by decide) rfl), ?_⟩
         refine t_nil ?_
         refine W.region rfl ?_
         refine s_val (x_mv (v := I (i : Int)) rfl) ?_
         refine s_val (x_ari (a := (i : Int)) (b := 1) (r := (i : Int) + 1) rfl rfl rfl (by omega)) ?_
         refine s_val (x_as (v := I ((i : Int) + 1)) rfl) ?_
         refine s_nil ?_
         exact ⟨m17z, lt18z, l2.set (Int.toNat ((i : Int) + 1)) (max (l2.getD i 0) (((l2.getD (Int.toNat k) 0) + ((l.getD i default).stage)) - threshold) : Int), i + 1, v_l2, _, upds_of _ _ ⟨rfl, rfl, rfl, rfl, rfl, trivial⟩, M.e_inl hM hN20z, H⟩
        ·skip
         refine s_val (x_ld (p := vat v_l2 1 (Int.toNat k)) (v := I (l2.getD (Int.toNat k) 0)) rfl (ld_sc Sc3 (At.mono (Int_at (ownSl (H.get (k := 0) rfl)) (i := k) (by omega) (by omega)) (ownLe _ (H.get (k := 0) rfl))))) ?_
         refine s_nil ⟨(H.pick [] (by decide) rfl), ?_⟩
         refine t_q rfl (fun w' H => x_ari (a := l2.getD (Int.toNat k) 0) (b := (l.getD i default).stage) (r := (l2.getD (Int.toNat k) 0) + ((l.getD i default).stage)) rfl rfl rfl (by omega)) ?_
         refine t_q rfl (fun w' H => x_ari (a := (l2.getD (Int.toNat k) 0) + ((l.getD i default).stage)) (b := threshold) (r := ((l2.getD (Int.toNat k) 0) + ((l.getD i default).stage)) - threshold) rfl rfl rfl (by omega)) ?_
         refine t_l rfl ?_
         refine s_val (x_ld (p := vat v_l2 1 (Int.toNat (i : Int))) (v := I (l2.getD i 0)) rfl (ld_sc Sc3 (At.mono (Int_at (ownSl (H.get (k := 0) rfl)) (i := (i : Int)) (by omega) (by omega)) (ownLe _ (H.get (k := 0) rfl))))) ?_
         refine s_nil ⟨(H.pick [] (by decide) rfl), ?_⟩
         refine t_q rfl (fun w' H => x_max (kd := .i64) (a := l2.getD i 0) (b := ((l2.getD (Int.toNat k) 0) + ((l.getD i default).stage)) - threshold) rfl rfl) ?_
         refine t_l rfl ?_
         refine s_val (x_ix (a := v_l2) (b := I ((i : Int) + 1)) (v := vat v_l2 1 (Int.toNat ((i : Int) + 1))) rfl rfl (Sl.ix (α := Int) T27.und T27.size (ownSl (H.get (k := 0) rfl)) (by omega) (by omega))) ?_
         refine s_nil ⟨(H.pick [] (by decide) rfl), ?_⟩
         refine t_l rfl ?_
         refine t_ost (k := 0) (i := (i : Int) + 1) (l := l2) (l' := l2.set (Int.toNat ((i : Int) + 1)) (max (l2.getD i 0) (((l2.getD (Int.toNat k) 0) + ((l.getD i default).stage)) - threshold) : Int)) (val := I (max (l2.getD i 0) (((l2.getD (Int.toNat k) 0) + ((l.getD i default).stage)) - threshold))) (L' := [cOwn (α := Int) 3 v_l2 (l2.set (Int.toNat ((i : Int) + 1)) (max (l2.getD i 0) (((l2.getD (Int.toNat k) 0) + ((l.getD i default).stage)) - threshold) : Int))]) H rfl Sz3 (by omega) (by omega) (max (l2.getD i 0) (((l2.getD (Int.toNat k) 0) + ((l.getD i default).stage)) - threshold) : Int) rfl rfl rfl rfl rfl ?_
         intro w55z H
         refine s_nil ⟨(H.pick [] (by decide) rfl), ?_⟩
         refine t_nil ?_
         refine W.region rfl ?_
         refine s_val (x_mv (v := I (i : Int)) rfl) ?_
         refine s_val (x_ari (a := (i : Int)) (b := 1) (r := (i : Int) + 1) rfl rfl rfl (by omega)) ?_
         refine s_val (x_as (v := I ((i : Int) + 1)) rfl) ?_
         refine s_nil ?_
         exact ⟨m17z, lt18z, l2.set (Int.toNat ((i : Int) + 1)) (max (l2.getD i 0) (((l2.getD (Int.toNat k) 0) + ((l.getD i default).stage)) - threshold) : Int), i + 1, v_l2, _, upds_of _ _ ⟨rfl, rfl, rfl, rfl, rfl, trivial⟩, M.e_inl hM hN20z, H⟩
       ·skip
        refine s_val (x_ld (p := vat v_l2 1 (Int.toNat k)) (v := I (l2.getD (Int.toNat k) 0)) rfl (ld_sc Sc3 (At.mono (Int_at (ownSl (H.get (k := 0) rfl)) (i := k) (by omega) (by omega)) (ownLe _ (H.get (k := 0) rfl))))) ?_
        refine s_nil ⟨(H.pick [] (by decide) rfl), ?_⟩
        refine t_q rfl (fun w' H => x_ari (a := l2.getD (Int.toNat k) 0) (b := (l.getD i default).stage) (r := (l2.getD (Int.toNat k) 0) + ((l.getD i default).stage)) rfl rfl rfl (by omega)) ?_
        refine t_q rfl (fun w' H => x_ari (a := (l2.getD (Int.toNat k) 0) + ((l.getD i default).stage)) (b := threshold) (r := ((l2.getD (Int.toNat k) 0) + ((l.getD i default).stage)) - threshold) rfl rfl rfl (by omega)) ?_
        refine t_l rfl ?_
        refine s_val (x_ix (a := v_l2) (b := I (i : Int)) (v := vat v_l2 1 (Int.toNat (i : Int))) rfl rfl (Sl.ix (α := Int) T27.und T27.size (ownSl (H.get (k := 0) rfl)) (by omega) (by omega))) ?_
        refine s_nil ⟨(H.pick [] (by decide) rfl), ?_⟩
        refine t_l rfl ?_
        refine s_val (x_ld (p := vat v_l2 1 (Int.toNat (i : Int))) (v := I (l2.getD i 0)) rfl (ld_sc Sc3 (At.mono (Int_at (ownSl (H.get (k := 0) rfl)) (i := (i : Int)) (by omega) (by omega)) (ownLe _ (H.get (k := 0) rfl))))) ?_
        refine s_nil ⟨(H.pick [] (by decide) rfl), ?_⟩
        refine t_q rfl (fun w' H => x_max (kd := .i64) (a := l2.getD i 0) (b := ((l2.getD (Int.toNat k) 0) + ((l.getD i default).stage)) - threshold) rfl rfl) ?_
        refine t_l rfl ?_
        refine s_val (x_ix (a := v_l2) (b := I ((i : Int) + 1)) (v := vat v_l2 1 (Int.toNat ((i : Int) + 1))) rfl rfl (Sl.ix (α := Int) T27.und T27.size (ownSl (H.get (k := 0) rfl)) (by omega) (by omega))) ?_
        refine s_nil ⟨(H.pick [] (by decide) rfl), ?_⟩
        refine t_l rfl ?_
        refine t_ost (k := 0) (i := (i : Int) + 1) (l := l2) (l' := l2.set (Int.toNat ((i : Int) + 1)) (max (l2.getD i 0) (((l2.getD (Int.toNat k) 0) + ((l.getD i default).stage)) - threshold) : Int)) (val := I (max (l2.getD i 0) (((l2.getD (Int.toNat k) 0) + ((l.getD i default).stage)) - threshold))) (L' := [cOwn (α := Int) 3 v_l2 (l2.set (Int.toNat ((i : Int) + 1)) (max (l2.getD i 0) (((l2.getD (Int.toNat k) 0) + ((l.getD i default).stage)) - threshold) : Int))]) H rfl Sz3 (by omega) (by omega) (max (l2.getD i 0) (((l2.getD (Int.toNat k) 0) + ((l.getD i default).stage)) - threshold) : Int) rfl rfl rfl rfl rfl ?_
        intro w56z H
        refine s_nil ⟨(H.pick [] (by decide) rfl), ?_⟩
        refine t_nil ?_
        refine W.region rfl ?_
        refine s_val (x_mv (v := I (i : Int)) rfl) ?_
        refine s_val (x_ari (a := (i : Int)) (b := 1) (r := (i : Int) + 1) rfl rfl rfl (by omega)) ?_
        refine s_val (x_as (v := I ((i : Int) + 1)) rfl) ?_
        refine s_nil ?_
        exact ⟨m17z, lt18z, l2.set (Int.toNat ((i : Int) + 1)) (max (l2.getD i 0) (((l2.getD (Int.toNat k) 0) + ((l.getD i default).stage)) - threshold) : Int), i + 1, v_l2, _, upds_of _ _ ⟨rfl, rfl, rfl, rfl, rfl, trivial⟩, M.e_inl hM hN20z, H⟩
   ·replace hM := M.e_f hM c22z
    simp only [decide_eq_true_eq, decide_eq_false_iff_not, beq_iff_eq, bne_iff_ne, beq_eq_false_iff_ne, bne_eq_false_iff_eq, ne_eq, Decidable.not_not] at c22z
    refine W.exit ?_
    have hX57z := M.e_inr hM hN20z
    subst hX57z
    replace hM := hk13z
    try dsimp only at hM
    refine W.seq ?_
    refine W.region rfl ?_
    refine s_val (x_mv (v := v_l2) rfl) ?_
    refine s_val (x_mv (v := v_l) rfl) ?_
    have hl58z := (hs_l).len_le
    refine s_val (x_lenS T74.und rfl hs_l) ?_
    obtain ⟨sd59z, hM⟩ := M.e_grd hM
    simp only [Bool.and_eq_true, decide_eq_true_eq] at sd59z
    refine s_val (x_ix (a := v_l2) (b := I (l.length : Int)) (v := vat v_l2 1 (Int.toNat (l.length : Int))) rfl rfl (Sl.ix (α := Int) T27.und T27.size (ownSl (H.get (k := 0) rfl)) (by omega) (by omega))) ?_
    refine s_val (x_ld (p := vat v_l2 1 (Int.toNat (l.length : Int))) (v := I (l2.getD (l.length) 0)) rfl (ld_sc Sc3 (At.mono (Int_at (ownSl (H.get (k := 0) rfl)) (i := (l.length : Int)) (by omega) (by omega)) (ownLe _ (H.get (k := 0) rfl))))) ?_
    refine s_val (x_as (v := I (l2.getD (l.length) 0)) rfl) ?_
    refine s_val (x_as (v := I 0) rfl) ?_
    refine s_nil ?_
    refine W.ret ?_
    have hr_ := M.e_pure hM
    exact ⟨_, resE_tmp2 rfl, ⟨(l2.getD (l.length) 0), 0, hr_, rfl, (H.pick [] (by decide) rfl)⟩⟩

def m_often_Dues_1 (i : Int) (n : Int) (k02 : List Int) : M (List Int) :=
  M.grd (decide ((0 : Int) ≤ i) && decide (i < (k02.length : Int))) <|
  M.grd (decide ((-9223372036854775808 : Int) ≤ ((k02.getD (Int.toNat i) 0) + n)) && decide (((k02.getD (Int.toNat i) 0) + n) ≤ (9223372036854775807 : Int))) <|
  M.pure (k02.set (Int.toNat i) ((k02.getD (Int.toNat i) 0) + n : Int))
set_option maxRecDepth 100000 in
set_option maxHeartbeats 16000000 in
theorem often_Dues_1_ok {R : List Chunk} {b_k0 : Nat} {v_k02 : Value} (i : Int) (n : Int) (k02 : List Int)  {r : (List Int)} (hM : (m_often_Dues_1 i n k02).Ends r) (w : World) (H : St w w [cOwn (α := Int) 3 v_k02 k02, cBlk b_k0 [v_k02] 27] R) : Ret Try.prog 81 #[I i, I n, .pointer (some ⟨b_k0, 0, none⟩)] w fun v w' => ∃ (y0 : List Int) (u0 : Value), y0 = r ∧ v = .tuple #[] ∧ St w w' [cOwn (α := Int) 3 u0 y0, cBlk b_k0 [u0] 27] R := by
 refine ret_of_W Try.func81 rfl rfl rfl ?_
 refine W.region rfl ?_
 refine s_val (x_ld (p := .pointer (some ⟨b_k0, 0, none⟩)) (v := v_k02) rfl (ldb_sc Sc27 (H.blk (k := 1) rfl) rfl)) ?_
 refine s_val (x_mv (v := I i) rfl) ?_
 obtain ⟨sd1z, hM⟩ := M.e_grd hM
 simp only [Bool.and_eq_true, decide_eq_true_eq] at sd1z
 refine s_val (x_ix (a := v_k02) (b := I i) (v := vat v_k02 1 (Int.toNat i)) rfl rfl (Sl.ix (α := Int) T27.und T27.size (ownSl (H.get (k := 0) rfl)) (by omega) (by omega))) ?_
 refine s_val (x_ld (p := vat v_k02 1 (Int.toNat i)) (v := I (k02.getD (Int.toNat i) 0)) rfl (ld_sc Sc3 (At.mono (Int_at (ownSl (H.get (k := 0) rfl)) (i := i) (by omega) (by omega)) (ownLe _ (H.get (k := 0) rfl))))) ?_
 refine s_val (x_mv (v := I n) rfl) ?_
 obtain ⟨sd2z, hM⟩ := M.e_grd hM
 simp only [Bool.and_eq_true, decide_eq_true_eq] at sd2z
 refine s_val (x_ari (a := k02.getD (Int.toNat i) 0) (b := n) (r := (k02.getD (Int.toNat i) 0) + n) rfl rfl rfl (by omega)) ?_
 refine s_val (x_ix (a := v_k02) (b := I i) (v := vat v_k02 1 (Int.toNat i)) rfl rfl (Sl.ix (α := Int) T27.und T27.size (ownSl (H.get (k := 0) rfl)) (by omega) (by omega))) ?_
 refine t_ost (k := 0) (i := i) (l := k02) (l' := k02.set (Int.toNat i) ((k02.getD (Int.toNat i) 0) + n : Int)) (val := I ((k02.getD (Int.toNat i) 0) + n)) (L' := [cOwn (α := Int) 3 v_k02 (k02.set (Int.toNat i) ((k02.getD (Int.toNat i) 0) + n : Int)), cBlk b_k0 [v_k02] 27]) H rfl Sz3 (by omega) (by omega) ((k02.getD (Int.toNat i) 0) + n : Int) rfl rfl rfl rfl rfl ?_
 intro w3z H
 refine s_nil ?_
 have hr_ := M.e_pure hM
 exact ⟨_, resE_tmp0 rfl, ⟨(k02.set (Int.toNat i) ((k02.getD (Int.toNat i) 0) + n : Int)), v_k02, hr_, rfl, H⟩⟩

def m_often_Dues_b1 (l2 : List Int) (s2 : Nat) (r3 : Int) : (Int × Nat) → M ((Int × Nat) ⊕ Int) := fun (lacks, s) =>
  bif decide ((s : Int) < (((l2.take (Int.toNat r3)).drop s2).length : Int)) then (
  M.grd (decide ((s : Int) < (((l2.take (Int.toNat r3)).drop s2).length : Int))) <|
  M.grd (decide ((-9223372036854775808 : Int) ≤ (lacks - (((l2.take (Int.toNat r3)).drop s2).getD s 0))) && decide ((lacks - (((l2.take (Int.toNat r3)).drop s2).getD s 0)) ≤ (9223372036854775807 : Int))) <|
  M.pure (.inl (lacks - (((l2.take (Int.toNat r3)).drop s2).getD s 0), s + 1)))
  else (
  M.pure (.inr lacks))
def m_often_Dues_b2 (l : List Pk) (apart : Int) (threshold : Int) : ((List Int) × Nat) → M (((List Int) × Nat) ⊕ ((List Int) × (List Int))) := fun (l2, s2) =>
  bif decide ((s2 : Int) < (l.length : Int)) then (
  M.grd (decide ((s2 : Int) < (l.length : Int))) <|
  M.bind (m_often_window l (s2 : Int) apart) fun r3 =>
  M.grd (decide ((-9223372036854775808 : Int) ≤ (((l.getD s2 default).stage) - threshold)) && decide ((((l.getD s2 default).stage) - threshold) ≤ (9223372036854775807 : Int))) <|
  M.grd (decide ((0 : Int) ≤ (s2 : Int)) && decide ((s2 : Int) ≤ r3) && decide (r3 ≤ (l2.length : Int))) <|
  M.bind (M.iter (m_often_Dues_b1 l2 s2 r3) (((l.getD s2 default).stage) - threshold, 0)) fun lacks2 =>
  M.grd (decide ((-9223372036854775808 : Int) ≤ (r3 - 1)) && decide ((r3 - 1) ≤ (9223372036854775807 : Int))) <|
  M.bind (m_often_greatest ([(lacks2 : Int)])) fun r4 =>
  M.bind (m_often_Dues_1 (r3 - 1) r4 l2) fun l_k02 =>
  M.pure (.inl (l_k02, s2 + 1)))
  else (
  M.pure (.inr (l2, l2)))
def m_often_Dues (l : List Pk) (apart : Int) (threshold : Int) : M ((List Int) × Int) :=
  M.bind (m_often_asked l apart threshold) fun r2 =>
  bif r2 != 0 then (
  M.pure (([]), r2))
  else (
  M.grd (decide ((0 : Int) ≤ (l.length : Int)) && decide ((8 : Int) * (l.length : Int) ≤ 281474976710656) && decide ((l.length : Int) ≤ (9223372036854775807 : Int))) <|
  M.bind (M.iter (m_often_Dues_b2 l apart threshold) (List.replicate (l.length) (0 : Int), 0)) fun (l3, l4) =>
  M.pure (l4, 0))
set_option maxRecDepth 100000 in
set_option maxHeartbeats 16000000 in
theorem often_Dues_ok {R : List Chunk} {C_l : Cells} {v_l : Value} (l : List Pk) (apart : Int) (threshold : Int) (hC_l : Reads R C_l) (hs_l : Sl C_l v_l l) {r : ((List Int) × Int)} (hM : (m_often_Dues l apart threshold).Ends r) (w : World) (H : St w w [] R) : Ret Try.prog 39 #[v_l, I apart, I threshold] w fun v w' => ∃ (y0 : List Int) (y1 : Int) (u0 : Value), (y0, y1) = r ∧ v = .tuple #[u0, I y1] ∧ St w w' [cOwn (α := Int) 3 u0 y0] R := by
 refine ret_of_W Try.func39 rfl rfl rfl ?_
 refine W.seq ?_
 refine W.region rfl ?_
 refine s_val (x_as (v := .slice none 0 0) rfl) ?_
 refine s_val (x_as (v := I 0) rfl) ?_
 refine s_nil ?_
 refine W.seq ?_
 refine W.seq ?_
 refine W.region rfl ?_
 refine s_val (x_mv (v := v_l) rfl) ?_
 refine s_val (x_mv (v := I apart) rfl) ?_
 refine s_val (x_mv (v := I threshold) rfl) ?_
 obtain ⟨r2z, hx1z, hM⟩ := M.e_bind hM
 refine s_call cf72 [v_l, I apart, I threshold] rfl (often_asked_ok l apart threshold (hC_l.app _) hs_l hx1z _ (St.give (T := []) H rfl)) ?_
 rintro vq w3z ⟨r2, hr4z, hvq, H2_⟩
 subst hr4z
 subst vq
 try dsimp only at hM
 replace H : St w w3z [] R := H.back H2_ rfl
 clear H2_
 refine s_val (x_as (v := I r2) rfl) ?_
 refine s_nil ?_
 refine W.seq ?_
 refine W.region rfl ?_
 refine s_val (x_mv (v := I r2) rfl) ?_
 refine s_val (x_cmp (kd := .i64) (a := r2) (b := 0) (r := r2 != 0) rfl rfl rfl) ?_
 refine s_nil ?_
 refine W.cond (r2 != 0) rfl (fun c5z => ?_) (fun c5z => ?_)
 ·replace hM := M.e_t hM c5z
  simp only [decide_eq_true_eq, decide_eq_false_iff_not, beq_iff_eq, bne_iff_ne, beq_eq_false_iff_ne, bne_eq_false_iff_eq, ne_eq, Decidable.not_not] at c5z
  refine W.seq ?_
  refine W.region rfl ?_
  refine s_val (x_mv (v := I r2) rfl) ?_
  refine s_val (x_as (v := .slice none 0 0) rfl) ?_
  refine s_val (x_as (v := I r2) rfl) ?_
  refine s_nil ?_
  refine W.ret ?_
  have hr_ := M.e_pure hM
  replace H : St w w3z [cOwn (α := Int) 3 (.slice none 0 0) ([])] R := H.nilOwn (α := Int) 3
  exact ⟨_, resE_tmp2 rfl, ⟨([]), r2, (.slice none 0 0), hr_, rfl, H⟩⟩
 ·replace hM := M.e_f hM c5z
  simp only [decide_eq_true_eq, decide_eq_false_iff_not, beq_iff_eq, bne_iff_ne, beq_eq_false_iff_ne, bne_eq_false_iff_eq, ne_eq, Decidable.not_not] at c5z
  refine W.skip ?_
  refine W.seq ?_
  refine W.region rfl ?_
  refine s_val (x_mv (v := v_l) rfl) ?_
  have hl6z := (hs_l).len_le
  refine s_val (x_lenS T69.und rfl hs_l) ?_
  obtain ⟨sd7z, hM⟩ := M.e_grd hM
  simp only [Bool.and_eq_true, decide_eq_true_eq] at sd7z
  refine t_mk (α := Int) T27 (0 : Int) rfl (n := (l.length : Int)) H rfl rfl (by omega) (by omega) (by omega) ?_
  intro v8z w9z H
  replace H : St w w9z [cOwn (α := Int) 3 v8z (List.replicate (l.length) (0 : Int))] R := H
  refine t_alloc (cs := [.slice none 0 0]) H Al27 rfl ?_
  intro b_2 w10z H
  refine t_st (k := 0) (b := b_2) (off := 0) (cs := [.slice none 0 0]) (vs := [v8z]) (cs' := [v8z]) (v := v8z) (L' := [cBlk b_2 [v8z] 27, cOwn (α := Int) 3 v8z (List.replicate (l.length) (0 : Int))]) H rfl rfl rfl Sz27 (Sl.cells (ownSl (H.get (k := 1) rfl))) rfl rfl (by simp only [List.all_cons, List.all_nil, Bool.true_and, Bool.and_true, Sl.oc (ownSl (H.get (k := 1) rfl))]; try rfl) rfl rfl ?_
  intro w11z H
  refine s_nil ?_
  refine W.seq ?_
  refine W.region rfl ?_
  refine s_val (x_mf (fs := []) (cs := [.pointer (some ⟨b_2, 0, none⟩)]) rfl rfl) ?_
  refine s_val (x_as (v := .func (.func 81) #[] #[.pointer (some ⟨b_2, 0, none⟩)]) rfl) ?_
  refine s_nil ?_
  refine W.seq ?_
  refine W.seq ?_
  refine W.region rfl ?_
  refine s_val (x_mv (v := v_l) rfl) ?_
  have hl12z := (hs_l).len_le
  refine s_val (x_lenS T69.und rfl hs_l) ?_
  refine s_val (x_mv (v := I 0) rfl) ?_
  refine s_nil ?_
  refine W.block ?_
  obtain ⟨ex13z, hi14z, hk15z⟩ := M.e_bind hM
  obtain ⟨m0_, hi14z⟩ := M.e_iter hi14z
  refine W.loop (fun m σ W => ∃ (l2 : List Int) (s2 : Nat) (v_l2 : Value) (ρ : Env), σ = upds ρ [(0, v_l), (1, I apart), (2, I threshold), (9, .pointer (some ⟨b_2, 0, none⟩)), (10, .func (.func 81) #[] #[.pointer (some ⟨b_2, 0, none⟩)]), (28, v_l), (29, I (l.length : Int)), (30, I (s2 : Int))] ∧ M.iterN (m_often_Dues_b2 l apart threshold) m (l2, s2) = some ex13z ∧ St w W [cBlk b_2 [v_l2] 27, cOwn (α := Int) 3 v_l2 l2] R) ?_ ?_
  ·exact ⟨_, List.replicate (l.length) (0 : Int), 0, v8z, _, upds_of _ _ ⟨rfl, rfl, rfl, rfl, rfl, rfl, rfl, rfl, trivial⟩, hi14z, H⟩
  ·rintro m18z σ w16z ⟨l2, s2, v_l2, ρ, rfl, hI17z, H⟩
   obtain ⟨m19z, lt20z, x21z, hM, hN22z⟩ := M.e_iterN hI17z
   simp only [m_often_Dues_b2] at hM
   clear hI17z
   refine W.seq ?_
   refine W.region rfl ?_
   refine s_val (x_cmp (kd := .i64) (a := (s2 : Int)) (b := (l.length : Int)) (r := decide ((s2 : Int) < (l.length : Int))) rfl rfl rfl) ?_
   refine s_nil ?_
   refine W.seq ?_
   refine W.cond (decide ((s2 : Int) < (l.length : Int))) rfl (fun c23z => ?_) (fun c23z => ?_)
   ·replace hM := M.e_t hM c23z
    simp only [decide_eq_true_eq, decide_eq_false_iff_not, beq_iff_eq, bne_iff_ne, beq_eq_false_iff_ne, bne_eq_false_iff_eq, ne_eq, Decidable.not_not] at c23z
    refine W.skip ?_
    refine W.seq ?_
    refine W.block ?_
    refine W.seq ?_
    refine W.region rfl ?_
    refine s_val (x_mv (v := I (s2 : Int)) rfl) ?_
    obtain ⟨sd24z, hM⟩ := M.e_grd hM
    simp only [Bool.and_eq_true, decide_eq_true_eq] at sd24z
    refine s_val (x_ix (a := v_l) (b := I (s2 : Int)) (v := vat v_l 2 (Int.toNat (s2 : Int))) rfl rfl (Sl.ix (α := Pk) T69.und T69.size hs_l (by omega) (by omega))) ?_
    refine s_val (x_ld (p := vat v_l 2 (Int.toNat (s2 : Int))) (v := .agg #[I ((l.getD s2 default).day), I ((l.getD s2 default).stage)]) rfl (ld_ag Ag72 Sz72 (At.mono (Pk_atA hs_l (i := (s2 : Int)) (by omega) (by omega)) (hC_l.at H)))) ?_
    refine t_alloc (cs := [I 0, I 0]) H Al72 rfl ?_
    intro b_3 w25z H
    refine s_val (x_as (v := I (s2 : Int)) rfl) ?_
    refine t_st (k := 0) (b := b_3) (off := 0) (cs := [I 0, I 0]) (vs := [I ((l.getD s2 default).day), I ((l.getD s2 default).stage)]) (cs' := [I ((l.getD s2 default).day), I ((l.getD s2 default).stage)]) (v := .agg #[I ((l.getD s2 default).day), I ((l.getD s2 default).stage)]) (L' := [cBlk b_3 [I ((l.getD s2 default).day), I ((l.getD s2 default).stage)] 72, cBlk b_2 [v_l2] 27, cOwn (α := Int) 3 v_l2 l2]) H rfl rfl rfl Sz72 rfl rfl rfl rfl rfl rfl ?_
    intro w26z H
    refine s_nil ?_
    refine W.seq ?_
    refine W.region rfl ?_
    refine s_val (x_mv (v := v_l) rfl) ?_
    refine s_val (x_mv (v := I (s2 : Int)) rfl) ?_
    refine s_val (x_mv (v := I apart) rfl) ?_
    obtain ⟨r28z, hx27z, hM⟩ := M.e_bind hM
    refine s_call cf82 [v_l, I (s2 : Int), I apart] rfl (often_window_ok l (s2 : Int) apart (hC_l.app _) hs_l hx27z _ (St.give (T := [cBlk b_3 [I ((l.getD s2 default).day), I ((l.getD s2 default).stage)] 72, cBlk b_2 [v_l2] 27, cOwn (α := Int) 3 v_l2 l2]) H rfl)) ?_
    rintro vq w29z ⟨r3, hr30z, hvq, H2_⟩
    subst hr30z
    subst vq
    try dsimp only at hM
    replace H : St w w29z [cBlk b_3 [I ((l.getD s2 default).day), I ((l.getD s2 default).stage)] 72, cBlk b_2 [v_l2] 27, cOwn (α := Int) 3 v_l2 l2] R := H.back H2_ rfl
    clear H2_
    refine s_val (x_as (v := I r3) rfl) ?_
    refine s_nil ?_
    refine W.seq ?_
    refine W.region rfl ?_
    refine s_val (x_fa (a := .pointer (some ⟨b_3, 0, none⟩)) (v := .pointer (some ⟨b_3, 1, none⟩)) rfl (fa_blk (o := 0) Fd72_1 Sz3)) ?_
    refine s_val (x_ld (p := .pointer (some ⟨b_3, 1, none⟩)) (v := I ((l.getD s2 default).stage)) rfl (ldb_sc Sc3 (H.blk (k := 0) rfl) rfl)) ?_
    refine s_val (x_mv (v := I threshold) rfl) ?_
    obtain ⟨sd31z, hM⟩ := M.e_grd hM
    simp only [Bool.and_eq_true, decide_eq_true_eq] at sd31z
    refine s_val (x_ari (a := (l.getD s2 default).stage) (b := threshold) (r := ((l.getD s2 default).stage) - threshold) rfl rfl rfl (by omega)) ?_
    refine s_val (x_as (v := I (((l.getD s2 default).stage) - threshold)) rfl) ?_
    refine s_nil ?_
    refine W.seq ?_
    refine W.seq ?_
    refine W.region rfl ?_
    refine s_val (x_ld (p := .pointer (some ⟨b_2, 0, none⟩)) (v := v_l2) rfl (ldb_sc Sc27 (H.blk (k := 1) rfl) rfl)) ?_
    refine s_val (x_mv (v := I (s2 : Int)) rfl) ?_
    refine s_val (x_mv (v := I r3) rfl) ?_
    obtain ⟨sd32z, hM⟩ := M.e_grd hM
    simp only [Bool.and_eq_true, decide_eq_true_eq] at sd32z
    obtain ⟨u33z, hr_u33z, hs34z⟩ := sl_lohi T27.und T27.size (ownSl (H.get (k := 2) rfl)) (i := (s2 : Int)) (j := r3) (by omega) (by omega) (by omega)
    replace hs34z : Sl _ u33z ((l2.take (Int.toNat r3)).drop s2) := hs34z
    refine s_val (x_sl (v := v_l2) (u := u33z) (lo' := some (I (s2 : Int))) (hi' := some (I r3)) (mx' := none) rfl rfl rfl rfl (hr_u33z _)) ?_
    have hl35z := (hs34z).len_le
    refine s_val (x_lenS T27.und rfl hs34z) ?_
    refine s_val (x_mv (v := I 0) rfl) ?_
    refine s_nil ?_
    refine W.block ?_
    obtain ⟨ex36z, hi37z, hk38z⟩ := M.e_bind hM
    obtain ⟨m0_, hi37z⟩ := M.e_iter hi37z
    refine W.loop (fun m σ W => ∃ (lacks : Int) (s : Nat) (ρ : Env), σ = upds ρ [(0, v_l), (1, I apart), (2, I threshold), (9, .pointer (some ⟨b_2, 0, none⟩)), (10, .func (.func 81) #[] #[.pointer (some ⟨b_2, 0, none⟩)]), (13, I r3), (14, I lacks), (28, v_l), (29, I (l.length : Int)), (30, I (s2 : Int)), (46, u33z), (47, I (((l2.take (Int.toNat r3)).drop s2).length : Int)), (48, I (s : Int))] ∧ M.iterN (m_often_Dues_b1 l2 s2 r3) m (lacks, s) = some ex36z ∧ St w W [cBlk b_3 [I ((l.getD s2 default).day), I ((l.getD s2 default).stage)] 72, cBlk b_2 [v_l2] 27, cOwn (α := Int) 3 v_l2 l2] R) ?_ ?_
    ·exact ⟨_, ((l.getD s2 default).stage) - threshold, 0, _, upds_of _ _ ⟨rfl, rfl, rfl, rfl, rfl, rfl, rfl, rfl, rfl, rfl, rfl, rfl, rfl, trivial⟩, hi37z, H⟩
    ·rintro m41z σ w39z ⟨lacks, s, ρ, rfl, hI40z, H⟩
     obtain ⟨m42z, lt43z, x44z, hM, hN45z⟩ := M.e_iterN hI40z
     simp only [m_often_Dues_b1] at hM
     clear hI40z
     refine W.seq ?_
     refine W.region rfl ?_
     refine s_val (x_cmp (kd := .i64) (a := (s : Int)) (b := (((l2.take (Int.toNat r3)).drop s2).length : Int)) (r := decide ((s : Int) < (((l2.take (Int.toNat r3)).drop s2).length : Int))) rfl rfl rfl) ?_
     refine s_nil ?_
     refine W.seq ?_
     refine W.cond (decide ((s : Int) < (((l2.take (Int.toNat r3)).drop s2).length : Int))) rfl (fun c46z => ?_) (fun c46z => ?_)
     ·replace hM := M.e_t hM c46z
      simp only [decide_eq_true_eq, decide_eq_false_iff_not, beq_iff_eq, bne_iff_ne, beq_eq_false_iff_ne, bne_eq_false_iff_eq, ne_eq, Decidable.not_not] at c46z
      refine W.skip ?_
      refine W.seq ?_
      refine W.block ?_
      refine W.seq ?_
      refine W.region rfl ?_
      obtain ⟨sd47z, hM⟩ := M.e_grd hM
      simp only [Bool.and_eq_true, decide_eq_true_eq] at sd47z
      refine s_val (x_ix (a := u33z) (b := I (s : Int)) (v := vat u33z 1 (Int.toNat (s : Int))) rfl rfl (Sl.ix (α := Int) T27.und T27.size hs34z (by omega) (by omega))) ?_
      refine s_val (x_ld (p := vat u33z 1 (Int.toNat (s : Int))) (v := I (((l2.take (Int.toNat r3)).drop s2).getD s 0)) rfl (ld_sc Sc3 (At.mono (Int_at hs34z (i := (s : Int)) (by omega) (by omega)) (ownLe _ (H.get (k := 2) rfl))))) ?_
      refine s_val (x_as (v := I (((l2.take (Int.toNat r3)).drop s2).getD s 0)) rfl) ?_
      refine s_nil ?_
      refine W.region rfl ?_
      refine s_val (x_mv (v := I lacks) rfl) ?_
      refine s_val (x_mv (v := I (((l2.take (Int.toNat r3)).drop s2).getD s 0)) rfl) ?_
      obtain ⟨sd48z, hM⟩ := M.e_grd hM
      simp only [Bool.and_eq_true, decide_eq_true_eq] at sd48z
      refine s_val (x_ari (a := lacks) (b := ((l2.take (Int.toNat r3)).drop s2).getD s 0) (r := lacks - (((l2.take (Int.toNat r3)).drop s2).getD s 0)) rfl rfl rfl (by omega)) ?_
      refine s_val (x_as (v := I (lacks - (((l2.take (Int.toNat r3)).drop s2).getD s 0))) rfl) ?_
      refine s_nil ?_
      refine W.region rfl ?_
      refine s_val (x_ari (a := (s : Int)) (b := 1) (r := (s : Int) + 1) rfl rfl rfl (by omega)) ?_
      refine s_val (x_mv (v := I ((s : Int) + 1)) rfl) ?_
      refine s_nil ?_
      exact ⟨m42z, lt43z, lacks - (((l2.take (Int.toNat r3)).drop s2).getD s 0), s + 1, _, upds_of _ _ ⟨rfl, rfl, rfl, rfl, rfl, rfl, rfl, rfl, rfl, rfl, rfl, rfl, rfl, trivial⟩, M.e_inl hM hN45z, H⟩
     ·replace hM := M.e_f hM c46z
      simp only [decide_eq_true_eq, decide_eq_false_iff_not, beq_iff_eq, bne_iff_ne, beq_eq_false_iff_ne, bne_eq_false_iff_eq, ne_eq, Decidable.not_not] at c46z
      refine W.exit ?_
      have hX49z := M.e_inr hM hN45z
      subst hX49z
      replace hM := hk38z
      try dsimp only at hM
      refine W.region rfl ?_
      refine s_val (x_mv (v := .func (.func 81) #[] #[.pointer (some ⟨b_2, 0, none⟩)]) rfl) ?_
      refine s_val (x_mv (v := I r3) rfl) ?_
      obtain ⟨sd50z, hM⟩ := M.e_grd hM
      simp only [Bool.and_eq_true, decide_eq_true_eq] at sd50z
      refine s_val (x_ari (a := r3) (b := 1) (r := r3 - 1) rfl rfl rfl (by omega)) ?_
      refine s_val (x_mv (v := I lacks) rfl) ?_
      refine t_bs (α := Int) T27 [I lacks] [(lacks : Int)] H rfl (.cons rfl (Flat.rep_enc _ (lacks : Int)) <| .nil) rfl rfl rfl ?_
      intro v51z w52z H
      obtain ⟨r54z, hx53z, hM⟩ := M.e_bind hM
      refine s_call cf80 [v51z] rfl (often_greatest_ok ([(lacks : Int)]) (Reads.of (k := 0) rfl ownLe) (ownSl (H.get (k := 0) rfl)) hx53z _ (St.give (T := [cOwn (α := Int) 3 v51z ([(lacks : Int)]), cBlk b_3 [I ((l.getD s2 default).day), I ((l.getD s2 default).stage)] 72, cBlk b_2 [v_l2] 27, cOwn (α := Int) 3 v_l2 l2]) H rfl)) ?_
      rintro vq w55z ⟨r4, hr56z, hvq, H2_⟩
      subst hr56z
      subst vq
      try dsimp only at hM
      replace H : St w w55z [cOwn (α := Int) 3 v51z ([(lacks : Int)]), cBlk b_3 [I ((l.getD s2 default).day), I ((l.getD s2 default).stage)] 72, cBlk b_2 [v_l2] 27, cOwn (α := Int) 3 v_l2 l2] R := H.back H2_ rfl
      clear H2_
      obtain ⟨r58z, hx57z, hM⟩ := M.e_bind hM
      refine s_callv (f := 81) rfl cf81 [I (r3 - 1), I r4] rfl (often_Dues_1_ok (r3 - 1) r4 l2 hx57z _ (St.give (L := [cOwn (α := Int) 3 v_l2 l2, cBlk b_2 [v_l2] 27, cOwn (α := Int) 3 v51z ([(lacks : Int)]), cBlk b_3 [I ((l.getD s2 default).day), I ((l.getD s2 default).stage)] 72]) (A := [cOwn (α := Int) 3 v_l2 l2, cBlk b_2 [v_l2] 27]) (T := [cOwn (α := Int) 3 v51z ([(lacks : Int)]), cBlk b_3 [I ((l.getD s2 default).day), I ((l.getD s2 default).stage)] 72]) (H.pick [3, 2, 0, 1] (by decide) rfl) rfl)) ?_
      rintro vq w59z ⟨l_k02, u0_5, hr60z, hvq, H2_⟩
      subst hr60z
      subst vq
      try dsimp only at hM
      replace H : St w w59z [cOwn (α := Int) 3 u0_5 l_k02, cBlk b_2 [u0_5] 27, cOwn (α := Int) 3 v51z ([(lacks : Int)]), cBlk b_3 [I ((l.getD s2 default).day), I ((l.getD s2 default).stage)] 72] R := H.pick [3, 2, 0, 1] (by decide) rfl |>.back H2_ rfl
      clear H2_
      refine s_nil ?_
      refine W.region rfl ?_
      refine s_val (x_ari (a := (s2 : Int)) (b := 1) (r := (s2 : Int) + 1) rfl rfl rfl (by omega)) ?_
      refine s_val (x_mv (v := I ((s2 : Int) + 1)) rfl) ?_
      refine s_nil ?_
      exact ⟨m19z, lt20z, l_k02, s2 + 1, u0_5, _, upds_of _ _ ⟨rfl, rfl, rfl, rfl, rfl, rfl, rfl, rfl, trivial⟩, M.e_inl hM hN22z, (H.pick [1, 0] (by decide) rfl)⟩
   ·replace hM := M.e_f hM c23z
    simp only [decide_eq_true_eq, decide_eq_false_iff_not, beq_iff_eq, bne_iff_ne, beq_eq_false_iff_ne, bne_eq_false_iff_eq, ne_eq, Decidable.not_not] at c23z
    refine W.exit ?_
    have hX61z := M.e_inr hM hN22z
    subst hX61z
    replace hM := hk15z
    try dsimp only at hM
    refine W.seq ?_
    refine W.region rfl ?_
    refine s_val (x_ld (p := .pointer (some ⟨b_2, 0, none⟩)) (v := v_l2) rfl (ldb_sc Sc27 (H.blk (k := 0) rfl) rfl)) ?_
    refine s_val (x_as (v := v_l2) rfl) ?_
    refine s_val (x_as (v := I 0) rfl) ?_
    refine s_nil ?_
    refine W.ret ?_
    have hr_ := M.e_pure hM
    exact ⟨_, resE_tmp2 rfl, ⟨l2, 0, v_l2, hr_, rfl, (H.pick [1] (by decide) rfl)⟩⟩

def m_nilometerref10_Proves_b0 (dues : List Int) : (Int × Nat) → M ((Int × Nat) ⊕ (Unit ⊕ Int)) := fun (sum, i) =>
  bif decide ((i : Int) < (dues.length : Int)) then (
  M.grd (decide ((i : Int) < (dues.length : Int))) <|
  M.bind (m_nilometerref10_outside (dues.getD i 0) 0 2000) fun r3 =>
  bif r3 then (
  M.pure (.inr (.inl ())))
  else (
  M.grd (decide ((-9223372036854775808 : Int) ≤ (sum + (dues.getD i 0))) && decide ((sum + (dues.getD i 0)) ≤ (9223372036854775807 : Int))) <|
  M.pure (.inl (sum + (dues.getD i 0), i + 1))))
  else (
  M.pure (.inr (.inr sum)))
def m_nilometerref10_Proves_b2 (l : List Pk) (apart : Int) (dues : List Int) (i2 : Nat) : (Int × Nat) → M ((Int × Nat) ⊕ Int) := fun (has, k) =>
  bif decide ((k : Int) < (l.length : Int)) then (
  M.grd (decide ((k : Int) < (l.length : Int))) <|
  M.grd (decide ((i2 : Int) < (l.length : Int))) <|
  M.grd ((!(decide (((l.getD i2 default).day) ≤ ((l.getD k default).day))) || (decide ((-9223372036854775808 : Int) ≤ (((l.getD i2 default).day) + apart)) && decide ((((l.getD i2 default).day) + apart) ≤ (9223372036854775807 : Int))))) <|
  M.grd ((!(decide (((l.getD i2 default).day) ≤ ((l.getD k default).day))) || (decide ((-9223372036854775808 : Int) ≤ ((((l.getD i2 default).day) + apart) - 1)) && decide (((((l.getD i2 default).day) + apart) - 1) ≤ (9223372036854775807 : Int))))) <|
  bif ((decide (((l.getD i2 default).day) ≤ ((l.getD k default).day))) && (decide (((l.getD k default).day) ≤ ((((l.getD i2 default).day) + apart) - 1)))) then (
  M.grd (decide ((k : Int) < (dues.length : Int))) <|
  M.grd (decide ((-9223372036854775808 : Int) ≤ (has + (dues.getD k 0))) && decide ((has + (dues.getD k 0)) ≤ (9223372036854775807 : Int))) <|
  M.pure (.inl (has + (dues.getD k 0), k + 1)))
  else (
  M.pure (.inl (has, k + 1))))
  else (
  M.pure (.inr has))
def m_nilometerref10_Proves_b3 (l : List Pk) (apart : Int) (threshold : Int) (dues : List Int) : Nat → M (Nat ⊕ (Unit ⊕ Unit)) := fun i2 =>
  bif decide ((i2 : Int) < (l.length : Int)) then (
  M.bind (M.iter (m_nilometerref10_Proves_b2 l apart dues i2) (0, 0)) fun has2 =>
  M.grd (decide ((i2 : Int) < (l.length : Int))) <|
  M.grd ((!(decide (threshold < ((l.getD i2 default).stage))) || (decide ((-9223372036854775808 : Int) ≤ (((l.getD i2 default).stage) - threshold)) && decide ((((l.getD i2 default).stage) - threshold) ≤ (9223372036854775807 : Int))))) <|
  bif ((decide (threshold < ((l.getD i2 default).stage))) && (decide (has2 < (((l.getD i2 default).stage) - threshold)))) then (
  M.pure (.inr (.inl ())))
  else (
  M.pure (.inl (i2 + 1))))
  else (
  M.pure (.inr (.inr ())))
def m_nilometerref10_Proves (l : List Pk) (apart : Int) (threshold : Int) (worth : Int) (dues : List Int) : M (Bool × Int) :=
  M.bind (m_nilometerref10_asked l apart threshold) fun r2 =>
  bif r2 != 0 then (
  M.pure (false, r2))
  else (
  bif (dues.length : Int) != (l.length : Int) then (
  M.pure (false, 2))
  else (
  M.bind (M.iter (m_nilometerref10_Proves_b0 dues) (0, 0)) fun x_ => match x_ with
  | (.inl (_ : Unit)) => (
  M.pure (false, 4))
  | (.inr sum2) => (
  M.bind (M.iter (m_nilometerref10_Proves_b3 l apart threshold dues) 0) fun x_ => match x_ with
  | (.inl (_ : Unit)) => (
  M.pure (false, 0))
  | (.inr (_ : Unit)) => (
  M.pure ((decide (sum2 ≤ worth)), 0)))))
set_option maxRecDepth 100000 in
set_option maxHeartbeats 16000000 in
theorem nilometerref10_Proves_ok {R : List Chunk} {C_l : Cells} {v_l : Value} {C_dues : Cells} {v_dues : Value} (l : List Pk) (apart : Int) (threshold : Int) (worth : Int) (dues : List Int) (hC_l : Reads R C_l) (hs_l : Sl C_l v_l l) (hC_dues : Reads R C_dues) (hs_dues : Sl C_dues v_dues dues) {r : (Bool × Int)} (hM : (m_nilometerref10_Proves l apart threshold worth dues).Ends r) (w : World) (H : St w w [] R) : Ret Try.prog 40 #[v_l, I apart, I threshold, I worth, v_dues] w fun v w' => ∃ (y0 : Bool) (y1 : Int), (y0, y1) = r ∧ v = .tuple #[B y0, I y1] ∧ St w w' [] R := by
 refine ret_of_W Try.func40 rfl rfl rfl ?_
 refine W.seq ?_
 refine W.region rfl ?_
 refine s_val (x_as (v := B false) rfl) ?_
 refine s_val (x_as (v := I 0) rfl) ?_
 refine s_nil ?_
 refine W.seq ?_
 refine W.seq ?_
 refine W.region rfl ?_
 refine s_val (x_mv (v := v_l) rfl) ?_
 refine s_val (x_mv (v := I apart) rfl) ?_
 refine s_val (x_mv (v := I threshold) rfl) ?_
 obtain ⟨r2z, hx1z, hM⟩ := M.e_bind hM
 refine s_call cf74 [v_l, I apart, I threshold] rfl (nilometerref10_asked_ok l apart threshold (hC_l.app _) hs_l hx1z _ (St.give (T := []) H rfl)) ?_
 rintro vq w3z ⟨r2, hr4z, hvq, H2_⟩
 subst hr4z
 subst vq
 try dsimp only at hM
 replace H : St w w3z [] R := H.back H2_ rfl
 clear H2_
 refine s_val (x_as (v := I r2) rfl) ?_
 refine s_nil ?_
 refine W.seq ?_
 refine W.region rfl ?_
 refine s_val (x_mv (v := I r2) rfl) ?_
 refine s_val (x_cmp (kd := .i64) (a := r2) (b := 0) (r := r2 != 0) rfl rfl rfl) ?_
 refine s_nil ?_
 refine W.cond (r2 != 0) rfl (fun c5z => ?_) (fun c5z => ?_)
 ·replace hM := M.e_t hM c5z
  simp only [decide_eq_true_eq, decide_eq_false_iff_not, beq_iff_eq, bne_iff_ne, beq_eq_false_iff_ne, bne_eq_false_iff_eq, ne_eq, Decidable.not_not] at c5z
  refine W.seq ?_
  refine W.region rfl ?_
  refine s_val (x_mv (v := I r2) rfl) ?_
  refine s_val (x_as (v := B false) rfl) ?_
  refine s_val (x_as (v := I r2) rfl) ?_
  refine s_nil ?_
  refine W.ret ?_
  have hr_ := M.e_pure hM
  exact ⟨_, resE_tmp2 rfl, ⟨false, r2, hr_, rfl, H⟩⟩
 ·replace hM := M.e_f hM c5z
  simp only [decide_eq_true_eq, decide_eq_false_iff_not, beq_iff_eq, bne_iff_ne, beq_eq_false_iff_ne, bne_eq_false_iff_eq, ne_eq, Decidable.not_not] at c5z
  refine W.skip ?_
  refine W.seq ?_
  refine W.seq ?_
  refine W.region rfl ?_
  refine s_val (x_mv (v := v_dues) rfl) ?_
  have hl6z := (hs_dues).len_le
  refine s_val (x_lenS T27.und rfl hs_dues) ?_
  refine s_val (x_mv (v := v_l) rfl) ?_
  have hl7z := (hs_l).len_le
  refine s_val (x_lenS T74.und rfl hs_l) ?_
  refine s_val (x_cmp (kd := .i64) (a := (dues.length : Int)) (b := (l.length : Int)) (r := (dues.length : Int) != (l.length : Int)) rfl rfl rfl) ?_
  refine s_nil ?_
  refine W.cond ((dues.length : Int) != (l.length : Int)) rfl (fun c8z => ?_) (fun c8z => ?_)
  ·replace hM := M.e_t hM c8z
   simp only [decide_eq_true_eq, decide_eq_false_iff_not, beq_iff_eq, bne_iff_ne, beq_eq_false_iff_ne, bne_eq_false_iff_eq, ne_eq, Decidable.not_not] at c8z
   refine W.seq ?_
   refine W.region rfl ?_
   refine s_val (x_as (v := B false) rfl) ?_
   refine s_val (x_as (v := I 2) rfl) ?_
   refine s_nil ?_
   refine W.ret ?_
   have hr_ := M.e_pure hM
   exact ⟨_, resE_tmp2 rfl, ⟨false, 2, hr_, rfl, H⟩⟩
  ·replace hM := M.e_f hM c8z
   simp only [decide_eq_true_eq, decide_eq_false_iff_not, beq_iff_eq, bne_iff_ne, beq_eq_false_iff_ne, bne_eq_false_iff_eq, ne_eq, Decidable.not_not] at c8z
   refine W.skip ?_
   refine W.seq ?_
   refine W.region rfl ?_
   refine s_val (x_as (v := I 0) rfl) ?_
   refine s_nil ?_
   refine W.seq ?_
   refine W.seq ?_
   refine W.region rfl ?_
   refine s_val (x_as (v := I 0) rfl) ?_
   refine s_nil ?_
   refine W.block ?_
   obtain ⟨ex9z, hi10z, hk11z⟩ := M.e_bind hM
   obtain ⟨m0_, hi10z⟩ := M.e_iter hi10z
   refine W.loop (fun m σ W => ∃ (sum : Int) (i : Nat) (ρ : Env), σ = upds ρ [(0, v_l), (1, I apart), (2, I threshold), (3, I worth), (4, v_dues), (13, I sum), (14, I (i : Int))] ∧ M.iterN (m_nilometerref10_Proves_b0 dues) m (sum, i) = some ex9z ∧ St w W [] R) ?_ ?_
   ·exact ⟨_, 0, 0, _, upds_of _ _ ⟨rfl, rfl, rfl, rfl, rfl, rfl, rfl, trivial⟩, hi10z, H⟩
   ·rintro m14z σ w12z ⟨sum, i, ρ, rfl, hI13z, H⟩
    obtain ⟨m15z, lt16z, x17z, hM, hN18z⟩ := M.e_iterN hI13z
    simp only [m_nilometerref10_Proves_b0] at hM
    clear hI13z
    refine W.seq ?_
    refine W.seq ?_
    refine W.region rfl ?_
    refine s_val (x_mv (v := I (i : Int)) rfl) ?_
    refine s_val (x_mv (v := v_dues) rfl) ?_
    have hl19z := (hs_dues).len_le
    refine s_val (x_lenS T27.und rfl hs_dues) ?_
    refine s_val (x_cmp (kd := .i64) (a := (i : Int)) (b := (dues.length : Int)) (r := decide ((i : Int) < (dues.length : Int))) rfl rfl rfl) ?_
    refine s_nil ?_
    refine W.cond (decide ((i : Int) < (dues.length : Int))) rfl (fun c20z => ?_) (fun c20z => ?_)
    ·replace hM := M.e_t hM c20z
     simp only [decide_eq_true_eq, decide_eq_false_iff_not, beq_iff_eq, bne_iff_ne, beq_eq_false_iff_ne, bne_eq_false_iff_eq, ne_eq, Decidable.not_not] at c20z
     refine W.skip ?_
     refine W.seq ?_
     refine W.block ?_
     refine W.seq ?_
     refine W.seq ?_
     refine W.region rfl ?_
     refine s_val (x_mv (v := v_dues) rfl) ?_
     refine s_val (x_mv (v := I (i : Int)) rfl) ?_
     obtain ⟨sd21z, hM⟩ := M.e_grd hM
     simp only [Bool.and_eq_true, decide_eq_true_eq] at sd21z
     refine s_val (x_ix (a := v_dues) (b := I (i : Int)) (v := vat v_dues 1 (Int.toNat (i : Int))) rfl rfl (Sl.ix (α := Int) T27.und T27.size hs_dues (by omega) (by omega))) ?_
     refine s_val (x_ld (p := vat v_dues 1 (Int.toNat (i : Int))) (v := I (dues.getD i 0)) rfl (ld_sc Sc3 (At.mono (Int_at hs_dues (i := (i : Int)) (by omega) (by omega)) (hC_dues.at H)))) ?_
     obtain ⟨r23z, hx22z, hM⟩ := M.e_bind hM
     refine s_call cf67 [I (dues.getD i 0), I 0, I 2000] rfl (nilometerref10_outside_ok (dues.getD i 0) 0 2000 hx22z _ (St.give (T := []) H rfl)) ?_
     rintro vq w24z ⟨r3, hr25z, hvq, H2_⟩
     subst hr25z
     subst vq
     try dsimp only at hM
     replace H : St w w24z [] R := H.back H2_ rfl
     clear H2_
     refine s_nil ?_
     refine W.cond r3 rfl (fun c26z => ?_) (fun c26z => ?_)
     ·replace hM := M.e_t hM c26z
      refine W.seq ?_
      refine W.region rfl ?_
      refine s_val (x_as (v := B false) rfl) ?_
      refine s_val (x_as (v := I 4) rfl) ?_
      refine s_nil ?_
      refine W.ret ?_
      have hX27z := M.e_inr hM hN18z
      subst hX27z
      replace hM := hk11z
      try dsimp only at hM
      have hr_ := M.e_pure hM
      exact ⟨_, resE_tmp2 rfl, ⟨false, 4, hr_, rfl, H⟩⟩
     ·replace hM := M.e_f hM c26z
      refine W.skip ?_
      refine W.region rfl ?_
      refine s_val (x_mv (v := I sum) rfl) ?_
      refine s_val (x_mv (v := v_dues) rfl) ?_
      refine s_val (x_mv (v := I (i : Int)) rfl) ?_
      refine s_val (x_ix (a := v_dues) (b := I (i : Int)) (v := vat v_dues 1 (Int.toNat (i : Int))) rfl rfl (Sl.ix (α := Int) T27.und T27.size hs_dues (by omega) (by omega))) ?_
      refine s_val (x_ld (p := vat v_dues 1 (Int.toNat (i : Int))) (v := I (dues.getD i 0)) rfl (ld_sc Sc3 (At.mono (Int_at hs_dues (i := (i : Int)) (by omega) (by omega)) (hC_dues.at H)))) ?_
      obtain ⟨sd28z, hM⟩ := M.e_grd hM
      simp only [Bool.and_eq_true, decide_eq_true_eq] at sd28z
      refine s_val (x_ari (a := sum) (b := dues.getD i 0) (r := sum + (dues.getD i 0)) rfl rfl rfl (by omega)) ?_
      refine s_val (x_as (v := I (sum + (dues.getD i 0))) rfl) ?_
      refine s_nil ?_
      refine W.region rfl ?_
      refine s_val (x_mv (v := I (i : Int)) rfl) ?_
      refine s_val (x_ari (a := (i : Int)) (b := 1) (r := (i : Int) + 1) rfl rfl rfl (by omega)) ?_
      refine s_val (x_as (v := I ((i : Int) + 1)) rfl) ?_
      refine s_nil ?_
      exact ⟨m15z, lt16z, sum + (dues.getD i 0), i + 1, _, upds_of _ _ ⟨rfl, rfl, rfl, rfl, rfl, rfl, rfl, trivial⟩, M.e_inl hM hN18z, H⟩
    ·replace hM := M.e_f hM c20z
     simp only [decide_eq_true_eq, decide_eq_false_iff_not, beq_iff_eq, bne_iff_ne, beq_eq_false_iff_ne, bne_eq_false_iff_eq, ne_eq, Decidable.not_not] at c20z
     refine W.exit ?_
     have hX29z := M.e_inr hM hN18z
     subst hX29z
     replace hM := hk11z
     try dsimp only at hM
     refine W.seq ?_
     refine W.seq ?_
     refine W.region rfl ?_
     refine s_val (x_as (v := I 0) rfl) ?_
     refine s_nil ?_
     refine W.block ?_
     obtain ⟨ex30z, hi31z, hk32z⟩ := M.e_bind hM
     obtain ⟨m0_, hi31z⟩ := M.e_iter hi31z
     refine W.loop (fun m σ W => ∃ (i2 : Nat) (ρ : Env), σ = upds ρ [(0, v_l), (1, I apart), (2, I threshold), (3, I worth), (4, v_dues), (13, I sum), (15, I (i2 : Int))] ∧ M.iterN (m_nilometerref10_Proves_b3 l apart threshold dues) m i2 = some ex30z ∧ St w W [] R) ?_ ?_
     ·exact ⟨_, 0, _, upds_of _ _ ⟨rfl, rfl, rfl, rfl, rfl, rfl, rfl, trivial⟩, hi31z, H⟩
     ·rintro m35z σ w33z ⟨i2, ρ, rfl, hI34z, H⟩
      obtain ⟨m36z, lt37z, x38z, hM, hN39z⟩ := M.e_iterN hI34z
      simp only [m_nilometerref10_Proves_b3] at hM
      clear hI34z
      refine W.seq ?_
      refine W.seq ?_
      refine W.region rfl ?_
      refine s_val (x_mv (v := I (i2 : Int)) rfl) ?_
      refine s_val (x_mv (v := v_l) rfl) ?_
      have hl40z := (hs_l).len_le
      refine s_val (x_lenS T74.und rfl hs_l) ?_
      refine s_val (x_cmp (kd := .i64) (a := (i2 : Int)) (b := (l.length : Int)) (r := decide ((i2 : Int) < (l.length : Int))) rfl rfl rfl) ?_
      refine s_nil ?_
      refine W.cond (decide ((i2 : Int) < (l.length : Int))) rfl (fun c41z => ?_) (fun c41z => ?_)
      ·replace hM := M.e_t hM c41z
       simp only [decide_eq_true_eq, decide_eq_false_iff_not, beq_iff_eq, bne_iff_ne, beq_eq_false_iff_ne, bne_eq_false_iff_eq, ne_eq, Decidable.not_not] at c41z
       refine W.skip ?_
       refine W.seq ?_
       refine W.block ?_
       refine W.seq ?_
       refine W.region rfl ?_
       refine s_val (x_as (v := I 0) rfl) ?_
       refine s_nil ?_
       refine W.seq ?_
       refine W.seq ?_
       refine W.region rfl ?_
       refine s_val (x_as (v := I 0) rfl) ?_
       refine s_nil ?_
       refine W.block ?_
       obtain ⟨ex42z, hi43z, hk44z⟩ := M.e_bind hM
       obtain ⟨m0_, hi43z⟩ := M.e_iter hi43z
       refine W.loop (fun m σ W => ∃ (has : Int) (k : Nat) (ρ : Env), σ = upds ρ [(0, v_l), (1, I apart), (2, I threshold), (3, I worth), (4, v_dues), (13, I sum), (15, I (i2 : Int)), (16, I has), (17, I (k : Int))] ∧ M.iterN (m_nilometerref10_Proves_b2 l apart dues i2) m (has, k) = some ex42z ∧ St w W [] R) ?_ ?_
       ·exact ⟨_, 0, 0, _, upds_of _ _ ⟨rfl, rfl, rfl, rfl, rfl, rfl, rfl, rfl, rfl, trivial⟩, hi43z, H⟩
       ·rintro m47z σ w45z ⟨has, k, ρ, rfl, hI46z, H⟩
        obtain ⟨m48z, lt49z, x50z, hM, hN51z⟩ := M.e_iterN hI46z
        simp only [m_nilometerref10_Proves_b2] at hM
        clear hI46z
        refine W.seq ?_
        refine W.seq ?_
        refine W.region rfl ?_
        refine s_val (x_mv (v := I (k : Int)) rfl) ?_
        refine s_val (x_mv (v := v_l) rfl) ?_
        have hl52z := (hs_l).len_le
        refine s_val (x_lenS T74.und rfl hs_l) ?_
        refine s_val (x_cmp (kd := .i64) (a := (k : Int)) (b := (l.length : Int)) (r := decide ((k : Int) < (l.length : Int))) rfl rfl rfl) ?_
        refine s_nil ?_
        refine W.cond (decide ((k : Int) < (l.length : Int))) rfl (fun c53z => ?_) (fun c53z => ?_)
        ·replace hM := M.e_t hM c53z
         simp only [decide_eq_true_eq, decide_eq_false_iff_not, beq_iff_eq, bne_iff_ne, beq_eq_false_iff_ne, bne_eq_false_iff_eq, ne_eq, Decidable.not_not] at c53z
         refine W.skip ?_
         refine W.seq ?_
         refine W.block ?_
         refine W.seq ?_
         refine W.draw (fun W => St w W [] R) [(0, true), (1, true), (2, true), (3, true), (4, true), (5, true), (6, true), (7, true), (8, true), (9, true), (10, true), (11, true), (12, true), (13, true), (14, true), (15, true), (16, true), (17, true), (18, true), (19, true), (20, true), (21, true), (22, true), (23, true), (24, true), (25, true), (26, true)] mixed (by decide +kernel) rfl ?_
         intro w54z hx_
         replace H : St w w54z [] R := H.ext hx_
         clear hx_
         refine ⟨(H.pick [] (by decide) rfl), ?_⟩
         refine d_q rfl (fun w' H => x_mv (v := v_l) rfl) ?_
         refine d_q rfl (fun w' H => x_mv (v := I (k : Int)) rfl) ?_
         obtain ⟨sd55z, hM⟩ := M.e_grd hM
         simp only [Bool.and_eq_true, decide_eq_true_eq] at sd55z
         refine d_q rfl (fun w' H => x_ix (a := v_l) (b := I (k : Int)) (v := vat v_l 2 (Int.toNat (k : Int))) rfl rfl (Sl.ix (α := Pk) T74.und T74.size hs_l (by omega) (by omega))) ?_
         refine d_q rfl (fun w' H => x_fa (a := vat v_l 2 (Int.toNat (k : Int))) (v := fat (vat v_l 2 (Int.toNat (k : Int))) 0) rfl (fa_pl Fd135_0 Sz3 (Sl.pl (i := (k : Int)) hs_l (by omega) (by omega)))) ?_
         refine d_q rfl (fun w' H => x_ld (p := fat (vat v_l 2 (Int.toNat (k : Int))) 0) (v := I ((l.getD k default).day)) rfl (ld_sc Sc3 (At.mono (Pk_at0 hs_l (i := (k : Int)) (by omega) (by omega)) (hC_l.at H)))) ?_
         refine d_q rfl (fun w' H => x_mv (v := v_l) rfl) ?_
         refine d_q rfl (fun w' H => x_mv (v := I (i2 : Int)) rfl) ?_
         obtain ⟨sd56z, hM⟩ := M.e_grd hM
         simp only [Bool.and_eq_true, decide_eq_true_eq] at sd56z
         refine d_q rfl (fun w' H => x_ix (a := v_l) (b := I (i2 : Int)) (v := vat v_l 2 (Int.toNat (i2 : Int))) rfl rfl (Sl.ix (α := Pk) T74.und T74.size hs_l (by omega) (by omega))) ?_
         refine d_q rfl (fun w' H => x_fa (a := vat v_l 2 (Int.toNat (i2 : Int))) (v := fat (vat v_l 2 (Int.toNat (i2 : Int))) 0) rfl (fa_pl Fd135_0 Sz3 (Sl.pl (i := (i2 : Int)) hs_l (by omega) (by omega)))) ?_
         refine d_q rfl (fun w' H => x_ld (p := fat (vat v_l 2 (Int.toNat (i2 : Int))) 0) (v := I ((l.getD i2 default).day)) rfl (ld_sc Sc3 (At.mono (Pk_at0 hs_l (i := (i2 : Int)) (by omega) (by omega)) (hC_l.at H)))) ?_
         refine d_q rfl (fun w' H => x_cmp (kd := .i64) (a := (l.getD k default).day) (b := (l.getD i2 default).day) (r := decide (((l.getD i2 default).day) ≤ ((l.getD k default).day))) rfl rfl rfl) ?_
         refine d_q rfl (fun w' H => x_mv (v := B (decide (((l.getD i2 default).day) ≤ ((l.getD k default).day)))) rfl) ?_
         refine d_qg (decide (((l.getD i2 default).day) ≤ ((l.getD k default).day))) rfl (gy_t rfl) (fun hg => (fun w' H => x_mv (v := v_l) rfl)) ?_
         refine d_qg (decide (((l.getD i2 default).day) ≤ ((l.getD k default).day))) rfl (gy_t rfl) (fun hg => (fun w' H => x_mv (v := I (k : Int)) rfl)) ?_
         refine d_qg (decide (((l.getD i2 default).day) ≤ ((l.getD k default).day))) rfl (gy_t rfl) (fun hg => (fun w' H => x_ix (a := v_l) (b := I (k : Int)) (v := vat v_l 2 (Int.toNat (k : Int))) (gd_of (c := decide (((l.getD i2 default).day) ≤ ((l.getD k default).day))) hg (v_l)) (gd_of (c := decide (((l.getD i2 default).day) ≤ ((l.getD k default).day))) hg (I (k : Int))) (Sl.ix (α := Pk) T74.und T74.size hs_l (by first | omega | (have hx_ := hg; simp at hx_; omega)) (by first | omega | (have hx_ := hg; simp at hx_; omega))))) ?_
         refine d_qg (decide (((l.getD i2 default).day) ≤ ((l.getD k default).day))) rfl (gy_t rfl) (fun hg => (fun w' H => x_fa (a := vat v_l 2 (Int.toNat (k : Int))) (v := fat (vat v_l 2 (Int.toNat (k : Int))) 0) (gd_of (c := decide (((l.getD i2 default).day) ≤ ((l.getD k default).day))) hg (vat v_l 2 (Int.toNat (k : Int)))) (fa_pl Fd135_0 Sz3 (Sl.pl (i := (k : Int)) hs_l (by first | omega | (have hx_ := hg; simp at hx_; omega)) (by first | omega | (have hx_ := hg; simp at hx_; omega)))))) ?_
         refine d_qg (decide (((l.getD i2 default).day) ≤ ((l.getD k default).day))) rfl (gy_t rfl) (fun hg => (fun w' H => x_ld (p := fat (vat v_l 2 (Int.toNat (k : Int))) 0) (v := I ((l.getD k default).day)) (gd_of (c := decide (((l.getD i2 default).day) ≤ ((l.getD k default).day))) hg (fat (vat v_l 2 (Int.toNat (k : Int))) 0)) (ld_sc Sc3 (At.mono (Pk_at0 hs_l (i := (k : Int)) (by first | omega | (have hx_ := hg; simp at hx_; omega)) (by first | omega | (have hx_ := hg; simp at hx_; omega))) (hC_l.at H))))) ?_
         refine d_qg (decide (((l.getD i2 default).day) ≤ ((l.getD k default).day))) rfl (gy_t rfl) (fun hg => (fun w' H => x_mv (v := v_l) rfl)) ?_
         refine d_qg (decide (((l.getD i2 default).day) ≤ ((l.getD k default).day))) rfl (gy_t rfl) (fun hg => (fun w' H => x_mv (v := I (i2 : Int)) rfl)) ?_
         refine d_qg (decide (((l.getD i2 default).day) ≤ ((l.getD k default).day))) rfl (gy_t rfl) (fun hg => (fun w' H => x_ix (a := v_l) (b := I (i2 : Int)) (v := vat v_l 2 (Int.toNat (i2 : Int))) (gd_of (c := decide (((l.getD i2 default).day) ≤ ((l.getD k default).day))) hg (v_l)) (gd_of (c := decide (((l.getD i2 default).day) ≤ ((l.getD k default).day))) hg (I (i2 : Int))) (Sl.ix (α := Pk) T74.und T74.size hs_l (by first | omega | (have hx_ := hg; simp at hx_; omega)) (by first | omega | (have hx_ := hg; simp at hx_; omega))))) ?_
         refine d_qg (decide (((l.getD i2 default).day) ≤ ((l.getD k default).day))) rfl (gy_t rfl) (fun hg => (fun w' H => x_fa (a := vat v_l 2 (Int.toNat (i2 : Int))) (v := fat (vat v_l 2 (Int.toNat (i2 : Int))) 0) (gd_of (c := decide (((l.getD i2 default).day) ≤ ((l.getD k default).day))) hg (vat v_l 2 (Int.toNat (i2 : Int)))) (fa_pl Fd135_0 Sz3 (Sl.pl (i := (i2 : Int)) hs_l (by first | omega | (have hx_ := hg; simp at hx_; omega)) (by first | omega | (have hx_ := hg; simp at hx_; omega)))))) ?_
         refine d_qg (decide (((l.getD i2 default).day) ≤ ((l.getD k default).day))) rfl (gy_t rfl) (fun hg => (fun w' H => x_ld (p := fat (vat v_l 2 (Int.toNat (i2 : Int))) 0) (v := I ((l.getD i2 default).day)) (gd_of (c := decide (((l.getD i2 default).day) ≤ ((l.getD k default).day))) hg (fat (vat v_l 2 (Int.toNat (i2 : Int))) 0)) (ld_sc Sc3 (At.mono (Pk_at0 hs_l (i := (i2 : Int)) (by first | omega | (have hx_ := hg; simp at hx_; omega)) (by first | omega | (have hx_ := hg; simp at hx_; omega))) (hC_l.at H))))) ?_
         refine d_qg (decide (((l.getD i2 default).day) ≤ ((l.getD k default).day))) rfl (gy_t rfl) (fun hg => (fun w' H => x_mv (v := I apart) rfl)) ?_
         obtain ⟨sd57z, hM⟩ := M.e_grd hM
         replace sd57z := M.imp_of sd57z
         simp only [Bool.and_eq_true, decide_eq_true_eq] at sd57z
         refine d_qg (decide (((l.getD i2 default).day) ≤ ((l.getD k default).day))) rfl (gy_t rfl) (fun hg => (fun w' H => x_ari (a := (l.getD i2 default).day) (b := apart) (r := ((l.getD i2 default).day) + apart) (gd_of (c := decide (((l.getD i2 default).day) ≤ ((l.getD k default).day))) hg (I ((l.getD i2 default).day))) (gd_of (c := decide (((l.getD i2 default).day) ≤ ((l.getD k default).day))) hg (I apart)) rfl (by have h1_ := sd57z.resolve_left (by rw [hg]; decide); first | exact h1_ | exact h1_.1 | exact h1_.2 | omega | (have hx_ := hg; simp at hx_; omega)))) ?_
         obtain ⟨sd58z, hM⟩ := M.e_grd hM
         replace sd58z := M.imp_of sd58z
         simp only [Bool.and_eq_true, decide_eq_true_eq] at sd58z
         refine d_qg (decide (((l.getD i2 default).day) ≤ ((l.getD k default).day))) rfl (gy_t rfl) (fun hg => (fun w' H => x_ari (a := ((l.getD i2 default).day) + apart) (b := 1) (r := (((l.getD i2 default).day) + apart) - 1) (gd_of (c := decide (((l.getD i2 default).day) ≤ ((l.getD k default).day))) hg (I (((l.getD i2 default).day) + apart))) rfl rfl (by have h1_ := sd57z.resolve_left (by rw [hg]; decide); have h2_ := sd58z.resolve_left (by rw [hg]; decide); first | exact h1_ | exact h1_.1 | exact h1_.2 | exact h2_ | exact h2_.1 | exact h2_.2 | omega | (have hx_ := hg; simp at hx_; omega)))) ?_
         refine d_qg (decide (((l.getD i2 default).day) ≤ ((l.getD k default).day))) rfl (gy_t rfl) (fun hg => (fun w' H => x_cmp (kd := .i64) (a := (l.getD k default).day) (b := (((l.getD i2 default).day) + apart) - 1) (r := decide (((l.getD k default).day) ≤ ((((l.getD i2 default).day) + apart) - 1))) (gd_of (c := decide (((l.getD i2 default).day) ≤ ((l.getD k default).day))) hg (I ((l.getD k default).day))) (gd_of (c := decide (((l.getD i2 default).day) ≤ ((l.getD k default).day))) hg (I ((((l.getD i2 default).day) + apart) - 1))) rfl)) ?_
         refine d_q rfl (fun w' H => x_pand (b := decide (((l.getD i2 default).day) ≤ ((l.getD k default).day))) (r := decide (((l.getD k default).day) ≤ ((((l.getD i2 default).day) + apart) - 1))) rfl (fun hb => gd_of (c := decide (((l.getD i2 default).day) ≤ ((l.getD k default).day))) (by first | exact hb | (rw [hb]; rfl) | simp_all) (B (decide (((l.getD k default).day) ≤ ((((l.getD i2 default).day) + apart) - 1))))) rfl) ?_
         refine d_nil ?_
         refine W.cond ((decide (((l.getD i2 default).day) ≤ ((l.getD k default).day))) && (decide (((l.getD k default).day) ≤ ((((l.getD i2 default).day) + apart) - 1)))) rfl (fun c59z => ?_) (fun c59z => ?_)
         ·replace hM := M.e_t hM c59z
          refine W.region rfl ?_
          refine s_val (x_mv (v := I has) rfl) ?_
          refine s_val (x_mv (v := v_dues) rfl) ?_
          refine s_val (x_mv (v := I (k : Int)) rfl) ?_
          obtain ⟨sd60z, hM⟩ := M.e_grd hM
          simp only [Bool.and_eq_true, decide_eq_true_eq] at sd60z
          refine s_val (x_ix (a := v_dues) (b := I (k : Int)) (v := vat v_dues 1 (Int.toNat (k : Int))) rfl rfl (Sl.ix (α := Int) T27.und T27.size hs_dues (by omega) (by omega))) ?_
          refine s_val (x_ld (p := vat v_dues 1 (Int.toNat (k : Int))) (v := I (dues.getD k 0)) rfl (ld_sc Sc3 (At.mono (Int_at hs_dues (i := (k : Int)) (by omega) (by omega)) (hC_dues.at H)))) ?_
          obtain ⟨sd61z, hM⟩ := M.e_grd hM
          simp only [Bool.and_eq_true, decide_eq_true_eq] at sd61z
          refine s_val (x_ari (a := has) (b := dues.getD k 0) (r := has + (dues.getD k 0)) rfl rfl rfl (by omega)) ?_
          refine s_val (x_as (v := I (has + (dues.getD k 0))) rfl) ?_
          refine s_nil ?_
          refine W.region rfl ?_
          refine s_val (x_mv (v := I (k : Int)) rfl) ?_
          refine s_val (x_ari (a := (k : Int)) (b := 1) (r := (k : Int) + 1) rfl rfl rfl (by omega)) ?_
          refine s_val (x_as (v := I ((k : Int) + 1)) rfl) ?_
          refine s_nil ?_
          exact ⟨m48z, lt49z, has + (dues.getD k 0), k + 1, _, upds_of _ _ ⟨rfl, rfl, rfl, rfl, rfl, rfl, rfl, rfl, rfl, trivial⟩, M.e_inl hM hN51z, H⟩
         ·replace hM := M.e_f hM c59z
          refine W.skip ?_
          refine W.region rfl ?_
          refine s_val (x_mv (v := I (k : Int)) rfl) ?_
          refine s_val (x_ari (a := (k : Int)) (b := 1) (r := (k : Int) + 1) rfl rfl rfl (by omega)) ?_
          refine s_val (x_as (v := I ((k : Int) + 1)) rfl) ?_
          refine s_nil ?_
          exact ⟨m48z, lt49z, has, k + 1, _, upds_of _ _ ⟨rfl, rfl, rfl, rfl, rfl, rfl, rfl, rfl, rfl, trivial⟩, M.e_inl hM hN51z, H⟩
        ·replace hM := M.e_f hM c53z
         simp only [decide_eq_true_eq, decide_eq_false_iff_not, beq_iff_eq, bne_iff_ne, beq_eq_false_iff_ne, bne_eq_false_iff_eq, ne_eq, Decidable.not_not] at c53z
         refine W.exit ?_
         have hX62z := M.e_inr hM hN51z
         subst hX62z
         replace hM := hk44z
         try dsimp only at hM
         refine W.seq ?_
         refine W.region rfl ?_
         refine s_val (x_mv (v := v_l) rfl) ?_
         refine s_val (x_mv (v := I (i2 : Int)) rfl) ?_
         obtain ⟨sd63z, hM⟩ := M.e_grd hM
         simp only [Bool.and_eq_true, decide_eq_true_eq] at sd63z
         refine s_val (x_ix (a := v_l) (b := I (i2 : Int)) (v := vat v_l 2 (Int.toNat (i2 : Int))) rfl rfl (Sl.ix (α := Pk) T74.und T74.size hs_l (by omega) (by omega))) ?_
         refine s_val (x_fa (a := vat v_l 2 (Int.toNat (i2 : Int))) (v := fat (vat v_l 2 (Int.toNat (i2 : Int))) 1) rfl (fa_pl Fd135_1 Sz3 (Sl.pl (i := (i2 : Int)) hs_l (by omega) (by omega)))) ?_
         refine s_val (x_ld (p := fat (vat v_l 2 (Int.toNat (i2 : Int))) 1) (v := I ((l.getD i2 default).stage)) rfl (ld_sc Sc3 (At.mono (Pk_at1 hs_l (i := (i2 : Int)) (by omega) (by omega)) (hC_l.at H)))) ?_
         refine s_val (x_mv (v := I threshold) rfl) ?_
         refine s_val (x_cmp (kd := .i64) (a := (l.getD i2 default).stage) (b := threshold) (r := decide (threshold < ((l.getD i2 default).stage))) rfl rfl rfl) ?_
         refine s_val (x_mv (v := B (decide (threshold < ((l.getD i2 default).stage)))) rfl) ?_
         refine g_val (decide (threshold < ((l.getD i2 default).stage))) (gy_t rfl) (fun hg => x_mv (v := I has) rfl) ?_
         refine g_val (decide (threshold < ((l.getD i2 default).stage))) (gy_t rfl) (fun hg => x_mv (v := v_l) rfl) ?_
         refine g_val (decide (threshold < ((l.getD i2 default).stage))) (gy_t rfl) (fun hg => x_mv (v := I (i2 : Int)) rfl) ?_
         refine g_val (decide (threshold < ((l.getD i2 default).stage))) (gy_t rfl) (fun hg => x_ix (a := v_l) (b := I (i2 : Int)) (v := vat v_l 2 (Int.toNat (i2 : Int))) (gd_of (c := decide (threshold < ((l.getD i2 default).stage))) hg (v_l)) (gd_of (c := decide (threshold < ((l.getD i2 default).stage))) hg (I (i2 : Int))) (Sl.ix (α := Pk) T74.und T74.size hs_l (by first | omega | (have hx_ := hg; simp at hx_; omega)) (by first | omega | (have hx_ := hg; simp at hx_; omega)))) ?_
         refine g_val (decide (threshold < ((l.getD i2 default).stage))) (gy_t rfl) (fun hg => x_fa (a := vat v_l 2 (Int.toNat (i2 : Int))) (v := fat (vat v_l 2 (Int.toNat (i2 : Int))) 1) (gd_of (c := decide (threshold < ((l.getD i2 default).stage))) hg (vat v_l 2 (Int.toNat (i2 : Int)))) (fa_pl Fd135_1 Sz3 (Sl.pl (i := (i2 : Int)) hs_l (by first | omega | (have hx_ := hg; simp at hx_; omega)) (by first | omega | (have hx_ := hg; simp at hx_; omega))))) ?_
         refine g_val (decide (threshold < ((l.getD i2 default).stage))) (gy_t rfl) (fun hg => x_ld (p := fat (vat v_l 2 (Int.toNat (i2 : Int))) 1) (v := I ((l.getD i2 default).stage)) (gd_of (c := decide (threshold < ((l.getD i2 default).stage))) hg (fat (vat v_l 2 (Int.toNat (i2 : Int))) 1)) (ld_sc Sc3 (At.mono (Pk_at1 hs_l (i := (i2 : Int)) (by first | omega | (have hx_ := hg; simp at hx_; omega)) (by first | omega | (have hx_ := hg; simp at hx_; omega))) (hC_l.at H)))) ?_
         refine g_val (decide (threshold < ((l.getD i2 default).stage))) (gy_t rfl) (fun hg => x_mv (v := I threshold) rfl) ?_
         obtain ⟨sd64z, hM⟩ := M.e_grd hM
         replace sd64z := M.imp_of sd64z
         simp only [Bool.and_eq_true, decide_eq_true_eq] at sd64z
         refine g_val (decide (threshold < ((l.getD i2 default).stage))) (gy_t rfl) (fun hg => x_ari (a := (l.getD i2 default).stage) (b := threshold) (r := ((l.getD i2 default).stage) - threshold) (gd_of (c := decide (threshold < ((l.getD i2 default).stage))) hg (I ((l.getD i2 default).stage))) (gd_of (c := decide (threshold < ((l.getD i2 default).stage))) hg (I threshold)) rfl (by have h1_ := sd64z.resolve_left (by rw [hg]; decide); first | exact h1_ | exact h1_.1 | exact h1_.2 | omega | (have hx_ := hg; simp at hx_; omega))) ?_
         refine g_val (decide (threshold < ((l.getD i2 default).stage))) (gy_t rfl) (fun hg => x_cmp (kd := .i64) (a := has) (b := ((l.getD i2 default).stage) - threshold) (r := decide (has < (((l.getD i2 default).stage) - threshold))) (gd_of (c := decide (threshold < ((l.getD i2 default).stage))) hg (I has)) (gd_of (c := decide (threshold < ((l.getD i2 default).stage))) hg (I (((l.getD i2 default).stage) - threshold))) rfl) ?_
         refine s_val (x_pand (b := decide (threshold < ((l.getD i2 default).stage))) (r := decide (has < (((l.getD i2 default).stage) - threshold))) rfl (fun hb => gd_of (c := decide (threshold < ((l.getD i2 default).stage))) (by first | exact hb | (rw [hb]; rfl) | simp_all) (B (decide (has < (((l.getD i2 default).stage) - threshold))))) rfl) ?_
         refine s_nil ?_
         refine W.cond ((decide (threshold < ((l.getD i2 default).stage))) && (decide (has < (((l.getD i2 default).stage) - threshold)))) rfl (fun c65z => ?_) (fun c65z => ?_)
         ·replace hM := M.e_t hM c65z
          refine W.seq ?_
          refine W.region rfl ?_
          refine s_val (x_as (v := B false) rfl) ?_
          refine s_val (x_as (v := I 0) rfl) ?_
          refine s_nil ?_
          refine W.ret ?_
          have hX66z := M.e_inr hM hN39z
          subst hX66z
          replace hM := hk32z
          try dsimp only at hM
          have hr_ := M.e_pure hM
          exact ⟨_, resE_tmp2 rfl, ⟨false, 0, hr_, rfl, H⟩⟩
         ·replace hM := M.e_f hM c65z
          refine W.skip ?_
          refine W.region rfl ?_
          refine s_val (x_mv (v := I (i2 : Int)) rfl) ?_
          refine s_val (x_ari (a := (i2 : Int)) (b := 1) (r := (i2 : Int) + 1) rfl rfl rfl (by omega)) ?_
          refine s_val (x_as (v := I ((i2 : Int) + 1)) rfl) ?_
          refine s_nil ?_
          exact ⟨m36z, lt37z, i2 + 1, _, upds_of _ _ ⟨rfl, rfl, rfl, rfl, rfl, rfl, rfl, trivial⟩, M.e_inl hM hN39z, H⟩
      ·replace hM := M.e_f hM c41z
       simp only [decide_eq_true_eq, decide_eq_false_iff_not, beq_iff_eq, bne_iff_ne, beq_eq_false_iff_ne, bne_eq_false_iff_eq, ne_eq, Decidable.not_not] at c41z
       refine W.exit ?_
       have hX67z := M.e_inr hM hN39z
       subst hX67z
       replace hM := hk32z
       try dsimp only at hM
       refine W.seq ?_
       refine W.region rfl ?_
       refine s_val (x_mv (v := I sum) rfl) ?_
       refine s_val (x_mv (v := I worth) rfl) ?_
       refine s_val (x_cmp (kd := .i64) (a := sum) (b := worth) (r := decide (sum ≤ worth)) rfl rfl rfl) ?_
       refine s_val (x_as (v := B (decide (sum ≤ worth))) rfl) ?_
       refine s_val (x_as (v := I 0) rfl) ?_
       refine s_nil ?_
       refine W.ret ?_
       have hr_ := M.e_pure hM
       exact ⟨_, resE_tmp2 rfl, ⟨(decide (sum ≤ worth)), 0, hr_, rfl, H⟩⟩

def m_nilometerkit_Same_often_Peak_b0 (a : List Pk) (b : List Pk) : Nat → M (Nat ⊕ (Unit ⊕ Unit)) := fun i =>
  bif decide ((i : Int) < (a.length : Int)) then (
  M.grd (decide ((i : Int) < (a.length : Int))) <|
  M.grd (decide ((i : Int) < (b.length : Int))) <|
  bif !(decide ((a.getD i default) = (b.getD i default))) then (
  M.pure (.inr (.inl ())))
  else (
  M.pure (.inl (i + 1))))
  else (
  M.pure (.inr (.inr ())))
def m_nilometerkit_Same_often_Peak (a : List Pk) (b : List Pk) : M Bool :=
  bif (a.length : Int) != (b.length : Int) then (
  M.pure false)
  else (
  M.bind (M.iter (m_nilometerkit_Same_often_Peak_b0 a b) 0) fun x_ => match x_ with
  | (.inl (_ : Unit)) => (
  M.pure false)
  | (.inr (_ : Unit)) => (
  M.pure true))
set_option maxRecDepth 100000 in
set_option maxHeartbeats 16000000 in
theorem nilometerkit_Same_often_Peak_ok {R : List Chunk} {C_a : Cells} {v_a : Value} {C_b : Cells} {v_b : Value} (a : List Pk) (b : List Pk) (hC_a : Reads R C_a) (hs_a : Sl C_a v_a a) (hC_b : Reads R C_b) (hs_b : Sl C_b v_b b) {r : Bool} (hM : (m_nilometerkit_Same_often_Peak a b).Ends r) (w : World) (H : St w w [] R) : Ret Try.prog 42 #[v_a, v_b] w fun v w' => ∃ (y0 : Bool), y0 = r ∧ v = B y0 ∧ St w w' [] R := by
 refine ret_of_W Try.func42 rfl rfl rfl ?_
 refine W.seq ?_
 refine W.region rfl ?_
 refine s_val (x_as (v := B false) rfl) ?_
 refine s_nil ?_
 refine W.seq ?_
 refine W.seq ?_
 refine W.region rfl ?_
 refine s_val (x_mv (v := v_a) rfl) ?_
 have hl1z := (hs_a).len_le
 refine s_val (x_lenS T69.und rfl hs_a) ?_
 refine s_val (x_mv (v := v_b) rfl) ?_
 have hl2z := (hs_b).len_le
 refine s_val (x_lenS T69.und rfl hs_b) ?_
 refine s_val (x_cmp (kd := .i64) (a := (a.length : Int)) (b := (b.length : Int)) (r := (a.length : Int) != (b.length : Int)) rfl rfl rfl) ?_
 refine s_nil ?_
 refine W.cond ((a.length : Int) != (b.length : Int)) rfl (fun c3z => ?_) (fun c3z => ?_)
 ·replace hM := M.e_t hM c3z
  simp only [decide_eq_true_eq, decide_eq_false_iff_not, beq_iff_eq, bne_iff_ne, beq_eq_false_iff_ne, bne_eq_false_iff_eq, ne_eq, Decidable.not_not] at c3z
  refine W.seq ?_
  refine W.region rfl ?_
  refine s_val (x_as (v := B false) rfl) ?_
  refine s_nil ?_
  refine W.ret ?_
  have hr_ := M.e_pure hM
  exact ⟨_, resE_tmp rfl, ⟨false, hr_, rfl, H⟩⟩
 ·replace hM := M.e_f hM c3z
  simp only [decide_eq_true_eq, decide_eq_false_iff_not, beq_iff_eq, bne_iff_ne, beq_eq_false_iff_ne, bne_eq_false_iff_eq, ne_eq, Decidable.not_not] at c3z
  refine W.skip ?_
  refine W.seq ?_
  refine W.seq ?_
  refine W.region rfl ?_
  refine s_val (x_as (v := I 0) rfl) ?_
  refine s_nil ?_
  refine W.block ?_
  obtain ⟨ex4z, hi5z, hk6z⟩ := M.e_bind hM
  obtain ⟨m0_, hi5z⟩ := M.e_iter hi5z
  refine W.loop (fun m σ W => ∃ (i : Nat) (ρ : Env), σ = upds ρ [(0, v_a), (1, v_b), (5, I (i : Int))] ∧ M.iterN (m_nilometerkit_Same_often_Peak_b0 a b) m i = some ex4z ∧ St w W [] R) ?_ ?_
  ·exact ⟨_, 0, _, upds_of _ _ ⟨rfl, rfl, rfl, trivial⟩, hi5z, H⟩
  ·rintro m9z σ w7z ⟨i, ρ, rfl, hI8z, H⟩
   obtain ⟨m10z, lt11z, x12z, hM, hN13z⟩ := M.e_iterN hI8z
   simp only [m_nilometerkit_Same_often_Peak_b0] at hM
   clear hI8z
   refine W.seq ?_
   refine W.seq ?_
   refine W.region rfl ?_
   refine s_val (x_mv (v := I (i : Int)) rfl) ?_
   refine s_val (x_mv (v := v_a) rfl) ?_
   have hl14z := (hs_a).len_le
   refine s_val (x_lenS T69.und rfl hs_a) ?_
   refine s_val (x_cmp (kd := .i64) (a := (i : Int)) (b := (a.length : Int)) (r := decide ((i : Int) < (a.length : Int))) rfl rfl rfl) ?_
   refine s_nil ?_
   refine W.cond (decide ((i : Int) < (a.length : Int))) rfl (fun c15z => ?_) (fun c15z => ?_)
   ·replace hM := M.e_t hM c15z
    simp only [decide_eq_true_eq, decide_eq_false_iff_not, beq_iff_eq, bne_iff_ne, beq_eq_false_iff_ne, bne_eq_false_iff_eq, ne_eq, Decidable.not_not] at c15z
    refine W.skip ?_
    refine W.seq ?_
    refine W.block ?_
    refine W.seq ?_
    refine W.draw (fun W => St w W [] R) [(0, true), (1, true), (2, true), (3, true), (4, true), (5, true), (6, true), (7, true), (8, true)] mixed (by decide +kernel) rfl ?_
    intro w16z hx_
    replace H : St w w16z [] R := H.ext hx_
    clear hx_
    refine ⟨(H.pick [] (by decide) rfl), ?_⟩
    refine d_q rfl (fun w' H => x_mv (v := v_a) rfl) ?_
    refine d_q rfl (fun w' H => x_mv (v := I (i : Int)) rfl) ?_
    obtain ⟨sd17z, hM⟩ := M.e_grd hM
    simp only [Bool.and_eq_true, decide_eq_true_eq] at sd17z
    refine d_q rfl (fun w' H => x_ix (a := v_a) (b := I (i : Int)) (v := vat v_a 2 (Int.toNat (i : Int))) rfl rfl (Sl.ix (α := Pk) T69.und T69.size hs_a (by omega) (by omega))) ?_
    refine d_q rfl (fun w' H => x_ld (p := vat v_a 2 (Int.toNat (i : Int))) (v := .agg #[I ((a.getD i default).day), I ((a.getD i default).stage)]) rfl (ld_ag Ag72 Sz72 (At.mono (Pk_atA hs_a (i := (i : Int)) (by omega) (by omega)) (hC_a.at H)))) ?_
    refine d_q rfl (fun w' H => x_mv (v := v_b) rfl) ?_
    refine d_q rfl (fun w' H => x_mv (v := I (i : Int)) rfl) ?_
    obtain ⟨sd18z, hM⟩ := M.e_grd hM
    simp only [Bool.and_eq_true, decide_eq_true_eq] at sd18z
    refine d_q rfl (fun w' H => x_ix (a := v_b) (b := I (i : Int)) (v := vat v_b 2 (Int.toNat (i : Int))) rfl rfl (Sl.ix (α := Pk) T69.und T69.size hs_b (by omega) (by omega))) ?_
    refine d_q rfl (fun w' H => x_ld (p := vat v_b 2 (Int.toNat (i : Int))) (v := .agg #[I ((b.getD i default).day), I ((b.getD i default).stage)]) rfl (ld_ag Ag72 Sz72 (At.mono (Pk_atA hs_b (i := (i : Int)) (by omega) (by omega)) (hC_b.at H)))) ?_
    refine d_q rfl (fun w' H => x_neS (eqT72 (a.getD i default) (b.getD i default) _) gdT72 rfl rfl) ?_
    refine d_nil ?_
    refine W.cond (!(decide ((a.getD i default) = (b.getD i default)))) rfl (fun c19z => ?_) (fun c19z => ?_)
    ·replace hM := M.e_t hM c19z
     refine W.seq ?_
     refine W.region rfl ?_
     refine s_val (x_as (v := B false) rfl) ?_
     refine s_nil ?_
     refine W.ret ?_
     have hX20z := M.e_inr hM hN13z
     subst hX20z
     replace hM := hk6z
     try dsimp only at hM
     have hr_ := M.e_pure hM
     exact ⟨_, resE_tmp rfl, ⟨false, hr_, rfl, H⟩⟩
    ·replace hM := M.e_f hM c19z
     refine W.skip ?_
     refine W.region rfl ?_
     refine s_val (x_mv (v := I (i : Int)) rfl) ?_
     refine s_val (x_ari (a := (i : Int)) (b := 1) (r := (i : Int) + 1) rfl rfl rfl (by omega)) ?_
     refine s_val (x_as (v := I ((i : Int) + 1)) rfl) ?_
     refine s_nil ?_
     exact ⟨m10z, lt11z, i + 1, _, upds_of _ _ ⟨rfl, rfl, rfl, trivial⟩, M.e_inl hM hN13z, H⟩
   ·replace hM := M.e_f hM c15z
    simp only [decide_eq_true_eq, decide_eq_false_iff_not, beq_iff_eq, bne_iff_ne, beq_eq_false_iff_ne, bne_eq_false_iff_eq, ne_eq, Decidable.not_not] at c15z
    refine W.exit ?_
    have hX21z := M.e_inr hM hN13z
    subst hX21z
    replace hM := hk6z
    try dsimp only at hM
    refine W.seq ?_
    refine W.region rfl ?_
    refine s_val (x_as (v := B true) rfl) ?_
    refine s_nil ?_
    refine W.ret ?_
    have hr_ := M.e_pure hM
    exact ⟨_, resE_tmp rfl, ⟨true, hr_, rfl, H⟩⟩

end Go.Proofs.Ytcgalcbkkijkhaa
namespace Go.Proofs.Ytcgalcbkkijkhaa
open Go Go.Nm
def m_nilometerlaw10_OftenPeaks (l : List Pk) (apart : Int) (threshold : Int) (choice : List Int) (worth : Int) (dues : List Int) : M Bool :=
  bif (((decide (45 < (l.length : Int))) || (decide (45 < (choice.length : Int)))) || (decide (45 < (dues.length : Int)))) then (
  M.bind (m_nilometerlaw10_awake) fun r2 =>
  M.pure r2)
  else (
  M.bind (m_nilometerkit_Copy_often_Peak l) fun r3 =>
  M.bind (m_nilometerkit_Copy_int choice) fun r4 =>
  M.bind (m_nilometerkit_Copy_int dues) fun r5 =>
  M.bind (m_nilometerlaw10_peaks l) fun r6 =>
  M.bind (m_often_CheckPeaks r3) fun r7 =>
  M.bind (m_nilometerref10_CheckPeaks r6) fun r8 =>
  bif r7 != r8 then (
  M.pure false)
  else (
  M.bind (m_often_Worth r3 apart threshold r4) fun (r0, r1) =>
  M.bind (m_nilometerref10_Worth r6 apart threshold choice) fun (r02, r12) =>
  bif ((r1 != r12) || (r0 != r02)) then (
  M.pure false)
  else (
  M.bind (m_often_Pick r3 apart threshold) fun (r03, r13, r22) =>
  M.bind (m_nilometerref10_Best r6 apart threshold) fun (r04, r14) =>
  M.bind (m_often_Dues r3 apart threshold) fun (r05, r15) =>
  M.grd ((!((!(((r22 != r14) || (r15 != r14)) || (r13 != r04))) && (r22 != 0)) || (decide ((-9223372036854775808 : Int) ≤ ((r03.length : Int) + (r05.length : Int))) && decide (((r03.length : Int) + (r05.length : Int)) ≤ (9223372036854775807 : Int))))) <|
  bif ((((r22 != r14) || (r15 != r14)) || (r13 != r04)) || ((r22 != 0) && (decide (0 < ((r03.length : Int) + (r05.length : Int)))))) then (
  M.pure false)
  else (
  bif r22 == 0 then (
  M.bind (m_nilometerref10_Worth r6 apart threshold r03) fun (r06, r16) =>
  bif ((r16 != 0) || (r06 != r13)) then (
  M.pure false)
  else (
  M.bind (m_nilometerref10_Proves r6 apart threshold r13 r05) fun (r07, r17) =>
  bif ((r17 != 0) || (!r07)) then (
  M.pure false)
  else (
  M.bind (m_often_Proves r3 apart threshold worth r5) fun (r08, r18) =>
  M.bind (m_nilometerref10_Proves r6 apart threshold worth dues) fun (r09, r19) =>
  M.bind (M.opt ((r18 == r19) && (r08 == r09)) (m_nilometerkit_Same_often_Peak r3 l) false) fun r9 =>
  M.bind (M.opt (((r18 == r19) && (r08 == r09)) && r9) (m_nilometerkit_Same_int r4 choice) false) fun r10 =>
  M.bind (M.opt ((((r18 == r19) && (r08 == r09)) && r9) && r10) (m_nilometerkit_Same_int r5 dues) false) fun r11 =>
  M.bind (M.opt (((((r18 == r19) && (r08 == r09)) && r9) && r10) && r11) (m_nilometerlaw10_awake) false) fun r20 =>
  M.pure ((((((r18 == r19) && (r08 == r09)) && r9) && r10) && r11) && r20))))
  else (
  M.bind (m_often_Proves r3 apart threshold worth r5) fun (r08, r18) =>
  M.bind (m_nilometerref10_Proves r6 apart threshold worth dues) fun (r09, r19) =>
  M.bind (M.opt ((r18 == r19) && (r08 == r09)) (m_nilometerkit_Same_often_Peak r3 l) false) fun r9 =>
  M.bind (M.opt (((r18 == r19) && (r08 == r09)) && r9) (m_nilometerkit_Same_int r4 choice) false) fun r10 =>
  M.bind (M.opt ((((r18 == r19) && (r08 == r09)) && r9) && r10) (m_nilometerkit_Same_int r5 dues) false) fun r11 =>
  M.bind (M.opt (((((r18 == r19) && (r08 == r09)) && r9) && r10) && r11) (m_nilometerlaw10_awake) false) fun r20 =>
  M.pure ((((((r18 == r19) && (r08 == r09)) && r9) && r10) && r11) && r20))))))
set_option maxRecDepth 100000 in
set_option maxHeartbeats 16000000 in
theorem nilometerlaw10_OftenPeaks_ok {R : List Chunk} {C_l : Cells} {v_l : Value} {C_choice : Cells} {v_choice : Value} {C_dues : Cells} {v_dues : Value} (l : List Pk) (apart : Int) (threshold : Int) (choice : List Int) (worth : Int) (dues : List Int) (hC_l : Reads R C_l) (hs_l : Sl C_l v_l l) (hC_choice : Reads R C_choice) (hs_choice : Sl C_choice v_choice choice) (hC_dues : Reads R C_dues) (hs_dues : Sl C_dues v_dues dues) {r : Bool} (hM : (m_nilometerlaw10_OftenPeaks l apart threshold choice worth dues).Ends r) (w : World) (H : St w w [] R) : Ret Try.prog 6 #[v_l, I apart, I threshold, v_choice, I worth, v_dues] w fun v w' => ∃ (y0 : Bool), y0 = r ∧ v = B y0 ∧ St w w' [] R := by
 refine ret_of_W Try.func6 rfl rfl rfl ?_
 refine W.seq ?_
 refine W.region rfl ?_
 refine s_val (x_as (v := B false) rfl) ?_
 refine s_nil ?_
 refine W.seq ?_
 refine W.seq ?_
 refine W.region rfl ?_
 refine s_val (x_mv (v := v_l) rfl) ?_
 have hl1z := (hs_l).len_le
 refine s_val (x_lenS T69.und rfl hs_l) ?_
 refine s_val (x_cmp (kd := .i64) (a := (l.length : Int)) (b := 45) (r := decide (45 < (l.length : Int))) rfl rfl rfl) ?_
 refine s_val (x_mv (v := B (decide (45 < (l.length : Int)))) rfl) ?_
 refine g_val (!(decide (45 < (l.length : Int)))) (gy_f rfl) (fun hg => x_mv (v := v_choice) rfl) ?_
 refine g_val (!(decide (45 < (l.length : Int)))) (gy_f rfl) (fun hg => x_lenS T27.und (gd_of (c := !(decide (45 < (l.length : Int)))) hg (v_choice)) hs_choice) ?_
 refine g_val (!(decide (45 < (l.length : Int)))) (gy_f rfl) (fun hg => x_cmp (kd := .i64) (a := (choice.length : Int)) (b := 45) (r := decide (45 < (choice.length : Int))) (gd_of (c := !(decide (45 < (l.length : Int)))) hg (I (choice.length : Int))) rfl rfl) ?_
 refine s_val (x_por (b := decide (45 < (l.length : Int))) (r := decide (45 < (choice.length : Int))) rfl rfl (fun hb => gd_of (c := !(decide (45 < (l.length : Int)))) (by first | exact hb | (rw [hb]; rfl) | simp_all) (B (decide (45 < (choice.length : Int)))))) ?_
 refine s_val (x_mv (v := B ((decide (45 < (l.length : Int))) || (decide (45 < (choice.length : Int))))) rfl) ?_
 refine g_val (!((decide (45 < (l.length : Int))) || (decide (45 < (choice.length : Int))))) (gy_f rfl) (fun hg => x_mv (v := v_dues) rfl) ?_
 refine g_val (!((decide (45 < (l.length : Int))) || (decide (45 < (choice.length : Int))))) (gy_f rfl) (fun hg => x_lenS T27.und (gd_of (c := !((decide (45 < (l.length : Int))) || (decide (45 < (choice.length : Int))))) hg (v_dues)) hs_dues) ?_
 refine g_val (!((decide (45 < (l.length : Int))) || (decide (45 < (choice.length : Int))))) (gy_f rfl) (fun hg => x_cmp (kd := .i64) (a := (dues.length : Int)) (b := 45) (r := decide (45 < (dues.length : Int))) (gd_of (c := !((decide (45 < (l.length : Int))) || (decide (45 < (choice.length : Int))))) hg (I (dues.length : Int))) rfl rfl) ?_
 refine s_val (x_por (b := ((decide (45 < (l.length : Int))) || (decide (45 < (choice.length : Int))))) (r := decide (45 < (dues.length : Int))) rfl rfl (fun hb => gd_of (c := !((decide (45 < (l.length : Int))) || (decide (45 < (choice.length : Int))))) (by first | exact hb | (rw [hb]; rfl) | simp_all) (B (decide (45 < (dues.length : Int)))))) ?_
 refine s_nil ?_
 refine W.cond (((decide (45 < (l.length : Int))) || (decide (45 < (choice.length : Int)))) || (decide (45 < (dues.length : Int)))) rfl (fun c4z => ?_) (fun c4z => ?_)
 ·replace hM := M.e_t hM c4z
  refine W.seq ?_
  refine W.region rfl ?_
  obtain ⟨r6z, hx5z, hM⟩ := M.e_bind hM
  refine s_call cf18 [] rfl (nilometerlaw10_awake_ok hx5z _ (St.give (T := []) H rfl)) ?_
  rintro vq w7z ⟨r2, hr8z, hvq, H2_⟩
  subst hr8z
  subst vq
  try dsimp only at hM
  replace H : St w w7z [] R := H.back H2_ rfl
  clear H2_
  refine s_val (x_as (v := B r2) rfl) ?_
  refine s_nil ?_
  refine W.ret ?_
  have hr_ := M.e_pure hM
  exact ⟨_, resE_tmp rfl, ⟨r2, hr_, rfl, H⟩⟩
 ·replace hM := M.e_f hM c4z
  refine W.skip ?_
  refine W.seq ?_
  refine W.region rfl ?_
  refine s_val (x_mv (v := v_l) rfl) ?_
  obtain ⟨r10z, hx9z, hM⟩ := M.e_bind hM
  refine s_call cf30 [v_l] rfl (nilometerkit_Copy_often_Peak_ok l (hC_l.app _) hs_l hx9z _ (St.give (T := []) H rfl)) ?_
  rintro vq w11z ⟨r3, u0_1, hr12z, hvq, H2_⟩
  subst hr12z
  subst vq
  try dsimp only at hM
  replace H : St w w11z [cOwn (α := Pk) 72 u0_1 r3] R := H.back H2_ rfl
  clear H2_
  refine s_val (x_mv (v := v_choice) rfl) ?_
  obtain ⟨r14z, hx13z, hM⟩ := M.e_bind hM
  refine s_call cf31 [v_choice] rfl (nilometerkit_Copy_int_ok choice (hC_choice.app _) hs_choice hx13z _ (St.give (T := [cOwn (α := Pk) 72 u0_1 r3]) H rfl)) ?_
  rintro vq w15z ⟨r4, u0_2, hr16z, hvq, H2_⟩
  subst hr16z
  subst vq
  try dsimp only at hM
  replace H : St w w15z [cOwn (α := Int) 3 u0_2 r4, cOwn (α := Pk) 72 u0_1 r3] R := H.back H2_ rfl
  clear H2_
  refine s_val (x_mv (v := v_dues) rfl) ?_
  obtain ⟨r18z, hx17z, hM⟩ := M.e_bind hM
  refine s_call cf31 [v_dues] rfl (nilometerkit_Copy_int_ok dues (hC_dues.app _) hs_dues hx17z _ (St.give (T := [cOwn (α := Int) 3 u0_2 r4, cOwn (α := Pk) 72 u0_1 r3]) H rfl)) ?_
  rintro vq w19z ⟨r5, u0_3, hr20z, hvq, H2_⟩
  subst hr20z
  subst vq
  try dsimp only at hM
  replace H : St w w19z [cOwn (α := Int) 3 u0_3 r5, cOwn (α := Int) 3 u0_2 r4, cOwn (α := Pk) 72 u0_1 r3] R := H.back H2_ rfl
  clear H2_
  refine s_val (x_as (v := u0_1) rfl) ?_
  refine s_val (x_as (v := u0_2) rfl) ?_
  refine s_val (x_as (v := u0_3) rfl) ?_
  refine s_nil ?_
  refine W.seq ?_
  refine W.region rfl ?_
  refine s_val (x_mv (v := v_l) rfl) ?_
  obtain ⟨r22z, hx21z, hM⟩ := M.e_bind hM
  refine s_call cf32 [v_l] rfl (nilometerlaw10_peaks_ok l (hC_l.app _) hs_l hx21z _ (St.give (T := [cOwn (α := Int) 3 u0_3 r5, cOwn (α := Int) 3 u0_2 r4, cOwn (α := Pk) 72 u0_1 r3]) H rfl)) ?_
  rintro vq w23z ⟨r6, u0_4, hr24z, hvq, H2_⟩
  subst hr24z
  subst vq
  try dsimp only at hM
  replace H : St w w23z [cOwn (α := Pk) 135 u0_4 r6, cOwn (α := Int) 3 u0_3 r5, cOwn (α := Int) 3 u0_2 r4, cOwn (α := Pk) 72 u0_1 r3] R := H.back H2_ rfl
  clear H2_
  refine s_val (x_as (v := u0_4) rfl) ?_
  refine s_nil ?_
  refine W.seq ?_
  refine W.seq ?_
  refine W.region rfl ?_
  refine s_val (x_mv (v := u0_1) rfl) ?_
  obtain ⟨r26z, hx25z, hM⟩ := M.e_bind hM
  refine s_call cf33 [u0_1] rfl (often_CheckPeaks_ok r3 (Reads.of (k := 3) rfl ownLe) (ownSl (H.get (k := 3) rfl)) hx25z _ (St.give (T := [cOwn (α := Pk) 135 u0_4 r6, cOwn (α := Int) 3 u0_3 r5, cOwn (α := Int) 3 u0_2 r4, cOwn (α := Pk) 72 u0_1 r3]) H rfl)) ?_
  rintro vq w27z ⟨r7, hr28z, hvq, H2_⟩
  subst hr28z
  subst vq
  try dsimp only at hM
  replace H : St w w27z [cOwn (α := Pk) 135 u0_4 r6, cOwn (α := Int) 3 u0_3 r5, cOwn (α := Int) 3 u0_2 r4, cOwn (α := Pk) 72 u0_1 r3] R := H.back H2_ rfl
  clear H2_
  refine s_val (x_mv (v := u0_4) rfl) ?_
  obtain ⟨r30z, hx29z, hM⟩ := M.e_bind hM
  refine s_call cf34 [u0_4] rfl (nilometerref10_CheckPeaks_ok r6 (Reads.of (k := 0) rfl ownLe) (ownSl (H.get (k := 0) rfl)) hx29z _ (St.give (T := [cOwn (α := Pk) 135 u0_4 r6, cOwn (α := Int) 3 u0_3 r5, cOwn (α := Int) 3 u0_2 r4, cOwn (α := Pk) 72 u0_1 r3]) H rfl)) ?_
  rintro vq w31z ⟨r8, hr32z, hvq, H2_⟩
  subst hr32z
  subst vq
  try dsimp only at hM
  replace H : St w w31z [cOwn (α := Pk) 135 u0_4 r6, cOwn (α := Int) 3 u0_3 r5, cOwn (α := Int) 3 u0_2 r4, cOwn (α := Pk) 72 u0_1 r3] R := H.back H2_ rfl
  clear H2_
  refine s_val (x_cmp (kd := .i64) (a := r7) (b := r8) (r := r7 != r8) rfl rfl rfl) ?_
  refine s_nil ?_
  refine W.cond (r7 != r8) rfl (fun c33z => ?_) (fun c33z => ?_)
  ·replace hM := M.e_t hM c33z
   simp only [decide_eq_true_eq, decide_eq_false_iff_not, beq_iff_eq, bne_iff_ne, beq_eq_false_iff_ne, bne_eq_false_iff_eq, ne_eq, Decidable.not_not] at c33z
   refine W.seq ?_
   refine W.region rfl ?_
   refine s_val (x_as (v := B false) rfl) ?_
   refine s_nil ?_
   refine W.ret ?_
   have hr_ := M.e_pure hM
   exact ⟨_, resE_tmp rfl, ⟨false, hr_, rfl, (H.pick [] (by decide) rfl)⟩⟩
  ·replace hM := M.e_f hM c33z
   simp only [decide_eq_true_eq, decide_eq_false_iff_not, beq_iff_eq, bne_iff_ne, beq_eq_false_iff_ne, bne_eq_false_iff_eq, ne_eq, Decidable.not_not] at c33z
   refine W.skip ?_
   refine W.seq ?_
   refine W.region rfl ?_
   refine s_val (x_mv (v := u0_1) rfl) ?_
   refine s_val (x_mv (v := I apart) rfl) ?_
   refine s_val (x_mv (v := I threshold) rfl) ?_
   refine s_val (x_mv (v := u0_2) rfl) ?_
   obtain ⟨r35z, hx34z, hM⟩ := M.e_bind hM
   refine s_call cf35 [u0_1, I apart, I threshold, u0_2] rfl (often_Worth_ok r3 apart threshold r4 (Reads.of (k := 3) rfl ownLe) (ownSl (H.get (k := 3) rfl)) (Reads.of (k := 2) rfl ownLe) (ownSl (H.get (k := 2) rfl)) hx34z _ (St.give (T := [cOwn (α := Pk) 135 u0_4 r6, cOwn (α := Int) 3 u0_3 r5, cOwn (α := Int) 3 u0_2 r4, cOwn (α := Pk) 72 u0_1 r3]) H rfl)) ?_
   rintro vq w36z ⟨r0, r1, hr37z, hvq, H2_⟩
   subst hr37z
   subst vq
   try dsimp only at hM
   replace H : St w w36z [cOwn (α := Pk) 135 u0_4 r6, cOwn (α := Int) 3 u0_3 r5, cOwn (α := Int) 3 u0_2 r4, cOwn (α := Pk) 72 u0_1 r3] R := H.back H2_ rfl
   clear H2_
   refine s_val (x_mv (v := .tuple #[I r0, I r1]) rfl) ?_
   refine s_val (x_ext (vs := [I r0, I r1]) (v := I r0) rfl rfl) ?_
   refine s_val (x_ext (vs := [I r0, I r1]) (v := I r1) rfl rfl) ?_
   refine s_val (x_as (v := I r0) rfl) ?_
   refine s_val (x_as (v := I r1) rfl) ?_
   refine s_nil ?_
   refine W.seq ?_
   refine W.region rfl ?_
   refine s_val (x_mv (v := u0_4) rfl) ?_
   refine s_val (x_mv (v := I apart) rfl) ?_
   refine s_val (x_mv (v := I threshold) rfl) ?_
   refine s_val (x_mv (v := v_choice) rfl) ?_
   obtain ⟨r39z, hx38z, hM⟩ := M.e_bind hM
   refine s_call cf36 [u0_4, I apart, I threshold, v_choice] rfl (nilometerref10_Worth_ok r6 apart threshold choice (Reads.of (k := 0) rfl ownLe) (ownSl (H.get (k := 0) rfl)) (hC_choice.app _) hs_choice hx38z _ (St.give (T := [cOwn (α := Pk) 135 u0_4 r6, cOwn (α := Int) 3 u0_3 r5, cOwn (α := Int) 3 u0_2 r4, cOwn (α := Pk) 72 u0_1 r3]) H rfl)) ?_
   rintro vq w40z ⟨r02, r12, hr41z, hvq, H2_⟩
   subst hr41z
   subst vq
   try dsimp only at hM
   replace H : St w w40z [cOwn (α := Pk) 135 u0_4 r6, cOwn (α := Int) 3 u0_3 r5, cOwn (α := Int) 3 u0_2 r4, cOwn (α := Pk) 72 u0_1 r3] R := H.back H2_ rfl
   clear H2_
   refine s_val (x_mv (v := .tuple #[I r02, I r12]) rfl) ?_
   refine s_val (x_ext (vs := [I r02, I r12]) (v := I r02) rfl rfl) ?_
   refine s_val (x_ext (vs := [I r02, I r12]) (v := I r12) rfl rfl) ?_
   refine s_val (x_as (v := I r02) rfl) ?_
   refine s_val (x_as (v := I r12) rfl) ?_
   refine s_nil ?_
   refine W.seq ?_
   refine W.seq ?_
   refine W.region rfl ?_
   refine s_val (x_mv (v := I r1) rfl) ?_
   refine s_val (x_mv (v := I r12) rfl) ?_
   refine s_val (x_cmp (kd := .i64) (a := r1) (b := r12) (r := r1 != r12) rfl rfl rfl) ?_
   refine s_val (x_mv (v := B (r1 != r12)) rfl) ?_
   refine g_val (!(r1 != r12)) (gy_f rfl) (fun hg => x_mv (v := I r0) rfl) ?_
   refine g_val (!(r1 != r12)) (gy_f rfl) (fun hg => x_mv (v := I r02) rfl) ?_
   refine g_val (!(r1 != r12)) (gy_f rfl) (fun hg => x_cmp (kd := .i64) (a := r0) (b := r02) (r := r0 != r02) (gd_of (c := !(r1 != r12)) hg (I r0)) (gd_of (c := !(r1 != r12)) hg (I r02)) rfl) ?_
   refine s_val (x_por (b := r1 != r12) (r := r0 != r02) rfl rfl (fun hb => gd_of (c := !(r1 != r12)) (by first | exact hb | (rw [hb]; rfl) | simp_all) (B (r0 != r02)))) ?_
   refine s_nil ?_
   refine W.cond ((r1 != r12) || (r0 != r02)) rfl (fun c42z => ?_) (fun c42z => ?_)
   ·replace hM := M.e_t hM c42z
    refine W.seq ?_
    refine W.region rfl ?_
    refine s_val (x_as (v := B false) rfl) ?_
    refine s_nil ?_
    refine W.ret ?_
    have hr_ := M.e_pure hM
    exact ⟨_, resE_tmp rfl, ⟨false, hr_, rfl, (H.pick [] (by decide) rfl)⟩⟩
   ·replace hM := M.e_f hM c42z
    refine W.skip ?_
    refine W.seq ?_
    refine W.region rfl ?_
    refine s_val (x_mv (v := u0_1) rfl) ?_
    refine s_val (x_mv (v := I apart) rfl) ?_
    refine s_val (x_mv (v := I threshold) rfl) ?_
    obtain ⟨r44z, hx43z, hM⟩ := M.e_bind hM
    refine s_call cf37 [u0_1, I apart, I threshold] rfl (often_Pick_ok r3 apart threshold (Reads.of (k := 3) rfl ownLe) (ownSl (H.get (k := 3) rfl)) hx43z _ (St.give (T := [cOwn (α := Pk) 135 u0_4 r6, cOwn (α := Int) 3 u0_3 r5, cOwn (α := Int) 3 u0_2 r4, cOwn (α := Pk) 72 u0_1 r3]) H rfl)) ?_
    rintro vq w45z ⟨r03, r13, r22, u0_5, hr46z, hvq, H2_⟩
    subst hr46z
    subst vq
    try dsimp only at hM
    replace H : St w w45z [cOwn (α := Int) 3 u0_5 r03, cOwn (α := Pk) 135 u0_4 r6, cOwn (α := Int) 3 u0_3 r5, cOwn (α := Int) 3 u0_2 r4, cOwn (α := Pk) 72 u0_1 r3] R := H.back H2_ rfl
    clear H2_
    refine s_val (x_mv (v := .tuple #[u0_5, I r13, I r22]) rfl) ?_
    refine s_val (x_ext (vs := [u0_5, I r13, I r22]) (v := u0_5) rfl rfl) ?_
    refine s_val (x_ext (vs := [u0_5, I r13, I r22]) (v := I r13) rfl rfl) ?_
    refine s_val (x_ext (vs := [u0_5, I r13, I r22]) (v := I r22) rfl rfl) ?_
    refine s_val (x_as (v := u0_5) rfl) ?_
    refine s_val (x_as (v := I r13) rfl) ?_
    refine s_val (x_as (v := I r22) rfl) ?_
    refine s_nil ?_
    refine W.seq ?_
    refine W.region rfl ?_
    refine s_val (x_mv (v := u0_4) rfl) ?_
    refine s_val (x_mv (v := I apart) rfl) ?_
    refine s_val (x_mv (v := I threshold) rfl) ?_
    obtain ⟨r48z, hx47z, hM⟩ := M.e_bind hM
    refine s_call cf38 [u0_4, I apart, I threshold] rfl (nilometerref10_Best_ok r6 apart threshold (Reads.of (k := 1) rfl ownLe) (ownSl (H.get (k := 1) rfl)) hx47z _ (St.give (T := [cOwn (α := Int) 3 u0_5 r03, cOwn (α := Pk) 135 u0_4 r6, cOwn (α := Int) 3 u0_3 r5, cOwn (α := Int) 3 u0_2 r4, cOwn (α := Pk) 72 u0_1 r3]) H rfl)) ?_
    rintro vq w49z ⟨r04, r14, hr50z, hvq, H2_⟩
    subst hr50z
    subst vq
    try dsimp only at hM
    replace H : St w w49z [cOwn (α := Int) 3 u0_5 r03, cOwn (α := Pk) 135 u0_4 r6, cOwn (α := Int) 3 u0_3 r5, cOwn (α := Int) 3 u0_2 r4, cOwn (α := Pk) 72 u0_1 r3] R := H.back H2_ rfl
    clear H2_
    refine s_val (x_mv (v := .tuple #[I r04, I r14]) rfl) ?_
    refine s_val (x_ext (vs := [I r04, I r14]) (v := I r04) rfl rfl) ?_
    refine s_val (x_ext (vs := [I r04, I r14]) (v := I r14) rfl rfl) ?_
    refine s_val (x_as (v := I r04) rfl) ?_
    refine s_val (x_as (v := I r14) rfl) ?_
    refine s_nil ?_
    refine W.seq ?_
    refine W.region rfl ?_
    refine s_val (x_mv (v := u0_1) rfl) ?_
    refine s_val (x_mv (v := I apart) rfl) ?_
    refine s_val (x_mv (v := I threshold) rfl) ?_
    obtain ⟨r52z, hx51z, hM⟩ := M.e_bind hM
    refine s_call cf39 [u0_1, I apart, I threshold] rfl (often_Dues_ok r3 apart threshold (Reads.of (k := 4) rfl ownLe) (ownSl (H.get (k := 4) rfl)) hx51z _ (St.give (T := [cOwn (α := Int) 3 u0_5 r03, cOwn (α := Pk) 135 u0_4 r6, cOwn (α := Int) 3 u0_3 r5, cOwn (α := Int) 3 u0_2 r4, cOwn (α := Pk) 72 u0_1 r3]) H rfl)) ?_
    rintro vq w53z ⟨r05, r15, u0_6, hr54z, hvq, H2_⟩
    subst hr54z
    subst vq
    try dsimp only at hM
    replace H : St w w53z [cOwn (α := Int) 3 u0_6 r05, cOwn (α := Int) 3 u0_5 r03, cOwn (α := Pk) 135 u0_4 r6, cOwn (α := Int) 3 u0_3 r5, cOwn (α := Int) 3 u0_2 r4, cOwn (α := Pk) 72 u0_1 r3] R := H.back H2_ rfl
    clear H2_
    refine s_val (x_mv (v := .tuple #[u0_6, I r15]) rfl) ?_
    refine s_val (x_ext (vs := [u0_6, I r15]) (v := u0_6) rfl rfl) ?_
    refine s_val (x_ext (vs := [u0_6, I r15]) (v := I r15) rfl rfl) ?_
    refine s_val (x_as (v := u0_6) rfl) ?_
    refine s_val (x_as (v := I r15) rfl) ?_
    refine s_nil ?_
    refine W.seq ?_
    refine W.seq ?_
    refine W.region rfl ?_
    refine s_val (x_mv (v := I r22) rfl) ?_
    refine s_val (x_mv (v := I r14) rfl) ?_
    refine s_val (x_cmp (kd := .i64) (a := r22) (b := r14) (r := r22 != r14) rfl rfl rfl) ?_
    refine s_val (x_mv (v := B (r22 != r14)) rfl) ?_
    refine g_val (!(r22 != r14)) (gy_f rfl) (fun hg => x_mv (v := I r15) rfl) ?_
    refine g_val (!(r22 != r14)) (gy_f rfl) (fun hg => x_mv (v := I r14) rfl) ?_
    refine g_val (!(r22 != r14)) (gy_f rfl) (fun hg => x_cmp (kd := .i64) (a := r15) (b := r14) (r := r15 != r14) (gd_of (c := !(r22 != r14)) hg (I r15)) (gd_of (c := !(r22 != r14)) hg (I r14)) rfl) ?_
    refine s_val (x_por (b := r22 != r14) (r := r15 != r14) rfl rfl (fun hb => gd_of (c := !(r22 != r14)) (by first | exact hb | (rw [hb]; rfl) | simp_all) (B (r15 != r14)))) ?_
    refine s_val (x_mv (v := B ((r22 != r14) || (r15 != r14))) rfl) ?_
    refine g_val (!((r22 != r14) || (r15 != r14))) (gy_f rfl) (fun hg => x_mv (v := I r13) rfl) ?_
    refine g_val (!((r22 != r14) || (r15 != r14))) (gy_f rfl) (fun hg => x_mv (v := I r04) rfl) ?_
    refine g_val (!((r22 != r14) || (r15 != r14))) (gy_f rfl) (fun hg => x_cmp (kd := .i64) (a := r13) (b := r04) (r := r13 != r04) (gd_of (c := !((r22 != r14) || (r15 != r14))) hg (I r13)) (gd_of (c := !((r22 != r14) || (r15 != r14))) hg (I r04)) rfl) ?_
    refine s_val (x_por (b := ((r22 != r14) || (r15 != r14))) (r := r13 != r04) rfl rfl (fun hb => gd_of (c := !((r22 != r14) || (r15 != r14))) (by first | exact hb | (rw [hb]; rfl) | simp_all) (B (r13 != r04)))) ?_
    refine s_val (x_mv (v := B (((r22 != r14) || (r15 != r14)) || (r13 != r04))) rfl) ?_
    refine g_val (!(((r22 != r14) || (r15 != r14)) || (r13 != r04))) (gy_f rfl) (fun hg => x_mv (v := I r22) rfl) ?_
    refine g_val (!(((r22 != r14) || (r15 != r14)) || (r13 != r04))) (gy_f rfl) (fun hg => x_cmp (kd := .i64) (a := r22) (b := 0) (r := r22 != 0) (gd_of (c := !(((r22 != r14) || (r15 != r14)) || (r13 != r04))) hg (I r22)) rfl rfl) ?_
    refine g_val (!(((r22 != r14) || (r15 != r14)) || (r13 != r04))) (gy_f rfl) (fun hg => x_mv (v := B (r22 != 0)) (gd_of (c := !(((r22 != r14) || (r15 != r14)) || (r13 != r04))) hg (B (r22 != 0)))) ?_
    refine g_val ((!(((r22 != r14) || (r15 != r14)) || (r13 != r04))) && (r22 != 0)) (gy_gt rfl rfl) (fun hg => x_mv (v := u0_5) rfl) ?_
    refine g_val ((!(((r22 != r14) || (r15 != r14)) || (r13 != r04))) && (r22 != 0)) (gy_gt rfl rfl) (fun hg => x_lenS T27.und (gd_of (c := ((!(((r22 != r14) || (r15 != r14)) || (r13 != r04))) && (r22 != 0))) hg (u0_5)) (ownSl (H.get (k := 1) rfl))) ?_
    refine g_val ((!(((r22 != r14) || (r15 != r14)) || (r13 != r04))) && (r22 != 0)) (gy_gt rfl rfl) (fun hg => x_mv (v := u0_6) rfl) ?_
    refine g_val ((!(((r22 != r14) || (r15 != r14)) || (r13 != r04))) && (r22 != 0)) (gy_gt rfl rfl) (fun hg => x_lenS T27.und (gd_of (c := ((!(((r22 != r14) || (r15 != r14)) || (r13 != r04))) && (r22 != 0))) hg (u0_6)) (ownSl (H.get (k := 0) rfl))) ?_
    obtain ⟨sd57z, hM⟩ := M.e_grd hM
    replace sd57z := M.imp_of sd57z
    simp only [Bool.and_eq_true, decide_eq_true_eq] at sd57z
    refine g_val ((!(((r22 != r14) || (r15 != r14)) || (r13 != r04))) && (r22 != 0)) (gy_gt rfl rfl) (fun hg => x_ari (a := (r03.length : Int)) (b := (r05.length : Int)) (r := (r03.length : Int) + (r05.length : Int)) (gd_of (c := ((!(((r22 != r14) || (r15 != r14)) || (r13 != r04))) && (r22 != 0))) hg (I (r03.length : Int))) (gd_of (c := ((!(((r22 != r14) || (r15 != r14)) || (r13 != r04))) && (r22 != 0))) hg (I (r05.length : Int))) rfl (by have h1_ := sd57z.resolve_left (by rw [hg]; decide); first | exact h1_ | exact h1_.1 | exact h1_.2 | omega | (have hx_ := hg; simp at hx_; omega))) ?_
    refine g_val ((!(((r22 != r14) || (r15 != r14)) || (r13 != r04))) && (r22 != 0)) (gy_gt rfl rfl) (fun hg => x_cmp (kd := .i64) (a := (r03.length : Int) + (r05.length : Int)) (b := 0) (r := decide (0 < ((r03.length : Int) + (r05.length : Int)))) (gd_of (c := ((!(((r22 != r14) || (r15 != r14)) || (r13 != r04))) && (r22 != 0))) hg (I ((r03.length : Int) + (r05.length : Int)))) rfl rfl) ?_
    refine g_val (!(((r22 != r14) || (r15 != r14)) || (r13 != r04))) (gy_f rfl) (fun hg => x_pand (b := r22 != 0) (r := decide (0 < ((r03.length : Int) + (r05.length : Int)))) (gd_of (c := !(((r22 != r14) || (r15 != r14)) || (r13 != r04))) hg (B (r22 != 0))) (fun hb => gd_of (c := ((!(((r22 != r14) || (r15 != r14)) || (r13 != r04))) && (r22 != 0))) (by first | exact hb | (rw [hb]; rfl) | simp_all) (B (decide (0 < ((r03.length : Int) + (r05.length : Int)))))) rfl) ?_
    refine s_val (x_por (b := (((r22 != r14) || (r15 != r14)) || (r13 != r04))) (r := ((r22 != 0) && (decide (0 < ((r03.length : Int) + (r05.length : Int)))))) rfl rfl (fun hb => gd_of (c := !(((r22 != r14) || (r15 != r14)) || (r13 != r04))) (by first | exact hb | (rw [hb]; rfl) | simp_all) (B ((r22 != 0) && (decide (0 < ((r03.length : Int) + (r05.length : Int)))))))) ?_
    refine s_nil ?_
    refine W.cond ((((r22 != r14) || (r15 != r14)) || (r13 != r04)) || ((r22 != 0) && (decide (0 < ((r03.length : Int) + (r05.length : Int)))))) rfl (fun c58z => ?_) (fun c58z => ?_)
    ·replace hM := M.e_t hM c58z
     refine W.seq ?_
     refine W.region rfl ?_
     refine s_val (x_as (v := B false) rfl) ?_
     refine s_nil ?_
     refine W.ret ?_
     have hr_ := M.e_pure hM
     exact ⟨_, resE_tmp rfl, ⟨false, hr_, rfl, (H.pick [] (by decide) rfl)⟩⟩
    ·replace hM := M.e_f hM c58z
     refine W.skip ?_
     refine W.seq ?_
     refine W.seq ?_
     refine W.region rfl ?_
     refine s_val (x_mv (v := I r22) rfl) ?_
     refine s_val (x_cmp (kd := .i64) (a := r22) (b := 0) (r := r22 == 0) rfl rfl rfl) ?_
     refine s_nil ?_
     refine W.cond (r22 == 0) rfl (fun c59z => ?_) (fun c59z => ?_)
     ·replace hM := M.e_t hM c59z
      simp only [decide_eq_true_eq, decide_eq_false_iff_not, beq_iff_eq, bne_iff_ne, beq_eq_false_iff_ne, bne_eq_false_iff_eq, ne_eq, Decidable.not_not] at c59z
      refine W.seq ?_
      refine W.seq ?_
      refine W.region rfl ?_
      refine s_val (x_mv (v := u0_4) rfl) ?_
      refine s_val (x_mv (v := I apart) rfl) ?_
      refine s_val (x_mv (v := I threshold) rfl) ?_
      refine s_val (x_mv (v := u0_5) rfl) ?_
      obtain ⟨r61z, hx60z, hM⟩ := M.e_bind hM
      refine s_call cf36 [u0_4, I apart, I threshold, u0_5] rfl (nilometerref10_Worth_ok r6 apart threshold r03 (Reads.of (k := 2) rfl ownLe) (ownSl (H.get (k := 2) rfl)) (Reads.of (k := 1) rfl ownLe) (ownSl (H.get (k := 1) rfl)) hx60z _ (St.give (T := [cOwn (α := Int) 3 u0_6 r05, cOwn (α := Int) 3 u0_5 r03, cOwn (α := Pk) 135 u0_4 r6, cOwn (α := Int) 3 u0_3 r5, cOwn (α := Int) 3 u0_2 r4, cOwn (α := Pk) 72 u0_1 r3]) H rfl)) ?_
      rintro vq w62z ⟨r06, r16, hr63z, hvq, H2_⟩
      subst hr63z
      subst vq
      try dsimp only at hM
      replace H : St w w62z [cOwn (α := Int) 3 u0_6 r05, cOwn (α := Int) 3 u0_5 r03, cOwn (α := Pk) 135 u0_4 r6, cOwn (α := Int) 3 u0_3 r5, cOwn (α := Int) 3 u0_2 r4, cOwn (α := Pk) 72 u0_1 r3] R := H.back H2_ rfl
      clear H2_
      refine s_val (x_mv (v := .tuple #[I r06, I r16]) rfl) ?_
      refine s_val (x_ext (vs := [I r06, I r16]) (v := I r06) rfl rfl) ?_
      refine s_val (x_ext (vs := [I r06, I r16]) (v := I r16) rfl rfl) ?_
      refine s_val (x_as (v := I r06) rfl) ?_
      refine s_val (x_as (v := I r16) rfl) ?_
      refine s_nil ?_
      refine W.seq ?_
      refine W.region rfl ?_
      refine s_val (x_mv (v := I r16) rfl) ?_
      refine s_val (x_cmp (kd := .i64) (a := r16) (b := 0) (r := r16 != 0) rfl rfl rfl) ?_
      refine s_val (x_mv (v := B (r16 != 0)) rfl) ?_
      refine g_val (!(r16 != 0)) (gy_f rfl) (fun hg => x_mv (v := I r06) rfl) ?_
      refine g_val (!(r16 != 0)) (gy_f rfl) (fun hg => x_mv (v := I r13) rfl) ?_
      refine g_val (!(r16 != 0)) (gy_f rfl) (fun hg => x_cmp (kd := .i64) (a := r06) (b := r13) (r := r06 != r13) (gd_of (c := !(r16 != 0)) hg (I r06)) (gd_of (c := !(r16 != 0)) hg (I r13)) rfl) ?_
      refine s_val (x_por (b := r16 != 0) (r := r06 != r13) rfl rfl (fun hb => gd_of (c := !(r16 != 0)) (by first | exact hb | (rw [hb]; rfl) | simp_all) (B (r06 != r13)))) ?_
      refine s_nil ?_
      refine W.cond ((r16 != 0) || (r06 != r13)) rfl (fun c64z => ?_) (fun c64z => ?_)
      ·replace hM := M.e_t hM c64z
       refine W.seq ?_
       refine W.region rfl ?_
       refine s_val (x_as (v := B false) rfl) ?_
       refine s_nil ?_
       refine W.ret ?_
       have hr_ := M.e_pure hM
       exact ⟨_, resE_tmp rfl, ⟨false, hr_, rfl, (H.pick [] (by decide) rfl)⟩⟩
      ·replace hM := M.e_f hM c64z
       refine W.skip ?_
       refine W.seq ?_
       refine W.region rfl ?_
       refine s_val (x_mv (v := u0_4) rfl) ?_
       refine s_val (x_mv (v := I apart) rfl) ?_
       refine s_val (x_mv (v := I threshold) rfl) ?_
       refine s_val (x_mv (v := I r13) rfl) ?_
       refine s_val (x_mv (v := u0_6) rfl) ?_
       obtain ⟨r66z, hx65z, hM⟩ := M.e_bind hM
       refine s_call cf40 [u0_4, I apart, I threshold, I r13, u0_6] rfl (nilometerref10_Proves_ok r6 apart threshold r13 r05 (Reads.of (k := 2) rfl ownLe) (ownSl (H.get (k := 2) rfl)) (Reads.of (k := 0) rfl ownLe) (ownSl (H.get (k := 0) rfl)) hx65z _ (St.give (T := [cOwn (α := Int) 3 u0_6 r05, cOwn (α := Int) 3 u0_5 r03, cOwn (α := Pk) 135 u0_4 r6, cOwn (α := Int) 3 u0_3 r5, cOwn (α := Int) 3 u0_2 r4, cOwn (α := Pk) 72 u0_1 r3]) H rfl)) ?_
       rintro vq w67z ⟨r07, r17, hr68z, hvq, H2_⟩
       subst hr68z
       subst vq
       try dsimp only at hM
       replace H : St w w67z [cOwn (α := Int) 3 u0_6 r05, cOwn (α := Int) 3 u0_5 r03, cOwn (α := Pk) 135 u0_4 r6, cOwn (α := Int) 3 u0_3 r5, cOwn (α := Int) 3 u0_2 r4, cOwn (α := Pk) 72 u0_1 r3] R := H.back H2_ rfl
       clear H2_
       refine s_val (x_mv (v := .tuple #[B r07, I r17]) rfl) ?_
       refine s_val (x_ext (vs := [B r07, I r17]) (v := B r07) rfl rfl) ?_
       refine s_val (x_ext (vs := [B r07, I r17]) (v := I r17) rfl rfl) ?_
       refine s_val (x_as (v := B r07) rfl) ?_
       refine s_val (x_as (v := I r17) rfl) ?_
       refine s_nil ?_
       refine W.seq ?_
       refine W.region rfl ?_
       refine s_val (x_mv (v := I r17) rfl) ?_
       refine s_val (x_cmp (kd := .i64) (a := r17) (b := 0) (r := r17 != 0) rfl rfl rfl) ?_
       refine s_val (x_mv (v := B (r17 != 0)) rfl) ?_
       refine g_val (!(r17 != 0)) (gy_f rfl) (fun hg => x_mv (v := B r07) rfl) ?_
       refine g_val (!(r17 != 0)) (gy_f rfl) (fun hg => x_not (b := r07) (gd_of (c := !(r17 != 0)) hg (B r07))) ?_
       refine s_val (x_por (b := r17 != 0) (r := !r07) rfl rfl (fun hb => gd_of (c := !(r17 != 0)) (by first | exact hb | (rw [hb]; rfl) | simp_all) (B (!r07)))) ?_
       refine s_nil ?_
       refine W.cond ((r17 != 0) || (!r07)) rfl (fun c69z => ?_) (fun c69z => ?_)
       ·replace hM := M.e_t hM c69z
        refine W.seq ?_
        refine W.region rfl ?_
        refine s_val (x_as (v := B false) rfl) ?_
        refine s_nil ?_
        refine W.ret ?_
        have hr_ := M.e_pure hM
        exact ⟨_, resE_tmp rfl, ⟨false, hr_, rfl, (H.pick [] (by decide) rfl)⟩⟩
       ·replace hM := M.e_f hM c69z
        refine W.skip ?_
        refine W.seq ?_
        refine W.region rfl ?_
        refine s_val (x_mv (v := u0_1) rfl) ?_
        refine s_val (x_mv (v := I apart) rfl) ?_
        refine s_val (x_mv (v := I threshold) rfl) ?_
        refine s_val (x_mv (v := I worth) rfl) ?_
        refine s_val (x_mv (v := u0_3) rfl) ?_
        obtain ⟨r71z, hx70z, hM⟩ := M.e_bind hM
        refine s_call cf41 [u0_1, I apart, I threshold, I worth, u0_3] rfl (often_Proves_ok r3 apart threshold worth r5 (Reads.of (k := 5) rfl ownLe) (ownSl (H.get (k := 5) rfl)) (Reads.of (k := 3) rfl ownLe) (ownSl (H.get (k := 3) rfl)) hx70z _ (St.give (T := [cOwn (α := Int) 3 u0_6 r05, cOwn (α := Int) 3 u0_5 r03, cOwn (α := Pk) 135 u0_4 r6, cOwn (α := Int) 3 u0_3 r5, cOwn (α := Int) 3 u0_2 r4, cOwn (α := Pk) 72 u0_1 r3]) H rfl)) ?_
        rintro vq w72z ⟨r08, r18, hr73z, hvq, H2_⟩
        subst hr73z
        subst vq
        try dsimp only at hM
        replace H : St w w72z [cOwn (α := Int) 3 u0_6 r05, cOwn (α := Int) 3 u0_5 r03, cOwn (α := Pk) 135 u0_4 r6, cOwn (α := Int) 3 u0_3 r5, cOwn (α := Int) 3 u0_2 r4, cOwn (α := Pk) 72 u0_1 r3] R := H.back H2_ rfl
        clear H2_
        refine s_val (x_mv (v := .tuple #[B r08, I r18]) rfl) ?_
        refine s_val (x_ext (vs := [B r08, I r18]) (v := B r08) rfl rfl) ?_
        refine s_val (x_ext (vs := [B r08, I r18]) (v := I r18) rfl rfl) ?_
        refine s_val (x_as (v := B r08) rfl) ?_
        refine s_val (x_as (v := I r18) rfl) ?_
        refine s_nil ?_
        refine W.seq ?_
        refine W.region rfl ?_
        refine s_val (x_mv (v := u0_4) rfl) ?_
        refine s_val (x_mv (v := I apart) rfl) ?_
        refine s_val (x_mv (v := I threshold) rfl) ?_
        refine s_val (x_mv (v := I worth) rfl) ?_
        refine s_val (x_mv (v := v_dues) rfl) ?_
        obtain ⟨r75z, hx74z, hM⟩ := M.e_bind hM
        refine s_call cf40 [u0_4, I apart, I threshold, I worth, v_dues] rfl (nilometerref10_Proves_ok r6 apart threshold worth dues (Reads.of (k := 2) rfl ownLe) (ownSl (H.get (k := 2) rfl)) (hC_dues.app _) hs_dues hx74z _ (St.give (T := [cOwn (α := Int) 3 u0_6 r05, cOwn (α := Int) 3 u0_5 r03, cOwn (α := Pk) 135 u0_4 r6, cOwn (α := Int) 3 u0_3 r5, cOwn (α := Int) 3 u0_2 r4, cOwn (α := Pk) 72 u0_1 r3]) H rfl)) ?_
        rintro vq w76z ⟨r09, r19, hr77z, hvq, H2_⟩
        subst hr77z
        subst vq
        try dsimp only at hM
        replace H : St w w76z [cOwn (α := Int) 3 u0_6 r05, cOwn (α := Int) 3 u0_5 r03, cOwn (α := Pk) 135 u0_4 r6, cOwn (α := Int) 3 u0_3 r5, cOwn (α := Int) 3 u0_2 r4, cOwn (α := Pk) 72 u0_1 r3] R := H.back H2_ rfl
        clear H2_
        refine s_val (x_mv (v := .tuple #[B r09, I r19]) rfl) ?_
        refine s_val (x_ext (vs := [B r09, I r19]) (v := B r09) rfl rfl) ?_
        refine s_val (x_ext (vs := [B r09, I r19]) (v := I r19) rfl rfl) ?_
        refine s_val (x_as (v := B r09) rfl) ?_
        refine s_val (x_as (v := I r19) rfl) ?_
        refine s_nil ?_
        refine W.seq ?_
        refine W.region rfl ?_
        refine s_val (x_mv (v := I r18) rfl) ?_
        refine s_val (x_mv (v := I r19) rfl) ?_
        refine s_val (x_cmp (kd := .i64) (a := r18) (b := r19) (r := r18 == r19) rfl rfl rfl) ?_
        refine s_val (x_mv (v := B (r18 == r19)) rfl) ?_
        refine g_val (r18 == r19) (gy_t rfl) (fun hg => x_mv (v := B r08) rfl) ?_
        refine g_val (r18 == r19) (gy_t rfl) (fun hg => x_mv (v := B r09) rfl) ?_
        refine g_val (r18 == r19) (gy_t rfl) (fun hg => x_eqb (a := r08) (b := r09) (r := (r08 == r09)) (gd_of (c := r18 == r19) hg (B r08)) (gd_of (c := r18 == r19) hg (B r09)) Try.underlying4 rfl) ?_
        refine s_val (x_pand (b := r18 == r19) (r := (r08 == r09)) rfl (fun hb => gd_of (c := r18 == r19) (by first | exact hb | (rw [hb]; rfl) | simp_all) (B (r08 == r09))) rfl) ?_
        refine s_val (x_mv (v := B ((r18 == r19) && (r08 == r09))) rfl) ?_
        refine g_val ((r18 == r19) && (r08 == r09)) (gy_t rfl) (fun hg => x_mv (v := u0_1) rfl) ?_
        refine g_val ((r18 == r19) && (r08 == r09)) (gy_t rfl) (fun hg => x_mv (v := v_l) rfl) ?_
        obtain ⟨r9, hx78z, hM⟩ := M.e_bind hM
        refine t_gcall ((r18 == r19) && (r08 == r09)) (gy_t rfl) cf42 (B r9) (fun _ => [u0_1, v_l]) (fun hg => lst2 (gd_of (c := ((r18 == r19) && (r08 == r09))) hg (u0_1)) (gd_of (c := ((r18 == r19) && (r08 == r09))) hg (v_l))) H (fun hg => (nilometerkit_Same_often_Peak_ok r3 l (Reads.of (k := 5) rfl ownLe) (ownSl (H.get (k := 5) rfl)) (hC_l.app _) hs_l (M.e_opt hx78z hg) _ (H.give (A := []) rfl)).mono fun v_ w_ ⟨y_, hr_, hv_, H_⟩ => by subst hr_; exact ⟨hv_, H.via H_⟩) ?_
        intro w79z H
        refine s_val (x_pand (b := ((r18 == r19) && (r08 == r09))) (r := r9) rfl (fun hb => gd_of (c := ((r18 == r19) && (r08 == r09))) (by first | exact hb | (rw [hb]; rfl) | simp_all) (B r9)) rfl) ?_
        refine s_val (x_mv (v := B (((r18 == r19) && (r08 == r09)) && r9)) rfl) ?_
        refine g_val (((r18 == r19) && (r08 == r09)) && r9) (gy_t rfl) (fun hg => x_mv (v := u0_2) rfl) ?_
        refine g_val (((r18 == r19) && (r08 == r09)) && r9) (gy_t rfl) (fun hg => x_mv (v := v_choice) rfl) ?_
        obtain ⟨r10, hx80z, hM⟩ := M.e_bind hM
        refine t_gcall (((r18 == r19) && (r08 == r09)) && r9) (gy_t rfl) cf43 (B r10) (fun _ => [u0_2, v_choice]) (fun hg => lst2 (gd_of (c := (((r18 == r19) && (r08 == r09)) && r9)) hg (u0_2)) (gd_of (c := (((r18 == r19) && (r08 == r09)) && r9)) hg (v_choice))) H (fun hg => (nilometerkit_Same_int_ok r4 choice (Reads.of (k := 4) rfl ownLe) (ownSl (H.get (k := 4) rfl)) (hC_choice.app _) hs_choice (M.e_opt hx80z hg) _ (H.give (A := []) rfl)).mono fun v_ w_ ⟨y_, hr_, hv_, H_⟩ => by subst hr_; exact ⟨hv_, H.via H_⟩) ?_
        intro w81z H
        refine s_val (x_pand (b := (((r18 == r19) && (r08 == r09)) && r9)) (r := r10) rfl (fun hb => gd_of (c := (((r18 == r19) && (r08 == r09)) && r9)) (by first | exact hb | (rw [hb]; rfl) | simp_all) (B r10)) rfl) ?_
        refine s_val (x_mv (v := B ((((r18 == r19) && (r08 == r09)) && r9) && r10)) rfl) ?_
        refine g_val ((((r18 == r19) && (r08 == r09)) && r9) && r10) (gy_t rfl) (fun hg => x_mv (v := u0_3) rfl) ?_
        refine g_val ((((r18 == r19) && (r08 == r09)) && r9) && r10) (gy_t rfl) (fun hg => x_mv (v := v_dues) rfl) ?_
        obtain ⟨r11, hx82z, hM⟩ := M.e_bind hM
        refine t_gcall ((((r18 == r19) && (r08 == r09)) && r9) && r10) (gy_t rfl) cf43 (B r11) (fun _ => [u0_3, v_dues]) (fun hg => lst2 (gd_of (c := ((((r18 == r19) && (r08 == r09)) && r9) && r10)) hg (u0_3)) (gd_of (c := ((((r18 == r19) && (r08 == r09)) && r9) && r10)) hg (v_dues))) H (fun hg => (nilometerkit_Same_int_ok r5 dues (Reads.of (k := 3) rfl ownLe) (ownSl (H.get (k := 3) rfl)) (hC_dues.app _) hs_dues (M.e_opt hx82z hg) _ (H.give (A := []) rfl)).mono fun v_ w_ ⟨y_, hr_, hv_, H_⟩ => by subst hr_; exact ⟨hv_, H.via H_⟩) ?_
        intro w83z H
        refine s_val (x_pand (b := ((((r18 == r19) && (r08 == r09)) && r9) && r10)) (r := r11) rfl (fun hb => gd_of (c := ((((r18 == r19) && (r08 == r09)) && r9) && r10)) (by first | exact hb | (rw [hb]; rfl) | simp_all) (B r11)) rfl) ?_
        refine s_val (x_mv (v := B (((((r18 == r19) && (r08 == r09)) && r9) && r10) && r11)) rfl) ?_
        obtain ⟨r20, hx84z, hM⟩ := M.e_bind hM
        refine t_gcall (((((r18 == r19) && (r08 == r09)) && r9) && r10) && r11) (gy_t rfl) cf18 (B r20) (fun _ => []) (fun _ => rfl) H (fun hg => (nilometerlaw10_awake_ok (M.e_opt hx84z hg) _ (H.give (A := []) rfl)).mono fun v_ w_ ⟨y_, hr_, hv_, H_⟩ => by subst hr_; exact ⟨hv_, H.via H_⟩) ?_
        intro w85z H
        refine s_val (x_pand (b := (((((r18 == r19) && (r08 == r09)) && r9) && r10) && r11)) (r := r20) rfl (fun hb => gd_of (c := (((((r18 == r19) && (r08 == r09)) && r9) && r10) && r11)) (by first | exact hb | (rw [hb]; rfl) | simp_all) (B r20)) rfl) ?_
        refine s_val (x_as (v := B ((((((r18 == r19) && (r08 == r09)) && r9) && r10) && r11) && r20)) rfl) ?_
        refine s_nil ?_
        refine W.ret ?_
        have hr_ := M.e_pure hM
        exact ⟨_, resE_tmp rfl, ⟨((((((r18 == r19) && (r08 == r09)) && r9) && r10) && r11) && r20), hr_, rfl, (H.pick [] (by decide) rfl)⟩⟩
     ·replace hM := M.e_f hM c59z
      simp only [decide_eq_true_eq, decide_eq_false_iff_not, beq_iff_eq, bne_iff_ne, beq_eq_false_iff_ne, bne_eq_false_iff_eq, ne_eq, Decidable.not_not] at c59z
      refine W.skip ?_
      refine W.seq ?_
      refine W.region rfl ?_
      refine s_val (x_mv (v := u0_1) rfl) ?_
      refine s_val (x_mv (v := I apart) rfl) ?_
      refine s_val (x_mv (v := I threshold) rfl) ?_
      refine s_val (x_mv (v := I worth) rfl) ?_
      refine s_val (x_mv (v := u0_3) rfl) ?_
      obtain ⟨r87z, hx86z, hM⟩ := M.e_bind hM
      refine s_call cf41 [u0_1, I apart, I threshold, I worth, u0_3] rfl (often_Proves_ok r3 apart threshold worth r5 (Reads.of (k := 5) rfl ownLe) (ownSl (H.get (k := 5) rfl)) (Reads.of (k := 3) rfl ownLe) (ownSl (H.get (k := 3) rfl)) hx86z _ (St.give (T := [cOwn (α := Int) 3 u0_6 r05, cOwn (α := Int) 3 u0_5 r03, cOwn (α := Pk) 135 u0_4 r6, cOwn (α := Int) 3 u0_3 r5, cOwn (α := Int) 3 u0_2 r4, cOwn (α := Pk) 72 u0_1 r3]) H rfl)) ?_
      rintro vq w88z ⟨r08, r18, hr89z, hvq, H2_⟩
      subst hr89z
      subst vq
      try dsimp only at hM
      replace H : St w w88z [cOwn (α := Int) 3 u0_6 r05, cOwn (α := Int) 3 u0_5 r03, cOwn (α := Pk) 135 u0_4 r6, cOwn (α := Int) 3 u0_3 r5, cOwn (α := Int) 3 u0_2 r4, cOwn (α := Pk) 72 u0_1 r3] R := H.back H2_ rfl
      clear H2_
      refine s_val (x_mv (v := .tuple #[B r08, I r18]) rfl) ?_
      refine s_val (x_ext (vs := [B r08, I r18]) (v := B r08) rfl rfl) ?_
      refine s_val (x_ext (vs := [B r08, I r18]) (v := I r18) rfl rfl) ?_
      refine s_val (x_as (v := B r08) rfl) ?_
      refine s_val (x_as (v := I r18) rfl) ?_
      refine s_nil ?_
      refine W.seq ?_
      refine W.region rfl ?_
      refine s_val (x_mv (v := u0_4) rfl) ?_
      refine s_val (x_mv (v := I apart) rfl) ?_
      refine s_val (x_mv (v := I threshold) rfl) ?_
      refine s_val (x_mv (v := I worth) rfl) ?_
      refine s_val (x_mv (v := v_dues) rfl) ?_
      obtain ⟨r91z, hx90z, hM⟩ := M.e_bind hM
      refine s_call cf40 [u0_4, I apart, I threshold, I worth, v_dues] rfl (nilometerref10_Proves_ok r6 apart threshold worth dues (Reads.of (k := 2) rfl ownLe) (ownSl (H.get (k := 2) rfl)) (hC_dues.app _) hs_dues hx90z _ (St.give (T := [cOwn (α := Int) 3 u0_6 r05, cOwn (α := Int) 3 u0_5 r03, cOwn (α := Pk) 135 u0_4 r6, cOwn (α := Int) 3 u0_3 r5, cOwn (α := Int) 3 u0_2 r4, cOwn (α := Pk) 72 u0_1 r3]) H rfl)) ?_
      rintro vq w92z ⟨r09, r19, hr93z, hvq, H2_⟩
      subst hr93z
      subst vq
      try dsimp only at hM
      replace H : St w w92z [cOwn (α := Int) 3 u0_6 r05, cOwn (α := Int) 3 u0_5 r03, cOwn (α := Pk) 135 u0_4 r6, cOwn (α := Int) 3 u0_3 r5, cOwn (α := Int) 3 u0_2 r4, cOwn (α := Pk) 72 u0_1 r3] R := H.back H2_ rfl
      clear H2_
      refine s_val (x_mv (v := .tuple #[B r09, I r19]) rfl) ?_
      refine s_val (x_ext (vs := [B r09, I r19]) (v := B r09) rfl rfl) ?_
      refine s_val (x_ext (vs := [B r09, I r19]) (v := I r19) rfl rfl) ?_
      refine s_val (x_as (v := B r09) rfl) ?_
      refine s_val (x_as (v := I r19) rfl) ?_
      refine s_nil ?_
      refine W.seq ?_
      refine W.region rfl ?_
      refine s_val (x_mv (v := I r18) rfl) ?_
      refine s_val (x_mv (v := I r19) rfl) ?_
      refine s_val (x_cmp (kd := .i64) (a := r18) (b := r19) (r := r18 == r19) rfl rfl rfl) ?_
      refine s_val (x_mv (v := B (r18 == r19)) rfl) ?_
      refine g_val (r18 == r19) (gy_t rfl) (fun hg => x_mv (v := B r08) rfl) ?_
      refine g_val (r18 == r19) (gy_t rfl) (fun hg => x_mv (v := B r09) rfl) ?_
      refine g_val (r18 == r19) (gy_t rfl) (fun hg => x_eqb (a := r08) (b := r09) (r := (r08 == r09)) (gd_of (c := r18 == r19) hg (B r08)) (gd_of (c := r18 == r19) hg (B r09)) Try.underlying4 rfl) ?_
      refine s_val (x_pand (b := r18 == r19) (r := (r08 == r09)) rfl (fun hb => gd_of (c := r18 == r19) (by first | exact hb | (rw [hb]; rfl) | simp_all) (B (r08 == r09))) rfl) ?_
      refine s_val (x_mv (v := B ((r18 == r19) && (r08 == r09))) rfl) ?_
      refine g_val ((r18 == r19) && (r08 == r09)) (gy_t rfl) (fun hg => x_mv (v := u0_1) rfl) ?_
      refine g_val ((r18 == r19) && (r08 == r09)) (gy_t rfl) (fun hg => x_mv (v := v_l) rfl) ?_
      obtain ⟨r9, hx94z, hM⟩ := M.e_bind hM
      refine t_gcall ((r18 == r19) && (r08 == r09)) (gy_t rfl) cf42 (B r9) (fun _ => [u0_1, v_l]) (fun hg => lst2 (gd_of (c := ((r18 == r19) && (r08 == r09))) hg (u0_1)) (gd_of (c := ((r18 == r19) && (r08 == r09))) hg (v_l))) H (fun hg => (nilometerkit_Same_often_Peak_ok r3 l (Reads.of (k := 5) rfl ownLe) (ownSl (H.get (k := 5) rfl)) (hC_l.app _) hs_l (M.e_opt hx94z hg) _ (H.give (A := []) rfl)).mono fun v_ w_ ⟨y_, hr_, hv_, H_⟩ => by subst hr_; exact ⟨hv_, H.via H_⟩) ?_
      intro w95z H
      refine s_val (x_pand (b := ((r18 == r19) && (r08 == r09))) (r := r9) rfl (fun hb => gd_of (c := ((r18 == r19) && (r08 == r09))) (by first | exact hb | (rw [hb]; rfl) | simp_all) (B r9)) rfl) ?_
      refine s_val (x_mv (v := B (((r18 == r19) && (r08 == r09)) && r9)) rfl) ?_
      refine g_val (((r18 == r19) && (r08 == r09)) && r9) (gy_t rfl) (fun hg => x_mv (v := u0_2) rfl) ?_
      refine g_val (((r18 == r19) && (r08 == r09)) && r9) (gy_t rfl) (fun hg => x_mv (v := v_choice) rfl) ?_
      obtain ⟨r10, hx96z, hM⟩ := M.e_bind hM
      refine t_gcall (((r18 == r19) && (r08 == r09)) && r9) (gy_t rfl) cf43 (B r10) (fun _ => [u0_2, v_choice]) (fun hg => lst2 (gd_of (c := (((r18 == r19) && (r08 == r09)) && r9)) hg (u0_2)) (gd_of (c := (((r18 == r19) && (r08 == r09)) && r9)) hg (v_choice))) H (fun hg => (nilometerkit_Same_int_ok r4 choice (Reads.of (k := 4) rfl ownLe) (ownSl (H.get (k := 4) rfl)) (hC_choice.app _) hs_choice (M.e_opt hx96z hg) _ (H.give (A := []) rfl)).mono fun v_ w_ ⟨y_, hr_, hv_, H_⟩ => by subst hr_; exact ⟨hv_, H.via H_⟩) ?_
      intro w97z H
      refine s_val (x_pand (b := (((r18 == r19) && (r08 == r09)) && r9)) (r := r10) rfl (fun hb => gd_of (c := (((r18 == r19) && (r08 == r09)) && r9)) (by first | exact hb | (rw [hb]; rfl) | simp_all) (B r10)) rfl) ?_
      refine s_val (x_mv (v := B ((((r18 == r19) && (r08 == r09)) && r9) && r10)) rfl) ?_
      refine g_val ((((r18 == r19) && (r08 == r09)) && r9) && r10) (gy_t rfl) (fun hg => x_mv (v := u0_3) rfl) ?_
      refine g_val ((((r18 == r19) && (r08 == r09)) && r9) && r10) (gy_t rfl) (fun hg => x_mv (v := v_dues) rfl) ?_
      obtain ⟨r11, hx98z, hM⟩ := M.e_bind hM
      refine t_gcall ((((r18 == r19) && (r08 == r09)) && r9) && r10) (gy_t rfl) cf43 (B r11) (fun _ => [u0_3, v_dues]) (fun hg => lst2 (gd_of (c := ((((r18 == r19) && (r08 == r09)) && r9) && r10)) hg (u0_3)) (gd_of (c := ((((r18 == r19) && (r08 == r09)) && r9) && r10)) hg (v_dues))) H (fun hg => (nilometerkit_Same_int_ok r5 dues (Reads.of (k := 3) rfl ownLe) (ownSl (H.get (k := 3) rfl)) (hC_dues.app _) hs_dues (M.e_opt hx98z hg) _ (H.give (A := []) rfl)).mono fun v_ w_ ⟨y_, hr_, hv_, H_⟩ => by subst hr_; exact ⟨hv_, H.via H_⟩) ?_
      intro w99z H
      refine s_val (x_pand (b := ((((r18 == r19) && (r08 == r09)) && r9) && r10)) (r := r11) rfl (fun hb => gd_of (c := ((((r18 == r19) && (r08 == r09)) && r9) && r10)) (by first | exact hb | (rw [hb]; rfl) | simp_all) (B r11)) rfl) ?_
      refine s_val (x_mv (v := B (((((r18 == r19) && (r08 == r09)) && r9) && r10) && r11)) rfl) ?_
      obtain ⟨r20, hx100z, hM⟩ := M.e_bind hM
      refine t_gcall (((((r18 == r19) && (r08 == r09)) && r9) && r10) && r11) (gy_t rfl) cf18 (B r20) (fun _ => []) (fun _ => rfl) H (fun hg => (nilometerlaw10_awake_ok (M.e_opt hx100z hg) _ (H.give (A := []) rfl)).mono fun v_ w_ ⟨y_, hr_, hv_, H_⟩ => by subst hr_; exact ⟨hv_, H.via H_⟩) ?_
      intro w101z H
      refine s_val (x_pand (b := (((((r18 == r19) && (r08 == r09)) && r9) && r10) && r11)) (r := r20) rfl (fun hb => gd_of (c := (((((r18 == r19) && (r08 == r09)) && r9) && r10) && r11)) (by first | exact hb | (rw [hb]; rfl) | simp_all) (B r20)) rfl) ?_
      refine s_val (x_as (v := B ((((((r18 == r19) && (r08 == r09)) && r9) && r10) && r11) && r20)) rfl) ?_
      refine s_nil ?_
      refine W.ret ?_
      have hr_ := M.e_pure hM
      exact ⟨_, resE_tmp rfl, ⟨((((((r18 == r19) && (r08 == r09)) && r9) && r10) && r11) && r20), hr_, rfl, (H.pick [] (by decide) rfl)⟩⟩

end Go.Proofs.Ytcgalcbkkijkhaa
namespace Go.Nm
namespace M
variable {α β σ ρ : Type}
def Out (m : M α) (Q : α → Prop) : Prop := ∃ r, m.Ends r ∧ Q r
theorem o_of {m : M α} {a : α} {Q : α → Prop} (h : m.Ends a) (q : Q a) : m.Out Q := ⟨a, h, q⟩
theorem o_pure {a : α} {Q : α → Prop} (h : Q a) : (pure a).Out Q := ⟨a, i_pure, h⟩
theorem o_mono {m : M α} {P Q : α → Prop} (h : m.Out P) (k : ∀ a, P a → Q a) : m.Out Q := by
  obtain ⟨a, h1, h2⟩ := h
  exact ⟨a, h1, k a h2⟩
theorem o_bind {m : M α} {k : α → M β} {P : α → Prop} {Q : β → Prop} (h : m.Out P) (h' : ∀ a, P a → (k a).Out Q) : (bind m k).Out Q := by
  obtain ⟨a, h1, h2⟩ := h
  obtain ⟨b, h3, h4⟩ := h' a h2
  exact ⟨b, i_bind h1 h3, h4⟩
theorem o_bindE {m : M α} {k : α → M β} {a : α} {Q : β → Prop} (h : m.Ends a) (h' : (k a).Out Q) : (bind m k).Out Q := o_bind (o_of (Q := fun x => x = a) h rfl) (fun _ e => by subst e; exact h')
theorem o_grd {b : Bool} {k : M α} {Q : α → Prop} (hb : b = true) (h : k.Out Q) : (grd b k).Out Q := by subst hb; exact h
theorem o_grdD {p : Prop} [Decidable p] {k : M α} {Q : α → Prop} (hp : p) (h : k.Out Q) : (grd (decide p) k).Out Q := o_grd (decide_eq_true hp) h
theorem o_if {b : Bool} {x y : M α} {Q : α → Prop} (h : b = true → x.Out Q) (h' : b = false → y.Out Q) : (bif b then x else y).Out Q := by
  cases b with
  | true => exact h rfl
  | false => exact h' rfl
theorem o_t {b : Bool} {x y : M α} {Q : α → Prop} (hb : b = true) (h : x.Out Q) : (bif b then x else y).Out Q := by subst hb; exact h
theorem o_f {b : Bool} {x y : M α} {Q : α → Prop} (hb : b = false) (h : y.Out Q) : (bif b then x else y).Out Q := by subst hb; exact h
/-- What a round leaves. -/
def Rd (J : Nat → σ → Prop) (Q : ρ → Prop) (m : Nat) : σ ⊕ ρ → Prop
  | .inl s => ∃ m', m' < m ∧ J m' s
  | .inr r => Q r
theorem o_iter {body : σ → M (σ ⊕ ρ)} {Q : ρ → Prop} (J : Nat → σ → Prop) (round : ∀ m s, J m s → (body s).Out (Rd J Q m)) : ∀ (m : Nat) (s : σ), J m s → (iter body s).Out Q := by
  intro m
  induction m using Nat.strongRecOn with
  | _ m ih =>
    intro s hs
    obtain ⟨x, h1, h2⟩ := round m s hs
    cases x with
    | inl s' =>
      obtain ⟨m', hlt, hj⟩ := h2
      obtain ⟨r, h3, h4⟩ := ih m' hlt s' hj
      exact ⟨r, i_next h1 h3, h4⟩
    | inr r => exact ⟨r, i_stop h1, h2⟩
/-- A loop that counts from 0 to n. -/
theorem o_for {body : σ → M (σ ⊕ ρ)} {Q : ρ → Prop} (n : Nat) (J : Nat → σ → Prop) (round : ∀ i s, i < n → J i s → (body s).Out (fun x => match x with | .inl s' => J (i + 1) s' | .inr r => Q r))
    (last : ∀ s, J n s → (body s).Out (fun x => match x with | .inl _ => False | .inr r => Q r)) {s : σ} (h : J 0 s) : (iter body s).Out Q := by
  refine o_iter (fun m s => ∃ i, i ≤ n ∧ m = n - i ∧ J i s) ?_ n s ⟨0, Nat.zero_le _, rfl, h⟩
  rintro m s ⟨i, hi, rfl, hj⟩
  by_cases e : i < n
  · refine o_mono (round i s e hj) ?_
    intro x hx
    cases x with
    | inl s' => exact ⟨n - (i + 1), by omega, i + 1, e, rfl, hx⟩
    | inr r => exact hx
  · obtain rfl : i = n := by omega
    refine o_mono (last s hj) ?_
    intro x hx
    cases x with
    | inl s' => exact hx.elim
    | inr r => exact hx
end M
theorem M.i_f {α : Type} {b : Bool} {x y : M α} {r : α} (hb : b = false) (h : y.Ends r) : (bif b then x else y).Ends r := by subst hb; exact h
theorem M.i_for {σ ρ : Type} {body : σ → M (σ ⊕ ρ)} {r : ρ} (st : Nat → σ) (n : Nat) (step : ∀ i, i < n → (body (st i)).Ends (.inl (st (i + 1)))) (fin : (body (st n)).Ends (.inr r)) : (M.iter body (st 0)).Ends r := by
  refine M.i_loop (r := r) (fun m s => ∃ i, i ≤ n ∧ m = n - i ∧ s = st i) ?_ n (st 0) ⟨0, Nat.zero_le _, rfl, rfl⟩
  rintro m s ⟨i, hi, rfl, rfl⟩
  by_cases h : i < n
  · exact .inl ⟨_, n - (i + 1), by omega, step i h, i + 1, h, rfl, rfl⟩
  · obtain rfl : i = n := by omega
    exact .inr fin
theorem M.i_t {α : Type} {b : Bool} {x y : M α} {r : α} (hb : b = true) (h : x.Ends r) : (bif b then x else y).Ends r := by subst hb; exact h
theorem take_succ_D {α : Type} (l : List α) (i : Nat) (h : i < l.length) (d : α) : l.take i ++ [l.getD i d] = l.take (i + 1) := by
  rw [List.take_succ_eq_append_getElem h]
  simp [List.getD, h]
theorem gset {α : Type} (l : List α) (i j : Nat) (x d : α) (h : i < l.length) : (l.set i x).getD j d = if j = i then x else l.getD j d := by
  simp only [List.getD_eq_getElem?_getD, List.getElem?_set]
  by_cases e : i = j
  · subst e; simp [h]
  · rw [if_neg e, if_neg (fun h => e h.symm)]
theorem getD_el {α : Type} (l : List α) {k : Nat} (h : k < l.length) (d : α) : l.getD k d = l[k] := by rw [List.getD_eq_getElem?_getD, List.getElem?_eq_getElem h, Option.getD_some]
theorem gA2 {p q : Prop} [Decidable p] [Decidable q] (hp : p) (hq : q) : (decide p && decide q) = true := by rw [decide_eq_true hp, decide_eq_true hq]; rfl
theorem gA3 {p q r : Prop} [Decidable p] [Decidable q] [Decidable r] (hp : p) (hq : q) (hr : r) : (decide p && decide q && decide r) = true := by rw [decide_eq_true hp, decide_eq_true hq, decide_eq_true hr]; rfl
theorem mem_getD {α : Type} {l : List α} {x : α} (h : x ∈ l) (d : α) : ∃ i, i < l.length ∧ l.getD i d = x := by
  obtain ⟨i, hi, e⟩ := List.getElem_of_mem h
  exact ⟨i, hi, by rw [getD_el l hi d]; exact e⟩
end Go.Nm
namespace Go.Nm
namespace Pk
/-- The first peak behind the flood of each one, and how many floods are over when a peak comes. -/
structure Fl (n : Nat) (nx kk : Nat → Nat) : Prop where
  lt : ∀ i, i < n → i < nx i
  le : ∀ i, i < n → nx i ≤ n
  kle : ∀ m, kk m ≤ m
  iff : ∀ i m, i < n → m ≤ n → (i < kk m ↔ nx i ≤ m)
namespace Fl
variable {n : Nat} {nx kk : Nat → Nat}
theorem kmono (F : Fl n nx kk) {a b : Nat} (h : a ≤ b) (hb : b ≤ n) : kk a ≤ kk b := by
  rcases Nat.lt_or_ge (kk b) (kk a) with hlt | hge
  · have h1 := F.kle a
    have h2 := (F.iff (kk b) a (by omega) (by omega)).1 hlt
    have h3 := (F.iff (kk b) b (by omega) (by omega)).2 (by omega)
    omega
  · exact hge
end Fl
/-- The greatest worth of the peaks ahead of one. -/
structure IsS (n : Nat) (v : Nat → Int) (kk : Nat → Nat) (S : Nat → Int) : Prop where
  z : S 0 = 0
  s : ∀ i, i < n → S (i + 1) = max (S i) (S (kk i) + v i)
/-- The greatest worth from a peak on. -/
structure IsB (n : Nat) (v : Nat → Int) (nx : Nat → Nat) (B : Nat → Int) : Prop where
  z : B n = 0
  s : ∀ i, i < n → B i = max (max 0 (B (i + 1))) (v i + B (nx i))
variable {n : Nat} {nx kk : Nat → Nat} {v S B : Nat → Int}
theorem IsS.mono (h : IsS n v kk S) : ∀ {a b : Nat}, a ≤ b → b ≤ n → S a ≤ S b := by
  intro a b hab
  induction hab with
  | refl => intro _; exact Int.le_refl _
  | @step m k ih =>
    intro hb
    have := ih (by omega)
    have e := h.s m (by omega)
    rw [Nat.succ_eq_add_one]
    omega
theorem IsB.anti (h : IsB n v nx B) : ∀ {a b : Nat}, a ≤ b → b ≤ n → B b ≤ B a := by
  intro a b hab
  induction hab with
  | refl => intro _; exact Int.le_refl _
  | @step m k ih =>
    intro hb
    have := ih (by omega)
    have e := h.s m (by omega)
    rw [Nat.succ_eq_add_one]
    omega
theorem IsB.pos (h : IsB n v nx B) {i : Nat} (hi : i ≤ n) : 0 ≤ B i := by
  have := h.anti hi (Nat.le_refl _)
  rw [h.z] at this
  exact this
theorem fwd (F : Fl n nx kk) (hS : IsS n v kk S) (hB : IsB n v nx B) : ∀ i, i ≤ n → ∀ m, m ≤ n → (∀ j, j < i → nx j ≤ m) → (i = 0 → True) → S i + B m ≤ B 0 := by
  intro i
  induction i using Nat.strongRecOn with
  | _ i ih =>
    intro hi m hm hj _
    cases i with
    | zero =>
      rw [hS.z]
      have := hB.anti (Nat.zero_le m) hm
      omega
    | succ i =>
      have e := hS.s i (by omega)
      have k1 := ih i (by omega) (by omega) m hm (fun j hj' => hj j (by omega)) (fun _ => trivial)
      have h1 := hj i (by omega)
      have b1 := hB.s i (by omega)
      have a1 := hB.anti h1 hm
      have kl := F.kle i
      have k2 := ih (kk i) (by omega) (by omega) i (by omega) (fun j hj' => (F.iff j i (by omega) (by omega)).1 hj') (fun _ => trivial)
      omega
theorem bwd (F : Fl n nx kk) (hS : IsS n v kk S) (hB : IsB n v nx B) : ∀ d i, i + d = n → B i + S (kk i) ≤ S n := by
  intro d
  induction d using Nat.strongRecOn with
  | _ d ih =>
    intro i hi
    cases d with
    | zero =>
      obtain rfl : i = n := by omega
      rw [hB.z]
      have := hS.mono (F.kle i) (Nat.le_refl _)
      omega
    | succ d =>
      have e := hB.s i (by omega)
      have k1 := ih d (by omega) (i + 1) (by omega)
      have m1 := hS.mono (F.kmono (Nat.le_succ i) (by omega)) (Nat.le_trans (F.kle (i + 1)) (by omega))
      have l1 := F.lt i (by omega)
      have l2 := F.le i (by omega)
      have k2 := ih (n - nx i) (by omega) (nx i) (by omega)
      have q := (F.iff i (nx i) (by omega) l2).2 (Nat.le_refl _)
      have m2 := hS.mono q (Nat.le_trans (F.kle (nx i)) l2)
      have s1 := hS.s i (by omega)
      have m3 := hS.mono (Nat.le_trans (F.kle i) (show i ≤ n by omega)) (Nat.le_refl n)
      rw [Nat.succ_eq_add_one] at *
      omega
/-- Reckoned from either end it is the same. -/
theorem both (F : Fl n nx kk) (hS : IsS n v kk S) (hB : IsB n v nx B) : B 0 = S n := by
  have h1 := fwd F hS hB n (Nat.le_refl _) n (Nat.le_refl _) (fun j hj => F.le j hj) (fun _ => trivial)
  have h2 := bwd F hS hB n 0 (by omega)
  have h3 : kk 0 = 0 := by have := F.kle 0; omega
  rw [h3, hS.z] at h2
  rw [hB.z] at h1
  omega
/-- The sum of a function's values from a to b. -/
def sm (d : Nat → Int) (a : Nat) : Nat → Int
  | 0 => 0
  | k + 1 => sm d a k + d (a + k)
theorem sm_add (d : Nat → Int) (a j k : Nat) : sm d a (j + k) = sm d a j + sm d (a + j) k := by
  induction k with
  | zero => simp [sm]
  | succ k ih => rw [← Nat.add_assoc]; simp only [sm]; rw [ih, Nat.add_assoc]; omega
end Pk
end Go.Nm
namespace Go.Nm
namespace Pk
def dayAt (l : List Pk) (i : Nat) : Int := (l.getD i default).day
def stAt (l : List Pk) (i : Nat) : Int := (l.getD i default).stage
/-- Days that rise. -/
def Up (l : List Pk) : Prop := ∀ i j, i < j → j < l.length → dayAt l i < dayAt l j
theorem Up.le {l : List Pk} (h : Up l) {i j : Nat} (hij : i ≤ j) (hj : j < l.length) : dayAt l i ≤ dayAt l j := by
  rcases Nat.lt_or_eq_of_le hij with e | e
  · have := h i j e hj
    omega
  · subst e; exact Int.le_refl _
theorem Up.lt_iff {l : List Pk} (h : Up l) {i j : Nat} (hi : i < l.length) (hj : j < l.length) : dayAt l i < dayAt l j ↔ i < j := by
  constructor
  · intro e
    rcases Nat.lt_or_ge i j with k | k
    · exact k
    · have := h.le k hi
      omega
  · intro e
    exact h i j e hj
theorem tw_lt {l : List Pk} {p : Pk → Bool} : ∀ {j : Nat}, j < (l.takeWhile p).length ↔ j < l.length ∧ ∀ k, k ≤ j → p (l.getD k default) = true := by
  induction l with
  | nil => intro j; simp
  | cons a l ih =>
    intro j
    rw [List.takeWhile_cons]
    by_cases e : p a = true
    · rw [if_pos e]
      cases j with
      | zero => simp [e]
      | succ j =>
        simp only [List.length_cons, Nat.succ_lt_succ_iff, ih]
        refine and_congr_right fun _ => ⟨fun h k hk => ?_, fun h k hk => ?_⟩
        · cases k with
          | zero => simpa using e
          | succ k => simpa using h k (by omega)
        · simpa using h (k + 1) (by omega)
    · rw [if_neg e]
      simp only [List.length_nil, Nat.not_lt_zero, false_iff]
      intro h
      exact e (by simpa using h.2 0 (Nat.zero_le _))
theorem tw_le (l : List Pk) (p : Pk → Bool) : (l.takeWhile p).length ≤ l.length := by
  induction l with
  | nil => simp
  | cons a l ih =>
    rw [List.takeWhile_cons]
    split
    · simpa using ih
    · simp
/-- The first peak whose day is not ahead of a day. -/
def fst (l : List Pk) (t : Int) : Nat := (l.takeWhile fun p => decide (p.day < t)).length
theorem fst_le (l : List Pk) (t : Int) : fst l t ≤ l.length := tw_le l _
theorem fst_lt {l : List Pk} (h : Up l) {t : Int} {j : Nat} (hj : j < l.length) : j < fst l t ↔ dayAt l j < t := by
  unfold fst
  rw [tw_lt]
  constructor
  · rintro ⟨_, k⟩
    simpa [dayAt] using k j (Nat.le_refl _)
  · intro e
    refine ⟨hj, fun k hk => ?_⟩
    have := h.le hk hj
    show decide (dayAt l k < t) = true
    exact decide_eq_true (by omega)
/-- It is the only such number. -/
theorem fst_eq {l : List Pk} (h : Up l) {t : Int} {k : Nat} (hk : k ≤ l.length) (h1 : ∀ j, j < k → dayAt l j < t) (h2 : k < l.length → t ≤ dayAt l k) : fst l t = k := by
  have hl := fst_le l t
  rcases Nat.lt_trichotomy (fst l t) k with e | e | e
  · have := (fst_lt h (t := t) (j := fst l t) (by omega)).2 (h1 _ e)
    omega
  · exact e
  · have := (fst_lt h (t := t) (j := k) (by omega)).1 e
    have := h2 (by omega)
    omega
def nx (l : List Pk) (A : Int) (i : Nat) : Nat := fst l (dayAt l i + A)
def kk (l : List Pk) (A : Int) (m : Nat) : Nat := if m < l.length then fst l (dayAt l m - A + 1) else l.length
theorem fl {l : List Pk} (h : Up l) {A : Int} (hA : 1 ≤ A) : Fl l.length (nx l A) (kk l A) where
  lt i hi := (fst_lt h hi).2 (by omega)
  le i _ := fst_le _ _
  kle m := by
    unfold kk
    split
    · rename_i hm
      rcases Nat.lt_or_ge m (fst l (dayAt l m - A + 1)) with e | e
      · have := (fst_lt h hm).1 e
        omega
      · exact e
    · omega
  iff i m hi hm := by
    unfold kk nx
    split
    · rename_i hm
      rw [fst_lt h hi]
      have := fst_lt h (t := dayAt l i + A) hm
      omega
    · have := fst_le l (dayAt l i + A)
      omega
end Pk
end Go.Nm
namespace Go.Nm
namespace Pk
/-- The greatest worth of the peaks ahead of one. -/
def Sf (kk : Nat → Nat) (v : Nat → Int) : Nat → Int
  | 0 => 0
  | i + 1 => max (Sf kk v i) (Sf kk v (min (kk i) i) + v i)
termination_by i => i
decreasing_by all_goals omega
theorem sf_is {n : Nat} {nx kk : Nat → Nat} (F : Fl n nx kk) (v : Nat → Int) : IsS n v kk (Sf kk v) where
  z := by rw [Sf]
  s i _ := by rw [Sf, Nat.min_eq_left (F.kle i)]
theorem IsS.uniq {n : Nat} {nx kk : Nat → Nat} {v S S' : Nat → Int} (F : Fl n nx kk) (h : IsS n v kk S) (h' : IsS n v kk S') : ∀ i, i ≤ n → S i = S' i := by
  intro i
  induction i using Nat.strongRecOn with
  | _ i ih =>
    intro hi
    cases i with
    | zero => rw [h.z, h'.z]
    | succ i =>
      have := F.kle i
      rw [h.s i (by omega), h'.s i (by omega), ih i (by omega) (by omega), ih (kk i) (by omega) (by omega)]
variable {n : Nat} {nx kk : Nat → Nat} {v S : Nat → Int}
/-- Dues behind so many peaks. -/
def Du (n : Nat) (kk : Nat → Nat) (S : Nat → Int) (i : Nat) (out : Nat → Int) : Prop := ∀ m, m ≤ n → sm out 0 m = S (min i (kk m))
theorem sm_range (d : Nat → Int) {a b : Nat} (h : a ≤ b) : sm d a (b - a) = sm d 0 b - sm d 0 a := by
  have := sm_add d 0 a (b - a)
  rw [show a + (b - a) = b by omega, Nat.zero_add] at this
  omega
theorem sm_set (d : Nat → Int) (p : Nat) (x : Int) (m : Nat) : sm (fun k => if k = p then d k + x else d k) 0 m = sm d 0 m + (if p < m then x else 0) := by
  induction m with
  | zero => simp [sm]
  | succ m ih =>
    simp only [sm, ih, Nat.zero_add]
    by_cases e : m = p
    · subst e; simp; omega
    · by_cases e' : p < m
      · rw [if_neg e, if_pos e', if_pos (by omega)]; omega
      · rw [if_neg e, if_neg e', if_neg (by omega)]; omega
theorem sm_zero (a m : Nat) : sm (fun _ => 0) a m = 0 := by
  induction m with
  | zero => rfl
  | succ m ih => simp [sm, ih]
theorem Du.z (hS : IsS n v kk S) : Du n kk S 0 (fun _ => 0) := by
  intro m _
  rw [Nat.zero_min, hS.z]
  exact sm_zero 0 m
/-- What a peak's days have when its turn comes. -/
theorem Du.has (F : Fl n nx kk) {i : Nat} {out : Nat → Int} (h : Du n kk S i out) (hi : i < n) : sm out i (nx i - i) = S i - S (kk i) := by
  have l1 := F.lt i hi
  have l2 := F.le i hi
  have k1 := (F.iff i (nx i) hi l2).2 (Nat.le_refl _)
  have k2 := F.kle i
  rw [sm_range out (Nat.le_of_lt l1), h (nx i) l2, h i (by omega), Nat.min_eq_left (Nat.le_of_lt k1), Nat.min_eq_right k2]
theorem Du.step (F : Fl n nx kk) (hS : IsS n v kk S) {i : Nat} {out : Nat → Int} (h : Du n kk S i out) (hi : i < n) {p : Nat} (hp : p + 1 = nx i) {x : Int} (hx : x = max 0 (v i - sm out i (nx i - i))) : Du n kk S (i + 1) (fun k => if k = p then out k + x else out k) := by
  intro m hm
  rw [sm_set, h m hm]
  rw [h.has F hi] at hx
  have e := hS.s i hi
  have q := F.iff i m hi hm
  by_cases c : i < kk m
  · have := q.1 c
    rw [if_pos (by omega), Nat.min_eq_left (by omega), Nat.min_eq_left (by omega)]
    omega
  · rw [if_neg (by omega), Nat.min_eq_right (by omega), Nat.min_eq_right (by omega)]
    omega
theorem kk_n (F : Fl n nx kk) : kk n = n := by
  have h1 := F.kle n
  rcases Nat.lt_or_ge (kk n) n with e | e
  · have := (F.iff (kk n) n e (Nat.le_refl _)).2 (F.le _ e)
    omega
  · omega
section
variable (F : Fl n nx kk) (hS : IsS n v kk S) {out : Nat → Int} (h : Du n kk S n out)
include F h in
theorem Du.pre {m : Nat} (hm : m ≤ n) : sm out 0 m = S (kk m) := by
  rw [h m hm, Nat.min_eq_right (Nat.le_trans (F.kle m) hm)]
include F hS h
omit hS in
theorem Du.sum : sm out 0 n = S n := by rw [h.pre F (Nat.le_refl _), kk_n F]
theorem Du.proves {i : Nat} (hi : i < n) : v i ≤ sm out i (nx i - i) := by
  have l1 := F.lt i hi
  have l2 := F.le i hi
  have k1 := (F.iff i (nx i) hi l2).2 (Nat.le_refl _)
  rw [sm_range out (Nat.le_of_lt l1), h.pre F l2, h.pre F (Nat.le_of_lt hi)]
  have m1 : S (i + 1) ≤ S (kk (nx i)) := hS.mono k1 (Nat.le_trans (F.kle _) l2)
  have := hS.s i hi
  omega
omit hS in
theorem Du.at {p : Nat} (hp : p < n) : out p = S (kk (p + 1)) - S (kk p) := by
  have h1 := h.pre F (show p + 1 ≤ n from hp)
  have h2 := h.pre F (Nat.le_of_lt hp)
  simp only [sm, Nat.zero_add] at h1
  omega
theorem Du.nn {p : Nat} (hp : p < n) : 0 ≤ out p := by
  rw [h.at F hp]
  have m1 : S (kk p) ≤ S (kk (p + 1)) := hS.mono (F.kmono (Nat.le_succ p) hp) (Nat.le_trans (F.kle _) hp)
  omega
theorem Du.most {c : Int} (hc : 0 ≤ c) (hv : ∀ i, i < n → v i ≤ c) {p : Nat} (hp : p < n) : out p ≤ c := by
  rw [h.at F hp]
  have k : ∀ j, kk p ≤ j → j ≤ kk (p + 1) → S j ≤ S (kk p) + c := by
    intro j hj
    induction hj with
    | refl => intro _; omega
    | @step j hj ih =>
      intro hj2
      have := ih (by omega)
      have hb := F.kle (p + 1)
      have e := hS.s j (by omega)
      have q := (F.iff j (p + 1) (by omega) hp).1 (by omega)
      have := F.lt j (by omega)
      have m1 := hS.mono (F.kmono (show j ≤ p by omega) (by omega)) (Nat.le_trans (F.kle p) (by omega))
      have := hv j (by omega)
      rw [Nat.succ_eq_add_one]
      omega
  have := k (kk (p + 1)) (F.kmono (Nat.le_succ p) hp) (Nat.le_refl _)
  omega
end
end Pk
end Go.Nm
namespace Go.Nm
namespace Pk
/-- The first that is not 0. -/
def fe (f : Nat → Int) : Nat → Int
  | 0 => 0
  | n + 1 => if fe f n ≠ 0 then fe f n else f n
theorem fe_all {f : Nat → Int} : ∀ {n : Nat}, fe f n = 0 ↔ ∀ i, i < n → f i = 0
  | 0 => by simp [fe]
  | n + 1 => by
    have ih := fe_all (f := f) (n := n)
    unfold fe
    constructor
    · intro h i hi
      split at h
      · rename_i h1; exact absurd h h1
      · rename_i h1
        rcases Nat.lt_or_eq_of_le (Nat.le_of_lt_succ hi) with e | e
        · exact ih.1 (Classical.not_not.1 h1) i e
        · rw [e]; exact h
    · intro h
      have h1 := ih.2 fun i hi => h i (by omega)
      rw [if_neg (by rw [h1]; simp)]
      exact h n (by omega)
theorem fe_stop {f : Nat → Int} {i : Nat} (h0 : fe f i = 0) (h : f i ≠ 0) : ∀ {n : Nat}, i < n → fe f n = f i
  | 0, hn => by omega
  | n + 1, hn => by
    unfold fe
    rcases Nat.lt_or_eq_of_le (Nat.le_of_lt_succ hn) with e | e
    · have ih := fe_stop h0 h e
      rw [if_pos (by rw [ih]; exact h), ih]
    · subst e
      rw [if_neg (by rw [h0]; simp)]
def pkB (p : Pk) : Bool := (decide (0 ≤ p.day) && decide (p.day ≤ 4000)) && (decide (0 ≤ p.stage) && decide (p.stage ≤ 2000))
def errP (l : List Pk) (i : Nat) : Int := if pkB (l.getD i default) = false then 110 else if 0 < i ∧ (l.getD i default).day ≤ (l.getD (i - 1) default).day then 9 else 0
def chkP (l : List Pk) : Int := if 40 < l.length then 3 else fe (errP l) l.length
/-- Peaks that are right. -/
structure Ok (l : List Pk) : Prop where
  few : l.length ≤ 40
  day : ∀ i, i < l.length → 0 ≤ dayAt l i ∧ dayAt l i ≤ 4000
  st : ∀ i, i < l.length → 0 ≤ stAt l i ∧ stAt l i ≤ 2000
  up : Up l
theorem chk_ok {l : List Pk} (h : chkP l = 0) : Ok l := by
  unfold chkP at h
  split at h
  · cases h
  · rename_i h40
    have k := fe_all.1 h
    have k1 : ∀ i, i < l.length → pkB (l.getD i default) = true ∧ (0 < i → dayAt l (i - 1) < dayAt l i) := by
      intro i hi
      have := k i hi
      unfold errP at this
      split at this
      · cases this
      · rename_i h1
        split at this
        · cases this
        · rename_i h2
          refine ⟨by simpa using h1, fun h0 => ?_⟩
          unfold dayAt
          omega
    have k2 : ∀ i, i < l.length → (0 ≤ dayAt l i ∧ dayAt l i ≤ 4000) ∧ (0 ≤ stAt l i ∧ stAt l i ≤ 2000) := by
      intro i hi
      have := (k1 i hi).1
      simpa [pkB, dayAt, stAt] using this
    refine ⟨by omega, fun i hi => (k2 i hi).1, fun i hi => (k2 i hi).2, ?_⟩
    intro i j hij hj
    induction j with
    | zero => omega
    | succ j ih =>
      have h1 := (k1 (j + 1) hj).2 (by omega)
      simp only [Nat.add_sub_cancel] at h1
      rcases Nat.lt_or_eq_of_le (Nat.le_of_lt_succ hij) with e | e
      · have := ih e (by omega)
        omega
      · subst e; exact h1
def askP (l : List Pk) (A T : Int) : Int := if chkP l ≠ 0 then chkP l else if (1 ≤ A ∧ A ≤ 60) ∧ (0 ≤ T ∧ T ≤ 2000) then 0 else 4
structure Asked (l : List Pk) (A T : Int) : Prop where
  ok : Ok l
  ap : 1 ≤ A ∧ A ≤ 60
  th : 0 ≤ T ∧ T ≤ 2000
theorem ask_ok {l : List Pk} {A T : Int} (h : askP l A T = 0) : Asked l A T := by
  unfold askP at h
  split at h
  · rename_i h1; exact absurd h h1
  · rename_i h1
    split at h
    · rename_i h2; exact ⟨chk_ok (Classical.not_not.1 h1), h2.1, h2.2⟩
    · cases h
end Pk
end Go.Nm
namespace Go.Proofs.Ytcgalcbkkijkhaa
open Go Go.Nm
theorem in_ends (x a b : Int) : (m_often_in x a b).Ends (decide (a ≤ x) && decide (x ≤ b)) := M.i_pure
theorem out_ends (x a b : Int) : (m_nilometerref10_outside x a b).Ends (!(decide (a ≤ x) && decide (x ≤ b))) := by
  have e : (decide (x < a) || decide (b < x)) = !(decide (a ≤ x) && decide (x ≤ b)) := by
    by_cases h1 : a ≤ x <;> by_cases h2 : x ≤ b <;> simp [h1, h2] <;> omega
  unfold m_nilometerref10_outside
  rw [e]
  exact M.i_pure
theorem gI {c : Bool} {p : Prop} [Decidable p] (h : c = true → p) : (!c || decide p) = true := by
  cases c with
  | true => exact decide_eq_true (h rfl)
  | false => rfl
theorem gI2 {c : Bool} {p q : Prop} [Decidable p] [Decidable q] (h : c = true → p ∧ q) : (!c || (decide p && decide q)) = true := by
  cases c with
  | true => exact gA2 (h rfl).1 (h rfl).2
  | false => rfl
theorem chk_ends (l : List Pk) : (m_often_CheckPeaks l).Ends (Pk.chkP l) := by
  unfold m_often_CheckPeaks Pk.chkP
  refine M.i_if (fun hb => ?_) (fun hb => ?_)
  · have := of_decide_eq_true hb
    rw [if_pos (by omega)]
    exact M.i_pure
  · have h40 := of_decide_eq_false hb
    rw [if_neg (by omega)]
    have out : (M.iter (m_often_CheckPeaks_b0 l) 0).Out (fun y => (match y with | .inl s => s | .inr (_ : Unit) => 0) = Pk.fe (Pk.errP l) l.length) := by
      refine M.o_for l.length (fun i s => s = i ∧ Pk.fe (Pk.errP l) i = 0) ?_ ?_ ⟨rfl, rfl⟩
      · rintro i s hi ⟨rfl, h0⟩
        simp only [m_often_CheckPeaks_b0]
        have ha : (m_often_Book_allowed_t72 ([] : List Yr) ([] : List Old10) 0 0 (l.getD s default)).Ends (Pk.pkB (l.getD s default)) := by
          unfold m_often_Book_allowed_t72 Pk.pkB
          refine M.i_bind (in_ends _ _ _) (M.i_bind (a := (decide (0 ≤ (l.getD s default).day) && decide ((l.getD s default).day ≤ 4000)) && (decide (0 ≤ (l.getD s default).stage) && decide ((l.getD s default).stage ≤ 2000))) (M.i_opt (fun h => by rw [h, Bool.true_and]; exact in_ends _ _ _) (fun h => by rw [h, Bool.false_and])) ?_)
          cases (decide (0 ≤ (l.getD s default).day) && decide ((l.getD s default).day ≤ 4000)) <;> exact M.i_pure
        refine M.o_t (decide_eq_true (by omega)) (M.o_grdD (by omega) (M.o_bindE ha (M.o_if (fun h1 => ?_) (fun h1 => ?_))))
        · have e : Pk.errP l s = 110 := by unfold Pk.errP; rw [if_pos (by simpa using h1)]
          exact M.o_pure (by rw [Pk.fe_stop h0 (by rw [e]; decide) hi, e])
        · have h1 : Pk.pkB (l.getD s default) = true := by simpa using h1
          refine M.o_grd (gI2 fun h => by have := of_decide_eq_true h; omega) (M.o_grd (gI2 fun h => by have := of_decide_eq_true h; omega) ?_)
          · rw [show Int.toNat ((s : Int) - 1) = s - 1 by omega]
            refine M.o_if (fun h2 => ?_) (fun h2 => ?_)
            · rw [Bool.and_eq_true, decide_eq_true_eq, decide_eq_true_eq] at h2
              have e : Pk.errP l s = 9 := by unfold Pk.errP; rw [if_neg (by rw [h1]; simp), if_pos ⟨by omega, h2.2⟩]
              exact M.o_pure (by rw [Pk.fe_stop h0 (by rw [e]; decide) hi, e])
            · refine M.o_pure ⟨rfl, ?_⟩
              have e : Pk.errP l s = 0 := by
                unfold Pk.errP
                rw [if_neg (by rw [h1]; simp), if_neg]
                intro hh
                rw [Bool.and_eq_false_iff, decide_eq_false_iff_not, decide_eq_false_iff_not] at h2
                omega
              show (if Pk.fe (Pk.errP l) s ≠ 0 then _ else _) = _
              rw [if_neg (by rw [h0]; simp), e]
      · rintro s ⟨rfl, h0⟩
        simp only [m_often_CheckPeaks_b0]
        exact M.o_f (by simp) (M.o_pure h0.symm)
    obtain ⟨y, h1, h2⟩ := out
    refine M.i_bind h1 ?_
    cases y with
    | inl s => rw [← h2]; exact M.i_pure
    | inr u => rw [← h2]; exact M.i_pure
theorem ref_chk (l : List Pk) : (m_nilometerref10_CheckPeaks l).Ends (Pk.chkP l) := by
  unfold m_nilometerref10_CheckPeaks Pk.chkP
  refine M.i_if (fun hb => ?_) (fun hb => ?_)
  · have := of_decide_eq_true hb
    rw [if_pos (by omega)]
    exact M.i_pure
  · have h40 := of_decide_eq_false hb
    rw [if_neg (by omega)]
    have out : (M.iter (m_nilometerref10_CheckPeaks_b0 l) 0).Out (fun y => (match y with | .inl s => s | .inr (_ : Unit) => 0) = Pk.fe (Pk.errP l) l.length) := by
      refine M.o_for l.length (fun i s => s = i ∧ Pk.fe (Pk.errP l) i = 0) ?_ ?_ ⟨rfl, rfl⟩
      · rintro i s hi ⟨rfl, h0⟩
        simp only [m_nilometerref10_CheckPeaks_b0]
        refine M.o_t (decide_eq_true (by omega)) (M.o_grdD (by omega) (M.o_bindE (out_ends _ _ _) (M.o_bindE (a := !(!(decide (0 ≤ (l.getD s default).day) && decide ((l.getD s default).day ≤ 4000))) && !(decide (0 ≤ (l.getD s default).stage) && decide ((l.getD s default).stage ≤ 2000))) (M.i_opt (fun h => by rw [h, Bool.true_and]; exact out_ends _ _ _) (fun h => by rw [h, Bool.false_and])) ?_)))
        have e1 : ((!(decide (0 ≤ (l.getD s default).day) && decide ((l.getD s default).day ≤ 4000))) || (!(!(decide (0 ≤ (l.getD s default).day) && decide ((l.getD s default).day ≤ 4000))) && !(decide (0 ≤ (l.getD s default).stage) && decide ((l.getD s default).stage ≤ 2000)))) = !(Pk.pkB (l.getD s default)) := by
          unfold Pk.pkB
          cases (decide (0 ≤ (l.getD s default).day) && decide ((l.getD s default).day ≤ 4000)) <;> cases (decide (0 ≤ (l.getD s default).stage) && decide ((l.getD s default).stage ≤ 2000)) <;> rfl
        rw [e1]
        refine M.o_if (fun h1 => ?_) (fun h1 => ?_)
        · have e : Pk.errP l s = 110 := by unfold Pk.errP; rw [if_pos (by simpa using h1)]
          exact M.o_pure (by rw [Pk.fe_stop h0 (by rw [e]; decide) hi, e])
        · have h1 : Pk.pkB (l.getD s default) = true := by simpa using h1
          refine M.o_grd (gI2 fun h => by have := of_decide_eq_true h; omega) (M.o_grd (gI2 fun h => by have := of_decide_eq_true h; omega) ?_)
          · rw [show Int.toNat ((s : Int) - 1) = s - 1 by omega]
            refine M.o_if (fun h2 => ?_) (fun h2 => ?_)
            · rw [Bool.and_eq_true, decide_eq_true_eq, decide_eq_true_eq] at h2
              have e : Pk.errP l s = 9 := by unfold Pk.errP; rw [if_neg (by rw [h1]; simp), if_pos ⟨by omega, h2.2⟩]
              exact M.o_pure (by rw [Pk.fe_stop h0 (by rw [e]; decide) hi, e])
            · refine M.o_pure ⟨rfl, ?_⟩
              have e : Pk.errP l s = 0 := by
                unfold Pk.errP
                rw [if_neg (by rw [h1]; simp), if_neg]
                intro hh
                rw [Bool.and_eq_false_iff, decide_eq_false_iff_not, decide_eq_false_iff_not] at h2
                omega
              show (if Pk.fe (Pk.errP l) s ≠ 0 then _ else _) = _
              rw [if_neg (by rw [h0]; simp), e]
      · rintro s ⟨rfl, h0⟩
        simp only [m_nilometerref10_CheckPeaks_b0]
        exact M.o_f (by simp) (M.o_pure h0.symm)
    obtain ⟨y, h1, h2⟩ := out
    refine M.i_bind h1 ?_
    cases y with
    | inl s => rw [← h2]; exact M.i_pure
    | inr u => rw [← h2]; exact M.i_pure
theorem asked_ends (l : List Pk) (A T : Int) : (m_often_asked l A T).Ends (Pk.askP l A T) := by
  unfold m_often_asked Pk.askP
  refine M.i_bind (chk_ends l) ?_
  by_cases h : Pk.chkP l = 0
  · rw [h]
    refine M.i_bind (a := decide (1 ≤ A) && decide (A ≤ 60)) (M.i_opt (fun _ => in_ends _ _ _) (fun h => by cases h)) ?_
    rw [if_neg (by simp)]
    by_cases h1 : 1 ≤ A ∧ A ≤ 60
    · rw [decide_eq_true h1.1, decide_eq_true h1.2]
      refine M.i_bind (a := decide (0 ≤ T) && decide (T ≤ 2000)) (M.i_opt (fun _ => in_ends _ _ _) (fun h => by cases h)) ?_
      by_cases h2 : 0 ≤ T ∧ T ≤ 2000
      · rw [decide_eq_true h2.1, decide_eq_true h2.2, if_pos ⟨h1, h2⟩]
        exact M.i_f rfl M.i_pure
      · rw [if_neg (fun hh => h2 hh.2)]
        have : (decide (0 ≤ T) && decide (T ≤ 2000)) = false := by rw [Bool.and_eq_false_iff, decide_eq_false_iff_not, decide_eq_false_iff_not]; omega
        rw [this]
        exact M.i_t rfl M.i_pure
    · have : (decide (1 ≤ A) && decide (A ≤ 60)) = false := by rw [Bool.and_eq_false_iff, decide_eq_false_iff_not, decide_eq_false_iff_not]; omega
      rw [this, if_neg (fun hh => h1 hh.1)]
      exact M.i_bind (a := false) (M.i_opt (fun h => by cases h) (fun _ => rfl)) (M.i_t rfl M.i_pure)
  · have hb : (Pk.chkP l == 0) = false := beq_eq_false_iff_ne.2 h
    rw [if_pos h, hb]
    exact M.i_bind (a := false) (M.i_opt (fun h => by cases h) (fun _ => rfl)) (M.i_bind (a := false) (M.i_opt (fun h => by cases h) (fun _ => rfl)) (M.i_f rfl M.i_pure))
theorem ref_asked (l : List Pk) (A T : Int) : (m_nilometerref10_asked l A T).Ends (Pk.askP l A T) := by
  unfold m_nilometerref10_asked Pk.askP
  refine M.i_bind (ref_chk l) ?_
  by_cases h : Pk.chkP l = 0
  · rw [h, if_neg (by simp)]
    refine M.i_f rfl (M.i_bind (out_ends _ _ _) ?_)
    by_cases h1 : 1 ≤ A ∧ A ≤ 60
    · rw [decide_eq_true h1.1, decide_eq_true h1.2]
      refine M.i_bind (M.i_opt (r := !(decide (0 ≤ T) && decide (T ≤ 2000))) (fun _ => out_ends _ _ _) (fun h => by cases h)) ?_
      by_cases h2 : 0 ≤ T ∧ T ≤ 2000
      · rw [decide_eq_true h2.1, decide_eq_true h2.2, if_pos ⟨h1, h2⟩]
        exact M.i_f rfl M.i_pure
      · rw [if_neg (fun hh => h2 hh.2)]
        have : (decide (0 ≤ T) && decide (T ≤ 2000)) = false := by rw [Bool.and_eq_false_iff, decide_eq_false_iff_not, decide_eq_false_iff_not]; omega
        rw [this]
        exact M.i_t rfl M.i_pure
    · have : (decide (1 ≤ A) && decide (A ≤ 60)) = false := by rw [Bool.and_eq_false_iff, decide_eq_false_iff_not, decide_eq_false_iff_not]; omega
      rw [this, if_neg (fun hh => h1 hh.1)]
      exact M.i_bind (a := false) (M.i_opt (fun h => by cases h) (fun _ => rfl)) (M.i_t rfl M.i_pure)
  · rw [if_pos h]
    exact M.i_t (bne_iff_ne.2 h) M.i_pure
end Go.Proofs.Ytcgalcbkkijkhaa
namespace Go.Nm
namespace Pk
theorem getD_day {l : List Pk} {i : Nat} : (l.getD i default).day = dayAt l i := rfl
theorem getD_st {l : List Pk} {i : Nat} : (l.getD i default).stage = stAt l i := rfl
end Pk
end Go.Nm
namespace Go.Proofs.Ytcgalcbkkijkhaa
open Go Go.Nm
variable {l : List Pk} {A T : Int}
theorem cmp_ends (p : Pk) (t : Int) : (m_often_Pick_1_1 p t).Ends (if p.day < t then -1 else if t < p.day then 1 else 0) := by
  unfold m_often_Pick_1_1 m_cmp_Compare_int m_cmp_isNaN_int
  refine M.i_bind (M.i_bind M.i_pure (M.i_bind M.i_pure (M.i_f (by simp) (M.i_f (by simp) ?_)))) M.i_pure
  by_cases h : p.day < t
  · rw [if_pos h]
    exact M.i_t (decide_eq_true h) M.i_pure
  · rw [if_neg h]
    refine M.i_f (decide_eq_false h) ?_
    by_cases h2 : t < p.day
    · rw [if_pos h2]
      exact M.i_t (decide_eq_true h2) M.i_pure
    · rw [if_neg h2]
      exact M.i_f (decide_eq_false h2) M.i_pure
theorem search_out (h : Pk.Up l) (hl : l.length ≤ 1000000) (t : Int) : (m_slices_BinarySearchFunc_often_Peak_int_77 l t).Out (fun y => y.1 = (Pk.fst l t : Int)) := by
  unfold m_slices_BinarySearchFunc_often_Peak_int_77
  refine M.o_bind (P := fun i => i = (Pk.fst l t : Int)) ?_ ?_
  · refine M.o_iter (fun m (s : Int × Int) => 0 ≤ s.1 ∧ s.1 ≤ s.2 ∧ s.2 ≤ l.length ∧ m = Int.toNat (s.2 - s.1) ∧ (∀ k : Nat, (k : Int) < s.1 → Pk.dayAt l k < t) ∧ ∀ k : Nat, s.2 ≤ k → k < l.length → t ≤ Pk.dayAt l k) ?_ _ (0, (l.length : Int)) ⟨Int.le_refl _, by dsimp only; omega, Int.le_refl _, rfl, fun k hk => by dsimp only at hk; omega, fun k h1 h2 => by dsimp only at h1; omega⟩
    rintro m ⟨i, j⟩ ⟨h0, h1, h2, rfl, h3, h4⟩
    dsimp only at h0 h1 h2 h3 h4 ⊢
    simp only [m_slices_BinarySearchFunc_often_Peak_int_77_b0]
    refine M.o_if (fun hb => ?_) (fun hb => ?_)
    · have hb := of_decide_eq_true hb
      refine M.o_grd (gA2 (by omega) (by omega)) (M.o_grd (gA2 (by omega) (by omega)) (M.o_grd (gA2 (by omega) (by omega)) (M.o_grd (gA2 (by omega) (by omega)) (M.o_bindE (cmp_ends _ _) ?_))))
      rw [Pk.getD_day]
      refine M.o_if (fun hc => ?_) (fun hc => ?_)
      · have hc := of_decide_eq_true hc
        have hd : Pk.dayAt l (Int.toNat ((i + j) / 2)) < t := by
          refine Classical.byContradiction fun hn => ?_
          rw [if_neg hn] at hc
          split at hc <;> omega
        refine M.o_pure ⟨_, ?_, by dsimp only; omega, by dsimp only; omega, h2, rfl, fun k hk => ?_, h4⟩
        · dsimp only; omega
        · dsimp only at hk
          have := h.le (show k ≤ Int.toNat ((i + j) / 2) by omega) (by omega)
          omega
      · have hc := of_decide_eq_false hc
        have hd : t ≤ Pk.dayAt l (Int.toNat ((i + j) / 2)) := by
          refine Classical.byContradiction fun hn => ?_
          rw [if_pos (by omega)] at hc
          omega
        refine M.o_pure ⟨_, ?_, h0, by dsimp only; omega, by dsimp only; omega, rfl, h3, fun k hk1 hk2 => ?_⟩
        · dsimp only; omega
        · dsimp only at hk1
          have := h.le (show Int.toNat ((i + j) / 2) ≤ k by omega) hk2
          omega
    · have hb := of_decide_eq_false hb
      obtain rfl : i = j := by omega
      obtain ⟨i, rfl⟩ := Int.eq_ofNat_of_zero_le h0
      exact M.o_pure (by show (i : Int) = _; rw [Pk.fst_eq h (by omega) (fun k hk => h3 k (by omega)) (fun hk => h4 i (by omega) hk)])
  · rintro i rfl
    have hle := Pk.fst_le l t
    refine M.o_grd (gI2 fun hb => by have := of_decide_eq_true hb; omega) ?_
    by_cases hb : ((Pk.fst l t : Int) < (l.length : Int))
    · rw [decide_eq_true hb]
      exact M.o_bindE (M.i_opt (fun _ => cmp_ends _ _) (fun h => by cases h)) (M.o_pure rfl)
    · rw [decide_eq_false hb]
      exact M.o_bindE (a := 0) (M.i_opt (fun h => by cases h) (fun _ => rfl)) (M.o_pure rfl)
/-- Where the flood of a peak is over. -/
theorem next_ends (h : Pk.Asked l A T) {i : Nat} (hi : i < l.length) : (m_often_Pick_1 (i : Int) l A).Ends (Pk.nx l A i : Int) := by
  have out : (m_often_Pick_1 (i : Int) l A).Out (fun y => y = (Pk.nx l A i : Int)) := by
    unfold m_often_Pick_1
    have hd := h.ok.day i hi
    have ha := h.ap
    have hf := h.ok.few
    rw [Int.toNat_natCast, Pk.getD_day]
    refine M.o_grd (gA2 (by omega) (by omega)) (M.o_grd (gA2 (by omega) (by omega)) (M.o_bind (search_out h.ok.up (by omega) _) ?_))
    rintro ⟨a, b⟩ e
    exact M.o_pure e
  obtain ⟨y, h1, rfl⟩ := out
  exact h1
theorem window_ends (h : Pk.Asked l A T) {i : Nat} (hi : i < l.length) : (m_often_window l (i : Int) A).Ends (Pk.nx l A i : Int) := by
  have out : (m_often_window l (i : Int) A).Out (fun y => y = (Pk.nx l A i : Int)) := by
    unfold m_often_window
    have hd : 0 ≤ (l.getD i default).day ∧ (l.getD i default).day ≤ 4000 := h.ok.day i hi
    have ha := h.ap
    have hf := h.ok.few
    refine M.o_bind (P := fun y => y = (Pk.nx l A i : Int)) ?_ (fun y e => M.o_pure e)
    refine M.o_iter (fun m (s : Int) => (i : Int) ≤ s ∧ s ≤ l.length ∧ m = Int.toNat (l.length - s) ∧ ∀ k : Nat, (k : Int) < s → Pk.dayAt l k < Pk.dayAt l i + A) ?_ _ (i : Int) ⟨Int.le_refl _, by omega, rfl, fun k hk => ?_⟩
    · rintro m s ⟨h0, h1, rfl, h3⟩
      obtain ⟨s, rfl⟩ := Int.eq_ofNat_of_zero_le (show 0 ≤ s by omega)
      simp only [m_often_window_b0, Int.toNat_natCast]
      refine M.o_grd (gI2 fun hb => by have := of_decide_eq_true hb; omega) (M.o_grd (gI2 fun hb => by omega) (M.o_grd (gI2 fun hb => by omega) (M.o_if (fun hb => ?_) (fun hb => ?_))))
      · rw [Bool.and_eq_true, decide_eq_true_eq, decide_eq_true_eq] at hb
        refine M.o_grd (gA2 (by omega) (by omega)) (M.o_pure ⟨_, ?_, by omega, by omega, rfl, fun k hk => ?_⟩)
        · omega
        · rcases Nat.lt_or_eq_of_le (show k ≤ s by omega) with e | e
          · exact h3 k (by omega)
          · rw [e]; exact hb.2
      · rw [Bool.and_eq_false_iff, decide_eq_false_iff_not, decide_eq_false_iff_not] at hb
        refine M.o_pure ?_
        have hb2 : s < l.length → Pk.dayAt l i + A ≤ Pk.dayAt l s := fun hk => by
          show (l.getD i default).day + A ≤ (l.getD s default).day
          omega
        show (s : Int) = (Pk.nx l A i : Int)
        unfold Pk.nx
        rw [Pk.fst_eq (k := s) h.ok.up (by omega) (fun k hk => h3 k (by omega)) hb2]
    · have := h.ok.up.le (show k ≤ i by omega) hi
      omega
  obtain ⟨y, h1, rfl⟩ := out
  exact h1
theorem greatest1 (a : Int) : (m_often_greatest [a]).Ends (max 0 a) := by
  unfold m_often_greatest
  refine M.i_bind (M.i_next (s' := (max 0 a, 1)) ?_ (M.i_stop (r := max 0 a) ?_)) M.i_pure
  · simp only [m_often_greatest_b0]
    exact M.i_t rfl (M.i_grd rfl M.i_pure)
  · simp only [m_often_greatest_b0]
    exact M.i_f rfl M.i_pure
theorem greatest2 (a b : Int) : (m_often_greatest [a, b]).Ends (max (max 0 a) b) := by
  unfold m_often_greatest
  refine M.i_bind (M.i_next (s' := (max 0 a, 1)) ?_ (M.i_next (s' := (max (max 0 a) b, 2)) ?_ (M.i_stop (r := max (max 0 a) b) ?_))) M.i_pure
  · simp only [m_often_greatest_b0]
    exact M.i_t rfl (M.i_grd rfl M.i_pure)
  · simp only [m_often_greatest_b0]
    exact M.i_t rfl (M.i_grd rfl M.i_pure)
  · simp only [m_often_greatest_b0]
    exact M.i_f rfl M.i_pure
/-- What a peak has above the threshold. -/
def vP (l : List Pk) (T : Int) (i : Nat) : Int := Pk.stAt l i - T
theorem with_ends (h : Pk.Asked l A T) {i : Nat} (hi : i < l.length) {b : List Int} (hb : ∀ k : Nat, k ≤ l.length → 0 ≤ b.getD k 0 ∧ b.getD k 0 ≤ 100000) : (m_often_Pick_2 (i : Int) l T b l A).Ends (vP l T i + b.getD (Pk.nx l A i) 0) := by
  unfold m_often_Pick_2
  have hs := h.ok.st i hi
  have ht := h.th
  have hf := h.ok.few
  have hn := Pk.fst_le l (Pk.dayAt l i + A)
  have hq := hb (Pk.nx l A i) hn
  rw [Int.toNat_natCast, Pk.getD_st]
  refine M.i_grd (gA2 (by omega) (by omega)) (M.i_grd (gA2 (by omega) (by omega)) (M.i_bind (next_ends h hi) ?_))
  rw [Int.toNat_natCast]
  have : (Pk.nx l A i : Int) < 41 := by have : Pk.nx l A i ≤ l.length := hn; omega
  exact M.i_grd (gA2 (by omega) this) (M.i_grd (gA2 (by omega) (by omega)) M.i_pure)
/-- The worths behind each peak. -/
theorem best_out (h : Pk.Asked l A T) : (M.iter (m_often_Pick_b0 l A T) (List.replicate 41 0, (l.length : Int) - 1)).Out (fun b => b.length = 41 ∧ Pk.IsB l.length (vP l T) (Pk.nx l A) (fun k => b.getD k 0) ∧ ∀ k : Nat, k ≤ l.length → 0 ≤ b.getD k 0 ∧ b.getD k 0 ≤ 100000) := by
  have hf := h.ok.few
  have F := Pk.fl h.ok.up h.ap.1
  refine M.o_iter (fun m (s : List Int × Int) => m = Int.toNat (s.2 + 1) ∧ -1 ≤ s.2 ∧ s.2 < l.length ∧ s.1.length = 41 ∧ s.1.getD l.length 0 = 0 ∧ (∀ k : Nat, s.2 < k → k < l.length → s.1.getD k 0 = max (max 0 (s.1.getD (k + 1) 0)) (vP l T k + s.1.getD (Pk.nx l A k) 0)) ∧ ∀ k : Nat, k ≤ l.length → 0 ≤ s.1.getD k 0 ∧ s.1.getD k 0 ≤ 2000 * ((l.length : Int) - k)) ?_ _ _
    ⟨rfl, by dsimp only; omega, by dsimp only; omega, by simp, ?_, fun k h1 h2 => by dsimp only at h1; omega, fun k hk => ?_⟩
  · rintro m ⟨b, i⟩ ⟨rfl, h0, h1, h2, h3, h4, h5⟩
    dsimp only at h0 h1 h2 h3 h4 h5 ⊢
    simp only [m_often_Pick_b0]
    refine M.o_if (fun hb => ?_) (fun hb => ?_)
    · have hb := of_decide_eq_true hb
      obtain ⟨i, rfl⟩ := Int.eq_ofNat_of_zero_le hb
      have hi : i < l.length := by omega
      have l1 := F.lt i hi
      have l2 := F.le i hi
      have b5 : ∀ k : Nat, k ≤ l.length → 0 ≤ b.getD k 0 ∧ b.getD k 0 ≤ 100000 := fun k hk => by have := h5 k hk; omega
      refine M.o_grd (gA2 (by omega) (by omega)) (M.o_grd (gA2 (by omega) (by omega)) (M.o_bindE (with_ends h hi b5) (M.o_bindE (greatest2 _ _) (M.o_grd (gA2 (by omega) (by omega)) (M.o_grd (gA2 (by omega) (by omega)) (M.o_pure ?_))))))
      rw [show Int.toNat ((i : Int) + 1) = i + 1 by omega, Int.toNat_natCast]
      have g : ∀ k : Nat, (b.set i (max (max 0 (b.getD (i + 1) 0)) (vP l T i + b.getD (Pk.nx l A i) 0))).getD k 0 = if k = i then max (max 0 (b.getD (i + 1) 0)) (vP l T i + b.getD (Pk.nx l A i) 0) else b.getD k 0 := fun k => gset _ _ _ _ _ (by omega)
      refine ⟨_, by dsimp only; omega, rfl, by dsimp only; omega, by dsimp only; omega, by simpa using h2, ?_, fun k hk1 hk2 => ?_, fun k hk => ?_⟩
      · dsimp only
        rw [g, if_neg (by omega)]
        exact h3
      · dsimp only at hk1 ⊢
        by_cases e : k = i
        · subst e
          rw [g, if_pos rfl, g, if_neg (by omega), g, if_neg (by omega)]
        · have q1 := F.lt k hk2
          rw [g, if_neg e, g, if_neg (by omega), g, if_neg (by omega)]
          exact h4 k (by omega) hk2
      · dsimp only
        rw [g]
        split
        · rename_i e
          subst e
          have k1 := h5 (k + 1) (by omega)
          have k2 := h5 _ l2
          have hs := h.ok.st k hi
          have ht := h.th
          unfold vP
          omega
        · exact h5 k hk
    · have hb := of_decide_eq_false hb
      refine M.o_pure ⟨h2, ⟨h3, fun k hk => h4 k (by omega) hk⟩, fun k hk => ?_⟩
      have := h5 k hk
      omega
  · dsimp only
    rw [List.getD_eq_getElem?_getD, List.getElem?_replicate]
    split <;> rfl
  · dsimp only
    rw [List.getD_eq_getElem?_getD, List.getElem?_replicate]
    split
    · show (0 : Int) ≤ 0 ∧ (0 : Int) ≤ _
      omega
    · show (0 : Int) ≤ 0 ∧ (0 : Int) ≤ _
      omega
end Go.Proofs.Ytcgalcbkkijkhaa
namespace Go.Nm
namespace Pk
def cA (c : List Int) (k : Nat) : Nat := Int.toNat (c.getD k 0)
/-- A choice: a strictly increasing list of peaks. -/
def Ris (n : Nat) (c : List Int) : Prop := ∀ k, k < c.length → 0 ≤ c.getD k 0 ∧ c.getD k 0 < n ∧ (0 < k → c.getD (k - 1) 0 < c.getD k 0)
/-- Of floods of their own, each above the threshold. -/
def Good (l : List Pk) (A T : Int) (c : List Int) : Prop := ∀ k, k < c.length → T < stAt l (cA c k) ∧ (0 < k → A ≤ dayAt l (cA c k) - dayAt l (cA c (k - 1)))
def wS (l : List Pk) (T : Int) (c : List Int) : Nat → Int
  | 0 => 0
  | k + 1 => wS l T c k + (stAt l (cA c k) - T)
theorem Ris.low {n : Nat} {c : List Int} (h : Ris n c) : ∀ k : Nat, k < c.length → (k : Int) ≤ c.getD k 0
  | 0, hk => by have := (h 0 hk).1; omega
  | k + 1, hk => by
    have ih := h.low k (by omega)
    have := (h (k + 1) hk).2.2 (by omega)
    rw [Nat.add_sub_cancel] at this
    omega
theorem Ris.few {n : Nat} {c : List Int} (h : Ris n c) : c.length ≤ n := by
  rcases Nat.eq_zero_or_pos c.length with e | e
  · omega
  · have h1 := h.low (c.length - 1) (by omega)
    have h2 := h (c.length - 1) (by omega)
    omega
theorem Ris.mono {n : Nat} {c : List Int} (h : Ris n c) {j k : Nat} (hjk : j < k) (hk : k < c.length) : c.getD j 0 < c.getD k 0 := by
  induction k with
  | zero => omega
  | succ k ih =>
    have h1 := (h (k + 1) hk).2.2 (by omega)
    rw [Nat.add_sub_cancel] at h1
    rcases Nat.lt_or_eq_of_le (Nat.le_of_lt_succ hjk) with e | e
    · have := ih e (by omega)
      omega
    · rw [e]; exact h1
theorem Ris.at_ {n : Nat} {c : List Int} (h : Ris n c) {k : Nat} (hk : k < c.length) : cA c k < n := by
  have := h k hk
  unfold cA
  omega
theorem wS_bound {l : List Pk} {T : Int} {c : List Int} (ho : Ok l) (hT : 0 ≤ T ∧ T ≤ 2000) (h : Ris l.length c) : ∀ k : Nat, k ≤ c.length → -(2000 * (k : Int)) ≤ wS l T c k ∧ wS l T c k ≤ 2000 * (k : Int)
  | 0, _ => by simp [wS]
  | k + 1, hk => by
    have ih := wS_bound ho hT h k (by omega)
    have := ho.st _ (h.at_ (k := k) (by omega))
    unfold wS
    omega
/-- What is said of a worth. -/
structure WoE (l : List Pk) (A T : Int) (c : List Int) (y : Int × Int) : Prop where
  ask : askP l A T ≠ 0 → y = (0, askP l A T)
  arg : askP l A T = 0 → ¬ Ris l.length c → y = (0, 2)
  bad : askP l A T = 0 → Ris l.length c → ¬ Good l A T c → y = (0, 7)
  ok : askP l A T = 0 → Ris l.length c → Good l A T c → y = (wS l T c c.length, 0)
theorem WoE.uniq {l : List Pk} {A T : Int} {c : List Int} {y y' : Int × Int} (h : WoE l A T c y) (h' : WoE l A T c y') : y = y' := by
  by_cases h0 : askP l A T = 0
  · by_cases h1 : Ris l.length c
    · by_cases h2 : Good l A T c
      · rw [h.ok h0 h1 h2, h'.ok h0 h1 h2]
      · rw [h.bad h0 h1 h2, h'.bad h0 h1 h2]
    · rw [h.arg h0 h1, h'.arg h0 h1]
  · rw [h.ask h0, h'.ask h0]
end Pk
end Go.Nm
namespace Go.Proofs.Ytcgalcbkkijkhaa
open Go Go.Nm
variable {l : List Pk} {A T : Int}
theorem rising_out {c : List Int} {n : Nat} (hn : n ≤ 1000000) : (m_often_rising c 0 ((n : Int) - 1)).Out (fun r => r = true ↔ Pk.Ris n c) := by
  unfold m_often_rising
  refine M.o_bind (P := fun y => match y with | .inl (_ : Unit) => ¬ Pk.Ris n c | .inr (_ : Unit) => Pk.Ris n c) ?_ ?_
  · refine M.o_for c.length (fun i (s : Int × Nat) => s.2 = i ∧ s.1 = (if i = 0 then 0 else c.getD (i - 1) 0 + 1) ∧ ∀ k, k < i → 0 ≤ c.getD k 0 ∧ c.getD k 0 < n ∧ (0 < k → c.getD (k - 1) 0 < c.getD k 0)) ?_ ?_ ⟨rfl, rfl, fun k hk => by omega⟩
    · rintro i ⟨f, s⟩ hi ⟨e1, e2, hJ⟩
      dsimp only at e1 e2
      subst e1
      simp only [m_often_rising_b0]
      refine M.o_t (decide_eq_true (by omega)) (M.o_grdD (by omega) (M.o_bindE (in_ends _ _ _) (M.o_if (fun hb => ?_) (fun hb => ?_))))
      · refine M.o_pure fun hR => ?_
        have := hR s hi
        rw [Bool.not_eq_true', Bool.and_eq_false_iff, decide_eq_false_iff_not, decide_eq_false_iff_not] at hb
        rw [e2] at hb
        split at hb <;> omega
      · rw [Bool.not_eq_false', Bool.and_eq_true, decide_eq_true_eq, decide_eq_true_eq] at hb
        have h0 : 0 ≤ f := by
          rw [e2]
          split
          · exact Int.le_refl _
          · have := hJ (s - 1) (by omega)
            omega
        refine M.o_grd (gA2 (by omega) (by omega)) (M.o_pure ⟨rfl, ?_, fun k hk => ?_⟩)
        · dsimp only
          rw [if_neg (by omega), Nat.add_sub_cancel]
        · rcases Nat.lt_or_eq_of_le (Nat.le_of_lt_succ hk) with e | e
          · exact hJ k e
          · subst e
            refine ⟨by omega, by omega, fun h1 => ?_⟩
            rw [if_neg (by omega)] at e2
            omega
    · rintro ⟨f, s⟩ ⟨e1, e2, hJ⟩
      dsimp only at e1 e2
      subst e1
      simp only [m_often_rising_b0]
      exact M.o_f (by simp) (M.o_pure fun k hk => hJ k hk)
  · intro y hy
    cases y with
    | inl u => exact M.o_pure ⟨fun h => (by cases h), fun h => absurd h hy⟩
    | inr u => exact M.o_pure ⟨fun _ => hy, fun _ => rfl⟩
theorem worth_out (l : List Pk) (A T : Int) (c : List Int) : (m_often_Worth l A T c).Out (Pk.WoE l A T c) := by
  unfold m_often_Worth
  refine M.o_bindE (asked_ends l A T) ?_
  by_cases h0 : Pk.askP l A T = 0
  · have hA := Pk.ask_ok h0
    have hf := hA.ok.few
    have hT := hA.th
    have hAp := hA.ap
    rw [h0]
    refine M.o_f rfl (M.o_bind (rising_out (by omega)) fun r hr => ?_)
    cases r with
    | false =>
      have hR : ¬ Pk.Ris l.length c := fun h => by have := hr.2 h; cases this
      exact M.o_t rfl (M.o_pure ⟨fun h => absurd h0 h, fun _ _ => rfl, fun _ h => absurd h hR, fun _ h => absurd h hR⟩)
    | true =>
      have hR := hr.1 rfl
      have hfew := hR.few
      refine M.o_f rfl (M.o_bind (P := fun y => match y with | .inl (_ : Unit) => ¬ Pk.Good l A T c | .inr w => Pk.Good l A T c ∧ w = Pk.wS l T c c.length) ?_ ?_)
      · refine M.o_for c.length (fun i (s : Int × Nat) => s.2 = i ∧ s.1 = Pk.wS l T c i ∧ ∀ k, k < i → T < Pk.stAt l (Pk.cA c k) ∧ (0 < k → A ≤ Pk.dayAt l (Pk.cA c k) - Pk.dayAt l (Pk.cA c (k - 1)))) ?_ ?_ ⟨rfl, rfl, fun k hk => by omega⟩
        · rintro i ⟨w, s⟩ hi ⟨e1, e2, hJ⟩
          dsimp only at e1 e2
          subst e1
          subst e2
          simp only [m_often_Worth_b0]
          have hc := hR s hi
          have hcp : 0 < s → 0 ≤ c.getD (s - 1) 0 ∧ c.getD (s - 1) 0 < (l.length : Int) := fun h => by have := hR (s - 1) (by omega); omega
          have hst := hA.ok.st _ (hR.at_ hi)
          have hd := hA.ok.day _ (hR.at_ hi)
          have hdp : 0 < s → 0 ≤ Pk.dayAt l (Pk.cA c (s - 1)) ∧ Pk.dayAt l (Pk.cA c (s - 1)) ≤ 4000 := fun h => hA.ok.day _ (hR.at_ (by omega))
          have hw := Pk.wS_bound hA.ok hT hR s (by omega)
          unfold Pk.stAt at hst
          unfold Pk.dayAt at hd hdp
          unfold Pk.cA at hst hd hdp
          rw [show Int.toNat ((s : Int) - 1) = s - 1 by omega]
          refine M.o_t (decide_eq_true (by omega)) (M.o_grdD (by omega) (M.o_grd (gA2 hc.1 hc.2.1) (M.o_grd (gI2 fun h => by omega) (M.o_grd (gI2 fun h => ?_) (M.o_grd (gI2 fun h => ?_) (M.o_grd (gI2 fun h => ?_) (M.o_if (fun hb => ?_) (fun hb => ?_))))))))
          · rw [Bool.and_eq_true, decide_eq_true_eq] at h; omega
          · rw [Bool.and_eq_true, decide_eq_true_eq] at h
            exact hcp (by omega)
          · rw [Bool.and_eq_true, decide_eq_true_eq] at h
            have := hdp (by omega)
            omega
          · refine M.o_pure fun hG => ?_
            have := hG s hi
            unfold Pk.stAt Pk.dayAt Pk.cA at this
            rw [Bool.or_eq_true, Bool.and_eq_true, decide_eq_true_eq, decide_eq_true_eq, decide_eq_true_eq] at hb
            rcases hb with hb | hb
            · omega
            · have := this.2 (by omega)
              omega
          · rw [Bool.or_eq_false_iff, Bool.and_eq_false_iff, decide_eq_false_iff_not, decide_eq_false_iff_not, decide_eq_false_iff_not] at hb
            refine M.o_grd (gA2 (by omega) (by omega)) (M.o_grd (gA2 (by omega) (by omega)) (M.o_pure ⟨rfl, rfl, fun k hk => ?_⟩))
            rcases Nat.lt_or_eq_of_le (Nat.le_of_lt_succ hk) with e | e
            · exact hJ k e
            · subst e
              unfold Pk.stAt Pk.dayAt Pk.cA
              exact ⟨by omega, fun h => by omega⟩
        · rintro ⟨w, s⟩ ⟨e1, e2, hJ⟩
          dsimp only at e1 e2
          subst e1
          simp only [m_often_Worth_b0]
          exact M.o_f (by simp) (M.o_pure ⟨hJ, e2⟩)
      · intro y hy
        cases y with
        | inl u => exact M.o_pure ⟨fun h => absurd h0 h, fun _ h => absurd hR h, fun _ _ _ => rfl, fun _ _ h => absurd h hy⟩
        | inr w =>
          obtain ⟨hG, rfl⟩ := hy
          exact M.o_pure ⟨fun h => absurd h0 h, fun _ h => absurd hR h, fun _ _ h => absurd hG h, fun _ _ _ => rfl⟩
  · exact M.o_t (bne_iff_ne.2 h0) (M.o_pure ⟨fun _ => rfl, fun h => absurd h h0, fun h => absurd h h0, fun h => absurd h h0⟩)
theorem ref_worth (l : List Pk) (A T : Int) (c : List Int) (hc45 : c.length ≤ 1000000) : (m_nilometerref10_Worth l A T c).Out (Pk.WoE l A T c) := by
  unfold m_nilometerref10_Worth
  refine M.o_bindE (ref_asked l A T) ?_
  by_cases h0 : Pk.askP l A T = 0
  · have hA := Pk.ask_ok h0
    have hf := hA.ok.few
    have hT := hA.th
    have hAp := hA.ap
    rw [h0]
    refine M.o_f rfl (M.o_bind (P := fun y => match y with | .inl (_ : Unit) => ¬ Pk.Ris l.length c | .inr (_ : Unit) => Pk.Ris l.length c) ?_ ?_)
    · refine M.o_for c.length (fun i (s : Nat) => s = i ∧ ∀ k, k < i → 0 ≤ c.getD k 0 ∧ c.getD k 0 < (l.length : Int) ∧ (0 < k → c.getD (k - 1) 0 < c.getD k 0)) ?_ ?_ ⟨rfl, fun k hk => by omega⟩
      · rintro i s hi ⟨rfl, hJ⟩
        simp only [m_nilometerref10_Worth_b0]
        rw [show Int.toNat ((s : Int) - 1) = s - 1 by omega]
        refine M.o_t (decide_eq_true (by omega)) (M.o_grdD (by omega) (M.o_bindE (out_ends _ _ _) (M.o_grd (gI2 fun h => by omega) (M.o_grd (gI2 fun h => ?_) (M.o_if (fun hb => ?_) (fun hb => ?_))))))
        · rw [Bool.and_eq_true, decide_eq_true_eq] at h; omega
        · refine M.o_pure fun hR => ?_
          have := hR s hi
          rw [Bool.or_eq_true, Bool.not_eq_true', Bool.and_eq_false_iff, Bool.and_eq_true, decide_eq_false_iff_not, decide_eq_false_iff_not, decide_eq_true_eq, decide_eq_true_eq] at hb
          omega
        · rw [Bool.or_eq_false_iff, Bool.not_eq_false', Bool.and_eq_false_iff, Bool.and_eq_true, decide_eq_false_iff_not, decide_eq_false_iff_not, decide_eq_true_eq, decide_eq_true_eq] at hb
          refine M.o_pure ⟨rfl, fun k hk => ?_⟩
          rcases Nat.lt_or_eq_of_le (Nat.le_of_lt_succ hk) with e | e
          · exact hJ k e
          · subst e
            exact ⟨by omega, by omega, fun h => by omega⟩
      · rintro s ⟨rfl, hJ⟩
        simp only [m_nilometerref10_Worth_b0]
        exact M.o_f (by simp) (M.o_pure fun k hk => hJ k hk)
    · intro y hy
      cases y with
      | inl u => exact M.o_pure ⟨fun h => absurd h0 h, fun _ _ => rfl, fun _ h => absurd h hy, fun _ h => absurd h hy⟩
      | inr u =>
        have hR : Pk.Ris l.length c := hy
        have hfew := hR.few
        refine M.o_bind (P := fun y => match y with | .inl (_ : Unit) => ¬ Pk.Good l A T c | .inr w => Pk.Good l A T c ∧ w = Pk.wS l T c c.length) ?_ ?_
        · refine M.o_for c.length (fun i (s : Int × Nat) => s.2 = i ∧ s.1 = Pk.wS l T c i ∧ ∀ k, k < i → T < Pk.stAt l (Pk.cA c k) ∧ (0 < k → A ≤ Pk.dayAt l (Pk.cA c k) - Pk.dayAt l (Pk.cA c (k - 1)))) ?_ ?_ ⟨rfl, rfl, fun k hk => by omega⟩
          · rintro i ⟨w, s⟩ hi ⟨e1, e2, hJ⟩
            dsimp only at e1 e2
            subst e1
            subst e2
            simp only [m_nilometerref10_Worth_b3]
            have hc := hR s hi
            have hst := hA.ok.st _ (hR.at_ hi)
            have hw := Pk.wS_bound hA.ok hT hR s (by omega)
            refine M.o_t (decide_eq_true (by omega)) (M.o_grdD (by omega) (M.o_grd (gA2 hc.1 hc.2.1) (M.o_if (fun hb => ?_) (fun hb => ?_))))
            · have hb := of_decide_eq_true hb
              refine M.o_pure fun hG => ?_
              have := (hG s hi).1
              unfold Pk.stAt Pk.cA at this
              omega
            · have hb := of_decide_eq_false hb
              refine M.o_bind (P := fun y => match y with | .inl (_ : Unit) => ∃ j, j < s ∧ Pk.dayAt l (Pk.cA c s) - Pk.dayAt l (Pk.cA c j) < A | .inr (_ : Unit) => ∀ j, j < s → A ≤ Pk.dayAt l (Pk.cA c s) - Pk.dayAt l (Pk.cA c j)) ?_ ?_
              · refine M.o_for s (fun i (q : Nat) => q = i ∧ ∀ j, j < i → A ≤ Pk.dayAt l (Pk.cA c s) - Pk.dayAt l (Pk.cA c j)) ?_ ?_ ⟨rfl, fun j hj => by omega⟩
                · rintro i q hq ⟨rfl, hK⟩
                  simp only [m_nilometerref10_Worth_b2]
                  have hcq := hR q (by omega)
                  have d1 := hA.ok.day _ (hR.at_ hi)
                  have d2 := hA.ok.day _ (hR.at_ (k := q) (by omega))
                  unfold Pk.dayAt Pk.cA at d1 d2
                  refine M.o_t (decide_eq_true (by omega)) (M.o_grdD (by omega) (M.o_grd (gA2 hcq.1 hcq.2.1) (M.o_grd (gA2 (by omega) (by omega)) (M.o_if (fun hd => ?_) (fun hd => ?_)))))
                  · exact M.o_pure ⟨q, hq, of_decide_eq_true hd⟩
                  · have hd := of_decide_eq_false hd
                    refine M.o_pure ⟨rfl, fun j hj => ?_⟩
                    rcases Nat.lt_or_eq_of_le (Nat.le_of_lt_succ hj) with e | e
                    · exact hK j e
                    · subst e
                      unfold Pk.dayAt Pk.cA
                      omega
                · rintro q ⟨rfl, hK⟩
                  simp only [m_nilometerref10_Worth_b2]
                  exact M.o_f (by simp) (M.o_pure hK)
              · intro y hy
                cases y with
                | inl u =>
                  obtain ⟨j, hj, hlt⟩ := hy
                  refine M.o_pure fun hG => ?_
                  have h1 := (hG s hi).2 (by omega)
                  have h2 : Pk.dayAt l (Pk.cA c j) ≤ Pk.dayAt l (Pk.cA c (s - 1)) := by
                    refine hA.ok.up.le ?_ (hR.at_ (by omega))
                    unfold Pk.cA
                    rcases Nat.lt_or_eq_of_le (show j ≤ s - 1 by omega) with e | e
                    · have := hR.mono e (by omega)
                      omega
                    · rw [e]; exact Nat.le_refl _
                  omega
                | inr u =>
                  have hy : ∀ j, j < s → A ≤ Pk.dayAt l (Pk.cA c s) - Pk.dayAt l (Pk.cA c j) := hy
                  unfold Pk.stAt Pk.cA at hst
                  refine M.o_grd (gA2 (by omega) (by omega)) (M.o_grd (gA2 (by omega) (by omega)) (M.o_pure ⟨rfl, ?_, fun k hk => ?_⟩))
                  · show _ = Pk.wS l T c s + (Pk.stAt l (Pk.cA c s) - T)
                    unfold Pk.stAt Pk.cA
                    dsimp only
                    omega
                  · rcases Nat.lt_or_eq_of_le (Nat.le_of_lt_succ hk) with e | e
                    · exact hJ k e
                    · subst e
                      refine ⟨?_, fun h => hy (k - 1) (by omega)⟩
                      unfold Pk.stAt Pk.cA
                      omega
          · rintro ⟨w, s⟩ ⟨e1, e2, hJ⟩
            dsimp only at e1 e2
            subst e1
            simp only [m_nilometerref10_Worth_b3]
            exact M.o_f (by simp) (M.o_pure ⟨hJ, e2⟩)
        · intro y hy
          cases y with
          | inl u => exact M.o_pure ⟨fun h => absurd h0 h, fun _ h => absurd hR h, fun _ _ _ => rfl, fun _ _ h => absurd h hy⟩
          | inr w =>
            obtain ⟨hG, rfl⟩ := hy
            exact M.o_pure ⟨fun h => absurd h0 h, fun _ h => absurd hR h, fun _ _ h => absurd hG h, fun _ _ _ => rfl⟩
  · exact M.o_t (bne_iff_ne.2 h0) (M.o_pure ⟨fun _ => rfl, fun h => absurd h h0, fun h => absurd h h0, fun h => absurd h h0⟩)
end Go.Proofs.Ytcgalcbkkijkhaa
namespace Go.Nm
namespace Pk
variable {l : List Pk} {A T : Int} {c : List Int}
theorem getD_app (c : List Int) (x : Int) (k : Nat) : (c ++ [x]).getD k 0 = if k < c.length then c.getD k 0 else if k = c.length then x else 0 := by
  simp only [List.getD_eq_getElem?_getD]
  by_cases h : k < c.length
  · rw [if_pos h, List.getElem?_append_left h]
  · rw [if_neg h, List.getElem?_append_right (by omega)]
    by_cases e : k = c.length
    · subst e; simp
    · rw [if_neg e, List.getElem?_eq_none (by simp; omega)]; rfl
theorem Ris.app {n : Nat} (h : Ris n c) {x : Nat} (hx : x < n) (hl : 0 < c.length → cA c (c.length - 1) < x) : Ris n (c ++ [(x : Int)]) := by
  intro k hk
  rw [List.length_append, List.length_singleton] at hk
  rw [getD_app, getD_app]
  by_cases e : k < c.length
  · rw [if_pos e, if_pos (by omega)]
    exact h k e
  · obtain rfl : k = c.length := by omega
    rw [if_neg (by omega), if_pos rfl]
    refine ⟨by omega, by omega, fun h0 => ?_⟩
    rw [if_pos (by omega)]
    have h1 := hl h0
    have h2 := h (c.length - 1) (by omega)
    unfold cA at h1
    omega
theorem cA_app {k x : Nat} (h : k ≤ c.length) : cA (c ++ [(x : Int)]) k = if k < c.length then cA c k else x := by
  unfold cA
  rw [getD_app]
  by_cases e : k < c.length
  · rw [if_pos e, if_pos e]
  · rw [if_neg e, if_neg e, if_pos (by omega)]
    omega
theorem Good.app (h : Good l A T c) {x : Nat} (h1 : T < stAt l x) (h2 : 0 < c.length → A ≤ dayAt l x - dayAt l (cA c (c.length - 1))) : Good l A T (c ++ [(x : Int)]) := by
  intro k hk
  rw [List.length_append, List.length_singleton] at hk
  rw [cA_app (by omega), cA_app (by omega)]
  by_cases e : k < c.length
  · rw [if_pos e, if_pos (by omega)]
    exact h k e
  · obtain rfl : k = c.length := by omega
    rw [if_neg (by omega)]
    refine ⟨h1, fun h0 => ?_⟩
    rw [if_pos (by omega)]
    exact h2 h0
theorem wS_app {x : Nat} : ∀ k : Nat, k ≤ c.length → wS l T (c ++ [(x : Int)]) k = wS l T c k
  | 0, _ => rfl
  | k + 1, h => by
    unfold wS
    rw [wS_app k (by omega), cA_app (by omega), if_pos (by omega)]
theorem wS_snoc {x : Nat} : wS l T (c ++ [(x : Int)]) (c.length + 1) = wS l T c c.length + (stAt l x - T) := by
  show wS l T (c ++ [(x : Int)]) c.length + (stAt l (cA (c ++ [(x : Int)]) c.length) - T) = _
  rw [wS_app _ (Nat.le_refl _), cA_app (Nat.le_refl _), if_neg (by omega)]
end Pk
end Go.Nm
namespace Go.Proofs.Ytcgalcbkkijkhaa
open Go Go.Nm
variable {l : List Pk} {A T : Int}
/-- The greatest worth of a choice. -/
def mxP (l : List Pk) (A T : Int) : Int := Pk.Sf (Pk.kk l A) (vP l T) l.length
structure PiE (l : List Pk) (A T : Int) (y : List Int × Int × Int) : Prop where
  ask : Pk.askP l A T ≠ 0 → y = ([], 0, Pk.askP l A T)
  ok : Pk.askP l A T = 0 → y.2.2 = 0 ∧ Pk.Ris l.length y.1 ∧ Pk.Good l A T y.1 ∧ Pk.wS l T y.1 y.1.length = mxP l A T ∧ y.2.1 = mxP l A T
theorem pick_out (l : List Pk) (A T : Int) : (m_often_Pick l A T).Out (PiE l A T) := by
  unfold m_often_Pick
  refine M.o_bindE (asked_ends l A T) ?_
  by_cases h0 : Pk.askP l A T = 0
  · have h := Pk.ask_ok h0
    have hf := h.ok.few
    have F := Pk.fl h.ok.up h.ap.1
    rw [h0]
    refine M.o_f rfl (M.o_bind (best_out h) ?_)
    rintro b ⟨bl, hB, bb⟩
    have hmx : b.getD 0 0 = mxP l A T := Pk.both F (Pk.sf_is F _) hB
    refine M.o_bind (P := fun y => Pk.Ris l.length y.2 ∧ Pk.Good l A T y.2 ∧ Pk.wS l T y.2 y.2.length = mxP l A T) ?_ ?_
    · refine M.o_iter (fun m (s : Int × List Int) => ∃ i : Nat, s.1 = i ∧ i ≤ l.length ∧ m = l.length - i ∧ Pk.Ris l.length s.2 ∧ Pk.Good l A T s.2 ∧ Pk.wS l T s.2 s.2.length + b.getD i 0 = mxP l A T ∧ (0 < s.2.length → Pk.nx l A (Pk.cA s.2 (s.2.length - 1)) ≤ i)) ?_ _ (0, [])
        ⟨0, rfl, Nat.zero_le _, rfl, fun k hk => by simp at hk, fun k hk => by simp at hk, by rw [← hmx]; show (0 : Int) + _ = _; rw [Int.zero_add], fun hk => by simp at hk⟩
      rintro m ⟨i', c⟩ ⟨i, e, hi, rfl, hR, hG, hw, hl⟩
      dsimp only at e hR hG hw hl
      subst e
      simp only [m_often_Pick_b1, Int.toNat_natCast]
      refine M.o_if (fun hb => ?_) (fun hb => ?_)
      · have hb := of_decide_eq_true hb
        have hi : i < l.length := by omega
        have l1 := F.lt i hi
        have l2 := F.le i hi
        have hs := hB.s i hi
        have ha := hB.anti (Nat.le_of_lt_succ (Nat.succ_lt_succ l1) : i + 1 ≤ Pk.nx l A i) l2
        have hp := hB.pos (i := i + 1) (by omega)
        have hfew := hR.few
        refine M.o_grd (gA2 (by omega) (by omega)) (M.o_grd (gI2 fun _ => by omega) ?_)
        by_cases ht : (l.getD i default).stage ≤ T
        · have e1 : (!(decide ((l.getD i default).stage ≤ T))) = false := by rw [decide_eq_true ht]; rfl
          have e2 : decide ((l.getD i default).stage ≤ T) = true := decide_eq_true ht
          rw [e1, e2]
          refine M.o_bindE (a := 0) (M.i_opt (fun h => by cases h) (fun _ => rfl)) (M.o_t rfl (M.o_pure ⟨l.length - (i + 1), by omega, i + 1, rfl, by omega, rfl, hR, hG, ?_, fun h => Nat.le_succ_of_le (hl h)⟩))
          dsimp only
          have : vP l T i ≤ 0 := by show (l.getD i default).stage - T ≤ 0; omega
          omega
        · have e1 : (!(decide ((l.getD i default).stage ≤ T))) = true := by rw [decide_eq_false ht]; rfl
          have e2 : decide ((l.getD i default).stage ≤ T) = false := decide_eq_false ht
          rw [e1, e2]
          refine M.o_bindE (M.i_opt (fun _ => with_ends h hi bb) (fun h => by cases h)) ?_
          rw [Bool.false_or]
          refine M.o_if (fun hc => ?_) (fun hc => ?_)
          · have hc := of_decide_eq_true hc
            refine M.o_pure ⟨l.length - (i + 1), by omega, i + 1, rfl, by omega, rfl, hR, hG, ?_, fun h => Nat.le_succ_of_le (hl h)⟩
            dsimp only
            omega
          · have hc := of_decide_eq_false hc
            refine M.o_grdD (by simp only [List.length_cons, List.length_nil]; omega) (M.o_bindE (next_ends h hi) (M.o_pure ⟨l.length - Pk.nx l A i, by omega, Pk.nx l A i, rfl, l2, rfl, ?_, ?_, ?_, fun _ => ?_⟩))
            · refine hR.app hi fun h0 => ?_
              have := F.lt _ (hR.at_ (k := c.length - 1) (by omega))
              have := hl h0
              omega
            · refine hG.app ?_ fun h0 => ?_
              · show T < (l.getD i default).stage
                omega
              · have h1 := hl h0
                have h2 := hR.at_ (k := c.length - 1) (by omega)
                have h3 : ¬ Pk.dayAt l i < Pk.dayAt l (Pk.cA c (c.length - 1)) + A := fun h4 => by
                  have := (Pk.fst_lt h.ok.up hi).2 h4
                  have : i < Pk.nx l A (Pk.cA c (c.length - 1)) := this
                  omega
                omega
            · dsimp only
              rw [List.length_append, List.length_singleton, Pk.wS_snoc]
              unfold vP at hs hc
              omega
            · dsimp only
              rw [List.length_append, List.length_singleton, Nat.add_sub_cancel, Pk.cA_app (Nat.le_refl _), if_neg (by omega)]
              exact Nat.le_refl _
      · have hb := of_decide_eq_false hb
        obtain rfl : i = l.length := by omega
        have := hB.z
        rw [this] at hw
        exact M.o_pure ⟨hR, hG, by dsimp only; omega⟩
    · rintro ⟨c', c⟩ ⟨h1, h2, h3⟩
      exact M.o_grd rfl (M.o_pure ⟨fun h => absurd h0 h, fun _ => ⟨rfl, h1, h2, h3, hmx⟩⟩)
  · exact M.o_t (bne_iff_ne.2 h0) (M.o_pure ⟨fun _ => rfl, fun h => absurd h h0⟩)
theorem getD_part (d : List Int) {a r s : Nat} (h : a + s < r) : ((d.take r).drop a).getD s 0 = d.getD (a + s) 0 := by
  simp only [List.getD_eq_getElem?_getD]
  rw [List.getElem?_drop, List.getElem?_take, if_pos h]
structure DuE (l : List Pk) (A T : Int) (y : List Int × Int) : Prop where
  ask : Pk.askP l A T ≠ 0 → y = ([], Pk.askP l A T)
  ok : Pk.askP l A T = 0 → y.2 = 0 ∧ y.1.length = l.length ∧ Pk.Du l.length (Pk.kk l A) (Pk.Sf (Pk.kk l A) (vP l T)) l.length (fun k => y.1.getD k 0)
theorem sm_small {d : Nat → Int} {K : Int} (h : ∀ i, 0 ≤ d i ∧ d i ≤ K) (a : Nat) : ∀ k : Nat, 0 ≤ Pk.sm d a k ∧ Pk.sm d a k ≤ K * k
  | 0 => by simp [Pk.sm]
  | k + 1 => by
    have ih := sm_small h a k
    have := h (a + k)
    unfold Pk.sm
    have e : K * ((k + 1 : Nat) : Int) = K * k + K := by rw [show ((k + 1 : Nat) : Int) = (k : Int) + 1 by omega, Int.mul_add, Int.mul_one]
    omega
theorem dues_out (l : List Pk) (A T : Int) : (m_often_Dues l A T).Out (DuE l A T) := by
  unfold m_often_Dues
  refine M.o_bindE (asked_ends l A T) ?_
  by_cases h0 : Pk.askP l A T = 0
  · have h := Pk.ask_ok h0
    have hf := h.ok.few
    have hT := h.th
    have F := Pk.fl h.ok.up h.ap.1
    have hS := Pk.sf_is F (vP l T)
    rw [h0]
    refine M.o_f rfl (M.o_grd (gA3 (by omega) (by omega) (by omega)) (M.o_bind (P := fun y => y.2.length = l.length ∧ Pk.Du l.length (Pk.kk l A) (Pk.Sf (Pk.kk l A) (vP l T)) l.length (fun k => y.2.getD k 0)) ?_ ?_))
    · refine M.o_for l.length (fun i (s : List Int × Nat) => s.2 = i ∧ s.1.length = l.length ∧ Pk.Du l.length (Pk.kk l A) (Pk.Sf (Pk.kk l A) (vP l T)) i (fun k => s.1.getD k 0) ∧ ∀ k : Nat, 0 ≤ s.1.getD k 0 ∧ s.1.getD k 0 ≤ 2000 * (i : Int)) ?_ ?_ ⟨rfl, by simp, ?_, fun k => ?_⟩
      · rintro i ⟨d, s⟩ hi ⟨e1, hl, hD, hb⟩
        dsimp only at e1 hl hD hb
        subst e1
        simp only [m_often_Dues_b2]
        have l1 := F.lt s hi
        have l2 := F.le s hi
        have hst := h.ok.st s hi
        unfold Pk.stAt at hst
        refine M.o_t (decide_eq_true (by omega)) (M.o_grdD (by omega) (M.o_bindE (window_ends h hi) (M.o_grd (gA2 (by omega) (by omega)) (M.o_grd (gA3 (by omega) (by omega) (by omega)) (M.o_bind (P := fun q => q = vP l T s - Pk.sm (fun k => d.getD k 0) s (Pk.nx l A s - s)) ?_ ?_)))))
        · have hlen : ((d.take (Int.toNat (Pk.nx l A s : Int))).drop s).length = Pk.nx l A s - s := by rw [List.length_drop, List.length_take]; omega
          refine M.o_for (Pk.nx l A s - s) (fun j (q : Int × Nat) => q.2 = j ∧ q.1 = vP l T s - Pk.sm (fun k => d.getD k 0) s j) ?_ ?_ ⟨rfl, by show (l.getD s default).stage - T = vP l T s - 0; rw [Int.sub_zero]; rfl⟩
          · rintro j ⟨q, z⟩ hj ⟨e1, e2⟩
            dsimp only at e1 e2
            subst e1
            subst e2
            simp only [m_often_Dues_b1]
            have k1 := hb (s + z)
            have k2 := sm_small hb s z
            have hv : vP l T s = (l.getD s default).stage - T := rfl
            have hget : ((d.take (Int.toNat (Pk.nx l A s : Int))).drop s).getD z 0 = d.getD (s + z) 0 := getD_part d (by omega)
            have hz : 2000 * (s : Int) * (z : Int) ≤ 2000 * (40 : Int) * 40 := Int.mul_le_mul (by omega) (by omega) (by omega) (by decide)
            refine M.o_t (decide_eq_true (by omega)) (M.o_grdD (by omega) (M.o_grd (gA2 (by omega) (by omega)) (M.o_pure ⟨rfl, ?_⟩)))
            show _ = vP l T s - (Pk.sm (fun k => d.getD k 0) s z + d.getD (s + z) 0)
            omega
          · rintro ⟨q, z⟩ ⟨e1, e2⟩
            dsimp only at e1 e2
            subst e1
            simp only [m_often_Dues_b1]
            exact M.o_f (decide_eq_false (by omega)) (M.o_pure e2)
        · rintro q rfl
          have k3 := sm_small hb s (Pk.nx l A s - s)
          have hv : vP l T s = (l.getD s default).stage - T := rfl
          have k4 := hb (Pk.nx l A s - 1)
          refine M.o_grd (gA2 (by omega) (by omega)) (M.o_bindE (greatest1 _) ?_)
          have e3 : Int.toNat ((Pk.nx l A s : Int) - 1) = Pk.nx l A s - 1 := by omega
          have hset : (m_often_Dues_1 ((Pk.nx l A s : Int) - 1) (max 0 (vP l T s - Pk.sm (fun k => d.getD k 0) s (Pk.nx l A s - s))) d).Ends (d.set (Pk.nx l A s - 1) (d.getD (Pk.nx l A s - 1) 0 + max 0 (vP l T s - Pk.sm (fun k => d.getD k 0) s (Pk.nx l A s - s)))) := by
            unfold m_often_Dues_1
            rw [e3]
            exact M.i_grd (gA2 (by omega) (by omega)) (M.i_grd (gA2 (by omega) (by omega)) M.i_pure)
          refine M.o_bindE hset (M.o_pure ⟨rfl, by simpa using hl, ?_, fun k => ?_⟩)
          · have := hD.step F hS hi (p := Pk.nx l A s - 1) (by omega) rfl
            have e4 : (fun k => (d.set (Pk.nx l A s - 1) (d.getD (Pk.nx l A s - 1) 0 + max 0 (vP l T s - Pk.sm (fun k => d.getD k 0) s (Pk.nx l A s - s)))).getD k 0) = fun k => if k = Pk.nx l A s - 1 then d.getD k 0 + max 0 (vP l T s - Pk.sm (fun k => d.getD k 0) s (Pk.nx l A s - s)) else d.getD k 0 := by
              funext k
              rw [gset _ _ _ _ _ (by omega)]
              split
              · rename_i e; rw [e]
              · rfl
            show Pk.Du _ _ _ (s + 1) (fun k => (d.set _ _).getD k 0)
            rw [e4]
            exact this
          · show 0 ≤ (d.set _ _).getD k 0 ∧ (d.set _ _).getD k 0 ≤ 2000 * ((s + 1 : Nat) : Int)
            rw [gset _ _ _ _ _ (by omega)]
            have := hb k
            split <;> omega
      · rintro ⟨d, s⟩ ⟨e1, hl, hD, hb⟩
        dsimp only at e1 hl hD hb
        subst e1
        simp only [m_often_Dues_b2]
        exact M.o_f (by simp) (M.o_pure ⟨hl, hD⟩)
      · have e : (fun k => (List.replicate l.length (0 : Int)).getD k 0) = fun _ => 0 := by
          funext k
          rw [List.getD_eq_getElem?_getD, List.getElem?_replicate]
          split <;> rfl
        show Pk.Du _ _ _ 0 (fun k => (List.replicate l.length (0 : Int)).getD k 0)
        rw [e]
        exact Pk.Du.z hS
      · dsimp only
        rw [List.getD_eq_getElem?_getD, List.getElem?_replicate]
        split
        · show (0 : Int) ≤ 0 ∧ (0 : Int) ≤ _; omega
        · show (0 : Int) ≤ 0 ∧ (0 : Int) ≤ _; omega
    · rintro ⟨d', d⟩ ⟨h1, h2⟩
      exact M.o_pure ⟨fun h => absurd h0 h, fun _ => ⟨rfl, h1, h2⟩⟩
  · exact M.o_t (bne_iff_ne.2 h0) (M.o_pure ⟨fun _ => rfl, fun h => absurd h h0⟩)
end Go.Proofs.Ytcgalcbkkijkhaa
namespace Go.Proofs.Ytcgalcbkkijkhaa
open Go Go.Nm
theorem awake_ends : (m_nilometerlaw10_awake).Ends true := ⟨300, by kernel_rfl⟩
end Go.Proofs.Ytcgalcbkkijkhaa
