/- Part 5 of the texts on which the proof rests. Conditions: none. -/
import Derived.Test.YtclhljenjphofaaZT4
set_option linter.unusedVariables false
set_option linter.unusedSimpArgs false
set_option linter.unusedSectionVars false
namespace Go.Proofs.Ytclhljenjphofaa
open Go Go.Nm
def m_nilometerkit_Copy_int (l : List Int) : M (List Int) :=
  M.grd (decide ((([] : List Int).length + l.length) * 8 ≤ 140737488355328)) <|
  M.pure l
set_option maxRecDepth 100000 in
set_option maxHeartbeats 16000000 in
theorem nilometerkit_Copy_int_ok {R : List Chunk} {C_l : Cells} {v_l : Value} (l : List Int) (hC_l : Reads R C_l) (hs_l : Sl C_l v_l l) {r : (List Int)} (hM : (m_nilometerkit_Copy_int l).Ends r) (w : World) (H : St w w [] R) : Ret Try.prog 36 #[v_l] w fun v w' => ∃ (y0 : List Int) (u0 : Value), y0 = r ∧ v = u0 ∧ St w w' [cOwn (α := Int) 3 u0 y0] R := by
 refine ret_of_W Try.func36 rfl rfl rfl ?_
 refine W.seq ?_
 refine W.region rfl ?_
 refine s_val (x_as (v := .slice none 0 0) rfl) ?_
 refine s_nil ?_
 refine W.seq ?_
 refine W.region rfl ?_
 refine s_val (x_as (v := .slice none 0 0) rfl) ?_
 refine s_nil ?_
 refine W.seq ?_
 refine W.region rfl ?_
 refine s_val (x_mv (v := .slice none 0 0) rfl) ?_
 refine s_val (x_mv (v := v_l) rfl) ?_
 replace H : St w w [cOwn (α := Int) 3 (.slice none 0 0) ([])] R := H.nilOwn (α := Int) 3
 obtain ⟨sd1z, hM⟩ := M.e_grd hM
 simp only [Bool.and_eq_true, decide_eq_true_eq] at sd1z
 refine t_app (α := Int) (k := 0) (l := []) (l2 := l) (l' := l) (vy := v_l) T26 rfl H rfl rfl rfl hs_l (hC_l.at H) (List.nil_append _) (by first | omega | (simp only [List.length_nil] at *; omega)) ?_
 intro v2z w3z H
 replace H : St w w3z [cOwn (α := Int) 3 v2z l] R := H
 refine s_val (x_as (v := v2z) rfl) ?_
 refine s_nil ?_
 refine W.ret ?_
 have hr_ := M.e_pure hM
 exact ⟨_, resE_tmp rfl, ⟨l, v2z, hr_, rfl, H⟩⟩

def m_nilometerlaw01_Net_b0 (n_Lines : List Line) : (Nat × (List Line)) → M ((Nat × (List Line)) ⊕ ((List Line) × (List Line))) := fun (s, l) =>
  bif decide ((s : Int) < (n_Lines.length : Int)) then (
  M.grd (decide ((s : Int) < (n_Lines.length : Int))) <|
  M.grd (decide ((l.length + ([(n_Lines.getD s default)]).length) * 40 ≤ 140737488355328)) <|
  M.pure (.inl (s + 1, l ++ ([(n_Lines.getD s default)]))))
  else (
  M.pure (.inr (l, l)))
def m_nilometerlaw01_Net (n_Marks : Int) (n_Lines : List Line) : M (Int × (List Line)) :=
  M.bind (M.iter (m_nilometerlaw01_Net_b0 n_Lines) (0, [])) fun (l2, l3) =>
  M.pure (n_Marks, l3)
set_option maxRecDepth 100000 in
set_option maxHeartbeats 16000000 in
theorem nilometerlaw01_Net_ok {R : List Chunk} {C_n_Lines : Cells} {v_n_Lines : Value} (n_Marks : Int) (n_Lines : List Line) (hC_n_Lines : Reads R C_n_Lines) (hs_n_Lines : Sl C_n_Lines v_n_Lines n_Lines) {r : (Int × (List Line))} (hM : (m_nilometerlaw01_Net n_Marks n_Lines).Ends r) (w : World) (H : St w w [] R) : Ret Try.prog 28 #[.agg #[I n_Marks, v_n_Lines]] w fun v w' => ∃ (y0 : Int) (y1 : List Line) (u0 : Value), (y0, y1) = r ∧ v = .agg #[I y0, u0] ∧ St w w' [cOwn (α := Line) 133 u0 y1] R := by
 refine ret_of_W Try.func28 rfl rfl rfl ?_
 refine W.seq ?_
 refine W.region rfl ?_
 refine t_box (v := .agg #[I n_Marks, v_n_Lines]) (cs := [I n_Marks, v_n_Lines]) H rfl rfl ?_
 intro b_1 w1z H
 refine t_alloc (cs := [I 0, .slice none 0 0]) H Al64 rfl ?_
 intro b_2 w2z H
 refine s_nil ?_
 refine W.seq ?_
 refine W.region rfl ?_
 refine s_val (x_fa (a := .pointer (some ⟨b_1, 0, none⟩)) (v := .pointer (some ⟨b_1, 0, none⟩)) rfl (fa_blk (o := 0) Fd25_0 Sz3)) ?_
 refine s_val (x_ld (p := .pointer (some ⟨b_1, 0, none⟩)) (v := I n_Marks) rfl (ldb_sc Sc3 (H.blk (k := 1) rfl) rfl)) ?_
 refine s_val (x_bld (ps := [(0, I n_Marks)]) (zs := [I 0, .slice none 0 0]) (L' := [I n_Marks, .slice none 0 0]) rfl Try.underlying64 Al64 rfl (Bd64 Try.underlying64) (.cons (cs := [I n_Marks]) rfl rfl rfl rfl rfl <| .nil)) ?_
 refine t_alloc (cs := [I 0, .slice none 0 0]) H Al64 rfl ?_
 intro b_3 w3z H
 refine t_st (k := 0) (b := b_3) (off := 0) (cs := [I 0, .slice none 0 0]) (vs := [I n_Marks, .slice none 0 0]) (cs' := [I n_Marks, .slice none 0 0]) (v := .agg #[I n_Marks, .slice none 0 0]) (L' := [cBlk b_3 [I n_Marks, .slice none 0 0] 64, cBlk b_2 [I 0, .slice none 0 0] 64, cBlk b_1 [I n_Marks, v_n_Lines] 25]) H rfl rfl rfl Sz64 rfl rfl rfl rfl rfl rfl ?_
 intro w4z H
 refine s_nil ?_
 refine W.seq ?_
 refine W.seq ?_
 refine W.region rfl ?_
 refine s_val (x_fa (a := .pointer (some ⟨b_1, 0, none⟩)) (v := .pointer (some ⟨b_1, 1, none⟩)) rfl (fa_blk (o := 0) Fd25_1 Sz23)) ?_
 refine s_val (x_ld (p := .pointer (some ⟨b_1, 1, none⟩)) (v := v_n_Lines) rfl (ldb_sc Sc23 (H.blk (k := 2) rfl) rfl)) ?_
 have hl5z := (hs_n_Lines).len_le
 refine s_val (x_lenS T23.und rfl hs_n_Lines) ?_
 refine s_val (x_mv (v := I 0) rfl) ?_
 refine s_nil ?_
 refine W.block ?_
 replace H : St w w4z [cOwn (α := Line) 133 (.slice none 0 0) ([]), cBlk b_3 [I n_Marks, .slice none 0 0] 64, cBlk b_2 [I 0, .slice none 0 0] 64, cBlk b_1 [I n_Marks, v_n_Lines] 25] R := H.nilOwn (α := Line) 133
 obtain ⟨ex6z, hi7z, hk8z⟩ := M.e_bind hM
 obtain ⟨m0_, hi7z⟩ := M.e_iter hi7z
 refine W.loop (fun m σ W => ∃ (s : Nat) (l : List Line) (v_l : Value) (ρ : Env), σ = upds ρ [(2, .pointer (some ⟨b_2, 0, none⟩)), (3, .pointer (some ⟨b_3, 0, none⟩)), (10, v_n_Lines), (11, I (n_Lines.length : Int)), (12, I (s : Int))] ∧ M.iterN (m_nilometerlaw01_Net_b0 n_Lines) m (s, l) = some ex6z ∧ St w W [cOwn (α := Line) 133 v_l l, cBlk b_3 [I n_Marks, v_l] 64, cBlk b_2 [I 0, .slice none 0 0] 64, cBlk b_1 [I n_Marks, v_n_Lines] 25] R) ?_ ?_
 ·exact ⟨_, 0, [], (.slice none 0 0), _, upds_of _ _ ⟨rfl, rfl, rfl, rfl, rfl, trivial⟩, hi7z, H⟩
 ·rintro m11z σ w9z ⟨s, l, v_l, ρ, rfl, hI10z, H⟩
  obtain ⟨m12z, lt13z, x14z, hM, hN15z⟩ := M.e_iterN hI10z
  simp only [m_nilometerlaw01_Net_b0] at hM
  clear hI10z
  refine W.seq ?_
  refine W.region rfl ?_
  refine s_val (x_cmp (kd := .i64) (a := (s : Int)) (b := (n_Lines.length : Int)) (r := decide ((s : Int) < (n_Lines.length : Int))) rfl rfl rfl) ?_
  refine s_nil ?_
  refine W.seq ?_
  refine W.cond (decide ((s : Int) < (n_Lines.length : Int))) rfl (fun c16z => ?_) (fun c16z => ?_)
  ·replace hM := M.e_t hM c16z
   simp only [decide_eq_true_eq, decide_eq_false_iff_not, beq_iff_eq, bne_iff_ne, beq_eq_false_iff_ne, bne_eq_false_iff_eq, ne_eq, Decidable.not_not] at c16z
   refine W.skip ?_
   refine W.seq ?_
   refine W.block ?_
   refine W.seq ?_
   refine W.region rfl ?_
   obtain ⟨sd17z, hM⟩ := M.e_grd hM
   simp only [Bool.and_eq_true, decide_eq_true_eq] at sd17z
   refine s_val (x_ix (a := v_n_Lines) (b := I (s : Int)) (v := vat v_n_Lines 5 (Int.toNat (s : Int))) rfl rfl (Sl.ix (α := Line) T23.und T23.size hs_n_Lines (by omega) (by omega))) ?_
   refine s_val (x_ld (p := vat v_n_Lines 5 (Int.toNat (s : Int))) (v := .agg #[I ((n_Lines.getD s default).src), I ((n_Lines.getD s default).dst), I ((n_Lines.getD s default).day), I ((n_Lines.getD s default).rise), I ((n_Lines.getD s default).err)]) rfl (ld_ag Ag34 Sz34 (At.mono (Line_atA hs_n_Lines (i := (s : Int)) (by omega) (by omega)) (hC_n_Lines.at H)))) ?_
   refine t_alloc (cs := [I 0, I 0, I 0, I 0, I 0]) H Al34 rfl ?_
   intro b_4 w18z H
   refine t_st (k := 0) (b := b_4) (off := 0) (cs := [I 0, I 0, I 0, I 0, I 0]) (vs := [I ((n_Lines.getD s default).src), I ((n_Lines.getD s default).dst), I ((n_Lines.getD s default).day), I ((n_Lines.getD s default).rise), I ((n_Lines.getD s default).err)]) (cs' := [I ((n_Lines.getD s default).src), I ((n_Lines.getD s default).dst), I ((n_Lines.getD s default).day), I ((n_Lines.getD s default).rise), I ((n_Lines.getD s default).err)]) (v := .agg #[I ((n_Lines.getD s default).src), I ((n_Lines.getD s default).dst), I ((n_Lines.getD s default).day), I ((n_Lines.getD s default).rise), I ((n_Lines.getD s default).err)]) (L' := [cBlk b_4 [I ((n_Lines.getD s default).src), I ((n_Lines.getD s default).dst), I ((n_Lines.getD s default).day), I ((n_Lines.getD s default).rise), I ((n_Lines.getD s default).err)] 34, cOwn (α := Line) 133 v_l l, cBlk b_3 [I n_Marks, v_l] 64, cBlk b_2 [I 0, .slice none 0 0] 64, cBlk b_1 [I n_Marks, v_n_Lines] 25]) H rfl rfl rfl Sz34 rfl rfl rfl rfl rfl rfl ?_
   intro w19z H
   refine s_nil ?_
   refine W.region rfl ?_
   refine s_val (x_fa (a := .pointer (some ⟨b_3, 0, none⟩)) (v := .pointer (some ⟨b_3, 1, none⟩)) rfl (fa_blk (o := 0) Fd64_1 Sz62)) ?_
   refine s_val (x_ld (p := .pointer (some ⟨b_3, 1, none⟩)) (v := v_l) rfl (ldb_sc Sc62 (H.blk (k := 2) rfl) rfl)) ?_
   refine s_val (x_ld (p := .pointer (some ⟨b_4, 0, none⟩)) (v := .agg #[I ((n_Lines.getD s default).src), I ((n_Lines.getD s default).dst), I ((n_Lines.getD s default).day), I ((n_Lines.getD s default).rise), I ((n_Lines.getD s default).err)]) rfl (ldb_ag (ds := [I ((n_Lines.getD s default).src), I ((n_Lines.getD s default).dst), I ((n_Lines.getD s default).day), I ((n_Lines.getD s default).rise), I ((n_Lines.getD s default).err)]) Ag34 Sz34 (H.blk (k := 0) rfl) rfl rfl)) ?_
   refine t_bs (α := Line) T62 [.agg #[I ((n_Lines.getD s default).src), I ((n_Lines.getD s default).dst), I ((n_Lines.getD s default).day), I ((n_Lines.getD s default).rise), I ((n_Lines.getD s default).err)]] [(n_Lines.getD s default)] H rfl (.cons rfl (Flat.rep_enc _ (n_Lines.getD s default)) <| .nil) rfl rfl rfl ?_
   intro v20z w21z H
   obtain ⟨sd22z, hM⟩ := M.e_grd hM
   simp only [Bool.and_eq_true, decide_eq_true_eq] at sd22z
   refine t_app (α := Line) (k := 2) (l := l) (l2 := [(n_Lines.getD s default)]) (l' := l ++ ([(n_Lines.getD s default)])) (vy := v20z) T62 rfl H rfl rfl rfl (ownSl (H.get (k := 0) rfl)) (ownLe _ (H.get (k := 0) rfl)) (rfl) (by first | omega | (simp only [List.length_nil] at *; omega)) ?_
   intro v23z w24z H
   replace H : St w w24z [cOwn (α := Line) 133 v20z ([(n_Lines.getD s default)]), cBlk b_4 [I ((n_Lines.getD s default).src), I ((n_Lines.getD s default).dst), I ((n_Lines.getD s default).day), I ((n_Lines.getD s default).rise), I ((n_Lines.getD s default).err)] 34, cOwn (α := Line) 133 v23z (l ++ ([(n_Lines.getD s default)])), cBlk b_3 [I n_Marks, v_l] 64, cBlk b_2 [I 0, .slice none 0 0] 64, cBlk b_1 [I n_Marks, v_n_Lines] 25] R := H
   refine s_val (x_fa (a := .pointer (some ⟨b_3, 0, none⟩)) (v := .pointer (some ⟨b_3, 1, none⟩)) rfl (fa_blk (o := 0) Fd64_1 Sz62)) ?_
   refine t_st (k := 3) (b := b_3) (off := 1) (cs := [I n_Marks, v_l]) (vs := [v23z]) (cs' := [I n_Marks, v23z]) (v := v23z) (L' := [cOwn (α := Line) 133 v20z ([(n_Lines.getD s default)]), cBlk b_4 [I ((n_Lines.getD s default).src), I ((n_Lines.getD s default).dst), I ((n_Lines.getD s default).day), I ((n_Lines.getD s default).rise), I ((n_Lines.getD s default).err)] 34, cOwn (α := Line) 133 v23z (l ++ ([(n_Lines.getD s default)])), cBlk b_3 [I n_Marks, v23z] 64, cBlk b_2 [I 0, .slice none 0 0] 64, cBlk b_1 [I n_Marks, v_n_Lines] 25]) H rfl rfl rfl Sz62 (Sl.cells (ownSl (H.get (k := 2) rfl))) rfl rfl (by simp only [List.all_cons, List.all_nil, Bool.true_and, Bool.and_true, Sl.oc (ownSl (H.get (k := 2) rfl))]; try rfl) rfl rfl ?_
   intro w25z H
   refine s_nil ?_
   refine W.region rfl ?_
   refine s_val (x_ari (a := (s : Int)) (b := 1) (r := (s : Int) + 1) rfl rfl rfl (by omega)) ?_
   refine s_val (x_mv (v := I ((s : Int) + 1)) rfl) ?_
   refine s_nil ?_
   exact ⟨m12z, lt13z, s + 1, l ++ ([(n_Lines.getD s default)]), v23z, _, upds_of _ _ ⟨rfl, rfl, rfl, rfl, rfl, trivial⟩, M.e_inl hM hN15z, (H.pick [2, 3, 4, 5] (by decide) rfl)⟩
  ·replace hM := M.e_f hM c16z
   simp only [decide_eq_true_eq, decide_eq_false_iff_not, beq_iff_eq, bne_iff_ne, beq_eq_false_iff_ne, bne_eq_false_iff_eq, ne_eq, Decidable.not_not] at c16z
   refine W.exit ?_
   have hX26z := M.e_inr hM hN15z
   subst hX26z
   replace hM := hk8z
   try dsimp only at hM
   refine W.seq ?_
   refine W.region rfl ?_
   refine s_val (x_ld (p := .pointer (some ⟨b_3, 0, none⟩)) (v := .agg #[I n_Marks, v_l]) rfl (ldb_ag (ds := [I n_Marks, v_l]) Ag64 Sz64 (H.blk (k := 1) rfl) rfl rfl)) ?_
   refine t_st (k := 2) (b := b_2) (off := 0) (cs := [I 0, .slice none 0 0]) (vs := [I n_Marks, v_l]) (cs' := [I n_Marks, v_l]) (v := .agg #[I n_Marks, v_l]) (L' := [cOwn (α := Line) 133 v_l l, cBlk b_3 [I n_Marks, v_l] 64, cBlk b_2 [I n_Marks, v_l] 64, cBlk b_1 [I n_Marks, v_n_Lines] 25]) H rfl rfl rfl Sz64 rfl rfl rfl (by simp only [List.all_cons, List.all_nil, Bool.true_and, Bool.and_true, Sl.oc (ownSl (H.get (k := 0) rfl))]; try rfl) rfl rfl ?_
   intro w27z H
   refine s_nil ?_
   refine W.ret ?_
   have hb28z := (H.blk (k := 2) rfl)
   have hr_ := M.e_pure hM
   exact ⟨_, (resE_of1 (v := .agg #[I n_Marks, v_l]) rfl (.cell (v := .agg #[I n_Marks, v_l]) rfl (run_loadVar_ag (ds := [I n_Marks, v_l]) Ag64 Sz64 hb28z rfl rfl) <| .nil)), ⟨n_Marks, l, v_l, hr_, rfl, (H.pick [0] (by decide) rfl)⟩⟩

def m_slices_IndexFunc_int_b0 (s : List Int) (f : Int → M Bool) : Nat → M (Nat ⊕ (Int ⊕ Unit)) := fun s2 =>
  bif decide ((s2 : Int) < (s.length : Int)) then (
  M.grd (decide ((s2 : Int) < (s.length : Int))) <|
  M.bind (f (s.getD s2 0)) fun r2 =>
  bif r2 then (
  M.pure (.inr (.inl (s2 : Int))))
  else (
  M.pure (.inl (s2 + 1))))
  else (
  M.pure (.inr (.inr ())))
def m_slices_IndexFunc_int (s : List Int) (f : Int → M Bool) : M Int :=
  M.bind (M.iter (m_slices_IndexFunc_int_b0 s f) 0) fun x_ => match x_ with
  | (.inl s3) => (
  M.pure s3)
  | (.inr (_ : Unit)) => (
  M.pure (-1))
set_option maxRecDepth 100000 in
set_option maxHeartbeats 16000000 in
theorem slices_IndexFunc_int_ok {R : List Chunk} {C_s : Cells} {v_s : Value} {v_f : Value} (s : List Int) (f : Int → M Bool) (hC_s : Reads R C_s) (hs_s : Sl C_s v_s s) (hf_f : FnM Try.prog R v_f f) {r : Int} (hM : (m_slices_IndexFunc_int s f).Ends r) (w : World) (H : St w w [] R) : Ret Try.prog 107 #[v_s, v_f] w fun v w' => ∃ (y0 : Int), y0 = r ∧ v = I y0 ∧ St w w' [] R := by
 refine ret_of_W Try.func107 rfl rfl rfl ?_
 refine W.seq ?_
 refine W.region rfl ?_
 refine s_val (x_as (v := I 0) rfl) ?_
 refine s_nil ?_
 refine W.seq ?_
 refine W.seq ?_
 refine W.region rfl ?_
 refine s_val (x_mv (v := v_s) rfl) ?_
 have hl1z := (hs_s).len_le
 refine s_val (x_lenS T26.und rfl hs_s) ?_
 refine s_val (x_mv (v := I 0) rfl) ?_
 refine s_nil ?_
 refine W.block ?_
 obtain ⟨ex2z, hi3z, hk4z⟩ := M.e_bind hM
 obtain ⟨m0_, hi3z⟩ := M.e_iter hi3z
 refine W.loop (fun m σ W => ∃ (s2 : Nat) (ρ : Env), σ = upds ρ [(0, v_s), (1, v_f), (7, I (s.length : Int)), (8, I (s2 : Int))] ∧ M.iterN (m_slices_IndexFunc_int_b0 s f) m s2 = some ex2z ∧ St w W [] R) ?_ ?_
 ·exact ⟨_, 0, _, upds_of _ _ ⟨rfl, rfl, rfl, rfl, trivial⟩, hi3z, H⟩
 ·rintro m7z σ w5z ⟨s2, ρ, rfl, hI6z, H⟩
  obtain ⟨m8z, lt9z, x10z, hM, hN11z⟩ := M.e_iterN hI6z
  simp only [m_slices_IndexFunc_int_b0] at hM
  clear hI6z
  refine W.seq ?_
  refine W.region rfl ?_
  refine s_val (x_cmp (kd := .i64) (a := (s2 : Int)) (b := (s.length : Int)) (r := decide ((s2 : Int) < (s.length : Int))) rfl rfl rfl) ?_
  refine s_nil ?_
  refine W.seq ?_
  refine W.cond (decide ((s2 : Int) < (s.length : Int))) rfl (fun c12z => ?_) (fun c12z => ?_)
  ·replace hM := M.e_t hM c12z
   simp only [decide_eq_true_eq, decide_eq_false_iff_not, beq_iff_eq, bne_iff_ne, beq_eq_false_iff_ne, bne_eq_false_iff_eq, ne_eq, Decidable.not_not] at c12z
   refine W.skip ?_
   refine W.seq ?_
   refine W.block ?_
   refine W.seq ?_
   refine W.region rfl ?_
   refine s_val (x_mv (v := I (s2 : Int)) rfl) ?_
   refine s_val (x_as (v := I (s2 : Int)) rfl) ?_
   refine s_nil ?_
   refine W.seq ?_
   refine W.region rfl ?_
   refine s_val (x_mv (v := v_f) rfl) ?_
   refine s_val (x_mv (v := v_s) rfl) ?_
   refine s_val (x_mv (v := I (s2 : Int)) rfl) ?_
   obtain ⟨sd13z, hM⟩ := M.e_grd hM
   simp only [Bool.and_eq_true, decide_eq_true_eq] at sd13z
   refine s_val (x_ix (a := v_s) (b := I (s2 : Int)) (v := vat v_s 1 (Int.toNat (s2 : Int))) rfl rfl (Sl.ix (α := Int) T26.und T26.size hs_s (by omega) (by omega))) ?_
   refine s_val (x_ld (p := vat v_s 1 (Int.toNat (s2 : Int))) (v := I (s.getD s2 0)) rfl (ld_sc Sc3 (At.mono (Int_at hs_s (i := (s2 : Int)) (by omega) (by omega)) (hC_s.at H)))) ?_
   obtain ⟨r2, hx15z, hM⟩ := M.e_bind hM
   refine t_callM H hf_f rfl rfl (s.getD s2 0) Reads.none (Arg.mkI (fun _ => none) _) hx15z ?_
   intro w14z H
   refine s_nil ?_
   refine W.cond r2 rfl (fun c16z => ?_) (fun c16z => ?_)
   ·replace hM := M.e_t hM c16z
    refine W.seq ?_
    refine W.region rfl ?_
    refine s_val (x_mv (v := I (s2 : Int)) rfl) ?_
    refine s_val (x_as (v := I (s2 : Int)) rfl) ?_
    refine s_nil ?_
    refine W.ret ?_
    have hX17z := M.e_inr hM hN11z
    subst hX17z
    replace hM := hk4z
    try dsimp only at hM
    have hr_ := M.e_pure hM
    exact ⟨_, resE_tmp rfl, ⟨(s2 : Int), hr_, rfl, H⟩⟩
   ·replace hM := M.e_f hM c16z
    refine W.skip ?_
    refine W.region rfl ?_
    refine s_val (x_ari (a := (s2 : Int)) (b := 1) (r := (s2 : Int) + 1) rfl rfl rfl (by omega)) ?_
    refine s_val (x_mv (v := I ((s2 : Int) + 1)) rfl) ?_
    refine s_nil ?_
    exact ⟨m8z, lt9z, s2 + 1, _, upds_of _ _ ⟨rfl, rfl, rfl, rfl, trivial⟩, M.e_inl hM hN11z, H⟩
  ·replace hM := M.e_f hM c12z
   simp only [decide_eq_true_eq, decide_eq_false_iff_not, beq_iff_eq, bne_iff_ne, beq_eq_false_iff_ne, bne_eq_false_iff_eq, ne_eq, Decidable.not_not] at c12z
   refine W.exit ?_
   have hX18z := M.e_inr hM hN11z
   subst hX18z
   replace hM := hk4z
   try dsimp only at hM
   refine W.seq ?_
   refine W.region rfl ?_
   refine s_val (x_as (v := I (-1)) rfl) ?_
   refine s_nil ?_
   refine W.ret ?_
   have hr_ := M.e_pure hM
   exact ⟨_, resE_tmp rfl, ⟨(-1), hr_, rfl, H⟩⟩

def m_slices_ContainsFunc_int (s : List Int) (f : Int → M Bool) : M Bool :=
  M.bind (m_slices_IndexFunc_int s f) fun r2 =>
  M.pure (decide (0 ≤ r2))
set_option maxRecDepth 100000 in
set_option maxHeartbeats 16000000 in
theorem slices_ContainsFunc_int_ok {R : List Chunk} {C_s : Cells} {v_s : Value} {v_f : Value} (s : List Int) (f : Int → M Bool) (hC_s : Reads R C_s) (hs_s : Sl C_s v_s s) (hf_f : FnM Try.prog R v_f f) {r : Bool} (hM : (m_slices_ContainsFunc_int s f).Ends r) (w : World) (H : St w w [] R) : Ret Try.prog 96 #[v_s, v_f] w fun v w' => ∃ (y0 : Bool), y0 = r ∧ v = B y0 ∧ St w w' [] R := by
 refine ret_of_W Try.func96 rfl rfl rfl ?_
 refine W.seq ?_
 refine W.region rfl ?_
 refine s_val (x_as (v := B false) rfl) ?_
 refine s_nil ?_
 refine W.seq ?_
 refine W.region rfl ?_
 refine s_val (x_mv (v := v_s) rfl) ?_
 refine s_val (x_mv (v := v_f) rfl) ?_
 obtain ⟨r2z, hx1z, hM⟩ := M.e_bind hM
 refine s_call cf107 [v_s, v_f] rfl (slices_IndexFunc_int_ok s f (hC_s.app _) hs_s (hf_f.app _) hx1z _ (St.give (T := []) H rfl)) ?_
 rintro vq w3z ⟨r2, hr4z, hvq, H2_⟩
 subst hr4z
 subst vq
 try dsimp only at hM
 replace H : St w w3z [] R := H.back H2_ rfl
 clear H2_
 refine s_val (x_cmp (kd := .i64) (a := r2) (b := 0) (r := decide (0 ≤ r2)) rfl rfl rfl) ?_
 refine s_val (x_as (v := B (decide (0 ≤ r2))) rfl) ?_
 refine s_nil ?_
 refine W.ret ?_
 have hr_ := M.e_pure hM
 exact ⟨_, resE_tmp rfl, ⟨(decide (0 ≤ r2)), hr_, rfl, H⟩⟩

def m_level_every_int__1 (x : Int) (k02 : Int → M Bool) : M Bool :=
  M.bind (k02 x) fun r2 =>
  M.pure (!r2)
set_option maxRecDepth 100000 in
set_option maxHeartbeats 16000000 in
theorem level_every_int__1_ok {R : List Chunk} {b_k0 : Nat} {v_k02 : Value} (x : Int) (k02 : Int → M Bool) (hf_k02 : FnM Try.prog R v_k02 k02) (h_b_k0 : Has R (cBlk b_k0 [v_k02] 137)) {r : Bool} (hM : (m_level_every_int__1 x k02).Ends r) (w : World) (H : St w w [] R) : Ret Try.prog 97 #[I x, .pointer (some ⟨b_k0, 0, none⟩)] w fun v w' => ∃ (y0 : Bool), y0 = r ∧ v = B y0 ∧ St w w' [] R := by
 refine ret_of_W Try.func97 rfl rfl rfl ?_
 refine W.seq ?_
 refine W.region rfl ?_
 refine s_val (x_as (v := B false) rfl) ?_
 refine s_nil ?_
 refine W.seq ?_
 refine W.region rfl ?_
 refine s_val (x_ld (p := .pointer (some ⟨b_k0, 0, none⟩)) (v := v_k02) rfl (ldb_sc Sc137 (h_b_k0.blk H) rfl)) ?_
 refine s_val (x_mv (v := I x) rfl) ?_
 obtain ⟨r2, hx2z, hM⟩ := M.e_bind hM
 refine t_callM H hf_k02 rfl rfl x Reads.none (Arg.mkI (fun _ => none) _) hx2z ?_
 intro w1z H
 refine s_val (x_not (b := r2) rfl) ?_
 refine s_val (x_as (v := B (!r2)) rfl) ?_
 refine s_nil ?_
 refine W.ret ?_
 have hr_ := M.e_pure hM
 exact ⟨_, resE_tmp rfl, ⟨(!r2), hr_, rfl, H⟩⟩

def m_level_every_int (l : List Int) (so : Int → M Bool) : M Bool :=
  M.bind (m_slices_ContainsFunc_int l (fun xqz => m_level_every_int__1 xqz so)) fun r2 =>
  M.pure (!r2)
set_option maxRecDepth 100000 in
set_option maxHeartbeats 16000000 in
theorem level_every_int_ok {R : List Chunk} {C_l : Cells} {v_l : Value} {v_so : Value} (l : List Int) (so : Int → M Bool) (hC_l : Reads R C_l) (hs_l : Sl C_l v_l l) (hf_so : FnM Try.prog R v_so so) {r : Bool} (hM : (m_level_every_int l so).Ends r) (w : World) (H : St w w [] R) : Ret Try.prog 77 #[v_l, v_so] w fun v w' => ∃ (y0 : Bool), y0 = r ∧ v = B y0 ∧ St w w' [] R := by
 refine ret_of_W Try.func77 rfl rfl rfl ?_
 refine W.seq ?_
 refine W.region rfl ?_
 refine t_box (v := v_so) (cs := [v_so]) H rfl (FnM.cells hf_so) ?_
 intro b_1 w1z H
 refine s_val (x_as (v := B false) rfl) ?_
 refine s_nil ?_
 refine W.seq ?_
 refine W.region rfl ?_
 refine s_val (x_mv (v := v_l) rfl) ?_
 refine s_val (x_mf (fs := []) (cs := [.pointer (some ⟨b_1, 0, none⟩)]) rfl rfl) ?_
 obtain ⟨r3z, hx2z, hM⟩ := M.e_bind hM
 refine s_call cf96 [v_l, .func (.func 97) #[] #[.pointer (some ⟨b_1, 0, none⟩)]] rfl (slices_ContainsFunc_int_ok l (fun xqz => m_level_every_int__1 xqz so) (hC_l.app _) hs_l ⟨97, [.pointer (some ⟨b_1, 0, none⟩)], rfl, cf97, fun wqz Lqz Cqz vqz xqz bqz hsqz hCqz hAqz hpqz => by obtain rfl := Arg.int hAqz; exact (level_every_int__1_ok xqz so (FnM.app (hf_so.app _) _) (Has.app (Has.here (k := 0) rfl) _) hpqz wqz (St.refl hsqz)).mono fun vqz wqz ⟨yqz, hrqz, hvqz, Hqz⟩ => by subst hrqz; exact ⟨hvqz, Hqz⟩⟩ hx2z _ (St.give (T := [cBlk b_1 [v_so] 137]) H rfl)) ?_
 rintro vq w4z ⟨r2, hr5z, hvq, H2_⟩
 subst hr5z
 subst vq
 try dsimp only at hM
 replace H : St w w4z [cBlk b_1 [v_so] 137] R := H.back H2_ rfl
 clear H2_
 refine s_val (x_not (b := r2) rfl) ?_
 refine s_val (x_as (v := B (!r2)) rfl) ?_
 refine s_nil ?_
 refine W.ret ?_
 have hr_ := M.e_pure hM
 exact ⟨_, resE_tmp rfl, ⟨(!r2), hr_, rfl, (H.pick [] (by decide) rfl)⟩⟩

def m_level_Holds_1 (h : Int) : M Bool :=
  M.bind (m_level_in h (-1000000000) 1000000000) fun r2 =>
  M.pure r2
set_option maxRecDepth 100000 in
set_option maxHeartbeats 16000000 in
theorem level_Holds_1_ok {R : List Chunk}  (h : Int)  {r : Bool} (hM : (m_level_Holds_1 h).Ends r) (w : World) (H : St w w [] R) : Ret Try.prog 78 #[I h] w fun v w' => ∃ (y0 : Bool), y0 = r ∧ v = B y0 ∧ St w w' [] R := by
 refine ret_of_W Try.func78 rfl rfl rfl ?_
 refine W.seq ?_
 refine W.region rfl ?_
 refine s_val (x_as (v := B false) rfl) ?_
 refine s_nil ?_
 refine W.seq ?_
 refine W.region rfl ?_
 refine s_val (x_mv (v := I h) rfl) ?_
 obtain ⟨r2z, hx1z, hM⟩ := M.e_bind hM
 refine s_call cf68 [I h, I (-1000000000), I 1000000000] rfl (level_in_ok h (-1000000000) 1000000000 hx1z _ (St.give (T := []) H rfl)) ?_
 rintro vq w3z ⟨r2, hr4z, hvq, H2_⟩
 subst hr4z
 subst vq
 try dsimp only at hM
 replace H : St w w3z [] R := H.back H2_ rfl
 clear H2_
 refine s_val (x_as (v := B r2) rfl) ?_
 refine s_nil ?_
 refine W.ret ?_
 have hr_ := M.e_pure hM
 exact ⟨_, resE_tmp rfl, ⟨r2, hr_, rfl, H⟩⟩

def m_level_Line_agrees (l : Line) (heights : List Int) : M Bool :=
  M.grd (decide ((0 : Int) ≤ l.dst) && decide (l.dst < (heights.length : Int))) <|
  M.grd (decide ((0 : Int) ≤ l.src) && decide (l.src < (heights.length : Int))) <|
  M.grd (decide ((-9223372036854775808 : Int) ≤ ((heights.getD (Int.toNat l.dst) 0) - (heights.getD (Int.toNat l.src) 0))) && decide (((heights.getD (Int.toNat l.dst) 0) - (heights.getD (Int.toNat l.src) 0)) ≤ (9223372036854775807 : Int))) <|
  M.grd (decide ((-9223372036854775808 : Int) ≤ (l.rise - l.err)) && decide ((l.rise - l.err) ≤ (9223372036854775807 : Int))) <|
  M.grd (decide ((-9223372036854775808 : Int) ≤ (l.rise + l.err)) && decide ((l.rise + l.err) ≤ (9223372036854775807 : Int))) <|
  M.bind (m_level_in ((heights.getD (Int.toNat l.dst) 0) - (heights.getD (Int.toNat l.src) 0)) (l.rise - l.err) (l.rise + l.err)) fun r2 =>
  M.pure r2
set_option maxRecDepth 100000 in
set_option maxHeartbeats 16000000 in
theorem level_Line_agrees_ok {R : List Chunk} {C_heights : Cells} {v_heights : Value} (l : Line) (heights : List Int) (hC_heights : Reads R C_heights) (hs_heights : Sl C_heights v_heights heights) {r : Bool} (hM : (m_level_Line_agrees l heights).Ends r) (w : World) (H : St w w [] R) : Ret Try.prog 79 #[.agg #[I l.src, I l.dst, I l.day, I l.rise, I l.err], v_heights] w fun v w' => ∃ (y0 : Bool), y0 = r ∧ v = B y0 ∧ St w w' [] R := by
 refine ret_of_W Try.func79 rfl rfl rfl ?_
 refine W.seq ?_
 refine W.region rfl ?_
 refine t_box (v := .agg #[I l.src, I l.dst, I l.day, I l.rise, I l.err]) (cs := [I l.src, I l.dst, I l.day, I l.rise, I l.err]) H rfl rfl ?_
 intro b_1 w1z H
 refine s_val (x_as (v := B false) rfl) ?_
 refine s_nil ?_
 refine W.seq ?_
 refine W.draw (fun W => St w W [cBlk b_1 [I l.src, I l.dst, I l.day, I l.rise, I l.err] 34] R) [(0, true), (1, true), (2, true), (3, true), (4, true), (5, true), (6, true), (7, true), (8, true), (9, true), (10, true), (11, true), (12, true), (13, true), (14, true), (15, true), (16, true), (17, true), (18, true), (19, true), (20, true), (21, false), (22, true)] mixed (by decide +kernel) rfl ?_
 intro w2z hx_
 replace H : St w w2z [cBlk b_1 [I l.src, I l.dst, I l.day, I l.rise, I l.err] 34] R := H.ext hx_
 clear hx_
 refine ⟨(H.pick [0] (by decide) rfl), ?_⟩
 refine d_q rfl (fun w' H => x_mv (v := v_heights) rfl) ?_
 refine d_q rfl (fun w' H => x_fa (a := .pointer (some ⟨b_1, 0, none⟩)) (v := .pointer (some ⟨b_1, 1, none⟩)) rfl (fa_blk (o := 0) Fd34_1 Sz3)) ?_
 refine d_q rfl (fun w' H => x_ld (p := .pointer (some ⟨b_1, 1, none⟩)) (v := I l.dst) rfl (ldb_sc Sc3 (H.blk (k := 0) rfl) rfl)) ?_
 obtain ⟨sd3z, hM⟩ := M.e_grd hM
 simp only [Bool.and_eq_true, decide_eq_true_eq] at sd3z
 refine d_q rfl (fun w' H => x_ix (a := v_heights) (b := I l.dst) (v := vat v_heights 1 (Int.toNat l.dst)) rfl rfl (Sl.ix (α := Int) T26.und T26.size hs_heights (by omega) (by omega))) ?_
 refine d_q rfl (fun w' H => x_ld (p := vat v_heights 1 (Int.toNat l.dst)) (v := I (heights.getD (Int.toNat l.dst) 0)) rfl (ld_sc Sc3 (At.mono (Int_at hs_heights (i := l.dst) (by omega) (by omega)) (hC_heights.at H)))) ?_
 refine d_q rfl (fun w' H => x_mv (v := v_heights) rfl) ?_
 refine d_q rfl (fun w' H => x_fa (a := .pointer (some ⟨b_1, 0, none⟩)) (v := .pointer (some ⟨b_1, 0, none⟩)) rfl (fa_blk (o := 0) Fd34_0 Sz3)) ?_
 refine d_q rfl (fun w' H => x_ld (p := .pointer (some ⟨b_1, 0, none⟩)) (v := I l.src) rfl (ldb_sc Sc3 (H.blk (k := 0) rfl) rfl)) ?_
 obtain ⟨sd4z, hM⟩ := M.e_grd hM
 simp only [Bool.and_eq_true, decide_eq_true_eq] at sd4z
 refine d_q rfl (fun w' H => x_ix (a := v_heights) (b := I l.src) (v := vat v_heights 1 (Int.toNat l.src)) rfl rfl (Sl.ix (α := Int) T26.und T26.size hs_heights (by omega) (by omega))) ?_
 refine d_q rfl (fun w' H => x_ld (p := vat v_heights 1 (Int.toNat l.src)) (v := I (heights.getD (Int.toNat l.src) 0)) rfl (ld_sc Sc3 (At.mono (Int_at hs_heights (i := l.src) (by omega) (by omega)) (hC_heights.at H)))) ?_
 obtain ⟨sd5z, hM⟩ := M.e_grd hM
 simp only [Bool.and_eq_true, decide_eq_true_eq] at sd5z
 refine d_q rfl (fun w' H => x_ari (a := heights.getD (Int.toNat l.dst) 0) (b := heights.getD (Int.toNat l.src) 0) (r := (heights.getD (Int.toNat l.dst) 0) - (heights.getD (Int.toNat l.src) 0)) rfl rfl rfl (by omega)) ?_
 refine d_q rfl (fun w' H => x_fa (a := .pointer (some ⟨b_1, 0, none⟩)) (v := .pointer (some ⟨b_1, 3, none⟩)) rfl (fa_blk (o := 0) Fd34_3 Sz3)) ?_
 refine d_q rfl (fun w' H => x_ld (p := .pointer (some ⟨b_1, 3, none⟩)) (v := I l.rise) rfl (ldb_sc Sc3 (H.blk (k := 0) rfl) rfl)) ?_
 refine d_q rfl (fun w' H => x_fa (a := .pointer (some ⟨b_1, 0, none⟩)) (v := .pointer (some ⟨b_1, 4, none⟩)) rfl (fa_blk (o := 0) Fd34_4 Sz3)) ?_
 refine d_q rfl (fun w' H => x_ld (p := .pointer (some ⟨b_1, 4, none⟩)) (v := I l.err) rfl (ldb_sc Sc3 (H.blk (k := 0) rfl) rfl)) ?_
 obtain ⟨sd6z, hM⟩ := M.e_grd hM
 simp only [Bool.and_eq_true, decide_eq_true_eq] at sd6z
 refine d_q rfl (fun w' H => x_ari (a := l.rise) (b := l.err) (r := l.rise - l.err) rfl rfl rfl (by omega)) ?_
 refine d_q rfl (fun w' H => x_fa (a := .pointer (some ⟨b_1, 0, none⟩)) (v := .pointer (some ⟨b_1, 3, none⟩)) rfl (fa_blk (o := 0) Fd34_3 Sz3)) ?_
 refine d_q rfl (fun w' H => x_ld (p := .pointer (some ⟨b_1, 3, none⟩)) (v := I l.rise) rfl (ldb_sc Sc3 (H.blk (k := 0) rfl) rfl)) ?_
 refine d_q rfl (fun w' H => x_fa (a := .pointer (some ⟨b_1, 0, none⟩)) (v := .pointer (some ⟨b_1, 4, none⟩)) rfl (fa_blk (o := 0) Fd34_4 Sz3)) ?_
 refine d_q rfl (fun w' H => x_ld (p := .pointer (some ⟨b_1, 4, none⟩)) (v := I l.err) rfl (ldb_sc Sc3 (H.blk (k := 0) rfl) rfl)) ?_
 obtain ⟨sd7z, hM⟩ := M.e_grd hM
 simp only [Bool.and_eq_true, decide_eq_true_eq] at sd7z
 refine d_q rfl (fun w' H => x_ari (a := l.rise) (b := l.err) (r := l.rise + l.err) rfl rfl rfl (by omega)) ?_
 refine d_l rfl ?_
 obtain ⟨r9z, hx8z, hM⟩ := M.e_bind hM
 refine s_call cf68 [I ((heights.getD (Int.toNat l.dst) 0) - (heights.getD (Int.toNat l.src) 0)), I (l.rise - l.err), I (l.rise + l.err)] rfl (level_in_ok ((heights.getD (Int.toNat l.dst) 0) - (heights.getD (Int.toNat l.src) 0)) (l.rise - l.err) (l.rise + l.err) hx8z _ (St.give (T := [cBlk b_1 [I l.src, I l.dst, I l.day, I l.rise, I l.err] 34]) H rfl)) ?_
 rintro vq w10z ⟨r2, hr11z, hvq, H2_⟩
 subst hr11z
 subst vq
 try dsimp only at hM
 replace H : St w w10z [cBlk b_1 [I l.src, I l.dst, I l.day, I l.rise, I l.err] 34] R := H.back H2_ rfl
 clear H2_
 refine s_nil ⟨(H.pick [0] (by decide) rfl), ?_⟩
 refine d_q rfl (fun w' H => x_as (v := B r2) rfl) ?_
 refine d_nil ?_
 refine W.ret ?_
 have hr_ := M.e_pure hM
 exact ⟨_, resE_tmp rfl, ⟨r2, hr_, rfl, (H.pick [] (by decide) rfl)⟩⟩

def m_level_Holds_b0 (n_Lines : List Line) (heights : List Int) : Nat → M (Nat ⊕ (Int ⊕ Unit)) := fun s =>
  bif decide ((s : Int) < (n_Lines.length : Int)) then (
  M.grd (decide ((s : Int) < (n_Lines.length : Int))) <|
  M.bind (m_level_Line_agrees (n_Lines.getD s default) heights) fun r4 =>
  bif !r4 then (
  M.pure (.inr (.inl (s : Int))))
  else (
  M.pure (.inl (s + 1))))
  else (
  M.pure (.inr (.inr ())))
def m_level_Holds (n_Marks : Int) (n_Lines : List Line) (heights : List Int) : M (Int × Int) :=
  M.bind (m_level_Check n_Marks n_Lines) fun r2 =>
  bif r2 != 0 then (
  M.pure (0, r2))
  else (
  bif (heights.length : Int) != n_Marks then (
  M.pure (0, 2))
  else (
  M.bind (m_level_every_int heights (fun xqz => m_level_Holds_1 xqz)) fun r3 =>
  bif !r3 then (
  M.pure (0, 4))
  else (
  M.bind (M.iter (m_level_Holds_b0 n_Lines heights) 0) fun x_ => match x_ with
  | (.inl s2) => (
  M.pure (s2, 0))
  | (.inr (_ : Unit)) => (
  M.pure ((-1), 0)))))
set_option maxRecDepth 100000 in
set_option maxHeartbeats 16000000 in
theorem level_Holds_ok {R : List Chunk} {C_n_Lines : Cells} {v_n_Lines : Value} {C_heights : Cells} {v_heights : Value} (n_Marks : Int) (n_Lines : List Line) (heights : List Int) (hC_n_Lines : Reads R C_n_Lines) (hs_n_Lines : Sl C_n_Lines v_n_Lines n_Lines) (hC_heights : Reads R C_heights) (hs_heights : Sl C_heights v_heights heights) {r : (Int × Int)} (hM : (m_level_Holds n_Marks n_Lines heights).Ends r) (w : World) (H : St w w [] R) : Ret Try.prog 40 #[.agg #[I n_Marks, v_n_Lines], v_heights] w fun v w' => ∃ (y0 : Int) (y1 : Int), (y0, y1) = r ∧ v = .tuple #[I y0, I y1] ∧ St w w' [] R := by
 refine ret_of_W Try.func40 rfl rfl rfl ?_
 refine W.seq ?_
 refine W.region rfl ?_
 refine t_box (v := .agg #[I n_Marks, v_n_Lines]) (cs := [I n_Marks, v_n_Lines]) H rfl rfl ?_
 intro b_1 w1z H
 refine s_val (x_as (v := I 0) rfl) ?_
 refine s_val (x_as (v := I 0) rfl) ?_
 refine s_nil ?_
 refine W.seq ?_
 refine W.region rfl ?_
 refine s_val (x_ld (p := .pointer (some ⟨b_1, 0, none⟩)) (v := .agg #[I n_Marks, v_n_Lines]) rfl (ldb_ag (ds := [I n_Marks, v_n_Lines]) Ag25 Sz25 (H.blk (k := 0) rfl) rfl rfl)) ?_
 obtain ⟨r3z, hx2z, hM⟩ := M.e_bind hM
 refine s_call cf37 [.agg #[I n_Marks, v_n_Lines]] rfl (level_Check_ok n_Marks n_Lines (hC_n_Lines.app _) hs_n_Lines hx2z _ (St.give (T := [cBlk b_1 [I n_Marks, v_n_Lines] 25]) H rfl)) ?_
 rintro vq w4z ⟨r2, hr5z, hvq, H2_⟩
 subst hr5z
 subst vq
 try dsimp only at hM
 replace H : St w w4z [cBlk b_1 [I n_Marks, v_n_Lines] 25] R := H.back H2_ rfl
 clear H2_
 refine s_val (x_as (v := I r2) rfl) ?_
 refine s_nil ?_
 refine W.seq ?_
 refine W.block ?_
 refine W.seq ?_
 refine W.region rfl ?_
 refine s_val (x_mv (v := I r2) rfl) ?_
 refine s_val (x_cmp (kd := .i64) (a := r2) (b := 0) (r := r2 != 0) rfl rfl rfl) ?_
 refine s_val (x_as (v := B (r2 != 0)) rfl) ?_
 refine s_nil ?_
 refine W.cond (r2 != 0) rfl (fun c6z => ?_) (fun c6z => ?_)
 ·replace hM := M.e_t hM c6z
  simp only [decide_eq_true_eq, decide_eq_false_iff_not, beq_iff_eq, bne_iff_ne, beq_eq_false_iff_ne, bne_eq_false_iff_eq, ne_eq, Decidable.not_not] at c6z
  refine W.seq ?_
  refine W.region rfl ?_
  refine s_val (x_mv (v := I r2) rfl) ?_
  refine s_val (x_as (v := I 0) rfl) ?_
  refine s_val (x_as (v := I r2) rfl) ?_
  refine s_nil ?_
  refine W.ret ?_
  have hr_ := M.e_pure hM
  exact ⟨_, resE_tmp2 rfl, ⟨0, r2, hr_, rfl, (H.pick [] (by decide) rfl)⟩⟩
 ·replace hM := M.e_f hM c6z
  simp only [decide_eq_true_eq, decide_eq_false_iff_not, beq_iff_eq, bne_iff_ne, beq_eq_false_iff_ne, bne_eq_false_iff_eq, ne_eq, Decidable.not_not] at c6z
  refine W.seq ?_
  refine W.region rfl ?_
  refine s_val (x_mv (v := v_heights) rfl) ?_
  have hl7z := (hs_heights).len_le
  refine s_val (x_lenS T26.und rfl hs_heights) ?_
  refine s_val (x_fa (a := .pointer (some ⟨b_1, 0, none⟩)) (v := .pointer (some ⟨b_1, 0, none⟩)) rfl (fa_blk (o := 0) Fd25_0 Sz3)) ?_
  refine s_val (x_ld (p := .pointer (some ⟨b_1, 0, none⟩)) (v := I n_Marks) rfl (ldb_sc Sc3 (H.blk (k := 0) rfl) rfl)) ?_
  refine s_val (x_cmp (kd := .i64) (a := (heights.length : Int)) (b := n_Marks) (r := (heights.length : Int) != n_Marks) rfl rfl rfl) ?_
  refine s_val (x_as (v := B ((heights.length : Int) != n_Marks)) rfl) ?_
  refine s_nil ?_
  refine W.cond ((heights.length : Int) != n_Marks) rfl (fun c8z => ?_) (fun c8z => ?_)
  ·replace hM := M.e_t hM c8z
   simp only [decide_eq_true_eq, decide_eq_false_iff_not, beq_iff_eq, bne_iff_ne, beq_eq_false_iff_ne, bne_eq_false_iff_eq, ne_eq, Decidable.not_not] at c8z
   refine W.seq ?_
   refine W.region rfl ?_
   refine s_val (x_as (v := I 0) rfl) ?_
   refine s_val (x_as (v := I 2) rfl) ?_
   refine s_nil ?_
   refine W.ret ?_
   have hr_ := M.e_pure hM
   exact ⟨_, resE_tmp2 rfl, ⟨0, 2, hr_, rfl, (H.pick [] (by decide) rfl)⟩⟩
  ·replace hM := M.e_f hM c8z
   simp only [decide_eq_true_eq, decide_eq_false_iff_not, beq_iff_eq, bne_iff_ne, beq_eq_false_iff_ne, bne_eq_false_iff_eq, ne_eq, Decidable.not_not] at c8z
   refine W.seq ?_
   refine W.region rfl ?_
   refine s_val (x_mv (v := v_heights) rfl) ?_
   obtain ⟨r10z, hx9z, hM⟩ := M.e_bind hM
   refine s_call cf77 [v_heights, .func (.func 78) #[] #[]] rfl (level_every_int_ok heights (fun xqz => m_level_Holds_1 xqz) (hC_heights.app _) hs_heights ⟨78, [], rfl, cf78, fun wqz Lqz Cqz vqz xqz bqz hsqz hCqz hAqz hpqz => by obtain rfl := Arg.int hAqz; exact (level_Holds_1_ok xqz hpqz wqz (St.refl hsqz)).mono fun vqz wqz ⟨yqz, hrqz, hvqz, Hqz⟩ => by subst hrqz; exact ⟨hvqz, Hqz⟩⟩ hx9z _ (St.give (T := [cBlk b_1 [I n_Marks, v_n_Lines] 25]) H rfl)) ?_
   rintro vq w11z ⟨r3, hr12z, hvq, H2_⟩
   subst hr12z
   subst vq
   try dsimp only at hM
   replace H : St w w11z [cBlk b_1 [I n_Marks, v_n_Lines] 25] R := H.back H2_ rfl
   clear H2_
   refine s_val (x_not (b := r3) rfl) ?_
   refine s_val (x_as (v := B (!r3)) rfl) ?_
   refine s_nil ?_
   refine W.cond (!r3) rfl (fun c13z => ?_) (fun c13z => ?_)
   ·replace hM := M.e_t hM c13z
    refine W.seq ?_
    refine W.region rfl ?_
    refine s_val (x_as (v := I 0) rfl) ?_
    refine s_val (x_as (v := I 4) rfl) ?_
    refine s_nil ?_
    refine W.ret ?_
    have hr_ := M.e_pure hM
    exact ⟨_, resE_tmp2 rfl, ⟨0, 4, hr_, rfl, (H.pick [] (by decide) rfl)⟩⟩
   ·replace hM := M.e_f hM c13z
    refine W.skip ?_
    refine W.seq ?_
    refine W.seq ?_
    refine W.region rfl ?_
    refine s_val (x_fa (a := .pointer (some ⟨b_1, 0, none⟩)) (v := .pointer (some ⟨b_1, 1, none⟩)) rfl (fa_blk (o := 0) Fd25_1 Sz23)) ?_
    refine s_val (x_ld (p := .pointer (some ⟨b_1, 1, none⟩)) (v := v_n_Lines) rfl (ldb_sc Sc23 (H.blk (k := 0) rfl) rfl)) ?_
    have hl14z := (hs_n_Lines).len_le
    refine s_val (x_lenS T23.und rfl hs_n_Lines) ?_
    refine s_val (x_mv (v := I 0) rfl) ?_
    refine s_nil ?_
    refine W.block ?_
    obtain ⟨ex15z, hi16z, hk17z⟩ := M.e_bind hM
    obtain ⟨m0_, hi16z⟩ := M.e_iter hi16z
    refine W.loop (fun m σ W => ∃ (s : Nat) (ρ : Env), σ = upds ρ [(1, v_heights), (27, v_n_Lines), (28, I (n_Lines.length : Int)), (29, I (s : Int))] ∧ M.iterN (m_level_Holds_b0 n_Lines heights) m s = some ex15z ∧ St w W [cBlk b_1 [I n_Marks, v_n_Lines] 25] R) ?_ ?_
    ·exact ⟨_, 0, _, upds_of _ _ ⟨rfl, rfl, rfl, rfl, trivial⟩, hi16z, H⟩
    ·rintro m20z σ w18z ⟨s, ρ, rfl, hI19z, H⟩
     obtain ⟨m21z, lt22z, x23z, hM, hN24z⟩ := M.e_iterN hI19z
     simp only [m_level_Holds_b0] at hM
     clear hI19z
     refine W.seq ?_
     refine W.region rfl ?_
     refine s_val (x_cmp (kd := .i64) (a := (s : Int)) (b := (n_Lines.length : Int)) (r := decide ((s : Int) < (n_Lines.length : Int))) rfl rfl rfl) ?_
     refine s_nil ?_
     refine W.seq ?_
     refine W.cond (decide ((s : Int) < (n_Lines.length : Int))) rfl (fun c25z => ?_) (fun c25z => ?_)
     ·replace hM := M.e_t hM c25z
      simp only [decide_eq_true_eq, decide_eq_false_iff_not, beq_iff_eq, bne_iff_ne, beq_eq_false_iff_ne, bne_eq_false_iff_eq, ne_eq, Decidable.not_not] at c25z
      refine W.skip ?_
      refine W.seq ?_
      refine W.block ?_
      refine W.seq ?_
      refine W.region rfl ?_
      refine s_val (x_mv (v := I (s : Int)) rfl) ?_
      obtain ⟨sd26z, hM⟩ := M.e_grd hM
      simp only [Bool.and_eq_true, decide_eq_true_eq] at sd26z
      refine s_val (x_ix (a := v_n_Lines) (b := I (s : Int)) (v := vat v_n_Lines 5 (Int.toNat (s : Int))) rfl rfl (Sl.ix (α := Line) T23.und T23.size hs_n_Lines (by omega) (by omega))) ?_
      refine s_val (x_ld (p := vat v_n_Lines 5 (Int.toNat (s : Int))) (v := .agg #[I ((n_Lines.getD s default).src), I ((n_Lines.getD s default).dst), I ((n_Lines.getD s default).day), I ((n_Lines.getD s default).rise), I ((n_Lines.getD s default).err)]) rfl (ld_ag Ag34 Sz34 (At.mono (Line_atA hs_n_Lines (i := (s : Int)) (by omega) (by omega)) (hC_n_Lines.at H)))) ?_
      refine t_alloc (cs := [I 0, I 0, I 0, I 0, I 0]) H Al34 rfl ?_
      intro b_2 w27z H
      refine s_val (x_as (v := I (s : Int)) rfl) ?_
      refine t_st (k := 0) (b := b_2) (off := 0) (cs := [I 0, I 0, I 0, I 0, I 0]) (vs := [I ((n_Lines.getD s default).src), I ((n_Lines.getD s default).dst), I ((n_Lines.getD s default).day), I ((n_Lines.getD s default).rise), I ((n_Lines.getD s default).err)]) (cs' := [I ((n_Lines.getD s default).src), I ((n_Lines.getD s default).dst), I ((n_Lines.getD s default).day), I ((n_Lines.getD s default).rise), I ((n_Lines.getD s default).err)]) (v := .agg #[I ((n_Lines.getD s default).src), I ((n_Lines.getD s default).dst), I ((n_Lines.getD s default).day), I ((n_Lines.getD s default).rise), I ((n_Lines.getD s default).err)]) (L' := [cBlk b_2 [I ((n_Lines.getD s default).src), I ((n_Lines.getD s default).dst), I ((n_Lines.getD s default).day), I ((n_Lines.getD s default).rise), I ((n_Lines.getD s default).err)] 34, cBlk b_1 [I n_Marks, v_n_Lines] 25]) H rfl rfl rfl Sz34 rfl rfl rfl rfl rfl rfl ?_
      intro w28z H
      refine s_nil ?_
      refine W.seq ?_
      refine W.region rfl ?_
      refine s_val (x_ld (p := .pointer (some ⟨b_2, 0, none⟩)) (v := .agg #[I ((n_Lines.getD s default).src), I ((n_Lines.getD s default).dst), I ((n_Lines.getD s default).day), I ((n_Lines.getD s default).rise), I ((n_Lines.getD s default).err)]) rfl (ldb_ag (ds := [I ((n_Lines.getD s default).src), I ((n_Lines.getD s default).dst), I ((n_Lines.getD s default).day), I ((n_Lines.getD s default).rise), I ((n_Lines.getD s default).err)]) Ag34 Sz34 (H.blk (k := 0) rfl) rfl rfl)) ?_
      refine s_val (x_mf (fs := [.agg #[I ((n_Lines.getD s default).src), I ((n_Lines.getD s default).dst), I ((n_Lines.getD s default).day), I ((n_Lines.getD s default).rise), I ((n_Lines.getD s default).err)]]) (cs := []) rfl rfl) ?_
      refine s_val (x_as (v := .func (.func 79) #[.agg #[I ((n_Lines.getD s default).src), I ((n_Lines.getD s default).dst), I ((n_Lines.getD s default).day), I ((n_Lines.getD s default).rise), I ((n_Lines.getD s default).err)]] #[]) rfl) ?_
      refine s_nil ?_
      refine W.seq ?_
      refine W.region rfl ?_
      refine s_val (x_mv (v := .func (.func 79) #[.agg #[I ((n_Lines.getD s default).src), I ((n_Lines.getD s default).dst), I ((n_Lines.getD s default).day), I ((n_Lines.getD s default).rise), I ((n_Lines.getD s default).err)]] #[]) rfl) ?_
      refine s_val (x_mv (v := v_heights) rfl) ?_
      obtain ⟨r30z, hx29z, hM⟩ := M.e_bind hM
      refine s_callm (f := 79) (fs := [.agg #[I ((n_Lines.getD s default).src), I ((n_Lines.getD s default).dst), I ((n_Lines.getD s default).day), I ((n_Lines.getD s default).rise), I ((n_Lines.getD s default).err)]]) rfl cf79 [v_heights] rfl (level_Line_agrees_ok (n_Lines.getD s default) heights (hC_heights.app _) hs_heights hx29z _ (St.give (T := [cBlk b_2 [I ((n_Lines.getD s default).src), I ((n_Lines.getD s default).dst), I ((n_Lines.getD s default).day), I ((n_Lines.getD s default).rise), I ((n_Lines.getD s default).err)] 34, cBlk b_1 [I n_Marks, v_n_Lines] 25]) H rfl)) ?_
      rintro vq w31z ⟨r4, hr32z, hvq, H2_⟩
      subst hr32z
      subst vq
      try dsimp only at hM
      replace H : St w w31z [cBlk b_2 [I ((n_Lines.getD s default).src), I ((n_Lines.getD s default).dst), I ((n_Lines.getD s default).day), I ((n_Lines.getD s default).rise), I ((n_Lines.getD s default).err)] 34, cBlk b_1 [I n_Marks, v_n_Lines] 25] R := H.back H2_ rfl
      clear H2_
      refine s_val (x_not (b := r4) rfl) ?_
      refine s_nil ?_
      refine W.cond (!r4) rfl (fun c33z => ?_) (fun c33z => ?_)
      ·replace hM := M.e_t hM c33z
       refine W.seq ?_
       refine W.region rfl ?_
       refine s_val (x_mv (v := I (s : Int)) rfl) ?_
       refine s_val (x_as (v := I (s : Int)) rfl) ?_
       refine s_val (x_as (v := I 0) rfl) ?_
       refine s_nil ?_
       refine W.ret ?_
       have hX34z := M.e_inr hM hN24z
       subst hX34z
       replace hM := hk17z
       try dsimp only at hM
       have hr_ := M.e_pure hM
       exact ⟨_, resE_tmp2 rfl, ⟨(s : Int), 0, hr_, rfl, (H.pick [] (by decide) rfl)⟩⟩
      ·replace hM := M.e_f hM c33z
       refine W.skip ?_
       refine W.region rfl ?_
       refine s_val (x_ari (a := (s : Int)) (b := 1) (r := (s : Int) + 1) rfl rfl rfl (by omega)) ?_
       refine s_val (x_mv (v := I ((s : Int) + 1)) rfl) ?_
       refine s_nil ?_
       exact ⟨m21z, lt22z, s + 1, _, upds_of _ _ ⟨rfl, rfl, rfl, rfl, trivial⟩, M.e_inl hM hN24z, (H.pick [1] (by decide) rfl)⟩
     ·replace hM := M.e_f hM c25z
      simp only [decide_eq_true_eq, decide_eq_false_iff_not, beq_iff_eq, bne_iff_ne, beq_eq_false_iff_ne, bne_eq_false_iff_eq, ne_eq, Decidable.not_not] at c25z
      refine W.exit ?_
      have hX35z := M.e_inr hM hN24z
      subst hX35z
      replace hM := hk17z
      try dsimp only at hM
      refine W.seq ?_
      refine W.region rfl ?_
      refine s_val (x_as (v := I (-1)) rfl) ?_
      refine s_val (x_as (v := I 0) rfl) ?_
      refine s_nil ?_
      refine W.ret ?_
      have hr_ := M.e_pure hM
      exact ⟨_, resE_tmp2 rfl, ⟨(-1), 0, hr_, rfl, (H.pick [] (by decide) rfl)⟩⟩

def m_nilometerkit_Same_level_Line_b0 (a : List Line) (b : List Line) : Nat → M (Nat ⊕ (Unit ⊕ Unit)) := fun i =>
  bif decide ((i : Int) < (a.length : Int)) then (
  M.grd (decide ((i : Int) < (a.length : Int))) <|
  M.grd (decide ((i : Int) < (b.length : Int))) <|
  bif !(decide ((a.getD i default) = (b.getD i default))) then (
  M.pure (.inr (.inl ())))
  else (
  M.pure (.inl (i + 1))))
  else (
  M.pure (.inr (.inr ())))
def m_nilometerkit_Same_level_Line (a : List Line) (b : List Line) : M Bool :=
  bif (a.length : Int) != (b.length : Int) then (
  M.pure false)
  else (
  M.bind (M.iter (m_nilometerkit_Same_level_Line_b0 a b) 0) fun x_ => match x_ with
  | (.inl (_ : Unit)) => (
  M.pure false)
  | (.inr (_ : Unit)) => (
  M.pure true))
set_option maxRecDepth 100000 in
set_option maxHeartbeats 16000000 in
theorem nilometerkit_Same_level_Line_ok {R : List Chunk} {C_a : Cells} {v_a : Value} {C_b : Cells} {v_b : Value} (a : List Line) (b : List Line) (hC_a : Reads R C_a) (hs_a : Sl C_a v_a a) (hC_b : Reads R C_b) (hs_b : Sl C_b v_b b) {r : Bool} (hM : (m_nilometerkit_Same_level_Line a b).Ends r) (w : World) (H : St w w [] R) : Ret Try.prog 71 #[v_a, v_b] w fun v w' => ∃ (y0 : Bool), y0 = r ∧ v = B y0 ∧ St w w' [] R := by
 refine ret_of_W Try.func71 rfl rfl rfl ?_
 refine W.seq ?_
 refine W.region rfl ?_
 refine s_val (x_as (v := B false) rfl) ?_
 refine s_nil ?_
 refine W.seq ?_
 refine W.seq ?_
 refine W.region rfl ?_
 refine s_val (x_mv (v := v_a) rfl) ?_
 have hl1z := (hs_a).len_le
 refine s_val (x_lenS T23.und rfl hs_a) ?_
 refine s_val (x_mv (v := v_b) rfl) ?_
 have hl2z := (hs_b).len_le
 refine s_val (x_lenS T23.und rfl hs_b) ?_
 refine s_val (x_cmp (kd := .i64) (a := (a.length : Int)) (b := (b.length : Int)) (r := (a.length : Int) != (b.length : Int)) rfl rfl rfl) ?_
 refine s_nil ?_
 refine W.cond ((a.length : Int) != (b.length : Int)) rfl (fun c3z => ?_) (fun c3z => ?_)
 ·replace hM := M.e_t hM c3z
  simp only [decide_eq_true_eq, decide_eq_false_iff_not, beq_iff_eq, bne_iff_ne, beq_eq_false_iff_ne, bne_eq_false_iff_eq, ne_eq, Decidable.not_not] at c3z
  refine W.seq ?_
  refine W.region rfl ?_
  refine s_val (x_as (v := B false) rfl) ?_
  refine s_nil ?_
  refine W.ret ?_
  have hr_ := M.e_pure hM
  exact ⟨_, resE_tmp rfl, ⟨false, hr_, rfl, H⟩⟩
 ·replace hM := M.e_f hM c3z
  simp only [decide_eq_true_eq, decide_eq_false_iff_not, beq_iff_eq, bne_iff_ne, beq_eq_false_iff_ne, bne_eq_false_iff_eq, ne_eq, Decidable.not_not] at c3z
  refine W.skip ?_
  refine W.seq ?_
  refine W.seq ?_
  refine W.region rfl ?_
  refine s_val (x_as (v := I 0) rfl) ?_
  refine s_nil ?_
  refine W.block ?_
  obtain ⟨ex4z, hi5z, hk6z⟩ := M.e_bind hM
  obtain ⟨m0_, hi5z⟩ := M.e_iter hi5z
  refine W.loop (fun m σ W => ∃ (i : Nat) (ρ : Env), σ = upds ρ [(0, v_a), (1, v_b), (5, I (i : Int))] ∧ M.iterN (m_nilometerkit_Same_level_Line_b0 a b) m i = some ex4z ∧ St w W [] R) ?_ ?_
  ·exact ⟨_, 0, _, upds_of _ _ ⟨rfl, rfl, rfl, trivial⟩, hi5z, H⟩
  ·rintro m9z σ w7z ⟨i, ρ, rfl, hI8z, H⟩
   obtain ⟨m10z, lt11z, x12z, hM, hN13z⟩ := M.e_iterN hI8z
   simp only [m_nilometerkit_Same_level_Line_b0] at hM
   clear hI8z
   refine W.seq ?_
   refine W.seq ?_
   refine W.region rfl ?_
   refine s_val (x_mv (v := I (i : Int)) rfl) ?_
   refine s_val (x_mv (v := v_a) rfl) ?_
   have hl14z := (hs_a).len_le
   refine s_val (x_lenS T23.und rfl hs_a) ?_
   refine s_val (x_cmp (kd := .i64) (a := (i : Int)) (b := (a.length : Int)) (r := decide ((i : Int) < (a.length : Int))) rfl rfl rfl) ?_
   refine s_nil ?_
   refine W.cond (decide ((i : Int) < (a.length : Int))) rfl (fun c15z => ?_) (fun c15z => ?_)
   ·replace hM := M.e_t hM c15z
    simp only [decide_eq_true_eq, decide_eq_false_iff_not, beq_iff_eq, bne_iff_ne, beq_eq_false_iff_ne, bne_eq_false_iff_eq, ne_eq, Decidable.not_not] at c15z
    refine W.skip ?_
    refine W.seq ?_
    refine W.block ?_
    refine W.seq ?_
    refine W.draw (fun W => St w W [] R) [(0, true), (1, true), (2, true), (3, true), (4, true), (5, true), (6, true), (7, true), (8, true)] mixed (by decide +kernel) rfl ?_
    intro w16z hx_
    replace H : St w w16z [] R := H.ext hx_
    clear hx_
    refine ⟨(H.pick [] (by decide) rfl), ?_⟩
    refine d_q rfl (fun w' H => x_mv (v := v_a) rfl) ?_
    refine d_q rfl (fun w' H => x_mv (v := I (i : Int)) rfl) ?_
    obtain ⟨sd17z, hM⟩ := M.e_grd hM
    simp only [Bool.and_eq_true, decide_eq_true_eq] at sd17z
    refine d_q rfl (fun w' H => x_ix (a := v_a) (b := I (i : Int)) (v := vat v_a 5 (Int.toNat (i : Int))) rfl rfl (Sl.ix (α := Line) T23.und T23.size hs_a (by omega) (by omega))) ?_
    refine d_q rfl (fun w' H => x_ld (p := vat v_a 5 (Int.toNat (i : Int))) (v := .agg #[I ((a.getD i default).src), I ((a.getD i default).dst), I ((a.getD i default).day), I ((a.getD i default).rise), I ((a.getD i default).err)]) rfl (ld_ag Ag34 Sz34 (At.mono (Line_atA hs_a (i := (i : Int)) (by omega) (by omega)) (hC_a.at H)))) ?_
    refine d_q rfl (fun w' H => x_mv (v := v_b) rfl) ?_
    refine d_q rfl (fun w' H => x_mv (v := I (i : Int)) rfl) ?_
    obtain ⟨sd18z, hM⟩ := M.e_grd hM
    simp only [Bool.and_eq_true, decide_eq_true_eq] at sd18z
    refine d_q rfl (fun w' H => x_ix (a := v_b) (b := I (i : Int)) (v := vat v_b 5 (Int.toNat (i : Int))) rfl rfl (Sl.ix (α := Line) T23.und T23.size hs_b (by omega) (by omega))) ?_
    refine d_q rfl (fun w' H => x_ld (p := vat v_b 5 (Int.toNat (i : Int))) (v := .agg #[I ((b.getD i default).src), I ((b.getD i default).dst), I ((b.getD i default).day), I ((b.getD i default).rise), I ((b.getD i default).err)]) rfl (ld_ag Ag34 Sz34 (At.mono (Line_atA hs_b (i := (i : Int)) (by omega) (by omega)) (hC_b.at H)))) ?_
    refine d_q rfl (fun w' H => x_neS (eqT34 (a.getD i default) (b.getD i default) _) gdT34 rfl rfl) ?_
    refine d_nil ?_
    refine W.cond (!(decide ((a.getD i default) = (b.getD i default)))) rfl (fun c19z => ?_) (fun c19z => ?_)
    ·replace hM := M.e_t hM c19z
     refine W.seq ?_
     refine W.region rfl ?_
     refine s_val (x_as (v := B false) rfl) ?_
     refine s_nil ?_
     refine W.ret ?_
     have hX20z := M.e_inr hM hN13z
     subst hX20z
     replace hM := hk6z
     try dsimp only at hM
     have hr_ := M.e_pure hM
     exact ⟨_, resE_tmp rfl, ⟨false, hr_, rfl, H⟩⟩
    ·replace hM := M.e_f hM c19z
     refine W.skip ?_
     refine W.region rfl ?_
     refine s_val (x_mv (v := I (i : Int)) rfl) ?_
     refine s_val (x_ari (a := (i : Int)) (b := 1) (r := (i : Int) + 1) rfl rfl rfl (by omega)) ?_
     refine s_val (x_as (v := I ((i : Int) + 1)) rfl) ?_
     refine s_nil ?_
     exact ⟨m10z, lt11z, i + 1, _, upds_of _ _ ⟨rfl, rfl, rfl, trivial⟩, M.e_inl hM hN13z, H⟩
   ·replace hM := M.e_f hM c15z
    simp only [decide_eq_true_eq, decide_eq_false_iff_not, beq_iff_eq, bne_iff_ne, beq_eq_false_iff_ne, bne_eq_false_iff_eq, ne_eq, Decidable.not_not] at c15z
    refine W.exit ?_
    have hX21z := M.e_inr hM hN13z
    subst hX21z
    replace hM := hk6z
    try dsimp only at hM
    refine W.seq ?_
    refine W.region rfl ?_
    refine s_val (x_as (v := B true) rfl) ?_
    refine s_nil ?_
    refine W.ret ?_
    have hr_ := M.e_pure hM
    exact ⟨_, resE_tmp rfl, ⟨true, hr_, rfl, H⟩⟩

def m_nilometerlaw01_same (a_Marks : Int) (a_Lines : List Line) (b_Marks : Int) (b_Lines : List Line) : M Bool :=
  M.bind (M.opt (a_Marks == b_Marks) (m_nilometerkit_Same_level_Line a_Lines b_Lines) false) fun r2 =>
  M.pure ((a_Marks == b_Marks) && r2)
set_option maxRecDepth 100000 in
set_option maxHeartbeats 16000000 in
theorem nilometerlaw01_same_ok {R : List Chunk} {C_a_Lines : Cells} {v_a_Lines : Value} {C_b_Lines : Cells} {v_b_Lines : Value} (a_Marks : Int) (a_Lines : List Line) (b_Marks : Int) (b_Lines : List Line) (hC_a_Lines : Reads R C_a_Lines) (hs_a_Lines : Sl C_a_Lines v_a_Lines a_Lines) (hC_b_Lines : Reads R C_b_Lines) (hs_b_Lines : Sl C_b_Lines v_b_Lines b_Lines) {r : Bool} (hM : (m_nilometerlaw01_same a_Marks a_Lines b_Marks b_Lines).Ends r) (w : World) (H : St w w [] R) : Ret Try.prog 29 #[.agg #[I a_Marks, v_a_Lines], .agg #[I b_Marks, v_b_Lines]] w fun v w' => ∃ (y0 : Bool), y0 = r ∧ v = B y0 ∧ St w w' [] R := by
 refine ret_of_W Try.func29 rfl rfl rfl ?_
 refine W.seq ?_
 refine W.region rfl ?_
 refine t_box (v := .agg #[I a_Marks, v_a_Lines]) (cs := [I a_Marks, v_a_Lines]) H rfl rfl ?_
 intro b_1 w1z H
 refine t_box (v := .agg #[I b_Marks, v_b_Lines]) (cs := [I b_Marks, v_b_Lines]) H rfl rfl ?_
 intro b_2 w2z H
 refine s_val (x_as (v := B false) rfl) ?_
 refine s_nil ?_
 refine W.seq ?_
 refine W.region rfl ?_
 refine s_val (x_fa (a := .pointer (some ⟨b_1, 0, none⟩)) (v := .pointer (some ⟨b_1, 0, none⟩)) rfl (fa_blk (o := 0) Fd25_0 Sz3)) ?_
 refine s_val (x_ld (p := .pointer (some ⟨b_1, 0, none⟩)) (v := I a_Marks) rfl (ldb_sc Sc3 (H.blk (k := 1) rfl) rfl)) ?_
 refine s_val (x_fa (a := .pointer (some ⟨b_2, 0, none⟩)) (v := .pointer (some ⟨b_2, 0, none⟩)) rfl (fa_blk (o := 0) Fd25_0 Sz3)) ?_
 refine s_val (x_ld (p := .pointer (some ⟨b_2, 0, none⟩)) (v := I b_Marks) rfl (ldb_sc Sc3 (H.blk (k := 0) rfl) rfl)) ?_
 refine s_val (x_cmp (kd := .i64) (a := a_Marks) (b := b_Marks) (r := a_Marks == b_Marks) rfl rfl rfl) ?_
 refine s_val (x_mv (v := B (a_Marks == b_Marks)) rfl) ?_
 refine g_val (a_Marks == b_Marks) (gy_t rfl) (fun hg => x_fa (a := .pointer (some ⟨b_1, 0, none⟩)) (v := .pointer (some ⟨b_1, 1, none⟩)) rfl (fa_blk (o := 0) Fd25_1 Sz23)) ?_
 refine g_val (a_Marks == b_Marks) (gy_t rfl) (fun hg => x_ld (p := .pointer (some ⟨b_1, 1, none⟩)) (v := v_a_Lines) (gd_of (c := a_Marks == b_Marks) hg (.pointer (some ⟨b_1, 1, none⟩))) (ldb_sc Sc23 (H.blk (k := 1) rfl) rfl)) ?_
 refine g_val (a_Marks == b_Marks) (gy_t rfl) (fun hg => x_fa (a := .pointer (some ⟨b_2, 0, none⟩)) (v := .pointer (some ⟨b_2, 1, none⟩)) rfl (fa_blk (o := 0) Fd25_1 Sz23)) ?_
 refine g_val (a_Marks == b_Marks) (gy_t rfl) (fun hg => x_ld (p := .pointer (some ⟨b_2, 1, none⟩)) (v := v_b_Lines) (gd_of (c := a_Marks == b_Marks) hg (.pointer (some ⟨b_2, 1, none⟩))) (ldb_sc Sc23 (H.blk (k := 0) rfl) rfl)) ?_
 obtain ⟨r2, hx3z, hM⟩ := M.e_bind hM
 refine t_gcall (a_Marks == b_Marks) (gy_t rfl) cf71 (B r2) (fun _ => [v_a_Lines, v_b_Lines]) (fun hg => lst2 (gd_of (c := a_Marks == b_Marks) hg (v_a_Lines)) (gd_of (c := a_Marks == b_Marks) hg (v_b_Lines))) H (fun hg => (nilometerkit_Same_level_Line_ok a_Lines b_Lines (hC_a_Lines.app _) hs_a_Lines (hC_b_Lines.app _) hs_b_Lines (M.e_opt hx3z hg) _ (H.give (A := []) rfl)).mono fun v_ w_ ⟨y_, hr_, hv_, H_⟩ => by subst hr_; exact ⟨hv_, H.via H_⟩) ?_
 intro w4z H
 refine s_val (x_pand (b := a_Marks == b_Marks) (r := r2) rfl (fun hb => gd_of (c := a_Marks == b_Marks) (by first | exact hb | (rw [hb]; rfl) | simp_all) (B r2)) rfl) ?_
 refine s_val (x_as (v := B ((a_Marks == b_Marks) && r2)) rfl) ?_
 refine s_nil ?_
 refine W.ret ?_
 have hr_ := M.e_pure hM
 exact ⟨_, resE_tmp rfl, ⟨((a_Marks == b_Marks) && r2), hr_, rfl, (H.pick [] (by decide) rfl)⟩⟩

def m_nilometerkit_Same_int_b0 (a : List Int) (b : List Int) : Nat → M (Nat ⊕ (Unit ⊕ Unit)) := fun i =>
  bif decide ((i : Int) < (a.length : Int)) then (
  M.grd (decide ((i : Int) < (a.length : Int))) <|
  M.grd (decide ((i : Int) < (b.length : Int))) <|
  bif (a.getD i 0) != (b.getD i 0) then (
  M.pure (.inr (.inl ())))
  else (
  M.pure (.inl (i + 1))))
  else (
  M.pure (.inr (.inr ())))
def m_nilometerkit_Same_int (a : List Int) (b : List Int) : M Bool :=
  bif (a.length : Int) != (b.length : Int) then (
  M.pure false)
  else (
  M.bind (M.iter (m_nilometerkit_Same_int_b0 a b) 0) fun x_ => match x_ with
  | (.inl (_ : Unit)) => (
  M.pure false)
  | (.inr (_ : Unit)) => (
  M.pure true))
set_option maxRecDepth 100000 in
set_option maxHeartbeats 16000000 in
theorem nilometerkit_Same_int_ok {R : List Chunk} {C_a : Cells} {v_a : Value} {C_b : Cells} {v_b : Value} (a : List Int) (b : List Int) (hC_a : Reads R C_a) (hs_a : Sl C_a v_a a) (hC_b : Reads R C_b) (hs_b : Sl C_b v_b b) {r : Bool} (hM : (m_nilometerkit_Same_int a b).Ends r) (w : World) (H : St w w [] R) : Ret Try.prog 42 #[v_a, v_b] w fun v w' => ∃ (y0 : Bool), y0 = r ∧ v = B y0 ∧ St w w' [] R := by
 refine ret_of_W Try.func42 rfl rfl rfl ?_
 refine W.seq ?_
 refine W.region rfl ?_
 refine s_val (x_as (v := B false) rfl) ?_
 refine s_nil ?_
 refine W.seq ?_
 refine W.seq ?_
 refine W.region rfl ?_
 refine s_val (x_mv (v := v_a) rfl) ?_
 have hl1z := (hs_a).len_le
 refine s_val (x_lenS T26.und rfl hs_a) ?_
 refine s_val (x_mv (v := v_b) rfl) ?_
 have hl2z := (hs_b).len_le
 refine s_val (x_lenS T26.und rfl hs_b) ?_
 refine s_val (x_cmp (kd := .i64) (a := (a.length : Int)) (b := (b.length : Int)) (r := (a.length : Int) != (b.length : Int)) rfl rfl rfl) ?_
 refine s_nil ?_
 refine W.cond ((a.length : Int) != (b.length : Int)) rfl (fun c3z => ?_) (fun c3z => ?_)
 ·replace hM := M.e_t hM c3z
  simp only [decide_eq_true_eq, decide_eq_false_iff_not, beq_iff_eq, bne_iff_ne, beq_eq_false_iff_ne, bne_eq_false_iff_eq, ne_eq, Decidable.not_not] at c3z
  refine W.seq ?_
  refine W.region rfl ?_
  refine s_val (x_as (v := B false) rfl) ?_
  refine s_nil ?_
  refine W.ret ?_
  have hr_ := M.e_pure hM
  exact ⟨_, resE_tmp rfl, ⟨false, hr_, rfl, H⟩⟩
 ·replace hM := M.e_f hM c3z
  simp only [decide_eq_true_eq, decide_eq_false_iff_not, beq_iff_eq, bne_iff_ne, beq_eq_false_iff_ne, bne_eq_false_iff_eq, ne_eq, Decidable.not_not] at c3z
  refine W.skip ?_
  refine W.seq ?_
  refine W.seq ?_
  refine W.region rfl ?_
  refine s_val (x_as (v := I 0) rfl) ?_
  refine s_nil ?_
  refine W.block ?_
  obtain ⟨ex4z, hi5z, hk6z⟩ := M.e_bind hM
  obtain ⟨m0_, hi5z⟩ := M.e_iter hi5z
  refine W.loop (fun m σ W => ∃ (i : Nat) (ρ : Env), σ = upds ρ [(0, v_a), (1, v_b), (5, I (i : Int))] ∧ M.iterN (m_nilometerkit_Same_int_b0 a b) m i = some ex4z ∧ St w W [] R) ?_ ?_
  ·exact ⟨_, 0, _, upds_of _ _ ⟨rfl, rfl, rfl, trivial⟩, hi5z, H⟩
  ·rintro m9z σ w7z ⟨i, ρ, rfl, hI8z, H⟩
   obtain ⟨m10z, lt11z, x12z, hM, hN13z⟩ := M.e_iterN hI8z
   simp only [m_nilometerkit_Same_int_b0] at hM
   clear hI8z
   refine W.seq ?_
   refine W.seq ?_
   refine W.region rfl ?_
   refine s_val (x_mv (v := I (i : Int)) rfl) ?_
   refine s_val (x_mv (v := v_a) rfl) ?_
   have hl14z := (hs_a).len_le
   refine s_val (x_lenS T26.und rfl hs_a) ?_
   refine s_val (x_cmp (kd := .i64) (a := (i : Int)) (b := (a.length : Int)) (r := decide ((i : Int) < (a.length : Int))) rfl rfl rfl) ?_
   refine s_nil ?_
   refine W.cond (decide ((i : Int) < (a.length : Int))) rfl (fun c15z => ?_) (fun c15z => ?_)
   ·replace hM := M.e_t hM c15z
    simp only [decide_eq_true_eq, decide_eq_false_iff_not, beq_iff_eq, bne_iff_ne, beq_eq_false_iff_ne, bne_eq_false_iff_eq, ne_eq, Decidable.not_not] at c15z
    refine W.skip ?_
    refine W.seq ?_
    refine W.block ?_
    refine W.seq ?_
    refine W.draw (fun W => St w W [] R) [(0, true), (1, true), (2, true), (3, true), (4, true), (5, true), (6, true), (7, true), (8, true)] mixed (by decide +kernel) rfl ?_
    intro w16z hx_
    replace H : St w w16z [] R := H.ext hx_
    clear hx_
    refine ⟨(H.pick [] (by decide) rfl), ?_⟩
    refine d_q rfl (fun w' H => x_mv (v := v_a) rfl) ?_
    refine d_q rfl (fun w' H => x_mv (v := I (i : Int)) rfl) ?_
    obtain ⟨sd17z, hM⟩ := M.e_grd hM
    simp only [Bool.and_eq_true, decide_eq_true_eq] at sd17z
    refine d_q rfl (fun w' H => x_ix (a := v_a) (b := I (i : Int)) (v := vat v_a 1 (Int.toNat (i : Int))) rfl rfl (Sl.ix (α := Int) T26.und T26.size hs_a (by omega) (by omega))) ?_
    refine d_q rfl (fun w' H => x_ld (p := vat v_a 1 (Int.toNat (i : Int))) (v := I (a.getD i 0)) rfl (ld_sc Sc3 (At.mono (Int_at hs_a (i := (i : Int)) (by omega) (by omega)) (hC_a.at H)))) ?_
    refine d_q rfl (fun w' H => x_mv (v := v_b) rfl) ?_
    refine d_q rfl (fun w' H => x_mv (v := I (i : Int)) rfl) ?_
    obtain ⟨sd18z, hM⟩ := M.e_grd hM
    simp only [Bool.and_eq_true, decide_eq_true_eq] at sd18z
    refine d_q rfl (fun w' H => x_ix (a := v_b) (b := I (i : Int)) (v := vat v_b 1 (Int.toNat (i : Int))) rfl rfl (Sl.ix (α := Int) T26.und T26.size hs_b (by omega) (by omega))) ?_
    refine d_q rfl (fun w' H => x_ld (p := vat v_b 1 (Int.toNat (i : Int))) (v := I (b.getD i 0)) rfl (ld_sc Sc3 (At.mono (Int_at hs_b (i := (i : Int)) (by omega) (by omega)) (hC_b.at H)))) ?_
    refine d_q rfl (fun w' H => x_cmp (kd := .i64) (a := a.getD i 0) (b := b.getD i 0) (r := (a.getD i 0) != (b.getD i 0)) rfl rfl rfl) ?_
    refine d_nil ?_
    refine W.cond ((a.getD i 0) != (b.getD i 0)) rfl (fun c19z => ?_) (fun c19z => ?_)
    ·replace hM := M.e_t hM c19z
     simp only [decide_eq_true_eq, decide_eq_false_iff_not, beq_iff_eq, bne_iff_ne, beq_eq_false_iff_ne, bne_eq_false_iff_eq, ne_eq, Decidable.not_not] at c19z
     refine W.seq ?_
     refine W.region rfl ?_
     refine s_val (x_as (v := B false) rfl) ?_
     refine s_nil ?_
     refine W.ret ?_
     have hX20z := M.e_inr hM hN13z
     subst hX20z
     replace hM := hk6z
     try dsimp only at hM
     have hr_ := M.e_pure hM
     exact ⟨_, resE_tmp rfl, ⟨false, hr_, rfl, H⟩⟩
    ·replace hM := M.e_f hM c19z
     simp only [decide_eq_true_eq, decide_eq_false_iff_not, beq_iff_eq, bne_iff_ne, beq_eq_false_iff_ne, bne_eq_false_iff_eq, ne_eq, Decidable.not_not] at c19z
     refine W.skip ?_
     refine W.region rfl ?_
     refine s_val (x_mv (v := I (i : Int)) rfl) ?_
     refine s_val (x_ari (a := (i : Int)) (b := 1) (r := (i : Int) + 1) rfl rfl rfl (by omega)) ?_
     refine s_val (x_as (v := I ((i : Int) + 1)) rfl) ?_
     refine s_nil ?_
     exact ⟨m10z, lt11z, i + 1, _, upds_of _ _ ⟨rfl, rfl, rfl, trivial⟩, M.e_inl hM hN13z, H⟩
   ·replace hM := M.e_f hM c15z
    simp only [decide_eq_true_eq, decide_eq_false_iff_not, beq_iff_eq, bne_iff_ne, beq_eq_false_iff_ne, bne_eq_false_iff_eq, ne_eq, Decidable.not_not] at c15z
    refine W.exit ?_
    have hX21z := M.e_inr hM hN13z
    subst hX21z
    replace hM := hk6z
    try dsimp only at hM
    refine W.seq ?_
    refine W.region rfl ?_
    refine s_val (x_as (v := B true) rfl) ?_
    refine s_nil ?_
    refine W.ret ?_
    have hr_ := M.e_pure hM
    exact ⟨_, resE_tmp rfl, ⟨true, hr_, rfl, H⟩⟩

def m_nilometerlaw01_LevelTruths_j0 (n_Marks : Int) (n_Lines : List Line) (heights : List Int) (r0 : Int) (r1 : List Line) (r3 : List Int) : M Bool :=
  M.bind (m_nilometerlaw01_same r0 r1 n_Marks n_Lines) fun r6 =>
  M.bind (M.opt r6 (m_nilometerkit_Same_int r3 heights) false) fun r7 =>
  M.bind (M.opt (r6 && r7) (m_nilometerlaw01_awake) false) fun r8 =>
  M.pure ((r6 && r7) && r8)
def m_nilometerlaw01_LevelTruths_j1 (n_Marks : Int) (n_Lines : List Line) (heights : List Int) (r0 : Int) (r1 : List Line) (r3 : List Int) (s : Int) : M Bool :=
  M.bind (m_level_Heights r0 r1) fun (r09, r19) =>
  bif ((r19 != s) || ((r19 != 0) && (decide (0 < (r09.length : Int))))) then (
  M.pure false)
  else (
  bif r19 == 0 then (
  M.bind (m_nilometerlaw01_Net n_Marks n_Lines) fun (r010, r110) =>
  M.bind (m_nilometerref01_Holds r010 r110 r09) fun (r011, r111) =>
  M.grd ((!(!(((r111 != 0) || (r011 != (-1))) || ((r09.length : Int) == 0))) || (decide (0 < (r09.length : Int))))) <|
  bif ((((r111 != 0) || (r011 != (-1))) || ((r09.length : Int) == 0)) || ((r09.getD 0 0) != 0)) then (
  M.pure false)
  else (
  m_nilometerlaw01_LevelTruths_j0 n_Marks n_Lines heights r0 r1 r3))
  else (
  m_nilometerlaw01_LevelTruths_j0 n_Marks n_Lines heights r0 r1 r3))
def m_nilometerlaw01_LevelTruths (n_Marks : Int) (n_Lines : List Line) (heights : List Int) : M Bool :=
  bif ((decide (35 < (n_Lines.length : Int))) || (decide (20 < (heights.length : Int)))) then (
  M.bind (m_nilometerlaw01_awake) fun r2 =>
  M.pure r2)
  else (
  M.bind (m_nilometerlaw01_CopyNet n_Marks n_Lines) fun (r0, r1) =>
  M.bind (m_nilometerkit_Copy_int heights) fun r3 =>
  M.bind (m_level_Check r0 r1) fun r4 =>
  M.bind (m_nilometerlaw01_Net n_Marks n_Lines) fun (r02, r12) =>
  M.bind (m_nilometerref01_Check r02 r12) fun r5 =>
  bif r4 != r5 then (
  M.pure false)
  else (
  M.bind (m_level_Agrees r0 r1) fun (r03, r13) =>
  M.bind (m_nilometerlaw01_Net n_Marks n_Lines) fun (r04, r14) =>
  M.bind (m_nilometerref01_Agrees r04 r14) fun (r05, r15) =>
  bif ((r03 != r05) || (r13 != r15)) then (
  M.pure false)
  else (
  M.bind (m_level_Holds r0 r1 r3) fun (r06, r16) =>
  M.bind (m_nilometerlaw01_Net n_Marks n_Lines) fun (r07, r17) =>
  M.bind (m_nilometerref01_Holds r07 r17 heights) fun (r08, r18) =>
  bif ((r06 != r08) || (r16 != r18)) then (
  M.pure false)
  else (
  bif ((r15 == 0) && (!r05)) then (
  m_nilometerlaw01_LevelTruths_j1 n_Marks n_Lines heights r0 r1 r3 7)
  else (
  m_nilometerlaw01_LevelTruths_j1 n_Marks n_Lines heights r0 r1 r3 r15)))))
set_option maxRecDepth 100000 in
set_option maxHeartbeats 16000000 in
theorem nilometerlaw01_LevelTruths_ok {R : List Chunk} {C_n_Lines : Cells} {v_n_Lines : Value} {C_heights : Cells} {v_heights : Value} (n_Marks : Int) (n_Lines : List Line) (heights : List Int) (hC_n_Lines : Reads R C_n_Lines) (hs_n_Lines : Sl C_n_Lines v_n_Lines n_Lines) (hC_heights : Reads R C_heights) (hs_heights : Sl C_heights v_heights heights) {r : Bool} (hM : (m_nilometerlaw01_LevelTruths n_Marks n_Lines heights).Ends r) (w : World) (H : St w w [] R) : Ret Try.prog 9 #[.agg #[I n_Marks, v_n_Lines], v_heights] w fun v w' => ∃ (y0 : Bool), y0 = r ∧ v = B y0 ∧ St w w' [] R := by
 refine ret_of_W Try.func9 rfl rfl rfl ?_
 refine W.seq ?_
 refine W.region rfl ?_
 refine t_box (v := .agg #[I n_Marks, v_n_Lines]) (cs := [I n_Marks, v_n_Lines]) H rfl rfl ?_
 intro b_1 w1z H
 refine s_val (x_as (v := B false) rfl) ?_
 refine s_nil ?_
 refine W.seq ?_
 refine W.seq ?_
 refine W.region rfl ?_
 refine s_val (x_fa (a := .pointer (some ⟨b_1, 0, none⟩)) (v := .pointer (some ⟨b_1, 1, none⟩)) rfl (fa_blk (o := 0) Fd25_1 Sz23)) ?_
 refine s_val (x_ld (p := .pointer (some ⟨b_1, 1, none⟩)) (v := v_n_Lines) rfl (ldb_sc Sc23 (H.blk (k := 0) rfl) rfl)) ?_
 have hl2z := (hs_n_Lines).len_le
 refine s_val (x_lenS T23.und rfl hs_n_Lines) ?_
 refine s_val (x_cmp (kd := .i64) (a := (n_Lines.length : Int)) (b := 35) (r := decide (35 < (n_Lines.length : Int))) rfl rfl rfl) ?_
 refine s_val (x_mv (v := B (decide (35 < (n_Lines.length : Int)))) rfl) ?_
 refine g_val (!(decide (35 < (n_Lines.length : Int)))) (gy_f rfl) (fun hg => x_mv (v := v_heights) rfl) ?_
 refine g_val (!(decide (35 < (n_Lines.length : Int)))) (gy_f rfl) (fun hg => x_lenS T26.und (gd_of (c := !(decide (35 < (n_Lines.length : Int)))) hg (v_heights)) hs_heights) ?_
 refine g_val (!(decide (35 < (n_Lines.length : Int)))) (gy_f rfl) (fun hg => x_cmp (kd := .i64) (a := (heights.length : Int)) (b := 20) (r := decide (20 < (heights.length : Int))) (gd_of (c := !(decide (35 < (n_Lines.length : Int)))) hg (I (heights.length : Int))) rfl rfl) ?_
 refine s_val (x_por (b := decide (35 < (n_Lines.length : Int))) (r := decide (20 < (heights.length : Int))) rfl rfl (fun hb => gd_of (c := !(decide (35 < (n_Lines.length : Int)))) (by first | exact hb | (rw [hb]; rfl) | simp_all) (B (decide (20 < (heights.length : Int)))))) ?_
 refine s_nil ?_
 refine W.cond ((decide (35 < (n_Lines.length : Int))) || (decide (20 < (heights.length : Int)))) rfl (fun c4z => ?_) (fun c4z => ?_)
 ·replace hM := M.e_t hM c4z
  refine W.seq ?_
  refine W.region rfl ?_
  obtain ⟨r6z, hx5z, hM⟩ := M.e_bind hM
  refine s_call cf18 [] rfl (nilometerlaw01_awake_ok hx5z _ (St.give (T := [cBlk b_1 [I n_Marks, v_n_Lines] 25]) H rfl)) ?_
  rintro vq w7z ⟨r2, hr8z, hvq, H2_⟩
  subst hr8z
  subst vq
  try dsimp only at hM
  replace H : St w w7z [cBlk b_1 [I n_Marks, v_n_Lines] 25] R := H.back H2_ rfl
  clear H2_
  refine s_val (x_as (v := B r2) rfl) ?_
  refine s_nil ?_
  refine W.ret ?_
  have hr_ := M.e_pure hM
  exact ⟨_, resE_tmp rfl, ⟨r2, hr_, rfl, (H.pick [] (by decide) rfl)⟩⟩
 ·replace hM := M.e_f hM c4z
  refine W.skip ?_
  refine W.seq ?_
  refine W.region rfl ?_
  refine s_val (x_ld (p := .pointer (some ⟨b_1, 0, none⟩)) (v := .agg #[I n_Marks, v_n_Lines]) rfl (ldb_ag (ds := [I n_Marks, v_n_Lines]) Ag25 Sz25 (H.blk (k := 0) rfl) rfl rfl)) ?_
  obtain ⟨r10z, hx9z, hM⟩ := M.e_bind hM
  refine s_call cf15 [.agg #[I n_Marks, v_n_Lines]] rfl (nilometerlaw01_CopyNet_ok n_Marks n_Lines (hC_n_Lines.app _) hs_n_Lines hx9z _ (St.give (T := [cBlk b_1 [I n_Marks, v_n_Lines] 25]) H rfl)) ?_
  rintro vq w11z ⟨r0, r1, u0_2, hr12z, hvq, H2_⟩
  subst hr12z
  subst vq
  try dsimp only at hM
  replace H : St w w11z [cOwn (α := Line) 34 u0_2 r1, cBlk b_1 [I n_Marks, v_n_Lines] 25] R := H.back H2_ rfl
  clear H2_
  refine s_val (x_mv (v := v_heights) rfl) ?_
  obtain ⟨r14z, hx13z, hM⟩ := M.e_bind hM
  refine s_call cf36 [v_heights] rfl (nilometerkit_Copy_int_ok heights (hC_heights.app _) hs_heights hx13z _ (St.give (T := [cOwn (α := Line) 34 u0_2 r1, cBlk b_1 [I n_Marks, v_n_Lines] 25]) H rfl)) ?_
  rintro vq w15z ⟨r3, u0_3, hr16z, hvq, H2_⟩
  subst hr16z
  subst vq
  try dsimp only at hM
  replace H : St w w15z [cOwn (α := Int) 3 u0_3 r3, cOwn (α := Line) 34 u0_2 r1, cBlk b_1 [I n_Marks, v_n_Lines] 25] R := H.back H2_ rfl
  clear H2_
  refine t_alloc (cs := [I 0, .slice none 0 0]) H Al25 rfl ?_
  intro b_4 w17z H
  refine t_st (k := 0) (b := b_4) (off := 0) (cs := [I 0, .slice none 0 0]) (vs := [I r0, u0_2]) (cs' := [I r0, u0_2]) (v := .agg #[I r0, u0_2]) (L' := [cBlk b_4 [I r0, u0_2] 25, cOwn (α := Int) 3 u0_3 r3, cOwn (α := Line) 34 u0_2 r1, cBlk b_1 [I n_Marks, v_n_Lines] 25]) H rfl rfl rfl Sz25 rfl rfl rfl (by simp only [List.all_cons, List.all_nil, Bool.true_and, Bool.and_true, Sl.oc (ownSl (H.get (k := 2) rfl))]; try rfl) rfl rfl ?_
  intro w18z H
  refine s_val (x_as (v := u0_3) rfl) ?_
  refine s_nil ?_
  refine W.seq ?_
  refine W.seq ?_
  refine W.draw (fun W => St w W [cBlk b_4 [I r0, u0_2] 25, cOwn (α := Int) 3 u0_3 r3, cOwn (α := Line) 34 u0_2 r1, cBlk b_1 [I n_Marks, v_n_Lines] 25] R) [(0, true), (2, true), (1, false), (3, false), (4, false), (5, true)] mixed (by decide +kernel) rfl ?_
  intro w19z hx_
  replace H : St w w19z [cBlk b_4 [I r0, u0_2] 25, cOwn (α := Int) 3 u0_3 r3, cOwn (α := Line) 34 u0_2 r1, cBlk b_1 [I n_Marks, v_n_Lines] 25] R := H.ext hx_
  clear hx_
  refine ⟨(H.pick [0, 1, 2, 3] (by decide) rfl), ?_⟩
  refine d_q rfl (fun w' H => x_ld (p := .pointer (some ⟨b_4, 0, none⟩)) (v := .agg #[I r0, u0_2]) rfl (ldb_ag (ds := [I r0, u0_2]) Ag25 Sz25 (H.blk (k := 0) rfl) rfl rfl)) ?_
  refine d_q rfl (fun w' H => x_ld (p := .pointer (some ⟨b_1, 0, none⟩)) (v := .agg #[I n_Marks, v_n_Lines]) rfl (ldb_ag (ds := [I n_Marks, v_n_Lines]) Ag25 Sz25 (H.blk (k := 3) rfl) rfl rfl)) ?_
  refine d_l rfl ?_
  obtain ⟨r21z, hx20z, hM⟩ := M.e_bind hM
  refine s_call cf37 [.agg #[I r0, u0_2]] rfl (level_Check_ok r0 r1 (Reads.of (k := 2) rfl ownLe) (ownSl (H.get (k := 2) rfl)) hx20z _ (St.give (T := [cBlk b_4 [I r0, u0_2] 25, cOwn (α := Int) 3 u0_3 r3, cOwn (α := Line) 34 u0_2 r1, cBlk b_1 [I n_Marks, v_n_Lines] 25]) H rfl)) ?_
  rintro vq w22z ⟨r4, hr23z, hvq, H2_⟩
  subst hr23z
  subst vq
  try dsimp only at hM
  replace H : St w w22z [cBlk b_4 [I r0, u0_2] 25, cOwn (α := Int) 3 u0_3 r3, cOwn (α := Line) 34 u0_2 r1, cBlk b_1 [I n_Marks, v_n_Lines] 25] R := H.back H2_ rfl
  clear H2_
  refine s_nil ⟨(H.pick [0, 1, 2, 3] (by decide) rfl), ?_⟩
  refine d_l rfl ?_
  obtain ⟨r25z, hx24z, hM⟩ := M.e_bind hM
  refine s_call cf28 [.agg #[I n_Marks, v_n_Lines]] rfl (nilometerlaw01_Net_ok n_Marks n_Lines (hC_n_Lines.app _) hs_n_Lines hx24z _ (St.give (T := [cBlk b_4 [I r0, u0_2] 25, cOwn (α := Int) 3 u0_3 r3, cOwn (α := Line) 34 u0_2 r1, cBlk b_1 [I n_Marks, v_n_Lines] 25]) H rfl)) ?_
  rintro vq w26z ⟨r02, r12, u0_5, hr27z, hvq, H2_⟩
  subst hr27z
  subst vq
  try dsimp only at hM
  replace H : St w w26z [cOwn (α := Line) 133 u0_5 r12, cBlk b_4 [I r0, u0_2] 25, cOwn (α := Int) 3 u0_3 r3, cOwn (α := Line) 34 u0_2 r1, cBlk b_1 [I n_Marks, v_n_Lines] 25] R := H.back H2_ rfl
  clear H2_
  have hvc_q28z := Sl.cells (ownSl (H.get (k := 0) rfl))
  have hvo_q28z := Sl.oc (ownSl (H.get (k := 0) rfl))
  refine s_nil ⟨(H.pick [1, 2, 3, 4] (by decide) rfl), ?_⟩
  refine d_l rfl ?_
  obtain ⟨r30z, hx29z, hM⟩ := M.e_bind hM
  refine s_call cf38 [.agg #[I r02, u0_5]] rfl (nilometerref01_Check_ok r02 r12 (Reads.of (k := 0) rfl ownLe) (ownSl (H.get (k := 0) rfl)) hx29z _ (St.give (T := [cOwn (α := Line) 133 u0_5 r12, cBlk b_4 [I r0, u0_2] 25, cOwn (α := Int) 3 u0_3 r3, cOwn (α := Line) 34 u0_2 r1, cBlk b_1 [I n_Marks, v_n_Lines] 25]) H rfl)) ?_
  rintro vq w31z ⟨r5, hr32z, hvq, H2_⟩
  subst hr32z
  subst vq
  try dsimp only at hM
  replace H : St w w31z [cOwn (α := Line) 133 u0_5 r12, cBlk b_4 [I r0, u0_2] 25, cOwn (α := Int) 3 u0_3 r3, cOwn (α := Line) 34 u0_2 r1, cBlk b_1 [I n_Marks, v_n_Lines] 25] R := H.back H2_ rfl
  clear H2_
  refine s_nil ⟨(H.pick [1, 2, 3, 4] (by decide) rfl), ?_⟩
  refine d_q rfl (fun w' H => x_cmp (kd := .i64) (a := r4) (b := r5) (r := r4 != r5) rfl rfl rfl) ?_
  refine d_nil ?_
  refine W.cond (r4 != r5) rfl (fun c33z => ?_) (fun c33z => ?_)
  ·replace hM := M.e_t hM c33z
   simp only [decide_eq_true_eq, decide_eq_false_iff_not, beq_iff_eq, bne_iff_ne, beq_eq_false_iff_ne, bne_eq_false_iff_eq, ne_eq, Decidable.not_not] at c33z
   refine W.seq ?_
   refine W.region rfl ?_
   refine s_val (x_as (v := B false) rfl) ?_
   refine s_nil ?_
   refine W.ret ?_
   have hr_ := M.e_pure hM
   exact ⟨_, resE_tmp rfl, ⟨false, hr_, rfl, (H.pick [] (by decide) rfl)⟩⟩
  ·replace hM := M.e_f hM c33z
   simp only [decide_eq_true_eq, decide_eq_false_iff_not, beq_iff_eq, bne_iff_ne, beq_eq_false_iff_ne, bne_eq_false_iff_eq, ne_eq, Decidable.not_not] at c33z
   refine W.skip ?_
   refine W.seq ?_
   refine W.region rfl ?_
   refine s_val (x_ld (p := .pointer (some ⟨b_4, 0, none⟩)) (v := .agg #[I r0, u0_2]) rfl (ldb_ag (ds := [I r0, u0_2]) Ag25 Sz25 (H.blk (k := 1) rfl) rfl rfl)) ?_
   obtain ⟨r35z, hx34z, hM⟩ := M.e_bind hM
   refine s_call cf23 [.agg #[I r0, u0_2]] rfl (level_Agrees_ok r0 r1 (Reads.of (k := 3) rfl ownLe) (ownSl (H.get (k := 3) rfl)) hx34z _ (St.give (T := [cOwn (α := Line) 133 u0_5 r12, cBlk b_4 [I r0, u0_2] 25, cOwn (α := Int) 3 u0_3 r3, cOwn (α := Line) 34 u0_2 r1, cBlk b_1 [I n_Marks, v_n_Lines] 25]) H rfl)) ?_
   rintro vq w36z ⟨r03, r13, hr37z, hvq, H2_⟩
   subst hr37z
   subst vq
   try dsimp only at hM
   replace H : St w w36z [cOwn (α := Line) 133 u0_5 r12, cBlk b_4 [I r0, u0_2] 25, cOwn (α := Int) 3 u0_3 r3, cOwn (α := Line) 34 u0_2 r1, cBlk b_1 [I n_Marks, v_n_Lines] 25] R := H.back H2_ rfl
   clear H2_
   refine s_val (x_mv (v := .tuple #[B r03, I r13]) rfl) ?_
   refine s_val (x_ext (vs := [B r03, I r13]) (v := B r03) rfl rfl) ?_
   refine s_val (x_ext (vs := [B r03, I r13]) (v := I r13) rfl rfl) ?_
   refine s_val (x_as (v := B r03) rfl) ?_
   refine s_val (x_as (v := I r13) rfl) ?_
   refine s_nil ?_
   refine W.seq ?_
   refine W.region rfl ?_
   refine s_val (x_ld (p := .pointer (some ⟨b_1, 0, none⟩)) (v := .agg #[I n_Marks, v_n_Lines]) rfl (ldb_ag (ds := [I n_Marks, v_n_Lines]) Ag25 Sz25 (H.blk (k := 4) rfl) rfl rfl)) ?_
   obtain ⟨r39z, hx38z, hM⟩ := M.e_bind hM
   refine s_call cf28 [.agg #[I n_Marks, v_n_Lines]] rfl (nilometerlaw01_Net_ok n_Marks n_Lines (hC_n_Lines.app _) hs_n_Lines hx38z _ (St.give (T := [cOwn (α := Line) 133 u0_5 r12, cBlk b_4 [I r0, u0_2] 25, cOwn (α := Int) 3 u0_3 r3, cOwn (α := Line) 34 u0_2 r1, cBlk b_1 [I n_Marks, v_n_Lines] 25]) H rfl)) ?_
   rintro vq w40z ⟨r04, r14, u0_6, hr41z, hvq, H2_⟩
   subst hr41z
   subst vq
   try dsimp only at hM
   replace H : St w w40z [cOwn (α := Line) 133 u0_6 r14, cOwn (α := Line) 133 u0_5 r12, cBlk b_4 [I r0, u0_2] 25, cOwn (α := Int) 3 u0_3 r3, cOwn (α := Line) 34 u0_2 r1, cBlk b_1 [I n_Marks, v_n_Lines] 25] R := H.back H2_ rfl
   clear H2_
   obtain ⟨r43z, hx42z, hM⟩ := M.e_bind hM
   refine s_call cf39 [.agg #[I r04, u0_6]] rfl (nilometerref01_Agrees_ok r04 r14 (Reads.of (k := 0) rfl ownLe) (ownSl (H.get (k := 0) rfl)) hx42z _ (St.give (T := [cOwn (α := Line) 133 u0_6 r14, cOwn (α := Line) 133 u0_5 r12, cBlk b_4 [I r0, u0_2] 25, cOwn (α := Int) 3 u0_3 r3, cOwn (α := Line) 34 u0_2 r1, cBlk b_1 [I n_Marks, v_n_Lines] 25]) H rfl)) ?_
   rintro vq w44z ⟨r05, r15, hr45z, hvq, H2_⟩
   subst hr45z
   subst vq
   try dsimp only at hM
   replace H : St w w44z [cOwn (α := Line) 133 u0_6 r14, cOwn (α := Line) 133 u0_5 r12, cBlk b_4 [I r0, u0_2] 25, cOwn (α := Int) 3 u0_3 r3, cOwn (α := Line) 34 u0_2 r1, cBlk b_1 [I n_Marks, v_n_Lines] 25] R := H.back H2_ rfl
   clear H2_
   refine s_val (x_mv (v := .tuple #[B r05, I r15]) rfl) ?_
   refine s_val (x_ext (vs := [B r05, I r15]) (v := B r05) rfl rfl) ?_
   refine s_val (x_ext (vs := [B r05, I r15]) (v := I r15) rfl rfl) ?_
   refine s_val (x_as (v := B r05) rfl) ?_
   refine s_val (x_as (v := I r15) rfl) ?_
   refine s_nil ?_
   refine W.seq ?_
   refine W.seq ?_
   refine W.region rfl ?_
   refine s_val (x_mv (v := B r03) rfl) ?_
   refine s_val (x_mv (v := B r05) rfl) ?_
   refine s_val (x_eqb (a := r03) (b := r05) (r := (r03 != r05)) rfl rfl Try.underlying4 rfl) ?_
   refine s_val (x_mv (v := B (r03 != r05)) rfl) ?_
   refine g_val (!(r03 != r05)) (gy_f rfl) (fun hg => x_mv (v := I r13) rfl) ?_
   refine g_val (!(r03 != r05)) (gy_f rfl) (fun hg => x_mv (v := I r15) rfl) ?_
   refine g_val (!(r03 != r05)) (gy_f rfl) (fun hg => x_cmp (kd := .i64) (a := r13) (b := r15) (r := r13 != r15) (gd_of (c := !(r03 != r05)) hg (I r13)) (gd_of (c := !(r03 != r05)) hg (I r15)) rfl) ?_
   refine s_val (x_por (b := (r03 != r05)) (r := r13 != r15) rfl rfl (fun hb => gd_of (c := !(r03 != r05)) (by first | exact hb | (rw [hb]; rfl) | simp_all) (B (r13 != r15)))) ?_
   refine s_nil ?_
   refine W.cond ((r03 != r05) || (r13 != r15)) rfl (fun c46z => ?_) (fun c46z => ?_)
   ·replace hM := M.e_t hM c46z
    refine W.seq ?_
    refine W.region rfl ?_
    refine s_val (x_as (v := B false) rfl) ?_
    refine s_nil ?_
    refine W.ret ?_
    have hr_ := M.e_pure hM
    exact ⟨_, resE_tmp rfl, ⟨false, hr_, rfl, (H.pick [] (by decide) rfl)⟩⟩
   ·replace hM := M.e_f hM c46z
    refine W.skip ?_
    refine W.seq ?_
    refine W.region rfl ?_
    refine s_val (x_ld (p := .pointer (some ⟨b_4, 0, none⟩)) (v := .agg #[I r0, u0_2]) rfl (ldb_ag (ds := [I r0, u0_2]) Ag25 Sz25 (H.blk (k := 2) rfl) rfl rfl)) ?_
    refine s_val (x_mv (v := u0_3) rfl) ?_
    obtain ⟨r48z, hx47z, hM⟩ := M.e_bind hM
    refine s_call cf40 [.agg #[I r0, u0_2], u0_3] rfl (level_Holds_ok r0 r1 r3 (Reads.of (k := 4) rfl ownLe) (ownSl (H.get (k := 4) rfl)) (Reads.of (k := 3) rfl ownLe) (ownSl (H.get (k := 3) rfl)) hx47z _ (St.give (T := [cOwn (α := Line) 133 u0_6 r14, cOwn (α := Line) 133 u0_5 r12, cBlk b_4 [I r0, u0_2] 25, cOwn (α := Int) 3 u0_3 r3, cOwn (α := Line) 34 u0_2 r1, cBlk b_1 [I n_Marks, v_n_Lines] 25]) H rfl)) ?_
    rintro vq w49z ⟨r06, r16, hr50z, hvq, H2_⟩
    subst hr50z
    subst vq
    try dsimp only at hM
    replace H : St w w49z [cOwn (α := Line) 133 u0_6 r14, cOwn (α := Line) 133 u0_5 r12, cBlk b_4 [I r0, u0_2] 25, cOwn (α := Int) 3 u0_3 r3, cOwn (α := Line) 34 u0_2 r1, cBlk b_1 [I n_Marks, v_n_Lines] 25] R := H.back H2_ rfl
    clear H2_
    refine s_val (x_mv (v := .tuple #[I r06, I r16]) rfl) ?_
    refine s_val (x_ext (vs := [I r06, I r16]) (v := I r06) rfl rfl) ?_
    refine s_val (x_ext (vs := [I r06, I r16]) (v := I r16) rfl rfl) ?_
    refine s_val (x_as (v := I r06) rfl) ?_
    refine s_val (x_as (v := I r16) rfl) ?_
    refine s_nil ?_
    refine W.seq ?_
    refine W.region rfl ?_
    refine s_val (x_ld (p := .pointer (some ⟨b_1, 0, none⟩)) (v := .agg #[I n_Marks, v_n_Lines]) rfl (ldb_ag (ds := [I n_Marks, v_n_Lines]) Ag25 Sz25 (H.blk (k := 5) rfl) rfl rfl)) ?_
    obtain ⟨r52z, hx51z, hM⟩ := M.e_bind hM
    refine s_call cf28 [.agg #[I n_Marks, v_n_Lines]] rfl (nilometerlaw01_Net_ok n_Marks n_Lines (hC_n_Lines.app _) hs_n_Lines hx51z _ (St.give (T := [cOwn (α := Line) 133 u0_6 r14, cOwn (α := Line) 133 u0_5 r12, cBlk b_4 [I r0, u0_2] 25, cOwn (α := Int) 3 u0_3 r3, cOwn (α := Line) 34 u0_2 r1, cBlk b_1 [I n_Marks, v_n_Lines] 25]) H rfl)) ?_
    rintro vq w53z ⟨r07, r17, u0_7, hr54z, hvq, H2_⟩
    subst hr54z
    subst vq
    try dsimp only at hM
    replace H : St w w53z [cOwn (α := Line) 133 u0_7 r17, cOwn (α := Line) 133 u0_6 r14, cOwn (α := Line) 133 u0_5 r12, cBlk b_4 [I r0, u0_2] 25, cOwn (α := Int) 3 u0_3 r3, cOwn (α := Line) 34 u0_2 r1, cBlk b_1 [I n_Marks, v_n_Lines] 25] R := H.back H2_ rfl
    clear H2_
    refine s_val (x_mv (v := v_heights) rfl) ?_
    obtain ⟨r56z, hx55z, hM⟩ := M.e_bind hM
    refine s_call cf41 [.agg #[I r07, u0_7], v_heights] rfl (nilometerref01_Holds_ok r07 r17 heights (Reads.of (k := 0) rfl ownLe) (ownSl (H.get (k := 0) rfl)) (hC_heights.app _) hs_heights hx55z _ (St.give (T := [cOwn (α := Line) 133 u0_7 r17, cOwn (α := Line) 133 u0_6 r14, cOwn (α := Line) 133 u0_5 r12, cBlk b_4 [I r0, u0_2] 25, cOwn (α := Int) 3 u0_3 r3, cOwn (α := Line) 34 u0_2 r1, cBlk b_1 [I n_Marks, v_n_Lines] 25]) H rfl)) ?_
    rintro vq w57z ⟨r08, r18, hr58z, hvq, H2_⟩
    subst hr58z
    subst vq
    try dsimp only at hM
    replace H : St w w57z [cOwn (α := Line) 133 u0_7 r17, cOwn (α := Line) 133 u0_6 r14, cOwn (α := Line) 133 u0_5 r12, cBlk b_4 [I r0, u0_2] 25, cOwn (α := Int) 3 u0_3 r3, cOwn (α := Line) 34 u0_2 r1, cBlk b_1 [I n_Marks, v_n_Lines] 25] R := H.back H2_ rfl
    clear H2_
    refine s_val (x_mv (v := .tuple #[I r08, I r18]) rfl) ?_
    refine s_val (x_ext (vs := [I r08, I r18]) (v := I r08) rfl rfl) ?_
    refine s_val (x_ext (vs := [I r08, I r18]) (v := I r18) rfl rfl) ?_
    refine s_val (x_as (v := I r08) rfl) ?_
    refine s_val (x_as (v := I r18) rfl) ?_
    refine s_nil ?_
    refine W.seq ?_
    refine W.seq ?_
    refine W.region rfl ?_
    refine s_val (x_mv (v := I r06) rfl) ?_
    refine s_val (x_mv (v := I r08) rfl) ?_
    refine s_val (x_cmp (kd := .i64) (a := r06) (b := r08) (r := r06 != r08) rfl rfl rfl) ?_
    refine s_val (x_mv (v := B (r06 != r08)) rfl) ?_
    refine g_val (!(r06 != r08)) (gy_f rfl) (fun hg => x_mv (v := I r16) rfl) ?_
    refine g_val (!(r06 != r08)) (gy_f rfl) (fun hg => x_mv (v := I r18) rfl) ?_
    refine g_val (!(r06 != r08)) (gy_f rfl) (fun hg => x_cmp (kd := .i64) (a := r16) (b := r18) (r := r16 != r18) (gd_of (c := !(r06 != r08)) hg (I r16)) (gd_of (c := !(r06 != r08)) hg (I r18)) rfl) ?_
    refine s_val (x_por (b := r06 != r08) (r := r16 != r18) rfl rfl (fun hb => gd_of (c := !(r06 != r08)) (by first | exact hb | (rw [hb]; rfl) | simp_all) (B (r16 != r18)))) ?_
    refine s_nil ?_
    refine W.cond ((r06 != r08) || (r16 != r18)) rfl (fun c59z => ?_) (fun c59z => ?_)
    ·replace hM := M.e_t hM c59z
     refine W.seq ?_
     refine W.region rfl ?_
     refine s_val (x_as (v := B false) rfl) ?_
     refine s_nil ?_
     refine W.ret ?_
     have hr_ := M.e_pure hM
     exact ⟨_, resE_tmp rfl, ⟨false, hr_, rfl, (H.pick [] (by decide) rfl)⟩⟩
    ·replace hM := M.e_f hM c59z
     refine W.skip ?_
     refine W.seqJ (fun σ W => ∃ (s : Int) (ρ : Env), σ = upds ρ [(1, v_heights), (2, .pointer (some ⟨b_1, 0, none⟩)), (5, .pointer (some ⟨b_4, 0, none⟩)), (6, u0_3), (10, I s)] ∧ (m_nilometerlaw01_LevelTruths_j1 n_Marks n_Lines heights r0 r1 r3 s).Ends r ∧ St w W [cOwn (α := Line) 133 u0_7 r17, cOwn (α := Line) 133 u0_6 r14, cOwn (α := Line) 133 u0_5 r12, cBlk b_4 [I r0, u0_2] 25, cOwn (α := Int) 3 u0_3 r3, cOwn (α := Line) 34 u0_2 r1, cBlk b_1 [I n_Marks, v_n_Lines] 25] R) ?_ ?_
     ·skip
      refine W.seq ?_
      refine W.region rfl ?_
      refine s_val (x_mv (v := I r15) rfl) ?_
      refine s_val (x_cmp (kd := .i64) (a := r15) (b := 0) (r := r15 == 0) rfl rfl rfl) ?_
      refine s_val (x_mv (v := B (r15 == 0)) rfl) ?_
      refine g_val (r15 == 0) (gy_t rfl) (fun hg => x_mv (v := B r05) rfl) ?_
      refine g_val (r15 == 0) (gy_t rfl) (fun hg => x_not (b := r05) (gd_of (c := r15 == 0) hg (B r05))) ?_
      refine s_val (x_pand (b := r15 == 0) (r := !r05) rfl (fun hb => gd_of (c := r15 == 0) (by first | exact hb | (rw [hb]; rfl) | simp_all) (B (!r05))) rfl) ?_
      refine s_nil ?_
      refine W.cond ((r15 == 0) && (!r05)) rfl (fun c60z => ?_) (fun c60z => ?_)
      ·replace hM := M.e_t hM c60z
       refine W.region rfl ?_
       refine s_val (x_as (v := I 7) rfl) ?_
       refine s_nil ?_
       exact ⟨7, _, upds_of _ _ ⟨rfl, rfl, rfl, rfl, rfl, trivial⟩, hM, H⟩
      ·replace hM := M.e_f hM c60z
       refine W.skip ?_
       exact ⟨r15, _, upds_of _ _ ⟨rfl, rfl, rfl, rfl, rfl, trivial⟩, hM, H⟩
     ·rintro _ w61z ⟨s, ρ, rfl, hM, H⟩
      unfold m_nilometerlaw01_LevelTruths_j1 at hM
      refine W.seq ?_
      refine W.region rfl ?_
      refine s_val (x_ld (p := .pointer (some ⟨b_4, 0, none⟩)) (v := .agg #[I r0, u0_2]) rfl (ldb_ag (ds := [I r0, u0_2]) Ag25 Sz25 (H.blk (k := 3) rfl) rfl rfl)) ?_
      obtain ⟨r63z, hx62z, hM⟩ := M.e_bind hM
      refine s_call cf24 [.agg #[I r0, u0_2]] rfl (level_Heights_ok r0 r1 (Reads.of (k := 5) rfl ownLe) (ownSl (H.get (k := 5) rfl)) hx62z _ (St.give (T := [cOwn (α := Line) 133 u0_7 r17, cOwn (α := Line) 133 u0_6 r14, cOwn (α := Line) 133 u0_5 r12, cBlk b_4 [I r0, u0_2] 25, cOwn (α := Int) 3 u0_3 r3, cOwn (α := Line) 34 u0_2 r1, cBlk b_1 [I n_Marks, v_n_Lines] 25]) H rfl)) ?_
      rintro vq w64z ⟨r09, r19, u0_8, hr65z, hvq, H2_⟩
      subst hr65z
      subst vq
      try dsimp only at hM
      replace H : St w w64z [cOwn (α := Int) 3 u0_8 r09, cOwn (α := Line) 133 u0_7 r17, cOwn (α := Line) 133 u0_6 r14, cOwn (α := Line) 133 u0_5 r12, cBlk b_4 [I r0, u0_2] 25, cOwn (α := Int) 3 u0_3 r3, cOwn (α := Line) 34 u0_2 r1, cBlk b_1 [I n_Marks, v_n_Lines] 25] R := H.back H2_ rfl
      clear H2_
      refine s_val (x_mv (v := .tuple #[u0_8, I r19]) rfl) ?_
      refine s_val (x_ext (vs := [u0_8, I r19]) (v := u0_8) rfl rfl) ?_
      refine s_val (x_ext (vs := [u0_8, I r19]) (v := I r19) rfl rfl) ?_
      refine s_val (x_as (v := u0_8) rfl) ?_
      refine s_val (x_as (v := I r19) rfl) ?_
      refine s_nil ?_
      refine W.seq ?_
      refine W.seq ?_
      refine W.region rfl ?_
      refine s_val (x_mv (v := I r19) rfl) ?_
      refine s_val (x_mv (v := I s) rfl) ?_
      refine s_val (x_cmp (kd := .i64) (a := r19) (b := s) (r := r19 != s) rfl rfl rfl) ?_
      refine s_val (x_mv (v := B (r19 != s)) rfl) ?_
      refine g_val (!(r19 != s)) (gy_f rfl) (fun hg => x_mv (v := I r19) rfl) ?_
      refine g_val (!(r19 != s)) (gy_f rfl) (fun hg => x_cmp (kd := .i64) (a := r19) (b := 0) (r := r19 != 0) (gd_of (c := !(r19 != s)) hg (I r19)) rfl rfl) ?_
      refine g_val (!(r19 != s)) (gy_f rfl) (fun hg => x_mv (v := B (r19 != 0)) (gd_of (c := !(r19 != s)) hg (B (r19 != 0)))) ?_
      refine g_val ((!(r19 != s)) && (r19 != 0)) (gy_gt rfl rfl) (fun hg => x_mv (v := u0_8) rfl) ?_
      refine g_val ((!(r19 != s)) && (r19 != 0)) (gy_gt rfl rfl) (fun hg => x_lenS T26.und (gd_of (c := ((!(r19 != s)) && (r19 != 0))) hg (u0_8)) (ownSl (H.get (k := 0) rfl))) ?_
      refine g_val ((!(r19 != s)) && (r19 != 0)) (gy_gt rfl rfl) (fun hg => x_cmp (kd := .i64) (a := (r09.length : Int)) (b := 0) (r := decide (0 < (r09.length : Int))) (gd_of (c := ((!(r19 != s)) && (r19 != 0))) hg (I (r09.length : Int))) rfl rfl) ?_
      refine g_val (!(r19 != s)) (gy_f rfl) (fun hg => x_pand (b := r19 != 0) (r := decide (0 < (r09.length : Int))) (gd_of (c := !(r19 != s)) hg (B (r19 != 0))) (fun hb => gd_of (c := ((!(r19 != s)) && (r19 != 0))) (by first | exact hb | (rw [hb]; rfl) | simp_all) (B (decide (0 < (r09.length : Int))))) rfl) ?_
      refine s_val (x_por (b := r19 != s) (r := ((r19 != 0) && (decide (0 < (r09.length : Int))))) rfl rfl (fun hb => gd_of (c := !(r19 != s)) (by first | exact hb | (rw [hb]; rfl) | simp_all) (B ((r19 != 0) && (decide (0 < (r09.length : Int))))))) ?_
      refine s_nil ?_
      refine W.cond ((r19 != s) || ((r19 != 0) && (decide (0 < (r09.length : Int))))) rfl (fun c67z => ?_) (fun c67z => ?_)
      ·replace hM := M.e_t hM c67z
       refine W.seq ?_
       refine W.region rfl ?_
       refine s_val (x_as (v := B false) rfl) ?_
       refine s_nil ?_
       refine W.ret ?_
       have hr_ := M.e_pure hM
       exact ⟨_, resE_tmp rfl, ⟨false, hr_, rfl, (H.pick [] (by decide) rfl)⟩⟩
      ·replace hM := M.e_f hM c67z
       refine W.skip ?_
       refine W.seqJ (fun σ W => ∃ (ρ : Env), σ = upds ρ [(1, v_heights), (2, .pointer (some ⟨b_1, 0, none⟩)), (5, .pointer (some ⟨b_4, 0, none⟩)), (6, u0_3)] ∧ (m_nilometerlaw01_LevelTruths_j0 n_Marks n_Lines heights r0 r1 r3).Ends r ∧ St w W [cOwn (α := Int) 3 u0_8 r09, cOwn (α := Line) 133 u0_7 r17, cOwn (α := Line) 133 u0_6 r14, cOwn (α := Line) 133 u0_5 r12, cBlk b_4 [I r0, u0_2] 25, cOwn (α := Int) 3 u0_3 r3, cOwn (α := Line) 34 u0_2 r1, cBlk b_1 [I n_Marks, v_n_Lines] 25] R) ?_ ?_
       ·skip
        refine W.seq ?_
        refine W.region rfl ?_
        refine s_val (x_mv (v := I r19) rfl) ?_
        refine s_val (x_cmp (kd := .i64) (a := r19) (b := 0) (r := r19 == 0) rfl rfl rfl) ?_
        refine s_nil ?_
        refine W.cond (r19 == 0) rfl (fun c68z => ?_) (fun c68z => ?_)
        ·replace hM := M.e_t hM c68z
         simp only [decide_eq_true_eq, decide_eq_false_iff_not, beq_iff_eq, bne_iff_ne, beq_eq_false_iff_ne, bne_eq_false_iff_eq, ne_eq, Decidable.not_not] at c68z
         refine W.seq ?_
         refine W.region rfl ?_
         refine s_val (x_ld (p := .pointer (some ⟨b_1, 0, none⟩)) (v := .agg #[I n_Marks, v_n_Lines]) rfl (ldb_ag (ds := [I n_Marks, v_n_Lines]) Ag25 Sz25 (H.blk (k := 7) rfl) rfl rfl)) ?_
         obtain ⟨r70z, hx69z, hM⟩ := M.e_bind hM
         refine s_call cf28 [.agg #[I n_Marks, v_n_Lines]] rfl (nilometerlaw01_Net_ok n_Marks n_Lines (hC_n_Lines.app _) hs_n_Lines hx69z _ (St.give (T := [cOwn (α := Int) 3 u0_8 r09, cOwn (α := Line) 133 u0_7 r17, cOwn (α := Line) 133 u0_6 r14, cOwn (α := Line) 133 u0_5 r12, cBlk b_4 [I r0, u0_2] 25, cOwn (α := Int) 3 u0_3 r3, cOwn (α := Line) 34 u0_2 r1, cBlk b_1 [I n_Marks, v_n_Lines] 25]) H rfl)) ?_
         rintro vq w71z ⟨r010, r110, u0_9, hr72z, hvq, H2_⟩
         subst hr72z
         subst vq
         try dsimp only at hM
         replace H : St w w71z [cOwn (α := Line) 133 u0_9 r110, cOwn (α := Int) 3 u0_8 r09, cOwn (α := Line) 133 u0_7 r17, cOwn (α := Line) 133 u0_6 r14, cOwn (α := Line) 133 u0_5 r12, cBlk b_4 [I r0, u0_2] 25, cOwn (α := Int) 3 u0_3 r3, cOwn (α := Line) 34 u0_2 r1, cBlk b_1 [I n_Marks, v_n_Lines] 25] R := H.back H2_ rfl
         clear H2_
         refine s_val (x_mv (v := u0_8) rfl) ?_
         obtain ⟨r74z, hx73z, hM⟩ := M.e_bind hM
         refine s_call cf41 [.agg #[I r010, u0_9], u0_8] rfl (nilometerref01_Holds_ok r010 r110 r09 (Reads.of (k := 0) rfl ownLe) (ownSl (H.get (k := 0) rfl)) (Reads.of (k := 1) rfl ownLe) (ownSl (H.get (k := 1) rfl)) hx73z _ (St.give (T := [cOwn (α := Line) 133 u0_9 r110, cOwn (α := Int) 3 u0_8 r09, cOwn (α := Line) 133 u0_7 r17, cOwn (α := Line) 133 u0_6 r14, cOwn (α := Line) 133 u0_5 r12, cBlk b_4 [I r0, u0_2] 25, cOwn (α := Int) 3 u0_3 r3, cOwn (α := Line) 34 u0_2 r1, cBlk b_1 [I n_Marks, v_n_Lines] 25]) H rfl)) ?_
         rintro vq w75z ⟨r011, r111, hr76z, hvq, H2_⟩
         subst hr76z
         subst vq
         try dsimp only at hM
         replace H : St w w75z [cOwn (α := Line) 133 u0_9 r110, cOwn (α := Int) 3 u0_8 r09, cOwn (α := Line) 133 u0_7 r17, cOwn (α := Line) 133 u0_6 r14, cOwn (α := Line) 133 u0_5 r12, cBlk b_4 [I r0, u0_2] 25, cOwn (α := Int) 3 u0_3 r3, cOwn (α := Line) 34 u0_2 r1, cBlk b_1 [I n_Marks, v_n_Lines] 25] R := H.back H2_ rfl
         clear H2_
         refine s_val (x_mv (v := .tuple #[I r011, I r111]) rfl) ?_
         refine s_val (x_ext (vs := [I r011, I r111]) (v := I r011) rfl rfl) ?_
         refine s_val (x_ext (vs := [I r011, I r111]) (v := I r111) rfl rfl) ?_
         refine s_val (x_as (v := I r011) rfl) ?_
         refine s_val (x_as (v := I r111) rfl) ?_
         refine s_nil ?_
         refine W.seq ?_
         refine W.region rfl ?_
         refine s_val (x_mv (v := I r111) rfl) ?_
         refine s_val (x_cmp (kd := .i64) (a := r111) (b := 0) (r := r111 != 0) rfl rfl rfl) ?_
         refine s_val (x_mv (v := B (r111 != 0)) rfl) ?_
         refine g_val (!(r111 != 0)) (gy_f rfl) (fun hg => x_mv (v := I r011) rfl) ?_
         refine g_val (!(r111 != 0)) (gy_f rfl) (fun hg => x_cmp (kd := .i64) (a := r011) (b := -1) (r := r011 != (-1)) (gd_of (c := !(r111 != 0)) hg (I r011)) rfl rfl) ?_
         refine s_val (x_por (b := r111 != 0) (r := r011 != (-1)) rfl rfl (fun hb => gd_of (c := !(r111 != 0)) (by first | exact hb | (rw [hb]; rfl) | simp_all) (B (r011 != (-1))))) ?_
         refine s_val (x_mv (v := B ((r111 != 0) || (r011 != (-1)))) rfl) ?_
         refine g_val (!((r111 != 0) || (r011 != (-1)))) (gy_f rfl) (fun hg => x_mv (v := u0_8) rfl) ?_
         refine g_val (!((r111 != 0) || (r011 != (-1)))) (gy_f rfl) (fun hg => x_lenS T26.und (gd_of (c := !((r111 != 0) || (r011 != (-1)))) hg (u0_8)) (ownSl (H.get (k := 1) rfl))) ?_
         refine g_val (!((r111 != 0) || (r011 != (-1)))) (gy_f rfl) (fun hg => x_cmp (kd := .i64) (a := (r09.length : Int)) (b := 0) (r := (r09.length : Int) == 0) (gd_of (c := !((r111 != 0) || (r011 != (-1)))) hg (I (r09.length : Int))) rfl rfl) ?_
         refine s_val (x_por (b := ((r111 != 0) || (r011 != (-1)))) (r := (r09.length : Int) == 0) rfl rfl (fun hb => gd_of (c := !((r111 != 0) || (r011 != (-1)))) (by first | exact hb | (rw [hb]; rfl) | simp_all) (B ((r09.length : Int) == 0)))) ?_
         refine s_val (x_mv (v := B (((r111 != 0) || (r011 != (-1))) || ((r09.length : Int) == 0))) rfl) ?_
         refine g_val (!(((r111 != 0) || (r011 != (-1))) || ((r09.length : Int) == 0))) (gy_f rfl) (fun hg => x_mv (v := u0_8) rfl) ?_
         obtain ⟨sd78z, hM⟩ := M.e_grd hM
         replace sd78z := M.imp_of sd78z
         simp only [Bool.and_eq_true, decide_eq_true_eq] at sd78z
         refine g_val (!(((r111 != 0) || (r011 != (-1))) || ((r09.length : Int) == 0))) (gy_f rfl) (fun hg => x_ix (a := u0_8) (b := I 0) (v := vat u0_8 1 (Int.toNat 0)) (gd_of (c := !(((r111 != 0) || (r011 != (-1))) || ((r09.length : Int) == 0))) hg (u0_8)) rfl (Sl.ix (α := Int) T26.und T26.size (ownSl (H.get (k := 1) rfl)) (by have h1_ := sd78z.resolve_left (by rw [hg]; decide); first | exact h1_ | exact h1_.1 | exact h1_.2 | omega | (have hx_ := hg; simp at hx_; omega)) (by have h1_ := sd78z.resolve_left (by rw [hg]; decide); first | exact h1_ | exact h1_.1 | exact h1_.2 | omega | (have hx_ := hg; simp at hx_; omega)))) ?_
         refine g_val (!(((r111 != 0) || (r011 != (-1))) || ((r09.length : Int) == 0))) (gy_f rfl) (fun hg => x_ld (p := vat u0_8 1 (Int.toNat 0)) (v := I (r09.getD 0 0)) (gd_of (c := !(((r111 != 0) || (r011 != (-1))) || ((r09.length : Int) == 0))) hg (vat u0_8 1 (Int.toNat 0))) (ld_sc Sc3 (At.mono (Int_at (ownSl (H.get (k := 1) rfl)) (i := 0) (by have h1_ := sd78z.resolve_left (by rw [hg]; decide); first | exact h1_ | exact h1_.1 | exact h1_.2 | omega | (have hx_ := hg; simp at hx_; omega)) (by have h1_ := sd78z.resolve_left (by rw [hg]; decide); first | exact h1_ | exact h1_.1 | exact h1_.2 | omega | (have hx_ := hg; simp at hx_; omega))) (ownLe _ (H.get (k := 1) rfl))))) ?_
         refine g_val (!(((r111 != 0) || (r011 != (-1))) || ((r09.length : Int) == 0))) (gy_f rfl) (fun hg => x_cmp (kd := .i64) (a := r09.getD 0 0) (b := 0) (r := (r09.getD 0 0) != 0) (gd_of (c := !(((r111 != 0) || (r011 != (-1))) || ((r09.length : Int) == 0))) hg (I (r09.getD 0 0))) rfl rfl) ?_
         refine s_val (x_por (b := (((r111 != 0) || (r011 != (-1))) || ((r09.length : Int) == 0))) (r := (r09.getD 0 0) != 0) rfl rfl (fun hb => gd_of (c := !(((r111 != 0) || (r011 != (-1))) || ((r09.length : Int) == 0))) (by first | exact hb | (rw [hb]; rfl) | simp_all) (B ((r09.getD 0 0) != 0)))) ?_
         refine s_nil ?_
         refine W.cond ((((r111 != 0) || (r011 != (-1))) || ((r09.length : Int) == 0)) || ((r09.getD 0 0) != 0)) rfl (fun c79z => ?_) (fun c79z => ?_)
         ·replace hM := M.e_t hM c79z
          refine W.seq ?_
          refine W.region rfl ?_
          refine s_val (x_as (v := B false) rfl) ?_
          refine s_nil ?_
          refine W.ret ?_
          have hr_ := M.e_pure hM
          exact ⟨_, resE_tmp rfl, ⟨false, hr_, rfl, (H.pick [] (by decide) rfl)⟩⟩
         ·replace hM := M.e_f hM c79z
          refine W.skip ?_
          exact ⟨_, upds_of _ _ ⟨rfl, rfl, rfl, rfl, trivial⟩, hM, (H.pick [1, 2, 3, 4, 5, 6, 7, 8] (by decide) rfl)⟩
        ·replace hM := M.e_f hM c68z
         simp only [decide_eq_true_eq, decide_eq_false_iff_not, beq_iff_eq, bne_iff_ne, beq_eq_false_iff_ne, bne_eq_false_iff_eq, ne_eq, Decidable.not_not] at c68z
         refine W.skip ?_
         exact ⟨_, upds_of _ _ ⟨rfl, rfl, rfl, rfl, trivial⟩, hM, H⟩
       ·rintro _ w80z ⟨ρ, rfl, hM, H⟩
        unfold m_nilometerlaw01_LevelTruths_j0 at hM
        refine W.seq ?_
        refine W.region rfl ?_
        refine s_val (x_ld (p := .pointer (some ⟨b_4, 0, none⟩)) (v := .agg #[I r0, u0_2]) rfl (ldb_ag (ds := [I r0, u0_2]) Ag25 Sz25 (H.blk (k := 4) rfl) rfl rfl)) ?_
        refine s_val (x_ld (p := .pointer (some ⟨b_1, 0, none⟩)) (v := .agg #[I n_Marks, v_n_Lines]) rfl (ldb_ag (ds := [I n_Marks, v_n_Lines]) Ag25 Sz25 (H.blk (k := 7) rfl) rfl rfl)) ?_
        obtain ⟨r82z, hx81z, hM⟩ := M.e_bind hM
        refine s_call cf29 [.agg #[I r0, u0_2], .agg #[I n_Marks, v_n_Lines]] rfl (nilometerlaw01_same_ok r0 r1 n_Marks n_Lines (Reads.of (k := 6) rfl ownLe) (ownSl (H.get (k := 6) rfl)) (hC_n_Lines.app _) hs_n_Lines hx81z _ (St.give (T := [cOwn (α := Int) 3 u0_8 r09, cOwn (α := Line) 133 u0_7 r17, cOwn (α := Line) 133 u0_6 r14, cOwn (α := Line) 133 u0_5 r12, cBlk b_4 [I r0, u0_2] 25, cOwn (α := Int) 3 u0_3 r3, cOwn (α := Line) 34 u0_2 r1, cBlk b_1 [I n_Marks, v_n_Lines] 25]) H rfl)) ?_
        rintro vq w83z ⟨r6, hr84z, hvq, H2_⟩
        subst hr84z
        subst vq
        try dsimp only at hM
        replace H : St w w83z [cOwn (α := Int) 3 u0_8 r09, cOwn (α := Line) 133 u0_7 r17, cOwn (α := Line) 133 u0_6 r14, cOwn (α := Line) 133 u0_5 r12, cBlk b_4 [I r0, u0_2] 25, cOwn (α := Int) 3 u0_3 r3, cOwn (α := Line) 34 u0_2 r1, cBlk b_1 [I n_Marks, v_n_Lines] 25] R := H.back H2_ rfl
        clear H2_
        refine s_val (x_mv (v := B r6) rfl) ?_
        refine g_val r6 (gy_t rfl) (fun hg => x_mv (v := u0_3) rfl) ?_
        refine g_val r6 (gy_t rfl) (fun hg => x_mv (v := v_heights) rfl) ?_
        obtain ⟨r7, hx85z, hM⟩ := M.e_bind hM
        refine t_gcall r6 (gy_t rfl) cf42 (B r7) (fun _ => [u0_3, v_heights]) (fun hg => lst2 (gd_of (c := r6) hg (u0_3)) (gd_of (c := r6) hg (v_heights))) H (fun hg => (nilometerkit_Same_int_ok r3 heights (Reads.of (k := 5) rfl ownLe) (ownSl (H.get (k := 5) rfl)) (hC_heights.app _) hs_heights (M.e_opt hx85z hg) _ (H.give (A := []) rfl)).mono fun v_ w_ ⟨y_, hr_, hv_, H_⟩ => by subst hr_; exact ⟨hv_, H.via H_⟩) ?_
        intro w86z H
        refine s_val (x_pand (b := r6) (r := r7) rfl (fun hb => gd_of (c := r6) (by first | exact hb | (rw [hb]; rfl) | simp_all) (B r7)) rfl) ?_
        refine s_val (x_mv (v := B (r6 && r7)) rfl) ?_
        obtain ⟨r8, hx87z, hM⟩ := M.e_bind hM
        refine t_gcall (r6 && r7) (gy_t rfl) cf18 (B r8) (fun _ => []) (fun _ => rfl) H (fun hg => (nilometerlaw01_awake_ok (M.e_opt hx87z hg) _ (H.give (A := []) rfl)).mono fun v_ w_ ⟨y_, hr_, hv_, H_⟩ => by subst hr_; exact ⟨hv_, H.via H_⟩) ?_
        intro w88z H
        refine s_val (x_pand (b := (r6 && r7)) (r := r8) rfl (fun hb => gd_of (c := (r6 && r7)) (by first | exact hb | (rw [hb]; rfl) | simp_all) (B r8)) rfl) ?_
        refine s_val (x_as (v := B ((r6 && r7) && r8)) rfl) ?_
        refine s_nil ?_
        refine W.ret ?_
        have hr_ := M.e_pure hM
        exact ⟨_, resE_tmp rfl, ⟨((r6 && r7) && r8), hr_, rfl, (H.pick [] (by decide) rfl)⟩⟩

end Go.Proofs.Ytclhljenjphofaa
namespace Go.Nm
namespace M
variable {α β σ ρ : Type}
def Out (m : M α) (Q : α → Prop) : Prop := ∃ r, m.Ends r ∧ Q r
theorem o_of {m : M α} {a : α} {Q : α → Prop} (h : m.Ends a) (q : Q a) : m.Out Q := ⟨a, h, q⟩
theorem o_pure {a : α} {Q : α → Prop} (h : Q a) : (pure a).Out Q := ⟨a, i_pure, h⟩
theorem o_mono {m : M α} {P Q : α → Prop} (h : m.Out P) (k : ∀ a, P a → Q a) : m.Out Q := by
  obtain ⟨a, h1, h2⟩ := h
  exact ⟨a, h1, k a h2⟩
theorem o_bind {m : M α} {k : α → M β} {P : α → Prop} {Q : β → Prop} (h : m.Out P) (h' : ∀ a, P a → (k a).Out Q) : (bind m k).Out Q := by
  obtain ⟨a, h1, h2⟩ := h
  obtain ⟨b, h3, h4⟩ := h' a h2
  exact ⟨b, i_bind h1 h3, h4⟩
theorem o_bindE {m : M α} {k : α → M β} {a : α} {Q : β → Prop} (h : m.Ends a) (h' : (k a).Out Q) : (bind m k).Out Q := o_bind (o_of (Q := fun x => x = a) h rfl) (fun _ e => by subst e; exact h')
theorem o_grd {b : Bool} {k : M α} {Q : α → Prop} (hb : b = true) (h : k.Out Q) : (grd b k).Out Q := by subst hb; exact h
theorem o_grdD {p : Prop} [Decidable p] {k : M α} {Q : α → Prop} (hp : p) (h : k.Out Q) : (grd (decide p) k).Out Q := o_grd (decide_eq_true hp) h
theorem o_if {b : Bool} {x y : M α} {Q : α → Prop} (h : b = true → x.Out Q) (h' : b = false → y.Out Q) : (bif b then x else y).Out Q := by
  cases b with
  | true => exact h rfl
  | false => exact h' rfl
theorem o_t {b : Bool} {x y : M α} {Q : α → Prop} (hb : b = true) (h : x.Out Q) : (bif b then x else y).Out Q := by subst hb; exact h
theorem o_f {b : Bool} {x y : M α} {Q : α → Prop} (hb : b = false) (h : y.Out Q) : (bif b then x else y).Out Q := by subst hb; exact h
/-- What a round leaves. -/
def Rd (J : Nat → σ → Prop) (Q : ρ → Prop) (m : Nat) : σ ⊕ ρ → Prop
  | .inl s => ∃ m', m' < m ∧ J m' s
  | .inr r => Q r
theorem o_iter {body : σ → M (σ ⊕ ρ)} {Q : ρ → Prop} (J : Nat → σ → Prop) (round : ∀ m s, J m s → (body s).Out (Rd J Q m)) : ∀ (m : Nat) (s : σ), J m s → (iter body s).Out Q := by
  intro m
  induction m using Nat.strongRecOn with
  | _ m ih =>
    intro s hs
    obtain ⟨x, h1, h2⟩ := round m s hs
    cases x with
    | inl s' =>
      obtain ⟨m', hlt, hj⟩ := h2
      obtain ⟨r, h3, h4⟩ := ih m' hlt s' hj
      exact ⟨r, i_next h1 h3, h4⟩
    | inr r => exact ⟨r, i_stop h1, h2⟩
/-- A loop that counts from 0 to n. -/
theorem o_for {body : σ → M (σ ⊕ ρ)} {Q : ρ → Prop} (n : Nat) (J : Nat → σ → Prop) (round : ∀ i s, i < n → J i s → (body s).Out (fun x => match x with | .inl s' => J (i + 1) s' | .inr r => Q r))
    (last : ∀ s, J n s → (body s).Out (fun x => match x with | .inl _ => False | .inr r => Q r)) {s : σ} (h : J 0 s) : (iter body s).Out Q := by
  refine o_iter (fun m s => ∃ i, i ≤ n ∧ m = n - i ∧ J i s) ?_ n s ⟨0, Nat.zero_le _, rfl, h⟩
  rintro m s ⟨i, hi, rfl, hj⟩
  by_cases e : i < n
  · refine o_mono (round i s e hj) ?_
    intro x hx
    cases x with
    | inl s' => exact ⟨n - (i + 1), by omega, i + 1, e, rfl, hx⟩
    | inr r => exact hx
  · obtain rfl : i = n := by omega
    refine o_mono (last s hj) ?_
    intro x hx
    cases x with
    | inl s' => exact hx.elim
    | inr r => exact hx
end M
theorem M.i_f {α : Type} {b : Bool} {x y : M α} {r : α} (hb : b = false) (h : y.Ends r) : (bif b then x else y).Ends r := by subst hb; exact h
theorem M.i_t {α : Type} {b : Bool} {x y : M α} {r : α} (hb : b = true) (h : x.Ends r) : (bif b then x else y).Ends r := by subst hb; exact h
theorem take_succ_D {α : Type} (l : List α) (i : Nat) (h : i < l.length) (d : α) : l.take i ++ [l.getD i d] = l.take (i + 1) := by
  rw [List.take_succ_eq_append_getElem h]
  simp [List.getD, h]
theorem gset {α : Type} (l : List α) (i j : Nat) (x d : α) (h : i < l.length) : (l.set i x).getD j d = if j = i then x else l.getD j d := by
  simp only [List.getD_eq_getElem?_getD, List.getElem?_set]
  by_cases e : i = j
  · subst e; simp [h]
  · rw [if_neg e, if_neg (fun h => e h.symm)]
theorem getD_el {α : Type} (l : List α) {k : Nat} (h : k < l.length) (d : α) : l.getD k d = l[k] := by rw [List.getD_eq_getElem?_getD, List.getElem?_eq_getElem h, Option.getD_some]
theorem gOr {c : Bool} {p : Prop} [Decidable p] (hp : p) : (!c || decide p) = true := by rw [decide_eq_true hp, Bool.or_true]
theorem gOr2 {c : Bool} {p q : Prop} [Decidable p] [Decidable q] (hp : p) (hq : q) : (!c || (decide p && decide q)) = true := by rw [decide_eq_true hp, decide_eq_true hq]; cases c <;> rfl
theorem gA2 {p q : Prop} [Decidable p] [Decidable q] (hp : p) (hq : q) : (decide p && decide q) = true := by rw [decide_eq_true hp, decide_eq_true hq]; rfl
theorem nodup_bound : ∀ (n : Nat) (l : List Int), l.Nodup → (∀ x ∈ l, 0 ≤ x ∧ x < n) → l.length ≤ n
  | 0, l, _, hb => by
    cases l with
    | nil => exact Nat.le_refl _
    | cons x l => have := hb x (by simp); omega
  | n + 1, l, hn, hb => by
    by_cases hm : (n : Int) ∈ l
    · have h1 : (l.erase (n : Int)).length = l.length - 1 := List.length_erase_of_mem hm
      have h2 := nodup_bound n (l.erase (n : Int)) (hn.erase _) (fun x hx => by
        have hx' := (List.Nodup.mem_erase_iff hn).1 hx
        have := hb x hx'.2
        have := hx'.1
        omega)
      have := List.length_pos_of_mem hm
      omega
    · have := nodup_bound n l hn (fun x hx => by
        have := hb x hx
        have : x ≠ n := fun e => hm (e ▸ hx)
        omega)
      omega
theorem mem_getD {α : Type} {l : List α} {x : α} (h : x ∈ l) (d : α) : ∃ i, i < l.length ∧ l.getD i d = x := by
  obtain ⟨i, hi, e⟩ := List.getElem_of_mem h
  exact ⟨i, hi, by rw [getD_el l hi d]; exact e⟩
end Go.Nm
namespace Go.Nm
/-- A leg leads from a mark to another one, and can rise so much. -/
def Ed (ls : List Line) (a b c : Int) : Prop := ∃ l, l ∈ ls ∧ ((l.src = a ∧ l.dst = b ∧ c = l.err + l.rise) ∨ (l.dst = a ∧ l.src = b ∧ c = l.err - l.rise))
/-- Heights agree with all lines. -/
def Feas (ls : List Line) (h : Int → Int) : Prop := ∀ l, l ∈ ls → l.rise - l.err ≤ h l.dst - h l.src ∧ h l.dst - h l.src ≤ l.rise + l.err
inductive Wk (ls : List Line) (a : Int) : List Int → Int → Prop
  | one : Wk ls a [a] 0
  | snoc {m b : Int} {vs : List Int} {c e : Int} (w : Wk ls a (m :: vs) c) (he : Ed ls m b e) : Wk ls a (b :: m :: vs) (c + e)
variable {ls : List Line} {h : Int → Int} {a b c : Int}
theorem Feas.ed (hF : Feas ls h) (e : Ed ls a b c) : h b - h a ≤ c := by
  obtain ⟨l, hl, ⟨rfl, rfl, rfl⟩ | ⟨rfl, rfl, rfl⟩⟩ := e
  · have := hF l hl; omega
  · have := hF l hl; omega
theorem feas_of (hE : ∀ a b c, Ed ls a b c → h b - h a ≤ c) : Feas ls h := fun l hl => by
  have h1 := hE l.src l.dst _ ⟨l, hl, .inl ⟨rfl, rfl, rfl⟩⟩
  have h2 := hE l.dst l.src _ ⟨l, hl, .inr ⟨rfl, rfl, rfl⟩⟩
  omega
theorem Ed.rev (e : Ed ls a b c) : ∃ c', Ed ls b a c' := by
  obtain ⟨l, hl, ⟨rfl, rfl, rfl⟩ | ⟨rfl, rfl, rfl⟩⟩ := e
  · exact ⟨_, l, hl, .inr ⟨rfl, rfl, rfl⟩⟩
  · exact ⟨_, l, hl, .inl ⟨rfl, rfl, rfl⟩⟩
theorem Ed.sub {ks : List Line} (e : Ed ls a b c) (hs : ∀ l, l ∈ ls → l ∈ ks) : Ed ks a b c := by
  obtain ⟨l, hl, h⟩ := e
  exact ⟨l, hs l hl, h⟩
theorem Wk.sub {ks : List Line} {vs : List Int} (w : Wk ls a vs c) (hs : ∀ l, l ∈ ls → l ∈ ks) : Wk ks a vs c := by
  induction w with
  | one => exact .one
  | snoc _ he ih => exact .snoc ih (he.sub hs)
theorem Wk.feas (hF : Feas ls h) {vs : List Int} (w : Wk ls a vs c) : ∀ b, vs.head? = some b → h b - h a ≤ c := by
  induction w with
  | one => intro b hb; simp at hb; subst hb; omega
  | snoc _ he ih =>
    intro b hb
    simp at hb
    subst hb
    have h1 := ih _ rfl
    have h2 := hF.ed he
    omega
theorem Wk.le (hF : Feas ls h) {vs : List Int} (w : Wk ls a (b :: vs) c) : h b - h a ≤ c := w.feas hF b rfl
theorem Wk.ne {c : Int} (w : Wk ls a [] c) : False := by cases w
theorem Wk.last {vs : List Int} (w : Wk ls a vs c) : vs.getLast? = some a := by
  induction w with
  | one => rfl
  | snoc _ _ ih => rw [List.getLast?_cons_cons]; exact ih
/-- The end of a walk, put behind another one. -/
theorem Wk.cut : ∀ (xs : List Int) {v : Int} {ys : List Int} {c : Int}, Wk ls a (xs ++ v :: ys) c → ∃ c1, Wk ls a (v :: ys) c1 ∧ ∀ (a' : Int) (zs : List Int) (c2 : Int), Wk ls a' (v :: zs) c2 → Wk ls a' (xs ++ v :: zs) (c2 + (c - c1))
  | [], v, ys, c, w => ⟨c, w, fun a' zs c2 w2 => by rw [show c2 + (c - c) = c2 by omega]; exact w2⟩
  | [x], v, ys, c, w => by
    cases w with
    | snoc w he =>
      refine ⟨_, w, fun a' zs c2 w2 => ?_⟩
      rename_i c0 e
      rw [show c2 + (c0 + e - c0) = c2 + e by omega]
      exact .snoc w2 he
  | x :: y :: xs, v, ys, c, w => by
    cases w with
    | snoc w he =>
      rename_i c0 e
      obtain ⟨c1, h1, h2⟩ := Wk.cut (y :: xs) w
      refine ⟨c1, h1, fun a' zs c2 w2 => ?_⟩
      have := h2 a' zs c2 w2
      rw [show c2 + (c0 + e - c1) = c2 + (c0 - c1) + e by omega]
      exact .snoc this he
theorem Wk.app {m : Int} {vs ws : List Int} {c d : Int} (w : Wk ls a (m :: vs) c) (w' : Wk ls m (b :: ws) d) : ∃ us, Wk ls a (b :: us) (c + d) := by
  generalize hl : b :: ws = l at w'
  induction w' generalizing b ws with
  | one => cases hl; exact ⟨vs, by rw [Int.add_zero]; exact w⟩
  | snoc w2 he ih =>
    cases hl
    obtain ⟨us, hu⟩ := ih rfl
    exact ⟨_, by rw [← Int.add_assoc]; exact .snoc hu he⟩
theorem Wk.edge (e : Ed ls a b c) : Wk ls a [b, a] c := by
  have := Wk.snoc (.one (ls := ls) (a := a)) e
  rwa [Int.zero_add] at this
/-- Who can go can go back. -/
theorem Wk.back {vs : List Int} (w : Wk ls a vs c) : ∀ b, vs.head? = some b → ∃ us d, Wk ls b (a :: us) d := by
  induction w with
  | one => intro b hb; simp at hb; subst hb; exact ⟨[], 0, .one⟩
  | snoc _ he ih =>
    intro b hb
    simp at hb
    subst hb
    obtain ⟨c', hr⟩ := he.rev
    obtain ⟨us, d, hw⟩ := ih _ rfl
    obtain ⟨vs, hv⟩ := (Wk.edge hr).app hw
    exact ⟨vs, _, hv⟩
theorem not_nodup : ∀ (l : List Int), ¬ l.Nodup → ∃ xs v ys zs, l = xs ++ v :: (ys ++ v :: zs)
  | [], h => absurd List.nodup_nil h
  | x :: l, h => by
    by_cases hx : x ∈ l
    · obtain ⟨ys, zs, rfl⟩ := List.append_of_mem hx
      exact ⟨[], x, ys, zs, rfl⟩
    · obtain ⟨xs, v, ys, zs, e⟩ := not_nodup l (fun hn => h (List.nodup_cons.2 ⟨hx, hn⟩))
      exact ⟨x :: xs, v, ys, zs, by rw [e]; rfl⟩
/-- A walk without a mark twice can rise no more, if some heights agree. -/
theorem Wk.short (hF : Feas ls h) : ∀ (k : Nat) {vs : List Int} {b c : Int}, vs.length ≤ k → Wk ls a (b :: vs) c → ∃ vs' c', Wk ls a (b :: vs') c' ∧ c' ≤ c ∧ (b :: vs').Nodup
  | 0, vs, b, c, hk, w => by
    have : vs = [] := List.length_eq_zero_iff.1 (Nat.le_zero.1 hk)
    subst this
    exact ⟨[], c, w, Int.le_refl _, by simp⟩
  | k + 1, vs, b, c, hk, w => by
    by_cases hn : (b :: vs).Nodup
    · exact ⟨vs, c, w, Int.le_refl _, hn⟩
    · obtain ⟨xs, v, ys, zs, e⟩ := not_nodup _ hn
      rw [e] at w
      obtain ⟨c1, w1, t1⟩ := Wk.cut xs w
      obtain ⟨c2, w2, t2⟩ := Wk.cut (v :: ys) (v := v) (ys := zs) w1
      have w3 := t2 v [] 0 .one
      have h3 : 0 ≤ c1 - c2 := by have := Wk.le hF w3; omega
      have w4 := t1 a zs c2 w2
      have hlen : (xs ++ v :: zs).length ≤ k + 1 := by
        have := congrArg List.length e
        simp at this hk ⊢
        omega
      cases xs with
      | nil =>
        simp only [List.nil_append] at e w4 hlen
        have hb : b = v := (List.cons.inj e).1
        subst hb
        obtain ⟨vs', c', g1, g2, g3⟩ := Wk.short hF k (by simpa using hlen) w4
        exact ⟨vs', c', g1, by omega, g3⟩
      | cons x xs =>
        simp only [List.cons_append] at e w4 hlen
        have hb : b = x := (List.cons.inj e).1
        subst hb
        obtain ⟨vs', c', g1, g2, g3⟩ := Wk.short hF k (by simpa using hlen) w4
        exact ⟨vs', c', g1, by omega, g3⟩
/-- All lines lie between marks. -/
def Rng (n : Int) (ls : List Line) : Prop := ∀ l, l ∈ ls → (0 ≤ l.src ∧ l.src < n) ∧ (0 ≤ l.dst ∧ l.dst < n)
theorem Ed.rng {n : Int} (hR : Rng n ls) (e : Ed ls a b c) : (0 ≤ a ∧ a < n) ∧ (0 ≤ b ∧ b < n) := by
  obtain ⟨l, hl, ⟨rfl, rfl, rfl⟩ | ⟨rfl, rfl, rfl⟩⟩ := e
  · exact hR l hl
  · exact ⟨(hR l hl).2, (hR l hl).1⟩
theorem Wk.rng {n : Int} (hR : Rng n ls) (ha : 0 ≤ a ∧ a < n) {vs : List Int} (w : Wk ls a vs c) : ∀ v, v ∈ vs → 0 ≤ v ∧ v < n := by
  induction w with
  | one => intro v hv; simp at hv; subst hv; exact ha
  | snoc _ he ih =>
    intro v hv
    rcases List.mem_cons.1 hv with rfl | hv
    · exact (he.rng hR).2
    · exact ih v hv
/-- A shortest walk has fewer legs than there are marks. -/
theorem Wk.few {n : Nat} (hF : Feas ls h) (hR : Rng n ls) (ha : 0 ≤ a ∧ a < n) {vs : List Int} (w : Wk ls a (b :: vs) c) : ∃ vs' c', Wk ls a (b :: vs') c' ∧ c' ≤ c ∧ (b :: vs').Nodup ∧ vs'.length + 1 ≤ n := by
  obtain ⟨vs', c', g1, g2, g3⟩ := Wk.short hF _ (Nat.le_refl _) w
  exact ⟨vs', c', g1, g2, g3, nodup_bound n _ g3 (g1.rng hR ha)⟩
/-- What a walk can rise lies between bounds, as long as a leg's does. -/
theorem Wk.size (hB : ∀ a b c, Ed ls a b c → -1010000 ≤ c ∧ c ≤ 1010000) {vs : List Int} (w : Wk ls a vs c) : -(1010000 * (vs.length : Int)) + 1010000 ≤ c ∧ c ≤ 1010000 * (vs.length : Int) - 1010000 := by
  induction w with
  | one => simp
  | @snoc m b vs c e _ he ih =>
    have h1 := hB _ _ _ he
    simp only [List.length_cons, Int.natCast_succ] at ih ⊢
    omega
/-- The greatest difference. -/
structure IsDist (ls : List Line) (a b d : Int) : Prop where
  has : ∃ vs, Wk ls a (b :: vs) d
  le : ∀ vs c, Wk ls a (b :: vs) c → d ≤ c
def Tied (ls : List Line) (a b : Int) : Prop := ∃ vs c, Wk ls a (b :: vs) c
theorem IsDist.tied {d : Int} (h : IsDist ls a b d) : Tied ls a b := let ⟨vs, w⟩ := h.has; ⟨vs, d, w⟩
theorem Tied.refl (ls : List Line) (a : Int) : Tied ls a a := ⟨[], 0, .one⟩
theorem Tied.symm (t : Tied ls a b) : Tied ls b a := by
  obtain ⟨vs, c, w⟩ := t
  obtain ⟨us, d, h⟩ := w.back b rfl
  exact ⟨us, d, h⟩
theorem Tied.trans {m : Int} (t : Tied ls a m) (u : Tied ls m b) : Tied ls a b := by
  obtain ⟨vs, c, w⟩ := t
  obtain ⟨us, d, w'⟩ := u
  obtain ⟨xs, h⟩ := w.app w'
  exact ⟨xs, _, h⟩
theorem Tied.ed (e : Ed ls a b c) : Tied ls a b := ⟨_, _, Wk.edge e⟩
theorem least_nat {p : Nat → Prop} (h : ∃ n, p n) : ∃ n, p n ∧ ∀ k, p k → n ≤ k := by
  obtain ⟨n, hn⟩ := h
  induction n using Nat.strongRecOn with
  | _ n ih =>
    by_cases hc : ∃ k, k < n ∧ p k
    · obtain ⟨k, hk, hp⟩ := hc
      exact ih k hk hp
    · exact ⟨n, hn, fun k hk => by
        rcases Nat.lt_or_ge k n with hlt | hge
        · exact absurd ⟨k, hlt, hk⟩ hc
        · exact hge⟩
theorem IsDist.uniq {d d' : Int} (h1 : IsDist ls a b d) (h2 : IsDist ls a b d') : d = d' := by
  obtain ⟨vs, w⟩ := h1.has
  obtain ⟨us, w'⟩ := h2.has
  have := h1.le _ _ w'
  have := h2.le _ _ w
  omega
theorem IsDist.self (hF : Feas ls h) : IsDist ls a a 0 := ⟨⟨[], .one⟩, fun _ _ w => by have := w.le hF; omega⟩
theorem IsDist.step {m d e : Int} (h1 : IsDist ls a m d) (he : Ed ls m b e) {d' : Int} (h2 : IsDist ls a b d') : d' ≤ d + e := by
  obtain ⟨vs, w⟩ := h1.has
  exact h2.le _ _ (.snoc w he)
theorem IsDist.feas {d : Int} (hF : Feas ls h) (h1 : IsDist ls a b d) : h b - h a ≤ d := by
  obtain ⟨vs, w⟩ := h1.has
  exact w.le hF
end Go.Nm
namespace Go.Nm
/-- A net as it may be. -/
structure NetOk (n : Int) (ls : List Line) : Prop where
  marks : 1 ≤ n ∧ n ≤ 12
  few : ls.length ≤ 30
  rng : Rng n ls
  ne : ∀ l, l ∈ ls → l.src ≠ l.dst
  day : ∀ l, l ∈ ls → 0 ≤ l.day ∧ l.day ≤ 40000
  rise : ∀ l, l ∈ ls → -1000000 ≤ l.rise ∧ l.rise ≤ 1000000
  err : ∀ l, l ∈ ls → 0 ≤ l.err ∧ l.err ≤ 10000
variable {ls : List Line} {n a b c : Int} {h : Int → Int}
theorem NetOk.ed (hN : NetOk n ls) : ∀ a b c, Ed ls a b c → -1010000 ≤ c ∧ c ≤ 1010000 := by
  rintro a b c ⟨l, hl, ⟨_, _, rfl⟩ | ⟨_, _, rfl⟩⟩
  · have := hN.rise l hl; have := hN.err l hl; omega
  · have := hN.rise l hl; have := hN.err l hl; omega
/-- What is known of a row at work. -/
structure BF (ls : List Line) (n a : Int) (D : Int → Int) (k : Int) : Prop where
  top : ∀ v, 0 ≤ v → v < n → D v ≤ 1099511627776
  snd : ∀ v, 0 ≤ v → v < n → D v < 1099511627776 → ∃ vs, Wk ls a (v :: vs) (D v)
  low : ∀ v, 0 ≤ v → v < n → -(1010000 * k) ≤ D v
  own : D a ≤ 0
  up : ∀ v, 0 ≤ v → v < n → D v < 1099511627776 → D v ≤ 1010000 * k
theorem BF.init (ls : List Line) (n a : Int) : BF ls n a (fun v => if v = a then 0 else 1099511627776) 0 where
  top v _ _ := by first | (split <;> omega) | (dsimp only; split <;> omega)
  snd v _ _ hv := by
    try dsimp only at hv ⊢
    split at hv
    · rename_i e; subst e; rw [if_pos rfl]; exact ⟨[], .one⟩
    · omega
  low v _ _ := by first | (split <;> omega) | (dsimp only; split <;> omega)
  own := by rw [if_pos rfl]; exact Int.le_refl _
  up v _ _ := by first | (split <;> omega) | (dsimp only; split <;> omega)
theorem BF.congr {D D' : Int → Int} {k : Int} (hB : BF ls n a D k) (ha : 0 ≤ a ∧ a < n) (hN : Rng n ls) (e : ∀ v, 0 ≤ v → v < n → D' v = D v) : BF ls n a D' k where
  top v h0 h1 := by rw [e v h0 h1]; exact hB.top v h0 h1
  snd v h0 h1 := by rw [e v h0 h1]; exact hB.snd v h0 h1
  low v h0 h1 := by rw [e v h0 h1]; exact hB.low v h0 h1
  own := by rw [e a ha.1 ha.2]; exact hB.own
  up v h0 h1 := by rw [e v h0 h1]; exact hB.up v h0 h1
theorem BF.mono {D : Int → Int} {k k' : Int} (hB : BF ls n a D k) (hk : k ≤ k') : BF ls n a D k' := ⟨hB.top, hB.snd, fun v h0 h1 => by have := hB.low v h0 h1; omega, hB.own, fun v h0 h1 h2 => by have := hB.up v h0 h1 h2; omega⟩
theorem BF.relax {D : Int → Int} {k m g e : Int} (hB : BF ls n a D k) (hk : 0 ≤ k) (he : Ed ls m g e) (hb : -1010000 ≤ e ∧ e ≤ 1010000) (hm : 0 ≤ m ∧ m < n) (hg : 0 ≤ g ∧ g < n) (h1 : D m < 1099511627776) (h2 : D m + e < D g) : BF ls n a (fun v => if v = g then D m + e else D v) (k + 1) where
  top v h0 h3 := by
    try dsimp only
    split
    · have := hB.top g hg.1 hg.2; omega
    · exact hB.top v h0 h3
  snd v h0 h3 hv := by
    try dsimp only at hv ⊢
    split at hv
    · rename_i e; subst e
      rw [if_pos rfl]
      obtain ⟨vs, w⟩ := hB.snd m hm.1 hm.2 h1
      exact ⟨_, .snoc w he⟩
    · rename_i e; rw [if_neg e]; exact hB.snd v h0 h3 hv
  low v h0 h3 := by
    try dsimp only
    split
    · have := hB.low m hm.1 hm.2; omega
    · have := hB.low v h0 h3; omega
  own := by
    try dsimp only
    split
    · rename_i e; subst e; have := hB.own; omega
    · exact hB.own
  up v h0 h3 hv := by
    try dsimp only at hv ⊢
    split at hv
    · rename_i e; rw [if_pos e]; have := hB.up m hm.1 hm.2 h1; omega
    · rename_i e; rw [if_neg e]; have := hB.up v h0 h3 hv; omega
/-- Walks of so many legs are told. -/
def Cov (ls : List Line) (a : Int) (D : Int → Int) (r : Nat) : Prop := ∀ vs b c, Wk ls a (b :: vs) c → vs.length ≤ r → D b ≤ c
theorem Cov.zero {D : Int → Int} (h : D a ≤ 0) : Cov ls a D 0 := by
  intro vs b c w hl
  have : vs = [] := List.length_eq_zero_iff.1 (Nat.le_zero.1 hl)
  subst this
  cases w
  exact h
theorem Cov.next {D D' : Int → Int} {r : Nat} (hN : NetOk n ls) (hr : r ≤ 1000) (hC : Cov ls a D r) (ha : 0 ≤ a ∧ a < n) (hle : ∀ v, 0 ≤ v → v < n → D' v ≤ D v) (hE : ∀ m g e, Ed ls m g e → D m < 1099511627776 → D' g ≤ D m + e) : Cov ls a D' (r + 1) := by
  intro vs b c w hl
  cases w with
  | one => exact Int.le_trans (hle _ ha.1 ha.2) (hC [] _ _ .one (Nat.zero_le _))
  | snoc w he =>
    rename_i m ws c0 e
    have h1 := hC _ _ _ w (by simpa using hl)
    have h2 := w.size hN.ed
    simp only [List.length_cons] at h2 hl
    have h3 : D m < 1099511627776 := by omega
    have := hE _ _ _ he h3
    omega
/-- At the end. -/
structure Done (ls : List Line) (n a : Int) (D : Int → Int) : Prop where
  far : ∀ v, 0 ≤ v → v < n → D v ≠ 1099511627776 → D v < 1099511627776
  dist : ∀ v, 0 ≤ v → v < n → D v < 1099511627776 → IsDist ls a v (D v)
  tied : ∀ v, 0 ≤ v → v < n → Tied ls a v → D v < 1099511627776
theorem BF.done {D : Int → Int} {k : Int} {r N : Nat} (hN : NetOk n ls) (hF : Feas ls h) (e : (N : Int) = n) (ha : 0 ≤ a ∧ a < n) (hB : BF ls n a D k) (hC : Cov ls a D r) (hr : N ≤ r + 1) : Done ls n a D := by
  have hle : ∀ vs b c, Wk ls a (b :: vs) c → D b ≤ c ∧ D b < 1099511627776 := by
    intro vs b c w
    obtain ⟨vs', c', w', h1, h2, h3⟩ := w.few (n := N) hF (by rw [e]; exact hN.rng) (by rw [e]; exact ha)
    have h4 := hC _ _ _ w' (by omega)
    have h5 := w'.size hN.ed
    simp only [List.length_cons] at h5
    have := hN.marks
    exact ⟨by omega, by omega⟩
  refine ⟨fun v h0 h1 h2 => ?_, fun v h0 h1 h2 => ⟨hB.snd v h0 h1 h2, fun vs c w => (hle vs v c w).1⟩, fun v h0 h1 ⟨vs, c, w⟩ => (hle vs v c w).2⟩
  have := hB.top v h0 h1
  omega
/-- Rows that no leg makes less. -/
structure Tight (ls : List Line) (n : Int) (T : Int → Int → Int) : Prop where
  leg : ∀ a m g e, 0 ≤ a → a < n → Ed ls m g e → T a m < 1099511627776 → T a g ≤ T a m + e
  zero : ∀ a, 0 ≤ a → a < n → T a a = 0
theorem Tight.feas {T : Int → Int → Int} (hN : NetOk n ls) (hS : Tight ls n T) (ht : ∀ a v, 0 ≤ a → a < n → 0 ≤ v → v < n → T a v ≤ 1099511627776) (f : Int → Int)
    (hf : ∀ v, 0 ≤ v → v < n → (0 ≤ f v ∧ f v < n) ∧ T (f v) v < 1099511627776 ∧ ∀ u, 0 ≤ u → u < f v → ¬ T u v < 1099511627776) (hb : ∀ a m g e, 0 ≤ a → a < n → Ed ls m g e → T a m < 1099511627776 → T a m + e < 1099511627776) : Feas ls (fun v => T (f v) v) := by
  refine feas_of fun m g e he => ?_
  have hr := he.rng hN.rng
  have hm := hf m hr.1.1 hr.1.2
  have hg := hf g hr.2.1 hr.2.2
  have step : ∀ u v, Ed ls u v e ∨ (∃ e', Ed ls u v e') → True := fun _ _ _ => trivial
  have same : f m = f g := by
    have key : ∀ u v e', Ed ls u v e' → f v ≤ f u := by
      intro u v e' h'
      have hr' := h'.rng hN.rng
      have h1 := hf u hr'.1.1 hr'.1.2
      have h2 := hf v hr'.2.1 hr'.2.2
      have h3 := hS.leg _ _ _ _ h1.1.1 h1.1.2 h' h1.2.1
      have h4 := hb _ _ _ _ h1.1.1 h1.1.2 h' h1.2.1
      rcases Int.lt_or_le (f u) (f v) with hlt | hge
      · exact absurd (by omega) (h2.2.2 (f u) h1.1.1 hlt)
      · exact hge
    obtain ⟨e', hr'⟩ := he.rev
    have := key _ _ _ he
    have := key _ _ _ hr'
    omega
  try dsimp only
  have h3 := hS.leg (f m) m g e hm.1.1 hm.1.2 he hm.2.1
  rw [← same]
  omega
/-! ### Legs, and the last legs of shortest walks -/
def LegOk (ls : List Line) (g : Leg) : Prop := 0 ≤ g.line ∧ g.line < (ls.length : Int)
def lnOf (ls : List Line) (g : Leg) : Line := ls.getD (Int.toNat g.line) default
def sOf (ls : List Line) (g : Leg) : Int := legEnd g.back (lnOf ls g)
def gOf (ls : List Line) (g : Leg) : Int := legEnd (!g.back) (lnOf ls g)
def rOf (ls : List Line) (g : Leg) : Int := bif g.back then (lnOf ls g).err - (lnOf ls g).rise else (lnOf ls g).err + (lnOf ls g).rise
theorem LegOk.mem {g : Leg} (h : LegOk ls g) : lnOf ls g ∈ ls := by
  unfold lnOf
  have hl : Int.toNat g.line < ls.length := by have := h.1; have := h.2; omega
  rw [getD_el ls hl]
  exact List.getElem_mem hl
theorem LegOk.ed {g : Leg} (h : LegOk ls g) : Ed ls (sOf ls g) (gOf ls g) (rOf ls g) := by
  refine ⟨lnOf ls g, h.mem, ?_⟩
  unfold sOf gOf rOf legEnd
  cases g.back with
  | true => exact .inr ⟨rfl, rfl, rfl⟩
  | false => exact .inl ⟨rfl, rfl, rfl⟩
theorem leg_of (he : Ed ls a b c) : ∃ (i : Nat) (k : Bool), i < ls.length ∧ sOf ls ⟨i, k⟩ = a ∧ gOf ls ⟨i, k⟩ = b ∧ rOf ls ⟨i, k⟩ = c := by
  obtain ⟨l, hl, h⟩ := he
  obtain ⟨i, hi, rfl⟩ := mem_getD hl default
  rcases h with ⟨rfl, rfl, rfl⟩ | ⟨rfl, rfl, rfl⟩
  · exact ⟨i, false, hi, rfl, rfl, rfl⟩
  · exact ⟨i, true, hi, rfl, rfl, rfl⟩
/-- The last legs lead back to the first mark. -/
inductive Ch (ls : List Line) (a : Int) (by_ : Int → Leg) : Int → Prop
  | root : Ch ls a by_ a
  | up {v : Int} (hv : v ≠ a) (h : Ch ls a by_ (sOf ls (by_ v))) : Ch ls a by_ v
structure ByOk (ls : List Line) (n a : Int) (D : Int → Int) (by_ : Int → Leg) : Prop where
  leg : ∀ v, 0 ≤ v → v < n → v ≠ a → D v < 1099511627776 → LegOk ls (by_ v) ∧ gOf ls (by_ v) = v ∧ D (sOf ls (by_ v)) + rOf ls (by_ v) ≤ D v ∧ D (sOf ls (by_ v)) < 1099511627776
  chn : ∀ h, Feas ls h → ∀ v, 0 ≤ v → v < n → D v < 1099511627776 → Ch ls a by_ v
theorem ByOk.init (ls : List Line) (n a : Int) (by_ : Int → Leg) : ByOk ls n a (fun v => if v = a then 0 else 1099511627776) by_ where
  leg v _ _ hv h := by rw [if_neg hv] at h; omega
  chn h _ v _ _ hd := by
    by_cases e : v = a
    · subst e; exact .root
    · rw [if_neg e] at hd; omega
theorem Ch.congr {by_ by' : Int → Leg} (e : ∀ v, 0 ≤ v → v < n → by' v = by_ v) (hR : ∀ v, 0 ≤ v → v < n → v ≠ a → Ch ls a by_ v → 0 ≤ sOf ls (by_ v) ∧ sOf ls (by_ v) < n) {v : Int} (h0 : 0 ≤ v ∧ v < n) (h : Ch ls a by_ v) : Ch ls a by' v := by
  induction h with
  | root => exact .root
  | @up v hv hc ih => exact .up hv (by rw [e v h0.1 h0.2]; exact ih (hR v h0.1 h0.2 hv (.up hv hc)))
theorem ByOk.congr {D D' : Int → Int} {by_ by' : Int → Leg} (hN : NetOk n ls) (hB : ByOk ls n a D by_) (e : ∀ v, 0 ≤ v → v < n → D' v = D v) (e' : ∀ v, 0 ≤ v → v < n → by' v = by_ v) : ByOk ls n a D' by' where
  leg v h0 h1 hv hd := by
    rw [e v h0 h1] at hd ⊢
    rw [e' v h0 h1]
    obtain ⟨h2, h3, h4, h5⟩ := hB.leg v h0 h1 hv hd
    have hr := (h2.ed.rng hN.rng).1
    rw [e _ hr.1 hr.2]
    exact ⟨h2, h3, h4, h5⟩
  chn h hF v h0 h1 hd := by
    rw [e v h0 h1] at hd
    have hc := hB.chn h hF v h0 h1 hd
    have key : ∀ v, Ch ls a by_ v → 0 ≤ v → v < n → D v < 1099511627776 → Ch ls a by' v := by
      intro v hc
      induction hc with
      | root => exact fun _ _ _ => .root
      | @up v hv hc ih =>
        intro h0 h1 hd
        obtain ⟨h2, h3, h4, h5⟩ := hB.leg v h0 h1 hv hd
        have hr := (h2.ed.rng hN.rng).1
        exact .up hv (by rw [e' v h0 h1]; exact ih hr.1 hr.2 h5)
    exact key v hc h0 h1 hd
theorem ByOk.relax {D : Int → Int} {by_ : Int → Leg} {k : Int} {x : Leg} (hN : NetOk n ls) (hB : ByOk ls n a D by_) (hD : BF ls n a D k) (hx : LegOk ls x) (h1 : D (sOf ls x) < 1099511627776) (h2 : D (sOf ls x) + rOf ls x < D (gOf ls x)) :
    ByOk ls n a (fun v => if v = gOf ls x then D (sOf ls x) + rOf ls x else D v) (fun v => if v = gOf ls x then x else by_ v) := by
  have he := hx.ed
  have hr := he.rng hN.rng
  have hne : sOf ls x ≠ gOf ls x := by
    unfold sOf gOf legEnd
    have := hN.ne _ hx.mem
    cases x.back with
    | true => exact fun e => this e.symm
    | false => exact this
  have hle : ∀ v, (if v = gOf ls x then D (sOf ls x) + rOf ls x else D v) ≤ D v := fun v => by
    split
    · rename_i e; rw [e]; omega
    · exact Int.le_refl _
  refine ⟨fun v h0 h3 hv hd => ?_, fun h hF v h0 h3 hd => ?_⟩
  · by_cases e : v = gOf ls x
    · subst e
      simp only [if_true] at hd ⊢
      rw [if_neg hne]
      exact ⟨hx, trivial, Int.le_refl _, h1⟩
    · simp only [if_neg e] at hd ⊢
      obtain ⟨g1, g2, g3, g4⟩ := hB.leg v h0 h3 hv hd
      have := hle (sOf ls (by_ v))
      exact ⟨g1, g2, by omega, by omega⟩
  · -- the last legs lead to the first mark without the one that is turned
    have hga : gOf ls x ≠ a := by
      intro e
      obtain ⟨vs, w⟩ := hD.snd _ hr.1.1 hr.1.2 h1
      have q1 := (Wk.snoc w he).le hF
      have q2 := hD.own
      rw [e] at q1 h2
      omega
    have key : ∀ u, Ch ls a by_ u → 0 ≤ u → u < n → D u < 1099511627776 → ∀ vs c, Wk ls u (sOf ls x :: vs) c → D u + c ≤ D (sOf ls x) → Ch ls a (fun v => if v = gOf ls x then x else by_ v) u := by
      intro u hc
      induction hc with
      | root => exact fun _ _ _ _ _ _ _ => .root
      | @up u hu hc ih =>
        intro h0 h3 hd vs c w hle
        obtain ⟨g1, g2, g3, g4⟩ := hB.leg u h0 h3 hu hd
        have hr' := (g1.ed.rng hN.rng).1
        have hug : u ≠ gOf ls x := by
          intro e
          have q1 := (Wk.snoc w he).le hF
          rw [e] at q1 hle
          omega
        refine .up hu ?_
        rw [if_neg hug]
        have e1 := g1.ed
        rw [g2] at e1
        obtain ⟨us, hw⟩ := (Wk.edge e1).app w
        exact ih hr'.1 hr'.2 g4 us _ hw (by omega)
    have hm : Ch ls a (fun v => if v = gOf ls x then x else by_ v) (sOf ls x) := key _ (hB.chn h hF _ hr.1.1 hr.1.2 h1) hr.1.1 hr.1.2 h1 [] 0 .one (by omega)
    have hg : Ch ls a (fun v => if v = gOf ls x then x else by_ v) (gOf ls x) := .up hga (by rw [if_pos rfl]; exact hm)
    have all : ∀ u, Ch ls a by_ u → Ch ls a (fun v => if v = gOf ls x then x else by_ v) u := by
      intro u hc
      induction hc with
      | root => exact .root
      | @up u hu hc ih =>
        by_cases e : u = gOf ls x
        · rw [e]; exact hg
        · exact .up hu (by rw [if_neg e]; exact ih)
    by_cases e : v = gOf ls x
    · rw [e]; exact hg
    · simp only [if_neg e] at hd
      exact all v (hB.chn h hF v h0 h3 hd)
end Go.Nm
namespace Go.Nm
def rw_ (can : List Int) (a v : Int) : Int := can.getD (Int.toNat a * 13 + Int.toNat v) 0
def rb_ (by_ : List Leg) (a v : Int) : Leg := by_.getD (Int.toNat a * 13 + Int.toNat v) default
variable {ls : List Line} {n a : Int}
structure FI (ls : List Line) (n a : Int) (can0 : List Int) (by0 : List Leg) (k : Int) (can : List Int) (by_ : List Leg) : Prop where
  lc : can.length = 169
  lb : by_.length = 169
  oth : ∀ i, (i < Int.toNat a * 13 ∨ Int.toNat a * 13 + 13 ≤ i) → can.getD i 0 = can0.getD i 0 ∧ by_.getD i default = by0.getD i default
  bf : BF ls n a (rw_ can a) k
  bo : ByOk ls n a (rw_ can a) (rb_ by_ a)
theorem FI.mono {can0 can : List Int} {by0 by_ : List Leg} {k k' : Int} (h : FI ls n a can0 by0 k can by_) (hk : k ≤ k') : FI ls n a can0 by0 k' can by_ := ⟨h.lc, h.lb, h.oth, h.bf.mono hk, h.bo⟩
theorem rw_set {can : List Int} (hl : can.length = 169) {a g : Int} (ha : 0 ≤ a ∧ a < 12) (hg : 0 ≤ g ∧ g < 13) (x : Int) (v : Int) (h0 : 0 ≤ v) (h1 : v < 13) : rw_ (can.set (Int.toNat a * 13 + Int.toNat g) x) a v = if v = g then x else rw_ can a v := by
  unfold rw_
  rw [gset _ _ _ _ _ (by omega)]
  by_cases e : v = g
  · rw [if_pos e, if_pos (by rw [e])]
  · rw [if_neg e, if_neg (by omega)]
theorem rb_set {by_ : List Leg} (hl : by_.length = 169) {a g : Int} (ha : 0 ≤ a ∧ a < 12) (hg : 0 ≤ g ∧ g < 13) (x : Leg) (v : Int) (h0 : 0 ≤ v) (h1 : v < 13) : rb_ (by_.set (Int.toNat a * 13 + Int.toNat g) x) a v = if v = g then x else rb_ by_ a v := by
  unfold rb_
  rw [gset _ _ _ _ _ (by omega)]
  by_cases e : v = g
  · rw [if_pos e, if_pos (by rw [e])]
  · rw [if_neg e, if_neg (by omega)]
theorem FI.relax {can0 can : List Int} {by0 by_ : List Leg} {k : Int} {x : Leg} (hN : NetOk n ls) (ha : 0 ≤ a ∧ a < n) (h : FI ls n a can0 by0 k can by_) (hk : 0 ≤ k) (hx : LegOk ls x) (h1 : rw_ can a (sOf ls x) < 1099511627776) (h2 : rw_ can a (sOf ls x) + rOf ls x < rw_ can a (gOf ls x)) :
    FI ls n a can0 by0 (k + 1) (can.set (Int.toNat a * 13 + Int.toNat (gOf ls x)) (rw_ can a (sOf ls x) + rOf ls x)) (by_.set (Int.toNat a * 13 + Int.toNat (gOf ls x)) x) := by
  have hm := hN.marks
  have hr := hx.ed.rng hN.rng
  have e1 : ∀ v, 0 ≤ v → v < n → rw_ (can.set (Int.toNat a * 13 + Int.toNat (gOf ls x)) (rw_ can a (sOf ls x) + rOf ls x)) a v = if v = gOf ls x then rw_ can a (sOf ls x) + rOf ls x else rw_ can a v := fun v h0 h3 => rw_set h.lc (by omega) (by omega) _ v h0 (by omega)
  have e2 : ∀ v, 0 ≤ v → v < n → rb_ (by_.set (Int.toNat a * 13 + Int.toNat (gOf ls x)) x) a v = if v = gOf ls x then x else rb_ by_ a v := fun v h0 h3 => rb_set h.lb (by omega) (by omega) _ v h0 (by omega)
  refine ⟨by rw [List.length_set]; exact h.lc, by rw [List.length_set]; exact h.lb, fun i hi => ?_, ?_, ?_⟩
  · rw [gset _ _ _ _ _ (by rw [h.lc]; omega), gset _ _ _ _ _ (by rw [h.lb]; omega), if_neg (by omega), if_neg (by omega)]
    exact h.oth i hi
  · exact (h.bf.relax hk hx.ed (hN.ed _ _ _ hx.ed) hr.1 hr.2 h1 h2).congr ha hN.rng e1
  · exact (h.bo.relax hN h.bf hx h1 h2).congr hN e1 e2
/-- These legs make nothing less than they did when the round began. -/
def Rlx (ls : List Line) (D0 D : Int → Int) (pr : Nat → Bool → Prop) : Prop := ∀ (i : Nat) (k : Bool), i < ls.length → pr i k → D0 (sOf ls ⟨i, k⟩) < 1099511627776 → D (gOf ls ⟨i, k⟩) ≤ D0 (sOf ls ⟨i, k⟩) + rOf ls ⟨i, k⟩
theorem Rlx.le {D0 D D' : Int → Int} {pr pr' : Nat → Bool → Prop} (hR : Rng n ls) (h : Rlx ls D0 D pr) (hle : ∀ v, 0 ≤ v → v < n → D' v ≤ D v) (hp : ∀ i k, i < ls.length → pr' i k → pr i k) : Rlx ls D0 D' pr' := fun i k hi hpr hd => by
  have hx : LegOk ls ⟨i, k⟩ := ⟨by show (0 : Int) ≤ (i : Int); omega, by show (i : Int) < _; omega⟩
  have hr := (hx.ed.rng hR).2
  have := h i k hi (hp i k hi hpr) hd
  have := hle _ hr.1 hr.2
  omega
theorem Rlx.all {D0 D : Int → Int} (h : Rlx ls D0 D (fun _ _ => True)) : ∀ m g e, Ed ls m g e → D0 m < 1099511627776 → D g ≤ D0 m + e := by
  intro m g e he hd
  obtain ⟨i, k, hi, rfl, rfl, rfl⟩ := leg_of he
  exact h i k hi trivial hd
end Go.Nm
namespace Go.Nm
variable {ls : List Line} {n a : Int}
theorem Cov.congr {D D' : Int → Int} {r : Nat} (hR : Rng n ls) (ha : 0 ≤ a ∧ a < n) (h : Cov ls a D r) (e : ∀ v, 0 ≤ v → v < n → D' v = D v) : Cov ls a D' r := fun vs b c w hl => by
  have := w.rng hR ha b (by simp)
  rw [e b this.1 this.2]
  exact h vs b c w hl
def Agr (ls : List Line) : Prop := ∃ h, Feas ls h
structure Row (ls : List Line) (n a : Int) (D : Int → Int) (by_ : Int → Leg) : Prop where
  bf : BF ls n a D 8640
  cov : Cov ls a D (Int.toNat n)
  bo : ByOk ls n a D by_
theorem Row.congr {D D' : Int → Int} {b b' : Int → Leg} (hN : NetOk n ls) (ha : 0 ≤ a ∧ a < n) (h : Row ls n a D b) (e : ∀ v, 0 ≤ v → v < n → D' v = D v) (e' : ∀ v, 0 ≤ v → v < n → b' v = b v) : Row ls n a D' b' :=
  ⟨h.bf.congr ha hN.rng e, h.cov.congr hN.rng ha e, h.bo.congr hN e e'⟩
structure Wkd (ls : List Line) (n : Int) (can : List Int) (by_ : List Leg) : Prop where
  lc : can.length = 169
  lb : by_.length = 169
  row : ∀ a, 0 ≤ a → a < n → Row ls n a (rw_ can a) (rb_ by_ a)
theorem Wkd.done {can : List Int} {by_ : List Leg} (hN : NetOk n ls) (hW : Wkd ls n can by_) (hA : Agr ls) (ha : 0 ≤ a ∧ a < n) : Done ls n a (rw_ can a) := by
  obtain ⟨h, hF⟩ := hA
  have hr := hW.row a ha.1 ha.2
  have hm := hN.marks
  exact hr.bf.done (N := Int.toNat n) hN hF (by omega) ha hr.cov (by omega)
def Rx (ls : List Line) (can : List Int) (a : Int) (x : Leg) : Prop := rw_ can a (sOf ls x) < 1099511627776 ∧ rw_ can a (sOf ls x) + rOf ls x < rw_ can a (gOf ls x)
theorem Wkd.agr_no {can : List Int} {by_ : List Leg} (hN : NetOk n ls) (hW : Wkd ls n can by_) (hA : Agr ls) (ha : 0 ≤ a ∧ a < n) {x : Leg} (hx : LegOk ls x) : ¬ Rx ls can a x := by
  rintro ⟨h1, h2⟩
  have hD := hW.done hN hA ha
  have hr := hx.ed.rng hN.rng
  have d1 := hD.dist _ hr.1.1 hr.1.2 h1
  have ht : Tied ls a (gOf ls x) := d1.tied.trans (.ed hx.ed)
  have d2 := hD.dist _ hr.2.1 hr.2.2 (hD.tied _ hr.2.1 hr.2.2 ht)
  have := d1.step hx.ed d2
  omega
theorem Wkd.agr_zero {can : List Int} {by_ : List Leg} (hN : NetOk n ls) (hW : Wkd ls n can by_) (hA : Agr ls) (ha : 0 ≤ a ∧ a < n) : rw_ can a a = 0 := by
  have hD := hW.done hN hA ha
  have h1 := (hW.row a ha.1 ha.2).bf.own
  obtain ⟨h, hF⟩ := hA
  exact (hD.dist a ha.1 ha.2 (by omega)).uniq (.self hF)
theorem Wkd.agr_of {can : List Int} {by_ : List Leg} (hN : NetOk n ls) (hW : Wkd ls n can by_) (h1 : ∀ a, 0 ≤ a → a < n → ∀ x, LegOk ls x → ¬ Rx ls can a x) (h2 : ∀ a, 0 ≤ a → a < n → ¬ rw_ can a a < 0) :
    ∃ f : Int → Int, (∀ v, 0 ≤ v → v < n → (0 ≤ f v ∧ f v < n) ∧ rw_ can (f v) v < 1099511627776 ∧ ∀ u, 0 ≤ u → u < f v → ¬ rw_ can u v < 1099511627776) ∧ Feas ls (fun v => rw_ can (f v) v) := by
  have hS : Tight ls n (rw_ can) := by
    refine ⟨fun a m g e h0 h3 he hd => ?_, fun a h0 h3 => ?_⟩
    · obtain ⟨i, k, hi, rfl, rfl, rfl⟩ := leg_of he
      have := h1 a h0 h3 ⟨i, k⟩ ⟨by show (0 : Int) ≤ (i : Int); omega, by show (i : Int) < _; omega⟩
      unfold Rx at this
      omega
    · have := h2 a h0 h3
      have := (hW.row a h0 h3).bf.own
      omega
  have hex : ∀ v, 0 ≤ v → v < n → ∃ u : Nat, ((u : Int) < n ∧ rw_ can u v < 1099511627776) ∧ ∀ k : Nat, ((k : Int) < n ∧ rw_ can k v < 1099511627776) → u ≤ k := by
    intro v h0 h3
    refine least_nat ⟨v.toNat, by omega, ?_⟩
    rw [Int.toNat_of_nonneg h0, hS.zero v h0 h3]
    omega
  refine ⟨fun v => if h : 0 ≤ v ∧ v < n then (((hex v h.1 h.2).choose : Nat) : Int) else 0, ?_, ?_⟩
  · intro v h0 h3
    dsimp only
    rw [dif_pos ⟨h0, h3⟩]
    obtain ⟨⟨g1, g2⟩, g3⟩ := (hex v h0 h3).choose_spec
    refine ⟨⟨by omega, g1⟩, g2, fun u hu0 hu1 hu => ?_⟩
    have := g3 u.toNat (by rw [Int.toNat_of_nonneg hu0]; exact ⟨by omega, hu⟩)
    omega
  · refine hS.feas hN (fun a v h0 h3 h4 h5 => (hW.row a h0 h3).bf.top v h4 h5) _ ?_ (fun a m g e h0 h3 he hd => ?_)
    · intro v h0 h3
      try dsimp only
      rw [dif_pos ⟨h0, h3⟩]
      obtain ⟨⟨g1, g2⟩, g3⟩ := (hex v h0 h3).choose_spec
      refine ⟨⟨by omega, g1⟩, g2, fun u hu0 hu1 hu => ?_⟩
      have := g3 u.toNat (by rw [Int.toNat_of_nonneg hu0]; exact ⟨by omega, hu⟩)
      omega
    · have hr := he.rng hN.rng
      have := (hW.row a h0 h3).bf.up m hr.1.1 hr.1.2 hd
      have := hN.ed _ _ _ he
      omega
end Go.Nm
namespace Go.Nm
/-- A place of a table. -/
def tb (l : List (List Int)) (a b : Nat) : Int := (l.getD a []).getD b 0
structure Sq (N : Nat) (l : List (List Int)) : Prop where
  len : l.length = N
  rows : ∀ a, a < N → (l.getD a []).length = N
theorem Sq.set {N a b : Nat} {l : List (List Int)} (h : Sq N l) (ha : a < N) (x : Int) : Sq N (l.set a ((l.getD a []).set b x)) := by
  refine ⟨by rw [List.length_set]; exact h.len, fun i hi => ?_⟩
  rw [gset _ _ _ _ _ (by rw [h.len]; exact ha)]
  by_cases e : i = a
  · rw [if_pos e, List.length_set]; exact h.rows a ha
  · rw [if_neg e]; exact h.rows i hi
theorem tb_set {N a b : Nat} {l : List (List Int)} (h : Sq N l) (ha : a < N) (hb : b < N) (x : Int) (i j : Nat) : tb (l.set a ((l.getD a []).set b x)) i j = if i = a ∧ j = b then x else tb l i j := by
  unfold tb
  rw [gset _ _ _ _ _ (by rw [h.len]; exact ha)]
  by_cases e : i = a
  · subst e
    rw [if_pos rfl, gset _ _ _ _ _ (by rw [h.rows i ha]; exact hb)]
    by_cases e2 : j = b
    · rw [if_pos e2, if_pos ⟨rfl, e2⟩]
    · rw [if_neg e2, if_neg (fun h => e2 h.2)]
  · rw [if_neg e, if_neg (fun h => e h.1)]
/-- One step. -/
def up (k a b : Nat) (l : List (List Int)) : List (List Int) :=
  if tb l a k < 1000000000000 ∧ tb l k b < 1000000000000 then l.set a ((l.getD a []).set b (max (-1000000000000) (min (tb l a b) (tb l a k + tb l k b)))) else l
theorem up_sq {N k a b : Nat} {l : List (List Int)} (h : Sq N l) (ha : a < N) : Sq N (up k a b l) := by
  unfold up
  split
  · exact h.set ha _
  · exact h
theorem tb_up {N k a b : Nat} {l : List (List Int)} (h : Sq N l) (ha : a < N) (hb : b < N) (i j : Nat) : tb (up k a b l) i j = if i = a ∧ j = b ∧ tb l a k < 1000000000000 ∧ tb l k b < 1000000000000 then max (-1000000000000) (min (tb l a b) (tb l a k + tb l k b)) else tb l i j := by
  unfold up
  by_cases c : tb l a k < 1000000000000 ∧ tb l k b < 1000000000000
  · rw [if_pos c, tb_set h ha hb]
    by_cases e : i = a ∧ j = b
    · rw [if_pos e, if_pos ⟨e.1, e.2, c⟩]
    · rw [if_neg e, if_neg (fun h => e ⟨h.1, h.2.1⟩)]
  · rw [if_neg c, if_neg (fun h => c h.2.2)]
def bd : Nat → Int
  | 0 => 1010000
  | k + 1 => 2 * bd k
theorem bd_pos : ∀ k, 0 < bd k
  | 0 => by decide
  | k + 1 => by have := bd_pos k; unfold bd; omega
theorem bd_le : ∀ k, k ≤ 12 → bd k ≤ 5000000000 := by decide
/-- A table in which the first k marks were gone through. -/
structure RT (N k : Nat) (T0 T : Nat → Nat → Int) : Prop where
  lo : ∀ a b, a < N → b < N → -bd k ≤ T a b
  hi : ∀ a b, a < N → b < N → T a b = 1000000000000 ∨ T a b ≤ bd k
  cl : ∀ a b j, a < N → b < N → j < N → j < k → T a j < 1000000000000 → T j b < 1000000000000 → T a b ≤ T a j + T j b
  le : ∀ a b, a < N → b < N → T a b ≤ T0 a b
def FT (k : Nat) (T : Nat → Nat → Int) (a b : Nat) : Int := if T a k < 1000000000000 ∧ T k b < 1000000000000 then min (T a b) (T a k + T k b) else T a b
theorem FT_row {k b : Nat} {T : Nat → Nat → Int} (h : 0 ≤ T k k) : FT k T k b = T k b := by
  unfold FT
  split <;> omega
theorem FT_col {k a : Nat} {T : Nat → Nat → Int} (h : 0 ≤ T k k) : FT k T a k = T a k := by
  unfold FT
  split <;> omega
theorem FT_le (k : Nat) (T : Nat → Nat → Int) (a b : Nat) : FT k T a b ≤ T a b := by
  unfold FT
  split <;> omega
theorem RT.next {N k : Nat} {T0 T : Nat → Nat → Int} (h : RT N k T0 T) (hk : k < N) (hN : N ≤ 12) (hp : 0 ≤ T k k) : RT N (k + 1) T0 (FT k T) := by
  have hb := bd_le (k + 1) (by omega)
  have hb0 := bd_pos k
  have e2 : bd (k + 1) = 2 * bd k := rfl
  refine ⟨fun a b ha hb => ?_, fun a b ha hb => ?_, fun a b j ha hb hj hjk h1 h2 => ?_, fun a b ha hb => Int.le_trans (FT_le k T a b) (h.le a b ha hb)⟩
  · have l1 := h.lo a b ha hb
    have l2 := h.lo a k ha hk
    have l3 := h.lo k b hk hb
    unfold FT
    split <;> omega
  · have l1 := h.hi a b ha hb
    have l2 := h.hi a k ha hk
    have l3 := h.hi k b hk hb
    unfold FT
    split <;> omega
  · have kj := h.lo k j hk hj
    have jk := h.lo j k hj hk
    have ak := h.lo a k ha hk
    have kb := h.lo k b hk hb
    have hkj := h.hi k j hk hj
    have hjk' := h.hi j k hj hk
    have hak := h.hi a k ha hk
    have hkb := h.hi k b hk hb
    have haj := h.hi a j ha hj
    have hjb := h.hi j b hj hb
    have hab := h.hi a b ha hb
    by_cases e : j = k
    · subst e
      rw [FT_col hp] at h1 ⊢
      rw [FT_row hp] at h2 ⊢
      unfold FT
      rw [if_pos ⟨h1, h2⟩]
      omega
    · have hjk2 : j < k := by omega
      have c1 := h.cl a b j ha hb hj hjk2
      have c2 := h.cl k b j hk hb hj hjk2
      have c3 := h.cl a k j ha hk hj hjk2
      have c4 := h.cl k k j hk hk hj hjk2
      unfold FT at h1 h2 ⊢
      split at h1 <;> split at h2 <;> split <;> (try split) <;> (try split) <;> omega
/-- A table through which all marks were gone, without a mark that is lower than itself, gives heights. -/
theorem RT.feas {N : Nat} {ls : List Line} {T0 T : Nat → Nat → Int} (h : RT N N T0 T) (hN : 1 ≤ N) (hR : Rng N ls) (h0 : ∀ a b c, Ed ls (a : Nat) (b : Nat) c → T0 a b ≤ c) (hc : ∀ a b c, Ed ls a b c → c ≤ 1010000) (hd : ∀ a, a < N → T a a ≤ 0) : Agr ls := by
  have col : ∀ v : Nat, ∀ m : Nat, m ≤ N → 1 ≤ m → ∃ a, a < m ∧ ∀ x, x < m → T a v ≤ T x v := by
    intro v m
    induction m with
    | zero => intro _ h; omega
    | succ m ih =>
      intro hm _
      by_cases e : m = 0
      · subst e; exact ⟨0, by omega, fun x hx => by rw [show x = 0 by omega]; exact Int.le_refl _⟩
      · obtain ⟨a, ha, hx⟩ := ih (by omega) (by omega)
        by_cases c : T m v < T a v
        · refine ⟨m, by omega, fun x hx' => ?_⟩
          by_cases e2 : x = m
          · rw [e2]; exact Int.le_refl _
          · have := hx x (by omega); omega
        · refine ⟨a, by omega, fun x hx' => ?_⟩
          by_cases e2 : x = m
          · rw [e2]; omega
          · exact hx x (by omega)
  have pick : ∀ v : Nat, ∃ a, a < N ∧ ∀ x, x < N → T a v ≤ T x v := fun v => col v N (Nat.le_refl _) hN
  refine ⟨fun v => T (pick v.toNat).choose v.toNat, feas_of fun m g c he => ?_⟩
  have hr := he.rng hR
  obtain ⟨m, rfl⟩ : ∃ k : Nat, m = k := ⟨m.toNat, by omega⟩
  obtain ⟨g, rfl⟩ : ∃ k : Nat, g = k := ⟨g.toNat, by omega⟩
  simp only [Int.toNat_natCast]
  obtain ⟨p1, p2⟩ := (pick m).choose_spec
  obtain ⟨q1, q2⟩ := (pick g).choose_spec
  generalize (pick m).choose = p at *
  generalize (pick g).choose = q at *
  have hm : m < N := by omega
  have hg : g < N := by omega
  have e1 := p2 m hm
  have e2 := hd m hm
  have e3 := q2 p p1
  have e4 := h.le m g hm hg
  have e5 := h0 m g c he
  have e6 := hc _ _ _ he
  have := h.cl p g m p1 hg hm hm (by omega) (by omega)
  omega
end Go.Nm
namespace Go.Proofs.Ytclhljenjphofaa
open Go Go.Nm
variable {ls : List Line} {n : Int}
theorem start_ends {g : Leg} (hg : LegOk ls g) : (m_level_survey_start n ls g).Ends (sOf ls g) := by
  unfold m_level_survey_start
  exact M.i_grd (gA2 hg.1 hg.2) M.i_pure
theorem goal_ends {g : Leg} (hg : LegOk ls g) : (m_level_survey_goal n ls g).Ends (gOf ls g) := by
  unfold m_level_survey_goal
  exact M.i_grd (gA2 hg.1 hg.2) M.i_pure
theorem rise_ends {N : Int} (hN : NetOk N ls) {g : Leg} (hg : LegOk ls g) : (m_level_survey_rise n ls g).Ends (rOf ls g) := by
  unfold m_level_survey_rise
  have h1 := hN.rise _ hg.mem
  have h2 := hN.err _ hg.mem
  unfold lnOf at h1 h2
  refine M.i_grd (gA2 hg.1 hg.2) (M.i_if (fun hb => ?_) (fun hb => ?_))
  · unfold rOf; rw [hb]
    exact M.i_grd (gA2 (by omega) (by omega)) M.i_pure
  · unfold rOf; rw [hb]
    exact M.i_grd (gA2 (by omega) (by omega)) M.i_pure
theorem sum2_ends {x y : Int} (h1 : -1000000000000000 ≤ x ∧ x ≤ 1000000000000000) (h2 : -1000000000000000 ≤ y ∧ y ≤ 1000000000000000) : (m_level_sum [x, y]).Ends (x + y) := by
  unfold m_level_sum
  refine M.i_bind (a := x + y) ?_ M.i_pure
  refine M.i_next (s' := (0 + x, 0 + 1)) ?_ (M.i_next (s' := (0 + x + y, 0 + 1 + 1)) ?_ (M.i_stop ?_))
  · simp only [m_level_sum_b0]
    exact M.i_t (by simp) (M.i_grd (by simp) (M.i_grd (gA2 (by simp; omega) (by simp; omega)) M.i_pure))
  · simp only [m_level_sum_b0]
    exact M.i_t (by simp) (M.i_grd (by simp) (M.i_grd (gA2 (by simp; omega) (by simp; omega)) M.i_pure))
  · simp only [m_level_sum_b0]
    rw [show x + y = 0 + x + y by omega]
    exact M.i_f (by simp) M.i_pure
/-- A walk over the legs that begin at a mark. -/
theorem legs_out {S X : Type} {bd : S → Leg → M (S ⊕ X)} {m : Int} (J : Nat → S → Prop) (QX : X → Prop)
    (step : ∀ (i : Nat) (k : Bool) (s : S), i < ls.length → sOf ls ⟨i, k⟩ = m → J (2 * i + k.toNat) s → (bd s ⟨i, k⟩).Out (fun r => match r with | .inl s' => J (2 * i + k.toNat + 1) s' | .inr x => QX x))
    (skip : ∀ (i : Nat) (k : Bool) (s : S), i < ls.length → sOf ls ⟨i, k⟩ ≠ m → J (2 * i + k.toNat) s → J (2 * i + k.toNat + 1) s)
    {s : S} (h : J 0 s) : (m_level_survey_legs_1 (M.yl bd) (.inl s) n ls m).Out (fun r => match r with | .inl s' => J (2 * ls.length) s' | .inr x => QX x) := by
  unfold m_level_survey_legs_1
  refine M.o_bind (P := fun y => match y with | .inl t => ∃ x, t = .inr x ∧ QX x | .inr t => ∃ s, t = .inl s ∧ J (2 * ls.length) s) ?_ ?_
  · refine M.o_for ls.length (fun i st => st.1 = i ∧ ∃ s, st.2 = .inl s ∧ J (2 * i) s) ?_ ?_ ⟨rfl, s, rfl, h⟩
    · rintro i ⟨s2, t⟩ hi ⟨rfl, s, rfl, hJ⟩
      dsimp only at hi hJ
      have one : ∀ (k : Bool) (s : S), J (2 * s2 + k.toNat) s → (M.bind (m_level_survey_start n ls ⟨s2, k⟩) fun r2 => M.bind (M.opt (r2 == m) (M.yl bd (.inl s) ⟨s2, k⟩) (false, .inl s)) fun (go, t) =>
          bif ((r2 == m) && (!go)) then (M.pure (.inr (.inl t))) else (M.pure (.inl (k.toNat + 1, t)))).Out
          (fun y : ((Nat × (S ⊕ X)) ⊕ ((S ⊕ X) ⊕ (S ⊕ X))) => match y with | .inl st => st.1 = k.toNat + 1 ∧ ∃ s, st.2 = .inl s ∧ J (2 * s2 + (k.toNat + 1)) s | .inr (.inl t) => ∃ x, t = .inr x ∧ QX x | .inr (.inr _) => False) := by
        intro k s hJ
        refine M.o_bindE (start_ends ⟨by show (0 : Int) ≤ (s2 : Int); omega, by show (s2 : Int) < _; omega⟩) ?_
        by_cases hm : sOf ls ⟨s2, k⟩ = m
        · have hb : (sOf ls ⟨s2, k⟩ == m) = true := by rw [beq_iff_eq]; exact hm
          rw [hb]
          refine M.o_bind (P := fun y => match y.1 with | true => ∃ s, y.2 = .inl s ∧ J (2 * s2 + k.toNat + 1) s | false => ∃ x, y.2 = .inr x ∧ QX x) ?_ ?_
          · refine M.o_bind (step s2 k s hi hm hJ) ?_
            rintro (s' | x) hs
            · exact M.o_pure ⟨s', rfl, hs⟩
            · exact M.o_pure ⟨x, rfl, hs⟩
          · rintro ⟨go, t⟩ hy
            cases go with
            | true => exact M.o_pure ⟨rfl, hy⟩
            | false => exact M.o_pure hy
        · have hb : (sOf ls ⟨s2, k⟩ == m) = false := by rw [beq_eq_false_iff_ne]; exact hm
          rw [hb]
          refine M.o_bindE (a := (false, .inl s)) (M.i_opt (fun h => by cases h) (fun _ => rfl)) ?_
          exact M.o_pure ⟨rfl, s, rfl, skip s2 k s hi hm hJ⟩
      simp only [m_level_survey_legs_1_b2]
      refine M.o_t (by simpa using hi) ?_
      refine M.o_bind (P := fun y => match y with | .inl t => ∃ x, t = .inr x ∧ QX x | .inr t => ∃ s, t = .inl s ∧ J (2 * (s2 + 1)) s) ?_ ?_
      · refine M.o_for 2 (fun j st => st.1 = j ∧ ∃ s, st.2 = .inl s ∧ J (2 * s2 + j) s) ?_ ?_ ⟨rfl, s, rfl, hJ⟩
        · rintro j ⟨s3, t⟩ hj ⟨rfl, s, rfl, hJ⟩
          dsimp only at hj hJ
          simp only [m_level_survey_legs_1_b1]
          refine M.o_t (by simp; omega) (M.o_grd (by simp; omega) ?_)
          rcases (show s3 = 0 ∨ s3 = 1 by omega) with rfl | rfl
          · exact M.o_mono (one false s hJ) (fun y hy => by rcases y with st | t | t; exact hy; exact hy; exact hy.elim)
          · exact M.o_mono (one true s hJ) (fun y hy => by rcases y with st | t | t; exact hy; exact hy; exact hy.elim)
        · rintro ⟨s3, t⟩ ⟨rfl, s, rfl, hJ⟩
          simp only [m_level_survey_legs_1_b1]
          exact M.o_f (by simp) (M.o_pure ⟨s, rfl, hJ⟩)
      · rintro (t | t) hy
        · exact M.o_pure hy
        · exact M.o_pure ⟨rfl, hy⟩
    · rintro ⟨s2, t⟩ ⟨rfl, s, rfl, hJ⟩
      simp only [m_level_survey_legs_1_b2]
      exact M.o_f (by simp) (M.o_pure ⟨s, rfl, hJ⟩)
  · rintro (t | t) hy
    · obtain ⟨x, rfl, hx⟩ := hy
      exact M.o_pure hx
    · obtain ⟨s, rfl, hs⟩ := hy
      exact M.o_pure hs
end Go.Proofs.Ytclhljenjphofaa
namespace Go.Proofs.Ytclhljenjphofaa
open Go Go.Nm
variable {ls : List Line} {n a : Int}
theorem ij {i : Nat} {k : Bool} (hi : i < ls.length) : LegOk ls ⟨i, k⟩ := ⟨by show (0 : Int) ≤ (i : Int); omega, by show (i : Int) < _; omega⟩
/-- One leg. -/
theorem fill_leg (hN : NetOk n ls) (ha : 0 ≤ a ∧ a < n) {can0 can : List Int} {by0 by_ : List Leg} {k : Int} {m i : Nat} {b : Bool} (hi : i < ls.length) (hs : sOf ls ⟨i, b⟩ = (m : Int)) (hk : 0 ≤ k ∧ k ≤ 100000) (h : FI ls n a can0 by0 k can by_) (hd : rw_ can a m < 1099511627776) :
    (m_level_survey_fill_b4 n ls a m (can, by_) ⟨i, b⟩).Out (fun r => match r with | .inl s => FI ls n a can0 by0 (k + 1) s.1 s.2 ∧ (∀ v, 0 ≤ v → v < n → rw_ s.1 a v ≤ rw_ can a v) ∧ rw_ s.1 a (gOf ls ⟨i, b⟩) ≤ rw_ can a m + rOf ls ⟨i, b⟩ | .inr _ => False) := by
  have hx : LegOk ls ⟨i, b⟩ := ij hi
  have hr := hx.ed.rng hN.rng
  have hm := hN.marks
  have hc := hN.ed _ _ _ hx.ed
  have hlo := h.bf.low m (by omega) (by rw [← hs]; exact hr.1.2)
  simp only [m_level_survey_fill_b4]
  refine M.o_bindE (rise_ends hN hx) ?_
  refine M.o_bindE (a := rw_ can a m + rOf ls ⟨i, b⟩) (sum2_ends (x := can.getD (Int.toNat a * 13 + m) 0) (by unfold rw_ at hlo hd; rw [Int.toNat_natCast] at hlo hd; omega) (by omega)) ?_
  refine M.o_bindE (goal_ends hx) ?_
  refine M.o_grd (gA2 (by omega) (by omega)) ?_
  refine M.o_if (fun hb => ?_) (fun hb => ?_)
  · have hb := of_decide_eq_true hb
    refine M.o_bindE (goal_ends hx) (M.o_bindE (goal_ends hx) (M.o_grd (gA2 (by omega) (by omega)) (M.o_grd (gA2 (by omega) (by omega)) (M.o_pure ?_))))
    have h1 := h.relax hN ha hk.1 hx (by rw [hs]; exact hd) (by rw [hs]; exact hb)
    rw [hs] at h1
    have e1 : ∀ v, 0 ≤ v → v < n → rw_ (can.set (Int.toNat a * 13 + Int.toNat (gOf ls ⟨i, b⟩)) (rw_ can a m + rOf ls ⟨i, b⟩)) a v = if v = gOf ls ⟨i, b⟩ then rw_ can a m + rOf ls ⟨i, b⟩ else rw_ can a v := fun v h0 h3 => rw_set h.lc (by omega) (by omega) _ v h0 (by omega)
    refine ⟨h1, fun v h0 h3 => ?_, ?_⟩
    · dsimp only
      rw [e1 v h0 h3]
      split
      · rename_i e
        rw [e]
        exact Int.le_of_lt hb
      · exact Int.le_refl _
    · dsimp only
      rw [e1 _ hr.2.1 hr.2.2, if_pos rfl]
      exact Int.le_refl _
  · have hb := of_decide_eq_false hb
    refine M.o_pure ⟨h.mono (by omega), fun v _ _ => Int.le_refl _, ?_⟩
    dsimp only
    unfold rw_ at *
    omega
/-- The legs at a mark. -/
theorem fill_mark (hN : NetOk n ls) (ha : 0 ≤ a ∧ a < n) {can0 can : List Int} {by0 by_ : List Leg} {k : Int} {m : Nat} (hm : (m : Int) < n) (hk : 0 ≤ k ∧ k ≤ 90000) (h : FI ls n a can0 by0 k can by_) {D0 : Int → Int} (hle : ∀ v, 0 ≤ v → v < n → rw_ can a v ≤ D0 v) (hR : Rlx ls D0 (rw_ can a) (fun i b => sOf ls ⟨i, b⟩ < (m : Int))) (hd : rw_ can a m < 1099511627776) :
    (m_level_survey_legs_1 (M.yl (m_level_survey_fill_b4 n ls a m)) (.inl (can, by_)) n ls m).Out (fun r => match r with | .inl s => FI ls n a can0 by0 (k + 60) s.1 s.2 ∧ (∀ v, 0 ≤ v → v < n → rw_ s.1 a v ≤ D0 v) ∧ Rlx ls D0 (rw_ s.1 a) (fun i b => sOf ls ⟨i, b⟩ < (m : Int) + 1) | .inr _ => False) := by
  have hf := hN.few
  refine M.o_mono (legs_out (m := (m : Int)) (fun idx s => FI ls n a can0 by0 (k + idx) s.1 s.2 ∧ (∀ v, 0 ≤ v → v < n → rw_ s.1 a v ≤ D0 v) ∧ rw_ s.1 a m < 1099511627776 ∧ Rlx ls D0 (rw_ s.1 a) (fun i b => sOf ls ⟨i, b⟩ < (m : Int) ∨ (sOf ls ⟨i, b⟩ = (m : Int) ∧ 2 * i + b.toNat < idx))) (fun _ => False) ?_ ?_ (s := (can, by_)) ⟨h.mono (by omega), hle, hd, hR.le hN.rng (fun v _ _ => Int.le_refl _) (fun i b _ hp => by rcases hp with hp | ⟨_, hp⟩; exact hp; omega)⟩) ?_
  · rintro i b ⟨s, s2⟩ hi hs ⟨hF, hle, hd, hR⟩
    dsimp only at hF hle hd hR
    have hb2 : b.toNat ≤ 1 := by cases b <;> decide
    refine M.o_mono (fill_leg hN ha hi hs (by omega) hF hd) ?_
    rintro (⟨t, t2⟩ | x) hy
    · obtain ⟨h1, h2, h3⟩ := hy
      dsimp only at h1 h2 h3 ⊢
      refine ⟨h1.mono (by omega), fun v h0 h4 => Int.le_trans (h2 v h0 h4) (hle v h0 h4), Int.lt_of_le_of_lt (h2 m (by omega) hm) hd, fun i' b' hi' hp hd0 => ?_⟩
      have hr' := ((ij (k := b') hi').ed.rng hN.rng).2
      by_cases e : sOf ls ⟨i', b'⟩ < (m : Int) ∨ (sOf ls ⟨i', b'⟩ = (m : Int) ∧ 2 * i' + b'.toNat < 2 * i + b.toNat)
      · have := hR i' b' hi' e hd0
        have := h2 _ hr'.1 hr'.2
        omega
      · have hb3 : b'.toNat ≤ 1 := by cases b' <;> decide
        have e2 : i' = i ∧ b' = b := by
          have : 2 * i' + b'.toNat = 2 * i + b.toNat := by omega
          refine ⟨by omega, ?_⟩
          have : b'.toNat = b.toNat := by omega
          cases b <;> cases b' <;> simp_all
        obtain ⟨rfl, rfl⟩ := e2
        rw [hs] at hd0 ⊢
        have := hle m (by omega) hm
        omega
    · exact hy.elim
  · rintro i b ⟨s, s2⟩ hi hs ⟨hF, hle, hd, hR⟩
    refine ⟨hF.mono (by omega), hle, hd, hR.le hN.rng (fun v _ _ => Int.le_refl _) (fun i' b' hi' hp => ?_)⟩
    rcases hp with hp | ⟨hp, hp2⟩
    · exact .inl hp
    · have hb2 : b.toNat ≤ 1 := by cases b <;> decide
      have hb3 : b'.toNat ≤ 1 := by cases b' <;> decide
      refine .inr ⟨hp, ?_⟩
      rcases Nat.lt_or_ge (2 * i' + b'.toNat) (2 * i + b.toNat) with h | h
      · exact h
      · exfalso
        have : 2 * i' + b'.toNat = 2 * i + b.toNat := by omega
        have e1 : i' = i := by omega
        subst e1
        have e2 : b' = b := by
          have : b'.toNat = b.toNat := by omega
          cases b <;> cases b' <;> simp_all
        subst e2
        exact hs hp
  · rintro (s | x) hy
    · obtain ⟨h1, h2, h3, h4⟩ := hy
      refine ⟨h1.mono (by omega), h2, h4.le hN.rng (fun v _ _ => Int.le_refl _) (fun i b hi hp => ?_)⟩
      have hb2 : b.toNat ≤ 1 := by cases b <;> decide
      by_cases e : sOf ls ⟨i, b⟩ < (m : Int)
      · exact .inl e
      · exact .inr ⟨by omega, by omega⟩
    · exact hy.elim
/-- A row. -/
theorem fill_out (hN : NetOk n ls) (ha : 0 ≤ a ∧ a < n) {can : List Int} {by_ : List Leg} (lc : can.length = 169) (lb : by_.length = 169) (h0 : ∀ v, 0 ≤ v → v < n → rw_ can a v = if v = a then 0 else 1099511627776) :
    (m_level_survey_fill n ls can by_ a).Out (fun r => FI ls n a can by_ 8640 r.1 r.2 ∧ Cov ls a (rw_ r.1 a) (Int.toNat n)) := by
  have hm := hN.marks
  have hI : FI ls n a can by_ 0 can by_ := ⟨lc, lb, fun _ _ => ⟨rfl, rfl⟩, (BF.init ls n a).congr ha hN.rng h0, (ByOk.init ls n a (rb_ by_ a)).congr hN h0 (fun _ _ _ => rfl)⟩
  unfold m_level_survey_fill
  refine M.o_grd (gA2 (by omega) (by omega)) ?_
  refine M.o_bind (P := fun r => FI ls n a can by_ 8640 r.1 r.2 ∧ Cov ls a (rw_ r.1 a) (Int.toNat n)) ?_ (fun y hy => M.o_pure hy)
  refine M.o_for (Int.toNat n) (fun r st => st.2.2 = r ∧ FI ls n a can by_ (720 * r) st.1 st.2.1 ∧ Cov ls a (rw_ st.1 a) r) ?_ ?_ (s := (can, by_, 0)) ⟨rfl, hI.mono (by simp), Cov.zero (by rw [h0 a ha.1 ha.2, if_pos rfl]; exact Int.le_refl _)⟩
  · rintro r ⟨c, y, r'⟩ hr ⟨rfl, hF, hC⟩
    dsimp only at hr hF hC
    simp only [m_level_survey_fill_b6]
    refine M.o_t (by simp; omega) ?_
    refine M.o_bind (P := fun q => FI ls n a can by_ (720 * (r' + 1)) q.1 q.2 ∧ Cov ls a (rw_ q.1 a) (r' + 1)) ?_ ?_
    · refine M.o_for (Int.toNat n) (fun m st => st.1 = m ∧ FI ls n a can by_ (720 * r' + 60 * m) st.2.1 st.2.2 ∧ (∀ v, 0 ≤ v → v < n → rw_ st.2.1 a v ≤ rw_ c a v) ∧ Rlx ls (rw_ c a) (rw_ st.2.1 a) (fun i b => sOf ls ⟨i, b⟩ < (m : Int))) ?_ ?_ (s := (0, c, y)) ⟨rfl, hF.mono (by simp), fun v _ _ => Int.le_refl _, fun i b hi hp _ => by have := ((ij (k := b) hi).ed.rng hN.rng).1; omega⟩
      · rintro m ⟨m', s, s2⟩ hmn ⟨rfl, hF, hle, hR⟩
        dsimp only at hmn hF hle hR
        simp only [m_level_survey_fill_b5]
        refine M.o_t (by simp; omega) (M.o_grd (gA2 (by omega) (by omega)) (M.o_if (fun hb => ?_) (fun hb => ?_)))
        · have hb := beq_iff_eq.1 hb
          refine M.o_grd (gA2 (by omega) (by omega)) (M.o_pure ⟨rfl, hF.mono (by omega), hle, fun i b hi hp hd => ?_⟩)
          by_cases e : sOf ls ⟨i, b⟩ < (m' : Int)
          · exact hR i b hi e hd
          · exfalso
            have e2 : sOf ls ⟨i, b⟩ = (m' : Int) := by omega
            have := hle m' (by omega) (by omega)
            rw [e2] at hd
            unfold rw_ at this hd
            rw [Int.toNat_natCast] at this hd
            omega
        · have hb := beq_eq_false_iff_ne.1 hb
          have htop := hF.bf.top m' (by omega) (by omega)
          have hd : rw_ s a m' < 1099511627776 := by
            unfold rw_ at htop ⊢
            rw [Int.toNat_natCast] at htop ⊢
            omega
          refine M.o_bindE (a := (m' : Int)) M.i_pure ?_
          refine M.o_bind (fill_mark hN ha (m := m') (by omega) (by omega) hF hle hR hd) ?_
          rintro (⟨t, t2⟩ | x) hy
          · refine M.o_grd (gA2 (by omega) (by omega)) (M.o_pure ⟨rfl, hy.1.mono (by omega), hy.2.1, hy.2.2.le hN.rng (fun v _ _ => Int.le_refl _) (fun i b _ hp => by omega)⟩)
          · exact hy.elim
      · rintro ⟨m', s, s2⟩ ⟨rfl, hF, hle, hR⟩
        dsimp only at hF hle hR
        simp only [m_level_survey_fill_b5]
        refine M.o_f (by simp; omega) (M.o_pure ⟨hF.mono (by omega), ?_⟩)
        refine hC.next hN (by omega) ha hle ?_
        refine Rlx.all (hR.le hN.rng (fun v _ _ => Int.le_refl _) (fun i b hi _ => ?_))
        have := ((ij (k := b) hi).ed.rng hN.rng).1
        omega
    · rintro ⟨q, q2⟩ ⟨h1, h2⟩
      exact M.o_grd (gA2 (by omega) (by omega)) (M.o_pure ⟨rfl, h1.mono (by omega), h2⟩)
  · rintro ⟨c, y, r'⟩ ⟨rfl, hF, hC⟩
    simp only [m_level_survey_fill_b6]
    exact M.o_f (by simp; omega) (M.o_pure ⟨hF.mono (by omega), hC⟩)
end Go.Proofs.Ytclhljenjphofaa
namespace Go.Proofs.Ytclhljenjphofaa
open Go Go.Nm
variable {ls : List Line} {n a : Int}
theorem rw_nat (can : List Int) (i j : Nat) : rw_ can i j = can.getD (i * 13 + j) 0 := by unfold rw_; rw [Int.toNat_natCast, Int.toNat_natCast]
theorem worked_out (hN : NetOk n ls) : (m_level_worked n ls).Out (fun r => r.1 = n ∧ Wkd ls n r.2.1 r.2.2) := by
  have hm := hN.marks
  unfold m_level_worked
  refine M.o_bind (P := fun c => c.length = 169 ∧ ∀ i j : Nat, (i : Int) < n → (j : Int) < n → c.getD (i * 13 + j) 0 = if j = i then 0 else 1099511627776) ?_ ?_
  · refine M.o_for (Int.toNat n) (fun i st => st.2 = i ∧ st.1.length = 169 ∧ ∀ i' j : Nat, i' < i → (j : Int) < n → st.1.getD (i' * 13 + j) 0 = if j = i' then 0 else 1099511627776) ?_ ?_ (s := (List.replicate 169 0, 0)) ⟨rfl, List.length_replicate, fun i' j h => by omega⟩
    · rintro i ⟨c, i0⟩ hi ⟨rfl, hl, hc⟩
      dsimp only at hi hl hc
      simp only [m_level_worked_b2]
      refine M.o_t (by simp; omega) ?_
      refine M.o_bind (P := fun d => d.length = 169 ∧ (∀ i' j : Nat, i' < i0 → (j : Int) < n → d.getD (i' * 13 + j) 0 = if j = i' then 0 else 1099511627776) ∧ ∀ j : Nat, (j : Int) < n → d.getD (i0 * 13 + j) 0 = 1099511627776) ?_ ?_
      · refine M.o_for (Int.toNat n) (fun j st => st.2 = j ∧ st.1.length = 169 ∧ (∀ i' j : Nat, i' < i0 → (j : Int) < n → st.1.getD (i' * 13 + j) 0 = if j = i' then 0 else 1099511627776) ∧ ∀ j' : Nat, j' < j → st.1.getD (i0 * 13 + j') 0 = 1099511627776) ?_ ?_ (s := (c, 0)) ⟨rfl, hl, hc, fun j h => by omega⟩
        · rintro j ⟨d, j0⟩ hj ⟨rfl, hl, hd, he⟩
          dsimp only at hj hl hd he
          simp only [m_level_worked_b1]
          refine M.o_t (by simp; omega) (M.o_grd (gA2 (by omega) (by omega)) (M.o_grd (gA2 (by omega) (by omega)) (M.o_grd (gA2 (by omega) (by omega)) (M.o_pure ⟨rfl, by simpa using hl, fun i' j h1 h2 => ?_, fun j' h1 => ?_⟩))))
          · dsimp only
            rw [gset _ _ _ _ _ (by omega), if_neg (by omega)]
            exact hd i' j h1 h2
          · dsimp only
            rw [gset _ _ _ _ _ (by omega)]
            by_cases e : j' = j0
            · rw [e, if_pos rfl]
            · rw [if_neg (by omega)]; exact he j' (by omega)
        · rintro ⟨d, j0⟩ ⟨rfl, hl, hd, he⟩
          simp only [m_level_worked_b1]
          exact M.o_f (by simp; omega) (M.o_pure ⟨hl, hd, fun j h => he j (by omega)⟩)
      · rintro d ⟨hl, hd, he⟩
        refine M.o_grd (gA2 (by omega) (by omega)) (M.o_grd (gA2 (by omega) (by omega)) (M.o_pure ⟨rfl, by simpa using hl, fun i' j h1 h2 => ?_⟩))
        dsimp only
        rw [gset _ _ _ _ _ (by omega)]
        by_cases e : i' = i0
        · subst e
          by_cases e2 : j = i'
          · subst e2; rw [if_pos rfl, if_pos rfl]
          · rw [if_neg (by omega), if_neg e2]; exact he j h2
        · rw [if_neg (by omega)]; exact hd i' j (by omega) h2
    · rintro ⟨c, i0⟩ ⟨rfl, hl, hc⟩
      simp only [m_level_worked_b2]
      exact M.o_f (by simp; omega) (M.o_pure ⟨hl, fun i j h1 h2 => hc i j (by omega) h2⟩)
  · rintro c ⟨hl, hc⟩
    refine M.o_bind (P := fun r => Wkd ls n r.1 r.2) ?_ (fun r hr => M.o_pure ⟨rfl, hr⟩)
    refine M.o_for (Int.toNat n) (fun i st => st.2.2 = i ∧ st.1.length = 169 ∧ st.2.1.length = 169 ∧ (∀ a : Nat, a < i → Row ls n a (rw_ st.1 a) (rb_ st.2.1 a)) ∧ ∀ a j : Nat, i ≤ a → (a : Int) < n → (j : Int) < n → st.1.getD (a * 13 + j) 0 = if j = a then 0 else 1099511627776) ?_ ?_ (s := (c, List.replicate 169 default, 0)) ⟨rfl, hl, List.length_replicate, fun a h => by omega, fun a j _ h1 h2 => hc a j h1 h2⟩
    · rintro i ⟨c, y, i0⟩ hi ⟨rfl, hl, hy, hd, hc⟩
      dsimp only at hi hl hy hd hc
      simp only [m_level_worked_b3]
      refine M.o_t (by simp; omega) ?_
      refine M.o_bind (fill_out hN (a := (i0 : Int)) (by omega) hl hy ?_) ?_
      · intro v h0 h1
        have := hc i0 v.toNat (Nat.le_refl _) (by omega) (by omega)
        unfold rw_
        rw [Int.toNat_natCast, this]
        by_cases e : v = (i0 : Int)
        · rw [if_pos e, if_pos (by omega)]
        · rw [if_neg e, if_neg (by omega)]
      · rintro ⟨q, q2⟩ ⟨hF, hC⟩
        refine M.o_grd (gA2 (by omega) (by omega)) (M.o_pure ⟨rfl, hF.lc, hF.lb, fun a h => ?_, fun a j h1 h2 h3 => ?_⟩)
        · by_cases e : a = i0
          · subst e; exact ⟨hF.bf, hC, hF.bo⟩
          · refine (hd a (by omega)).congr hN (by omega) (fun v h0 h1 => ?_) (fun v h0 h1 => ?_)
            · have := (hF.oth (a * 13 + v.toNat) (by rw [Int.toNat_natCast]; omega)).1
              unfold rw_; rw [Int.toNat_natCast]; exact this
            · have := (hF.oth (a * 13 + v.toNat) (by rw [Int.toNat_natCast]; omega)).2
              unfold rb_; rw [Int.toNat_natCast]; exact this
        · have := (hF.oth (a * 13 + j) (by rw [Int.toNat_natCast]; omega)).1
          dsimp only
          rw [this]
          exact hc a j (by omega) h2 h3
    · rintro ⟨c, y, i0⟩ ⟨rfl, hl, hy, hd, hc⟩
      simp only [m_level_worked_b3]
      refine M.o_f (by simp; omega) (M.o_pure ⟨hl, hy, fun a h0 h1 => ?_⟩)
      have := hd a.toNat (by omega)
      rwa [Int.toNat_of_nonneg h0] at this
theorem open_out (hN : NetOk n ls) {can : List Int} {by_ : List Leg} (hW : Wkd ls n can by_) : (m_level_survey_open n ls can by_).Out (fun b => b = true ↔ ¬ Agr ls) := by
  have hm := hN.marks
  have leg : ∀ (m i : Nat) (b : Bool), i < ls.length → sOf ls ⟨i, b⟩ = (m : Int) → (m_level_survey_open_b5 n ls can m () ⟨i, b⟩).Out (fun r => match r with | .inl _ => ∀ a, 0 ≤ a → a < n → ¬ Rx ls can a ⟨i, b⟩ | .inr _ => ∃ a, (0 ≤ a ∧ a < n) ∧ Rx ls can a ⟨i, b⟩) := by
    intro m i b hi hs
    have hx : LegOk ls ⟨i, b⟩ := ij hi
    have hr := hx.ed.rng hN.rng
    have hc := hN.ed _ _ _ hx.ed
    simp only [m_level_survey_open_b5]
    refine M.o_bind (P := fun y => match y with | .inl _ => ∃ a, (0 ≤ a ∧ a < n) ∧ Rx ls can a ⟨i, b⟩ | .inr _ => ∀ a, 0 ≤ a → a < n → ¬ Rx ls can a ⟨i, b⟩) ?_ (fun y hy => by rcases y with y | y <;> exact M.o_pure hy)
    refine M.o_for (Int.toNat n) (fun k s => s = k ∧ ∀ a : Nat, a < k → ¬ Rx ls can a ⟨i, b⟩) ?_ ?_ (s := 0) ⟨rfl, fun a h => by omega⟩
    · rintro k s hk ⟨rfl, hJ⟩
      have e0 : rw_ can s (sOf ls ⟨i, b⟩) = can.getD (s * 13 + m) 0 := by rw [hs]; exact rw_nat can s m
      have e1 : rw_ can s (gOf ls ⟨i, b⟩) = can.getD (s * 13 + Int.toNat (gOf ls ⟨i, b⟩)) 0 := by unfold rw_; rw [Int.toNat_natCast]
      have hlo := (hW.row s (by omega) (by omega)).bf.low (sOf ls ⟨i, b⟩) hr.1.1 hr.1.2
      rw [e0] at hlo
      simp only [m_level_survey_open_b4]
      refine M.o_t (by simp; omega) (M.o_grd (gA2 (by omega) (by omega)) (M.o_grd (gA2 (by omega) (by omega)) ?_))
      by_cases hd : can.getD (s * 13 + m) 0 < 1099511627776
      · have hd' : decide (can.getD (s * 13 + m) 0 < 1099511627776) = true := decide_eq_true hd
        rw [hd']
        refine M.o_bindE (a := rOf ls ⟨i, b⟩) (M.i_opt (fun _ => rise_ends hN hx) (fun h => by cases h)) (M.o_grd (gOr2 (by omega) (by omega)) (M.o_bindE (a := gOf ls ⟨i, b⟩) (M.i_opt (fun _ => goal_ends hx) (fun h => by cases h)) (M.o_grd (gOr2 (by omega) (by omega)) ?_)))
        by_cases h2 : can.getD (s * 13 + m) 0 + rOf ls ⟨i, b⟩ < can.getD (s * 13 + Int.toNat (gOf ls ⟨i, b⟩)) 0
        · exact M.o_t (by rw [Bool.true_and]; exact decide_eq_true h2) (M.o_pure ⟨s, by omega, by unfold Rx; rw [e0, e1]; exact ⟨hd, h2⟩⟩)
        · refine M.o_f (by rw [Bool.true_and]; exact decide_eq_false h2) (M.o_grd (gA2 (by omega) (by omega)) (M.o_pure ⟨rfl, fun a h => ?_⟩))
          by_cases e : a = s
          · rw [e]; unfold Rx; rw [e0, e1]; exact fun h => h2 h.2
          · exact hJ a (by omega)
      · have hd' : decide (can.getD (s * 13 + m) 0 < 1099511627776) = false := decide_eq_false hd
        rw [hd']
        refine M.o_bindE (a := 0) (M.i_opt (fun h => by cases h) (fun _ => rfl)) (M.o_grd (by simp) (M.o_bindE (a := 0) (M.i_opt (fun h => by cases h) (fun _ => rfl)) (M.o_grd (by simp) ?_)))
        refine M.o_f (by simp) (M.o_grd (gA2 (by omega) (by omega)) (M.o_pure ⟨rfl, fun a h => ?_⟩))
        by_cases e : a = s
        · rw [e]; unfold Rx; rw [e0]; exact fun h => hd h.1
        · exact hJ a (by omega)
    · rintro s ⟨rfl, hJ⟩
      simp only [m_level_survey_open_b4]
      refine M.o_f (by simp; omega) (M.o_pure fun a h0 h1 => ?_)
      have := hJ a.toNat (by omega)
      rwa [Int.toNat_of_nonneg h0] at this
  have no_of : (∃ x, LegOk ls x ∧ ∃ a, (0 ≤ a ∧ a < n) ∧ Rx ls can a x) → ¬ Agr ls := by
    rintro ⟨x, hx, a, ha, hR⟩ hA
    exact hW.agr_no hN hA ha hx hR
  unfold m_level_survey_open
  refine M.o_bind (P := fun y => match y with | .inl _ => ¬ Agr ls | .inr _ => Agr ls) ?_ (fun y hy => by
    rcases y with y | y
    · exact M.o_pure ⟨fun _ => hy, fun _ => rfl⟩
    · exact M.o_pure ⟨fun h => (by cases h), fun h => absurd hy h⟩)
  refine M.o_for (Int.toNat n) (fun m s => s = m ∧ (∀ i b, i < ls.length → sOf ls ⟨i, b⟩ < (m : Int) → ∀ a, 0 ≤ a → a < n → ¬ Rx ls can a ⟨i, b⟩) ∧ ∀ a : Nat, a < m → ¬ rw_ can a a < 0) ?_ ?_ (s := 0) ⟨rfl, fun i b hi h => by have := ((ij (k := b) hi).ed.rng hN.rng).1; omega, fun a h => by omega⟩
  · rintro m s hmn ⟨rfl, h1, h2⟩
    simp only [m_level_survey_open_b6]
    refine M.o_t (by simp; omega) (M.o_bindE (a := (s : Int)) M.i_pure ?_)
    refine M.o_bind (legs_out (m := (s : Int)) (fun idx _ => ∀ i b, i < ls.length → sOf ls ⟨i, b⟩ = (s : Int) → 2 * i + b.toNat < idx → ∀ a, 0 ≤ a → a < n → ¬ Rx ls can a ⟨i, b⟩) (fun _ => ¬ Agr ls) ?_ ?_ (s := ()) (fun i b _ _ h => by omega)) ?_
    · intro i b _ hi hs hJ
      refine M.o_mono (leg s i b hi hs) ?_
      rintro (x | x) hx
      · intro i' b' hi' hs' hlt
        by_cases e : 2 * i' + b'.toNat < 2 * i + b.toNat
        · exact hJ i' b' hi' hs' e
        · have hb2 : b.toNat ≤ 1 := by cases b <;> decide
          have hb3 : b'.toNat ≤ 1 := by cases b' <;> decide
          have e1 : i' = i := by omega
          subst e1
          have e2 : b' = b := by
            have : b'.toNat = b.toNat := by omega
            cases b <;> cases b' <;> simp_all
          subst e2
          exact hx
      · exact no_of ⟨_, ij hi, hx⟩
    · intro i b _ hi hs hJ i' b' hi' hs' hlt
      refine hJ i' b' hi' hs' ?_
      have hb2 : b.toNat ≤ 1 := by cases b <;> decide
      have hb3 : b'.toNat ≤ 1 := by cases b' <;> decide
      rcases Nat.lt_or_ge (2 * i' + b'.toNat) (2 * i + b.toNat) with h | h
      · exact h
      · exfalso
        have e1 : i' = i := by omega
        subst e1
        have e2 : b' = b := by
          have : b'.toNat = b.toNat := by omega
          cases b <;> cases b' <;> simp_all
        subst e2
        exact hs hs'
    · rintro (x | x) hx
      · refine M.o_grd (gA2 (by omega) (by omega)) ?_
        by_cases hd : rw_ can s s < 0
        · refine M.o_t (decide_eq_true (by rw [← rw_nat]; exact hd)) (M.o_pure fun hA => ?_)
          have := hW.agr_zero hN hA (a := (s : Int)) (by omega)
          omega
        · refine M.o_f (decide_eq_false (by rw [← rw_nat]; exact hd)) (M.o_grd (gA2 (by omega) (by omega)) (M.o_pure ⟨rfl, fun i b hi h => ?_, fun a h => ?_⟩))
          · by_cases e : sOf ls ⟨i, b⟩ < (s : Int)
            · exact h1 i b hi e
            · have hb2 : b.toNat ≤ 1 := by cases b <;> decide
              exact hx i b hi (by omega) (by omega)
          · by_cases e : a = s
            · rw [e]; exact hd
            · exact h2 a (by omega)
      · exact M.o_pure hx
  · rintro s ⟨rfl, h1, h2⟩
    simp only [m_level_survey_open_b6]
    refine M.o_f (by simp; omega) (M.o_pure ?_)
    obtain ⟨f, _, hF⟩ := hW.agr_of hN (fun a h0 h3 x hx => by
      obtain ⟨l, k⟩ := x
      have hx' := hx
      obtain ⟨l0, l1⟩ := hx
      dsimp only at l0 l1
      have e : l = ((l.toNat : Nat) : Int) := by omega
      rw [e] at hx' ⊢
      exact h1 l.toNat k (by omega) (by have := (hx'.ed.rng hN.rng).1; omega) a h0 h3) (fun a h0 h3 => by
      have := h2 a.toNat (by omega)
      rwa [Int.toNat_of_nonneg h0] at this)
    exact ⟨_, hF⟩
end Go.Proofs.Ytclhljenjphofaa
namespace Go.Nm
/-- A line, as it may be in a net. -/
def okLine (n : Int) (l : Line) : Bool := (((((decide (0 ≤ l.src) && decide (l.src ≤ n - 1)) && (decide (0 ≤ l.dst) && decide (l.dst ≤ n - 1))) && (l.src != l.dst)) && (decide (0 ≤ l.day) && decide (l.day ≤ 40000))) && (decide (-1000000 ≤ l.rise) && decide (l.rise ≤ 1000000))) && (decide (0 ≤ l.err) && decide (l.err ≤ 10000))
def chkE (n : Int) (ls : List Line) : Int := bif (!(decide (1 ≤ n) && decide (n ≤ 12))) || decide (30 < (ls.length : Int)) then 3 else bif !(ls.all (okLine n)) then 20 else 0
theorem okLine_iff {n : Int} {l : Line} : okLine n l = true ↔ ((((((0 ≤ l.src ∧ l.src ≤ n - 1) ∧ (0 ≤ l.dst ∧ l.dst ≤ n - 1)) ∧ l.src ≠ l.dst) ∧ (0 ≤ l.day ∧ l.day ≤ 40000)) ∧ (-1000000 ≤ l.rise ∧ l.rise ≤ 1000000)) ∧ (0 ≤ l.err ∧ l.err ≤ 10000)) := by
  unfold okLine
  simp only [Bool.and_eq_true, decide_eq_true_eq, bne_iff_ne, ne_eq]
theorem chk_ok {n : Int} {ls : List Line} : chkE n ls = 0 ↔ NetOk n ls := by
  unfold chkE
  cases h1 : (!(decide (1 ≤ n) && decide (n ≤ 12))) || decide (30 < (ls.length : Int)) with
  | true =>
    simp only [Bool.or_eq_true, Bool.not_eq_true', Bool.and_eq_false_iff, decide_eq_false_iff_not, decide_eq_true_eq] at h1
    refine ⟨fun h => by simp at h, fun h => ?_⟩
    have := h.marks
    have := h.few
    omega
  | false =>
    simp only [Bool.or_eq_false_iff, Bool.not_eq_false', Bool.and_eq_true, decide_eq_false_iff_not, decide_eq_true_eq] at h1
    cases h2 : ls.all (okLine n) with
    | true =>
      rw [List.all_eq_true] at h2
      have h3 := fun l hl => okLine_iff.1 (h2 l hl)
      exact ⟨fun _ => ⟨h1.1, by omega, fun l hl => by have := h3 l hl; omega, fun l hl => (h3 l hl).1.1.1.2, fun l hl => (h3 l hl).1.1.2, fun l hl => (h3 l hl).1.2, fun l hl => (h3 l hl).2⟩, fun _ => rfl⟩
    | false =>
      rw [List.all_eq_false] at h2
      obtain ⟨l, hl, h3⟩ := h2
      refine ⟨fun h => by simp at h, fun h => absurd (okLine_iff.2 ?_) h3⟩
      have := h.rng l hl
      exact ⟨⟨⟨⟨⟨⟨this.1.1, by omega⟩, ⟨this.2.1, by omega⟩⟩, h.ne l hl⟩, h.day l hl⟩, h.rise l hl⟩, h.err l hl⟩
/-- What is said of two marks. -/
structure Btw (ls : List Line) (a b : Int) (r : Int × Int × Int) : Prop where
  no : ¬ Agr ls → r = (0, 0, 7)
  far : Agr ls → ¬ Tied ls a b → r = (0, 0, 5)
  yes : Agr ls → Tied ls a b → r.2.2 = 0 ∧ IsDist ls a b r.2.1 ∧ IsDist ls b a (-r.1)
end Go.Nm
namespace Go.Proofs.Ytclhljenjphofaa
open Go Go.Nm
variable {ls : List Line} {n a : Int}
theorem in_ends (x lo hi : Int) : (m_level_in x lo hi).Ends (decide (lo ≤ x) && decide (x ≤ hi)) := M.i_pure
theorem index_line {f : Line → M Bool} {q : Line → Bool} (h : ∀ x, x ∈ ls → (f x).Ends (q x)) : (m_slices_IndexFunc_level_Line ls f).Out (fun r => decide (0 ≤ r) = ls.any q) := by
  unfold m_slices_IndexFunc_level_Line
  refine M.o_bind (P := fun y => match y with | .inl r => decide (0 ≤ r) = ls.any q | .inr _ => ls.any q = false) ?_ (fun y hy => by
    rcases y with y | y
    · exact M.o_pure hy
    · exact M.o_pure (by rw [hy]; rfl))
  refine M.o_for ls.length (fun i s => s = i ∧ (ls.take i).any q = false) ?_ ?_ (s := 0) ⟨rfl, by simp⟩
  · rintro i s hi ⟨rfl, hJ⟩
    simp only [m_slices_IndexFunc_level_Line_b0]
    refine M.o_t (by simpa using hi) (M.o_grd (by simpa using hi) (M.o_bindE (h (ls.getD s default) (by rw [getD_el ls hi]; exact List.getElem_mem hi)) (M.o_if (fun hb => ?_) (fun hb => ?_))))
    · refine M.o_pure ?_
      dsimp only
      rw [show ls.any q = true from List.any_eq_true.2 ⟨_, by rw [getD_el ls hi]; exact List.getElem_mem hi, hb⟩]
      exact decide_eq_true (by omega)
    · refine M.o_pure ⟨rfl, ?_⟩
      rw [← take_succ_D ls s hi default, List.any_append, hJ]
      simp only [List.any_cons, List.any_nil, Bool.or_false, Bool.false_or]
      exact hb
  · rintro s ⟨rfl, hJ⟩
    simp only [m_slices_IndexFunc_level_Line_b0]
    rw [List.take_length] at hJ
    exact M.o_f (by simp) (M.o_pure hJ)
theorem every_line {so : Line → M Bool} {p : Line → Bool} (h : ∀ x, x ∈ ls → (so x).Ends (p x)) : (m_level_every_level_Line ls so).Ends (ls.all p) := by
  unfold m_level_every_level_Line m_slices_ContainsFunc_level_Line
  obtain ⟨r, h1, h2⟩ := index_line (ls := ls) (f := fun x => m_level_every_level_Line__1 x so) (q := fun x => !(p x)) (fun x hx => by unfold m_level_every_level_Line__1; exact M.i_bind (h x hx) M.i_pure)
  refine M.i_bind (M.i_bind h1 M.i_pure) ?_
  rw [h2, List.any_eq_not_all_not]
  simp only [Bool.not_not]
  exact M.i_pure
theorem check_ends (n : Int) (ls : List Line) : (m_level_Check n ls).Ends (chkE n ls) := by
  unfold m_level_Check chkE
  refine M.i_bind (in_ends _ _ _) (M.i_if (fun hb => ?_) (fun hb => ?_))
  · rw [hb]; exact M.i_pure
  · rw [hb]
    simp only [Bool.or_eq_false_iff, Bool.not_eq_false', Bool.and_eq_true, decide_eq_false_iff_not, decide_eq_true_eq] at hb
    refine M.i_bind (every_line (p := okLine n) fun l _ => ?_) (M.i_if (fun h2 => by rw [h2]; exact M.i_pure) (fun h2 => by rw [h2]; exact M.i_pure))
    have mk : ∀ x : Int, (m_level_Check_1 x n ls).Ends (decide (0 ≤ x) && decide (x ≤ n - 1)) := fun x => by
      unfold m_level_Check_1
      exact M.i_grd (gA2 (by omega) (by omega)) (M.i_bind (in_ends _ _ _) M.i_pure)
    unfold m_level_Check_2
    have opt : ∀ {c : Bool} {m : M Bool} {b : Bool}, m.Ends b → (M.opt c m false).Ends (c && b) := fun {c m b} h => M.i_opt (fun e => by rw [e, Bool.true_and]; exact h) (fun e => by rw [e]; rfl)
    refine M.i_bind (mk l.src) (M.i_bind (opt (mk l.dst)) (M.i_bind (opt (in_ends _ _ _)) (M.i_bind (opt (in_ends _ _ _)) (M.i_bind (opt (in_ends _ _ _)) ?_))))
    have e : okLine n l = _ := rfl
    unfold okLine
    generalize (decide (0 ≤ l.src) && decide (l.src ≤ n - 1)) = b1
    generalize (decide (0 ≤ l.dst) && decide (l.dst ≤ n - 1)) = b2
    generalize (l.src != l.dst) = b3
    generalize (decide (0 ≤ l.day) && decide (l.day ≤ 40000)) = b4
    generalize (decide (-1000000 ≤ l.rise) && decide (l.rise ≤ 1000000)) = b5
    generalize (decide (0 ≤ l.err) && decide (l.err ≤ 10000)) = b6
    cases b1 <;> cases b2 <;> cases b3 <;> cases b4 <;> cases b5 <;> cases b6 <;> exact M.i_pure
theorem opened_out (hN : NetOk n ls) : (m_level_opened n ls).Out (fun y => ∃ can by_, y = .inr (n, can, by_, 0) ∧ Wkd ls n can by_) := by
  unfold m_level_opened
  refine M.o_bindE (check_ends n ls) ?_
  rw [chk_ok.2 hN]
  refine M.o_f (by decide) (M.o_bind (worked_out hN) ?_)
  rintro ⟨r0, c, b⟩ ⟨rfl, hW⟩
  exact M.o_pure ⟨c, b, rfl, hW⟩
theorem agrees_out (hN : NetOk n ls) : (m_level_Agrees n ls).Out (fun r => r.2 = 0 ∧ (r.1 = true ↔ Agr ls)) := by
  unfold m_level_Agrees
  refine M.o_bind (opened_out hN) ?_
  rintro y ⟨c, b, rfl, hW⟩
  dsimp only
  refine M.o_f (by decide) (M.o_bind (open_out hN hW) ?_)
  intro r hr
  refine M.o_pure ⟨rfl, ?_⟩
  dsimp only
  rw [Bool.not_eq_true']
  constructor
  · intro h
    refine Classical.byContradiction fun hc => ?_
    rw [hr.2 hc] at h
    cases h
  · intro h
    cases hc : r with
    | false => rfl
    | true => exact absurd h (hr.1 hc)
end Go.Proofs.Ytclhljenjphofaa
namespace Go.Nm
variable {ls : List Line} {N : Nat}
/-- Where the rounds stand: all before (a, b) of round k are done. -/
structure Rd3 (N : Nat) (ls : List Line) (T0 : Nat → Nat → Int) (k a b : Nat) (l : List (List Int)) : Prop where
  sq : Sq N l
  lo : ∀ x y, x < N → y < N → -1000000000000 ≤ tb l x y ∧ tb l x y ≤ 1000000000000
  dg : ∀ x, x < N → tb l x x ≤ 0
  sd : ∀ h, Feas ls h → ∀ x y : Nat, x < N → y < N → tb l x y < 1000000000000 → h y - h x ≤ tb l x y
  go : (∃ x, x < N ∧ tb l x x < 0) ∨ ∃ T, RT N k T0 T ∧ (k < N → 0 ≤ T k k) ∧ ∀ x y, x < N → y < N → tb l x y = if x < a ∨ (x = a ∧ y < b) then FT k T x y else T x y
theorem Rd3.up {T0 : Nat → Nat → Int} {k a b : Nat} {l : List (List Int)} (h : Rd3 N ls T0 k a b l) (hN : N ≤ 12) (hk : k < N) (ha : a < N) (hb : b < N) : Rd3 N ls T0 k a (b + 1) (up k a b l) := by
  have t := fun i j => tb_up (k := k) h.sq ha hb i j
  have b1 := h.lo a b ha hb
  have b2 := h.lo a k ha hk
  have b3 := h.lo k b hk hb
  refine ⟨up_sq h.sq ha, fun x y hx hy => ?_, fun x hx => ?_, fun f hf x y hx hy => ?_, ?_⟩
  · rw [t]
    have := h.lo x y hx hy
    split <;> omega
  · rw [t]
    have := h.dg x hx
    split
    · rename_i c
      obtain ⟨rfl, rfl, -⟩ := c
      omega
    · exact this
  · rw [t]
    split
    · rename_i c
      obtain ⟨rfl, rfl, c1, c2⟩ := c
      have e1 := h.sd f hf x k hx hk c1
      have e2 := h.sd f hf k y hk hy c2
      have e3 := h.sd f hf x y hx hy
      intro hlt
      omega
    · exact h.sd f hf x y hx hy
  · rcases h.go with ⟨x, hx, hn⟩ | ⟨T, hT, hp, hE⟩
    · refine .inl ⟨x, hx, ?_⟩
      rw [t]
      have := h.lo x x hx hx
      split
      · rename_i c
        obtain ⟨rfl, rfl, -⟩ := c
        omega
      · exact hn
    · have hp := hp hk
      refine .inr ⟨T, hT, fun _ => hp, fun x y hx hy => ?_⟩
      have e1 : tb l a k = T a k := by
        rw [hE a k ha hk]
        split
        · exact FT_col hp
        · rfl
      have e2 : tb l k b = T k b := by
        rw [hE k b hk hb]
        split
        · exact FT_row hp
        · rfl
      have e3 : tb l a b = T a b := by
        rw [hE a b ha hb, if_neg (by omega)]
      have hn := (hT.next hk hN hp).lo a b ha hb
      have hbd := bd_le (k + 1) (by omega)
      rw [t, e1, e2, e3]
      by_cases c : x = a ∧ y = b
      · obtain ⟨rfl, rfl⟩ := c
        rw [if_pos (show x < x ∨ (x = x ∧ y < y + 1) by omega)]
        by_cases c2 : T x k < 1000000000000 ∧ T k y < 1000000000000
        · rw [if_pos ⟨rfl, rfl, c2⟩]
          unfold FT at hn ⊢
          rw [if_pos c2] at hn ⊢
          omega
        · rw [if_neg (fun h => c2 h.2.2), e3]
          unfold FT
          rw [if_neg c2]
      · rw [if_neg (fun h => c ⟨h.1, h.2.1⟩), hE x y hx hy]
        by_cases c3 : x < a ∨ (x = a ∧ y < b)
        · rw [if_pos c3, if_pos (by omega)]
        · rw [if_neg c3, if_neg (by omega)]
theorem Rd3.row {T0 : Nat → Nat → Int} {k a : Nat} {l : List (List Int)} (h : Rd3 N ls T0 k a N l) : Rd3 N ls T0 k (a + 1) 0 l := by
  refine ⟨h.sq, h.lo, h.dg, h.sd, ?_⟩
  rcases h.go with g | ⟨T, hT, hp, hE⟩
  · exact .inl g
  · refine .inr ⟨T, hT, hp, fun x y hx hy => ?_⟩
    rw [hE x y hx hy]
    by_cases c : x < a ∨ (x = a ∧ y < N)
    · rw [if_pos c, if_pos (by omega)]
    · rw [if_neg c, if_neg (by omega)]
theorem Rd3.rnd {T0 : Nat → Nat → Int} {k : Nat} {l : List (List Int)} (h : Rd3 N ls T0 k N 0 l) (hN : N ≤ 12) (hk : k < N) : Rd3 N ls T0 (k + 1) 0 0 l := by
  refine ⟨h.sq, h.lo, h.dg, h.sd, ?_⟩
  rcases h.go with g | ⟨T, hT, hp, hE⟩
  · exact .inl g
  · have hE' : ∀ x y, x < N → y < N → tb l x y = FT k T x y := fun x y hx hy => by rw [hE x y hx hy, if_pos (by omega)]
    by_cases c : k + 1 < N ∧ FT k T (k + 1) (k + 1) < 0
    · exact .inl ⟨k + 1, c.1, by rw [hE' _ _ c.1 c.1]; exact c.2⟩
    · refine .inr ⟨FT k T, hT.next hk hN (hp hk), fun h1 => by omega, fun x y hx hy => ?_⟩
      rw [hE' x y hx hy, if_neg (by omega)]
/-- The table at the start. -/
structure Ini (N : Nat) (ls : List Line) (T : Nat → Nat → Int) : Prop where
  le : ∀ (a b : Nat) c, a < N → b < N → Ed ls a b c → T a b ≤ c
  ex : ∀ a b : Nat, a < N → b < N → T a b = 1000000000000 ∨ (a = b ∧ T a b = 0) ∨ Ed ls a b (T a b)
  dg : ∀ a, a < N → T a a = 0
theorem Rd3.start (hN : NetOk N ls) {T : Nat → Nat → Int} (h : Ini N ls T) {l : List (List Int)} (hs : Sq N l) (he : ∀ a b, a < N → b < N → tb l a b = T a b) : Rd3 N ls T 0 0 0 l := by
  have rng : ∀ a b : Nat, a < N → b < N → -1010000 ≤ T a b ∧ (T a b = 1000000000000 ∨ T a b ≤ 1010000) := fun a b ha hb => by
    rcases h.ex a b ha hb with h1 | ⟨-, h1⟩ | h1
    · omega
    · omega
    · have := hN.ed _ _ _ h1; omega
  refine ⟨hs, fun x y hx hy => ?_, fun x hx => ?_, fun f hf x y hx hy hlt => ?_, .inr ⟨T, ⟨fun a b ha hb => (rng a b ha hb).1, fun a b ha hb => (rng a b ha hb).2, fun a b j _ _ _ hj => by omega, fun a b _ _ => Int.le_refl _⟩, fun h0 => ?_, fun x y hx hy => ?_⟩⟩
  · rw [he x y hx hy]; have := rng x y hx hy; omega
  · rw [he x x hx hx, h.dg x hx]; exact Int.le_refl _
  · rw [he x y hx hy] at hlt ⊢
    rcases h.ex x y hx hy with h1 | ⟨rfl, h1⟩ | h1
    · omega
    · omega
    · exact hf.ed h1
  · rw [h.dg 0 h0]; exact Int.le_refl _
  · rw [he x y hx hy, if_neg (by omega)]
end Go.Nm
namespace Go.Proofs.Ytclhljenjphofaa
open Go Go.Nm
variable {ls : List Line} {n : Int} {N : Nat}
theorem ref_check (n : Int) (ls : List Line) (hl : ls.length ≤ 1000000) : (m_nilometerref01_Check n ls).Ends (chkE n ls) := by
  have out : ∀ x lo hi, (m_nilometerref01_outside x lo hi).Ends (!(decide (lo ≤ x) && decide (x ≤ hi))) := fun x lo hi => by
    unfold m_nilometerref01_outside
    have e : (decide (x < lo) || decide (hi < x)) = !(decide (lo ≤ x) && decide (x ≤ hi)) := by
      by_cases h1 : lo ≤ x <;> by_cases h2 : x ≤ hi <;> simp [h1, h2] <;> omega
    rw [← e]
    exact M.i_pure
  unfold m_nilometerref01_Check chkE
  have e0 : ((decide (n < 1)) || (decide (12 < n)) || (decide (30 < (ls.length : Int)))) = ((!(decide (1 ≤ n) && decide (n ≤ 12))) || decide (30 < (ls.length : Int))) := by
    congr 1
    by_cases h1 : 1 ≤ n <;> by_cases h2 : n ≤ 12 <;> simp [h1, h2] <;> omega
  rw [e0]
  refine M.i_if (fun hb => by rw [hb]; exact M.i_pure) (fun hb => ?_)
  rw [hb]
  simp only [Bool.or_eq_false_iff, Bool.not_eq_false', Bool.and_eq_true, decide_eq_false_iff_not, decide_eq_true_eq] at hb
  have o : (M.iter (m_nilometerref01_Check_b0 n ls) 0).Out (fun y => match y with | .inl _ => ls.all (okLine n) = false | .inr _ => ls.all (okLine n) = true) := by
    refine M.o_for ls.length (fun i s => s = i ∧ (ls.take i).all (okLine n) = true) ?_ ?_ ⟨rfl, by simp⟩
    · rintro i s hi ⟨rfl, hJ⟩
      simp only [m_nilometerref01_Check_b0]
      have hm : ls.getD s default ∈ ls := by rw [getD_el ls hi]; exact List.getElem_mem hi
      refine M.o_t (by simpa using hi) (M.o_grd (by simpa using hi) (M.o_grd (gA2 (by omega) (by omega)) ?_))
      generalize hl : ls.getD s default = l at *
      have opt : ∀ {c : Bool} {x lo hi : Int}, (M.opt c (m_nilometerref01_outside x lo hi) false).Ends (c && !(decide (lo ≤ x) && decide (x ≤ hi))) := fun {c x lo hi} => M.i_opt (fun e => by rw [e, Bool.true_and]; exact out _ _ _) (fun e => by rw [e]; rfl)
      refine M.o_bindE (out _ _ _) (M.o_bindE opt (M.o_bindE opt (M.o_bindE opt (M.o_bindE opt ?_))))
      have e : okLine n l = ((((((decide (0 ≤ l.src) && decide (l.src ≤ n - 1)) && (decide (0 ≤ l.dst) && decide (l.dst ≤ n - 1))) && (!(l.src == l.dst))) && (decide (0 ≤ l.day) && decide (l.day ≤ 40000))) && (decide (-1000000 ≤ l.rise) && decide (l.rise ≤ 1000000))) && (decide (0 ≤ l.err) && decide (l.err ≤ 10000))) := rfl
      generalize (decide (0 ≤ l.src) && decide (l.src ≤ n - 1)) = b1 at *
      generalize (decide (0 ≤ l.dst) && decide (l.dst ≤ n - 1)) = b2 at *
      generalize (l.src == l.dst) = b3 at *
      generalize (decide (0 ≤ l.day) && decide (l.day ≤ 40000)) = b4 at *
      generalize (decide (-1000000 ≤ l.rise) && decide (l.rise ≤ 1000000)) = b5 at *
      generalize (decide (0 ≤ l.err) && decide (l.err ≤ 10000)) = b6 at *
      refine M.o_if (fun hb => M.o_pure ?_) (fun hb => M.o_pure ⟨rfl, ?_⟩)
      · refine List.all_eq_false.2 ⟨l, hm, ?_⟩
        rw [e]
        cases b1 <;> cases b2 <;> cases b3 <;> cases b4 <;> cases b5 <;> cases b6 <;> simp at hb ⊢
      · rw [← take_succ_D ls s hi default, List.all_append, hJ, hl]
        simp only [List.all_cons, List.all_nil, Bool.and_true, Bool.true_and]
        rw [e]
        cases b1 <;> cases b2 <;> cases b3 <;> cases b4 <;> cases b5 <;> cases b6 <;> simp at hb ⊢
    · rintro s ⟨rfl, hJ⟩
      rw [List.take_length] at hJ
      simp only [m_nilometerref01_Check_b0]
      exact M.o_f (by simp) (M.o_pure hJ)
  obtain ⟨y, h1, h2⟩ := o
  refine M.i_bind h1 ?_
  rcases y with u | u
  · dsimp only at h2 ⊢
    rw [h2]; exact M.i_pure
  · dsimp only at h2 ⊢
    rw [h2]; exact M.i_pure
/-- The least of a start and of all lines between two marks. -/
theorem most_out (hN : NetOk n ls) (a b : Nat) {z : Int} (hz : -1000000000000 ≤ z ∧ z ≤ 1000000000000) {body : (Int × Nat) → M ((Int × Nat) ⊕ Int)} (hbody : body = m_nilometerref01_table_b19 ls a b ∨ body = m_nilometerref01_table_b18 ls a b) :
    (M.iter body (z, 0)).Out (fun r => (∀ c, Ed ls a b c → r ≤ c) ∧ (r = z ∨ Ed ls a b r) ∧ r ≤ z) := by
  have same : m_nilometerref01_table_b18 ls a b = m_nilometerref01_table_b19 ls a b := rfl
  have hbody : body = m_nilometerref01_table_b19 ls a b := by rcases hbody with h | h; exact h; exact h.trans same
  subst hbody
  refine M.o_for ls.length (fun i st => st.2 = i ∧ (∀ j : Nat, j < i → ∀ c, Ed [ls.getD j default] a b c → st.1 ≤ c) ∧ (st.1 = z ∨ Ed ls a b st.1) ∧ st.1 ≤ z) ?_ ?_ (s := (z, 0)) ⟨rfl, fun j hj => by omega, .inl rfl, Int.le_refl _⟩
  · rintro i ⟨m, s⟩ hi ⟨e, h1, h2, h3⟩
    dsimp only at hi h1 h2 h3 e
    subst e
    have hm : ls.getD s default ∈ ls := by rw [getD_el ls hi]; exact List.getElem_mem hi
    have hr := hN.rise _ hm
    have he := hN.err _ hm
    have hne := hN.ne _ hm
    simp only [m_nilometerref01_table_b19]
    refine M.o_t (by simpa using hi) (M.o_grd (by simpa using hi) ?_)
    generalize hl : ls.getD s default = l at *
    have fin : ∀ m' : Int, m' ≤ m → (∀ c, Ed [l] (a : Int) b c → m' ≤ c) → (m' = m ∨ Ed ls a b m') → (∀ j : Nat, j < s + 1 → ∀ c, Ed [ls.getD j default] (a : Int) b c → m' ≤ c) ∧ (m' = z ∨ Ed ls a b m') ∧ m' ≤ z := by
      intro m' g1 g2 g3
      refine ⟨fun j hj c hc => ?_, ?_, by omega⟩
      · by_cases e : j = s
        · rw [e, hl] at hc; exact g2 c hc
        · have := h1 j (by omega) c hc; omega
      · rcases g3 with g3 | g3
        · rw [g3]; exact h2
        · exact .inr g3
    refine M.o_if (fun c1 => ?_) (fun c1 => ?_)
    · simp only [Bool.and_eq_true, beq_iff_eq] at c1
      refine M.o_grd (gA2 (by omega) (by omega)) (M.o_f ?_ (M.o_pure ⟨rfl, fin _ (by omega) ?_ ?_⟩))
      · rw [Bool.and_eq_false_iff, beq_eq_false_iff_ne, beq_eq_false_iff_ne]
        by_cases e : l.src = (b : Int)
        · exact .inr (fun e2 => hne (by omega))
        · exact .inl e
      · rintro c ⟨l', hl', ⟨e1, e2, rfl⟩ | ⟨e1, e2, rfl⟩⟩
        · obtain rfl : l' = l := by simpa using hl'
          omega
        · obtain rfl : l' = l := by simpa using hl'
          omega
      · by_cases e : m ≤ l.rise + l.err
        · exact .inl (by omega)
        · refine .inr ⟨l, hm, .inl ⟨c1.1, c1.2, by omega⟩⟩
    · have c1 : ¬ (l.src = (a : Int) ∧ l.dst = (b : Int)) := fun h => by rw [h.1, h.2] at c1; simp at c1
      refine M.o_if (fun c2 => ?_) (fun c2 => ?_)
      · simp only [Bool.and_eq_true, beq_iff_eq] at c2
        refine M.o_grd (gA2 (by omega) (by omega)) (M.o_pure ⟨rfl, fin _ (by omega) ?_ ?_⟩)
        · rintro c ⟨l', hl', ⟨e1, e2, rfl⟩ | ⟨e1, e2, rfl⟩⟩
          · obtain rfl : l' = l := by simpa using hl'
            omega
          · obtain rfl : l' = l := by simpa using hl'
            omega
        · by_cases e : m ≤ l.err - l.rise
          · exact .inl (by omega)
          · refine .inr ⟨l, hm, .inr ⟨c2.2, c2.1, by omega⟩⟩
      · have c2 : ¬ (l.src = (b : Int) ∧ l.dst = (a : Int)) := fun h => by rw [h.1, h.2] at c2; simp at c2
        refine M.o_pure ⟨rfl, fin _ (Int.le_refl _) ?_ (.inl rfl)⟩
        rintro c ⟨l', hl', ⟨e1, e2, rfl⟩ | ⟨e1, e2, rfl⟩⟩
        · obtain rfl : l' = l := by simpa using hl'
          exact absurd ⟨e1, e2⟩ c1
        · obtain rfl : l' = l := by simpa using hl'
          exact absurd ⟨e2, e1⟩ c2
  · rintro ⟨m, s⟩ ⟨e, h1, h2, h3⟩
    dsimp only at h1 h2 h3 e
    subst e
    simp only [m_nilometerref01_table_b19]
    refine M.o_f (by simp) (M.o_pure ⟨fun c hc => ?_, h2, h3⟩)
    obtain ⟨l, hl, h⟩ := hc
    obtain ⟨j, hj, rfl⟩ := mem_getD hl default
    exact h1 j hj c ⟨_, List.mem_cons_self .., h⟩
theorem no_self (hN : NetOk n ls) {a : Int} {c : Int} (h : Ed ls a a c) : False := by
  obtain ⟨l, hl, ⟨e1, e2, -⟩ | ⟨e1, e2, -⟩⟩ := h
  · exact hN.ne l hl (by omega)
  · exact hN.ne l hl (by omega)
theorem tab0_out (hN : NetOk N ls) : (M.iter (m_nilometerref01_table_b21 N ls) (0, [])).Out (fun y => Sq N y.2 ∧ Ini N ls (tb y.2)) := by
  have hm := hN.marks
  have row : ∀ a : Nat, a < N → (M.iter (m_nilometerref01_table_b20 N ls a) (0, [])).Out (fun y => y.2.length = N ∧ ∀ b : Nat, b < N → (∀ c, Ed ls a b c → y.2.getD b 0 ≤ c) ∧ (y.2.getD b 0 = 1000000000000 ∨ (a = b ∧ y.2.getD b 0 = 0) ∨ Ed ls a b (y.2.getD b 0)) ∧ (a = b → y.2.getD b 0 = 0)) := by
    intro a ha
    refine M.o_for N (fun i st => st.1 = i ∧ st.2.length = i ∧ ∀ b : Nat, b < i → (∀ c, Ed ls a b c → st.2.getD b 0 ≤ c) ∧ (st.2.getD b 0 = 1000000000000 ∨ (a = b ∧ st.2.getD b 0 = 0) ∨ Ed ls a b (st.2.getD b 0)) ∧ (a = b → st.2.getD b 0 = 0)) ?_ ?_ (s := (0, [])) ⟨rfl, rfl, fun b hb => by omega⟩
    · rintro i ⟨s, l⟩ hi ⟨e, hl, hJ⟩
      dsimp only at hi hl hJ e
      subst e
      simp only [m_nilometerref01_table_b20]
      have put : ∀ x : Int, ((∀ c, Ed ls a s c → x ≤ c) ∧ (x = 1000000000000 ∨ (a = s ∧ x = 0) ∨ Ed ls a s x) ∧ (a = s → x = 0)) → ∀ b : Nat, b < s + 1 → (∀ c, Ed ls a b c → (l ++ [x]).getD b 0 ≤ c) ∧ ((l ++ [x]).getD b 0 = 1000000000000 ∨ (a = b ∧ (l ++ [x]).getD b 0 = 0) ∨ Ed ls a b ((l ++ [x]).getD b 0)) ∧ (a = b → (l ++ [x]).getD b 0 = 0) := by
        intro x hx b hb
        by_cases e : b = s
        · have : (l ++ [x]).getD b 0 = x := by rw [e, ← hl]; simp [List.getD_eq_getElem?_getD]
          rw [this, e]
          exact hx
        · have : (l ++ [x]).getD b 0 = l.getD b 0 := by rw [List.getD_eq_getElem?_getD, List.getElem?_append_left (by omega), ← List.getD_eq_getElem?_getD]
          rw [this]
          exact hJ b (by omega)
      refine M.o_t (decide_eq_true (by omega)) (M.o_if (fun c => ?_) (fun c => ?_))
      · have c : a = s := by have := beq_iff_eq.1 c; omega
        refine M.o_bind (most_out hN a s (by omega) (.inr rfl)) ?_
        rintro x ⟨x1, x2, x3⟩
        refine M.o_grdD (by simp only [List.length_cons, List.length_nil]; omega) (M.o_grd (gA2 (by omega) (by omega)) (M.o_pure ⟨rfl, by simp [hl], put x ⟨x1, ?_, fun _ => ?_⟩⟩))
        · rcases x2 with x2 | x2
          · exact .inr (.inl ⟨c, x2⟩)
          · exact .inr (.inr x2)
        · rcases x2 with x2 | x2
          · exact x2
          · rw [c] at x2; exact (no_self hN x2).elim
      · have c : a ≠ s := by have := beq_eq_false_iff_ne.1 c; omega
        refine M.o_bind (most_out hN a s (by omega) (.inl rfl)) ?_
        rintro x ⟨x1, x2, x3⟩
        refine M.o_grdD (by simp only [List.length_cons, List.length_nil]; omega) (M.o_grd (gA2 (by omega) (by omega)) (M.o_pure ⟨rfl, by simp [hl], put x ⟨x1, ?_, fun e => absurd e c⟩⟩))
        rcases x2 with x2 | x2
        · exact .inl x2
        · exact .inr (.inr x2)
    · rintro ⟨s, l⟩ ⟨e, hl, hJ⟩
      dsimp only at hl hJ e
      subst e
      simp only [m_nilometerref01_table_b20]
      exact M.o_f (decide_eq_false (by omega)) (M.o_pure ⟨hl, hJ⟩)
  refine M.o_mono (P := fun y => y.2.length = N ∧ ∀ a : Nat, a < N → (y.2.getD a []).length = N ∧ ∀ b : Nat, b < N → (∀ c, Ed ls a b c → tb y.2 a b ≤ c) ∧ (tb y.2 a b = 1000000000000 ∨ (a = b ∧ tb y.2 a b = 0) ∨ Ed ls a b (tb y.2 a b)) ∧ (a = b → tb y.2 a b = 0)) ?_ (fun y hy => ⟨⟨hy.1, fun a ha => (hy.2 a ha).1⟩, ⟨fun a b c ha hb hc => ((hy.2 a ha).2 b hb).1 c hc, fun a b ha hb => ((hy.2 a ha).2 b hb).2.1, fun a ha => ((hy.2 a ha).2 a ha).2.2 rfl⟩⟩)
  refine M.o_for N (fun i st => st.1 = i ∧ st.2.length = i ∧ ∀ a : Nat, a < i → (st.2.getD a []).length = N ∧ ∀ b : Nat, b < N → (∀ c, Ed ls a b c → tb st.2 a b ≤ c) ∧ (tb st.2 a b = 1000000000000 ∨ (a = b ∧ tb st.2 a b = 0) ∨ Ed ls a b (tb st.2 a b)) ∧ (a = b → tb st.2 a b = 0)) ?_ ?_ (s := (0, [])) ⟨rfl, rfl, fun b hb => by omega⟩
  · rintro i ⟨s, l⟩ hi ⟨e, hl, hJ⟩
    dsimp only at hi hl hJ e
    subst e
    simp only [m_nilometerref01_table_b21]
    refine M.o_t (decide_eq_true (by omega)) (M.o_bind (row s hi) ?_)
    rintro ⟨l2, l3⟩ ⟨r1, r2⟩
    dsimp only at r1 r2 ⊢
    refine M.o_grdD (by omega) (M.o_grd (gA2 (by omega) (by omega)) (M.o_pure ⟨rfl, by simp [hl], fun a ha => ?_⟩))
    dsimp only
    unfold tb
    by_cases e : a = s
    · have : (l ++ [l3]).getD a [] = l3 := by rw [e, ← hl]; simp [List.getD_eq_getElem?_getD]
      rw [this, e]
      exact ⟨r1, r2⟩
    · have : (l ++ [l3]).getD a [] = l.getD a [] := by rw [List.getD_eq_getElem?_getD, List.getElem?_append_left (by omega), ← List.getD_eq_getElem?_getD]
      rw [this]
      exact hJ a (by omega)
  · rintro ⟨s, l⟩ ⟨e, hl, hJ⟩
    dsimp only at hl hJ e
    subst e
    simp only [m_nilometerref01_table_b21]
    exact M.o_f (decide_eq_false (by omega)) (M.o_pure ⟨hl, hJ⟩)
theorem tab_out (hN : NetOk N ls) : (m_nilometerref01_table N ls).Out (fun y => ∃ T0, Ini N ls T0 ∧ Rd3 N ls T0 N 0 0 y) := by
  have hm := hN.marks
  unfold m_nilometerref01_table
  refine M.o_bind (tab0_out hN) ?_
  rintro ⟨l5, l6⟩ ⟨hs, hi⟩
  dsimp only at hs hi ⊢
  refine M.o_bind (P := fun y => Rd3 N ls (tb l6) N 0 0 y.2) ?_ (fun y hy => M.o_pure ⟨_, hi, hy⟩)
  refine M.o_for N (fun i st => st.2 = i ∧ Rd3 N ls (tb l6) i 0 0 st.1) ?_ ?_ (s := (l6, 0)) ⟨rfl, Rd3.start hN hi hs fun _ _ _ _ => rfl⟩
  · rintro k ⟨l, s⟩ hk ⟨e, hJ⟩
    dsimp only at hk hJ e
    subst e
    simp only [m_nilometerref01_table_b28]
    refine M.o_t (decide_eq_true (by omega)) (M.o_bind (P := fun y => Rd3 N ls (tb l6) s N 0 y.2) ?_ (fun y hy => M.o_grd (gA2 (by omega) (by omega)) (M.o_pure ⟨rfl, hy.rnd (by omega) hk⟩)))
    refine M.o_for N (fun i st => st.2 = i ∧ Rd3 N ls (tb l6) s i 0 st.1) ?_ ?_ (s := (l, 0)) ⟨rfl, hJ⟩
    · rintro a ⟨l, a2⟩ ha ⟨e, hJ⟩
      dsimp only at ha hJ e
      subst e
      simp only [m_nilometerref01_table_b27]
      refine M.o_t (decide_eq_true (by omega)) (M.o_bind (P := fun y => Rd3 N ls (tb l6) s a2 N y.2) ?_ (fun y hy => M.o_grd (gA2 (by omega) (by omega)) (M.o_pure ⟨rfl, hy.row⟩)))
      refine M.o_for N (fun i st => st.2 = i ∧ Rd3 N ls (tb l6) s a2 i st.1) ?_ ?_ (s := (l, 0)) ⟨rfl, hJ⟩
      · rintro b ⟨l, b2⟩ hb ⟨e, hJ⟩
        dsimp only at hb hJ e
        subst e
        have hu := hJ.up (by omega) hk ha hb
        have q0 := hJ.sq.len
        have q1 := hJ.sq.rows a2 ha
        have q2 := hJ.sq.rows s hk
        have b1 := hJ.lo a2 b2 ha hb
        have b3 := hJ.lo a2 s ha hk
        have b4 := hJ.lo s b2 hk hb
        unfold up at hu
        unfold tb at b1 b3 b4
        simp only [m_nilometerref01_table_b26]
        refine M.o_t (decide_eq_true (by omega)) (M.o_grdD (by omega) (M.o_grdD (by omega) (M.o_grd (gOr (by omega)) (M.o_grd (gOr (by omega)) (M.o_if (fun c => ?_) (fun c => ?_))))))
        · rw [Bool.and_eq_true, decide_eq_true_eq, decide_eq_true_eq] at c
          rw [if_pos (show tb l a2 s < 1000000000000 ∧ tb l s b2 < 1000000000000 from c)] at hu
          exact M.o_grdD (by omega) (M.o_grdD (by omega) (M.o_grdD (by omega) (M.o_grd (gA2 (by omega) (by omega)) (M.o_grd (gA2 (by omega) (by omega)) (M.o_pure ⟨rfl, hu⟩)))))
        · rw [if_neg (show ¬ (tb l a2 s < 1000000000000 ∧ tb l s b2 < 1000000000000) from fun h => by
            have : ((decide (((l.getD a2 []).getD s 0) < 1000000000000)) && (decide (((l.getD s []).getD b2 0) < 1000000000000))) = true := by rw [Bool.and_eq_true, decide_eq_true_eq, decide_eq_true_eq]; exact h
            rw [this] at c
            cases c)] at hu
          exact M.o_grd (gA2 (by omega) (by omega)) (M.o_pure ⟨rfl, hu⟩)
      · rintro ⟨l, b2⟩ ⟨e, hJ⟩
        dsimp only at hJ e
        subst e
        simp only [m_nilometerref01_table_b26]
        exact M.o_f (decide_eq_false (by omega)) (M.o_pure hJ)
    · rintro ⟨l, a2⟩ ⟨e, hJ⟩
      dsimp only at hJ e
      subst e
      simp only [m_nilometerref01_table_b27]
      exact M.o_f (decide_eq_false (by omega)) (M.o_pure hJ)
  · rintro ⟨l, s⟩ ⟨e, hJ⟩
    dsimp only at hJ e
    subst e
    simp only [m_nilometerref01_table_b28]
    exact M.o_f (decide_eq_false (by omega)) (M.o_pure hJ)
theorem ref_agrees (hN : NetOk n ls) : (m_nilometerref01_agrees n ls).Out (fun r => r = true ↔ Agr ls) := by
  have hm := hN.marks
  obtain ⟨N, rfl⟩ : ∃ N : Nat, n = N := ⟨n.toNat, by omega⟩
  unfold m_nilometerref01_agrees
  refine M.o_bind (tab_out hN) ?_
  rintro t ⟨T0, hI, hR⟩
  refine M.o_bind (P := fun y => match y with | .inl _ => ∃ x, x < N ∧ tb t x x < 0 | .inr _ => ∀ x, x < N → 0 ≤ tb t x x) ?_ ?_
  · refine M.o_for N (fun i s => s = i ∧ ∀ x, x < i → 0 ≤ tb t x x) ?_ ?_ (s := 0) ⟨rfl, fun x hx => by omega⟩
    · rintro i s hi ⟨rfl, hJ⟩
      have q0 := hR.sq.len
      have q1 := hR.sq.rows s hi
      simp only [m_nilometerref01_agrees_b0]
      refine M.o_t (decide_eq_true (by omega)) (M.o_grdD (by omega) (M.o_grdD (by omega) (M.o_if (fun c => ?_) (fun c => ?_))))
      · exact M.o_pure ⟨s, hi, of_decide_eq_true c⟩
      · refine M.o_pure ⟨rfl, fun x hx => ?_⟩
        by_cases e : x = s
        · subst e
          have := of_decide_eq_false c
          unfold tb
          omega
        · exact hJ x (by omega)
    · rintro s ⟨rfl, hJ⟩
      simp only [m_nilometerref01_agrees_b0]
      exact M.o_f (decide_eq_false (by omega)) (M.o_pure hJ)
  · rintro (u | u) hy
    · dsimp only at hy ⊢
      obtain ⟨x, hx, hn⟩ := hy
      refine M.o_pure ⟨fun h => (by cases h), ?_⟩
      rintro ⟨h, hF⟩
      have := hR.sd h hF x x hx hx (by omega)
      omega
    · dsimp only at hy ⊢
      refine M.o_pure ⟨fun _ => ?_, fun _ => rfl⟩
      rcases hR.go with ⟨x, hx, hn⟩ | ⟨T, hT, hp, hE⟩
      · have := hy x hx; omega
      · refine hT.feas (by omega) hN.rng (fun a b c he => ?_) (fun a b c he => (hN.ed a b c he).2) fun a ha => ?_
        · have hr := he.rng hN.rng
          exact hI.le a b c (by omega) (by omega) he
        · have := hE a a ha ha
          rw [if_neg (by omega)] at this
          rw [← this]
          exact hR.dg a ha
end Go.Proofs.Ytclhljenjphofaa
namespace Go.Nm
structure SOk (c u x : Int) : Prop where
  u0 : 0 ≤ u
  u1 : u ≤ c
  x0 : 0 ≤ x
  x1 : x < 251
theorem SOk.mono {c d u x : Int} (h : SOk c u x) (hd : c ≤ d) : SOk d u x := ⟨h.u0, Int.le_trans h.u1 hd, h.x0, h.x1⟩
/-- What a stream gives: a number below n. -/
structure Nx (c n : Int) (y : Int × Int × Int) : Prop where
  ok : SOk c y.2.1 y.2.2
  lt : 1 ≤ n → 0 ≤ y.1 ∧ y.1 < n
  no : n < 1 → y.1 = 0
end Go.Nm
namespace Go.Proofs.Ytclhljenjphofaa
open Go Go.Nm
end Go.Proofs.Ytclhljenjphofaa
namespace Go.Nm
def hOf (hs : List Int) (v : Int) : Int := hs.getD (Int.toNat v) 0
structure LnOk (n : Int) (hs : List Int) (l : Line) : Prop where
  src : 0 ≤ l.src ∧ l.src < n
  dst : 0 ≤ l.dst ∧ l.dst < n
  ne : l.src ≠ l.dst
  day : 0 ≤ l.day ∧ l.day < 30
  err : 0 ≤ l.err ∧ l.err ≤ 8
  lo : l.rise - l.err ≤ hOf hs l.dst - hOf hs l.src
  hi : hOf hs l.dst - hOf hs l.src ≤ l.rise + l.err
structure HsOk (n : Int) (hs : List Int) : Prop where
  len : (hs.length : Int) = n
  zero : hs.getD 0 0 = 0
  bnd : ∀ v, -300 ≤ hOf hs v ∧ hOf hs v ≤ 300
/-- What a net of numbers is like. -/
structure MadeN (most n : Int) (ls : List Line) (hs : List Int) : Prop where
  two : 2 ≤ n ∧ n ≤ most
  hh : HsOk n hs
  one : 1 ≤ ls.length ∧ ls.length ≤ 14
  ln : ∀ l, l ∈ ls → LnOk n hs l
theorem LnOk.rise {n : Int} {hs : List Int} {l : Line} (h : LnOk n hs l) (hh : HsOk n hs) : -700 ≤ l.rise ∧ l.rise ≤ 700 := by
  have h1 := hh.bnd l.src
  have h2 := hh.bnd l.dst
  have := h.err
  have := h.lo
  have := h.hi
  omega
theorem net_ok {most n : Int} {ls : List Line} {hs : List Int} (hm : 1 ≤ n ∧ n ≤ 12) (hh : HsOk n hs) (hl : ls.length ≤ 30) (h : ∀ l, l ∈ ls → LnOk n hs l) : NetOk n ls :=
  ⟨hm, hl, fun l hl => ⟨(h l hl).src, (h l hl).dst⟩, fun l hl => (h l hl).ne, fun l hl => by have := (h l hl).day; omega, fun l hl => by have := (h l hl).rise hh; omega, fun l hl => by have := (h l hl).err; omega⟩
theorem MadeN.ok {most n : Int} {ls : List Line} {hs : List Int} (h : MadeN most n ls hs) (hm : most ≤ 12) : NetOk n ls := net_ok (most := 0) (by have := h.two; omega) h.hh (by have := h.one; omega) h.ln
end Go.Nm
namespace Go.Proofs.Ytclhljenjphofaa
open Go Go.Nm
theorem copy_net {ls : List Line} (h : ls.length ≤ 1000000) (n : Int) : (m_nilometerlaw01_CopyNet n ls).Ends (n, ls) := by
  unfold m_nilometerlaw01_CopyNet m_nilometerkit_Copy_level_Line
  exact M.i_bind (M.i_grd (decide_eq_true (by simp only [List.length_nil]; omega)) M.i_pure) M.i_pure
end Go.Proofs.Ytclhljenjphofaa
namespace Go.Nm
variable {ls ks : List Line} {a b d : Int}
theorem Tied.edge {u v c : Int} (he : Ed ls u v c) : Tied ls a u ↔ Tied ls a v := ⟨fun t => t.trans (.ed he), fun t => by obtain ⟨c', hr⟩ := he.rev; exact t.trans (.ed hr)⟩
theorem Wk.map {f : Int → Int} (hE : ∀ a b c, Ed ks a b c → Ed ls (f a) (f b) c) {vs : List Int} {c : Int} (w : Wk ks a vs c) : Wk ls (f a) (vs.map f) c := by
  induction w with
  | one => exact .one
  | snoc _ he ih => exact .snoc ih (hE _ _ _ he)
/-! ### Nets that are joined at one mark -/
section
variable {N M there joint : Int} (hN : Rng N ls) (hM : Rng M ks) (hj : 0 ≤ joint ∧ joint < N) (ht : 0 ≤ there ∧ there < M)
include hN hM hj ht
end
end Go.Nm
namespace Go.Nm
variable {ls ms : List Line} {n : Int}
theorem dist_sizeN {a b d : Int} (hN : NetOk n ls) (hA : Agr ls) (ha : 0 ≤ a ∧ a < n) (h : IsDist ls a b d) : -100000000 ≤ d ∧ d ≤ 100000000 := by
  obtain ⟨hh, hF⟩ := hA
  obtain ⟨vs, w⟩ := h.has
  obtain ⟨vs', c', w', h1, -, h2⟩ := w.few (n := n.toNat) hF (by rw [Int.toNat_of_nonneg (by omega)]; exact hN.rng) (by omega)
  have h3 := h.le _ _ w'
  have h4 := w'.size hN.ed
  have := hN.marks
  rw [List.length_cons] at h4
  omega
theorem rowp_at {c : List Int} {n i s : Nat} (hi : i < n) (hs : s < 13) : rowp s ((rowsOf c n).getD i default) = decide (c.getD (i * 13 + s) 0 < 1099511627776) := by
  have e : (rowsOf c n).getD i default = ⟨(c.drop (i * 13)).take 13⟩ := by
    unfold rowsOf
    rw [List.getD_eq_getElem?_getD, List.getElem?_map, List.getElem?_range hi]
    rfl
  rw [e]
  unfold rowp
  dsimp only
  congr 2
  simp only [List.getD_eq_getElem?_getD]
  rw [List.getElem?_take, if_pos hs, List.getElem?_drop]
theorem first_row {c : List Int} {n s : Nat} (hs : s < 13) (h : ∃ i, i < n ∧ c.getD (i * 13 + s) 0 < 1099511627776) : ∃ f : Nat, f < n ∧ idxP (rowp s) (rowsOf c n) = f ∧ c.getD (f * 13 + s) 0 < 1099511627776 ∧ ∀ k, k < f → ¬ c.getD (k * 13 + s) 0 < 1099511627776 := by
  obtain ⟨f, ⟨hf, h1⟩, h2⟩ := least_nat h
  have hlen : (rowsOf c n).length = n := by simp [rowsOf]
  have no : ∀ k, k < f → ¬ c.getD (k * 13 + s) 0 < 1099511627776 := fun k hk h3 => by
    have := h2 k ⟨by omega, h3⟩
    omega
  refine ⟨f, hf, (idx_yes (d := default) (by omega) (by rw [Int.toNat_natCast, rowp_at hf hs]; exact decide_eq_true h1) fun y hy => ?_).symm, h1, no⟩
  obtain ⟨k, hk, rfl⟩ := mem_getD hy default
  have hk2 : k < f := by
    have := hk
    rw [List.length_take] at this
    omega
  have : (List.take f (rowsOf c n)).getD k default = (rowsOf c n).getD k default := by
    simp only [List.getD_eq_getElem?_getD]
    rw [List.getElem?_take, if_pos hk2]
  rw [this, rowp_at (by omega) hs]
  exact decide_eq_false (no k hk2)
/-- Heights that are returned. -/
structure HtOk (n : Int) (ls : List Line) (l : List Int) : Prop where
  len : (l.length : Int) = n
  feas : Feas ls (hOf l)
  zero : l.getD 0 0 = 0
  bnd : ∀ v, 0 ≤ v → v < n → -100000000 ≤ hOf l v ∧ hOf l v ≤ 100000000
end Go.Nm
namespace Go.Proofs.Ytclhljenjphofaa
open Go Go.Nm
variable {ls ms : List Line} {n : Int}
theorem agreed_out (hN : NetOk n ls) : (m_level_agreed n ls).Out (fun y => ∃ can by_ e, y = .inr (n, can, by_, e) ∧ Wkd ls n can by_ ∧ (¬ Agr ls → e = 7) ∧ (Agr ls → e = 0)) := by
  unfold m_level_agreed
  refine M.o_bind (opened_out hN) ?_
  rintro y ⟨c, b, rfl, hW⟩
  dsimp only
  refine M.o_bind (P := fun r => r = true ↔ ¬ Agr ls) (by
    obtain ⟨r, h1, h2⟩ := open_out hN hW
    exact ⟨r, M.i_opt (fun _ => h1) (fun h => by simp at h), h2⟩) ?_
  intro r hr
  cases r with
  | true => exact M.o_t rfl (M.o_pure ⟨c, b, 7, rfl, hW, fun _ => rfl, fun h => absurd h (hr.1 rfl)⟩)
  | false => exact M.o_f rfl (M.o_pure ⟨c, b, 0, rfl, hW, fun h => absurd (hr.2 h) (by decide), fun _ => rfl⟩)
theorem heights_out (hN : NetOk n ls) : (m_level_Heights n ls).Out (fun y => (¬ Agr ls → y = ([], 7)) ∧ (Agr ls → y.2 = 0 ∧ HtOk n ls y.1)) := by
  have hk := hN.marks
  unfold m_level_Heights
  refine M.o_bind (agreed_out hN) ?_
  rintro y ⟨c, b, e, rfl, hW, h7, h0⟩
  dsimp only
  by_cases hA : Agr ls
  · have := h0 hA
    subst this
    refine M.o_f rfl ?_
    have rwn : ∀ i j : Nat, rw_ c i j = c.getD (i * 13 + j) 0 := fun i j => by unfold rw_; rw [Int.toNat_natCast, Int.toNat_natCast]
    have tie : ∀ i j : Nat, (i : Int) < n → (j : Int) < n → (c.getD (i * 13 + j) 0 < 1099511627776 ↔ Tied ls i j) := fun i j hi hj => by
      have hD := hW.done hN hA (a := (i : Int)) ⟨by omega, hi⟩
      rw [← rwn]
      exact ⟨fun h => (hD.dist j (by omega) hj h).tied, fun h => hD.tied j (by omega) hj h⟩
    have dst : ∀ i j : Nat, (i : Int) < n → (j : Int) < n → c.getD (i * 13 + j) 0 < 1099511627776 → IsDist ls i j (c.getD (i * 13 + j) 0) := fun i j hi hj h => by
      have hD := hW.done hN hA (a := (i : Int)) ⟨by omega, hi⟩
      rw [← rwn] at h ⊢
      exact hD.dist j (by omega) hj h
    have self : ∀ i : Nat, (i : Int) < n → c.getD (i * 13 + i) 0 = 0 := fun i hi => by
      rw [← rwn]
      exact hW.agr_zero hN hA ⟨by omega, hi⟩
    refine M.o_bind (P := fun y => HtOk n ls y.2) ?_ (fun y hy => M.o_pure ⟨fun h => absurd hA h, fun _ => ⟨rfl, hy⟩⟩)
    refine M.o_for (Int.toNat n) (fun i st => st.1 = i ∧ st.2.length = i ∧ ∀ j : Nat, j < i → ∃ f : Nat, (f : Int) < n ∧ st.2.getD j 0 = c.getD (f * 13 + j) 0 ∧ c.getD (f * 13 + j) 0 < 1099511627776 ∧ ∀ k, k < f → ¬ c.getD (k * 13 + j) 0 < 1099511627776) ?_ ?_ (s := (0, [])) ⟨rfl, rfl, fun j hj => by omega⟩
    · rintro i ⟨s, l⟩ hi ⟨rfl, hl, hJ⟩
      dsimp only at hi hl hJ
      simp only [m_level_Heights_b0]
      obtain ⟨f, f1, f2, f3, f4⟩ := first_row (c := c) (n := Int.toNat n) (s := s) (by omega) ⟨s, hi, by rw [self s (by omega)]; decide⟩
      rw [f2, Int.toNat_natCast]
      refine M.o_t (decide_eq_true (by omega)) (M.o_grd (gA2 (by omega) (by omega)) (M.o_grdD (by omega) (M.o_grd (gA2 (by omega) (by omega)) (M.o_grd (gA2 (by omega) (by omega)) (M.o_grdD (by simp only [List.length_cons, List.length_nil]; omega) (M.o_grd (gA2 (by omega) (by omega)) (M.o_pure ⟨rfl, by simp [hl], fun j hj => ?_⟩)))))))
      dsimp only
      by_cases e : j = s
      · subst e
        refine ⟨f, by omega, ?_, f3, f4⟩
        rw [← hl]
        simp [List.getD_eq_getElem?_getD]
      · obtain ⟨f', g1, g2, g3⟩ := hJ j (by omega)
        refine ⟨f', g1, ?_, g3⟩
        rw [← g2, List.getD_eq_getElem?_getD, List.getElem?_append_left (by omega), ← List.getD_eq_getElem?_getD]
    · rintro ⟨s, l⟩ ⟨rfl, hl, hJ⟩
      dsimp only at hl hJ
      simp only [m_level_Heights_b0]
      refine M.o_f (decide_eq_false (by omega)) (M.o_pure ?_)
      have at_ : ∀ v, 0 ≤ v → v < n → ∃ f : Nat, (f : Int) < n ∧ hOf l v = c.getD (f * 13 + v.toNat) 0 ∧ c.getD (f * 13 + v.toNat) 0 < 1099511627776 ∧ ∀ k, k < f → ¬ c.getD (k * 13 + v.toNat) 0 < 1099511627776 := fun v h0 h1 => hJ v.toNat (by omega)
      refine ⟨by dsimp only; omega, feas_of fun p q e he => ?_, ?_, fun v h0 h1 => ?_⟩
      · have hr := he.rng hN.rng
        obtain ⟨f, a1, a2, a3, a4⟩ := at_ p hr.1.1 hr.1.2
        obtain ⟨g, b1, b2, b3, b4⟩ := at_ q hr.2.1 hr.2.2
        have ep : ((p.toNat : Nat) : Int) = p := by omega
        have eq_ : ((q.toNat : Nat) : Int) = q := by omega
        have hp : ((p.toNat : Nat) : Int) < n := by omega
        have hq : ((q.toNat : Nat) : Int) < n := by omega
        have t1 := (tie f p.toNat a1 hp).1 a3
        have t2 := (tie g q.toNat b1 hq).1 b3
        rw [ep] at t1
        rw [eq_] at t2
        have c1 := (tie f q.toNat a1 hq).2 (by rw [eq_]; exact t1.trans (.ed he))
        have c2 := (tie g p.toNat b1 hp).2 (by rw [ep]; exact t2.trans (Tied.ed he).symm)
        have fg : f = g := by
          rcases Nat.lt_trichotomy f g with h | h | h
          · exact absurd c1 (b4 f h)
          · exact h
          · exact absurd c2 (a4 g h)
        subst fg
        have d1 := dst f p.toNat a1 hp a3
        have d2 := dst f q.toNat a1 hq b3
        rw [ep] at d1
        rw [eq_] at d2
        rw [a2, b2]
        have := d1.step he d2
        omega
      · obtain ⟨f, a1, a2, a3, a4⟩ := hJ 0 (by omega)
        have hz := self 0 (by omega)
        have : f = 0 := by
          rcases Nat.eq_zero_or_pos f with h | h
          · exact h
          · exact absurd (by rw [hz]; decide) (a4 0 h)
        subst this
        rw [a2]
        exact hz
      · obtain ⟨f, a1, a2, a3, a4⟩ := at_ v h0 h1
        have d1 := dst f v.toNat a1 (by omega) a3
        rw [a2]
        exact dist_sizeN hN hA ⟨by omega, a1⟩ d1
  · have := h7 hA
    subst this
    exact M.o_t rfl (M.o_pure ⟨fun _ => rfl, fun h => absurd h hA⟩)
end Go.Proofs.Ytclhljenjphofaa
namespace Go.Proofs.Ytclhljenjphofaa
open Go Go.Nm
set_option maxRecDepth 100000 in
theorem awake_ends : (m_nilometerlaw01_awake).Ends true := ⟨300, by kernel_rfl⟩
end Go.Proofs.Ytclhljenjphofaa
namespace Go.Nm
variable {ls : List Line} {n : Int}
/-- A line agrees with heights. -/
def agL (hs : List Int) (l : Line) : Bool := decide (l.rise - l.err ≤ hOf hs l.dst - hOf hs l.src) && decide (hOf hs l.dst - hOf hs l.src ≤ l.rise + l.err)
def hldE (n : Int) (ls : List Line) (hs : List Int) : Int × Int :=
  bif chkE n ls != 0 then (0, chkE n ls) else bif (hs.length : Int) != n then (0, 2) else bif !(hs.all fun h => decide (-1000000000 ≤ h) && decide (h ≤ 1000000000)) then (0, 4) else (idxP (fun l => !(agL hs l)) ls, 0)
end Go.Nm
namespace Go.Proofs.Ytclhljenjphofaa
open Go Go.Nm
variable {ls : List Line} {n : Int}
theorem copy_int {l : List Int} (h : l.length ≤ 1000000) : (m_nilometerkit_Copy_int l).Ends l := by
  unfold m_nilometerkit_Copy_int
  exact M.i_grd (decide_eq_true (by simp only [List.length_nil]; omega)) M.i_pure
theorem net_ends (n : Int) (h : ls.length ≤ 1000000) : (m_nilometerlaw01_Net n ls).Ends (n, ls) := by
  have out : (m_nilometerlaw01_Net n ls).Out (fun r => r = (n, ls)) := by
    unfold m_nilometerlaw01_Net
    refine M.o_bind (P := fun y => y.2 = ls) ?_ (fun y hy => M.o_pure (by rw [hy]))
    refine M.o_for ls.length (fun i st => st.1 = i ∧ st.2 = ls.take i) ?_ ?_ (s := (0, [])) ⟨rfl, by simp⟩
    · rintro i ⟨s, l⟩ hi ⟨e1, e2⟩
      dsimp only at hi e1 e2
      subst e1
      subst e2
      simp only [m_nilometerlaw01_Net_b0]
      refine M.o_t (by simpa using hi) (M.o_grd (by simpa using hi) (M.o_grdD (by simp [List.length_take]; omega) (M.o_pure ⟨rfl, ?_⟩)))
      dsimp only
      rw [take_succ_D ls s hi default]
    · rintro ⟨s, l⟩ ⟨e1, e2⟩
      dsimp only at e1 e2
      subst e1
      subst e2
      simp only [m_nilometerlaw01_Net_b0]
      exact M.o_f (by simp) (M.o_pure (List.take_length ..))
  obtain ⟨r, h, rfl⟩ := out
  exact h
theorem same_line (ls : List Line) : (m_nilometerkit_Same_level_Line ls ls).Ends true := by
  have out : (m_nilometerkit_Same_level_Line ls ls).Out (fun r => r = true) := by
    unfold m_nilometerkit_Same_level_Line
    refine M.o_f (by simp) (M.o_bind (P := fun y => y = .inr ()) ?_ (fun y hy => by subst hy; exact M.o_pure rfl))
    refine M.o_for ls.length (fun i st => st = i) ?_ ?_ rfl
    · rintro i s hi rfl
      simp only [m_nilometerkit_Same_level_Line_b0]
      exact M.o_t (by simpa using hi) (M.o_grd (by simpa using hi) (M.o_grd (by simpa using hi) (M.o_f (by simp) (M.o_pure rfl))))
    · rintro s rfl
      simp only [m_nilometerkit_Same_level_Line_b0]
      exact M.o_f (by simp) (M.o_pure rfl)
  obtain ⟨r, h, rfl⟩ := out
  exact h
theorem same_int (ls : List Int) : (m_nilometerkit_Same_int ls ls).Ends true := by
  have out : (m_nilometerkit_Same_int ls ls).Out (fun r => r = true) := by
    unfold m_nilometerkit_Same_int
    refine M.o_f (by simp) (M.o_bind (P := fun y => y = .inr ()) ?_ (fun y hy => by subst hy; exact M.o_pure rfl))
    refine M.o_for ls.length (fun i st => st = i) ?_ ?_ rfl
    · rintro i s hi rfl
      simp only [m_nilometerkit_Same_int_b0]
      exact M.o_t (by simpa using hi) (M.o_grd (by simpa using hi) (M.o_grd (by simpa using hi) (M.o_f (by simp) (M.o_pure rfl))))
    · rintro s rfl
      simp only [m_nilometerkit_Same_int_b0]
      exact M.o_f (by simp) (M.o_pure rfl)
  obtain ⟨r, h, rfl⟩ := out
  exact h
theorem same_net (n : Int) (ls : List Line) : (m_nilometerlaw01_same n ls n ls).Ends true := by
  unfold m_nilometerlaw01_same
  refine M.i_bind (a := true) (M.i_opt (fun _ => same_line ls) (fun h => by simp at h)) ?_
  simp only [beq_self_eq_true, Bool.and_self]
  exact M.i_pure
theorem index_int {l : List Int} {f : Int → M Bool} {q : Int → Bool} (h : ∀ x, x ∈ l → (f x).Ends (q x)) : (m_slices_IndexFunc_int l f).Out (fun r => decide (0 ≤ r) = l.any q) := by
  unfold m_slices_IndexFunc_int
  refine M.o_bind (P := fun y => match y with | .inl r => decide (0 ≤ r) = l.any q | .inr _ => l.any q = false) ?_ (fun y hy => by
    rcases y with y | y
    · exact M.o_pure hy
    · exact M.o_pure (by rw [hy]; rfl))
  refine M.o_for l.length (fun i s => s = i ∧ (l.take i).any q = false) ?_ ?_ (s := 0) ⟨rfl, by simp⟩
  · rintro i s hi ⟨rfl, hJ⟩
    simp only [m_slices_IndexFunc_int_b0]
    refine M.o_t (by simpa using hi) (M.o_grd (by simpa using hi) (M.o_bindE (h (l.getD s 0) (by rw [getD_el l hi]; exact List.getElem_mem hi)) (M.o_if (fun hb => ?_) (fun hb => ?_))))
    · refine M.o_pure ?_
      dsimp only
      rw [show l.any q = true from List.any_eq_true.2 ⟨_, by rw [getD_el l hi]; exact List.getElem_mem hi, hb⟩]
      exact decide_eq_true (by omega)
    · refine M.o_pure ⟨rfl, ?_⟩
      rw [← take_succ_D l s hi 0, List.any_append, hJ]
      simp only [List.any_cons, List.any_nil, Bool.or_false, Bool.false_or]
      exact hb
  · rintro s ⟨rfl, hJ⟩
    simp only [m_slices_IndexFunc_int_b0]
    rw [List.take_length] at hJ
    exact M.o_f (by simp) (M.o_pure hJ)
theorem every_int {l : List Int} {so : Int → M Bool} {p : Int → Bool} (h : ∀ x, x ∈ l → (so x).Ends (p x)) : (m_level_every_int l so).Ends (l.all p) := by
  unfold m_level_every_int m_slices_ContainsFunc_int
  obtain ⟨r, h1, h2⟩ := index_int (l := l) (f := fun x => m_level_every_int__1 x so) (q := fun x => !(p x)) (fun x hx => by unfold m_level_every_int__1; exact M.i_bind (h x hx) M.i_pure)
  refine M.i_bind (M.i_bind h1 M.i_pure) ?_
  rw [h2, List.any_eq_not_all_not]
  simp only [Bool.not_not]
  exact M.i_pure
theorem bnd_of {hs : List Int} (h : (hs.all fun h => decide (-1000000000 ≤ h) && decide (h ≤ 1000000000)) = true) (i : Nat) : -1000000000 ≤ hs.getD i 0 ∧ hs.getD i 0 ≤ 1000000000 := by
  by_cases hi : i < hs.length
  · have := List.all_eq_true.1 h (hs.getD i 0) (by rw [getD_el hs hi]; exact List.getElem_mem hi)
    rw [Bool.and_eq_true, decide_eq_true_eq, decide_eq_true_eq] at this
    exact this
  · rw [List.getD_eq_getElem?_getD, List.getElem?_eq_none (by omega)]
    decide
theorem holds_ends (n : Int) (ls : List Line) (hs : List Int) : (m_level_Holds n ls hs).Ends (hldE n ls hs) := by
  unfold m_level_Holds hldE
  refine M.i_bind (check_ends n ls) (M.i_if (fun hb => by rw [hb]; exact M.i_pure) (fun hb => ?_))
  rw [hb]
  have hN : NetOk n ls := chk_ok.1 (by simpa using hb)
  refine M.i_if (fun hb => by rw [hb]; exact M.i_pure) (fun hb => ?_)
  rw [hb]
  have hlen : (hs.length : Int) = n := by simpa using hb
  refine M.i_bind (every_int (p := fun h => decide (-1000000000 ≤ h) && decide (h ≤ 1000000000)) fun x _ => by unfold m_level_Holds_1; exact M.i_bind (in_ends _ _ _) M.i_pure) (M.i_if (fun hb => by rw [hb]; exact M.i_pure) (fun hb => ?_))
  rw [hb]
  have hbd := bnd_of (hs := hs) (by simpa using hb)
  have o : (M.iter (m_level_Holds_b0 ls hs) 0).Out (fun y => (match y with | .inl s => (s, (0 : Int)) | .inr _ => (-1, 0)) = (idxP (fun l => !(agL hs l)) ls, 0)) := by
    refine M.o_for ls.length (fun i s => s = i ∧ ∀ y, y ∈ ls.take i → (!(agL hs y)) = false) ?_ ?_ (s := 0) ⟨rfl, by simp⟩
    · rintro i s hi ⟨rfl, hJ⟩
      simp only [m_level_Holds_b0]
      have hm : ls.getD s default ∈ ls := by rw [getD_el ls hi]; exact List.getElem_mem hi
      have hr := hN.rng _ hm
      have hri := hN.rise _ hm
      have her := hN.err _ hm
      have b1 := hbd (ls.getD s default).dst.toNat
      have b2 := hbd (ls.getD s default).src.toNat
      refine M.o_t (by simpa using hi) (M.o_grd (by simpa using hi) (M.o_bindE (a := agL hs (ls.getD s default)) ?_ (M.o_if (fun hb => ?_) (fun hb => ?_))))
      · unfold m_level_Line_agrees agL hOf
        exact M.i_grd (gA2 (by omega) (by omega)) (M.i_grd (gA2 (by omega) (by omega)) (M.i_grd (gA2 (by omega) (by omega)) (M.i_grd (gA2 (by omega) (by omega)) (M.i_grd (gA2 (by omega) (by omega)) (M.i_bind (in_ends _ _ _) M.i_pure)))))
      · refine M.o_pure ?_
        dsimp only
        rw [idx_yes (p := fun l => !(agL hs l)) (l := ls) (k := s) (d := default) (by omega) (by rw [Int.toNat_natCast]; exact hb) hJ]
      · refine M.o_pure ⟨rfl, idx_step (d := default) (by omega) hJ (by rw [Int.toNat_natCast]; exact hb)⟩
    · rintro s ⟨rfl, hJ⟩
      simp only [m_level_Holds_b0]
      refine M.o_f (by simp) (M.o_pure ?_)
      dsimp only
      rw [← idx_no (p := fun l => !(agL hs l)) (l := ls) (k := ls.length) (by omega) hJ]
  obtain ⟨y, h1, h2⟩ := o
  refine M.i_bind h1 ?_
  rcases y with s | s
  · dsimp only at h2 ⊢
    rw [h2]
    exact M.i_pure
  · dsimp only at h2 ⊢
    rw [h2]
    exact M.i_pure
theorem ref_holds (n : Int) (ls : List Line) (hs : List Int) (hl : ls.length ≤ 1000000) : (m_nilometerref01_Holds n ls hs).Ends (hldE n ls hs) := by
  unfold m_nilometerref01_Holds hldE
  refine M.i_bind (ref_check n ls hl) (M.i_if (fun hb => by rw [hb]; exact M.i_pure) (fun hb => ?_))
  rw [hb]
  have hN : NetOk n ls := chk_ok.1 (by simpa using hb)
  refine M.i_if (fun hb => by rw [hb]; exact M.i_pure) (fun hb => ?_)
  rw [hb]
  have hlen : (hs.length : Int) = n := by simpa using hb
  have o1 : (M.iter (m_nilometerref01_Holds_b0 hs) 0).Out (fun y => match y with | .inl _ => (hs.all fun h => decide (-1000000000 ≤ h) && decide (h ≤ 1000000000)) = false | .inr _ => (hs.all fun h => decide (-1000000000 ≤ h) && decide (h ≤ 1000000000)) = true) := by
    refine M.o_for hs.length (fun i s => s = i ∧ ((hs.take i).all fun h => decide (-1000000000 ≤ h) && decide (h ≤ 1000000000)) = true) ?_ ?_ (s := 0) ⟨rfl, by simp⟩
    · rintro i s hi ⟨rfl, hJ⟩
      simp only [m_nilometerref01_Holds_b0]
      have hm : hs.getD s 0 ∈ hs := by rw [getD_el hs hi]; exact List.getElem_mem hi
      refine M.o_t (by simpa using hi) (M.o_grd (by simpa using hi) ?_)
      unfold m_nilometerref01_outside
      refine M.o_bindE M.i_pure (M.o_if (fun hb => M.o_pure ?_) (fun hb => M.o_pure ⟨rfl, ?_⟩))
      · refine List.all_eq_false.2 ⟨_, hm, ?_⟩
        simp only [Bool.or_eq_true, decide_eq_true_eq] at hb
        simp only [Bool.and_eq_true, decide_eq_true_eq]
        omega
      · rw [← take_succ_D hs s hi 0, List.all_append, hJ]
        simp only [Bool.or_eq_false_iff, decide_eq_false_iff_not] at hb
        simp only [List.all_cons, List.all_nil, Bool.and_true, Bool.true_and, Bool.and_eq_true, decide_eq_true_eq]
        omega
    · rintro s ⟨rfl, hJ⟩
      rw [List.take_length] at hJ
      simp only [m_nilometerref01_Holds_b0]
      exact M.o_f (by simp) (M.o_pure hJ)
  obtain ⟨y, h1, h2⟩ := o1
  refine M.i_bind h1 ?_
  rcases y with s | s
  · dsimp only at h2 ⊢
    rw [h2]
    exact M.i_pure
  · dsimp only at h2 ⊢
    rw [h2]
    have hbd := bnd_of h2
    have o : (M.iter (m_nilometerref01_Holds_b1 ls hs) 0).Out (fun y => (match y with | .inl s => (s, (0 : Int)) | .inr _ => (-1, 0)) = (idxP (fun l => !(agL hs l)) ls, 0)) := by
      refine M.o_for ls.length (fun i s => s = i ∧ ∀ y, y ∈ ls.take i → (!(agL hs y)) = false) ?_ ?_ (s := 0) ⟨rfl, by simp⟩
      · rintro i s hi ⟨rfl, hJ⟩
        simp only [m_nilometerref01_Holds_b1]
        have hm : ls.getD s default ∈ ls := by rw [getD_el ls hi]; exact List.getElem_mem hi
        have hr := hN.rng _ hm
        have hri := hN.rise _ hm
        have her := hN.err _ hm
        have b1 := hbd (ls.getD s default).dst.toNat
        have b2 := hbd (ls.getD s default).src.toNat
        refine M.o_t (by simpa using hi) (M.o_grd (by simpa using hi) (M.o_grd (gA2 (by omega) (by omega)) (M.o_grd (gA2 (by omega) (by omega)) (M.o_grd (gA2 (by omega) (by omega)) (M.o_grd (gA2 (by omega) (by omega)) (M.o_grd (gOr2 (by omega) (by omega)) (M.o_if (fun hb => ?_) (fun hb => ?_))))))))
        · simp only [Bool.or_eq_true, decide_eq_true_eq] at hb
          refine M.o_pure ?_
          dsimp only
          rw [idx_yes (p := fun l => !(agL hs l)) (l := ls) (k := s) (d := default) (by omega) (by
            rw [Int.toNat_natCast]
            unfold agL hOf
            rw [Bool.not_eq_true', Bool.and_eq_false_iff, decide_eq_false_iff_not, decide_eq_false_iff_not]
            omega) hJ]
        · simp only [Bool.or_eq_false_iff, decide_eq_false_iff_not] at hb
          refine M.o_pure ⟨rfl, idx_step (d := default) (by omega) hJ (by
            rw [Int.toNat_natCast]
            unfold agL hOf
            rw [Bool.not_eq_false', Bool.and_eq_true, decide_eq_true_eq, decide_eq_true_eq]
            omega)⟩
      · rintro s ⟨rfl, hJ⟩
        simp only [m_nilometerref01_Holds_b1]
        refine M.o_f (by simp) (M.o_pure ?_)
        dsimp only
        rw [← idx_no (p := fun l => !(agL hs l)) (l := ls) (k := ls.length) (by omega) hJ]
    obtain ⟨y, h3, h4⟩ := o
    refine M.i_bind h3 ?_
    rcases y with s | s
    · dsimp only at h4 ⊢
      rw [h4]
      exact M.i_pure
    · dsimp only at h4 ⊢
      rw [h4]
      exact M.i_pure
theorem opened_bad (h : chkE n ls ≠ 0) : (m_level_opened n ls).Ends (.inl (chkE n ls)) := by
  unfold m_level_opened
  exact M.i_bind (check_ends n ls) (M.i_t (by rw [bne_iff_ne]; exact h) M.i_pure)
theorem heights_bad (h : chkE n ls ≠ 0) : (m_level_Heights n ls).Ends ([], chkE n ls) := by
  unfold m_level_Heights m_level_agreed
  exact M.i_bind (M.i_bind (opened_bad h) (M.i_f (by rw [beq_eq_false_iff_ne]; exact h) M.i_pure)) (M.i_t (by rw [bne_iff_ne]; exact h) M.i_pure)
/-- Both say the same of a net. -/
theorem agrees_both (hl : ls.length ≤ 1000000) : ∃ b e, (m_level_Agrees n ls).Ends (b, e) ∧ (m_nilometerref01_Agrees n ls).Ends (b, e) ∧ (chkE n ls ≠ 0 → b = false ∧ e = chkE n ls) ∧ (chkE n ls = 0 → e = 0 ∧ (b = true ↔ Agr ls)) := by
  by_cases h : chkE n ls = 0
  · have hN := chk_ok.1 h
    obtain ⟨⟨b, e⟩, h1, h2, h3⟩ := agrees_out hN
    obtain ⟨b', h4, h5⟩ := ref_agrees hN
    dsimp only at h2 h3
    subst h2
    have : b' = b := by
      rw [Bool.eq_iff_iff, h5, h3]
    subst this
    refine ⟨b', 0, h1, ?_, fun h' => absurd h h', fun _ => ⟨rfl, h3⟩⟩
    unfold m_nilometerref01_Agrees
    refine M.i_bind (ref_check n ls hl) ?_
    rw [h]
    exact M.i_f rfl (M.i_bind h4 M.i_pure)
  · refine ⟨false, chkE n ls, ?_, ?_, fun _ => ⟨rfl, rfl⟩, fun h' => absurd h' h⟩
    · unfold m_level_Agrees
      exact M.i_bind (opened_bad h) (M.i_t (by rw [bne_iff_ne]; exact h) M.i_pure)
    · unfold m_nilometerref01_Agrees
      exact M.i_bind (ref_check n ls hl) (M.i_t (by rw [bne_iff_ne]; exact h) M.i_pure)
theorem levelTruths_ends (n : Int) (ls : List Line) (hs : List Int) : (m_nilometerlaw01_LevelTruths n ls hs).Ends true := by
  unfold m_nilometerlaw01_LevelTruths
  refine M.i_if (fun _ => M.i_bind awake_ends M.i_pure) (fun hb => ?_)
  simp only [Bool.or_eq_false_iff, decide_eq_false_iff_not] at hb
  have hl : ls.length ≤ 1000000 := by omega
  have hh : hs.length ≤ 1000000 := by omega
  obtain ⟨b, e, a1, a2, a3, a4⟩ := agrees_both (n := n) hl
  have j0 : (m_nilometerlaw01_LevelTruths_j0 n ls hs n ls hs).Ends true := by
    unfold m_nilometerlaw01_LevelTruths_j0
    exact M.i_bind (same_net n ls) (M.i_bind (M.i_opt (fun _ => same_int hs) (fun h => by cases h)) (M.i_bind (M.i_opt (fun _ => awake_ends) (fun h => by cases h)) M.i_pure))
  refine M.i_bind (copy_net hl n) (M.i_bind (copy_int hh) (M.i_bind (check_ends n ls) (M.i_bind (net_ends n hl) (M.i_bind (ref_check n ls hl) (M.i_f (by simp) ?_)))))
  refine M.i_bind a1 (M.i_bind (net_ends n hl) (M.i_bind a2 (M.i_f (by simp) ?_)))
  refine M.i_bind (holds_ends n ls hs) (M.i_bind (net_ends n hl) (M.i_bind (ref_holds n ls hs hl) (M.i_f (by simp) ?_)))
  by_cases h : chkE n ls = 0
  · obtain ⟨rfl, hA⟩ := a4 h
    have hN := chk_ok.1 h
    obtain ⟨⟨l, e⟩, h1, h2, h3⟩ := heights_out hN
    by_cases hAg : Agr ls
    · have := hA.2 hAg
      subst this
      obtain ⟨rfl, ht⟩ := h3 hAg
      dsimp only at ht
      refine M.i_f rfl ?_
      unfold m_nilometerlaw01_LevelTruths_j1
      have hm := hN.marks
      have hlen := ht.len
      refine M.i_bind h1 (M.i_f rfl (M.i_t rfl (M.i_bind (net_ends n hl) (M.i_bind (ref_holds n ls l hl) ?_))))
      have hbd : (l.all fun h => decide (-1000000000 ≤ h) && decide (h ≤ 1000000000)) = true := by
        refine List.all_eq_true.2 fun x hx => ?_
        obtain ⟨i, hi, rfl⟩ := mem_getD hx 0
        have := ht.bnd (i : Int) (by omega) (by omega)
        unfold hOf at this
        rw [Int.toNat_natCast] at this
        exact gA2 (by omega) (by omega)
      have hi : idxP (fun x => !(agL l x)) ls = -1 := by
        refine (idx_no (k := ls.length) (by omega) fun y hy => ?_).symm
        rw [List.take_length] at hy
        have := ht.feas y hy
        unfold agL
        rw [Bool.not_eq_false', Bool.and_eq_true, decide_eq_true_eq, decide_eq_true_eq]
        exact this
      have hv : hldE n ls l = (-1, 0) := by
        unfold hldE
        rw [h, hlen, hbd, hi]
        simp
      rw [hv]
      dsimp only
      refine M.i_grd (by rw [decide_eq_true (show 0 < (l.length : Int) by omega), Bool.or_true]) (M.i_f ?_ j0)
      rw [ht.zero, beq_eq_false_iff_ne.2 (show (l.length : Int) ≠ 0 by omega)]
      rfl
    · have : b = false := by
        cases b with
        | false => rfl
        | true => exact absurd (hA.1 rfl) hAg
      subst this
      have := h2 hAg
      simp only [Prod.mk.injEq] at this
      obtain ⟨rfl, rfl⟩ := this
      refine M.i_t rfl ?_
      unfold m_nilometerlaw01_LevelTruths_j1
      exact M.i_bind h1 (M.i_f (by decide) (M.i_f (by decide) j0))
  · obtain ⟨rfl, rfl⟩ := a3 h
    refine M.i_f (by rw [beq_eq_false_iff_ne.2 h]; rfl) ?_
    unfold m_nilometerlaw01_LevelTruths_j1
    refine M.i_bind (heights_bad h) (M.i_f (by simp) (M.i_f (by rw [beq_eq_false_iff_ne]; exact h) j0))
end Go.Proofs.Ytclhljenjphofaa
