/- Part 6 of the texts on which the proof rests. Conditions: none. -/
import Derived.Test.YtndobgodeicloaaV5
set_option linter.unusedVariables false
set_option linter.unusedSimpArgs false
set_option linter.unusedSectionVars false
namespace Go.Proofs.Ytndobgodeicloaa
open Go Go.Nm
def m_nilometerkit_Copy_notes_Work (l : List Work) : M (List Work) :=
  M.grd (decide ((([] : List Work).length + l.length) * 40 ≤ 140737488355328)) <|
  M.pure l
set_option maxRecDepth 100000 in
set_option maxHeartbeats 16000000 in
theorem nilometerkit_Copy_notes_Work_ok {R : List Chunk} {C_l : Cells} {v_l : Value} (l : List Work) (hC_l : Reads R C_l) (hs_l : Sl C_l v_l l) {r : (List Work)} (hM : (m_nilometerkit_Copy_notes_Work l).Ends r) (w : World) (H : St w w [] R) : Ret Try.prog 80 #[v_l] w fun v w' => ∃ (y0 : List Work) (u0 : Value) (rr1 : List (Raw 2)) (Bs2 : Base), y0 = r ∧ v = u0 ∧ St w w' [cOwn (α := Raw 2) 60 u0 rr1, cRo Bs2] R ∧ RepR (α := Work) (Cells.sup C_l Bs2.cells) rr1 y0 := by
 refine ret_of_W Try.func80 rfl rfl rfl ?_
 refine W.seq <| W.region rfl <| s_val (x_as (v := .slice none 0 0) rfl) <| s_nil <| W.seq <| W.region rfl <| s_val (x_as (v := .slice none 0 0) rfl) <| s_nil ?_
 refine W.seq <| W.region rfl <| s_val (x_mv (v := .slice none 0 0) rfl) <| s_val (x_mv (v := v_l) rfl) ?_
 obtain ⟨Bs_1, H⟩ := H.emptyE
 replace H : St w w [cOwn (α := Raw 2) 60 (.slice none 0 0) ([]), cRo Bs_1] R := H.nilOwn (α := Raw 2) 60
 have hr1z : RepR (α := Work) (n := 2) Bs_1.cells [] [] := .nil
 obtain ⟨sd2z, hM⟩ := M.e_grd hM
 simp only [Bool.and_eq_true, decide_eq_true_eq] at sd2z
 obtain ⟨rw4z, hs5z, hr3z⟩ := rawOf (n := 2) rfl hs_l
 replace hr1z := hr1z.mono (Cells.sup_r (hC_l.at H) (roLe _ (H.get (k := 1) rfl)))
 replace hr3z := hr3z.mono (Cells.sup_l _ Bs_1.cells)
 have hr8z := hr1z.app hr3z
 simp only [List.nil_append] at hr8z
 refine t_app (α := Raw 2) (k := 0) (l := []) (l2 := rw4z) (l' := rw4z) (vy := v_l) T22 rfl H rfl rfl rfl hs5z (hC_l.at H) (List.nil_append _) (by have a_ := hr1z.len; have b_ := hr3z.len; simp only [List.length_nil] at *; first | omega | (rw [a_, b_]; omega)) ?_
 intro v6z w7z H
 replace H : St w w7z [cOwn (α := Raw 2) 60 v6z rw4z, cRo Bs_1] R := H
 refine s_val (x_as (v := v6z) rfl) <| s_nil ?_
 refine W.ret ?_
 have hr_ := M.e_pure hM
 exact ⟨_, resE_tmp rfl, ⟨l, v6z, rw4z, Bs_1, hr_, rfl, H, hr8z⟩⟩

def m_nilometerlaw13_CopyWorks_b0 (w_ : List Work) (r2 : List Work) : ((List Work) × Nat) → M (((List Work) × Nat) ⊕ ((List Work) × (List Work))) := fun (l, s) =>
  bif decide ((s : Int) < (r2.length : Int)) then (
  M.grd (decide ((s : Int) < (w_.length : Int))) <|
  M.grd (decide (((w_.getD s default).of).length ≤ 1000000)) <|
  M.grd (decide ((s : Int) < (l.length : Int))) <|
  M.pure (.inl (l.set s ({ (l.getD s default) with of := ((w_.getD s default).of) }), s + 1)))
  else (
  M.pure (.inr (l, l)))
def m_nilometerlaw13_CopyWorks (w_ : List Work) : M (List Work) :=
  M.bind (m_nilometerkit_Copy_notes_Work w_) fun r2 =>
  M.bind (M.iter (m_nilometerlaw13_CopyWorks_b0 w_ r2) (r2, 0)) fun (l2, l3) =>
  M.pure l3
set_option maxRecDepth 100000 in
set_option maxHeartbeats 16000000 in
theorem nilometerlaw13_CopyWorks_ok {R : List Chunk} {C_w_ : Cells} {v_w_ : Value} (w_ : List Work) (hC_w_ : Reads R C_w_) (hs_w_ : Sl C_w_ v_w_ w_) {r : (List Work)} (hM : (m_nilometerlaw13_CopyWorks w_).Ends r) (w : World) (H : St w w [] R) : Ret Try.prog 18 #[v_w_] w fun v w' => ∃ (y0 : List Work) (u0 : Value) (rr1 : List (Raw 2)) (Bs2 : Base), y0 = r ∧ v = u0 ∧ St w w' [cOwn (α := Raw 2) 60 u0 rr1, cRo Bs2] R ∧ RepR (α := Work) (Cells.sup C_w_ Bs2.cells) rr1 y0 := by
 refine ret_of_W Try.func18 rfl rfl rfl ?_
 refine W.seq <| W.region rfl <| s_val (x_as (v := .slice none 0 0) rfl) <| s_nil <| W.seq <| W.region rfl <| s_val (x_mv (v := v_w_) rfl) ?_
 obtain ⟨r2z, hx1z, hM⟩ := M.e_bind hM
 refine s_call cf80 [v_w_] rfl (nilometerkit_Copy_notes_Work_ok w_ (hC_w_.app _) hs_w_ hx1z _ (St.give (T := []) H rfl)) ?_
 rintro vq w3z ⟨r2, u0_1, rr1_2, Bs2_3, hr4z, hvq, H2_, hf5z⟩
 subst hr4z
 subst vq
 try dsimp only at hM
 replace H : St w w3z [cOwn (α := Raw 2) 60 u0_1 rr1_2, cRo Bs2_3] R := H.back H2_ rfl
 clear H2_
 refine s_val (x_as (v := u0_1) rfl) <| s_nil <| W.seq <| W.seq <| W.region rfl <| s_val (x_mv (v := u0_1) rfl) ?_
 have hl6z := ((rowSl rfl (H.get (k := 0) rfl) (Cells.sup_le (hC_w_.at H) (roLe _ (H.get (k := 1) rfl))) hf5z)).len_le
 refine s_val (x_lenS T22.und rfl (rowSl rfl (H.get (k := 0) rfl) (Cells.sup_le (hC_w_.at H) (roLe _ (H.get (k := 1) rfl))) hf5z)) <| s_val (x_mv (v := I 0) rfl) <| s_nil <| W.block ?_
 obtain ⟨ex7z, hi8z, hk9z⟩ := M.e_bind hM
 obtain ⟨m0_, hi8z⟩ := M.e_iter hi8z
 refine W.loop (fun m σ W => ∃ (l : List Work) (s : Nat) (v_l : Value) (rw_l : List (Raw 2)) (B_l : Base) (ρ : Env), σ = upds ρ [(0, v_w_), (3, v_l), (8, I (r2.length : Int)), (9, I (s : Int))] ∧ M.iterN (m_nilometerlaw13_CopyWorks_b0 w_ r2) m (l, s) = some ex7z ∧ St w W [cOwn (α := Raw 2) 60 v_l rw_l, cRo B_l] R ∧ RepR (α := Work) (Cells.sup C_w_ B_l.cells) rw_l l) ?_ ?_
 ·exact ⟨_, r2, 0, u0_1, rr1_2, Bs2_3, _, upds_of _ _ ⟨rfl, rfl, rfl, rfl, trivial⟩, hi8z, H, hf5z⟩
 ·rintro m12z σ w10z ⟨l, s, v_l, rw_l, B_l, ρ, rfl, hI11z, H, hr_l⟩
  obtain ⟨m13z, lt14z, x15z, hM, hN16z⟩ := M.e_iterN hI11z
  simp only [m_nilometerlaw13_CopyWorks_b0] at hM
  clear hI11z
  refine W.seq <| W.region rfl <| s_val (x_cmp (kd := .i64) (a := (s : Int)) (b := (r2.length : Int)) (r := decide ((s : Int) < (r2.length : Int))) rfl rfl rfl) <| s_nil <| W.seq ?_
  refine W.cond (decide ((s : Int) < (r2.length : Int))) rfl (fun c17z => ?_) (fun c17z => ?_)
  ·replace hM := M.e_t hM c17z
   simp only [q1, q2, q3, q4, q5, q6, ne_eq, q7] at c17z
   refine W.skip <| W.seq <| W.block <| W.seq <| W.region rfl <| s_val (x_mv (v := I (s : Int)) rfl) <| s_val (x_as (v := I (s : Int)) rfl) <| s_nil ?_
   refine W.region rfl <| s_val (x_mv (v := v_l) rfl) <| s_val (x_mv (v := I (s : Int)) rfl) <| s_val (x_mv (v := v_w_) rfl) <| s_val (x_mv (v := I (s : Int)) rfl) ?_
   obtain ⟨sd18z, hM⟩ := M.e_grd hM
   simp only [Bool.and_eq_true, decide_eq_true_eq] at sd18z
   refine s_val (x_ix (a := v_w_) (b := I (s : Int)) (v := vat v_w_ 3 (Int.toNat (s : Int))) rfl rfl (Sl.ix (α := Work) T22.und T22.size hs_w_ (by omega) (by omega))) <| s_val (x_fa (a := vat v_w_ 3 (Int.toNat (s : Int))) (v := fat (vat v_w_ 3 (Int.toNat (s : Int))) 0) rfl (fa_pl Fd60_0 Sz34 (Sl.pl (i := (s : Int)) hs_w_ (by omega) (by omega)))) ?_
   obtain ⟨u19z, ha_u19z, hs20z⟩ := Work_at0 hs_w_ (i := (s : Int)) (by omega) (by omega)
   replace hs20z : Sl _ u19z (w_.getD s default).of := hs20z
   have hl_hs20z := hs20z.len_le
   refine s_val (x_ld (p := fat (vat v_w_ 3 (Int.toNat (s : Int))) 0) (v := u19z) rfl (ld_sc Sc34 (At.mono (ha_u19z) (hC_w_.at H)))) ?_
   obtain ⟨sd21z, hM⟩ := M.e_grd hM
   simp only [Bool.and_eq_true, decide_eq_true_eq] at sd21z
   refine s_call cf31 [u19z] rfl (copy_int _ (hs20z.mono (hC_w_.at H)) (by omega)) ?_
   rintro v23z w22z ⟨ho_, hx_⟩
   replace H : St w w22z [cOwn (α := Int) 3 v23z ((w_.getD s default).of), cOwn (α := Raw 2) 60 v_l rw_l, cRo B_l] R := H.ownOf hx_ ho_
   clear hx_ ho_
   obtain ⟨sd24z, hM⟩ := M.e_grd hM
   simp only [Bool.and_eq_true, decide_eq_true_eq] at sd24z
   refine s_val (x_ix (a := v_l) (b := I (s : Int)) (v := vat v_l 3 (Int.toNat (s : Int))) rfl rfl (Sl.ix (α := Work) T22.und T22.size (rowSl rfl (H.get (k := 1) rfl) (Cells.sup_le (hC_w_.at H) (roLe _ (H.get (k := 2) rfl))) hr_l) (by omega) (by omega))) <| s_val (x_fa (a := vat v_l 3 (Int.toNat (s : Int))) (v := fat (vat v_l 3 (Int.toNat (s : Int))) 0) rfl (fa_pl Fd60_0 Sz34 (Sl.pl (i := (s : Int)) (rowSl rfl (H.get (k := 1) rfl) (Cells.sup_le (hC_w_.at H) (roLe _ (H.get (k := 2) rfl))) hr_l) (by omega) (by omega)))) ?_
   obtain ⟨Bs_5, H, hs27z⟩ := H.freezeE (k := 0) rfl
   replace H : St w w22z [cRo Bs_5, cOwn (α := Raw 2) 60 v_l rw_l, cRo B_l] R := H
   have hq26z := hs27z
   obtain ⟨Bs_6, H, le28z, le29z⟩ := H.joinE (i := 2) (j := 0) rfl rfl
   replace hr_l := hr_l.mono (Cells.sup_mono le28z (hC_w_.at H) (roLe _ (H.get (k := 0) rfl)))
   replace hq26z := hq26z.mono (le29z.trans (Cells.sup_r (hC_w_.at H) (roLe _ (H.get (k := 0) rfl))))
   have hl33z := hr_l.len
   obtain ⟨rw30z, hw32z⟩ : ∃ r : List (Raw 2), (rw_l).set s (Raw.put ((rw_l).getD s default) 0 [v23z] rfl (by simp only [List.all_cons, List.all_nil, Bool.true_and, Bool.and_true, Sl.oc hq26z]; try rfl)) = r := ⟨_, rfl⟩
   have hr31z : RepR (α := Work) (Cells.sup C_w_ Bs_6.cells) rw30z (l.set s ({ (l.getD s default) with of := ((w_.getD s default).of) })) := by rw [← hw32z]; exact hr_l.set _ (by obtain ⟨sv_0, hc_, hv_0⟩ := hr_l.getD (k := s) (by omega) default; show Elt.rep _ (((rw_l).getD s default).cs.take 0 ++ [v23z] ++ ((rw_l).getD s default).cs.drop (0 + ([v23z] : List Value).length)) _; rw [hc_]; exact ⟨_, rfl, hq26z⟩)
   refine t_fst (α := Raw 2) (k := 2) (i := (s : Int)) (off := 0) (l := rw_l) (l' := rw30z) (val := v23z) (L' := [cRo Bs_6, cRo Bs_5, cOwn (α := Raw 2) 60 v_l rw30z, cRo B_l]) H rfl Sz34 (by omega) (by omega) ((rw_l).getD s default) (Raw.put ((rw_l).getD s default) 0 [v23z] rfl (by simp only [List.all_cons, List.all_nil, Bool.true_and, Bool.and_true, Sl.oc hq26z]; try rfl)) (getD_some _ (by omega) _) rfl rfl [v23z] (Sl.cells hq26z) rfl rfl (by simp only [List.all_cons, List.all_nil, Bool.true_and, Bool.and_true, Sl.oc hq26z]; try rfl) rfl hw32z rfl ?_
   intro w34z H
   refine s_nil <| W.region rfl <| s_val (x_ari (a := (s : Int)) (b := 1) (r := (s : Int) + 1) rfl rfl rfl (by omega)) <| s_val (x_mv (v := I ((s : Int) + 1)) rfl) <| s_nil ?_
   exact ⟨m13z, lt14z, l.set s ({ (l.getD s default) with of := ((w_.getD s default).of) }), s + 1, v_l, rw30z, Bs_6, _, upds_of _ _ ⟨rfl, rfl, rfl, rfl, trivial⟩, M.e_inl hM hN16z, (H.pick [2, 0] (by decide) rfl), hr31z⟩
  ·replace hM := M.e_f hM c17z
   simp only [q1, q2, q3, q4, q5, q6, ne_eq, q7] at c17z
   refine W.exit ?_
   have hX35z := M.e_inr hM hN16z
   subst hX35z
   replace hM := hk9z
   try dsimp only at hM
   refine W.seq <| W.region rfl <| s_val (x_mv (v := v_l) rfl) <| s_val (x_as (v := v_l) rfl) <| s_nil ?_
   refine W.ret ?_
   have hr_ := M.e_pure hM
   exact ⟨_, resE_tmp rfl, ⟨l, v_l, rw_l, B_l, hr_, rfl, H, hr_l⟩⟩

def m_nilometerlaw13_Works_b0 (w_ : List Work) : (Nat × (List Work)) → M ((Nat × (List Work)) ⊕ ((List Work) × (List Work))) := fun (s, l) =>
  bif decide ((s : Int) < (w_.length : Int)) then (
  M.grd (decide ((s : Int) < (w_.length : Int))) <|
  M.grd (decide (((w_.getD s default).of).length ≤ 1000000)) <|
  M.grd (decide ((l.length + ([(⟨((w_.getD s default).of), ((w_.getD s default).base : Int), ((w_.getD s default).minutes : Int)⟩ : Work)]).length) * 40 ≤ 140737488355328)) <|
  M.pure (.inl (s + 1, l ++ ([(⟨((w_.getD s default).of), ((w_.getD s default).base : Int), ((w_.getD s default).minutes : Int)⟩ : Work)]))))
  else (
  M.pure (.inr (l, l)))
def m_nilometerlaw13_Works (w_ : List Work) : M (List Work) :=
  M.bind (M.iter (m_nilometerlaw13_Works_b0 w_) (0, [])) fun (l2, l3) =>
  M.pure l3
set_option maxRecDepth 100000 in
set_option maxHeartbeats 16000000 in
theorem nilometerlaw13_Works_ok {R : List Chunk} {C_w_ : Cells} {v_w_ : Value} (w_ : List Work) (hC_w_ : Reads R C_w_) (hs_w_ : Sl C_w_ v_w_ w_) {r : (List Work)} (hM : (m_nilometerlaw13_Works w_).Ends r) (w : World) (H : St w w [] R) : Ret Try.prog 23 #[v_w_] w fun v w' => ∃ (y0 : List Work) (u0 : Value) (rr1 : List (Raw 2)) (Bs2 : Base), y0 = r ∧ v = u0 ∧ St w w' [cOwn (α := Raw 2) 138 u0 rr1, cRo Bs2] R ∧ RepR (α := Work) Bs2.cells rr1 y0 := by
 refine ret_of_W Try.func23 rfl rfl rfl ?_
 refine W.seq <| W.region rfl <| s_val (x_as (v := .slice none 0 0) rfl) <| s_nil <| W.seq <| W.region rfl <| s_val (x_as (v := .slice none 0 0) rfl) <| s_nil ?_
 refine W.seq <| W.seq <| W.region rfl <| s_val (x_mv (v := v_w_) rfl) ?_
 have hl1z := (hs_w_).len_le
 refine s_val (x_lenS T22.und rfl hs_w_) <| s_val (x_mv (v := I 0) rfl) <| s_nil <| W.block ?_
 obtain ⟨Bs_10, H⟩ := H.emptyE
 replace H : St w w [cOwn (α := Raw 2) 138 (.slice none 0 0) ([]), cRo Bs_10] R := H.nilOwn (α := Raw 2) 138
 have hr2z : RepR (α := Work) (n := 2) Bs_10.cells [] [] := .nil
 obtain ⟨ex3z, hi4z, hk5z⟩ := M.e_bind hM
 obtain ⟨m0_, hi4z⟩ := M.e_iter hi4z
 refine W.loop (fun m σ W => ∃ (s : Nat) (l : List Work) (v_l : Value) (rw_l : List (Raw 2)) (B_l : Base) (ρ : Env), σ = upds ρ [(3, v_l), (6, v_w_), (7, I (w_.length : Int)), (8, I (s : Int))] ∧ M.iterN (m_nilometerlaw13_Works_b0 w_) m (s, l) = some ex3z ∧ St w W [cOwn (α := Raw 2) 138 v_l rw_l, cRo B_l] R ∧ RepR (α := Work) B_l.cells rw_l l) ?_ ?_
 ·exact ⟨_, 0, [], (.slice none 0 0), [], Bs_10, _, upds_of _ _ ⟨rfl, rfl, rfl, rfl, trivial⟩, hi4z, H, hr2z⟩
 ·rintro m8z σ w6z ⟨s, l, v_l, rw_l, B_l, ρ, rfl, hI7z, H, hr_l⟩
  obtain ⟨m9z, lt10z, x11z, hM, hN12z⟩ := M.e_iterN hI7z
  simp only [m_nilometerlaw13_Works_b0] at hM
  clear hI7z
  refine W.seq <| W.region rfl <| s_val (x_cmp (kd := .i64) (a := (s : Int)) (b := (w_.length : Int)) (r := decide ((s : Int) < (w_.length : Int))) rfl rfl rfl) <| s_nil <| W.seq ?_
  refine W.cond (decide ((s : Int) < (w_.length : Int))) rfl (fun c13z => ?_) (fun c13z => ?_)
  ·replace hM := M.e_t hM c13z
   simp only [q1, q2, q3, q4, q5, q6, ne_eq, q7] at c13z
   refine W.skip <| W.seq <| W.block <| W.seq <| W.region rfl ?_
   obtain ⟨sd14z, hM⟩ := M.e_grd hM
   simp only [Bool.and_eq_true, decide_eq_true_eq] at sd14z
   refine s_val (x_ix (a := v_w_) (b := I (s : Int)) (v := vat v_w_ 3 (Int.toNat (s : Int))) rfl rfl (Sl.ix (α := Work) T22.und T22.size hs_w_ (by omega) (by omega))) ?_
   obtain ⟨u15z, ha17z, hs16z⟩ := Work_atA hs_w_ (i := (s : Int)) (by omega) (by omega)
   replace hs16z : Sl _ u15z (w_.getD s default).of := hs16z
   have hl_hs16z := hs16z.len_le
   refine s_val (x_ld (p := vat v_w_ 3 (Int.toNat (s : Int))) (v := .agg #[u15z, I ((w_.getD s default).base), I ((w_.getD s default).minutes)]) rfl (ld_ag Ag60 Sz60 (At.mono ha17z (hC_w_.at H)))) ?_
   refine t_alloc (cs := [.slice none 0 0, I 0, I 0]) H Al60 rfl ?_
   intro b_1 w18z H
   refine t_st (k := 0) (b := b_1) (off := 0) (cs := [.slice none 0 0, I 0, I 0]) (vs := [u15z, I ((w_.getD s default).base), I ((w_.getD s default).minutes)]) (cs' := [u15z, I ((w_.getD s default).base), I ((w_.getD s default).minutes)]) (v := .agg #[u15z, I ((w_.getD s default).base), I ((w_.getD s default).minutes)]) (L' := [cBlk b_1 [u15z, I ((w_.getD s default).base), I ((w_.getD s default).minutes)] 60, cOwn (α := Raw 2) 138 v_l rw_l, cRo B_l]) H rfl rfl rfl Sz60 rfl rfl rfl (by simp only [List.all_cons, List.all_nil, Bool.true_and, Bool.and_true, Sl.oc hs16z]; try rfl) rfl rfl ?_
   intro w19z H
   refine s_nil ?_
   refine W.draw (fun W => St w W [cBlk b_1 [u15z, I ((w_.getD s default).base), I ((w_.getD s default).minutes)] 60, cRo B_l] R) [(0, true), (1, true), (2, true), (4, true), (5, true), (6, true), (7, true), (3, false), (8, false), (9, false), (10, false), (11, true)] mixed (by decide +kernel) rfl ?_
   intro w20z hx_
   replace H : St w w20z [cBlk b_1 [u15z, I ((w_.getD s default).base), I ((w_.getD s default).minutes)] 60, cOwn (α := Raw 2) 138 v_l rw_l, cRo B_l] R := H.ext hx_
   clear hx_
   refine ⟨(H.pick [0, 2] (by decide) rfl), ?_⟩
   refine d_q rfl (fun w' H => x_mv (v := v_l) rfl) ?_
   refine d_q rfl (fun w' H => x_fa (a := .pointer (some ⟨b_1, 0, none⟩)) (v := .pointer (some ⟨b_1, 0, none⟩)) rfl (fa_blk (o := 0) Fd60_0 Sz34)) ?_
   refine d_q rfl (fun w' H => x_ld (p := .pointer (some ⟨b_1, 0, none⟩)) (v := u15z) rfl (ldb_sc Sc34 (H.blk (k := 0) rfl) rfl)) ?_
   refine d_q rfl (fun w' H => x_fa (a := .pointer (some ⟨b_1, 0, none⟩)) (v := .pointer (some ⟨b_1, 1, none⟩)) rfl (fa_blk (o := 0) Fd60_1 Sz3)) ?_
   refine d_q rfl (fun w' H => x_ld (p := .pointer (some ⟨b_1, 1, none⟩)) (v := I ((w_.getD s default).base)) rfl (ldb_sc Sc3 (H.blk (k := 0) rfl) rfl)) ?_
   refine d_q rfl (fun w' H => x_fa (a := .pointer (some ⟨b_1, 0, none⟩)) (v := .pointer (some ⟨b_1, 2, none⟩)) rfl (fa_blk (o := 0) Fd60_2 Sz3)) ?_
   refine d_q rfl (fun w' H => x_ld (p := .pointer (some ⟨b_1, 2, none⟩)) (v := I ((w_.getD s default).minutes)) rfl (ldb_sc Sc3 (H.blk (k := 0) rfl) rfl)) ?_
   refine d_l rfl ?_
   obtain ⟨sd21z, hM⟩ := M.e_grd hM
   simp only [Bool.and_eq_true, decide_eq_true_eq] at sd21z
   refine s_call cf31 [u15z] rfl (copy_int _ (hs16z.mono (hC_w_.at H)) (by omega)) ?_
   rintro v23z w22z ⟨ho_, hx_⟩
   replace H : St w w22z [cOwn (α := Int) 3 v23z ((w_.getD s default).of), cBlk b_1 [u15z, I ((w_.getD s default).base), I ((w_.getD s default).minutes)] 60, cOwn (α := Raw 2) 138 v_l rw_l, cRo B_l] R := H.ownOf hx_ ho_
   clear hx_ ho_
   refine s_nil ⟨(H.pick [1, 3] (by decide) rfl), ?_⟩
   refine d_l rfl ?_
   refine s_val (x_bld (ps := [(0, v23z), (1, I ((w_.getD s default).base)), (2, I ((w_.getD s default).minutes))]) (zs := [.slice none 0 0, I 0, I 0]) (L' := [v23z, I ((w_.getD s default).base), I ((w_.getD s default).minutes)]) rfl Try.underlying138 Al138 rfl (Bd138 Try.underlying138) (.cons (cs := [v23z]) (Sl.cells (ownSl (H.get (k := 0) rfl))) rfl rfl rfl rfl <| .cons (cs := [I ((w_.getD s default).base)]) rfl rfl rfl rfl rfl <| .cons (cs := [I ((w_.getD s default).minutes)]) rfl rfl rfl rfl rfl <| .nil)) ?_
   refine s_nil ⟨(H.pick [1, 3] (by decide) rfl), ?_⟩
   refine d_l rfl ?_
   obtain ⟨Bs_3, H⟩ := H.emptyE
   obtain ⟨Bs_4, H, hs25z⟩ := H.freezeE (k := 1) rfl
   replace H : St w w22z [cRo Bs_3, cRo Bs_4, cBlk b_1 [u15z, I ((w_.getD s default).base), I ((w_.getD s default).minutes)] 60, cOwn (α := Raw 2) 138 v_l rw_l, cRo B_l] R := H
   have hq24z := hs25z
   obtain ⟨Bs_5, H, le26z, le27z⟩ := H.joinE (i := 0) (j := 1) rfl rfl
   replace hq24z := hq24z.mono le27z
   obtain ⟨rw28z, hrw_rw28z⟩ : ∃ r : Raw 2, r.cs = [v23z, I ((w_.getD s default).base), I ((w_.getD s default).minutes)] := ⟨Raw.of [v23z, I ((w_.getD s default).base), I ((w_.getD s default).minutes)] rfl (by simp only [List.all_cons, List.all_nil, Bool.true_and, Bool.and_true, Sl.oc hq24z]; try rfl), rfl⟩
   have hr29z : RepR (α := Work) Bs_5.cells [rw28z] [(⟨((w_.getD s default).of), ((w_.getD s default).base : Int), ((w_.getD s default).minutes : Int)⟩ : Work)] := .cons (by rw [hrw_rw28z]; exact ⟨_, rfl, hq24z⟩) <| .nil
   refine t_bs (α := Raw 2) T39 [.agg #[v23z, I ((w_.getD s default).base), I ((w_.getD s default).minutes)]] [rw28z] H rfl (.cons (by rw [show (Flat.enc rw28z : List Value) = rw28z.cs from rfl, hrw_rw28z]; rfl) (Flat.rep_enc _ _) <| .nil) rfl rfl rfl ?_
   intro v30z w31z H
   replace H : St w w31z [cOwn (α := Raw 2) 138 v30z ([rw28z]), cRo Bs_5, cRo Bs_3, cRo Bs_4, cBlk b_1 [u15z, I ((w_.getD s default).base), I ((w_.getD s default).minutes)] 60, cOwn (α := Raw 2) 138 v_l rw_l, cRo B_l] R := H
   refine s_nil ⟨(H.pick [4, 6] (by decide) rfl), ?_⟩
   refine d_l rfl ?_
   obtain ⟨sd32z, hM⟩ := M.e_grd hM
   simp only [Bool.and_eq_true, decide_eq_true_eq] at sd32z
   have hr33z := hr29z
   obtain ⟨Bs_9, H, le34z, le35z⟩ := H.joinE (i := 6) (j := 1) rfl rfl
   replace hr_l := hr_l.mono le34z
   replace hr33z := hr33z.mono le35z
   have hr38z := hr_l.app hr33z
   refine t_app (α := Raw 2) (k := 6) (l := rw_l) (l2 := [rw28z]) (l' := rw_l ++ ([rw28z])) (vy := v30z) T39 rfl H rfl rfl rfl (ownSl (H.get (k := 1) rfl)) (ownLe _ (H.get (k := 1) rfl)) (rfl) (by have a_ := hr_l.len; have b_ := hr33z.len; simp only [List.length_nil] at *; first | omega | (rw [a_, b_]; omega)) ?_
   intro v36z w37z H
   replace H : St w w37z [cRo Bs_9, cOwn (α := Raw 2) 138 v30z ([rw28z]), cRo Bs_5, cRo Bs_3, cRo Bs_4, cBlk b_1 [u15z, I ((w_.getD s default).base), I ((w_.getD s default).minutes)] 60, cOwn (α := Raw 2) 138 v36z (rw_l ++ ([rw28z])), cRo B_l] R := H
   refine s_nil ⟨(H.pick [5, 7] (by decide) rfl), ?_⟩
   refine d_q rfl (fun w' H => x_as (v := v36z) rfl) ?_
   refine d_nil ?_
   refine W.region rfl <| s_val (x_ari (a := (s : Int)) (b := 1) (r := (s : Int) + 1) rfl rfl rfl (by omega)) <| s_val (x_mv (v := I ((s : Int) + 1)) rfl) <| s_nil ?_
   exact ⟨m9z, lt10z, s + 1, l ++ ([(⟨((w_.getD s default).of), ((w_.getD s default).base : Int), ((w_.getD s default).minutes : Int)⟩ : Work)]), v36z, rw_l ++ ([rw28z]), Bs_9, _, upds_of _ _ ⟨rfl, rfl, rfl, rfl, trivial⟩, M.e_inl hM hN12z, (H.pick [6, 0] (by decide) rfl), hr38z⟩
  ·replace hM := M.e_f hM c13z
   simp only [q1, q2, q3, q4, q5, q6, ne_eq, q7] at c13z
   refine W.exit ?_
   have hX39z := M.e_inr hM hN12z
   subst hX39z
   replace hM := hk5z
   try dsimp only at hM
   refine W.seq <| W.region rfl <| s_val (x_mv (v := v_l) rfl) <| s_val (x_as (v := v_l) rfl) <| s_nil ?_
   refine W.ret ?_
   have hr_ := M.e_pure hM
   exact ⟨_, resE_tmp rfl, ⟨l, v_l, rw_l, B_l, hr_, rfl, H, hr_l⟩⟩

def m_nilometerref13_behind_b0 (w_ : List Work) : (Nat × (List (List Bool))) → M ((Nat × (List (List Bool))) ⊕ ((List (List Bool)) × (List (List Bool)))) := fun (i, l) =>
  bif decide ((i : Int) < (w_.length : Int)) then (
  M.grd (decide ((0 : Int) ≤ (w_.length : Int)) && decide ((1 : Int) * (w_.length : Int) ≤ 281474976710656) && decide ((w_.length : Int) ≤ (9223372036854775807 : Int))) <|
  M.grd (decide ((l.length + 1) * 24 ≤ 140737488355328)) <|
  M.pure (.inl (i + 1, l ++ [List.replicate (w_.length) false])))
  else (
  M.pure (.inr (l, l)))
def m_nilometerref13_behind_b12 (w_ : List Work) (b : Nat) (k : Nat) : ((List (List Bool)) × Bool × Nat) → M (((List (List Bool)) × Bool × Nat) ⊕ ((List (List Bool)) × Bool × (List (List Bool)))) := fun (l4, changed, a) =>
  bif decide ((a : Int) < (w_.length : Int)) then (
  M.grd ((!(!((a : Int) == (((w_.getD b default).of).getD k 0))) || (decide ((a : Int) < (l4.length : Int))))) <|
  M.grd ((!(!((a : Int) == (((w_.getD b default).of).getD k 0))) || (decide ((0 : Int) ≤ (((w_.getD b default).of).getD k 0)) && decide ((((w_.getD b default).of).getD k 0) < ((l4.getD a ([])).length : Int))))) <|
  M.grd ((!(((a : Int) == (((w_.getD b default).of).getD k 0)) || ((l4.getD a ([])).getD (Int.toNat (((w_.getD b default).of).getD k 0)) false)) || (decide ((a : Int) < (l4.length : Int))))) <|
  M.grd ((!(((a : Int) == (((w_.getD b default).of).getD k 0)) || ((l4.getD a ([])).getD (Int.toNat (((w_.getD b default).of).getD k 0)) false)) || (decide ((b : Int) < ((l4.getD a ([])).length : Int))))) <|
  bif ((((a : Int) == (((w_.getD b default).of).getD k 0)) || ((l4.getD a ([])).getD (Int.toNat (((w_.getD b default).of).getD k 0)) false)) && (!((l4.getD a ([])).getD b false))) then (
  M.grd (decide ((a : Int) < (l4.length : Int))) <|
  M.grd (decide ((b : Int) < ((l4.getD a ([])).length : Int))) <|
  M.pure (.inl (l4.set a ((l4.getD a ([])).set b true), true, a + 1)))
  else (
  M.pure (.inl (l4, changed, a + 1))))
  else (
  M.pure (.inr (l4, changed, l4)))
def m_nilometerref13_behind_b13 (w_ : List Work) (b : Nat) : ((List (List Bool)) × Bool × Nat) → M (((List (List Bool)) × Bool × Nat) ⊕ ((List (List Bool)) × Bool × (List (List Bool)))) := fun (l7, changed3, k) =>
  M.grd (decide ((b : Int) < (w_.length : Int))) <|
  bif decide ((k : Int) < (((w_.getD b default).of).length : Int)) then (
  M.grd (decide ((k : Int) < (((w_.getD b default).of).length : Int))) <|
  M.bind (M.iter (m_nilometerref13_behind_b12 w_ b k) (l7, changed3, 0)) fun (l5, changed2, l6) =>
  M.pure (.inl (l6, changed2, k + 1)))
  else (
  M.pure (.inr (l7, changed3, l7)))
def m_nilometerref13_behind_b14 (w_ : List Work) : ((List (List Bool)) × Bool × Nat) → M (((List (List Bool)) × Bool × Nat) ⊕ ((List (List Bool)) × Bool × (List (List Bool)))) := fun (l10, changed5, b) =>
  bif decide ((b : Int) < (w_.length : Int)) then (
  M.bind (M.iter (m_nilometerref13_behind_b13 w_ b) (l10, changed5, 0)) fun (l8, changed4, l9) =>
  M.pure (.inl (l9, changed4, b + 1)))
  else (
  M.pure (.inr (l10, changed5, l10)))
def m_nilometerref13_behind_b15 (w_ : List Work) : ((List (List Bool)) × Bool) → M (((List (List Bool)) × Bool) ⊕ ((List (List Bool)) × (List (List Bool)))) := fun (l13, changed7) =>
  bif changed7 then (
  M.bind (M.iter (m_nilometerref13_behind_b14 w_) (l13, false, 0)) fun (l11, changed6, l12) =>
  M.pure (.inl (l12, changed6)))
  else (
  M.pure (.inr (l13, l13)))
def m_nilometerref13_behind (w_ : List Work) : M (List (List Bool)) :=
  M.bind (M.iter (m_nilometerref13_behind_b0 w_) (0, [])) fun (l2, l3) =>
  M.bind (M.iter (m_nilometerref13_behind_b15 w_) (l3, true)) fun (l14, l15) =>
  M.pure l15
set_option maxRecDepth 100000 in
set_option maxHeartbeats 16000000 in
theorem nilometerref13_behind_ok {R : List Chunk} {C_w_ : Cells} {v_w_ : Value} (w_ : List Work) (hC_w_ : Reads R C_w_) (hs_w_ : Sl C_w_ v_w_ w_) {r : (List (List Bool))} (hM : (m_nilometerref13_behind w_).Ends r) (w : World) (H : St w w [] R) : Ret Try.prog 94 #[v_w_] w fun v w' => ∃ (y0 : List (List Bool)) (u0 : Value) (Bs1 : Base), y0 = r ∧ v = u0 ∧ St w w' [cRo Bs1] R ∧ Sl Bs1.cells u0 y0 := by
 refine ret_of_W Try.func94 rfl rfl rfl ?_
 refine W.seq <| W.region rfl <| s_val (x_as (v := .slice none 0 0) rfl) <| s_nil <| W.seq <| W.region rfl <| s_val (x_as (v := .slice none 0 0) rfl) <| s_nil ?_
 refine W.seq <| W.seq <| W.region rfl <| s_val (x_as (v := I 0) rfl) <| s_nil <| W.block ?_
 replace H : St w w [cMat (α := Bool) 147 4 (.slice none 0 0) ([]) ([])] R := H.nilMat (α := Bool) 147 4
 have hus1z : ([] : List SV).length = ([] : List (List Bool)).length := rfl
 obtain ⟨ex2z, hi3z, hk4z⟩ := M.e_bind hM
 obtain ⟨m0_, hi3z⟩ := M.e_iter hi3z
 refine W.loop (fun m σ W => ∃ (i : Nat) (l : List (List Bool)) (v_l : Value) (us_l : List SV) (ρ : Env), σ = upds ρ [(0, v_w_), (3, v_l), (4, I (i : Int))] ∧ M.iterN (m_nilometerref13_behind_b0 w_) m (i, l) = some ex2z ∧ St w W [cMat (α := Bool) 147 4 v_l us_l l] R ∧ us_l.length = l.length) ?_ ?_
 ·exact ⟨_, 0, [], (.slice none 0 0), [], _, upds_of _ _ ⟨rfl, rfl, rfl, trivial⟩, hi3z, H, hus1z⟩
 ·rintro m7z σ w5z ⟨i, l, v_l, us_l, ρ, rfl, hI6z, H, hus_l⟩
  obtain ⟨m8z, lt9z, x10z, hM, hN11z⟩ := M.e_iterN hI6z
  simp only [m_nilometerref13_behind_b0] at hM
  clear hI6z
  refine W.seq <| W.seq <| W.region rfl <| s_val (x_mv (v := I (i : Int)) rfl) <| s_val (x_mv (v := v_w_) rfl) ?_
  have hl12z := (hs_w_).len_le
  refine s_val (x_lenS T39.und rfl hs_w_) <| s_val (x_cmp (kd := .i64) (a := (i : Int)) (b := (w_.length : Int)) (r := decide ((i : Int) < (w_.length : Int))) rfl rfl rfl) <| s_nil ?_
  refine W.cond (decide ((i : Int) < (w_.length : Int))) rfl (fun c13z => ?_) (fun c13z => ?_)
  ·replace hM := M.e_t hM c13z
   simp only [q1, q2, q3, q4, q5, q6, ne_eq, q7] at c13z
   refine W.skip <| W.seq <| W.block <| W.region rfl <| s_val (x_mv (v := v_l) rfl) <| s_val (x_mv (v := v_w_) rfl) ?_
   have hl14z := (hs_w_).len_le
   refine s_val (x_lenS T39.und rfl hs_w_) ?_
   obtain ⟨sd15z, hM⟩ := M.e_grd hM
   simp only [Bool.and_eq_true, decide_eq_true_eq] at sd15z
   refine t_mk (α := Bool) T147 false rfl (n := (w_.length : Int)) H rfl rfl (by omega) (by omega) (by omega) ?_
   intro v16z w17z H
   replace H : St w w17z [cOwn (α := Bool) 4 v16z (List.replicate (w_.length) false), cMat (α := Bool) 147 4 v_l us_l l] R := H
   have one18z := sl_one (ownSl (H.get (k := 0) rfl))
   refine t_bs (α := SV) T145 [v16z] [(⟨v16z, one18z⟩ : SV)] H rfl (.cons (oneCell_cells one18z) rfl <| .nil) rfl rfl rfl ?_
   intro v19z w20z H
   replace H : St w w20z [cOwn (α := SV) 147 v19z ([(⟨v16z, one18z⟩ : SV)]), cOwn (α := Bool) 4 v16z (List.replicate (w_.length) false), cMat (α := Bool) 147 4 v_l us_l l] R := H
   obtain ⟨sd21z, hM⟩ := M.e_grd hM
   simp only [Bool.and_eq_true, decide_eq_true_eq] at sd21z
   replace H : St w w20z [cMat (α := Bool) 147 4 v_l us_l l, cOwn (α := Bool) 4 v16z (List.replicate (w_.length) false), cOwn (α := SV) 147 v19z ([(⟨v16z, one18z⟩ : SV)])] R := H.pick [2, 1, 0] (by decide) rfl
   refine t_matapp (T := l) (row := List.replicate (w_.length) false) (sv := (⟨v16z, one18z⟩ : SV)) T145 rfl H hus_l rfl rfl rfl (ownSl (H.get (k := 2) rfl)) (ownLe _ (H.get (k := 2) rfl)) (by first | omega | (simp only [List.length_nil] at *; omega)) ?_
   intro v22z w23z H
   replace H : St w w23z [cMat (α := Bool) 147 4 v22z (us_l ++ [(⟨v16z, one18z⟩ : SV)]) (l ++ [List.replicate (w_.length) false]), cOwn (α := SV) 147 v19z ([(⟨v16z, one18z⟩ : SV)])] R := H
   have hus24z : (us_l ++ [(⟨v16z, one18z⟩ : SV)]).length = (l ++ [List.replicate (w_.length) false]).length := by simp only [List.length_append, List.length_cons, List.length_nil, hus_l]
   refine s_val (x_as (v := v22z) rfl) <| s_nil <| W.region rfl <| s_val (x_mv (v := I (i : Int)) rfl) <| s_val (x_ari (a := (i : Int)) (b := 1) (r := (i : Int) + 1) rfl rfl rfl (by omega)) <| s_val (x_as (v := I ((i : Int) + 1)) rfl) <| s_nil ?_
   exact ⟨m8z, lt9z, i + 1, l ++ [List.replicate (w_.length) false], v22z, us_l ++ [(⟨v16z, one18z⟩ : SV)], _, upds_of _ _ ⟨rfl, rfl, rfl, trivial⟩, M.e_inl hM hN11z, (H.pick [0] (by decide) rfl), hus24z⟩
  ·replace hM := M.e_f hM c13z
   simp only [q1, q2, q3, q4, q5, q6, ne_eq, q7] at c13z
   refine W.exit ?_
   have hX25z := M.e_inr hM hN11z
   subst hX25z
   replace hM := hk4z
   try dsimp only at hM
   refine W.seq <| W.seq <| W.region rfl <| s_val (x_as (v := B true) rfl) <| s_nil <| W.block ?_
   obtain ⟨ex26z, hi27z, hk28z⟩ := M.e_bind hM
   obtain ⟨m0_, hi27z⟩ := M.e_iter hi27z
   refine W.loop (fun m σ W => ∃ (l13 : List (List Bool)) (changed7 : Bool) (v_l13 : Value) (us_l13 : List SV) (ρ : Env), σ = upds ρ [(0, v_w_), (3, v_l13), (5, B changed7)] ∧ M.iterN (m_nilometerref13_behind_b15 w_) m (l13, changed7) = some ex26z ∧ St w W [cMat (α := Bool) 147 4 v_l13 us_l13 l13] R ∧ us_l13.length = l13.length) ?_ ?_
   ·exact ⟨_, l, true, v_l, us_l, _, upds_of _ _ ⟨rfl, rfl, rfl, trivial⟩, hi27z, H, hus_l⟩
   ·rintro m31z σ w29z ⟨l13, changed7, v_l13, us_l13, ρ, rfl, hI30z, H, hus_l13⟩
    obtain ⟨m32z, lt33z, x34z, hM, hN35z⟩ := M.e_iterN hI30z
    simp only [m_nilometerref13_behind_b15] at hM
    clear hI30z
    refine W.seq <| W.seq <| W.region rfl <| s_val (x_mv (v := B changed7) rfl) <| s_nil ?_
    refine W.cond changed7 rfl (fun c36z => ?_) (fun c36z => ?_)
    ·replace hM := M.e_t hM c36z
     refine W.skip <| W.block <| W.seq <| W.region rfl <| s_val (x_as (v := B false) rfl) <| s_nil <| W.seq <| W.region rfl ?_
     refine s_val (x_as (v := I 0) rfl) <| s_nil <| W.block ?_
     obtain ⟨ex37z, hi38z, hk39z⟩ := M.e_bind hM
     obtain ⟨m0_, hi38z⟩ := M.e_iter hi38z
     refine W.loop (fun m σ W => ∃ (l10 : List (List Bool)) (changed5 : Bool) (b : Nat) (v_l10 : Value) (us_l10 : List SV) (ρ : Env), σ = upds ρ [(0, v_w_), (3, v_l10), (5, B changed5), (6, I (b : Int))] ∧ M.iterN (m_nilometerref13_behind_b14 w_) m (l10, changed5, b) = some ex37z ∧ St w W [cMat (α := Bool) 147 4 v_l10 us_l10 l10] R ∧ us_l10.length = l10.length) ?_ ?_
     ·exact ⟨_, l13, false, 0, v_l13, us_l13, _, upds_of _ _ ⟨rfl, rfl, rfl, rfl, trivial⟩, hi38z, H, hus_l13⟩
     ·rintro m42z σ w40z ⟨l10, changed5, b, v_l10, us_l10, ρ, rfl, hI41z, H, hus_l10⟩
      obtain ⟨m43z, lt44z, x45z, hM, hN46z⟩ := M.e_iterN hI41z
      simp only [m_nilometerref13_behind_b14] at hM
      clear hI41z
      refine W.seq <| W.seq <| W.region rfl <| s_val (x_mv (v := I (b : Int)) rfl) <| s_val (x_mv (v := v_w_) rfl) ?_
      have hl47z := (hs_w_).len_le
      refine s_val (x_lenS T39.und rfl hs_w_) <| s_val (x_cmp (kd := .i64) (a := (b : Int)) (b := (w_.length : Int)) (r := decide ((b : Int) < (w_.length : Int))) rfl rfl rfl) <| s_nil ?_
      refine W.cond (decide ((b : Int) < (w_.length : Int))) rfl (fun c48z => ?_) (fun c48z => ?_)
      ·replace hM := M.e_t hM c48z
       simp only [q1, q2, q3, q4, q5, q6, ne_eq, q7] at c48z
       refine W.skip <| W.seq <| W.block <| W.seq <| W.region rfl <| s_val (x_as (v := I 0) rfl) <| s_nil <| W.block ?_
       obtain ⟨ex49z, hi50z, hk51z⟩ := M.e_bind hM
       obtain ⟨m0_, hi50z⟩ := M.e_iter hi50z
       refine W.loop (fun m σ W => ∃ (l7 : List (List Bool)) (changed3 : Bool) (k : Nat) (v_l7 : Value) (us_l7 : List SV) (ρ : Env), σ = upds ρ [(0, v_w_), (3, v_l7), (5, B changed3), (6, I (b : Int)), (7, I (k : Int))] ∧ M.iterN (m_nilometerref13_behind_b13 w_ b) m (l7, changed3, k) = some ex49z ∧ St w W [cMat (α := Bool) 147 4 v_l7 us_l7 l7] R ∧ us_l7.length = l7.length) ?_ ?_
       ·exact ⟨_, l10, changed5, 0, v_l10, us_l10, _, upds_of _ _ ⟨rfl, rfl, rfl, rfl, rfl, trivial⟩, hi50z, H, hus_l10⟩
       ·rintro m54z σ w52z ⟨l7, changed3, k, v_l7, us_l7, ρ, rfl, hI53z, H, hus_l7⟩
        obtain ⟨m55z, lt56z, x57z, hM, hN58z⟩ := M.e_iterN hI53z
        simp only [m_nilometerref13_behind_b13] at hM
        clear hI53z
        refine W.seq <| W.seq <| W.region rfl <| s_val (x_mv (v := I (k : Int)) rfl) <| s_val (x_mv (v := v_w_) rfl) <| s_val (x_mv (v := I (b : Int)) rfl) ?_
        obtain ⟨sd59z, hM⟩ := M.e_grd hM
        simp only [Bool.and_eq_true, decide_eq_true_eq] at sd59z
        refine s_val (x_ix (a := v_w_) (b := I (b : Int)) (v := vat v_w_ 3 (Int.toNat (b : Int))) rfl rfl (Sl.ix (α := Work) T39.und T39.size hs_w_ (by omega) (by omega))) <| s_val (x_fa (a := vat v_w_ 3 (Int.toNat (b : Int))) (v := fat (vat v_w_ 3 (Int.toNat (b : Int))) 0) rfl (fa_pl Fd138_0 Sz34 (Sl.pl (i := (b : Int)) hs_w_ (by omega) (by omega)))) ?_
        obtain ⟨u60z, ha_u60z, hs61z⟩ := Work_at0 hs_w_ (i := (b : Int)) (by omega) (by omega)
        replace hs61z : Sl _ u60z (w_.getD b default).of := hs61z
        have hl_hs61z := hs61z.len_le
        refine s_val (x_ld (p := fat (vat v_w_ 3 (Int.toNat (b : Int))) 0) (v := u60z) rfl (ld_sc Sc34 (At.mono (ha_u60z) (hC_w_.at H)))) ?_
        have hl62z := (hs61z).len_le
        refine s_val (x_lenS T34.und rfl hs61z) <| s_val (x_cmp (kd := .i64) (a := (k : Int)) (b := (((w_.getD b default).of).length : Int)) (r := decide ((k : Int) < (((w_.getD b default).of).length : Int))) rfl rfl rfl) <| s_nil ?_
        refine W.cond (decide ((k : Int) < (((w_.getD b default).of).length : Int))) rfl (fun c63z => ?_) (fun c63z => ?_)
        ·replace hM := M.e_t hM c63z
         simp only [q1, q2, q3, q4, q5, q6, ne_eq, q7] at c63z
         refine W.skip <| W.seq <| W.block <| W.seq <| W.region rfl <| s_val (x_mv (v := v_w_) rfl) <| s_val (x_mv (v := I (b : Int)) rfl) <| s_val (x_ix (a := v_w_) (b := I (b : Int)) (v := vat v_w_ 3 (Int.toNat (b : Int))) rfl rfl (Sl.ix (α := Work) T39.und T39.size hs_w_ (by omega) (by omega))) ?_
         refine s_val (x_fa (a := vat v_w_ 3 (Int.toNat (b : Int))) (v := fat (vat v_w_ 3 (Int.toNat (b : Int))) 0) rfl (fa_pl Fd138_0 Sz34 (Sl.pl (i := (b : Int)) hs_w_ (by omega) (by omega)))) ?_
         obtain ⟨u64z, ha_u64z, hs65z⟩ := Work_at0 hs_w_ (i := (b : Int)) (by omega) (by omega)
         replace hs65z : Sl _ u64z (w_.getD b default).of := hs65z
         have hl_hs65z := hs65z.len_le
         refine s_val (x_ld (p := fat (vat v_w_ 3 (Int.toNat (b : Int))) 0) (v := u64z) rfl (ld_sc Sc34 (At.mono (ha_u64z) (hC_w_.at H)))) <| s_val (x_mv (v := I (k : Int)) rfl) ?_
         obtain ⟨sd66z, hM⟩ := M.e_grd hM
         simp only [Bool.and_eq_true, decide_eq_true_eq] at sd66z
         refine s_val (x_ix (a := u64z) (b := I (k : Int)) (v := vat u64z 1 (Int.toNat (k : Int))) rfl rfl (Sl.ix (α := Int) T34.und T34.size hs65z (by omega) (by omega))) <| s_val (x_ld (p := vat u64z 1 (Int.toNat (k : Int))) (v := I (((w_.getD b default).of).getD k 0)) rfl (ld_sc Sc3 (At.mono (Int_at hs65z (i := (k : Int)) (by omega) (by omega)) (hC_w_.at H)))) <| s_val (x_as (v := I (((w_.getD b default).of).getD k 0)) rfl) <| s_nil <| W.seq <| W.region rfl <| s_val (x_as (v := I 0) rfl) <| s_nil ?_
         refine W.block ?_
         obtain ⟨ex67z, hi68z, hk69z⟩ := M.e_bind hM
         obtain ⟨m0_, hi68z⟩ := M.e_iter hi68z
         refine W.loop (fun m σ W => ∃ (l4 : List (List Bool)) (changed : Bool) (a : Nat) (v_l4 : Value) (us_l4 : List SV) (ρ : Env), σ = upds ρ [(0, v_w_), (3, v_l4), (5, B changed), (6, I (b : Int)), (7, I (k : Int)), (8, I (((w_.getD b default).of).getD k 0)), (9, I (a : Int))] ∧ M.iterN (m_nilometerref13_behind_b12 w_ b k) m (l4, changed, a) = some ex67z ∧ St w W [cMat (α := Bool) 147 4 v_l4 us_l4 l4] R ∧ us_l4.length = l4.length) ?_ ?_
         ·exact ⟨_, l7, changed3, 0, v_l7, us_l7, _, upds_of _ _ ⟨rfl, rfl, rfl, rfl, rfl, rfl, rfl, trivial⟩, hi68z, H, hus_l7⟩
         ·rintro m72z σ w70z ⟨l4, changed, a, v_l4, us_l4, ρ, rfl, hI71z, H, hus_l4⟩
          obtain ⟨m73z, lt74z, x75z, hM, hN76z⟩ := M.e_iterN hI71z
          simp only [m_nilometerref13_behind_b12] at hM
          clear hI71z
          refine W.seq <| W.seq <| W.region rfl <| s_val (x_mv (v := I (a : Int)) rfl) <| s_val (x_mv (v := v_w_) rfl) ?_
          have hl77z := (hs_w_).len_le
          refine s_val (x_lenS T39.und rfl hs_w_) <| s_val (x_cmp (kd := .i64) (a := (a : Int)) (b := (w_.length : Int)) (r := decide ((a : Int) < (w_.length : Int))) rfl rfl rfl) <| s_nil ?_
          refine W.cond (decide ((a : Int) < (w_.length : Int))) rfl (fun c78z => ?_) (fun c78z => ?_)
          ·replace hM := M.e_t hM c78z
           simp only [q1, q2, q3, q4, q5, q6, ne_eq, q7] at c78z
           refine W.skip <| W.seq <| W.block <| W.seq <| W.region rfl <| s_val (x_mv (v := I (a : Int)) rfl) <| s_val (x_mv (v := I (((w_.getD b default).of).getD k 0)) rfl) <| s_val (x_cmp (kd := .i64) (a := (a : Int)) (b := ((w_.getD b default).of).getD k 0) (r := (a : Int) == (((w_.getD b default).of).getD k 0)) rfl rfl rfl) ?_
           refine s_val (x_mv (v := B ((a : Int) == (((w_.getD b default).of).getD k 0))) rfl) <| g_val (!((a : Int) == (((w_.getD b default).of).getD k 0))) (gy_f rfl) (fun hg => x_mv (v := v_l4) rfl) <| g_val (!((a : Int) == (((w_.getD b default).of).getD k 0))) (gy_f rfl) (fun hg => x_mv (v := I (a : Int)) rfl) ?_
           obtain ⟨sd79z, hM⟩ := M.e_grd hM
           replace sd79z := M.imp_of sd79z
           simp only [Bool.and_eq_true, decide_eq_true_eq] at sd79z
           refine g_val (!((a : Int) == (((w_.getD b default).of).getD k 0))) (gy_f rfl) (fun hg => x_ix (a := v_l4) (b := I (a : Int)) (v := vat v_l4 1 (Int.toNat (a : Int))) (gd_of (c := !((a : Int) == (((w_.getD b default).of).getD k 0))) hg (v_l4)) (gd_of (c := !((a : Int) == (((w_.getD b default).of).getD k 0))) hg (I (a : Int))) (Sl.ix (α := SV) T145.und T145.size (ownSl (matOuter (H.get (k := 0) rfl))) (by have hu_ := hus_l4; have h1_ := sd79z.resolve_left (by rw [hg]; decide); first | omega | (have hx_ := hg; simp at hx_; omega)) (by have hu_ := hus_l4; have h1_ := sd79z.resolve_left (by rw [hg]; decide); first | omega | (have hx_ := hg; simp at hx_; omega)))) <| g_val (!((a : Int) == (((w_.getD b default).of).getD k 0))) (gy_f rfl) (fun hg => x_ld (p := vat v_l4 1 (Int.toNat (a : Int))) (v := ((us_l4).getD a default).v) (gd_of (c := !((a : Int) == (((w_.getD b default).of).getD k 0))) hg (vat v_l4 1 (Int.toNat (a : Int)))) (ld_sc Sc147 (At.mono (matCells (i := (a : Int)) (H.get (k := 0) rfl) hus_l4 (by have hu_ := hus_l4; have h1_ := sd79z.resolve_left (by rw [hg]; decide); first | omega | (have hx_ := hg; simp at hx_; omega)) (by have hu_ := hus_l4; have h1_ := sd79z.resolve_left (by rw [hg]; decide); first | omega | (have hx_ := hg; simp at hx_; omega))) (ownLe _ (matOuter (H.get (k := 0) rfl)))))) <| g_val (!((a : Int) == (((w_.getD b default).of).getD k 0))) (gy_f rfl) (fun hg => x_mv (v := I (((w_.getD b default).of).getD k 0)) rfl) ?_
           obtain ⟨sd80z, hM⟩ := M.e_grd hM
           replace sd80z := M.imp_of sd80z
           simp only [Bool.and_eq_true, decide_eq_true_eq] at sd80z
           refine g_val (!((a : Int) == (((w_.getD b default).of).getD k 0))) (gy_f rfl) (fun hg => x_ix (a := (((us_l4).getD a default).v)) (b := I (((w_.getD b default).of).getD k 0)) (v := vat (((us_l4).getD a default).v) 1 (Int.toNat (((w_.getD b default).of).getD k 0))) (gd_of (c := !((a : Int) == (((w_.getD b default).of).getD k 0))) hg (((us_l4).getD a default).v)) (gd_of (c := !((a : Int) == (((w_.getD b default).of).getD k 0))) hg (I (((w_.getD b default).of).getD k 0))) (Sl.ix (α := Bool) T147.und T147.size (ownSl (matRow (H.get (k := 0) rfl) hus_l4 (by have hu_ := hus_l4; have h1_ := sd79z.resolve_left (by rw [hg]; decide); have h2_ := sd80z.resolve_left (by rw [hg]; decide); first | omega | (have hx_ := hg; simp at hx_; omega)))) (by have h1_ := sd79z.resolve_left (by rw [hg]; decide); have h2_ := sd80z.resolve_left (by rw [hg]; decide); first | omega | (have hx_ := hg; simp at hx_; omega)) (by have h1_ := sd79z.resolve_left (by rw [hg]; decide); have h2_ := sd80z.resolve_left (by rw [hg]; decide); first | omega | (have hx_ := hg; simp at hx_; omega)))) <| g_val (!((a : Int) == (((w_.getD b default).of).getD k 0))) (gy_f rfl) (fun hg => x_ld (p := vat (((us_l4).getD a default).v) 1 (Int.toNat (((w_.getD b default).of).getD k 0))) (v := B ((l4.getD a ([])).getD (Int.toNat (((w_.getD b default).of).getD k 0)) false)) (gd_of (c := !((a : Int) == (((w_.getD b default).of).getD k 0))) hg (vat (((us_l4).getD a default).v) 1 (Int.toNat (((w_.getD b default).of).getD k 0)))) (ld_sc Sc4 (At.mono (Bool_at (ownSl (matRow (H.get (k := 0) rfl) hus_l4 (by have hu_ := hus_l4; have h1_ := sd79z.resolve_left (by rw [hg]; decide); have h2_ := sd80z.resolve_left (by rw [hg]; decide); first | omega | (have hx_ := hg; simp at hx_; omega)))) (i := ((w_.getD b default).of).getD k 0) (by have h1_ := sd79z.resolve_left (by rw [hg]; decide); have h2_ := sd80z.resolve_left (by rw [hg]; decide); first | omega | (have hx_ := hg; simp at hx_; omega)) (by have h1_ := sd79z.resolve_left (by rw [hg]; decide); have h2_ := sd80z.resolve_left (by rw [hg]; decide); first | omega | (have hx_ := hg; simp at hx_; omega))) (ownLe _ (matRow (H.get (k := 0) rfl) hus_l4 (by have hu_ := hus_l4; have h1_ := sd79z.resolve_left (by rw [hg]; decide); have h2_ := sd80z.resolve_left (by rw [hg]; decide); first | omega | (have hx_ := hg; simp at hx_; omega))))))) <| s_val (x_por (b := (a : Int) == (((w_.getD b default).of).getD k 0)) (r := (l4.getD a ([])).getD (Int.toNat (((w_.getD b default).of).getD k 0)) false) rfl rfl (fun hb => gd_of (c := !((a : Int) == (((w_.getD b default).of).getD k 0))) (by simp_all) (B ((l4.getD a ([])).getD (Int.toNat (((w_.getD b default).of).getD k 0)) false)))) <| s_val (x_mv (v := B (((a : Int) == (((w_.getD b default).of).getD k 0)) || ((l4.getD a ([])).getD (Int.toNat (((w_.getD b default).of).getD k 0)) false))) rfl) <| g_val (((a : Int) == (((w_.getD b default).of).getD k 0)) || ((l4.getD a ([])).getD (Int.toNat (((w_.getD b default).of).getD k 0)) false)) (gy_t rfl) (fun hg => x_mv (v := v_l4) rfl) <| g_val (((a : Int) == (((w_.getD b default).of).getD k 0)) || ((l4.getD a ([])).getD (Int.toNat (((w_.getD b default).of).getD k 0)) false)) (gy_t rfl) (fun hg => x_mv (v := I (a : Int)) rfl) ?_
           obtain ⟨sd81z, hM⟩ := M.e_grd hM
           replace sd81z := M.imp_of sd81z
           simp only [Bool.and_eq_true, decide_eq_true_eq] at sd81z
           refine g_val (((a : Int) == (((w_.getD b default).of).getD k 0)) || ((l4.getD a ([])).getD (Int.toNat (((w_.getD b default).of).getD k 0)) false)) (gy_t rfl) (fun hg => x_ix (a := v_l4) (b := I (a : Int)) (v := vat v_l4 1 (Int.toNat (a : Int))) (gd_of (c := (((a : Int) == (((w_.getD b default).of).getD k 0)) || ((l4.getD a ([])).getD (Int.toNat (((w_.getD b default).of).getD k 0)) false))) hg (v_l4)) (gd_of (c := (((a : Int) == (((w_.getD b default).of).getD k 0)) || ((l4.getD a ([])).getD (Int.toNat (((w_.getD b default).of).getD k 0)) false))) hg (I (a : Int))) (Sl.ix (α := SV) T145.und T145.size (ownSl (matOuter (H.get (k := 0) rfl))) (by have hu_ := hus_l4; have h1_ := sd81z.resolve_left (by rw [hg]; decide); first | omega | (have hx_ := hg; simp at hx_; omega)) (by have hu_ := hus_l4; have h1_ := sd81z.resolve_left (by rw [hg]; decide); first | omega | (have hx_ := hg; simp at hx_; omega)))) <| g_val (((a : Int) == (((w_.getD b default).of).getD k 0)) || ((l4.getD a ([])).getD (Int.toNat (((w_.getD b default).of).getD k 0)) false)) (gy_t rfl) (fun hg => x_ld (p := vat v_l4 1 (Int.toNat (a : Int))) (v := ((us_l4).getD a default).v) (gd_of (c := (((a : Int) == (((w_.getD b default).of).getD k 0)) || ((l4.getD a ([])).getD (Int.toNat (((w_.getD b default).of).getD k 0)) false))) hg (vat v_l4 1 (Int.toNat (a : Int)))) (ld_sc Sc147 (At.mono (matCells (i := (a : Int)) (H.get (k := 0) rfl) hus_l4 (by have hu_ := hus_l4; have h1_ := sd81z.resolve_left (by rw [hg]; decide); first | omega | (have hx_ := hg; simp at hx_; omega)) (by have hu_ := hus_l4; have h1_ := sd81z.resolve_left (by rw [hg]; decide); first | omega | (have hx_ := hg; simp at hx_; omega))) (ownLe _ (matOuter (H.get (k := 0) rfl)))))) <| g_val (((a : Int) == (((w_.getD b default).of).getD k 0)) || ((l4.getD a ([])).getD (Int.toNat (((w_.getD b default).of).getD k 0)) false)) (gy_t rfl) (fun hg => x_mv (v := I (b : Int)) rfl) ?_
           obtain ⟨sd82z, hM⟩ := M.e_grd hM
           replace sd82z := M.imp_of sd82z
           simp only [Bool.and_eq_true, decide_eq_true_eq] at sd82z
           refine g_val (((a : Int) == (((w_.getD b default).of).getD k 0)) || ((l4.getD a ([])).getD (Int.toNat (((w_.getD b default).of).getD k 0)) false)) (gy_t rfl) (fun hg => x_ix (a := (((us_l4).getD a default).v)) (b := I (b : Int)) (v := vat (((us_l4).getD a default).v) 1 (Int.toNat (b : Int))) (gd_of (c := (((a : Int) == (((w_.getD b default).of).getD k 0)) || ((l4.getD a ([])).getD (Int.toNat (((w_.getD b default).of).getD k 0)) false))) hg (((us_l4).getD a default).v)) (gd_of (c := (((a : Int) == (((w_.getD b default).of).getD k 0)) || ((l4.getD a ([])).getD (Int.toNat (((w_.getD b default).of).getD k 0)) false))) hg (I (b : Int))) (Sl.ix (α := Bool) T147.und T147.size (ownSl (matRow (H.get (k := 0) rfl) hus_l4 (by have hu_ := hus_l4; have h1_ := sd81z.resolve_left (by rw [hg]; decide); have h2_ := sd82z.resolve_left (by rw [hg]; decide); first | omega | (have hx_ := hg; simp at hx_; omega)))) (by have h1_ := sd81z.resolve_left (by rw [hg]; decide); have h2_ := sd82z.resolve_left (by rw [hg]; decide); first | omega | (have hx_ := hg; simp at hx_; omega)) (by have h1_ := sd81z.resolve_left (by rw [hg]; decide); have h2_ := sd82z.resolve_left (by rw [hg]; decide); first | omega | (have hx_ := hg; simp at hx_; omega)))) <| g_val (((a : Int) == (((w_.getD b default).of).getD k 0)) || ((l4.getD a ([])).getD (Int.toNat (((w_.getD b default).of).getD k 0)) false)) (gy_t rfl) (fun hg => x_ld (p := vat (((us_l4).getD a default).v) 1 (Int.toNat (b : Int))) (v := B ((l4.getD a ([])).getD b false)) (gd_of (c := (((a : Int) == (((w_.getD b default).of).getD k 0)) || ((l4.getD a ([])).getD (Int.toNat (((w_.getD b default).of).getD k 0)) false))) hg (vat (((us_l4).getD a default).v) 1 (Int.toNat (b : Int)))) (ld_sc Sc4 (At.mono (Bool_at (ownSl (matRow (H.get (k := 0) rfl) hus_l4 (by have hu_ := hus_l4; have h1_ := sd81z.resolve_left (by rw [hg]; decide); have h2_ := sd82z.resolve_left (by rw [hg]; decide); first | omega | (have hx_ := hg; simp at hx_; omega)))) (i := (b : Int)) (by have h1_ := sd81z.resolve_left (by rw [hg]; decide); have h2_ := sd82z.resolve_left (by rw [hg]; decide); first | omega | (have hx_ := hg; simp at hx_; omega)) (by have h1_ := sd81z.resolve_left (by rw [hg]; decide); have h2_ := sd82z.resolve_left (by rw [hg]; decide); first | omega | (have hx_ := hg; simp at hx_; omega))) (ownLe _ (matRow (H.get (k := 0) rfl) hus_l4 (by have hu_ := hus_l4; have h1_ := sd81z.resolve_left (by rw [hg]; decide); have h2_ := sd82z.resolve_left (by rw [hg]; decide); first | omega | (have hx_ := hg; simp at hx_; omega))))))) <| g_val (((a : Int) == (((w_.getD b default).of).getD k 0)) || ((l4.getD a ([])).getD (Int.toNat (((w_.getD b default).of).getD k 0)) false)) (gy_t rfl) (fun hg => x_not (b := (l4.getD a ([])).getD b false) (gd_of (c := (((a : Int) == (((w_.getD b default).of).getD k 0)) || ((l4.getD a ([])).getD (Int.toNat (((w_.getD b default).of).getD k 0)) false))) hg (B ((l4.getD a ([])).getD b false)))) <| s_val (x_pand (b := (((a : Int) == (((w_.getD b default).of).getD k 0)) || ((l4.getD a ([])).getD (Int.toNat (((w_.getD b default).of).getD k 0)) false))) (r := !((l4.getD a ([])).getD b false)) rfl (fun hb => gd_of (c := (((a : Int) == (((w_.getD b default).of).getD k 0)) || ((l4.getD a ([])).getD (Int.toNat (((w_.getD b default).of).getD k 0)) false))) (by simp_all) (B (!((l4.getD a ([])).getD b false)))) rfl) <| s_nil ?_
           refine W.cond ((((a : Int) == (((w_.getD b default).of).getD k 0)) || ((l4.getD a ([])).getD (Int.toNat (((w_.getD b default).of).getD k 0)) false)) && (!((l4.getD a ([])).getD b false))) rfl (fun c83z => ?_) (fun c83z => ?_)
           ·replace hM := M.e_t hM c83z
            refine W.seq <| W.region rfl <| s_val (x_mv (v := v_l4) rfl) <| s_val (x_mv (v := I (a : Int)) rfl) ?_
            obtain ⟨sd84z, hM⟩ := M.e_grd hM
            simp only [Bool.and_eq_true, decide_eq_true_eq] at sd84z
            refine s_val (x_ix (a := v_l4) (b := I (a : Int)) (v := vat v_l4 1 (Int.toNat (a : Int))) rfl rfl (Sl.ix (α := SV) T145.und T145.size (ownSl (matOuter (H.get (k := 0) rfl))) (by have hu_ := hus_l4; omega) (by have hu_ := hus_l4; omega))) <| s_val (x_ld (p := vat v_l4 1 (Int.toNat (a : Int))) (v := ((us_l4).getD a default).v) rfl (ld_sc Sc147 (At.mono (matCells (i := (a : Int)) (H.get (k := 0) rfl) hus_l4 (by have hu_ := hus_l4; omega) (by have hu_ := hus_l4; omega)) (ownLe _ (matOuter (H.get (k := 0) rfl)))))) <| s_val (x_mv (v := I (b : Int)) rfl) ?_
            obtain ⟨sd85z, hM⟩ := M.e_grd hM
            simp only [Bool.and_eq_true, decide_eq_true_eq] at sd85z
            refine s_val (x_ix (a := (((us_l4).getD a default).v)) (b := I (b : Int)) (v := vat (((us_l4).getD a default).v) 1 (Int.toNat (b : Int))) rfl rfl (Sl.ix (α := Bool) T147.und T147.size (ownSl (matRow (H.get (k := 0) rfl) hus_l4 (by have hu_ := hus_l4; omega))) (by omega) (by omega))) ?_
            refine t_matst (k := 0) (i := a) (j := (b : Int)) (T := l4) (T' := l4.set a ((l4.getD a ([])).set b true)) (L' := [cMat (α := Bool) 147 4 v_l4 us_l4 (l4.set a ((l4.getD a ([])).set b true))]) H rfl hus_l4 Sz4 (by have hu_ := hus_l4; omega) (by omega) (by omega) true rfl rfl rfl rfl rfl ?_
            intro w86z H
            have hus87z : (us_l4).length = (l4.set a ((l4.getD a ([])).set b true)).length := hus_l4.trans (List.length_set).symm
            refine s_nil <| W.region rfl <| s_val (x_as (v := B true) rfl) <| s_nil <| W.region rfl <| s_val (x_mv (v := I (a : Int)) rfl) <| s_val (x_ari (a := (a : Int)) (b := 1) (r := (a : Int) + 1) rfl rfl rfl (by omega)) <| s_val (x_as (v := I ((a : Int) + 1)) rfl) ?_
            refine s_nil ?_
            exact ⟨m73z, lt74z, l4.set a ((l4.getD a ([])).set b true), true, a + 1, v_l4, us_l4, _, upds_of _ _ ⟨rfl, rfl, rfl, rfl, rfl, rfl, rfl, trivial⟩, M.e_inl hM hN76z, H, hus87z⟩
           ·replace hM := M.e_f hM c83z
            refine W.skip <| W.region rfl <| s_val (x_mv (v := I (a : Int)) rfl) <| s_val (x_ari (a := (a : Int)) (b := 1) (r := (a : Int) + 1) rfl rfl rfl (by omega)) <| s_val (x_as (v := I ((a : Int) + 1)) rfl) <| s_nil ?_
            exact ⟨m73z, lt74z, l4, changed, a + 1, v_l4, us_l4, _, upds_of _ _ ⟨rfl, rfl, rfl, rfl, rfl, rfl, rfl, trivial⟩, M.e_inl hM hN76z, H, hus_l4⟩
          ·replace hM := M.e_f hM c78z
           simp only [q1, q2, q3, q4, q5, q6, ne_eq, q7] at c78z
           refine W.exit ?_
           have hX88z := M.e_inr hM hN76z
           subst hX88z
           replace hM := hk69z
           try dsimp only at hM
           refine W.region rfl <| s_val (x_mv (v := I (k : Int)) rfl) <| s_val (x_ari (a := (k : Int)) (b := 1) (r := (k : Int) + 1) rfl rfl rfl (by omega)) <| s_val (x_as (v := I ((k : Int) + 1)) rfl) <| s_nil ?_
           exact ⟨m55z, lt56z, l4, changed, k + 1, v_l4, us_l4, _, upds_of _ _ ⟨rfl, rfl, rfl, rfl, rfl, trivial⟩, M.e_inl hM hN58z, H, hus_l4⟩
        ·replace hM := M.e_f hM c63z
         simp only [q1, q2, q3, q4, q5, q6, ne_eq, q7] at c63z
         refine W.exit ?_
         have hX89z := M.e_inr hM hN58z
         subst hX89z
         replace hM := hk51z
         try dsimp only at hM
         refine W.region rfl <| s_val (x_mv (v := I (b : Int)) rfl) <| s_val (x_ari (a := (b : Int)) (b := 1) (r := (b : Int) + 1) rfl rfl rfl (by omega)) <| s_val (x_as (v := I ((b : Int) + 1)) rfl) <| s_nil ?_
         exact ⟨m43z, lt44z, l7, changed3, b + 1, v_l7, us_l7, _, upds_of _ _ ⟨rfl, rfl, rfl, rfl, trivial⟩, M.e_inl hM hN46z, H, hus_l7⟩
      ·replace hM := M.e_f hM c48z
       simp only [q1, q2, q3, q4, q5, q6, ne_eq, q7] at c48z
       refine W.exit ?_
       have hX90z := M.e_inr hM hN46z
       subst hX90z
       replace hM := hk39z
       try dsimp only at hM
       exact ⟨m32z, lt33z, l10, changed5, v_l10, us_l10, _, upds_of _ _ ⟨rfl, rfl, rfl, trivial⟩, M.e_inl hM hN35z, H, hus_l10⟩
    ·replace hM := M.e_f hM c36z
     refine W.exit ?_
     have hX91z := M.e_inr hM hN35z
     subst hX91z
     replace hM := hk28z
     try dsimp only at hM
     refine W.seq <| W.region rfl <| s_val (x_mv (v := v_l13) rfl) <| s_val (x_as (v := v_l13) rfl) <| s_nil ?_
     refine W.ret ?_
     obtain ⟨Bs_5, H, hs92z⟩ := H.matE (k := 0) rfl hus_l13
     replace H : St w w29z [cRo Bs_5] R := H
     have hr_ := M.e_pure hM
     exact ⟨_, resE_tmp rfl, ⟨l13, v_l13, Bs_5, hr_, rfl, H, hs92z⟩⟩

def m_nilometerref13_Check_b0 (w_ : List Work) (r2 : List (List Bool)) : Nat → M (Nat ⊕ (Unit ⊕ Unit)) := fun i =>
  bif decide ((i : Int) < (w_.length : Int)) then (
  M.grd (decide ((i : Int) < (r2.length : Int))) <|
  M.grd (decide ((i : Int) < ((r2.getD i ([])).length : Int))) <|
  bif (r2.getD i ([])).getD i false then (
  M.pure (.inr (.inl ())))
  else (
  M.pure (.inl (i + 1))))
  else (
  M.pure (.inr (.inr ())))
def m_nilometerref13_Check (w_ : List Work) : M Int :=
  bif (rightE w_) != 0 then (
  M.pure (rightE w_))
  else (
  M.bind (m_nilometerref13_behind w_) fun r2 =>
  M.bind (M.iter (m_nilometerref13_Check_b0 w_ r2) 0) fun x_ => match x_ with
  | (.inl (_ : Unit)) => (
  M.pure 9)
  | (.inr (_ : Unit)) => (
  M.pure 0))
set_option maxRecDepth 100000 in
set_option maxHeartbeats 16000000 in
theorem nilometerref13_Check_ok {R : List Chunk} {C_w_ : Cells} {v_w_ : Value} (w_ : List Work) (hC_w_ : Reads R C_w_) (hs_w_ : Sl C_w_ v_w_ w_) {r : Int} (hM : (m_nilometerref13_Check w_).Ends r) (w : World) (H : St w w [] R) : Ret Try.prog 71 #[v_w_] w fun v w' => ∃ (y0 : Int), y0 = r ∧ v = I y0 ∧ St w w' [] R := by
 refine ret_of_W Try.func71 rfl rfl rfl ?_
 refine W.seq <| W.region rfl <| s_val (x_as (v := I 0) rfl) <| s_nil <| W.seq <| W.seq <| W.region rfl <| s_val (x_mv (v := v_w_) rfl) ?_
 refine s_call cf135 [v_w_] rfl (refRight _ (hs_w_.mono (hC_w_.at H))) ?_
 rintro _ w1z ⟨rfl, hx_⟩
 replace H : St w w1z [] R := H.ext hx_
 clear hx_
 refine s_val (x_as (v := I (rightE w_)) rfl) <| s_nil <| W.seq <| W.region rfl <| s_val (x_mv (v := I (rightE w_)) rfl) <| s_val (x_cmp (kd := .i64) (a := rightE w_) (b := 0) (r := (rightE w_) != 0) rfl rfl rfl) <| s_nil ?_
 refine W.cond ((rightE w_) != 0) rfl (fun c2z => ?_) (fun c2z => ?_)
 ·replace hM := M.e_t hM c2z
  simp only [q1, q2, q3, q4, q5, q6, ne_eq, q7] at c2z
  refine W.seq <| W.region rfl <| s_val (x_mv (v := I (rightE w_)) rfl) <| s_val (x_as (v := I (rightE w_)) rfl) <| s_nil ?_
  refine W.ret ?_
  have hr_ := M.e_pure hM
  exact ⟨_, resE_tmp rfl, ⟨(rightE w_), hr_, rfl, H⟩⟩
 ·replace hM := M.e_f hM c2z
  simp only [q1, q2, q3, q4, q5, q6, ne_eq, q7] at c2z
  refine W.skip <| W.seq <| W.region rfl <| s_val (x_mv (v := v_w_) rfl) ?_
  obtain ⟨r4z, hx3z, hM⟩ := M.e_bind hM
  refine s_call cf94 [v_w_] rfl (nilometerref13_behind_ok w_ (hC_w_.app _) hs_w_ hx3z _ (St.give (T := []) H rfl)) ?_
  rintro vq w5z ⟨r2, u0_1, Bs1_2, hr6z, hvq, H2_, hf7z⟩
  subst hr6z
  subst vq
  try dsimp only at hM
  replace H : St w w5z [cRo Bs1_2] R := H.back H2_ rfl
  clear H2_
  refine s_val (x_as (v := u0_1) rfl) <| s_nil <| W.seq <| W.seq <| W.region rfl <| s_val (x_as (v := I 0) rfl) <| s_nil <| W.block ?_
  obtain ⟨ex8z, hi9z, hk10z⟩ := M.e_bind hM
  obtain ⟨m0_, hi9z⟩ := M.e_iter hi9z
  refine W.loop (fun m σ W => ∃ (i : Nat) (ρ : Env), σ = upds ρ [(0, v_w_), (4, u0_1), (5, I (i : Int))] ∧ M.iterN (m_nilometerref13_Check_b0 w_ r2) m i = some ex8z ∧ St w W [cRo Bs1_2] R) ?_ ?_
  ·exact ⟨_, 0, _, upds_of _ _ ⟨rfl, rfl, rfl, trivial⟩, hi9z, H⟩
  ·rintro m13z σ w11z ⟨i, ρ, rfl, hI12z, H⟩
   obtain ⟨m14z, lt15z, x16z, hM, hN17z⟩ := M.e_iterN hI12z
   simp only [m_nilometerref13_Check_b0] at hM
   clear hI12z
   refine W.seq <| W.seq <| W.region rfl <| s_val (x_mv (v := I (i : Int)) rfl) <| s_val (x_mv (v := v_w_) rfl) ?_
   have hl18z := (hs_w_).len_le
   refine s_val (x_lenS T39.und rfl hs_w_) <| s_val (x_cmp (kd := .i64) (a := (i : Int)) (b := (w_.length : Int)) (r := decide ((i : Int) < (w_.length : Int))) rfl rfl rfl) <| s_nil ?_
   refine W.cond (decide ((i : Int) < (w_.length : Int))) rfl (fun c19z => ?_) (fun c19z => ?_)
   ·replace hM := M.e_t hM c19z
    simp only [q1, q2, q3, q4, q5, q6, ne_eq, q7] at c19z
    refine W.skip <| W.seq <| W.block <| W.seq <| W.region rfl <| s_val (x_mv (v := u0_1) rfl) <| s_val (x_mv (v := I (i : Int)) rfl) ?_
    obtain ⟨sd20z, hM⟩ := M.e_grd hM
    simp only [Bool.and_eq_true, decide_eq_true_eq] at sd20z
    refine s_val (x_ix (a := u0_1) (b := I (i : Int)) (v := vat u0_1 1 (Int.toNat (i : Int))) rfl rfl (Sl.ix (α := List Bool) T145.und T145.size hf7z (by omega) (by omega))) ?_
    obtain ⟨u21z, ha_u21z, hs22z⟩ := List_at hf7z (i := (i : Int)) (by omega) (by omega)
    replace hs22z : Sl _ u21z (r2.getD i ([])) := hs22z
    have hl_hs22z := hs22z.len_le
    refine s_val (x_ld (p := vat u0_1 1 (Int.toNat (i : Int))) (v := u21z) rfl (ld_sc Sc147 (At.mono (ha_u21z) (roLe _ (H.get (k := 0) rfl))))) <| s_val (x_mv (v := I (i : Int)) rfl) ?_
    obtain ⟨sd23z, hM⟩ := M.e_grd hM
    simp only [Bool.and_eq_true, decide_eq_true_eq] at sd23z
    refine s_val (x_ix (a := u21z) (b := I (i : Int)) (v := vat u21z 1 (Int.toNat (i : Int))) rfl rfl (Sl.ix (α := Bool) T147.und T147.size hs22z (by omega) (by omega))) <| s_val (x_ld (p := vat u21z 1 (Int.toNat (i : Int))) (v := B ((r2.getD i ([])).getD i false)) rfl (ld_sc Sc4 (At.mono (Bool_at hs22z (i := (i : Int)) (by omega) (by omega)) (roLe _ (H.get (k := 0) rfl))))) <| s_nil ?_
    refine W.cond ((r2.getD i ([])).getD i false) rfl (fun c24z => ?_) (fun c24z => ?_)
    ·replace hM := M.e_t hM c24z
     refine W.seq <| W.region rfl <| s_val (x_as (v := I 9) rfl) <| s_nil ?_
     refine W.ret ?_
     have hX25z := M.e_inr hM hN17z
     subst hX25z
     replace hM := hk10z
     try dsimp only at hM
     have hr_ := M.e_pure hM
     exact ⟨_, resE_tmp rfl, ⟨9, hr_, rfl, (H.pick [] (by decide) rfl)⟩⟩
    ·replace hM := M.e_f hM c24z
     refine W.skip <| W.region rfl <| s_val (x_mv (v := I (i : Int)) rfl) <| s_val (x_ari (a := (i : Int)) (b := 1) (r := (i : Int) + 1) rfl rfl rfl (by omega)) <| s_val (x_as (v := I ((i : Int) + 1)) rfl) <| s_nil ?_
     exact ⟨m14z, lt15z, i + 1, _, upds_of _ _ ⟨rfl, rfl, rfl, trivial⟩, M.e_inl hM hN17z, H⟩
   ·replace hM := M.e_f hM c19z
    simp only [q1, q2, q3, q4, q5, q6, ne_eq, q7] at c19z
    refine W.exit ?_
    have hX26z := M.e_inr hM hN17z
    subst hX26z
    replace hM := hk10z
    try dsimp only at hM
    refine W.seq <| W.region rfl <| s_val (x_as (v := I 0) rfl) <| s_nil ?_
    refine W.ret ?_
    have hr_ := M.e_pure hM
    exact ⟨_, resE_tmp rfl, ⟨0, hr_, rfl, (H.pick [] (by decide) rfl)⟩⟩

def m_nilometerref13_Order_b7 (w_ : List Work) (l : List Int) (i : Int) : (Bool × Nat) → M ((Bool × Nat) ⊕ Bool) := fun (ready, k) =>
  M.grd (decide ((0 : Int) ≤ i) && decide (i < (w_.length : Int))) <|
  bif decide ((k : Int) < (((w_.getD (Int.toNat i) default).of).length : Int)) then (
  M.grd ((!ready || (decide ((k : Int) < (((w_.getD (Int.toNat i) default).of).length : Int))))) <|
  M.pure (.inl ((ready && (l.contains (((w_.getD (Int.toNat i) default).of).getD k 0))), k + 1)))
  else (
  M.pure (.inr ready))
def m_nilometerref13_Order_b8 (w_ : List Work) (l : List Int) : (Int × Int) → M ((Int × Int) ⊕ Int) := fun (next, i) =>
  bif decide (0 ≤ i) then (
  M.bind (M.iter (m_nilometerref13_Order_b7 w_ l i) (!(l.contains i), 0)) fun ready2 =>
  bif ready2 then (
  M.grd (decide ((-9223372036854775808 : Int) ≤ (i - 1)) && decide ((i - 1) ≤ (9223372036854775807 : Int))) <|
  M.pure (.inl (i, i - 1)))
  else (
  M.grd (decide ((-9223372036854775808 : Int) ≤ (i - 1)) && decide ((i - 1) ≤ (9223372036854775807 : Int))) <|
  M.pure (.inl (next, i - 1))))
  else (
  M.pure (.inr next))
def m_nilometerref13_Order_b9 (w_ : List Work) : (List Int) → M ((List Int) ⊕ ((List Int) × (List Int))) := fun l =>
  bif decide ((l.length : Int) < (w_.length : Int)) then (
  M.bind (M.iter (m_nilometerref13_Order_b8 w_ l) (-1, (w_.length : Int) - 1)) fun next2 =>
  M.grd (decide ((l.length + ([(next2 : Int)]).length) * 8 ≤ 140737488355328)) <|
  M.pure (.inl (l ++ ([(next2 : Int)]))))
  else (
  M.pure (.inr (l, l)))
def m_nilometerref13_Order (w_ : List Work) : M ((List Int) × Int) :=
  M.bind (m_nilometerref13_Check w_) fun r2 =>
  bif r2 != 0 then (
  M.pure (([]), r2))
  else (
  M.bind (M.iter (m_nilometerref13_Order_b9 w_) []) fun (l2, l3) =>
  M.pure (l3, 0))
set_option maxRecDepth 100000 in
set_option maxHeartbeats 16000000 in
theorem nilometerref13_Order_ok {R : List Chunk} {C_w_ : Cells} {v_w_ : Value} (w_ : List Work) (hC_w_ : Reads R C_w_) (hs_w_ : Sl C_w_ v_w_ w_) {r : ((List Int) × Int)} (hM : (m_nilometerref13_Order w_).Ends r) (w : World) (H : St w w [] R) : Ret Try.prog 72 #[v_w_] w fun v w' => ∃ (y0 : List Int) (y1 : Int) (u0 : Value), (y0, y1) = r ∧ v = .tuple #[u0, I y1] ∧ St w w' [cOwn (α := Int) 3 u0 y0] R := by
 refine ret_of_W Try.func72 rfl rfl rfl ?_
 refine W.seq <| W.region rfl <| s_val (x_as (v := .slice none 0 0) rfl) <| s_val (x_as (v := I 0) rfl) <| s_nil <| W.seq <| W.seq <| W.region rfl ?_
 refine s_val (x_mv (v := v_w_) rfl) ?_
 obtain ⟨r2z, hx1z, hM⟩ := M.e_bind hM
 refine s_call cf71 [v_w_] rfl (nilometerref13_Check_ok w_ (hC_w_.app _) hs_w_ hx1z _ (St.give (T := []) H rfl)) ?_
 rintro vq w3z ⟨r2, hr4z, hvq, H2_⟩
 subst hr4z
 subst vq
 try dsimp only at hM
 replace H : St w w3z [] R := H.back H2_ rfl
 clear H2_
 refine s_val (x_as (v := I r2) rfl) <| s_nil <| W.seq <| W.region rfl <| s_val (x_mv (v := I r2) rfl) <| s_val (x_cmp (kd := .i64) (a := r2) (b := 0) (r := r2 != 0) rfl rfl rfl) <| s_nil ?_
 refine W.cond (r2 != 0) rfl (fun c5z => ?_) (fun c5z => ?_)
 ·replace hM := M.e_t hM c5z
  simp only [q1, q2, q3, q4, q5, q6, ne_eq, q7] at c5z
  refine W.seq <| W.region rfl <| s_val (x_mv (v := I r2) rfl) <| s_val (x_as (v := .slice none 0 0) rfl) <| s_val (x_as (v := I r2) rfl) <| s_nil ?_
  refine W.ret ?_
  have hr_ := M.e_pure hM
  replace H : St w w3z [cOwn (α := Int) 3 (.slice none 0 0) ([])] R := H.nilOwn (α := Int) 3
  exact ⟨_, resE_tmp2 rfl, ⟨([]), r2, (.slice none 0 0), hr_, rfl, H⟩⟩
 ·replace hM := M.e_f hM c5z
  simp only [q1, q2, q3, q4, q5, q6, ne_eq, q7] at c5z
  refine W.skip <| W.seq <| W.region rfl <| s_val (x_as (v := .slice none 0 0) rfl) <| s_nil <| W.seq <| W.block ?_
  replace H : St w w3z [cOwn (α := Int) 3 (.slice none 0 0) ([])] R := H.nilOwn (α := Int) 3
  obtain ⟨ex6z, hi7z, hk8z⟩ := M.e_bind hM
  obtain ⟨m0_, hi7z⟩ := M.e_iter hi7z
  refine W.loop (fun m σ W => ∃ (l : List Int) (v_l : Value) (ρ : Env), σ = upds ρ [(0, v_w_), (5, v_l)] ∧ M.iterN (m_nilometerref13_Order_b9 w_) m l = some ex6z ∧ St w W [cOwn (α := Int) 3 v_l l] R) ?_ ?_
  ·exact ⟨_, [], (.slice none 0 0), _, upds_of _ _ ⟨rfl, rfl, trivial⟩, hi7z, H⟩
  ·rintro m11z σ w9z ⟨l, v_l, ρ, rfl, hI10z, H⟩
   obtain ⟨m12z, lt13z, x14z, hM, hN15z⟩ := M.e_iterN hI10z
   simp only [m_nilometerref13_Order_b9] at hM
   clear hI10z
   refine W.seq <| W.seq <| W.region rfl <| s_val (x_mv (v := v_l) rfl) ?_
   have hl16z := ((ownSl (H.get (k := 0) rfl))).len_le
   refine s_val (x_lenS T34.und rfl (ownSl (H.get (k := 0) rfl))) <| s_val (x_mv (v := v_w_) rfl) ?_
   have hl17z := (hs_w_).len_le
   refine s_val (x_lenS T39.und rfl hs_w_) <| s_val (x_cmp (kd := .i64) (a := (l.length : Int)) (b := (w_.length : Int)) (r := decide ((l.length : Int) < (w_.length : Int))) rfl rfl rfl) <| s_nil ?_
   refine W.cond (decide ((l.length : Int) < (w_.length : Int))) rfl (fun c18z => ?_) (fun c18z => ?_)
   ·replace hM := M.e_t hM c18z
    simp only [q1, q2, q3, q4, q5, q6, ne_eq, q7] at c18z
    refine W.skip <| W.block <| W.seq <| W.region rfl <| s_val (x_as (v := I (-1)) rfl) <| s_nil <| W.seq <| W.seq ?_
    refine W.region rfl <| s_val (x_mv (v := v_w_) rfl) ?_
    have hl19z := (hs_w_).len_le
    refine s_val (x_lenS T39.und rfl hs_w_) <| s_val (x_ari (a := (w_.length : Int)) (b := 1) (r := (w_.length : Int) - 1) rfl rfl rfl (by omega)) <| s_val (x_as (v := I ((w_.length : Int) - 1)) rfl) <| s_nil <| W.block ?_
    obtain ⟨ex20z, hi21z, hk22z⟩ := M.e_bind hM
    obtain ⟨m0_, hi21z⟩ := M.e_iter hi21z
    refine W.loop (fun m σ W => ∃ (next : Int) (i : Int) (ρ : Env), σ = upds ρ [(0, v_w_), (5, v_l), (6, I next), (7, I i)] ∧ M.iterN (m_nilometerref13_Order_b8 w_ l) m (next, i) = some ex20z ∧ St w W [cOwn (α := Int) 3 v_l l] R) ?_ ?_
    ·exact ⟨_, -1, (w_.length : Int) - 1, _, upds_of _ _ ⟨rfl, rfl, rfl, rfl, trivial⟩, hi21z, H⟩
    ·rintro m25z σ w23z ⟨next, i, ρ, rfl, hI24z, H⟩
     obtain ⟨m26z, lt27z, x28z, hM, hN29z⟩ := M.e_iterN hI24z
     simp only [m_nilometerref13_Order_b8] at hM
     clear hI24z
     refine W.seq <| W.seq <| W.region rfl <| s_val (x_mv (v := I i) rfl) <| s_val (x_cmp (kd := .i64) (a := i) (b := 0) (r := decide (0 ≤ i)) rfl rfl rfl) <| s_nil ?_
     refine W.cond (decide (0 ≤ i)) rfl (fun c30z => ?_) (fun c30z => ?_)
     ·replace hM := M.e_t hM c30z
      simp only [q1, q2, q3, q4, q5, q6, ne_eq, q7] at c30z
      refine W.skip <| W.seq <| W.block <| W.seq <| W.region rfl <| s_val (x_mv (v := v_l) rfl) <| s_val (x_mv (v := I i) rfl) ?_
      refine s_call cf95 [v_l, I i] rfl (has_any i _ ((ownSl (H.get (k := 0) rfl)).mono (ownLe _ (H.get (k := 0) rfl)))) ?_
      rintro _ w31z ⟨rfl, hx_⟩
      replace H : St w w31z [cOwn (α := Int) 3 v_l l] R := H.ext hx_
      clear hx_
      refine s_val (x_not (b := l.contains i) rfl) <| s_val (x_as (v := B (!(l.contains i))) rfl) <| s_nil <| W.seq <| W.seq <| W.region rfl <| s_val (x_as (v := I 0) rfl) <| s_nil ?_
      refine W.block ?_
      obtain ⟨ex32z, hi33z, hk34z⟩ := M.e_bind hM
      obtain ⟨m0_, hi33z⟩ := M.e_iter hi33z
      refine W.loop (fun m σ W => ∃ (ready : Bool) (k : Nat) (ρ : Env), σ = upds ρ [(0, v_w_), (5, v_l), (6, I next), (7, I i), (8, B ready), (9, I (k : Int))] ∧ M.iterN (m_nilometerref13_Order_b7 w_ l i) m (ready, k) = some ex32z ∧ St w W [cOwn (α := Int) 3 v_l l] R) ?_ ?_
      ·exact ⟨_, !(l.contains i), 0, _, upds_of _ _ ⟨rfl, rfl, rfl, rfl, rfl, rfl, trivial⟩, hi33z, H⟩
      ·rintro m37z σ w35z ⟨ready, k, ρ, rfl, hI36z, H⟩
       obtain ⟨m38z, lt39z, x40z, hM, hN41z⟩ := M.e_iterN hI36z
       simp only [m_nilometerref13_Order_b7] at hM
       clear hI36z
       refine W.seq <| W.seq <| W.region rfl <| s_val (x_mv (v := I (k : Int)) rfl) <| s_val (x_mv (v := v_w_) rfl) <| s_val (x_mv (v := I i) rfl) ?_
       obtain ⟨sd42z, hM⟩ := M.e_grd hM
       simp only [Bool.and_eq_true, decide_eq_true_eq] at sd42z
       refine s_val (x_ix (a := v_w_) (b := I i) (v := vat v_w_ 3 (Int.toNat i)) rfl rfl (Sl.ix (α := Work) T39.und T39.size hs_w_ (by omega) (by omega))) <| s_val (x_fa (a := vat v_w_ 3 (Int.toNat i)) (v := fat (vat v_w_ 3 (Int.toNat i)) 0) rfl (fa_pl Fd138_0 Sz34 (Sl.pl (i := i) hs_w_ (by omega) (by omega)))) ?_
       obtain ⟨u43z, ha_u43z, hs44z⟩ := Work_at0 hs_w_ (i := i) (by omega) (by omega)
       replace hs44z : Sl _ u43z (w_.getD (Int.toNat i) default).of := hs44z
       have hl_hs44z := hs44z.len_le
       refine s_val (x_ld (p := fat (vat v_w_ 3 (Int.toNat i)) 0) (v := u43z) rfl (ld_sc Sc34 (At.mono (ha_u43z) (hC_w_.at H)))) ?_
       have hl45z := (hs44z).len_le
       refine s_val (x_lenS T34.und rfl hs44z) <| s_val (x_cmp (kd := .i64) (a := (k : Int)) (b := (((w_.getD (Int.toNat i) default).of).length : Int)) (r := decide ((k : Int) < (((w_.getD (Int.toNat i) default).of).length : Int))) rfl rfl rfl) <| s_nil ?_
       refine W.cond (decide ((k : Int) < (((w_.getD (Int.toNat i) default).of).length : Int))) rfl (fun c46z => ?_) (fun c46z => ?_)
       ·replace hM := M.e_t hM c46z
        simp only [q1, q2, q3, q4, q5, q6, ne_eq, q7] at c46z
        refine W.skip <| W.seq <| W.block <| W.region rfl <| s_val (x_mv (v := B ready) rfl) <| s_val (x_mv (v := B ready) rfl) <| g_val ready (gy_t rfl) (fun hg => x_mv (v := v_l) rfl) <| g_val ready (gy_t rfl) (fun hg => x_mv (v := v_w_) rfl) ?_
        refine g_val ready (gy_t rfl) (fun hg => x_mv (v := I i) rfl) <| g_val ready (gy_t rfl) (fun hg => x_ix (a := v_w_) (b := I i) (v := vat v_w_ 3 (Int.toNat i)) (gd_of (c := ready) hg (v_w_)) (gd_of (c := ready) hg (I i)) (Sl.ix (α := Work) T39.und T39.size hs_w_ (by first | omega | (have hx_ := hg; simp at hx_; omega)) (by first | omega | (have hx_ := hg; simp at hx_; omega)))) <| g_val ready (gy_t rfl) (fun hg => x_fa (a := vat v_w_ 3 (Int.toNat i)) (v := fat (vat v_w_ 3 (Int.toNat i)) 0) (gd_of (c := ready) hg (vat v_w_ 3 (Int.toNat i))) (fa_pl Fd138_0 Sz34 (Sl.pl (i := i) hs_w_ (by first | omega | (have hx_ := hg; simp at hx_; omega)) (by first | omega | (have hx_ := hg; simp at hx_; omega))))) ?_
        obtain ⟨u47z, ha_u47z, hs48z⟩ := gd_ex (c := ready) fun hg => Work_at0 hs_w_ (i := i) (by first | omega | (have hx_ := hg; simp at hx_; omega)) (by first | omega | (have hx_ := hg; simp at hx_; omega))
        replace hs48z : ready = true → Sl _ u47z (w_.getD (Int.toNat i) default).of := hs48z
        refine g_val ready (gy_t rfl) (fun hg => x_ld (p := fat (vat v_w_ 3 (Int.toNat i)) 0) (v := u47z) (gd_of (c := ready) hg (fat (vat v_w_ 3 (Int.toNat i)) 0)) (ld_sc Sc34 (At.mono (ha_u47z hg) (hC_w_.at H)))) <| g_val ready (gy_t rfl) (fun hg => x_mv (v := I (k : Int)) rfl) ?_
        obtain ⟨sd49z, hM⟩ := M.e_grd hM
        replace sd49z := M.imp_of sd49z
        simp only [Bool.and_eq_true, decide_eq_true_eq] at sd49z
        refine g_val ready (gy_t rfl) (fun hg => x_ix (a := u47z) (b := I (k : Int)) (v := vat u47z 1 (Int.toNat (k : Int))) (gd_of (c := ready) hg (u47z)) (gd_of (c := ready) hg (I (k : Int))) (Sl.ix (α := Int) T34.und T34.size (hs48z hg) (by have h1_ := sd49z.resolve_left (by rw [hg]; decide); first | omega | (have hx_ := hg; simp at hx_; omega)) (by have h1_ := sd49z.resolve_left (by rw [hg]; decide); first | omega | (have hx_ := hg; simp at hx_; omega)))) <| g_val ready (gy_t rfl) (fun hg => x_ld (p := vat u47z 1 (Int.toNat (k : Int))) (v := I (((w_.getD (Int.toNat i) default).of).getD k 0)) (gd_of (c := ready) hg (vat u47z 1 (Int.toNat (k : Int)))) (ld_sc Sc3 (At.mono (Int_at (hs48z hg) (i := (k : Int)) (by have h1_ := sd49z.resolve_left (by rw [hg]; decide); first | omega | (have hx_ := hg; simp at hx_; omega)) (by have h1_ := sd49z.resolve_left (by rw [hg]; decide); first | omega | (have hx_ := hg; simp at hx_; omega))) (hC_w_.at H)))) ?_
        refine t_gcall ready (gy_t rfl) cf95 (B (l.contains (((w_.getD (Int.toNat i) default).of).getD k 0))) (fun _ => [v_l, I (((w_.getD (Int.toNat i) default).of).getD k 0)]) (fun hg => lst2 (gd_of (c := ready) hg (v_l)) (gd_of (c := ready) hg (I (((w_.getD (Int.toNat i) default).of).getD k 0)))) H (fun hg => Ret.mono (has_any (((w_.getD (Int.toNat i) default).of).getD k 0) _ ((ownSl (H.get (k := 0) rfl)).mono (ownLe _ (H.get (k := 0) rfl)))) fun v_ w_ ⟨hv_, hx_⟩ => ⟨hv_, H.ext hx_⟩) ?_
        intro w50z H
        refine s_val (x_pand (b := ready) (r := l.contains (((w_.getD (Int.toNat i) default).of).getD k 0)) rfl (fun hb => gd_of (c := ready) (by simp_all) (B (l.contains (((w_.getD (Int.toNat i) default).of).getD k 0)))) rfl) <| s_val (x_as (v := B (ready && (l.contains (((w_.getD (Int.toNat i) default).of).getD k 0)))) rfl) <| s_nil <| W.region rfl <| s_val (x_mv (v := I (k : Int)) rfl) <| s_val (x_ari (a := (k : Int)) (b := 1) (r := (k : Int) + 1) rfl rfl rfl (by omega)) <| s_val (x_as (v := I ((k : Int) + 1)) rfl) <| s_nil ?_
        exact ⟨m38z, lt39z, (ready && (l.contains (((w_.getD (Int.toNat i) default).of).getD k 0))), k + 1, _, upds_of _ _ ⟨rfl, rfl, rfl, rfl, rfl, rfl, trivial⟩, M.e_inl hM hN41z, H⟩
       ·replace hM := M.e_f hM c46z
        simp only [q1, q2, q3, q4, q5, q6, ne_eq, q7] at c46z
        refine W.exit ?_
        have hX51z := M.e_inr hM hN41z
        subst hX51z
        replace hM := hk34z
        try dsimp only at hM
        refine W.seq <| W.region rfl <| s_val (x_mv (v := B ready) rfl) <| s_nil ?_
        refine W.cond ready rfl (fun c52z => ?_) (fun c52z => ?_)
        ·replace hM := M.e_t hM c52z
         refine W.region rfl <| s_val (x_mv (v := I i) rfl) <| s_val (x_as (v := I i) rfl) <| s_nil <| W.region rfl <| s_val (x_mv (v := I i) rfl) ?_
         obtain ⟨sd53z, hM⟩ := M.e_grd hM
         simp only [Bool.and_eq_true, decide_eq_true_eq] at sd53z
         refine s_val (x_ari (a := i) (b := 1) (r := i - 1) rfl rfl rfl (by omega)) <| s_val (x_as (v := I (i - 1)) rfl) <| s_nil ?_
         exact ⟨m26z, lt27z, i, i - 1, _, upds_of _ _ ⟨rfl, rfl, rfl, rfl, trivial⟩, M.e_inl hM hN29z, H⟩
        ·replace hM := M.e_f hM c52z
         refine W.skip <| W.region rfl <| s_val (x_mv (v := I i) rfl) ?_
         obtain ⟨sd54z, hM⟩ := M.e_grd hM
         simp only [Bool.and_eq_true, decide_eq_true_eq] at sd54z
         refine s_val (x_ari (a := i) (b := 1) (r := i - 1) rfl rfl rfl (by omega)) <| s_val (x_as (v := I (i - 1)) rfl) <| s_nil ?_
         exact ⟨m26z, lt27z, next, i - 1, _, upds_of _ _ ⟨rfl, rfl, rfl, rfl, trivial⟩, M.e_inl hM hN29z, H⟩
     ·replace hM := M.e_f hM c30z
      simp only [q1, q2, q3, q4, q5, q6, ne_eq, q7] at c30z
      refine W.exit ?_
      have hX55z := M.e_inr hM hN29z
      subst hX55z
      replace hM := hk22z
      try dsimp only at hM
      refine W.region rfl <| s_val (x_mv (v := v_l) rfl) <| s_val (x_mv (v := I next) rfl) ?_
      refine t_bs (α := Int) T34 [I next] [(next : Int)] H rfl (.cons rfl (Flat.rep_enc _ (next : Int)) <| .nil) rfl rfl rfl ?_
      intro v56z w57z H
      obtain ⟨sd58z, hM⟩ := M.e_grd hM
      simp only [Bool.and_eq_true, decide_eq_true_eq] at sd58z
      refine t_app (α := Int) (k := 1) (l := l) (l2 := [(next : Int)]) (l' := l ++ ([(next : Int)])) (vy := v56z) T34 rfl H rfl rfl rfl (ownSl (H.get (k := 0) rfl)) (ownLe _ (H.get (k := 0) rfl)) (rfl) (by first | omega | (simp only [List.length_nil] at *; omega)) ?_
      intro v59z w60z H
      replace H : St w w60z [cOwn (α := Int) 3 v56z ([(next : Int)]), cOwn (α := Int) 3 v59z (l ++ ([(next : Int)]))] R := H
      refine s_val (x_as (v := v59z) rfl) <| s_nil ?_
      exact ⟨m12z, lt13z, l ++ ([(next : Int)]), v59z, _, upds_of _ _ ⟨rfl, rfl, trivial⟩, M.e_inl hM hN15z, (H.pick [1] (by decide) rfl)⟩
   ·replace hM := M.e_f hM c18z
    simp only [q1, q2, q3, q4, q5, q6, ne_eq, q7] at c18z
    refine W.exit ?_
    have hX61z := M.e_inr hM hN15z
    subst hX61z
    replace hM := hk8z
    try dsimp only at hM
    refine W.seq <| W.region rfl <| s_val (x_mv (v := v_l) rfl) <| s_val (x_as (v := v_l) rfl) <| s_val (x_as (v := I 0) rfl) <| s_nil ?_
    refine W.ret ?_
    have hr_ := M.e_pure hM
    exact ⟨_, resE_tmp2 rfl, ⟨l, 0, v_l, hr_, rfl, H⟩⟩

def m_nilometerlaw13_same_b0 (a : List Work) (b : List Work) : Nat → M (Nat ⊕ (Unit ⊕ Unit)) := fun s2 =>
  bif decide ((s2 : Int) < (a.length : Int)) then (
  M.grd (decide ((s2 : Int) < (a.length : Int))) <|
  M.grd (decide ((s2 : Int) < (b.length : Int))) <|
  M.bind (M.pure (decide (((a.getD s2 default).of) = ((b.getD s2 default).of)))) fun s =>
  bif (((((a.getD s2 default).base) != ((b.getD s2 default).base)) || (((a.getD s2 default).minutes) != ((b.getD s2 default).minutes))) || (!s)) then (
  M.pure (.inr (.inl ())))
  else (
  M.pure (.inl (s2 + 1))))
  else (
  M.pure (.inr (.inr ())))
def m_nilometerlaw13_same (a : List Work) (b : List Work) : M Bool :=
  bif (a.length : Int) != (b.length : Int) then (
  M.pure false)
  else (
  M.bind (M.iter (m_nilometerlaw13_same_b0 a b) 0) fun x_ => match x_ with
  | (.inl (_ : Unit)) => (
  M.pure false)
  | (.inr (_ : Unit)) => (
  M.pure true))
set_option maxRecDepth 100000 in
set_option maxHeartbeats 16000000 in
theorem nilometerlaw13_same_ok {R : List Chunk} {C_a : Cells} {v_a : Value} {C_b : Cells} {v_b : Value} (a : List Work) (b : List Work) (hC_a : Reads R C_a) (hs_a : Sl C_a v_a a) (hC_b : Reads R C_b) (hs_b : Sl C_b v_b b) {r : Bool} (hM : (m_nilometerlaw13_same a b).Ends r) (w : World) (H : St w w [] R) : Ret Try.prog 28 #[v_a, v_b] w fun v w' => ∃ (y0 : Bool), y0 = r ∧ v = B y0 ∧ St w w' [] R := by
 refine ret_of_W Try.func28 rfl rfl rfl ?_
 refine W.seq <| W.region rfl <| s_val (x_as (v := B false) rfl) <| s_nil <| W.seq <| W.seq <| W.region rfl <| s_val (x_mv (v := v_a) rfl) ?_
 have hl1z := (hs_a).len_le
 refine s_val (x_lenS T22.und rfl hs_a) <| s_val (x_mv (v := v_b) rfl) ?_
 have hl2z := (hs_b).len_le
 refine s_val (x_lenS T22.und rfl hs_b) <| s_val (x_cmp (kd := .i64) (a := (a.length : Int)) (b := (b.length : Int)) (r := (a.length : Int) != (b.length : Int)) rfl rfl rfl) <| s_nil ?_
 refine W.cond ((a.length : Int) != (b.length : Int)) rfl (fun c3z => ?_) (fun c3z => ?_)
 ·replace hM := M.e_t hM c3z
  simp only [q1, q2, q3, q4, q5, q6, ne_eq, q7] at c3z
  refine W.seq <| W.region rfl <| s_val (x_as (v := B false) rfl) <| s_nil ?_
  refine W.ret ?_
  have hr_ := M.e_pure hM
  exact ⟨_, resE_tmp rfl, ⟨false, hr_, rfl, H⟩⟩
 ·replace hM := M.e_f hM c3z
  simp only [q1, q2, q3, q4, q5, q6, ne_eq, q7] at c3z
  refine W.skip <| W.seq <| W.seq <| W.region rfl <| s_val (x_mv (v := v_a) rfl) ?_
  have hl4z := (hs_a).len_le
  refine s_val (x_lenS T22.und rfl hs_a) <| s_val (x_mv (v := I 0) rfl) <| s_nil <| W.block ?_
  obtain ⟨ex5z, hi6z, hk7z⟩ := M.e_bind hM
  obtain ⟨m0_, hi6z⟩ := M.e_iter hi6z
  refine W.loop (fun m σ W => ∃ (s2 : Nat) (ρ : Env), σ = upds ρ [(0, v_a), (1, v_b), (12, I (a.length : Int)), (13, I (s2 : Int))] ∧ M.iterN (m_nilometerlaw13_same_b0 a b) m s2 = some ex5z ∧ St w W [] R) ?_ ?_
  ·exact ⟨_, 0, _, upds_of _ _ ⟨rfl, rfl, rfl, rfl, trivial⟩, hi6z, H⟩
  ·rintro m10z σ w8z ⟨s2, ρ, rfl, hI9z, H⟩
   obtain ⟨m11z, lt12z, x13z, hM, hN14z⟩ := M.e_iterN hI9z
   simp only [m_nilometerlaw13_same_b0] at hM
   clear hI9z
   refine W.seq <| W.region rfl <| s_val (x_cmp (kd := .i64) (a := (s2 : Int)) (b := (a.length : Int)) (r := decide ((s2 : Int) < (a.length : Int))) rfl rfl rfl) <| s_nil <| W.seq ?_
   refine W.cond (decide ((s2 : Int) < (a.length : Int))) rfl (fun c15z => ?_) (fun c15z => ?_)
   ·replace hM := M.e_t hM c15z
    simp only [q1, q2, q3, q4, q5, q6, ne_eq, q7] at c15z
    refine W.skip <| W.seq <| W.block <| W.seq <| W.region rfl <| s_val (x_mv (v := I (s2 : Int)) rfl) <| s_val (x_as (v := I (s2 : Int)) rfl) <| s_nil ?_
    refine W.seq ?_
    refine W.draw (fun W => St w W [] R) [(0, true), (1, true), (2, true), (3, true), (4, true), (5, true), (6, true), (7, true), (8, true), (9, true), (10, true), (11, true), (12, true), (13, true), (14, true), (15, true), (16, true), (17, true), (18, true), (19, true), (20, true), (21, true), (22, true), (23, true), (24, true), (25, true), (26, true), (27, true), (28, true), (29, true), (30, true), (31, true), (32, true), (33, true), (34, true), (35, false), (36, true), (37, true)] mixed (by decide +kernel) rfl ?_
    intro w16z hx_
    replace H : St w w16z [] R := H.ext hx_
    clear hx_
    refine ⟨(H.pick [] (by decide) rfl), ?_⟩
    refine d_q rfl (fun w' H => x_mv (v := v_a) rfl) ?_
    refine d_q rfl (fun w' H => x_mv (v := I (s2 : Int)) rfl) ?_
    obtain ⟨sd17z, hM⟩ := M.e_grd hM
    simp only [Bool.and_eq_true, decide_eq_true_eq] at sd17z
    refine d_q rfl (fun w' H => x_ix (a := v_a) (b := I (s2 : Int)) (v := vat v_a 3 (Int.toNat (s2 : Int))) rfl rfl (Sl.ix (α := Work) T22.und T22.size hs_a (by omega) (by omega))) ?_
    refine d_q rfl (fun w' H => x_fa (a := vat v_a 3 (Int.toNat (s2 : Int))) (v := fat (vat v_a 3 (Int.toNat (s2 : Int))) 1) rfl (fa_pl Fd60_1 Sz3 (Sl.pl (i := (s2 : Int)) hs_a (by omega) (by omega)))) ?_
    refine d_q rfl (fun w' H => x_ld (p := fat (vat v_a 3 (Int.toNat (s2 : Int))) 1) (v := I ((a.getD s2 default).base)) rfl (ld_sc Sc3 (At.mono (Work_at1 hs_a (i := (s2 : Int)) (by omega) (by omega)) (hC_a.at H)))) ?_
    refine d_q rfl (fun w' H => x_mv (v := v_b) rfl) ?_
    refine d_q rfl (fun w' H => x_mv (v := I (s2 : Int)) rfl) ?_
    obtain ⟨sd18z, hM⟩ := M.e_grd hM
    simp only [Bool.and_eq_true, decide_eq_true_eq] at sd18z
    refine d_q rfl (fun w' H => x_ix (a := v_b) (b := I (s2 : Int)) (v := vat v_b 3 (Int.toNat (s2 : Int))) rfl rfl (Sl.ix (α := Work) T22.und T22.size hs_b (by omega) (by omega))) ?_
    refine d_q rfl (fun w' H => x_fa (a := vat v_b 3 (Int.toNat (s2 : Int))) (v := fat (vat v_b 3 (Int.toNat (s2 : Int))) 1) rfl (fa_pl Fd60_1 Sz3 (Sl.pl (i := (s2 : Int)) hs_b (by omega) (by omega)))) ?_
    refine d_q rfl (fun w' H => x_ld (p := fat (vat v_b 3 (Int.toNat (s2 : Int))) 1) (v := I ((b.getD s2 default).base)) rfl (ld_sc Sc3 (At.mono (Work_at1 hs_b (i := (s2 : Int)) (by omega) (by omega)) (hC_b.at H)))) ?_
    refine d_q rfl (fun w' H => x_cmp (kd := .i64) (a := (a.getD s2 default).base) (b := (b.getD s2 default).base) (r := ((a.getD s2 default).base) != ((b.getD s2 default).base)) rfl rfl rfl) ?_
    refine d_q rfl (fun w' H => x_mv (v := B (((a.getD s2 default).base) != ((b.getD s2 default).base))) rfl) ?_
    refine d_qg (!(((a.getD s2 default).base) != ((b.getD s2 default).base))) rfl (gy_f rfl) (fun hg => (fun w' H => x_mv (v := v_a) rfl)) ?_
    refine d_qg (!(((a.getD s2 default).base) != ((b.getD s2 default).base))) rfl (gy_f rfl) (fun hg => (fun w' H => x_mv (v := I (s2 : Int)) rfl)) ?_
    refine d_qg (!(((a.getD s2 default).base) != ((b.getD s2 default).base))) rfl (gy_f rfl) (fun hg => (fun w' H => x_ix (a := v_a) (b := I (s2 : Int)) (v := vat v_a 3 (Int.toNat (s2 : Int))) (gd_of (c := !(((a.getD s2 default).base) != ((b.getD s2 default).base))) hg (v_a)) (gd_of (c := !(((a.getD s2 default).base) != ((b.getD s2 default).base))) hg (I (s2 : Int))) (Sl.ix (α := Work) T22.und T22.size hs_a (by first | omega | (have hx_ := hg; simp at hx_; omega)) (by first | omega | (have hx_ := hg; simp at hx_; omega))))) ?_
    refine d_qg (!(((a.getD s2 default).base) != ((b.getD s2 default).base))) rfl (gy_f rfl) (fun hg => (fun w' H => x_fa (a := vat v_a 3 (Int.toNat (s2 : Int))) (v := fat (vat v_a 3 (Int.toNat (s2 : Int))) 2) (gd_of (c := !(((a.getD s2 default).base) != ((b.getD s2 default).base))) hg (vat v_a 3 (Int.toNat (s2 : Int)))) (fa_pl Fd60_2 Sz3 (Sl.pl (i := (s2 : Int)) hs_a (by first | omega | (have hx_ := hg; simp at hx_; omega)) (by first | omega | (have hx_ := hg; simp at hx_; omega)))))) ?_
    refine d_qg (!(((a.getD s2 default).base) != ((b.getD s2 default).base))) rfl (gy_f rfl) (fun hg => (fun w' H => x_ld (p := fat (vat v_a 3 (Int.toNat (s2 : Int))) 2) (v := I ((a.getD s2 default).minutes)) (gd_of (c := !(((a.getD s2 default).base) != ((b.getD s2 default).base))) hg (fat (vat v_a 3 (Int.toNat (s2 : Int))) 2)) (ld_sc Sc3 (At.mono (Work_at2 hs_a (i := (s2 : Int)) (by first | omega | (have hx_ := hg; simp at hx_; omega)) (by first | omega | (have hx_ := hg; simp at hx_; omega))) (hC_a.at H))))) ?_
    refine d_qg (!(((a.getD s2 default).base) != ((b.getD s2 default).base))) rfl (gy_f rfl) (fun hg => (fun w' H => x_mv (v := v_b) rfl)) ?_
    refine d_qg (!(((a.getD s2 default).base) != ((b.getD s2 default).base))) rfl (gy_f rfl) (fun hg => (fun w' H => x_mv (v := I (s2 : Int)) rfl)) ?_
    refine d_qg (!(((a.getD s2 default).base) != ((b.getD s2 default).base))) rfl (gy_f rfl) (fun hg => (fun w' H => x_ix (a := v_b) (b := I (s2 : Int)) (v := vat v_b 3 (Int.toNat (s2 : Int))) (gd_of (c := !(((a.getD s2 default).base) != ((b.getD s2 default).base))) hg (v_b)) (gd_of (c := !(((a.getD s2 default).base) != ((b.getD s2 default).base))) hg (I (s2 : Int))) (Sl.ix (α := Work) T22.und T22.size hs_b (by first | omega | (have hx_ := hg; simp at hx_; omega)) (by first | omega | (have hx_ := hg; simp at hx_; omega))))) ?_
    refine d_qg (!(((a.getD s2 default).base) != ((b.getD s2 default).base))) rfl (gy_f rfl) (fun hg => (fun w' H => x_fa (a := vat v_b 3 (Int.toNat (s2 : Int))) (v := fat (vat v_b 3 (Int.toNat (s2 : Int))) 2) (gd_of (c := !(((a.getD s2 default).base) != ((b.getD s2 default).base))) hg (vat v_b 3 (Int.toNat (s2 : Int)))) (fa_pl Fd60_2 Sz3 (Sl.pl (i := (s2 : Int)) hs_b (by first | omega | (have hx_ := hg; simp at hx_; omega)) (by first | omega | (have hx_ := hg; simp at hx_; omega)))))) ?_
    refine d_qg (!(((a.getD s2 default).base) != ((b.getD s2 default).base))) rfl (gy_f rfl) (fun hg => (fun w' H => x_ld (p := fat (vat v_b 3 (Int.toNat (s2 : Int))) 2) (v := I ((b.getD s2 default).minutes)) (gd_of (c := !(((a.getD s2 default).base) != ((b.getD s2 default).base))) hg (fat (vat v_b 3 (Int.toNat (s2 : Int))) 2)) (ld_sc Sc3 (At.mono (Work_at2 hs_b (i := (s2 : Int)) (by first | omega | (have hx_ := hg; simp at hx_; omega)) (by first | omega | (have hx_ := hg; simp at hx_; omega))) (hC_b.at H))))) ?_
    refine d_qg (!(((a.getD s2 default).base) != ((b.getD s2 default).base))) rfl (gy_f rfl) (fun hg => (fun w' H => x_cmp (kd := .i64) (a := (a.getD s2 default).minutes) (b := (b.getD s2 default).minutes) (r := ((a.getD s2 default).minutes) != ((b.getD s2 default).minutes)) (gd_of (c := !(((a.getD s2 default).base) != ((b.getD s2 default).base))) hg (I ((a.getD s2 default).minutes))) (gd_of (c := !(((a.getD s2 default).base) != ((b.getD s2 default).base))) hg (I ((b.getD s2 default).minutes))) rfl)) ?_
    refine d_q rfl (fun w' H => x_por (b := ((a.getD s2 default).base) != ((b.getD s2 default).base)) (r := ((a.getD s2 default).minutes) != ((b.getD s2 default).minutes)) rfl rfl (fun hb => gd_of (c := !(((a.getD s2 default).base) != ((b.getD s2 default).base))) (by simp_all) (B (((a.getD s2 default).minutes) != ((b.getD s2 default).minutes))))) ?_
    refine d_q rfl (fun w' H => x_mv (v := B ((((a.getD s2 default).base) != ((b.getD s2 default).base)) || (((a.getD s2 default).minutes) != ((b.getD s2 default).minutes)))) rfl) ?_
    refine d_qg (!((((a.getD s2 default).base) != ((b.getD s2 default).base)) || (((a.getD s2 default).minutes) != ((b.getD s2 default).minutes)))) rfl (gy_f rfl) (fun hg => (fun w' H => x_mv (v := v_a) rfl)) ?_
    refine d_qg (!((((a.getD s2 default).base) != ((b.getD s2 default).base)) || (((a.getD s2 default).minutes) != ((b.getD s2 default).minutes)))) rfl (gy_f rfl) (fun hg => (fun w' H => x_mv (v := I (s2 : Int)) rfl)) ?_
    refine d_qg (!((((a.getD s2 default).base) != ((b.getD s2 default).base)) || (((a.getD s2 default).minutes) != ((b.getD s2 default).minutes)))) rfl (gy_f rfl) (fun hg => (fun w' H => x_ix (a := v_a) (b := I (s2 : Int)) (v := vat v_a 3 (Int.toNat (s2 : Int))) (gd_of (c := !((((a.getD s2 default).base) != ((b.getD s2 default).base)) || (((a.getD s2 default).minutes) != ((b.getD s2 default).minutes)))) hg (v_a)) (gd_of (c := !((((a.getD s2 default).base) != ((b.getD s2 default).base)) || (((a.getD s2 default).minutes) != ((b.getD s2 default).minutes)))) hg (I (s2 : Int))) (Sl.ix (α := Work) T22.und T22.size hs_a (by first | omega | (have hx_ := hg; simp at hx_; omega)) (by first | omega | (have hx_ := hg; simp at hx_; omega))))) ?_
    refine d_qg (!((((a.getD s2 default).base) != ((b.getD s2 default).base)) || (((a.getD s2 default).minutes) != ((b.getD s2 default).minutes)))) rfl (gy_f rfl) (fun hg => (fun w' H => x_fa (a := vat v_a 3 (Int.toNat (s2 : Int))) (v := fat (vat v_a 3 (Int.toNat (s2 : Int))) 0) (gd_of (c := !((((a.getD s2 default).base) != ((b.getD s2 default).base)) || (((a.getD s2 default).minutes) != ((b.getD s2 default).minutes)))) hg (vat v_a 3 (Int.toNat (s2 : Int)))) (fa_pl Fd60_0 Sz34 (Sl.pl (i := (s2 : Int)) hs_a (by first | omega | (have hx_ := hg; simp at hx_; omega)) (by first | omega | (have hx_ := hg; simp at hx_; omega)))))) ?_
    obtain ⟨u19z, ha_u19z, hs20z⟩ := gd_ex (c := !((((a.getD s2 default).base) != ((b.getD s2 default).base)) || (((a.getD s2 default).minutes) != ((b.getD s2 default).minutes)))) fun hg => Work_at0 hs_a (i := (s2 : Int)) (by first | omega | (have hx_ := hg; simp at hx_; omega)) (by first | omega | (have hx_ := hg; simp at hx_; omega))
    replace hs20z : (!((((a.getD s2 default).base) != ((b.getD s2 default).base)) || (((a.getD s2 default).minutes) != ((b.getD s2 default).minutes)))) = true → Sl _ u19z (a.getD s2 default).of := hs20z
    refine d_qg (!((((a.getD s2 default).base) != ((b.getD s2 default).base)) || (((a.getD s2 default).minutes) != ((b.getD s2 default).minutes)))) rfl (gy_f rfl) (fun hg => (fun w' H => x_ld (p := fat (vat v_a 3 (Int.toNat (s2 : Int))) 0) (v := u19z) (gd_of (c := !((((a.getD s2 default).base) != ((b.getD s2 default).base)) || (((a.getD s2 default).minutes) != ((b.getD s2 default).minutes)))) hg (fat (vat v_a 3 (Int.toNat (s2 : Int))) 0)) (ld_sc Sc34 (At.mono (ha_u19z hg) (hC_a.at H))))) ?_
    refine d_qg (!((((a.getD s2 default).base) != ((b.getD s2 default).base)) || (((a.getD s2 default).minutes) != ((b.getD s2 default).minutes)))) rfl (gy_f rfl) (fun hg => (fun w' H => x_mv (v := v_b) rfl)) ?_
    refine d_qg (!((((a.getD s2 default).base) != ((b.getD s2 default).base)) || (((a.getD s2 default).minutes) != ((b.getD s2 default).minutes)))) rfl (gy_f rfl) (fun hg => (fun w' H => x_mv (v := I (s2 : Int)) rfl)) ?_
    refine d_qg (!((((a.getD s2 default).base) != ((b.getD s2 default).base)) || (((a.getD s2 default).minutes) != ((b.getD s2 default).minutes)))) rfl (gy_f rfl) (fun hg => (fun w' H => x_ix (a := v_b) (b := I (s2 : Int)) (v := vat v_b 3 (Int.toNat (s2 : Int))) (gd_of (c := !((((a.getD s2 default).base) != ((b.getD s2 default).base)) || (((a.getD s2 default).minutes) != ((b.getD s2 default).minutes)))) hg (v_b)) (gd_of (c := !((((a.getD s2 default).base) != ((b.getD s2 default).base)) || (((a.getD s2 default).minutes) != ((b.getD s2 default).minutes)))) hg (I (s2 : Int))) (Sl.ix (α := Work) T22.und T22.size hs_b (by first | omega | (have hx_ := hg; simp at hx_; omega)) (by first | omega | (have hx_ := hg; simp at hx_; omega))))) ?_
    refine d_qg (!((((a.getD s2 default).base) != ((b.getD s2 default).base)) || (((a.getD s2 default).minutes) != ((b.getD s2 default).minutes)))) rfl (gy_f rfl) (fun hg => (fun w' H => x_fa (a := vat v_b 3 (Int.toNat (s2 : Int))) (v := fat (vat v_b 3 (Int.toNat (s2 : Int))) 0) (gd_of (c := !((((a.getD s2 default).base) != ((b.getD s2 default).base)) || (((a.getD s2 default).minutes) != ((b.getD s2 default).minutes)))) hg (vat v_b 3 (Int.toNat (s2 : Int)))) (fa_pl Fd60_0 Sz34 (Sl.pl (i := (s2 : Int)) hs_b (by first | omega | (have hx_ := hg; simp at hx_; omega)) (by first | omega | (have hx_ := hg; simp at hx_; omega)))))) ?_
    obtain ⟨u21z, ha_u21z, hs22z⟩ := gd_ex (c := !((((a.getD s2 default).base) != ((b.getD s2 default).base)) || (((a.getD s2 default).minutes) != ((b.getD s2 default).minutes)))) fun hg => Work_at0 hs_b (i := (s2 : Int)) (by first | omega | (have hx_ := hg; simp at hx_; omega)) (by first | omega | (have hx_ := hg; simp at hx_; omega))
    replace hs22z : (!((((a.getD s2 default).base) != ((b.getD s2 default).base)) || (((a.getD s2 default).minutes) != ((b.getD s2 default).minutes)))) = true → Sl _ u21z (b.getD s2 default).of := hs22z
    refine d_qg (!((((a.getD s2 default).base) != ((b.getD s2 default).base)) || (((a.getD s2 default).minutes) != ((b.getD s2 default).minutes)))) rfl (gy_f rfl) (fun hg => (fun w' H => x_ld (p := fat (vat v_b 3 (Int.toNat (s2 : Int))) 0) (v := u21z) (gd_of (c := !((((a.getD s2 default).base) != ((b.getD s2 default).base)) || (((a.getD s2 default).minutes) != ((b.getD s2 default).minutes)))) hg (fat (vat v_b 3 (Int.toNat (s2 : Int))) 0)) (ld_sc Sc34 (At.mono (ha_u21z hg) (hC_b.at H))))) ?_
    refine d_l rfl ?_
    obtain ⟨s, hx23z, hM⟩ := M.e_bind hM
    replace hx23z := M.e_pure hx23z
    refine t_gcall (!((((a.getD s2 default).base) != ((b.getD s2 default).base)) || (((a.getD s2 default).minutes) != ((b.getD s2 default).minutes)))) (gy_f rfl) cf25 (B s) (fun _ => [u19z, u21z]) (fun hg => lst2 (gd_of (c := !((((a.getD s2 default).base) != ((b.getD s2 default).base)) || (((a.getD s2 default).minutes) != ((b.getD s2 default).minutes)))) hg (u19z)) (gd_of (c := !((((a.getD s2 default).base) != ((b.getD s2 default).base)) || (((a.getD s2 default).minutes) != ((b.getD s2 default).minutes)))) hg (u21z))) H (fun hg => Ret.mono (same_int _ ((hs20z hg).mono (hC_a.at H)) ((hs22z hg).mono (hC_b.at H))) fun v_ w_ ⟨hv_, hx_⟩ => ⟨hv_.trans (congrArg B hx23z), H.ext hx_⟩) ?_
    intro w24z H
    refine s_nil ⟨(H.pick [] (by decide) rfl), ?_⟩
    refine d_qg (!((((a.getD s2 default).base) != ((b.getD s2 default).base)) || (((a.getD s2 default).minutes) != ((b.getD s2 default).minutes)))) rfl (gy_f rfl) (fun hg => (fun w' H => x_not (b := s) (gd_of (c := !((((a.getD s2 default).base) != ((b.getD s2 default).base)) || (((a.getD s2 default).minutes) != ((b.getD s2 default).minutes)))) hg (B s)))) ?_
    refine d_q rfl (fun w' H => x_por (b := ((((a.getD s2 default).base) != ((b.getD s2 default).base)) || (((a.getD s2 default).minutes) != ((b.getD s2 default).minutes)))) (r := !s) rfl rfl (fun hb => gd_of (c := !((((a.getD s2 default).base) != ((b.getD s2 default).base)) || (((a.getD s2 default).minutes) != ((b.getD s2 default).minutes)))) (by simp_all) (B (!s)))) ?_
    refine d_nil ?_
    refine W.cond (((((a.getD s2 default).base) != ((b.getD s2 default).base)) || (((a.getD s2 default).minutes) != ((b.getD s2 default).minutes))) || (!s)) rfl (fun c25z => ?_) (fun c25z => ?_)
    ·replace hM := M.e_t hM c25z
     refine W.seq <| W.region rfl <| s_val (x_as (v := B false) rfl) <| s_nil ?_
     refine W.ret ?_
     have hX26z := M.e_inr hM hN14z
     subst hX26z
     replace hM := hk7z
     try dsimp only at hM
     have hr_ := M.e_pure hM
     exact ⟨_, resE_tmp rfl, ⟨false, hr_, rfl, H⟩⟩
    ·replace hM := M.e_f hM c25z
     refine W.skip <| W.region rfl <| s_val (x_ari (a := (s2 : Int)) (b := 1) (r := (s2 : Int) + 1) rfl rfl rfl (by omega)) <| s_val (x_mv (v := I ((s2 : Int) + 1)) rfl) <| s_nil ?_
     exact ⟨m11z, lt12z, s2 + 1, _, upds_of _ _ ⟨rfl, rfl, rfl, rfl, trivial⟩, M.e_inl hM hN14z, H⟩
   ·replace hM := M.e_f hM c15z
    simp only [q1, q2, q3, q4, q5, q6, ne_eq, q7] at c15z
    refine W.exit ?_
    have hX27z := M.e_inr hM hN14z
    subst hX27z
    replace hM := hk7z
    try dsimp only at hM
    refine W.seq <| W.region rfl <| s_val (x_as (v := B true) rfl) <| s_nil ?_
    refine W.ret ?_
    have hr_ := M.e_pure hM
    exact ⟨_, resE_tmp rfl, ⟨true, hr_, rfl, H⟩⟩

end Go.Proofs.Ytndobgodeicloaa
namespace Go.Nm
/-- A loop whose states are known. -/
theorem M.i_for {σ ρ : Type} {body : σ → M (σ ⊕ ρ)} {r : ρ} (st : Nat → σ) (n : Nat) (step : ∀ i, i < n → (body (st i)).Ends (.inl (st (i + 1)))) (fin : (body (st n)).Ends (.inr r)) : (M.iter body (st 0)).Ends r := by
  refine M.i_loop (r := r) (fun m s => ∃ i, i ≤ n ∧ m = n - i ∧ s = st i) ?_ n (st 0) ⟨0, Nat.zero_le _, rfl, rfl⟩
  rintro m s ⟨i, hi, rfl, rfl⟩
  by_cases h : i < n
  · exact .inl ⟨_, n - (i + 1), by omega, step i h, i + 1, h, rfl, rfl⟩
  · obtain rfl : i = n := by omega
    exact .inr fin
/-- A loop that looks for the first that is so. -/
theorem M.i_scan {b : Nat → M (Nat ⊕ (Unit ⊕ Unit))} (n : Nat) (bad : Nat → Bool) (hb : ∀ i, i < n → (∀ j < i, bad j = false) → (b i).Ends (if bad i then .inr (.inl ()) else .inl (i + 1))) (he : (∀ j < n, bad j = false) → (b n).Ends (.inr (.inr ()))) :
    (M.iter b 0).Ends (if (List.range n).any bad then .inl () else .inr ()) := by
  have key : ∀ k i, n = i + k → (∀ j < i, bad j = false) → (M.iter b i).Ends (if (List.range n).any bad then .inl () else .inr ()) := by
    intro k
    induction k with
    | zero =>
      intro i hi hj
      have hn : n = i := by omega
      rw [hn] at he ⊢
      have : (List.range i).any bad = false := List.any_eq_false.2 fun j hj' => by simp [hj j (List.mem_range.1 hj')]
      rw [this]
      exact M.i_stop (he hj)
    | succ k ih =>
      intro i hi hj
      have h1 := hb i (by omega) hj
      cases hc : bad i with
      | true =>
        rw [hc] at h1
        have : (List.range n).any bad = true := List.any_eq_true.2 ⟨i, List.mem_range.2 (by omega), hc⟩
        rw [this]
        exact M.i_stop h1
      | false =>
        rw [hc] at h1
        refine M.i_next h1 (ih (i + 1) (by omega) fun j hj' => ?_)
        by_cases e : j = i
        · rw [e]; exact hc
        · exact hj j (by omega)
  exact key n 0 (by omega) (fun j hj => by omega)
theorem M.grdD {α : Type} {p : Prop} [Decidable p] {k : M α} {r : α} (hp : p) (h : k.Ends r) : (M.grd (decide p) k).Ends r := M.i_grd (decide_eq_true hp) h
theorem M.i_t {α : Type} {b : Bool} {x y : M α} {r : α} (hb : b = true) (h : x.Ends r) : (bif b then x else y).Ends r := by subst hb; exact h
theorem M.i_f {α : Type} {b : Bool} {x y : M α} {r : α} (hb : b = false) (h : y.Ends r) : (bif b then x else y).Ends r := by subst hb; exact h
theorem set_getD_self {α : Type} (l : List α) (i : Nat) (h : i < l.length) (d : α) : l.set i (l.getD i d) = l := by
  rw [List.getD_eq_getElem?_getD, List.getElem?_eq_getElem h, Option.getD_some, List.set_getElem_self]
theorem take_succ_D {α : Type} (l : List α) (i : Nat) (h : i < l.length) (d : α) : l.take i ++ [l.getD i d] = l.take (i + 1) := (take_succ_getD l h d).symm
end Go.Nm
namespace Go.Proofs.Ytndobgodeicloaa
open Go Go.Nm
theorem copyWorks_ends {ws : List Work} (h : ws.length ≤ 1000) (ho : ∀ x ∈ ws, x.of.length ≤ 1000) : (m_nilometerlaw13_CopyWorks ws).Ends ws := by
  unfold m_nilometerlaw13_CopyWorks
  refine M.i_bind (a := ws) ?_ (M.i_bind (a := (ws, ws)) ?_ M.i_pure)
  · exact M.grdD (by simp only [List.length_nil]; omega) M.i_pure
  · refine M.i_for (fun i => (ws, i)) ws.length (fun i hi => ?_) ?_
    · have hm := ho _ (getD_memN ws (by omega : (i : Int) < ws.length) default)
      simp only [m_nilometerlaw13_CopyWorks_b0]
      refine M.i_t (by simpa using hi) (M.grdD (by omega) (M.grdD (by omega) (M.grdD (by omega) ?_)))
      rw [show ({ (ws.getD i default) with of := (ws.getD i default).of } : Work) = ws.getD i default from rfl, set_getD_self ws i hi]
      exact M.i_pure
    · simp only [m_nilometerlaw13_CopyWorks_b0]
      exact M.i_f (by simp) M.i_pure
theorem works_ends {ws : List Work} (h : ws.length ≤ 1000) (ho : ∀ x ∈ ws, x.of.length ≤ 1000) : (m_nilometerlaw13_Works ws).Ends ws := by
  unfold m_nilometerlaw13_Works
  refine M.i_bind (a := (ws, ws)) ?_ M.i_pure
  have := M.i_for (body := m_nilometerlaw13_Works_b0 ws) (r := (ws, ws)) (fun i => (i, ws.take i)) ws.length (fun i hi => ?_) ?_
  · simpa using this
  · have hm := ho _ (getD_memN ws (by omega : (i : Int) < ws.length) default)
    simp only [m_nilometerlaw13_Works_b0]
    refine M.i_t (by simpa using hi) (M.grdD (by omega) (M.grdD (by omega) (M.grdD (by simp only [List.length_take, List.length_cons, List.length_nil]; omega) ?_)))
    rw [show (⟨(ws.getD i default).of, (ws.getD i default).base, (ws.getD i default).minutes⟩ : Work) = ws.getD i default from rfl, take_succ_D ws i hi]
    exact M.i_pure
  · simp only [m_nilometerlaw13_Works_b0]
    rw [List.take_length]
    exact M.i_f (by simp) M.i_pure
theorem same_ends (ws : List Work) : (m_nilometerlaw13_same ws ws).Ends true := by
  unfold m_nilometerlaw13_same
  refine M.i_f (by simp) (M.i_bind (M.i_scan ws.length (fun _ => false) (fun i hi _ => ?_) (fun _ => ?_)) ?_)
  · simp only [m_nilometerlaw13_same_b0]
    refine M.i_t (by simpa using hi) (M.grdD (by omega) (M.grdD (by omega) (M.i_bind M.i_pure (M.i_f (by simp) M.i_pure))))
  · simp only [m_nilometerlaw13_same_b0]
    exact M.i_f (by simp) M.i_pure
  · have : (List.range ws.length).any (fun _ => false) = false := by simp
    rw [this]
    exact M.i_pure
end Go.Proofs.Ytndobgodeicloaa
namespace Go.Nm
/-- A way from one work to another one that is made of it. -/
inductive Wy (ws : List Work) : Nat → Nat → Prop
  | one {a b : Nat} (h : (a : Int) ∈ (ws.getD b default).of) (hb : b < ws.length) : Wy ws a b
  | more {a m b : Nat} (w : Wy ws a m) (h : (m : Int) ∈ (ws.getD b default).of) (hb : b < ws.length) : Wy ws a b
def Tb (T : List (List Bool)) (a b : Nat) : Bool := (T.getD a []).getD b false
def fc : List Bool → Nat
  | [] => 0
  | true :: l => fc l
  | false :: l => fc l + 1
def fT : List (List Bool) → Nat
  | [] => 0
  | r :: T => fc r + fT T
theorem fc_set : ∀ (l : List Bool) (i : Nat), i < l.length → l.getD i false = false → fc (l.set i true) + 1 = fc l
  | [], i, h, _ => by simp at h
  | x :: l, 0, _, h => by
    simp only [List.getD_cons_zero] at h
    subst h
    simp only [List.set_cons_zero, fc]
  | x :: l, i + 1, h, he => by
    simp only [List.getD_cons_succ] at he
    have := fc_set l i (by simpa using h) he
    simp only [List.set_cons_succ]
    cases x <;> simp only [fc] <;> omega
theorem fT_set : ∀ (T : List (List Bool)) (i : Nat) (r : List Bool), i < T.length → fT (T.set i r) + fc (T.getD i []) = fT T + fc r
  | [], i, _, h => by simp at h
  | x :: T, 0, r, _ => by simp only [List.set_cons_zero, fT, List.getD_cons_zero]; omega
  | x :: T, i + 1, r, h => by
    have := fT_set T i r (by simpa using h)
    simp only [List.set_cons_succ, fT, List.getD_cons_succ]
    omega
theorem gset {α : Type} (l : List α) (i j : Nat) (x d : α) (h : i < l.length) : (l.set i x).getD j d = if j = i then x else l.getD j d := by
  simp only [List.getD_eq_getElem?_getD, List.getElem?_set]
  by_cases e : i = j
  · subst e; simp [h]
  · rw [if_neg e, if_neg (fun h => e h.symm)]
theorem getD_el {α : Type} (l : List α) {k : Nat} (h : k < l.length) (d : α) : l.getD k d = l[k] := by rw [List.getD_eq_getElem?_getD, List.getElem?_eq_getElem h, Option.getD_some]
structure Sq (n : Nat) (T : List (List Bool)) : Prop where
  len : T.length = n
  row : ∀ a, a < n → (T.getD a []).length = n
theorem Sq.put {n : Nat} {T : List (List Bool)} (h : Sq n T) {a b : Nat} (ha : a < n) : Sq n (T.set a ((T.getD a []).set b true)) := by
  refine ⟨by rw [List.length_set]; exact h.len, fun a' ha' => ?_⟩
  rw [gset _ _ _ _ _ (by rw [h.len]; exact ha)]
  split
  · rw [List.length_set]; exact h.row a ha
  · exact h.row a' ha'
theorem Tb_put {n : Nat} {T : List (List Bool)} (h : Sq n T) {a b : Nat} (ha : a < n) (hb : b < n) (a' b' : Nat) : Tb (T.set a ((T.getD a []).set b true)) a' b' = if a' = a ∧ b' = b then true else Tb T a' b' := by
  unfold Tb
  rw [gset _ _ _ _ _ (by rw [h.len]; exact ha)]
  by_cases e : a' = a
  · subst e
    rw [if_pos rfl, gset _ _ _ _ _ (by rw [h.row _ ha]; exact hb)]
    by_cases e2 : b' = b
    · rw [if_pos e2, if_pos ⟨rfl, e2⟩]
    · rw [if_neg e2, if_neg (fun h => e2 h.2)]
  · rw [if_neg e, if_neg (fun h => e h.1)]
/-- The rule at one place. -/
def ClAt (ws : List Work) (T : List (List Bool)) (b k a : Nat) : Prop :=
  (((a : Int) == ((ws.getD b default).of).getD k 0) || Tb T a (Int.toNat (((ws.getD b default).of).getD k 0))) = true → Tb T a b = true
structure BInv (ws : List Work) (T0 : List (List Bool)) (pr : Nat → Nat → Nat → Prop) (T : List (List Bool)) (ch : Bool) : Prop where
  sq : Sq ws.length T
  sound : ∀ a b, Tb T a b = true → Wy ws a b
  yes : ch = true → fT T < fT T0
  no : ch = false → T = T0 ∧ ∀ b k a, pr b k a → ClAt ws T b k a
theorem BInv.imp {ws : List Work} {T0 T : List (List Bool)} {pr pr' : Nat → Nat → Nat → Prop} {ch : Bool} (h : BInv ws T0 pr T ch) (hp : ∀ b k a, pr' b k a → pr b k a) : BInv ws T0 pr' T ch :=
  ⟨h.sq, h.sound, h.yes, fun e => ⟨(h.no e).1, fun b k a hh => (h.no e).2 b k a (hp b k a hh)⟩⟩
theorem gOr {c : Bool} {p : Prop} [Decidable p] (hp : p) : (!c || decide p) = true := by rw [decide_eq_true hp, Bool.or_true]
theorem gOr2 {c : Bool} {p q : Prop} [Decidable p] [Decidable q] (hp : p) (hq : q) : (!c || (decide p && decide q)) = true := by rw [decide_eq_true hp, decide_eq_true hq]; cases c <;> rfl
theorem gA2 {p q : Prop} [Decidable p] [Decidable q] (hp : p) (hq : q) : (decide p && decide q) = true := by rw [decide_eq_true hp, decide_eq_true hq]; rfl
theorem gA3 {p q r : Prop} [Decidable p] [Decidable q] [Decidable r] (hp : p) (hq : q) (hr : r) : (decide p && decide q && decide r) = true := by rw [decide_eq_true hp, decide_eq_true hq, decide_eq_true hr]; rfl
end Go.Nm
namespace Go.Proofs.Ytndobgodeicloaa
open Go Go.Nm
variable {ws : List Work}
theorem behind_a (hR : rightE ws = 0) {T0 : List (List Bool)} {pr : Nat → Nat → Nat → Prop} {b k : Nat} (hb : b < ws.length) (hk : k < (ws.getD b default).of.length) {T : List (List Bool)} {ch : Bool} (hI : BInv ws T0 pr T ch) :
    ∃ r, (M.iter (m_nilometerref13_behind_b12 ws b k) (T, ch, 0)).Ends r ∧ ∃ T' ch', r = (T', ch', T') ∧ BInv ws T0 (fun b' k' a' => pr b' k' a' ∨ (b' = b ∧ k' = k ∧ a' < ws.length)) T' ch' := by
  have hx := right_of hR hb _ (getD_memN (ws.getD b default).of (by omega : (k : Int) < _) 0)
  have hxm : ((Int.toNat (((ws.getD b default).of).getD k 0) : Nat) : Int) ∈ (ws.getD b default).of := by
    rw [Int.toNat_of_nonneg hx.1]; exact getD_memN (ws.getD b default).of (by omega : (k : Int) < _) 0
  refine M.i_loopQ _ (fun m s => ∃ a, a ≤ ws.length ∧ m = ws.length - a ∧ s.2.2 = a ∧ BInv ws T0 (fun b' k' a' => pr b' k' a' ∨ (b' = b ∧ k' = k ∧ a' < a)) s.1 s.2.1) ?_ ws.length (T, ch, 0) ⟨0, Nat.zero_le _, rfl, rfl, hI.imp fun b' k' a' h => h.elim id fun h => by omega⟩
  rintro m ⟨T1, c1, a1⟩ ⟨a, hle, rfl, rfl, h⟩
  dsimp only at h hle ⊢
  have hl := h.sq.len
  by_cases ha : a1 < ws.length
  · left
    have hr := h.sq.row a1 ha
    simp only [m_nilometerref13_behind_b12]
    cases hc : ((((a1 : Int) == (((ws.getD b default).of).getD k 0)) || ((T1.getD a1 ([])).getD (Int.toNat (((ws.getD b default).of).getD k 0)) false)) && (!((T1.getD a1 ([])).getD b false))) with
    | true =>
      refine ⟨(T1.set a1 ((T1.getD a1 []).set b true), true, a1 + 1), ws.length - (a1 + 1), by omega, ?_, a1 + 1, ha, rfl, rfl, ?_⟩
      · refine M.i_t (by simpa using ha) (M.i_grd (gOr (by omega)) (M.i_grd (gOr2 hx.1 (by omega)) (M.i_grd (gOr (by omega)) (M.i_grd (gOr (by omega)) (M.i_t rfl (M.grdD (by omega) (M.grdD (by omega) M.i_pure)))))))
      · rw [Bool.and_eq_true] at hc
        have hf : (T1.getD a1 []).getD b false = false := by simpa using hc.2
        refine ⟨h.sq.put ha, fun a' b' ht => ?_, fun _ => ?_, fun e => by cases e⟩
        · rw [Tb_put h.sq ha hb] at ht
          split at ht
          · rename_i e
            rw [e.1, e.2]
            rcases (Bool.or_eq_true _ _).mp hc.1 with h1 | h1
            · exact .one (by rw [show (a1 : Int) = ((ws.getD b default).of).getD k 0 from by simpa using h1]; exact getD_memN (ws.getD b default).of (by omega : (k : Int) < _) 0) hb
            · exact .more (h.sound _ _ h1) hxm hb
          · exact h.sound _ _ ht
        · have h1 := fT_set T1 a1 ((T1.getD a1 []).set b true) (by omega)
          have h2 := fc_set (T1.getD a1 []) b (by omega) hf
          dsimp only
          cases c1 with
          | true => have := h.yes rfl; omega
          | false => have := (h.no rfl).1; rw [← this]; omega
    | false =>
      refine ⟨(T1, c1, a1 + 1), ws.length - (a1 + 1), by omega, ?_, a1 + 1, ha, rfl, rfl, ?_⟩
      · refine M.i_t (by simpa using ha) (M.i_grd (gOr (by omega)) (M.i_grd (gOr2 hx.1 (by omega)) (M.i_grd (gOr (by omega)) (M.i_grd (gOr (by omega)) (M.i_f rfl M.i_pure)))))
      · refine ⟨h.sq, h.sound, h.yes, fun e => ⟨(h.no e).1, fun b' k' a' hp => ?_⟩⟩
        rcases hp with hp | ⟨rfl, rfl, hp⟩
        · exact (h.no e).2 _ _ _ (.inl hp)
        · by_cases e2 : a' = a1
          · subst e2
            intro hcl
            unfold Tb at hcl ⊢
            rw [hcl, Bool.true_and] at hc
            simpa using hc
          · exact (h.no e).2 _ _ _ (.inr ⟨rfl, rfl, by omega⟩)
  · right
    obtain rfl : a1 = ws.length := by omega
    refine ⟨(T1, c1, T1), ?_, T1, c1, rfl, h⟩
    simp only [m_nilometerref13_behind_b12]
    exact M.i_f (by simp) M.i_pure
theorem behind_k (hR : rightE ws = 0) {T0 : List (List Bool)} {pr : Nat → Nat → Nat → Prop} {b : Nat} (hb : b < ws.length) {T : List (List Bool)} {ch : Bool} (hI : BInv ws T0 pr T ch) :
    ∃ r, (M.iter (m_nilometerref13_behind_b13 ws b) (T, ch, 0)).Ends r ∧ ∃ T' ch', r = (T', ch', T') ∧ BInv ws T0 (fun b' k' a' => pr b' k' a' ∨ (b' = b ∧ k' < (ws.getD b default).of.length ∧ a' < ws.length)) T' ch' := by
  refine M.i_loopQ _ (fun m s => ∃ k, k ≤ (ws.getD b default).of.length ∧ m = (ws.getD b default).of.length - k ∧ s.2.2 = k ∧ BInv ws T0 (fun b' k' a' => pr b' k' a' ∨ (b' = b ∧ k' < k ∧ a' < ws.length)) s.1 s.2.1) ?_ (ws.getD b default).of.length (T, ch, 0) ⟨0, Nat.zero_le _, rfl, rfl, hI.imp fun b' k' a' h => h.elim id fun h => by omega⟩
  rintro m ⟨T1, c1, k1⟩ ⟨k, hle, rfl, rfl, h⟩
  dsimp only at h hle ⊢
  simp only [m_nilometerref13_behind_b13]
  by_cases hk : k1 < (ws.getD b default).of.length
  · left
    obtain ⟨r, hr, T', ch', rfl, h'⟩ := behind_a hR hb hk h
    refine ⟨(T', ch', k1 + 1), _, Nat.sub_succ_lt_self _ _ hk, M.grdD (by omega) (M.i_t (by simpa using hk) (M.grdD (by omega) (M.i_bind hr M.i_pure))), k1 + 1, hk, rfl, rfl, h'.imp fun b' k' a' hp => ?_⟩
    rcases hp with hp | ⟨rfl, h2, h3⟩
    · exact .inl (.inl hp)
    · by_cases e : k' = k1
      · exact .inr ⟨rfl, e, h3⟩
      · exact .inl (.inr ⟨rfl, by omega, h3⟩)
  · right
    obtain rfl : k1 = (ws.getD b default).of.length := by omega
    exact ⟨(T1, c1, T1), M.grdD (by omega) (M.i_f (by simp) M.i_pure), T1, c1, rfl, h⟩
theorem behind_b (hR : rightE ws = 0) {T0 : List (List Bool)} {T : List (List Bool)} {ch : Bool} (hI : BInv ws T0 (fun _ _ _ => False) T ch) :
    ∃ r, (M.iter (m_nilometerref13_behind_b14 ws) (T, ch, 0)).Ends r ∧ ∃ T' ch', r = (T', ch', T') ∧ BInv ws T0 (fun b' k' a' => b' < ws.length ∧ k' < (ws.getD b' default).of.length ∧ a' < ws.length) T' ch' := by
  refine M.i_loopQ _ (fun m s => ∃ b, b ≤ ws.length ∧ m = ws.length - b ∧ s.2.2 = b ∧ BInv ws T0 (fun b' k' a' => b' < b ∧ k' < (ws.getD b' default).of.length ∧ a' < ws.length) s.1 s.2.1) ?_ ws.length (T, ch, 0) ⟨0, Nat.zero_le _, rfl, rfl, hI.imp fun b' k' a' h => by omega⟩
  rintro m ⟨T1, c1, b1⟩ ⟨b, hle, rfl, rfl, h⟩
  dsimp only at h hle ⊢
  simp only [m_nilometerref13_behind_b14]
  by_cases hb : b1 < ws.length
  · left
    obtain ⟨r, hr, T', ch', rfl, h'⟩ := behind_k hR hb h
    refine ⟨(T', ch', b1 + 1), _, Nat.sub_succ_lt_self _ _ hb, M.i_t (by simpa using hb) (M.i_bind hr M.i_pure), b1 + 1, hb, rfl, rfl, h'.imp fun b' k' a' hp => ?_⟩
    by_cases e : b' = b1
    · subst e; exact .inr ⟨rfl, hp.2⟩
    · exact .inl ⟨by omega, hp.2⟩
  · right
    obtain rfl : b1 = ws.length := by omega
    exact ⟨(T1, c1, T1), M.i_f (by simp) M.i_pure, T1, c1, rfl, h⟩
/-- The table that is done. -/
structure Done (ws : List Work) (T : List (List Bool)) : Prop where
  sq : Sq ws.length T
  sound : ∀ a b, Tb T a b = true → Wy ws a b
  cl : ∀ b k a, b < ws.length ∧ k < (ws.getD b default).of.length ∧ a < ws.length → ClAt ws T b k a
theorem behind_ends (hR : rightE ws = 0) : ∃ T, (m_nilometerref13_behind ws).Ends T ∧ Done ws T := by
  have hlen := right_len hR
  have h0 : (M.iter (m_nilometerref13_behind_b0 ws) (0, [])).Ends (List.replicate ws.length (List.replicate ws.length false), List.replicate ws.length (List.replicate ws.length false)) := by
    refine M.i_for (fun i => (i, List.replicate i (List.replicate ws.length false))) ws.length (fun i hi => ?_) ?_
    · simp only [m_nilometerref13_behind_b0]
      refine M.i_t (by simpa using hi) (M.i_grd (gA3 (by omega) (by omega) (by omega)) (M.grdD (by simp only [List.length_replicate]; omega) ?_))
      rw [← List.replicate_succ']
      exact M.i_pure
    · simp only [m_nilometerref13_behind_b0]
      exact M.i_f (by simp) M.i_pure
  have hz : ∀ a b, Tb (List.replicate ws.length (List.replicate ws.length false)) a b = false := by
    intro a b
    unfold Tb
    simp only [List.getD_eq_getElem?_getD, List.getElem?_replicate]
    split
    · simp only [Option.getD_some, List.getElem?_replicate]; split <;> rfl
    · rfl
  have hs : Sq ws.length (List.replicate ws.length (List.replicate ws.length false)) := ⟨by simp, fun a ha => by simp [List.getD_eq_getElem?_getD, List.getElem?_replicate, ha]⟩
  obtain ⟨r, hr, T, rfl, hT⟩ := M.i_loopQ (body := m_nilometerref13_behind_b15 ws) (fun r => ∃ T, r = (T, T) ∧ Done ws T)
    (fun m s => Sq ws.length s.1 ∧ (∀ a b, Tb s.1 a b = true → Wy ws a b) ∧ m = fT s.1 + (if s.2 then 1 else 0) ∧ (s.2 = false → Done ws s.1))
    (by
      rintro m ⟨T1, c1⟩ ⟨h1, h2, rfl, h4⟩
      dsimp only at h1 h2 h4 ⊢
      simp only [m_nilometerref13_behind_b15]
      cases c1 with
      | false => exact .inr ⟨(T1, T1), M.i_f rfl M.i_pure, T1, rfl, h4 rfl⟩
      | true =>
        left
        obtain ⟨r, hr, T', ch', rfl, h'⟩ := behind_b hR (T0 := T1) (T := T1) (ch := false) ⟨h1, h2, fun e => (by cases e), fun _ => ⟨rfl, fun _ _ _ h => h.elim⟩⟩
        refine ⟨(T', ch'), _, ?_, M.i_t rfl (M.i_bind hr M.i_pure), h'.sq, h'.sound, rfl, fun e => ⟨h'.sq, h'.sound, (h'.no e).2⟩⟩
        cases ch' with
        | true => have := h'.yes rfl; simp only [if_true]; omega
        | false => rw [(h'.no rfl).1]; simp)
    _ (List.replicate ws.length (List.replicate ws.length false), true) ⟨hs, fun a b h => (by rw [hz] at h; cases h), rfl, fun e => (by cases e)⟩
  exact ⟨T, M.i_bind h0 (M.i_bind hr M.i_pure), hT⟩
theorem Done.way {T : List (List Bool)} (h : Done ws T) (hR : rightE ws = 0) {a b : Nat} (w : Wy ws a b) : Tb T a b = true := by
  induction w with
  | @one b ha hb =>
    obtain ⟨k, hk, e⟩ := List.getElem_of_mem ha
    have e' : ((ws.getD b default).of).getD k 0 = (a : Int) := (getD_el _ hk _).trans e
    have := right_of hR hb _ ha
    exact h.cl b k a ⟨hb, hk, by omega⟩ (by rw [e']; simp)
  | @more m b w hm hb ih =>
    obtain ⟨k, hk, e⟩ := List.getElem_of_mem hm
    have e' : ((ws.getD b default).of).getD k 0 = (m : Int) := (getD_el _ hk _).trans e
    have ha : a < ws.length := by
      cases hlt : decide (a < ws.length) with
      | true => simpa using hlt
      | false =>
        exfalso
        have : Tb T a m = false := by
          unfold Tb
          rw [List.getD_eq_getElem?_getD (l := T), List.getElem?_eq_none (by rw [h.sq.len]; simpa using hlt)]
          simp
        rw [ih] at this
        cases this
    exact h.cl b k a ⟨hb, hk, ha⟩ (by rw [e', show Int.toNat (m : Int) = m from rfl, ih]; simp)
end Go.Proofs.Ytndobgodeicloaa
namespace Go.Nm
theorem wy_pos {ws : List Work} (h : openedE ws = 0) {a b : Nat} (w : Wy ws a b) : posO ws a < posO ws b := by
  induction w with
  | one ha hb => exact posO_lt (order_all h (Int.natCast_nonneg _) (by omega)) (by simpa using ha)
  | more w hm hb ih => exact Nat.lt_trans ih (posO_lt (order_all h (Int.natCast_nonneg _) (by omega)) (by simpa using hm))
theorem orderF_stuck {ws : List Work} : ∀ (f : Nat) (out : List Int), (orderF ws f out).length < out.length + f → nextR ws (orderF ws f out) = none
  | 0, out, h => by simp only [orderF] at h; omega
  | f + 1, out, h => by
    unfold orderF at h ⊢
    cases hn : nextR ws out with
    | none => exact hn
    | some i =>
      rw [hn] at h
      dsimp only at h ⊢
      exact orderF_stuck f _ (by simp only [List.length_append, List.length_cons, List.length_nil]; omega)
theorem nodup_sub : ∀ (l m : List Int), l.Nodup → (∀ x ∈ l, x ∈ m) → l.length ≤ m.length
  | [], _, _, _ => Nat.zero_le _
  | x :: l, m, hn, hs => by
    rw [List.nodup_cons] at hn
    have h1 := nodup_sub l (m.erase x) hn.2 (fun y hy => (List.mem_erase_of_ne (show y ≠ x from fun e => hn.1 (by rw [← e]; exact hy))).2 (hs y (List.mem_cons_of_mem _ hy)))
    have h2 := hs x (List.mem_cons_self ..)
    rw [List.length_erase_of_mem h2] at h1
    have := List.length_pos_of_mem h2
    simp only [List.length_cons]
    omega
theorem order_circle {ws : List Work} (hR : rightE ws = 0) (h : (orderP ws).length < ws.length) : ∃ i, i < ws.length ∧ Wy ws i i := by
  have hst : nextR ws (orderP ws) = none := orderF_stuck ws.length [] (by simpa [orderP] using h)
  have hnr : ∀ i, i < ws.length → readyAt ws (orderP ws) i = false := by
    intro i hi
    unfold nextR at hst
    rw [List.find?_eq_none] at hst
    simpa using hst i (List.mem_range.2 hi)
  have step : ∀ i, i < ws.length → (i : Int) ∉ orderP ws → ∃ k, k < ws.length ∧ (k : Int) ∉ orderP ws ∧ (k : Int) ∈ (ws.getD i default).of := by
    intro i hi hni
    have h1 := hnr i hi
    unfold readyAt at h1
    have h2 : (orderP ws).contains (i : Int) = false := by simpa using hni
    rw [h2, Bool.not_false, Bool.true_and, List.all_eq_false] at h1
    obtain ⟨x, hx, hx2⟩ := h1
    have h3 := right_of hR hi x hx
    refine ⟨x.toNat, by omega, ?_, ?_⟩
    · rw [Int.toNat_of_nonneg h3.1]; simpa using hx2
    · rw [Int.toNat_of_nonneg h3.1]; exact hx
  have start : ∃ i, i < ws.length ∧ (i : Int) ∉ orderP ws := by
    refine Classical.byContradiction fun hc => ?_
    have h1 : ∀ i, i < ws.length → (i : Int) ∈ orderP ws := fun i hi => Classical.byContradiction fun hn => hc ⟨i, hi, hn⟩
    have h2 : ((List.range ws.length).map fun i : Nat => (i : Int)).length ≤ (orderP ws).length := by
      refine nodup_sub _ _ ?_ ?_
      · rw [List.Nodup, List.pairwise_map]
        exact List.nodup_range.imp fun hne e => hne (by omega)
      · intro x hx
        obtain ⟨i, hi, rfl⟩ := List.mem_map.1 hx
        exact h1 i (List.mem_range.1 hi)
    simp at h2
    omega
  obtain ⟨i0, hi0, hn0⟩ := start
  have hg : ∃ g : Nat → Nat, ∀ i, i < ws.length → (i : Int) ∉ orderP ws → g i < ws.length ∧ (g i : Int) ∉ orderP ws ∧ (g i : Int) ∈ (ws.getD i default).of := by
    refine ⟨fun i => if hh : i < ws.length ∧ (i : Int) ∉ orderP ws then (step i hh.1 hh.2).choose else 0, fun i h1 h2 => ?_⟩
    dsimp only
    rw [dif_pos (show i < ws.length ∧ (i : Int) ∉ orderP ws from ⟨h1, h2⟩)]
    exact (step i h1 h2).choose_spec
  obtain ⟨g, hg⟩ := hg
  let sq : Nat → Nat := fun j => Nat.rec i0 (fun _ x => g x) j
  have hs : ∀ j : Nat, sq j < ws.length ∧ (Int.ofNat (sq j)) ∉ orderP ws := by
    intro j
    induction j with
    | zero => exact ⟨hi0, hn0⟩
    | succ j ih => exact ⟨(hg _ ih.1 ih.2).1, (hg _ ih.1 ih.2).2.1⟩
  have hw : ∀ d p : Nat, Wy ws (sq (p + d + 1)) (sq p) := by
    intro d
    induction d with
    | zero => intro p; exact .one (hg _ (hs p).1 (hs p).2).2.2 (hs p).1
    | succ d ih =>
      intro p
      have := ih (p + 1)
      rw [show p + 1 + d + 1 = p + (d + 1) + 1 from by omega] at this
      exact .more this (hg _ (hs p).1 (hs p).2).2.2 (hs p).1
  refine Classical.byContradiction fun hc => ?_
  have hne : ∀ p q : Nat, p < q → sq p ≠ sq q := by
    intro p q hpq e
    have := hw (q - p - 1) p
    rw [show p + (q - p - 1) + 1 = q from by omega, ← e] at this
    exact hc ⟨sq p, (hs p).1, this⟩
  have h1 := nodup_bound ws.length ((List.range (ws.length + 1)).map fun j => Int.ofNat (sq j)) (by
    rw [List.Nodup, List.pairwise_map]
    exact List.pairwise_lt_range.imp fun hlt e => hne _ _ hlt (Int.ofNat.inj e)) (fun x hx => by
    obtain ⟨j, _, rfl⟩ := List.mem_map.1 hx
    have := (hs j).1
    show 0 ≤ ((sq j : Nat) : Int) ∧ ((sq j : Nat) : Int) < _
    omega)
  simp at h1
  omega
end Go.Nm
namespace Go.Proofs.Ytndobgodeicloaa
open Go Go.Nm
variable {ws : List Work}
theorem check_ends (ws : List Work) : (m_nilometerref13_Check ws).Ends (openedE ws) := by
  unfold m_nilometerref13_Check
  by_cases hR : rightE ws = 0
  · obtain ⟨T, hT, hD⟩ := behind_ends hR
    refine M.i_f (by simp [hR]) (M.i_bind hT (M.i_bind (M.i_scan ws.length (fun i => Tb T i i) (fun i hi _ => ?_) (fun _ => ?_)) ?_))
    · simp only [m_nilometerref13_Check_b0]
      have := hD.sq.len
      have := hD.sq.row i hi
      refine M.i_t (by simpa using hi) (M.grdD (by omega) (M.grdD (by omega) ?_))
      cases hc : Tb T i i with
      | true => exact M.i_t hc M.i_pure
      | false => exact M.i_f hc M.i_pure
    · simp only [m_nilometerref13_Check_b0]
      exact M.i_f (by simp) M.i_pure
    · by_cases hf : (orderP ws).length < ws.length
      · obtain ⟨i, hi, hw⟩ := order_circle hR hf
        have : (List.range ws.length).any (fun i => Tb T i i) = true := List.any_eq_true.2 ⟨i, List.mem_range.2 hi, hD.way hR hw⟩
        rw [this, opened_circle hR (by omega)]
        exact M.i_pure
      · have h0 := opened_ok hR (by omega : ¬ ((orderP ws).length : Int) < ws.length)
        have : (List.range ws.length).any (fun i => Tb T i i) = false := List.any_eq_false.2 fun i _ hc => by
          have := wy_pos h0 (hD.sound i i hc)
          omega
        rw [this, h0]
        exact M.i_pure
  · rw [opened_wrong hR]
    exact M.i_t (by simpa using hR) M.i_pure
end Go.Proofs.Ytndobgodeicloaa
namespace Go.Nm
theorem orderF_pre {ws : List Work} : ∀ (f : Nat) (out : List Int), ∃ r, orderF ws f out = out ++ r
  | 0, out => ⟨[], by simp [orderF]⟩
  | f + 1, out => by
    unfold orderF
    cases nextR ws out with
    | none => exact ⟨[], by simp⟩
    | some i =>
      obtain ⟨r, hr⟩ := orderF_pre (ws := ws) f (out ++ [(i : Int)])
      exact ⟨(i : Int) :: r, by simp [hr]⟩
theorem orderF_at {ws : List Work} : ∀ (f : Nat) (out : List Int) (j : Nat), out.length ≤ j → j < (orderF ws f out).length → ∃ i : Nat, nextR ws ((orderF ws f out).take j) = some i ∧ (orderF ws f out).getD j 0 = (i : Int)
  | 0, out, j, h1, h2 => by simp only [orderF] at h2; omega
  | f + 1, out, j, h1, h2 => by
    unfold orderF at h2 ⊢
    cases hn : nextR ws out with
    | none => rw [hn] at h2; dsimp only at h2; omega
    | some i =>
      rw [hn] at h2
      dsimp only at h2 ⊢
      by_cases e : j = out.length
      · subst e
        obtain ⟨r, hr⟩ := orderF_pre (ws := ws) f (out ++ [(i : Int)])
        rw [hr, List.append_assoc]
        refine ⟨i, ?_, ?_⟩
        · rw [List.take_left']
          · exact hn
          · rfl
        · rw [List.getD_eq_getElem?_getD, List.getElem?_append_right (Nat.le_refl _), Nat.sub_self]; rfl
      · exact orderF_at f _ j (by simp only [List.length_append, List.length_cons, List.length_nil]; omega) h2
theorem order_next {ws : List Work} {j : Nat} (h : j < (orderP ws).length) : ∃ i : Nat, nextR ws ((orderP ws).take j) = some i ∧ (orderP ws).getD j 0 = (i : Int) := orderF_at ws.length [] j (Nat.zero_le _) h
theorem nextR_spec {ws : List Work} {out : List Int} {i : Nat} (h : nextR ws out = some i) : i < ws.length ∧ readyAt ws out i = true ∧ ∀ j < i, readyAt ws out j = false := by
  unfold nextR at h
  have h1 := List.mem_range.1 (List.mem_of_find?_eq_some h)
  have h2 := List.find?_some h
  refine ⟨h1, h2, fun j hj => ?_⟩
  rw [List.find?_eq_some_iff_getElem] at h
  obtain ⟨_, k, hk, e, hl⟩ := h
  simp at e
  subst e
  have := hl j hj
  simpa using this
theorem any_range_all {α : Type} (l : List α) (d : α) (p : α → Bool) : (List.range l.length).any (fun i => !p (l.getD i d)) = !(l.all p) := by
  rw [Bool.eq_iff_iff]
  constructor
  · intro h
    obtain ⟨i, hi, hp⟩ := List.any_eq_true.1 h
    have hi := List.mem_range.1 hi
    rw [Bool.not_eq_true', List.all_eq_false]
    exact ⟨_, getD_memN l (i := i) (by omega) d, by simpa using hp⟩
  · intro h
    rw [Bool.not_eq_true', List.all_eq_false] at h
    obtain ⟨x, hx, hp⟩ := h
    obtain ⟨i, hi, rfl⟩ := List.getElem_of_mem hx
    exact List.any_eq_true.2 ⟨i, List.mem_range.2 hi, by rw [getD_el l hi d]; simpa using hp⟩
end Go.Nm
namespace Go.Proofs.Ytndobgodeicloaa
open Go Go.Nm
variable {ws : List Work}
theorem order_k (l : List Int) {i : Nat} (hi : i < ws.length) : (M.iter (m_nilometerref13_Order_b7 ws l (i : Int)) (!(l.contains (i : Int)), 0)).Ends (readyAt ws l i) := by
  have := M.i_for (body := m_nilometerref13_Order_b7 ws l (i : Int)) (r := readyAt ws l i) (fun k => (!(l.contains (i : Int)) && ((ws.getD i default).of.take k).all (fun x => l.contains x), k)) (ws.getD i default).of.length (fun k hk => ?_) ?_
  · simpa using this
  · simp only [m_nilometerref13_Order_b7, Int.toNat_natCast]
    refine M.i_grd (gA2 (by omega) (by omega)) (M.i_t (by simpa using hk) (M.i_grd (gOr (by omega)) ?_))
    rw [all_take_succ _ _ hk 0, ← Bool.and_assoc]
    exact M.i_pure
  · simp only [m_nilometerref13_Order_b7, Int.toNat_natCast, List.take_length]
    exact M.i_grd (gA2 (by omega) (by omega)) (M.i_f (by simp) M.i_pure)
theorem order_i (hR : rightE ws = 0) (l : List Int) {j : Nat} (hj : nextR ws l = some j) : (M.iter (m_nilometerref13_Order_b8 ws l) (-1, (ws.length : Int) - 1)).Ends (j : Int) := by
  have hlen := right_len hR
  obtain ⟨h1, h2, h3⟩ := nextR_spec hj
  refine M.i_loop (fun m s => ∃ i : Nat, i ≤ ws.length ∧ m = i ∧ s.2 = (i : Int) - 1 ∧ (i ≤ j → s.1 = (j : Int))) ?_ ws.length (-1, (ws.length : Int) - 1) ⟨ws.length, Nat.le_refl _, rfl, rfl, fun h => by omega⟩
  rintro m ⟨nx, i'⟩ ⟨i, hle, rfl, rfl, hn⟩
  dsimp only at hn ⊢
  simp only [m_nilometerref13_Order_b8]
  cases m with
  | zero =>
    right
    rw [hn (Nat.zero_le _)]
    exact M.i_f (by simp) M.i_pure
  | succ i =>
    left
    have hk := order_k (ws := ws) l (i := i) (by omega)
    have e : ((i + 1 : Nat) : Int) - 1 = (i : Int) := by omega
    rw [e]
    cases hr : readyAt ws l i with
    | true =>
      rw [hr] at hk
      refine ⟨((i : Int), (i : Int) - 1), i, by omega, M.i_t (by simp) (M.i_bind hk (M.i_t rfl (M.i_grd (gA2 (by omega) (by omega)) M.i_pure))), i, by omega, rfl, rfl, fun h => ?_⟩
      by_cases e2 : i = j
      · rw [e2]
      · have := h3 i (by omega); rw [hr] at this; cases this
    | false =>
      rw [hr] at hk
      refine ⟨(nx, (i : Int) - 1), i, by omega, M.i_t (by simp) (M.i_bind hk (M.i_f rfl (M.i_grd (gA2 (by omega) (by omega)) M.i_pure))), i, by omega, rfl, rfl, fun h => ?_⟩
      by_cases e2 : i = j
      · subst e2; rw [hr] at h2; cases h2
      · exact hn (by omega)
theorem order_ends (ws : List Work) : (m_nilometerref13_Order ws).Ends (if openedE ws = 0 then (orderP ws, 0) else ([], openedE ws)) := by
  unfold m_nilometerref13_Order
  refine M.i_bind (check_ends ws) ?_
  by_cases h : openedE ws = 0
  · rw [if_pos h]
    have hR := opened_right h
    have hlen := right_len hR
    have hf := order_full h
    refine M.i_f (by simp [h]) (M.i_bind (a := (orderP ws, orderP ws)) ?_ M.i_pure)
    have := M.i_for (body := m_nilometerref13_Order_b9 ws) (r := (orderP ws, orderP ws)) (fun j => (orderP ws).take j) ws.length (fun j hj => ?_) ?_
    · simpa using this
    · obtain ⟨i, hi, e⟩ := order_next (ws := ws) (j := j) (by omega)
      have hl : ((orderP ws).take j).length = j := by rw [List.length_take]; omega
      simp only [m_nilometerref13_Order_b9]
      refine M.i_t (by rw [hl]; simpa using hj) (M.i_bind (order_i hR _ hi) (M.grdD (by rw [hl]; simp only [List.length_cons, List.length_nil]; omega) ?_))
      rw [take_succ_getD (orderP ws) (by omega : j < _) 0, e]
      exact M.i_pure
    · simp only [m_nilometerref13_Order_b9]
      rw [← hf, List.take_length, hf]
      exact M.i_f (by simp [hf]) M.i_pure
  · rw [if_neg h]
    exact M.i_t (by simpa using h) M.i_pure
end Go.Proofs.Ytndobgodeicloaa
namespace Go.Proofs.Ytndobgodeicloaa
open Go Go.Nm
def m_nilometerref13_Values_b0 (w_ : List Work) (l : List Note) : Nat → M (Nat ⊕ (Unit ⊕ Unit)) := fun i =>
  bif decide ((i : Int) < (l.length : Int)) then (
  M.grd (decide ((i : Int) < (l.length : Int))) <|
  M.grd ((!(!(outB ((l.getD i default).work) 0 ((w_.length : Int) - 1))) || (decide ((0 : Int) ≤ ((l.getD i default).work)) && decide (((l.getD i default).work) < (w_.length : Int))))) <|
  bif ((outB ((l.getD i default).work) 0 ((w_.length : Int) - 1)) || (decide (0 < (((w_.getD (Int.toNat ((l.getD i default).work)) default).of).length : Int)))) then (
  M.pure (.inr (.inl ())))
  else (
  M.pure (.inl (i + 1))))
  else (
  M.pure (.inr (.inr ())))
def m_nilometerref13_Values_b1 (l : List Note) : Nat → M (Nat ⊕ (Unit ⊕ Unit)) := fun i2 =>
  bif decide ((i2 : Int) < (l.length : Int)) then (
  M.grd (decide ((i2 : Int) < (l.length : Int))) <|
  bif ((outB ((l.getD i2 default).version) 0 1000000) || (outB ((l.getD i2 default).value) 0 1000002)) then (
  M.pure (.inr (.inl ())))
  else (
  M.pure (.inl (i2 + 1))))
  else (
  M.pure (.inr (.inr ())))
def m_nilometerref13_Values_b3 (l : List Note) (i3 : Nat) : Nat → M (Nat ⊕ (Unit ⊕ Unit)) := fun k =>
  bif decide ((k : Int) < (i3 : Int)) then (
  M.grd (decide ((i3 : Int) < (l.length : Int))) <|
  M.grd (decide ((k : Int) < (l.length : Int))) <|
  bif (((((l.getD i3 default).work) == ((l.getD k default).work)) && (((l.getD i3 default).version) == ((l.getD k default).version))) && (((l.getD i3 default).value) != ((l.getD k default).value))) then (
  M.pure (.inr (.inl ())))
  else (
  M.pure (.inl (k + 1))))
  else (
  M.pure (.inr (.inr ())))
def m_nilometerref13_Values_b4 (l : List Note) : Nat → M (Nat ⊕ (Unit ⊕ Unit)) := fun i3 =>
  bif decide ((i3 : Int) < (l.length : Int)) then (
  M.bind (M.iter (m_nilometerref13_Values_b3 l i3) 0) fun x_ => match x_ with
  | (.inl (_ : Unit)) => (
  M.pure (.inr (.inl ())))
  | (.inr (_ : Unit)) => (
  M.pure (.inl (i3 + 1))))
  else (
  M.pure (.inr (.inr ())))
def m_nilometerref13_Values_b7 (l : List Note) (r0 : List Int) (n : Nat) : ((List Int) × Int × Nat) → M (((List Int) × Int × Nat) ⊕ ((List Int) × (List Int))) := fun (l2, best, k2) =>
  bif decide ((k2 : Int) < (l.length : Int)) then (
  M.grd (decide ((k2 : Int) < (l.length : Int))) <|
  bif ((((l.getD k2 default).work) == (r0.getD n 0)) && (decide (best < ((l.getD k2 default).version)))) then (
  M.grd (decide ((0 : Int) ≤ (r0.getD n 0)) && decide ((r0.getD n 0) < (l2.length : Int))) <|
  M.pure (.inl (l2.set (Int.toNat (r0.getD n 0)) ((l.getD k2 default).value : Int), (l.getD k2 default).version, k2 + 1)))
  else (
  M.pure (.inl (l2, best, k2 + 1))))
  else (
  M.pure (.inr (l2, l2)))
def m_nilometerref13_Values_b8 (w_ : List Work) (r0 : List Int) (n : Nat) (l4 : List Int) : (Int × Bool × Nat) → M ((Int × Bool × Nat) ⊕ (Int × Bool)) := fun (sum, known, k3) =>
  bif decide ((k3 : Int) < (((w_.getD (Int.toNat (r0.getD n 0)) default).of).length : Int)) then (
  M.grd ((!known || (decide ((k3 : Int) < (((w_.getD (Int.toNat (r0.getD n 0)) default).of).length : Int))))) <|
  M.grd ((!known || (decide ((0 : Int) ≤ (((w_.getD (Int.toNat (r0.getD n 0)) default).of).getD k3 0)) && decide ((((w_.getD (Int.toNat (r0.getD n 0)) default).of).getD k3 0) < (l4.length : Int))))) <|
  M.grd (decide ((k3 : Int) < (((w_.getD (Int.toNat (r0.getD n 0)) default).of).length : Int))) <|
  M.grd (decide ((0 : Int) ≤ (((w_.getD (Int.toNat (r0.getD n 0)) default).of).getD k3 0)) && decide ((((w_.getD (Int.toNat (r0.getD n 0)) default).of).getD k3 0) < (l4.length : Int))) <|
  M.grd (decide ((-9223372036854775808 : Int) ≤ (((k3 : Int) + 1) * (l4.getD (Int.toNat (((w_.getD (Int.toNat (r0.getD n 0)) default).of).getD k3 0)) 0))) && decide ((((k3 : Int) + 1) * (l4.getD (Int.toNat (((w_.getD (Int.toNat (r0.getD n 0)) default).of).getD k3 0)) 0)) ≤ (9223372036854775807 : Int))) <|
  M.grd (decide ((-9223372036854775808 : Int) ≤ (sum + (((k3 : Int) + 1) * (l4.getD (Int.toNat (((w_.getD (Int.toNat (r0.getD n 0)) default).of).getD k3 0)) 0)))) && decide ((sum + (((k3 : Int) + 1) * (l4.getD (Int.toNat (((w_.getD (Int.toNat (r0.getD n 0)) default).of).getD k3 0)) 0))) ≤ (9223372036854775807 : Int))) <|
  M.pure (.inl (sum + (((k3 : Int) + 1) * (l4.getD (Int.toNat (((w_.getD (Int.toNat (r0.getD n 0)) default).of).getD k3 0)) 0)), (known && ((l4.getD (Int.toNat (((w_.getD (Int.toNat (r0.getD n 0)) default).of).getD k3 0)) 0) != (-1))), k3 + 1)))
  else (
  M.pure (.inr (sum, known)))
def m_nilometerref13_Values_b9 (w_ : List Work) (l : List Note) (r0 : List Int) : ((List Int) × Nat) → M (((List Int) × Nat) ⊕ ((List Int) × (List Int))) := fun (l5, n) =>
  bif decide ((n : Int) < (r0.length : Int)) then (
  M.grd (decide ((n : Int) < (r0.length : Int))) <|
  M.grd (decide ((0 : Int) ≤ (r0.getD n 0)) && decide ((r0.getD n 0) < (l5.length : Int))) <|
  M.bind (M.iter (m_nilometerref13_Values_b7 l r0 n) (l5.set (Int.toNat (r0.getD n 0)) (-1 : Int), -1, 0)) fun (l3, l4) =>
  M.grd (decide ((0 : Int) ≤ (r0.getD n 0)) && decide ((r0.getD n 0) < (w_.length : Int))) <|
  bif (((w_.getD (Int.toNat (r0.getD n 0)) default).of).length : Int) == 0 then (
  M.pure (.inl (l4, n + 1)))
  else (
  M.bind (M.iter (m_nilometerref13_Values_b8 w_ r0 n l4) ((w_.getD (Int.toNat (r0.getD n 0)) default).base, true, 0)) fun (sum2, known2) =>
  bif known2 then (
  M.grd (decide ((0 : Int) ≤ sum2) && decide ((0 : Int) < 1000003)) <|
  M.grd (decide ((0 : Int) ≤ (r0.getD n 0)) && decide ((r0.getD n 0) < (l4.length : Int))) <|
  M.pure (.inl (l4.set (Int.toNat (r0.getD n 0)) (sum2 % 1000003 : Int), n + 1)))
  else (
  M.pure (.inl (l4, n + 1)))))
  else (
  M.pure (.inr (l5, l5)))
def m_nilometerref13_Values (w_ : List Work) (l : List Note) : M ((List Int) × Int) :=
  M.bind (m_nilometerref13_Order w_) fun (r0, r1) =>
  bif r1 != 0 then (
  M.pure (([]), r1))
  else (
  bif decide (200 < (l.length : Int)) then (
  M.pure (([]), 3))
  else (
  M.bind (M.iter (m_nilometerref13_Values_b0 w_ l) 0) fun x_ => match x_ with
  | (.inl (_ : Unit)) => (
  M.pure (([]), 2))
  | (.inr (_ : Unit)) => (
  M.bind (M.iter (m_nilometerref13_Values_b1 l) 0) fun x_ => match x_ with
  | (.inl (_ : Unit)) => (
  M.pure (([]), 4))
  | (.inr (_ : Unit)) => (
  M.bind (M.iter (m_nilometerref13_Values_b4 l) 0) fun x_ => match x_ with
  | (.inl (_ : Unit)) => (
  M.pure (([]), 10))
  | (.inr (_ : Unit)) => (
  M.grd (decide ((0 : Int) ≤ (w_.length : Int)) && decide ((8 : Int) * (w_.length : Int) ≤ 281474976710656) && decide ((w_.length : Int) ≤ (9223372036854775807 : Int))) <|
  M.bind (M.iter (m_nilometerref13_Values_b9 w_ l r0) (List.replicate (w_.length) (0 : Int), 0)) fun (l6, l7) =>
  M.pure (l7, 0))))))
set_option maxRecDepth 100000 in
set_option maxHeartbeats 16000000 in
theorem nilometerref13_Values_ok {R : List Chunk} {C_w_ : Cells} {v_w_ : Value} {C_l : Cells} {v_l : Value} (w_ : List Work) (l : List Note) (hC_w_ : Reads R C_w_) (hs_w_ : Sl C_w_ v_w_ w_) (hC_l : Reads R C_l) (hs_l : Sl C_l v_l l) {r : ((List Int) × Int)} (hM : (m_nilometerref13_Values w_ l).Ends r) (w : World) (H : St w w [] R) : Ret Try.prog 22 #[v_w_, v_l] w fun v w' => ∃ (y0 : List Int) (y1 : Int) (u0 : Value), (y0, y1) = r ∧ v = .tuple #[u0, I y1] ∧ St w w' [cOwn (α := Int) 3 u0 y0] R := by
 refine ret_of_W Try.func22 rfl rfl rfl ?_
 refine W.seq <| W.region rfl <| s_val (x_as (v := .slice none 0 0) rfl) <| s_val (x_as (v := I 0) rfl) <| s_nil <| W.seq <| W.region rfl <| s_val (x_mv (v := v_w_) rfl) ?_
 obtain ⟨r2z, hx1z, hM⟩ := M.e_bind hM
 refine s_call cf72 [v_w_] rfl (nilometerref13_Order_ok w_ (hC_w_.app _) hs_w_ hx1z _ (St.give (T := []) H rfl)) ?_
 rintro vq w3z ⟨r0, r1, u0_1, hr4z, hvq, H2_⟩
 subst hr4z
 subst vq
 try dsimp only at hM
 replace H : St w w3z [cOwn (α := Int) 3 u0_1 r0] R := H.back H2_ rfl
 clear H2_
 refine s_val (x_mv (v := .tuple #[u0_1, I r1]) rfl) <| s_val (x_ext (vs := [u0_1, I r1]) (v := u0_1) rfl rfl) <| s_val (x_ext (vs := [u0_1, I r1]) (v := I r1) rfl rfl) <| s_val (x_as (v := u0_1) rfl) <| s_val (x_as (v := I r1) rfl) <| s_nil <| W.seq <| W.seq ?_
 refine W.region rfl <| s_val (x_mv (v := I r1) rfl) <| s_val (x_cmp (kd := .i64) (a := r1) (b := 0) (r := r1 != 0) rfl rfl rfl) <| s_nil ?_
 refine W.cond (r1 != 0) rfl (fun c5z => ?_) (fun c5z => ?_)
 ·replace hM := M.e_t hM c5z
  simp only [q1, q2, q3, q4, q5, q6, ne_eq, q7] at c5z
  refine W.seq <| W.region rfl <| s_val (x_mv (v := I r1) rfl) <| s_val (x_as (v := .slice none 0 0) rfl) <| s_val (x_as (v := I r1) rfl) <| s_nil ?_
  refine W.ret ?_
  have hr_ := M.e_pure hM
  replace H : St w w3z [cOwn (α := Int) 3 (.slice none 0 0) ([]), cOwn (α := Int) 3 u0_1 r0] R := H.nilOwn (α := Int) 3
  exact ⟨_, resE_tmp2 rfl, ⟨([]), r1, (.slice none 0 0), hr_, rfl, (H.pick [0] (by decide) rfl)⟩⟩
 ·replace hM := M.e_f hM c5z
  simp only [q1, q2, q3, q4, q5, q6, ne_eq, q7] at c5z
  refine W.skip <| W.seq <| W.seq <| W.region rfl <| s_val (x_mv (v := v_l) rfl) ?_
  have hl6z := (hs_l).len_le
  refine s_val (x_lenS T41.und rfl hs_l) <| s_val (x_cmp (kd := .i64) (a := (l.length : Int)) (b := 200) (r := decide (200 < (l.length : Int))) rfl rfl rfl) <| s_nil ?_
  refine W.cond (decide (200 < (l.length : Int))) rfl (fun c7z => ?_) (fun c7z => ?_)
  ·replace hM := M.e_t hM c7z
   simp only [q1, q2, q3, q4, q5, q6, ne_eq, q7] at c7z
   refine W.seq <| W.region rfl <| s_val (x_as (v := .slice none 0 0) rfl) <| s_val (x_as (v := I 3) rfl) <| s_nil ?_
   refine W.ret ?_
   have hr_ := M.e_pure hM
   replace H : St w w3z [cOwn (α := Int) 3 (.slice none 0 0) ([]), cOwn (α := Int) 3 u0_1 r0] R := H.nilOwn (α := Int) 3
   exact ⟨_, resE_tmp2 rfl, ⟨([]), 3, (.slice none 0 0), hr_, rfl, (H.pick [0] (by decide) rfl)⟩⟩
  ·replace hM := M.e_f hM c7z
   simp only [q1, q2, q3, q4, q5, q6, ne_eq, q7] at c7z
   refine W.skip <| W.seq <| W.seq <| W.region rfl <| s_val (x_as (v := I 0) rfl) <| s_nil <| W.block ?_
   obtain ⟨ex8z, hi9z, hk10z⟩ := M.e_bind hM
   obtain ⟨m0_, hi9z⟩ := M.e_iter hi9z
   refine W.loop (fun m σ W => ∃ (i : Nat) (ρ : Env), σ = upds ρ [(0, v_w_), (1, v_l), (6, u0_1), (8, I (i : Int))] ∧ M.iterN (m_nilometerref13_Values_b0 w_ l) m i = some ex8z ∧ St w W [cOwn (α := Int) 3 u0_1 r0] R) ?_ ?_
   ·exact ⟨_, 0, _, upds_of _ _ ⟨rfl, rfl, rfl, rfl, trivial⟩, hi9z, H⟩
   ·rintro m13z σ w11z ⟨i, ρ, rfl, hI12z, H⟩
    obtain ⟨m14z, lt15z, x16z, hM, hN17z⟩ := M.e_iterN hI12z
    simp only [m_nilometerref13_Values_b0] at hM
    clear hI12z
    refine W.seq <| W.seq <| W.region rfl <| s_val (x_mv (v := I (i : Int)) rfl) <| s_val (x_mv (v := v_l) rfl) ?_
    have hl18z := (hs_l).len_le
    refine s_val (x_lenS T41.und rfl hs_l) <| s_val (x_cmp (kd := .i64) (a := (i : Int)) (b := (l.length : Int)) (r := decide ((i : Int) < (l.length : Int))) rfl rfl rfl) <| s_nil ?_
    refine W.cond (decide ((i : Int) < (l.length : Int))) rfl (fun c19z => ?_) (fun c19z => ?_)
    ·replace hM := M.e_t hM c19z
     simp only [q1, q2, q3, q4, q5, q6, ne_eq, q7] at c19z
     refine W.skip <| W.seq <| W.block <| W.seq <| W.region rfl <| s_val (x_mv (v := v_l) rfl) <| s_val (x_mv (v := I (i : Int)) rfl) ?_
     obtain ⟨sd20z, hM⟩ := M.e_grd hM
     simp only [Bool.and_eq_true, decide_eq_true_eq] at sd20z
     refine s_val (x_ix (a := v_l) (b := I (i : Int)) (v := vat v_l 3 (Int.toNat (i : Int))) rfl rfl (Sl.ix (α := Note) T41.und T41.size hs_l (by omega) (by omega))) <| s_val (x_fa (a := vat v_l 3 (Int.toNat (i : Int))) (v := fat (vat v_l 3 (Int.toNat (i : Int))) 0) rfl (fa_pl Fd137_0 Sz3 (Sl.pl (i := (i : Int)) hs_l (by omega) (by omega)))) <| s_val (x_ld (p := fat (vat v_l 3 (Int.toNat (i : Int))) 0) (v := I ((l.getD i default).work)) rfl (ld_sc Sc3 (At.mono (Note_at0 hs_l (i := (i : Int)) (by omega) (by omega)) (hC_l.at H)))) <| s_val (x_mv (v := v_w_) rfl) ?_
     have hl21z := (hs_w_).len_le
     refine s_val (x_lenS T39.und rfl hs_w_) <| s_val (x_ari (a := (w_.length : Int)) (b := 1) (r := (w_.length : Int) - 1) rfl rfl rfl (by omega)) ?_
     refine s_call cf89 [I ((l.getD i default).work), I 0, I ((w_.length : Int) - 1)] rfl (outside_any ((l.getD i default).work) 0 ((w_.length : Int) - 1) _) ?_
     rintro _ w22z ⟨rfl, hx_⟩
     replace H : St w w22z [cOwn (α := Int) 3 u0_1 r0] R := H.ext hx_
     clear hx_
     refine s_val (x_mv (v := B (outB ((l.getD i default).work) 0 ((w_.length : Int) - 1))) rfl) <| g_val (!(outB ((l.getD i default).work) 0 ((w_.length : Int) - 1))) (gy_f rfl) (fun hg => x_mv (v := v_w_) rfl) <| g_val (!(outB ((l.getD i default).work) 0 ((w_.length : Int) - 1))) (gy_f rfl) (fun hg => x_mv (v := v_l) rfl) <| g_val (!(outB ((l.getD i default).work) 0 ((w_.length : Int) - 1))) (gy_f rfl) (fun hg => x_mv (v := I (i : Int)) rfl) <| g_val (!(outB ((l.getD i default).work) 0 ((w_.length : Int) - 1))) (gy_f rfl) (fun hg => x_ix (a := v_l) (b := I (i : Int)) (v := vat v_l 3 (Int.toNat (i : Int))) (gd_of (c := !(outB ((l.getD i default).work) 0 ((w_.length : Int) - 1))) hg (v_l)) (gd_of (c := !(outB ((l.getD i default).work) 0 ((w_.length : Int) - 1))) hg (I (i : Int))) (Sl.ix (α := Note) T41.und T41.size hs_l (by first | omega | (have hx_ := hg; simp at hx_; omega)) (by first | omega | (have hx_ := hg; simp at hx_; omega)))) <| g_val (!(outB ((l.getD i default).work) 0 ((w_.length : Int) - 1))) (gy_f rfl) (fun hg => x_fa (a := vat v_l 3 (Int.toNat (i : Int))) (v := fat (vat v_l 3 (Int.toNat (i : Int))) 0) (gd_of (c := !(outB ((l.getD i default).work) 0 ((w_.length : Int) - 1))) hg (vat v_l 3 (Int.toNat (i : Int)))) (fa_pl Fd137_0 Sz3 (Sl.pl (i := (i : Int)) hs_l (by first | omega | (have hx_ := hg; simp at hx_; omega)) (by first | omega | (have hx_ := hg; simp at hx_; omega))))) <| g_val (!(outB ((l.getD i default).work) 0 ((w_.length : Int) - 1))) (gy_f rfl) (fun hg => x_ld (p := fat (vat v_l 3 (Int.toNat (i : Int))) 0) (v := I ((l.getD i default).work)) (gd_of (c := !(outB ((l.getD i default).work) 0 ((w_.length : Int) - 1))) hg (fat (vat v_l 3 (Int.toNat (i : Int))) 0)) (ld_sc Sc3 (At.mono (Note_at0 hs_l (i := (i : Int)) (by first | omega | (have hx_ := hg; simp at hx_; omega)) (by first | omega | (have hx_ := hg; simp at hx_; omega))) (hC_l.at H)))) ?_
     obtain ⟨sd23z, hM⟩ := M.e_grd hM
     replace sd23z := M.imp_of sd23z
     simp only [Bool.and_eq_true, decide_eq_true_eq] at sd23z
     refine g_val (!(outB ((l.getD i default).work) 0 ((w_.length : Int) - 1))) (gy_f rfl) (fun hg => x_ix (a := v_w_) (b := I ((l.getD i default).work)) (v := vat v_w_ 3 (Int.toNat ((l.getD i default).work))) (gd_of (c := !(outB ((l.getD i default).work) 0 ((w_.length : Int) - 1))) hg (v_w_)) (gd_of (c := !(outB ((l.getD i default).work) 0 ((w_.length : Int) - 1))) hg (I ((l.getD i default).work))) (Sl.ix (α := Work) T39.und T39.size hs_w_ (by have h1_ := sd23z.resolve_left (by rw [hg]; decide); first | omega | (have hx_ := hg; simp at hx_; omega)) (by have h1_ := sd23z.resolve_left (by rw [hg]; decide); first | omega | (have hx_ := hg; simp at hx_; omega)))) <| g_val (!(outB ((l.getD i default).work) 0 ((w_.length : Int) - 1))) (gy_f rfl) (fun hg => x_fa (a := vat v_w_ 3 (Int.toNat ((l.getD i default).work))) (v := fat (vat v_w_ 3 (Int.toNat ((l.getD i default).work))) 0) (gd_of (c := !(outB ((l.getD i default).work) 0 ((w_.length : Int) - 1))) hg (vat v_w_ 3 (Int.toNat ((l.getD i default).work)))) (fa_pl Fd138_0 Sz34 (Sl.pl (i := (l.getD i default).work) hs_w_ (by have h1_ := sd23z.resolve_left (by rw [hg]; decide); first | omega | (have hx_ := hg; simp at hx_; omega)) (by have h1_ := sd23z.resolve_left (by rw [hg]; decide); first | omega | (have hx_ := hg; simp at hx_; omega))))) ?_
     obtain ⟨u24z, ha_u24z, hs25z⟩ := gd_ex (c := !(outB ((l.getD i default).work) 0 ((w_.length : Int) - 1))) fun hg => Work_at0 hs_w_ (i := (l.getD i default).work) (by have h1_ := sd23z.resolve_left (by rw [hg]; decide); first | omega | (have hx_ := hg; simp at hx_; omega)) (by have h1_ := sd23z.resolve_left (by rw [hg]; decide); first | omega | (have hx_ := hg; simp at hx_; omega))
     replace hs25z : (!(outB ((l.getD i default).work) 0 ((w_.length : Int) - 1))) = true → Sl _ u24z (w_.getD (Int.toNat ((l.getD i default).work)) default).of := hs25z
     refine g_val (!(outB ((l.getD i default).work) 0 ((w_.length : Int) - 1))) (gy_f rfl) (fun hg => x_ld (p := fat (vat v_w_ 3 (Int.toNat ((l.getD i default).work))) 0) (v := u24z) (gd_of (c := !(outB ((l.getD i default).work) 0 ((w_.length : Int) - 1))) hg (fat (vat v_w_ 3 (Int.toNat ((l.getD i default).work))) 0)) (ld_sc Sc34 (At.mono (ha_u24z hg) (hC_w_.at H)))) <| g_val (!(outB ((l.getD i default).work) 0 ((w_.length : Int) - 1))) (gy_f rfl) (fun hg => x_lenS T34.und (gd_of (c := !(outB ((l.getD i default).work) 0 ((w_.length : Int) - 1))) hg (u24z)) (hs25z hg)) <| g_val (!(outB ((l.getD i default).work) 0 ((w_.length : Int) - 1))) (gy_f rfl) (fun hg => x_cmp (kd := .i64) (a := (((w_.getD (Int.toNat ((l.getD i default).work)) default).of).length : Int)) (b := 0) (r := decide (0 < (((w_.getD (Int.toNat ((l.getD i default).work)) default).of).length : Int))) (gd_of (c := !(outB ((l.getD i default).work) 0 ((w_.length : Int) - 1))) hg (I (((w_.getD (Int.toNat ((l.getD i default).work)) default).of).length : Int))) rfl rfl) <| s_val (x_por (b := outB ((l.getD i default).work) 0 ((w_.length : Int) - 1)) (r := decide (0 < (((w_.getD (Int.toNat ((l.getD i default).work)) default).of).length : Int))) rfl rfl (fun hb => gd_of (c := !(outB ((l.getD i default).work) 0 ((w_.length : Int) - 1))) (by simp_all) (B (decide (0 < (((w_.getD (Int.toNat ((l.getD i default).work)) default).of).length : Int)))))) <| s_nil ?_
     refine W.cond ((outB ((l.getD i default).work) 0 ((w_.length : Int) - 1)) || (decide (0 < (((w_.getD (Int.toNat ((l.getD i default).work)) default).of).length : Int)))) rfl (fun c27z => ?_) (fun c27z => ?_)
     ·replace hM := M.e_t hM c27z
      refine W.seq <| W.region rfl <| s_val (x_as (v := .slice none 0 0) rfl) <| s_val (x_as (v := I 2) rfl) <| s_nil ?_
      refine W.ret ?_
      have hX28z := M.e_inr hM hN17z
      subst hX28z
      replace hM := hk10z
      try dsimp only at hM
      have hr_ := M.e_pure hM
      replace H : St w w22z [cOwn (α := Int) 3 (.slice none 0 0) ([]), cOwn (α := Int) 3 u0_1 r0] R := H.nilOwn (α := Int) 3
      exact ⟨_, resE_tmp2 rfl, ⟨([]), 2, (.slice none 0 0), hr_, rfl, (H.pick [0] (by decide) rfl)⟩⟩
     ·replace hM := M.e_f hM c27z
      refine W.skip <| W.region rfl <| s_val (x_mv (v := I (i : Int)) rfl) <| s_val (x_ari (a := (i : Int)) (b := 1) (r := (i : Int) + 1) rfl rfl rfl (by omega)) <| s_val (x_as (v := I ((i : Int) + 1)) rfl) <| s_nil ?_
      exact ⟨m14z, lt15z, i + 1, _, upds_of _ _ ⟨rfl, rfl, rfl, rfl, trivial⟩, M.e_inl hM hN17z, H⟩
    ·replace hM := M.e_f hM c19z
     simp only [q1, q2, q3, q4, q5, q6, ne_eq, q7] at c19z
     refine W.exit ?_
     have hX29z := M.e_inr hM hN17z
     subst hX29z
     replace hM := hk10z
     try dsimp only at hM
     refine W.seq <| W.seq <| W.region rfl <| s_val (x_as (v := I 0) rfl) <| s_nil <| W.block ?_
     obtain ⟨ex30z, hi31z, hk32z⟩ := M.e_bind hM
     obtain ⟨m0_, hi31z⟩ := M.e_iter hi31z
     refine W.loop (fun m σ W => ∃ (i2 : Nat) (ρ : Env), σ = upds ρ [(0, v_w_), (1, v_l), (6, u0_1), (9, I (i2 : Int))] ∧ M.iterN (m_nilometerref13_Values_b1 l) m i2 = some ex30z ∧ St w W [cOwn (α := Int) 3 u0_1 r0] R) ?_ ?_
     ·exact ⟨_, 0, _, upds_of _ _ ⟨rfl, rfl, rfl, rfl, trivial⟩, hi31z, H⟩
     ·rintro m35z σ w33z ⟨i2, ρ, rfl, hI34z, H⟩
      obtain ⟨m36z, lt37z, x38z, hM, hN39z⟩ := M.e_iterN hI34z
      simp only [m_nilometerref13_Values_b1] at hM
      clear hI34z
      refine W.seq <| W.seq <| W.region rfl <| s_val (x_mv (v := I (i2 : Int)) rfl) <| s_val (x_mv (v := v_l) rfl) ?_
      have hl40z := (hs_l).len_le
      refine s_val (x_lenS T41.und rfl hs_l) <| s_val (x_cmp (kd := .i64) (a := (i2 : Int)) (b := (l.length : Int)) (r := decide ((i2 : Int) < (l.length : Int))) rfl rfl rfl) <| s_nil ?_
      refine W.cond (decide ((i2 : Int) < (l.length : Int))) rfl (fun c41z => ?_) (fun c41z => ?_)
      ·replace hM := M.e_t hM c41z
       simp only [q1, q2, q3, q4, q5, q6, ne_eq, q7] at c41z
       refine W.skip <| W.seq <| W.block <| W.seq <| W.region rfl <| s_val (x_mv (v := v_l) rfl) <| s_val (x_mv (v := I (i2 : Int)) rfl) ?_
       obtain ⟨sd42z, hM⟩ := M.e_grd hM
       simp only [Bool.and_eq_true, decide_eq_true_eq] at sd42z
       refine s_val (x_ix (a := v_l) (b := I (i2 : Int)) (v := vat v_l 3 (Int.toNat (i2 : Int))) rfl rfl (Sl.ix (α := Note) T41.und T41.size hs_l (by omega) (by omega))) <| s_val (x_fa (a := vat v_l 3 (Int.toNat (i2 : Int))) (v := fat (vat v_l 3 (Int.toNat (i2 : Int))) 1) rfl (fa_pl Fd137_1 Sz3 (Sl.pl (i := (i2 : Int)) hs_l (by omega) (by omega)))) <| s_val (x_ld (p := fat (vat v_l 3 (Int.toNat (i2 : Int))) 1) (v := I ((l.getD i2 default).version)) rfl (ld_sc Sc3 (At.mono (Note_at1 hs_l (i := (i2 : Int)) (by omega) (by omega)) (hC_l.at H)))) ?_
       refine s_call cf89 [I ((l.getD i2 default).version), I 0, I 1000000] rfl (outside_any ((l.getD i2 default).version) 0 1000000 _) ?_
       rintro _ w43z ⟨rfl, hx_⟩
       replace H : St w w43z [cOwn (α := Int) 3 u0_1 r0] R := H.ext hx_
       clear hx_
       refine s_val (x_mv (v := B (outB ((l.getD i2 default).version) 0 1000000)) rfl) <| g_val (!(outB ((l.getD i2 default).version) 0 1000000)) (gy_f rfl) (fun hg => x_mv (v := v_l) rfl) <| g_val (!(outB ((l.getD i2 default).version) 0 1000000)) (gy_f rfl) (fun hg => x_mv (v := I (i2 : Int)) rfl) <| g_val (!(outB ((l.getD i2 default).version) 0 1000000)) (gy_f rfl) (fun hg => x_ix (a := v_l) (b := I (i2 : Int)) (v := vat v_l 3 (Int.toNat (i2 : Int))) (gd_of (c := !(outB ((l.getD i2 default).version) 0 1000000)) hg (v_l)) (gd_of (c := !(outB ((l.getD i2 default).version) 0 1000000)) hg (I (i2 : Int))) (Sl.ix (α := Note) T41.und T41.size hs_l (by first | omega | (have hx_ := hg; simp at hx_; omega)) (by first | omega | (have hx_ := hg; simp at hx_; omega)))) <| g_val (!(outB ((l.getD i2 default).version) 0 1000000)) (gy_f rfl) (fun hg => x_fa (a := vat v_l 3 (Int.toNat (i2 : Int))) (v := fat (vat v_l 3 (Int.toNat (i2 : Int))) 2) (gd_of (c := !(outB ((l.getD i2 default).version) 0 1000000)) hg (vat v_l 3 (Int.toNat (i2 : Int)))) (fa_pl Fd137_2 Sz3 (Sl.pl (i := (i2 : Int)) hs_l (by first | omega | (have hx_ := hg; simp at hx_; omega)) (by first | omega | (have hx_ := hg; simp at hx_; omega))))) <| g_val (!(outB ((l.getD i2 default).version) 0 1000000)) (gy_f rfl) (fun hg => x_ld (p := fat (vat v_l 3 (Int.toNat (i2 : Int))) 2) (v := I ((l.getD i2 default).value)) (gd_of (c := !(outB ((l.getD i2 default).version) 0 1000000)) hg (fat (vat v_l 3 (Int.toNat (i2 : Int))) 2)) (ld_sc Sc3 (At.mono (Note_at2 hs_l (i := (i2 : Int)) (by first | omega | (have hx_ := hg; simp at hx_; omega)) (by first | omega | (have hx_ := hg; simp at hx_; omega))) (hC_l.at H)))) ?_
       refine t_gcall (!(outB ((l.getD i2 default).version) 0 1000000)) (gy_f rfl) cf89 (B (outB ((l.getD i2 default).value) 0 1000002)) (fun _ => [I ((l.getD i2 default).value), I 0, I 1000002]) (fun hg => lst3 (gd_of (c := !(outB ((l.getD i2 default).version) 0 1000000)) hg (I ((l.getD i2 default).value))) rfl rfl) H (fun hg => Ret.mono (outside_any ((l.getD i2 default).value) 0 1000002 _) fun v_ w_ ⟨hv_, hx_⟩ => ⟨hv_, H.ext hx_⟩) ?_
       intro w44z H
       refine s_val (x_por (b := outB ((l.getD i2 default).version) 0 1000000) (r := outB ((l.getD i2 default).value) 0 1000002) rfl rfl (fun hb => gd_of (c := !(outB ((l.getD i2 default).version) 0 1000000)) (by simp_all) (B (outB ((l.getD i2 default).value) 0 1000002)))) <| s_nil ?_
       refine W.cond ((outB ((l.getD i2 default).version) 0 1000000) || (outB ((l.getD i2 default).value) 0 1000002)) rfl (fun c45z => ?_) (fun c45z => ?_)
       ·replace hM := M.e_t hM c45z
        refine W.seq <| W.region rfl <| s_val (x_as (v := .slice none 0 0) rfl) <| s_val (x_as (v := I 4) rfl) <| s_nil ?_
        refine W.ret ?_
        have hX46z := M.e_inr hM hN39z
        subst hX46z
        replace hM := hk32z
        try dsimp only at hM
        have hr_ := M.e_pure hM
        replace H : St w w44z [cOwn (α := Int) 3 (.slice none 0 0) ([]), cOwn (α := Int) 3 u0_1 r0] R := H.nilOwn (α := Int) 3
        exact ⟨_, resE_tmp2 rfl, ⟨([]), 4, (.slice none 0 0), hr_, rfl, (H.pick [0] (by decide) rfl)⟩⟩
       ·replace hM := M.e_f hM c45z
        refine W.skip <| W.region rfl <| s_val (x_mv (v := I (i2 : Int)) rfl) <| s_val (x_ari (a := (i2 : Int)) (b := 1) (r := (i2 : Int) + 1) rfl rfl rfl (by omega)) <| s_val (x_as (v := I ((i2 : Int) + 1)) rfl) <| s_nil ?_
        exact ⟨m36z, lt37z, i2 + 1, _, upds_of _ _ ⟨rfl, rfl, rfl, rfl, trivial⟩, M.e_inl hM hN39z, H⟩
      ·replace hM := M.e_f hM c41z
       simp only [q1, q2, q3, q4, q5, q6, ne_eq, q7] at c41z
       refine W.exit ?_
       have hX47z := M.e_inr hM hN39z
       subst hX47z
       replace hM := hk32z
       try dsimp only at hM
       refine W.seq <| W.seq <| W.region rfl <| s_val (x_as (v := I 0) rfl) <| s_nil <| W.block ?_
       obtain ⟨ex48z, hi49z, hk50z⟩ := M.e_bind hM
       obtain ⟨m0_, hi49z⟩ := M.e_iter hi49z
       refine W.loop (fun m σ W => ∃ (i3 : Nat) (ρ : Env), σ = upds ρ [(0, v_w_), (1, v_l), (6, u0_1), (10, I (i3 : Int))] ∧ M.iterN (m_nilometerref13_Values_b4 l) m i3 = some ex48z ∧ St w W [cOwn (α := Int) 3 u0_1 r0] R) ?_ ?_
       ·exact ⟨_, 0, _, upds_of _ _ ⟨rfl, rfl, rfl, rfl, trivial⟩, hi49z, H⟩
       ·rintro m53z σ w51z ⟨i3, ρ, rfl, hI52z, H⟩
        obtain ⟨m54z, lt55z, x56z, hM, hN57z⟩ := M.e_iterN hI52z
        simp only [m_nilometerref13_Values_b4] at hM
        clear hI52z
        refine W.seq <| W.seq <| W.region rfl <| s_val (x_mv (v := I (i3 : Int)) rfl) <| s_val (x_mv (v := v_l) rfl) ?_
        have hl58z := (hs_l).len_le
        refine s_val (x_lenS T41.und rfl hs_l) <| s_val (x_cmp (kd := .i64) (a := (i3 : Int)) (b := (l.length : Int)) (r := decide ((i3 : Int) < (l.length : Int))) rfl rfl rfl) <| s_nil ?_
        refine W.cond (decide ((i3 : Int) < (l.length : Int))) rfl (fun c59z => ?_) (fun c59z => ?_)
        ·replace hM := M.e_t hM c59z
         simp only [q1, q2, q3, q4, q5, q6, ne_eq, q7] at c59z
         refine W.skip <| W.seq <| W.block <| W.seq <| W.region rfl <| s_val (x_as (v := I 0) rfl) <| s_nil <| W.block ?_
         obtain ⟨ex60z, hi61z, hk62z⟩ := M.e_bind hM
         obtain ⟨m0_, hi61z⟩ := M.e_iter hi61z
         refine W.loop (fun m σ W => ∃ (k : Nat) (ρ : Env), σ = upds ρ [(0, v_w_), (1, v_l), (6, u0_1), (10, I (i3 : Int)), (11, I (k : Int))] ∧ M.iterN (m_nilometerref13_Values_b3 l i3) m k = some ex60z ∧ St w W [cOwn (α := Int) 3 u0_1 r0] R) ?_ ?_
         ·exact ⟨_, 0, _, upds_of _ _ ⟨rfl, rfl, rfl, rfl, rfl, trivial⟩, hi61z, H⟩
         ·rintro m65z σ w63z ⟨k, ρ, rfl, hI64z, H⟩
          obtain ⟨m66z, lt67z, x68z, hM, hN69z⟩ := M.e_iterN hI64z
          simp only [m_nilometerref13_Values_b3] at hM
          clear hI64z
          refine W.seq <| W.seq <| W.region rfl <| s_val (x_mv (v := I (k : Int)) rfl) <| s_val (x_mv (v := I (i3 : Int)) rfl) <| s_val (x_cmp (kd := .i64) (a := (k : Int)) (b := (i3 : Int)) (r := decide ((k : Int) < (i3 : Int))) rfl rfl rfl) <| s_nil ?_
          refine W.cond (decide ((k : Int) < (i3 : Int))) rfl (fun c70z => ?_) (fun c70z => ?_)
          ·replace hM := M.e_t hM c70z
           simp only [q1, q2, q3, q4, q5, q6, ne_eq, q7] at c70z
           refine W.skip <| W.seq <| W.block <| W.seq ?_
           refine W.draw (fun W => St w W [cOwn (α := Int) 3 u0_1 r0] R) [(0, true), (1, true), (2, true), (3, true), (4, true), (5, true), (6, true), (7, true), (8, true), (9, true), (10, true), (11, true), (12, true), (13, true), (14, true), (15, true), (16, true), (17, true), (18, true), (19, true), (20, true), (21, true), (22, true), (23, true), (24, true), (25, true), (26, true), (27, true), (28, true), (29, true), (30, true), (31, true), (32, true), (33, true), (34, true), (35, true), (36, true)] mixed (by decide +kernel) rfl ?_
           intro w71z hx_
           replace H : St w w71z [cOwn (α := Int) 3 u0_1 r0] R := H.ext hx_
           clear hx_
           refine ⟨(H.pick [0] (by decide) rfl), ?_⟩
           refine d_q rfl (fun w' H => x_mv (v := v_l) rfl) ?_
           refine d_q rfl (fun w' H => x_mv (v := I (i3 : Int)) rfl) ?_
           obtain ⟨sd72z, hM⟩ := M.e_grd hM
           simp only [Bool.and_eq_true, decide_eq_true_eq] at sd72z
           refine d_q rfl (fun w' H => x_ix (a := v_l) (b := I (i3 : Int)) (v := vat v_l 3 (Int.toNat (i3 : Int))) rfl rfl (Sl.ix (α := Note) T41.und T41.size hs_l (by omega) (by omega))) ?_
           refine d_q rfl (fun w' H => x_fa (a := vat v_l 3 (Int.toNat (i3 : Int))) (v := fat (vat v_l 3 (Int.toNat (i3 : Int))) 0) rfl (fa_pl Fd137_0 Sz3 (Sl.pl (i := (i3 : Int)) hs_l (by omega) (by omega)))) ?_
           refine d_q rfl (fun w' H => x_ld (p := fat (vat v_l 3 (Int.toNat (i3 : Int))) 0) (v := I ((l.getD i3 default).work)) rfl (ld_sc Sc3 (At.mono (Note_at0 hs_l (i := (i3 : Int)) (by omega) (by omega)) (hC_l.at H)))) ?_
           refine d_q rfl (fun w' H => x_mv (v := v_l) rfl) ?_
           refine d_q rfl (fun w' H => x_mv (v := I (k : Int)) rfl) ?_
           obtain ⟨sd73z, hM⟩ := M.e_grd hM
           simp only [Bool.and_eq_true, decide_eq_true_eq] at sd73z
           refine d_q rfl (fun w' H => x_ix (a := v_l) (b := I (k : Int)) (v := vat v_l 3 (Int.toNat (k : Int))) rfl rfl (Sl.ix (α := Note) T41.und T41.size hs_l (by omega) (by omega))) ?_
           refine d_q rfl (fun w' H => x_fa (a := vat v_l 3 (Int.toNat (k : Int))) (v := fat (vat v_l 3 (Int.toNat (k : Int))) 0) rfl (fa_pl Fd137_0 Sz3 (Sl.pl (i := (k : Int)) hs_l (by omega) (by omega)))) ?_
           refine d_q rfl (fun w' H => x_ld (p := fat (vat v_l 3 (Int.toNat (k : Int))) 0) (v := I ((l.getD k default).work)) rfl (ld_sc Sc3 (At.mono (Note_at0 hs_l (i := (k : Int)) (by omega) (by omega)) (hC_l.at H)))) ?_
           refine d_q rfl (fun w' H => x_cmp (kd := .i64) (a := (l.getD i3 default).work) (b := (l.getD k default).work) (r := ((l.getD i3 default).work) == ((l.getD k default).work)) rfl rfl rfl) ?_
           refine d_q rfl (fun w' H => x_mv (v := B (((l.getD i3 default).work) == ((l.getD k default).work))) rfl) ?_
           refine d_qg (((l.getD i3 default).work) == ((l.getD k default).work)) rfl (gy_t rfl) (fun hg => (fun w' H => x_mv (v := v_l) rfl)) ?_
           refine d_qg (((l.getD i3 default).work) == ((l.getD k default).work)) rfl (gy_t rfl) (fun hg => (fun w' H => x_mv (v := I (i3 : Int)) rfl)) ?_
           refine d_qg (((l.getD i3 default).work) == ((l.getD k default).work)) rfl (gy_t rfl) (fun hg => (fun w' H => x_ix (a := v_l) (b := I (i3 : Int)) (v := vat v_l 3 (Int.toNat (i3 : Int))) (gd_of (c := ((l.getD i3 default).work) == ((l.getD k default).work)) hg (v_l)) (gd_of (c := ((l.getD i3 default).work) == ((l.getD k default).work)) hg (I (i3 : Int))) (Sl.ix (α := Note) T41.und T41.size hs_l (by first | omega | (have hx_ := hg; simp at hx_; omega)) (by first | omega | (have hx_ := hg; simp at hx_; omega))))) ?_
           refine d_qg (((l.getD i3 default).work) == ((l.getD k default).work)) rfl (gy_t rfl) (fun hg => (fun w' H => x_fa (a := vat v_l 3 (Int.toNat (i3 : Int))) (v := fat (vat v_l 3 (Int.toNat (i3 : Int))) 1) (gd_of (c := ((l.getD i3 default).work) == ((l.getD k default).work)) hg (vat v_l 3 (Int.toNat (i3 : Int)))) (fa_pl Fd137_1 Sz3 (Sl.pl (i := (i3 : Int)) hs_l (by first | omega | (have hx_ := hg; simp at hx_; omega)) (by first | omega | (have hx_ := hg; simp at hx_; omega)))))) ?_
           refine d_qg (((l.getD i3 default).work) == ((l.getD k default).work)) rfl (gy_t rfl) (fun hg => (fun w' H => x_ld (p := fat (vat v_l 3 (Int.toNat (i3 : Int))) 1) (v := I ((l.getD i3 default).version)) (gd_of (c := ((l.getD i3 default).work) == ((l.getD k default).work)) hg (fat (vat v_l 3 (Int.toNat (i3 : Int))) 1)) (ld_sc Sc3 (At.mono (Note_at1 hs_l (i := (i3 : Int)) (by first | omega | (have hx_ := hg; simp at hx_; omega)) (by first | omega | (have hx_ := hg; simp at hx_; omega))) (hC_l.at H))))) ?_
           refine d_qg (((l.getD i3 default).work) == ((l.getD k default).work)) rfl (gy_t rfl) (fun hg => (fun w' H => x_mv (v := v_l) rfl)) ?_
           refine d_qg (((l.getD i3 default).work) == ((l.getD k default).work)) rfl (gy_t rfl) (fun hg => (fun w' H => x_mv (v := I (k : Int)) rfl)) ?_
           refine d_qg (((l.getD i3 default).work) == ((l.getD k default).work)) rfl (gy_t rfl) (fun hg => (fun w' H => x_ix (a := v_l) (b := I (k : Int)) (v := vat v_l 3 (Int.toNat (k : Int))) (gd_of (c := ((l.getD i3 default).work) == ((l.getD k default).work)) hg (v_l)) (gd_of (c := ((l.getD i3 default).work) == ((l.getD k default).work)) hg (I (k : Int))) (Sl.ix (α := Note) T41.und T41.size hs_l (by first | omega | (have hx_ := hg; simp at hx_; omega)) (by first | omega | (have hx_ := hg; simp at hx_; omega))))) ?_
           refine d_qg (((l.getD i3 default).work) == ((l.getD k default).work)) rfl (gy_t rfl) (fun hg => (fun w' H => x_fa (a := vat v_l 3 (Int.toNat (k : Int))) (v := fat (vat v_l 3 (Int.toNat (k : Int))) 1) (gd_of (c := ((l.getD i3 default).work) == ((l.getD k default).work)) hg (vat v_l 3 (Int.toNat (k : Int)))) (fa_pl Fd137_1 Sz3 (Sl.pl (i := (k : Int)) hs_l (by first | omega | (have hx_ := hg; simp at hx_; omega)) (by first | omega | (have hx_ := hg; simp at hx_; omega)))))) ?_
           refine d_qg (((l.getD i3 default).work) == ((l.getD k default).work)) rfl (gy_t rfl) (fun hg => (fun w' H => x_ld (p := fat (vat v_l 3 (Int.toNat (k : Int))) 1) (v := I ((l.getD k default).version)) (gd_of (c := ((l.getD i3 default).work) == ((l.getD k default).work)) hg (fat (vat v_l 3 (Int.toNat (k : Int))) 1)) (ld_sc Sc3 (At.mono (Note_at1 hs_l (i := (k : Int)) (by first | omega | (have hx_ := hg; simp at hx_; omega)) (by first | omega | (have hx_ := hg; simp at hx_; omega))) (hC_l.at H))))) ?_
           refine d_qg (((l.getD i3 default).work) == ((l.getD k default).work)) rfl (gy_t rfl) (fun hg => (fun w' H => x_cmp (kd := .i64) (a := (l.getD i3 default).version) (b := (l.getD k default).version) (r := ((l.getD i3 default).version) == ((l.getD k default).version)) (gd_of (c := ((l.getD i3 default).work) == ((l.getD k default).work)) hg (I ((l.getD i3 default).version))) (gd_of (c := ((l.getD i3 default).work) == ((l.getD k default).work)) hg (I ((l.getD k default).version))) rfl)) ?_
           refine d_q rfl (fun w' H => x_pand (b := ((l.getD i3 default).work) == ((l.getD k default).work)) (r := ((l.getD i3 default).version) == ((l.getD k default).version)) rfl (fun hb => gd_of (c := ((l.getD i3 default).work) == ((l.getD k default).work)) (by simp_all) (B (((l.getD i3 default).version) == ((l.getD k default).version)))) rfl) ?_
           refine d_q rfl (fun w' H => x_mv (v := B ((((l.getD i3 default).work) == ((l.getD k default).work)) && (((l.getD i3 default).version) == ((l.getD k default).version)))) rfl) ?_
           refine d_qg ((((l.getD i3 default).work) == ((l.getD k default).work)) && (((l.getD i3 default).version) == ((l.getD k default).version))) rfl (gy_t rfl) (fun hg => (fun w' H => x_mv (v := v_l) rfl)) ?_
           refine d_qg ((((l.getD i3 default).work) == ((l.getD k default).work)) && (((l.getD i3 default).version) == ((l.getD k default).version))) rfl (gy_t rfl) (fun hg => (fun w' H => x_mv (v := I (i3 : Int)) rfl)) ?_
           refine d_qg ((((l.getD i3 default).work) == ((l.getD k default).work)) && (((l.getD i3 default).version) == ((l.getD k default).version))) rfl (gy_t rfl) (fun hg => (fun w' H => x_ix (a := v_l) (b := I (i3 : Int)) (v := vat v_l 3 (Int.toNat (i3 : Int))) (gd_of (c := ((((l.getD i3 default).work) == ((l.getD k default).work)) && (((l.getD i3 default).version) == ((l.getD k default).version)))) hg (v_l)) (gd_of (c := ((((l.getD i3 default).work) == ((l.getD k default).work)) && (((l.getD i3 default).version) == ((l.getD k default).version)))) hg (I (i3 : Int))) (Sl.ix (α := Note) T41.und T41.size hs_l (by first | omega | (have hx_ := hg; simp at hx_; omega)) (by first | omega | (have hx_ := hg; simp at hx_; omega))))) ?_
           refine d_qg ((((l.getD i3 default).work) == ((l.getD k default).work)) && (((l.getD i3 default).version) == ((l.getD k default).version))) rfl (gy_t rfl) (fun hg => (fun w' H => x_fa (a := vat v_l 3 (Int.toNat (i3 : Int))) (v := fat (vat v_l 3 (Int.toNat (i3 : Int))) 2) (gd_of (c := ((((l.getD i3 default).work) == ((l.getD k default).work)) && (((l.getD i3 default).version) == ((l.getD k default).version)))) hg (vat v_l 3 (Int.toNat (i3 : Int)))) (fa_pl Fd137_2 Sz3 (Sl.pl (i := (i3 : Int)) hs_l (by first | omega | (have hx_ := hg; simp at hx_; omega)) (by first | omega | (have hx_ := hg; simp at hx_; omega)))))) ?_
           refine d_qg ((((l.getD i3 default).work) == ((l.getD k default).work)) && (((l.getD i3 default).version) == ((l.getD k default).version))) rfl (gy_t rfl) (fun hg => (fun w' H => x_ld (p := fat (vat v_l 3 (Int.toNat (i3 : Int))) 2) (v := I ((l.getD i3 default).value)) (gd_of (c := ((((l.getD i3 default).work) == ((l.getD k default).work)) && (((l.getD i3 default).version) == ((l.getD k default).version)))) hg (fat (vat v_l 3 (Int.toNat (i3 : Int))) 2)) (ld_sc Sc3 (At.mono (Note_at2 hs_l (i := (i3 : Int)) (by first | omega | (have hx_ := hg; simp at hx_; omega)) (by first | omega | (have hx_ := hg; simp at hx_; omega))) (hC_l.at H))))) ?_
           refine d_qg ((((l.getD i3 default).work) == ((l.getD k default).work)) && (((l.getD i3 default).version) == ((l.getD k default).version))) rfl (gy_t rfl) (fun hg => (fun w' H => x_mv (v := v_l) rfl)) ?_
           refine d_qg ((((l.getD i3 default).work) == ((l.getD k default).work)) && (((l.getD i3 default).version) == ((l.getD k default).version))) rfl (gy_t rfl) (fun hg => (fun w' H => x_mv (v := I (k : Int)) rfl)) ?_
           refine d_qg ((((l.getD i3 default).work) == ((l.getD k default).work)) && (((l.getD i3 default).version) == ((l.getD k default).version))) rfl (gy_t rfl) (fun hg => (fun w' H => x_ix (a := v_l) (b := I (k : Int)) (v := vat v_l 3 (Int.toNat (k : Int))) (gd_of (c := ((((l.getD i3 default).work) == ((l.getD k default).work)) && (((l.getD i3 default).version) == ((l.getD k default).version)))) hg (v_l)) (gd_of (c := ((((l.getD i3 default).work) == ((l.getD k default).work)) && (((l.getD i3 default).version) == ((l.getD k default).version)))) hg (I (k : Int))) (Sl.ix (α := Note) T41.und T41.size hs_l (by first | omega | (have hx_ := hg; simp at hx_; omega)) (by first | omega | (have hx_ := hg; simp at hx_; omega))))) ?_
           refine d_qg ((((l.getD i3 default).work) == ((l.getD k default).work)) && (((l.getD i3 default).version) == ((l.getD k default).version))) rfl (gy_t rfl) (fun hg => (fun w' H => x_fa (a := vat v_l 3 (Int.toNat (k : Int))) (v := fat (vat v_l 3 (Int.toNat (k : Int))) 2) (gd_of (c := ((((l.getD i3 default).work) == ((l.getD k default).work)) && (((l.getD i3 default).version) == ((l.getD k default).version)))) hg (vat v_l 3 (Int.toNat (k : Int)))) (fa_pl Fd137_2 Sz3 (Sl.pl (i := (k : Int)) hs_l (by first | omega | (have hx_ := hg; simp at hx_; omega)) (by first | omega | (have hx_ := hg; simp at hx_; omega)))))) ?_
           refine d_qg ((((l.getD i3 default).work) == ((l.getD k default).work)) && (((l.getD i3 default).version) == ((l.getD k default).version))) rfl (gy_t rfl) (fun hg => (fun w' H => x_ld (p := fat (vat v_l 3 (Int.toNat (k : Int))) 2) (v := I ((l.getD k default).value)) (gd_of (c := ((((l.getD i3 default).work) == ((l.getD k default).work)) && (((l.getD i3 default).version) == ((l.getD k default).version)))) hg (fat (vat v_l 3 (Int.toNat (k : Int))) 2)) (ld_sc Sc3 (At.mono (Note_at2 hs_l (i := (k : Int)) (by first | omega | (have hx_ := hg; simp at hx_; omega)) (by first | omega | (have hx_ := hg; simp at hx_; omega))) (hC_l.at H))))) ?_
           refine d_qg ((((l.getD i3 default).work) == ((l.getD k default).work)) && (((l.getD i3 default).version) == ((l.getD k default).version))) rfl (gy_t rfl) (fun hg => (fun w' H => x_cmp (kd := .i64) (a := (l.getD i3 default).value) (b := (l.getD k default).value) (r := ((l.getD i3 default).value) != ((l.getD k default).value)) (gd_of (c := ((((l.getD i3 default).work) == ((l.getD k default).work)) && (((l.getD i3 default).version) == ((l.getD k default).version)))) hg (I ((l.getD i3 default).value))) (gd_of (c := ((((l.getD i3 default).work) == ((l.getD k default).work)) && (((l.getD i3 default).version) == ((l.getD k default).version)))) hg (I ((l.getD k default).value))) rfl)) ?_
           refine d_q rfl (fun w' H => x_pand (b := ((((l.getD i3 default).work) == ((l.getD k default).work)) && (((l.getD i3 default).version) == ((l.getD k default).version)))) (r := ((l.getD i3 default).value) != ((l.getD k default).value)) rfl (fun hb => gd_of (c := ((((l.getD i3 default).work) == ((l.getD k default).work)) && (((l.getD i3 default).version) == ((l.getD k default).version)))) (by simp_all) (B (((l.getD i3 default).value) != ((l.getD k default).value)))) rfl) ?_
           refine d_nil ?_
           refine W.cond (((((l.getD i3 default).work) == ((l.getD k default).work)) && (((l.getD i3 default).version) == ((l.getD k default).version))) && (((l.getD i3 default).value) != ((l.getD k default).value))) rfl (fun c74z => ?_) (fun c74z => ?_)
           ·replace hM := M.e_t hM c74z
            refine W.seq <| W.region rfl <| s_val (x_as (v := .slice none 0 0) rfl) <| s_val (x_as (v := I 10) rfl) <| s_nil ?_
            refine W.ret ?_
            have hX75z := M.e_inr hM hN69z
            subst hX75z
            replace hM := hk62z
            try dsimp only at hM
            have hX76z := M.e_inr hM hN57z
            subst hX76z
            replace hM := hk50z
            try dsimp only at hM
            have hr_ := M.e_pure hM
            replace H : St w w71z [cOwn (α := Int) 3 (.slice none 0 0) ([]), cOwn (α := Int) 3 u0_1 r0] R := H.nilOwn (α := Int) 3
            exact ⟨_, resE_tmp2 rfl, ⟨([]), 10, (.slice none 0 0), hr_, rfl, (H.pick [0] (by decide) rfl)⟩⟩
           ·replace hM := M.e_f hM c74z
            refine W.skip <| W.region rfl <| s_val (x_mv (v := I (k : Int)) rfl) <| s_val (x_ari (a := (k : Int)) (b := 1) (r := (k : Int) + 1) rfl rfl rfl (by omega)) <| s_val (x_as (v := I ((k : Int) + 1)) rfl) <| s_nil ?_
            exact ⟨m66z, lt67z, k + 1, _, upds_of _ _ ⟨rfl, rfl, rfl, rfl, rfl, trivial⟩, M.e_inl hM hN69z, H⟩
          ·replace hM := M.e_f hM c70z
           simp only [q1, q2, q3, q4, q5, q6, ne_eq, q7] at c70z
           refine W.exit ?_
           have hX77z := M.e_inr hM hN69z
           subst hX77z
           replace hM := hk62z
           try dsimp only at hM
           refine W.region rfl <| s_val (x_mv (v := I (i3 : Int)) rfl) <| s_val (x_ari (a := (i3 : Int)) (b := 1) (r := (i3 : Int) + 1) rfl rfl rfl (by omega)) <| s_val (x_as (v := I ((i3 : Int) + 1)) rfl) <| s_nil ?_
           exact ⟨m54z, lt55z, i3 + 1, _, upds_of _ _ ⟨rfl, rfl, rfl, rfl, trivial⟩, M.e_inl hM hN57z, H⟩
        ·replace hM := M.e_f hM c59z
         simp only [q1, q2, q3, q4, q5, q6, ne_eq, q7] at c59z
         refine W.exit ?_
         have hX78z := M.e_inr hM hN57z
         subst hX78z
         replace hM := hk50z
         try dsimp only at hM
         refine W.seq <| W.region rfl <| s_val (x_mv (v := v_w_) rfl) ?_
         have hl79z := (hs_w_).len_le
         refine s_val (x_lenS T39.und rfl hs_w_) ?_
         obtain ⟨sd80z, hM⟩ := M.e_grd hM
         simp only [Bool.and_eq_true, decide_eq_true_eq] at sd80z
         refine t_mk (α := Int) T34 (0 : Int) rfl (n := (w_.length : Int)) H rfl rfl (by omega) (by omega) (by omega) ?_
         intro v81z w82z H
         replace H : St w w82z [cOwn (α := Int) 3 v81z (List.replicate (w_.length) (0 : Int)), cOwn (α := Int) 3 u0_1 r0] R := H
         refine s_val (x_as (v := v81z) rfl) <| s_nil <| W.seq <| W.seq <| W.region rfl <| s_val (x_as (v := I 0) rfl) <| s_nil <| W.block ?_
         obtain ⟨ex83z, hi84z, hk85z⟩ := M.e_bind hM
         obtain ⟨m0_, hi84z⟩ := M.e_iter hi84z
         refine W.loop (fun m σ W => ∃ (l5 : List Int) (n : Nat) (v_l5 : Value) (ρ : Env), σ = upds ρ [(0, v_w_), (1, v_l), (6, u0_1), (12, v_l5), (13, I (n : Int))] ∧ M.iterN (m_nilometerref13_Values_b9 w_ l r0) m (l5, n) = some ex83z ∧ St w W [cOwn (α := Int) 3 v_l5 l5, cOwn (α := Int) 3 u0_1 r0] R) ?_ ?_
         ·exact ⟨_, List.replicate (w_.length) (0 : Int), 0, v81z, _, upds_of _ _ ⟨rfl, rfl, rfl, rfl, rfl, trivial⟩, hi84z, H⟩
         ·rintro m88z σ w86z ⟨l5, n, v_l5, ρ, rfl, hI87z, H⟩
          obtain ⟨m89z, lt90z, x91z, hM, hN92z⟩ := M.e_iterN hI87z
          simp only [m_nilometerref13_Values_b9] at hM
          clear hI87z
          refine W.seq <| W.seq <| W.region rfl <| s_val (x_mv (v := I (n : Int)) rfl) <| s_val (x_mv (v := u0_1) rfl) ?_
          have hl93z := ((ownSl (H.get (k := 1) rfl))).len_le
          refine s_val (x_lenS T34.und rfl (ownSl (H.get (k := 1) rfl))) <| s_val (x_cmp (kd := .i64) (a := (n : Int)) (b := (r0.length : Int)) (r := decide ((n : Int) < (r0.length : Int))) rfl rfl rfl) <| s_nil ?_
          refine W.cond (decide ((n : Int) < (r0.length : Int))) rfl (fun c94z => ?_) (fun c94z => ?_)
          ·replace hM := M.e_t hM c94z
           simp only [q1, q2, q3, q4, q5, q6, ne_eq, q7] at c94z
           refine W.skip <| W.seq <| W.block <| W.seq <| W.region rfl <| s_val (x_mv (v := u0_1) rfl) <| s_val (x_mv (v := I (n : Int)) rfl) ?_
           obtain ⟨sd95z, hM⟩ := M.e_grd hM
           simp only [Bool.and_eq_true, decide_eq_true_eq] at sd95z
           refine s_val (x_ix (a := u0_1) (b := I (n : Int)) (v := vat u0_1 1 (Int.toNat (n : Int))) rfl rfl (Sl.ix (α := Int) T34.und T34.size (ownSl (H.get (k := 1) rfl)) (by omega) (by omega))) <| s_val (x_ld (p := vat u0_1 1 (Int.toNat (n : Int))) (v := I (r0.getD n 0)) rfl (ld_sc Sc3 (At.mono (Int_at (ownSl (H.get (k := 1) rfl)) (i := (n : Int)) (by omega) (by omega)) (ownLe _ (H.get (k := 1) rfl))))) <| s_val (x_as (v := I (r0.getD n 0)) rfl) <| s_nil <| W.seq <| W.region rfl <| s_val (x_mv (v := v_l5) rfl) <| s_val (x_mv (v := I (r0.getD n 0)) rfl) ?_
           obtain ⟨sd96z, hM⟩ := M.e_grd hM
           simp only [Bool.and_eq_true, decide_eq_true_eq] at sd96z
           refine s_val (x_ix (a := v_l5) (b := I (r0.getD n 0)) (v := vat v_l5 1 (Int.toNat (r0.getD n 0))) rfl rfl (Sl.ix (α := Int) T34.und T34.size (ownSl (H.get (k := 0) rfl)) (by omega) (by omega))) ?_
           refine t_ost (k := 0) (i := r0.getD n 0) (l := l5) (l' := l5.set (Int.toNat (r0.getD n 0)) (-1 : Int)) (val := I (-1)) (L' := [cOwn (α := Int) 3 v_l5 (l5.set (Int.toNat (r0.getD n 0)) (-1 : Int)), cOwn (α := Int) 3 u0_1 r0]) H rfl Sz3 (by omega) (by omega) (-1 : Int) rfl rfl rfl rfl rfl ?_
           intro w97z H
           refine s_nil <| W.seq <| W.region rfl <| s_val (x_as (v := I (-1)) rfl) <| s_nil <| W.seq <| W.seq <| W.region rfl ?_
           refine s_val (x_as (v := I 0) rfl) <| s_nil <| W.block ?_
           obtain ⟨ex98z, hi99z, hk100z⟩ := M.e_bind hM
           obtain ⟨m0_, hi99z⟩ := M.e_iter hi99z
           refine W.loop (fun m σ W => ∃ (l2 : List Int) (best : Int) (k2 : Nat) (v_l2 : Value) (ρ : Env), σ = upds ρ [(0, v_w_), (1, v_l), (6, u0_1), (12, v_l2), (13, I (n : Int)), (14, I (r0.getD n 0)), (15, I best), (16, I (k2 : Int))] ∧ M.iterN (m_nilometerref13_Values_b7 l r0 n) m (l2, best, k2) = some ex98z ∧ St w W [cOwn (α := Int) 3 v_l2 l2, cOwn (α := Int) 3 u0_1 r0] R) ?_ ?_
           ·exact ⟨_, l5.set (Int.toNat (r0.getD n 0)) (-1 : Int), -1, 0, v_l5, _, upds_of _ _ ⟨rfl, rfl, rfl, rfl, rfl, rfl, rfl, rfl, trivial⟩, hi99z, H⟩
           ·rintro m103z σ w101z ⟨l2, best, k2, v_l2, ρ, rfl, hI102z, H⟩
            obtain ⟨m104z, lt105z, x106z, hM, hN107z⟩ := M.e_iterN hI102z
            simp only [m_nilometerref13_Values_b7] at hM
            clear hI102z
            refine W.seq <| W.seq <| W.region rfl <| s_val (x_mv (v := I (k2 : Int)) rfl) <| s_val (x_mv (v := v_l) rfl) ?_
            have hl108z := (hs_l).len_le
            refine s_val (x_lenS T41.und rfl hs_l) <| s_val (x_cmp (kd := .i64) (a := (k2 : Int)) (b := (l.length : Int)) (r := decide ((k2 : Int) < (l.length : Int))) rfl rfl rfl) <| s_nil ?_
            refine W.cond (decide ((k2 : Int) < (l.length : Int))) rfl (fun c109z => ?_) (fun c109z => ?_)
            ·replace hM := M.e_t hM c109z
             simp only [q1, q2, q3, q4, q5, q6, ne_eq, q7] at c109z
             refine W.skip <| W.seq <| W.block <| W.seq <| W.region rfl <| s_val (x_mv (v := v_l) rfl) <| s_val (x_mv (v := I (k2 : Int)) rfl) ?_
             obtain ⟨sd110z, hM⟩ := M.e_grd hM
             simp only [Bool.and_eq_true, decide_eq_true_eq] at sd110z
             refine s_val (x_ix (a := v_l) (b := I (k2 : Int)) (v := vat v_l 3 (Int.toNat (k2 : Int))) rfl rfl (Sl.ix (α := Note) T41.und T41.size hs_l (by omega) (by omega))) <| s_val (x_fa (a := vat v_l 3 (Int.toNat (k2 : Int))) (v := fat (vat v_l 3 (Int.toNat (k2 : Int))) 0) rfl (fa_pl Fd137_0 Sz3 (Sl.pl (i := (k2 : Int)) hs_l (by omega) (by omega)))) <| s_val (x_ld (p := fat (vat v_l 3 (Int.toNat (k2 : Int))) 0) (v := I ((l.getD k2 default).work)) rfl (ld_sc Sc3 (At.mono (Note_at0 hs_l (i := (k2 : Int)) (by omega) (by omega)) (hC_l.at H)))) <| s_val (x_mv (v := I (r0.getD n 0)) rfl) <| s_val (x_cmp (kd := .i64) (a := (l.getD k2 default).work) (b := r0.getD n 0) (r := ((l.getD k2 default).work) == (r0.getD n 0)) rfl rfl rfl) <| s_val (x_mv (v := B (((l.getD k2 default).work) == (r0.getD n 0))) rfl) <| g_val (((l.getD k2 default).work) == (r0.getD n 0)) (gy_t rfl) (fun hg => x_mv (v := v_l) rfl) <| g_val (((l.getD k2 default).work) == (r0.getD n 0)) (gy_t rfl) (fun hg => x_mv (v := I (k2 : Int)) rfl) ?_
             refine g_val (((l.getD k2 default).work) == (r0.getD n 0)) (gy_t rfl) (fun hg => x_ix (a := v_l) (b := I (k2 : Int)) (v := vat v_l 3 (Int.toNat (k2 : Int))) (gd_of (c := ((l.getD k2 default).work) == (r0.getD n 0)) hg (v_l)) (gd_of (c := ((l.getD k2 default).work) == (r0.getD n 0)) hg (I (k2 : Int))) (Sl.ix (α := Note) T41.und T41.size hs_l (by first | omega | (have hx_ := hg; simp at hx_; omega)) (by first | omega | (have hx_ := hg; simp at hx_; omega)))) <| g_val (((l.getD k2 default).work) == (r0.getD n 0)) (gy_t rfl) (fun hg => x_fa (a := vat v_l 3 (Int.toNat (k2 : Int))) (v := fat (vat v_l 3 (Int.toNat (k2 : Int))) 1) (gd_of (c := ((l.getD k2 default).work) == (r0.getD n 0)) hg (vat v_l 3 (Int.toNat (k2 : Int)))) (fa_pl Fd137_1 Sz3 (Sl.pl (i := (k2 : Int)) hs_l (by first | omega | (have hx_ := hg; simp at hx_; omega)) (by first | omega | (have hx_ := hg; simp at hx_; omega))))) <| g_val (((l.getD k2 default).work) == (r0.getD n 0)) (gy_t rfl) (fun hg => x_ld (p := fat (vat v_l 3 (Int.toNat (k2 : Int))) 1) (v := I ((l.getD k2 default).version)) (gd_of (c := ((l.getD k2 default).work) == (r0.getD n 0)) hg (fat (vat v_l 3 (Int.toNat (k2 : Int))) 1)) (ld_sc Sc3 (At.mono (Note_at1 hs_l (i := (k2 : Int)) (by first | omega | (have hx_ := hg; simp at hx_; omega)) (by first | omega | (have hx_ := hg; simp at hx_; omega))) (hC_l.at H)))) <| g_val (((l.getD k2 default).work) == (r0.getD n 0)) (gy_t rfl) (fun hg => x_mv (v := I best) rfl) <| g_val (((l.getD k2 default).work) == (r0.getD n 0)) (gy_t rfl) (fun hg => x_cmp (kd := .i64) (a := (l.getD k2 default).version) (b := best) (r := decide (best < ((l.getD k2 default).version))) (gd_of (c := ((l.getD k2 default).work) == (r0.getD n 0)) hg (I ((l.getD k2 default).version))) (gd_of (c := ((l.getD k2 default).work) == (r0.getD n 0)) hg (I best)) rfl) <| s_val (x_pand (b := ((l.getD k2 default).work) == (r0.getD n 0)) (r := decide (best < ((l.getD k2 default).version))) rfl (fun hb => gd_of (c := ((l.getD k2 default).work) == (r0.getD n 0)) (by simp_all) (B (decide (best < ((l.getD k2 default).version))))) rfl) <| s_nil ?_
             refine W.cond ((((l.getD k2 default).work) == (r0.getD n 0)) && (decide (best < ((l.getD k2 default).version)))) rfl (fun c111z => ?_) (fun c111z => ?_)
             ·replace hM := M.e_t hM c111z
              refine W.seq <| W.region rfl <| s_val (x_mv (v := v_l) rfl) <| s_val (x_mv (v := I (k2 : Int)) rfl) <| s_val (x_ix (a := v_l) (b := I (k2 : Int)) (v := vat v_l 3 (Int.toNat (k2 : Int))) rfl rfl (Sl.ix (α := Note) T41.und T41.size hs_l (by omega) (by omega))) <| s_val (x_fa (a := vat v_l 3 (Int.toNat (k2 : Int))) (v := fat (vat v_l 3 (Int.toNat (k2 : Int))) 1) rfl (fa_pl Fd137_1 Sz3 (Sl.pl (i := (k2 : Int)) hs_l (by omega) (by omega)))) <| s_val (x_ld (p := fat (vat v_l 3 (Int.toNat (k2 : Int))) 1) (v := I ((l.getD k2 default).version)) rfl (ld_sc Sc3 (At.mono (Note_at1 hs_l (i := (k2 : Int)) (by omega) (by omega)) (hC_l.at H)))) <| s_val (x_as (v := I ((l.getD k2 default).version)) rfl) ?_
              refine s_nil <| W.region rfl <| s_val (x_mv (v := v_l2) rfl) <| s_val (x_mv (v := I (r0.getD n 0)) rfl) <| s_val (x_mv (v := v_l) rfl) <| s_val (x_mv (v := I (k2 : Int)) rfl) <| s_val (x_ix (a := v_l) (b := I (k2 : Int)) (v := vat v_l 3 (Int.toNat (k2 : Int))) rfl rfl (Sl.ix (α := Note) T41.und T41.size hs_l (by omega) (by omega))) <| s_val (x_fa (a := vat v_l 3 (Int.toNat (k2 : Int))) (v := fat (vat v_l 3 (Int.toNat (k2 : Int))) 2) rfl (fa_pl Fd137_2 Sz3 (Sl.pl (i := (k2 : Int)) hs_l (by omega) (by omega)))) ?_
              refine s_val (x_ld (p := fat (vat v_l 3 (Int.toNat (k2 : Int))) 2) (v := I ((l.getD k2 default).value)) rfl (ld_sc Sc3 (At.mono (Note_at2 hs_l (i := (k2 : Int)) (by omega) (by omega)) (hC_l.at H)))) ?_
              obtain ⟨sd112z, hM⟩ := M.e_grd hM
              simp only [Bool.and_eq_true, decide_eq_true_eq] at sd112z
              refine s_val (x_ix (a := v_l2) (b := I (r0.getD n 0)) (v := vat v_l2 1 (Int.toNat (r0.getD n 0))) rfl rfl (Sl.ix (α := Int) T34.und T34.size (ownSl (H.get (k := 0) rfl)) (by omega) (by omega))) ?_
              refine t_ost (k := 0) (i := r0.getD n 0) (l := l2) (l' := l2.set (Int.toNat (r0.getD n 0)) ((l.getD k2 default).value : Int)) (val := I ((l.getD k2 default).value)) (L' := [cOwn (α := Int) 3 v_l2 (l2.set (Int.toNat (r0.getD n 0)) ((l.getD k2 default).value : Int)), cOwn (α := Int) 3 u0_1 r0]) H rfl Sz3 (by omega) (by omega) ((l.getD k2 default).value : Int) rfl rfl rfl rfl rfl ?_
              intro w113z H
              refine s_nil <| W.region rfl <| s_val (x_mv (v := I (k2 : Int)) rfl) <| s_val (x_ari (a := (k2 : Int)) (b := 1) (r := (k2 : Int) + 1) rfl rfl rfl (by omega)) <| s_val (x_as (v := I ((k2 : Int) + 1)) rfl) <| s_nil ?_
              exact ⟨m104z, lt105z, l2.set (Int.toNat (r0.getD n 0)) ((l.getD k2 default).value : Int), (l.getD k2 default).version, k2 + 1, v_l2, _, upds_of _ _ ⟨rfl, rfl, rfl, rfl, rfl, rfl, rfl, rfl, trivial⟩, M.e_inl hM hN107z, H⟩
             ·replace hM := M.e_f hM c111z
              refine W.skip <| W.region rfl <| s_val (x_mv (v := I (k2 : Int)) rfl) <| s_val (x_ari (a := (k2 : Int)) (b := 1) (r := (k2 : Int) + 1) rfl rfl rfl (by omega)) <| s_val (x_as (v := I ((k2 : Int) + 1)) rfl) <| s_nil ?_
              exact ⟨m104z, lt105z, l2, best, k2 + 1, v_l2, _, upds_of _ _ ⟨rfl, rfl, rfl, rfl, rfl, rfl, rfl, rfl, trivial⟩, M.e_inl hM hN107z, H⟩
            ·replace hM := M.e_f hM c109z
             simp only [q1, q2, q3, q4, q5, q6, ne_eq, q7] at c109z
             refine W.exit ?_
             have hX114z := M.e_inr hM hN107z
             subst hX114z
             replace hM := hk100z
             try dsimp only at hM
             refine W.seq <| W.seq <| W.region rfl <| s_val (x_mv (v := v_w_) rfl) <| s_val (x_mv (v := I (r0.getD n 0)) rfl) ?_
             obtain ⟨sd115z, hM⟩ := M.e_grd hM
             simp only [Bool.and_eq_true, decide_eq_true_eq] at sd115z
             refine s_val (x_ix (a := v_w_) (b := I (r0.getD n 0)) (v := vat v_w_ 3 (Int.toNat (r0.getD n 0))) rfl rfl (Sl.ix (α := Work) T39.und T39.size hs_w_ (by omega) (by omega))) <| s_val (x_fa (a := vat v_w_ 3 (Int.toNat (r0.getD n 0))) (v := fat (vat v_w_ 3 (Int.toNat (r0.getD n 0))) 0) rfl (fa_pl Fd138_0 Sz34 (Sl.pl (i := r0.getD n 0) hs_w_ (by omega) (by omega)))) ?_
             obtain ⟨u116z, ha_u116z, hs117z⟩ := Work_at0 hs_w_ (i := r0.getD n 0) (by omega) (by omega)
             replace hs117z : Sl _ u116z (w_.getD (Int.toNat (r0.getD n 0)) default).of := hs117z
             have hl_hs117z := hs117z.len_le
             refine s_val (x_ld (p := fat (vat v_w_ 3 (Int.toNat (r0.getD n 0))) 0) (v := u116z) rfl (ld_sc Sc34 (At.mono (ha_u116z) (hC_w_.at H)))) ?_
             have hl118z := (hs117z).len_le
             refine s_val (x_lenS T34.und rfl hs117z) <| s_val (x_cmp (kd := .i64) (a := (((w_.getD (Int.toNat (r0.getD n 0)) default).of).length : Int)) (b := 0) (r := (((w_.getD (Int.toNat (r0.getD n 0)) default).of).length : Int) == 0) rfl rfl rfl) <| s_nil ?_
             refine W.cond ((((w_.getD (Int.toNat (r0.getD n 0)) default).of).length : Int) == 0) rfl (fun c119z => ?_) (fun c119z => ?_)
             ·replace hM := M.e_t hM c119z
              simp only [q1, q2, q3, q4, q5, q6, ne_eq, q7] at c119z
              refine W.exit ?_
              refine W.region rfl <| s_val (x_mv (v := I (n : Int)) rfl) <| s_val (x_ari (a := (n : Int)) (b := 1) (r := (n : Int) + 1) rfl rfl rfl (by omega)) <| s_val (x_as (v := I ((n : Int) + 1)) rfl) <| s_nil ?_
              exact ⟨m89z, lt90z, l2, n + 1, v_l2, _, upds_of _ _ ⟨rfl, rfl, rfl, rfl, rfl, trivial⟩, M.e_inl hM hN92z, H⟩
             ·replace hM := M.e_f hM c119z
              simp only [q1, q2, q3, q4, q5, q6, ne_eq, q7] at c119z
              refine W.skip <| W.seq <| W.region rfl <| s_val (x_mv (v := v_w_) rfl) <| s_val (x_mv (v := I (r0.getD n 0)) rfl) <| s_val (x_ix (a := v_w_) (b := I (r0.getD n 0)) (v := vat v_w_ 3 (Int.toNat (r0.getD n 0))) rfl rfl (Sl.ix (α := Work) T39.und T39.size hs_w_ (by omega) (by omega))) <| s_val (x_fa (a := vat v_w_ 3 (Int.toNat (r0.getD n 0))) (v := fat (vat v_w_ 3 (Int.toNat (r0.getD n 0))) 1) rfl (fa_pl Fd138_1 Sz3 (Sl.pl (i := r0.getD n 0) hs_w_ (by omega) (by omega)))) <| s_val (x_ld (p := fat (vat v_w_ 3 (Int.toNat (r0.getD n 0))) 1) (v := I ((w_.getD (Int.toNat (r0.getD n 0)) default).base)) rfl (ld_sc Sc3 (At.mono (Work_at1 hs_w_ (i := r0.getD n 0) (by omega) (by omega)) (hC_w_.at H)))) ?_
              refine s_val (x_as (v := I ((w_.getD (Int.toNat (r0.getD n 0)) default).base)) rfl) <| s_nil <| W.seq <| W.region rfl <| s_val (x_as (v := B true) rfl) <| s_nil <| W.seq <| W.seq ?_
              refine W.region rfl <| s_val (x_as (v := I 0) rfl) <| s_nil <| W.block ?_
              obtain ⟨ex120z, hi121z, hk122z⟩ := M.e_bind hM
              obtain ⟨m0_, hi121z⟩ := M.e_iter hi121z
              refine W.loop (fun m σ W => ∃ (sum : Int) (known : Bool) (k3 : Nat) (ρ : Env), σ = upds ρ [(0, v_w_), (1, v_l), (6, u0_1), (12, v_l2), (13, I (n : Int)), (14, I (r0.getD n 0)), (17, I sum), (18, B known), (19, I (k3 : Int))] ∧ M.iterN (m_nilometerref13_Values_b8 w_ r0 n l2) m (sum, known, k3) = some ex120z ∧ St w W [cOwn (α := Int) 3 v_l2 l2, cOwn (α := Int) 3 u0_1 r0] R) ?_ ?_
              ·exact ⟨_, (w_.getD (Int.toNat (r0.getD n 0)) default).base, true, 0, _, upds_of _ _ ⟨rfl, rfl, rfl, rfl, rfl, rfl, rfl, rfl, rfl, trivial⟩, hi121z, H⟩
              ·rintro m125z σ w123z ⟨sum, known, k3, ρ, rfl, hI124z, H⟩
               obtain ⟨m126z, lt127z, x128z, hM, hN129z⟩ := M.e_iterN hI124z
               simp only [m_nilometerref13_Values_b8] at hM
               clear hI124z
               refine W.seq <| W.seq <| W.region rfl <| s_val (x_mv (v := I (k3 : Int)) rfl) <| s_val (x_mv (v := v_w_) rfl) <| s_val (x_mv (v := I (r0.getD n 0)) rfl) <| s_val (x_ix (a := v_w_) (b := I (r0.getD n 0)) (v := vat v_w_ 3 (Int.toNat (r0.getD n 0))) rfl rfl (Sl.ix (α := Work) T39.und T39.size hs_w_ (by omega) (by omega))) <| s_val (x_fa (a := vat v_w_ 3 (Int.toNat (r0.getD n 0))) (v := fat (vat v_w_ 3 (Int.toNat (r0.getD n 0))) 0) rfl (fa_pl Fd138_0 Sz34 (Sl.pl (i := r0.getD n 0) hs_w_ (by omega) (by omega)))) ?_
               obtain ⟨u130z, ha_u130z, hs131z⟩ := Work_at0 hs_w_ (i := r0.getD n 0) (by omega) (by omega)
               replace hs131z : Sl _ u130z (w_.getD (Int.toNat (r0.getD n 0)) default).of := hs131z
               have hl_hs131z := hs131z.len_le
               refine s_val (x_ld (p := fat (vat v_w_ 3 (Int.toNat (r0.getD n 0))) 0) (v := u130z) rfl (ld_sc Sc34 (At.mono (ha_u130z) (hC_w_.at H)))) ?_
               have hl132z := (hs131z).len_le
               refine s_val (x_lenS T34.und rfl hs131z) <| s_val (x_cmp (kd := .i64) (a := (k3 : Int)) (b := (((w_.getD (Int.toNat (r0.getD n 0)) default).of).length : Int)) (r := decide ((k3 : Int) < (((w_.getD (Int.toNat (r0.getD n 0)) default).of).length : Int))) rfl rfl rfl) <| s_nil ?_
               refine W.cond (decide ((k3 : Int) < (((w_.getD (Int.toNat (r0.getD n 0)) default).of).length : Int))) rfl (fun c133z => ?_) (fun c133z => ?_)
               ·replace hM := M.e_t hM c133z
                simp only [q1, q2, q3, q4, q5, q6, ne_eq, q7] at c133z
                refine W.skip <| W.seq <| W.block <| W.seq <| W.region rfl <| s_val (x_mv (v := B known) rfl) <| s_val (x_mv (v := B known) rfl) <| g_val known (gy_t rfl) (fun hg => x_mv (v := v_l2) rfl) ?_
                refine g_val known (gy_t rfl) (fun hg => x_mv (v := v_w_) rfl) <| g_val known (gy_t rfl) (fun hg => x_mv (v := I (r0.getD n 0)) rfl) <| g_val known (gy_t rfl) (fun hg => x_ix (a := v_w_) (b := I (r0.getD n 0)) (v := vat v_w_ 3 (Int.toNat (r0.getD n 0))) (gd_of (c := known) hg (v_w_)) (gd_of (c := known) hg (I (r0.getD n 0))) (Sl.ix (α := Work) T39.und T39.size hs_w_ (by first | omega | (have hx_ := hg; simp at hx_; omega)) (by first | omega | (have hx_ := hg; simp at hx_; omega)))) <| g_val known (gy_t rfl) (fun hg => x_fa (a := vat v_w_ 3 (Int.toNat (r0.getD n 0))) (v := fat (vat v_w_ 3 (Int.toNat (r0.getD n 0))) 0) (gd_of (c := known) hg (vat v_w_ 3 (Int.toNat (r0.getD n 0)))) (fa_pl Fd138_0 Sz34 (Sl.pl (i := r0.getD n 0) hs_w_ (by first | omega | (have hx_ := hg; simp at hx_; omega)) (by first | omega | (have hx_ := hg; simp at hx_; omega))))) ?_
                obtain ⟨u134z, ha_u134z, hs135z⟩ := gd_ex (c := known) fun hg => Work_at0 hs_w_ (i := r0.getD n 0) (by first | omega | (have hx_ := hg; simp at hx_; omega)) (by first | omega | (have hx_ := hg; simp at hx_; omega))
                replace hs135z : known = true → Sl _ u134z (w_.getD (Int.toNat (r0.getD n 0)) default).of := hs135z
                refine g_val known (gy_t rfl) (fun hg => x_ld (p := fat (vat v_w_ 3 (Int.toNat (r0.getD n 0))) 0) (v := u134z) (gd_of (c := known) hg (fat (vat v_w_ 3 (Int.toNat (r0.getD n 0))) 0)) (ld_sc Sc34 (At.mono (ha_u134z hg) (hC_w_.at H)))) <| g_val known (gy_t rfl) (fun hg => x_mv (v := I (k3 : Int)) rfl) ?_
                obtain ⟨sd136z, hM⟩ := M.e_grd hM
                replace sd136z := M.imp_of sd136z
                simp only [Bool.and_eq_true, decide_eq_true_eq] at sd136z
                refine g_val known (gy_t rfl) (fun hg => x_ix (a := u134z) (b := I (k3 : Int)) (v := vat u134z 1 (Int.toNat (k3 : Int))) (gd_of (c := known) hg (u134z)) (gd_of (c := known) hg (I (k3 : Int))) (Sl.ix (α := Int) T34.und T34.size (hs135z hg) (by have h1_ := sd136z.resolve_left (by rw [hg]; decide); first | omega | (have hx_ := hg; simp at hx_; omega)) (by have h1_ := sd136z.resolve_left (by rw [hg]; decide); first | omega | (have hx_ := hg; simp at hx_; omega)))) <| g_val known (gy_t rfl) (fun hg => x_ld (p := vat u134z 1 (Int.toNat (k3 : Int))) (v := I (((w_.getD (Int.toNat (r0.getD n 0)) default).of).getD k3 0)) (gd_of (c := known) hg (vat u134z 1 (Int.toNat (k3 : Int)))) (ld_sc Sc3 (At.mono (Int_at (hs135z hg) (i := (k3 : Int)) (by have h1_ := sd136z.resolve_left (by rw [hg]; decide); first | omega | (have hx_ := hg; simp at hx_; omega)) (by have h1_ := sd136z.resolve_left (by rw [hg]; decide); first | omega | (have hx_ := hg; simp at hx_; omega))) (hC_w_.at H)))) ?_
                obtain ⟨sd137z, hM⟩ := M.e_grd hM
                replace sd137z := M.imp_of sd137z
                simp only [Bool.and_eq_true, decide_eq_true_eq] at sd137z
                refine g_val known (gy_t rfl) (fun hg => x_ix (a := v_l2) (b := I (((w_.getD (Int.toNat (r0.getD n 0)) default).of).getD k3 0)) (v := vat v_l2 1 (Int.toNat (((w_.getD (Int.toNat (r0.getD n 0)) default).of).getD k3 0))) (gd_of (c := known) hg (v_l2)) (gd_of (c := known) hg (I (((w_.getD (Int.toNat (r0.getD n 0)) default).of).getD k3 0))) (Sl.ix (α := Int) T34.und T34.size (ownSl (H.get (k := 0) rfl)) (by have h1_ := sd136z.resolve_left (by rw [hg]; decide); have h2_ := sd137z.resolve_left (by rw [hg]; decide); first | omega | (have hx_ := hg; simp at hx_; omega)) (by have h1_ := sd136z.resolve_left (by rw [hg]; decide); have h2_ := sd137z.resolve_left (by rw [hg]; decide); first | omega | (have hx_ := hg; simp at hx_; omega)))) <| g_val known (gy_t rfl) (fun hg => x_ld (p := vat v_l2 1 (Int.toNat (((w_.getD (Int.toNat (r0.getD n 0)) default).of).getD k3 0))) (v := I (l2.getD (Int.toNat (((w_.getD (Int.toNat (r0.getD n 0)) default).of).getD k3 0)) 0)) (gd_of (c := known) hg (vat v_l2 1 (Int.toNat (((w_.getD (Int.toNat (r0.getD n 0)) default).of).getD k3 0)))) (ld_sc Sc3 (At.mono (Int_at (ownSl (H.get (k := 0) rfl)) (i := ((w_.getD (Int.toNat (r0.getD n 0)) default).of).getD k3 0) (by have h1_ := sd136z.resolve_left (by rw [hg]; decide); have h2_ := sd137z.resolve_left (by rw [hg]; decide); first | omega | (have hx_ := hg; simp at hx_; omega)) (by have h1_ := sd136z.resolve_left (by rw [hg]; decide); have h2_ := sd137z.resolve_left (by rw [hg]; decide); first | omega | (have hx_ := hg; simp at hx_; omega))) (ownLe _ (H.get (k := 0) rfl))))) <| g_val known (gy_t rfl) (fun hg => x_cmp (kd := .i64) (a := l2.getD (Int.toNat (((w_.getD (Int.toNat (r0.getD n 0)) default).of).getD k3 0)) 0) (b := -1) (r := (l2.getD (Int.toNat (((w_.getD (Int.toNat (r0.getD n 0)) default).of).getD k3 0)) 0) != (-1)) (gd_of (c := known) hg (I (l2.getD (Int.toNat (((w_.getD (Int.toNat (r0.getD n 0)) default).of).getD k3 0)) 0))) rfl rfl) <| s_val (x_pand (b := known) (r := (l2.getD (Int.toNat (((w_.getD (Int.toNat (r0.getD n 0)) default).of).getD k3 0)) 0) != (-1)) rfl (fun hb => gd_of (c := known) (by simp_all) (B ((l2.getD (Int.toNat (((w_.getD (Int.toNat (r0.getD n 0)) default).of).getD k3 0)) 0) != (-1)))) rfl) <| s_val (x_as (v := B (known && ((l2.getD (Int.toNat (((w_.getD (Int.toNat (r0.getD n 0)) default).of).getD k3 0)) 0) != (-1)))) rfl) <| s_nil <| W.region rfl <| s_val (x_mv (v := I sum) rfl) ?_
                refine s_val (x_mv (v := I (k3 : Int)) rfl) <| s_val (x_ari (a := (k3 : Int)) (b := 1) (r := (k3 : Int) + 1) rfl rfl rfl (by omega)) <| s_val (x_mv (v := v_l2) rfl) <| s_val (x_mv (v := v_w_) rfl) <| s_val (x_mv (v := I (r0.getD n 0)) rfl) <| s_val (x_ix (a := v_w_) (b := I (r0.getD n 0)) (v := vat v_w_ 3 (Int.toNat (r0.getD n 0))) rfl rfl (Sl.ix (α := Work) T39.und T39.size hs_w_ (by omega) (by omega))) <| s_val (x_fa (a := vat v_w_ 3 (Int.toNat (r0.getD n 0))) (v := fat (vat v_w_ 3 (Int.toNat (r0.getD n 0))) 0) rfl (fa_pl Fd138_0 Sz34 (Sl.pl (i := r0.getD n 0) hs_w_ (by omega) (by omega)))) ?_
                obtain ⟨u138z, ha_u138z, hs139z⟩ := Work_at0 hs_w_ (i := r0.getD n 0) (by omega) (by omega)
                replace hs139z : Sl _ u138z (w_.getD (Int.toNat (r0.getD n 0)) default).of := hs139z
                have hl_hs139z := hs139z.len_le
                refine s_val (x_ld (p := fat (vat v_w_ 3 (Int.toNat (r0.getD n 0))) 0) (v := u138z) rfl (ld_sc Sc34 (At.mono (ha_u138z) (hC_w_.at H)))) <| s_val (x_mv (v := I (k3 : Int)) rfl) ?_
                obtain ⟨sd140z, hM⟩ := M.e_grd hM
                simp only [Bool.and_eq_true, decide_eq_true_eq] at sd140z
                refine s_val (x_ix (a := u138z) (b := I (k3 : Int)) (v := vat u138z 1 (Int.toNat (k3 : Int))) rfl rfl (Sl.ix (α := Int) T34.und T34.size hs139z (by omega) (by omega))) <| s_val (x_ld (p := vat u138z 1 (Int.toNat (k3 : Int))) (v := I (((w_.getD (Int.toNat (r0.getD n 0)) default).of).getD k3 0)) rfl (ld_sc Sc3 (At.mono (Int_at hs139z (i := (k3 : Int)) (by omega) (by omega)) (hC_w_.at H)))) ?_
                obtain ⟨sd141z, hM⟩ := M.e_grd hM
                simp only [Bool.and_eq_true, decide_eq_true_eq] at sd141z
                refine s_val (x_ix (a := v_l2) (b := I (((w_.getD (Int.toNat (r0.getD n 0)) default).of).getD k3 0)) (v := vat v_l2 1 (Int.toNat (((w_.getD (Int.toNat (r0.getD n 0)) default).of).getD k3 0))) rfl rfl (Sl.ix (α := Int) T34.und T34.size (ownSl (H.get (k := 0) rfl)) (by omega) (by omega))) <| s_val (x_ld (p := vat v_l2 1 (Int.toNat (((w_.getD (Int.toNat (r0.getD n 0)) default).of).getD k3 0))) (v := I (l2.getD (Int.toNat (((w_.getD (Int.toNat (r0.getD n 0)) default).of).getD k3 0)) 0)) rfl (ld_sc Sc3 (At.mono (Int_at (ownSl (H.get (k := 0) rfl)) (i := ((w_.getD (Int.toNat (r0.getD n 0)) default).of).getD k3 0) (by omega) (by omega)) (ownLe _ (H.get (k := 0) rfl))))) ?_
                obtain ⟨sd142z, hM⟩ := M.e_grd hM
                simp only [Bool.and_eq_true, decide_eq_true_eq] at sd142z
                refine s_val (x_ari (a := (k3 : Int) + 1) (b := l2.getD (Int.toNat (((w_.getD (Int.toNat (r0.getD n 0)) default).of).getD k3 0)) 0) (r := ((k3 : Int) + 1) * (l2.getD (Int.toNat (((w_.getD (Int.toNat (r0.getD n 0)) default).of).getD k3 0)) 0)) rfl rfl rfl (by omega)) ?_
                obtain ⟨sd143z, hM⟩ := M.e_grd hM
                simp only [Bool.and_eq_true, decide_eq_true_eq] at sd143z
                refine s_val (x_ari (a := sum) (b := ((k3 : Int) + 1) * (l2.getD (Int.toNat (((w_.getD (Int.toNat (r0.getD n 0)) default).of).getD k3 0)) 0)) (r := sum + (((k3 : Int) + 1) * (l2.getD (Int.toNat (((w_.getD (Int.toNat (r0.getD n 0)) default).of).getD k3 0)) 0))) rfl rfl rfl (by omega)) <| s_val (x_as (v := I (sum + (((k3 : Int) + 1) * (l2.getD (Int.toNat (((w_.getD (Int.toNat (r0.getD n 0)) default).of).getD k3 0)) 0)))) rfl) <| s_nil <| W.region rfl <| s_val (x_mv (v := I (k3 : Int)) rfl) <| s_val (x_ari (a := (k3 : Int)) (b := 1) (r := (k3 : Int) + 1) rfl rfl rfl (by omega)) <| s_val (x_as (v := I ((k3 : Int) + 1)) rfl) <| s_nil ?_
                exact ⟨m126z, lt127z, sum + (((k3 : Int) + 1) * (l2.getD (Int.toNat (((w_.getD (Int.toNat (r0.getD n 0)) default).of).getD k3 0)) 0)), (known && ((l2.getD (Int.toNat (((w_.getD (Int.toNat (r0.getD n 0)) default).of).getD k3 0)) 0) != (-1))), k3 + 1, _, upds_of _ _ ⟨rfl, rfl, rfl, rfl, rfl, rfl, rfl, rfl, rfl, trivial⟩, M.e_inl hM hN129z, H⟩
               ·replace hM := M.e_f hM c133z
                simp only [q1, q2, q3, q4, q5, q6, ne_eq, q7] at c133z
                refine W.exit ?_
                have hX144z := M.e_inr hM hN129z
                subst hX144z
                replace hM := hk122z
                try dsimp only at hM
                refine W.seq <| W.region rfl <| s_val (x_mv (v := B known) rfl) <| s_nil ?_
                refine W.cond known rfl (fun c145z => ?_) (fun c145z => ?_)
                ·replace hM := M.e_t hM c145z
                 refine W.region rfl <| s_val (x_mv (v := v_l2) rfl) <| s_val (x_mv (v := I (r0.getD n 0)) rfl) <| s_val (x_mv (v := I sum) rfl) ?_
                 obtain ⟨sd146z, hM⟩ := M.e_grd hM
                 simp only [Bool.and_eq_true, decide_eq_true_eq] at sd146z
                 refine s_val (x_rem' (a := sum) (b := 1000003) rfl rfl (by omega)) ?_
                 obtain ⟨sd147z, hM⟩ := M.e_grd hM
                 simp only [Bool.and_eq_true, decide_eq_true_eq] at sd147z
                 refine s_val (x_ix (a := v_l2) (b := I (r0.getD n 0)) (v := vat v_l2 1 (Int.toNat (r0.getD n 0))) rfl rfl (Sl.ix (α := Int) T34.und T34.size (ownSl (H.get (k := 0) rfl)) (by omega) (by omega))) ?_
                 refine t_ost (k := 0) (i := r0.getD n 0) (l := l2) (l' := l2.set (Int.toNat (r0.getD n 0)) (sum % 1000003 : Int)) (val := I (sum % 1000003)) (L' := [cOwn (α := Int) 3 v_l2 (l2.set (Int.toNat (r0.getD n 0)) (sum % 1000003 : Int)), cOwn (α := Int) 3 u0_1 r0]) H rfl Sz3 (by omega) (by omega) (sum % 1000003 : Int) rfl rfl rfl rfl rfl ?_
                 intro w148z H
                 refine s_nil <| W.region rfl <| s_val (x_mv (v := I (n : Int)) rfl) <| s_val (x_ari (a := (n : Int)) (b := 1) (r := (n : Int) + 1) rfl rfl rfl (by omega)) <| s_val (x_as (v := I ((n : Int) + 1)) rfl) <| s_nil ?_
                 exact ⟨m89z, lt90z, l2.set (Int.toNat (r0.getD n 0)) (sum % 1000003 : Int), n + 1, v_l2, _, upds_of _ _ ⟨rfl, rfl, rfl, rfl, rfl, trivial⟩, M.e_inl hM hN92z, H⟩
                ·replace hM := M.e_f hM c145z
                 refine W.skip <| W.region rfl <| s_val (x_mv (v := I (n : Int)) rfl) <| s_val (x_ari (a := (n : Int)) (b := 1) (r := (n : Int) + 1) rfl rfl rfl (by omega)) <| s_val (x_as (v := I ((n : Int) + 1)) rfl) <| s_nil ?_
                 exact ⟨m89z, lt90z, l2, n + 1, v_l2, _, upds_of _ _ ⟨rfl, rfl, rfl, rfl, rfl, trivial⟩, M.e_inl hM hN92z, H⟩
          ·replace hM := M.e_f hM c94z
           simp only [q1, q2, q3, q4, q5, q6, ne_eq, q7] at c94z
           refine W.exit ?_
           have hX149z := M.e_inr hM hN92z
           subst hX149z
           replace hM := hk85z
           try dsimp only at hM
           refine W.seq <| W.region rfl <| s_val (x_mv (v := v_l5) rfl) <| s_val (x_as (v := v_l5) rfl) <| s_val (x_as (v := I 0) rfl) <| s_nil ?_
           refine W.ret ?_
           have hr_ := M.e_pure hM
           exact ⟨_, resE_tmp2 rfl, ⟨l5, 0, v_l5, hr_, rfl, (H.pick [0] (by decide) rfl)⟩⟩

def m_nilometerref13_Withdrawn_b0 (w_ : List Work) (published : List Pub) : Nat → M (Nat ⊕ (Unit ⊕ Unit)) := fun i =>
  bif decide ((i : Int) < (published.length : Int)) then (
  M.grd (decide ((i : Int) < (published.length : Int))) <|
  bif outB ((published.getD i default).work) 0 ((w_.length : Int) - 1) then (
  M.pure (.inr (.inl ())))
  else (
  M.pure (.inl (i + 1))))
  else (
  M.pure (.inr (.inr ())))
def m_nilometerref13_Withdrawn_b1 (published : List Pub) (r0 : List Int) : (Nat × (List Int)) → M ((Nat × (List Int)) ⊕ ((List Int) × (List Int))) := fun (i2, l2) =>
  bif decide ((i2 : Int) < (published.length : Int)) then (
  M.grd (decide ((i2 : Int) < (published.length : Int))) <|
  M.grd (decide ((0 : Int) ≤ ((published.getD i2 default).work)) && decide (((published.getD i2 default).work) < (r0.length : Int))) <|
  bif (((r0.getD (Int.toNat ((published.getD i2 default).work)) 0) == (-1)) || ((r0.getD (Int.toNat ((published.getD i2 default).work)) 0) != ((published.getD i2 default).value))) then (
  M.grd (decide ((l2.length + ([(i2 : Int)]).length) * 8 ≤ 140737488355328)) <|
  M.pure (.inl (i2 + 1, l2 ++ ([(i2 : Int)]))))
  else (
  M.pure (.inl (i2 + 1, l2))))
  else (
  M.pure (.inr (l2, l2)))
def m_nilometerref13_Withdrawn (w_ : List Work) (l : List Note) (published : List Pub) : M ((List Int) × Int) :=
  M.bind (m_nilometerref13_Values w_ l) fun (r0, r1) =>
  bif r1 != 0 then (
  M.pure (([]), r1))
  else (
  bif decide (200 < (published.length : Int)) then (
  M.pure (([]), 3))
  else (
  M.bind (M.iter (m_nilometerref13_Withdrawn_b0 w_ published) 0) fun x_ => match x_ with
  | (.inl (_ : Unit)) => (
  M.pure (([]), 2))
  | (.inr (_ : Unit)) => (
  M.bind (M.iter (m_nilometerref13_Withdrawn_b1 published r0) (0, [])) fun (l3, l4) =>
  M.pure (l4, 0))))
set_option maxRecDepth 100000 in
set_option maxHeartbeats 16000000 in
theorem nilometerref13_Withdrawn_ok {R : List Chunk} {C_w_ : Cells} {v_w_ : Value} {C_l : Cells} {v_l : Value} {C_published : Cells} {v_published : Value} (w_ : List Work) (l : List Note) (published : List Pub) (hC_w_ : Reads R C_w_) (hs_w_ : Sl C_w_ v_w_ w_) (hC_l : Reads R C_l) (hs_l : Sl C_l v_l l) (hC_published : Reads R C_published) (hs_published : Sl C_published v_published published) {r : ((List Int) × Int)} (hM : (m_nilometerref13_Withdrawn w_ l published).Ends r) (w : World) (H : St w w [] R) : Ret Try.prog 27 #[v_w_, v_l, v_published] w fun v w' => ∃ (y0 : List Int) (y1 : Int) (u0 : Value), (y0, y1) = r ∧ v = .tuple #[u0, I y1] ∧ St w w' [cOwn (α := Int) 3 u0 y0] R := by
 refine ret_of_W Try.func27 rfl rfl rfl ?_
 refine W.seq <| W.region rfl <| s_val (x_as (v := .slice none 0 0) rfl) <| s_val (x_as (v := I 0) rfl) <| s_nil <| W.seq <| W.region rfl <| s_val (x_mv (v := v_w_) rfl) ?_
 refine s_val (x_mv (v := v_l) rfl) ?_
 obtain ⟨r2z, hx1z, hM⟩ := M.e_bind hM
 refine s_call cf22 [v_w_, v_l] rfl (nilometerref13_Values_ok w_ l (hC_w_.app _) hs_w_ (hC_l.app _) hs_l hx1z _ (St.give (T := []) H rfl)) ?_
 rintro vq w3z ⟨r0, r1, u0_1, hr4z, hvq, H2_⟩
 subst hr4z
 subst vq
 try dsimp only at hM
 replace H : St w w3z [cOwn (α := Int) 3 u0_1 r0] R := H.back H2_ rfl
 clear H2_
 refine s_val (x_mv (v := .tuple #[u0_1, I r1]) rfl) <| s_val (x_ext (vs := [u0_1, I r1]) (v := u0_1) rfl rfl) <| s_val (x_ext (vs := [u0_1, I r1]) (v := I r1) rfl rfl) <| s_val (x_as (v := u0_1) rfl) <| s_val (x_as (v := I r1) rfl) <| s_nil <| W.seq <| W.seq ?_
 refine W.region rfl <| s_val (x_mv (v := I r1) rfl) <| s_val (x_cmp (kd := .i64) (a := r1) (b := 0) (r := r1 != 0) rfl rfl rfl) <| s_nil ?_
 refine W.cond (r1 != 0) rfl (fun c5z => ?_) (fun c5z => ?_)
 ·replace hM := M.e_t hM c5z
  simp only [q1, q2, q3, q4, q5, q6, ne_eq, q7] at c5z
  refine W.seq <| W.region rfl <| s_val (x_mv (v := I r1) rfl) <| s_val (x_as (v := .slice none 0 0) rfl) <| s_val (x_as (v := I r1) rfl) <| s_nil ?_
  refine W.ret ?_
  have hr_ := M.e_pure hM
  replace H : St w w3z [cOwn (α := Int) 3 (.slice none 0 0) ([]), cOwn (α := Int) 3 u0_1 r0] R := H.nilOwn (α := Int) 3
  exact ⟨_, resE_tmp2 rfl, ⟨([]), r1, (.slice none 0 0), hr_, rfl, (H.pick [0] (by decide) rfl)⟩⟩
 ·replace hM := M.e_f hM c5z
  simp only [q1, q2, q3, q4, q5, q6, ne_eq, q7] at c5z
  refine W.skip <| W.seq <| W.seq <| W.region rfl <| s_val (x_mv (v := v_published) rfl) ?_
  have hl6z := (hs_published).len_le
  refine s_val (x_lenS T44.und rfl hs_published) <| s_val (x_cmp (kd := .i64) (a := (published.length : Int)) (b := 200) (r := decide (200 < (published.length : Int))) rfl rfl rfl) <| s_nil ?_
  refine W.cond (decide (200 < (published.length : Int))) rfl (fun c7z => ?_) (fun c7z => ?_)
  ·replace hM := M.e_t hM c7z
   simp only [q1, q2, q3, q4, q5, q6, ne_eq, q7] at c7z
   refine W.seq <| W.region rfl <| s_val (x_as (v := .slice none 0 0) rfl) <| s_val (x_as (v := I 3) rfl) <| s_nil ?_
   refine W.ret ?_
   have hr_ := M.e_pure hM
   replace H : St w w3z [cOwn (α := Int) 3 (.slice none 0 0) ([]), cOwn (α := Int) 3 u0_1 r0] R := H.nilOwn (α := Int) 3
   exact ⟨_, resE_tmp2 rfl, ⟨([]), 3, (.slice none 0 0), hr_, rfl, (H.pick [0] (by decide) rfl)⟩⟩
  ·replace hM := M.e_f hM c7z
   simp only [q1, q2, q3, q4, q5, q6, ne_eq, q7] at c7z
   refine W.skip <| W.seq <| W.seq <| W.region rfl <| s_val (x_as (v := I 0) rfl) <| s_nil <| W.block ?_
   obtain ⟨ex8z, hi9z, hk10z⟩ := M.e_bind hM
   obtain ⟨m0_, hi9z⟩ := M.e_iter hi9z
   refine W.loop (fun m σ W => ∃ (i : Nat) (ρ : Env), σ = upds ρ [(0, v_w_), (2, v_published), (8, u0_1), (10, I (i : Int))] ∧ M.iterN (m_nilometerref13_Withdrawn_b0 w_ published) m i = some ex8z ∧ St w W [cOwn (α := Int) 3 u0_1 r0] R) ?_ ?_
   ·exact ⟨_, 0, _, upds_of _ _ ⟨rfl, rfl, rfl, rfl, trivial⟩, hi9z, H⟩
   ·rintro m13z σ w11z ⟨i, ρ, rfl, hI12z, H⟩
    obtain ⟨m14z, lt15z, x16z, hM, hN17z⟩ := M.e_iterN hI12z
    simp only [m_nilometerref13_Withdrawn_b0] at hM
    clear hI12z
    refine W.seq <| W.seq <| W.region rfl <| s_val (x_mv (v := I (i : Int)) rfl) <| s_val (x_mv (v := v_published) rfl) ?_
    have hl18z := (hs_published).len_le
    refine s_val (x_lenS T44.und rfl hs_published) <| s_val (x_cmp (kd := .i64) (a := (i : Int)) (b := (published.length : Int)) (r := decide ((i : Int) < (published.length : Int))) rfl rfl rfl) <| s_nil ?_
    refine W.cond (decide ((i : Int) < (published.length : Int))) rfl (fun c19z => ?_) (fun c19z => ?_)
    ·replace hM := M.e_t hM c19z
     simp only [q1, q2, q3, q4, q5, q6, ne_eq, q7] at c19z
     refine W.skip <| W.seq <| W.block <| W.seq <| W.region rfl <| s_val (x_mv (v := v_published) rfl) <| s_val (x_mv (v := I (i : Int)) rfl) ?_
     obtain ⟨sd20z, hM⟩ := M.e_grd hM
     simp only [Bool.and_eq_true, decide_eq_true_eq] at sd20z
     refine s_val (x_ix (a := v_published) (b := I (i : Int)) (v := vat v_published 2 (Int.toNat (i : Int))) rfl rfl (Sl.ix (α := Pub) T44.und T44.size hs_published (by omega) (by omega))) <| s_val (x_fa (a := vat v_published 2 (Int.toNat (i : Int))) (v := fat (vat v_published 2 (Int.toNat (i : Int))) 0) rfl (fa_pl Fd45_0 Sz3 (Sl.pl (i := (i : Int)) hs_published (by omega) (by omega)))) <| s_val (x_ld (p := fat (vat v_published 2 (Int.toNat (i : Int))) 0) (v := I ((published.getD i default).work)) rfl (ld_sc Sc3 (At.mono (Pub_at0 hs_published (i := (i : Int)) (by omega) (by omega)) (hC_published.at H)))) <| s_val (x_mv (v := v_w_) rfl) ?_
     have hl21z := (hs_w_).len_le
     refine s_val (x_lenS T39.und rfl hs_w_) <| s_val (x_ari (a := (w_.length : Int)) (b := 1) (r := (w_.length : Int) - 1) rfl rfl rfl (by omega)) ?_
     refine s_call cf89 [I ((published.getD i default).work), I 0, I ((w_.length : Int) - 1)] rfl (outside_any ((published.getD i default).work) 0 ((w_.length : Int) - 1) _) ?_
     rintro _ w22z ⟨rfl, hx_⟩
     replace H : St w w22z [cOwn (α := Int) 3 u0_1 r0] R := H.ext hx_
     clear hx_
     refine s_nil ?_
     refine W.cond (outB ((published.getD i default).work) 0 ((w_.length : Int) - 1)) rfl (fun c23z => ?_) (fun c23z => ?_)
     ·replace hM := M.e_t hM c23z
      refine W.seq <| W.region rfl <| s_val (x_as (v := .slice none 0 0) rfl) <| s_val (x_as (v := I 2) rfl) <| s_nil ?_
      refine W.ret ?_
      have hX24z := M.e_inr hM hN17z
      subst hX24z
      replace hM := hk10z
      try dsimp only at hM
      have hr_ := M.e_pure hM
      replace H : St w w22z [cOwn (α := Int) 3 (.slice none 0 0) ([]), cOwn (α := Int) 3 u0_1 r0] R := H.nilOwn (α := Int) 3
      exact ⟨_, resE_tmp2 rfl, ⟨([]), 2, (.slice none 0 0), hr_, rfl, (H.pick [0] (by decide) rfl)⟩⟩
     ·replace hM := M.e_f hM c23z
      refine W.skip <| W.region rfl <| s_val (x_mv (v := I (i : Int)) rfl) <| s_val (x_ari (a := (i : Int)) (b := 1) (r := (i : Int) + 1) rfl rfl rfl (by omega)) <| s_val (x_as (v := I ((i : Int) + 1)) rfl) <| s_nil ?_
      exact ⟨m14z, lt15z, i + 1, _, upds_of _ _ ⟨rfl, rfl, rfl, rfl, trivial⟩, M.e_inl hM hN17z, H⟩
    ·replace hM := M.e_f hM c19z
     simp only [q1, q2, q3, q4, q5, q6, ne_eq, q7] at c19z
     refine W.exit ?_
     have hX25z := M.e_inr hM hN17z
     subst hX25z
     replace hM := hk10z
     try dsimp only at hM
     refine W.seq <| W.region rfl <| s_val (x_as (v := .slice none 0 0) rfl) <| s_nil <| W.seq <| W.seq <| W.region rfl <| s_val (x_as (v := I 0) rfl) ?_
     refine s_nil <| W.block ?_
     replace H : St w w11z [cOwn (α := Int) 3 (.slice none 0 0) ([]), cOwn (α := Int) 3 u0_1 r0] R := H.nilOwn (α := Int) 3
     obtain ⟨ex26z, hi27z, hk28z⟩ := M.e_bind hM
     obtain ⟨m0_, hi27z⟩ := M.e_iter hi27z
     refine W.loop (fun m σ W => ∃ (i2 : Nat) (l2 : List Int) (v_l2 : Value) (ρ : Env), σ = upds ρ [(2, v_published), (8, u0_1), (11, v_l2), (12, I (i2 : Int))] ∧ M.iterN (m_nilometerref13_Withdrawn_b1 published r0) m (i2, l2) = some ex26z ∧ St w W [cOwn (α := Int) 3 v_l2 l2, cOwn (α := Int) 3 u0_1 r0] R) ?_ ?_
     ·exact ⟨_, 0, [], (.slice none 0 0), _, upds_of _ _ ⟨rfl, rfl, rfl, rfl, trivial⟩, hi27z, H⟩
     ·rintro m31z σ w29z ⟨i2, l2, v_l2, ρ, rfl, hI30z, H⟩
      obtain ⟨m32z, lt33z, x34z, hM, hN35z⟩ := M.e_iterN hI30z
      simp only [m_nilometerref13_Withdrawn_b1] at hM
      clear hI30z
      refine W.seq <| W.seq <| W.region rfl <| s_val (x_mv (v := I (i2 : Int)) rfl) <| s_val (x_mv (v := v_published) rfl) ?_
      have hl36z := (hs_published).len_le
      refine s_val (x_lenS T44.und rfl hs_published) <| s_val (x_cmp (kd := .i64) (a := (i2 : Int)) (b := (published.length : Int)) (r := decide ((i2 : Int) < (published.length : Int))) rfl rfl rfl) <| s_nil ?_
      refine W.cond (decide ((i2 : Int) < (published.length : Int))) rfl (fun c37z => ?_) (fun c37z => ?_)
      ·replace hM := M.e_t hM c37z
       simp only [q1, q2, q3, q4, q5, q6, ne_eq, q7] at c37z
       refine W.skip <| W.seq <| W.block <| W.seq <| W.region rfl <| s_val (x_mv (v := u0_1) rfl) <| s_val (x_mv (v := v_published) rfl) <| s_val (x_mv (v := I (i2 : Int)) rfl) ?_
       obtain ⟨sd38z, hM⟩ := M.e_grd hM
       simp only [Bool.and_eq_true, decide_eq_true_eq] at sd38z
       refine s_val (x_ix (a := v_published) (b := I (i2 : Int)) (v := vat v_published 2 (Int.toNat (i2 : Int))) rfl rfl (Sl.ix (α := Pub) T44.und T44.size hs_published (by omega) (by omega))) <| s_val (x_fa (a := vat v_published 2 (Int.toNat (i2 : Int))) (v := fat (vat v_published 2 (Int.toNat (i2 : Int))) 0) rfl (fa_pl Fd45_0 Sz3 (Sl.pl (i := (i2 : Int)) hs_published (by omega) (by omega)))) <| s_val (x_ld (p := fat (vat v_published 2 (Int.toNat (i2 : Int))) 0) (v := I ((published.getD i2 default).work)) rfl (ld_sc Sc3 (At.mono (Pub_at0 hs_published (i := (i2 : Int)) (by omega) (by omega)) (hC_published.at H)))) ?_
       obtain ⟨sd39z, hM⟩ := M.e_grd hM
       simp only [Bool.and_eq_true, decide_eq_true_eq] at sd39z
       refine s_val (x_ix (a := u0_1) (b := I ((published.getD i2 default).work)) (v := vat u0_1 1 (Int.toNat ((published.getD i2 default).work))) rfl rfl (Sl.ix (α := Int) T34.und T34.size (ownSl (H.get (k := 1) rfl)) (by omega) (by omega))) <| s_val (x_ld (p := vat u0_1 1 (Int.toNat ((published.getD i2 default).work))) (v := I (r0.getD (Int.toNat ((published.getD i2 default).work)) 0)) rfl (ld_sc Sc3 (At.mono (Int_at (ownSl (H.get (k := 1) rfl)) (i := (published.getD i2 default).work) (by omega) (by omega)) (ownLe _ (H.get (k := 1) rfl))))) <| s_val (x_as (v := I (r0.getD (Int.toNat ((published.getD i2 default).work)) 0)) rfl) <| s_nil <| W.seq <| W.region rfl <| s_val (x_mv (v := I (r0.getD (Int.toNat ((published.getD i2 default).work)) 0)) rfl) <| s_val (x_cmp (kd := .i64) (a := r0.getD (Int.toNat ((published.getD i2 default).work)) 0) (b := -1) (r := (r0.getD (Int.toNat ((published.getD i2 default).work)) 0) == (-1)) rfl rfl rfl) ?_
       refine s_val (x_mv (v := B ((r0.getD (Int.toNat ((published.getD i2 default).work)) 0) == (-1))) rfl) <| g_val (!((r0.getD (Int.toNat ((published.getD i2 default).work)) 0) == (-1))) (gy_f rfl) (fun hg => x_mv (v := I (r0.getD (Int.toNat ((published.getD i2 default).work)) 0)) rfl) <| g_val (!((r0.getD (Int.toNat ((published.getD i2 default).work)) 0) == (-1))) (gy_f rfl) (fun hg => x_mv (v := v_published) rfl) <| g_val (!((r0.getD (Int.toNat ((published.getD i2 default).work)) 0) == (-1))) (gy_f rfl) (fun hg => x_mv (v := I (i2 : Int)) rfl) <| g_val (!((r0.getD (Int.toNat ((published.getD i2 default).work)) 0) == (-1))) (gy_f rfl) (fun hg => x_ix (a := v_published) (b := I (i2 : Int)) (v := vat v_published 2 (Int.toNat (i2 : Int))) (gd_of (c := !((r0.getD (Int.toNat ((published.getD i2 default).work)) 0) == (-1))) hg (v_published)) (gd_of (c := !((r0.getD (Int.toNat ((published.getD i2 default).work)) 0) == (-1))) hg (I (i2 : Int))) (Sl.ix (α := Pub) T44.und T44.size hs_published (by first | omega | (have hx_ := hg; simp at hx_; omega)) (by first | omega | (have hx_ := hg; simp at hx_; omega)))) <| g_val (!((r0.getD (Int.toNat ((published.getD i2 default).work)) 0) == (-1))) (gy_f rfl) (fun hg => x_fa (a := vat v_published 2 (Int.toNat (i2 : Int))) (v := fat (vat v_published 2 (Int.toNat (i2 : Int))) 1) (gd_of (c := !((r0.getD (Int.toNat ((published.getD i2 default).work)) 0) == (-1))) hg (vat v_published 2 (Int.toNat (i2 : Int)))) (fa_pl Fd45_1 Sz3 (Sl.pl (i := (i2 : Int)) hs_published (by first | omega | (have hx_ := hg; simp at hx_; omega)) (by first | omega | (have hx_ := hg; simp at hx_; omega))))) <| g_val (!((r0.getD (Int.toNat ((published.getD i2 default).work)) 0) == (-1))) (gy_f rfl) (fun hg => x_ld (p := fat (vat v_published 2 (Int.toNat (i2 : Int))) 1) (v := I ((published.getD i2 default).value)) (gd_of (c := !((r0.getD (Int.toNat ((published.getD i2 default).work)) 0) == (-1))) hg (fat (vat v_published 2 (Int.toNat (i2 : Int))) 1)) (ld_sc Sc3 (At.mono (Pub_at1 hs_published (i := (i2 : Int)) (by first | omega | (have hx_ := hg; simp at hx_; omega)) (by first | omega | (have hx_ := hg; simp at hx_; omega))) (hC_published.at H)))) <| g_val (!((r0.getD (Int.toNat ((published.getD i2 default).work)) 0) == (-1))) (gy_f rfl) (fun hg => x_cmp (kd := .i64) (a := r0.getD (Int.toNat ((published.getD i2 default).work)) 0) (b := (published.getD i2 default).value) (r := (r0.getD (Int.toNat ((published.getD i2 default).work)) 0) != ((published.getD i2 default).value)) (gd_of (c := !((r0.getD (Int.toNat ((published.getD i2 default).work)) 0) == (-1))) hg (I (r0.getD (Int.toNat ((published.getD i2 default).work)) 0))) (gd_of (c := !((r0.getD (Int.toNat ((published.getD i2 default).work)) 0) == (-1))) hg (I ((published.getD i2 default).value))) rfl) ?_
       refine s_val (x_por (b := (r0.getD (Int.toNat ((published.getD i2 default).work)) 0) == (-1)) (r := (r0.getD (Int.toNat ((published.getD i2 default).work)) 0) != ((published.getD i2 default).value)) rfl rfl (fun hb => gd_of (c := !((r0.getD (Int.toNat ((published.getD i2 default).work)) 0) == (-1))) (by simp_all) (B ((r0.getD (Int.toNat ((published.getD i2 default).work)) 0) != ((published.getD i2 default).value))))) <| s_nil ?_
       refine W.cond (((r0.getD (Int.toNat ((published.getD i2 default).work)) 0) == (-1)) || ((r0.getD (Int.toNat ((published.getD i2 default).work)) 0) != ((published.getD i2 default).value))) rfl (fun c40z => ?_) (fun c40z => ?_)
       ·replace hM := M.e_t hM c40z
        refine W.region rfl <| s_val (x_mv (v := v_l2) rfl) <| s_val (x_mv (v := I (i2 : Int)) rfl) ?_
        refine t_bs (α := Int) T34 [I (i2 : Int)] [(i2 : Int)] H rfl (.cons rfl (Flat.rep_enc _ (i2 : Int)) <| .nil) rfl rfl rfl ?_
        intro v41z w42z H
        obtain ⟨sd43z, hM⟩ := M.e_grd hM
        simp only [Bool.and_eq_true, decide_eq_true_eq] at sd43z
        refine t_app (α := Int) (k := 1) (l := l2) (l2 := [(i2 : Int)]) (l' := l2 ++ ([(i2 : Int)])) (vy := v41z) T34 rfl H rfl rfl rfl (ownSl (H.get (k := 0) rfl)) (ownLe _ (H.get (k := 0) rfl)) (rfl) (by first | omega | (simp only [List.length_nil] at *; omega)) ?_
        intro v44z w45z H
        replace H : St w w45z [cOwn (α := Int) 3 v41z ([(i2 : Int)]), cOwn (α := Int) 3 v44z (l2 ++ ([(i2 : Int)])), cOwn (α := Int) 3 u0_1 r0] R := H
        refine s_val (x_as (v := v44z) rfl) <| s_nil <| W.region rfl <| s_val (x_mv (v := I (i2 : Int)) rfl) <| s_val (x_ari (a := (i2 : Int)) (b := 1) (r := (i2 : Int) + 1) rfl rfl rfl (by omega)) <| s_val (x_as (v := I ((i2 : Int) + 1)) rfl) <| s_nil ?_
        exact ⟨m32z, lt33z, i2 + 1, l2 ++ ([(i2 : Int)]), v44z, _, upds_of _ _ ⟨rfl, rfl, rfl, rfl, trivial⟩, M.e_inl hM hN35z, (H.pick [1, 2] (by decide) rfl)⟩
       ·replace hM := M.e_f hM c40z
        refine W.skip <| W.region rfl <| s_val (x_mv (v := I (i2 : Int)) rfl) <| s_val (x_ari (a := (i2 : Int)) (b := 1) (r := (i2 : Int) + 1) rfl rfl rfl (by omega)) <| s_val (x_as (v := I ((i2 : Int) + 1)) rfl) <| s_nil ?_
        exact ⟨m32z, lt33z, i2 + 1, l2, v_l2, _, upds_of _ _ ⟨rfl, rfl, rfl, rfl, trivial⟩, M.e_inl hM hN35z, H⟩
      ·replace hM := M.e_f hM c37z
       simp only [q1, q2, q3, q4, q5, q6, ne_eq, q7] at c37z
       refine W.exit ?_
       have hX46z := M.e_inr hM hN35z
       subst hX46z
       replace hM := hk28z
       try dsimp only at hM
       refine W.seq <| W.region rfl <| s_val (x_mv (v := v_l2) rfl) <| s_val (x_as (v := v_l2) rfl) <| s_val (x_as (v := I 0) rfl) <| s_nil ?_
       refine W.ret ?_
       have hr_ := M.e_pure hM
       exact ⟨_, resE_tmp2 rfl, ⟨l2, 0, v_l2, hr_, rfl, (H.pick [0] (by decide) rfl)⟩⟩

def m_nilometerlaw13_NotesValues_b0 (p : List Pub) : (Nat × (List Pub)) → M ((Nat × (List Pub)) ⊕ ((List Pub) × (List Pub))) := fun (s, l3) =>
  bif decide ((s : Int) < (p.length : Int)) then (
  M.grd (decide ((s : Int) < (p.length : Int))) <|
  M.grd (decide ((l3.length + ([(p.getD s default)]).length) * 16 ≤ 140737488355328)) <|
  M.pure (.inl (s + 1, l3 ++ ([(p.getD s default)]))))
  else (
  M.pure (.inr (l3, l3)))
def m_nilometerlaw13_NotesValues (w_ : List Work) (l : List Note) (p : List Pub) : M Bool :=
  bif (((!(littleB w_ [])) || (decide (210 < (l.length : Int)))) || (decide (210 < (p.length : Int)))) then (
  M.bind (m_nilometerlaw13_awake) fun r2 =>
  M.pure r2)
  else (
  M.bind (m_nilometerlaw13_CopyWorks w_) fun r3 =>
  M.grd (decide (l.length ≤ 1000000)) <|
  M.grd (decide (p.length ≤ 1000000)) <|
  M.bind (M.pure (valuesR r3 l, valuesE r3 l)) fun (l2, e) =>
  M.bind (m_nilometerlaw13_Works w_) fun r4 =>
  M.bind (m_nilometerref13_Values r4 l) fun (r0, r1) =>
  bif ((!(decide (l2 = r0))) || (e != r1)) then (
  M.pure false)
  else (
  M.bind (M.iter (m_nilometerlaw13_NotesValues_b0 p) (0, [])) fun (l4, l5) =>
  M.bind (M.pure (withdrawnR r3 l p, withdrawnE r3 l p)) fun (l6, e2) =>
  M.bind (m_nilometerlaw13_Works w_) fun r5 =>
  M.bind (m_nilometerref13_Withdrawn r5 l l5) fun (r02, r12) =>
  M.bind (M.pure (decide (l6 = r02))) fun s2 =>
  M.bind (M.opt (s2 && (e2 == r12)) (m_nilometerlaw13_same r3 w_) false) fun r6 =>
  M.bind (M.opt ((((s2 && (e2 == r12)) && r6) && (decide (l = l))) && (decide (p = p))) (m_nilometerlaw13_awake) false) fun r7 =>
  M.pure (((((s2 && (e2 == r12)) && r6) && (decide (l = l))) && (decide (p = p))) && r7)))
set_option maxRecDepth 100000 in
set_option maxHeartbeats 16000000 in
theorem nilometerlaw13_NotesValues_ok {R : List Chunk} {C_w_ : Cells} {v_w_ : Value} {C_l : Cells} {v_l : Value} {C_p : Cells} {v_p : Value} (w_ : List Work) (l : List Note) (p : List Pub) (hC_w_ : Reads R C_w_) (hs_w_ : Sl C_w_ v_w_ w_) (hC_l : Reads R C_l) (hs_l : Sl C_l v_l l) (hC_p : Reads R C_p) (hs_p : Sl C_p v_p p) {r : Bool} (hM : (m_nilometerlaw13_NotesValues w_ l p).Ends r) (w : World) (H : St w w [] R) : Ret Try.prog 3 #[v_w_, v_l, v_p] w fun v w' => ∃ (y0 : Bool), y0 = r ∧ v = B y0 ∧ St w w' [] R := by
 refine ret_of_W Try.func3 rfl rfl rfl ?_
 refine W.seq <| W.region rfl <| s_val (x_as (v := B false) rfl) <| s_nil <| W.seq <| W.seq <| W.region rfl <| s_val (x_mv (v := v_w_) rfl) ?_
 refine s_call cf16 [v_w_, .slice none 0 0] rfl (little_any _ (hs_w_.mono (hC_w_.at H)) ((Sl.nil (fun _ => none)).mono noneLe)) ?_
 rintro _ w1z ⟨rfl, hx_⟩
 replace H : St w w1z [] R := H.ext hx_
 clear hx_
 refine s_val (x_not (b := littleB w_ []) rfl) <| s_val (x_mv (v := B (!(littleB w_ []))) rfl) <| g_val (!(!(littleB w_ []))) (gy_f rfl) (fun hg => x_mv (v := v_l) rfl) <| g_val (!(!(littleB w_ []))) (gy_f rfl) (fun hg => x_lenS T23.und (gd_of (c := !(!(littleB w_ []))) hg (v_l)) hs_l) <| g_val (!(!(littleB w_ []))) (gy_f rfl) (fun hg => x_cmp (kd := .i64) (a := (l.length : Int)) (b := 210) (r := decide (210 < (l.length : Int))) (gd_of (c := !(!(littleB w_ []))) hg (I (l.length : Int))) rfl rfl) <| s_val (x_por (b := !(littleB w_ [])) (r := decide (210 < (l.length : Int))) rfl rfl (fun hb => gd_of (c := !(!(littleB w_ []))) (by simp_all) (B (decide (210 < (l.length : Int)))))) <| s_val (x_mv (v := B ((!(littleB w_ [])) || (decide (210 < (l.length : Int))))) rfl) <| g_val (!((!(littleB w_ [])) || (decide (210 < (l.length : Int))))) (gy_f rfl) (fun hg => x_mv (v := v_p) rfl) ?_
 refine g_val (!((!(littleB w_ [])) || (decide (210 < (l.length : Int))))) (gy_f rfl) (fun hg => x_lenS T24.und (gd_of (c := !((!(littleB w_ [])) || (decide (210 < (l.length : Int))))) hg (v_p)) hs_p) <| g_val (!((!(littleB w_ [])) || (decide (210 < (l.length : Int))))) (gy_f rfl) (fun hg => x_cmp (kd := .i64) (a := (p.length : Int)) (b := 210) (r := decide (210 < (p.length : Int))) (gd_of (c := !((!(littleB w_ [])) || (decide (210 < (l.length : Int))))) hg (I (p.length : Int))) rfl rfl) <| s_val (x_por (b := ((!(littleB w_ [])) || (decide (210 < (l.length : Int))))) (r := decide (210 < (p.length : Int))) rfl rfl (fun hb => gd_of (c := !((!(littleB w_ [])) || (decide (210 < (l.length : Int))))) (by simp_all) (B (decide (210 < (p.length : Int)))))) <| s_nil ?_
 refine W.cond (((!(littleB w_ [])) || (decide (210 < (l.length : Int)))) || (decide (210 < (p.length : Int)))) rfl (fun c4z => ?_) (fun c4z => ?_)
 ·replace hM := M.e_t hM c4z
  refine W.seq <| W.region rfl ?_
  obtain ⟨r6z, hx5z, hM⟩ := M.e_bind hM
  refine s_call cf17 [] rfl (nilometerlaw13_awake_ok hx5z _ (St.give (T := []) H rfl)) ?_
  rintro vq w7z ⟨r2, hr8z, hvq, H2_⟩
  subst hr8z
  subst vq
  try dsimp only at hM
  replace H : St w w7z [] R := H.back H2_ rfl
  clear H2_
  refine s_val (x_as (v := B r2) rfl) <| s_nil ?_
  refine W.ret ?_
  have hr_ := M.e_pure hM
  exact ⟨_, resE_tmp rfl, ⟨r2, hr_, rfl, H⟩⟩
 ·replace hM := M.e_f hM c4z
  refine W.skip <| W.seq <| W.region rfl <| s_val (x_mv (v := v_w_) rfl) ?_
  obtain ⟨r10z, hx9z, hM⟩ := M.e_bind hM
  refine s_call cf18 [v_w_] rfl (nilometerlaw13_CopyWorks_ok w_ (hC_w_.app _) hs_w_ hx9z _ (St.give (T := []) H rfl)) ?_
  rintro vq w11z ⟨r3, u0_1, rr1_2, Bs2_3, hr12z, hvq, H2_, hf13z⟩
  subst hr12z
  subst vq
  try dsimp only at hM
  replace H : St w w11z [cOwn (α := Raw 2) 60 u0_1 rr1_2, cRo Bs2_3] R := H.back H2_ rfl
  clear H2_
  refine s_val (x_mv (v := v_l) rfl) ?_
  obtain ⟨sd14z, hM⟩ := M.e_grd hM
  simp only [Bool.and_eq_true, decide_eq_true_eq] at sd14z
  refine s_call cf19 [v_l] rfl (copy_note _ (hs_l.mono (hC_l.at H)) (by omega)) ?_
  rintro v16z w15z ⟨ho_, hx_⟩
  replace H : St w w15z [cOwn (α := Note) 30 v16z l, cOwn (α := Raw 2) 60 u0_1 rr1_2, cRo Bs2_3] R := H.ownOf hx_ ho_
  clear hx_ ho_
  refine s_val (x_mv (v := v_p) rfl) ?_
  obtain ⟨sd17z, hM⟩ := M.e_grd hM
  simp only [Bool.and_eq_true, decide_eq_true_eq] at sd17z
  refine s_call cf20 [v_p] rfl (copy_pub _ (hs_p.mono (hC_p.at H)) (by omega)) ?_
  rintro v19z w18z ⟨ho_, hx_⟩
  replace H : St w w18z [cOwn (α := Pub) 33 v19z p, cOwn (α := Note) 30 v16z l, cOwn (α := Raw 2) 60 u0_1 rr1_2, cRo Bs2_3] R := H.ownOf hx_ ho_
  clear hx_ ho_
  refine s_val (x_as (v := u0_1) rfl) <| s_val (x_as (v := v16z) rfl) <| s_val (x_as (v := v19z) rfl) <| s_nil <| W.seq <| W.region rfl <| s_val (x_mv (v := u0_1) rfl) <| s_val (x_mv (v := v16z) rfl) ?_
  obtain ⟨⟨l2, e⟩, hx23z, hM⟩ := M.e_bind hM
  obtain ⟨hq24z, hq25z⟩ := Prod.mk.inj (M.e_pure hx23z)
  try dsimp only at hM
  refine s_call cf21 [u0_1, v16z] rfl (by have hc_ := (Values_any _ ((rowSl rfl (H.get (k := 2) rfl) (Cells.sup_le (hC_w_.at H) (roLe _ (H.get (k := 3) rfl))) hf13z).mono (Cells.sup_le (ownLe _ (H.get (k := 2) rfl)) (Cells.sup_le (hC_w_.at H) (roLe _ (H.get (k := 3) rfl))))) ((ownSl (H.get (k := 1) rfl)).mono (ownLe _ (H.get (k := 1) rfl)))); rw [hq24z, hq25z] at hc_; exact hc_) ?_
  rintro _ w20z ⟨u21z, rfl, hs22z, hx_⟩
  obtain ⟨Bs_6, H, hs22z⟩ := H.fresh hx_ hs22z
  clear hx_
  have hl_hs22z := hs22z.len_le
  refine s_val (x_mv (v := .tuple #[u21z, I e]) rfl) <| s_val (x_ext (vs := [u21z, I e]) (v := u21z) rfl rfl) <| s_val (x_ext (vs := [u21z, I e]) (v := I e) rfl rfl) <| s_val (x_as (v := u21z) rfl) <| s_val (x_as (v := I e) rfl) <| s_nil <| W.seq <| W.region rfl ?_
  refine s_val (x_mv (v := v_w_) rfl) ?_
  obtain ⟨r27z, hx26z, hM⟩ := M.e_bind hM
  refine s_call cf23 [v_w_] rfl (nilometerlaw13_Works_ok w_ (hC_w_.app _) hs_w_ hx26z _ (St.give (T := [cRo Bs_6, cOwn (α := Pub) 33 v19z p, cOwn (α := Note) 30 v16z l, cOwn (α := Raw 2) 60 u0_1 rr1_2, cRo Bs2_3]) H rfl)) ?_
  rintro vq w28z ⟨r4, u0_7, rr1_8, Bs2_9, hr29z, hvq, H2_, hf30z⟩
  subst hr29z
  subst vq
  try dsimp only at hM
  replace H : St w w28z [cOwn (α := Raw 2) 138 u0_7 rr1_8, cRo Bs2_9, cRo Bs_6, cOwn (α := Pub) 33 v19z p, cOwn (α := Note) 30 v16z l, cOwn (α := Raw 2) 60 u0_1 rr1_2, cRo Bs2_3] R := H.back H2_ rfl
  clear H2_
  refine s_val (x_mv (v := v_l) rfl) ?_
  refine s_call cf24 [v_l] rfl (noted_any _ (hs_l.mono (hC_l.at H)) (by omega)) ?_
  rintro v32z w31z ⟨ho_, hx_⟩
  replace H : St w w31z [cOwn (α := Note) 137 v32z l, cOwn (α := Raw 2) 138 u0_7 rr1_8, cRo Bs2_9, cRo Bs_6, cOwn (α := Pub) 33 v19z p, cOwn (α := Note) 30 v16z l, cOwn (α := Raw 2) 60 u0_1 rr1_2, cRo Bs2_3] R := H.ownOf hx_ ho_
  clear hx_ ho_
  obtain ⟨r34z, hx33z, hM⟩ := M.e_bind hM
  refine s_call cf22 [u0_7, v32z] rfl (nilometerref13_Values_ok r4 l (Reads.sup (Reads.of (k := 1) rfl ownLe) (Reads.of (k := 2) rfl roLe)) (rowSl rfl (H.get (k := 1) rfl) (roLe _ (H.get (k := 2) rfl)) hf30z) (Reads.of (k := 0) rfl ownLe) (ownSl (H.get (k := 0) rfl)) hx33z _ (St.give (T := [cOwn (α := Note) 137 v32z l, cOwn (α := Raw 2) 138 u0_7 rr1_8, cRo Bs2_9, cRo Bs_6, cOwn (α := Pub) 33 v19z p, cOwn (α := Note) 30 v16z l, cOwn (α := Raw 2) 60 u0_1 rr1_2, cRo Bs2_3]) H rfl)) ?_
  rintro vq w35z ⟨r0, r1, u0_11, hr36z, hvq, H2_⟩
  subst hr36z
  subst vq
  try dsimp only at hM
  replace H : St w w35z [cOwn (α := Int) 3 u0_11 r0, cOwn (α := Note) 137 v32z l, cOwn (α := Raw 2) 138 u0_7 rr1_8, cRo Bs2_9, cRo Bs_6, cOwn (α := Pub) 33 v19z p, cOwn (α := Note) 30 v16z l, cOwn (α := Raw 2) 60 u0_1 rr1_2, cRo Bs2_3] R := H.back H2_ rfl
  clear H2_
  refine s_val (x_mv (v := .tuple #[u0_11, I r1]) rfl) <| s_val (x_ext (vs := [u0_11, I r1]) (v := u0_11) rfl rfl) <| s_val (x_ext (vs := [u0_11, I r1]) (v := I r1) rfl rfl) <| s_val (x_as (v := u0_11) rfl) <| s_val (x_as (v := I r1) rfl) <| s_nil <| W.seq <| W.seq ?_
  refine W.region rfl <| s_val (x_mv (v := u21z) rfl) <| s_val (x_mv (v := u0_11) rfl) ?_
  refine s_call cf25 [u21z, u0_11] rfl (same_int _ (hs22z.mono (roLe _ (H.get (k := 4) rfl))) ((ownSl (H.get (k := 0) rfl)).mono (ownLe _ (H.get (k := 0) rfl)))) ?_
  rintro _ w37z ⟨rfl, hx_⟩
  replace H : St w w37z [cOwn (α := Int) 3 u0_11 r0, cOwn (α := Note) 137 v32z l, cOwn (α := Raw 2) 138 u0_7 rr1_8, cRo Bs2_9, cRo Bs_6, cOwn (α := Pub) 33 v19z p, cOwn (α := Note) 30 v16z l, cOwn (α := Raw 2) 60 u0_1 rr1_2, cRo Bs2_3] R := H.ext hx_
  clear hx_
  refine s_val (x_not (b := decide (l2 = r0)) rfl) <| s_val (x_mv (v := B (!(decide (l2 = r0)))) rfl) <| g_val (!(!(decide (l2 = r0)))) (gy_f rfl) (fun hg => x_mv (v := I e) rfl) <| g_val (!(!(decide (l2 = r0)))) (gy_f rfl) (fun hg => x_mv (v := I r1) rfl) <| g_val (!(!(decide (l2 = r0)))) (gy_f rfl) (fun hg => x_cmp (kd := .i64) (a := e) (b := r1) (r := e != r1) (gd_of (c := !(!(decide (l2 = r0)))) hg (I e)) (gd_of (c := !(!(decide (l2 = r0)))) hg (I r1)) rfl) <| s_val (x_por (b := !(decide (l2 = r0))) (r := e != r1) rfl rfl (fun hb => gd_of (c := !(!(decide (l2 = r0)))) (by simp_all) (B (e != r1)))) <| s_nil ?_
  refine W.cond ((!(decide (l2 = r0))) || (e != r1)) rfl (fun c38z => ?_) (fun c38z => ?_)
  ·replace hM := M.e_t hM c38z
   refine W.seq <| W.region rfl <| s_val (x_as (v := B false) rfl) <| s_nil ?_
   refine W.ret ?_
   have hr_ := M.e_pure hM
   exact ⟨_, resE_tmp rfl, ⟨false, hr_, rfl, (H.pick [] (by decide) rfl)⟩⟩
  ·replace hM := M.e_f hM c38z
   refine W.skip <| W.seq <| W.region rfl <| s_val (x_as (v := .slice none 0 0) rfl) <| s_nil <| W.seq <| W.seq <| W.region rfl ?_
   refine s_val (x_mv (v := v_p) rfl) ?_
   have hl39z := (hs_p).len_le
   refine s_val (x_lenS T24.und rfl hs_p) <| s_val (x_mv (v := I 0) rfl) <| s_nil <| W.block ?_
   replace H : St w w37z [cOwn (α := Pub) 45 (.slice none 0 0) ([]), cOwn (α := Int) 3 u0_11 r0, cOwn (α := Note) 137 v32z l, cOwn (α := Raw 2) 138 u0_7 rr1_8, cRo Bs2_9, cRo Bs_6, cOwn (α := Pub) 33 v19z p, cOwn (α := Note) 30 v16z l, cOwn (α := Raw 2) 60 u0_1 rr1_2, cRo Bs2_3] R := H.nilOwn (α := Pub) 45
   obtain ⟨ex40z, hi41z, hk42z⟩ := M.e_bind hM
   obtain ⟨m0_, hi41z⟩ := M.e_iter hi41z
   refine W.loop (fun m σ W => ∃ (s : Nat) (l3 : List Pub) (v_l3 : Value) (ρ : Env), σ = upds ρ [(0, v_w_), (1, v_l), (2, v_p), (7, u0_1), (8, v16z), (9, v19z), (14, v_l3), (60, v_p), (61, I (p.length : Int)), (62, I (s : Int))] ∧ M.iterN (m_nilometerlaw13_NotesValues_b0 p) m (s, l3) = some ex40z ∧ St w W [cOwn (α := Pub) 45 v_l3 l3, cOwn (α := Int) 3 u0_11 r0, cOwn (α := Note) 137 v32z l, cOwn (α := Raw 2) 138 u0_7 rr1_8, cRo Bs2_9, cRo Bs_6, cOwn (α := Pub) 33 v19z p, cOwn (α := Note) 30 v16z l, cOwn (α := Raw 2) 60 u0_1 rr1_2, cRo Bs2_3] R) ?_ ?_
   ·exact ⟨_, 0, [], (.slice none 0 0), _, upds_of _ _ ⟨rfl, rfl, rfl, rfl, rfl, rfl, rfl, rfl, rfl, rfl, trivial⟩, hi41z, H⟩
   ·rintro m45z σ w43z ⟨s, l3, v_l3, ρ, rfl, hI44z, H⟩
    obtain ⟨m46z, lt47z, x48z, hM, hN49z⟩ := M.e_iterN hI44z
    simp only [m_nilometerlaw13_NotesValues_b0] at hM
    clear hI44z
    refine W.seq <| W.region rfl <| s_val (x_cmp (kd := .i64) (a := (s : Int)) (b := (p.length : Int)) (r := decide ((s : Int) < (p.length : Int))) rfl rfl rfl) <| s_nil <| W.seq ?_
    refine W.cond (decide ((s : Int) < (p.length : Int))) rfl (fun c50z => ?_) (fun c50z => ?_)
    ·replace hM := M.e_t hM c50z
     simp only [q1, q2, q3, q4, q5, q6, ne_eq, q7] at c50z
     refine W.skip <| W.seq <| W.block <| W.seq <| W.region rfl ?_
     obtain ⟨sd51z, hM⟩ := M.e_grd hM
     simp only [Bool.and_eq_true, decide_eq_true_eq] at sd51z
     refine s_val (x_ix (a := v_p) (b := I (s : Int)) (v := vat v_p 2 (Int.toNat (s : Int))) rfl rfl (Sl.ix (α := Pub) T24.und T24.size hs_p (by omega) (by omega))) <| s_val (x_ld (p := vat v_p 2 (Int.toNat (s : Int))) (v := .agg #[I ((p.getD s default).work), I ((p.getD s default).value)]) rfl (ld_ag Ag33 Sz33 (At.mono (Pub_atA hs_p (i := (s : Int)) (by omega) (by omega)) (hC_p.at H)))) ?_
     refine t_alloc (cs := [I 0, I 0]) H Al33 rfl ?_
     intro b_12 w52z H
     refine t_st (k := 0) (b := b_12) (off := 0) (cs := [I 0, I 0]) (vs := [I ((p.getD s default).work), I ((p.getD s default).value)]) (cs' := [I ((p.getD s default).work), I ((p.getD s default).value)]) (v := .agg #[I ((p.getD s default).work), I ((p.getD s default).value)]) (L' := [cBlk b_12 [I ((p.getD s default).work), I ((p.getD s default).value)] 33, cOwn (α := Pub) 45 v_l3 l3, cOwn (α := Int) 3 u0_11 r0, cOwn (α := Note) 137 v32z l, cOwn (α := Raw 2) 138 u0_7 rr1_8, cRo Bs2_9, cRo Bs_6, cOwn (α := Pub) 33 v19z p, cOwn (α := Note) 30 v16z l, cOwn (α := Raw 2) 60 u0_1 rr1_2, cRo Bs2_3]) H rfl rfl rfl Sz33 rfl rfl rfl rfl rfl rfl ?_
     intro w53z H
     refine s_nil <| W.region rfl <| s_val (x_mv (v := v_l3) rfl) <| s_val (x_ld (p := .pointer (some ⟨b_12, 0, none⟩)) (v := .agg #[I ((p.getD s default).work), I ((p.getD s default).value)]) rfl (ldb_ag (ds := [I ((p.getD s default).work), I ((p.getD s default).value)]) Ag33 Sz33 (H.blk (k := 0) rfl) rfl rfl)) ?_
     refine t_bs (α := Pub) T44 [.agg #[I ((p.getD s default).work), I ((p.getD s default).value)]] [(p.getD s default)] H rfl (.cons rfl (Flat.rep_enc _ (p.getD s default)) <| .nil) rfl rfl rfl ?_
     intro v54z w55z H
     obtain ⟨sd56z, hM⟩ := M.e_grd hM
     simp only [Bool.and_eq_true, decide_eq_true_eq] at sd56z
     refine t_app (α := Pub) (k := 2) (l := l3) (l2 := [(p.getD s default)]) (l' := l3 ++ ([(p.getD s default)])) (vy := v54z) T44 rfl H rfl rfl rfl (ownSl (H.get (k := 0) rfl)) (ownLe _ (H.get (k := 0) rfl)) (rfl) (by first | omega | (simp only [List.length_nil] at *; omega)) ?_
     intro v57z w58z H
     replace H : St w w58z [cOwn (α := Pub) 45 v54z ([(p.getD s default)]), cBlk b_12 [I ((p.getD s default).work), I ((p.getD s default).value)] 33, cOwn (α := Pub) 45 v57z (l3 ++ ([(p.getD s default)])), cOwn (α := Int) 3 u0_11 r0, cOwn (α := Note) 137 v32z l, cOwn (α := Raw 2) 138 u0_7 rr1_8, cRo Bs2_9, cRo Bs_6, cOwn (α := Pub) 33 v19z p, cOwn (α := Note) 30 v16z l, cOwn (α := Raw 2) 60 u0_1 rr1_2, cRo Bs2_3] R := H
     refine s_val (x_as (v := v57z) rfl) <| s_nil <| W.region rfl <| s_val (x_ari (a := (s : Int)) (b := 1) (r := (s : Int) + 1) rfl rfl rfl (by omega)) <| s_val (x_mv (v := I ((s : Int) + 1)) rfl) <| s_nil ?_
     exact ⟨m46z, lt47z, s + 1, l3 ++ ([(p.getD s default)]), v57z, _, upds_of _ _ ⟨rfl, rfl, rfl, rfl, rfl, rfl, rfl, rfl, rfl, rfl, trivial⟩, M.e_inl hM hN49z, (H.pick [2, 3, 4, 5, 6, 7, 8, 9, 10, 11] (by decide) rfl)⟩
    ·replace hM := M.e_f hM c50z
     simp only [q1, q2, q3, q4, q5, q6, ne_eq, q7] at c50z
     refine W.exit ?_
     have hX59z := M.e_inr hM hN49z
     subst hX59z
     replace hM := hk42z
     try dsimp only at hM
     refine W.seq <| W.region rfl <| s_val (x_mv (v := u0_1) rfl) <| s_val (x_mv (v := v16z) rfl) <| s_val (x_mv (v := v19z) rfl) ?_
     obtain ⟨⟨l6, e2⟩, hx63z, hM⟩ := M.e_bind hM
     obtain ⟨hq64z, hq65z⟩ := Prod.mk.inj (M.e_pure hx63z)
     try dsimp only at hM
     refine s_call cf26 [u0_1, v16z, v19z] rfl (by have hc_ := (Withdrawn_any _ ((rowSl rfl (H.get (k := 8) rfl) (Cells.sup_le (hC_w_.at H) (roLe _ (H.get (k := 9) rfl))) hf13z).mono (Cells.sup_le (ownLe _ (H.get (k := 8) rfl)) (Cells.sup_le (hC_w_.at H) (roLe _ (H.get (k := 9) rfl))))) ((ownSl (H.get (k := 7) rfl)).mono (ownLe _ (H.get (k := 7) rfl))) ((ownSl (H.get (k := 6) rfl)).mono (ownLe _ (H.get (k := 6) rfl)))); rw [hq64z, hq65z] at hc_; exact hc_) ?_
     rintro _ w60z ⟨u61z, rfl, hs62z, hx_⟩
     obtain ⟨Bs_16, H, hs62z⟩ := H.fresh hx_ hs62z
     clear hx_
     have hl_hs62z := hs62z.len_le
     refine s_val (x_mv (v := .tuple #[u61z, I e2]) rfl) <| s_val (x_ext (vs := [u61z, I e2]) (v := u61z) rfl rfl) <| s_val (x_ext (vs := [u61z, I e2]) (v := I e2) rfl rfl) <| s_val (x_as (v := u61z) rfl) <| s_val (x_as (v := I e2) rfl) <| s_nil <| W.seq <| W.region rfl ?_
     refine s_val (x_mv (v := v_w_) rfl) ?_
     obtain ⟨r67z, hx66z, hM⟩ := M.e_bind hM
     refine s_call cf23 [v_w_] rfl (nilometerlaw13_Works_ok w_ (hC_w_.app _) hs_w_ hx66z _ (St.give (T := [cRo Bs_16, cOwn (α := Pub) 45 v_l3 l3, cOwn (α := Int) 3 u0_11 r0, cOwn (α := Note) 137 v32z l, cOwn (α := Raw 2) 138 u0_7 rr1_8, cRo Bs2_9, cRo Bs_6, cOwn (α := Pub) 33 v19z p, cOwn (α := Note) 30 v16z l, cOwn (α := Raw 2) 60 u0_1 rr1_2, cRo Bs2_3]) H rfl)) ?_
     rintro vq w68z ⟨r5, u0_17, rr1_18, Bs2_19, hr69z, hvq, H2_, hf70z⟩
     subst hr69z
     subst vq
     try dsimp only at hM
     replace H : St w w68z [cOwn (α := Raw 2) 138 u0_17 rr1_18, cRo Bs2_19, cRo Bs_16, cOwn (α := Pub) 45 v_l3 l3, cOwn (α := Int) 3 u0_11 r0, cOwn (α := Note) 137 v32z l, cOwn (α := Raw 2) 138 u0_7 rr1_8, cRo Bs2_9, cRo Bs_6, cOwn (α := Pub) 33 v19z p, cOwn (α := Note) 30 v16z l, cOwn (α := Raw 2) 60 u0_1 rr1_2, cRo Bs2_3] R := H.back H2_ rfl
     clear H2_
     refine s_val (x_mv (v := v_l) rfl) ?_
     refine s_call cf24 [v_l] rfl (noted_any _ (hs_l.mono (hC_l.at H)) (by omega)) ?_
     rintro v72z w71z ⟨ho_, hx_⟩
     replace H : St w w71z [cOwn (α := Note) 137 v72z l, cOwn (α := Raw 2) 138 u0_17 rr1_18, cRo Bs2_19, cRo Bs_16, cOwn (α := Pub) 45 v_l3 l3, cOwn (α := Int) 3 u0_11 r0, cOwn (α := Note) 137 v32z l, cOwn (α := Raw 2) 138 u0_7 rr1_8, cRo Bs2_9, cRo Bs_6, cOwn (α := Pub) 33 v19z p, cOwn (α := Note) 30 v16z l, cOwn (α := Raw 2) 60 u0_1 rr1_2, cRo Bs2_3] R := H.ownOf hx_ ho_
     clear hx_ ho_
     refine s_val (x_mv (v := v_l3) rfl) ?_
     obtain ⟨r74z, hx73z, hM⟩ := M.e_bind hM
     refine s_call cf27 [u0_17, v72z, v_l3] rfl (nilometerref13_Withdrawn_ok r5 l l3 (Reads.sup (Reads.of (k := 1) rfl ownLe) (Reads.of (k := 2) rfl roLe)) (rowSl rfl (H.get (k := 1) rfl) (roLe _ (H.get (k := 2) rfl)) hf70z) (Reads.of (k := 0) rfl ownLe) (ownSl (H.get (k := 0) rfl)) (Reads.of (k := 4) rfl ownLe) (ownSl (H.get (k := 4) rfl)) hx73z _ (St.give (T := [cOwn (α := Note) 137 v72z l, cOwn (α := Raw 2) 138 u0_17 rr1_18, cRo Bs2_19, cRo Bs_16, cOwn (α := Pub) 45 v_l3 l3, cOwn (α := Int) 3 u0_11 r0, cOwn (α := Note) 137 v32z l, cOwn (α := Raw 2) 138 u0_7 rr1_8, cRo Bs2_9, cRo Bs_6, cOwn (α := Pub) 33 v19z p, cOwn (α := Note) 30 v16z l, cOwn (α := Raw 2) 60 u0_1 rr1_2, cRo Bs2_3]) H rfl)) ?_
     rintro vq w75z ⟨r02, r12, u0_21, hr76z, hvq, H2_⟩
     subst hr76z
     subst vq
     try dsimp only at hM
     replace H : St w w75z [cOwn (α := Int) 3 u0_21 r02, cOwn (α := Note) 137 v72z l, cOwn (α := Raw 2) 138 u0_17 rr1_18, cRo Bs2_19, cRo Bs_16, cOwn (α := Pub) 45 v_l3 l3, cOwn (α := Int) 3 u0_11 r0, cOwn (α := Note) 137 v32z l, cOwn (α := Raw 2) 138 u0_7 rr1_8, cRo Bs2_9, cRo Bs_6, cOwn (α := Pub) 33 v19z p, cOwn (α := Note) 30 v16z l, cOwn (α := Raw 2) 60 u0_1 rr1_2, cRo Bs2_3] R := H.back H2_ rfl
     clear H2_
     refine s_val (x_mv (v := .tuple #[u0_21, I r12]) rfl) <| s_val (x_ext (vs := [u0_21, I r12]) (v := u0_21) rfl rfl) <| s_val (x_ext (vs := [u0_21, I r12]) (v := I r12) rfl rfl) <| s_val (x_as (v := u0_21) rfl) <| s_val (x_as (v := I r12) rfl) <| s_nil <| W.seq <| W.region rfl ?_
     refine s_val (x_mv (v := u61z) rfl) <| s_val (x_mv (v := u0_21) rfl) ?_
     obtain ⟨s2, hx77z, hM⟩ := M.e_bind hM
     replace hx77z := M.e_pure hx77z
     refine s_call cf25 [u61z, u0_21] rfl (by have hc_ := (same_int _ (hs62z.mono (roLe _ (H.get (k := 4) rfl))) ((ownSl (H.get (k := 0) rfl)).mono (ownLe _ (H.get (k := 0) rfl)))); rw [hx77z] at hc_; exact hc_) ?_
     rintro _ w78z ⟨rfl, hx_⟩
     replace H : St w w78z [cOwn (α := Int) 3 u0_21 r02, cOwn (α := Note) 137 v72z l, cOwn (α := Raw 2) 138 u0_17 rr1_18, cRo Bs2_19, cRo Bs_16, cOwn (α := Pub) 45 v_l3 l3, cOwn (α := Int) 3 u0_11 r0, cOwn (α := Note) 137 v32z l, cOwn (α := Raw 2) 138 u0_7 rr1_8, cRo Bs2_9, cRo Bs_6, cOwn (α := Pub) 33 v19z p, cOwn (α := Note) 30 v16z l, cOwn (α := Raw 2) 60 u0_1 rr1_2, cRo Bs2_3] R := H.ext hx_
     clear hx_
     refine s_val (x_mv (v := B s2) rfl) <| g_val s2 (gy_t rfl) (fun hg => x_mv (v := I e2) rfl) <| g_val s2 (gy_t rfl) (fun hg => x_mv (v := I r12) rfl) <| g_val s2 (gy_t rfl) (fun hg => x_cmp (kd := .i64) (a := e2) (b := r12) (r := e2 == r12) (gd_of (c := s2) hg (I e2)) (gd_of (c := s2) hg (I r12)) rfl) <| s_val (x_pand (b := s2) (r := e2 == r12) rfl (fun hb => gd_of (c := s2) (by simp_all) (B (e2 == r12))) rfl) <| s_val (x_mv (v := B (s2 && (e2 == r12))) rfl) <| g_val (s2 && (e2 == r12)) (gy_t rfl) (fun hg => x_mv (v := u0_1) rfl) <| g_val (s2 && (e2 == r12)) (gy_t rfl) (fun hg => x_mv (v := v_w_) rfl) ?_
     obtain ⟨r6, hx79z, hM⟩ := M.e_bind hM
     refine t_gcall (s2 && (e2 == r12)) (gy_t rfl) cf28 (B r6) (fun _ => [u0_1, v_w_]) (fun hg => lst2 (gd_of (c := (s2 && (e2 == r12))) hg (u0_1)) (gd_of (c := (s2 && (e2 == r12))) hg (v_w_))) H (fun hg => (nilometerlaw13_same_ok r3 w_ (Reads.sup (Reads.of (k := 13) rfl ownLe) (Reads.sup (hC_w_.app _) (Reads.of (k := 14) rfl roLe))) (rowSl rfl (H.get (k := 13) rfl) (Cells.sup_le (hC_w_.at H) (roLe _ (H.get (k := 14) rfl))) hf13z) (hC_w_.app _) hs_w_ (M.e_opt hx79z hg) _ (H.give (A := []) rfl)).mono fun v_ w_ ⟨y_, hr_, hv_, H_⟩ => by subst hr_; exact ⟨hv_, H.via H_⟩) ?_
     intro w80z H
     refine s_val (x_pand (b := (s2 && (e2 == r12))) (r := r6) rfl (fun hb => gd_of (c := (s2 && (e2 == r12))) (by simp_all) (B r6)) rfl) <| s_val (x_mv (v := B ((s2 && (e2 == r12)) && r6)) rfl) <| g_val ((s2 && (e2 == r12)) && r6) (gy_t rfl) (fun hg => x_mv (v := v16z) rfl) <| g_val ((s2 && (e2 == r12)) && r6) (gy_t rfl) (fun hg => x_mv (v := v_l) rfl) ?_
     refine t_gcall ((s2 && (e2 == r12)) && r6) (gy_t rfl) cf29 (B (decide (l = l))) (fun _ => [v16z, v_l]) (fun hg => lst2 (gd_of (c := ((s2 && (e2 == r12)) && r6)) hg (v16z)) (gd_of (c := ((s2 && (e2 == r12)) && r6)) hg (v_l))) H (fun hg => Ret.mono (same_note _ ((ownSl (H.get (k := 12) rfl)).mono (ownLe _ (H.get (k := 12) rfl))) (hs_l.mono (hC_l.at H))) fun v_ w_ ⟨hv_, hx_⟩ => ⟨hv_, H.ext hx_⟩) ?_
     intro w81z H
     refine s_val (x_pand (b := ((s2 && (e2 == r12)) && r6)) (r := decide (l = l)) rfl (fun hb => gd_of (c := ((s2 && (e2 == r12)) && r6)) (by simp_all) (B (decide (l = l)))) rfl) <| s_val (x_mv (v := B (((s2 && (e2 == r12)) && r6) && (decide (l = l)))) rfl) <| g_val (((s2 && (e2 == r12)) && r6) && (decide (l = l))) (gy_t rfl) (fun hg => x_mv (v := v19z) rfl) <| g_val (((s2 && (e2 == r12)) && r6) && (decide (l = l))) (gy_t rfl) (fun hg => x_mv (v := v_p) rfl) ?_
     refine t_gcall (((s2 && (e2 == r12)) && r6) && (decide (l = l))) (gy_t rfl) cf30 (B (decide (p = p))) (fun _ => [v19z, v_p]) (fun hg => lst2 (gd_of (c := (((s2 && (e2 == r12)) && r6) && (decide (l = l)))) hg (v19z)) (gd_of (c := (((s2 && (e2 == r12)) && r6) && (decide (l = l)))) hg (v_p))) H (fun hg => Ret.mono (same_pub _ ((ownSl (H.get (k := 11) rfl)).mono (ownLe _ (H.get (k := 11) rfl))) (hs_p.mono (hC_p.at H))) fun v_ w_ ⟨hv_, hx_⟩ => ⟨hv_, H.ext hx_⟩) ?_
     intro w82z H
     refine s_val (x_pand (b := (((s2 && (e2 == r12)) && r6) && (decide (l = l)))) (r := decide (p = p)) rfl (fun hb => gd_of (c := (((s2 && (e2 == r12)) && r6) && (decide (l = l)))) (by simp_all) (B (decide (p = p)))) rfl) <| s_val (x_mv (v := B ((((s2 && (e2 == r12)) && r6) && (decide (l = l))) && (decide (p = p)))) rfl) ?_
     obtain ⟨r7, hx83z, hM⟩ := M.e_bind hM
     refine t_gcall ((((s2 && (e2 == r12)) && r6) && (decide (l = l))) && (decide (p = p))) (gy_t rfl) cf17 (B r7) (fun _ => []) (fun _ => rfl) H (fun hg => (nilometerlaw13_awake_ok (M.e_opt hx83z hg) _ (H.give (A := []) rfl)).mono fun v_ w_ ⟨y_, hr_, hv_, H_⟩ => by subst hr_; exact ⟨hv_, H.via H_⟩) ?_
     intro w84z H
     refine s_val (x_pand (b := ((((s2 && (e2 == r12)) && r6) && (decide (l = l))) && (decide (p = p)))) (r := r7) rfl (fun hb => gd_of (c := ((((s2 && (e2 == r12)) && r6) && (decide (l = l))) && (decide (p = p)))) (by simp_all) (B r7)) rfl) <| s_val (x_as (v := B (((((s2 && (e2 == r12)) && r6) && (decide (l = l))) && (decide (p = p))) && r7)) rfl) <| s_nil ?_
     refine W.ret ?_
     have hr_ := M.e_pure hM
     exact ⟨_, resE_tmp rfl, ⟨(((((s2 && (e2 == r12)) && r6) && (decide (l = l))) && (decide (p = p))) && r7), hr_, rfl, (H.pick [] (by decide) rfl)⟩⟩

end Go.Proofs.Ytndobgodeicloaa
namespace Go.Nm
theorem noteV_other {f : Int → Option Note} {out : List Int} {i x : Int} (h0 : 0 ≤ i) (h1 : 0 ≤ x) (hne : i ≠ x) (d : Int) : (noteV f out i).getD x.toNat d = out.getD x.toNat d := by
  unfold noteV
  split
  · simp only [List.getD_eq_getElem?_getD, List.getElem?_set]
    rw [if_neg (by omega)]
  · rfl
theorem valStep_other {ws : List Work} {f : Int → Option Note} {out : List Int} {i x : Int} (h0 : 0 ≤ i) (h1 : 0 ≤ x) (hne : i ≠ x) (d : Int) : (valStep ws f out i).getD x.toNat d = out.getD x.toNat d := by
  unfold valStep
  split
  · exact noteV_other h0 h1 hne d
  · rw [← noteV_other (f := f) (out := out) h0 h1 hne d]
    simp only [List.getD_eq_getElem?_getD, List.getElem?_set]
    rw [if_neg (by omega)]
theorem valF_other {ws : List Work} {f : Int → Option Note} {x : Int} (h1 : 0 ≤ x) (d : Int) : ∀ (l out : List Int), (∀ y ∈ l, 0 ≤ y) → x ∉ l → (valF ws f l out).getD x.toNat d = out.getD x.toNat d
  | [], _, _, _ => rfl
  | i :: l, out, h0, hx => by
    rw [List.mem_cons, not_or] at hx
    show (valF ws f l (valStep ws f out i)).getD x.toNat d = _
    rw [valF_other h1 d l _ (fun y hy => h0 y (List.mem_cons_of_mem _ hy)) hx.2]
    exact valStep_other (h0 i (List.mem_cons_self ..)) h1 (fun e => hx.1 e.symm) d
theorem sumV_congr {a b : List Int} {base : Int} {of : List Int} (h : ∀ x ∈ of, a.getD x.toNat 0 = b.getD x.toNat 0) : ∀ j, j ≤ of.length → sumV a base of j = sumV b base of j
  | 0, _ => rfl
  | j + 1, hj => by
    simp only [sumV]
    rw [sumV_congr h j (by omega), h _ (getD_memN of (by omega) 0)]
theorem prod_bb {a b : Int} (h1 : 1 ≤ a) (h2 : a ≤ 5) (h3 : -1 ≤ b) (h4 : b ≤ 1000002) : -5 ≤ a * b ∧ a * b ≤ 5000010 := by
  have : a = 1 ∨ a = 2 ∨ a = 3 ∨ a = 4 ∨ a = 5 := by omega
  rcases this with rfl | rfl | rfl | rfl | rfl <;> omega
theorem sumV_bb {out : List Int} {base : Int} {of : List Int} (hb : 0 ≤ base ∧ base ≤ 1000002) (h5 : of.length ≤ 5) (hof : ∀ k ∈ of, -1 ≤ out.getD k.toNat 0 ∧ out.getD k.toNat 0 ≤ 1000002) : ∀ j : Nat, j ≤ of.length → -5 * (j : Int) ≤ sumV out base of j ∧ sumV out base of j ≤ 1000002 + 5000010 * (j : Int)
  | 0, _ => by simp only [sumV]; omega
  | j + 1, hj => by
    have ih := sumV_bb hb h5 hof j (by omega)
    have hm := hof _ (getD_memN of (i := j) (by omega) 0)
    have := prod_bb (a := (j : Int) + 1) (by omega) (by omega) hm.1 hm.2
    simp only [sumV]
    omega
/-- What a note says, or none. -/
def nv (o : Option Note) : Int := match o with | some n => n.value | none => -1
def nq (o : Option Note) : Int := match o with | some n => n.version | none => -1
theorem newF_at {l : List Note} (hr : rngB l = true) (i : Int) {k : Nat} (hk : k < l.length) :
    newF (l.take (k + 1)) i = if ((l.getD k default).work == i) && decide (nq (newF (l.take k) i) < (l.getD k default).version) then some (l.getD k default) else newF (l.take k) i := by
  rw [newF_next l (by omega)]
  have hv : 0 ≤ (l.getD k default).version := by
    have := List.all_eq_true.1 hr _ (getD_memN l (by omega : (k : Int) < _) default)
    simp only [inB, Bool.and_eq_true, decide_eq_true_eq] at this
    exact this.1.1
  generalize newF (l.take k) = f
  generalize l.getD k default = n at hv
  unfold newStep
  by_cases e : n.work = i
  · subst e
    rw [beq_self_eq_true, Bool.true_and]
    cases hf : f n.work with
    | none =>
      have : nq none < n.version := by simp only [nq]; omega
      rw [if_pos (by simp), if_pos (by simpa using this)]
      simp [updF]
    | some m =>
      have hq : nq (some m) = m.version := rfl
      rw [hq]
      have hg : ((some m).getD default : Note) = m := rfl
      have hs : (some m).isSome = true := rfl
      rw [hg, hs, Bool.not_true, Bool.false_or]
      cases decide (m.version < n.version) with
      | true => simp [updF]
      | false => simpa using hf
  · have e' : (n.work == i) = false := by simpa using e
    rw [e', Bool.false_and]
    cases (!(f n.work).isSome || decide (((f n.work).getD default).version < n.version)) with
    | true =>
      rw [if_pos rfl, if_neg (by decide)]
      unfold updF
      rw [if_neg (fun h => e h.symm)]
    | false => rw [if_neg (by decide), if_neg (by decide)]
theorem noteV_at {f : Int → Option Note} {out : List Int} {i : Int} (h0 : 0 ≤ i) (h1 : i < out.length) (hn : out.getD i.toNat 0 = -1) : (noteV f out i).getD i.toNat 0 = nv (f i) := by
  unfold noteV nv
  cases hf : f i with
  | none => simpa using hn
  | some n =>
    rw [if_pos (by simp), gset _ _ _ _ _ (by omega), if_pos rfl]
    simp
end Go.Nm
namespace Go.Proofs.Ytndobgodeicloaa
open Go Go.Nm
theorem pubs_ends {p : List Pub} (h : p.length ≤ 1000) : (M.iter (m_nilometerlaw13_NotesValues_b0 p) (0, [])).Ends (p, p) := by
  have := M.i_for (body := m_nilometerlaw13_NotesValues_b0 p) (r := (p, p)) (fun i => (i, p.take i)) p.length (fun i hi => ?_) ?_
  · simpa using this
  · simp only [m_nilometerlaw13_NotesValues_b0]
    refine M.i_t (by simpa using hi) (M.grdD (by omega) (M.grdD (by simp only [List.length_take, List.length_cons, List.length_nil]; omega) ?_))
    rw [take_succ_D p i hi]
    exact M.i_pure
  · simp only [m_nilometerlaw13_NotesValues_b0]
    rw [List.take_length]
    exact M.i_f (by simp) M.i_pure
variable {ws : List Work} {l : List Note}
theorem val_best (hr : rngB l = true) {R : List Int} {t : Nat} (h0 : 0 ≤ (orderP ws).getD t 0) (h1 : (orderP ws).getD t 0 < R.length) :
    (M.iter (m_nilometerref13_Values_b7 l (orderP ws) t) (R.set (Int.toNat ((orderP ws).getD t 0)) (-1), -1, 0)).Ends (R.set (Int.toNat ((orderP ws).getD t 0)) (nv (newF l ((orderP ws).getD t 0))), R.set (Int.toNat ((orderP ws).getD t 0)) (nv (newF l ((orderP ws).getD t 0)))) := by
  generalize hi : (orderP ws).getD t 0 = i at *
  have := M.i_for (body := m_nilometerref13_Values_b7 l (orderP ws) t) (r := (R.set i.toNat (nv (newF l i)), R.set i.toNat (nv (newF l i)))) (fun k => (R.set i.toNat (nv (newF (l.take k) i)), nq (newF (l.take k) i), k)) l.length (fun k hk => ?_) ?_
  · simpa [newF, nv, nq] using this
  · simp only [m_nilometerref13_Values_b7, hi]
    rw [newF_at hr i hk]
    refine M.i_t (by simpa using hk) (M.grdD (by omega) ?_)
    cases hc : ((l.getD k default).work == i) && decide (nq (newF (l.take k) i) < (l.getD k default).version) with
    | true =>
      refine M.i_t rfl (M.i_grd (gA2 h0 (by rw [List.length_set]; omega)) ?_)
      rw [if_pos rfl, List.set_set]
      exact M.i_pure
    | false =>
      rw [if_neg (by simp)]
      exact M.i_f rfl M.i_pure
  · simp only [m_nilometerref13_Values_b7, List.take_length]
    exact M.i_f (by simp) M.i_pure
theorem val_sum {t : Nat} {R : List Int} (hb : 0 ≤ (ws.getD (Int.toNat ((orderP ws).getD t 0)) default).base ∧ (ws.getD (Int.toNat ((orderP ws).getD t 0)) default).base ≤ 1000002) (h5 : (ws.getD (Int.toNat ((orderP ws).getD t 0)) default).of.length ≤ 5)
    (hof : ∀ x ∈ (ws.getD (Int.toNat ((orderP ws).getD t 0)) default).of, 0 ≤ x ∧ x < R.length ∧ -1 ≤ R.getD x.toNat 0 ∧ R.getD x.toNat 0 ≤ 1000002) :
    (M.iter (m_nilometerref13_Values_b8 ws (orderP ws) t R) ((ws.getD (Int.toNat ((orderP ws).getD t 0)) default).base, true, 0)).Ends
      (sumV R (ws.getD (Int.toNat ((orderP ws).getD t 0)) default).base (ws.getD (Int.toNat ((orderP ws).getD t 0)) default).of (ws.getD (Int.toNat ((orderP ws).getD t 0)) default).of.length,
       (ws.getD (Int.toNat ((orderP ws).getD t 0)) default).of.all fun x => R.getD x.toNat 0 != -1) := by
  generalize hx : ws.getD (Int.toNat ((orderP ws).getD t 0)) default = x at *
  have := M.i_for (body := m_nilometerref13_Values_b8 ws (orderP ws) t R) (r := (sumV R x.base x.of x.of.length, x.of.all fun y => R.getD y.toNat 0 != -1)) (fun k => (sumV R x.base x.of k, (x.of.take k).all (fun y => R.getD y.toNat 0 != -1), k)) x.of.length (fun k hk => ?_) ?_
  · simpa [sumV] using this
  · have hm := hof _ (getD_memN x.of (by omega : (k : Int) < _) 0)
    have hp := prod_bb (a := (k : Int) + 1) (by omega) (by omega) hm.2.2.1 hm.2.2.2
    have hs := sumV_bb hb h5 (fun y hy => (hof y hy).2.2) k (by omega)
    simp only [m_nilometerref13_Values_b8, hx]
    refine M.i_t (by simpa using hk) (M.i_grd (gOr (by omega)) (M.i_grd (gOr2 hm.1 hm.2.1) (M.grdD (by omega) (M.i_grd (gA2 hm.1 hm.2.1) (M.i_grd (gA2 (by omega) (by omega)) (M.i_grd (gA2 (by omega) (by omega)) ?_))))))
    rw [all_take_succ _ _ hk 0]
    exact M.i_pure
  · simp only [m_nilometerref13_Values_b8, hx, List.take_length]
    exact M.i_f (by simp) M.i_pure
end Go.Proofs.Ytndobgodeicloaa
namespace Go.Nm
theorem work_num {ws : List Work} (h : rightE ws = 0) {i : Nat} (hi : i < ws.length) : (0 ≤ (ws.getD i default).base ∧ (ws.getD i default).base ≤ 1000002) ∧ (0 ≤ (ws.getD i default).minutes ∧ (ws.getD i default).minutes ≤ 10000) ∧ (ws.getD i default).of.length ≤ 5 := by
  unfold rightE at h
  split at h
  · omega
  · rename_i h0
    split at h
    · omega
    · rename_i h1
      have h3 : badAt ws i = false := by
        cases hb : badAt ws i with
        | false => rfl
        | true => exact absurd (List.any_eq_true.2 ⟨i, List.mem_range.2 hi, hb⟩) (by simpa using h1)
      unfold badAt badW at h3
      simp only [Bool.or_eq_false_iff, Bool.not_eq_false'] at h3
      have ha := h3.1.1
      have hb := h3.1.2
      simp only [inB, Bool.and_eq_true, decide_eq_true_eq] at ha hb
      simp only [Bool.or_eq_true, not_or, Bool.not_eq_true', Bool.not_eq_false] at h0
      have hc := List.all_eq_true.1 h0.2 _ (getD_memN ws (by omega : (i : Int) < _) default)
      simp only [decide_eq_true_eq] at hc
      exact ⟨ha, hb, by omega⟩
theorem newF_nv {l : List Note} (hr : rngB l = true) : ∀ k, (newF l k).isSome = true → 0 ≤ ((newF l k).getD default).value ∧ ((newF l k).getD default).value ≤ 1000002 := by
  intro k h
  have := newF_val (l := l) (by rw [hr]; rfl) l.length k
  rw [List.take_length] at this
  exact this h
end Go.Nm
namespace Go.Proofs.Ytndobgodeicloaa
open Go Go.Nm
variable {ws : List Work} {l : List Note}
/-- Which values the specification has so far. -/
structure VRel (ws : List Work) (l : List Note) (t : Nat) (R : List Int) : Prop where
  len : R.length = ws.length
  eq : ∀ x ∈ (orderP ws).take t, R.getD x.toNat 0 = (valF ws (newF l) ((orderP ws).take t) (List.replicate ws.length (-1))).getD x.toNat 0
theorem val_step (h : openedE ws = 0) (hr : rngB l = true) {t : Nat} (ht : t < ws.length) {R : List Int} (hR : VRel ws l t R) : ∃ R', (m_nilometerref13_Values_b9 ws l (orderP ws) (R, t)).Ends (.inl (R', t + 1)) ∧ VRel ws l (t + 1) R' := by
  have hRt := opened_right h
  have hf := order_full h
  have hg := order_good ws
  have hti : t < (orderP ws).length := by omega
  have hrng := order_at ws (k := t) (by omega)
  have hnext := valF_next ws (newF l) (orderP ws) (List.replicate ws.length (-1)) (k := t) (by omega)
  have htk := take_succ_getD (orderP ws) hti 0
  have hPlen : (valF ws (newF l) ((orderP ws).take t) (List.replicate ws.length (-1))).length = ws.length := by rw [valF_len]; simp
  have hVB : VB (valF ws (newF l) ((orderP ws).take t) (List.replicate ws.length (-1))) := valF_VB (newF_nv hr) _ (fun y hy => by have := List.eq_of_mem_replicate hy; omega)
  have hnot : (orderP ws).getD t 0 ∉ (orderP ws).take t := by
    intro hm
    have hnd := hg.1
    rw [← List.take_append_drop t (orderP ws), List.nodup_append] at hnd
    refine hnd.2.2 _ hm _ ?_ rfl
    rw [List.mem_iff_getElem]
    refine ⟨0, by rw [List.length_drop]; omega, ?_⟩
    rw [List.getElem_drop]
    simp only [Nat.add_zero]
    exact (getD_el _ hti 0).symm
  have hP0 : (valF ws (newF l) ((orderP ws).take t) (List.replicate ws.length (-1))).getD ((orderP ws).getD t 0).toNat 0 = -1 := by
    rw [valF_other hrng.1 0 _ _ (fun y hy => (order_rng ws y (List.mem_of_mem_take hy)).1) hnot]
    rw [getD_el _ (by rw [List.length_replicate]; omega)]
    simp
  have hofs := hg.2.2 t hti
  have hnum := work_num hRt (i := ((orderP ws).getD t 0).toNat) (by omega)
  have hofr := right_of hRt (i := ((orderP ws).getD t 0).toNat) (by omega)
  have hbest := val_best (ws := ws) hr (R := R) (t := t) hrng.1 (by rw [hR.len]; exact hrng.2)
  have heq := hR.eq
  have hlen := hR.len
  have hsum := fun (R : List Int) => val_sum (ws := ws) (t := t) (R := R) hnum.1 hnum.2.2
  simp only [m_nilometerref13_Values_b9]
  generalize hi : (orderP ws).getD t 0 = i at *
  generalize hP : valF ws (newF l) ((orderP ws).take t) (List.replicate ws.length (-1)) = p at *
  have hnl : (noteV (newF l) p i).length = ws.length := by rw [noteV_len]; exact hPlen
  -- what is the same
  have hsame : ∀ x ∈ (orderP ws).take t, (R.set i.toNat (nv (newF l i))).getD x.toNat 0 = (noteV (newF l) p i).getD x.toNat 0 := by
    intro x hx
    have hx0 := (order_rng ws x (List.mem_of_mem_take hx)).1
    have hne : i ≠ x := fun e => hnot (e ▸ hx)
    rw [noteV_other hrng.1 hx0 hne, ← heq x hx, gset _ _ _ _ _ (by omega), if_neg (by omega)]
  have hat : (R.set i.toNat (nv (newF l i))).getD i.toNat 0 = (noteV (newF l) p i).getD i.toNat 0 := by
    rw [noteV_at hrng.1 (by omega) hP0, gset _ _ _ _ _ (by omega), if_pos rfl]
  have hof2 : ∀ x ∈ (ws.getD i.toNat default).of, (R.set i.toNat (nv (newF l i))).getD x.toNat 0 = (noteV (newF l) p i).getD x.toNat 0 := fun x hx => hsame x (hofs x hx)
  have hall : ((ws.getD i.toNat default).of.all fun x => (R.set i.toNat (nv (newF l i))).getD x.toNat 0 != -1) = ((ws.getD i.toNat default).of.all fun x => (noteV (newF l) p i).getD x.toNat 0 != -1) := by
    rw [Bool.eq_iff_iff, List.all_eq_true, List.all_eq_true]
    exact ⟨fun hh x hx => by rw [← hof2 x hx]; exact hh x hx, fun hh x hx => by rw [hof2 x hx]; exact hh x hx⟩
  have hsv : sumV (R.set i.toNat (nv (newF l i))) (ws.getD i.toNat default).base (ws.getD i.toNat default).of (ws.getD i.toNat default).of.length = sumV (noteV (newF l) p i) (ws.getD i.toNat default).base (ws.getD i.toNat default).of (ws.getD i.toNat default).of.length := sumV_congr hof2 _ (Nat.le_refl _)
  have hVn : VB (noteV (newF l) p i) := by
    unfold noteV
    split
    · rename_i h1
      have := newF_nv hr i h1
      exact hVB.set (by omega) (by omega) _
    · exact hVB
  have keep : valStep ws (newF l) p i = noteV (newF l) p i → VRel ws l (t + 1) (R.set i.toNat (nv (newF l i))) := fun hs => ⟨by rw [List.length_set]; exact hlen, fun x hx => by
    rw [hnext, hs]
    rw [htk] at hx
    rcases List.mem_append.1 hx with hx | hx
    · exact hsame x hx
    · rw [List.mem_singleton] at hx; subst hx; exact hat⟩
  cases h0 : (((ws.getD i.toNat default).of.length : Int) == 0) with
  | true =>
    refine ⟨R.set i.toNat (nv (newF l i)), M.i_t (by simp; omega) (M.grdD (by omega) (M.i_grd (gA2 hrng.1 (by omega)) (M.i_bind hbest (M.i_grd (gA2 hrng.1 hrng.2) (M.i_t rfl M.i_pure))))), keep ?_⟩
    unfold valStep
    rw [if_pos (by rw [h0, Bool.true_or])]
  | false =>
    have hs := hsum (R.set i.toNat (nv (newF l i))) (fun x hx => by
      have h1 := hofr x hx
      have h2 := hVn.at (k := x.toNat) (by omega)
      rw [hof2 x hx]
      exact ⟨h1.1, by rw [List.length_set]; omega, h2⟩)
    rw [hall, hsv] at hs
    cases hk : ((ws.getD i.toNat default).of.all fun x => (noteV (newF l) p i).getD x.toNat 0 != -1) with
    | true =>
      rw [hk] at hs
      have hv := sumV_b hnum.1 hnum.2.2 (known_vals (O := noteV (newF l) p i) (len0 := false) (by rw [hk]; rfl) hVn (fun x hx => by have := hofr x hx; omega)) (ws.getD i.toNat default).of.length (Nat.le_refl _)
      refine ⟨(R.set i.toNat (nv (newF l i))).set i.toNat (sumV (noteV (newF l) p i) (ws.getD i.toNat default).base (ws.getD i.toNat default).of (ws.getD i.toNat default).of.length % 1000003),
        M.i_t (by simp; omega) (M.grdD (by omega) (M.i_grd (gA2 hrng.1 (by omega)) (M.i_bind hbest (M.i_grd (gA2 hrng.1 hrng.2) (M.i_f rfl (M.i_bind hs (M.i_t rfl (M.i_grd (gA2 hv.1 (by omega)) (M.i_grd (gA2 hrng.1 (by rw [List.length_set]; omega)) M.i_pure))))))))), ?_, ?_⟩
      · rw [List.length_set, List.length_set]; exact hlen
      · intro x hx
        have hst : valStep ws (newF l) p i = (noteV (newF l) p i).set i.toNat (sumV (noteV (newF l) p i) (ws.getD i.toNat default).base (ws.getD i.toNat default).of (ws.getD i.toNat default).of.length % 1000003) := by
          unfold valStep
          rw [if_neg (by rw [h0, hk]; decide)]
        rw [hnext, hst, gset (R.set i.toNat (nv (newF l i))) _ _ _ _ (by rw [List.length_set]; omega), gset (noteV (newF l) p i) _ _ _ _ (by omega)]
        by_cases e : x.toNat = i.toNat
        · rw [if_pos e, if_pos e]
        · rw [if_neg e, if_neg e]
          rw [htk] at hx
          rcases List.mem_append.1 hx with hx | hx
          · exact hsame x hx
          · rw [List.mem_singleton] at hx; subst hx; exact absurd rfl e
    | false =>
      rw [hk] at hs
      refine ⟨R.set i.toNat (nv (newF l i)), M.i_t (by simp; omega) (M.grdD (by omega) (M.i_grd (gA2 hrng.1 (by omega)) (M.i_bind hbest (M.i_grd (gA2 hrng.1 hrng.2) (M.i_f rfl (M.i_bind hs (M.i_f rfl M.i_pure))))))), keep ?_⟩
      unfold valStep
      rw [if_pos (by rw [hk]; simp)]
theorem val_loop (h : openedE ws = 0) (hr : rngB l = true) : (M.iter (m_nilometerref13_Values_b9 ws l (orderP ws)) (List.replicate ws.length 0, 0)).Ends (valL ws l, valL ws l) := by
  have hf := order_full h
  refine M.i_loop (fun m s => ∃ t, t ≤ ws.length ∧ m = ws.length - t ∧ s.2 = t ∧ VRel ws l t s.1) ?_ ws.length (List.replicate ws.length 0, 0) ⟨0, Nat.zero_le _, rfl, rfl, by simp, fun x hx => by simp at hx⟩
  rintro m ⟨R, t'⟩ ⟨t, hle, rfl, rfl, hR⟩
  dsimp only at hle hR ⊢
  by_cases ht : t' < ws.length
  · left
    obtain ⟨R', hb, hR'⟩ := val_step h hr ht hR
    exact ⟨(R', t' + 1), _, Nat.sub_succ_lt_self _ _ ht, hb, t' + 1, ht, rfl, rfl, hR'⟩
  · right
    obtain rfl : t' = ws.length := by omega
    have e : R = valL ws l := by
      have hl : (valL ws l).length = ws.length := by unfold valL; rw [valF_len]; simp
      refine List.ext_getElem (by rw [hl]; exact hR.len) fun i h1 h2 => ?_
      have hi : i < ws.length := by rw [← hR.len]; exact h1
      have hm := order_all h (i := (i : Int)) (Int.natCast_nonneg _) (by omega)
      have := hR.eq (i : Int) (by rw [← hf, List.take_length]; exact hm)
      rw [← hf, List.take_length, hf, Int.toNat_natCast, getD_el _ h1] at this
      rw [this]
      exact getD_el _ h2 0
    simp only [m_nilometerref13_Values_b9]
    rw [e]
    exact M.i_f (by simp [hf]) M.i_pure
end Go.Proofs.Ytndobgodeicloaa
namespace Go.Proofs.Ytndobgodeicloaa
open Go Go.Nm
variable {ws : List Work} {l : List Note}
theorem two_scan {l : List Note} {i : Nat} (hi : i < l.length) : (M.iter (m_nilometerref13_Values_b3 l i) 0).Ends (if twAt l i then .inl () else .inr ()) := by
  have := M.i_scan (b := m_nilometerref13_Values_b3 l i) i (fun k => twP (l.getD k default) (l.getD i default)) (fun k hk _ => ?_) (fun _ => ?_)
  · have e : (List.range i).any (fun k => twP (l.getD k default) (l.getD i default)) = twAt l i := by
      unfold twAt
      rw [Bool.eq_iff_iff]
      constructor
      · intro h
        obtain ⟨k, hk, hp⟩ := List.any_eq_true.1 h
        have hk := List.mem_range.1 hk
        refine List.any_eq_true.2 ⟨_, ?_, hp⟩
        rw [getD_el l (by omega : k < l.length)]
        exact List.mem_take_iff_getElem.2 ⟨k, by omega, rfl⟩
      · intro h
        obtain ⟨x, hx, hp⟩ := List.any_eq_true.1 h
        obtain ⟨k, hk, rfl⟩ := List.mem_take_iff_getElem.1 hx
        exact List.any_eq_true.2 ⟨k, List.mem_range.2 (by omega), by rw [getD_el l (by omega : k < l.length)]; exact hp⟩
    rw [e] at this
    exact this
  · simp only [m_nilometerref13_Values_b3]
    refine M.i_t (by simpa using hk) (M.grdD (by omega) (M.grdD (by omega) ?_))
    generalize l.getD k default = a
    generalize l.getD i default = b
    have e : ((b.work == a.work) && (b.version == a.version) && (b.value != a.value)) = twP a b := by
      unfold twP
      obtain ⟨a1, a2, a3⟩ := a
      obtain ⟨b1, b2, b3⟩ := b
      dsimp only
      rw [Bool.eq_iff_iff]
      simp only [Bool.and_eq_true, beq_iff_eq, bne_iff_ne, Bool.not_eq_true', decide_eq_false_iff_not, Note.mk.injEq, ne_eq]
      omega
    rw [e]
    cases twP a b with
    | true => exact M.i_t rfl M.i_pure
    | false => exact M.i_f rfl M.i_pure
  · simp only [m_nilometerref13_Values_b3]
    exact M.i_f (by simp) M.i_pure
theorem refValues_ends (ws : List Work) (l : List Note) : (m_nilometerref13_Values ws l).Ends (valuesR ws l, valuesE ws l) := by
  unfold m_nilometerref13_Values
  refine M.i_bind (order_ends ws) ?_
  by_cases h : openedE ws = 0
  · rw [if_pos h]
    have hRt := opened_right h
    have hlen := right_len hRt
    refine M.i_f rfl ?_
    by_cases h2 : 200 < (l.length : Int)
    · have e := v_many h h2
      rw [v_err e (by decide), e]
      exact M.i_t (by simpa using h2) M.i_pure
    · refine M.i_f (by simpa using h2) ?_
      have s0 := M.i_scan (b := m_nilometerref13_Values_b0 ws l) l.length (fun i => !(inB (l.getD i default).work 0 ((ws.length : Int) - 1) && (((ws.getD (l.getD i default).work.toNat default).of.length : Int) == 0))) (fun i hi _ => ?_) (fun _ => ?_)
      · rw [any_range_all l default (fun n => inB n.work 0 ((ws.length : Int) - 1) && (((ws.getD n.work.toNat default).of.length : Int) == 0))] at s0
        refine M.i_bind s0 ?_
        cases ha : argB ws l with
        | false =>
          have e := v_arg h h2 (by rw [ha]; rfl)
          rw [v_err e (by decide), e, show (l.all fun n => inB n.work 0 ((ws.length : Int) - 1) && (((ws.getD n.work.toNat default).of.length : Int) == 0)) = false from ha]
          exact M.i_pure
        | true =>
          rw [show (l.all fun n => inB n.work 0 ((ws.length : Int) - 1) && (((ws.getD n.work.toNat default).of.length : Int) == 0)) = true from ha]
          have s1 := M.i_scan (b := m_nilometerref13_Values_b1 l) l.length (fun i => !(inB (l.getD i default).version 0 1000000 && inB (l.getD i default).value 0 1000002)) (fun i hi _ => ?_) (fun _ => ?_)
          · rw [any_range_all l default (fun n => inB n.version 0 1000000 && inB n.value 0 1000002)] at s1
            refine M.i_bind s1 ?_
            cases hr : rngB l with
            | false =>
              have e := v_rng h h2 (by rw [ha]; rfl) (by rw [hr]; rfl)
              rw [v_err e (by decide), e, show (l.all fun n => inB n.version 0 1000000 && inB n.value 0 1000002) = false from hr]
              exact M.i_pure
            | true =>
              rw [show (l.all fun n => inB n.version 0 1000000 && inB n.value 0 1000002) = true from hr]
              have s2 := M.i_scan (b := m_nilometerref13_Values_b4 l) l.length (twAt l) (fun i hi _ => ?_) (fun _ => ?_)
              · refine M.i_bind s2 ?_
                cases ht : (List.range l.length).any (twAt l) with
                | true =>
                  have e := v_twice h h2 (by rw [ha]; rfl) (by rw [hr]; rfl) ht
                  rw [v_err e (by decide), e]
                  exact M.i_pure
                | false =>
                  have e : valuesE ws l = 0 := by
                    unfold valuesE
                    rw [if_neg (by simp [h]), if_neg h2, ha, hr, ht]
                    rfl
                  have e2 : valuesR ws l = valL ws l := by unfold valuesR; rw [if_pos e]
                  rw [e, e2]
                  exact M.i_grd (gA3 (by omega) (by omega) (by omega)) (M.i_bind (val_loop h hr) M.i_pure)
              · simp only [m_nilometerref13_Values_b4]
                refine M.i_t (by simpa using hi) (M.i_bind (two_scan hi) ?_)
                cases twAt l i <;> exact M.i_pure
              · simp only [m_nilometerref13_Values_b4]
                exact M.i_f (by simp) M.i_pure
          · simp only [m_nilometerref13_Values_b1, outB_eq]
            refine M.i_t (by simpa using hi) (M.grdD (by omega) ?_)
            cases inB (l.getD i default).version 0 1000000 <;> cases inB (l.getD i default).value 0 1000002 <;> exact M.i_pure
          · simp only [m_nilometerref13_Values_b1]
            exact M.i_f (by simp) M.i_pure
      · simp only [m_nilometerref13_Values_b0, outB_eq]
        refine M.i_t (by simpa using hi) (M.grdD (by omega) ?_)
        cases hb : inB (l.getD i default).work 0 ((ws.length : Int) - 1) with
        | false => exact M.i_grd rfl (M.i_t rfl M.i_pure)
        | true =>
          have hw : 0 ≤ (l.getD i default).work ∧ (l.getD i default).work < ws.length := by
            simp only [inB, Bool.and_eq_true, decide_eq_true_eq] at hb
            omega
          refine M.i_grd (by rw [gA2 hw.1 hw.2]; rfl) ?_
          by_cases hz : ((ws.getD (l.getD i default).work.toNat default).of.length : Int) = 0
          · rw [hz]; exact M.i_pure
          · have e1 : decide (0 < ((ws.getD (l.getD i default).work.toNat default).of.length : Int)) = true := by simp only [decide_eq_true_eq]; omega
            have e2 : (((ws.getD (l.getD i default).work.toNat default).of.length : Int) == 0) = false := by simpa using hz
            rw [e2]
            exact M.i_t (by rw [e1]; rfl) M.i_pure
      · simp only [m_nilometerref13_Values_b0]
        exact M.i_f (by simp) M.i_pure
  · rw [if_neg h]
    have e := v_wrong (l := l) h
    rw [e.1, e.2]
    exact M.i_t (by simpa using h) M.i_pure
theorem refWithdrawn_ends (ws : List Work) (l : List Note) {p : List Pub} (hp : p.length ≤ 1000) : (m_nilometerref13_Withdrawn ws l p).Ends (withdrawnR ws l p, withdrawnE ws l p) := by
  unfold m_nilometerref13_Withdrawn
  refine M.i_bind (refValues_ends ws l) ?_
  by_cases h : valuesE ws l = 0
  · refine M.i_f (by simp [h]) ?_
    by_cases h2 : 200 < (p.length : Int)
    · have e := w_many h h2
      rw [w_err e (by decide), e]
      exact M.i_t (by simpa using h2) M.i_pure
    · refine M.i_f (by simpa using h2) ?_
      have s0 := M.i_scan (b := m_nilometerref13_Withdrawn_b0 ws p) p.length (fun i => !(inB (p.getD i default).work 0 ((ws.length : Int) - 1))) (fun i hi _ => ?_) (fun _ => ?_)
      · rw [any_range_all p default (fun n => inB n.work 0 ((ws.length : Int) - 1))] at s0
        refine M.i_bind s0 ?_
        cases ha : pubB ws p with
        | false =>
          have e := w_arg h h2 (by rw [ha]; rfl)
          rw [w_err e (by decide), e, show (p.all fun n => inB n.work 0 ((ws.length : Int) - 1)) = false from ha]
          exact M.i_pure
        | true =>
          rw [show (p.all fun n => inB n.work 0 ((ws.length : Int) - 1)) = true from ha]
          have e := w_ok (i := p.length) h h2 (by rw [ha]; rfl) (by omega) (Nat.le_refl _)
          rw [e.1, e.2]
          refine M.i_bind (a := (wdT (valuesR ws l) p p.length, wdT (valuesR ws l) p p.length)) ?_ M.i_pure
          have := M.i_for (body := m_nilometerref13_Withdrawn_b1 p (valuesR ws l)) (r := (wdT (valuesR ws l) p p.length, wdT (valuesR ws l) p p.length)) (fun i => (i, wdT (valuesR ws l) p i)) p.length (fun i hi => ?_) ?_
          · simpa [wdT] using this
          · have hw := pub_rng (ws := ws) (p := p) (by rw [ha]; rfl) (i := i) (by omega)
            have hl := valuesR_len h
            have hwl := wdT_len (valuesR ws l) p i
            simp only [m_nilometerref13_Withdrawn_b1]
            refine M.i_t (by simpa using hi) (M.grdD (by omega) (M.i_grd (gA2 hw.1 (by omega)) ?_))
            rw [wdT_next]
            cases hc : wdAt (valuesR ws l) (p.getD i default) with
            | true =>
              rw [if_pos rfl]
              exact M.i_t hc (M.grdD (by simp only [List.length_cons, List.length_nil]; omega) M.i_pure)
            | false =>
              rw [if_neg (by decide)]
              exact M.i_f hc M.i_pure
          · simp only [m_nilometerref13_Withdrawn_b1]
            exact M.i_f (by simp) M.i_pure
      · simp only [m_nilometerref13_Withdrawn_b0, outB_eq]
        refine M.i_t (by simpa using hi) (M.grdD (by omega) ?_)
        cases inB (p.getD i default).work 0 ((ws.length : Int) - 1) <;> exact M.i_pure
      · simp only [m_nilometerref13_Withdrawn_b0]
        exact M.i_f (by simp) M.i_pure
  · have e := w_wrong (p := p) h
    rw [w_err e h, e]
    exact M.i_t (by simpa using h) M.i_pure
theorem awake_ends : m_nilometerlaw13_awake.Ends true := ⟨40, by kernel_rfl⟩
theorem notesValues_ends (ws : List Work) (l : List Note) (p : List Pub) : (m_nilometerlaw13_NotesValues ws l p).Ends true := by
  unfold m_nilometerlaw13_NotesValues
  cases hb : (((!(littleB ws [])) || (decide (210 < (l.length : Int)))) || (decide (210 < (p.length : Int)))) with
  | true => exact M.i_t rfl (M.i_bind awake_ends M.i_pure)
  | false =>
    simp only [Bool.or_eq_false_iff, Bool.not_eq_false', decide_eq_false_iff_not] at hb
    obtain ⟨⟨h1, h2⟩, h3⟩ := hb
    unfold littleB at h1
    simp only [Bool.and_eq_true, decide_eq_true_eq, List.all_eq_true] at h1
    have hw : ws.length ≤ 1000 := by omega
    have ho : ∀ x ∈ ws, x.of.length ≤ 1000 := fun x hx => by have := h1.1.2 x hx; omega
    refine M.i_f rfl (M.i_bind (copyWorks_ends hw ho) (M.grdD (by omega) (M.grdD (by omega) (M.i_bind M.i_pure (M.i_bind (works_ends hw ho) (M.i_bind (refValues_ends ws l) ?_))))))
    refine M.i_f (by simp) (M.i_bind (pubs_ends (by omega)) (M.i_bind M.i_pure (M.i_bind (works_ends hw ho) (M.i_bind (refWithdrawn_ends ws l (by omega)) (M.i_bind M.i_pure ?_)))))
    refine M.i_bind (M.i_opt (fun _ => same_ends ws) (fun e => by simp at e)) (M.i_bind (M.i_opt (fun _ => awake_ends) (fun e => by simp at e)) ?_)
    have : (((((decide (withdrawnR ws l p = withdrawnR ws l p)) && (withdrawnE ws l p == withdrawnE ws l p)) && true) && (decide (l = l))) && (decide (p = p)) && true) = true := by simp
    rw [this]
    exact M.i_pure
end Go.Proofs.Ytndobgodeicloaa
