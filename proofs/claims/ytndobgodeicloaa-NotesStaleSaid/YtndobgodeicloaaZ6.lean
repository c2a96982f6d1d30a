/- Part 6 of the texts on which the proof rests. Conditions: none. -/
import Derived.Test.YtndobgodeicloaaZ5
set_option linter.unusedVariables false
set_option linter.unusedSimpArgs false
set_option linter.unusedSectionVars false
section
set_option maxRecDepth 100000
set_option maxHeartbeats 16000000
namespace Go.Proofs.Ytndobgodeicloaa
open Go Go.Nm
def m_nilometerref13_Stale_b2 (revised : List Int) (r3 : List (List Bool)) (i : Nat) : (Bool × Nat) → M ((Bool × Nat) ⊕ Bool) := fun (is, k) =>
  bif decide ((k : Int) < (revised.length : Int)) then (
  M.grd ((!(!is) || (decide ((k : Int) < (revised.length : Int))))) <|
  M.grd ((!(!is) || (decide ((0 : Int) ≤ (revised.getD k 0)) && decide ((revised.getD k 0) < (r3.length : Int))))) <|
  M.grd ((!(!is) || (decide ((i : Int) < ((r3.getD (Int.toNat (revised.getD k 0)) ([])).length : Int))))) <|
  M.pure (.inl ((is || ((r3.getD (Int.toNat (revised.getD k 0)) ([])).getD i false)), k + 1)))
  else (
  M.pure (.inr is))
def m_nilometerref13_Stale_b3 (w_ : List Work) (revised : List Int) (r3 : List (List Bool)) : (Nat × (List Int)) → M ((Nat × (List Int)) ⊕ ((List Int) × (List Int))) := fun (i, l) =>
  bif decide ((i : Int) < (w_.length : Int)) then (
  M.bind (M.iter (m_nilometerref13_Stale_b2 revised r3 i) (revised.contains (i : Int), 0)) fun is2 =>
  bif is2 then (
  M.grd (decide ((l.length + ([(i : Int)]).length) * 8 ≤ 140737488355328)) <|
  M.pure (.inl (i + 1, l ++ ([(i : Int)]))))
  else (
  M.pure (.inl (i + 1, l))))
  else (
  M.pure (.inr (l, l)))
def m_nilometerref13_Stale (w_ : List Work) (revised : List Int) : M ((List Int) × Int) :=
  M.bind (m_nilometerref13_Check w_) fun r2 =>
  bif r2 != 0 then (
  M.pure (([]), r2))
  else (
  bif (listedE w_.length revised) != 0 then (
  M.pure (([]), (listedE w_.length revised)))
  else (
  M.bind (m_nilometerref13_behind w_) fun r3 =>
  M.bind (M.iter (m_nilometerref13_Stale_b3 w_ revised r3) (0, [])) fun (l2, l3) =>
  M.pure (l3, 0)))
theorem nilometerref13_Stale_ok {R : List Chunk} {C_w_ : Cells} {v_w_ : Value} {C_revised : Cells} {v_revised : Value} (w_ : List Work) (revised : List Int) (hC_w_ : Reads R C_w_) (hs_w_ : Sl C_w_ v_w_ w_) (hC_revised : Reads R C_revised) (hs_revised : Sl C_revised v_revised revised) {r : ((List Int) × Int)} (hM : (m_nilometerref13_Stale w_ revised).Ends r) (w : World) (H : St w w [] R) : Ret Try.prog 33 #[v_w_, v_revised] w fun v w' => ∃ (y0 : List Int) (y1 : Int) (u0 : Value), (y0, y1) = r ∧ v = .tuple #[u0, I y1] ∧ St w w' [cOwn (α := Int) 3 u0 y0] R := by
 refine ret_of_W Try.func33 rfl rfl rfl ?_
 refine W.seq <| W.region rfl <| sA (.slice none 0 0) rfl <| sA (I 0) rfl <| s_nil <| W.seq <| W.seq <| W.region rfl <| sM v_w_ rfl ?_
 obtain ⟨r2z, hx1z, hM⟩ := M.e_bind hM
 refine s_call cf71 [v_w_] rfl (nilometerref13_Check_ok w_ (hC_w_.app _) hs_w_ hx1z _ (St.give (T := []) H rfl)) ?_
 rintro vq w3z ⟨r2, hr4z, hvq, H2_⟩
 subst hr4z
 subst vq
 try dsimp only at hM
 replace H : St w w3z [] R := H.back H2_ rfl
 clear H2_
 refine sA (I r2) rfl <| s_nil <| W.seq <| W.region rfl <| sM (I r2) rfl <| sC r2 0 (r2 != 0) rfl rfl rfl <| s_nil ?_
 refine W.cond (r2 != 0) rfl (fun c5z => ?_) (fun c5z => ?_)
 ·replace hM := M.e_t hM c5z
  simp only [q1, q2, q3, q4, q5, q6, ne_eq, q7] at c5z
  refine W.seq <| W.region rfl <| sM (I r2) rfl <| sA (.slice none 0 0) rfl <| sA (I r2) rfl <| s_nil ?_
  refine W.ret ?_
  have hr_ := M.e_pure hM
  replace H : St w w3z [cOwn (α := Int) 3 (.slice none 0 0) ([])] R := H.nilOwn (α := Int) 3
  exact ⟨_, resE_tmp2 rfl, ⟨([]), r2, (.slice none 0 0), hr_, rfl, H⟩⟩
 replace hM := M.e_f hM c5z
 simp only [q1, q2, q3, q4, q5, q6, ne_eq, q7] at c5z
 refine W.skip <| W.seq <| W.seq <| W.region rfl <| sM v_w_ rfl <| sM v_revised rfl ?_
 refine s_call cf93 [v_w_, v_revised] rfl (refListed _ (hs_w_.mono (hC_w_.at H)) (hs_revised.mono (hC_revised.at H))) ?_
 rintro _ w6z ⟨rfl, hx_⟩
 replace H : St w w6z [] R := H.ext hx_
 clear hx_
 refine sA (I (listedE w_.length revised)) rfl <| s_nil <| W.seq <| W.region rfl <| sM (I (listedE w_.length revised)) rfl <| sC (listedE w_.length revised) 0 ((listedE w_.length revised) != 0) rfl rfl rfl <| s_nil ?_
 refine W.cond ((listedE w_.length revised) != 0) rfl (fun c7z => ?_) (fun c7z => ?_)
 ·replace hM := M.e_t hM c7z
  simp only [q1, q2, q3, q4, q5, q6, ne_eq, q7] at c7z
  refine W.seq <| W.region rfl <| sM (I (listedE w_.length revised)) rfl <| sA (.slice none 0 0) rfl <| sA (I (listedE w_.length revised)) rfl <| s_nil ?_
  refine W.ret ?_
  have hr_ := M.e_pure hM
  replace H : St w w6z [cOwn (α := Int) 3 (.slice none 0 0) ([])] R := H.nilOwn (α := Int) 3
  exact ⟨_, resE_tmp2 rfl, ⟨([]), (listedE w_.length revised), (.slice none 0 0), hr_, rfl, H⟩⟩
 replace hM := M.e_f hM c7z
 simp only [q1, q2, q3, q4, q5, q6, ne_eq, q7] at c7z
 refine W.skip <| W.seq <| W.region rfl <| sM v_w_ rfl ?_
 obtain ⟨r9z, hx8z, hM⟩ := M.e_bind hM
 refine s_call cf94 [v_w_] rfl (nilometerref13_behind_ok w_ (hC_w_.app _) hs_w_ hx8z _ (St.give (T := []) H rfl)) ?_
 rintro vq w10z ⟨r3, u0_1, Bs1_2, hr11z, hvq, H2_, hf12z⟩
 subst hr11z
 subst vq
 try dsimp only at hM
 replace H : St w w10z [cRo Bs1_2] R := H.back H2_ rfl
 clear H2_
 refine sA u0_1 rfl <| s_nil <| W.seq <| W.region rfl <| sA (.slice none 0 0) rfl <| s_nil <| W.seq <| W.seq <| W.region rfl <| sA (I 0) rfl <| s_nil <| W.block ?_
 replace H : St w w10z [cOwn (α := Int) 3 (.slice none 0 0) ([]), cRo Bs1_2] R := H.nilOwn (α := Int) 3
 obtain ⟨ex13z, hi14z, hk15z⟩ := M.e_bind hM
 obtain ⟨m0_, hi14z⟩ := M.e_iter hi14z
 refine W.loop (fun m σ W => ∃ (i : Nat) (l : List Int) (v_l : Value) (ρ : Env), σ = upds ρ [(0, v_w_), (1, v_revised), (8, u0_1), (9, v_l), (10, I (i : Int))] ∧ M.iterN (m_nilometerref13_Stale_b3 w_ revised r3) m (i, l) = some ex13z ∧ St w W [cOwn (α := Int) 3 v_l l, cRo Bs1_2] R) ?_ ?_
 ·exact ⟨_, 0, [], (.slice none 0 0), _, upds_of _ _ ⟨rfl, rfl, rfl, rfl, rfl, trivial⟩, hi14z, H⟩
 rintro m18z σ w16z ⟨i, l, v_l, ρ, rfl, hI17z, H⟩
 obtain ⟨m19z, lt20z, x21z, hM, hN22z⟩ := M.e_iterN hI17z
 simp only [m_nilometerref13_Stale_b3] at hM
 clear hI17z
 refine W.seq <| W.seq <| W.region rfl <| sM (I (i : Int)) rfl <| sM v_w_ rfl ?_
 have hl23z := (hs_w_).len_le
 refine s_val (x_lenS T39.und rfl hs_w_) <| sC (i : Int) (w_.length : Int) (decide ((i : Int) < (w_.length : Int))) rfl rfl rfl <| s_nil ?_
 refine W.cond (decide ((i : Int) < (w_.length : Int))) rfl (fun c24z => ?_) (fun c24z => ?_)
 ·replace hM := M.e_t hM c24z
  simp only [q1, q2, q3, q4, q5, q6, ne_eq, q7] at c24z
  refine W.skip <| W.seq <| W.block <| W.seq <| W.region rfl <| sM v_revised rfl <| sM (I (i : Int)) rfl ?_
  refine s_call cf95 [v_revised, I (i : Int)] rfl (has_any (i : Int) _ (hs_revised.mono (hC_revised.at H))) ?_
  rintro _ w25z ⟨rfl, hx_⟩
  replace H : St w w25z [cOwn (α := Int) 3 v_l l, cRo Bs1_2] R := H.ext hx_
  clear hx_
  refine sA (B (revised.contains (i : Int))) rfl <| s_nil <| W.seq <| W.seq <| W.region rfl <| sA (I 0) rfl <| s_nil <| W.block ?_
  obtain ⟨ex26z, hi27z, hk28z⟩ := M.e_bind hM
  obtain ⟨m0_, hi27z⟩ := M.e_iter hi27z
  refine W.loop (fun m σ W => ∃ (is : Bool) (k : Nat) (ρ : Env), σ = upds ρ [(0, v_w_), (1, v_revised), (8, u0_1), (9, v_l), (10, I (i : Int)), (11, B is), (12, I (k : Int))] ∧ M.iterN (m_nilometerref13_Stale_b2 revised r3 i) m (is, k) = some ex26z ∧ St w W [cOwn (α := Int) 3 v_l l, cRo Bs1_2] R) ?_ ?_
  ·exact ⟨_, revised.contains (i : Int), 0, _, upds_of _ _ ⟨rfl, rfl, rfl, rfl, rfl, rfl, rfl, trivial⟩, hi27z, H⟩
  rintro m31z σ w29z ⟨is, k, ρ, rfl, hI30z, H⟩
  obtain ⟨m32z, lt33z, x34z, hM, hN35z⟩ := M.e_iterN hI30z
  simp only [m_nilometerref13_Stale_b2] at hM
  clear hI30z
  refine W.seq <| W.seq <| W.region rfl <| sM (I (k : Int)) rfl <| sM v_revised rfl ?_
  have hl36z := (hs_revised).len_le
  refine s_val (x_lenS T34.und rfl hs_revised) <| sC (k : Int) (revised.length : Int) (decide ((k : Int) < (revised.length : Int))) rfl rfl rfl <| s_nil ?_
  refine W.cond (decide ((k : Int) < (revised.length : Int))) rfl (fun c37z => ?_) (fun c37z => ?_)
  ·replace hM := M.e_t hM c37z
   simp only [q1, q2, q3, q4, q5, q6, ne_eq, q7] at c37z
   refine W.skip <| W.seq <| W.block <| W.region rfl <| sM (B is) rfl <| sM (B is) rfl <| g_val (!is) (gy_f rfl) (fun hg => x_mv (v := u0_1) rfl) <| g_val (!is) (gy_f rfl) (fun hg => x_mv (v := v_revised) rfl) <| g_val (!is) (gy_f rfl) (fun hg => x_mv (v := I (k : Int)) rfl) ?_
   obtain ⟨sd38z, hM⟩ := M.e_grd hM
   replace sd38z := M.imp_of sd38z
   simp only [Bool.and_eq_true, decide_eq_true_eq] at sd38z
   refine g_val (!is) (gy_f rfl) (fun hg => x_ix (a := v_revised) (b := I (k : Int)) (v := vat v_revised 1 (Int.toNat (k : Int))) (gd_of (c := !is) hg (v_revised)) (gd_of (c := !is) hg (I (k : Int))) (Sl.ix (α := Int) T34.und T34.size hs_revised (by have h1_ := sd38z.resolve_left (by rw [hg]; decide); first | omega | (have hx_ := hg; simp at hx_; omega)) (by have h1_ := sd38z.resolve_left (by rw [hg]; decide); first | omega | (have hx_ := hg; simp at hx_; omega)))) <| g_val (!is) (gy_f rfl) (fun hg => x_ld (p := vat v_revised 1 (Int.toNat (k : Int))) (v := I (revised.getD k 0)) (gd_of (c := !is) hg (vat v_revised 1 (Int.toNat (k : Int)))) (ld_sc Sc3 (At.mono (Int_at hs_revised (i := (k : Int)) (by have h1_ := sd38z.resolve_left (by rw [hg]; decide); first | omega | (have hx_ := hg; simp at hx_; omega)) (by have h1_ := sd38z.resolve_left (by rw [hg]; decide); first | omega | (have hx_ := hg; simp at hx_; omega))) (hC_revised.at H)))) ?_
   obtain ⟨sd39z, hM⟩ := M.e_grd hM
   replace sd39z := M.imp_of sd39z
   simp only [Bool.and_eq_true, decide_eq_true_eq] at sd39z
   refine g_val (!is) (gy_f rfl) (fun hg => x_ix (a := u0_1) (b := I (revised.getD k 0)) (v := vat u0_1 1 (Int.toNat (revised.getD k 0))) (gd_of (c := !is) hg (u0_1)) (gd_of (c := !is) hg (I (revised.getD k 0))) (Sl.ix (α := List Bool) T145.und T145.size hf12z (by have h1_ := sd38z.resolve_left (by rw [hg]; decide); have h2_ := sd39z.resolve_left (by rw [hg]; decide); first | omega | (have hx_ := hg; simp at hx_; omega)) (by have h1_ := sd38z.resolve_left (by rw [hg]; decide); have h2_ := sd39z.resolve_left (by rw [hg]; decide); first | omega | (have hx_ := hg; simp at hx_; omega)))) ?_
   obtain ⟨u40z, ha_u40z, hs41z⟩ := gd_ex (c := !is) fun hg => List_at hf12z (i := revised.getD k 0) (by have h1_ := sd38z.resolve_left (by rw [hg]; decide); have h2_ := sd39z.resolve_left (by rw [hg]; decide); first | omega | (have hx_ := hg; simp at hx_; omega)) (by have h1_ := sd38z.resolve_left (by rw [hg]; decide); have h2_ := sd39z.resolve_left (by rw [hg]; decide); first | omega | (have hx_ := hg; simp at hx_; omega))
   replace hs41z : (!is) = true → Sl _ u40z (r3.getD (Int.toNat (revised.getD k 0)) ([])) := hs41z
   refine g_val (!is) (gy_f rfl) (fun hg => x_ld (p := vat u0_1 1 (Int.toNat (revised.getD k 0))) (v := u40z) (gd_of (c := !is) hg (vat u0_1 1 (Int.toNat (revised.getD k 0)))) (ld_sc Sc147 (At.mono (ha_u40z hg) (roLe _ (H.get (k := 1) rfl))))) <| g_val (!is) (gy_f rfl) (fun hg => x_mv (v := I (i : Int)) rfl) ?_
   obtain ⟨sd42z, hM⟩ := M.e_grd hM
   replace sd42z := M.imp_of sd42z
   simp only [Bool.and_eq_true, decide_eq_true_eq] at sd42z
   refine g_val (!is) (gy_f rfl) (fun hg => x_ix (a := u40z) (b := I (i : Int)) (v := vat u40z 1 (Int.toNat (i : Int))) (gd_of (c := !is) hg (u40z)) (gd_of (c := !is) hg (I (i : Int))) (Sl.ix (α := Bool) T147.und T147.size (hs41z hg) (by have h1_ := sd38z.resolve_left (by rw [hg]; decide); have h2_ := sd39z.resolve_left (by rw [hg]; decide); have h3_ := sd42z.resolve_left (by rw [hg]; decide); first | omega | (have hx_ := hg; simp at hx_; omega)) (by have h1_ := sd38z.resolve_left (by rw [hg]; decide); have h2_ := sd39z.resolve_left (by rw [hg]; decide); have h3_ := sd42z.resolve_left (by rw [hg]; decide); first | omega | (have hx_ := hg; simp at hx_; omega)))) <| g_val (!is) (gy_f rfl) (fun hg => x_ld (p := vat u40z 1 (Int.toNat (i : Int))) (v := B ((r3.getD (Int.toNat (revised.getD k 0)) ([])).getD i false)) (gd_of (c := !is) hg (vat u40z 1 (Int.toNat (i : Int)))) (ld_sc Sc4 (At.mono (Bool_at (hs41z hg) (i := (i : Int)) (by have h1_ := sd38z.resolve_left (by rw [hg]; decide); have h2_ := sd39z.resolve_left (by rw [hg]; decide); have h3_ := sd42z.resolve_left (by rw [hg]; decide); first | omega | (have hx_ := hg; simp at hx_; omega)) (by have h1_ := sd38z.resolve_left (by rw [hg]; decide); have h2_ := sd39z.resolve_left (by rw [hg]; decide); have h3_ := sd42z.resolve_left (by rw [hg]; decide); first | omega | (have hx_ := hg; simp at hx_; omega))) (roLe _ (H.get (k := 1) rfl))))) <| s_val (x_por (b := is) (r := (r3.getD (Int.toNat (revised.getD k 0)) ([])).getD i false) rfl rfl (fun hb => gd_of (c := !is) (by simp_all) (B ((r3.getD (Int.toNat (revised.getD k 0)) ([])).getD i false)))) <| sA (B (is || ((r3.getD (Int.toNat (revised.getD k 0)) ([])).getD i false))) rfl <| s_nil <| W.region rfl <| sM (I (k : Int)) rfl <| s_val (x_ari (a := (k : Int)) (b := 1) (r := (k : Int) + 1) rfl rfl rfl (by omega)) <| sA (I ((k : Int) + 1)) rfl <| s_nil ?_
   exact ⟨m32z, lt33z, (is || ((r3.getD (Int.toNat (revised.getD k 0)) ([])).getD i false)), k + 1, _, upds_of _ _ ⟨rfl, rfl, rfl, rfl, rfl, rfl, rfl, trivial⟩, M.e_inl hM hN35z, H⟩
  replace hM := M.e_f hM c37z
  simp only [q1, q2, q3, q4, q5, q6, ne_eq, q7] at c37z
  refine W.exit ?_
  have hX43z := M.e_inr hM hN35z
  subst hX43z
  replace hM := hk28z
  try dsimp only at hM
  refine W.seq <| W.region rfl <| sM (B is) rfl <| s_nil ?_
  refine W.cond is rfl (fun c44z => ?_) (fun c44z => ?_)
  ·replace hM := M.e_t hM c44z
   refine W.region rfl <| sM v_l rfl <| sM (I (i : Int)) rfl ?_
   refine t_bs (α := Int) T34 [I (i : Int)] [(i : Int)] H rfl (.cons rfl (Flat.rep_enc _ (i : Int)) <| .nil) rfl rfl rfl ?_
   intro v45z w46z H
   obtain ⟨sd47z, hM⟩ := M.e_grd hM
   simp only [Bool.and_eq_true, decide_eq_true_eq] at sd47z
   refine t_app (α := Int) (k := 1) (l := l) (l2 := [(i : Int)]) (l' := l ++ ([(i : Int)])) (vy := v45z) T34 rfl H rfl rfl rfl (ownSl (H.get (k := 0) rfl)) (ownLe _ (H.get (k := 0) rfl)) (rfl) (by first | omega | (simp only [List.length_nil] at *; omega)) ?_
   intro v48z w49z H
   replace H : St w w49z [cOwn (α := Int) 3 v45z ([(i : Int)]), cOwn (α := Int) 3 v48z (l ++ ([(i : Int)])), cRo Bs1_2] R := H
   refine sA v48z rfl <| s_nil <| W.region rfl <| sM (I (i : Int)) rfl <| s_val (x_ari (a := (i : Int)) (b := 1) (r := (i : Int) + 1) rfl rfl rfl (by omega)) <| sA (I ((i : Int) + 1)) rfl <| s_nil ?_
   exact ⟨m19z, lt20z, i + 1, l ++ ([(i : Int)]), v48z, _, upds_of _ _ ⟨rfl, rfl, rfl, rfl, rfl, trivial⟩, M.e_inl hM hN22z, (H.pick [1, 2] (by decide) rfl)⟩
  replace hM := M.e_f hM c44z
  refine W.skip <| W.region rfl <| sM (I (i : Int)) rfl <| s_val (x_ari (a := (i : Int)) (b := 1) (r := (i : Int) + 1) rfl rfl rfl (by omega)) <| sA (I ((i : Int) + 1)) rfl <| s_nil ?_
  exact ⟨m19z, lt20z, i + 1, l, v_l, _, upds_of _ _ ⟨rfl, rfl, rfl, rfl, rfl, trivial⟩, M.e_inl hM hN22z, H⟩
 replace hM := M.e_f hM c24z
 simp only [q1, q2, q3, q4, q5, q6, ne_eq, q7] at c24z
 refine W.exit ?_
 have hX50z := M.e_inr hM hN22z
 subst hX50z
 replace hM := hk15z
 try dsimp only at hM
 refine W.seq <| W.region rfl <| sM v_l rfl <| sA v_l rfl <| sA (I 0) rfl <| s_nil ?_
 refine W.ret ?_
 have hr_ := M.e_pure hM
 exact ⟨_, resE_tmp2 rfl, ⟨l, 0, v_l, hr_, rfl, (H.pick [0] (by decide) rfl)⟩⟩

def m_nilometerref13_Fences_b0 (revised : List Int) (fence : List Int) : Nat → M (Nat ⊕ (Unit ⊕ Unit)) := fun k =>
  bif decide ((k : Int) < (revised.length : Int)) then (
  M.grd (decide ((k : Int) < (revised.length : Int))) <|
  bif !(fence.contains (revised.getD k 0)) then (
  M.pure (.inr (.inl ())))
  else (
  M.pure (.inl (k + 1))))
  else (
  M.pure (.inr (.inr ())))
def m_nilometerref13_Fences_b2 (w_ : List Work) (fence : List Int) (i : Nat) : Nat → M (Nat ⊕ (Unit ⊕ Unit)) := fun k2 =>
  M.grd (decide ((i : Int) < (w_.length : Int))) <|
  bif decide ((k2 : Int) < (((w_.getD i default).of).length : Int)) then (
  M.grd (decide ((k2 : Int) < (((w_.getD i default).of).length : Int))) <|
  bif ((fence.contains (((w_.getD i default).of).getD k2 0)) && (!(fence.contains (i : Int)))) then (
  M.pure (.inr (.inl ())))
  else (
  M.pure (.inl (k2 + 1))))
  else (
  M.pure (.inr (.inr ())))
def m_nilometerref13_Fences_b3 (w_ : List Work) (fence : List Int) : Nat → M (Nat ⊕ (Unit ⊕ Unit)) := fun i =>
  bif decide ((i : Int) < (w_.length : Int)) then (
  M.bind (M.iter (m_nilometerref13_Fences_b2 w_ fence i) 0) fun x_ => match x_ with
  | (.inl (_ : Unit)) => (
  M.pure (.inr (.inl ())))
  | (.inr (_ : Unit)) => (
  M.pure (.inl (i + 1))))
  else (
  M.pure (.inr (.inr ())))
def m_nilometerref13_Fences (w_ : List Work) (revised : List Int) (fence : List Int) : M (Bool × Int) :=
  M.bind (m_nilometerref13_Stale w_ revised) fun (r0, r1) =>
  bif r1 != 0 then (
  M.pure (false, r1))
  else (
  bif (listedE w_.length fence) != 0 then (
  M.pure (false, (listedE w_.length fence)))
  else (
  M.bind (M.iter (m_nilometerref13_Fences_b0 revised fence) 0) fun x_ => match x_ with
  | (.inl (_ : Unit)) => (
  M.pure (false, 0))
  | (.inr (_ : Unit)) => (
  M.bind (M.iter (m_nilometerref13_Fences_b3 w_ fence) 0) fun x_ => match x_ with
  | (.inl (_ : Unit)) => (
  M.pure (false, 0))
  | (.inr (_ : Unit)) => (
  M.pure (true, 0)))))
theorem nilometerref13_Fences_ok {R : List Chunk} {C_w_ : Cells} {v_w_ : Value} {C_revised : Cells} {v_revised : Value} {C_fence : Cells} {v_fence : Value} (w_ : List Work) (revised : List Int) (fence : List Int) (hC_w_ : Reads R C_w_) (hs_w_ : Sl C_w_ v_w_ w_) (hC_revised : Reads R C_revised) (hs_revised : Sl C_revised v_revised revised) (hC_fence : Reads R C_fence) (hs_fence : Sl C_fence v_fence fence) {r : (Bool × Int)} (hM : (m_nilometerref13_Fences w_ revised fence).Ends r) (w : World) (H : St w w [] R) : Ret Try.prog 35 #[v_w_, v_revised, v_fence] w fun v w' => ∃ (y0 : Bool) (y1 : Int), (y0, y1) = r ∧ v = .tuple #[B y0, I y1] ∧ St w w' [] R := by
 refine ret_of_W Try.func35 rfl rfl rfl ?_
 refine W.seq <| W.region rfl <| sA (B false) rfl <| sA (I 0) rfl <| s_nil <| W.seq <| W.seq <| W.region rfl <| sM v_w_ rfl <| sM v_revised rfl ?_
 obtain ⟨r2z, hx1z, hM⟩ := M.e_bind hM
 refine s_call cf33 [v_w_, v_revised] rfl (nilometerref13_Stale_ok w_ revised (hC_w_.app _) hs_w_ (hC_revised.app _) hs_revised hx1z _ (St.give (T := []) H rfl)) ?_
 rintro vq w3z ⟨r0, r1, u0_1, hr4z, hvq, H2_⟩
 subst hr4z
 subst vq
 try dsimp only at hM
 replace H : St w w3z [cOwn (α := Int) 3 u0_1 r0] R := H.back H2_ rfl
 clear H2_
 refine sM (.tuple #[u0_1, I r1]) rfl <| s_val (x_ext (vs := [u0_1, I r1]) (v := u0_1) rfl rfl) <| s_val (x_ext (vs := [u0_1, I r1]) (v := I r1) rfl rfl) <| sA u0_1 rfl <| sA (I r1) rfl <| s_nil <| W.seq <| W.region rfl <| sM (I r1) rfl <| sC r1 0 (r1 != 0) rfl rfl rfl <| s_nil ?_
 refine W.cond (r1 != 0) rfl (fun c5z => ?_) (fun c5z => ?_)
 ·replace hM := M.e_t hM c5z
  simp only [q1, q2, q3, q4, q5, q6, ne_eq, q7] at c5z
  refine W.seq <| W.region rfl <| sM (I r1) rfl <| sA (B false) rfl <| sA (I r1) rfl <| s_nil ?_
  refine W.ret ?_
  have hr_ := M.e_pure hM
  exact ⟨_, resE_tmp2 rfl, ⟨false, r1, hr_, rfl, (H.pick [] (by decide) rfl)⟩⟩
 replace hM := M.e_f hM c5z
 simp only [q1, q2, q3, q4, q5, q6, ne_eq, q7] at c5z
 refine W.skip <| W.seq <| W.seq <| W.region rfl <| sM v_w_ rfl <| sM v_fence rfl ?_
 refine s_call cf93 [v_w_, v_fence] rfl (refListed _ (hs_w_.mono (hC_w_.at H)) (hs_fence.mono (hC_fence.at H))) ?_
 rintro _ w6z ⟨rfl, hx_⟩
 replace H : St w w6z [cOwn (α := Int) 3 u0_1 r0] R := H.ext hx_
 clear hx_
 refine sA (I (listedE w_.length fence)) rfl <| s_nil <| W.seq <| W.region rfl <| sM (I (listedE w_.length fence)) rfl <| sC (listedE w_.length fence) 0 ((listedE w_.length fence) != 0) rfl rfl rfl <| s_nil ?_
 refine W.cond ((listedE w_.length fence) != 0) rfl (fun c7z => ?_) (fun c7z => ?_)
 ·replace hM := M.e_t hM c7z
  simp only [q1, q2, q3, q4, q5, q6, ne_eq, q7] at c7z
  refine W.seq <| W.region rfl <| sM (I (listedE w_.length fence)) rfl <| sA (B false) rfl <| sA (I (listedE w_.length fence)) rfl <| s_nil ?_
  refine W.ret ?_
  have hr_ := M.e_pure hM
  exact ⟨_, resE_tmp2 rfl, ⟨false, (listedE w_.length fence), hr_, rfl, (H.pick [] (by decide) rfl)⟩⟩
 replace hM := M.e_f hM c7z
 simp only [q1, q2, q3, q4, q5, q6, ne_eq, q7] at c7z
 refine W.skip <| W.seq <| W.seq <| W.region rfl <| sA (I 0) rfl <| s_nil <| W.block ?_
 obtain ⟨ex8z, hi9z, hk10z⟩ := M.e_bind hM
 obtain ⟨m0_, hi9z⟩ := M.e_iter hi9z
 refine W.loop (fun m σ W => ∃ (k : Nat) (ρ : Env), σ = upds ρ [(0, v_w_), (1, v_revised), (2, v_fence), (11, I (k : Int))] ∧ M.iterN (m_nilometerref13_Fences_b0 revised fence) m k = some ex8z ∧ St w W [cOwn (α := Int) 3 u0_1 r0] R) ?_ ?_
 ·exact ⟨_, 0, _, upds_of _ _ ⟨rfl, rfl, rfl, rfl, trivial⟩, hi9z, H⟩
 rintro m13z σ w11z ⟨k, ρ, rfl, hI12z, H⟩
 obtain ⟨m14z, lt15z, x16z, hM, hN17z⟩ := M.e_iterN hI12z
 simp only [m_nilometerref13_Fences_b0] at hM
 clear hI12z
 refine W.seq <| W.seq <| W.region rfl <| sM (I (k : Int)) rfl <| sM v_revised rfl ?_
 have hl18z := (hs_revised).len_le
 refine s_val (x_lenS T34.und rfl hs_revised) <| sC (k : Int) (revised.length : Int) (decide ((k : Int) < (revised.length : Int))) rfl rfl rfl <| s_nil ?_
 refine W.cond (decide ((k : Int) < (revised.length : Int))) rfl (fun c19z => ?_) (fun c19z => ?_)
 ·replace hM := M.e_t hM c19z
  simp only [q1, q2, q3, q4, q5, q6, ne_eq, q7] at c19z
  refine W.skip <| W.seq <| W.block <| W.seq <| W.region rfl <| sM v_fence rfl <| sM v_revised rfl <| sM (I (k : Int)) rfl ?_
  obtain ⟨sd20z, hM⟩ := M.e_grd hM
  simp only [Bool.and_eq_true, decide_eq_true_eq] at sd20z
  refine s_val (x_ix (a := v_revised) (b := I (k : Int)) (v := vat v_revised 1 (Int.toNat (k : Int))) rfl rfl (Sl.ix (α := Int) T34.und T34.size hs_revised (by omega) (by omega))) <| s_val (x_ld (p := vat v_revised 1 (Int.toNat (k : Int))) (v := I (revised.getD k 0)) rfl (ld_sc Sc3 (At.mono (Int_at hs_revised (i := (k : Int)) (by omega) (by omega)) (hC_revised.at H)))) ?_
  refine s_call cf95 [v_fence, I (revised.getD k 0)] rfl (has_any (revised.getD k 0) _ (hs_fence.mono (hC_fence.at H))) ?_
  rintro _ w21z ⟨rfl, hx_⟩
  replace H : St w w21z [cOwn (α := Int) 3 u0_1 r0] R := H.ext hx_
  clear hx_
  refine s_val (x_not (b := fence.contains (revised.getD k 0)) rfl) <| s_nil ?_
  refine W.cond (!(fence.contains (revised.getD k 0))) rfl (fun c22z => ?_) (fun c22z => ?_)
  ·replace hM := M.e_t hM c22z
   refine W.seq <| W.region rfl <| sA (B false) rfl <| sA (I 0) rfl <| s_nil ?_
   refine W.ret ?_
   have hX23z := M.e_inr hM hN17z
   subst hX23z
   replace hM := hk10z
   try dsimp only at hM
   have hr_ := M.e_pure hM
   exact ⟨_, resE_tmp2 rfl, ⟨false, 0, hr_, rfl, (H.pick [] (by decide) rfl)⟩⟩
  replace hM := M.e_f hM c22z
  refine W.skip <| W.region rfl <| sM (I (k : Int)) rfl <| s_val (x_ari (a := (k : Int)) (b := 1) (r := (k : Int) + 1) rfl rfl rfl (by omega)) <| sA (I ((k : Int) + 1)) rfl <| s_nil ?_
  exact ⟨m14z, lt15z, k + 1, _, upds_of _ _ ⟨rfl, rfl, rfl, rfl, trivial⟩, M.e_inl hM hN17z, H⟩
 replace hM := M.e_f hM c19z
 simp only [q1, q2, q3, q4, q5, q6, ne_eq, q7] at c19z
 refine W.exit ?_
 have hX24z := M.e_inr hM hN17z
 subst hX24z
 replace hM := hk10z
 try dsimp only at hM
 refine W.seq <| W.seq <| W.region rfl <| sA (I 0) rfl <| s_nil <| W.block ?_
 obtain ⟨ex25z, hi26z, hk27z⟩ := M.e_bind hM
 obtain ⟨m0_, hi26z⟩ := M.e_iter hi26z
 refine W.loop (fun m σ W => ∃ (i : Nat) (ρ : Env), σ = upds ρ [(0, v_w_), (2, v_fence), (12, I (i : Int))] ∧ M.iterN (m_nilometerref13_Fences_b3 w_ fence) m i = some ex25z ∧ St w W [cOwn (α := Int) 3 u0_1 r0] R) ?_ ?_
 ·exact ⟨_, 0, _, upds_of _ _ ⟨rfl, rfl, rfl, trivial⟩, hi26z, H⟩
 rintro m30z σ w28z ⟨i, ρ, rfl, hI29z, H⟩
 obtain ⟨m31z, lt32z, x33z, hM, hN34z⟩ := M.e_iterN hI29z
 simp only [m_nilometerref13_Fences_b3] at hM
 clear hI29z
 refine W.seq <| W.seq <| W.region rfl <| sM (I (i : Int)) rfl <| sM v_w_ rfl ?_
 have hl35z := (hs_w_).len_le
 refine s_val (x_lenS T39.und rfl hs_w_) <| sC (i : Int) (w_.length : Int) (decide ((i : Int) < (w_.length : Int))) rfl rfl rfl <| s_nil ?_
 refine W.cond (decide ((i : Int) < (w_.length : Int))) rfl (fun c36z => ?_) (fun c36z => ?_)
 ·replace hM := M.e_t hM c36z
  simp only [q1, q2, q3, q4, q5, q6, ne_eq, q7] at c36z
  refine W.skip <| W.seq <| W.block <| W.seq <| W.region rfl <| sA (I 0) rfl <| s_nil <| W.block ?_
  obtain ⟨ex37z, hi38z, hk39z⟩ := M.e_bind hM
  obtain ⟨m0_, hi38z⟩ := M.e_iter hi38z
  refine W.loop (fun m σ W => ∃ (k2 : Nat) (ρ : Env), σ = upds ρ [(0, v_w_), (2, v_fence), (12, I (i : Int)), (13, I (k2 : Int))] ∧ M.iterN (m_nilometerref13_Fences_b2 w_ fence i) m k2 = some ex37z ∧ St w W [cOwn (α := Int) 3 u0_1 r0] R) ?_ ?_
  ·exact ⟨_, 0, _, upds_of _ _ ⟨rfl, rfl, rfl, rfl, trivial⟩, hi38z, H⟩
  rintro m42z σ w40z ⟨k2, ρ, rfl, hI41z, H⟩
  obtain ⟨m43z, lt44z, x45z, hM, hN46z⟩ := M.e_iterN hI41z
  simp only [m_nilometerref13_Fences_b2] at hM
  clear hI41z
  refine W.seq <| W.seq <| W.region rfl <| sM (I (k2 : Int)) rfl <| sM v_w_ rfl <| sM (I (i : Int)) rfl ?_
  obtain ⟨sd47z, hM⟩ := M.e_grd hM
  simp only [Bool.and_eq_true, decide_eq_true_eq] at sd47z
  refine s_val (x_ix (a := v_w_) (b := I (i : Int)) (v := vat v_w_ 3 (Int.toNat (i : Int))) rfl rfl (Sl.ix (α := Work) T39.und T39.size hs_w_ (by omega) (by omega))) <| s_val (x_fa (a := vat v_w_ 3 (Int.toNat (i : Int))) (v := fat (vat v_w_ 3 (Int.toNat (i : Int))) 0) rfl (fa_pl Fd138_0 Sz34 (Sl.pl (i := (i : Int)) hs_w_ (by omega) (by omega)))) ?_
  obtain ⟨u48z, ha_u48z, hs49z⟩ := Work_at0 hs_w_ (i := (i : Int)) (by omega) (by omega)
  replace hs49z : Sl _ u48z (w_.getD i default).of := hs49z
  have hl_hs49z := hs49z.len_le
  refine s_val (x_ld (p := fat (vat v_w_ 3 (Int.toNat (i : Int))) 0) (v := u48z) rfl (ld_sc Sc34 (At.mono (ha_u48z) (hC_w_.at H)))) ?_
  have hl50z := (hs49z).len_le
  refine s_val (x_lenS T34.und rfl hs49z) <| sC (k2 : Int) (((w_.getD i default).of).length : Int) (decide ((k2 : Int) < (((w_.getD i default).of).length : Int))) rfl rfl rfl <| s_nil ?_
  refine W.cond (decide ((k2 : Int) < (((w_.getD i default).of).length : Int))) rfl (fun c51z => ?_) (fun c51z => ?_)
  ·replace hM := M.e_t hM c51z
   simp only [q1, q2, q3, q4, q5, q6, ne_eq, q7] at c51z
   refine W.skip <| W.seq <| W.block <| W.seq <| W.region rfl <| sM v_fence rfl <| sM v_w_ rfl <| sM (I (i : Int)) rfl <| s_val (x_ix (a := v_w_) (b := I (i : Int)) (v := vat v_w_ 3 (Int.toNat (i : Int))) rfl rfl (Sl.ix (α := Work) T39.und T39.size hs_w_ (by omega) (by omega))) <| s_val (x_fa (a := vat v_w_ 3 (Int.toNat (i : Int))) (v := fat (vat v_w_ 3 (Int.toNat (i : Int))) 0) rfl (fa_pl Fd138_0 Sz34 (Sl.pl (i := (i : Int)) hs_w_ (by omega) (by omega)))) ?_
   obtain ⟨u52z, ha_u52z, hs53z⟩ := Work_at0 hs_w_ (i := (i : Int)) (by omega) (by omega)
   replace hs53z : Sl _ u52z (w_.getD i default).of := hs53z
   have hl_hs53z := hs53z.len_le
   refine s_val (x_ld (p := fat (vat v_w_ 3 (Int.toNat (i : Int))) 0) (v := u52z) rfl (ld_sc Sc34 (At.mono (ha_u52z) (hC_w_.at H)))) <| sM (I (k2 : Int)) rfl ?_
   obtain ⟨sd54z, hM⟩ := M.e_grd hM
   simp only [Bool.and_eq_true, decide_eq_true_eq] at sd54z
   refine s_val (x_ix (a := u52z) (b := I (k2 : Int)) (v := vat u52z 1 (Int.toNat (k2 : Int))) rfl rfl (Sl.ix (α := Int) T34.und T34.size hs53z (by omega) (by omega))) <| s_val (x_ld (p := vat u52z 1 (Int.toNat (k2 : Int))) (v := I (((w_.getD i default).of).getD k2 0)) rfl (ld_sc Sc3 (At.mono (Int_at hs53z (i := (k2 : Int)) (by omega) (by omega)) (hC_w_.at H)))) ?_
   refine s_call cf95 [v_fence, I (((w_.getD i default).of).getD k2 0)] rfl (has_any (((w_.getD i default).of).getD k2 0) _ (hs_fence.mono (hC_fence.at H))) ?_
   rintro _ w55z ⟨rfl, hx_⟩
   replace H : St w w55z [cOwn (α := Int) 3 u0_1 r0] R := H.ext hx_
   clear hx_
   refine sM (B (fence.contains (((w_.getD i default).of).getD k2 0))) rfl <| g_val (fence.contains (((w_.getD i default).of).getD k2 0)) (gy_t rfl) (fun hg => x_mv (v := v_fence) rfl) <| g_val (fence.contains (((w_.getD i default).of).getD k2 0)) (gy_t rfl) (fun hg => x_mv (v := I (i : Int)) rfl) ?_
   refine t_gcall (fence.contains (((w_.getD i default).of).getD k2 0)) (gy_t rfl) cf95 (B (fence.contains (i : Int))) (fun _ => [v_fence, I (i : Int)]) (fun hg => lst2 (gd_of (c := fence.contains (((w_.getD i default).of).getD k2 0)) hg (v_fence)) (gd_of (c := fence.contains (((w_.getD i default).of).getD k2 0)) hg (I (i : Int)))) H (fun hg => Ret.mono (has_any (i : Int) _ (hs_fence.mono (hC_fence.at H))) fun v_ w_ ⟨hv_, hx_⟩ => ⟨hv_, H.ext hx_⟩) ?_
   intro w56z H
   refine g_val (fence.contains (((w_.getD i default).of).getD k2 0)) (gy_t rfl) (fun hg => x_not (b := fence.contains (i : Int)) (gd_of (c := fence.contains (((w_.getD i default).of).getD k2 0)) hg (B (fence.contains (i : Int))))) <| s_val (x_pand (b := fence.contains (((w_.getD i default).of).getD k2 0)) (r := !(fence.contains (i : Int))) rfl (fun hb => gd_of (c := fence.contains (((w_.getD i default).of).getD k2 0)) (by simp_all) (B (!(fence.contains (i : Int))))) rfl) <| s_nil ?_
   refine W.cond ((fence.contains (((w_.getD i default).of).getD k2 0)) && (!(fence.contains (i : Int)))) rfl (fun c57z => ?_) (fun c57z => ?_)
   ·replace hM := M.e_t hM c57z
    refine W.seq <| W.region rfl <| sA (B false) rfl <| sA (I 0) rfl <| s_nil ?_
    refine W.ret ?_
    have hX58z := M.e_inr hM hN46z
    subst hX58z
    replace hM := hk39z
    try dsimp only at hM
    have hX59z := M.e_inr hM hN34z
    subst hX59z
    replace hM := hk27z
    try dsimp only at hM
    have hr_ := M.e_pure hM
    exact ⟨_, resE_tmp2 rfl, ⟨false, 0, hr_, rfl, (H.pick [] (by decide) rfl)⟩⟩
   replace hM := M.e_f hM c57z
   refine W.skip <| W.region rfl <| sM (I (k2 : Int)) rfl <| s_val (x_ari (a := (k2 : Int)) (b := 1) (r := (k2 : Int) + 1) rfl rfl rfl (by omega)) <| sA (I ((k2 : Int) + 1)) rfl <| s_nil ?_
   exact ⟨m43z, lt44z, k2 + 1, _, upds_of _ _ ⟨rfl, rfl, rfl, rfl, trivial⟩, M.e_inl hM hN46z, H⟩
  replace hM := M.e_f hM c51z
  simp only [q1, q2, q3, q4, q5, q6, ne_eq, q7] at c51z
  refine W.exit ?_
  have hX60z := M.e_inr hM hN46z
  subst hX60z
  replace hM := hk39z
  try dsimp only at hM
  refine W.region rfl <| sM (I (i : Int)) rfl <| s_val (x_ari (a := (i : Int)) (b := 1) (r := (i : Int) + 1) rfl rfl rfl (by omega)) <| sA (I ((i : Int) + 1)) rfl <| s_nil ?_
  exact ⟨m31z, lt32z, i + 1, _, upds_of _ _ ⟨rfl, rfl, rfl, trivial⟩, M.e_inl hM hN34z, H⟩
 replace hM := M.e_f hM c36z
 simp only [q1, q2, q3, q4, q5, q6, ne_eq, q7] at c36z
 refine W.exit ?_
 have hX61z := M.e_inr hM hN34z
 subst hX61z
 replace hM := hk27z
 try dsimp only at hM
 refine W.seq <| W.region rfl <| sA (B true) rfl <| sA (I 0) rfl <| s_nil ?_
 refine W.ret ?_
 have hr_ := M.e_pure hM
 exact ⟨_, resE_tmp2 rfl, ⟨true, 0, hr_, rfl, (H.pick [] (by decide) rfl)⟩⟩

def m_nilometerref13_Ready_b1 (w_ : List Work) (r0 : List Int) (r02 : List Int) (l : List Int) (n : Nat) : (Int × Nat) → M ((Int × Nat) ⊕ Int) := fun (begin, k) =>
  M.grd (decide ((0 : Int) ≤ (r02.getD n 0)) && decide ((r02.getD n 0) < (w_.length : Int))) <|
  bif decide ((k : Int) < (((w_.getD (Int.toNat (r02.getD n 0)) default).of).length : Int)) then (
  M.grd (decide ((k : Int) < (((w_.getD (Int.toNat (r02.getD n 0)) default).of).length : Int))) <|
  M.grd ((!(r0.contains (((w_.getD (Int.toNat (r02.getD n 0)) default).of).getD k 0)) || (decide ((0 : Int) ≤ (((w_.getD (Int.toNat (r02.getD n 0)) default).of).getD k 0)) && decide ((((w_.getD (Int.toNat (r02.getD n 0)) default).of).getD k 0) < ((l.set (Int.toNat (r02.getD n 0)) (-1 : Int)).length : Int))))) <|
  bif ((r0.contains (((w_.getD (Int.toNat (r02.getD n 0)) default).of).getD k 0)) && (decide (begin < ((l.set (Int.toNat (r02.getD n 0)) (-1 : Int)).getD (Int.toNat (((w_.getD (Int.toNat (r02.getD n 0)) default).of).getD k 0)) 0)))) then (
  M.grd (decide ((0 : Int) ≤ (((w_.getD (Int.toNat (r02.getD n 0)) default).of).getD k 0)) && decide ((((w_.getD (Int.toNat (r02.getD n 0)) default).of).getD k 0) < ((l.set (Int.toNat (r02.getD n 0)) (-1 : Int)).length : Int))) <|
  M.pure (.inl ((l.set (Int.toNat (r02.getD n 0)) (-1 : Int)).getD (Int.toNat (((w_.getD (Int.toNat (r02.getD n 0)) default).of).getD k 0)) 0, k + 1)))
  else (
  M.pure (.inl (begin, k + 1))))
  else (
  M.pure (.inr begin))
def m_nilometerref13_Ready_b2 (w_ : List Work) (r0 : List Int) (r02 : List Int) : ((List Int) × Nat) → M (((List Int) × Nat) ⊕ ((List Int) × (List Int))) := fun (l, n) =>
  bif decide ((n : Int) < (r02.length : Int)) then (
  M.grd (decide ((n : Int) < (r02.length : Int))) <|
  M.grd (decide ((0 : Int) ≤ (r02.getD n 0)) && decide ((r02.getD n 0) < (l.length : Int))) <|
  bif !(r0.contains (r02.getD n 0)) then (
  M.pure (.inl (l.set (Int.toNat (r02.getD n 0)) (-1 : Int), n + 1)))
  else (
  M.bind (M.iter (m_nilometerref13_Ready_b1 w_ r0 r02 l n) (0, 0)) fun begin2 =>
  M.grd (decide ((0 : Int) ≤ (r02.getD n 0)) && decide ((r02.getD n 0) < (w_.length : Int))) <|
  M.grd (decide ((-9223372036854775808 : Int) ≤ (begin2 + ((w_.getD (Int.toNat (r02.getD n 0)) default).minutes))) && decide ((begin2 + ((w_.getD (Int.toNat (r02.getD n 0)) default).minutes)) ≤ (9223372036854775807 : Int))) <|
  M.grd (decide ((0 : Int) ≤ (r02.getD n 0)) && decide ((r02.getD n 0) < ((l.set (Int.toNat (r02.getD n 0)) (-1 : Int)).length : Int))) <|
  M.pure (.inl ((l.set (Int.toNat (r02.getD n 0)) (-1 : Int)).set (Int.toNat (r02.getD n 0)) (begin2 + ((w_.getD (Int.toNat (r02.getD n 0)) default).minutes) : Int), n + 1))))
  else (
  M.pure (.inr (l, l)))
def m_nilometerref13_Ready (w_ : List Work) (revised : List Int) : M ((List Int) × Int) :=
  M.bind (m_nilometerref13_Stale w_ revised) fun (r0, r1) =>
  bif r1 != 0 then (
  M.pure (([]), r1))
  else (
  M.bind (m_nilometerref13_Order w_) fun (r02, r12) =>
  M.grd (decide ((0 : Int) ≤ (w_.length : Int)) && decide ((8 : Int) * (w_.length : Int) ≤ 281474976710656) && decide ((w_.length : Int) ≤ (9223372036854775807 : Int))) <|
  M.bind (M.iter (m_nilometerref13_Ready_b2 w_ r0 r02) (List.replicate (w_.length) (0 : Int), 0)) fun (l2, l3) =>
  M.pure (l3, 0))
theorem nilometerref13_Ready_ok {R : List Chunk} {C_w_ : Cells} {v_w_ : Value} {C_revised : Cells} {v_revised : Value} (w_ : List Work) (revised : List Int) (hC_w_ : Reads R C_w_) (hs_w_ : Sl C_w_ v_w_ w_) (hC_revised : Reads R C_revised) (hs_revised : Sl C_revised v_revised revised) {r : ((List Int) × Int)} (hM : (m_nilometerref13_Ready w_ revised).Ends r) (w : World) (H : St w w [] R) : Ret Try.prog 37 #[v_w_, v_revised] w fun v w' => ∃ (y0 : List Int) (y1 : Int) (u0 : Value), (y0, y1) = r ∧ v = .tuple #[u0, I y1] ∧ St w w' [cOwn (α := Int) 3 u0 y0] R := by
 refine ret_of_W Try.func37 rfl rfl rfl ?_
 refine W.seq <| W.region rfl <| sA (.slice none 0 0) rfl <| sA (I 0) rfl <| s_nil <| W.seq <| W.region rfl <| sM v_w_ rfl <| sM v_revised rfl ?_
 obtain ⟨r2z, hx1z, hM⟩ := M.e_bind hM
 refine s_call cf33 [v_w_, v_revised] rfl (nilometerref13_Stale_ok w_ revised (hC_w_.app _) hs_w_ (hC_revised.app _) hs_revised hx1z _ (St.give (T := []) H rfl)) ?_
 rintro vq w3z ⟨r0, r1, u0_1, hr4z, hvq, H2_⟩
 subst hr4z
 subst vq
 try dsimp only at hM
 replace H : St w w3z [cOwn (α := Int) 3 u0_1 r0] R := H.back H2_ rfl
 clear H2_
 refine sM (.tuple #[u0_1, I r1]) rfl <| s_val (x_ext (vs := [u0_1, I r1]) (v := u0_1) rfl rfl) <| s_val (x_ext (vs := [u0_1, I r1]) (v := I r1) rfl rfl) <| sA u0_1 rfl <| sA (I r1) rfl <| s_nil <| W.seq <| W.seq <| W.region rfl <| sM (I r1) rfl <| sC r1 0 (r1 != 0) rfl rfl rfl <| s_nil ?_
 refine W.cond (r1 != 0) rfl (fun c5z => ?_) (fun c5z => ?_)
 ·replace hM := M.e_t hM c5z
  simp only [q1, q2, q3, q4, q5, q6, ne_eq, q7] at c5z
  refine W.seq <| W.region rfl <| sM (I r1) rfl <| sA (.slice none 0 0) rfl <| sA (I r1) rfl <| s_nil ?_
  refine W.ret ?_
  have hr_ := M.e_pure hM
  replace H : St w w3z [cOwn (α := Int) 3 (.slice none 0 0) ([]), cOwn (α := Int) 3 u0_1 r0] R := H.nilOwn (α := Int) 3
  exact ⟨_, resE_tmp2 rfl, ⟨([]), r1, (.slice none 0 0), hr_, rfl, (H.pick [0] (by decide) rfl)⟩⟩
 replace hM := M.e_f hM c5z
 simp only [q1, q2, q3, q4, q5, q6, ne_eq, q7] at c5z
 refine W.skip <| W.seq <| W.region rfl <| sM v_w_ rfl ?_
 obtain ⟨r7z, hx6z, hM⟩ := M.e_bind hM
 refine s_call cf72 [v_w_] rfl (nilometerref13_Order_ok w_ (hC_w_.app _) hs_w_ hx6z _ (St.give (T := [cOwn (α := Int) 3 u0_1 r0]) H rfl)) ?_
 rintro vq w8z ⟨r02, r12, u0_2, hr9z, hvq, H2_⟩
 subst hr9z
 subst vq
 try dsimp only at hM
 replace H : St w w8z [cOwn (α := Int) 3 u0_2 r02, cOwn (α := Int) 3 u0_1 r0] R := H.back H2_ rfl
 clear H2_
 refine sM (.tuple #[u0_2, I r12]) rfl <| s_val (x_ext (vs := [u0_2, I r12]) (v := u0_2) rfl rfl) <| s_val (x_ext (vs := [u0_2, I r12]) (v := I r12) rfl rfl) <| sA u0_2 rfl <| sA (I r12) rfl <| s_nil <| W.seq <| W.region rfl <| sM v_w_ rfl ?_
 have hl10z := (hs_w_).len_le
 refine s_val (x_lenS T39.und rfl hs_w_) ?_
 obtain ⟨sd11z, hM⟩ := M.e_grd hM
 simp only [Bool.and_eq_true, decide_eq_true_eq] at sd11z
 refine t_mk (α := Int) T34 (0 : Int) rfl (n := (w_.length : Int)) H rfl rfl (by omega) (by omega) (by omega) ?_
 intro v12z w13z H
 replace H : St w w13z [cOwn (α := Int) 3 v12z (List.replicate (w_.length) (0 : Int)), cOwn (α := Int) 3 u0_2 r02, cOwn (α := Int) 3 u0_1 r0] R := H
 refine sA v12z rfl <| s_nil <| W.seq <| W.seq <| W.region rfl <| sA (I 0) rfl <| s_nil <| W.block ?_
 obtain ⟨ex14z, hi15z, hk16z⟩ := M.e_bind hM
 obtain ⟨m0_, hi15z⟩ := M.e_iter hi15z
 refine W.loop (fun m σ W => ∃ (l : List Int) (n : Nat) (v_l : Value) (ρ : Env), σ = upds ρ [(0, v_w_), (6, u0_1), (8, u0_2), (10, v_l), (11, I (n : Int))] ∧ M.iterN (m_nilometerref13_Ready_b2 w_ r0 r02) m (l, n) = some ex14z ∧ St w W [cOwn (α := Int) 3 v_l l, cOwn (α := Int) 3 u0_2 r02, cOwn (α := Int) 3 u0_1 r0] R) ?_ ?_
 ·exact ⟨_, List.replicate (w_.length) (0 : Int), 0, v12z, _, upds_of _ _ ⟨rfl, rfl, rfl, rfl, rfl, trivial⟩, hi15z, H⟩
 rintro m19z σ w17z ⟨l, n, v_l, ρ, rfl, hI18z, H⟩
 obtain ⟨m20z, lt21z, x22z, hM, hN23z⟩ := M.e_iterN hI18z
 simp only [m_nilometerref13_Ready_b2] at hM
 clear hI18z
 refine W.seq <| W.seq <| W.region rfl <| sM (I (n : Int)) rfl <| sM u0_2 rfl ?_
 have hl24z := ((ownSl (H.get (k := 1) rfl))).len_le
 refine s_val (x_lenS T34.und rfl (ownSl (H.get (k := 1) rfl))) <| sC (n : Int) (r02.length : Int) (decide ((n : Int) < (r02.length : Int))) rfl rfl rfl <| s_nil ?_
 refine W.cond (decide ((n : Int) < (r02.length : Int))) rfl (fun c25z => ?_) (fun c25z => ?_)
 ·replace hM := M.e_t hM c25z
  simp only [q1, q2, q3, q4, q5, q6, ne_eq, q7] at c25z
  refine W.skip <| W.seq <| W.block <| W.seq <| W.region rfl <| sM u0_2 rfl <| sM (I (n : Int)) rfl ?_
  obtain ⟨sd26z, hM⟩ := M.e_grd hM
  simp only [Bool.and_eq_true, decide_eq_true_eq] at sd26z
  refine s_val (x_ix (a := u0_2) (b := I (n : Int)) (v := vat u0_2 1 (Int.toNat (n : Int))) rfl rfl (Sl.ix (α := Int) T34.und T34.size (ownSl (H.get (k := 1) rfl)) (by omega) (by omega))) <| s_val (x_ld (p := vat u0_2 1 (Int.toNat (n : Int))) (v := I (r02.getD n 0)) rfl (ld_sc Sc3 (At.mono (Int_at (ownSl (H.get (k := 1) rfl)) (i := (n : Int)) (by omega) (by omega)) (ownLe _ (H.get (k := 1) rfl))))) <| sA (I (r02.getD n 0)) rfl <| s_nil <| W.seq <| W.region rfl <| sM v_l rfl <| sM (I (r02.getD n 0)) rfl ?_
  obtain ⟨sd27z, hM⟩ := M.e_grd hM
  simp only [Bool.and_eq_true, decide_eq_true_eq] at sd27z
  refine s_val (x_ix (a := v_l) (b := I (r02.getD n 0)) (v := vat v_l 1 (Int.toNat (r02.getD n 0))) rfl rfl (Sl.ix (α := Int) T34.und T34.size (ownSl (H.get (k := 0) rfl)) (by omega) (by omega))) ?_
  refine t_ost (k := 0) (i := r02.getD n 0) (l := l) (l' := l.set (Int.toNat (r02.getD n 0)) (-1 : Int)) (val := I (-1)) (L' := [cOwn (α := Int) 3 v_l (l.set (Int.toNat (r02.getD n 0)) (-1 : Int)), cOwn (α := Int) 3 u0_2 r02, cOwn (α := Int) 3 u0_1 r0]) H rfl Sz3 (by omega) (by omega) (-1 : Int) rfl rfl rfl rfl rfl ?_
  intro w28z H
  refine s_nil <| W.seq <| W.seq <| W.region rfl <| sM u0_1 rfl <| sM (I (r02.getD n 0)) rfl ?_
  refine s_call cf95 [u0_1, I (r02.getD n 0)] rfl (has_any (r02.getD n 0) _ ((ownSl (H.get (k := 2) rfl)).mono (ownLe _ (H.get (k := 2) rfl)))) ?_
  rintro _ w29z ⟨rfl, hx_⟩
  replace H : St w w29z [cOwn (α := Int) 3 v_l (l.set (Int.toNat (r02.getD n 0)) (-1 : Int)), cOwn (α := Int) 3 u0_2 r02, cOwn (α := Int) 3 u0_1 r0] R := H.ext hx_
  clear hx_
  refine s_val (x_not (b := r0.contains (r02.getD n 0)) rfl) <| s_nil ?_
  refine W.cond (!(r0.contains (r02.getD n 0))) rfl (fun c30z => ?_) (fun c30z => ?_)
  ·replace hM := M.e_t hM c30z
   refine W.exit ?_
   refine W.region rfl <| sM (I (n : Int)) rfl <| s_val (x_ari (a := (n : Int)) (b := 1) (r := (n : Int) + 1) rfl rfl rfl (by omega)) <| sA (I ((n : Int) + 1)) rfl <| s_nil ?_
   exact ⟨m20z, lt21z, l.set (Int.toNat (r02.getD n 0)) (-1 : Int), n + 1, v_l, _, upds_of _ _ ⟨rfl, rfl, rfl, rfl, rfl, trivial⟩, M.e_inl hM hN23z, H⟩
  replace hM := M.e_f hM c30z
  refine W.skip <| W.seq <| W.region rfl <| sA (I 0) rfl <| s_nil <| W.seq <| W.seq <| W.region rfl <| sA (I 0) rfl <| s_nil <| W.block ?_
  obtain ⟨ex31z, hi32z, hk33z⟩ := M.e_bind hM
  obtain ⟨m0_, hi32z⟩ := M.e_iter hi32z
  refine W.loop (fun m σ W => ∃ (begin : Int) (k : Nat) (ρ : Env), σ = upds ρ [(0, v_w_), (6, u0_1), (8, u0_2), (10, v_l), (11, I (n : Int)), (12, I (r02.getD n 0)), (13, I begin), (14, I (k : Int))] ∧ M.iterN (m_nilometerref13_Ready_b1 w_ r0 r02 l n) m (begin, k) = some ex31z ∧ St w W [cOwn (α := Int) 3 v_l (l.set (Int.toNat (r02.getD n 0)) (-1 : Int)), cOwn (α := Int) 3 u0_2 r02, cOwn (α := Int) 3 u0_1 r0] R) ?_ ?_
  ·exact ⟨_, 0, 0, _, upds_of _ _ ⟨rfl, rfl, rfl, rfl, rfl, rfl, rfl, rfl, trivial⟩, hi32z, H⟩
  rintro m36z σ w34z ⟨begin, k, ρ, rfl, hI35z, H⟩
  obtain ⟨m37z, lt38z, x39z, hM, hN40z⟩ := M.e_iterN hI35z
  simp only [m_nilometerref13_Ready_b1] at hM
  clear hI35z
  refine W.seq <| W.seq <| W.region rfl <| sM (I (k : Int)) rfl <| sM v_w_ rfl <| sM (I (r02.getD n 0)) rfl ?_
  obtain ⟨sd41z, hM⟩ := M.e_grd hM
  simp only [Bool.and_eq_true, decide_eq_true_eq] at sd41z
  refine s_val (x_ix (a := v_w_) (b := I (r02.getD n 0)) (v := vat v_w_ 3 (Int.toNat (r02.getD n 0))) rfl rfl (Sl.ix (α := Work) T39.und T39.size hs_w_ (by omega) (by omega))) <| s_val (x_fa (a := vat v_w_ 3 (Int.toNat (r02.getD n 0))) (v := fat (vat v_w_ 3 (Int.toNat (r02.getD n 0))) 0) rfl (fa_pl Fd138_0 Sz34 (Sl.pl (i := r02.getD n 0) hs_w_ (by omega) (by omega)))) ?_
  obtain ⟨u42z, ha_u42z, hs43z⟩ := Work_at0 hs_w_ (i := r02.getD n 0) (by omega) (by omega)
  replace hs43z : Sl _ u42z (w_.getD (Int.toNat (r02.getD n 0)) default).of := hs43z
  have hl_hs43z := hs43z.len_le
  refine s_val (x_ld (p := fat (vat v_w_ 3 (Int.toNat (r02.getD n 0))) 0) (v := u42z) rfl (ld_sc Sc34 (At.mono (ha_u42z) (hC_w_.at H)))) ?_
  have hl44z := (hs43z).len_le
  refine s_val (x_lenS T34.und rfl hs43z) <| sC (k : Int) (((w_.getD (Int.toNat (r02.getD n 0)) default).of).length : Int) (decide ((k : Int) < (((w_.getD (Int.toNat (r02.getD n 0)) default).of).length : Int))) rfl rfl rfl <| s_nil ?_
  refine W.cond (decide ((k : Int) < (((w_.getD (Int.toNat (r02.getD n 0)) default).of).length : Int))) rfl (fun c45z => ?_) (fun c45z => ?_)
  ·replace hM := M.e_t hM c45z
   simp only [q1, q2, q3, q4, q5, q6, ne_eq, q7] at c45z
   refine W.skip <| W.seq <| W.block <| W.seq <| W.region rfl <| sM u0_1 rfl <| sM v_w_ rfl <| sM (I (r02.getD n 0)) rfl <| s_val (x_ix (a := v_w_) (b := I (r02.getD n 0)) (v := vat v_w_ 3 (Int.toNat (r02.getD n 0))) rfl rfl (Sl.ix (α := Work) T39.und T39.size hs_w_ (by omega) (by omega))) <| s_val (x_fa (a := vat v_w_ 3 (Int.toNat (r02.getD n 0))) (v := fat (vat v_w_ 3 (Int.toNat (r02.getD n 0))) 0) rfl (fa_pl Fd138_0 Sz34 (Sl.pl (i := r02.getD n 0) hs_w_ (by omega) (by omega)))) ?_
   obtain ⟨u46z, ha_u46z, hs47z⟩ := Work_at0 hs_w_ (i := r02.getD n 0) (by omega) (by omega)
   replace hs47z : Sl _ u46z (w_.getD (Int.toNat (r02.getD n 0)) default).of := hs47z
   have hl_hs47z := hs47z.len_le
   refine s_val (x_ld (p := fat (vat v_w_ 3 (Int.toNat (r02.getD n 0))) 0) (v := u46z) rfl (ld_sc Sc34 (At.mono (ha_u46z) (hC_w_.at H)))) <| sM (I (k : Int)) rfl ?_
   obtain ⟨sd48z, hM⟩ := M.e_grd hM
   simp only [Bool.and_eq_true, decide_eq_true_eq] at sd48z
   refine s_val (x_ix (a := u46z) (b := I (k : Int)) (v := vat u46z 1 (Int.toNat (k : Int))) rfl rfl (Sl.ix (α := Int) T34.und T34.size hs47z (by omega) (by omega))) <| s_val (x_ld (p := vat u46z 1 (Int.toNat (k : Int))) (v := I (((w_.getD (Int.toNat (r02.getD n 0)) default).of).getD k 0)) rfl (ld_sc Sc3 (At.mono (Int_at hs47z (i := (k : Int)) (by omega) (by omega)) (hC_w_.at H)))) ?_
   refine s_call cf95 [u0_1, I (((w_.getD (Int.toNat (r02.getD n 0)) default).of).getD k 0)] rfl (has_any (((w_.getD (Int.toNat (r02.getD n 0)) default).of).getD k 0) _ ((ownSl (H.get (k := 2) rfl)).mono (ownLe _ (H.get (k := 2) rfl)))) ?_
   rintro _ w49z ⟨rfl, hx_⟩
   replace H : St w w49z [cOwn (α := Int) 3 v_l (l.set (Int.toNat (r02.getD n 0)) (-1 : Int)), cOwn (α := Int) 3 u0_2 r02, cOwn (α := Int) 3 u0_1 r0] R := H.ext hx_
   clear hx_
   refine sM (B (r0.contains (((w_.getD (Int.toNat (r02.getD n 0)) default).of).getD k 0))) rfl <| g_val (r0.contains (((w_.getD (Int.toNat (r02.getD n 0)) default).of).getD k 0)) (gy_t rfl) (fun hg => x_mv (v := v_l) rfl) <| g_val (r0.contains (((w_.getD (Int.toNat (r02.getD n 0)) default).of).getD k 0)) (gy_t rfl) (fun hg => x_mv (v := v_w_) rfl) <| g_val (r0.contains (((w_.getD (Int.toNat (r02.getD n 0)) default).of).getD k 0)) (gy_t rfl) (fun hg => x_mv (v := I (r02.getD n 0)) rfl) <| g_val (r0.contains (((w_.getD (Int.toNat (r02.getD n 0)) default).of).getD k 0)) (gy_t rfl) (fun hg => x_ix (a := v_w_) (b := I (r02.getD n 0)) (v := vat v_w_ 3 (Int.toNat (r02.getD n 0))) (gd_of (c := r0.contains (((w_.getD (Int.toNat (r02.getD n 0)) default).of).getD k 0)) hg (v_w_)) (gd_of (c := r0.contains (((w_.getD (Int.toNat (r02.getD n 0)) default).of).getD k 0)) hg (I (r02.getD n 0))) (Sl.ix (α := Work) T39.und T39.size hs_w_ (by first | omega | (have hx_ := hg; simp at hx_; omega)) (by first | omega | (have hx_ := hg; simp at hx_; omega)))) <| g_val (r0.contains (((w_.getD (Int.toNat (r02.getD n 0)) default).of).getD k 0)) (gy_t rfl) (fun hg => x_fa (a := vat v_w_ 3 (Int.toNat (r02.getD n 0))) (v := fat (vat v_w_ 3 (Int.toNat (r02.getD n 0))) 0) (gd_of (c := r0.contains (((w_.getD (Int.toNat (r02.getD n 0)) default).of).getD k 0)) hg (vat v_w_ 3 (Int.toNat (r02.getD n 0)))) (fa_pl Fd138_0 Sz34 (Sl.pl (i := r02.getD n 0) hs_w_ (by first | omega | (have hx_ := hg; simp at hx_; omega)) (by first | omega | (have hx_ := hg; simp at hx_; omega))))) ?_
   obtain ⟨u50z, ha_u50z, hs51z⟩ := gd_ex (c := r0.contains (((w_.getD (Int.toNat (r02.getD n 0)) default).of).getD k 0)) fun hg => Work_at0 hs_w_ (i := r02.getD n 0) (by first | omega | (have hx_ := hg; simp at hx_; omega)) (by first | omega | (have hx_ := hg; simp at hx_; omega))
   replace hs51z : (r0.contains (((w_.getD (Int.toNat (r02.getD n 0)) default).of).getD k 0)) = true → Sl _ u50z (w_.getD (Int.toNat (r02.getD n 0)) default).of := hs51z
   refine g_val (r0.contains (((w_.getD (Int.toNat (r02.getD n 0)) default).of).getD k 0)) (gy_t rfl) (fun hg => x_ld (p := fat (vat v_w_ 3 (Int.toNat (r02.getD n 0))) 0) (v := u50z) (gd_of (c := r0.contains (((w_.getD (Int.toNat (r02.getD n 0)) default).of).getD k 0)) hg (fat (vat v_w_ 3 (Int.toNat (r02.getD n 0))) 0)) (ld_sc Sc34 (At.mono (ha_u50z hg) (hC_w_.at H)))) <| g_val (r0.contains (((w_.getD (Int.toNat (r02.getD n 0)) default).of).getD k 0)) (gy_t rfl) (fun hg => x_mv (v := I (k : Int)) rfl) <| g_val (r0.contains (((w_.getD (Int.toNat (r02.getD n 0)) default).of).getD k 0)) (gy_t rfl) (fun hg => x_ix (a := u50z) (b := I (k : Int)) (v := vat u50z 1 (Int.toNat (k : Int))) (gd_of (c := r0.contains (((w_.getD (Int.toNat (r02.getD n 0)) default).of).getD k 0)) hg (u50z)) (gd_of (c := r0.contains (((w_.getD (Int.toNat (r02.getD n 0)) default).of).getD k 0)) hg (I (k : Int))) (Sl.ix (α := Int) T34.und T34.size (hs51z hg) (by first | omega | (have hx_ := hg; simp at hx_; omega)) (by first | omega | (have hx_ := hg; simp at hx_; omega)))) <| g_val (r0.contains (((w_.getD (Int.toNat (r02.getD n 0)) default).of).getD k 0)) (gy_t rfl) (fun hg => x_ld (p := vat u50z 1 (Int.toNat (k : Int))) (v := I (((w_.getD (Int.toNat (r02.getD n 0)) default).of).getD k 0)) (gd_of (c := r0.contains (((w_.getD (Int.toNat (r02.getD n 0)) default).of).getD k 0)) hg (vat u50z 1 (Int.toNat (k : Int)))) (ld_sc Sc3 (At.mono (Int_at (hs51z hg) (i := (k : Int)) (by first | omega | (have hx_ := hg; simp at hx_; omega)) (by first | omega | (have hx_ := hg; simp at hx_; omega))) (hC_w_.at H)))) ?_
   obtain ⟨sd52z, hM⟩ := M.e_grd hM
   replace sd52z := M.imp_of sd52z
   simp only [Bool.and_eq_true, decide_eq_true_eq] at sd52z
   refine g_val (r0.contains (((w_.getD (Int.toNat (r02.getD n 0)) default).of).getD k 0)) (gy_t rfl) (fun hg => x_ix (a := v_l) (b := I (((w_.getD (Int.toNat (r02.getD n 0)) default).of).getD k 0)) (v := vat v_l 1 (Int.toNat (((w_.getD (Int.toNat (r02.getD n 0)) default).of).getD k 0))) (gd_of (c := r0.contains (((w_.getD (Int.toNat (r02.getD n 0)) default).of).getD k 0)) hg (v_l)) (gd_of (c := r0.contains (((w_.getD (Int.toNat (r02.getD n 0)) default).of).getD k 0)) hg (I (((w_.getD (Int.toNat (r02.getD n 0)) default).of).getD k 0))) (Sl.ix (α := Int) T34.und T34.size (ownSl (H.get (k := 0) rfl)) (by have h1_ := sd52z.resolve_left (by rw [hg]; decide); first | omega | (have hx_ := hg; simp at hx_; omega)) (by have h1_ := sd52z.resolve_left (by rw [hg]; decide); first | omega | (have hx_ := hg; simp at hx_; omega)))) <| g_val (r0.contains (((w_.getD (Int.toNat (r02.getD n 0)) default).of).getD k 0)) (gy_t rfl) (fun hg => x_ld (p := vat v_l 1 (Int.toNat (((w_.getD (Int.toNat (r02.getD n 0)) default).of).getD k 0))) (v := I ((l.set (Int.toNat (r02.getD n 0)) (-1 : Int)).getD (Int.toNat (((w_.getD (Int.toNat (r02.getD n 0)) default).of).getD k 0)) 0)) (gd_of (c := r0.contains (((w_.getD (Int.toNat (r02.getD n 0)) default).of).getD k 0)) hg (vat v_l 1 (Int.toNat (((w_.getD (Int.toNat (r02.getD n 0)) default).of).getD k 0)))) (ld_sc Sc3 (At.mono (Int_at (ownSl (H.get (k := 0) rfl)) (i := ((w_.getD (Int.toNat (r02.getD n 0)) default).of).getD k 0) (by have h1_ := sd52z.resolve_left (by rw [hg]; decide); first | omega | (have hx_ := hg; simp at hx_; omega)) (by have h1_ := sd52z.resolve_left (by rw [hg]; decide); first | omega | (have hx_ := hg; simp at hx_; omega))) (ownLe _ (H.get (k := 0) rfl))))) <| g_val (r0.contains (((w_.getD (Int.toNat (r02.getD n 0)) default).of).getD k 0)) (gy_t rfl) (fun hg => x_mv (v := I begin) rfl) <| g_val (r0.contains (((w_.getD (Int.toNat (r02.getD n 0)) default).of).getD k 0)) (gy_t rfl) (fun hg => x_cmp (kd := .i64) (a := (l.set (Int.toNat (r02.getD n 0)) (-1 : Int)).getD (Int.toNat (((w_.getD (Int.toNat (r02.getD n 0)) default).of).getD k 0)) 0) (b := begin) (r := decide (begin < ((l.set (Int.toNat (r02.getD n 0)) (-1 : Int)).getD (Int.toNat (((w_.getD (Int.toNat (r02.getD n 0)) default).of).getD k 0)) 0))) (gd_of (c := r0.contains (((w_.getD (Int.toNat (r02.getD n 0)) default).of).getD k 0)) hg (I ((l.set (Int.toNat (r02.getD n 0)) (-1 : Int)).getD (Int.toNat (((w_.getD (Int.toNat (r02.getD n 0)) default).of).getD k 0)) 0))) (gd_of (c := r0.contains (((w_.getD (Int.toNat (r02.getD n 0)) default).of).getD k 0)) hg (I begin)) rfl) <| s_val (x_pand (b := r0.contains (((w_.getD (Int.toNat (r02.getD n 0)) default).of).getD k 0)) (r := decide (begin < ((l.set (Int.toNat (r02.getD n 0)) (-1 : Int)).getD (Int.toNat (((w_.getD (Int.toNat (r02.getD n 0)) default).of).getD k 0)) 0))) rfl (fun hb => gd_of (c := r0.contains (((w_.getD (Int.toNat (r02.getD n 0)) default).of).getD k 0)) (by simp_all) (B (decide (begin < ((l.set (Int.toNat (r02.getD n 0)) (-1 : Int)).getD (Int.toNat (((w_.getD (Int.toNat (r02.getD n 0)) default).of).getD k 0)) 0))))) rfl) <| s_nil ?_
   refine W.cond ((r0.contains (((w_.getD (Int.toNat (r02.getD n 0)) default).of).getD k 0)) && (decide (begin < ((l.set (Int.toNat (r02.getD n 0)) (-1 : Int)).getD (Int.toNat (((w_.getD (Int.toNat (r02.getD n 0)) default).of).getD k 0)) 0)))) rfl (fun c53z => ?_) (fun c53z => ?_)
   ·replace hM := M.e_t hM c53z
    refine W.region rfl <| sM v_l rfl <| sM v_w_ rfl <| sM (I (r02.getD n 0)) rfl <| s_val (x_ix (a := v_w_) (b := I (r02.getD n 0)) (v := vat v_w_ 3 (Int.toNat (r02.getD n 0))) rfl rfl (Sl.ix (α := Work) T39.und T39.size hs_w_ (by omega) (by omega))) <| s_val (x_fa (a := vat v_w_ 3 (Int.toNat (r02.getD n 0))) (v := fat (vat v_w_ 3 (Int.toNat (r02.getD n 0))) 0) rfl (fa_pl Fd138_0 Sz34 (Sl.pl (i := r02.getD n 0) hs_w_ (by omega) (by omega)))) ?_
    obtain ⟨u54z, ha_u54z, hs55z⟩ := Work_at0 hs_w_ (i := r02.getD n 0) (by omega) (by omega)
    replace hs55z : Sl _ u54z (w_.getD (Int.toNat (r02.getD n 0)) default).of := hs55z
    have hl_hs55z := hs55z.len_le
    refine s_val (x_ld (p := fat (vat v_w_ 3 (Int.toNat (r02.getD n 0))) 0) (v := u54z) rfl (ld_sc Sc34 (At.mono (ha_u54z) (hC_w_.at H)))) <| sM (I (k : Int)) rfl <| s_val (x_ix (a := u54z) (b := I (k : Int)) (v := vat u54z 1 (Int.toNat (k : Int))) rfl rfl (Sl.ix (α := Int) T34.und T34.size hs55z (by omega) (by omega))) <| s_val (x_ld (p := vat u54z 1 (Int.toNat (k : Int))) (v := I (((w_.getD (Int.toNat (r02.getD n 0)) default).of).getD k 0)) rfl (ld_sc Sc3 (At.mono (Int_at hs55z (i := (k : Int)) (by omega) (by omega)) (hC_w_.at H)))) ?_
    obtain ⟨sd56z, hM⟩ := M.e_grd hM
    simp only [Bool.and_eq_true, decide_eq_true_eq] at sd56z
    refine s_val (x_ix (a := v_l) (b := I (((w_.getD (Int.toNat (r02.getD n 0)) default).of).getD k 0)) (v := vat v_l 1 (Int.toNat (((w_.getD (Int.toNat (r02.getD n 0)) default).of).getD k 0))) rfl rfl (Sl.ix (α := Int) T34.und T34.size (ownSl (H.get (k := 0) rfl)) (by omega) (by omega))) <| s_val (x_ld (p := vat v_l 1 (Int.toNat (((w_.getD (Int.toNat (r02.getD n 0)) default).of).getD k 0))) (v := I ((l.set (Int.toNat (r02.getD n 0)) (-1 : Int)).getD (Int.toNat (((w_.getD (Int.toNat (r02.getD n 0)) default).of).getD k 0)) 0)) rfl (ld_sc Sc3 (At.mono (Int_at (ownSl (H.get (k := 0) rfl)) (i := ((w_.getD (Int.toNat (r02.getD n 0)) default).of).getD k 0) (by omega) (by omega)) (ownLe _ (H.get (k := 0) rfl))))) <| sA (I ((l.set (Int.toNat (r02.getD n 0)) (-1 : Int)).getD (Int.toNat (((w_.getD (Int.toNat (r02.getD n 0)) default).of).getD k 0)) 0)) rfl <| s_nil <| W.region rfl <| sM (I (k : Int)) rfl <| s_val (x_ari (a := (k : Int)) (b := 1) (r := (k : Int) + 1) rfl rfl rfl (by omega)) <| sA (I ((k : Int) + 1)) rfl <| s_nil ?_
    exact ⟨m37z, lt38z, (l.set (Int.toNat (r02.getD n 0)) (-1 : Int)).getD (Int.toNat (((w_.getD (Int.toNat (r02.getD n 0)) default).of).getD k 0)) 0, k + 1, _, upds_of _ _ ⟨rfl, rfl, rfl, rfl, rfl, rfl, rfl, rfl, trivial⟩, M.e_inl hM hN40z, H⟩
   replace hM := M.e_f hM c53z
   refine W.skip <| W.region rfl <| sM (I (k : Int)) rfl <| s_val (x_ari (a := (k : Int)) (b := 1) (r := (k : Int) + 1) rfl rfl rfl (by omega)) <| sA (I ((k : Int) + 1)) rfl <| s_nil ?_
   exact ⟨m37z, lt38z, begin, k + 1, _, upds_of _ _ ⟨rfl, rfl, rfl, rfl, rfl, rfl, rfl, rfl, trivial⟩, M.e_inl hM hN40z, H⟩
  replace hM := M.e_f hM c45z
  simp only [q1, q2, q3, q4, q5, q6, ne_eq, q7] at c45z
  refine W.exit ?_
  have hX57z := M.e_inr hM hN40z
  subst hX57z
  replace hM := hk33z
  try dsimp only at hM
  refine W.region rfl <| sM v_l rfl <| sM (I (r02.getD n 0)) rfl <| sM (I begin) rfl <| sM v_w_ rfl <| sM (I (r02.getD n 0)) rfl ?_
  obtain ⟨sd58z, hM⟩ := M.e_grd hM
  simp only [Bool.and_eq_true, decide_eq_true_eq] at sd58z
  refine s_val (x_ix (a := v_w_) (b := I (r02.getD n 0)) (v := vat v_w_ 3 (Int.toNat (r02.getD n 0))) rfl rfl (Sl.ix (α := Work) T39.und T39.size hs_w_ (by omega) (by omega))) <| s_val (x_fa (a := vat v_w_ 3 (Int.toNat (r02.getD n 0))) (v := fat (vat v_w_ 3 (Int.toNat (r02.getD n 0))) 2) rfl (fa_pl Fd138_2 Sz3 (Sl.pl (i := r02.getD n 0) hs_w_ (by omega) (by omega)))) <| s_val (x_ld (p := fat (vat v_w_ 3 (Int.toNat (r02.getD n 0))) 2) (v := I ((w_.getD (Int.toNat (r02.getD n 0)) default).minutes)) rfl (ld_sc Sc3 (At.mono (Work_at2 hs_w_ (i := r02.getD n 0) (by omega) (by omega)) (hC_w_.at H)))) ?_
  obtain ⟨sd59z, hM⟩ := M.e_grd hM
  simp only [Bool.and_eq_true, decide_eq_true_eq] at sd59z
  refine s_val (x_ari (a := begin) (b := (w_.getD (Int.toNat (r02.getD n 0)) default).minutes) (r := begin + ((w_.getD (Int.toNat (r02.getD n 0)) default).minutes)) rfl rfl rfl (by omega)) ?_
  obtain ⟨sd60z, hM⟩ := M.e_grd hM
  simp only [Bool.and_eq_true, decide_eq_true_eq] at sd60z
  refine s_val (x_ix (a := v_l) (b := I (r02.getD n 0)) (v := vat v_l 1 (Int.toNat (r02.getD n 0))) rfl rfl (Sl.ix (α := Int) T34.und T34.size (ownSl (H.get (k := 0) rfl)) (by omega) (by omega))) ?_
  refine t_ost (k := 0) (i := r02.getD n 0) (l := l.set (Int.toNat (r02.getD n 0)) (-1 : Int)) (l' := (l.set (Int.toNat (r02.getD n 0)) (-1 : Int)).set (Int.toNat (r02.getD n 0)) (begin + ((w_.getD (Int.toNat (r02.getD n 0)) default).minutes) : Int)) (val := I (begin + ((w_.getD (Int.toNat (r02.getD n 0)) default).minutes))) (L' := [cOwn (α := Int) 3 v_l ((l.set (Int.toNat (r02.getD n 0)) (-1 : Int)).set (Int.toNat (r02.getD n 0)) (begin + ((w_.getD (Int.toNat (r02.getD n 0)) default).minutes) : Int)), cOwn (α := Int) 3 u0_2 r02, cOwn (α := Int) 3 u0_1 r0]) H rfl Sz3 (by omega) (by omega) (begin + ((w_.getD (Int.toNat (r02.getD n 0)) default).minutes) : Int) rfl rfl rfl rfl rfl ?_
  intro w61z H
  refine s_nil <| W.region rfl <| sM (I (n : Int)) rfl <| s_val (x_ari (a := (n : Int)) (b := 1) (r := (n : Int) + 1) rfl rfl rfl (by omega)) <| sA (I ((n : Int) + 1)) rfl <| s_nil ?_
  exact ⟨m20z, lt21z, (l.set (Int.toNat (r02.getD n 0)) (-1 : Int)).set (Int.toNat (r02.getD n 0)) (begin + ((w_.getD (Int.toNat (r02.getD n 0)) default).minutes) : Int), n + 1, v_l, _, upds_of _ _ ⟨rfl, rfl, rfl, rfl, rfl, trivial⟩, M.e_inl hM hN23z, H⟩
 replace hM := M.e_f hM c25z
 simp only [q1, q2, q3, q4, q5, q6, ne_eq, q7] at c25z
 refine W.exit ?_
 have hX62z := M.e_inr hM hN23z
 subst hX62z
 replace hM := hk16z
 try dsimp only at hM
 refine W.seq <| W.region rfl <| sM v_l rfl <| sA v_l rfl <| sA (I 0) rfl <| s_nil ?_
 refine W.ret ?_
 have hr_ := M.e_pure hM
 exact ⟨_, resE_tmp2 rfl, ⟨l, 0, v_l, hr_, rfl, (H.pick [0] (by decide) rfl)⟩⟩

def m_nilometerref13_leads_b0 (w_ : List Work) (l : List Int) : Nat → M (Nat ⊕ (Unit ⊕ Unit)) := fun i =>
  M.grd (decide ((-9223372036854775808 : Int) ≤ ((i : Int) + 1)) && decide (((i : Int) + 1) ≤ (9223372036854775807 : Int))) <|
  bif decide (((i : Int) + 1) < (l.length : Int)) then (
  M.grd (decide ((0 : Int) ≤ ((i : Int) + 1)) && decide (((i : Int) + 1) < (l.length : Int))) <|
  M.grd (decide ((0 : Int) ≤ (l.getD (Int.toNat ((i : Int) + 1)) 0)) && decide ((l.getD (Int.toNat ((i : Int) + 1)) 0) < (w_.length : Int))) <|
  M.grd (decide ((i : Int) < (l.length : Int))) <|
  bif !(((w_.getD (Int.toNat (l.getD (Int.toNat ((i : Int) + 1)) 0)) default).of).contains (l.getD i 0)) then (
  M.pure (.inr (.inl ())))
  else (
  M.pure (.inl (i + 1))))
  else (
  M.pure (.inr (.inr ())))
def m_nilometerref13_leads (w_ : List Work) (l : List Int) : M Bool :=
  M.bind (M.iter (m_nilometerref13_leads_b0 w_ l) 0) fun x_ => match x_ with
  | (.inl (_ : Unit)) => (
  M.pure false)
  | (.inr (_ : Unit)) => (
  M.pure (decide (0 < (l.length : Int))))
theorem nilometerref13_leads_ok {R : List Chunk} {C_w_ : Cells} {v_w_ : Value} {C_l : Cells} {v_l : Value} (w_ : List Work) (l : List Int) (hC_w_ : Reads R C_w_) (hs_w_ : Sl C_w_ v_w_ w_) (hC_l : Reads R C_l) (hs_l : Sl C_l v_l l) {r : Bool} (hM : (m_nilometerref13_leads w_ l).Ends r) (w : World) (H : St w w [] R) : Ret Try.prog 105 #[v_w_, v_l] w fun v w' => ∃ (y0 : Bool), y0 = r ∧ v = B y0 ∧ St w w' [] R := by
 refine ret_of_W Try.func105 rfl rfl rfl ?_
 refine W.seq <| W.region rfl <| sA (B false) rfl <| s_nil <| W.seq <| W.seq <| W.region rfl <| sA (I 0) rfl <| s_nil <| W.block ?_
 obtain ⟨ex1z, hi2z, hk3z⟩ := M.e_bind hM
 obtain ⟨m0_, hi2z⟩ := M.e_iter hi2z
 refine W.loop (fun m σ W => ∃ (i : Nat) (ρ : Env), σ = upds ρ [(0, v_w_), (1, v_l), (5, I (i : Int))] ∧ M.iterN (m_nilometerref13_leads_b0 w_ l) m i = some ex1z ∧ St w W [] R) ?_ ?_
 ·exact ⟨_, 0, _, upds_of _ _ ⟨rfl, rfl, rfl, trivial⟩, hi2z, H⟩
 rintro m6z σ w4z ⟨i, ρ, rfl, hI5z, H⟩
 obtain ⟨m7z, lt8z, x9z, hM, hN10z⟩ := M.e_iterN hI5z
 simp only [m_nilometerref13_leads_b0] at hM
 clear hI5z
 refine W.seq <| W.seq <| W.region rfl <| sM (I (i : Int)) rfl ?_
 obtain ⟨sd11z, hM⟩ := M.e_grd hM
 simp only [Bool.and_eq_true, decide_eq_true_eq] at sd11z
 refine s_val (x_ari (a := (i : Int)) (b := 1) (r := (i : Int) + 1) rfl rfl rfl (by omega)) <| sM v_l rfl ?_
 have hl12z := (hs_l).len_le
 refine s_val (x_lenS T34.und rfl hs_l) <| sC ((i : Int) + 1) (l.length : Int) (decide (((i : Int) + 1) < (l.length : Int))) rfl rfl rfl <| s_nil ?_
 refine W.cond (decide (((i : Int) + 1) < (l.length : Int))) rfl (fun c13z => ?_) (fun c13z => ?_)
 ·replace hM := M.e_t hM c13z
  simp only [q1, q2, q3, q4, q5, q6, ne_eq, q7] at c13z
  refine W.skip <| W.seq <| W.block <| W.seq ?_
  refine W.draw (fun W => St w W [] R) [(0, true), (1, true), (2, true), (3, true), (4, true), (5, true), (6, true), (7, true), (8, true), (9, true), (10, true), (11, true), (12, true), (13, false), (14, true)] mixed (by decide +kernel) rfl ?_
  intro w14z hx_
  replace H : St w w14z [] R := H.ext hx_
  clear hx_
  refine ⟨(H.pick [] (by decide) rfl), ?_⟩
  refine d_q rfl (fun w' H => x_mv (v := v_w_) rfl) ?_
  refine d_q rfl (fun w' H => x_mv (v := v_l) rfl) ?_
  refine d_q rfl (fun w' H => x_mv (v := I (i : Int)) rfl) ?_
  refine d_q rfl (fun w' H => x_ari (a := (i : Int)) (b := 1) (r := (i : Int) + 1) rfl rfl rfl (by omega)) ?_
  obtain ⟨sd15z, hM⟩ := M.e_grd hM
  simp only [Bool.and_eq_true, decide_eq_true_eq] at sd15z
  refine d_q rfl (fun w' H => x_ix (a := v_l) (b := I ((i : Int) + 1)) (v := vat v_l 1 (Int.toNat ((i : Int) + 1))) rfl rfl (Sl.ix (α := Int) T34.und T34.size hs_l (by omega) (by omega))) ?_
  refine d_q rfl (fun w' H => x_ld (p := vat v_l 1 (Int.toNat ((i : Int) + 1))) (v := I (l.getD (Int.toNat ((i : Int) + 1)) 0)) rfl (ld_sc Sc3 (At.mono (Int_at hs_l (i := (i : Int) + 1) (by omega) (by omega)) (hC_l.at H)))) ?_
  obtain ⟨sd16z, hM⟩ := M.e_grd hM
  simp only [Bool.and_eq_true, decide_eq_true_eq] at sd16z
  refine d_q rfl (fun w' H => x_ix (a := v_w_) (b := I (l.getD (Int.toNat ((i : Int) + 1)) 0)) (v := vat v_w_ 3 (Int.toNat (l.getD (Int.toNat ((i : Int) + 1)) 0))) rfl rfl (Sl.ix (α := Work) T39.und T39.size hs_w_ (by omega) (by omega))) ?_
  refine d_q rfl (fun w' H => x_fa (a := vat v_w_ 3 (Int.toNat (l.getD (Int.toNat ((i : Int) + 1)) 0))) (v := fat (vat v_w_ 3 (Int.toNat (l.getD (Int.toNat ((i : Int) + 1)) 0))) 0) rfl (fa_pl Fd138_0 Sz34 (Sl.pl (i := l.getD (Int.toNat ((i : Int) + 1)) 0) hs_w_ (by omega) (by omega)))) ?_
  obtain ⟨u17z, ha_u17z, hs18z⟩ := Work_at0 hs_w_ (i := l.getD (Int.toNat ((i : Int) + 1)) 0) (by omega) (by omega)
  replace hs18z : Sl _ u17z (w_.getD (Int.toNat (l.getD (Int.toNat ((i : Int) + 1)) 0)) default).of := hs18z
  have hl_hs18z := hs18z.len_le
  refine d_q rfl (fun w' H => x_ld (p := fat (vat v_w_ 3 (Int.toNat (l.getD (Int.toNat ((i : Int) + 1)) 0))) 0) (v := u17z) rfl (ld_sc Sc34 (At.mono (ha_u17z) (hC_w_.at H)))) ?_
  refine d_q rfl (fun w' H => x_mv (v := v_l) rfl) ?_
  refine d_q rfl (fun w' H => x_mv (v := I (i : Int)) rfl) ?_
  obtain ⟨sd19z, hM⟩ := M.e_grd hM
  simp only [Bool.and_eq_true, decide_eq_true_eq] at sd19z
  refine d_q rfl (fun w' H => x_ix (a := v_l) (b := I (i : Int)) (v := vat v_l 1 (Int.toNat (i : Int))) rfl rfl (Sl.ix (α := Int) T34.und T34.size hs_l (by omega) (by omega))) ?_
  refine d_q rfl (fun w' H => x_ld (p := vat v_l 1 (Int.toNat (i : Int))) (v := I (l.getD i 0)) rfl (ld_sc Sc3 (At.mono (Int_at hs_l (i := (i : Int)) (by omega) (by omega)) (hC_l.at H)))) ?_
  refine d_l rfl ?_
  refine s_call cf95 [u17z, I (l.getD i 0)] rfl (has_any (l.getD i 0) _ (hs18z.mono (hC_w_.at H))) ?_
  rintro _ w20z ⟨rfl, hx_⟩
  replace H : St w w20z [] R := H.ext hx_
  clear hx_
  refine s_nil ⟨(H.pick [] (by decide) rfl), ?_⟩
  refine d_q rfl (fun w' H => x_not (b := ((w_.getD (Int.toNat (l.getD (Int.toNat ((i : Int) + 1)) 0)) default).of).contains (l.getD i 0)) rfl) ?_
  refine d_nil ?_
  refine W.cond (!(((w_.getD (Int.toNat (l.getD (Int.toNat ((i : Int) + 1)) 0)) default).of).contains (l.getD i 0))) rfl (fun c21z => ?_) (fun c21z => ?_)
  ·replace hM := M.e_t hM c21z
   refine W.seq <| W.region rfl <| sA (B false) rfl <| s_nil ?_
   refine W.ret ?_
   have hX22z := M.e_inr hM hN10z
   subst hX22z
   replace hM := hk3z
   try dsimp only at hM
   have hr_ := M.e_pure hM
   exact ⟨_, resE_tmp rfl, ⟨false, hr_, rfl, H⟩⟩
  replace hM := M.e_f hM c21z
  refine W.skip <| W.region rfl <| sM (I (i : Int)) rfl <| s_val (x_ari (a := (i : Int)) (b := 1) (r := (i : Int) + 1) rfl rfl rfl (by omega)) <| sA (I ((i : Int) + 1)) rfl <| s_nil ?_
  exact ⟨m7z, lt8z, i + 1, _, upds_of _ _ ⟨rfl, rfl, rfl, trivial⟩, M.e_inl hM hN10z, H⟩
 replace hM := M.e_f hM c13z
 simp only [q1, q2, q3, q4, q5, q6, ne_eq, q7] at c13z
 refine W.exit ?_
 have hX23z := M.e_inr hM hN10z
 subst hX23z
 replace hM := hk3z
 try dsimp only at hM
 refine W.seq <| W.region rfl <| sM v_l rfl ?_
 have hl24z := (hs_l).len_le
 refine s_val (x_lenS T34.und rfl hs_l) <| sC (l.length : Int) 0 (decide (0 < (l.length : Int))) rfl rfl rfl <| sA (B (decide (0 < (l.length : Int)))) rfl <| s_nil ?_
 refine W.ret ?_
 have hr_ := M.e_pure hM
 exact ⟨_, resE_tmp rfl, ⟨(decide (0 < (l.length : Int))), hr_, rfl, H⟩⟩

def m_nilometerref13_Leads_b0 (w_ : List Work) (l : List Int) : Nat → M (Nat ⊕ (Unit ⊕ Unit)) := fun i =>
  bif decide ((i : Int) < (l.length : Int)) then (
  M.grd (decide ((i : Int) < (l.length : Int))) <|
  bif outB (l.getD i 0) 0 ((w_.length : Int) - 1) then (
  M.pure (.inr (.inl ())))
  else (
  M.pure (.inl (i + 1))))
  else (
  M.pure (.inr (.inr ())))
def m_nilometerref13_Leads (w_ : List Work) (l : List Int) : M (Bool × Int) :=
  M.bind (m_nilometerref13_Check w_) fun r2 =>
  bif r2 != 0 then (
  M.pure (false, r2))
  else (
  M.bind (M.iter (m_nilometerref13_Leads_b0 w_ l) 0) fun x_ => match x_ with
  | (.inl (_ : Unit)) => (
  M.pure (false, 2))
  | (.inr (_ : Unit)) => (
  M.bind (m_nilometerref13_leads w_ l) fun r3 =>
  M.pure (r3, 0)))
theorem nilometerref13_Leads_ok {R : List Chunk} {C_w_ : Cells} {v_w_ : Value} {C_l : Cells} {v_l : Value} (w_ : List Work) (l : List Int) (hC_w_ : Reads R C_w_) (hs_w_ : Sl C_w_ v_w_ w_) (hC_l : Reads R C_l) (hs_l : Sl C_l v_l l) {r : (Bool × Int)} (hM : (m_nilometerref13_Leads w_ l).Ends r) (w : World) (H : St w w [] R) : Ret Try.prog 39 #[v_w_, v_l] w fun v w' => ∃ (y0 : Bool) (y1 : Int), (y0, y1) = r ∧ v = .tuple #[B y0, I y1] ∧ St w w' [] R := by
 refine ret_of_W Try.func39 rfl rfl rfl ?_
 refine W.seq <| W.region rfl <| sA (B false) rfl <| sA (I 0) rfl <| s_nil <| W.seq <| W.seq <| W.region rfl <| sM v_w_ rfl ?_
 obtain ⟨r2z, hx1z, hM⟩ := M.e_bind hM
 refine s_call cf71 [v_w_] rfl (nilometerref13_Check_ok w_ (hC_w_.app _) hs_w_ hx1z _ (St.give (T := []) H rfl)) ?_
 rintro vq w3z ⟨r2, hr4z, hvq, H2_⟩
 subst hr4z
 subst vq
 try dsimp only at hM
 replace H : St w w3z [] R := H.back H2_ rfl
 clear H2_
 refine sA (I r2) rfl <| s_nil <| W.seq <| W.region rfl <| sM (I r2) rfl <| sC r2 0 (r2 != 0) rfl rfl rfl <| s_nil ?_
 refine W.cond (r2 != 0) rfl (fun c5z => ?_) (fun c5z => ?_)
 ·replace hM := M.e_t hM c5z
  simp only [q1, q2, q3, q4, q5, q6, ne_eq, q7] at c5z
  refine W.seq <| W.region rfl <| sM (I r2) rfl <| sA (B false) rfl <| sA (I r2) rfl <| s_nil ?_
  refine W.ret ?_
  have hr_ := M.e_pure hM
  exact ⟨_, resE_tmp2 rfl, ⟨false, r2, hr_, rfl, H⟩⟩
 replace hM := M.e_f hM c5z
 simp only [q1, q2, q3, q4, q5, q6, ne_eq, q7] at c5z
 refine W.skip <| W.seq <| W.seq <| W.region rfl <| sA (I 0) rfl <| s_nil <| W.block ?_
 obtain ⟨ex6z, hi7z, hk8z⟩ := M.e_bind hM
 obtain ⟨m0_, hi7z⟩ := M.e_iter hi7z
 refine W.loop (fun m σ W => ∃ (i : Nat) (ρ : Env), σ = upds ρ [(0, v_w_), (1, v_l), (7, I (i : Int))] ∧ M.iterN (m_nilometerref13_Leads_b0 w_ l) m i = some ex6z ∧ St w W [] R) ?_ ?_
 ·exact ⟨_, 0, _, upds_of _ _ ⟨rfl, rfl, rfl, trivial⟩, hi7z, H⟩
 rintro m11z σ w9z ⟨i, ρ, rfl, hI10z, H⟩
 obtain ⟨m12z, lt13z, x14z, hM, hN15z⟩ := M.e_iterN hI10z
 simp only [m_nilometerref13_Leads_b0] at hM
 clear hI10z
 refine W.seq <| W.seq <| W.region rfl <| sM (I (i : Int)) rfl <| sM v_l rfl ?_
 have hl16z := (hs_l).len_le
 refine s_val (x_lenS T34.und rfl hs_l) <| sC (i : Int) (l.length : Int) (decide ((i : Int) < (l.length : Int))) rfl rfl rfl <| s_nil ?_
 refine W.cond (decide ((i : Int) < (l.length : Int))) rfl (fun c17z => ?_) (fun c17z => ?_)
 ·replace hM := M.e_t hM c17z
  simp only [q1, q2, q3, q4, q5, q6, ne_eq, q7] at c17z
  refine W.skip <| W.seq <| W.block <| W.seq <| W.region rfl <| sM v_l rfl <| sM (I (i : Int)) rfl ?_
  obtain ⟨sd18z, hM⟩ := M.e_grd hM
  simp only [Bool.and_eq_true, decide_eq_true_eq] at sd18z
  refine s_val (x_ix (a := v_l) (b := I (i : Int)) (v := vat v_l 1 (Int.toNat (i : Int))) rfl rfl (Sl.ix (α := Int) T34.und T34.size hs_l (by omega) (by omega))) <| s_val (x_ld (p := vat v_l 1 (Int.toNat (i : Int))) (v := I (l.getD i 0)) rfl (ld_sc Sc3 (At.mono (Int_at hs_l (i := (i : Int)) (by omega) (by omega)) (hC_l.at H)))) <| sM v_w_ rfl ?_
  have hl19z := (hs_w_).len_le
  refine s_val (x_lenS T39.und rfl hs_w_) <| s_val (x_ari (a := (w_.length : Int)) (b := 1) (r := (w_.length : Int) - 1) rfl rfl rfl (by omega)) ?_
  refine s_call cf89 [I (l.getD i 0), I 0, I ((w_.length : Int) - 1)] rfl (outside_any (l.getD i 0) 0 ((w_.length : Int) - 1) _) ?_
  rintro _ w20z ⟨rfl, hx_⟩
  replace H : St w w20z [] R := H.ext hx_
  clear hx_
  refine s_nil ?_
  refine W.cond (outB (l.getD i 0) 0 ((w_.length : Int) - 1)) rfl (fun c21z => ?_) (fun c21z => ?_)
  ·replace hM := M.e_t hM c21z
   refine W.seq <| W.region rfl <| sA (B false) rfl <| sA (I 2) rfl <| s_nil ?_
   refine W.ret ?_
   have hX22z := M.e_inr hM hN15z
   subst hX22z
   replace hM := hk8z
   try dsimp only at hM
   have hr_ := M.e_pure hM
   exact ⟨_, resE_tmp2 rfl, ⟨false, 2, hr_, rfl, H⟩⟩
  replace hM := M.e_f hM c21z
  refine W.skip <| W.region rfl <| sM (I (i : Int)) rfl <| s_val (x_ari (a := (i : Int)) (b := 1) (r := (i : Int) + 1) rfl rfl rfl (by omega)) <| sA (I ((i : Int) + 1)) rfl <| s_nil ?_
  exact ⟨m12z, lt13z, i + 1, _, upds_of _ _ ⟨rfl, rfl, rfl, trivial⟩, M.e_inl hM hN15z, H⟩
 replace hM := M.e_f hM c17z
 simp only [q1, q2, q3, q4, q5, q6, ne_eq, q7] at c17z
 refine W.exit ?_
 have hX23z := M.e_inr hM hN15z
 subst hX23z
 replace hM := hk8z
 try dsimp only at hM
 refine W.seq <| W.region rfl <| sM v_w_ rfl <| sM v_l rfl ?_
 obtain ⟨r25z, hx24z, hM⟩ := M.e_bind hM
 refine s_call cf105 [v_w_, v_l] rfl (nilometerref13_leads_ok w_ l (hC_w_.app _) hs_w_ (hC_l.app _) hs_l hx24z _ (St.give (T := []) H rfl)) ?_
 rintro vq w26z ⟨r3, hr27z, hvq, H2_⟩
 subst hr27z
 subst vq
 try dsimp only at hM
 replace H : St w w26z [] R := H.back H2_ rfl
 clear H2_
 refine sA (B r3) rfl <| sA (I 0) rfl <| s_nil ?_
 refine W.ret ?_
 have hr_ := M.e_pure hM
 exact ⟨_, resE_tmp2 rfl, ⟨r3, 0, hr_, rfl, H⟩⟩

def m_nilometerlaw13_NotesStale_b1 (r0 : List Int) (l3 : List Int) (s3 : Nat) : (Bool × Nat) → M ((Bool × Nat) ⊕ Bool) := fun (there, s2) =>
  bif decide ((s2 : Int) < (r0.length : Int)) then (
  M.grd (decide ((s2 : Int) < (r0.length : Int))) <|
  M.pure (.inl ((there || ((r0.getD s2 0) == (l3.getD s3 0))), s2 + 1)))
  else (
  M.pure (.inr there))
def m_nilometerlaw13_NotesStale_b2 (w_ : List Work) (r0 : List Int) (l3 : List Int) : (Int × Nat) → M ((Int × Nat) ⊕ (Unit ⊕ Int)) := fun (sum, s3) =>
  bif decide ((s3 : Int) < (l3.length : Int)) then (
  M.grd (decide ((s3 : Int) < (l3.length : Int))) <|
  M.grd (decide ((0 : Int) ≤ (l3.getD s3 0)) && decide ((l3.getD s3 0) < (w_.length : Int))) <|
  M.grd (decide ((-9223372036854775808 : Int) ≤ (sum + ((w_.getD (Int.toNat (l3.getD s3 0)) default).minutes))) && decide ((sum + ((w_.getD (Int.toNat (l3.getD s3 0)) default).minutes)) ≤ (9223372036854775807 : Int))) <|
  M.bind (M.iter (m_nilometerlaw13_NotesStale_b1 r0 l3 s3) (false, 0)) fun there2 =>
  bif !there2 then (
  M.pure (.inr (.inl ())))
  else (
  M.pure (.inl (sum + ((w_.getD (Int.toNat (l3.getD s3 0)) default).minutes), s3 + 1))))
  else (
  M.pure (.inr (.inr sum)))
def m_nilometerlaw13_NotesStale_b3 (r04 : List Int) : (Int × Nat) → M ((Int × Nat) ⊕ Int) := fun (most, s4) =>
  bif decide ((s4 : Int) < (r04.length : Int)) then (
  M.grd (decide ((s4 : Int) < (r04.length : Int))) <|
  M.pure (.inl (max most (r04.getD s4 0), s4 + 1)))
  else (
  M.pure (.inr most))
def m_nilometerlaw13_NotesStale_b5 (r0 : List Int) (l3 : List Int) (s3 : Nat) : (Bool × Nat) → M ((Bool × Nat) ⊕ Bool) := fun (there, s2) =>
  bif decide ((s2 : Int) < (r0.length : Int)) then (
  M.grd (decide ((s2 : Int) < (r0.length : Int))) <|
  M.pure (.inl ((there || ((r0.getD s2 0) == (l3.getD s3 0))), s2 + 1)))
  else (
  M.pure (.inr there))
def m_nilometerlaw13_NotesStale_b6 (w_ : List Work) (r0 : List Int) (l3 : List Int) : (Int × Nat) → M ((Int × Nat) ⊕ (Unit ⊕ Int)) := fun (sum, s3) =>
  bif decide ((s3 : Int) < (l3.length : Int)) then (
  M.grd (decide ((s3 : Int) < (l3.length : Int))) <|
  M.grd (decide ((0 : Int) ≤ (l3.getD s3 0)) && decide ((l3.getD s3 0) < (w_.length : Int))) <|
  M.grd (decide ((-9223372036854775808 : Int) ≤ (sum + ((w_.getD (Int.toNat (l3.getD s3 0)) default).minutes))) && decide ((sum + ((w_.getD (Int.toNat (l3.getD s3 0)) default).minutes)) ≤ (9223372036854775807 : Int))) <|
  M.bind (M.iter (m_nilometerlaw13_NotesStale_b5 r0 l3 s3) (false, 0)) fun there2 =>
  bif !there2 then (
  M.pure (.inr (.inl ())))
  else (
  M.pure (.inl (sum + ((w_.getD (Int.toNat (l3.getD s3 0)) default).minutes), s3 + 1))))
  else (
  M.pure (.inr (.inr sum)))
def m_nilometerlaw13_NotesStale_b7 (r04 : List Int) : (Int × Nat) → M ((Int × Nat) ⊕ Int) := fun (most, s4) =>
  bif decide ((s4 : Int) < (r04.length : Int)) then (
  M.grd (decide ((s4 : Int) < (r04.length : Int))) <|
  M.pure (.inl (max most (r04.getD s4 0), s4 + 1)))
  else (
  M.pure (.inr most))
def m_nilometerlaw13_NotesStale (w_ : List Work) (revised : List Int) (fence : List Int) : M Bool :=
  bif !(littleB w_ ([revised, fence])) then (
  M.bind (m_nilometerlaw13_awake) fun r2 =>
  M.pure r2)
  else (
  M.bind (m_nilometerlaw13_CopyWorks w_) fun r3 =>
  M.grd (decide (revised.length ≤ 1000000)) <|
  M.grd (decide (fence.length ≤ 1000000)) <|
  M.bind (M.pure (staleR r3 revised, askedE r3 revised)) fun (l, e) =>
  M.bind (m_nilometerlaw13_Works w_) fun r4 =>
  M.bind (m_nilometerref13_Stale r4 revised) fun (r0, r1) =>
  bif ((!(decide (l = r0))) || (e != r1)) then (
  M.pure false)
  else (
  M.bind (m_notes_Fences r3 revised fence) fun (r02, r12) =>
  M.bind (m_nilometerlaw13_Works w_) fun r5 =>
  M.bind (m_nilometerref13_Fences r5 revised fence) fun (r03, r13) =>
  bif ((r02 != r03) || (r12 != r13)) then (
  M.pure false)
  else (
  M.bind (M.pure (readyR r3 revised, askedE r3 revised)) fun (l2, e2) =>
  M.bind (m_nilometerlaw13_Works w_) fun r6 =>
  M.bind (m_nilometerref13_Ready r6 revised) fun (r04, r14) =>
  M.bind (M.pure (decide (l2 = r04))) fun s =>
  bif ((!s) || (e2 != r14)) then (
  M.pure false)
  else (
  bif ((r14 == 0) && ((revised.length : Int) == 0)) then (
  M.bind (M.pure (longestR r3 revised, longestE r3 revised)) fun (l3, e3) =>
  bif ((e3 != 5) || ((e3 != 0) && (decide (0 < (l3.length : Int))))) then (
  M.pure false)
  else (
  bif e3 == 0 then (
  M.bind (m_nilometerlaw13_Works w_) fun r7 =>
  M.bind (m_nilometerref13_Leads r7 l3) fun (r05, r15) =>
  bif ((r15 != 0) || (!r05)) then (
  M.pure false)
  else (
  M.bind (M.iter (m_nilometerlaw13_NotesStale_b2 w_ r0 l3) (0, 0)) fun x_ => match x_ with
  | (.inl (_ : Unit)) => (
  M.pure false)
  | (.inr sum2) => (
  M.bind (M.iter (m_nilometerlaw13_NotesStale_b3 r04) (0, 0)) fun most2 =>
  bif sum2 != most2 then (
  M.pure false)
  else (
  M.bind (m_nilometerlaw13_same r3 w_) fun r8 =>
  M.bind (M.pure (decide (revised = revised))) fun s5 =>
  M.bind (M.pure (decide (fence = fence))) fun s6 =>
  M.bind (M.opt ((r8 && s5) && s6) (m_nilometerlaw13_awake) false) fun r9 =>
  M.pure (((r8 && s5) && s6) && r9)))))
  else (
  M.bind (m_nilometerlaw13_same r3 w_) fun r8 =>
  M.bind (M.pure (decide (revised = revised))) fun s5 =>
  M.bind (M.pure (decide (fence = fence))) fun s6 =>
  M.bind (M.opt ((r8 && s5) && s6) (m_nilometerlaw13_awake) false) fun r9 =>
  M.pure (((r8 && s5) && s6) && r9))))
  else (
  M.bind (M.pure (longestR r3 revised, longestE r3 revised)) fun (l3, e3) =>
  bif ((e3 != r14) || ((e3 != 0) && (decide (0 < (l3.length : Int))))) then (
  M.pure false)
  else (
  bif e3 == 0 then (
  M.bind (m_nilometerlaw13_Works w_) fun r7 =>
  M.bind (m_nilometerref13_Leads r7 l3) fun (r05, r15) =>
  bif ((r15 != 0) || (!r05)) then (
  M.pure false)
  else (
  M.bind (M.iter (m_nilometerlaw13_NotesStale_b6 w_ r0 l3) (0, 0)) fun x_ => match x_ with
  | (.inl (_ : Unit)) => (
  M.pure false)
  | (.inr sum2) => (
  M.bind (M.iter (m_nilometerlaw13_NotesStale_b7 r04) (0, 0)) fun most2 =>
  bif sum2 != most2 then (
  M.pure false)
  else (
  M.bind (m_nilometerlaw13_same r3 w_) fun r8 =>
  M.bind (M.pure (decide (revised = revised))) fun s5 =>
  M.bind (M.pure (decide (fence = fence))) fun s6 =>
  M.bind (M.opt ((r8 && s5) && s6) (m_nilometerlaw13_awake) false) fun r9 =>
  M.pure (((r8 && s5) && s6) && r9)))))
  else (
  M.bind (m_nilometerlaw13_same r3 w_) fun r8 =>
  M.bind (M.pure (decide (revised = revised))) fun s5 =>
  M.bind (M.pure (decide (fence = fence))) fun s6 =>
  M.bind (M.opt ((r8 && s5) && s6) (m_nilometerlaw13_awake) false) fun r9 =>
  M.pure (((r8 && s5) && s6) && r9))))))))
theorem nilometerlaw13_NotesStale_ok {R : List Chunk} {C_w_ : Cells} {v_w_ : Value} {C_revised : Cells} {v_revised : Value} {C_fence : Cells} {v_fence : Value} (w_ : List Work) (revised : List Int) (fence : List Int) (hC_w_ : Reads R C_w_) (hs_w_ : Sl C_w_ v_w_ w_) (hC_revised : Reads R C_revised) (hs_revised : Sl C_revised v_revised revised) (hC_fence : Reads R C_fence) (hs_fence : Sl C_fence v_fence fence) {r : Bool} (hM : (m_nilometerlaw13_NotesStale w_ revised fence).Ends r) (w : World) (H : St w w [] R) : Ret Try.prog 4 #[v_w_, v_revised, v_fence] w fun v w' => ∃ (y0 : Bool), y0 = r ∧ v = B y0 ∧ St w w' [] R := by
 refine ret_of_W Try.func4 rfl rfl rfl ?_
 refine W.seq <| W.region rfl <| sA (B false) rfl <| s_nil <| W.seq <| W.seq <| W.region rfl <| sM v_w_ rfl <| sM v_revised rfl <| sM v_fence rfl ?_
 obtain ⟨Bs_1, H⟩ := H.emptyE
 have hq1z := hs_revised
 replace hq1z := hq1z.mono (Cells.sup_l _ Bs_1.cells)
 have hq2z := hs_fence
 replace hq1z := hq1z.mono (Cells.sup_monoL (Cells.sup_l _ _) ((Reads.sup hC_revised hC_fence).at H) (roLe _ (H.get (k := 0) rfl)))
 replace hq2z := hq2z.mono ((Cells.sup_r (hC_revised.at H) (hC_fence.at H)).trans (Cells.sup_l _ Bs_1.cells))
 obtain ⟨rw3z, hrw_rw3z⟩ : ∃ r : Raw 0, r.cs = [v_revised] := ⟨Raw.of [v_revised] rfl (by simp only [List.all_cons, List.all_nil, Bool.true_and, Bool.and_true, Sl.oc hq1z]; try rfl), rfl⟩
 obtain ⟨rw4z, hrw_rw4z⟩ : ∃ r : Raw 0, r.cs = [v_fence] := ⟨Raw.of [v_fence] rfl (by simp only [List.all_cons, List.all_nil, Bool.true_and, Bool.and_true, Sl.oc hq2z]; try rfl), rfl⟩
 have hr5z : RepR (α := List Int) (Cells.sup (Cells.sup C_revised C_fence) Bs_1.cells) [rw3z, rw4z] [revised, fence] := .cons (by rw [hrw_rw3z]; exact ⟨_, rfl, hq1z⟩) <| .cons (by rw [hrw_rw4z]; exact ⟨_, rfl, hq2z⟩) <| .nil
 refine t_bs (α := Raw 0) T73 [v_revised, v_fence] [rw3z, rw4z] H rfl (.cons (by rw [show (Flat.enc rw3z : List Value) = rw3z.cs from rfl, hrw_rw3z]; exact Sl.cells hq1z) (Flat.rep_enc _ _) <| .cons (by rw [show (Flat.enc rw4z : List Value) = rw4z.cs from rfl, hrw_rw4z]; exact Sl.cells hq2z) (Flat.rep_enc _ _) <| .nil) rfl rfl rfl ?_
 intro v6z w7z H
 replace H : St w w7z [cOwn (α := Raw 0) 34 v6z ([rw3z, rw4z]), cRo Bs_1] R := H
 refine s_call cf16 [v_w_, v6z] rfl (little_any _ (hs_w_.mono (hC_w_.at H)) ((rowSl rfl (H.get (k := 0) rfl) (Cells.sup_le ((Reads.sup hC_revised hC_fence).at H) (roLe _ (H.get (k := 1) rfl))) hr5z).mono (Cells.sup_le (ownLe _ (H.get (k := 0) rfl)) (Cells.sup_le ((Reads.sup hC_revised hC_fence).at H) (roLe _ (H.get (k := 1) rfl)))))) ?_
 rintro _ w8z ⟨rfl, hx_⟩
 replace H : St w w8z [cOwn (α := Raw 0) 34 v6z ([rw3z, rw4z]), cRo Bs_1] R := H.ext hx_
 clear hx_
 refine s_val (x_not (b := littleB w_ ([revised, fence])) rfl) <| s_nil ?_
 refine W.cond (!(littleB w_ ([revised, fence]))) rfl (fun c9z => ?_) (fun c9z => ?_)
 ·replace hM := M.e_t hM c9z
  refine W.seq <| W.region rfl ?_
  obtain ⟨r11z, hx10z, hM⟩ := M.e_bind hM
  refine s_call cf17 [] rfl (nilometerlaw13_awake_ok hx10z _ (St.give (T := [cOwn (α := Raw 0) 34 v6z ([rw3z, rw4z]), cRo Bs_1]) H rfl)) ?_
  rintro vq w12z ⟨r2, hr13z, hvq, H2_⟩
  subst hr13z
  subst vq
  try dsimp only at hM
  replace H : St w w12z [cOwn (α := Raw 0) 34 v6z ([rw3z, rw4z]), cRo Bs_1] R := H.back H2_ rfl
  clear H2_
  refine sA (B r2) rfl <| s_nil ?_
  refine W.ret ?_
  have hr_ := M.e_pure hM
  exact ⟨_, resE_tmp rfl, ⟨r2, hr_, rfl, (H.pick [] (by decide) rfl)⟩⟩
 replace hM := M.e_f hM c9z
 refine W.skip <| W.seq <| W.region rfl <| sM v_w_ rfl ?_
 obtain ⟨r15z, hx14z, hM⟩ := M.e_bind hM
 refine s_call cf18 [v_w_] rfl (nilometerlaw13_CopyWorks_ok w_ (hC_w_.app _) hs_w_ hx14z _ (St.give (T := [cOwn (α := Raw 0) 34 v6z ([rw3z, rw4z]), cRo Bs_1]) H rfl)) ?_
 rintro vq w16z ⟨r3, u0_3, rr1_4, Bs2_5, hr17z, hvq, H2_, hf18z⟩
 subst hr17z
 subst vq
 try dsimp only at hM
 replace H : St w w16z [cOwn (α := Raw 2) 60 u0_3 rr1_4, cRo Bs2_5, cOwn (α := Raw 0) 34 v6z ([rw3z, rw4z]), cRo Bs_1] R := H.back H2_ rfl
 clear H2_
 refine sM v_revised rfl ?_
 obtain ⟨sd19z, hM⟩ := M.e_grd hM
 simp only [Bool.and_eq_true, decide_eq_true_eq] at sd19z
 refine s_call cf31 [v_revised] rfl (copy_int _ (hs_revised.mono (hC_revised.at H)) (by omega)) ?_
 rintro v21z w20z ⟨ho_, hx_⟩
 replace H : St w w20z [cOwn (α := Int) 3 v21z revised, cOwn (α := Raw 2) 60 u0_3 rr1_4, cRo Bs2_5, cOwn (α := Raw 0) 34 v6z ([rw3z, rw4z]), cRo Bs_1] R := H.ownOf hx_ ho_
 clear hx_ ho_
 refine sM v_fence rfl ?_
 obtain ⟨sd22z, hM⟩ := M.e_grd hM
 simp only [Bool.and_eq_true, decide_eq_true_eq] at sd22z
 refine s_call cf31 [v_fence] rfl (copy_int _ (hs_fence.mono (hC_fence.at H)) (by omega)) ?_
 rintro v24z w23z ⟨ho_, hx_⟩
 replace H : St w w23z [cOwn (α := Int) 3 v24z fence, cOwn (α := Int) 3 v21z revised, cOwn (α := Raw 2) 60 u0_3 rr1_4, cRo Bs2_5, cOwn (α := Raw 0) 34 v6z ([rw3z, rw4z]), cRo Bs_1] R := H.ownOf hx_ ho_
 clear hx_ ho_
 refine sA u0_3 rfl <| sA v21z rfl <| sA v24z rfl <| s_nil <| W.seq <| W.region rfl <| sM u0_3 rfl <| sM v21z rfl ?_
 obtain ⟨⟨l, e⟩, hx28z, hM⟩ := M.e_bind hM
 obtain ⟨hq29z, hq30z⟩ := Prod.mk.inj (M.e_pure hx28z)
 try dsimp only at hM
 refine s_call cf32 [u0_3, v21z] rfl (by have hc_ := (Stale_any _ ((rowSl rfl (H.get (k := 2) rfl) (Cells.sup_le (hC_w_.at H) (roLe _ (H.get (k := 3) rfl))) hf18z).mono (Cells.sup_le (ownLe _ (H.get (k := 2) rfl)) (Cells.sup_le (hC_w_.at H) (roLe _ (H.get (k := 3) rfl))))) ((ownSl (H.get (k := 1) rfl)).mono (ownLe _ (H.get (k := 1) rfl)))); rw [hq29z, hq30z] at hc_; exact hc_) ?_
 rintro _ w25z ⟨u26z, rfl, hs27z, hx_⟩
 obtain ⟨Bs_8, H, hs27z⟩ := H.fresh hx_ hs27z
 clear hx_
 have hl_hs27z := hs27z.len_le
 refine sM (.tuple #[u26z, I e]) rfl <| s_val (x_ext (vs := [u26z, I e]) (v := u26z) rfl rfl) <| s_val (x_ext (vs := [u26z, I e]) (v := I e) rfl rfl) <| sA u26z rfl <| sA (I e) rfl <| s_nil <| W.seq <| W.region rfl <| sM v_w_ rfl ?_
 obtain ⟨r32z, hx31z, hM⟩ := M.e_bind hM
 refine s_call cf23 [v_w_] rfl (nilometerlaw13_Works_ok w_ (hC_w_.app _) hs_w_ hx31z _ (St.give (T := [cRo Bs_8, cOwn (α := Int) 3 v24z fence, cOwn (α := Int) 3 v21z revised, cOwn (α := Raw 2) 60 u0_3 rr1_4, cRo Bs2_5, cOwn (α := Raw 0) 34 v6z ([rw3z, rw4z]), cRo Bs_1]) H rfl)) ?_
 rintro vq w33z ⟨r4, u0_9, rr1_10, Bs2_11, hr34z, hvq, H2_, hf35z⟩
 subst hr34z
 subst vq
 try dsimp only at hM
 replace H : St w w33z [cOwn (α := Raw 2) 138 u0_9 rr1_10, cRo Bs2_11, cRo Bs_8, cOwn (α := Int) 3 v24z fence, cOwn (α := Int) 3 v21z revised, cOwn (α := Raw 2) 60 u0_3 rr1_4, cRo Bs2_5, cOwn (α := Raw 0) 34 v6z ([rw3z, rw4z]), cRo Bs_1] R := H.back H2_ rfl
 clear H2_
 refine sM v_revised rfl ?_
 obtain ⟨r37z, hx36z, hM⟩ := M.e_bind hM
 refine s_call cf33 [u0_9, v_revised] rfl (nilometerref13_Stale_ok r4 revised (Reads.sup (Reads.of (k := 0) rfl ownLe) (Reads.of (k := 1) rfl roLe)) (rowSl rfl (H.get (k := 0) rfl) (roLe _ (H.get (k := 1) rfl)) hf35z) (hC_revised.app _) hs_revised hx36z _ (St.give (T := [cOwn (α := Raw 2) 138 u0_9 rr1_10, cRo Bs2_11, cRo Bs_8, cOwn (α := Int) 3 v24z fence, cOwn (α := Int) 3 v21z revised, cOwn (α := Raw 2) 60 u0_3 rr1_4, cRo Bs2_5, cOwn (α := Raw 0) 34 v6z ([rw3z, rw4z]), cRo Bs_1]) H rfl)) ?_
 rintro vq w38z ⟨r0, r1, u0_12, hr39z, hvq, H2_⟩
 subst hr39z
 subst vq
 try dsimp only at hM
 replace H : St w w38z [cOwn (α := Int) 3 u0_12 r0, cOwn (α := Raw 2) 138 u0_9 rr1_10, cRo Bs2_11, cRo Bs_8, cOwn (α := Int) 3 v24z fence, cOwn (α := Int) 3 v21z revised, cOwn (α := Raw 2) 60 u0_3 rr1_4, cRo Bs2_5, cOwn (α := Raw 0) 34 v6z ([rw3z, rw4z]), cRo Bs_1] R := H.back H2_ rfl
 clear H2_
 refine sM (.tuple #[u0_12, I r1]) rfl <| s_val (x_ext (vs := [u0_12, I r1]) (v := u0_12) rfl rfl) <| s_val (x_ext (vs := [u0_12, I r1]) (v := I r1) rfl rfl) <| sA u0_12 rfl <| sA (I r1) rfl <| s_nil <| W.seq <| W.seq <| W.region rfl <| sM u26z rfl <| sM u0_12 rfl ?_
 refine s_call cf25 [u26z, u0_12] rfl (same_int _ (hs27z.mono (roLe _ (H.get (k := 3) rfl))) ((ownSl (H.get (k := 0) rfl)).mono (ownLe _ (H.get (k := 0) rfl)))) ?_
 rintro _ w40z ⟨rfl, hx_⟩
 replace H : St w w40z [cOwn (α := Int) 3 u0_12 r0, cOwn (α := Raw 2) 138 u0_9 rr1_10, cRo Bs2_11, cRo Bs_8, cOwn (α := Int) 3 v24z fence, cOwn (α := Int) 3 v21z revised, cOwn (α := Raw 2) 60 u0_3 rr1_4, cRo Bs2_5, cOwn (α := Raw 0) 34 v6z ([rw3z, rw4z]), cRo Bs_1] R := H.ext hx_
 clear hx_
 refine s_val (x_not (b := decide (l = r0)) rfl) <| sM (B (!(decide (l = r0)))) rfl <| g_val (!(!(decide (l = r0)))) (gy_f rfl) (fun hg => x_mv (v := I e) rfl) <| g_val (!(!(decide (l = r0)))) (gy_f rfl) (fun hg => x_mv (v := I r1) rfl) <| g_val (!(!(decide (l = r0)))) (gy_f rfl) (fun hg => x_cmp (kd := .i64) (a := e) (b := r1) (r := e != r1) (gd_of (c := !(!(decide (l = r0)))) hg (I e)) (gd_of (c := !(!(decide (l = r0)))) hg (I r1)) rfl) <| s_val (x_por (b := !(decide (l = r0))) (r := e != r1) rfl rfl (fun hb => gd_of (c := !(!(decide (l = r0)))) (by simp_all) (B (e != r1)))) <| s_nil ?_
 refine W.cond ((!(decide (l = r0))) || (e != r1)) rfl (fun c41z => ?_) (fun c41z => ?_)
 ·replace hM := M.e_t hM c41z
  refine W.seq <| W.region rfl <| sA (B false) rfl <| s_nil ?_
  refine W.ret ?_
  have hr_ := M.e_pure hM
  exact ⟨_, resE_tmp rfl, ⟨false, hr_, rfl, (H.pick [] (by decide) rfl)⟩⟩
 replace hM := M.e_f hM c41z
 refine W.skip <| W.seq <| W.region rfl <| sM u0_3 rfl <| sM v21z rfl <| sM v24z rfl ?_
 obtain ⟨r43z, hx42z, hM⟩ := M.e_bind hM
 refine s_call cf34 [u0_3, v21z, v24z] rfl (notes_Fences_ok r3 revised fence (Reads.sup (Reads.of (k := 6) rfl ownLe) (Reads.sup (hC_w_.app _) (Reads.of (k := 7) rfl roLe))) (rowSl rfl (H.get (k := 6) rfl) (Cells.sup_le (hC_w_.at H) (roLe _ (H.get (k := 7) rfl))) hf18z) (Reads.of (k := 5) rfl ownLe) (ownSl (H.get (k := 5) rfl)) (Reads.of (k := 4) rfl ownLe) (ownSl (H.get (k := 4) rfl)) hx42z _ (St.give (T := [cOwn (α := Int) 3 u0_12 r0, cOwn (α := Raw 2) 138 u0_9 rr1_10, cRo Bs2_11, cRo Bs_8, cOwn (α := Int) 3 v24z fence, cOwn (α := Int) 3 v21z revised, cOwn (α := Raw 2) 60 u0_3 rr1_4, cRo Bs2_5, cOwn (α := Raw 0) 34 v6z ([rw3z, rw4z]), cRo Bs_1]) H rfl)) ?_
 rintro vq w44z ⟨r02, r12, hr45z, hvq, H2_⟩
 subst hr45z
 subst vq
 try dsimp only at hM
 replace H : St w w44z [cOwn (α := Int) 3 u0_12 r0, cOwn (α := Raw 2) 138 u0_9 rr1_10, cRo Bs2_11, cRo Bs_8, cOwn (α := Int) 3 v24z fence, cOwn (α := Int) 3 v21z revised, cOwn (α := Raw 2) 60 u0_3 rr1_4, cRo Bs2_5, cOwn (α := Raw 0) 34 v6z ([rw3z, rw4z]), cRo Bs_1] R := H.back H2_ rfl
 clear H2_
 refine sM (.tuple #[B r02, I r12]) rfl <| s_val (x_ext (vs := [B r02, I r12]) (v := B r02) rfl rfl) <| s_val (x_ext (vs := [B r02, I r12]) (v := I r12) rfl rfl) <| sA (B r02) rfl <| sA (I r12) rfl <| s_nil <| W.seq <| W.region rfl <| sM v_w_ rfl ?_
 obtain ⟨r47z, hx46z, hM⟩ := M.e_bind hM
 refine s_call cf23 [v_w_] rfl (nilometerlaw13_Works_ok w_ (hC_w_.app _) hs_w_ hx46z _ (St.give (T := [cOwn (α := Int) 3 u0_12 r0, cOwn (α := Raw 2) 138 u0_9 rr1_10, cRo Bs2_11, cRo Bs_8, cOwn (α := Int) 3 v24z fence, cOwn (α := Int) 3 v21z revised, cOwn (α := Raw 2) 60 u0_3 rr1_4, cRo Bs2_5, cOwn (α := Raw 0) 34 v6z ([rw3z, rw4z]), cRo Bs_1]) H rfl)) ?_
 rintro vq w48z ⟨r5, u0_13, rr1_14, Bs2_15, hr49z, hvq, H2_, hf50z⟩
 subst hr49z
 subst vq
 try dsimp only at hM
 replace H : St w w48z [cOwn (α := Raw 2) 138 u0_13 rr1_14, cRo Bs2_15, cOwn (α := Int) 3 u0_12 r0, cOwn (α := Raw 2) 138 u0_9 rr1_10, cRo Bs2_11, cRo Bs_8, cOwn (α := Int) 3 v24z fence, cOwn (α := Int) 3 v21z revised, cOwn (α := Raw 2) 60 u0_3 rr1_4, cRo Bs2_5, cOwn (α := Raw 0) 34 v6z ([rw3z, rw4z]), cRo Bs_1] R := H.back H2_ rfl
 clear H2_
 refine sM v_revised rfl <| sM v_fence rfl ?_
 obtain ⟨r52z, hx51z, hM⟩ := M.e_bind hM
 refine s_call cf35 [u0_13, v_revised, v_fence] rfl (nilometerref13_Fences_ok r5 revised fence (Reads.sup (Reads.of (k := 0) rfl ownLe) (Reads.of (k := 1) rfl roLe)) (rowSl rfl (H.get (k := 0) rfl) (roLe _ (H.get (k := 1) rfl)) hf50z) (hC_revised.app _) hs_revised (hC_fence.app _) hs_fence hx51z _ (St.give (T := [cOwn (α := Raw 2) 138 u0_13 rr1_14, cRo Bs2_15, cOwn (α := Int) 3 u0_12 r0, cOwn (α := Raw 2) 138 u0_9 rr1_10, cRo Bs2_11, cRo Bs_8, cOwn (α := Int) 3 v24z fence, cOwn (α := Int) 3 v21z revised, cOwn (α := Raw 2) 60 u0_3 rr1_4, cRo Bs2_5, cOwn (α := Raw 0) 34 v6z ([rw3z, rw4z]), cRo Bs_1]) H rfl)) ?_
 rintro vq w53z ⟨r03, r13, hr54z, hvq, H2_⟩
 subst hr54z
 subst vq
 try dsimp only at hM
 replace H : St w w53z [cOwn (α := Raw 2) 138 u0_13 rr1_14, cRo Bs2_15, cOwn (α := Int) 3 u0_12 r0, cOwn (α := Raw 2) 138 u0_9 rr1_10, cRo Bs2_11, cRo Bs_8, cOwn (α := Int) 3 v24z fence, cOwn (α := Int) 3 v21z revised, cOwn (α := Raw 2) 60 u0_3 rr1_4, cRo Bs2_5, cOwn (α := Raw 0) 34 v6z ([rw3z, rw4z]), cRo Bs_1] R := H.back H2_ rfl
 clear H2_
 refine sM (.tuple #[B r03, I r13]) rfl <| s_val (x_ext (vs := [B r03, I r13]) (v := B r03) rfl rfl) <| s_val (x_ext (vs := [B r03, I r13]) (v := I r13) rfl rfl) <| sA (B r03) rfl <| sA (I r13) rfl <| s_nil <| W.seq <| W.seq <| W.region rfl <| sM (B r02) rfl <| sM (B r03) rfl <| s_val (x_eqb (a := r02) (b := r03) (r := (r02 != r03)) rfl rfl Try.underlying4 rfl) ?_
 refine sM (B (r02 != r03)) rfl <| g_val (!(r02 != r03)) (gy_f rfl) (fun hg => x_mv (v := I r12) rfl) <| g_val (!(r02 != r03)) (gy_f rfl) (fun hg => x_mv (v := I r13) rfl) <| g_val (!(r02 != r03)) (gy_f rfl) (fun hg => x_cmp (kd := .i64) (a := r12) (b := r13) (r := r12 != r13) (gd_of (c := !(r02 != r03)) hg (I r12)) (gd_of (c := !(r02 != r03)) hg (I r13)) rfl) <| s_val (x_por (b := (r02 != r03)) (r := r12 != r13) rfl rfl (fun hb => gd_of (c := !(r02 != r03)) (by simp_all) (B (r12 != r13)))) <| s_nil ?_
 refine W.cond ((r02 != r03) || (r12 != r13)) rfl (fun c55z => ?_) (fun c55z => ?_)
 ·replace hM := M.e_t hM c55z
  refine W.seq <| W.region rfl <| sA (B false) rfl <| s_nil ?_
  refine W.ret ?_
  have hr_ := M.e_pure hM
  exact ⟨_, resE_tmp rfl, ⟨false, hr_, rfl, (H.pick [] (by decide) rfl)⟩⟩
 replace hM := M.e_f hM c55z
 refine W.skip <| W.seq <| W.region rfl <| sM u0_3 rfl <| sM v21z rfl ?_
 obtain ⟨⟨l2, e2⟩, hx59z, hM⟩ := M.e_bind hM
 obtain ⟨hq60z, hq61z⟩ := Prod.mk.inj (M.e_pure hx59z)
 try dsimp only at hM
 refine s_call cf36 [u0_3, v21z] rfl (by have hc_ := (Ready_any _ ((rowSl rfl (H.get (k := 8) rfl) (Cells.sup_le (hC_w_.at H) (roLe _ (H.get (k := 9) rfl))) hf18z).mono (Cells.sup_le (ownLe _ (H.get (k := 8) rfl)) (Cells.sup_le (hC_w_.at H) (roLe _ (H.get (k := 9) rfl))))) ((ownSl (H.get (k := 7) rfl)).mono (ownLe _ (H.get (k := 7) rfl)))); rw [hq60z, hq61z] at hc_; exact hc_) ?_
 rintro _ w56z ⟨u57z, rfl, hs58z, hx_⟩
 obtain ⟨Bs_16, H, hs58z⟩ := H.fresh hx_ hs58z
 clear hx_
 have hl_hs58z := hs58z.len_le
 refine sM (.tuple #[u57z, I e2]) rfl <| s_val (x_ext (vs := [u57z, I e2]) (v := u57z) rfl rfl) <| s_val (x_ext (vs := [u57z, I e2]) (v := I e2) rfl rfl) <| sA u57z rfl <| sA (I e2) rfl <| s_nil <| W.seq <| W.region rfl <| sM v_w_ rfl ?_
 obtain ⟨r63z, hx62z, hM⟩ := M.e_bind hM
 refine s_call cf23 [v_w_] rfl (nilometerlaw13_Works_ok w_ (hC_w_.app _) hs_w_ hx62z _ (St.give (T := [cRo Bs_16, cOwn (α := Raw 2) 138 u0_13 rr1_14, cRo Bs2_15, cOwn (α := Int) 3 u0_12 r0, cOwn (α := Raw 2) 138 u0_9 rr1_10, cRo Bs2_11, cRo Bs_8, cOwn (α := Int) 3 v24z fence, cOwn (α := Int) 3 v21z revised, cOwn (α := Raw 2) 60 u0_3 rr1_4, cRo Bs2_5, cOwn (α := Raw 0) 34 v6z ([rw3z, rw4z]), cRo Bs_1]) H rfl)) ?_
 rintro vq w64z ⟨r6, u0_17, rr1_18, Bs2_19, hr65z, hvq, H2_, hf66z⟩
 subst hr65z
 subst vq
 try dsimp only at hM
 replace H : St w w64z [cOwn (α := Raw 2) 138 u0_17 rr1_18, cRo Bs2_19, cRo Bs_16, cOwn (α := Raw 2) 138 u0_13 rr1_14, cRo Bs2_15, cOwn (α := Int) 3 u0_12 r0, cOwn (α := Raw 2) 138 u0_9 rr1_10, cRo Bs2_11, cRo Bs_8, cOwn (α := Int) 3 v24z fence, cOwn (α := Int) 3 v21z revised, cOwn (α := Raw 2) 60 u0_3 rr1_4, cRo Bs2_5, cOwn (α := Raw 0) 34 v6z ([rw3z, rw4z]), cRo Bs_1] R := H.back H2_ rfl
 clear H2_
 refine sM v_revised rfl ?_
 obtain ⟨r68z, hx67z, hM⟩ := M.e_bind hM
 refine s_call cf37 [u0_17, v_revised] rfl (nilometerref13_Ready_ok r6 revised (Reads.sup (Reads.of (k := 0) rfl ownLe) (Reads.of (k := 1) rfl roLe)) (rowSl rfl (H.get (k := 0) rfl) (roLe _ (H.get (k := 1) rfl)) hf66z) (hC_revised.app _) hs_revised hx67z _ (St.give (T := [cOwn (α := Raw 2) 138 u0_17 rr1_18, cRo Bs2_19, cRo Bs_16, cOwn (α := Raw 2) 138 u0_13 rr1_14, cRo Bs2_15, cOwn (α := Int) 3 u0_12 r0, cOwn (α := Raw 2) 138 u0_9 rr1_10, cRo Bs2_11, cRo Bs_8, cOwn (α := Int) 3 v24z fence, cOwn (α := Int) 3 v21z revised, cOwn (α := Raw 2) 60 u0_3 rr1_4, cRo Bs2_5, cOwn (α := Raw 0) 34 v6z ([rw3z, rw4z]), cRo Bs_1]) H rfl)) ?_
 rintro vq w69z ⟨r04, r14, u0_20, hr70z, hvq, H2_⟩
 subst hr70z
 subst vq
 try dsimp only at hM
 replace H : St w w69z [cOwn (α := Int) 3 u0_20 r04, cOwn (α := Raw 2) 138 u0_17 rr1_18, cRo Bs2_19, cRo Bs_16, cOwn (α := Raw 2) 138 u0_13 rr1_14, cRo Bs2_15, cOwn (α := Int) 3 u0_12 r0, cOwn (α := Raw 2) 138 u0_9 rr1_10, cRo Bs2_11, cRo Bs_8, cOwn (α := Int) 3 v24z fence, cOwn (α := Int) 3 v21z revised, cOwn (α := Raw 2) 60 u0_3 rr1_4, cRo Bs2_5, cOwn (α := Raw 0) 34 v6z ([rw3z, rw4z]), cRo Bs_1] R := H.back H2_ rfl
 clear H2_
 refine sM (.tuple #[u0_20, I r14]) rfl <| s_val (x_ext (vs := [u0_20, I r14]) (v := u0_20) rfl rfl) <| s_val (x_ext (vs := [u0_20, I r14]) (v := I r14) rfl rfl) <| sA u0_20 rfl <| sA (I r14) rfl <| s_nil <| W.seq <| W.seq <| W.region rfl <| sM u57z rfl <| sM u0_20 rfl ?_
 obtain ⟨s, hx71z, hM⟩ := M.e_bind hM
 replace hx71z := M.e_pure hx71z
 refine s_call cf25 [u57z, u0_20] rfl (by have hc_ := (same_int _ (hs58z.mono (roLe _ (H.get (k := 3) rfl))) ((ownSl (H.get (k := 0) rfl)).mono (ownLe _ (H.get (k := 0) rfl)))); rw [hx71z] at hc_; exact hc_) ?_
 rintro _ w72z ⟨rfl, hx_⟩
 replace H : St w w72z [cOwn (α := Int) 3 u0_20 r04, cOwn (α := Raw 2) 138 u0_17 rr1_18, cRo Bs2_19, cRo Bs_16, cOwn (α := Raw 2) 138 u0_13 rr1_14, cRo Bs2_15, cOwn (α := Int) 3 u0_12 r0, cOwn (α := Raw 2) 138 u0_9 rr1_10, cRo Bs2_11, cRo Bs_8, cOwn (α := Int) 3 v24z fence, cOwn (α := Int) 3 v21z revised, cOwn (α := Raw 2) 60 u0_3 rr1_4, cRo Bs2_5, cOwn (α := Raw 0) 34 v6z ([rw3z, rw4z]), cRo Bs_1] R := H.ext hx_
 clear hx_
 refine s_val (x_not (b := s) rfl) <| sM (B (!s)) rfl <| g_val (!(!s)) (gy_f rfl) (fun hg => x_mv (v := I e2) rfl) <| g_val (!(!s)) (gy_f rfl) (fun hg => x_mv (v := I r14) rfl) <| g_val (!(!s)) (gy_f rfl) (fun hg => x_cmp (kd := .i64) (a := e2) (b := r14) (r := e2 != r14) (gd_of (c := !(!s)) hg (I e2)) (gd_of (c := !(!s)) hg (I r14)) rfl) <| s_val (x_por (b := !s) (r := e2 != r14) rfl rfl (fun hb => gd_of (c := !(!s)) (by simp_all) (B (e2 != r14)))) <| s_nil ?_
 refine W.cond ((!s) || (e2 != r14)) rfl (fun c73z => ?_) (fun c73z => ?_)
 ·replace hM := M.e_t hM c73z
  refine W.seq <| W.region rfl <| sA (B false) rfl <| s_nil ?_
  refine W.ret ?_
  have hr_ := M.e_pure hM
  exact ⟨_, resE_tmp rfl, ⟨false, hr_, rfl, (H.pick [] (by decide) rfl)⟩⟩
 replace hM := M.e_f hM c73z
 refine W.skip <| W.seq <| W.seq <| W.region rfl <| sM (I r14) rfl <| sC r14 0 (r14 == 0) rfl rfl rfl <| sM (B (r14 == 0)) rfl <| g_val (r14 == 0) (gy_t rfl) (fun hg => x_mv (v := v_revised) rfl) <| g_val (r14 == 0) (gy_t rfl) (fun hg => x_lenS T34.und (gd_of (c := r14 == 0) hg (v_revised)) hs_revised) <| g_val (r14 == 0) (gy_t rfl) (fun hg => x_cmp (kd := .i64) (a := (revised.length : Int)) (b := 0) (r := (revised.length : Int) == 0) (gd_of (c := r14 == 0) hg (I (revised.length : Int))) rfl rfl) <| s_val (x_pand (b := r14 == 0) (r := (revised.length : Int) == 0) rfl (fun hb => gd_of (c := r14 == 0) (by simp_all) (B ((revised.length : Int) == 0))) rfl) <| s_nil ?_
 refine W.cond ((r14 == 0) && ((revised.length : Int) == 0)) rfl (fun c75z => ?_) (fun c75z => ?_)
 ·replace hM := M.e_t hM c75z
  refine W.region rfl <| sA (I 5) rfl <| s_nil <| W.seq <| W.region rfl <| sM u0_3 rfl <| sM v21z rfl ?_
  obtain ⟨⟨l3, e3⟩, hx79z, hM⟩ := M.e_bind hM
  obtain ⟨hq80z, hq81z⟩ := Prod.mk.inj (M.e_pure hx79z)
  try dsimp only at hM
  refine s_call cf38 [u0_3, v21z] rfl (by have hc_ := (Longest_any _ ((rowSl rfl (H.get (k := 12) rfl) (Cells.sup_le (hC_w_.at H) (roLe _ (H.get (k := 13) rfl))) hf18z).mono (Cells.sup_le (ownLe _ (H.get (k := 12) rfl)) (Cells.sup_le (hC_w_.at H) (roLe _ (H.get (k := 13) rfl))))) ((ownSl (H.get (k := 11) rfl)).mono (ownLe _ (H.get (k := 11) rfl)))); rw [hq80z, hq81z] at hc_; exact hc_) ?_
  rintro _ w76z ⟨u77z, rfl, hs78z, hx_⟩
  obtain ⟨Bs_21, H, hs78z⟩ := H.fresh hx_ hs78z
  clear hx_
  have hl_hs78z := hs78z.len_le
  refine sM (.tuple #[u77z, I e3]) rfl <| s_val (x_ext (vs := [u77z, I e3]) (v := u77z) rfl rfl) <| s_val (x_ext (vs := [u77z, I e3]) (v := I e3) rfl rfl) <| sA u77z rfl <| sA (I e3) rfl <| s_nil <| W.seq <| W.seq <| W.region rfl <| sM (I e3) rfl <| sM (I 5) rfl <| sC e3 5 (e3 != 5) rfl rfl rfl ?_
  refine sM (B (e3 != 5)) rfl <| g_val (!(e3 != 5)) (gy_f rfl) (fun hg => x_mv (v := I e3) rfl) <| g_val (!(e3 != 5)) (gy_f rfl) (fun hg => x_cmp (kd := .i64) (a := e3) (b := 0) (r := e3 != 0) (gd_of (c := !(e3 != 5)) hg (I e3)) rfl rfl) <| g_val (!(e3 != 5)) (gy_f rfl) (fun hg => x_mv (v := B (e3 != 0)) (gd_of (c := !(e3 != 5)) hg (B (e3 != 0)))) <| g_val ((!(e3 != 5)) && (e3 != 0)) (gy_gt rfl rfl) (fun hg => x_mv (v := u77z) rfl) <| g_val ((!(e3 != 5)) && (e3 != 0)) (gy_gt rfl rfl) (fun hg => x_lenS T34.und (gd_of (c := ((!(e3 != 5)) && (e3 != 0))) hg (u77z)) hs78z) <| g_val ((!(e3 != 5)) && (e3 != 0)) (gy_gt rfl rfl) (fun hg => x_cmp (kd := .i64) (a := (l3.length : Int)) (b := 0) (r := decide (0 < (l3.length : Int))) (gd_of (c := ((!(e3 != 5)) && (e3 != 0))) hg (I (l3.length : Int))) rfl rfl) <| g_val (!(e3 != 5)) (gy_f rfl) (fun hg => x_pand (b := e3 != 0) (r := decide (0 < (l3.length : Int))) (gd_of (c := !(e3 != 5)) hg (B (e3 != 0))) (fun hb => gd_of (c := ((!(e3 != 5)) && (e3 != 0))) (by simp_all) (B (decide (0 < (l3.length : Int))))) rfl) <| s_val (x_por (b := e3 != 5) (r := ((e3 != 0) && (decide (0 < (l3.length : Int))))) rfl rfl (fun hb => gd_of (c := !(e3 != 5)) (by simp_all) (B ((e3 != 0) && (decide (0 < (l3.length : Int))))))) <| s_nil ?_
  refine W.cond ((e3 != 5) || ((e3 != 0) && (decide (0 < (l3.length : Int))))) rfl (fun c83z => ?_) (fun c83z => ?_)
  ·replace hM := M.e_t hM c83z
   refine W.seq <| W.region rfl <| sA (B false) rfl <| s_nil ?_
   refine W.ret ?_
   have hr_ := M.e_pure hM
   exact ⟨_, resE_tmp rfl, ⟨false, hr_, rfl, (H.pick [] (by decide) rfl)⟩⟩
  replace hM := M.e_f hM c83z
  refine W.skip <| W.seq <| W.seq <| W.region rfl <| sM (I e3) rfl <| sC e3 0 (e3 == 0) rfl rfl rfl <| s_nil ?_
  refine W.cond (e3 == 0) rfl (fun c84z => ?_) (fun c84z => ?_)
  ·replace hM := M.e_t hM c84z
   simp only [q1, q2, q3, q4, q5, q6, ne_eq, q7] at c84z
   refine W.seq <| W.seq <| W.region rfl <| sM v_w_ rfl ?_
   obtain ⟨r86z, hx85z, hM⟩ := M.e_bind hM
   refine s_call cf23 [v_w_] rfl (nilometerlaw13_Works_ok w_ (hC_w_.app _) hs_w_ hx85z _ (St.give (T := [cRo Bs_21, cOwn (α := Int) 3 u0_20 r04, cOwn (α := Raw 2) 138 u0_17 rr1_18, cRo Bs2_19, cRo Bs_16, cOwn (α := Raw 2) 138 u0_13 rr1_14, cRo Bs2_15, cOwn (α := Int) 3 u0_12 r0, cOwn (α := Raw 2) 138 u0_9 rr1_10, cRo Bs2_11, cRo Bs_8, cOwn (α := Int) 3 v24z fence, cOwn (α := Int) 3 v21z revised, cOwn (α := Raw 2) 60 u0_3 rr1_4, cRo Bs2_5, cOwn (α := Raw 0) 34 v6z ([rw3z, rw4z]), cRo Bs_1]) H rfl)) ?_
   rintro vq w87z ⟨r7, u0_22, rr1_23, Bs2_24, hr88z, hvq, H2_, hf89z⟩
   subst hr88z
   subst vq
   try dsimp only at hM
   replace H : St w w87z [cOwn (α := Raw 2) 138 u0_22 rr1_23, cRo Bs2_24, cRo Bs_21, cOwn (α := Int) 3 u0_20 r04, cOwn (α := Raw 2) 138 u0_17 rr1_18, cRo Bs2_19, cRo Bs_16, cOwn (α := Raw 2) 138 u0_13 rr1_14, cRo Bs2_15, cOwn (α := Int) 3 u0_12 r0, cOwn (α := Raw 2) 138 u0_9 rr1_10, cRo Bs2_11, cRo Bs_8, cOwn (α := Int) 3 v24z fence, cOwn (α := Int) 3 v21z revised, cOwn (α := Raw 2) 60 u0_3 rr1_4, cRo Bs2_5, cOwn (α := Raw 0) 34 v6z ([rw3z, rw4z]), cRo Bs_1] R := H.back H2_ rfl
   clear H2_
   refine sM u77z rfl ?_
   obtain ⟨r91z, hx90z, hM⟩ := M.e_bind hM
   refine s_call cf39 [u0_22, u77z] rfl (nilometerref13_Leads_ok r7 l3 (Reads.sup (Reads.of (k := 0) rfl ownLe) (Reads.of (k := 1) rfl roLe)) (rowSl rfl (H.get (k := 0) rfl) (roLe _ (H.get (k := 1) rfl)) hf89z) (Reads.of (k := 2) rfl roLe) hs78z hx90z _ (St.give (T := [cOwn (α := Raw 2) 138 u0_22 rr1_23, cRo Bs2_24, cRo Bs_21, cOwn (α := Int) 3 u0_20 r04, cOwn (α := Raw 2) 138 u0_17 rr1_18, cRo Bs2_19, cRo Bs_16, cOwn (α := Raw 2) 138 u0_13 rr1_14, cRo Bs2_15, cOwn (α := Int) 3 u0_12 r0, cOwn (α := Raw 2) 138 u0_9 rr1_10, cRo Bs2_11, cRo Bs_8, cOwn (α := Int) 3 v24z fence, cOwn (α := Int) 3 v21z revised, cOwn (α := Raw 2) 60 u0_3 rr1_4, cRo Bs2_5, cOwn (α := Raw 0) 34 v6z ([rw3z, rw4z]), cRo Bs_1]) H rfl)) ?_
   rintro vq w92z ⟨r05, r15, hr93z, hvq, H2_⟩
   subst hr93z
   subst vq
   try dsimp only at hM
   replace H : St w w92z [cOwn (α := Raw 2) 138 u0_22 rr1_23, cRo Bs2_24, cRo Bs_21, cOwn (α := Int) 3 u0_20 r04, cOwn (α := Raw 2) 138 u0_17 rr1_18, cRo Bs2_19, cRo Bs_16, cOwn (α := Raw 2) 138 u0_13 rr1_14, cRo Bs2_15, cOwn (α := Int) 3 u0_12 r0, cOwn (α := Raw 2) 138 u0_9 rr1_10, cRo Bs2_11, cRo Bs_8, cOwn (α := Int) 3 v24z fence, cOwn (α := Int) 3 v21z revised, cOwn (α := Raw 2) 60 u0_3 rr1_4, cRo Bs2_5, cOwn (α := Raw 0) 34 v6z ([rw3z, rw4z]), cRo Bs_1] R := H.back H2_ rfl
   clear H2_
   refine sM (.tuple #[B r05, I r15]) rfl <| s_val (x_ext (vs := [B r05, I r15]) (v := B r05) rfl rfl) <| s_val (x_ext (vs := [B r05, I r15]) (v := I r15) rfl rfl) <| sA (B r05) rfl <| sA (I r15) rfl <| s_nil <| W.seq <| W.region rfl <| sM (I r15) rfl <| sC r15 0 (r15 != 0) rfl rfl rfl <| sM (B (r15 != 0)) rfl <| g_val (!(r15 != 0)) (gy_f rfl) (fun hg => x_mv (v := B r05) rfl) ?_
   refine g_val (!(r15 != 0)) (gy_f rfl) (fun hg => x_not (b := r05) (gd_of (c := !(r15 != 0)) hg (B r05))) <| s_val (x_por (b := r15 != 0) (r := !r05) rfl rfl (fun hb => gd_of (c := !(r15 != 0)) (by simp_all) (B (!r05)))) <| s_nil ?_
   refine W.cond ((r15 != 0) || (!r05)) rfl (fun c94z => ?_) (fun c94z => ?_)
   ·replace hM := M.e_t hM c94z
    refine W.seq <| W.region rfl <| sA (B false) rfl <| s_nil ?_
    refine W.ret ?_
    have hr_ := M.e_pure hM
    exact ⟨_, resE_tmp rfl, ⟨false, hr_, rfl, (H.pick [] (by decide) rfl)⟩⟩
   replace hM := M.e_f hM c94z
   refine W.skip <| W.seq <| W.region rfl <| sA (I 0) rfl <| sA (I 0) rfl <| s_nil <| W.seq <| W.seq <| W.region rfl <| sM u77z rfl ?_
   have hl95z := (hs78z).len_le
   refine s_val (x_lenS T34.und rfl hs78z) <| sM (I 0) rfl <| s_nil <| W.block ?_
   obtain ⟨ex96z, hi97z, hk98z⟩ := M.e_bind hM
   obtain ⟨m0_, hi97z⟩ := M.e_iter hi97z
   refine W.loop (fun m σ W => ∃ (sum : Int) (s3 : Nat) (ρ : Env), σ = upds ρ [(0, v_w_), (1, v_revised), (2, v_fence), (7, u0_3), (8, v21z), (9, v24z), (12, u0_12), (16, u0_20), (19, I sum), (20, I 0), (148, u77z), (149, I (l3.length : Int)), (150, I (s3 : Int))] ∧ M.iterN (m_nilometerlaw13_NotesStale_b2 w_ r0 l3) m (sum, s3) = some ex96z ∧ St w W [cOwn (α := Raw 2) 138 u0_22 rr1_23, cRo Bs2_24, cRo Bs_21, cOwn (α := Int) 3 u0_20 r04, cOwn (α := Raw 2) 138 u0_17 rr1_18, cRo Bs2_19, cRo Bs_16, cOwn (α := Raw 2) 138 u0_13 rr1_14, cRo Bs2_15, cOwn (α := Int) 3 u0_12 r0, cOwn (α := Raw 2) 138 u0_9 rr1_10, cRo Bs2_11, cRo Bs_8, cOwn (α := Int) 3 v24z fence, cOwn (α := Int) 3 v21z revised, cOwn (α := Raw 2) 60 u0_3 rr1_4, cRo Bs2_5, cOwn (α := Raw 0) 34 v6z ([rw3z, rw4z]), cRo Bs_1] R) ?_ ?_
   ·exact ⟨_, 0, 0, _, upds_of _ _ ⟨rfl, rfl, rfl, rfl, rfl, rfl, rfl, rfl, rfl, rfl, rfl, rfl, rfl, trivial⟩, hi97z, H⟩
   rintro m101z σ w99z ⟨sum, s3, ρ, rfl, hI100z, H⟩
   obtain ⟨m102z, lt103z, x104z, hM, hN105z⟩ := M.e_iterN hI100z
   simp only [m_nilometerlaw13_NotesStale_b2] at hM
   clear hI100z
   refine W.seq <| W.region rfl <| sC (s3 : Int) (l3.length : Int) (decide ((s3 : Int) < (l3.length : Int))) rfl rfl rfl <| s_nil <| W.seq ?_
   refine W.cond (decide ((s3 : Int) < (l3.length : Int))) rfl (fun c106z => ?_) (fun c106z => ?_)
   ·replace hM := M.e_t hM c106z
    simp only [q1, q2, q3, q4, q5, q6, ne_eq, q7] at c106z
    refine W.skip <| W.seq <| W.block <| W.seq <| W.region rfl ?_
    obtain ⟨sd107z, hM⟩ := M.e_grd hM
    simp only [Bool.and_eq_true, decide_eq_true_eq] at sd107z
    refine s_val (x_ix (a := u77z) (b := I (s3 : Int)) (v := vat u77z 1 (Int.toNat (s3 : Int))) rfl rfl (Sl.ix (α := Int) T34.und T34.size hs78z (by omega) (by omega))) <| s_val (x_ld (p := vat u77z 1 (Int.toNat (s3 : Int))) (v := I (l3.getD s3 0)) rfl (ld_sc Sc3 (At.mono (Int_at hs78z (i := (s3 : Int)) (by omega) (by omega)) (roLe _ (H.get (k := 2) rfl))))) <| sA (I (l3.getD s3 0)) rfl <| s_nil <| W.seq <| W.region rfl <| sM (I sum) rfl <| sM v_w_ rfl <| sM (I (l3.getD s3 0)) rfl ?_
    obtain ⟨sd108z, hM⟩ := M.e_grd hM
    simp only [Bool.and_eq_true, decide_eq_true_eq] at sd108z
    refine s_val (x_ix (a := v_w_) (b := I (l3.getD s3 0)) (v := vat v_w_ 3 (Int.toNat (l3.getD s3 0))) rfl rfl (Sl.ix (α := Work) T22.und T22.size hs_w_ (by omega) (by omega))) <| s_val (x_fa (a := vat v_w_ 3 (Int.toNat (l3.getD s3 0))) (v := fat (vat v_w_ 3 (Int.toNat (l3.getD s3 0))) 2) rfl (fa_pl Fd60_2 Sz3 (Sl.pl (i := l3.getD s3 0) hs_w_ (by omega) (by omega)))) <| s_val (x_ld (p := fat (vat v_w_ 3 (Int.toNat (l3.getD s3 0))) 2) (v := I ((w_.getD (Int.toNat (l3.getD s3 0)) default).minutes)) rfl (ld_sc Sc3 (At.mono (Work_at2 hs_w_ (i := l3.getD s3 0) (by omega) (by omega)) (hC_w_.at H)))) ?_
    obtain ⟨sd109z, hM⟩ := M.e_grd hM
    simp only [Bool.and_eq_true, decide_eq_true_eq] at sd109z
    refine s_val (x_ari (a := sum) (b := (w_.getD (Int.toNat (l3.getD s3 0)) default).minutes) (r := sum + ((w_.getD (Int.toNat (l3.getD s3 0)) default).minutes)) rfl rfl rfl (by omega)) <| sA (I (sum + ((w_.getD (Int.toNat (l3.getD s3 0)) default).minutes))) rfl <| s_nil <| W.seq <| W.region rfl <| sA (B false) rfl <| s_nil <| W.seq <| W.seq <| W.region rfl <| sM u0_12 rfl ?_
    have hl110z := ((ownSl (H.get (k := 9) rfl))).len_le
    refine s_val (x_lenS T34.und rfl (ownSl (H.get (k := 9) rfl))) <| sM (I 0) rfl <| s_nil <| W.block ?_
    obtain ⟨ex111z, hi112z, hk113z⟩ := M.e_bind hM
    obtain ⟨m0_, hi112z⟩ := M.e_iter hi112z
    refine W.loop (fun m σ W => ∃ (there : Bool) (s2 : Nat) (ρ : Env), σ = upds ρ [(0, v_w_), (1, v_revised), (2, v_fence), (7, u0_3), (8, v21z), (9, v24z), (12, u0_12), (16, u0_20), (19, I (sum + ((w_.getD (Int.toNat (l3.getD s3 0)) default).minutes))), (20, I 0), (22, I (l3.getD s3 0)), (23, B there), (148, u77z), (149, I (l3.length : Int)), (150, I (s3 : Int)), (161, u0_12), (162, I (r0.length : Int)), (163, I (s2 : Int))] ∧ M.iterN (m_nilometerlaw13_NotesStale_b1 r0 l3 s3) m (there, s2) = some ex111z ∧ St w W [cOwn (α := Raw 2) 138 u0_22 rr1_23, cRo Bs2_24, cRo Bs_21, cOwn (α := Int) 3 u0_20 r04, cOwn (α := Raw 2) 138 u0_17 rr1_18, cRo Bs2_19, cRo Bs_16, cOwn (α := Raw 2) 138 u0_13 rr1_14, cRo Bs2_15, cOwn (α := Int) 3 u0_12 r0, cOwn (α := Raw 2) 138 u0_9 rr1_10, cRo Bs2_11, cRo Bs_8, cOwn (α := Int) 3 v24z fence, cOwn (α := Int) 3 v21z revised, cOwn (α := Raw 2) 60 u0_3 rr1_4, cRo Bs2_5, cOwn (α := Raw 0) 34 v6z ([rw3z, rw4z]), cRo Bs_1] R) ?_ ?_
    ·exact ⟨_, false, 0, _, upds_of _ _ ⟨rfl, rfl, rfl, rfl, rfl, rfl, rfl, rfl, rfl, rfl, rfl, rfl, rfl, rfl, rfl, rfl, rfl, rfl, trivial⟩, hi112z, H⟩
    rintro m116z σ w114z ⟨there, s2, ρ, rfl, hI115z, H⟩
    obtain ⟨m117z, lt118z, x119z, hM, hN120z⟩ := M.e_iterN hI115z
    simp only [m_nilometerlaw13_NotesStale_b1] at hM
    clear hI115z
    refine W.seq <| W.region rfl <| sC (s2 : Int) (r0.length : Int) (decide ((s2 : Int) < (r0.length : Int))) rfl rfl rfl <| s_nil <| W.seq ?_
    refine W.cond (decide ((s2 : Int) < (r0.length : Int))) rfl (fun c121z => ?_) (fun c121z => ?_)
    ·replace hM := M.e_t hM c121z
     simp only [q1, q2, q3, q4, q5, q6, ne_eq, q7] at c121z
     refine W.skip <| W.seq <| W.block <| W.seq <| W.region rfl ?_
     obtain ⟨sd122z, hM⟩ := M.e_grd hM
     simp only [Bool.and_eq_true, decide_eq_true_eq] at sd122z
     refine s_val (x_ix (a := u0_12) (b := I (s2 : Int)) (v := vat u0_12 1 (Int.toNat (s2 : Int))) rfl rfl (Sl.ix (α := Int) T34.und T34.size (ownSl (H.get (k := 9) rfl)) (by omega) (by omega))) <| s_val (x_ld (p := vat u0_12 1 (Int.toNat (s2 : Int))) (v := I (r0.getD s2 0)) rfl (ld_sc Sc3 (At.mono (Int_at (ownSl (H.get (k := 9) rfl)) (i := (s2 : Int)) (by omega) (by omega)) (ownLe _ (H.get (k := 9) rfl))))) <| sA (I (r0.getD s2 0)) rfl <| s_nil <| W.region rfl <| sM (B there) rfl <| sM (B there) rfl <| g_val (!there) (gy_f rfl) (fun hg => x_mv (v := I (r0.getD s2 0)) rfl) <| g_val (!there) (gy_f rfl) (fun hg => x_mv (v := I (l3.getD s3 0)) rfl) <| g_val (!there) (gy_f rfl) (fun hg => x_cmp (kd := .i64) (a := r0.getD s2 0) (b := l3.getD s3 0) (r := (r0.getD s2 0) == (l3.getD s3 0)) (gd_of (c := !there) hg (I (r0.getD s2 0))) (gd_of (c := !there) hg (I (l3.getD s3 0))) rfl) <| s_val (x_por (b := there) (r := (r0.getD s2 0) == (l3.getD s3 0)) rfl rfl (fun hb => gd_of (c := !there) (by simp_all) (B ((r0.getD s2 0) == (l3.getD s3 0))))) <| sA (B (there || ((r0.getD s2 0) == (l3.getD s3 0)))) rfl ?_
     refine s_nil <| W.region rfl <| s_val (x_ari (a := (s2 : Int)) (b := 1) (r := (s2 : Int) + 1) rfl rfl rfl (by omega)) <| sM (I ((s2 : Int) + 1)) rfl <| s_nil ?_
     exact ⟨m117z, lt118z, (there || ((r0.getD s2 0) == (l3.getD s3 0))), s2 + 1, _, upds_of _ _ ⟨rfl, rfl, rfl, rfl, rfl, rfl, rfl, rfl, rfl, rfl, rfl, rfl, rfl, rfl, rfl, rfl, rfl, rfl, trivial⟩, M.e_inl hM hN120z, H⟩
    replace hM := M.e_f hM c121z
    simp only [q1, q2, q3, q4, q5, q6, ne_eq, q7] at c121z
    refine W.exit ?_
    have hX123z := M.e_inr hM hN120z
    subst hX123z
    replace hM := hk113z
    try dsimp only at hM
    refine W.seq <| W.region rfl <| sM (B there) rfl <| s_val (x_not (b := there) rfl) <| s_nil ?_
    refine W.cond (!there) rfl (fun c124z => ?_) (fun c124z => ?_)
    ·replace hM := M.e_t hM c124z
     refine W.seq <| W.region rfl <| sA (B false) rfl <| s_nil ?_
     refine W.ret ?_
     have hX125z := M.e_inr hM hN105z
     subst hX125z
     replace hM := hk98z
     try dsimp only at hM
     have hr_ := M.e_pure hM
     exact ⟨_, resE_tmp rfl, ⟨false, hr_, rfl, (H.pick [] (by decide) rfl)⟩⟩
    replace hM := M.e_f hM c124z
    refine W.skip <| W.region rfl <| s_val (x_ari (a := (s3 : Int)) (b := 1) (r := (s3 : Int) + 1) rfl rfl rfl (by omega)) <| sM (I ((s3 : Int) + 1)) rfl <| s_nil ?_
    exact ⟨m102z, lt103z, sum + ((w_.getD (Int.toNat (l3.getD s3 0)) default).minutes), s3 + 1, _, upds_of _ _ ⟨rfl, rfl, rfl, rfl, rfl, rfl, rfl, rfl, rfl, rfl, rfl, rfl, rfl, trivial⟩, M.e_inl hM hN105z, H⟩
   replace hM := M.e_f hM c106z
   simp only [q1, q2, q3, q4, q5, q6, ne_eq, q7] at c106z
   refine W.exit ?_
   have hX126z := M.e_inr hM hN105z
   subst hX126z
   replace hM := hk98z
   try dsimp only at hM
   refine W.seq <| W.seq <| W.region rfl <| sM u0_20 rfl ?_
   have hl127z := ((ownSl (H.get (k := 3) rfl))).len_le
   refine s_val (x_lenS T34.und rfl (ownSl (H.get (k := 3) rfl))) <| sM (I 0) rfl <| s_nil <| W.block ?_
   obtain ⟨ex128z, hi129z, hk130z⟩ := M.e_bind hM
   obtain ⟨m0_, hi129z⟩ := M.e_iter hi129z
   refine W.loop (fun m σ W => ∃ (most : Int) (s4 : Nat) (ρ : Env), σ = upds ρ [(0, v_w_), (1, v_revised), (2, v_fence), (7, u0_3), (8, v21z), (9, v24z), (19, I sum), (20, I most), (177, u0_20), (178, I (r04.length : Int)), (179, I (s4 : Int))] ∧ M.iterN (m_nilometerlaw13_NotesStale_b3 r04) m (most, s4) = some ex128z ∧ St w W [cOwn (α := Raw 2) 138 u0_22 rr1_23, cRo Bs2_24, cRo Bs_21, cOwn (α := Int) 3 u0_20 r04, cOwn (α := Raw 2) 138 u0_17 rr1_18, cRo Bs2_19, cRo Bs_16, cOwn (α := Raw 2) 138 u0_13 rr1_14, cRo Bs2_15, cOwn (α := Int) 3 u0_12 r0, cOwn (α := Raw 2) 138 u0_9 rr1_10, cRo Bs2_11, cRo Bs_8, cOwn (α := Int) 3 v24z fence, cOwn (α := Int) 3 v21z revised, cOwn (α := Raw 2) 60 u0_3 rr1_4, cRo Bs2_5, cOwn (α := Raw 0) 34 v6z ([rw3z, rw4z]), cRo Bs_1] R) ?_ ?_
   ·exact ⟨_, 0, 0, _, upds_of _ _ ⟨rfl, rfl, rfl, rfl, rfl, rfl, rfl, rfl, rfl, rfl, rfl, trivial⟩, hi129z, H⟩
   rintro m133z σ w131z ⟨most, s4, ρ, rfl, hI132z, H⟩
   obtain ⟨m134z, lt135z, x136z, hM, hN137z⟩ := M.e_iterN hI132z
   simp only [m_nilometerlaw13_NotesStale_b3] at hM
   clear hI132z
   refine W.seq <| W.region rfl <| sC (s4 : Int) (r04.length : Int) (decide ((s4 : Int) < (r04.length : Int))) rfl rfl rfl <| s_nil <| W.seq ?_
   refine W.cond (decide ((s4 : Int) < (r04.length : Int))) rfl (fun c138z => ?_) (fun c138z => ?_)
   ·replace hM := M.e_t hM c138z
    simp only [q1, q2, q3, q4, q5, q6, ne_eq, q7] at c138z
    refine W.skip <| W.seq <| W.block <| W.seq <| W.region rfl ?_
    obtain ⟨sd139z, hM⟩ := M.e_grd hM
    simp only [Bool.and_eq_true, decide_eq_true_eq] at sd139z
    refine s_val (x_ix (a := u0_20) (b := I (s4 : Int)) (v := vat u0_20 1 (Int.toNat (s4 : Int))) rfl rfl (Sl.ix (α := Int) T34.und T34.size (ownSl (H.get (k := 3) rfl)) (by omega) (by omega))) <| s_val (x_ld (p := vat u0_20 1 (Int.toNat (s4 : Int))) (v := I (r04.getD s4 0)) rfl (ld_sc Sc3 (At.mono (Int_at (ownSl (H.get (k := 3) rfl)) (i := (s4 : Int)) (by omega) (by omega)) (ownLe _ (H.get (k := 3) rfl))))) <| sA (I (r04.getD s4 0)) rfl <| s_nil <| W.region rfl <| sM (I most) rfl <| sM (I (r04.getD s4 0)) rfl <| s_val (x_max (kd := .i64) (a := most) (b := r04.getD s4 0) rfl rfl) <| sA (I (max most (r04.getD s4 0))) rfl <| s_nil <| W.region rfl <| s_val (x_ari (a := (s4 : Int)) (b := 1) (r := (s4 : Int) + 1) rfl rfl rfl (by omega)) ?_
    refine sM (I ((s4 : Int) + 1)) rfl <| s_nil ?_
    exact ⟨m134z, lt135z, max most (r04.getD s4 0), s4 + 1, _, upds_of _ _ ⟨rfl, rfl, rfl, rfl, rfl, rfl, rfl, rfl, rfl, rfl, rfl, trivial⟩, M.e_inl hM hN137z, H⟩
   replace hM := M.e_f hM c138z
   simp only [q1, q2, q3, q4, q5, q6, ne_eq, q7] at c138z
   refine W.exit ?_
   have hX140z := M.e_inr hM hN137z
   subst hX140z
   replace hM := hk130z
   try dsimp only at hM
   refine W.seq <| W.region rfl <| sM (I sum) rfl <| sM (I most) rfl <| sC sum most (sum != most) rfl rfl rfl <| s_nil ?_
   refine W.cond (sum != most) rfl (fun c141z => ?_) (fun c141z => ?_)
   ·replace hM := M.e_t hM c141z
    simp only [q1, q2, q3, q4, q5, q6, ne_eq, q7] at c141z
    refine W.seq <| W.region rfl <| sA (B false) rfl <| s_nil ?_
    refine W.ret ?_
    have hr_ := M.e_pure hM
    exact ⟨_, resE_tmp rfl, ⟨false, hr_, rfl, (H.pick [] (by decide) rfl)⟩⟩
   replace hM := M.e_f hM c141z
   simp only [q1, q2, q3, q4, q5, q6, ne_eq, q7] at c141z
   refine W.skip <| W.seq <| W.region rfl <| sM u0_3 rfl <| sM v_w_ rfl ?_
   obtain ⟨r143z, hx142z, hM⟩ := M.e_bind hM
   refine s_call cf28 [u0_3, v_w_] rfl (nilometerlaw13_same_ok r3 w_ (Reads.sup (Reads.of (k := 15) rfl ownLe) (Reads.sup (hC_w_.app _) (Reads.of (k := 16) rfl roLe))) (rowSl rfl (H.get (k := 15) rfl) (Cells.sup_le (hC_w_.at H) (roLe _ (H.get (k := 16) rfl))) hf18z) (hC_w_.app _) hs_w_ hx142z _ (St.give (T := [cOwn (α := Raw 2) 138 u0_22 rr1_23, cRo Bs2_24, cRo Bs_21, cOwn (α := Int) 3 u0_20 r04, cOwn (α := Raw 2) 138 u0_17 rr1_18, cRo Bs2_19, cRo Bs_16, cOwn (α := Raw 2) 138 u0_13 rr1_14, cRo Bs2_15, cOwn (α := Int) 3 u0_12 r0, cOwn (α := Raw 2) 138 u0_9 rr1_10, cRo Bs2_11, cRo Bs_8, cOwn (α := Int) 3 v24z fence, cOwn (α := Int) 3 v21z revised, cOwn (α := Raw 2) 60 u0_3 rr1_4, cRo Bs2_5, cOwn (α := Raw 0) 34 v6z ([rw3z, rw4z]), cRo Bs_1]) H rfl)) ?_
   rintro vq w144z ⟨r8, hr145z, hvq, H2_⟩
   subst hr145z
   subst vq
   try dsimp only at hM
   replace H : St w w144z [cOwn (α := Raw 2) 138 u0_22 rr1_23, cRo Bs2_24, cRo Bs_21, cOwn (α := Int) 3 u0_20 r04, cOwn (α := Raw 2) 138 u0_17 rr1_18, cRo Bs2_19, cRo Bs_16, cOwn (α := Raw 2) 138 u0_13 rr1_14, cRo Bs2_15, cOwn (α := Int) 3 u0_12 r0, cOwn (α := Raw 2) 138 u0_9 rr1_10, cRo Bs2_11, cRo Bs_8, cOwn (α := Int) 3 v24z fence, cOwn (α := Int) 3 v21z revised, cOwn (α := Raw 2) 60 u0_3 rr1_4, cRo Bs2_5, cOwn (α := Raw 0) 34 v6z ([rw3z, rw4z]), cRo Bs_1] R := H.back H2_ rfl
   clear H2_
   refine sM (B r8) rfl <| g_val r8 (gy_t rfl) (fun hg => x_mv (v := v21z) rfl) <| g_val r8 (gy_t rfl) (fun hg => x_mv (v := v_revised) rfl) ?_
   obtain ⟨s5, hx146z, hM⟩ := M.e_bind hM
   replace hx146z := M.e_pure hx146z
   refine t_gcall r8 (gy_t rfl) cf25 (B s5) (fun _ => [v21z, v_revised]) (fun hg => lst2 (gd_of (c := r8) hg (v21z)) (gd_of (c := r8) hg (v_revised))) H (fun hg => Ret.mono (same_int _ ((ownSl (H.get (k := 14) rfl)).mono (ownLe _ (H.get (k := 14) rfl))) (hs_revised.mono (hC_revised.at H))) fun v_ w_ ⟨hv_, hx_⟩ => ⟨hv_.trans (congrArg B hx146z), H.ext hx_⟩) ?_
   intro w147z H
   refine s_val (x_pand (b := r8) (r := s5) rfl (fun hb => gd_of (c := r8) (by simp_all) (B s5)) rfl) <| sM (B (r8 && s5)) rfl <| g_val (r8 && s5) (gy_t rfl) (fun hg => x_mv (v := v24z) rfl) <| g_val (r8 && s5) (gy_t rfl) (fun hg => x_mv (v := v_fence) rfl) ?_
   obtain ⟨s6, hx148z, hM⟩ := M.e_bind hM
   replace hx148z := M.e_pure hx148z
   refine t_gcall (r8 && s5) (gy_t rfl) cf25 (B s6) (fun _ => [v24z, v_fence]) (fun hg => lst2 (gd_of (c := (r8 && s5)) hg (v24z)) (gd_of (c := (r8 && s5)) hg (v_fence))) H (fun hg => Ret.mono (same_int _ ((ownSl (H.get (k := 13) rfl)).mono (ownLe _ (H.get (k := 13) rfl))) (hs_fence.mono (hC_fence.at H))) fun v_ w_ ⟨hv_, hx_⟩ => ⟨hv_.trans (congrArg B hx148z), H.ext hx_⟩) ?_
   intro w149z H
   refine s_val (x_pand (b := (r8 && s5)) (r := s6) rfl (fun hb => gd_of (c := (r8 && s5)) (by simp_all) (B s6)) rfl) <| sM (B ((r8 && s5) && s6)) rfl ?_
   obtain ⟨r9, hx150z, hM⟩ := M.e_bind hM
   refine t_gcall ((r8 && s5) && s6) (gy_t rfl) cf17 (B r9) (fun _ => []) (fun _ => rfl) H (fun hg => (nilometerlaw13_awake_ok (M.e_opt hx150z hg) _ (H.give (A := []) rfl)).mono fun v_ w_ ⟨y_, hr_, hv_, H_⟩ => by subst hr_; exact ⟨hv_, H.via H_⟩) ?_
   intro w151z H
   refine s_val (x_pand (b := ((r8 && s5) && s6)) (r := r9) rfl (fun hb => gd_of (c := ((r8 && s5) && s6)) (by simp_all) (B r9)) rfl) <| sA (B (((r8 && s5) && s6) && r9)) rfl <| s_nil ?_
   refine W.ret ?_
   have hr_ := M.e_pure hM
   exact ⟨_, resE_tmp rfl, ⟨(((r8 && s5) && s6) && r9), hr_, rfl, (H.pick [] (by decide) rfl)⟩⟩
  replace hM := M.e_f hM c84z
  simp only [q1, q2, q3, q4, q5, q6, ne_eq, q7] at c84z
  refine W.skip <| W.seq <| W.region rfl <| sM u0_3 rfl <| sM v_w_ rfl ?_
  obtain ⟨r153z, hx152z, hM⟩ := M.e_bind hM
  refine s_call cf28 [u0_3, v_w_] rfl (nilometerlaw13_same_ok r3 w_ (Reads.sup (Reads.of (k := 13) rfl ownLe) (Reads.sup (hC_w_.app _) (Reads.of (k := 14) rfl roLe))) (rowSl rfl (H.get (k := 13) rfl) (Cells.sup_le (hC_w_.at H) (roLe _ (H.get (k := 14) rfl))) hf18z) (hC_w_.app _) hs_w_ hx152z _ (St.give (T := [cRo Bs_21, cOwn (α := Int) 3 u0_20 r04, cOwn (α := Raw 2) 138 u0_17 rr1_18, cRo Bs2_19, cRo Bs_16, cOwn (α := Raw 2) 138 u0_13 rr1_14, cRo Bs2_15, cOwn (α := Int) 3 u0_12 r0, cOwn (α := Raw 2) 138 u0_9 rr1_10, cRo Bs2_11, cRo Bs_8, cOwn (α := Int) 3 v24z fence, cOwn (α := Int) 3 v21z revised, cOwn (α := Raw 2) 60 u0_3 rr1_4, cRo Bs2_5, cOwn (α := Raw 0) 34 v6z ([rw3z, rw4z]), cRo Bs_1]) H rfl)) ?_
  rintro vq w154z ⟨r8, hr155z, hvq, H2_⟩
  subst hr155z
  subst vq
  try dsimp only at hM
  replace H : St w w154z [cRo Bs_21, cOwn (α := Int) 3 u0_20 r04, cOwn (α := Raw 2) 138 u0_17 rr1_18, cRo Bs2_19, cRo Bs_16, cOwn (α := Raw 2) 138 u0_13 rr1_14, cRo Bs2_15, cOwn (α := Int) 3 u0_12 r0, cOwn (α := Raw 2) 138 u0_9 rr1_10, cRo Bs2_11, cRo Bs_8, cOwn (α := Int) 3 v24z fence, cOwn (α := Int) 3 v21z revised, cOwn (α := Raw 2) 60 u0_3 rr1_4, cRo Bs2_5, cOwn (α := Raw 0) 34 v6z ([rw3z, rw4z]), cRo Bs_1] R := H.back H2_ rfl
  clear H2_
  refine sM (B r8) rfl <| g_val r8 (gy_t rfl) (fun hg => x_mv (v := v21z) rfl) <| g_val r8 (gy_t rfl) (fun hg => x_mv (v := v_revised) rfl) ?_
  obtain ⟨s5, hx156z, hM⟩ := M.e_bind hM
  replace hx156z := M.e_pure hx156z
  refine t_gcall r8 (gy_t rfl) cf25 (B s5) (fun _ => [v21z, v_revised]) (fun hg => lst2 (gd_of (c := r8) hg (v21z)) (gd_of (c := r8) hg (v_revised))) H (fun hg => Ret.mono (same_int _ ((ownSl (H.get (k := 12) rfl)).mono (ownLe _ (H.get (k := 12) rfl))) (hs_revised.mono (hC_revised.at H))) fun v_ w_ ⟨hv_, hx_⟩ => ⟨hv_.trans (congrArg B hx156z), H.ext hx_⟩) ?_
  intro w157z H
  refine s_val (x_pand (b := r8) (r := s5) rfl (fun hb => gd_of (c := r8) (by simp_all) (B s5)) rfl) <| sM (B (r8 && s5)) rfl <| g_val (r8 && s5) (gy_t rfl) (fun hg => x_mv (v := v24z) rfl) <| g_val (r8 && s5) (gy_t rfl) (fun hg => x_mv (v := v_fence) rfl) ?_
  obtain ⟨s6, hx158z, hM⟩ := M.e_bind hM
  replace hx158z := M.e_pure hx158z
  refine t_gcall (r8 && s5) (gy_t rfl) cf25 (B s6) (fun _ => [v24z, v_fence]) (fun hg => lst2 (gd_of (c := (r8 && s5)) hg (v24z)) (gd_of (c := (r8 && s5)) hg (v_fence))) H (fun hg => Ret.mono (same_int _ ((ownSl (H.get (k := 11) rfl)).mono (ownLe _ (H.get (k := 11) rfl))) (hs_fence.mono (hC_fence.at H))) fun v_ w_ ⟨hv_, hx_⟩ => ⟨hv_.trans (congrArg B hx158z), H.ext hx_⟩) ?_
  intro w159z H
  refine s_val (x_pand (b := (r8 && s5)) (r := s6) rfl (fun hb => gd_of (c := (r8 && s5)) (by simp_all) (B s6)) rfl) <| sM (B ((r8 && s5) && s6)) rfl ?_
  obtain ⟨r9, hx160z, hM⟩ := M.e_bind hM
  refine t_gcall ((r8 && s5) && s6) (gy_t rfl) cf17 (B r9) (fun _ => []) (fun _ => rfl) H (fun hg => (nilometerlaw13_awake_ok (M.e_opt hx160z hg) _ (H.give (A := []) rfl)).mono fun v_ w_ ⟨y_, hr_, hv_, H_⟩ => by subst hr_; exact ⟨hv_, H.via H_⟩) ?_
  intro w161z H
  refine s_val (x_pand (b := ((r8 && s5) && s6)) (r := r9) rfl (fun hb => gd_of (c := ((r8 && s5) && s6)) (by simp_all) (B r9)) rfl) <| sA (B (((r8 && s5) && s6) && r9)) rfl <| s_nil ?_
  refine W.ret ?_
  have hr_ := M.e_pure hM
  exact ⟨_, resE_tmp rfl, ⟨(((r8 && s5) && s6) && r9), hr_, rfl, (H.pick [] (by decide) rfl)⟩⟩
 replace hM := M.e_f hM c75z
 refine W.skip <| W.seq <| W.region rfl <| sM u0_3 rfl <| sM v21z rfl ?_
 obtain ⟨⟨l3, e3⟩, hx165z, hM⟩ := M.e_bind hM
 obtain ⟨hq166z, hq167z⟩ := Prod.mk.inj (M.e_pure hx165z)
 try dsimp only at hM
 refine s_call cf38 [u0_3, v21z] rfl (by have hc_ := (Longest_any _ ((rowSl rfl (H.get (k := 12) rfl) (Cells.sup_le (hC_w_.at H) (roLe _ (H.get (k := 13) rfl))) hf18z).mono (Cells.sup_le (ownLe _ (H.get (k := 12) rfl)) (Cells.sup_le (hC_w_.at H) (roLe _ (H.get (k := 13) rfl))))) ((ownSl (H.get (k := 11) rfl)).mono (ownLe _ (H.get (k := 11) rfl)))); rw [hq166z, hq167z] at hc_; exact hc_) ?_
 rintro _ w162z ⟨u163z, rfl, hs164z, hx_⟩
 obtain ⟨Bs_21, H, hs164z⟩ := H.fresh hx_ hs164z
 clear hx_
 have hl_hs164z := hs164z.len_le
 refine sM (.tuple #[u163z, I e3]) rfl <| s_val (x_ext (vs := [u163z, I e3]) (v := u163z) rfl rfl) <| s_val (x_ext (vs := [u163z, I e3]) (v := I e3) rfl rfl) <| sA u163z rfl <| sA (I e3) rfl <| s_nil <| W.seq <| W.seq <| W.region rfl <| sM (I e3) rfl <| sM (I r14) rfl <| sC e3 r14 (e3 != r14) rfl rfl rfl ?_
 refine sM (B (e3 != r14)) rfl <| g_val (!(e3 != r14)) (gy_f rfl) (fun hg => x_mv (v := I e3) rfl) <| g_val (!(e3 != r14)) (gy_f rfl) (fun hg => x_cmp (kd := .i64) (a := e3) (b := 0) (r := e3 != 0) (gd_of (c := !(e3 != r14)) hg (I e3)) rfl rfl) <| g_val (!(e3 != r14)) (gy_f rfl) (fun hg => x_mv (v := B (e3 != 0)) (gd_of (c := !(e3 != r14)) hg (B (e3 != 0)))) <| g_val ((!(e3 != r14)) && (e3 != 0)) (gy_gt rfl rfl) (fun hg => x_mv (v := u163z) rfl) <| g_val ((!(e3 != r14)) && (e3 != 0)) (gy_gt rfl rfl) (fun hg => x_lenS T34.und (gd_of (c := ((!(e3 != r14)) && (e3 != 0))) hg (u163z)) hs164z) <| g_val ((!(e3 != r14)) && (e3 != 0)) (gy_gt rfl rfl) (fun hg => x_cmp (kd := .i64) (a := (l3.length : Int)) (b := 0) (r := decide (0 < (l3.length : Int))) (gd_of (c := ((!(e3 != r14)) && (e3 != 0))) hg (I (l3.length : Int))) rfl rfl) <| g_val (!(e3 != r14)) (gy_f rfl) (fun hg => x_pand (b := e3 != 0) (r := decide (0 < (l3.length : Int))) (gd_of (c := !(e3 != r14)) hg (B (e3 != 0))) (fun hb => gd_of (c := ((!(e3 != r14)) && (e3 != 0))) (by simp_all) (B (decide (0 < (l3.length : Int))))) rfl) <| s_val (x_por (b := e3 != r14) (r := ((e3 != 0) && (decide (0 < (l3.length : Int))))) rfl rfl (fun hb => gd_of (c := !(e3 != r14)) (by simp_all) (B ((e3 != 0) && (decide (0 < (l3.length : Int))))))) <| s_nil ?_
 refine W.cond ((e3 != r14) || ((e3 != 0) && (decide (0 < (l3.length : Int))))) rfl (fun c169z => ?_) (fun c169z => ?_)
 ·replace hM := M.e_t hM c169z
  refine W.seq <| W.region rfl <| sA (B false) rfl <| s_nil ?_
  refine W.ret ?_
  have hr_ := M.e_pure hM
  exact ⟨_, resE_tmp rfl, ⟨false, hr_, rfl, (H.pick [] (by decide) rfl)⟩⟩
 replace hM := M.e_f hM c169z
 refine W.skip <| W.seq <| W.seq <| W.region rfl <| sM (I e3) rfl <| sC e3 0 (e3 == 0) rfl rfl rfl <| s_nil ?_
 refine W.cond (e3 == 0) rfl (fun c170z => ?_) (fun c170z => ?_)
 ·replace hM := M.e_t hM c170z
  simp only [q1, q2, q3, q4, q5, q6, ne_eq, q7] at c170z
  refine W.seq <| W.seq <| W.region rfl <| sM v_w_ rfl ?_
  obtain ⟨r172z, hx171z, hM⟩ := M.e_bind hM
  refine s_call cf23 [v_w_] rfl (nilometerlaw13_Works_ok w_ (hC_w_.app _) hs_w_ hx171z _ (St.give (T := [cRo Bs_21, cOwn (α := Int) 3 u0_20 r04, cOwn (α := Raw 2) 138 u0_17 rr1_18, cRo Bs2_19, cRo Bs_16, cOwn (α := Raw 2) 138 u0_13 rr1_14, cRo Bs2_15, cOwn (α := Int) 3 u0_12 r0, cOwn (α := Raw 2) 138 u0_9 rr1_10, cRo Bs2_11, cRo Bs_8, cOwn (α := Int) 3 v24z fence, cOwn (α := Int) 3 v21z revised, cOwn (α := Raw 2) 60 u0_3 rr1_4, cRo Bs2_5, cOwn (α := Raw 0) 34 v6z ([rw3z, rw4z]), cRo Bs_1]) H rfl)) ?_
  rintro vq w173z ⟨r7, u0_22, rr1_23, Bs2_24, hr174z, hvq, H2_, hf175z⟩
  subst hr174z
  subst vq
  try dsimp only at hM
  replace H : St w w173z [cOwn (α := Raw 2) 138 u0_22 rr1_23, cRo Bs2_24, cRo Bs_21, cOwn (α := Int) 3 u0_20 r04, cOwn (α := Raw 2) 138 u0_17 rr1_18, cRo Bs2_19, cRo Bs_16, cOwn (α := Raw 2) 138 u0_13 rr1_14, cRo Bs2_15, cOwn (α := Int) 3 u0_12 r0, cOwn (α := Raw 2) 138 u0_9 rr1_10, cRo Bs2_11, cRo Bs_8, cOwn (α := Int) 3 v24z fence, cOwn (α := Int) 3 v21z revised, cOwn (α := Raw 2) 60 u0_3 rr1_4, cRo Bs2_5, cOwn (α := Raw 0) 34 v6z ([rw3z, rw4z]), cRo Bs_1] R := H.back H2_ rfl
  clear H2_
  refine sM u163z rfl ?_
  obtain ⟨r177z, hx176z, hM⟩ := M.e_bind hM
  refine s_call cf39 [u0_22, u163z] rfl (nilometerref13_Leads_ok r7 l3 (Reads.sup (Reads.of (k := 0) rfl ownLe) (Reads.of (k := 1) rfl roLe)) (rowSl rfl (H.get (k := 0) rfl) (roLe _ (H.get (k := 1) rfl)) hf175z) (Reads.of (k := 2) rfl roLe) hs164z hx176z _ (St.give (T := [cOwn (α := Raw 2) 138 u0_22 rr1_23, cRo Bs2_24, cRo Bs_21, cOwn (α := Int) 3 u0_20 r04, cOwn (α := Raw 2) 138 u0_17 rr1_18, cRo Bs2_19, cRo Bs_16, cOwn (α := Raw 2) 138 u0_13 rr1_14, cRo Bs2_15, cOwn (α := Int) 3 u0_12 r0, cOwn (α := Raw 2) 138 u0_9 rr1_10, cRo Bs2_11, cRo Bs_8, cOwn (α := Int) 3 v24z fence, cOwn (α := Int) 3 v21z revised, cOwn (α := Raw 2) 60 u0_3 rr1_4, cRo Bs2_5, cOwn (α := Raw 0) 34 v6z ([rw3z, rw4z]), cRo Bs_1]) H rfl)) ?_
  rintro vq w178z ⟨r05, r15, hr179z, hvq, H2_⟩
  subst hr179z
  subst vq
  try dsimp only at hM
  replace H : St w w178z [cOwn (α := Raw 2) 138 u0_22 rr1_23, cRo Bs2_24, cRo Bs_21, cOwn (α := Int) 3 u0_20 r04, cOwn (α := Raw 2) 138 u0_17 rr1_18, cRo Bs2_19, cRo Bs_16, cOwn (α := Raw 2) 138 u0_13 rr1_14, cRo Bs2_15, cOwn (α := Int) 3 u0_12 r0, cOwn (α := Raw 2) 138 u0_9 rr1_10, cRo Bs2_11, cRo Bs_8, cOwn (α := Int) 3 v24z fence, cOwn (α := Int) 3 v21z revised, cOwn (α := Raw 2) 60 u0_3 rr1_4, cRo Bs2_5, cOwn (α := Raw 0) 34 v6z ([rw3z, rw4z]), cRo Bs_1] R := H.back H2_ rfl
  clear H2_
  refine sM (.tuple #[B r05, I r15]) rfl <| s_val (x_ext (vs := [B r05, I r15]) (v := B r05) rfl rfl) <| s_val (x_ext (vs := [B r05, I r15]) (v := I r15) rfl rfl) <| sA (B r05) rfl <| sA (I r15) rfl <| s_nil <| W.seq <| W.region rfl <| sM (I r15) rfl <| sC r15 0 (r15 != 0) rfl rfl rfl <| sM (B (r15 != 0)) rfl <| g_val (!(r15 != 0)) (gy_f rfl) (fun hg => x_mv (v := B r05) rfl) ?_
  refine g_val (!(r15 != 0)) (gy_f rfl) (fun hg => x_not (b := r05) (gd_of (c := !(r15 != 0)) hg (B r05))) <| s_val (x_por (b := r15 != 0) (r := !r05) rfl rfl (fun hb => gd_of (c := !(r15 != 0)) (by simp_all) (B (!r05)))) <| s_nil ?_
  refine W.cond ((r15 != 0) || (!r05)) rfl (fun c180z => ?_) (fun c180z => ?_)
  ·replace hM := M.e_t hM c180z
   refine W.seq <| W.region rfl <| sA (B false) rfl <| s_nil ?_
   refine W.ret ?_
   have hr_ := M.e_pure hM
   exact ⟨_, resE_tmp rfl, ⟨false, hr_, rfl, (H.pick [] (by decide) rfl)⟩⟩
  replace hM := M.e_f hM c180z
  refine W.skip <| W.seq <| W.region rfl <| sA (I 0) rfl <| sA (I 0) rfl <| s_nil <| W.seq <| W.seq <| W.region rfl <| sM u163z rfl ?_
  have hl181z := (hs164z).len_le
  refine s_val (x_lenS T34.und rfl hs164z) <| sM (I 0) rfl <| s_nil <| W.block ?_
  obtain ⟨ex182z, hi183z, hk184z⟩ := M.e_bind hM
  obtain ⟨m0_, hi183z⟩ := M.e_iter hi183z
  refine W.loop (fun m σ W => ∃ (sum : Int) (s3 : Nat) (ρ : Env), σ = upds ρ [(0, v_w_), (1, v_revised), (2, v_fence), (7, u0_3), (8, v21z), (9, v24z), (12, u0_12), (16, u0_20), (19, I sum), (20, I 0), (148, u163z), (149, I (l3.length : Int)), (150, I (s3 : Int))] ∧ M.iterN (m_nilometerlaw13_NotesStale_b6 w_ r0 l3) m (sum, s3) = some ex182z ∧ St w W [cOwn (α := Raw 2) 138 u0_22 rr1_23, cRo Bs2_24, cRo Bs_21, cOwn (α := Int) 3 u0_20 r04, cOwn (α := Raw 2) 138 u0_17 rr1_18, cRo Bs2_19, cRo Bs_16, cOwn (α := Raw 2) 138 u0_13 rr1_14, cRo Bs2_15, cOwn (α := Int) 3 u0_12 r0, cOwn (α := Raw 2) 138 u0_9 rr1_10, cRo Bs2_11, cRo Bs_8, cOwn (α := Int) 3 v24z fence, cOwn (α := Int) 3 v21z revised, cOwn (α := Raw 2) 60 u0_3 rr1_4, cRo Bs2_5, cOwn (α := Raw 0) 34 v6z ([rw3z, rw4z]), cRo Bs_1] R) ?_ ?_
  ·exact ⟨_, 0, 0, _, upds_of _ _ ⟨rfl, rfl, rfl, rfl, rfl, rfl, rfl, rfl, rfl, rfl, rfl, rfl, rfl, trivial⟩, hi183z, H⟩
  rintro m187z σ w185z ⟨sum, s3, ρ, rfl, hI186z, H⟩
  obtain ⟨m188z, lt189z, x190z, hM, hN191z⟩ := M.e_iterN hI186z
  simp only [m_nilometerlaw13_NotesStale_b6] at hM
  clear hI186z
  refine W.seq <| W.region rfl <| sC (s3 : Int) (l3.length : Int) (decide ((s3 : Int) < (l3.length : Int))) rfl rfl rfl <| s_nil <| W.seq ?_
  refine W.cond (decide ((s3 : Int) < (l3.length : Int))) rfl (fun c192z => ?_) (fun c192z => ?_)
  ·replace hM := M.e_t hM c192z
   simp only [q1, q2, q3, q4, q5, q6, ne_eq, q7] at c192z
   refine W.skip <| W.seq <| W.block <| W.seq <| W.region rfl ?_
   obtain ⟨sd193z, hM⟩ := M.e_grd hM
   simp only [Bool.and_eq_true, decide_eq_true_eq] at sd193z
   refine s_val (x_ix (a := u163z) (b := I (s3 : Int)) (v := vat u163z 1 (Int.toNat (s3 : Int))) rfl rfl (Sl.ix (α := Int) T34.und T34.size hs164z (by omega) (by omega))) <| s_val (x_ld (p := vat u163z 1 (Int.toNat (s3 : Int))) (v := I (l3.getD s3 0)) rfl (ld_sc Sc3 (At.mono (Int_at hs164z (i := (s3 : Int)) (by omega) (by omega)) (roLe _ (H.get (k := 2) rfl))))) <| sA (I (l3.getD s3 0)) rfl <| s_nil <| W.seq <| W.region rfl <| sM (I sum) rfl <| sM v_w_ rfl <| sM (I (l3.getD s3 0)) rfl ?_
   obtain ⟨sd194z, hM⟩ := M.e_grd hM
   simp only [Bool.and_eq_true, decide_eq_true_eq] at sd194z
   refine s_val (x_ix (a := v_w_) (b := I (l3.getD s3 0)) (v := vat v_w_ 3 (Int.toNat (l3.getD s3 0))) rfl rfl (Sl.ix (α := Work) T22.und T22.size hs_w_ (by omega) (by omega))) <| s_val (x_fa (a := vat v_w_ 3 (Int.toNat (l3.getD s3 0))) (v := fat (vat v_w_ 3 (Int.toNat (l3.getD s3 0))) 2) rfl (fa_pl Fd60_2 Sz3 (Sl.pl (i := l3.getD s3 0) hs_w_ (by omega) (by omega)))) <| s_val (x_ld (p := fat (vat v_w_ 3 (Int.toNat (l3.getD s3 0))) 2) (v := I ((w_.getD (Int.toNat (l3.getD s3 0)) default).minutes)) rfl (ld_sc Sc3 (At.mono (Work_at2 hs_w_ (i := l3.getD s3 0) (by omega) (by omega)) (hC_w_.at H)))) ?_
   obtain ⟨sd195z, hM⟩ := M.e_grd hM
   simp only [Bool.and_eq_true, decide_eq_true_eq] at sd195z
   refine s_val (x_ari (a := sum) (b := (w_.getD (Int.toNat (l3.getD s3 0)) default).minutes) (r := sum + ((w_.getD (Int.toNat (l3.getD s3 0)) default).minutes)) rfl rfl rfl (by omega)) <| sA (I (sum + ((w_.getD (Int.toNat (l3.getD s3 0)) default).minutes))) rfl <| s_nil <| W.seq <| W.region rfl <| sA (B false) rfl <| s_nil <| W.seq <| W.seq <| W.region rfl <| sM u0_12 rfl ?_
   have hl196z := ((ownSl (H.get (k := 9) rfl))).len_le
   refine s_val (x_lenS T34.und rfl (ownSl (H.get (k := 9) rfl))) <| sM (I 0) rfl <| s_nil <| W.block ?_
   obtain ⟨ex197z, hi198z, hk199z⟩ := M.e_bind hM
   obtain ⟨m0_, hi198z⟩ := M.e_iter hi198z
   refine W.loop (fun m σ W => ∃ (there : Bool) (s2 : Nat) (ρ : Env), σ = upds ρ [(0, v_w_), (1, v_revised), (2, v_fence), (7, u0_3), (8, v21z), (9, v24z), (12, u0_12), (16, u0_20), (19, I (sum + ((w_.getD (Int.toNat (l3.getD s3 0)) default).minutes))), (20, I 0), (22, I (l3.getD s3 0)), (23, B there), (148, u163z), (149, I (l3.length : Int)), (150, I (s3 : Int)), (161, u0_12), (162, I (r0.length : Int)), (163, I (s2 : Int))] ∧ M.iterN (m_nilometerlaw13_NotesStale_b5 r0 l3 s3) m (there, s2) = some ex197z ∧ St w W [cOwn (α := Raw 2) 138 u0_22 rr1_23, cRo Bs2_24, cRo Bs_21, cOwn (α := Int) 3 u0_20 r04, cOwn (α := Raw 2) 138 u0_17 rr1_18, cRo Bs2_19, cRo Bs_16, cOwn (α := Raw 2) 138 u0_13 rr1_14, cRo Bs2_15, cOwn (α := Int) 3 u0_12 r0, cOwn (α := Raw 2) 138 u0_9 rr1_10, cRo Bs2_11, cRo Bs_8, cOwn (α := Int) 3 v24z fence, cOwn (α := Int) 3 v21z revised, cOwn (α := Raw 2) 60 u0_3 rr1_4, cRo Bs2_5, cOwn (α := Raw 0) 34 v6z ([rw3z, rw4z]), cRo Bs_1] R) ?_ ?_
   ·exact ⟨_, false, 0, _, upds_of _ _ ⟨rfl, rfl, rfl, rfl, rfl, rfl, rfl, rfl, rfl, rfl, rfl, rfl, rfl, rfl, rfl, rfl, rfl, rfl, trivial⟩, hi198z, H⟩
   rintro m202z σ w200z ⟨there, s2, ρ, rfl, hI201z, H⟩
   obtain ⟨m203z, lt204z, x205z, hM, hN206z⟩ := M.e_iterN hI201z
   simp only [m_nilometerlaw13_NotesStale_b5] at hM
   clear hI201z
   refine W.seq <| W.region rfl <| sC (s2 : Int) (r0.length : Int) (decide ((s2 : Int) < (r0.length : Int))) rfl rfl rfl <| s_nil <| W.seq ?_
   refine W.cond (decide ((s2 : Int) < (r0.length : Int))) rfl (fun c207z => ?_) (fun c207z => ?_)
   ·replace hM := M.e_t hM c207z
    simp only [q1, q2, q3, q4, q5, q6, ne_eq, q7] at c207z
    refine W.skip <| W.seq <| W.block <| W.seq <| W.region rfl ?_
    obtain ⟨sd208z, hM⟩ := M.e_grd hM
    simp only [Bool.and_eq_true, decide_eq_true_eq] at sd208z
    refine s_val (x_ix (a := u0_12) (b := I (s2 : Int)) (v := vat u0_12 1 (Int.toNat (s2 : Int))) rfl rfl (Sl.ix (α := Int) T34.und T34.size (ownSl (H.get (k := 9) rfl)) (by omega) (by omega))) <| s_val (x_ld (p := vat u0_12 1 (Int.toNat (s2 : Int))) (v := I (r0.getD s2 0)) rfl (ld_sc Sc3 (At.mono (Int_at (ownSl (H.get (k := 9) rfl)) (i := (s2 : Int)) (by omega) (by omega)) (ownLe _ (H.get (k := 9) rfl))))) <| sA (I (r0.getD s2 0)) rfl <| s_nil <| W.region rfl <| sM (B there) rfl <| sM (B there) rfl <| g_val (!there) (gy_f rfl) (fun hg => x_mv (v := I (r0.getD s2 0)) rfl) <| g_val (!there) (gy_f rfl) (fun hg => x_mv (v := I (l3.getD s3 0)) rfl) <| g_val (!there) (gy_f rfl) (fun hg => x_cmp (kd := .i64) (a := r0.getD s2 0) (b := l3.getD s3 0) (r := (r0.getD s2 0) == (l3.getD s3 0)) (gd_of (c := !there) hg (I (r0.getD s2 0))) (gd_of (c := !there) hg (I (l3.getD s3 0))) rfl) <| s_val (x_por (b := there) (r := (r0.getD s2 0) == (l3.getD s3 0)) rfl rfl (fun hb => gd_of (c := !there) (by simp_all) (B ((r0.getD s2 0) == (l3.getD s3 0))))) <| sA (B (there || ((r0.getD s2 0) == (l3.getD s3 0)))) rfl ?_
    refine s_nil <| W.region rfl <| s_val (x_ari (a := (s2 : Int)) (b := 1) (r := (s2 : Int) + 1) rfl rfl rfl (by omega)) <| sM (I ((s2 : Int) + 1)) rfl <| s_nil ?_
    exact ⟨m203z, lt204z, (there || ((r0.getD s2 0) == (l3.getD s3 0))), s2 + 1, _, upds_of _ _ ⟨rfl, rfl, rfl, rfl, rfl, rfl, rfl, rfl, rfl, rfl, rfl, rfl, rfl, rfl, rfl, rfl, rfl, rfl, trivial⟩, M.e_inl hM hN206z, H⟩
   replace hM := M.e_f hM c207z
   simp only [q1, q2, q3, q4, q5, q6, ne_eq, q7] at c207z
   refine W.exit ?_
   have hX209z := M.e_inr hM hN206z
   subst hX209z
   replace hM := hk199z
   try dsimp only at hM
   refine W.seq <| W.region rfl <| sM (B there) rfl <| s_val (x_not (b := there) rfl) <| s_nil ?_
   refine W.cond (!there) rfl (fun c210z => ?_) (fun c210z => ?_)
   ·replace hM := M.e_t hM c210z
    refine W.seq <| W.region rfl <| sA (B false) rfl <| s_nil ?_
    refine W.ret ?_
    have hX211z := M.e_inr hM hN191z
    subst hX211z
    replace hM := hk184z
    try dsimp only at hM
    have hr_ := M.e_pure hM
    exact ⟨_, resE_tmp rfl, ⟨false, hr_, rfl, (H.pick [] (by decide) rfl)⟩⟩
   replace hM := M.e_f hM c210z
   refine W.skip <| W.region rfl <| s_val (x_ari (a := (s3 : Int)) (b := 1) (r := (s3 : Int) + 1) rfl rfl rfl (by omega)) <| sM (I ((s3 : Int) + 1)) rfl <| s_nil ?_
   exact ⟨m188z, lt189z, sum + ((w_.getD (Int.toNat (l3.getD s3 0)) default).minutes), s3 + 1, _, upds_of _ _ ⟨rfl, rfl, rfl, rfl, rfl, rfl, rfl, rfl, rfl, rfl, rfl, rfl, rfl, trivial⟩, M.e_inl hM hN191z, H⟩
  replace hM := M.e_f hM c192z
  simp only [q1, q2, q3, q4, q5, q6, ne_eq, q7] at c192z
  refine W.exit ?_
  have hX212z := M.e_inr hM hN191z
  subst hX212z
  replace hM := hk184z
  try dsimp only at hM
  refine W.seq <| W.seq <| W.region rfl <| sM u0_20 rfl ?_
  have hl213z := ((ownSl (H.get (k := 3) rfl))).len_le
  refine s_val (x_lenS T34.und rfl (ownSl (H.get (k := 3) rfl))) <| sM (I 0) rfl <| s_nil <| W.block ?_
  obtain ⟨ex214z, hi215z, hk216z⟩ := M.e_bind hM
  obtain ⟨m0_, hi215z⟩ := M.e_iter hi215z
  refine W.loop (fun m σ W => ∃ (most : Int) (s4 : Nat) (ρ : Env), σ = upds ρ [(0, v_w_), (1, v_revised), (2, v_fence), (7, u0_3), (8, v21z), (9, v24z), (19, I sum), (20, I most), (177, u0_20), (178, I (r04.length : Int)), (179, I (s4 : Int))] ∧ M.iterN (m_nilometerlaw13_NotesStale_b7 r04) m (most, s4) = some ex214z ∧ St w W [cOwn (α := Raw 2) 138 u0_22 rr1_23, cRo Bs2_24, cRo Bs_21, cOwn (α := Int) 3 u0_20 r04, cOwn (α := Raw 2) 138 u0_17 rr1_18, cRo Bs2_19, cRo Bs_16, cOwn (α := Raw 2) 138 u0_13 rr1_14, cRo Bs2_15, cOwn (α := Int) 3 u0_12 r0, cOwn (α := Raw 2) 138 u0_9 rr1_10, cRo Bs2_11, cRo Bs_8, cOwn (α := Int) 3 v24z fence, cOwn (α := Int) 3 v21z revised, cOwn (α := Raw 2) 60 u0_3 rr1_4, cRo Bs2_5, cOwn (α := Raw 0) 34 v6z ([rw3z, rw4z]), cRo Bs_1] R) ?_ ?_
  ·exact ⟨_, 0, 0, _, upds_of _ _ ⟨rfl, rfl, rfl, rfl, rfl, rfl, rfl, rfl, rfl, rfl, rfl, trivial⟩, hi215z, H⟩
  rintro m219z σ w217z ⟨most, s4, ρ, rfl, hI218z, H⟩
  obtain ⟨m220z, lt221z, x222z, hM, hN223z⟩ := M.e_iterN hI218z
  simp only [m_nilometerlaw13_NotesStale_b7] at hM
  clear hI218z
  refine W.seq <| W.region rfl <| sC (s4 : Int) (r04.length : Int) (decide ((s4 : Int) < (r04.length : Int))) rfl rfl rfl <| s_nil <| W.seq ?_
  refine W.cond (decide ((s4 : Int) < (r04.length : Int))) rfl (fun c224z => ?_) (fun c224z => ?_)
  ·replace hM := M.e_t hM c224z
   simp only [q1, q2, q3, q4, q5, q6, ne_eq, q7] at c224z
   refine W.skip <| W.seq <| W.block <| W.seq <| W.region rfl ?_
   obtain ⟨sd225z, hM⟩ := M.e_grd hM
   simp only [Bool.and_eq_true, decide_eq_true_eq] at sd225z
   refine s_val (x_ix (a := u0_20) (b := I (s4 : Int)) (v := vat u0_20 1 (Int.toNat (s4 : Int))) rfl rfl (Sl.ix (α := Int) T34.und T34.size (ownSl (H.get (k := 3) rfl)) (by omega) (by omega))) <| s_val (x_ld (p := vat u0_20 1 (Int.toNat (s4 : Int))) (v := I (r04.getD s4 0)) rfl (ld_sc Sc3 (At.mono (Int_at (ownSl (H.get (k := 3) rfl)) (i := (s4 : Int)) (by omega) (by omega)) (ownLe _ (H.get (k := 3) rfl))))) <| sA (I (r04.getD s4 0)) rfl <| s_nil <| W.region rfl <| sM (I most) rfl <| sM (I (r04.getD s4 0)) rfl <| s_val (x_max (kd := .i64) (a := most) (b := r04.getD s4 0) rfl rfl) <| sA (I (max most (r04.getD s4 0))) rfl <| s_nil <| W.region rfl <| s_val (x_ari (a := (s4 : Int)) (b := 1) (r := (s4 : Int) + 1) rfl rfl rfl (by omega)) ?_
   refine sM (I ((s4 : Int) + 1)) rfl <| s_nil ?_
   exact ⟨m220z, lt221z, max most (r04.getD s4 0), s4 + 1, _, upds_of _ _ ⟨rfl, rfl, rfl, rfl, rfl, rfl, rfl, rfl, rfl, rfl, rfl, trivial⟩, M.e_inl hM hN223z, H⟩
  replace hM := M.e_f hM c224z
  simp only [q1, q2, q3, q4, q5, q6, ne_eq, q7] at c224z
  refine W.exit ?_
  have hX226z := M.e_inr hM hN223z
  subst hX226z
  replace hM := hk216z
  try dsimp only at hM
  refine W.seq <| W.region rfl <| sM (I sum) rfl <| sM (I most) rfl <| sC sum most (sum != most) rfl rfl rfl <| s_nil ?_
  refine W.cond (sum != most) rfl (fun c227z => ?_) (fun c227z => ?_)
  ·replace hM := M.e_t hM c227z
   simp only [q1, q2, q3, q4, q5, q6, ne_eq, q7] at c227z
   refine W.seq <| W.region rfl <| sA (B false) rfl <| s_nil ?_
   refine W.ret ?_
   have hr_ := M.e_pure hM
   exact ⟨_, resE_tmp rfl, ⟨false, hr_, rfl, (H.pick [] (by decide) rfl)⟩⟩
  replace hM := M.e_f hM c227z
  simp only [q1, q2, q3, q4, q5, q6, ne_eq, q7] at c227z
  refine W.skip <| W.seq <| W.region rfl <| sM u0_3 rfl <| sM v_w_ rfl ?_
  obtain ⟨r229z, hx228z, hM⟩ := M.e_bind hM
  refine s_call cf28 [u0_3, v_w_] rfl (nilometerlaw13_same_ok r3 w_ (Reads.sup (Reads.of (k := 15) rfl ownLe) (Reads.sup (hC_w_.app _) (Reads.of (k := 16) rfl roLe))) (rowSl rfl (H.get (k := 15) rfl) (Cells.sup_le (hC_w_.at H) (roLe _ (H.get (k := 16) rfl))) hf18z) (hC_w_.app _) hs_w_ hx228z _ (St.give (T := [cOwn (α := Raw 2) 138 u0_22 rr1_23, cRo Bs2_24, cRo Bs_21, cOwn (α := Int) 3 u0_20 r04, cOwn (α := Raw 2) 138 u0_17 rr1_18, cRo Bs2_19, cRo Bs_16, cOwn (α := Raw 2) 138 u0_13 rr1_14, cRo Bs2_15, cOwn (α := Int) 3 u0_12 r0, cOwn (α := Raw 2) 138 u0_9 rr1_10, cRo Bs2_11, cRo Bs_8, cOwn (α := Int) 3 v24z fence, cOwn (α := Int) 3 v21z revised, cOwn (α := Raw 2) 60 u0_3 rr1_4, cRo Bs2_5, cOwn (α := Raw 0) 34 v6z ([rw3z, rw4z]), cRo Bs_1]) H rfl)) ?_
  rintro vq w230z ⟨r8, hr231z, hvq, H2_⟩
  subst hr231z
  subst vq
  try dsimp only at hM
  replace H : St w w230z [cOwn (α := Raw 2) 138 u0_22 rr1_23, cRo Bs2_24, cRo Bs_21, cOwn (α := Int) 3 u0_20 r04, cOwn (α := Raw 2) 138 u0_17 rr1_18, cRo Bs2_19, cRo Bs_16, cOwn (α := Raw 2) 138 u0_13 rr1_14, cRo Bs2_15, cOwn (α := Int) 3 u0_12 r0, cOwn (α := Raw 2) 138 u0_9 rr1_10, cRo Bs2_11, cRo Bs_8, cOwn (α := Int) 3 v24z fence, cOwn (α := Int) 3 v21z revised, cOwn (α := Raw 2) 60 u0_3 rr1_4, cRo Bs2_5, cOwn (α := Raw 0) 34 v6z ([rw3z, rw4z]), cRo Bs_1] R := H.back H2_ rfl
  clear H2_
  refine sM (B r8) rfl <| g_val r8 (gy_t rfl) (fun hg => x_mv (v := v21z) rfl) <| g_val r8 (gy_t rfl) (fun hg => x_mv (v := v_revised) rfl) ?_
  obtain ⟨s5, hx232z, hM⟩ := M.e_bind hM
  replace hx232z := M.e_pure hx232z
  refine t_gcall r8 (gy_t rfl) cf25 (B s5) (fun _ => [v21z, v_revised]) (fun hg => lst2 (gd_of (c := r8) hg (v21z)) (gd_of (c := r8) hg (v_revised))) H (fun hg => Ret.mono (same_int _ ((ownSl (H.get (k := 14) rfl)).mono (ownLe _ (H.get (k := 14) rfl))) (hs_revised.mono (hC_revised.at H))) fun v_ w_ ⟨hv_, hx_⟩ => ⟨hv_.trans (congrArg B hx232z), H.ext hx_⟩) ?_
  intro w233z H
  refine s_val (x_pand (b := r8) (r := s5) rfl (fun hb => gd_of (c := r8) (by simp_all) (B s5)) rfl) <| sM (B (r8 && s5)) rfl <| g_val (r8 && s5) (gy_t rfl) (fun hg => x_mv (v := v24z) rfl) <| g_val (r8 && s5) (gy_t rfl) (fun hg => x_mv (v := v_fence) rfl) ?_
  obtain ⟨s6, hx234z, hM⟩ := M.e_bind hM
  replace hx234z := M.e_pure hx234z
  refine t_gcall (r8 && s5) (gy_t rfl) cf25 (B s6) (fun _ => [v24z, v_fence]) (fun hg => lst2 (gd_of (c := (r8 && s5)) hg (v24z)) (gd_of (c := (r8 && s5)) hg (v_fence))) H (fun hg => Ret.mono (same_int _ ((ownSl (H.get (k := 13) rfl)).mono (ownLe _ (H.get (k := 13) rfl))) (hs_fence.mono (hC_fence.at H))) fun v_ w_ ⟨hv_, hx_⟩ => ⟨hv_.trans (congrArg B hx234z), H.ext hx_⟩) ?_
  intro w235z H
  refine s_val (x_pand (b := (r8 && s5)) (r := s6) rfl (fun hb => gd_of (c := (r8 && s5)) (by simp_all) (B s6)) rfl) <| sM (B ((r8 && s5) && s6)) rfl ?_
  obtain ⟨r9, hx236z, hM⟩ := M.e_bind hM
  refine t_gcall ((r8 && s5) && s6) (gy_t rfl) cf17 (B r9) (fun _ => []) (fun _ => rfl) H (fun hg => (nilometerlaw13_awake_ok (M.e_opt hx236z hg) _ (H.give (A := []) rfl)).mono fun v_ w_ ⟨y_, hr_, hv_, H_⟩ => by subst hr_; exact ⟨hv_, H.via H_⟩) ?_
  intro w237z H
  refine s_val (x_pand (b := ((r8 && s5) && s6)) (r := r9) rfl (fun hb => gd_of (c := ((r8 && s5) && s6)) (by simp_all) (B r9)) rfl) <| sA (B (((r8 && s5) && s6) && r9)) rfl <| s_nil ?_
  refine W.ret ?_
  have hr_ := M.e_pure hM
  exact ⟨_, resE_tmp rfl, ⟨(((r8 && s5) && s6) && r9), hr_, rfl, (H.pick [] (by decide) rfl)⟩⟩
 replace hM := M.e_f hM c170z
 simp only [q1, q2, q3, q4, q5, q6, ne_eq, q7] at c170z
 refine W.skip <| W.seq <| W.region rfl <| sM u0_3 rfl <| sM v_w_ rfl ?_
 obtain ⟨r239z, hx238z, hM⟩ := M.e_bind hM
 refine s_call cf28 [u0_3, v_w_] rfl (nilometerlaw13_same_ok r3 w_ (Reads.sup (Reads.of (k := 13) rfl ownLe) (Reads.sup (hC_w_.app _) (Reads.of (k := 14) rfl roLe))) (rowSl rfl (H.get (k := 13) rfl) (Cells.sup_le (hC_w_.at H) (roLe _ (H.get (k := 14) rfl))) hf18z) (hC_w_.app _) hs_w_ hx238z _ (St.give (T := [cRo Bs_21, cOwn (α := Int) 3 u0_20 r04, cOwn (α := Raw 2) 138 u0_17 rr1_18, cRo Bs2_19, cRo Bs_16, cOwn (α := Raw 2) 138 u0_13 rr1_14, cRo Bs2_15, cOwn (α := Int) 3 u0_12 r0, cOwn (α := Raw 2) 138 u0_9 rr1_10, cRo Bs2_11, cRo Bs_8, cOwn (α := Int) 3 v24z fence, cOwn (α := Int) 3 v21z revised, cOwn (α := Raw 2) 60 u0_3 rr1_4, cRo Bs2_5, cOwn (α := Raw 0) 34 v6z ([rw3z, rw4z]), cRo Bs_1]) H rfl)) ?_
 rintro vq w240z ⟨r8, hr241z, hvq, H2_⟩
 subst hr241z
 subst vq
 try dsimp only at hM
 replace H : St w w240z [cRo Bs_21, cOwn (α := Int) 3 u0_20 r04, cOwn (α := Raw 2) 138 u0_17 rr1_18, cRo Bs2_19, cRo Bs_16, cOwn (α := Raw 2) 138 u0_13 rr1_14, cRo Bs2_15, cOwn (α := Int) 3 u0_12 r0, cOwn (α := Raw 2) 138 u0_9 rr1_10, cRo Bs2_11, cRo Bs_8, cOwn (α := Int) 3 v24z fence, cOwn (α := Int) 3 v21z revised, cOwn (α := Raw 2) 60 u0_3 rr1_4, cRo Bs2_5, cOwn (α := Raw 0) 34 v6z ([rw3z, rw4z]), cRo Bs_1] R := H.back H2_ rfl
 clear H2_
 refine sM (B r8) rfl <| g_val r8 (gy_t rfl) (fun hg => x_mv (v := v21z) rfl) <| g_val r8 (gy_t rfl) (fun hg => x_mv (v := v_revised) rfl) ?_
 obtain ⟨s5, hx242z, hM⟩ := M.e_bind hM
 replace hx242z := M.e_pure hx242z
 refine t_gcall r8 (gy_t rfl) cf25 (B s5) (fun _ => [v21z, v_revised]) (fun hg => lst2 (gd_of (c := r8) hg (v21z)) (gd_of (c := r8) hg (v_revised))) H (fun hg => Ret.mono (same_int _ ((ownSl (H.get (k := 12) rfl)).mono (ownLe _ (H.get (k := 12) rfl))) (hs_revised.mono (hC_revised.at H))) fun v_ w_ ⟨hv_, hx_⟩ => ⟨hv_.trans (congrArg B hx242z), H.ext hx_⟩) ?_
 intro w243z H
 refine s_val (x_pand (b := r8) (r := s5) rfl (fun hb => gd_of (c := r8) (by simp_all) (B s5)) rfl) <| sM (B (r8 && s5)) rfl <| g_val (r8 && s5) (gy_t rfl) (fun hg => x_mv (v := v24z) rfl) <| g_val (r8 && s5) (gy_t rfl) (fun hg => x_mv (v := v_fence) rfl) ?_
 obtain ⟨s6, hx244z, hM⟩ := M.e_bind hM
 replace hx244z := M.e_pure hx244z
 refine t_gcall (r8 && s5) (gy_t rfl) cf25 (B s6) (fun _ => [v24z, v_fence]) (fun hg => lst2 (gd_of (c := (r8 && s5)) hg (v24z)) (gd_of (c := (r8 && s5)) hg (v_fence))) H (fun hg => Ret.mono (same_int _ ((ownSl (H.get (k := 11) rfl)).mono (ownLe _ (H.get (k := 11) rfl))) (hs_fence.mono (hC_fence.at H))) fun v_ w_ ⟨hv_, hx_⟩ => ⟨hv_.trans (congrArg B hx244z), H.ext hx_⟩) ?_
 intro w245z H
 refine s_val (x_pand (b := (r8 && s5)) (r := s6) rfl (fun hb => gd_of (c := (r8 && s5)) (by simp_all) (B s6)) rfl) <| sM (B ((r8 && s5) && s6)) rfl ?_
 obtain ⟨r9, hx246z, hM⟩ := M.e_bind hM
 refine t_gcall ((r8 && s5) && s6) (gy_t rfl) cf17 (B r9) (fun _ => []) (fun _ => rfl) H (fun hg => (nilometerlaw13_awake_ok (M.e_opt hx246z hg) _ (H.give (A := []) rfl)).mono fun v_ w_ ⟨y_, hr_, hv_, H_⟩ => by subst hr_; exact ⟨hv_, H.via H_⟩) ?_
 intro w247z H
 refine s_val (x_pand (b := ((r8 && s5) && s6)) (r := r9) rfl (fun hb => gd_of (c := ((r8 && s5) && s6)) (by simp_all) (B r9)) rfl) <| sA (B (((r8 && s5) && s6) && r9)) rfl <| s_nil ?_
 refine W.ret ?_
 have hr_ := M.e_pure hM
 exact ⟨_, resE_tmp rfl, ⟨(((r8 && s5) && s6) && r9), hr_, rfl, (H.pick [] (by decide) rfl)⟩⟩

end Go.Proofs.Ytndobgodeicloaa
end
namespace Go.Proofs.Ytndobgodeicloaa
open Go Go.Nm
variable {ws : List Work} {rev f : List Int}
theorem stale_k {T : List (List Bool)} (hD : Done ws T) (hr : ∀ x ∈ rev, 0 ≤ x ∧ x < (ws.length : Int)) {i : Nat} (hi : i < ws.length) :
    (M.iter (m_nilometerref13_Stale_b2 rev T i) (rev.contains (i : Int), 0)).Ends (rev.contains (i : Int) || rev.any fun r => Tb T r.toNat i) := by
  have := M.i_for (body := m_nilometerref13_Stale_b2 rev T i) (r := (rev.contains (i : Int) || rev.any fun r => Tb T r.toNat i)) (fun k => (rev.contains (i : Int) || (rev.take k).any (fun r => Tb T r.toNat i), k)) rev.length (fun k hk => ?_) ?_
  · simpa using this
  · have hm := hr _ (getD_memN rev (by omega : (k : Int) < _) 0)
    have h1 := hD.sq.len
    have h2 := hD.sq.row (Int.toNat (rev.getD k 0)) (by omega)
    simp only [m_nilometerref13_Stale_b2]
    refine M.i_t (by simpa using hk) (M.i_grd (gOr (by omega)) (M.i_grd (gOr2 hm.1 (by omega)) (M.i_grd (gOr (by omega)) ?_)))
    rw [any_take_succ _ _ hk 0, ← Bool.or_assoc]
    exact M.i_pure
  · simp only [m_nilometerref13_Stale_b2, List.take_length]
    exact M.i_f (by simp) M.i_pure
theorem stale_same (h : openedE ws = 0) {T : List (List Bool)} (hD : Done ws T) (hr : ∀ x ∈ rev, 0 ≤ x ∧ x < (ws.length : Int)) {i : Nat} (hi : i < ws.length) :
    (rev.contains (i : Int) || rev.any fun r => Tb T r.toNat i) = (staleL ws rev).getD i false := by
  rw [Bool.eq_iff_iff, stale_iff h hr hi, Bool.or_eq_true, List.contains_iff_mem, List.any_eq_true]
  constructor
  · rintro (h1 | ⟨k, h1, h2⟩)
    · exact .inl h1
    · exact .inr ⟨k, h1, hD.sound _ _ h2⟩
  · rintro (h1 | ⟨k, h1, h2⟩)
    · exact .inl h1
    · exact .inr ⟨k, h1, hD.way (opened_right h) h2⟩
theorem refStale_ends (ws : List Work) (rev : List Int) : (m_nilometerref13_Stale ws rev).Ends (staleR ws rev, askedE ws rev) := by
  unfold m_nilometerref13_Stale
  refine M.i_bind (check_ends ws) ?_
  by_cases h : openedE ws = 0
  · refine M.i_f (by simp [h]) ?_
    by_cases hL : listedE ws.length rev = 0
    · have ha : askedE ws rev = 0 := by rw [asked_list h]; exact hL
      obtain ⟨T, hT, hD⟩ := behind_ends (opened_right h)
      have hr := (listed_rng hL).1
      refine M.i_f (by simp [hL]) (M.i_bind hT (M.i_bind (a := (stT ws rev ws.length, stT ws rev ws.length)) ?_ ?_))
      · have := M.i_for (body := m_nilometerref13_Stale_b3 ws rev T) (r := (stT ws rev ws.length, stT ws rev ws.length)) (fun i => (i, stT ws rev i)) ws.length (fun i hi => ?_) ?_
        · simpa [stT] using this
        · have hl := stT_len ws rev i
          have hlen := right_len (opened_right h)
          simp only [m_nilometerref13_Stale_b3]
          refine M.i_t (by simpa using hi) (M.i_bind (stale_k hD hr hi) ?_)
          rw [stale_same h hD hr hi, stT_next]
          cases (staleL ws rev).getD i false with
          | true => exact M.i_t rfl (M.grdD (by simp only [List.length_cons, List.length_nil]; omega) M.i_pure)
          | false => exact M.i_f rfl M.i_pure
        · simp only [m_nilometerref13_Stale_b3]
          exact M.i_f (by simp) M.i_pure
      · have e : staleR ws rev = stT ws rev ws.length := by unfold staleR; rw [if_pos ha]
        rw [e, ha]
        exact M.i_pure
    · have e : askedE ws rev = listedE ws.length rev := asked_list h
      rw [staleR_no (by rw [e]; exact hL), e]
      exact M.i_t (by simpa using hL) M.i_pure
  · rw [staleR_no (by rw [asked_wrong h]; exact h), asked_wrong h]
    exact M.i_t (by simpa using h) M.i_pure
/-! ### Fences -/
theorem containsFunc_ends {s : List Int} {f : Int → M Bool} {p : Int → Bool} (hf : ∀ x ∈ s, (f x).Ends (p x)) : (m_slices_ContainsFunc_int s f).Ends (s.any p) := by
  have key : ∃ r, (m_slices_IndexFunc_int s f).Ends r ∧ decide (0 ≤ r) = s.any p := by
    have h := M.i_loopQ (body := m_slices_IndexFunc_int_b0 s f) (fun r => match r with | .inl k => 0 ≤ k ∧ s.any p = true | .inr _ => s.any p = false)
      (fun m i => m = s.length - i ∧ i ≤ s.length ∧ (s.take i).any p = false) (by
        rintro m i ⟨rfl, hi, ha⟩
        simp only [m_slices_IndexFunc_int_b0]
        by_cases e : i < s.length
        · have hp := hf _ (getD_memN s (by omega : (i : Int) < _) 0)
          cases hc : p (s.getD i 0) with
          | true =>
            rw [hc] at hp
            exact .inr ⟨.inl (i : Int), M.i_t (by simpa using e) (M.grdD (by omega) (M.i_bind hp M.i_pure)), by omega, List.any_eq_true.2 ⟨_, getD_memN s (by omega : (i : Int) < _) 0, hc⟩⟩
          | false =>
            rw [hc] at hp
            exact .inl ⟨i + 1, s.length - (i + 1), by omega, M.i_t (by simpa using e) (M.grdD (by omega) (M.i_bind hp M.i_pure)), rfl, e, by rw [any_take_succ p s e 0, ha, hc]; rfl⟩
        · obtain rfl : i = s.length := by omega
          rw [List.take_length] at ha
          exact .inr ⟨.inr (), M.i_f (by simp) M.i_pure, ha⟩) _ 0 ⟨rfl, Nat.zero_le _, by simp⟩
    obtain ⟨r, h1, h2⟩ := h
    cases r with
    | inl k => exact ⟨k, M.i_bind h1 M.i_pure, by rw [h2.2]; simpa using h2.1⟩
    | inr u => exact ⟨-1, M.i_bind h1 M.i_pure, by dsimp only at h2; rw [h2]; rfl⟩
  obtain ⟨r, h1, h2⟩ := key
  rw [← h2]
  exact M.i_bind h1 M.i_pure
theorem every_ends {s : List Int} {f : Int → M Bool} {p : Int → Bool} (hf : ∀ x ∈ s, (f x).Ends (p x)) : (m_notes_every_int f s).Ends (s.all p) := by
  have h := containsFunc_ends (s := s) (f := fun x => m_notes_every_int__1 x f) (p := fun x => !(p x)) (fun x hx => M.i_bind (hf x hx) M.i_pure)
  have e : s.all p = !(s.any fun x => !(p x)) := by rw [List.all_eq_not_any_not]
  rw [e]
  exact M.i_bind h M.i_pure
/-- Is a work that is made of one outside a list? -/
def leak (ws : List Work) (f : List Int) (x : Int) (j : Nat) : Bool := (ws.getD j default).of.contains x && !(f.contains (j : Int))
theorem made_ends (x : Int) : (m_notes_web_made_1 (M.yl (m_notes_Fences_b3 f)) (.inl ()) ws x).Ends (if (List.range ws.length).any (leak ws f x) then .inr () else .inl ()) := by
  have h := M.i_loopQ (body := m_notes_web_made_1_b0 (M.yl (m_notes_Fences_b3 f)) ws x) (fun r => match r with | .inl t => t = .inr () ∧ (List.range ws.length).any (leak ws f x) = true | .inr t => t = .inl () ∧ (List.range ws.length).any (leak ws f x) = false)
    (fun m s => m = ws.length - s.1 ∧ s.1 ≤ ws.length ∧ s.2 = .inl () ∧ (List.range s.1).any (leak ws f x) = false) (by
      rintro m ⟨i, t⟩ ⟨rfl, hi, ht, ha⟩
      dsimp only at hi ht ha ⊢
      subst ht
      simp only [m_notes_web_made_1_b0]
      by_cases e : i < ws.length
      · have ho : (m_notes_web_of ws (i : Int) x).Ends ((ws.getD i default).of.contains x) := by
          have := (M.i_grd (k := M.pure (((ws.getD (Int.toNat (i : Int)) default).of).contains x)) (gA2 (p := (0 : Int) ≤ (i : Int)) (q := (i : Int) < (ws.length : Int)) (by omega) (by omega)) M.i_pure)
          rw [Int.toNat_natCast] at this
          unfold m_notes_web_of
          rw [Int.toNat_natCast]
          exact this
        cases hc : (ws.getD i default).of.contains x with
        | true =>
          rw [hc] at ho
          cases hc2 : f.contains (i : Int) with
          | true =>
            have hy : (M.yl (m_notes_Fences_b3 f) (.inl ()) (i : Int)).Ends (true, .inl ()) := by
              simp only [M.yl, m_notes_Fences_b3, m_notes_Fences_1, hc2]
              exact M.i_bind (M.i_bind M.i_pure (M.i_f rfl M.i_pure)) M.i_pure
            exact .inl ⟨(i + 1, .inl ()), ws.length - (i + 1), by omega, M.i_t (by simpa using e) (M.i_bind ho (M.i_t rfl (M.i_bind hy (M.i_f rfl M.i_pure)))), rfl, e, rfl, by rw [any_range_succ, ha]; unfold leak; rw [hc, hc2]; rfl⟩
          | false =>
            have hy : (M.yl (m_notes_Fences_b3 f) (.inl ()) (i : Int)).Ends (false, .inr ()) := by
              simp only [M.yl, m_notes_Fences_b3, m_notes_Fences_1, hc2]
              exact M.i_bind (M.i_bind M.i_pure (M.i_t rfl M.i_pure)) M.i_pure
            exact .inr ⟨.inl (.inr ()), M.i_t (by simpa using e) (M.i_bind ho (M.i_t rfl (M.i_bind hy (M.i_t rfl M.i_pure)))), rfl, List.any_eq_true.2 ⟨i, List.mem_range.2 e, by unfold leak; rw [hc, hc2]; rfl⟩⟩
        | false =>
          rw [hc] at ho
          exact .inl ⟨(i + 1, .inl ()), ws.length - (i + 1), by omega, M.i_t (by simpa using e) (M.i_bind ho (M.i_f rfl (M.i_f rfl M.i_pure))), rfl, e, rfl, by rw [any_range_succ, ha]; unfold leak; rw [hc]; rfl⟩
      · obtain rfl : i = ws.length := by omega
        exact .inr ⟨.inr (.inl ()), M.i_f (by simp) M.i_pure, rfl, ha⟩) _ (0, .inl ()) ⟨rfl, Nat.zero_le _, rfl, by simp⟩
  obtain ⟨r, h1, h2⟩ := h
  unfold m_notes_web_made_1
  cases r with
  | inl t =>
    obtain ⟨h3, h4⟩ := h2
    subst h3
    rw [h4]
    exact M.i_bind h1 M.i_pure
  | inr t =>
    obtain ⟨h3, h4⟩ := h2
    subst h3
    rw [h4]
    exact M.i_bind h1 M.i_pure
theorem closed_leak : closedB ws f = !((List.range f.length).any fun s => (List.range ws.length).any (leak ws f (f.getD s 0))) := by
  have e : ∀ {a b : Bool}, (a = true ↔ b = false) → a = !b := fun {a b} h => by cases a <;> cases b <;> simp_all
  refine e ?_
  unfold closedB
  rw [List.all_eq_true, List.any_eq_false]
  constructor
  · intro h s hs hh
    obtain ⟨j, hj, hl⟩ := List.any_eq_true.1 hh
    have h1 := List.all_eq_true.1 (h j hj)
    unfold leak at hl
    rw [Bool.and_eq_true, List.contains_iff_mem] at hl
    have h2 := h1 _ hl.1
    have h3 : f.contains (f.getD s 0) = true := by
      rw [List.contains_iff_mem]
      exact getD_memN f (by have := List.mem_range.1 hs; omega) 0
    rw [h3] at h2
    have h4 := hl.2
    rw [Bool.not_eq_true'] at h4
    rw [h4] at h2
    cases h2
  · intro h i hi
    rw [List.all_eq_true]
    intro k hk
    cases hc : f.contains k with
    | false => rfl
    | true =>
      rw [List.contains_iff_mem] at hc
      obtain ⟨s, hs, he⟩ := mem_getD hc 0
      have h1 := h s (List.mem_range.2 hs)
      rw [Bool.not_eq_true, List.any_eq_false] at h1
      have h2 := h1 i hi
      unfold leak at h2
      rw [he] at h2
      have h3 : (ws.getD i default).of.contains k = true := by rw [List.contains_iff_mem]; exact hk
      rw [h3] at h2
      simpa using h2
theorem fences_no (h : fencesE ws rev f ≠ 0) : fencesR ws rev f = false := by unfold fencesR; rw [if_neg h]
theorem notesFences_ends (ws : List Work) (rev f : List Int) : (m_notes_Fences ws rev f).Ends (fencesR ws rev f, fencesE ws rev f) := by
  unfold m_notes_Fences
  by_cases h : askedE ws rev = 0
  · have e0 : fencesE ws rev f = listedE ws.length f := by unfold fencesE; rw [if_neg (by simp [h])]
    refine M.i_t (by simp [h]) (M.i_t rfl ?_)
    by_cases hL : listedE ws.length f = 0
    · have e1 : fencesR ws rev f = ((rev.all fun x => f.contains x) && closedB ws f) := by unfold fencesR; rw [if_pos (by rw [e0]; exact hL)]
      refine M.i_f (by simp [hL]) (M.i_bind (M.i_scan f.length (fun s => (List.range ws.length).any (leak ws f (f.getD s 0))) (fun i hi _ => ?_) (fun _ => ?_)) ?_)
      · simp only [m_notes_Fences_b4]
        refine M.i_t (by simpa using hi) (M.grdD (by omega) (M.i_bind (M.i_pure : (m_notes_web_made ws (f.getD i 0)).Ends (f.getD i 0)) (M.i_bind (made_ends _) ?_)))
        cases (List.range ws.length).any (leak ws f (f.getD i 0)) <;> exact M.i_pure
      · simp only [m_notes_Fences_b4]
        exact M.i_f (by simp) M.i_pure
      · rw [e0, e1, hL, closed_leak]
        cases (List.range f.length).any fun s => (List.range ws.length).any (leak ws f (f.getD s 0)) with
        | true => simp only [if_true, Bool.not_true, Bool.and_false]; exact M.i_pure
        | false =>
          simp only [Bool.false_eq_true, if_false, Bool.not_false, Bool.and_true]
          exact M.i_bind (every_ends (fun x _ => (M.i_pure : (m_notes_Fences_1 x f).Ends (f.contains x)))) M.i_pure
    · rw [fences_no (by rw [e0]; exact hL), e0]
      exact M.i_t (by simpa using hL) M.i_pure
  · have e0 : fencesE ws rev f = askedE ws rev := by unfold fencesE; rw [if_pos h]
    rw [fences_no (by rw [e0]; exact h), e0]
    exact M.i_f (by simpa using h) (M.i_f (by simpa using h) (M.i_t (by simpa using h) M.i_pure))
theorem refFences_ends (ws : List Work) (rev f : List Int) : (m_nilometerref13_Fences ws rev f).Ends (fencesR ws rev f, fencesE ws rev f) := by
  unfold m_nilometerref13_Fences
  refine M.i_bind (refStale_ends ws rev) ?_
  by_cases h : askedE ws rev = 0
  · have e0 : fencesE ws rev f = listedE ws.length f := by unfold fencesE; rw [if_neg (by simp [h])]
    refine M.i_f (by simp [h]) ?_
    by_cases hL : listedE ws.length f = 0
    · have e1 : fencesR ws rev f = ((rev.all fun x => f.contains x) && closedB ws f) := by unfold fencesR; rw [if_pos (by rw [e0]; exact hL)]
      have s0 := M.i_scan (b := m_nilometerref13_Fences_b0 rev f) rev.length (fun k => !(f.contains (rev.getD k 0))) (fun i hi _ => ?_) (fun _ => ?_)
      · rw [any_range_all rev 0 (fun x => f.contains x)] at s0
        refine M.i_f (by simp [hL]) (M.i_bind s0 ?_)
        rw [e0, e1, hL]
        cases rev.all fun x => f.contains x with
        | false => exact M.i_pure
        | true =>
          have s1 := M.i_scan (b := m_nilometerref13_Fences_b3 ws f) ws.length (fun i => !((ws.getD i default).of.all fun k => !(f.contains k) || f.contains (i : Int))) (fun i hi _ => ?_) (fun _ => ?_)
          · refine M.i_bind s1 ?_
            have e2 : ((List.range ws.length).any fun i => !((ws.getD i default).of.all fun k => !(f.contains k) || f.contains (i : Int))) = !closedB ws f := by
              unfold closedB
              rw [List.all_eq_not_any_not, Bool.not_not]
            rw [e2]
            cases closedB ws f <;> exact M.i_pure
          · have s2 := M.i_scan (b := m_nilometerref13_Fences_b2 ws f i) (ws.getD i default).of.length (fun k => !(!(f.contains ((ws.getD i default).of.getD k 0)) || f.contains (i : Int))) (fun k hk _ => ?_) (fun _ => ?_)
            · rw [any_range_all (ws.getD i default).of 0 (fun k => !(f.contains k) || f.contains (i : Int))] at s2
              simp only [m_nilometerref13_Fences_b3]
              refine M.i_t (by simpa using hi) (M.i_bind s2 ?_)
              cases (ws.getD i default).of.all fun k => !(f.contains k) || f.contains (i : Int) <;> exact M.i_pure
            · simp only [m_nilometerref13_Fences_b2]
              refine M.grdD (by omega) (M.i_t (by simpa using hk) (M.grdD (by omega) ?_))
              cases f.contains ((ws.getD i default).of.getD k 0) <;> cases f.contains (i : Int) <;> exact M.i_pure
            · simp only [m_nilometerref13_Fences_b2]
              exact M.grdD (by omega) (M.i_f (by simp) M.i_pure)
          · simp only [m_nilometerref13_Fences_b3]
            exact M.i_f (by simp) M.i_pure
      · simp only [m_nilometerref13_Fences_b0]
        refine M.i_t (by simpa using hi) (M.grdD (by omega) ?_)
        cases f.contains (rev.getD i 0) <;> exact M.i_pure
      · simp only [m_nilometerref13_Fences_b0]
        exact M.i_f (by simp) M.i_pure
    · rw [fences_no (by rw [e0]; exact hL), e0]
      exact M.i_t (by simpa using hL) M.i_pure
  · have e0 : fencesE ws rev f = askedE ws rev := by unfold fencesE; rw [if_pos h]
    rw [fences_no (by rw [e0]; exact h), e0]
    exact M.i_t (by simpa using h) M.i_pure
end Go.Proofs.Ytndobgodeicloaa
namespace Go.Proofs.Ytndobgodeicloaa
open Go Go.Nm
variable {ws : List Work} {rev f : List Int}
structure RRel (ws : List Work) (rev : List Int) (t : Nat) (R : List Int) : Prop where
  len : R.length = ws.length
  eq : ∀ x ∈ (orderP ws).take t, R.getD x.toNat 0 = (readyR ws rev).getD x.toNat 0
theorem ready_k (h : askedE ws rev = 0) {L : List Int} {t : Nat} (h0 : 0 ≤ (orderP ws).getD t 0) (h1 : (orderP ws).getD t 0 < (ws.length : Int)) (hl : L.length = ws.length)
    (heq : ∀ x ∈ (ws.getD (Int.toNat ((orderP ws).getD t 0)) default).of, (L.set (Int.toNat ((orderP ws).getD t 0)) (-1)).getD x.toNat 0 = (readyR ws rev).getD x.toNat 0) :
    (M.iter (m_nilometerref13_Ready_b1 ws (staleR ws rev) (orderP ws) L t) (0, 0)).Ends (begF (readyR ws rev) (ws.getD (Int.toNat ((orderP ws).getD t 0)) default).of) := by
  obtain ⟨hO, hLi⟩ := asked_ok h
  have hR := opened_right hO
  have hrr := readyR_ok h
  have hofr := right_of hR (i := Int.toNat ((orderP ws).getD t 0)) (by omega)
  have := M.i_for (body := m_nilometerref13_Ready_b1 ws (staleR ws rev) (orderP ws) L t) (r := begF (readyR ws rev) (ws.getD (Int.toNat ((orderP ws).getD t 0)) default).of) (fun k => (begF (readyR ws rev) ((ws.getD (Int.toNat ((orderP ws).getD t 0)) default).of.take k), k)) (ws.getD (Int.toNat ((orderP ws).getD t 0)) default).of.length (fun k hk => ?_) ?_
  · simpa [begF] using this
  · have hm := getD_memN (ws.getD (Int.toNat ((orderP ws).getD t 0)) default).of (by omega : (k : Int) < _) 0
    have hx := hofr _ hm
    have he := heq _ hm
    simp only [m_nilometerref13_Ready_b1]
    rw [begF_next _ _ (by omega)]
    have hb := (begF_le (readyR ws rev) ((ws.getD (Int.toNat ((orderP ws).getD t 0)) default).of.take k) 300000 (by omega) (fun y hy => (readyL_bound hR (staleL ws rev) y (by rw [hrr]; exact hy)).2)).1
    have hs := stale_con h hx.1 hx.2.1
    have hq := ready_eq hO (staleL ws rev) hx.1 hx.2.1
    rw [hrr] at hq
    rw [← he] at hq ⊢
    generalize (ws.getD (Int.toNat ((orderP ws).getD t 0)) default).of.getD k 0 = x at *
    refine M.i_grd (gA2 h0 h1) (M.i_t (by simpa using hk) (M.grdD (by omega) (M.i_grd (gOr2 hx.1 (by rw [List.length_set]; omega)) ?_)))
    rw [hs]
    generalize hv : (L.set (Int.toNat ((orderP ws).getD t 0)) (-1)).getD x.toNat 0 = v at *
    generalize begF (readyR ws rev) ((ws.getD (Int.toNat ((orderP ws).getD t 0)) default).of.take k) = b at *
    cases hst : (staleL ws rev).getD x.toNat false with
    | true =>
      by_cases hc : b < v
      · rw [show max b v = v from by omega]
        refine M.i_t (by simp [hc]) (M.i_grd (gA2 hx.1 (by rw [List.length_set]; omega)) ?_)
        rw [← hv]
        exact M.i_pure
      · rw [show max b v = b from by omega]
        exact M.i_f (by simp [hc]) M.i_pure
    | false =>
      rw [hst, if_neg (by decide)] at hq
      rw [show max b v = b from by omega]
      exact M.i_f rfl M.i_pure
  · simp only [m_nilometerref13_Ready_b1, List.take_length]
    exact M.i_grd (gA2 h0 h1) (M.i_f (by simp) M.i_pure)
theorem ready_step (h : askedE ws rev = 0) {t : Nat} (ht : t < ws.length) {R : List Int} (hRl : RRel ws rev t R) : ∃ R', (m_nilometerref13_Ready_b2 ws (staleR ws rev) (orderP ws) (R, t)).Ends (.inl (R', t + 1)) ∧ RRel ws rev (t + 1) R' := by
  obtain ⟨hO, hLi⟩ := asked_ok h
  have hR := opened_right hO
  have hf := order_full hO
  have hg := order_good ws
  have hti : t < (orderP ws).length := by omega
  have hrng := order_at ws (k := t) (by omega)
  have htk := take_succ_getD (orderP ws) hti 0
  have hrr := readyR_ok h
  have hnot : (orderP ws).getD t 0 ∉ (orderP ws).take t := by
    intro hm
    have hnd := hg.1
    rw [← List.take_append_drop t (orderP ws), List.nodup_append] at hnd
    refine hnd.2.2 _ hm _ ?_ rfl
    rw [List.mem_iff_getElem]
    refine ⟨0, by rw [List.length_drop]; omega, ?_⟩
    rw [List.getElem_drop]
    simp only [Nat.add_zero]
    exact (getD_el _ hti 0).symm
  have hofs := hg.2.2 t hti
  have hnum := right_nums hR (i := ((orderP ws).getD t 0).toNat) (by omega)
  have heq := hRl.eq
  have hlen := hRl.len
  have hq := ready_eq hO (staleL ws rev) hrng.1 hrng.2
  rw [hrr] at hq
  have hs := stale_con h hrng.1 hrng.2
  have hother : ∀ (v : Int), ∀ x ∈ (orderP ws).take t, (R.set ((orderP ws).getD t 0).toNat v).getD x.toNat 0 = R.getD x.toNat 0 := by
    intro v x hx
    have hx0 := (order_rng ws x (List.mem_of_mem_take hx)).1
    have hne : (orderP ws).getD t 0 ≠ x := fun e => hnot (e ▸ hx)
    rw [gset _ _ _ _ _ (by omega), if_neg (by omega)]
  have hk := ready_k h (L := R) (t := t) hrng.1 hrng.2 hlen (fun x hx => by rw [hother _ x (hofs x hx)]; exact heq x (hofs x hx))
  have keep : ∀ v, v = (readyR ws rev).getD ((orderP ws).getD t 0).toNat 0 → RRel ws rev (t + 1) (R.set ((orderP ws).getD t 0).toNat v) := fun v hv => ⟨by rw [List.length_set]; exact hlen, fun x hx => by
    rw [htk] at hx
    rcases List.mem_append.1 hx with hx | hx
    · rw [hother _ x hx]; exact heq x hx
    · rw [List.mem_singleton] at hx
      rw [hx, gset _ _ _ _ _ (by omega), if_pos rfl, hv]⟩
  simp only [m_nilometerref13_Ready_b2]
  cases hst : (staleL ws rev).getD ((orderP ws).getD t 0).toNat false with
  | false =>
    rw [hst, if_neg (by decide)] at hq
    exact ⟨_, M.i_t (by simp; omega) (M.grdD (by omega) (M.i_grd (gA2 hrng.1 (by omega)) (M.i_t (by rw [hs, hst]; rfl) M.i_pure))), keep _ hq.symm⟩
  | true =>
    rw [hst, if_pos rfl] at hq
    have hb := begF_le (readyR ws rev) (ws.getD (Int.toNat ((orderP ws).getD t 0)) default).of 300000 (by omega) (fun y hy => (readyL_bound hR (staleL ws rev) y (by rw [hrr]; exact hy)).2)
    refine ⟨_, M.i_t (by simp; omega) (M.grdD (by omega) (M.i_grd (gA2 hrng.1 (by omega)) (M.i_f (by rw [hs, hst]; rfl) (M.i_bind hk (M.i_grd (gA2 hrng.1 hrng.2) (M.i_grd (gA2 (by omega) (by omega)) (M.i_grd (gA2 hrng.1 (by rw [List.length_set]; omega)) M.i_pure))))))), ?_⟩
    rw [List.set_set]
    exact keep _ hq.symm
theorem ready_loop (h : askedE ws rev = 0) : (M.iter (m_nilometerref13_Ready_b2 ws (staleR ws rev) (orderP ws)) (List.replicate ws.length 0, 0)).Ends (readyR ws rev, readyR ws rev) := by
  obtain ⟨hO, hLi⟩ := asked_ok h
  have hf := order_full hO
  refine M.i_loop (fun m s => ∃ t, t ≤ ws.length ∧ m = ws.length - t ∧ s.2 = t ∧ RRel ws rev t s.1) ?_ ws.length (List.replicate ws.length 0, 0) ⟨0, Nat.zero_le _, rfl, rfl, by simp, fun x hx => by simp at hx⟩
  rintro m ⟨R, t'⟩ ⟨t, hle, rfl, rfl, hR⟩
  dsimp only at hle hR ⊢
  by_cases ht : t' < ws.length
  · left
    obtain ⟨R', hb, hR'⟩ := ready_step h ht hR
    exact ⟨(R', t' + 1), _, Nat.sub_succ_lt_self _ _ ht, hb, t' + 1, ht, rfl, rfl, hR'⟩
  · right
    obtain rfl : t' = ws.length := by omega
    have e : R = readyR ws rev := by
      have hl : (readyR ws rev).length = ws.length := by rw [← readyR_ok h, readyL_len]
      refine List.ext_getElem (by rw [hl]; exact hR.len) fun i h1 h2 => ?_
      have hi : i < ws.length := by rw [← hR.len]; exact h1
      have hm := order_all hO (i := (i : Int)) (Int.natCast_nonneg _) (by omega)
      have := hR.eq (i : Int) (by rw [← hf, List.take_length]; exact hm)
      rw [Int.toNat_natCast, getD_el _ h1] at this
      rw [this]
      exact getD_el _ h2 0
    simp only [m_nilometerref13_Ready_b2]
    rw [e]
    exact M.i_f (by simp [hf]) M.i_pure
theorem refReady_ends (ws : List Work) (rev : List Int) : (m_nilometerref13_Ready ws rev).Ends (readyR ws rev, askedE ws rev) := by
  unfold m_nilometerref13_Ready
  refine M.i_bind (refStale_ends ws rev) ?_
  by_cases h : askedE ws rev = 0
  · obtain ⟨hO, hLi⟩ := asked_ok h
    have hlen := right_len (opened_right hO)
    refine M.i_f (by simp [h]) (M.i_bind (order_ends ws) ?_)
    rw [if_pos hO, h]
    exact M.i_grd (gA3 (by omega) (by omega) (by omega)) (M.i_bind (ready_loop h) M.i_pure)
  · rw [readyR_no h]
    exact M.i_t (by simpa using h) M.i_pure
theorem refLeads_ends {l : List Int} (hO : openedE ws = 0) (hr : ∀ x ∈ l, 0 ≤ x ∧ x < (ws.length : Int)) (hl : l.length ≤ 1000000) : (m_nilometerref13_Leads ws l).Ends (lineB ws l && decide (0 < (l.length : Int)), 0) := by
  unfold m_nilometerref13_Leads
  refine M.i_bind (check_ends ws) (M.i_f (by simp [hO]) ?_)
  have s0 := M.i_scan (b := m_nilometerref13_Leads_b0 ws l) l.length (fun _ => false) (fun i hi _ => ?_) (fun _ => ?_)
  · rw [show (List.range l.length).any (fun _ => false) = false from by simp] at s0
    refine M.i_bind s0 (M.i_bind (a := lineB ws l && decide (0 < (l.length : Int))) ?_ M.i_pure)
    unfold m_nilometerref13_leads
    have s1 := M.i_scan (b := m_nilometerref13_leads_b0 ws l) (l.length - 1) (fun i => !((ws.getD (l.getD (i + 1) 0).toNat default).of.contains (l.getD i 0))) (fun i hi _ => ?_) (fun _ => ?_)
    · refine M.i_bind s1 ?_
      rw [lineB_at]
      cases (List.range (l.length - 1)).any fun i => !((ws.getD (l.getD (i + 1) 0).toNat default).of.contains (l.getD i 0)) <;> exact M.i_pure
    · have hm := hr _ (getD_memN l (i := i + 1) (by omega) 0)
      simp only [m_nilometerref13_leads_b0, show ((i : Int) + 1).toNat = i + 1 from by omega]
      refine M.i_grd (gA2 (by omega) (by omega)) (M.i_t (by simp; omega) (M.i_grd (gA2 (by omega) (by omega)) (M.i_grd (gA2 hm.1 hm.2) (M.grdD (by omega) ?_))))
      cases (ws.getD (l.getD (i + 1) 0).toNat default).of.contains (l.getD i 0) <;> exact M.i_pure
    · simp only [m_nilometerref13_leads_b0]
      exact M.i_grd (gA2 (by omega) (by omega)) (M.i_f (by simp; omega) M.i_pure)
  · have hm := hr _ (getD_memN l (by omega : (i : Int) < _) 0)
    have hi' : inB (l.getD i 0) 0 ((ws.length : Int) - 1) = true := by unfold inB; simp only [Bool.and_eq_true, decide_eq_true_eq]; omega
    simp only [m_nilometerref13_Leads_b0, outB_eq]
    rw [hi']
    exact M.i_t (by simpa using hi) (M.grdD (by omega) (M.i_f rfl M.i_pure))
  · simp only [m_nilometerref13_Leads_b0]
    exact M.i_f (by simp) M.i_pure
theorem there_ends (st l : List Int) {s : Nat} : (M.iter (m_nilometerlaw13_NotesStale_b5 st l s) (false, 0)).Ends (st.contains (l.getD s 0)) := by
  have := M.i_for (body := m_nilometerlaw13_NotesStale_b5 st l s) (r := st.any fun x => x == l.getD s 0) (fun k => ((st.take k).any (fun x => x == l.getD s 0), k)) st.length (fun k hk => ?_) ?_
  · have e : (st.any fun x => x == l.getD s 0) = st.contains (l.getD s 0) := by
      rw [Bool.eq_iff_iff, List.any_eq_true, List.contains_iff_mem]
      exact ⟨fun ⟨x, h1, h2⟩ => by rw [← eq_of_beq h2]; exact h1, fun h => ⟨_, h, by simp⟩⟩
    rw [e] at this
    simpa using this
  · simp only [m_nilometerlaw13_NotesStale_b5]
    rw [any_take_succ _ _ hk 0]
    exact M.i_t (by simpa using hk) (M.grdD (by omega) M.i_pure)
  · simp only [m_nilometerlaw13_NotesStale_b5, List.take_length]
    exact M.i_f (by simp) M.i_pure
theorem sum_ends (h : askedE ws rev = 0) {l : List Int} (hl : ∀ x ∈ l, 0 ≤ x ∧ x < (ws.length : Int) ∧ (staleL ws rev).getD x.toNat false = true) (hn : l.length ≤ 100) :
    (M.iter (m_nilometerlaw13_NotesStale_b6 ws (staleR ws rev) l) (0, 0)).Ends (.inr (sumM ws l)) := by
  have hR := opened_right (asked_ok h).1
  have hb : ∀ k, k ≤ l.length → 0 ≤ sumM ws (l.take k) ∧ sumM ws (l.take k) ≤ 10000 * (k : Int) := by
    intro k
    induction k with
    | zero => intro _; simp [sumM]
    | succ k ih =>
      intro hk
      have hm := hl _ (getD_memN l (i := k) (by omega) 0)
      have hn := right_nums hR (i := Int.toNat (l.getD k 0)) (by omega)
      have := ih (by omega)
      rw [sumM_next l (by omega)]
      omega
  have := M.i_for (body := m_nilometerlaw13_NotesStale_b6 ws (staleR ws rev) l) (r := .inr (sumM ws l)) (fun k => (sumM ws (l.take k), k)) l.length (fun k hk => ?_) ?_
  · simpa [sumM] using this
  · have hm := hl _ (getD_memN l (by omega : (k : Int) < _) 0)
    have hb1 := hb (k + 1) (by omega)
    have hc := stale_con h hm.1 hm.2.1
    rw [hm.2.2] at hc
    rw [sumM_next l hk] at hb1
    simp only [m_nilometerlaw13_NotesStale_b6]
    rw [sumM_next l hk]
    refine M.i_t (by simpa using hk) (M.grdD (by omega) (M.i_grd (gA2 hm.1 hm.2.1) (M.i_grd (gA2 (by omega) (by omega)) (M.i_bind (there_ends _ _) (M.i_f (by rw [hc]; rfl) M.i_pure)))))
  · simp only [m_nilometerlaw13_NotesStale_b6, List.take_length]
    exact M.i_f (by simp) M.i_pure
theorem most_ends (l : List Int) : (M.iter (m_nilometerlaw13_NotesStale_b7 l) (0, 0)).Ends (l.foldl max 0) := by
  have := M.i_for (body := m_nilometerlaw13_NotesStale_b7 l) (r := l.foldl max 0) (fun k => ((l.take k).foldl max 0, k)) l.length (fun k hk => ?_) ?_
  · simpa using this
  · simp only [m_nilometerlaw13_NotesStale_b7]
    rw [take_succ_getD l hk 0, List.foldl_append]
    exact M.i_t (by simpa using hk) (M.grdD (by omega) M.i_pure)
  · simp only [m_nilometerlaw13_NotesStale_b7, List.take_length]
    exact M.i_f (by simp) M.i_pure
theorem notesStale_ends (ws : List Work) (rev f : List Int) : (m_nilometerlaw13_NotesStale ws rev f).Ends true := by
  unfold m_nilometerlaw13_NotesStale
  cases hb : littleB ws [rev, f] with
  | false => exact M.i_t rfl (M.i_bind awake_ends M.i_pure)
  | true =>
    have h1 := hb
    unfold littleB at h1
    simp only [Bool.and_eq_true, decide_eq_true_eq, List.all_eq_true] at h1
    have hw : ws.length ≤ 1000 := by omega
    have ho : ∀ x ∈ ws, x.of.length ≤ 1000 := fun x hx => by have := h1.1.2 x hx; omega
    have hr : rev.length ≤ 40 := h1.2 rev (by simp)
    have hf : f.length ≤ 40 := h1.2 f (by simp)
    have tail : (M.bind (m_nilometerlaw13_same ws ws) fun r8 =>
      M.bind (M.pure (decide (rev = rev))) fun s5 =>
      M.bind (M.pure (decide (f = f))) fun s6 =>
      M.bind (M.opt ((r8 && s5) && s6) (m_nilometerlaw13_awake) false) fun r9 =>
      M.pure (((r8 && s5) && s6) && r9)).Ends true := by
      refine M.i_bind (same_ends ws) (M.i_bind M.i_pure (M.i_bind M.i_pure (M.i_bind (M.i_opt (fun _ => awake_ends) (fun e => by simp at e)) ?_)))
      have : (((true && (decide (rev = rev))) && (decide (f = f))) && true) = true := by simp
      rw [this]
      exact M.i_pure
    refine M.i_f rfl (M.i_bind (copyWorks_ends hw ho) (M.grdD (by omega) (M.grdD (by omega) (M.i_bind M.i_pure (M.i_bind (works_ends hw ho) (M.i_bind (refStale_ends ws rev) ?_))))))
    refine M.i_f (by simp) (M.i_bind (notesFences_ends ws rev f) (M.i_bind (works_ends hw ho) (M.i_bind (refFences_ends ws rev f) ?_)))
    refine M.i_f (by simp) (M.i_bind M.i_pure (M.i_bind (works_ends hw ho) (M.i_bind (refReady_ends ws rev) (M.i_bind M.i_pure ?_))))
    refine M.i_f (by simp) ?_
    by_cases ha : askedE ws rev = 0
    · by_cases hn : rev = []
      · subst hn
        obtain ⟨e1, e2⟩ := longest_none ha rfl
        rw [e1, e2]
        exact M.i_t (by simp [ha]) (M.i_bind M.i_pure (M.i_f rfl (M.i_f rfl tail)))
      · obtain ⟨e1, e2, e3, e4, e5, e6⟩ := longest_line ha hn
        have hlen := right_len (opened_right (asked_ok ha).1)
        have hll := longestR_len ws rev
        have hz : ((rev.length : Int) == 0) = false := by
          cases rev with
          | nil => exact absurd rfl hn
          | cons a l => simp; omega
        have hrl : (readyR ws rev).length = ws.length := by rw [← readyR_ok ha, readyL_len]
        have hld := refLeads_ends (l := longestR ws rev) (asked_ok ha).1 (fun x hx => ⟨(e1 x hx).1, (e1 x hx).2.1⟩) (by omega)
        rw [e2, show decide (0 < ((longestR ws rev).length : Int)) = true from by simpa using e3] at hld
        rw [e6]
        refine M.i_f (by rw [hz, Bool.and_false]) (M.i_bind M.i_pure (M.i_f (by simp [ha]) (M.i_t rfl (M.i_bind (works_ends hw ho) (M.i_bind hld (M.i_f rfl (M.i_bind (sum_ends ha e1 (by omega)) (M.i_bind (most_ends _) ?_))))))))
        exact M.i_f (by rw [e4, foldl_max_eq (by omega) e5]; simp) tail
    · obtain ⟨e1, e2⟩ := longest_wrong ha
      rw [e1, e2]
      exact M.i_f (by simp [ha]) (M.i_bind M.i_pure (M.i_f (by simp) (M.i_f (by simpa using ha) tail)))
end Go.Proofs.Ytndobgodeicloaa
