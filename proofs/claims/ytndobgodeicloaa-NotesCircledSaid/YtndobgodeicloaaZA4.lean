/- Part 4 of the texts on which the proof rests. Conditions: none. -/
import Derived.Test.YtndobgodeicloaaZA3
set_option linter.unusedVariables false
set_option linter.unusedSimpArgs false
set_option linter.unusedSectionVars false
section
set_option maxRecDepth 100000
set_option maxHeartbeats 16000000
namespace Go.Proofs.Ytndobgodeicloaa
open Go Go.Nm
def m_nilometerlaw13_Six : M (List Work) :=
  M.pure ([(⟨([]), (1 : Int), (5 : Int)⟩ : Work), (⟨([]), (1 : Int), (6 : Int)⟩ : Work), (⟨([(0 : Int), (1 : Int)]), (1 : Int), (10 : Int)⟩ : Work), (⟨([(1 : Int)]), (1 : Int), (30 : Int)⟩ : Work), (⟨([(2 : Int), (3 : Int)]), (1 : Int), (20 : Int)⟩ : Work), (⟨([(4 : Int)]), (1 : Int), (1 : Int)⟩ : Work)])
theorem nilometerlaw13_Six_ok {R : List Chunk}    {r : (List Work)} (hM : (m_nilometerlaw13_Six).Ends r) (w : World) (H : St w w [] R) : Ret Try.prog 79 #[] w fun v w' => ∃ (y0 : List Work) (u0 : Value) (rr1 : List (Raw 2)) (Bs2 : Base), y0 = r ∧ v = u0 ∧ St w w' [cOwn (α := Raw 2) 60 u0 rr1, cRo Bs2] R ∧ RepR (α := Work) Bs2.cells rr1 y0 := by
 refine ret_of_W Try.func79 rfl rfl rfl ?_
 refine sQ rfl <| sA (.slice none 0 0) rfl <| s_nil <| sQ rfl <| s_val (x_bld (ps := [(1, I 1), (2, I 5)]) (zs := [.slice none 0 0, I 0, I 0]) (L' := [.slice none 0 0, I 1, I 5]) rfl Try.underlying60 Al60 rfl (Bd60 Try.underlying60) (.cons (cs := [I 1]) rfl rfl rfl rfl rfl <| .cons (cs := [I 5]) rfl rfl rfl rfl rfl <| .nil)) <| s_val (x_bld (ps := [(1, I 1), (2, I 6)]) (zs := [.slice none 0 0, I 0, I 0]) (L' := [.slice none 0 0, I 1, I 6]) rfl Try.underlying60 Al60 rfl (Bd60 Try.underlying60) (.cons (cs := [I 1]) rfl rfl rfl rfl rfl <| .cons (cs := [I 6]) rfl rfl rfl rfl rfl <| .nil)) ?_
 refine t_bs (α := Int) T34 [I 0, I 1] [(0 : Int), (1 : Int)] H rfl (.cons rfl (Flat.rep_enc _ (0 : Int)) <| .cons rfl (Flat.rep_enc _ (1 : Int)) <| .nil) rfl rfl rfl ?_
 intro v1z w2z H
 refine s_val (x_bld (ps := [(0, v1z), (1, I 1), (2, I 10)]) (zs := [.slice none 0 0, I 0, I 0]) (L' := [v1z, I 1, I 10]) rfl Try.underlying60 Al60 rfl (Bd60 Try.underlying60) (.cons (cs := [v1z]) (Sl.cells (ownSl (H.get (k := 0) rfl))) rfl rfl rfl rfl <| .cons (cs := [I 1]) rfl rfl rfl rfl rfl <| .cons (cs := [I 10]) rfl rfl rfl rfl rfl <| .nil)) ?_
 refine t_bs (α := Int) T34 [I 1] [(1 : Int)] H rfl (.cons rfl (Flat.rep_enc _ (1 : Int)) <| .nil) rfl rfl rfl ?_
 intro v3z w4z H
 refine s_val (x_bld (ps := [(0, v3z), (1, I 1), (2, I 30)]) (zs := [.slice none 0 0, I 0, I 0]) (L' := [v3z, I 1, I 30]) rfl Try.underlying60 Al60 rfl (Bd60 Try.underlying60) (.cons (cs := [v3z]) (Sl.cells (ownSl (H.get (k := 0) rfl))) rfl rfl rfl rfl <| .cons (cs := [I 1]) rfl rfl rfl rfl rfl <| .cons (cs := [I 30]) rfl rfl rfl rfl rfl <| .nil)) ?_
 refine t_bs (α := Int) T34 [I 2, I 3] [(2 : Int), (3 : Int)] H rfl (.cons rfl (Flat.rep_enc _ (2 : Int)) <| .cons rfl (Flat.rep_enc _ (3 : Int)) <| .nil) rfl rfl rfl ?_
 intro v5z w6z H
 refine s_val (x_bld (ps := [(0, v5z), (1, I 1), (2, I 20)]) (zs := [.slice none 0 0, I 0, I 0]) (L' := [v5z, I 1, I 20]) rfl Try.underlying60 Al60 rfl (Bd60 Try.underlying60) (.cons (cs := [v5z]) (Sl.cells (ownSl (H.get (k := 0) rfl))) rfl rfl rfl rfl <| .cons (cs := [I 1]) rfl rfl rfl rfl rfl <| .cons (cs := [I 20]) rfl rfl rfl rfl rfl <| .nil)) ?_
 refine t_bs (α := Int) T34 [I 4] [(4 : Int)] H rfl (.cons rfl (Flat.rep_enc _ (4 : Int)) <| .nil) rfl rfl rfl ?_
 intro v7z w8z H
 refine s_val (x_bld (ps := [(0, v7z), (1, I 1), (2, I 1)]) (zs := [.slice none 0 0, I 0, I 0]) (L' := [v7z, I 1, I 1]) rfl Try.underlying60 Al60 rfl (Bd60 Try.underlying60) (.cons (cs := [v7z]) (Sl.cells (ownSl (H.get (k := 0) rfl))) rfl rfl rfl rfl <| .cons (cs := [I 1]) rfl rfl rfl rfl rfl <| .cons (cs := [I 1]) rfl rfl rfl rfl rfl <| .nil)) ?_
 obtain ⟨Bs_5, H⟩ := H.emptyE
 obtain ⟨Bs_6, H, hs12z⟩ := H.freezeE (k := 4) rfl
 replace H : St w w8z [cRo Bs_5, cOwn (α := Int) 3 v7z ([(4 : Int)]), cOwn (α := Int) 3 v5z ([(2 : Int), (3 : Int)]), cOwn (α := Int) 3 v3z ([(1 : Int)]), cRo Bs_6] R := H
 have hq11z := hs12z
 obtain ⟨Bs_7, H, le13z, le14z⟩ := H.joinE (i := 0) (j := 4) rfl rfl
 replace hq11z := hq11z.mono le14z
 obtain ⟨Bs_8, H, hs16z⟩ := H.freezeE (k := 4) rfl
 replace H : St w w8z [cRo Bs_7, cRo Bs_5, cOwn (α := Int) 3 v7z ([(4 : Int)]), cOwn (α := Int) 3 v5z ([(2 : Int), (3 : Int)]), cRo Bs_8, cRo Bs_6] R := H
 have hq15z := hs16z
 obtain ⟨Bs_9, H, le17z, le18z⟩ := H.joinE (i := 0) (j := 4) rfl rfl
 replace hq11z := hq11z.mono le17z
 replace hq15z := hq15z.mono le18z
 obtain ⟨Bs_10, H, hs20z⟩ := H.freezeE (k := 4) rfl
 replace H : St w w8z [cRo Bs_9, cRo Bs_7, cRo Bs_5, cOwn (α := Int) 3 v7z ([(4 : Int)]), cRo Bs_10, cRo Bs_8, cRo Bs_6] R := H
 have hq19z := hs20z
 obtain ⟨Bs_11, H, le21z, le22z⟩ := H.joinE (i := 0) (j := 4) rfl rfl
 replace hq11z := hq11z.mono le21z
 replace hq15z := hq15z.mono le21z
 replace hq19z := hq19z.mono le22z
 obtain ⟨Bs_12, H, hs24z⟩ := H.freezeE (k := 4) rfl
 replace H : St w w8z [cRo Bs_11, cRo Bs_9, cRo Bs_7, cRo Bs_5, cRo Bs_12, cRo Bs_10, cRo Bs_8, cRo Bs_6] R := H
 have hq23z := hs24z
 obtain ⟨Bs_13, H, le25z, le26z⟩ := H.joinE (i := 0) (j := 4) rfl rfl
 replace hq11z := hq11z.mono le25z
 replace hq15z := hq15z.mono le25z
 replace hq19z := hq19z.mono le25z
 replace hq23z := hq23z.mono le26z
 obtain ⟨rw27z, hrw_rw27z⟩ : ∃ r : Raw 2, r.cs = [.slice none 0 0, I 1, I 5] := ⟨Raw.of [.slice none 0 0, I 1, I 5] rfl rfl, rfl⟩
 obtain ⟨rw28z, hrw_rw28z⟩ : ∃ r : Raw 2, r.cs = [.slice none 0 0, I 1, I 6] := ⟨Raw.of [.slice none 0 0, I 1, I 6] rfl rfl, rfl⟩
 obtain ⟨rw29z, hrw_rw29z⟩ : ∃ r : Raw 2, r.cs = [v1z, I 1, I 10] := ⟨Raw.of [v1z, I 1, I 10] rfl (by simp only [List.all_cons, List.all_nil, Bool.true_and, Bool.and_true, Sl.oc hq11z]; try rfl), rfl⟩
 obtain ⟨rw30z, hrw_rw30z⟩ : ∃ r : Raw 2, r.cs = [v3z, I 1, I 30] := ⟨Raw.of [v3z, I 1, I 30] rfl (by simp only [List.all_cons, List.all_nil, Bool.true_and, Bool.and_true, Sl.oc hq15z]; try rfl), rfl⟩
 obtain ⟨rw31z, hrw_rw31z⟩ : ∃ r : Raw 2, r.cs = [v5z, I 1, I 20] := ⟨Raw.of [v5z, I 1, I 20] rfl (by simp only [List.all_cons, List.all_nil, Bool.true_and, Bool.and_true, Sl.oc hq19z]; try rfl), rfl⟩
 obtain ⟨rw32z, hrw_rw32z⟩ : ∃ r : Raw 2, r.cs = [v7z, I 1, I 1] := ⟨Raw.of [v7z, I 1, I 1] rfl (by simp only [List.all_cons, List.all_nil, Bool.true_and, Bool.and_true, Sl.oc hq23z]; try rfl), rfl⟩
 have hr33z : RepR (α := Work) Bs_13.cells [rw27z, rw28z, rw29z, rw30z, rw31z, rw32z] [(⟨([]), (1 : Int), (5 : Int)⟩ : Work), (⟨([]), (1 : Int), (6 : Int)⟩ : Work), (⟨([(0 : Int), (1 : Int)]), (1 : Int), (10 : Int)⟩ : Work), (⟨([(1 : Int)]), (1 : Int), (30 : Int)⟩ : Work), (⟨([(2 : Int), (3 : Int)]), (1 : Int), (20 : Int)⟩ : Work), (⟨([(4 : Int)]), (1 : Int), (1 : Int)⟩ : Work)] := .cons (by rw [hrw_rw27z]; exact ⟨_, rfl, (Sl.nil _)⟩) <| .cons (by rw [hrw_rw28z]; exact ⟨_, rfl, (Sl.nil _)⟩) <| .cons (by rw [hrw_rw29z]; exact ⟨_, rfl, hq11z⟩) <| .cons (by rw [hrw_rw30z]; exact ⟨_, rfl, hq15z⟩) <| .cons (by rw [hrw_rw31z]; exact ⟨_, rfl, hq19z⟩) <| .cons (by rw [hrw_rw32z]; exact ⟨_, rfl, hq23z⟩) <| .nil
 refine t_bs (α := Raw 2) T22 [.agg #[.slice none 0 0, I 1, I 5], .agg #[.slice none 0 0, I 1, I 6], .agg #[v1z, I 1, I 10], .agg #[v3z, I 1, I 30], .agg #[v5z, I 1, I 20], .agg #[v7z, I 1, I 1]] [rw27z, rw28z, rw29z, rw30z, rw31z, rw32z] H rfl (.cons (by rw [show (Flat.enc rw27z : List Value) = rw27z.cs from rfl, hrw_rw27z]; rfl) (Flat.rep_enc _ _) <| .cons (by rw [show (Flat.enc rw28z : List Value) = rw28z.cs from rfl, hrw_rw28z]; rfl) (Flat.rep_enc _ _) <| .cons (by rw [show (Flat.enc rw29z : List Value) = rw29z.cs from rfl, hrw_rw29z]; rfl) (Flat.rep_enc _ _) <| .cons (by rw [show (Flat.enc rw30z : List Value) = rw30z.cs from rfl, hrw_rw30z]; rfl) (Flat.rep_enc _ _) <| .cons (by rw [show (Flat.enc rw31z : List Value) = rw31z.cs from rfl, hrw_rw31z]; rfl) (Flat.rep_enc _ _) <| .cons (by rw [show (Flat.enc rw32z : List Value) = rw32z.cs from rfl, hrw_rw32z]; rfl) (Flat.rep_enc _ _) <| .nil) rfl rfl rfl ?_
 intro v34z w35z H
 replace H : St w w35z [cOwn (α := Raw 2) 60 v34z ([rw27z, rw28z, rw29z, rw30z, rw31z, rw32z]), cRo Bs_13, cRo Bs_11, cRo Bs_9, cRo Bs_7, cRo Bs_5, cRo Bs_12, cRo Bs_10, cRo Bs_8, cRo Bs_6] R := H
 refine sA v34z rfl <| s_nil ?_
 refine W.ret ?_
 have hr_ := M.e_pure hM
 exact ⟨_, resE_tmp rfl, ⟨([(⟨([]), (1 : Int), (5 : Int)⟩ : Work), (⟨([]), (1 : Int), (6 : Int)⟩ : Work), (⟨([(0 : Int), (1 : Int)]), (1 : Int), (10 : Int)⟩ : Work), (⟨([(1 : Int)]), (1 : Int), (30 : Int)⟩ : Work), (⟨([(2 : Int), (3 : Int)]), (1 : Int), (20 : Int)⟩ : Work), (⟨([(4 : Int)]), (1 : Int), (1 : Int)⟩ : Work)]), v34z, [rw27z, rw28z, rw29z, rw30z, rw31z, rw32z], Bs_13, hr_, rfl, (H.pick [0, 1] (by decide) rfl), hr33z⟩⟩

def m_notes_web_made (w__list_works : List Work) (one : Int) : M Int :=
  M.pure one
theorem notes_web_made_ok {R : List Chunk} {b_w_ : Nat} {C_w__list_works : Cells} {v_w__list_works : Value} (w__list_works : List Work) (one : Int) (hC_w__list_works : Reads R C_w__list_works) (hs_w__list_works : Sl C_w__list_works v_w__list_works w__list_works) (h_b_w_ : Has R (cBlk b_w_ [v_w__list_works] 187)) {r : Int} (hM : (m_notes_web_made w__list_works one).Ends r) (w : World) (H : St w w [] R) : Ret Try.prog 98 #[Pz b_w_, I one] w fun v w' => ∃ (y0 : Int) (nb0 : Nat) (nb1 : Nat), y0 = r ∧ v = .func (.func 148) #[] #[Pz nb0, Pz nb1] ∧ St w w' [cBlk nb0 [Pz b_w_] 127, cBlk nb1 [I y0] 3] R := by
 refine ret_of_W Try.func98 rfl rfl rfl ?_
 refine sQ rfl ?_
 refine t_box (v := Pz b_w_) (cs := [Pz b_w_]) H rfl rfl ?_
 intro b_1 w1z H
 refine t_box (v := I one) (cs := [I one]) H rfl rfl ?_
 intro b_2 w2z H
 refine sA .nilFunc rfl <| s_nil <| sQ rfl <| s_val (x_mf (fs := []) (cs := [Pz b_1, Pz b_2]) rfl rfl) <| sA (.func (.func 148) #[] #[Pz b_1, Pz b_2]) rfl <| s_nil ?_
 refine W.ret ?_
 have hr_ := M.e_pure hM
 exact ⟨_, resE_tmp rfl, ⟨one, b_1, b_2, hr_, rfl, (H.pick [1, 0] (by decide) rfl)⟩⟩

def m_slices_IndexFunc_int_b0 (s : List Int) (f : Int → M Bool) : Nat → M (Nat ⊕ (Int ⊕ Unit)) := fun s2 =>
  bif decide ((s2 : Int) < (s.length : Int)) then (
  M.grd (decide ((s2 : Int) < (s.length : Int))) <|
  M.bind (f (s.getD s2 0)) fun r2 =>
  bif r2 then (
  M.pure (.inr (.inl (s2 : Int))))
  else (
  M.pure (.inl (s2 + 1))))
  else (
  M.pure (.inr (.inr ())))
def m_slices_IndexFunc_int (s : List Int) (f : Int → M Bool) : M Int :=
  M.bind (M.iter (m_slices_IndexFunc_int_b0 s f) 0) fun x_ => match x_ with
  | (.inl s3) => (
  M.pure s3)
  | (.inr (_ : Unit)) => (
  M.pure (-1))
theorem slices_IndexFunc_int_ok {R : List Chunk} {C_s : Cells} {v_s : Value} {v_f : Value} (s : List Int) (f : Int → M Bool) (hC_s : Reads R C_s) (hs_s : Sl C_s v_s s) (hf_f : FnM Try.prog R v_f f) {r : Int} (hM : (m_slices_IndexFunc_int s f).Ends r) (w : World) (H : St w w [] R) : Ret Try.prog 102 #[v_s, v_f] w fun v w' => ∃ (y0 : Int), y0 = r ∧ v = I y0 ∧ St w w' [] R := by
 refine ret_of_W Try.func102 rfl rfl rfl ?_
 refine sQ rfl <| sA (I 0) rfl <| s_nil <| W.seq <| sQ rfl <| sM v_s rfl ?_
 have hl1z := (hs_s).len_le
 refine s_val (x_lenS T34.und rfl hs_s) <| sM (I 0) rfl <| s_nil <| W.block ?_
 obtain ⟨ex2z, hi3z, hk4z⟩ := M.e_bind hM
 obtain ⟨m0_, hi3z⟩ := M.e_iter hi3z
 refine W.loop (fun m σ W => ∃ (s2 : Nat) (ρ : Env), σ = upds ρ [(0, v_s), (1, v_f), (7, I (s.length : Int)), (8, I (s2 : Int))] ∧ M.iterN (m_slices_IndexFunc_int_b0 s f) m s2 = some ex2z ∧ St w W [] R) ?_ ?_
 ·exact ⟨_, 0, _, upds_of _ _ ⟨rfl, rfl, rfl, rfl, trivial⟩, hi3z, H⟩
 rintro m7z σ w5z ⟨s2, ρ, rfl, hI6z, H⟩
 obtain ⟨m8z, lt9z, x10z, hM, hN11z⟩ := M.e_iterN hI6z
 simp only [m_slices_IndexFunc_int_b0] at hM
 clear hI6z
 refine sQ rfl <| sC (s2 : Int) (s.length : Int) (decide ((s2 : Int) < (s.length : Int))) rfl rfl rfl <| s_nil <| W.seq ?_
 refine W.cond (decide ((s2 : Int) < (s.length : Int))) rfl (fun c12z => ?_) (fun c12z => ?_)
 ·replace hM := M.e_t hM c12z
  simp only [qz1, qz2, qz3, qz4, qz5, qz6, ne_eq, qz7] at c12z
  refine W.skip <| W.seq <| W.block <| sQ rfl <| sM (I (s2 : Int)) rfl <| sA (I (s2 : Int)) rfl <| s_nil <| sQ rfl <| sM v_f rfl <| sM v_s rfl ?_
  refine sM (I (s2 : Int)) rfl ?_
  obtain ⟨sd13z, hM⟩ := M.e_gd hM
  refine s_val (x_ix (a := v_s) (b := I (s2 : Int)) (v := vat v_s 1 (Int.toNat (s2 : Int))) rfl rfl (Sl.ix (α := Int) T34.und T34.size hs_s (by omega) (by omega))) <| s_val (x_ld (p := vat v_s 1 (Int.toNat (s2 : Int))) (v := I (s.getD s2 0)) rfl (ld_sc Sc3 (At.mono (Int_at hs_s (i := (s2 : Int)) (by omega) (by omega)) (hC_s.at H)))) ?_
  obtain ⟨r2, hx15z, hM⟩ := M.e_bind hM
  refine t_callM H hf_f rfl rfl (s.getD s2 0) Reads.none (Arg.mkI (fun _ => none) _) hx15z ?_
  intro w14z H
  refine s_nil ?_
  refine W.cond r2 rfl (fun c16z => ?_) (fun c16z => ?_)
  ·replace hM := M.e_t hM c16z
   refine sQ rfl <| sM (I (s2 : Int)) rfl <| sA (I (s2 : Int)) rfl <| s_nil ?_
   refine W.ret ?_
   have hX17z := M.e_inr hM hN11z
   subst hX17z
   replace hM := hk4z
   try dsimp only at hM
   have hr_ := M.e_pure hM
   exact ⟨_, resE_tmp rfl, ⟨(s2 : Int), hr_, rfl, H⟩⟩
  replace hM := M.e_f hM c16z
  refine W.skip <| W.region rfl <| sR (s2 : Int) 1 ((s2 : Int) + 1) rfl rfl rfl (by omega) <| sM (I ((s2 : Int) + 1)) rfl <| s_nil ?_
  exact ⟨m8z, lt9z, s2 + 1, _, upds_of _ _ ⟨rfl, rfl, rfl, rfl, trivial⟩, M.e_inl hM hN11z, H⟩
 replace hM := M.e_f hM c12z
 simp only [qz1, qz2, qz3, qz4, qz5, qz6, ne_eq, qz7] at c12z
 refine W.exit ?_
 have hX18z := M.e_inr hM hN11z
 subst hX18z
 replace hM := hk4z
 try dsimp only at hM
 refine sQ rfl <| sA (I (-1)) rfl <| s_nil ?_
 refine W.ret ?_
 have hr_ := M.e_pure hM
 exact ⟨_, resE_tmp rfl, ⟨(-1), hr_, rfl, H⟩⟩

def m_slices_ContainsFunc_int (s : List Int) (f : Int → M Bool) : M Bool :=
  M.bind (m_slices_IndexFunc_int s f) fun r2 =>
  M.pure (decide (0 ≤ r2))
theorem slices_ContainsFunc_int_ok {R : List Chunk} {C_s : Cells} {v_s : Value} {v_f : Value} (s : List Int) (f : Int → M Bool) (hC_s : Reads R C_s) (hs_s : Sl C_s v_s s) (hf_f : FnM Try.prog R v_f f) {r : Bool} (hM : (m_slices_ContainsFunc_int s f).Ends r) (w : World) (H : St w w [] R) : Ret Try.prog 48 #[v_s, v_f] w fun v w' => ∃ (y0 : Bool), y0 = r ∧ v = B y0 ∧ St w w' [] R := by
 refine ret_of_W Try.func48 rfl rfl rfl ?_
 refine sQ rfl <| sA (B false) rfl <| s_nil <| sQ rfl <| sM v_s rfl <| sM v_f rfl ?_
 obtain ⟨r2z, hx1z, hM⟩ := M.e_bind hM
 refine s_call cf102 [v_s, v_f] rfl (slices_IndexFunc_int_ok s f (hC_s.app _) hs_s (hf_f.app _) hx1z _ (St.give (T := []) H rfl)) ?_
 rintro vq w3z ⟨r2, hr4z, hvq, H2_⟩
 subst hr4z
 subst vq
 try dsimp only at hM
 replace H : St w w3z [] R := H.back H2_ rfl
 clear H2_
 refine sC r2 0 (decide (0 ≤ r2)) rfl rfl rfl <| sA (B (decide (0 ≤ r2))) rfl <| s_nil ?_
 refine W.ret ?_
 have hr_ := M.e_pure hM
 exact ⟨_, resE_tmp rfl, ⟨(decide (0 ≤ r2)), hr_, rfl, H⟩⟩

def m_notes_every_int__1 (x : Int) (k02 : Int → M Bool) : M Bool :=
  M.bind (k02 x) fun r2 =>
  M.pure (!r2)
theorem notes_every_int__1_ok {R : List Chunk} {b_k0 : Nat} {v_k02 : Value} (x : Int) (k02 : Int → M Bool) (hf_k02 : FnM Try.prog R v_k02 k02) (h_b_k0 : Has R (cBlk b_k0 [v_k02] 75)) {r : Bool} (hM : (m_notes_every_int__1 x k02).Ends r) (w : World) (H : St w w [] R) : Ret Try.prog 143 #[I x, Pz b_k0] w fun v w' => ∃ (y0 : Bool), y0 = r ∧ v = B y0 ∧ St w w' [] R := by
 refine ret_of_W Try.func143 rfl rfl rfl ?_
 refine sQ rfl <| sA (B false) rfl <| s_nil <| sQ rfl <| s_val (x_ld (p := Pz b_k0) (v := v_k02) rfl (ldb_sc Sc75 (h_b_k0.blk H) rfl)) <| sM (I x) rfl ?_
 obtain ⟨r2, hx2z, hM⟩ := M.e_bind hM
 refine t_callM H hf_k02 rfl rfl x Reads.none (Arg.mkI (fun _ => none) _) hx2z ?_
 intro w1z H
 refine s_val (x_not (b := r2) rfl) <| sA (B (!r2)) rfl <| s_nil ?_
 refine W.ret ?_
 have hr_ := M.e_pure hM
 exact ⟨_, resE_tmp rfl, ⟨(!r2), hr_, rfl, H⟩⟩

def m_notes_every_int (so : Int → M Bool) (l : List Int) : M Bool :=
  M.bind (m_slices_ContainsFunc_int l (fun xqz => m_notes_every_int__1 xqz so)) fun r2 =>
  M.pure (!r2)
theorem notes_every_int_ok {R : List Chunk} {v_so : Value} {C_l : Cells} {v_l : Value} (so : Int → M Bool) (l : List Int) (hf_so : FnM Try.prog R v_so so) (hC_l : Reads R C_l) (hs_l : Sl C_l v_l l) {r : Bool} (hM : (m_notes_every_int so l).Ends r) (w : World) (H : St w w [] R) : Ret Try.prog 87 #[v_so, v_l] w fun v w' => ∃ (y0 : Bool), y0 = r ∧ v = B y0 ∧ St w w' [] R := by
 refine ret_of_W Try.func87 rfl rfl rfl ?_
 refine sQ rfl ?_
 refine t_box (v := v_so) (cs := [v_so]) H rfl (FnM.cells hf_so) ?_
 intro b_1 w1z H
 refine sA (B false) rfl <| s_nil <| sQ rfl <| sM v_l rfl <| s_val (x_mf (fs := []) (cs := [Pz b_1]) rfl rfl) ?_
 obtain ⟨r3z, hx2z, hM⟩ := M.e_bind hM
 refine s_call cf48 [v_l, .func (.func 143) #[] #[Pz b_1]] rfl (slices_ContainsFunc_int_ok l (fun xqz => m_notes_every_int__1 xqz so) (hC_l.app _) hs_l ⟨143, [Pz b_1], rfl, cf143, fun wqz Lqz Cqz vqz xqz bqz hsqz hCqz hAqz hpqz => by obtain rfl := Arg.int hAqz; exact (notes_every_int__1_ok xqz so (FnM.app (hf_so.app _) _) (Has.app (Has.here (k := 0) rfl) _) hpqz wqz (St.refl hsqz)).mono fun vqz wqz ⟨yqz, hrqz, hvqz, Hqz⟩ => by subst hrqz; exact ⟨hvqz, Hqz⟩⟩ hx2z _ (St.give (T := [cBlk b_1 [v_so] 75]) H rfl)) ?_
 rintro vq w4z ⟨r2, hr5z, hvq, H2_⟩
 subst hr5z
 subst vq
 try dsimp only at hM
 replace H : St w w4z [cBlk b_1 [v_so] 75] R := H.back H2_ rfl
 clear H2_
 refine s_val (x_not (b := r2) rfl) <| sA (B (!r2)) rfl <| s_nil ?_
 refine W.ret ?_
 have hr_ := M.e_pure hM
 exact ⟨_, resE_tmp rfl, ⟨(!r2), hr_, rfl, (H.pick [] (by decide) rfl)⟩⟩

def m_notes_Fences_1 (i : Int) (k02 : List Int) : M Bool :=
  M.pure (k02.contains i)
theorem notes_Fences_1_ok {R : List Chunk} {b_k0 : Nat} {C_k02 : Cells} {v_k02 : Value} (i : Int) (k02 : List Int) (hC_k02 : Reads R C_k02) (hs_k02 : Sl C_k02 v_k02 k02) (h_b_k0 : Has R (cBlk b_k0 [v_k02] 34)) {r : Bool} (hM : (m_notes_Fences_1 i k02).Ends r) (w : World) (H : St w w [] R) : Ret Try.prog 97 #[I i, Pz b_k0] w fun v w' => ∃ (y0 : Bool), y0 = r ∧ v = B y0 ∧ St w w' [] R := by
 refine ret_of_W Try.func97 rfl rfl rfl ?_
 refine sQ rfl <| sA (B false) rfl <| s_nil <| sQ rfl <| s_val (x_ld (p := Pz b_k0) (v := v_k02) rfl (ldb_sc Sc34 (h_b_k0.blk H) rfl)) <| sM (I i) rfl ?_
 refine s_call cf45 [v_k02, I i] rfl (contains_int i _ (hs_k02.mono (hC_k02.at H))) ?_
 rintro _ w1z ⟨rfl, hx_⟩
 replace H : St w w1z [] R := H.ext hx_
 clear hx_
 refine sA (B (k02.contains i)) rfl <| s_nil ?_
 refine W.ret ?_
 have hr_ := M.e_pure hM
 exact ⟨_, resE_tmp rfl, ⟨(k02.contains i), hr_, rfl, H⟩⟩

def m_notes_web_of (w__list_works : List Work) (work : Int) (other : Int) : M Bool :=
  M.grd (decide ((0 : Int) ≤ work) && decide (work < (w__list_works.length : Int))) <|
  M.pure (((w__list_works.getD (Int.toNat work) default).of).contains other)
theorem notes_web_of_ok {R : List Chunk} {b_w_ : Nat} {C_w__list_works : Cells} {v_w__list_works : Value} (w__list_works : List Work) (work : Int) (other : Int) (hC_w__list_works : Reads R C_w__list_works) (hs_w__list_works : Sl C_w__list_works v_w__list_works w__list_works) (h_b_w_ : Has R (cBlk b_w_ [v_w__list_works] 187)) {r : Bool} (hM : (m_notes_web_of w__list_works work other).Ends r) (w : World) (H : St w w [] R) : Ret Try.prog 149 #[Pz b_w_, I work, I other] w fun v w' => ∃ (y0 : Bool), y0 = r ∧ v = B y0 ∧ St w w' [] R := by
 refine ret_of_W Try.func149 rfl rfl rfl ?_
 refine sQ rfl <| sA (B false) rfl <| s_nil <| sQ rfl <| sM (Pz b_w_) rfl <| s_val (x_nc (a := ⟨b_w_, 0, none⟩) rfl) <| s_val (x_fa (a := Pz b_w_) (v := Pz b_w_) rfl (fa_blk (o := 0) Fd187_0 Sz185)) <| s_val (x_fa (a := Pz b_w_) (v := Pz b_w_) rfl (fa_blk (o := 0) Fd185_0 Sz22)) <| s_val (x_ld (p := Pz b_w_) (v := v_w__list_works) rfl (ldb_sc Sc22 (h_b_w_.blk H) rfl)) <| sM (I work) rfl ?_
 obtain ⟨sd1z, hM⟩ := M.e_gd hM
 refine s_val (x_ix (a := v_w__list_works) (b := I work) (v := vat v_w__list_works 3 (Int.toNat work)) rfl rfl (Sl.ix (α := Work) T22.und T22.size hs_w__list_works (by omega) (by omega))) <| s_val (x_fa (a := vat v_w__list_works 3 (Int.toNat work)) (v := fat (vat v_w__list_works 3 (Int.toNat work)) 0) rfl (fa_pl Fd60_0 Sz34 (Sl.pl (i := work) hs_w__list_works (by omega) (by omega)))) ?_
 obtain ⟨u2z, ha_u2z, hs3z⟩ := Work_at0 hs_w__list_works (i := work) (by omega) (by omega)
 replace hs3z : Sl _ u2z (w__list_works.getD (Int.toNat work) default).of := hs3z
 have hl_hs3z := hs3z.len_le
 refine s_val (x_ld (p := fat (vat v_w__list_works 3 (Int.toNat work)) 0) (v := u2z) rfl (ld_sc Sc34 (At.mono (ha_u2z) (hC_w__list_works.at H)))) <| sM (I other) rfl ?_
 refine s_call cf45 [u2z, I other] rfl (contains_int other _ (hs3z.mono (hC_w__list_works.at H))) ?_
 rintro _ w4z ⟨rfl, hx_⟩
 replace H : St w w4z [] R := H.ext hx_
 clear hx_
 refine sA (B (((w__list_works.getD (Int.toNat work) default).of).contains other)) rfl <| s_nil ?_
 refine W.ret ?_
 have hr_ := M.e_pure hM
 exact ⟨_, resE_tmp rfl, ⟨(((w__list_works.getD (Int.toNat work) default).of).contains other), hr_, rfl, H⟩⟩

def m_notes_web_made_1_b0 {T_ : Type} (yield_ : T_ → Int → M (Bool × T_)) (k022 : List Work) (k12 : Int) : (Nat × T_) → M ((Nat × T_) ⊕ (T_ ⊕ T_)) := fun (s, t2) =>
  bif decide ((s : Int) < (k022.length : Int)) then (
  M.bind (m_notes_web_of k022 (s : Int) k12) fun r2 =>
  bif r2 then (
  M.bind (yield_ t2 (s : Int)) fun (go6, t9) =>
  bif (r2 && (!go6)) then (
  M.pure (.inr (.inl t9)))
  else (
  M.pure (.inl (s + 1, t9))))
  else (
  bif (r2 && (!false)) then (
  M.pure (.inr (.inl t2)))
  else (
  M.pure (.inl (s + 1, t2)))))
  else (
  M.pure (.inr (.inr t2)))
def m_notes_web_made_1 {T_ : Type} (yield_ : T_ → Int → M (Bool × T_)) (t_ : T_) (k022 : List Work) (k12 : Int) : M T_ :=
  M.bind (M.iter (m_notes_web_made_1_b0 yield_ k022 k12) (0, t_)) fun x_ => match x_ with
  | (.inl t6) => (
  M.pure t6)
  | (.inr t7) => (
  M.pure t7)
theorem notes_web_made_1_ok {R : List Chunk} {T_ : Type} {Y_ : T_ → List Chunk → Prop} {v_yield_ : Value} {Ls_ : List Chunk} {b_k0 : Nat} {b_k02 : Nat} {C_k022 : Cells} {v_k022 : Value} {b_k1 : Nat} (yield_ : T_ → Int → M (Bool × T_)) (t_ : T_) (k022 : List Work) (k12 : Int) (hf_yield_ : YieldC Try.prog R arI Y_ v_yield_ yield_) (hY_ : Y_ t_ Ls_) (hC_k022 : Reads R C_k022) (hs_k022 : Sl C_k022 v_k022 k022) (h_b_k02 : Has R (cBlk b_k02 [v_k022] 187)) (h_b_k0 : Has R (cBlk b_k0 [Pz b_k02] 127)) (h_b_k1 : Has R (cBlk b_k1 [I k12] 3)) {r : T_} (hM : (m_notes_web_made_1 yield_ t_ k022 k12).Ends r) (w : World) (H : St w w [cAll Ls_] R) : Ret Try.prog 148 #[v_yield_, Pz b_k0, Pz b_k1] w fun v w' => ∃ (y0 : T_) (Ls0 : List Chunk), y0 = r ∧ v = .tuple #[] ∧ St w w' [cAll Ls0] R ∧ Y_ y0 Ls0 := by
 refine ret_of_W Try.func148 rfl rfl rfl ?_
 refine sQ rfl <| s_val (x_ld (p := Pz b_k0) (v := Pz b_k02) rfl (ldb_sc Sc127 (h_b_k0.blk H) rfl)) <| s_val (x_nc (a := ⟨b_k02, 0, none⟩) rfl) <| s_val (x_fa (a := Pz b_k02) (v := Pz b_k02) rfl (fa_blk (o := 0) Fd187_0 Sz185)) <| s_val (x_fa (a := Pz b_k02) (v := Pz b_k02) rfl (fa_blk (o := 0) Fd185_0 Sz22)) <| s_val (x_ld (p := Pz b_k02) (v := v_k022) rfl (ldb_sc Sc22 (h_b_k02.blk H) rfl)) ?_
 have hl1z := (hs_k022).len_le
 refine s_val (x_lenS T22.und rfl hs_k022) <| sM (I 0) rfl <| s_nil <| W.block ?_
 obtain ⟨ex2z, hi3z, hk4z⟩ := M.e_bind hM
 obtain ⟨m0_, hi3z⟩ := M.e_iter hi3z
 refine W.loop (fun m σ W => ∃ (s : Nat) (t2 : T_) (Ls_t2 : List Chunk) (ρ : Env), σ = upds ρ [(0, v_yield_), (1, Pz b_k0), (2, Pz b_k1), (10, I (k022.length : Int)), (11, I (s : Int))] ∧ M.iterN (m_notes_web_made_1_b0 yield_ k022 k12) m (s, t2) = some ex2z ∧ St w W [cAll Ls_t2] R ∧ Y_ t2 Ls_t2) ?_ ?_
 ·exact ⟨_, 0, t_, Ls_, _, upds_of _ _ ⟨rfl, rfl, rfl, rfl, rfl, trivial⟩, hi3z, H, hY_⟩
 rintro m7z σ w5z ⟨s, t2, Ls_t2, ρ, rfl, hI6z, H, hY_t2⟩
 obtain ⟨m8z, lt9z, x10z, hM, hN11z⟩ := M.e_iterN hI6z
 simp only [m_notes_web_made_1_b0] at hM
 clear hI6z
 refine sQ rfl <| sC (s : Int) (k022.length : Int) (decide ((s : Int) < (k022.length : Int))) rfl rfl rfl <| s_nil <| W.seq ?_
 refine W.cond (decide ((s : Int) < (k022.length : Int))) rfl (fun c12z => ?_) (fun c12z => ?_)
 ·replace hM := M.e_t hM c12z
  simp only [qz1, qz2, qz3, qz4, qz5, qz6, ne_eq, qz7] at c12z
  refine W.skip <| W.seq <| W.block <| sQ rfl <| sM (I (s : Int)) rfl <| sA (I (s : Int)) rfl <| s_nil <| sQ rfl <| s_val (x_ld (p := Pz b_k0) (v := Pz b_k02) rfl (ldb_sc Sc127 (h_b_k0.blk H) rfl)) <| sM (I (s : Int)) rfl ?_
  refine s_val (x_ld (p := Pz b_k1) (v := I k12) rfl (ldb_sc Sc3 (h_b_k1.blk H) rfl)) ?_
  obtain ⟨r14z, hx13z, hM⟩ := M.e_bind hM
  refine s_call cf149 [Pz b_k02, I (s : Int), I k12] rfl (notes_web_of_ok k022 (s : Int) k12 (hC_k022.app _) hs_k022 (h_b_k02.app _) hx13z _ (St.give (T := [cAll Ls_t2]) H rfl)) ?_
  rintro vq w15z ⟨r2, hr16z, hvq, H2_⟩
  subst hr16z
  subst vq
  try dsimp only at hM
  replace H : St w w15z [cAll Ls_t2] R := H.back H2_ rfl
  clear H2_
  refine sM (B r2) rfl <| g_val r2 (gy_t rfl) (fun hg => x_mv (v := v_yield_) rfl) <| g_val r2 (gy_t rfl) (fun hg => x_mv (v := I (s : Int)) rfl) ?_
  refine g_splitV r2 (B false) (gy_t rfl) (fun hg_ => ?_) (fun hg_ => ?_)
  ·replace hM := M.e_t hM hg_
   obtain ⟨⟨go7, t10⟩, hx17z, hM⟩ := M.e_bind hM
   try dsimp only at hM
   refine t_yield (L := []) H hf_yield_ hY_t2 (by exact (gd_of (c := r2) hg_ (v_yield_))) [I (s : Int)] (lst1 (gd_of (c := r2) hg_ (I (s : Int)))) (s : Int) Reads.none rfl hx17z ?_
   intro Ls18z w20z hY19z H
   replace H : St w w20z [cAll Ls18z] R := H
   refine g_val r2 (gy_t rfl) (fun hg => x_not (b := go7) rfl) <| s_val (x_pand (b := r2) (r := !go7) rfl (fun hb => gd_of (c := r2) (by first | exact hb | (rw [hb]; rfl) | simp_all) (B (!go7))) rfl) <| s_nil ?_
   refine W.cond (r2 && (!go7)) rfl (fun c21z => ?_) (fun c21z => ?_)
   ·replace hM := M.e_t hM c21z
    refine W.ret ?_
    have hX22z := M.e_inr hM hN11z
    subst hX22z
    replace hM := hk4z
    try dsimp only at hM
    have hr_ := M.e_pure hM
    exact ⟨_, resE_tmp0 rfl, ⟨t10, Ls18z, hr_, rfl, H, hY19z⟩⟩
   replace hM := M.e_f hM c21z
   refine W.skip <| W.region rfl <| sR (s : Int) 1 ((s : Int) + 1) rfl rfl rfl (by omega) <| sM (I ((s : Int) + 1)) rfl <| s_nil ?_
   exact ⟨m8z, lt9z, s + 1, t10, Ls18z, _, upds_of _ _ ⟨rfl, rfl, rfl, rfl, rfl, trivial⟩, M.e_inl hM hN11z, H, hY19z⟩
  replace hM := M.e_f hM hg_
  refine g_val r2 (gy_t rfl) (fun hg => x_not (b := false) (gd_of (c := r2) hg (B false))) <| s_val (x_pand (b := r2) (r := !false) rfl (fun hb => gd_of (c := r2) (by first | exact hb | (rw [hb]; rfl) | simp_all) (B (!false))) rfl) <| s_nil ?_
  refine W.cond (r2 && (!false)) rfl (fun c23z => ?_) (fun c23z => ?_)
  ·replace hM := M.e_t hM c23z
   refine W.ret ?_
   have hX24z := M.e_inr hM hN11z
   subst hX24z
   replace hM := hk4z
   try dsimp only at hM
   have hr_ := M.e_pure hM
   exact ⟨_, resE_tmp0 rfl, ⟨t2, Ls_t2, hr_, rfl, H, hY_t2⟩⟩
  replace hM := M.e_f hM c23z
  refine W.skip <| W.region rfl <| sR (s : Int) 1 ((s : Int) + 1) rfl rfl rfl (by omega) <| sM (I ((s : Int) + 1)) rfl <| s_nil ?_
  exact ⟨m8z, lt9z, s + 1, t2, Ls_t2, _, upds_of _ _ ⟨rfl, rfl, rfl, rfl, rfl, trivial⟩, M.e_inl hM hN11z, H, hY_t2⟩
 replace hM := M.e_f hM c12z
 simp only [qz1, qz2, qz3, qz4, qz5, qz6, ne_eq, qz7] at c12z
 refine W.exit ?_
 have hX25z := M.e_inr hM hN11z
 subst hX25z
 replace hM := hk4z
 try dsimp only at hM
 have hr_ := M.e_pure hM
 exact ⟨_, resE_tmp0 rfl, ⟨t2, Ls_t2, hr_, rfl, H, hY_t2⟩⟩
theorem m_notes_web_made_1_le {T_ : Type} {n_ : Nat} {y y' : T_ → Int → M (Bool × T_)} (h : ∀ s a, M.LeN n_ (y s a) (y' s a)) (t_ : T_) (k022 : List Work) (k12 : Int) : M.LeN n_ (m_notes_web_made_1 y t_ k022 k12) (m_notes_web_made_1 y' t_ k022 k12) := by
  simp only [m_notes_web_made_1, m_notes_web_made_1_b0]
  repeat' (first | exact M.le_same _ _ | exact h _ _ | refine M.le_grd ?_ | refine M.le_if ?_ ?_ | refine M.le_bind ?_ (fun x => ?_) | refine M.le_opt ?_ | refine M.le_iter (fun x => ?_) _ | (rename_i x; cases x) | (rename_i x; obtain ⟨_, _⟩ := x))

def m_notes_Fences_b0 (fence : List Int) : Nat → M (Nat ⊕ Unit) := fun s =>
  bif decide ((s : Int) < (fence.length : Int)) then (
  M.grd (decide ((s : Int) < (fence.length : Int))) <|
  M.fail)
  else (
  M.pure (.inr ()))
def m_notes_Fences_b1 (fence : List Int) : Nat → M (Nat ⊕ Unit) := fun s =>
  bif decide ((s : Int) < (fence.length : Int)) then (
  M.grd (decide ((s : Int) < (fence.length : Int))) <|
  M.fail)
  else (
  M.pure (.inr ()))
def m_notes_Fences_b3 (fence : List Int) : Unit → Int → M (Unit ⊕ Unit) := fun (_ : Unit) x =>
  M.bind (m_notes_Fences_1 x fence) fun r3 =>
  bif !r3 then (
  M.pure (.inr ()))
  else (
  M.pure (.inl ()))
def m_notes_Fences_b4 (w_ : List Work) (fence : List Int) : Nat → M (Nat ⊕ (Unit ⊕ Unit)) := fun s =>
  bif decide ((s : Int) < (fence.length : Int)) then (
  M.grd (decide ((s : Int) < (fence.length : Int))) <|
  M.bind (m_notes_web_made w_ (fence.getD s 0)) fun r10 =>
  M.bind (m_notes_web_made_1 (M.yl (m_notes_Fences_b3 fence)) (.inl ()) w_ r10) fun x_ => match x_ with
  | .inl _ => (
  M.pure (.inl (s + 1)))
  | .inr _ => (
  M.pure (.inr (.inl ()))))
  else (
  M.pure (.inr (.inr ())))
def m_notes_Fences (w_ : List Work) (revised : List Int) (fence : List Int) : M (Bool × Int) :=
  bif (askedE w_ revised == 0) then (
  bif (0 : Int) == 0 then (bif (listedE w_.length fence) != 0 then (
  M.pure (false, (listedE w_.length fence)))
  else (
  M.bind (M.iter (m_notes_Fences_b4 w_ fence) 0) fun x_ => match x_ with
  | (.inl (_ : Unit)) => (
  M.pure (false, 0))
  | (.inr (_ : Unit)) => (
  M.bind (m_notes_every_int (fun xqz => m_notes_Fences_1 xqz fence) revised) fun r2 =>
  M.pure (r2, 0)))) else (M.fail))
  else (
  bif (askedE w_ revised) == 0 then (
  bif (listedE w_.length fence) != 0 then (
  M.pure (false, (listedE w_.length fence)))
  else (
  M.bind (M.iter (m_notes_Fences_b0 fence) 0) fun (_ : Unit) =>
  M.bind (m_notes_every_int (fun xqz => m_notes_Fences_1 xqz fence) revised) fun r2 =>
  M.pure (r2, 0)))
  else (
  bif (askedE w_ revised) != 0 then (
  M.pure (false, (askedE w_ revised)))
  else (
  M.bind (M.iter (m_notes_Fences_b1 fence) 0) fun (_ : Unit) =>
  M.bind (m_notes_every_int (fun xqz => m_notes_Fences_1 xqz fence) revised) fun r2 =>
  M.pure (r2, 0))))
theorem notes_Fences_ok {R : List Chunk} {C_w_ : Cells} {v_w_ : Value} {C_revised : Cells} {v_revised : Value} {C_fence : Cells} {v_fence : Value} (w_ : List Work) (revised : List Int) (fence : List Int) (hC_w_ : Reads R C_w_) (hs_w_ : Sl C_w_ v_w_ w_) (hC_revised : Reads R C_revised) (hs_revised : Sl C_revised v_revised revised) (hC_fence : Reads R C_fence) (hs_fence : Sl C_fence v_fence fence) {r : (Bool × Int)} (hM : (m_notes_Fences w_ revised fence).Ends r) (w : World) (H : St w w [] R) : Ret Try.prog 34 #[v_w_, v_revised, v_fence] w fun v w' => ∃ (y0 : Bool) (y1 : Int), (y0, y1) = r ∧ v = .tuple #[B y0, I y1] ∧ St w w' [] R := by
 refine ret_of_WD Try.func34 rfl rfl rfl ?_
 replace H : St w w [cMk ([])] R := H.mk0
 have hl_w_ := hs_w_.len_le
 have hl_revised := hs_revised.len_le
 have hl_fence := hs_fence.len_le
 unfold m_notes_Fences at hM
 refine WD.seq ?_
 refine WD.of ?_
 refine W.region rfl ?_
 refine t_box (v := v_fence) (cs := [v_fence]) H rfl (Sl.cells hs_fence) ?_
 intro b_1 w1z H
 refine t_alloc (cs := [B false]) H Al4 rfl ?_
 intro b_2 w2z H
 refine t_alloc (cs := [I 0]) H Al35 rfl ?_
 intro b_3 w3z H
 refine s_nil ?_
 refine WD.seq ?_
 refine WD.of ?_
 refine W.region rfl <| sM v_w_ rfl <| sM v_revised rfl ?_
 refine s_call cf92 [v_w_, v_revised] rfl (asked_any _ (hs_w_.mono (hC_w_.at H)) (hs_revised.mono (hC_revised.at H))) ?_
 rintro _ w4z (⟨he_, rfl, hx_⟩ | ⟨he_, b_4, u5z, rfl, hn_, hs6z⟩)
 ·replace hM := M.e_f hM (by simpa using he_)
  replace H : St w w4z [cBlk b_3 [I 0] 35, cBlk b_2 [B false] 4, cBlk b_1 [v_fence] 34, cMk ([])] R := H.ext hx_
  clear hx_
  refine sM (.tuple #[.pointer none, .slice none 0 0, .agg (encB (List.replicate 30 false)).toArray, I (askedE w_ revised)]) rfl <| sX [.pointer none, .slice none 0 0, .agg (encB (List.replicate 30 false)).toArray, I (askedE w_ revised)] (.pointer none) rfl rfl <| sX [.pointer none, .slice none 0 0, .agg (encB (List.replicate 30 false)).toArray, I (askedE w_ revised)] (.slice none 0 0) rfl rfl <| sX [.pointer none, .slice none 0 0, .agg (encB (List.replicate 30 false)).toArray, I (askedE w_ revised)] (.agg (encB (List.replicate 30 false)).toArray) rfl rfl <| sX [.pointer none, .slice none 0 0, .agg (encB (List.replicate 30 false)).toArray, I (askedE w_ revised)] (I (askedE w_ revised)) rfl rfl ?_
  refine t_alloc (cs := encB (List.replicate 30 false)) H Al141 rfl ?_
  intro b_6 w7z H
  have hl_b_6 : (List.replicate 30 false).length = 30 := by simp
  refine sA (.pointer none) rfl <| sA (.slice none 0 0) rfl ?_
  refine t_stArrA (k := 0) (b := b_6) (l := List.replicate 30 false) (l' := List.replicate 30 false) (L' := [cBlk b_6 (encB (List.replicate 30 false)) 141, cBlk b_3 [I 0] 35, cBlk b_2 [B false] 4, cBlk b_1 [v_fence] 34, cMk ([])]) H rfl rfl rfl Sz141 hl_b_6 (List.length_replicate) rfl ?_
  intro w8z H
  refine sA (I (askedE w_ revised)) rfl <| s_nil ?_
  refine WD.seq ?_
  refine WD.seq ?_
  refine WD.of ?_
  refine W.region rfl <| sM (I (askedE w_ revised)) rfl <| sC (askedE w_ revised) 0 ((askedE w_ revised) == 0) rfl rfl rfl <| s_nil ?_
  refine WD.cond ((askedE w_ revised) == 0) rfl (fun c9z => ?_) (fun c9z => ?_)
  ·replace hM := M.e_t hM c9z
   simp only [qz1, qz2, qz3, qz4, qz5, qz6, ne_eq, qz7] at c9z
   refine WD.of ?_
   refine W.region rfl <| sM v_w_ rfl <| s_val (x_ld (p := Pz b_1) (v := v_fence) rfl (ldb_sc Sc34 (H.blk (k := 3) rfl) rfl)) ?_
   refine s_call cf96 [v_w_, v_fence] rfl (listed_any _ (hs_w_.mono (hC_w_.at H)) (hs_fence.mono (hC_fence.at H))) ?_
   rintro _ w10z ⟨rfl, hx_⟩
   replace H : St w w10z [cBlk b_6 (encB (List.replicate 30 false)) 141, cBlk b_3 [I 0] 35, cBlk b_2 [B false] 4, cBlk b_1 [v_fence] 34, cMk ([])] R := H.ext hx_
   clear hx_
   refine sA (I (listedE w_.length fence)) rfl <| s_nil ?_
   refine WD.seq ?_
   refine WD.seq ?_
   refine WD.of ?_
   refine W.region rfl <| sM (I (listedE w_.length fence)) rfl <| sC (listedE w_.length fence) 0 ((listedE w_.length fence) != 0) rfl rfl rfl <| s_nil ?_
   refine WD.cond ((listedE w_.length fence) != 0) rfl (fun c11z => ?_) (fun c11z => ?_)
   ·replace hM := M.e_t hM c11z
    simp only [qz1, qz2, qz3, qz4, qz5, qz6, ne_eq, qz7] at c11z
    refine WD.seq ?_
    refine WD.of ?_
    refine W.region rfl <| sM (I (listedE w_.length fence)) rfl ?_
    refine t_st (k := 2) (b := b_2) (off := 0) (cs := [B false]) (vs := [B false]) (cs' := [B false]) (v := B false) (L' := [cBlk b_6 (encB (List.replicate 30 false)) 141, cBlk b_3 [I 0] 35, cBlk b_2 [B false] 4, cBlk b_1 [v_fence] 34, cMk ([])]) H rfl rfl rfl Sz4 rfl rfl rfl rfl rfl rfl ?_
    intro w12z H
    refine t_st (k := 1) (b := b_3) (off := 0) (cs := [I 0]) (vs := [I (listedE w_.length fence)]) (cs' := [I (listedE w_.length fence)]) (v := I (listedE w_.length fence)) (L' := [cBlk b_6 (encB (List.replicate 30 false)) 141, cBlk b_3 [I (listedE w_.length fence)] 35, cBlk b_2 [B false] 4, cBlk b_1 [v_fence] 34, cMk ([])]) H rfl rfl rfl Sz35 rfl rfl rfl rfl rfl rfl ?_
    intro w13z H
    refine s_nil ?_
    refine WD.of ?_
    refine W.ret ?_
    refine bodyD_r (H.pick [4, 0, 1, 2, 3] (by decide) rfl) ?_
    intro w14z H
    replace H : St w w14z [cBlk b_6 (encB (List.replicate 30 false)) 141, cBlk b_3 [I (listedE w_.length fence)] 35, cBlk b_2 [B false] 4, cBlk b_1 [v_fence] 34] R := H
    have hb15z := (H.blk (k := 2) rfl)
    have hb16z := (H.blk (k := 1) rfl)
    have hr_ := M.e_pure hM
    exact ⟨_, (resE_ofn (vs := [B false, I (listedE w_.length fence)]) rfl rfl (.cell (v := B false) rfl (run_loadVar_sc Sc4 hb15z rfl) <| .cell (v := I (listedE w_.length fence)) rfl (run_loadVar_sc Sc35 hb16z rfl) <| .nil)), ⟨false, (listedE w_.length fence), hr_, rfl, (H.pick [] (by decide) rfl)⟩⟩
   replace hM := M.e_f hM c11z
   simp only [qz1, qz2, qz3, qz4, qz5, qz6, ne_eq, qz7] at c11z
   refine WD.of ?_
   refine W.skip ?_
   refine WD.seq ?_
   refine WD.of ?_
   refine W.region rfl <| s_val (x_mf (fs := []) (cs := [Pz b_1]) rfl rfl) ?_
   refine t_alloc (cs := [.nilFunc]) H Al75 rfl ?_
   intro b_7 w17z H
   refine t_st (k := 0) (b := b_7) (off := 0) (cs := [.nilFunc]) (vs := [.func (.func 97) #[] #[Pz b_1]]) (cs' := [.func (.func 97) #[] #[Pz b_1]]) (v := .func (.func 97) #[] #[Pz b_1]) (L' := [cBlk b_7 [.func (.func 97) #[] #[Pz b_1]] 75, cBlk b_6 (encB (List.replicate 30 false)) 141, cBlk b_3 [I 0] 35, cBlk b_2 [B false] 4, cBlk b_1 [v_fence] 34, cMk ([])]) H rfl rfl rfl Sz75 rfl rfl rfl rfl rfl rfl ?_
   intro w18z H
   refine s_nil ?_
   refine WD.seq ?_
   refine WD.seq ?_
   refine WD.of ?_
   refine W.region rfl <| s_val (x_ld (p := Pz b_1) (v := v_fence) rfl (ldb_sc Sc34 (H.blk (k := 4) rfl) rfl)) ?_
   have hl19z := (hs_fence).len_le
   refine s_val (x_lenS T34.und rfl hs_fence) <| sM (I 0) rfl <| s_nil ?_
   refine WD.block ?_
   obtain ⟨ex20z, hi21z, hk22z⟩ := M.e_bind hM
   obtain ⟨m0_, hi21z⟩ := M.e_iter hi21z
   refine WD.loop (fun m Ds23z σ W => ∃ (s : Nat) (ρ : Env), σ = upds ρ [(1, v_revised), (6, Pz b_2), (7, Pz b_3), (8, .pointer none), (12, Pz b_7), (33, v_fence), (34, I (fence.length : Int)), (35, I (s : Int))] ∧ M.iterN (m_notes_Fences_b0 fence) m s = some ex20z ∧ St w W [cBlk b_7 [.func (.func 97) #[] #[Pz b_1]] 75, cBlk b_6 (encB (List.replicate 30 false)) 141, cBlk b_3 [I 0] 35, cBlk b_2 [B false] 4, cBlk b_1 [v_fence] 34, cMk Ds23z] R) ?_ ?_
   ·exact ⟨_, 0, _, upds_of _ _ ⟨rfl, rfl, rfl, rfl, rfl, rfl, rfl, rfl, trivial⟩, hi21z, H⟩
   rintro m26z Ds23z σ w24z ⟨s, ρ, rfl, hI25z, H⟩
   obtain ⟨m27z, lt28z, x29z, hM, hN30z⟩ := M.e_iterN hI25z
   simp only [m_notes_Fences_b0] at hM
   clear hI25z
   refine WD.seq ?_
   refine WD.of ?_
   refine W.region rfl <| sC (s : Int) (fence.length : Int) (decide ((s : Int) < (fence.length : Int))) rfl rfl rfl <| s_nil ?_
   refine WD.seq ?_
   refine WD.cond (decide ((s : Int) < (fence.length : Int))) rfl (fun c31z => ?_) (fun c31z => ?_)
   ·replace hM := M.e_t hM c31z
    simp only [qz1, qz2, qz3, qz4, qz5, qz6, ne_eq, qz7] at c31z
    refine WD.of ?_
    refine W.skip ?_
    refine WD.seq ?_
    refine WD.block ?_
    refine WD.seq ?_
    refine WD.of ?_
    refine W.region rfl ?_
    obtain ⟨sd32z, hM⟩ := M.e_gd hM
    refine s_val (x_ix (a := v_fence) (b := I (s : Int)) (v := vat v_fence 1 (Int.toNat (s : Int))) rfl rfl (Sl.ix (α := Int) T34.und T34.size hs_fence (by omega) (by omega))) <| s_val (x_ld (p := vat v_fence 1 (Int.toNat (s : Int))) (v := I (fence.getD s 0)) rfl (ld_sc Sc3 (At.mono (Int_at hs_fence (i := (s : Int)) (by omega) (by omega)) (hC_fence.at H)))) <| sA (I (fence.getD s 0)) rfl <| s_nil ?_
    refine WD.seq ?_
    refine WD.of ?_
    refine W.region rfl <| sM (.pointer none) rfl <| sM (I (fence.getD s 0)) rfl ?_
    exact (M.e_fail hM).elim
   replace hM := M.e_f hM c31z
   simp only [qz1, qz2, qz3, qz4, qz5, qz6, ne_eq, qz7] at c31z
   refine WD.of ?_
   refine W.exit ?_
   have hX33z := M.e_inr hM hN30z
   subst hX33z
   replace hM := hk22z
   try dsimp only at hM
   refine WD.seq ?_
   refine WD.of ?_
   refine W.region rfl <| s_val (x_ld (p := Pz b_7) (v := .func (.func 97) #[] #[Pz b_1]) rfl (ldb_sc Sc75 (H.blk (k := 0) rfl) rfl)) <| sM v_revised rfl ?_
   obtain ⟨r35z, hx34z, hM⟩ := M.e_bind hM
   refine s_call cf87 [.func (.func 97) #[] #[Pz b_1], v_revised] rfl (notes_every_int_ok (fun xqz => m_notes_Fences_1 xqz fence) revised ⟨97, [Pz b_1], rfl, cf97, fun wqz Lqz Cqz vqz xqz bqz hsqz hCqz hAqz hpqz => by obtain rfl := Arg.int hAqz; exact (notes_Fences_1_ok xqz fence (Reads.app (hC_fence.app _) _) hs_fence (Has.app (Has.here (k := 4) rfl) _) hpqz wqz (St.refl hsqz)).mono fun vqz wqz ⟨yqz, hrqz, hvqz, Hqz⟩ => by subst hrqz; exact ⟨hvqz, Hqz⟩⟩ (hC_revised.app _) hs_revised hx34z _ (St.give (T := [cBlk b_7 [.func (.func 97) #[] #[Pz b_1]] 75, cBlk b_6 (encB (List.replicate 30 false)) 141, cBlk b_3 [I 0] 35, cBlk b_2 [B false] 4, cBlk b_1 [v_fence] 34, cMk Ds23z]) H rfl)) ?_
   rintro vq w36z ⟨r2, hr37z, hvq, H2_⟩
   subst hr37z
   subst vq
   try dsimp only at hM
   replace H : St w w36z [cBlk b_7 [.func (.func 97) #[] #[Pz b_1]] 75, cBlk b_6 (encB (List.replicate 30 false)) 141, cBlk b_3 [I 0] 35, cBlk b_2 [B false] 4, cBlk b_1 [v_fence] 34, cMk Ds23z] R := H.back H2_ rfl
   clear H2_
   refine t_st (k := 3) (b := b_2) (off := 0) (cs := [B false]) (vs := [B r2]) (cs' := [B r2]) (v := B r2) (L' := [cBlk b_7 [.func (.func 97) #[] #[Pz b_1]] 75, cBlk b_6 (encB (List.replicate 30 false)) 141, cBlk b_3 [I 0] 35, cBlk b_2 [B r2] 4, cBlk b_1 [v_fence] 34, cMk Ds23z]) H rfl rfl rfl Sz4 rfl rfl rfl rfl rfl rfl ?_
   intro w38z H
   refine t_st (k := 2) (b := b_3) (off := 0) (cs := [I 0]) (vs := [I 0]) (cs' := [I 0]) (v := I 0) (L' := [cBlk b_7 [.func (.func 97) #[] #[Pz b_1]] 75, cBlk b_6 (encB (List.replicate 30 false)) 141, cBlk b_3 [I 0] 35, cBlk b_2 [B r2] 4, cBlk b_1 [v_fence] 34, cMk Ds23z]) H rfl rfl rfl Sz35 rfl rfl rfl rfl rfl rfl ?_
   intro w39z H
   refine s_nil ?_
   refine WD.of ?_
   refine W.ret ?_
   refine bodyD_r (H.pick [5, 0, 1, 2, 3, 4] (by decide) rfl) ?_
   intro w40z H
   replace H : St w w40z [cBlk b_7 [.func (.func 97) #[] #[Pz b_1]] 75, cBlk b_6 (encB (List.replicate 30 false)) 141, cBlk b_3 [I 0] 35, cBlk b_2 [B r2] 4, cBlk b_1 [v_fence] 34] R := H
   have hb41z := (H.blk (k := 3) rfl)
   have hb42z := (H.blk (k := 2) rfl)
   have hr_ := M.e_pure hM
   exact ⟨_, (resE_ofn (vs := [B r2, I 0]) rfl rfl (.cell (v := B r2) rfl (run_loadVar_sc Sc4 hb41z rfl) <| .cell (v := I 0) rfl (run_loadVar_sc Sc35 hb42z rfl) <| .nil)), ⟨r2, 0, hr_, rfl, (H.pick [] (by decide) rfl)⟩⟩
  replace hM := M.e_f hM c9z
  simp only [qz1, qz2, qz3, qz4, qz5, qz6, ne_eq, qz7] at c9z
  refine WD.of ?_
  refine W.skip ?_
  refine WD.seq ?_
  refine WD.seq ?_
  refine WD.of ?_
  refine W.region rfl <| sM (I (askedE w_ revised)) rfl <| sC (askedE w_ revised) 0 ((askedE w_ revised) != 0) rfl rfl rfl <| s_nil ?_
  refine WD.cond ((askedE w_ revised) != 0) rfl (fun c43z => ?_) (fun c43z => ?_)
  ·replace hM := M.e_t hM c43z
   simp only [qz1, qz2, qz3, qz4, qz5, qz6, ne_eq, qz7] at c43z
   refine WD.seq ?_
   refine WD.of ?_
   refine W.region rfl <| sM (I (askedE w_ revised)) rfl ?_
   refine t_st (k := 2) (b := b_2) (off := 0) (cs := [B false]) (vs := [B false]) (cs' := [B false]) (v := B false) (L' := [cBlk b_6 (encB (List.replicate 30 false)) 141, cBlk b_3 [I 0] 35, cBlk b_2 [B false] 4, cBlk b_1 [v_fence] 34, cMk ([])]) H rfl rfl rfl Sz4 rfl rfl rfl rfl rfl rfl ?_
   intro w44z H
   refine t_st (k := 1) (b := b_3) (off := 0) (cs := [I 0]) (vs := [I (askedE w_ revised)]) (cs' := [I (askedE w_ revised)]) (v := I (askedE w_ revised)) (L' := [cBlk b_6 (encB (List.replicate 30 false)) 141, cBlk b_3 [I (askedE w_ revised)] 35, cBlk b_2 [B false] 4, cBlk b_1 [v_fence] 34, cMk ([])]) H rfl rfl rfl Sz35 rfl rfl rfl rfl rfl rfl ?_
   intro w45z H
   refine s_nil ?_
   refine WD.of ?_
   refine W.ret ?_
   refine bodyD_r (H.pick [4, 0, 1, 2, 3] (by decide) rfl) ?_
   intro w46z H
   replace H : St w w46z [cBlk b_6 (encB (List.replicate 30 false)) 141, cBlk b_3 [I (askedE w_ revised)] 35, cBlk b_2 [B false] 4, cBlk b_1 [v_fence] 34] R := H
   have hb47z := (H.blk (k := 2) rfl)
   have hb48z := (H.blk (k := 1) rfl)
   have hr_ := M.e_pure hM
   exact ⟨_, (resE_ofn (vs := [B false, I (askedE w_ revised)]) rfl rfl (.cell (v := B false) rfl (run_loadVar_sc Sc4 hb47z rfl) <| .cell (v := I (askedE w_ revised)) rfl (run_loadVar_sc Sc35 hb48z rfl) <| .nil)), ⟨false, (askedE w_ revised), hr_, rfl, (H.pick [] (by decide) rfl)⟩⟩
  replace hM := M.e_f hM c43z
  simp only [qz1, qz2, qz3, qz4, qz5, qz6, ne_eq, qz7] at c43z
  refine WD.of ?_
  refine W.skip ?_
  refine WD.seq ?_
  refine WD.of ?_
  refine W.region rfl <| s_val (x_mf (fs := []) (cs := [Pz b_1]) rfl rfl) ?_
  refine t_alloc (cs := [.nilFunc]) H Al75 rfl ?_
  intro b_7 w49z H
  refine t_st (k := 0) (b := b_7) (off := 0) (cs := [.nilFunc]) (vs := [.func (.func 97) #[] #[Pz b_1]]) (cs' := [.func (.func 97) #[] #[Pz b_1]]) (v := .func (.func 97) #[] #[Pz b_1]) (L' := [cBlk b_7 [.func (.func 97) #[] #[Pz b_1]] 75, cBlk b_6 (encB (List.replicate 30 false)) 141, cBlk b_3 [I 0] 35, cBlk b_2 [B false] 4, cBlk b_1 [v_fence] 34, cMk ([])]) H rfl rfl rfl Sz75 rfl rfl rfl rfl rfl rfl ?_
  intro w50z H
  refine s_nil ?_
  refine WD.seq ?_
  refine WD.seq ?_
  refine WD.of ?_
  refine W.region rfl <| s_val (x_ld (p := Pz b_1) (v := v_fence) rfl (ldb_sc Sc34 (H.blk (k := 4) rfl) rfl)) ?_
  have hl51z := (hs_fence).len_le
  refine s_val (x_lenS T34.und rfl hs_fence) <| sM (I 0) rfl <| s_nil ?_
  refine WD.block ?_
  obtain ⟨ex52z, hi53z, hk54z⟩ := M.e_bind hM
  obtain ⟨m0_, hi53z⟩ := M.e_iter hi53z
  refine WD.loop (fun m Ds55z σ W => ∃ (s : Nat) (ρ : Env), σ = upds ρ [(1, v_revised), (6, Pz b_2), (7, Pz b_3), (8, .pointer none), (12, Pz b_7), (33, v_fence), (34, I (fence.length : Int)), (35, I (s : Int))] ∧ M.iterN (m_notes_Fences_b1 fence) m s = some ex52z ∧ St w W [cBlk b_7 [.func (.func 97) #[] #[Pz b_1]] 75, cBlk b_6 (encB (List.replicate 30 false)) 141, cBlk b_3 [I 0] 35, cBlk b_2 [B false] 4, cBlk b_1 [v_fence] 34, cMk Ds55z] R) ?_ ?_
  ·exact ⟨_, 0, _, upds_of _ _ ⟨rfl, rfl, rfl, rfl, rfl, rfl, rfl, rfl, trivial⟩, hi53z, H⟩
  rintro m58z Ds55z σ w56z ⟨s, ρ, rfl, hI57z, H⟩
  obtain ⟨m59z, lt60z, x61z, hM, hN62z⟩ := M.e_iterN hI57z
  simp only [m_notes_Fences_b1] at hM
  clear hI57z
  refine WD.seq ?_
  refine WD.of ?_
  refine W.region rfl <| sC (s : Int) (fence.length : Int) (decide ((s : Int) < (fence.length : Int))) rfl rfl rfl <| s_nil ?_
  refine WD.seq ?_
  refine WD.cond (decide ((s : Int) < (fence.length : Int))) rfl (fun c63z => ?_) (fun c63z => ?_)
  ·replace hM := M.e_t hM c63z
   simp only [qz1, qz2, qz3, qz4, qz5, qz6, ne_eq, qz7] at c63z
   refine WD.of ?_
   refine W.skip ?_
   refine WD.seq ?_
   refine WD.block ?_
   refine WD.seq ?_
   refine WD.of ?_
   refine W.region rfl ?_
   obtain ⟨sd64z, hM⟩ := M.e_gd hM
   refine s_val (x_ix (a := v_fence) (b := I (s : Int)) (v := vat v_fence 1 (Int.toNat (s : Int))) rfl rfl (Sl.ix (α := Int) T34.und T34.size hs_fence (by omega) (by omega))) <| s_val (x_ld (p := vat v_fence 1 (Int.toNat (s : Int))) (v := I (fence.getD s 0)) rfl (ld_sc Sc3 (At.mono (Int_at hs_fence (i := (s : Int)) (by omega) (by omega)) (hC_fence.at H)))) <| sA (I (fence.getD s 0)) rfl <| s_nil ?_
   refine WD.seq ?_
   refine WD.of ?_
   refine W.region rfl <| sM (.pointer none) rfl <| sM (I (fence.getD s 0)) rfl ?_
   exact (M.e_fail hM).elim
  replace hM := M.e_f hM c63z
  simp only [qz1, qz2, qz3, qz4, qz5, qz6, ne_eq, qz7] at c63z
  refine WD.of ?_
  refine W.exit ?_
  have hX65z := M.e_inr hM hN62z
  subst hX65z
  replace hM := hk54z
  try dsimp only at hM
  refine WD.seq ?_
  refine WD.of ?_
  refine W.region rfl <| s_val (x_ld (p := Pz b_7) (v := .func (.func 97) #[] #[Pz b_1]) rfl (ldb_sc Sc75 (H.blk (k := 0) rfl) rfl)) <| sM v_revised rfl ?_
  obtain ⟨r67z, hx66z, hM⟩ := M.e_bind hM
  refine s_call cf87 [.func (.func 97) #[] #[Pz b_1], v_revised] rfl (notes_every_int_ok (fun xqz => m_notes_Fences_1 xqz fence) revised ⟨97, [Pz b_1], rfl, cf97, fun wqz Lqz Cqz vqz xqz bqz hsqz hCqz hAqz hpqz => by obtain rfl := Arg.int hAqz; exact (notes_Fences_1_ok xqz fence (Reads.app (hC_fence.app _) _) hs_fence (Has.app (Has.here (k := 4) rfl) _) hpqz wqz (St.refl hsqz)).mono fun vqz wqz ⟨yqz, hrqz, hvqz, Hqz⟩ => by subst hrqz; exact ⟨hvqz, Hqz⟩⟩ (hC_revised.app _) hs_revised hx66z _ (St.give (T := [cBlk b_7 [.func (.func 97) #[] #[Pz b_1]] 75, cBlk b_6 (encB (List.replicate 30 false)) 141, cBlk b_3 [I 0] 35, cBlk b_2 [B false] 4, cBlk b_1 [v_fence] 34, cMk Ds55z]) H rfl)) ?_
  rintro vq w68z ⟨r2, hr69z, hvq, H2_⟩
  subst hr69z
  subst vq
  try dsimp only at hM
  replace H : St w w68z [cBlk b_7 [.func (.func 97) #[] #[Pz b_1]] 75, cBlk b_6 (encB (List.replicate 30 false)) 141, cBlk b_3 [I 0] 35, cBlk b_2 [B false] 4, cBlk b_1 [v_fence] 34, cMk Ds55z] R := H.back H2_ rfl
  clear H2_
  refine t_st (k := 3) (b := b_2) (off := 0) (cs := [B false]) (vs := [B r2]) (cs' := [B r2]) (v := B r2) (L' := [cBlk b_7 [.func (.func 97) #[] #[Pz b_1]] 75, cBlk b_6 (encB (List.replicate 30 false)) 141, cBlk b_3 [I 0] 35, cBlk b_2 [B r2] 4, cBlk b_1 [v_fence] 34, cMk Ds55z]) H rfl rfl rfl Sz4 rfl rfl rfl rfl rfl rfl ?_
  intro w70z H
  refine t_st (k := 2) (b := b_3) (off := 0) (cs := [I 0]) (vs := [I 0]) (cs' := [I 0]) (v := I 0) (L' := [cBlk b_7 [.func (.func 97) #[] #[Pz b_1]] 75, cBlk b_6 (encB (List.replicate 30 false)) 141, cBlk b_3 [I 0] 35, cBlk b_2 [B r2] 4, cBlk b_1 [v_fence] 34, cMk Ds55z]) H rfl rfl rfl Sz35 rfl rfl rfl rfl rfl rfl ?_
  intro w71z H
  refine s_nil ?_
  refine WD.of ?_
  refine W.ret ?_
  refine bodyD_r (H.pick [5, 0, 1, 2, 3, 4] (by decide) rfl) ?_
  intro w72z H
  replace H : St w w72z [cBlk b_7 [.func (.func 97) #[] #[Pz b_1]] 75, cBlk b_6 (encB (List.replicate 30 false)) 141, cBlk b_3 [I 0] 35, cBlk b_2 [B r2] 4, cBlk b_1 [v_fence] 34] R := H
  have hb73z := (H.blk (k := 3) rfl)
  have hb74z := (H.blk (k := 2) rfl)
  have hr_ := M.e_pure hM
  exact ⟨_, (resE_ofn (vs := [B r2, I 0]) rfl rfl (.cell (v := B r2) rfl (run_loadVar_sc Sc4 hb73z rfl) <| .cell (v := I 0) rfl (run_loadVar_sc Sc35 hb74z rfl) <| .nil)), ⟨r2, 0, hr_, rfl, (H.pick [] (by decide) rfl)⟩⟩
 replace hM := M.e_t hM (by simpa using he_)
 obtain ⟨Bs_5, H2_, hs6z, hb_b_4⟩ := H.freshNB hn_ hs6z
 replace H : St w w4z [cRo Bs_5, cBlk b_3 [I 0] 35, cBlk b_2 [B false] 4, cBlk b_1 [v_fence] 34, cMk ([])] R := H2_
 clear H2_ hn_
 have hl_hs6z := hs6z.len_le
 refine sM (.tuple #[Pz b_4, u5z, .agg (encB (staleL w_ revised)).toArray, I 0]) rfl <| sX [Pz b_4, u5z, .agg (encB (staleL w_ revised)).toArray, I 0] (Pz b_4) rfl rfl <| sX [Pz b_4, u5z, .agg (encB (staleL w_ revised)).toArray, I 0] u5z rfl rfl <| sX [Pz b_4, u5z, .agg (encB (staleL w_ revised)).toArray, I 0] (.agg (encB (staleL w_ revised)).toArray) rfl rfl <| sX [Pz b_4, u5z, .agg (encB (staleL w_ revised)).toArray, I 0] (I 0) rfl rfl ?_
 refine t_alloc (cs := encB (List.replicate 30 false)) H Al141 rfl ?_
 intro b_6 w75z H
 have hl_b_6 : (List.replicate 30 false).length = 30 := by simp
 refine sA (Pz b_4) rfl <| sA u5z rfl ?_
 refine t_stArrA (k := 0) (b := b_6) (l := List.replicate 30 false) (l' := staleL w_ revised) (L' := [cBlk b_6 (encB (staleL w_ revised)) 141, cRo Bs_5, cBlk b_3 [I 0] 35, cBlk b_2 [B false] 4, cBlk b_1 [v_fence] 34, cMk ([])]) H rfl rfl rfl Sz141 hl_b_6 (staleL_len _ _) rfl ?_
 intro w76z H
 refine sA (I 0) rfl <| s_nil ?_
 refine WD.seq ?_
 refine WD.seq ?_
 refine WD.of ?_
 refine W.region rfl <| sM (I 0) rfl <| sC 0 0 ((0 : Int) == 0) rfl rfl rfl <| s_nil ?_
 refine WD.cond ((0 : Int) == 0) rfl (fun c77z => ?_) (fun c77z => ?_)
 ·skip
  replace hM := M.e_t hM c77z
  refine WD.of ?_
  refine W.region rfl <| sM v_w_ rfl <| s_val (x_ld (p := Pz b_1) (v := v_fence) rfl (ldb_sc Sc34 (H.blk (k := 4) rfl) rfl)) ?_
  refine s_call cf96 [v_w_, v_fence] rfl (listed_any _ (hs_w_.mono (hC_w_.at H)) (hs_fence.mono (hC_fence.at H))) ?_
  rintro _ w78z ⟨rfl, hx_⟩
  replace H : St w w78z [cBlk b_6 (encB (staleL w_ revised)) 141, cRo Bs_5, cBlk b_3 [I 0] 35, cBlk b_2 [B false] 4, cBlk b_1 [v_fence] 34, cMk ([])] R := H.ext hx_
  clear hx_
  refine sA (I (listedE w_.length fence)) rfl <| s_nil ?_
  refine WD.seq ?_
  refine WD.seq ?_
  refine WD.of ?_
  refine W.region rfl <| sM (I (listedE w_.length fence)) rfl <| sC (listedE w_.length fence) 0 ((listedE w_.length fence) != 0) rfl rfl rfl <| s_nil ?_
  refine WD.cond ((listedE w_.length fence) != 0) rfl (fun c79z => ?_) (fun c79z => ?_)
  ·replace hM := M.e_t hM c79z
   simp only [qz1, qz2, qz3, qz4, qz5, qz6, ne_eq, qz7] at c79z
   refine WD.seq ?_
   refine WD.of ?_
   refine W.region rfl <| sM (I (listedE w_.length fence)) rfl ?_
   refine t_st (k := 3) (b := b_2) (off := 0) (cs := [B false]) (vs := [B false]) (cs' := [B false]) (v := B false) (L' := [cBlk b_6 (encB (staleL w_ revised)) 141, cRo Bs_5, cBlk b_3 [I 0] 35, cBlk b_2 [B false] 4, cBlk b_1 [v_fence] 34, cMk ([])]) H rfl rfl rfl Sz4 rfl rfl rfl rfl rfl rfl ?_
   intro w80z H
   refine t_st (k := 2) (b := b_3) (off := 0) (cs := [I 0]) (vs := [I (listedE w_.length fence)]) (cs' := [I (listedE w_.length fence)]) (v := I (listedE w_.length fence)) (L' := [cBlk b_6 (encB (staleL w_ revised)) 141, cRo Bs_5, cBlk b_3 [I (listedE w_.length fence)] 35, cBlk b_2 [B false] 4, cBlk b_1 [v_fence] 34, cMk ([])]) H rfl rfl rfl Sz35 rfl rfl rfl rfl rfl rfl ?_
   intro w81z H
   refine s_nil ?_
   refine WD.of ?_
   refine W.ret ?_
   refine bodyD_r (H.pick [5, 0, 1, 2, 3, 4] (by decide) rfl) ?_
   intro w82z H
   replace H : St w w82z [cBlk b_6 (encB (staleL w_ revised)) 141, cRo Bs_5, cBlk b_3 [I (listedE w_.length fence)] 35, cBlk b_2 [B false] 4, cBlk b_1 [v_fence] 34] R := H
   have hb83z := (H.blk (k := 3) rfl)
   have hb84z := (H.blk (k := 2) rfl)
   have hr_ := M.e_pure hM
   exact ⟨_, (resE_ofn (vs := [B false, I (listedE w_.length fence)]) rfl rfl (.cell (v := B false) rfl (run_loadVar_sc Sc4 hb83z rfl) <| .cell (v := I (listedE w_.length fence)) rfl (run_loadVar_sc Sc35 hb84z rfl) <| .nil)), ⟨false, (listedE w_.length fence), hr_, rfl, (H.pick [] (by decide) rfl)⟩⟩
  replace hM := M.e_f hM c79z
  simp only [qz1, qz2, qz3, qz4, qz5, qz6, ne_eq, qz7] at c79z
  refine WD.of ?_
  refine W.skip ?_
  refine WD.seq ?_
  refine WD.of ?_
  refine W.region rfl <| s_val (x_mf (fs := []) (cs := [Pz b_1]) rfl rfl) ?_
  refine t_alloc (cs := [.nilFunc]) H Al75 rfl ?_
  intro b_7 w85z H
  refine t_st (k := 0) (b := b_7) (off := 0) (cs := [.nilFunc]) (vs := [.func (.func 97) #[] #[Pz b_1]]) (cs' := [.func (.func 97) #[] #[Pz b_1]]) (v := .func (.func 97) #[] #[Pz b_1]) (L' := [cBlk b_7 [.func (.func 97) #[] #[Pz b_1]] 75, cBlk b_6 (encB (staleL w_ revised)) 141, cRo Bs_5, cBlk b_3 [I 0] 35, cBlk b_2 [B false] 4, cBlk b_1 [v_fence] 34, cMk ([])]) H rfl rfl rfl Sz75 rfl rfl rfl rfl rfl rfl ?_
  intro w86z H
  refine s_nil ?_
  refine WD.seq ?_
  refine WD.seq ?_
  refine WD.of ?_
  refine W.region rfl <| s_val (x_ld (p := Pz b_1) (v := v_fence) rfl (ldb_sc Sc34 (H.blk (k := 5) rfl) rfl)) ?_
  have hl87z := (hs_fence).len_le
  refine s_val (x_lenS T34.und rfl hs_fence) <| sM (I 0) rfl <| s_nil ?_
  refine WD.block ?_
  obtain ⟨ex88z, hi89z, hk90z⟩ := M.e_bind hM
  obtain ⟨m0_, hi89z⟩ := M.e_iter hi89z
  refine WD.loop (fun m Ds91z σ W => ∃ (s : Nat) (ρ : Env), σ = upds ρ [(1, v_revised), (6, Pz b_2), (7, Pz b_3), (8, Pz b_4), (12, Pz b_7), (33, v_fence), (34, I (fence.length : Int)), (35, I (s : Int))] ∧ M.iterN (m_notes_Fences_b4 w_ fence) m s = some ex88z ∧ St w W [cBlk b_7 [.func (.func 97) #[] #[Pz b_1]] 75, cBlk b_6 (encB (staleL w_ revised)) 141, cRo Bs_5, cBlk b_3 [I 0] 35, cBlk b_2 [B false] 4, cBlk b_1 [v_fence] 34, cMk Ds91z] R) ?_ ?_
  ·exact ⟨_, 0, _, upds_of _ _ ⟨rfl, rfl, rfl, rfl, rfl, rfl, rfl, rfl, trivial⟩, hi89z, H⟩
  rintro m94z Ds91z σ w92z ⟨s, ρ, rfl, hI93z, H⟩
  obtain ⟨m95z, lt96z, x97z, hM, hN98z⟩ := M.e_iterN hI93z
  simp only [m_notes_Fences_b4] at hM
  clear hI93z
  refine WD.seq ?_
  refine WD.of ?_
  refine W.region rfl <| sC (s : Int) (fence.length : Int) (decide ((s : Int) < (fence.length : Int))) rfl rfl rfl <| s_nil ?_
  refine WD.seq ?_
  refine WD.cond (decide ((s : Int) < (fence.length : Int))) rfl (fun c99z => ?_) (fun c99z => ?_)
  ·replace hM := M.e_t hM c99z
   simp only [qz1, qz2, qz3, qz4, qz5, qz6, ne_eq, qz7] at c99z
   refine WD.of ?_
   refine W.skip ?_
   refine WD.seq ?_
   refine WD.block ?_
   refine WD.seq ?_
   refine WD.of ?_
   refine W.region rfl ?_
   obtain ⟨sd100z, hM⟩ := M.e_gd hM
   refine s_val (x_ix (a := v_fence) (b := I (s : Int)) (v := vat v_fence 1 (Int.toNat (s : Int))) rfl rfl (Sl.ix (α := Int) T34.und T34.size hs_fence (by omega) (by omega))) <| s_val (x_ld (p := vat v_fence 1 (Int.toNat (s : Int))) (v := I (fence.getD s 0)) rfl (ld_sc Sc3 (At.mono (Int_at hs_fence (i := (s : Int)) (by omega) (by omega)) (hC_fence.at H)))) <| sA (I (fence.getD s 0)) rfl <| s_nil ?_
   refine WD.seq ?_
   refine WD.of ?_
   refine W.region rfl <| sM (Pz b_4) rfl <| sM (I (fence.getD s 0)) rfl ?_
   obtain ⟨r102z, hx101z, hM⟩ := M.e_bind hM
   refine s_call cf98 [Pz b_4, I (fence.getD s 0)] rfl (notes_web_made_ok w_ (fence.getD s 0) (hC_w_.app _) hs_w_ (Has.ro (k := 2) rfl hb_b_4) hx101z _ (St.give (T := [cBlk b_7 [.func (.func 97) #[] #[Pz b_1]] 75, cBlk b_6 (encB (staleL w_ revised)) 141, cRo Bs_5, cBlk b_3 [I 0] 35, cBlk b_2 [B false] 4, cBlk b_1 [v_fence] 34, cMk Ds91z]) H rfl)) ?_
   rintro vq w103z ⟨r10, nb0_8, nb1_9, hr104z, hvq, H2_⟩
   subst hr104z
   subst vq
   try dsimp only at hM
   replace H : St w w103z [cBlk nb0_8 [Pz b_4] 127, cBlk nb1_9 [I r10] 3, cBlk b_7 [.func (.func 97) #[] #[Pz b_1]] 75, cBlk b_6 (encB (staleL w_ revised)) 141, cRo Bs_5, cBlk b_3 [I 0] 35, cBlk b_2 [B false] 4, cBlk b_1 [v_fence] 34, cMk Ds91z] R := H.back H2_ rfl
   clear H2_
   refine s_nil ?_
   refine WD.block ?_
   obtain ⟨t105z, hx106z, hM⟩ := M.e_bind hM
   refine WD.range (L := [cBlk b_3 [I 0] 35, cBlk b_2 [B false] 4, cBlk nb0_8 [Pz b_4] 127, cBlk nb1_9 [I r10] 3, cBlk b_7 [.func (.func 97) #[] #[Pz b_1]] 75, cBlk b_6 (encB (staleL w_ revised)) 141, cRo Bs_5, cBlk b_1 [v_fence] 34]) [Pz nb0_8, Pz nb1_9] (H.pick [8, 5, 6, 0, 1, 2, 3, 4, 7] (by decide) rfl) rfl cf148 ?_
   intro l107z D108z r109z w110z hr111z H
   have hYC : YieldC Try.prog ([cMk (D108z :: Ds91z), cBlk nb0_8 [Pz b_4] 127, cBlk nb1_9 [I r10] 3, cBlk b_7 [.func (.func 97) #[] #[Pz b_1]] 75, cBlk b_6 (encB (staleL w_ revised)) 141, cRo Bs_5, cBlk b_1 [v_fence] 34] ++ R) arI (yJ l107z r109z (fun _ Ls_ => Ls_ = [cBlk b_3 [I 0] 35, cBlk b_2 [B false] 4]) (fun _ Ls_ => Ls_ = [cBlk b_3 [I 0] 35, cBlk b_2 [B false] 4]) (fun _ => .ret)) (.func (.yield l107z) #[] #[]) (M.yl (m_notes_Fences_b3 fence)) := by
    refine YieldC.mk hr111z (fun _ Ls_ => Ls_ = [cBlk b_3 [I 0] 35, cBlk b_2 [B false] 4]) (fun _ Ls_ => Ls_ = [cBlk b_3 [I 0] 35, cBlk b_2 [B false] 4]) (fun _ => .ret) (m_notes_Fences_b3 fence) (by rintro _ _ h_; obtain ⟨rfl⟩ := h_; rfl) (by rintro _ _ h_; (obtain ⟨rfl⟩ := h_; rfl)) rfl (arI_len rfl) ?_
    intro C_ vs_ x W_ hA_
    obtain rfl := hA_
    refine W.region rfl <| sA (I x) rfl <| s_nil ?_
    refine ⟨rfl, rfl, ?_⟩
    intro w R hR_ Ls_ s_ r hY_ hM H
    skip
    obtain ⟨rfl⟩ := hY_
    replace hC_w_ := hC_w_.sub hR_
    replace hC_revised := hC_revised.sub hR_
    replace hC_fence := hC_fence.sub hR_
    replace hM : (m_notes_Fences_b3 fence () x).Ends r := hM
    simp only [m_notes_Fences_b3] at hM
    replace H : St w w [cBlk b_3 [I 0] 35, cBlk b_2 [B false] 4, cBlk nb0_8 [Pz b_4] 127, cBlk nb1_9 [I r10] 3, cBlk b_7 [.func (.func 97) #[] #[Pz b_1]] 75, cBlk b_6 (encB (staleL w_ revised)) 141, cRo Bs_5, cBlk b_1 [v_fence] 34, cMk (D108z :: Ds91z)] R := H.pick [0, 1, 3, 4, 5, 6, 7, 8, 2] (by decide) rfl
    refine W.block <| sQ rfl <| s_val (x_ld (p := Pz b_7) (v := .func (.func 97) #[] #[Pz b_1]) rfl (ldb_sc Sc75 (H.blk (k := 4) rfl) rfl)) <| sM (I x) rfl ?_
    obtain ⟨r113z, hx112z, hM⟩ := M.e_bind hM
    refine s_callv (f := 97) rfl cf97 [I x] rfl (notes_Fences_1_ok x fence (hC_fence.app _) hs_fence (Has.here (k := 7) rfl) hx112z _ (St.give (T := [cBlk b_3 [I 0] 35, cBlk b_2 [B false] 4, cBlk nb0_8 [Pz b_4] 127, cBlk nb1_9 [I r10] 3, cBlk b_7 [.func (.func 97) #[] #[Pz b_1]] 75, cBlk b_6 (encB (staleL w_ revised)) 141, cRo Bs_5, cBlk b_1 [v_fence] 34, cMk (D108z :: Ds91z)]) H rfl)) ?_
    rintro vq w114z ⟨r3, hr115z, hvq, H2_⟩
    subst hr115z
    subst vq
    try dsimp only at hM
    replace H : St w w114z [cBlk b_3 [I 0] 35, cBlk b_2 [B false] 4, cBlk nb0_8 [Pz b_4] 127, cBlk nb1_9 [I r10] 3, cBlk b_7 [.func (.func 97) #[] #[Pz b_1]] 75, cBlk b_6 (encB (staleL w_ revised)) 141, cRo Bs_5, cBlk b_1 [v_fence] 34, cMk (D108z :: Ds91z)] R := H.back H2_ rfl
    clear H2_
    refine s_val (x_not (b := r3) rfl) <| s_nil ?_
    refine W.cond (!r3) rfl (fun c116z => ?_) (fun c116z => ?_)
    ·replace hM := M.e_t hM c116z
     refine sQ rfl ?_
     refine t_st (k := 1) (b := b_2) (off := 0) (cs := [B false]) (vs := [B false]) (cs' := [B false]) (v := B false) (L' := [cBlk b_3 [I 0] 35, cBlk b_2 [B false] 4, cBlk nb0_8 [Pz b_4] 127, cBlk nb1_9 [I r10] 3, cBlk b_7 [.func (.func 97) #[] #[Pz b_1]] 75, cBlk b_6 (encB (staleL w_ revised)) 141, cRo Bs_5, cBlk b_1 [v_fence] 34, cMk (D108z :: Ds91z)]) H rfl rfl rfl Sz4 rfl rfl rfl rfl rfl rfl ?_
     intro w117z H
     refine t_st (k := 0) (b := b_3) (off := 0) (cs := [I 0]) (vs := [I 0]) (cs' := [I 0]) (v := I 0) (L' := [cBlk b_3 [I 0] 35, cBlk b_2 [B false] 4, cBlk nb0_8 [Pz b_4] 127, cBlk nb1_9 [I r10] 3, cBlk b_7 [.func (.func 97) #[] #[Pz b_1]] 75, cBlk b_6 (encB (staleL w_ revised)) 141, cRo Bs_5, cBlk b_1 [v_fence] 34, cMk (D108z :: Ds91z)]) H rfl rfl rfl Sz35 rfl rfl rfl rfl rfl rfl ?_
     intro w118z H
     refine s_nil ?_
     refine W.ret ?_
     exact ⟨(), [cBlk b_3 [I 0] 35, cBlk b_2 [B false] 4], (M.e_pure hM).symm, rfl, H.pick [0, 1, 8, 2, 3, 4, 5, 6, 7] (by decide) rfl, rfl⟩
    replace hM := M.e_f hM c116z
    refine W.skip ?_
    exact ⟨(), [cBlk b_3 [I 0] 35, cBlk b_2 [B false] 4], (M.e_pure hM).symm, rfl, H.pick [0, 1, 8, 2, 3, 4, 5, 6, 7] (by decide) rfl⟩
   replace H : St w w110z (cAll (cObj l107z (.loop r109z) :: [cBlk b_3 [I 0] 35, cBlk b_2 [B false] 4]) :: [cMk (D108z :: Ds91z), cBlk nb0_8 [Pz b_4] 127, cBlk nb1_9 [I r10] 3, cBlk b_7 [.func (.func 97) #[] #[Pz b_1]] 75, cBlk b_6 (encB (staleL w_ revised)) 141, cRo Bs_5, cBlk b_1 [v_fence] 34]) R := St.bundleB (A := cObj l107z (.loop r109z) :: [cBlk b_3 [I 0] 35, cBlk b_2 [B false] 4]) (T := [cMk (D108z :: Ds91z), cBlk nb0_8 [Pz b_4] 127, cBlk nb1_9 [I r10] 3, cBlk b_7 [.func (.func 97) #[] #[Pz b_1]] 75, cBlk b_6 (encB (staleL w_ revised)) 141, cRo Bs_5, cBlk b_1 [v_fence] 34]) rfl (H.pick [0, 2, 3, 1, 4, 5, 6, 7, 8, 9] (by decide) rfl)
   refine (notes_web_made_1_ok (M.yl (m_notes_Fences_b3 fence)) (.inl ()) w_ r10 hYC ⟨_, rfl, rfl⟩ (hC_w_.app _) hs_w_ (Has.ro (k := 5) rfl hb_b_4) (Has.here (k := 1) rfl) (Has.here (k := 2) rfl) hx106z _ (St.give (A := [cAll (cObj l107z (.loop r109z) :: [cBlk b_3 [I 0] 35, cBlk b_2 [B false] 4])]) (T := [cMk (D108z :: Ds91z), cBlk nb0_8 [Pz b_4] 127, cBlk nb1_9 [I r10] 3, cBlk b_7 [.func (.func 97) #[] #[Pz b_1]] 75, cBlk b_6 (encB (staleL w_ revised)) 141, cRo Bs_5, cBlk b_1 [v_fence] 34]) H rfl)).mono ?_
   rintro vq w119z ⟨t123z, Ls121z, hq124z, hvq, H2_, hY122z⟩
   subst hq124z
   replace H := H.back H2_ rfl
   clear H2_ hYC
   rcases t123z with _ | _
   ·try dsimp only at hM
    obtain ⟨_, rfl, rfl⟩ := hY122z
    refine ⟨_, [cBlk b_3 [I 0] 35, cBlk b_2 [B false] 4, cBlk nb0_8 [Pz b_4] 127, cBlk nb1_9 [I r10] 3, cBlk b_7 [.func (.func 97) #[] #[Pz b_1]] 75, cBlk b_6 (encB (staleL w_ revised)) 141, cRo Bs_5, cBlk b_1 [v_fence] 34], H.unbundle.pick [0, 3, 1, 2, 4, 5, 6, 7, 8, 9] (by decide) rfl, hr111z.nb, ?_⟩
    intro w120z H
    rw [hr111z.pd]
    replace H : St w w120z [cMk (D108z :: Ds91z), cBlk b_3 [I 0] 35, cBlk b_2 [B false] 4, cBlk nb0_8 [Pz b_4] 127, cBlk nb1_9 [I r10] 3, cBlk b_7 [.func (.func 97) #[] #[Pz b_1]] 75, cBlk b_6 (encB (staleL w_ revised)) 141, cRo Bs_5, cBlk b_1 [v_fence] 34] R := H
    try simp only []
    refine WD.of ?_
    refine W.region rfl <| sR (s : Int) 1 ((s : Int) + 1) rfl rfl rfl (by omega) <| sM (I ((s : Int) + 1)) rfl <| s_nil ?_
    exact ⟨m95z, lt96z, s + 1, _, upds_of _ _ ⟨rfl, rfl, rfl, rfl, rfl, rfl, rfl, rfl, trivial⟩, M.e_inl hM hN98z, (H.pick [5, 6, 7, 1, 2, 8, 0] (by decide) rfl)⟩
   try dsimp only at hM
   obtain ⟨_, rfl, rfl⟩ := hY122z
   refine ⟨_, [cBlk b_3 [I 0] 35, cBlk b_2 [B false] 4, cBlk nb0_8 [Pz b_4] 127, cBlk nb1_9 [I r10] 3, cBlk b_7 [.func (.func 97) #[] #[Pz b_1]] 75, cBlk b_6 (encB (staleL w_ revised)) 141, cRo Bs_5, cBlk b_1 [v_fence] 34], H.unbundle.pick [0, 3, 1, 2, 4, 5, 6, 7, 8, 9] (by decide) rfl, nofun, ?_⟩
   intro w120z H
   show WD _ _ _ (.ret) _ _ _
   refine WD.of ?_
   refine W.ret ?_
   replace H : St w w120z [cMk (D108z :: Ds91z), cBlk b_3 [I 0] 35, cBlk b_2 [B false] 4, cBlk nb0_8 [Pz b_4] 127, cBlk nb1_9 [I r10] 3, cBlk b_7 [.func (.func 97) #[] #[Pz b_1]] 75, cBlk b_6 (encB (staleL w_ revised)) 141, cRo Bs_5, cBlk b_1 [v_fence] 34] R := H
   have hX125z := M.e_inr hM hN98z
   subst hX125z
   replace hM := hk90z
   try dsimp only at hM
   refine bodyD_r (H.pick [0, 1, 2, 3, 4, 5, 6, 7, 8] (by decide) rfl) ?_
   intro w126z H
   replace H : St w w126z [cBlk b_3 [I 0] 35, cBlk b_2 [B false] 4, cBlk nb0_8 [Pz b_4] 127, cBlk nb1_9 [I r10] 3, cBlk b_7 [.func (.func 97) #[] #[Pz b_1]] 75, cBlk b_6 (encB (staleL w_ revised)) 141, cRo Bs_5, cBlk b_1 [v_fence] 34] R := H
   have hb127z := (H.blk (k := 1) rfl)
   have hb128z := (H.blk (k := 0) rfl)
   have hr_ := M.e_pure hM
   exact ⟨_, (resE_ofn (vs := [B false, I 0]) rfl rfl (.cell (v := B false) rfl (run_loadVar_sc Sc4 hb127z rfl) <| .cell (v := I 0) rfl (run_loadVar_sc Sc35 hb128z rfl) <| .nil)), ⟨false, 0, hr_, rfl, (H.pick [] (by decide) rfl)⟩⟩
  replace hM := M.e_f hM c99z
  simp only [qz1, qz2, qz3, qz4, qz5, qz6, ne_eq, qz7] at c99z
  refine WD.of ?_
  refine W.exit ?_
  have hX129z := M.e_inr hM hN98z
  subst hX129z
  replace hM := hk90z
  try dsimp only at hM
  refine WD.seq ?_
  refine WD.of ?_
  refine W.region rfl <| s_val (x_ld (p := Pz b_7) (v := .func (.func 97) #[] #[Pz b_1]) rfl (ldb_sc Sc75 (H.blk (k := 0) rfl) rfl)) <| sM v_revised rfl ?_
  obtain ⟨r131z, hx130z, hM⟩ := M.e_bind hM
  refine s_call cf87 [.func (.func 97) #[] #[Pz b_1], v_revised] rfl (notes_every_int_ok (fun xqz => m_notes_Fences_1 xqz fence) revised ⟨97, [Pz b_1], rfl, cf97, fun wqz Lqz Cqz vqz xqz bqz hsqz hCqz hAqz hpqz => by obtain rfl := Arg.int hAqz; exact (notes_Fences_1_ok xqz fence (Reads.app (hC_fence.app _) _) hs_fence (Has.app (Has.here (k := 5) rfl) _) hpqz wqz (St.refl hsqz)).mono fun vqz wqz ⟨yqz, hrqz, hvqz, Hqz⟩ => by subst hrqz; exact ⟨hvqz, Hqz⟩⟩ (hC_revised.app _) hs_revised hx130z _ (St.give (T := [cBlk b_7 [.func (.func 97) #[] #[Pz b_1]] 75, cBlk b_6 (encB (staleL w_ revised)) 141, cRo Bs_5, cBlk b_3 [I 0] 35, cBlk b_2 [B false] 4, cBlk b_1 [v_fence] 34, cMk Ds91z]) H rfl)) ?_
  rintro vq w132z ⟨r2, hr133z, hvq, H2_⟩
  subst hr133z
  subst vq
  try dsimp only at hM
  replace H : St w w132z [cBlk b_7 [.func (.func 97) #[] #[Pz b_1]] 75, cBlk b_6 (encB (staleL w_ revised)) 141, cRo Bs_5, cBlk b_3 [I 0] 35, cBlk b_2 [B false] 4, cBlk b_1 [v_fence] 34, cMk Ds91z] R := H.back H2_ rfl
  clear H2_
  refine t_st (k := 4) (b := b_2) (off := 0) (cs := [B false]) (vs := [B r2]) (cs' := [B r2]) (v := B r2) (L' := [cBlk b_7 [.func (.func 97) #[] #[Pz b_1]] 75, cBlk b_6 (encB (staleL w_ revised)) 141, cRo Bs_5, cBlk b_3 [I 0] 35, cBlk b_2 [B r2] 4, cBlk b_1 [v_fence] 34, cMk Ds91z]) H rfl rfl rfl Sz4 rfl rfl rfl rfl rfl rfl ?_
  intro w134z H
  refine t_st (k := 3) (b := b_3) (off := 0) (cs := [I 0]) (vs := [I 0]) (cs' := [I 0]) (v := I 0) (L' := [cBlk b_7 [.func (.func 97) #[] #[Pz b_1]] 75, cBlk b_6 (encB (staleL w_ revised)) 141, cRo Bs_5, cBlk b_3 [I 0] 35, cBlk b_2 [B r2] 4, cBlk b_1 [v_fence] 34, cMk Ds91z]) H rfl rfl rfl Sz35 rfl rfl rfl rfl rfl rfl ?_
  intro w135z H
  refine s_nil ?_
  refine WD.of ?_
  refine W.ret ?_
  refine bodyD_r (H.pick [6, 0, 1, 2, 3, 4, 5] (by decide) rfl) ?_
  intro w136z H
  replace H : St w w136z [cBlk b_7 [.func (.func 97) #[] #[Pz b_1]] 75, cBlk b_6 (encB (staleL w_ revised)) 141, cRo Bs_5, cBlk b_3 [I 0] 35, cBlk b_2 [B r2] 4, cBlk b_1 [v_fence] 34] R := H
  have hb137z := (H.blk (k := 4) rfl)
  have hb138z := (H.blk (k := 3) rfl)
  have hr_ := M.e_pure hM
  exact ⟨_, (resE_ofn (vs := [B r2, I 0]) rfl rfl (.cell (v := B r2) rfl (run_loadVar_sc Sc4 hb137z rfl) <| .cell (v := I 0) rfl (run_loadVar_sc Sc35 hb138z rfl) <| .nil)), ⟨r2, 0, hr_, rfl, (H.pick [] (by decide) rfl)⟩⟩
 skip
 exact absurd c77z (by decide)

def m_notes_kept (w_ : List Work) (revised : List Int) (work : Int) : M (Int ⊕ Int) :=
  bif (askedE w_ revised == 0) then (
  bif (0 : Int) != 0 then (M.fail) else (bif !(inB work 0 ((w_.length : Int) - 1)) then (
  M.pure (.inl 2))
  else (
  bif revised.contains work then (
  M.pure (.inl 8))
  else (
  M.pure (.inr 0)))))
  else (
  bif (askedE w_ revised) != 0 then (
  M.pure (.inl (askedE w_ revised)))
  else (
  bif !(inB work 0 ((w_.length : Int) - 1)) then (
  M.pure (.inl 2))
  else (
  bif revised.contains work then (
  M.pure (.inl 8))
  else (
  M.pure (.inl 0)))))
theorem notes_kept_ok {R : List Chunk} {C_w_ : Cells} {v_w_ : Value} {C_revised : Cells} {v_revised : Value} (w_ : List Work) (revised : List Int) (work : Int) (hC_w_ : Reads R C_w_) (hs_w_ : Sl C_w_ v_w_ w_) (hC_revised : Reads R C_revised) (hs_revised : Sl C_revised v_revised revised) {r : (Int ⊕ Int)} (hM : (m_notes_kept w_ revised work).Ends r) (w : World) (H : St w w [] R) : Ret Try.prog 116 #[v_w_, v_revised, I work] w fun v w' => (∃ (y0 : Int), (.inl y0) = r ∧ v = .tuple #[.pointer none, I y0] ∧ St w w' [] R) ∨ (∃ (y0 : Int) (nb0 : Nat) (Bs1 : Base), (.inr y0) = r ∧ v = .tuple #[Pz nb0, I y0] ∧ St w w' [cRo Bs1] R ∧ (∀ W, (cRo Bs1).ok W → W.heap[nb0]? = some (.cells [v_w_].toArray 187 (0, 0)))) := by
 refine ret_of_W Try.func116 rfl rfl rfl ?_
 refine sQ rfl <| sA (.pointer none) rfl <| sA (I 0) rfl <| s_nil <| sQ rfl <| sM v_w_ rfl <| sM v_revised rfl ?_
 refine s_call cf92 [v_w_, v_revised] rfl (asked_any _ (hs_w_.mono (hC_w_.at H)) (hs_revised.mono (hC_revised.at H))) ?_
 rintro _ w1z (⟨he_, rfl, hx_⟩ | ⟨he_, b_1, u2z, rfl, hn_, hs3z⟩)
 ·replace hM := M.e_f hM (by simpa using he_)
  replace H : St w w1z [] R := H.ext hx_
  clear hx_
  refine sM (.tuple #[.pointer none, .slice none 0 0, .agg (encB (List.replicate 30 false)).toArray, I (askedE w_ revised)]) rfl <| sX [.pointer none, .slice none 0 0, .agg (encB (List.replicate 30 false)).toArray, I (askedE w_ revised)] (.pointer none) rfl rfl <| sX [.pointer none, .slice none 0 0, .agg (encB (List.replicate 30 false)).toArray, I (askedE w_ revised)] (.slice none 0 0) rfl rfl <| sX [.pointer none, .slice none 0 0, .agg (encB (List.replicate 30 false)).toArray, I (askedE w_ revised)] (.agg (encB (List.replicate 30 false)).toArray) rfl rfl <| sX [.pointer none, .slice none 0 0, .agg (encB (List.replicate 30 false)).toArray, I (askedE w_ revised)] (I (askedE w_ revised)) rfl rfl ?_
  refine t_alloc (cs := encB (List.replicate 30 false)) H Al141 rfl ?_
  intro b_3 w4z H
  have hl_b_3 : (List.replicate 30 false).length = 30 := by simp
  refine sA (.pointer none) rfl <| sA (.slice none 0 0) rfl ?_
  refine t_stArrA (k := 0) (b := b_3) (l := List.replicate 30 false) (l' := List.replicate 30 false) (L' := [cBlk b_3 (encB (List.replicate 30 false)) 141]) H rfl rfl rfl Sz141 hl_b_3 (List.length_replicate) rfl ?_
  intro w5z H
  refine sA (I (askedE w_ revised)) rfl <| s_nil <| W.seq <| W.block <| sQ rfl <| sM (I (askedE w_ revised)) rfl <| sC (askedE w_ revised) 0 ((askedE w_ revised) != 0) rfl rfl rfl <| sA (B ((askedE w_ revised) != 0)) rfl <| s_nil ?_
  refine W.cond ((askedE w_ revised) != 0) rfl (fun c6z => ?_) (fun c6z => ?_)
  ·replace hM := M.e_t hM c6z
   simp only [qz1, qz2, qz3, qz4, qz5, qz6, ne_eq, qz7] at c6z
   refine sQ rfl <| sM (I (askedE w_ revised)) rfl <| sA (.pointer none) rfl <| sA (I (askedE w_ revised)) rfl <| s_nil ?_
   refine W.ret ?_
   have hr_ := M.e_pure hM
   exact ⟨_, resE_tmp2 rfl, .inl (⟨(askedE w_ revised), hr_, rfl, (H.pick [] (by decide) rfl)⟩)⟩
  replace hM := M.e_f hM c6z
  simp only [qz1, qz2, qz3, qz4, qz5, qz6, ne_eq, qz7] at c6z
  refine sQ rfl <| sM (I work) rfl <| sM v_w_ rfl ?_
  have hl7z := (hs_w_).len_le
  refine s_val (x_lenS T22.und rfl hs_w_) <| sR (w_.length : Int) 1 ((w_.length : Int) - 1) rfl rfl rfl (by omega) ?_
  refine s_call cf84 [I work, I 0, I ((w_.length : Int) - 1)] rfl (in_any work 0 ((w_.length : Int) - 1) _) ?_
  rintro _ w8z ⟨rfl, hx_⟩
  replace H : St w w8z [cBlk b_3 (encB (List.replicate 30 false)) 141] R := H.ext hx_
  clear hx_
  refine s_val (x_not (b := inB work 0 ((w_.length : Int) - 1)) rfl) <| sA (B (!(inB work 0 ((w_.length : Int) - 1)))) rfl <| s_nil ?_
  refine W.cond (!(inB work 0 ((w_.length : Int) - 1))) rfl (fun c9z => ?_) (fun c9z => ?_)
  ·replace hM := M.e_t hM c9z
   refine sQ rfl <| sA (.pointer none) rfl <| sA (I 2) rfl <| s_nil ?_
   refine W.ret ?_
   have hr_ := M.e_pure hM
   exact ⟨_, resE_tmp2 rfl, .inl (⟨2, hr_, rfl, (H.pick [] (by decide) rfl)⟩)⟩
  replace hM := M.e_f hM c9z
  refine sQ rfl <| sM v_revised rfl <| sM (I work) rfl ?_
  refine s_call cf45 [v_revised, I work] rfl (contains_int work _ (hs_revised.mono (hC_revised.at H))) ?_
  rintro _ w10z ⟨rfl, hx_⟩
  replace H : St w w10z [cBlk b_3 (encB (List.replicate 30 false)) 141] R := H.ext hx_
  clear hx_
  refine sA (B (revised.contains work)) rfl <| s_nil ?_
  refine W.cond (revised.contains work) rfl (fun c11z => ?_) (fun c11z => ?_)
  ·replace hM := M.e_t hM c11z
   refine sQ rfl <| sA (.pointer none) rfl <| sA (I 8) rfl <| s_nil ?_
   refine W.ret ?_
   have hr_ := M.e_pure hM
   exact ⟨_, resE_tmp2 rfl, .inl (⟨8, hr_, rfl, (H.pick [] (by decide) rfl)⟩)⟩
  replace hM := M.e_f hM c11z
  refine W.skip <| sQ rfl <| sM (.pointer none) rfl <| sA (.pointer none) rfl <| sA (I 0) rfl <| s_nil ?_
  refine W.ret ?_
  have hr_ := M.e_pure hM
  exact ⟨_, resE_tmp2 rfl, .inl (⟨0, hr_, rfl, (H.pick [] (by decide) rfl)⟩)⟩
 replace hM := M.e_t hM (by simpa using he_)
 obtain ⟨Bs_2, H2_, hs3z, hb_b_1⟩ := H.freshNB hn_ hs3z
 replace H : St w w1z [cRo Bs_2] R := H2_
 clear H2_ hn_
 have hl_hs3z := hs3z.len_le
 refine sM (.tuple #[Pz b_1, u2z, .agg (encB (staleL w_ revised)).toArray, I 0]) rfl <| sX [Pz b_1, u2z, .agg (encB (staleL w_ revised)).toArray, I 0] (Pz b_1) rfl rfl <| sX [Pz b_1, u2z, .agg (encB (staleL w_ revised)).toArray, I 0] u2z rfl rfl <| sX [Pz b_1, u2z, .agg (encB (staleL w_ revised)).toArray, I 0] (.agg (encB (staleL w_ revised)).toArray) rfl rfl <| sX [Pz b_1, u2z, .agg (encB (staleL w_ revised)).toArray, I 0] (I 0) rfl rfl ?_
 refine t_alloc (cs := encB (List.replicate 30 false)) H Al141 rfl ?_
 intro b_3 w12z H
 have hl_b_3 : (List.replicate 30 false).length = 30 := by simp
 refine sA (Pz b_1) rfl <| sA u2z rfl ?_
 refine t_stArrA (k := 0) (b := b_3) (l := List.replicate 30 false) (l' := staleL w_ revised) (L' := [cBlk b_3 (encB (staleL w_ revised)) 141, cRo Bs_2]) H rfl rfl rfl Sz141 hl_b_3 (staleL_len _ _) rfl ?_
 intro w13z H
 refine sA (I 0) rfl <| s_nil <| W.seq <| W.block <| sQ rfl <| sM (I 0) rfl <| sC 0 0 ((0 : Int) != 0) rfl rfl rfl <| sA (B ((0 : Int) != 0)) rfl <| s_nil ?_
 refine W.cond ((0 : Int) != 0) rfl (fun c14z => ?_) (fun c14z => ?_)
 ·skip
  exact absurd c14z (by decide)
 skip
 replace hM := M.e_f hM c14z
 refine sQ rfl <| sM (I work) rfl <| sM v_w_ rfl ?_
 have hl15z := (hs_w_).len_le
 refine s_val (x_lenS T22.und rfl hs_w_) <| sR (w_.length : Int) 1 ((w_.length : Int) - 1) rfl rfl rfl (by omega) ?_
 refine s_call cf84 [I work, I 0, I ((w_.length : Int) - 1)] rfl (in_any work 0 ((w_.length : Int) - 1) _) ?_
 rintro _ w16z ⟨rfl, hx_⟩
 replace H : St w w16z [cBlk b_3 (encB (staleL w_ revised)) 141, cRo Bs_2] R := H.ext hx_
 clear hx_
 refine s_val (x_not (b := inB work 0 ((w_.length : Int) - 1)) rfl) <| sA (B (!(inB work 0 ((w_.length : Int) - 1)))) rfl <| s_nil ?_
 refine W.cond (!(inB work 0 ((w_.length : Int) - 1))) rfl (fun c17z => ?_) (fun c17z => ?_)
 ·replace hM := M.e_t hM c17z
  refine sQ rfl <| sA (.pointer none) rfl <| sA (I 2) rfl <| s_nil ?_
  refine W.ret ?_
  have hr_ := M.e_pure hM
  exact ⟨_, resE_tmp2 rfl, .inl (⟨2, hr_, rfl, (H.pick [] (by decide) rfl)⟩)⟩
 replace hM := M.e_f hM c17z
 refine sQ rfl <| sM v_revised rfl <| sM (I work) rfl ?_
 refine s_call cf45 [v_revised, I work] rfl (contains_int work _ (hs_revised.mono (hC_revised.at H))) ?_
 rintro _ w18z ⟨rfl, hx_⟩
 replace H : St w w18z [cBlk b_3 (encB (staleL w_ revised)) 141, cRo Bs_2] R := H.ext hx_
 clear hx_
 refine sA (B (revised.contains work)) rfl <| s_nil ?_
 refine W.cond (revised.contains work) rfl (fun c19z => ?_) (fun c19z => ?_)
 ·replace hM := M.e_t hM c19z
  refine sQ rfl <| sA (.pointer none) rfl <| sA (I 8) rfl <| s_nil ?_
  refine W.ret ?_
  have hr_ := M.e_pure hM
  exact ⟨_, resE_tmp2 rfl, .inl (⟨8, hr_, rfl, (H.pick [] (by decide) rfl)⟩)⟩
 replace hM := M.e_f hM c19z
 refine W.skip <| sQ rfl <| sM (Pz b_1) rfl <| sA (Pz b_1) rfl <| sA (I 0) rfl <| s_nil ?_
 refine W.ret ?_
 have hr_ := M.e_pure hM
 exact ⟨_, resE_tmp2 rfl, .inr (⟨0, b_1, Bs_2, hr_, rfl, (H.pick [1] (by decide) rfl), hb_b_1⟩)⟩

def m_notes_full_1 (i : Int) (k022 : List Work) (k12 : Int) : M Bool :=
  M.bind (m_notes_web_of k022 k12 i) fun r2 =>
  M.pure r2
theorem notes_full_1_ok {R : List Chunk} {b_k0 : Nat} {b_k02 : Nat} {C_k022 : Cells} {v_k022 : Value} {b_k1 : Nat} (i : Int) (k022 : List Work) (k12 : Int) (hC_k022 : Reads R C_k022) (hs_k022 : Sl C_k022 v_k022 k022) (h_b_k02 : Has R (cBlk b_k02 [v_k022] 187)) (h_b_k0 : Has R (cBlk b_k0 [Pz b_k02] 127)) (h_b_k1 : Has R (cBlk b_k1 [I k12] 3)) {r : Bool} (hM : (m_notes_full_1 i k022 k12).Ends r) (w : World) (H : St w w [] R) : Ret Try.prog 159 #[I i, Pz b_k0, Pz b_k1] w fun v w' => ∃ (y0 : Bool), y0 = r ∧ v = B y0 ∧ St w w' [] R := by
 refine ret_of_W Try.func159 rfl rfl rfl ?_
 refine sQ rfl <| sA (B false) rfl <| s_nil <| sQ rfl <| s_val (x_ld (p := Pz b_k0) (v := Pz b_k02) rfl (ldb_sc Sc127 (h_b_k0.blk H) rfl)) <| s_val (x_ld (p := Pz b_k1) (v := I k12) rfl (ldb_sc Sc3 (h_b_k1.blk H) rfl)) <| sM (I i) rfl ?_
 obtain ⟨r2z, hx1z, hM⟩ := M.e_bind hM
 refine s_call cf149 [Pz b_k02, I k12, I i] rfl (notes_web_of_ok k022 k12 i (hC_k022.app _) hs_k022 (h_b_k02.app _) hx1z _ (St.give (T := []) H rfl)) ?_
 rintro vq w3z ⟨r2, hr4z, hvq, H2_⟩
 subst hr4z
 subst vq
 try dsimp only at hM
 replace H : St w w3z [] R := H.back H2_ rfl
 clear H2_
 refine sA (B r2) rfl <| s_nil ?_
 refine W.ret ?_
 have hr_ := M.e_pure hM
 exact ⟨_, resE_tmp rfl, ⟨r2, hr_, rfl, H⟩⟩

def m_notes_lanes_inner (n_web_list_works : List Work) (n_revised : List Int) (n_work : Int) (n_room : Gate → Option Int) (n_met : Int → Option Bool) (i : Int) : M Bool :=
  M.pure ((i != n_work) && (!(n_revised.contains i)))
theorem notes_lanes_inner_ok {R : List Chunk} {b_n : Nat} {b_n_web : Nat} {C_n_web_list_works : Cells} {v_n_web_list_works : Value} {C_n_revised : Cells} {v_n_revised : Value} {b_n_room : Nat} {b_n_met : Nat} (n_web_list_works : List Work) (n_revised : List Int) (n_work : Int) (n_room : Gate → Option Int) (n_met : Int → Option Bool) (i : Int) (hC_n_web_list_works : Reads R C_n_web_list_works) (hs_n_web_list_works : Sl C_n_web_list_works v_n_web_list_works n_web_list_works) (h_b_n_web : Has R (cBlk b_n_web [v_n_web_list_works] 187)) (hC_n_revised : Reads R C_n_revised) (hs_n_revised : Sl C_n_revised v_n_revised n_revised) (h_b_n_room : Has R (cMap encG I b_n_room n_room)) (h_b_n_met : Has R (cMap I B b_n_met n_met)) (h_b_n : Has R (cBlk b_n [Pz b_n_web, v_n_revised, I n_work, .map (some b_n_room), .map (some b_n_met)] 180)) {r : Bool} (hM : (m_notes_lanes_inner n_web_list_works n_revised n_work n_room n_met i).Ends r) (w : World) (H : St w w [] R) : Ret Try.prog 127 #[Pz b_n, I i] w fun v w' => ∃ (y0 : Bool), y0 = r ∧ v = B y0 ∧ St w w' [] R := by
 refine ret_of_W Try.func127 rfl rfl rfl ?_
 refine sQ rfl <| sA (B false) rfl <| s_nil <| sQ rfl <| sM (I i) rfl <| sM (Pz b_n) rfl <| s_val (x_nc (a := ⟨b_n, 0, none⟩) rfl) <| s_val (x_fa (a := Pz b_n) (v := Oz b_n 2) rfl (fa_blk (o := 0) Fd180_2 Sz3)) <| s_val (x_ld (p := Oz b_n 2) (v := I n_work) rfl (ldb_sc Sc3 (h_b_n.blk H) rfl)) <| sC i n_work (i != n_work) rfl rfl rfl ?_
 refine sM (B (i != n_work)) rfl <| g_val (i != n_work) (gy_t rfl) (fun hg => x_mv (v := Pz b_n) rfl) <| g_val (i != n_work) (gy_t rfl) (fun hg => x_nc (a := ⟨b_n, 0, none⟩) (gd_of (c := i != n_work) hg (Pz b_n))) <| g_val (i != n_work) (gy_t rfl) (fun hg => x_fa (a := Pz b_n) (v := Oz b_n 1) (gd_of (c := i != n_work) hg (Pz b_n)) (fa_blk (o := 0) Fd180_1 Sz34)) <| g_val (i != n_work) (gy_t rfl) (fun hg => x_ld (p := Oz b_n 1) (v := v_n_revised) (gd_of (c := i != n_work) hg (Oz b_n 1)) (ldb_sc Sc34 (h_b_n.blk H) rfl)) <| g_val (i != n_work) (gy_t rfl) (fun hg => x_mv (v := I i) rfl) ?_
 refine t_gcall (i != n_work) (gy_t rfl) cf45 (B (n_revised.contains i)) (fun _ => [v_n_revised, I i]) (fun hg => lst2 (gd_of (c := i != n_work) hg (v_n_revised)) (gd_of (c := i != n_work) hg (I i))) H (fun hg => Ret.mono (contains_int i _ (hs_n_revised.mono (hC_n_revised.at H))) fun v_ w_ ⟨hv_, hx_⟩ => ⟨hv_, H.ext hx_⟩) ?_
 intro w1z H
 refine g_val (i != n_work) (gy_t rfl) (fun hg => x_not (b := n_revised.contains i) (gd_of (c := i != n_work) hg (B (n_revised.contains i)))) <| s_val (x_pand (b := i != n_work) (r := !(n_revised.contains i)) rfl (fun hb => gd_of (c := i != n_work) (by first | exact hb | (rw [hb]; rfl) | simp_all) (B (!(n_revised.contains i)))) rfl) <| sA (B ((i != n_work) && (!(n_revised.contains i)))) rfl <| s_nil ?_
 refine W.ret ?_
 have hr_ := M.e_pure hM
 exact ⟨_, resE_tmp rfl, ⟨((i != n_work) && (!(n_revised.contains i))), hr_, rfl, H⟩⟩

def m_notes_lanes_goes_b0 (n_web_list_works : List Work) (n_revised : List Int) (n_work : Int) (at_ : Int) (self_ : ((List Work) × (List Int) × Int × (Gate → Option Int) × (Int → Option Bool) × Int) → M (Bool × (Gate → Option Int) × (Int → Option Bool))) : ((Gate → Option Int) × (Int → Option Bool) × Nat) → M (((Gate → Option Int) × (Int → Option Bool) × Nat) ⊕ (((Gate → Option Int) × (Int → Option Bool)) ⊕ ((Gate → Option Int) × (Int → Option Bool)))) := fun (mp, mp2, s) =>
  bif decide ((s : Int) < (2 * (n_web_list_works.length : Int))) then (
  bif ((decide (0 < ((mp (⟨(at_ : Int), (s : Int)⟩ : Gate)).getD 0))) && (!((mp2 (s : Int)).getD false))) then (
  M.bind (self_ (n_web_list_works, n_revised, n_work, mp, mp2, (s : Int))) fun (r8, q_b_n_room6, q_b_n_met7) =>
  bif (((decide (0 < ((mp (⟨(at_ : Int), (s : Int)⟩ : Gate)).getD 0))) && (!((mp2 (s : Int)).getD false))) && r8) then (
  M.grd (decide ((-9223372036854775808 : Int) ≤ (((q_b_n_room6 (⟨(at_ : Int), (s : Int)⟩ : Gate)).getD 0) - 1)) && decide ((((q_b_n_room6 (⟨(at_ : Int), (s : Int)⟩ : Gate)).getD 0) - 1) ≤ (9223372036854775807 : Int))) <|
  M.grd (decide ((-9223372036854775808 : Int) ≤ ((((updF q_b_n_room6 (⟨(at_ : Int), (s : Int)⟩ : Gate) (((q_b_n_room6 (⟨(at_ : Int), (s : Int)⟩ : Gate)).getD 0) - 1 : Int)) (⟨(s : Int), (at_ : Int)⟩ : Gate)).getD 0) + 1)) && decide (((((updF q_b_n_room6 (⟨(at_ : Int), (s : Int)⟩ : Gate) (((q_b_n_room6 (⟨(at_ : Int), (s : Int)⟩ : Gate)).getD 0) - 1 : Int)) (⟨(s : Int), (at_ : Int)⟩ : Gate)).getD 0) + 1) ≤ (9223372036854775807 : Int))) <|
  M.pure (.inr (.inl (updF (updF q_b_n_room6 (⟨(at_ : Int), (s : Int)⟩ : Gate) (((q_b_n_room6 (⟨(at_ : Int), (s : Int)⟩ : Gate)).getD 0) - 1 : Int)) (⟨(s : Int), (at_ : Int)⟩ : Gate) ((((updF q_b_n_room6 (⟨(at_ : Int), (s : Int)⟩ : Gate) (((q_b_n_room6 (⟨(at_ : Int), (s : Int)⟩ : Gate)).getD 0) - 1 : Int)) (⟨(s : Int), (at_ : Int)⟩ : Gate)).getD 0) + 1 : Int), q_b_n_met7))))
  else (
  M.grd (decide ((-9223372036854775808 : Int) ≤ ((s : Int) + 1)) && decide (((s : Int) + 1) ≤ (9223372036854775807 : Int))) <|
  M.pure (.inl (q_b_n_room6, q_b_n_met7, s + 1))))
  else (
  bif (((decide (0 < ((mp (⟨(at_ : Int), (s : Int)⟩ : Gate)).getD 0))) && (!((mp2 (s : Int)).getD false))) && false) then (
  M.grd (decide ((-9223372036854775808 : Int) ≤ (((mp (⟨(at_ : Int), (s : Int)⟩ : Gate)).getD 0) - 1)) && decide ((((mp (⟨(at_ : Int), (s : Int)⟩ : Gate)).getD 0) - 1) ≤ (9223372036854775807 : Int))) <|
  M.grd (decide ((-9223372036854775808 : Int) ≤ ((((updF mp (⟨(at_ : Int), (s : Int)⟩ : Gate) (((mp (⟨(at_ : Int), (s : Int)⟩ : Gate)).getD 0) - 1 : Int)) (⟨(s : Int), (at_ : Int)⟩ : Gate)).getD 0) + 1)) && decide (((((updF mp (⟨(at_ : Int), (s : Int)⟩ : Gate) (((mp (⟨(at_ : Int), (s : Int)⟩ : Gate)).getD 0) - 1 : Int)) (⟨(s : Int), (at_ : Int)⟩ : Gate)).getD 0) + 1) ≤ (9223372036854775807 : Int))) <|
  M.pure (.inr (.inl (updF (updF mp (⟨(at_ : Int), (s : Int)⟩ : Gate) (((mp (⟨(at_ : Int), (s : Int)⟩ : Gate)).getD 0) - 1 : Int)) (⟨(s : Int), (at_ : Int)⟩ : Gate) ((((updF mp (⟨(at_ : Int), (s : Int)⟩ : Gate) (((mp (⟨(at_ : Int), (s : Int)⟩ : Gate)).getD 0) - 1 : Int)) (⟨(s : Int), (at_ : Int)⟩ : Gate)).getD 0) + 1 : Int), mp2))))
  else (
  M.grd (decide ((-9223372036854775808 : Int) ≤ ((s : Int) + 1)) && decide (((s : Int) + 1) ≤ (9223372036854775807 : Int))) <|
  M.pure (.inl (mp, mp2, s + 1)))))
  else (
  M.pure (.inr (.inr (mp, mp2))))
def m_notes_lanes_goes_F (self_ : ((List Work) × (List Int) × Int × (Gate → Option Int) × (Int → Option Bool) × Int) → M (Bool × (Gate → Option Int) × (Int → Option Bool))) : ((List Work) × (List Int) × Int × (Gate → Option Int) × (Int → Option Bool) × Int) → M (Bool × (Gate → Option Int) × (Int → Option Bool)) := fun (n_web_list_works, n_revised, n_work, n_room, n_met, at_) =>
  M.grd (decide ((-9223372036854775808 : Int) ≤ (2 * n_work)) && decide ((2 * n_work) ≤ (9223372036854775807 : Int))) <|
  bif at_ == (2 * n_work) then (
  M.pure (true, n_room, n_met))
  else (
  M.grd (decide ((-9223372036854775808 : Int) ≤ (2 * (n_web_list_works.length : Int))) && decide ((2 * (n_web_list_works.length : Int)) ≤ (9223372036854775807 : Int))) <|
  M.bind (M.iter (m_notes_lanes_goes_b0 n_web_list_works n_revised n_work at_ self_) (n_room, updF n_met (at_ : Int) true, 0)) fun x_ => match x_ with
  | (.inl (mp3, mp4)) => (
  M.pure (true, mp3, mp4))
  | (.inr (mp5, mp6)) => (
  M.pure (false, mp5, mp6)))
theorem m_notes_lanes_goes_mon : M.Mon m_notes_lanes_goes_F := by
  intro n f g h a
  obtain ⟨n_web_list_works, n_revised, n_work, n_room, n_met, at_⟩ := a
  simp only [m_notes_lanes_goes_F, m_notes_lanes_goes_b0]
  repeat' (first | exact M.le_same _ _ | exact h _ | refine M.le_grd ?_ | refine M.le_if ?_ ?_ | refine M.le_bind ?_ (fun x => ?_) | refine M.le_opt ?_ | refine M.le_iter (fun x => ?_) _ | refine m_notes_web_made_1_le (M.le_yl (fun s_ a_ => ?_)) _ _ _ | (rename_i x; cases x) | (rename_i x; obtain ⟨_, _⟩ := x))
def m_notes_lanes_goes (n_web_list_works : List Work) (n_revised : List Int) (n_work : Int) (n_room : Gate → Option Int) (n_met : Int → Option Bool) (at_ : Int) : M (Bool × (Gate → Option Int) × (Int → Option Bool)) := M.fix m_notes_lanes_goes_F m_notes_lanes_goes_mon (n_web_list_works, n_revised, n_work, n_room, n_met, at_)
theorem notes_lanes_goes_okN (n_ : Nat) : ∀ {R : List Chunk} {b_n : Nat} {b_n_web : Nat} {C_n_web_list_works : Cells} {v_n_web_list_works : Value} {C_n_revised : Cells} {v_n_revised : Value} {b_n_room : Nat} {b_n_met : Nat} (n_web_list_works : List Work) (n_revised : List Int) (n_work : Int) (n_room : Gate → Option Int) (n_met : Int → Option Bool) (at_ : Int) (hC_n_web_list_works : Reads R C_n_web_list_works) (hs_n_web_list_works : Sl C_n_web_list_works v_n_web_list_works n_web_list_works) (h_b_n_web : Has R (cBlk b_n_web [v_n_web_list_works] 187)) (hC_n_revised : Reads R C_n_revised) (hs_n_revised : Sl C_n_revised v_n_revised n_revised) (h_b_n : Has R (cBlk b_n [Pz b_n_web, v_n_revised, I n_work, .map (some b_n_room), .map (some b_n_met)] 180)) {r : (Bool × (Gate → Option Int) × (Int → Option Bool))} (hM : (M.fixN m_notes_lanes_goes_F n_ (n_web_list_works, n_revised, n_work, n_room, n_met, at_)).Ends r) (w : World) (H : St w w [cMap encG I b_n_room n_room, cMap I B b_n_met n_met] R), Ret Try.prog 126 #[Pz b_n, I at_] w fun v w' => ∃ (y0 : Bool) (y1 : Gate → Option Int) (y2 : Int → Option Bool), (y0, y1, y2) = r ∧ v = B y0 ∧ St w w' [cMap encG I b_n_room y1, cMap I B b_n_met y2] R := by
  induction n_ with
  | zero => intro R b_n b_n_web C_n_web_list_works v_n_web_list_works C_n_revised v_n_revised b_n_room b_n_met n_web_list_works n_revised n_work n_room n_met at_ hC_n_web_list_works hs_n_web_list_works h_b_n_web hC_n_revised hs_n_revised h_b_n r hM w H; exact (M.e_fail hM).elim
  | succ n_ ih =>
    intro R b_n b_n_web C_n_web_list_works v_n_web_list_works C_n_revised v_n_revised b_n_room b_n_met n_web_list_works n_revised n_work n_room n_met at_ hC_n_web_list_works hs_n_web_list_works h_b_n_web hC_n_revised hs_n_revised h_b_n r hM w H
    refine ret_of_W Try.func126 rfl rfl rfl ?_
    refine sQ rfl <| sA (B false) rfl <| s_nil <| W.seq <| sQ rfl <| sM (I at_) rfl <| sM (Pz b_n) rfl <| s_val (x_nc (a := ⟨b_n, 0, none⟩) rfl) <| s_val (x_fa (a := Pz b_n) (v := Oz b_n 2) rfl (fa_blk (o := 0) Fd180_2 Sz3)) <| s_val (x_ld (p := Oz b_n 2) (v := I n_work) rfl (ldb_sc Sc3 (h_b_n.blk H) rfl)) ?_
    obtain ⟨sd1z, hM⟩ := M.e_gd hM
    refine sR 2 n_work (2 * n_work) rfl rfl rfl (by omega) <| sC at_ (2 * n_work) (at_ == (2 * n_work)) rfl rfl rfl <| s_nil ?_
    refine W.cond (at_ == (2 * n_work)) rfl (fun c2z => ?_) (fun c2z => ?_)
    ·replace hM := M.e_t hM c2z
     simp only [qz1, qz2, qz3, qz4, qz5, qz6, ne_eq, qz7] at c2z
     refine sQ rfl <| sA (B true) rfl <| s_nil ?_
     refine W.ret ?_
     have hr_ := M.e_pure hM
     exact ⟨_, resE_tmp rfl, ⟨true, n_room, n_met, hr_, rfl, H⟩⟩
    replace hM := M.e_f hM c2z
    simp only [qz1, qz2, qz3, qz4, qz5, qz6, ne_eq, qz7] at c2z
    refine W.skip <| sQ rfl <| sM (Pz b_n) rfl <| s_val (x_nc (a := ⟨b_n, 0, none⟩) rfl) <| s_val (x_fa (a := Pz b_n) (v := Oz b_n 4) rfl (fa_blk (o := 0) Fd180_4 Sz178)) <| s_val (x_ld (p := Oz b_n 4) (v := .map (some b_n_met)) rfl (ldb_sc Sc178 (h_b_n.blk H) rfl)) <| sM (I at_) rfl ?_
    refine t_mapu (i := 1) (kenc := I) (venc := B) (f := n_met) (k := (at_ : Int)) (v := true) (L' := [cMap encG I b_n_room n_room, cMap I B b_n_met (updF n_met (at_ : Int) true)]) keyIntB Try.underlying178 H rfl rfl rfl rfl rfl ?_
    intro w3z H
    refine s_nil <| W.seq <| sQ rfl <| sM (Pz b_n) rfl <| s_val (x_nc (a := ⟨b_n, 0, none⟩) rfl) <| s_val (x_fa (a := Pz b_n) (v := Pz b_n) rfl (fa_blk (o := 0) Fd180_0 Sz127)) <| s_val (x_ld (p := Pz b_n) (v := Pz b_n_web) rfl (ldb_sc Sc127 (h_b_n.blk H) rfl)) <| s_val (x_nc (a := ⟨b_n_web, 0, none⟩) rfl) <| s_val (x_fa (a := Pz b_n_web) (v := Pz b_n_web) rfl (fa_blk (o := 0) Fd187_0 Sz185)) <| s_val (x_fa (a := Pz b_n_web) (v := Pz b_n_web) rfl (fa_blk (o := 0) Fd185_0 Sz22)) <| s_val (x_ld (p := Pz b_n_web) (v := v_n_web_list_works) rfl (ldb_sc Sc22 (h_b_n_web.blk H) rfl)) ?_
    have hl4z := (hs_n_web_list_works).len_le
    refine s_val (x_lenS T22.und rfl hs_n_web_list_works) ?_
    obtain ⟨sd5z, hM⟩ := M.e_gd hM
    refine sR 2 (n_web_list_works.length : Int) (2 * (n_web_list_works.length : Int)) rfl rfl rfl (by omega) <| sM (I 0) rfl <| s_nil <| W.block ?_
    obtain ⟨ex6z, hi7z, hk8z⟩ := M.e_bind hM
    obtain ⟨m0_, hi7z⟩ := M.e_iter hi7z
    refine W.loop (fun m σ W => ∃ (mp : Gate → Option Int) (mp2 : Int → Option Bool) (s : Nat) (ρ : Env), σ = upds ρ [(0, Pz b_n), (1, I at_), (27, I (2 * (n_web_list_works.length : Int))), (28, I (s : Int))] ∧ M.iterN (m_notes_lanes_goes_b0 n_web_list_works n_revised n_work at_ (M.fixN m_notes_lanes_goes_F n_)) m (mp, mp2, s) = some ex6z ∧ St w W [cMap encG I b_n_room mp, cMap I B b_n_met mp2] R) ?_ ?_
    ·exact ⟨_, n_room, updF n_met (at_ : Int) true, 0, _, upds_of _ _ ⟨rfl, rfl, rfl, rfl, trivial⟩, hi7z, H⟩
    rintro m11z σ w9z ⟨mp, mp2, s, ρ, rfl, hI10z, H⟩
    obtain ⟨m12z, lt13z, x14z, hM, hN15z⟩ := M.e_iterN hI10z
    simp only [m_notes_lanes_goes_b0] at hM
    clear hI10z
    refine sQ rfl <| sC (s : Int) (2 * (n_web_list_works.length : Int)) (decide ((s : Int) < (2 * (n_web_list_works.length : Int)))) rfl rfl rfl <| s_nil <| W.seq ?_
    refine W.cond (decide ((s : Int) < (2 * (n_web_list_works.length : Int)))) rfl (fun c16z => ?_) (fun c16z => ?_)
    ·replace hM := M.e_t hM c16z
     simp only [qz1, qz2, qz3, qz4, qz5, qz6, ne_eq, qz7] at c16z
     refine W.skip <| W.seq <| W.block <| sQ rfl <| sM (I (s : Int)) rfl <| sA (I (s : Int)) rfl <| s_nil <| sQ rfl <| sM (Pz b_n) rfl <| s_val (x_nc (a := ⟨b_n, 0, none⟩) rfl) ?_
     refine s_val (x_fa (a := Pz b_n) (v := Oz b_n 3) rfl (fa_blk (o := 0) Fd180_3 Sz177)) <| s_val (x_ld (p := Oz b_n 3) (v := .map (some b_n_room)) rfl (ldb_sc Sc177 (h_b_n.blk H) rfl)) <| sM (I at_) rfl <| sM (I (s : Int)) rfl <| s_val (x_bld (ps := [(0, I at_), (1, I (s : Int))]) (zs := [I 0, I 0]) (L' := [I at_, I (s : Int)]) rfl Try.underlying182 Al182 rfl (Bd182 Try.underlying182) (.cons (cs := [I at_]) rfl rfl rfl rfl rfl <| .cons (cs := [I (s : Int)]) rfl rfl rfl rfl rfl <| .nil)) <| s_val (q_look (kenc := encG) (venc := I) (f := mp) (k := (⟨(at_ : Int), (s : Int)⟩ : Gate)) (v := I ((mp (⟨(at_ : Int), (s : Int)⟩ : Gate)).getD 0)) keyGate Try.underlying177 Al3 rfl rfl (H.get (k := 0) rfl) false (by rw [if_neg (by decide), int_val])) <| sC ((mp (⟨(at_ : Int), (s : Int)⟩ : Gate)).getD 0) 0 (decide (0 < ((mp (⟨(at_ : Int), (s : Int)⟩ : Gate)).getD 0))) rfl rfl rfl <| sM (B (decide (0 < ((mp (⟨(at_ : Int), (s : Int)⟩ : Gate)).getD 0)))) rfl <| g_val (decide (0 < ((mp (⟨(at_ : Int), (s : Int)⟩ : Gate)).getD 0))) (gy_t rfl) (fun hg => x_mv (v := Pz b_n) rfl) <| g_val (decide (0 < ((mp (⟨(at_ : Int), (s : Int)⟩ : Gate)).getD 0))) (gy_t rfl) (fun hg => x_nc (a := ⟨b_n, 0, none⟩) (gd_of (c := decide (0 < ((mp (⟨(at_ : Int), (s : Int)⟩ : Gate)).getD 0))) hg (Pz b_n))) <| g_val (decide (0 < ((mp (⟨(at_ : Int), (s : Int)⟩ : Gate)).getD 0))) (gy_t rfl) (fun hg => x_fa (a := Pz b_n) (v := Oz b_n 4) (gd_of (c := decide (0 < ((mp (⟨(at_ : Int), (s : Int)⟩ : Gate)).getD 0))) hg (Pz b_n)) (fa_blk (o := 0) Fd180_4 Sz178)) <| g_val (decide (0 < ((mp (⟨(at_ : Int), (s : Int)⟩ : Gate)).getD 0))) (gy_t rfl) (fun hg => x_ld (p := Oz b_n 4) (v := .map (some b_n_met)) (gd_of (c := decide (0 < ((mp (⟨(at_ : Int), (s : Int)⟩ : Gate)).getD 0))) hg (Oz b_n 4)) (ldb_sc Sc178 (h_b_n.blk H) rfl)) ?_
     refine g_val (decide (0 < ((mp (⟨(at_ : Int), (s : Int)⟩ : Gate)).getD 0))) (gy_t rfl) (fun hg => x_mv (v := I (s : Int)) rfl) <| g_val (decide (0 < ((mp (⟨(at_ : Int), (s : Int)⟩ : Gate)).getD 0))) (gy_t rfl) (fun hg => q_look (kenc := I) (venc := B) (f := mp2) (k := (s : Int)) (v := B ((mp2 (s : Int)).getD false)) keyIntB Try.underlying178 Al4 (by exact (gd_of (c := decide (0 < ((mp (⟨(at_ : Int), (s : Int)⟩ : Gate)).getD 0))) hg (.map (some b_n_met)))) (by exact (gd_of (c := decide (0 < ((mp (⟨(at_ : Int), (s : Int)⟩ : Gate)).getD 0))) hg (I (s : Int)))) (H.get (k := 1) rfl) false (by rw [if_neg (by decide), bool_val])) <| g_val (decide (0 < ((mp (⟨(at_ : Int), (s : Int)⟩ : Gate)).getD 0))) (gy_t rfl) (fun hg => x_not (b := (mp2 (s : Int)).getD false) (gd_of (c := decide (0 < ((mp (⟨(at_ : Int), (s : Int)⟩ : Gate)).getD 0))) hg (B ((mp2 (s : Int)).getD false)))) <| s_val (x_pand (b := decide (0 < ((mp (⟨(at_ : Int), (s : Int)⟩ : Gate)).getD 0))) (r := !((mp2 (s : Int)).getD false)) rfl (fun hb => gd_of (c := decide (0 < ((mp (⟨(at_ : Int), (s : Int)⟩ : Gate)).getD 0))) (by first | exact hb | (rw [hb]; rfl) | simp_all) (B (!((mp2 (s : Int)).getD false)))) rfl) <| sM (B ((decide (0 < ((mp (⟨(at_ : Int), (s : Int)⟩ : Gate)).getD 0))) && (!((mp2 (s : Int)).getD false)))) rfl <| g_val ((decide (0 < ((mp (⟨(at_ : Int), (s : Int)⟩ : Gate)).getD 0))) && (!((mp2 (s : Int)).getD false))) (gy_t rfl) (fun hg => x_mv (v := Pz b_n) rfl) <| g_val ((decide (0 < ((mp (⟨(at_ : Int), (s : Int)⟩ : Gate)).getD 0))) && (!((mp2 (s : Int)).getD false))) (gy_t rfl) (fun hg => x_mv (v := I (s : Int)) rfl) ?_
     refine g_splitV ((decide (0 < ((mp (⟨(at_ : Int), (s : Int)⟩ : Gate)).getD 0))) && (!((mp2 (s : Int)).getD false))) (B false) (gy_t rfl) (fun hg_ => ?_) (fun hg_ => ?_)
     ·replace hM := M.e_t hM hg_
      obtain ⟨r18z, hx17z, hM⟩ := M.e_bind hM
      refine s_call cf126 [Pz b_n, I (s : Int)] (lst2 (gd_of (c := ((decide (0 < ((mp (⟨(at_ : Int), (s : Int)⟩ : Gate)).getD 0))) && (!((mp2 (s : Int)).getD false)))) hg_ (Pz b_n)) (gd_of (c := ((decide (0 < ((mp (⟨(at_ : Int), (s : Int)⟩ : Gate)).getD 0))) && (!((mp2 (s : Int)).getD false)))) hg_ (I (s : Int)))) (ih n_web_list_works n_revised n_work mp mp2 (s : Int) (hC_n_web_list_works.app _) hs_n_web_list_works (h_b_n_web.app _) (hC_n_revised.app _) hs_n_revised (h_b_n.app _) hx17z _ (St.give (T := []) H rfl)) ?_
      rintro vq w19z ⟨r9, q_b_n_room7, q_b_n_met8, hr20z, hvq, H2_⟩
      subst hr20z
      subst vq
      try dsimp only at hM
      replace H : St w w19z [cMap encG I b_n_room q_b_n_room7, cMap I B b_n_met q_b_n_met8] R := H.back H2_ rfl
      clear H2_
      refine s_val (x_pand (b := ((decide (0 < ((mp (⟨(at_ : Int), (s : Int)⟩ : Gate)).getD 0))) && (!((mp2 (s : Int)).getD false)))) (r := r9) rfl (fun _ => rfl) rfl) <| s_nil ?_
      refine W.cond (((decide (0 < ((mp (⟨(at_ : Int), (s : Int)⟩ : Gate)).getD 0))) && (!((mp2 (s : Int)).getD false))) && r9) rfl (fun c21z => ?_) (fun c21z => ?_)
      ·replace hM := M.e_t hM c21z
       refine W.seq ?_
       refine W.drawT (fun W => St w W [cMap I B b_n_met q_b_n_met8] R) (.q 0 (.q 1 (.q 2 (.q 3 (.q 4 (.q 5 (.q 6 (.l2 7 (.q 8 (.l 9 (.q 10 (.l 11 .nil)))) 9 (.q 10 (.l 7 (.q 8 (.l 11 .nil)))))))))))) mixed (by decide +kernel) rfl ?_
       intro w22z hx_
       replace H : St w w22z [cMap encG I b_n_room q_b_n_room7, cMap I B b_n_met q_b_n_met8] R := H.ext hx_
       clear hx_
       refine ⟨(H.pick [1] (by decide) rfl), ?_⟩
       refine t_q rfl (fun w' H => x_mv (v := Pz b_n) rfl) ?_
       refine t_q rfl (fun w' H => x_nc (a := ⟨b_n, 0, none⟩) rfl) ?_
       refine t_q rfl (fun w' H => x_fa (a := Pz b_n) (v := Oz b_n 3) rfl (fa_blk (o := 0) Fd180_3 Sz177)) ?_
       refine t_q rfl (fun w' H => x_ld (p := Oz b_n 3) (v := .map (some b_n_room)) rfl (ldb_sc Sc177 (h_b_n.blk H) rfl)) ?_
       refine t_q rfl (fun w' H => x_mv (v := I at_) rfl) ?_
       refine t_q rfl (fun w' H => x_mv (v := I (s : Int)) rfl) ?_
       refine t_q rfl (fun w' H => x_bld (ps := [(0, I at_), (1, I (s : Int))]) (zs := [I 0, I 0]) (L' := [I at_, I (s : Int)]) rfl Try.underlying182 Al182 rfl (Bd182 Try.underlying182) (.cons (cs := [I at_]) rfl rfl rfl rfl rfl <| .cons (cs := [I (s : Int)]) rfl rfl rfl rfl rfl <| .nil)) ?_
       obtain ⟨sd23z, hM⟩ := M.e_gd hM
       refine t_l2 rfl rfl ?_ ?_
       ·skip
        refine s_val (q_look (kenc := encG) (venc := I) (f := q_b_n_room7) (k := (⟨(at_ : Int), (s : Int)⟩ : Gate)) (v := I ((q_b_n_room7 (⟨(at_ : Int), (s : Int)⟩ : Gate)).getD 0)) keyGate Try.underlying177 Al3 rfl rfl (H.get (k := 0) rfl) false (by rw [if_neg (by decide), int_val])) ?_
        refine s_nil ⟨(H.pick [1] (by decide) rfl), ?_⟩
        refine t_q rfl (fun w' H => x_ari (a := (q_b_n_room7 (⟨(at_ : Int), (s : Int)⟩ : Gate)).getD 0) (b := 1) (r := ((q_b_n_room7 (⟨(at_ : Int), (s : Int)⟩ : Gate)).getD 0) - 1) rfl rfl rfl (by omega)) ?_
        refine t_l rfl ?_
        refine t_ment (i := 0) (kenc := encG) (venc := I) (f := q_b_n_room7) (k := (⟨(at_ : Int), (s : Int)⟩ : Gate)) (z := 0) keyGate Try.underlying177 Al3 H rfl rfl rfl ?_
        intro st28z w27z H
        replace H : St w w27z [cEnt encG I b_n_room (updF q_b_n_room7 (⟨(at_ : Int), (s : Int)⟩ : Gate) ((q_b_n_room7 (⟨(at_ : Int), (s : Int)⟩ : Gate)).getD 0)) (⟨(at_ : Int), (s : Int)⟩ : Gate) st28z, cMap I B b_n_met q_b_n_met8] R := H
        refine s_nil ⟨(H.pick [1] (by decide) rfl), ?_⟩
        refine t_q rfl (fun w' H => x_ext (vs := [I ((q_b_n_room7 (⟨(at_ : Int), (s : Int)⟩ : Gate)).getD 0), .int .i64 st28z]) (v := .int .i64 st28z) rfl rfl) ?_
        refine t_l rfl ?_
        refine t_enst (i := 0) (kenc := encG) (venc := I) (f0 := q_b_n_room7) (k := (⟨(at_ : Int), (s : Int)⟩ : Gate)) (v := (((q_b_n_room7 (⟨(at_ : Int), (s : Int)⟩ : Gate)).getD 0) - 1 : Int)) (L' := [cMap encG I b_n_room (updF q_b_n_room7 (⟨(at_ : Int), (s : Int)⟩ : Gate) (((q_b_n_room7 (⟨(at_ : Int), (s : Int)⟩ : Gate)).getD 0) - 1 : Int)), cMap I B b_n_met q_b_n_met8]) H rfl rfl rfl rfl rfl ?_
        intro w29z H
        refine s_nil ⟨(H.pick [1] (by decide) rfl), ?_⟩
        refine t_nil ?_
        refine W.seq ?_
        refine W.drawT (fun W => St w W [cMap I B b_n_met q_b_n_met8] R) (.q 0 (.q 1 (.q 2 (.q 3 (.q 4 (.q 5 (.q 6 (.l2 7 (.q 8 (.l 9 (.q 10 (.l 11 .nil)))) 9 (.q 10 (.l 7 (.q 8 (.l 11 .nil)))))))))))) mixed (by decide +kernel) rfl ?_
        intro w30z hx_
        replace H : St w w30z [cMap encG I b_n_room (updF q_b_n_room7 (⟨(at_ : Int), (s : Int)⟩ : Gate) (((q_b_n_room7 (⟨(at_ : Int), (s : Int)⟩ : Gate)).getD 0) - 1 : Int)), cMap I B b_n_met q_b_n_met8] R := H.ext hx_
        clear hx_
        refine ⟨(H.pick [1] (by decide) rfl), ?_⟩
        refine t_q rfl (fun w' H => x_mv (v := Pz b_n) rfl) ?_
        refine t_q rfl (fun w' H => x_nc (a := ⟨b_n, 0, none⟩) rfl) ?_
        refine t_q rfl (fun w' H => x_fa (a := Pz b_n) (v := Oz b_n 3) rfl (fa_blk (o := 0) Fd180_3 Sz177)) ?_
        refine t_q rfl (fun w' H => x_ld (p := Oz b_n 3) (v := .map (some b_n_room)) rfl (ldb_sc Sc177 (h_b_n.blk H) rfl)) ?_
        refine t_q rfl (fun w' H => x_mv (v := I (s : Int)) rfl) ?_
        refine t_q rfl (fun w' H => x_mv (v := I at_) rfl) ?_
        refine t_q rfl (fun w' H => x_bld (ps := [(0, I (s : Int)), (1, I at_)]) (zs := [I 0, I 0]) (L' := [I (s : Int), I at_]) rfl Try.underlying182 Al182 rfl (Bd182 Try.underlying182) (.cons (cs := [I (s : Int)]) rfl rfl rfl rfl rfl <| .cons (cs := [I at_]) rfl rfl rfl rfl rfl <| .nil)) ?_
        obtain ⟨sd31z, hM⟩ := M.e_gd hM
        refine t_l2 rfl rfl ?_ ?_
        ·skip
         refine s_val (q_look (kenc := encG) (venc := I) (f := updF q_b_n_room7 (⟨(at_ : Int), (s : Int)⟩ : Gate) (((q_b_n_room7 (⟨(at_ : Int), (s : Int)⟩ : Gate)).getD 0) - 1 : Int)) (k := (⟨(s : Int), (at_ : Int)⟩ : Gate)) (v := I (((updF q_b_n_room7 (⟨(at_ : Int), (s : Int)⟩ : Gate) (((q_b_n_room7 (⟨(at_ : Int), (s : Int)⟩ : Gate)).getD 0) - 1 : Int)) (⟨(s : Int), (at_ : Int)⟩ : Gate)).getD 0)) keyGate Try.underlying177 Al3 rfl rfl (H.get (k := 0) rfl) false (by rw [if_neg (by decide), int_val])) ?_
         refine s_nil ⟨(H.pick [1] (by decide) rfl), ?_⟩
         refine t_q rfl (fun w' H => x_ari (a := ((updF q_b_n_room7 (⟨(at_ : Int), (s : Int)⟩ : Gate) (((q_b_n_room7 (⟨(at_ : Int), (s : Int)⟩ : Gate)).getD 0) - 1 : Int)) (⟨(s : Int), (at_ : Int)⟩ : Gate)).getD 0) (b := 1) (r := (((updF q_b_n_room7 (⟨(at_ : Int), (s : Int)⟩ : Gate) (((q_b_n_room7 (⟨(at_ : Int), (s : Int)⟩ : Gate)).getD 0) - 1 : Int)) (⟨(s : Int), (at_ : Int)⟩ : Gate)).getD 0) + 1) rfl rfl rfl (by omega)) ?_
         refine t_l rfl ?_
         refine t_ment (i := 0) (kenc := encG) (venc := I) (f := updF q_b_n_room7 (⟨(at_ : Int), (s : Int)⟩ : Gate) (((q_b_n_room7 (⟨(at_ : Int), (s : Int)⟩ : Gate)).getD 0) - 1 : Int)) (k := (⟨(s : Int), (at_ : Int)⟩ : Gate)) (z := 0) keyGate Try.underlying177 Al3 H rfl rfl rfl ?_
         intro st36z w35z H
         replace H : St w w35z [cEnt encG I b_n_room (updF (updF q_b_n_room7 (⟨(at_ : Int), (s : Int)⟩ : Gate) (((q_b_n_room7 (⟨(at_ : Int), (s : Int)⟩ : Gate)).getD 0) - 1 : Int)) (⟨(s : Int), (at_ : Int)⟩ : Gate) (((updF q_b_n_room7 (⟨(at_ : Int), (s : Int)⟩ : Gate) (((q_b_n_room7 (⟨(at_ : Int), (s : Int)⟩ : Gate)).getD 0) - 1 : Int)) (⟨(s : Int), (at_ : Int)⟩ : Gate)).getD 0)) (⟨(s : Int), (at_ : Int)⟩ : Gate) st36z, cMap I B b_n_met q_b_n_met8] R := H
         refine s_nil ⟨(H.pick [1] (by decide) rfl), ?_⟩
         refine t_q rfl (fun w' H => x_ext (vs := [I (((updF q_b_n_room7 (⟨(at_ : Int), (s : Int)⟩ : Gate) (((q_b_n_room7 (⟨(at_ : Int), (s : Int)⟩ : Gate)).getD 0) - 1 : Int)) (⟨(s : Int), (at_ : Int)⟩ : Gate)).getD 0), .int .i64 st36z]) (v := .int .i64 st36z) rfl rfl) ?_
         refine t_l rfl ?_
         refine t_enst (i := 0) (kenc := encG) (venc := I) (f0 := updF q_b_n_room7 (⟨(at_ : Int), (s : Int)⟩ : Gate) (((q_b_n_room7 (⟨(at_ : Int), (s : Int)⟩ : Gate)).getD 0) - 1 : Int)) (k := (⟨(s : Int), (at_ : Int)⟩ : Gate)) (v := ((((updF q_b_n_room7 (⟨(at_ : Int), (s : Int)⟩ : Gate) (((q_b_n_room7 (⟨(at_ : Int), (s : Int)⟩ : Gate)).getD 0) - 1 : Int)) (⟨(s : Int), (at_ : Int)⟩ : Gate)).getD 0) + 1 : Int)) (L' := [cMap encG I b_n_room (updF (updF q_b_n_room7 (⟨(at_ : Int), (s : Int)⟩ : Gate) (((q_b_n_room7 (⟨(at_ : Int), (s : Int)⟩ : Gate)).getD 0) - 1 : Int)) (⟨(s : Int), (at_ : Int)⟩ : Gate) ((((updF q_b_n_room7 (⟨(at_ : Int), (s : Int)⟩ : Gate) (((q_b_n_room7 (⟨(at_ : Int), (s : Int)⟩ : Gate)).getD 0) - 1 : Int)) (⟨(s : Int), (at_ : Int)⟩ : Gate)).getD 0) + 1 : Int)), cMap I B b_n_met q_b_n_met8]) H rfl rfl rfl rfl rfl ?_
         intro w37z H
         refine s_nil ⟨(H.pick [1] (by decide) rfl), ?_⟩
         refine t_nil ?_
         refine sQ rfl <| sA (B true) rfl <| s_nil ?_
         refine W.ret ?_
         have hX38z := M.e_inr hM hN15z
         subst hX38z
         replace hM := hk8z
         try dsimp only at hM
         have hr_ := M.e_pure hM
         exact ⟨_, resE_tmp rfl, ⟨true, (updF (updF q_b_n_room7 (⟨(at_ : Int), (s : Int)⟩ : Gate) (((q_b_n_room7 (⟨(at_ : Int), (s : Int)⟩ : Gate)).getD 0) - 1 : Int)) (⟨(s : Int), (at_ : Int)⟩ : Gate) ((((updF q_b_n_room7 (⟨(at_ : Int), (s : Int)⟩ : Gate) (((q_b_n_room7 (⟨(at_ : Int), (s : Int)⟩ : Gate)).getD 0) - 1 : Int)) (⟨(s : Int), (at_ : Int)⟩ : Gate)).getD 0) + 1 : Int)), q_b_n_met8, hr_, rfl, H⟩⟩
        skip
        refine t_ment (i := 0) (kenc := encG) (venc := I) (f := updF q_b_n_room7 (⟨(at_ : Int), (s : Int)⟩ : Gate) (((q_b_n_room7 (⟨(at_ : Int), (s : Int)⟩ : Gate)).getD 0) - 1 : Int)) (k := (⟨(s : Int), (at_ : Int)⟩ : Gate)) (z := 0) keyGate Try.underlying177 Al3 H rfl rfl rfl ?_
        intro st40z w39z H
        replace H : St w w39z [cEnt encG I b_n_room (updF (updF q_b_n_room7 (⟨(at_ : Int), (s : Int)⟩ : Gate) (((q_b_n_room7 (⟨(at_ : Int), (s : Int)⟩ : Gate)).getD 0) - 1 : Int)) (⟨(s : Int), (at_ : Int)⟩ : Gate) (((updF q_b_n_room7 (⟨(at_ : Int), (s : Int)⟩ : Gate) (((q_b_n_room7 (⟨(at_ : Int), (s : Int)⟩ : Gate)).getD 0) - 1 : Int)) (⟨(s : Int), (at_ : Int)⟩ : Gate)).getD 0)) (⟨(s : Int), (at_ : Int)⟩ : Gate) st40z, cMap I B b_n_met q_b_n_met8] R := H
        refine s_nil ⟨(H.pick [1] (by decide) rfl), ?_⟩
        refine t_q rfl (fun w' H => x_ext (vs := [I (((updF q_b_n_room7 (⟨(at_ : Int), (s : Int)⟩ : Gate) (((q_b_n_room7 (⟨(at_ : Int), (s : Int)⟩ : Gate)).getD 0) - 1 : Int)) (⟨(s : Int), (at_ : Int)⟩ : Gate)).getD 0), .int .i64 st40z]) (v := .int .i64 st40z) rfl rfl) ?_
        refine t_l rfl ?_
        refine s_val (q_look (kenc := encG) (venc := I) (f := updF (updF q_b_n_room7 (⟨(at_ : Int), (s : Int)⟩ : Gate) (((q_b_n_room7 (⟨(at_ : Int), (s : Int)⟩ : Gate)).getD 0) - 1 : Int)) (⟨(s : Int), (at_ : Int)⟩ : Gate) (((updF q_b_n_room7 (⟨(at_ : Int), (s : Int)⟩ : Gate) (((q_b_n_room7 (⟨(at_ : Int), (s : Int)⟩ : Gate)).getD 0) - 1 : Int)) (⟨(s : Int), (at_ : Int)⟩ : Gate)).getD 0)) (k := (⟨(s : Int), (at_ : Int)⟩ : Gate)) (v := I (((updF q_b_n_room7 (⟨(at_ : Int), (s : Int)⟩ : Gate) (((q_b_n_room7 (⟨(at_ : Int), (s : Int)⟩ : Gate)).getD 0) - 1 : Int)) (⟨(s : Int), (at_ : Int)⟩ : Gate)).getD 0)) keyGate Try.underlying177 Al3 rfl rfl (entMap (H.get (k := 0) rfl)) false (by rw [if_neg (by decide), int_val, updF_same])) ?_
        refine s_nil ⟨(H.pick [1] (by decide) rfl), ?_⟩
        refine t_q rfl (fun w' H => x_ari (a := ((updF q_b_n_room7 (⟨(at_ : Int), (s : Int)⟩ : Gate) (((q_b_n_room7 (⟨(at_ : Int), (s : Int)⟩ : Gate)).getD 0) - 1 : Int)) (⟨(s : Int), (at_ : Int)⟩ : Gate)).getD 0) (b := 1) (r := (((updF q_b_n_room7 (⟨(at_ : Int), (s : Int)⟩ : Gate) (((q_b_n_room7 (⟨(at_ : Int), (s : Int)⟩ : Gate)).getD 0) - 1 : Int)) (⟨(s : Int), (at_ : Int)⟩ : Gate)).getD 0) + 1) rfl rfl rfl (by omega)) ?_
        refine t_l rfl ?_
        refine t_enst (i := 0) (kenc := encG) (venc := I) (f0 := updF q_b_n_room7 (⟨(at_ : Int), (s : Int)⟩ : Gate) (((q_b_n_room7 (⟨(at_ : Int), (s : Int)⟩ : Gate)).getD 0) - 1 : Int)) (k := (⟨(s : Int), (at_ : Int)⟩ : Gate)) (v := ((((updF q_b_n_room7 (⟨(at_ : Int), (s : Int)⟩ : Gate) (((q_b_n_room7 (⟨(at_ : Int), (s : Int)⟩ : Gate)).getD 0) - 1 : Int)) (⟨(s : Int), (at_ : Int)⟩ : Gate)).getD 0) + 1 : Int)) (L' := [cMap encG I b_n_room (updF (updF q_b_n_room7 (⟨(at_ : Int), (s : Int)⟩ : Gate) (((q_b_n_room7 (⟨(at_ : Int), (s : Int)⟩ : Gate)).getD 0) - 1 : Int)) (⟨(s : Int), (at_ : Int)⟩ : Gate) ((((updF q_b_n_room7 (⟨(at_ : Int), (s : Int)⟩ : Gate) (((q_b_n_room7 (⟨(at_ : Int), (s : Int)⟩ : Gate)).getD 0) - 1 : Int)) (⟨(s : Int), (at_ : Int)⟩ : Gate)).getD 0) + 1 : Int)), cMap I B b_n_met q_b_n_met8]) H rfl rfl rfl rfl rfl ?_
        intro w41z H
        refine s_nil ⟨(H.pick [1] (by decide) rfl), ?_⟩
        refine t_nil ?_
        refine sQ rfl <| sA (B true) rfl <| s_nil ?_
        refine W.ret ?_
        have hX42z := M.e_inr hM hN15z
        subst hX42z
        replace hM := hk8z
        try dsimp only at hM
        have hr_ := M.e_pure hM
        exact ⟨_, resE_tmp rfl, ⟨true, (updF (updF q_b_n_room7 (⟨(at_ : Int), (s : Int)⟩ : Gate) (((q_b_n_room7 (⟨(at_ : Int), (s : Int)⟩ : Gate)).getD 0) - 1 : Int)) (⟨(s : Int), (at_ : Int)⟩ : Gate) ((((updF q_b_n_room7 (⟨(at_ : Int), (s : Int)⟩ : Gate) (((q_b_n_room7 (⟨(at_ : Int), (s : Int)⟩ : Gate)).getD 0) - 1 : Int)) (⟨(s : Int), (at_ : Int)⟩ : Gate)).getD 0) + 1 : Int)), q_b_n_met8, hr_, rfl, H⟩⟩
       skip
       refine t_ment (i := 0) (kenc := encG) (venc := I) (f := q_b_n_room7) (k := (⟨(at_ : Int), (s : Int)⟩ : Gate)) (z := 0) keyGate Try.underlying177 Al3 H rfl rfl rfl ?_
       intro st44z w43z H
       replace H : St w w43z [cEnt encG I b_n_room (updF q_b_n_room7 (⟨(at_ : Int), (s : Int)⟩ : Gate) ((q_b_n_room7 (⟨(at_ : Int), (s : Int)⟩ : Gate)).getD 0)) (⟨(at_ : Int), (s : Int)⟩ : Gate) st44z, cMap I B b_n_met q_b_n_met8] R := H
       refine s_nil ⟨(H.pick [1] (by decide) rfl), ?_⟩
       refine t_q rfl (fun w' H => x_ext (vs := [I ((q_b_n_room7 (⟨(at_ : Int), (s : Int)⟩ : Gate)).getD 0), .int .i64 st44z]) (v := .int .i64 st44z) rfl rfl) ?_
       refine t_l rfl ?_
       refine s_val (q_look (kenc := encG) (venc := I) (f := updF q_b_n_room7 (⟨(at_ : Int), (s : Int)⟩ : Gate) ((q_b_n_room7 (⟨(at_ : Int), (s : Int)⟩ : Gate)).getD 0)) (k := (⟨(at_ : Int), (s : Int)⟩ : Gate)) (v := I ((q_b_n_room7 (⟨(at_ : Int), (s : Int)⟩ : Gate)).getD 0)) keyGate Try.underlying177 Al3 rfl rfl (entMap (H.get (k := 0) rfl)) false (by rw [if_neg (by decide), int_val, updF_same])) ?_
       refine s_nil ⟨(H.pick [1] (by decide) rfl), ?_⟩
       refine t_q rfl (fun w' H => x_ari (a := (q_b_n_room7 (⟨(at_ : Int), (s : Int)⟩ : Gate)).getD 0) (b := 1) (r := ((q_b_n_room7 (⟨(at_ : Int), (s : Int)⟩ : Gate)).getD 0) - 1) rfl rfl rfl (by omega)) ?_
       refine t_l rfl ?_
       refine t_enst (i := 0) (kenc := encG) (venc := I) (f0 := q_b_n_room7) (k := (⟨(at_ : Int), (s : Int)⟩ : Gate)) (v := (((q_b_n_room7 (⟨(at_ : Int), (s : Int)⟩ : Gate)).getD 0) - 1 : Int)) (L' := [cMap encG I b_n_room (updF q_b_n_room7 (⟨(at_ : Int), (s : Int)⟩ : Gate) (((q_b_n_room7 (⟨(at_ : Int), (s : Int)⟩ : Gate)).getD 0) - 1 : Int)), cMap I B b_n_met q_b_n_met8]) H rfl rfl rfl rfl rfl ?_
       intro w45z H
       refine s_nil ⟨(H.pick [1] (by decide) rfl), ?_⟩
       refine t_nil ?_
       refine W.seq ?_
       refine W.drawT (fun W => St w W [cMap I B b_n_met q_b_n_met8] R) (.q 0 (.q 1 (.q 2 (.q 3 (.q 4 (.q 5 (.q 6 (.l2 7 (.q 8 (.l 9 (.q 10 (.l 11 .nil)))) 9 (.q 10 (.l 7 (.q 8 (.l 11 .nil)))))))))))) mixed (by decide +kernel) rfl ?_
       intro w46z hx_
       replace H : St w w46z [cMap encG I b_n_room (updF q_b_n_room7 (⟨(at_ : Int), (s : Int)⟩ : Gate) (((q_b_n_room7 (⟨(at_ : Int), (s : Int)⟩ : Gate)).getD 0) - 1 : Int)), cMap I B b_n_met q_b_n_met8] R := H.ext hx_
       clear hx_
       refine ⟨(H.pick [1] (by decide) rfl), ?_⟩
       refine t_q rfl (fun w' H => x_mv (v := Pz b_n) rfl) ?_
       refine t_q rfl (fun w' H => x_nc (a := ⟨b_n, 0, none⟩) rfl) ?_
       refine t_q rfl (fun w' H => x_fa (a := Pz b_n) (v := Oz b_n 3) rfl (fa_blk (o := 0) Fd180_3 Sz177)) ?_
       refine t_q rfl (fun w' H => x_ld (p := Oz b_n 3) (v := .map (some b_n_room)) rfl (ldb_sc Sc177 (h_b_n.blk H) rfl)) ?_
       refine t_q rfl (fun w' H => x_mv (v := I (s : Int)) rfl) ?_
       refine t_q rfl (fun w' H => x_mv (v := I at_) rfl) ?_
       refine t_q rfl (fun w' H => x_bld (ps := [(0, I (s : Int)), (1, I at_)]) (zs := [I 0, I 0]) (L' := [I (s : Int), I at_]) rfl Try.underlying182 Al182 rfl (Bd182 Try.underlying182) (.cons (cs := [I (s : Int)]) rfl rfl rfl rfl rfl <| .cons (cs := [I at_]) rfl rfl rfl rfl rfl <| .nil)) ?_
       obtain ⟨sd47z, hM⟩ := M.e_gd hM
       refine t_l2 rfl rfl ?_ ?_
       ·skip
        refine s_val (q_look (kenc := encG) (venc := I) (f := updF q_b_n_room7 (⟨(at_ : Int), (s : Int)⟩ : Gate) (((q_b_n_room7 (⟨(at_ : Int), (s : Int)⟩ : Gate)).getD 0) - 1 : Int)) (k := (⟨(s : Int), (at_ : Int)⟩ : Gate)) (v := I (((updF q_b_n_room7 (⟨(at_ : Int), (s : Int)⟩ : Gate) (((q_b_n_room7 (⟨(at_ : Int), (s : Int)⟩ : Gate)).getD 0) - 1 : Int)) (⟨(s : Int), (at_ : Int)⟩ : Gate)).getD 0)) keyGate Try.underlying177 Al3 rfl rfl (H.get (k := 0) rfl) false (by rw [if_neg (by decide), int_val])) ?_
        refine s_nil ⟨(H.pick [1] (by decide) rfl), ?_⟩
        refine t_q rfl (fun w' H => x_ari (a := ((updF q_b_n_room7 (⟨(at_ : Int), (s : Int)⟩ : Gate) (((q_b_n_room7 (⟨(at_ : Int), (s : Int)⟩ : Gate)).getD 0) - 1 : Int)) (⟨(s : Int), (at_ : Int)⟩ : Gate)).getD 0) (b := 1) (r := (((updF q_b_n_room7 (⟨(at_ : Int), (s : Int)⟩ : Gate) (((q_b_n_room7 (⟨(at_ : Int), (s : Int)⟩ : Gate)).getD 0) - 1 : Int)) (⟨(s : Int), (at_ : Int)⟩ : Gate)).getD 0) + 1) rfl rfl rfl (by omega)) ?_
        refine t_l rfl ?_
        refine t_ment (i := 0) (kenc := encG) (venc := I) (f := updF q_b_n_room7 (⟨(at_ : Int), (s : Int)⟩ : Gate) (((q_b_n_room7 (⟨(at_ : Int), (s : Int)⟩ : Gate)).getD 0) - 1 : Int)) (k := (⟨(s : Int), (at_ : Int)⟩ : Gate)) (z := 0) keyGate Try.underlying177 Al3 H rfl rfl rfl ?_
        intro st52z w51z H
        replace H : St w w51z [cEnt encG I b_n_room (updF (updF q_b_n_room7 (⟨(at_ : Int), (s : Int)⟩ : Gate) (((q_b_n_room7 (⟨(at_ : Int), (s : Int)⟩ : Gate)).getD 0) - 1 : Int)) (⟨(s : Int), (at_ : Int)⟩ : Gate) (((updF q_b_n_room7 (⟨(at_ : Int), (s : Int)⟩ : Gate) (((q_b_n_room7 (⟨(at_ : Int), (s : Int)⟩ : Gate)).getD 0) - 1 : Int)) (⟨(s : Int), (at_ : Int)⟩ : Gate)).getD 0)) (⟨(s : Int), (at_ : Int)⟩ : Gate) st52z, cMap I B b_n_met q_b_n_met8] R := H
        refine s_nil ⟨(H.pick [1] (by decide) rfl), ?_⟩
        refine t_q rfl (fun w' H => x_ext (vs := [I (((updF q_b_n_room7 (⟨(at_ : Int), (s : Int)⟩ : Gate) (((q_b_n_room7 (⟨(at_ : Int), (s : Int)⟩ : Gate)).getD 0) - 1 : Int)) (⟨(s : Int), (at_ : Int)⟩ : Gate)).getD 0), .int .i64 st52z]) (v := .int .i64 st52z) rfl rfl) ?_
        refine t_l rfl ?_
        refine t_enst (i := 0) (kenc := encG) (venc := I) (f0 := updF q_b_n_room7 (⟨(at_ : Int), (s : Int)⟩ : Gate) (((q_b_n_room7 (⟨(at_ : Int), (s : Int)⟩ : Gate)).getD 0) - 1 : Int)) (k := (⟨(s : Int), (at_ : Int)⟩ : Gate)) (v := ((((updF q_b_n_room7 (⟨(at_ : Int), (s : Int)⟩ : Gate) (((q_b_n_room7 (⟨(at_ : Int), (s : Int)⟩ : Gate)).getD 0) - 1 : Int)) (⟨(s : Int), (at_ : Int)⟩ : Gate)).getD 0) + 1 : Int)) (L' := [cMap encG I b_n_room (updF (updF q_b_n_room7 (⟨(at_ : Int), (s : Int)⟩ : Gate) (((q_b_n_room7 (⟨(at_ : Int), (s : Int)⟩ : Gate)).getD 0) - 1 : Int)) (⟨(s : Int), (at_ : Int)⟩ : Gate) ((((updF q_b_n_room7 (⟨(at_ : Int), (s : Int)⟩ : Gate) (((q_b_n_room7 (⟨(at_ : Int), (s : Int)⟩ : Gate)).getD 0) - 1 : Int)) (⟨(s : Int), (at_ : Int)⟩ : Gate)).getD 0) + 1 : Int)), cMap I B b_n_met q_b_n_met8]) H rfl rfl rfl rfl rfl ?_
        intro w53z H
        refine s_nil ⟨(H.pick [1] (by decide) rfl), ?_⟩
        refine t_nil ?_
        refine sQ rfl <| sA (B true) rfl <| s_nil ?_
        refine W.ret ?_
        have hX54z := M.e_inr hM hN15z
        subst hX54z
        replace hM := hk8z
        try dsimp only at hM
        have hr_ := M.e_pure hM
        exact ⟨_, resE_tmp rfl, ⟨true, (updF (updF q_b_n_room7 (⟨(at_ : Int), (s : Int)⟩ : Gate) (((q_b_n_room7 (⟨(at_ : Int), (s : Int)⟩ : Gate)).getD 0) - 1 : Int)) (⟨(s : Int), (at_ : Int)⟩ : Gate) ((((updF q_b_n_room7 (⟨(at_ : Int), (s : Int)⟩ : Gate) (((q_b_n_room7 (⟨(at_ : Int), (s : Int)⟩ : Gate)).getD 0) - 1 : Int)) (⟨(s : Int), (at_ : Int)⟩ : Gate)).getD 0) + 1 : Int)), q_b_n_met8, hr_, rfl, H⟩⟩
       skip
       refine t_ment (i := 0) (kenc := encG) (venc := I) (f := updF q_b_n_room7 (⟨(at_ : Int), (s : Int)⟩ : Gate) (((q_b_n_room7 (⟨(at_ : Int), (s : Int)⟩ : Gate)).getD 0) - 1 : Int)) (k := (⟨(s : Int), (at_ : Int)⟩ : Gate)) (z := 0) keyGate Try.underlying177 Al3 H rfl rfl rfl ?_
       intro st56z w55z H
       replace H : St w w55z [cEnt encG I b_n_room (updF (updF q_b_n_room7 (⟨(at_ : Int), (s : Int)⟩ : Gate) (((q_b_n_room7 (⟨(at_ : Int), (s : Int)⟩ : Gate)).getD 0) - 1 : Int)) (⟨(s : Int), (at_ : Int)⟩ : Gate) (((updF q_b_n_room7 (⟨(at_ : Int), (s : Int)⟩ : Gate) (((q_b_n_room7 (⟨(at_ : Int), (s : Int)⟩ : Gate)).getD 0) - 1 : Int)) (⟨(s : Int), (at_ : Int)⟩ : Gate)).getD 0)) (⟨(s : Int), (at_ : Int)⟩ : Gate) st56z, cMap I B b_n_met q_b_n_met8] R := H
       refine s_nil ⟨(H.pick [1] (by decide) rfl), ?_⟩
       refine t_q rfl (fun w' H => x_ext (vs := [I (((updF q_b_n_room7 (⟨(at_ : Int), (s : Int)⟩ : Gate) (((q_b_n_room7 (⟨(at_ : Int), (s : Int)⟩ : Gate)).getD 0) - 1 : Int)) (⟨(s : Int), (at_ : Int)⟩ : Gate)).getD 0), .int .i64 st56z]) (v := .int .i64 st56z) rfl rfl) ?_
       refine t_l rfl ?_
       refine s_val (q_look (kenc := encG) (venc := I) (f := updF (updF q_b_n_room7 (⟨(at_ : Int), (s : Int)⟩ : Gate) (((q_b_n_room7 (⟨(at_ : Int), (s : Int)⟩ : Gate)).getD 0) - 1 : Int)) (⟨(s : Int), (at_ : Int)⟩ : Gate) (((updF q_b_n_room7 (⟨(at_ : Int), (s : Int)⟩ : Gate) (((q_b_n_room7 (⟨(at_ : Int), (s : Int)⟩ : Gate)).getD 0) - 1 : Int)) (⟨(s : Int), (at_ : Int)⟩ : Gate)).getD 0)) (k := (⟨(s : Int), (at_ : Int)⟩ : Gate)) (v := I (((updF q_b_n_room7 (⟨(at_ : Int), (s : Int)⟩ : Gate) (((q_b_n_room7 (⟨(at_ : Int), (s : Int)⟩ : Gate)).getD 0) - 1 : Int)) (⟨(s : Int), (at_ : Int)⟩ : Gate)).getD 0)) keyGate Try.underlying177 Al3 rfl rfl (entMap (H.get (k := 0) rfl)) false (by rw [if_neg (by decide), int_val, updF_same])) ?_
       refine s_nil ⟨(H.pick [1] (by decide) rfl), ?_⟩
       refine t_q rfl (fun w' H => x_ari (a := ((updF q_b_n_room7 (⟨(at_ : Int), (s : Int)⟩ : Gate) (((q_b_n_room7 (⟨(at_ : Int), (s : Int)⟩ : Gate)).getD 0) - 1 : Int)) (⟨(s : Int), (at_ : Int)⟩ : Gate)).getD 0) (b := 1) (r := (((updF q_b_n_room7 (⟨(at_ : Int), (s : Int)⟩ : Gate) (((q_b_n_room7 (⟨(at_ : Int), (s : Int)⟩ : Gate)).getD 0) - 1 : Int)) (⟨(s : Int), (at_ : Int)⟩ : Gate)).getD 0) + 1) rfl rfl rfl (by omega)) ?_
       refine t_l rfl ?_
       refine t_enst (i := 0) (kenc := encG) (venc := I) (f0 := updF q_b_n_room7 (⟨(at_ : Int), (s : Int)⟩ : Gate) (((q_b_n_room7 (⟨(at_ : Int), (s : Int)⟩ : Gate)).getD 0) - 1 : Int)) (k := (⟨(s : Int), (at_ : Int)⟩ : Gate)) (v := ((((updF q_b_n_room7 (⟨(at_ : Int), (s : Int)⟩ : Gate) (((q_b_n_room7 (⟨(at_ : Int), (s : Int)⟩ : Gate)).getD 0) - 1 : Int)) (⟨(s : Int), (at_ : Int)⟩ : Gate)).getD 0) + 1 : Int)) (L' := [cMap encG I b_n_room (updF (updF q_b_n_room7 (⟨(at_ : Int), (s : Int)⟩ : Gate) (((q_b_n_room7 (⟨(at_ : Int), (s : Int)⟩ : Gate)).getD 0) - 1 : Int)) (⟨(s : Int), (at_ : Int)⟩ : Gate) ((((updF q_b_n_room7 (⟨(at_ : Int), (s : Int)⟩ : Gate) (((q_b_n_room7 (⟨(at_ : Int), (s : Int)⟩ : Gate)).getD 0) - 1 : Int)) (⟨(s : Int), (at_ : Int)⟩ : Gate)).getD 0) + 1 : Int)), cMap I B b_n_met q_b_n_met8]) H rfl rfl rfl rfl rfl ?_
       intro w57z H
       refine s_nil ⟨(H.pick [1] (by decide) rfl), ?_⟩
       refine t_nil ?_
       refine sQ rfl <| sA (B true) rfl <| s_nil ?_
       refine W.ret ?_
       have hX58z := M.e_inr hM hN15z
       subst hX58z
       replace hM := hk8z
       try dsimp only at hM
       have hr_ := M.e_pure hM
       exact ⟨_, resE_tmp rfl, ⟨true, (updF (updF q_b_n_room7 (⟨(at_ : Int), (s : Int)⟩ : Gate) (((q_b_n_room7 (⟨(at_ : Int), (s : Int)⟩ : Gate)).getD 0) - 1 : Int)) (⟨(s : Int), (at_ : Int)⟩ : Gate) ((((updF q_b_n_room7 (⟨(at_ : Int), (s : Int)⟩ : Gate) (((q_b_n_room7 (⟨(at_ : Int), (s : Int)⟩ : Gate)).getD 0) - 1 : Int)) (⟨(s : Int), (at_ : Int)⟩ : Gate)).getD 0) + 1 : Int)), q_b_n_met8, hr_, rfl, H⟩⟩
      replace hM := M.e_f hM c21z
      refine W.skip <| W.region rfl ?_
      obtain ⟨sd59z, hM⟩ := M.e_gd hM
      refine sR (s : Int) 1 ((s : Int) + 1) rfl rfl rfl (by omega) <| sM (I ((s : Int) + 1)) rfl <| s_nil ?_
      exact ⟨m12z, lt13z, q_b_n_room7, q_b_n_met8, s + 1, _, upds_of _ _ ⟨rfl, rfl, rfl, rfl, trivial⟩, M.e_inl hM hN15z, H⟩
     replace hM := M.e_f hM hg_
     refine s_val (x_pand (b := ((decide (0 < ((mp (⟨(at_ : Int), (s : Int)⟩ : Gate)).getD 0))) && (!((mp2 (s : Int)).getD false)))) (r := false) rfl (fun hb => gd_of (c := ((decide (0 < ((mp (⟨(at_ : Int), (s : Int)⟩ : Gate)).getD 0))) && (!((mp2 (s : Int)).getD false)))) (by first | exact hb | (rw [hb]; rfl) | simp_all) (B false)) rfl) <| s_nil ?_
     refine W.cond (((decide (0 < ((mp (⟨(at_ : Int), (s : Int)⟩ : Gate)).getD 0))) && (!((mp2 (s : Int)).getD false))) && false) rfl (fun c60z => ?_) (fun c60z => ?_)
     ·replace hM := M.e_t hM c60z
      refine W.seq ?_
      refine W.drawT (fun W => St w W [cMap I B b_n_met mp2] R) (.q 0 (.q 1 (.q 2 (.q 3 (.q 4 (.q 5 (.q 6 (.l2 7 (.q 8 (.l 9 (.q 10 (.l 11 .nil)))) 9 (.q 10 (.l 7 (.q 8 (.l 11 .nil)))))))))))) mixed (by decide +kernel) rfl ?_
      intro w61z hx_
      replace H : St w w61z [cMap encG I b_n_room mp, cMap I B b_n_met mp2] R := H.ext hx_
      clear hx_
      refine ⟨(H.pick [1] (by decide) rfl), ?_⟩
      refine t_q rfl (fun w' H => x_mv (v := Pz b_n) rfl) ?_
      refine t_q rfl (fun w' H => x_nc (a := ⟨b_n, 0, none⟩) rfl) ?_
      refine t_q rfl (fun w' H => x_fa (a := Pz b_n) (v := Oz b_n 3) rfl (fa_blk (o := 0) Fd180_3 Sz177)) ?_
      refine t_q rfl (fun w' H => x_ld (p := Oz b_n 3) (v := .map (some b_n_room)) rfl (ldb_sc Sc177 (h_b_n.blk H) rfl)) ?_
      refine t_q rfl (fun w' H => x_mv (v := I at_) rfl) ?_
      refine t_q rfl (fun w' H => x_mv (v := I (s : Int)) rfl) ?_
      refine t_q rfl (fun w' H => x_bld (ps := [(0, I at_), (1, I (s : Int))]) (zs := [I 0, I 0]) (L' := [I at_, I (s : Int)]) rfl Try.underlying182 Al182 rfl (Bd182 Try.underlying182) (.cons (cs := [I at_]) rfl rfl rfl rfl rfl <| .cons (cs := [I (s : Int)]) rfl rfl rfl rfl rfl <| .nil)) ?_
      obtain ⟨sd62z, hM⟩ := M.e_gd hM
      refine t_l2 rfl rfl ?_ ?_
      ·skip
       refine s_val (q_look (kenc := encG) (venc := I) (f := mp) (k := (⟨(at_ : Int), (s : Int)⟩ : Gate)) (v := I ((mp (⟨(at_ : Int), (s : Int)⟩ : Gate)).getD 0)) keyGate Try.underlying177 Al3 rfl rfl (H.get (k := 0) rfl) false (by rw [if_neg (by decide), int_val])) ?_
       refine s_nil ⟨(H.pick [1] (by decide) rfl), ?_⟩
       refine t_q rfl (fun w' H => x_ari (a := (mp (⟨(at_ : Int), (s : Int)⟩ : Gate)).getD 0) (b := 1) (r := ((mp (⟨(at_ : Int), (s : Int)⟩ : Gate)).getD 0) - 1) rfl rfl rfl (by omega)) ?_
       refine t_l rfl ?_
       refine t_ment (i := 0) (kenc := encG) (venc := I) (f := mp) (k := (⟨(at_ : Int), (s : Int)⟩ : Gate)) (z := 0) keyGate Try.underlying177 Al3 H rfl rfl rfl ?_
       intro st67z w66z H
       replace H : St w w66z [cEnt encG I b_n_room (updF mp (⟨(at_ : Int), (s : Int)⟩ : Gate) ((mp (⟨(at_ : Int), (s : Int)⟩ : Gate)).getD 0)) (⟨(at_ : Int), (s : Int)⟩ : Gate) st67z, cMap I B b_n_met mp2] R := H
       refine s_nil ⟨(H.pick [1] (by decide) rfl), ?_⟩
       refine t_q rfl (fun w' H => x_ext (vs := [I ((mp (⟨(at_ : Int), (s : Int)⟩ : Gate)).getD 0), .int .i64 st67z]) (v := .int .i64 st67z) rfl rfl) ?_
       refine t_l rfl ?_
       refine t_enst (i := 0) (kenc := encG) (venc := I) (f0 := mp) (k := (⟨(at_ : Int), (s : Int)⟩ : Gate)) (v := (((mp (⟨(at_ : Int), (s : Int)⟩ : Gate)).getD 0) - 1 : Int)) (L' := [cMap encG I b_n_room (updF mp (⟨(at_ : Int), (s : Int)⟩ : Gate) (((mp (⟨(at_ : Int), (s : Int)⟩ : Gate)).getD 0) - 1 : Int)), cMap I B b_n_met mp2]) H rfl rfl rfl rfl rfl ?_
       intro w68z H
       refine s_nil ⟨(H.pick [1] (by decide) rfl), ?_⟩
       refine t_nil ?_
       refine W.seq ?_
       refine W.drawT (fun W => St w W [cMap I B b_n_met mp2] R) (.q 0 (.q 1 (.q 2 (.q 3 (.q 4 (.q 5 (.q 6 (.l2 7 (.q 8 (.l 9 (.q 10 (.l 11 .nil)))) 9 (.q 10 (.l 7 (.q 8 (.l 11 .nil)))))))))))) mixed (by decide +kernel) rfl ?_
       intro w69z hx_
       replace H : St w w69z [cMap encG I b_n_room (updF mp (⟨(at_ : Int), (s : Int)⟩ : Gate) (((mp (⟨(at_ : Int), (s : Int)⟩ : Gate)).getD 0) - 1 : Int)), cMap I B b_n_met mp2] R := H.ext hx_
       clear hx_
       refine ⟨(H.pick [1] (by decide) rfl), ?_⟩
       refine t_q rfl (fun w' H => x_mv (v := Pz b_n) rfl) ?_
       refine t_q rfl (fun w' H => x_nc (a := ⟨b_n, 0, none⟩) rfl) ?_
       refine t_q rfl (fun w' H => x_fa (a := Pz b_n) (v := Oz b_n 3) rfl (fa_blk (o := 0) Fd180_3 Sz177)) ?_
       refine t_q rfl (fun w' H => x_ld (p := Oz b_n 3) (v := .map (some b_n_room)) rfl (ldb_sc Sc177 (h_b_n.blk H) rfl)) ?_
       refine t_q rfl (fun w' H => x_mv (v := I (s : Int)) rfl) ?_
       refine t_q rfl (fun w' H => x_mv (v := I at_) rfl) ?_
       refine t_q rfl (fun w' H => x_bld (ps := [(0, I (s : Int)), (1, I at_)]) (zs := [I 0, I 0]) (L' := [I (s : Int), I at_]) rfl Try.underlying182 Al182 rfl (Bd182 Try.underlying182) (.cons (cs := [I (s : Int)]) rfl rfl rfl rfl rfl <| .cons (cs := [I at_]) rfl rfl rfl rfl rfl <| .nil)) ?_
       obtain ⟨sd70z, hM⟩ := M.e_gd hM
       refine t_l2 rfl rfl ?_ ?_
       ·skip
        refine s_val (q_look (kenc := encG) (venc := I) (f := updF mp (⟨(at_ : Int), (s : Int)⟩ : Gate) (((mp (⟨(at_ : Int), (s : Int)⟩ : Gate)).getD 0) - 1 : Int)) (k := (⟨(s : Int), (at_ : Int)⟩ : Gate)) (v := I (((updF mp (⟨(at_ : Int), (s : Int)⟩ : Gate) (((mp (⟨(at_ : Int), (s : Int)⟩ : Gate)).getD 0) - 1 : Int)) (⟨(s : Int), (at_ : Int)⟩ : Gate)).getD 0)) keyGate Try.underlying177 Al3 rfl rfl (H.get (k := 0) rfl) false (by rw [if_neg (by decide), int_val])) ?_
        refine s_nil ⟨(H.pick [1] (by decide) rfl), ?_⟩
        refine t_q rfl (fun w' H => x_ari (a := ((updF mp (⟨(at_ : Int), (s : Int)⟩ : Gate) (((mp (⟨(at_ : Int), (s : Int)⟩ : Gate)).getD 0) - 1 : Int)) (⟨(s : Int), (at_ : Int)⟩ : Gate)).getD 0) (b := 1) (r := (((updF mp (⟨(at_ : Int), (s : Int)⟩ : Gate) (((mp (⟨(at_ : Int), (s : Int)⟩ : Gate)).getD 0) - 1 : Int)) (⟨(s : Int), (at_ : Int)⟩ : Gate)).getD 0) + 1) rfl rfl rfl (by omega)) ?_
        refine t_l rfl ?_
        refine t_ment (i := 0) (kenc := encG) (venc := I) (f := updF mp (⟨(at_ : Int), (s : Int)⟩ : Gate) (((mp (⟨(at_ : Int), (s : Int)⟩ : Gate)).getD 0) - 1 : Int)) (k := (⟨(s : Int), (at_ : Int)⟩ : Gate)) (z := 0) keyGate Try.underlying177 Al3 H rfl rfl rfl ?_
        intro st75z w74z H
        replace H : St w w74z [cEnt encG I b_n_room (updF (updF mp (⟨(at_ : Int), (s : Int)⟩ : Gate) (((mp (⟨(at_ : Int), (s : Int)⟩ : Gate)).getD 0) - 1 : Int)) (⟨(s : Int), (at_ : Int)⟩ : Gate) (((updF mp (⟨(at_ : Int), (s : Int)⟩ : Gate) (((mp (⟨(at_ : Int), (s : Int)⟩ : Gate)).getD 0) - 1 : Int)) (⟨(s : Int), (at_ : Int)⟩ : Gate)).getD 0)) (⟨(s : Int), (at_ : Int)⟩ : Gate) st75z, cMap I B b_n_met mp2] R := H
        refine s_nil ⟨(H.pick [1] (by decide) rfl), ?_⟩
        refine t_q rfl (fun w' H => x_ext (vs := [I (((updF mp (⟨(at_ : Int), (s : Int)⟩ : Gate) (((mp (⟨(at_ : Int), (s : Int)⟩ : Gate)).getD 0) - 1 : Int)) (⟨(s : Int), (at_ : Int)⟩ : Gate)).getD 0), .int .i64 st75z]) (v := .int .i64 st75z) rfl rfl) ?_
        refine t_l rfl ?_
        refine t_enst (i := 0) (kenc := encG) (venc := I) (f0 := updF mp (⟨(at_ : Int), (s : Int)⟩ : Gate) (((mp (⟨(at_ : Int), (s : Int)⟩ : Gate)).getD 0) - 1 : Int)) (k := (⟨(s : Int), (at_ : Int)⟩ : Gate)) (v := ((((updF mp (⟨(at_ : Int), (s : Int)⟩ : Gate) (((mp (⟨(at_ : Int), (s : Int)⟩ : Gate)).getD 0) - 1 : Int)) (⟨(s : Int), (at_ : Int)⟩ : Gate)).getD 0) + 1 : Int)) (L' := [cMap encG I b_n_room (updF (updF mp (⟨(at_ : Int), (s : Int)⟩ : Gate) (((mp (⟨(at_ : Int), (s : Int)⟩ : Gate)).getD 0) - 1 : Int)) (⟨(s : Int), (at_ : Int)⟩ : Gate) ((((updF mp (⟨(at_ : Int), (s : Int)⟩ : Gate) (((mp (⟨(at_ : Int), (s : Int)⟩ : Gate)).getD 0) - 1 : Int)) (⟨(s : Int), (at_ : Int)⟩ : Gate)).getD 0) + 1 : Int)), cMap I B b_n_met mp2]) H rfl rfl rfl rfl rfl ?_
        intro w76z H
        refine s_nil ⟨(H.pick [1] (by decide) rfl), ?_⟩
        refine t_nil ?_
        refine sQ rfl <| sA (B true) rfl <| s_nil ?_
        refine W.ret ?_
        have hX77z := M.e_inr hM hN15z
        subst hX77z
        replace hM := hk8z
        try dsimp only at hM
        have hr_ := M.e_pure hM
        exact ⟨_, resE_tmp rfl, ⟨true, (updF (updF mp (⟨(at_ : Int), (s : Int)⟩ : Gate) (((mp (⟨(at_ : Int), (s : Int)⟩ : Gate)).getD 0) - 1 : Int)) (⟨(s : Int), (at_ : Int)⟩ : Gate) ((((updF mp (⟨(at_ : Int), (s : Int)⟩ : Gate) (((mp (⟨(at_ : Int), (s : Int)⟩ : Gate)).getD 0) - 1 : Int)) (⟨(s : Int), (at_ : Int)⟩ : Gate)).getD 0) + 1 : Int)), mp2, hr_, rfl, H⟩⟩
       skip
       refine t_ment (i := 0) (kenc := encG) (venc := I) (f := updF mp (⟨(at_ : Int), (s : Int)⟩ : Gate) (((mp (⟨(at_ : Int), (s : Int)⟩ : Gate)).getD 0) - 1 : Int)) (k := (⟨(s : Int), (at_ : Int)⟩ : Gate)) (z := 0) keyGate Try.underlying177 Al3 H rfl rfl rfl ?_
       intro st79z w78z H
       replace H : St w w78z [cEnt encG I b_n_room (updF (updF mp (⟨(at_ : Int), (s : Int)⟩ : Gate) (((mp (⟨(at_ : Int), (s : Int)⟩ : Gate)).getD 0) - 1 : Int)) (⟨(s : Int), (at_ : Int)⟩ : Gate) (((updF mp (⟨(at_ : Int), (s : Int)⟩ : Gate) (((mp (⟨(at_ : Int), (s : Int)⟩ : Gate)).getD 0) - 1 : Int)) (⟨(s : Int), (at_ : Int)⟩ : Gate)).getD 0)) (⟨(s : Int), (at_ : Int)⟩ : Gate) st79z, cMap I B b_n_met mp2] R := H
       refine s_nil ⟨(H.pick [1] (by decide) rfl), ?_⟩
       refine t_q rfl (fun w' H => x_ext (vs := [I (((updF mp (⟨(at_ : Int), (s : Int)⟩ : Gate) (((mp (⟨(at_ : Int), (s : Int)⟩ : Gate)).getD 0) - 1 : Int)) (⟨(s : Int), (at_ : Int)⟩ : Gate)).getD 0), .int .i64 st79z]) (v := .int .i64 st79z) rfl rfl) ?_
       refine t_l rfl ?_
       refine s_val (q_look (kenc := encG) (venc := I) (f := updF (updF mp (⟨(at_ : Int), (s : Int)⟩ : Gate) (((mp (⟨(at_ : Int), (s : Int)⟩ : Gate)).getD 0) - 1 : Int)) (⟨(s : Int), (at_ : Int)⟩ : Gate) (((updF mp (⟨(at_ : Int), (s : Int)⟩ : Gate) (((mp (⟨(at_ : Int), (s : Int)⟩ : Gate)).getD 0) - 1 : Int)) (⟨(s : Int), (at_ : Int)⟩ : Gate)).getD 0)) (k := (⟨(s : Int), (at_ : Int)⟩ : Gate)) (v := I (((updF mp (⟨(at_ : Int), (s : Int)⟩ : Gate) (((mp (⟨(at_ : Int), (s : Int)⟩ : Gate)).getD 0) - 1 : Int)) (⟨(s : Int), (at_ : Int)⟩ : Gate)).getD 0)) keyGate Try.underlying177 Al3 rfl rfl (entMap (H.get (k := 0) rfl)) false (by rw [if_neg (by decide), int_val, updF_same])) ?_
       refine s_nil ⟨(H.pick [1] (by decide) rfl), ?_⟩
       refine t_q rfl (fun w' H => x_ari (a := ((updF mp (⟨(at_ : Int), (s : Int)⟩ : Gate) (((mp (⟨(at_ : Int), (s : Int)⟩ : Gate)).getD 0) - 1 : Int)) (⟨(s : Int), (at_ : Int)⟩ : Gate)).getD 0) (b := 1) (r := (((updF mp (⟨(at_ : Int), (s : Int)⟩ : Gate) (((mp (⟨(at_ : Int), (s : Int)⟩ : Gate)).getD 0) - 1 : Int)) (⟨(s : Int), (at_ : Int)⟩ : Gate)).getD 0) + 1) rfl rfl rfl (by omega)) ?_
       refine t_l rfl ?_
       refine t_enst (i := 0) (kenc := encG) (venc := I) (f0 := updF mp (⟨(at_ : Int), (s : Int)⟩ : Gate) (((mp (⟨(at_ : Int), (s : Int)⟩ : Gate)).getD 0) - 1 : Int)) (k := (⟨(s : Int), (at_ : Int)⟩ : Gate)) (v := ((((updF mp (⟨(at_ : Int), (s : Int)⟩ : Gate) (((mp (⟨(at_ : Int), (s : Int)⟩ : Gate)).getD 0) - 1 : Int)) (⟨(s : Int), (at_ : Int)⟩ : Gate)).getD 0) + 1 : Int)) (L' := [cMap encG I b_n_room (updF (updF mp (⟨(at_ : Int), (s : Int)⟩ : Gate) (((mp (⟨(at_ : Int), (s : Int)⟩ : Gate)).getD 0) - 1 : Int)) (⟨(s : Int), (at_ : Int)⟩ : Gate) ((((updF mp (⟨(at_ : Int), (s : Int)⟩ : Gate) (((mp (⟨(at_ : Int), (s : Int)⟩ : Gate)).getD 0) - 1 : Int)) (⟨(s : Int), (at_ : Int)⟩ : Gate)).getD 0) + 1 : Int)), cMap I B b_n_met mp2]) H rfl rfl rfl rfl rfl ?_
       intro w80z H
       refine s_nil ⟨(H.pick [1] (by decide) rfl), ?_⟩
       refine t_nil ?_
       refine sQ rfl <| sA (B true) rfl <| s_nil ?_
       refine W.ret ?_
       have hX81z := M.e_inr hM hN15z
       subst hX81z
       replace hM := hk8z
       try dsimp only at hM
       have hr_ := M.e_pure hM
       exact ⟨_, resE_tmp rfl, ⟨true, (updF (updF mp (⟨(at_ : Int), (s : Int)⟩ : Gate) (((mp (⟨(at_ : Int), (s : Int)⟩ : Gate)).getD 0) - 1 : Int)) (⟨(s : Int), (at_ : Int)⟩ : Gate) ((((updF mp (⟨(at_ : Int), (s : Int)⟩ : Gate) (((mp (⟨(at_ : Int), (s : Int)⟩ : Gate)).getD 0) - 1 : Int)) (⟨(s : Int), (at_ : Int)⟩ : Gate)).getD 0) + 1 : Int)), mp2, hr_, rfl, H⟩⟩
      skip
      refine t_ment (i := 0) (kenc := encG) (venc := I) (f := mp) (k := (⟨(at_ : Int), (s : Int)⟩ : Gate)) (z := 0) keyGate Try.underlying177 Al3 H rfl rfl rfl ?_
      intro st83z w82z H
      replace H : St w w82z [cEnt encG I b_n_room (updF mp (⟨(at_ : Int), (s : Int)⟩ : Gate) ((mp (⟨(at_ : Int), (s : Int)⟩ : Gate)).getD 0)) (⟨(at_ : Int), (s : Int)⟩ : Gate) st83z, cMap I B b_n_met mp2] R := H
      refine s_nil ⟨(H.pick [1] (by decide) rfl), ?_⟩
      refine t_q rfl (fun w' H => x_ext (vs := [I ((mp (⟨(at_ : Int), (s : Int)⟩ : Gate)).getD 0), .int .i64 st83z]) (v := .int .i64 st83z) rfl rfl) ?_
      refine t_l rfl ?_
      refine s_val (q_look (kenc := encG) (venc := I) (f := updF mp (⟨(at_ : Int), (s : Int)⟩ : Gate) ((mp (⟨(at_ : Int), (s : Int)⟩ : Gate)).getD 0)) (k := (⟨(at_ : Int), (s : Int)⟩ : Gate)) (v := I ((mp (⟨(at_ : Int), (s : Int)⟩ : Gate)).getD 0)) keyGate Try.underlying177 Al3 rfl rfl (entMap (H.get (k := 0) rfl)) false (by rw [if_neg (by decide), int_val, updF_same])) ?_
      refine s_nil ⟨(H.pick [1] (by decide) rfl), ?_⟩
      refine t_q rfl (fun w' H => x_ari (a := (mp (⟨(at_ : Int), (s : Int)⟩ : Gate)).getD 0) (b := 1) (r := ((mp (⟨(at_ : Int), (s : Int)⟩ : Gate)).getD 0) - 1) rfl rfl rfl (by omega)) ?_
      refine t_l rfl ?_
      refine t_enst (i := 0) (kenc := encG) (venc := I) (f0 := mp) (k := (⟨(at_ : Int), (s : Int)⟩ : Gate)) (v := (((mp (⟨(at_ : Int), (s : Int)⟩ : Gate)).getD 0) - 1 : Int)) (L' := [cMap encG I b_n_room (updF mp (⟨(at_ : Int), (s : Int)⟩ : Gate) (((mp (⟨(at_ : Int), (s : Int)⟩ : Gate)).getD 0) - 1 : Int)), cMap I B b_n_met mp2]) H rfl rfl rfl rfl rfl ?_
      intro w84z H
      refine s_nil ⟨(H.pick [1] (by decide) rfl), ?_⟩
      refine t_nil ?_
      refine W.seq ?_
      refine W.drawT (fun W => St w W [cMap I B b_n_met mp2] R) (.q 0 (.q 1 (.q 2 (.q 3 (.q 4 (.q 5 (.q 6 (.l2 7 (.q 8 (.l 9 (.q 10 (.l 11 .nil)))) 9 (.q 10 (.l 7 (.q 8 (.l 11 .nil)))))))))))) mixed (by decide +kernel) rfl ?_
      intro w85z hx_
      replace H : St w w85z [cMap encG I b_n_room (updF mp (⟨(at_ : Int), (s : Int)⟩ : Gate) (((mp (⟨(at_ : Int), (s : Int)⟩ : Gate)).getD 0) - 1 : Int)), cMap I B b_n_met mp2] R := H.ext hx_
      clear hx_
      refine ⟨(H.pick [1] (by decide) rfl), ?_⟩
      refine t_q rfl (fun w' H => x_mv (v := Pz b_n) rfl) ?_
      refine t_q rfl (fun w' H => x_nc (a := ⟨b_n, 0, none⟩) rfl) ?_
      refine t_q rfl (fun w' H => x_fa (a := Pz b_n) (v := Oz b_n 3) rfl (fa_blk (o := 0) Fd180_3 Sz177)) ?_
      refine t_q rfl (fun w' H => x_ld (p := Oz b_n 3) (v := .map (some b_n_room)) rfl (ldb_sc Sc177 (h_b_n.blk H) rfl)) ?_
      refine t_q rfl (fun w' H => x_mv (v := I (s : Int)) rfl) ?_
      refine t_q rfl (fun w' H => x_mv (v := I at_) rfl) ?_
      refine t_q rfl (fun w' H => x_bld (ps := [(0, I (s : Int)), (1, I at_)]) (zs := [I 0, I 0]) (L' := [I (s : Int), I at_]) rfl Try.underlying182 Al182 rfl (Bd182 Try.underlying182) (.cons (cs := [I (s : Int)]) rfl rfl rfl rfl rfl <| .cons (cs := [I at_]) rfl rfl rfl rfl rfl <| .nil)) ?_
      obtain ⟨sd86z, hM⟩ := M.e_gd hM
      refine t_l2 rfl rfl ?_ ?_
      ·skip
       refine s_val (q_look (kenc := encG) (venc := I) (f := updF mp (⟨(at_ : Int), (s : Int)⟩ : Gate) (((mp (⟨(at_ : Int), (s : Int)⟩ : Gate)).getD 0) - 1 : Int)) (k := (⟨(s : Int), (at_ : Int)⟩ : Gate)) (v := I (((updF mp (⟨(at_ : Int), (s : Int)⟩ : Gate) (((mp (⟨(at_ : Int), (s : Int)⟩ : Gate)).getD 0) - 1 : Int)) (⟨(s : Int), (at_ : Int)⟩ : Gate)).getD 0)) keyGate Try.underlying177 Al3 rfl rfl (H.get (k := 0) rfl) false (by rw [if_neg (by decide), int_val])) ?_
       refine s_nil ⟨(H.pick [1] (by decide) rfl), ?_⟩
       refine t_q rfl (fun w' H => x_ari (a := ((updF mp (⟨(at_ : Int), (s : Int)⟩ : Gate) (((mp (⟨(at_ : Int), (s : Int)⟩ : Gate)).getD 0) - 1 : Int)) (⟨(s : Int), (at_ : Int)⟩ : Gate)).getD 0) (b := 1) (r := (((updF mp (⟨(at_ : Int), (s : Int)⟩ : Gate) (((mp (⟨(at_ : Int), (s : Int)⟩ : Gate)).getD 0) - 1 : Int)) (⟨(s : Int), (at_ : Int)⟩ : Gate)).getD 0) + 1) rfl rfl rfl (by omega)) ?_
       refine t_l rfl ?_
       refine t_ment (i := 0) (kenc := encG) (venc := I) (f := updF mp (⟨(at_ : Int), (s : Int)⟩ : Gate) (((mp (⟨(at_ : Int), (s : Int)⟩ : Gate)).getD 0) - 1 : Int)) (k := (⟨(s : Int), (at_ : Int)⟩ : Gate)) (z := 0) keyGate Try.underlying177 Al3 H rfl rfl rfl ?_
       intro st91z w90z H
       replace H : St w w90z [cEnt encG I b_n_room (updF (updF mp (⟨(at_ : Int), (s : Int)⟩ : Gate) (((mp (⟨(at_ : Int), (s : Int)⟩ : Gate)).getD 0) - 1 : Int)) (⟨(s : Int), (at_ : Int)⟩ : Gate) (((updF mp (⟨(at_ : Int), (s : Int)⟩ : Gate) (((mp (⟨(at_ : Int), (s : Int)⟩ : Gate)).getD 0) - 1 : Int)) (⟨(s : Int), (at_ : Int)⟩ : Gate)).getD 0)) (⟨(s : Int), (at_ : Int)⟩ : Gate) st91z, cMap I B b_n_met mp2] R := H
       refine s_nil ⟨(H.pick [1] (by decide) rfl), ?_⟩
       refine t_q rfl (fun w' H => x_ext (vs := [I (((updF mp (⟨(at_ : Int), (s : Int)⟩ : Gate) (((mp (⟨(at_ : Int), (s : Int)⟩ : Gate)).getD 0) - 1 : Int)) (⟨(s : Int), (at_ : Int)⟩ : Gate)).getD 0), .int .i64 st91z]) (v := .int .i64 st91z) rfl rfl) ?_
       refine t_l rfl ?_
       refine t_enst (i := 0) (kenc := encG) (venc := I) (f0 := updF mp (⟨(at_ : Int), (s : Int)⟩ : Gate) (((mp (⟨(at_ : Int), (s : Int)⟩ : Gate)).getD 0) - 1 : Int)) (k := (⟨(s : Int), (at_ : Int)⟩ : Gate)) (v := ((((updF mp (⟨(at_ : Int), (s : Int)⟩ : Gate) (((mp (⟨(at_ : Int), (s : Int)⟩ : Gate)).getD 0) - 1 : Int)) (⟨(s : Int), (at_ : Int)⟩ : Gate)).getD 0) + 1 : Int)) (L' := [cMap encG I b_n_room (updF (updF mp (⟨(at_ : Int), (s : Int)⟩ : Gate) (((mp (⟨(at_ : Int), (s : Int)⟩ : Gate)).getD 0) - 1 : Int)) (⟨(s : Int), (at_ : Int)⟩ : Gate) ((((updF mp (⟨(at_ : Int), (s : Int)⟩ : Gate) (((mp (⟨(at_ : Int), (s : Int)⟩ : Gate)).getD 0) - 1 : Int)) (⟨(s : Int), (at_ : Int)⟩ : Gate)).getD 0) + 1 : Int)), cMap I B b_n_met mp2]) H rfl rfl rfl rfl rfl ?_
       intro w92z H
       refine s_nil ⟨(H.pick [1] (by decide) rfl), ?_⟩
       refine t_nil ?_
       refine sQ rfl <| sA (B true) rfl <| s_nil ?_
       refine W.ret ?_
       have hX93z := M.e_inr hM hN15z
       subst hX93z
       replace hM := hk8z
       try dsimp only at hM
       have hr_ := M.e_pure hM
       exact ⟨_, resE_tmp rfl, ⟨true, (updF (updF mp (⟨(at_ : Int), (s : Int)⟩ : Gate) (((mp (⟨(at_ : Int), (s : Int)⟩ : Gate)).getD 0) - 1 : Int)) (⟨(s : Int), (at_ : Int)⟩ : Gate) ((((updF mp (⟨(at_ : Int), (s : Int)⟩ : Gate) (((mp (⟨(at_ : Int), (s : Int)⟩ : Gate)).getD 0) - 1 : Int)) (⟨(s : Int), (at_ : Int)⟩ : Gate)).getD 0) + 1 : Int)), mp2, hr_, rfl, H⟩⟩
      skip
      refine t_ment (i := 0) (kenc := encG) (venc := I) (f := updF mp (⟨(at_ : Int), (s : Int)⟩ : Gate) (((mp (⟨(at_ : Int), (s : Int)⟩ : Gate)).getD 0) - 1 : Int)) (k := (⟨(s : Int), (at_ : Int)⟩ : Gate)) (z := 0) keyGate Try.underlying177 Al3 H rfl rfl rfl ?_
      intro st95z w94z H
      replace H : St w w94z [cEnt encG I b_n_room (updF (updF mp (⟨(at_ : Int), (s : Int)⟩ : Gate) (((mp (⟨(at_ : Int), (s : Int)⟩ : Gate)).getD 0) - 1 : Int)) (⟨(s : Int), (at_ : Int)⟩ : Gate) (((updF mp (⟨(at_ : Int), (s : Int)⟩ : Gate) (((mp (⟨(at_ : Int), (s : Int)⟩ : Gate)).getD 0) - 1 : Int)) (⟨(s : Int), (at_ : Int)⟩ : Gate)).getD 0)) (⟨(s : Int), (at_ : Int)⟩ : Gate) st95z, cMap I B b_n_met mp2] R := H
      refine s_nil ⟨(H.pick [1] (by decide) rfl), ?_⟩
      refine t_q rfl (fun w' H => x_ext (vs := [I (((updF mp (⟨(at_ : Int), (s : Int)⟩ : Gate) (((mp (⟨(at_ : Int), (s : Int)⟩ : Gate)).getD 0) - 1 : Int)) (⟨(s : Int), (at_ : Int)⟩ : Gate)).getD 0), .int .i64 st95z]) (v := .int .i64 st95z) rfl rfl) ?_
      refine t_l rfl ?_
      refine s_val (q_look (kenc := encG) (venc := I) (f := updF (updF mp (⟨(at_ : Int), (s : Int)⟩ : Gate) (((mp (⟨(at_ : Int), (s : Int)⟩ : Gate)).getD 0) - 1 : Int)) (⟨(s : Int), (at_ : Int)⟩ : Gate) (((updF mp (⟨(at_ : Int), (s : Int)⟩ : Gate) (((mp (⟨(at_ : Int), (s : Int)⟩ : Gate)).getD 0) - 1 : Int)) (⟨(s : Int), (at_ : Int)⟩ : Gate)).getD 0)) (k := (⟨(s : Int), (at_ : Int)⟩ : Gate)) (v := I (((updF mp (⟨(at_ : Int), (s : Int)⟩ : Gate) (((mp (⟨(at_ : Int), (s : Int)⟩ : Gate)).getD 0) - 1 : Int)) (⟨(s : Int), (at_ : Int)⟩ : Gate)).getD 0)) keyGate Try.underlying177 Al3 rfl rfl (entMap (H.get (k := 0) rfl)) false (by rw [if_neg (by decide), int_val, updF_same])) ?_
      refine s_nil ⟨(H.pick [1] (by decide) rfl), ?_⟩
      refine t_q rfl (fun w' H => x_ari (a := ((updF mp (⟨(at_ : Int), (s : Int)⟩ : Gate) (((mp (⟨(at_ : Int), (s : Int)⟩ : Gate)).getD 0) - 1 : Int)) (⟨(s : Int), (at_ : Int)⟩ : Gate)).getD 0) (b := 1) (r := (((updF mp (⟨(at_ : Int), (s : Int)⟩ : Gate) (((mp (⟨(at_ : Int), (s : Int)⟩ : Gate)).getD 0) - 1 : Int)) (⟨(s : Int), (at_ : Int)⟩ : Gate)).getD 0) + 1) rfl rfl rfl (by omega)) ?_
      refine t_l rfl ?_
      refine t_enst (i := 0) (kenc := encG) (venc := I) (f0 := updF mp (⟨(at_ : Int), (s : Int)⟩ : Gate) (((mp (⟨(at_ : Int), (s : Int)⟩ : Gate)).getD 0) - 1 : Int)) (k := (⟨(s : Int), (at_ : Int)⟩ : Gate)) (v := ((((updF mp (⟨(at_ : Int), (s : Int)⟩ : Gate) (((mp (⟨(at_ : Int), (s : Int)⟩ : Gate)).getD 0) - 1 : Int)) (⟨(s : Int), (at_ : Int)⟩ : Gate)).getD 0) + 1 : Int)) (L' := [cMap encG I b_n_room (updF (updF mp (⟨(at_ : Int), (s : Int)⟩ : Gate) (((mp (⟨(at_ : Int), (s : Int)⟩ : Gate)).getD 0) - 1 : Int)) (⟨(s : Int), (at_ : Int)⟩ : Gate) ((((updF mp (⟨(at_ : Int), (s : Int)⟩ : Gate) (((mp (⟨(at_ : Int), (s : Int)⟩ : Gate)).getD 0) - 1 : Int)) (⟨(s : Int), (at_ : Int)⟩ : Gate)).getD 0) + 1 : Int)), cMap I B b_n_met mp2]) H rfl rfl rfl rfl rfl ?_
      intro w96z H
      refine s_nil ⟨(H.pick [1] (by decide) rfl), ?_⟩
      refine t_nil ?_
      refine sQ rfl <| sA (B true) rfl <| s_nil ?_
      refine W.ret ?_
      have hX97z := M.e_inr hM hN15z
      subst hX97z
      replace hM := hk8z
      try dsimp only at hM
      have hr_ := M.e_pure hM
      exact ⟨_, resE_tmp rfl, ⟨true, (updF (updF mp (⟨(at_ : Int), (s : Int)⟩ : Gate) (((mp (⟨(at_ : Int), (s : Int)⟩ : Gate)).getD 0) - 1 : Int)) (⟨(s : Int), (at_ : Int)⟩ : Gate) ((((updF mp (⟨(at_ : Int), (s : Int)⟩ : Gate) (((mp (⟨(at_ : Int), (s : Int)⟩ : Gate)).getD 0) - 1 : Int)) (⟨(s : Int), (at_ : Int)⟩ : Gate)).getD 0) + 1 : Int)), mp2, hr_, rfl, H⟩⟩
     replace hM := M.e_f hM c60z
     refine W.skip <| W.region rfl ?_
     obtain ⟨sd98z, hM⟩ := M.e_gd hM
     refine sR (s : Int) 1 ((s : Int) + 1) rfl rfl rfl (by omega) <| sM (I ((s : Int) + 1)) rfl <| s_nil ?_
     exact ⟨m12z, lt13z, mp, mp2, s + 1, _, upds_of _ _ ⟨rfl, rfl, rfl, rfl, trivial⟩, M.e_inl hM hN15z, H⟩
    replace hM := M.e_f hM c16z
    simp only [qz1, qz2, qz3, qz4, qz5, qz6, ne_eq, qz7] at c16z
    refine W.exit ?_
    have hX99z := M.e_inr hM hN15z
    subst hX99z
    replace hM := hk8z
    try dsimp only at hM
    refine sQ rfl <| sA (B false) rfl <| s_nil ?_
    refine W.ret ?_
    have hr_ := M.e_pure hM
    exact ⟨_, resE_tmp rfl, ⟨false, mp, mp2, hr_, rfl, H⟩⟩
theorem notes_lanes_goes_ok {R : List Chunk} {b_n : Nat} {b_n_web : Nat} {C_n_web_list_works : Cells} {v_n_web_list_works : Value} {C_n_revised : Cells} {v_n_revised : Value} {b_n_room : Nat} {b_n_met : Nat} (n_web_list_works : List Work) (n_revised : List Int) (n_work : Int) (n_room : Gate → Option Int) (n_met : Int → Option Bool) (at_ : Int) (hC_n_web_list_works : Reads R C_n_web_list_works) (hs_n_web_list_works : Sl C_n_web_list_works v_n_web_list_works n_web_list_works) (h_b_n_web : Has R (cBlk b_n_web [v_n_web_list_works] 187)) (hC_n_revised : Reads R C_n_revised) (hs_n_revised : Sl C_n_revised v_n_revised n_revised) (h_b_n : Has R (cBlk b_n [Pz b_n_web, v_n_revised, I n_work, .map (some b_n_room), .map (some b_n_met)] 180)) {r : (Bool × (Gate → Option Int) × (Int → Option Bool))} (hM : (m_notes_lanes_goes n_web_list_works n_revised n_work n_room n_met at_).Ends r) (w : World) (H : St w w [cMap encG I b_n_room n_room, cMap I B b_n_met n_met] R) : Ret Try.prog 126 #[Pz b_n, I at_] w fun v w' => ∃ (y0 : Bool) (y1 : Gate → Option Int) (y2 : Int → Option Bool), (y0, y1, y2) = r ∧ v = B y0 ∧ St w w' [cMap encG I b_n_room y1, cMap I B b_n_met y2] R := by
  obtain ⟨n_, hM⟩ := M.e_fix hM
  exact notes_lanes_goes_okN n_ n_web_list_works n_revised n_work n_room n_met at_ hC_n_web_list_works hs_n_web_list_works h_b_n_web hC_n_revised hs_n_revised h_b_n hM w H

end Go.Proofs.Ytndobgodeicloaa
end
section
set_option maxRecDepth 100000
set_option maxHeartbeats 16000000
namespace Go.Proofs.Ytndobgodeicloaa
open Go Go.Nm
def m_notes_web_lanes_b2 (w__list_works : List Work) (revised : List Int) (work : Int) (s2 : Nat) : ((Gate → Option Int) × Nat) → M (((Gate → Option Int) × Nat) ⊕ (Gate → Option Int)) := fun (mp, s) =>
  bif decide ((s : Int) < (((w__list_works.getD s2 default).of).length : Int)) then (
  M.grd (decide ((s : Int) < (((w__list_works.getD s2 default).of).length : Int))) <|
  M.bind (M.opt (((((w__list_works.getD s2 default).of).getD s 0) != work) && !((s2 : Int) == work)) (m_notes_lanes_inner w__list_works revised work mp (fun _ => none) (s2 : Int)) false) fun r3 =>
  bif (((((w__list_works.getD s2 default).of).getD s 0) != work) && (((s2 : Int) == work) || r3)) then (
  M.grd (decide ((-9223372036854775808 : Int) ≤ (2 * (((w__list_works.getD s2 default).of).getD s 0))) && decide ((2 * (((w__list_works.getD s2 default).of).getD s 0)) ≤ (9223372036854775807 : Int))) <|
  M.grd (decide ((-9223372036854775808 : Int) ≤ ((2 * (((w__list_works.getD s2 default).of).getD s 0)) + 1)) && decide (((2 * (((w__list_works.getD s2 default).of).getD s 0)) + 1) ≤ (9223372036854775807 : Int))) <|
  M.grd (decide ((-9223372036854775808 : Int) ≤ (2 * (s2 : Int))) && decide ((2 * (s2 : Int)) ≤ (9223372036854775807 : Int))) <|
  M.pure (.inl (updF mp (⟨((2 * (((w__list_works.getD s2 default).of).getD s 0)) + 1 : Int), 2 * (s2 : Int)⟩ : Gate) (30 : Int), s + 1)))
  else (
  M.pure (.inl (mp, s + 1))))
  else (
  M.pure (.inr mp))
def m_notes_web_lanes_b3 (w__list_works : List Work) (revised : List Int) (work : Int) (s2 : Nat) : ((Gate → Option Int) × Nat) → M (((Gate → Option Int) × Nat) ⊕ (Gate → Option Int)) := fun (mp, s) =>
  bif decide ((s : Int) < (((w__list_works.getD s2 default).of).length : Int)) then (
  M.grd (decide ((s : Int) < (((w__list_works.getD s2 default).of).length : Int))) <|
  M.bind (M.opt (((((w__list_works.getD s2 default).of).getD s 0) != work) && !((s2 : Int) == work)) (m_notes_lanes_inner w__list_works revised work mp (fun _ => none) (s2 : Int)) false) fun r3 =>
  bif (((((w__list_works.getD s2 default).of).getD s 0) != work) && (((s2 : Int) == work) || r3)) then (
  M.grd (decide ((-9223372036854775808 : Int) ≤ (2 * (((w__list_works.getD s2 default).of).getD s 0))) && decide ((2 * (((w__list_works.getD s2 default).of).getD s 0)) ≤ (9223372036854775807 : Int))) <|
  M.grd (decide ((-9223372036854775808 : Int) ≤ ((2 * (((w__list_works.getD s2 default).of).getD s 0)) + 1)) && decide (((2 * (((w__list_works.getD s2 default).of).getD s 0)) + 1) ≤ (9223372036854775807 : Int))) <|
  M.grd (decide ((-9223372036854775808 : Int) ≤ (2 * (s2 : Int))) && decide ((2 * (s2 : Int)) ≤ (9223372036854775807 : Int))) <|
  M.pure (.inl (updF mp (⟨((2 * (((w__list_works.getD s2 default).of).getD s 0)) + 1 : Int), 2 * (s2 : Int)⟩ : Gate) (30 : Int), s + 1)))
  else (
  M.pure (.inl (mp, s + 1))))
  else (
  M.pure (.inr mp))
def m_notes_web_lanes_b4 (w__list_works : List Work) (revised : List Int) (work : Int) : ((Gate → Option Int) × Nat) → M (((Gate → Option Int) × Nat) ⊕ (Gate → Option Int)) := fun (mp3, s2) =>
  bif decide ((s2 : Int) < (w__list_works.length : Int)) then (
  M.grd (decide ((s2 : Int) < (w__list_works.length : Int))) <|
  M.bind (m_notes_lanes_inner w__list_works revised work mp3 (fun _ => none) (s2 : Int)) fun r2 =>
  bif r2 then (
  M.grd (decide ((-9223372036854775808 : Int) ≤ (2 * (s2 : Int))) && decide ((2 * (s2 : Int)) ≤ (9223372036854775807 : Int))) <|
  M.grd (decide ((-9223372036854775808 : Int) ≤ ((2 * (s2 : Int)) + 1)) && decide (((2 * (s2 : Int)) + 1) ≤ (9223372036854775807 : Int))) <|
  M.bind (M.iter (m_notes_web_lanes_b2 w__list_works revised work s2) (updF mp3 (⟨2 * (s2 : Int), ((2 * (s2 : Int)) + 1 : Int)⟩ : Gate) (1 : Int), 0)) fun mp2 =>
  M.pure (.inl (mp2, s2 + 1)))
  else (
  M.bind (M.iter (m_notes_web_lanes_b3 w__list_works revised work s2) (mp3, 0)) fun mp2 =>
  M.pure (.inl (mp2, s2 + 1))))
  else (
  M.pure (.inr mp3))
def m_notes_web_lanes_b6 (w__list_works : List Work) (revised : List Int) (work : Int) (s3 : Nat) : ((Gate → Option Int) × (Int → Option Bool)) → M (((Gate → Option Int) × (Int → Option Bool)) ⊕ ((Gate → Option Int) × (Int → Option Bool))) := fun (mp5, mp6) =>
  M.grd (decide ((-9223372036854775808 : Int) ≤ (2 * (revised.getD s3 0))) && decide ((2 * (revised.getD s3 0)) ≤ (9223372036854775807 : Int))) <|
  M.grd (decide ((-9223372036854775808 : Int) ≤ ((2 * (revised.getD s3 0)) + 1)) && decide (((2 * (revised.getD s3 0)) + 1) ≤ (9223372036854775807 : Int))) <|
  M.bind (m_notes_lanes_goes w__list_works revised work mp5 (fun _ => none) ((2 * (revised.getD s3 0)) + 1)) fun (r4, q_b_n_room, q_b_n_met) =>
  bif !r4 then (
  M.pure (.inr (q_b_n_room, q_b_n_met)))
  else (
  M.pure (.inl (q_b_n_room, q_b_n_met)))
def m_notes_web_lanes_b7 (w__list_works : List Work) (revised : List Int) (work : Int) : ((Gate → Option Int) × (Int → Option Bool) × Nat) → M (((Gate → Option Int) × (Int → Option Bool) × Nat) ⊕ ((Gate → Option Int) × (Int → Option Bool))) := fun (mp9, mp10, s3) =>
  bif decide ((s3 : Int) < (revised.length : Int)) then (
  M.grd (decide ((s3 : Int) < (revised.length : Int))) <|
  M.bind (M.iter (m_notes_web_lanes_b6 w__list_works revised work s3) (mp9, mp10)) fun (mp7, mp8) =>
  M.pure (.inl (mp7, mp8, s3 + 1)))
  else (
  M.pure (.inr (mp9, mp10)))
def m_notes_web_lanes (w__list_works : List Work) (revised : List Int) (work : Int) : M (Int × (Gate → Option Int) × (Int → Option Bool)) :=
  M.bind (M.iter (m_notes_web_lanes_b4 w__list_works revised work) ((fun _ => none), 0)) fun mp4 =>
  M.bind (M.iter (m_notes_web_lanes_b7 w__list_works revised work) (mp4, (fun _ => none), 0)) fun (mp11, mp12) =>
  M.pure (work, mp11, mp12)
theorem notes_web_lanes_ok {R : List Chunk} {b_w_ : Nat} {C_w__list_works : Cells} {v_w__list_works : Value} {C_revised : Cells} {v_revised : Value} (w__list_works : List Work) (revised : List Int) (work : Int) (hC_w__list_works : Reads R C_w__list_works) (hs_w__list_works : Sl C_w__list_works v_w__list_works w__list_works) (h_b_w_ : Has R (cBlk b_w_ [v_w__list_works] 187)) (hC_revised : Reads R C_revised) (hs_revised : Sl C_revised v_revised revised) {r : (Int × (Gate → Option Int) × (Int → Option Bool))} (hM : (m_notes_web_lanes w__list_works revised work).Ends r) (w : World) (H : St w w [] R) : Ret Try.prog 160 #[Pz b_w_, v_revised, I work] w fun v w' => ∃ (y0 : Int) (y1 : Gate → Option Int) (y2 : Int → Option Bool) (nb0 : Nat) (nb1 : Nat) (nb2 : Nat), (y0, y1, y2) = r ∧ v = Pz nb0 ∧ St w w' [cBlk nb0 [Pz b_w_, v_revised, I y0, .map (some nb1), .map (some nb2)] 180, cMap encG I nb1 y1, cMap I B nb2 y2] R := by
 refine ret_of_W Try.func160 rfl rfl rfl ?_
 refine sQ rfl <| sA (.pointer none) rfl <| s_nil <| sQ rfl <| sM (Pz b_w_) rfl <| sM v_revised rfl <| sM (I work) rfl ?_
 refine t_mkmap (κ := Gate) (ν := Int) encG I H ?_
 intro b_1 w1z H
 refine t_mkmap (κ := Int) (ν := Bool) I B H ?_
 intro b_2 w2z H
 refine s_val (x_bld (ps := [(0, Pz b_w_), (1, v_revised), (2, I work), (3, .map (some b_1)), (4, .map (some b_2))]) (zs := [.pointer none, .slice none 0 0, I 0, .map none, .map none]) (L' := [Pz b_w_, v_revised, I work, .map (some b_1), .map (some b_2)]) rfl Try.underlying180 Al180 rfl (Bd180 Try.underlying180) (.cons (cs := [Pz b_w_]) rfl rfl rfl rfl rfl <| .cons (cs := [v_revised]) (Sl.cells hs_revised) rfl rfl rfl rfl <| .cons (cs := [I work]) rfl rfl rfl rfl rfl <| .cons (cs := [.map (some b_1)]) rfl rfl rfl rfl rfl <| .cons (cs := [.map (some b_2)]) rfl rfl rfl rfl rfl <| .nil)) ?_
 refine t_box (v := .agg #[Pz b_w_, v_revised, I work, .map (some b_1), .map (some b_2)]) (cs := [Pz b_w_, v_revised, I work, .map (some b_1), .map (some b_2)]) H rfl rfl ?_
 intro b_3 w3z H
 refine sA (Pz b_3) rfl <| s_nil <| W.seq <| sQ rfl <| sM (Pz b_w_) rfl <| s_val (x_nc (a := ⟨b_w_, 0, none⟩) rfl) <| s_val (x_fa (a := Pz b_w_) (v := Pz b_w_) rfl (fa_blk (o := 0) Fd187_0 Sz185)) <| s_val (x_fa (a := Pz b_w_) (v := Pz b_w_) rfl (fa_blk (o := 0) Fd185_0 Sz22)) <| s_val (x_ld (p := Pz b_w_) (v := v_w__list_works) rfl (ldb_sc Sc22 (h_b_w_.blk H) rfl)) ?_
 have hl4z := (hs_w__list_works).len_le
 refine s_val (x_lenS T22.und rfl hs_w__list_works) <| sM (I 0) rfl <| s_nil <| W.block ?_
 obtain ⟨ex5z, hi6z, hk7z⟩ := M.e_bind hM
 obtain ⟨m0_, hi6z⟩ := M.e_iter hi6z
 refine W.loop (fun m σ W => ∃ (mp3 : Gate → Option Int) (s2 : Nat) (ρ : Env), σ = upds ρ [(1, v_revised), (2, I work), (7, Pz b_3), (25, v_w__list_works), (26, I (w__list_works.length : Int)), (27, I (s2 : Int))] ∧ M.iterN (m_notes_web_lanes_b4 w__list_works revised work) m (mp3, s2) = some ex5z ∧ St w W [cBlk b_3 [Pz b_w_, v_revised, I work, .map (some b_1), .map (some b_2)] 180, cMap I B b_2 (fun _ => none), cMap encG I b_1 mp3] R) ?_ ?_
 ·exact ⟨_, (fun _ => none), 0, _, upds_of _ _ ⟨rfl, rfl, rfl, rfl, rfl, rfl, trivial⟩, hi6z, H⟩
 rintro m10z σ w8z ⟨mp3, s2, ρ, rfl, hI9z, H⟩
 obtain ⟨m11z, lt12z, x13z, hM, hN14z⟩ := M.e_iterN hI9z
 simp only [m_notes_web_lanes_b4] at hM
 clear hI9z
 refine sQ rfl <| sC (s2 : Int) (w__list_works.length : Int) (decide ((s2 : Int) < (w__list_works.length : Int))) rfl rfl rfl <| s_nil <| W.seq ?_
 refine W.cond (decide ((s2 : Int) < (w__list_works.length : Int))) rfl (fun c15z => ?_) (fun c15z => ?_)
 ·replace hM := M.e_t hM c15z
  simp only [qz1, qz2, qz3, qz4, qz5, qz6, ne_eq, qz7] at c15z
  refine W.skip <| W.seq <| W.block <| sQ rfl <| sM (I (s2 : Int)) rfl ?_
  obtain ⟨sd16z, hM⟩ := M.e_gd hM
  refine s_val (x_ix (a := v_w__list_works) (b := I (s2 : Int)) (v := vat v_w__list_works 3 (Int.toNat (s2 : Int))) rfl rfl (Sl.ix (α := Work) T22.und T22.size hs_w__list_works (by omega) (by omega))) ?_
  obtain ⟨u17z, ha19z, hs18z⟩ := Work_atA hs_w__list_works (i := (s2 : Int)) (by omega) (by omega)
  replace hs18z : Sl _ u17z (w__list_works.getD s2 default).of := hs18z
  have hl_hs18z := hs18z.len_le
  refine s_val (x_ld (p := vat v_w__list_works 3 (Int.toNat (s2 : Int))) (v := .agg #[u17z, I ((w__list_works.getD s2 default).base), I ((w__list_works.getD s2 default).minutes)]) rfl (ld_ag Ag60 Sz60 (At.mono ha19z (hC_w__list_works.at H)))) ?_
  refine t_alloc (cs := [.slice none 0 0, I 0, I 0]) H Al60 rfl ?_
  intro b_4 w20z H
  refine sA (I (s2 : Int)) rfl ?_
  refine t_st (k := 0) (b := b_4) (off := 0) (cs := [.slice none 0 0, I 0, I 0]) (vs := [u17z, I ((w__list_works.getD s2 default).base), I ((w__list_works.getD s2 default).minutes)]) (cs' := [u17z, I ((w__list_works.getD s2 default).base), I ((w__list_works.getD s2 default).minutes)]) (v := .agg #[u17z, I ((w__list_works.getD s2 default).base), I ((w__list_works.getD s2 default).minutes)]) (L' := [cBlk b_4 [u17z, I ((w__list_works.getD s2 default).base), I ((w__list_works.getD s2 default).minutes)] 60, cBlk b_3 [Pz b_w_, v_revised, I work, .map (some b_1), .map (some b_2)] 180, cMap I B b_2 (fun _ => none), cMap encG I b_1 mp3]) H rfl rfl rfl Sz60 rfl rfl rfl (by simp only [List.all_cons, List.all_nil, Bool.true_and, Bool.and_true, Sl.oc hs18z]; try rfl) rfl rfl ?_
  intro w21z H
  refine s_nil <| W.seq <| sQ rfl <| sM (Pz b_3) rfl <| sM (I (s2 : Int)) rfl ?_
  obtain ⟨r23z, hx22z, hM⟩ := M.e_bind hM
  refine s_call cf127 [Pz b_3, I (s2 : Int)] rfl (notes_lanes_inner_ok w__list_works revised work mp3 (fun _ => none) (s2 : Int) (hC_w__list_works.app _) hs_w__list_works (h_b_w_.app _) (hC_revised.app _) hs_revised (Has.here (k := 3) rfl) (Has.here (k := 2) rfl) (Has.here (k := 1) rfl) hx22z _ (St.give (T := [cBlk b_4 [u17z, I ((w__list_works.getD s2 default).base), I ((w__list_works.getD s2 default).minutes)] 60, cBlk b_3 [Pz b_w_, v_revised, I work, .map (some b_1), .map (some b_2)] 180, cMap I B b_2 (fun _ => none), cMap encG I b_1 mp3]) H rfl)) ?_
  rintro vq w24z ⟨r2, hr25z, hvq, H2_⟩
  subst hr25z
  subst vq
  try dsimp only at hM
  replace H : St w w24z [cBlk b_4 [u17z, I ((w__list_works.getD s2 default).base), I ((w__list_works.getD s2 default).minutes)] 60, cBlk b_3 [Pz b_w_, v_revised, I work, .map (some b_1), .map (some b_2)] 180, cMap I B b_2 (fun _ => none), cMap encG I b_1 mp3] R := H.back H2_ rfl
  clear H2_
  refine s_nil ?_
  refine W.cond r2 rfl (fun c26z => ?_) (fun c26z => ?_)
  ·replace hM := M.e_t hM c26z
   refine W.region rfl <| sM (Pz b_3) rfl <| s_val (x_nc (a := ⟨b_3, 0, none⟩) rfl) <| s_val (x_fa (a := Pz b_3) (v := Oz b_3 3) rfl (fa_blk (o := 0) Fd180_3 Sz177)) <| s_val (x_ld (p := Oz b_3 3) (v := .map (some b_1)) rfl (ldb_sc Sc177 (H.blk (k := 1) rfl) rfl)) <| sM (I (s2 : Int)) rfl ?_
   obtain ⟨sd27z, hM⟩ := M.e_gd hM
   refine sR 2 (s2 : Int) (2 * (s2 : Int)) rfl rfl rfl (by omega) <| sM (I (s2 : Int)) rfl <| sR 2 (s2 : Int) (2 * (s2 : Int)) rfl rfl rfl (by omega) ?_
   obtain ⟨sd28z, hM⟩ := M.e_gd hM
   refine sR (2 * (s2 : Int)) 1 ((2 * (s2 : Int)) + 1) rfl rfl rfl (by omega) <| s_val (x_bld (ps := [(0, I (2 * (s2 : Int))), (1, I ((2 * (s2 : Int)) + 1))]) (zs := [I 0, I 0]) (L' := [I (2 * (s2 : Int)), I ((2 * (s2 : Int)) + 1)]) rfl Try.underlying182 Al182 rfl (Bd182 Try.underlying182) (.cons (cs := [I (2 * (s2 : Int))]) rfl rfl rfl rfl rfl <| .cons (cs := [I ((2 * (s2 : Int)) + 1)]) rfl rfl rfl rfl rfl <| .nil)) ?_
   refine t_mapu (i := 3) (kenc := encG) (venc := I) (f := mp3) (k := (⟨2 * (s2 : Int), ((2 * (s2 : Int)) + 1 : Int)⟩ : Gate)) (v := (1 : Int)) (L' := [cBlk b_4 [u17z, I ((w__list_works.getD s2 default).base), I ((w__list_works.getD s2 default).minutes)] 60, cBlk b_3 [Pz b_w_, v_revised, I work, .map (some b_1), .map (some b_2)] 180, cMap I B b_2 (fun _ => none), cMap encG I b_1 (updF mp3 (⟨2 * (s2 : Int), ((2 * (s2 : Int)) + 1 : Int)⟩ : Gate) (1 : Int))]) keyGate Try.underlying177 H rfl rfl rfl rfl rfl ?_
   intro w29z H
   refine s_nil <| sQ rfl <| s_val (x_fa (a := Pz b_4) (v := Pz b_4) rfl (fa_blk (o := 0) Fd60_0 Sz34)) <| s_val (x_ld (p := Pz b_4) (v := u17z) rfl (ldb_sc Sc34 (H.blk (k := 0) rfl) rfl)) ?_
   have hl30z := (hs18z).len_le
   refine s_val (x_lenS T34.und rfl hs18z) <| sM (I 0) rfl <| s_nil <| W.block ?_
   obtain ⟨ex31z, hi32z, hk33z⟩ := M.e_bind hM
   obtain ⟨m0_, hi32z⟩ := M.e_iter hi32z
   refine W.loop (fun m σ W => ∃ (mp : Gate → Option Int) (s : Nat) (ρ : Env), σ = upds ρ [(1, v_revised), (2, I work), (7, Pz b_3), (8, I (s2 : Int)), (25, v_w__list_works), (26, I (w__list_works.length : Int)), (27, I (s2 : Int)), (46, u17z), (47, I (((w__list_works.getD s2 default).of).length : Int)), (48, I (s : Int))] ∧ M.iterN (m_notes_web_lanes_b2 w__list_works revised work s2) m (mp, s) = some ex31z ∧ St w W [cBlk b_4 [u17z, I ((w__list_works.getD s2 default).base), I ((w__list_works.getD s2 default).minutes)] 60, cBlk b_3 [Pz b_w_, v_revised, I work, .map (some b_1), .map (some b_2)] 180, cMap I B b_2 (fun _ => none), cMap encG I b_1 mp] R) ?_ ?_
   ·exact ⟨_, updF mp3 (⟨2 * (s2 : Int), ((2 * (s2 : Int)) + 1 : Int)⟩ : Gate) (1 : Int), 0, _, upds_of _ _ ⟨rfl, rfl, rfl, rfl, rfl, rfl, rfl, rfl, rfl, rfl, trivial⟩, hi32z, H⟩
   rintro m36z σ w34z ⟨mp, s, ρ, rfl, hI35z, H⟩
   obtain ⟨m37z, lt38z, x39z, hM, hN40z⟩ := M.e_iterN hI35z
   simp only [m_notes_web_lanes_b2] at hM
   clear hI35z
   refine sQ rfl <| sC (s : Int) (((w__list_works.getD s2 default).of).length : Int) (decide ((s : Int) < (((w__list_works.getD s2 default).of).length : Int))) rfl rfl rfl <| s_nil <| W.seq ?_
   refine W.cond (decide ((s : Int) < (((w__list_works.getD s2 default).of).length : Int))) rfl (fun c41z => ?_) (fun c41z => ?_)
   ·replace hM := M.e_t hM c41z
    simp only [qz1, qz2, qz3, qz4, qz5, qz6, ne_eq, qz7] at c41z
    refine W.skip <| W.seq <| W.block <| sQ rfl ?_
    obtain ⟨sd42z, hM⟩ := M.e_gd hM
    refine s_val (x_ix (a := u17z) (b := I (s : Int)) (v := vat u17z 1 (Int.toNat (s : Int))) rfl rfl (Sl.ix (α := Int) T34.und T34.size hs18z (by omega) (by omega))) <| s_val (x_ld (p := vat u17z 1 (Int.toNat (s : Int))) (v := I (((w__list_works.getD s2 default).of).getD s 0)) rfl (ld_sc Sc3 (At.mono (Int_at hs18z (i := (s : Int)) (by omega) (by omega)) (hC_w__list_works.at H)))) <| sA (I (((w__list_works.getD s2 default).of).getD s 0)) rfl <| s_nil <| sQ rfl <| sM (I (((w__list_works.getD s2 default).of).getD s 0)) rfl <| sM (I work) rfl <| sC (((w__list_works.getD s2 default).of).getD s 0) work ((((w__list_works.getD s2 default).of).getD s 0) != work) rfl rfl rfl <| sM (B ((((w__list_works.getD s2 default).of).getD s 0) != work)) rfl <| g_val ((((w__list_works.getD s2 default).of).getD s 0) != work) (gy_t rfl) (fun hg => x_mv (v := I (s2 : Int)) rfl) <| g_val ((((w__list_works.getD s2 default).of).getD s 0) != work) (gy_t rfl) (fun hg => x_mv (v := I work) rfl) ?_
    refine g_val ((((w__list_works.getD s2 default).of).getD s 0) != work) (gy_t rfl) (fun hg => x_cmp (kd := .i64) (a := (s2 : Int)) (b := work) (r := (s2 : Int) == work) (gd_of (c := (((w__list_works.getD s2 default).of).getD s 0) != work) hg (I (s2 : Int))) (gd_of (c := (((w__list_works.getD s2 default).of).getD s 0) != work) hg (I work)) rfl) <| g_val ((((w__list_works.getD s2 default).of).getD s 0) != work) (gy_t rfl) (fun hg => x_mv (v := B ((s2 : Int) == work)) (gd_of (c := (((w__list_works.getD s2 default).of).getD s 0) != work) hg (B ((s2 : Int) == work)))) <| g_val (((((w__list_works.getD s2 default).of).getD s 0) != work) && !((s2 : Int) == work)) (gy_gf rfl rfl) (fun hg => x_mv (v := Pz b_3) rfl) <| g_val (((((w__list_works.getD s2 default).of).getD s 0) != work) && !((s2 : Int) == work)) (gy_gf rfl rfl) (fun hg => x_mv (v := I (s2 : Int)) rfl) ?_
    obtain ⟨r3, hx43z, hM⟩ := M.e_bind hM
    refine t_gcall (((((w__list_works.getD s2 default).of).getD s 0) != work) && !((s2 : Int) == work)) (gy_gf rfl rfl) cf127 (B r3) (fun _ => [Pz b_3, I (s2 : Int)]) (fun hg => lst2 (gd_of (c := (((((w__list_works.getD s2 default).of).getD s 0) != work) && !((s2 : Int) == work))) hg (Pz b_3)) (gd_of (c := (((((w__list_works.getD s2 default).of).getD s 0) != work) && !((s2 : Int) == work))) hg (I (s2 : Int)))) H (fun hg => (notes_lanes_inner_ok w__list_works revised work mp (fun _ => none) (s2 : Int) (hC_w__list_works.app _) hs_w__list_works (h_b_w_.app _) (hC_revised.app _) hs_revised (Has.here (k := 3) rfl) (Has.here (k := 2) rfl) (Has.here (k := 1) rfl) (M.e_opt hx43z hg) _ (H.give (A := []) rfl)).mono fun v_ w_ ⟨y_, hr_, hv_, H_⟩ => by subst hr_; exact ⟨hv_, H.via H_⟩) ?_
    intro w44z H
    refine g_val ((((w__list_works.getD s2 default).of).getD s 0) != work) (gy_t rfl) (fun hg => x_por (b := (s2 : Int) == work) (r := r3) (gd_of (c := (((w__list_works.getD s2 default).of).getD s 0) != work) hg (B ((s2 : Int) == work))) rfl (fun hb => gd_of (c := (((((w__list_works.getD s2 default).of).getD s 0) != work) && !((s2 : Int) == work))) (by first | exact hb | (rw [hb]; rfl) | simp_all) (B r3))) <| s_val (x_pand (b := (((w__list_works.getD s2 default).of).getD s 0) != work) (r := (((s2 : Int) == work) || r3)) rfl (fun hb => gd_of (c := (((w__list_works.getD s2 default).of).getD s 0) != work) (by first | exact hb | (rw [hb]; rfl) | simp_all) (B (((s2 : Int) == work) || r3))) rfl) <| s_nil ?_
    refine W.cond (((((w__list_works.getD s2 default).of).getD s 0) != work) && (((s2 : Int) == work) || r3)) rfl (fun c45z => ?_) (fun c45z => ?_)
    ·replace hM := M.e_t hM c45z
     refine W.region rfl <| sM (Pz b_3) rfl <| s_val (x_nc (a := ⟨b_3, 0, none⟩) rfl) <| s_val (x_fa (a := Pz b_3) (v := Oz b_3 3) rfl (fa_blk (o := 0) Fd180_3 Sz177)) <| s_val (x_ld (p := Oz b_3 3) (v := .map (some b_1)) rfl (ldb_sc Sc177 (H.blk (k := 1) rfl) rfl)) <| sM (I (((w__list_works.getD s2 default).of).getD s 0)) rfl ?_
     obtain ⟨sd46z, hM⟩ := M.e_gd hM
     refine sR 2 (((w__list_works.getD s2 default).of).getD s 0) (2 * (((w__list_works.getD s2 default).of).getD s 0)) rfl rfl rfl (by omega) ?_
     obtain ⟨sd47z, hM⟩ := M.e_gd hM
     refine sR (2 * (((w__list_works.getD s2 default).of).getD s 0)) 1 ((2 * (((w__list_works.getD s2 default).of).getD s 0)) + 1) rfl rfl rfl (by omega) <| sM (I (s2 : Int)) rfl ?_
     obtain ⟨sd48z, hM⟩ := M.e_gd hM
     refine sR 2 (s2 : Int) (2 * (s2 : Int)) rfl rfl rfl (by omega) <| s_val (x_bld (ps := [(0, I ((2 * (((w__list_works.getD s2 default).of).getD s 0)) + 1)), (1, I (2 * (s2 : Int)))]) (zs := [I 0, I 0]) (L' := [I ((2 * (((w__list_works.getD s2 default).of).getD s 0)) + 1), I (2 * (s2 : Int))]) rfl Try.underlying182 Al182 rfl (Bd182 Try.underlying182) (.cons (cs := [I ((2 * (((w__list_works.getD s2 default).of).getD s 0)) + 1)]) rfl rfl rfl rfl rfl <| .cons (cs := [I (2 * (s2 : Int))]) rfl rfl rfl rfl rfl <| .nil)) ?_
     refine t_mapu (i := 3) (kenc := encG) (venc := I) (f := mp) (k := (⟨((2 * (((w__list_works.getD s2 default).of).getD s 0)) + 1 : Int), 2 * (s2 : Int)⟩ : Gate)) (v := (30 : Int)) (L' := [cBlk b_4 [u17z, I ((w__list_works.getD s2 default).base), I ((w__list_works.getD s2 default).minutes)] 60, cBlk b_3 [Pz b_w_, v_revised, I work, .map (some b_1), .map (some b_2)] 180, cMap I B b_2 (fun _ => none), cMap encG I b_1 (updF mp (⟨((2 * (((w__list_works.getD s2 default).of).getD s 0)) + 1 : Int), 2 * (s2 : Int)⟩ : Gate) (30 : Int))]) keyGate Try.underlying177 H rfl rfl rfl rfl rfl ?_
     intro w49z H
     refine s_nil <| W.region rfl <| sR (s : Int) 1 ((s : Int) + 1) rfl rfl rfl (by omega) <| sM (I ((s : Int) + 1)) rfl <| s_nil ?_
     exact ⟨m37z, lt38z, updF mp (⟨((2 * (((w__list_works.getD s2 default).of).getD s 0)) + 1 : Int), 2 * (s2 : Int)⟩ : Gate) (30 : Int), s + 1, _, upds_of _ _ ⟨rfl, rfl, rfl, rfl, rfl, rfl, rfl, rfl, rfl, rfl, trivial⟩, M.e_inl hM hN40z, H⟩
    replace hM := M.e_f hM c45z
    refine W.skip <| W.region rfl <| sR (s : Int) 1 ((s : Int) + 1) rfl rfl rfl (by omega) <| sM (I ((s : Int) + 1)) rfl <| s_nil ?_
    exact ⟨m37z, lt38z, mp, s + 1, _, upds_of _ _ ⟨rfl, rfl, rfl, rfl, rfl, rfl, rfl, rfl, rfl, rfl, trivial⟩, M.e_inl hM hN40z, H⟩
   replace hM := M.e_f hM c41z
   simp only [qz1, qz2, qz3, qz4, qz5, qz6, ne_eq, qz7] at c41z
   refine W.exit ?_
   have hX50z := M.e_inr hM hN40z
   subst hX50z
   replace hM := hk33z
   try dsimp only at hM
   refine W.region rfl <| sR (s2 : Int) 1 ((s2 : Int) + 1) rfl rfl rfl (by omega) <| sM (I ((s2 : Int) + 1)) rfl <| s_nil ?_
   exact ⟨m11z, lt12z, mp, s2 + 1, _, upds_of _ _ ⟨rfl, rfl, rfl, rfl, rfl, rfl, trivial⟩, M.e_inl hM hN14z, (H.pick [1, 2, 3] (by decide) rfl)⟩
  replace hM := M.e_f hM c26z
  refine W.skip <| sQ rfl <| s_val (x_fa (a := Pz b_4) (v := Pz b_4) rfl (fa_blk (o := 0) Fd60_0 Sz34)) <| s_val (x_ld (p := Pz b_4) (v := u17z) rfl (ldb_sc Sc34 (H.blk (k := 0) rfl) rfl)) ?_
  have hl51z := (hs18z).len_le
  refine s_val (x_lenS T34.und rfl hs18z) <| sM (I 0) rfl <| s_nil <| W.block ?_
  obtain ⟨ex52z, hi53z, hk54z⟩ := M.e_bind hM
  obtain ⟨m0_, hi53z⟩ := M.e_iter hi53z
  refine W.loop (fun m σ W => ∃ (mp : Gate → Option Int) (s : Nat) (ρ : Env), σ = upds ρ [(1, v_revised), (2, I work), (7, Pz b_3), (8, I (s2 : Int)), (25, v_w__list_works), (26, I (w__list_works.length : Int)), (27, I (s2 : Int)), (46, u17z), (47, I (((w__list_works.getD s2 default).of).length : Int)), (48, I (s : Int))] ∧ M.iterN (m_notes_web_lanes_b3 w__list_works revised work s2) m (mp, s) = some ex52z ∧ St w W [cBlk b_4 [u17z, I ((w__list_works.getD s2 default).base), I ((w__list_works.getD s2 default).minutes)] 60, cBlk b_3 [Pz b_w_, v_revised, I work, .map (some b_1), .map (some b_2)] 180, cMap I B b_2 (fun _ => none), cMap encG I b_1 mp] R) ?_ ?_
  ·exact ⟨_, mp3, 0, _, upds_of _ _ ⟨rfl, rfl, rfl, rfl, rfl, rfl, rfl, rfl, rfl, rfl, trivial⟩, hi53z, H⟩
  rintro m57z σ w55z ⟨mp, s, ρ, rfl, hI56z, H⟩
  obtain ⟨m58z, lt59z, x60z, hM, hN61z⟩ := M.e_iterN hI56z
  simp only [m_notes_web_lanes_b3] at hM
  clear hI56z
  refine sQ rfl <| sC (s : Int) (((w__list_works.getD s2 default).of).length : Int) (decide ((s : Int) < (((w__list_works.getD s2 default).of).length : Int))) rfl rfl rfl <| s_nil <| W.seq ?_
  refine W.cond (decide ((s : Int) < (((w__list_works.getD s2 default).of).length : Int))) rfl (fun c62z => ?_) (fun c62z => ?_)
  ·replace hM := M.e_t hM c62z
   simp only [qz1, qz2, qz3, qz4, qz5, qz6, ne_eq, qz7] at c62z
   refine W.skip <| W.seq <| W.block <| sQ rfl ?_
   obtain ⟨sd63z, hM⟩ := M.e_gd hM
   refine s_val (x_ix (a := u17z) (b := I (s : Int)) (v := vat u17z 1 (Int.toNat (s : Int))) rfl rfl (Sl.ix (α := Int) T34.und T34.size hs18z (by omega) (by omega))) <| s_val (x_ld (p := vat u17z 1 (Int.toNat (s : Int))) (v := I (((w__list_works.getD s2 default).of).getD s 0)) rfl (ld_sc Sc3 (At.mono (Int_at hs18z (i := (s : Int)) (by omega) (by omega)) (hC_w__list_works.at H)))) <| sA (I (((w__list_works.getD s2 default).of).getD s 0)) rfl <| s_nil <| sQ rfl <| sM (I (((w__list_works.getD s2 default).of).getD s 0)) rfl <| sM (I work) rfl <| sC (((w__list_works.getD s2 default).of).getD s 0) work ((((w__list_works.getD s2 default).of).getD s 0) != work) rfl rfl rfl <| sM (B ((((w__list_works.getD s2 default).of).getD s 0) != work)) rfl <| g_val ((((w__list_works.getD s2 default).of).getD s 0) != work) (gy_t rfl) (fun hg => x_mv (v := I (s2 : Int)) rfl) <| g_val ((((w__list_works.getD s2 default).of).getD s 0) != work) (gy_t rfl) (fun hg => x_mv (v := I work) rfl) ?_
   refine g_val ((((w__list_works.getD s2 default).of).getD s 0) != work) (gy_t rfl) (fun hg => x_cmp (kd := .i64) (a := (s2 : Int)) (b := work) (r := (s2 : Int) == work) (gd_of (c := (((w__list_works.getD s2 default).of).getD s 0) != work) hg (I (s2 : Int))) (gd_of (c := (((w__list_works.getD s2 default).of).getD s 0) != work) hg (I work)) rfl) <| g_val ((((w__list_works.getD s2 default).of).getD s 0) != work) (gy_t rfl) (fun hg => x_mv (v := B ((s2 : Int) == work)) (gd_of (c := (((w__list_works.getD s2 default).of).getD s 0) != work) hg (B ((s2 : Int) == work)))) <| g_val (((((w__list_works.getD s2 default).of).getD s 0) != work) && !((s2 : Int) == work)) (gy_gf rfl rfl) (fun hg => x_mv (v := Pz b_3) rfl) <| g_val (((((w__list_works.getD s2 default).of).getD s 0) != work) && !((s2 : Int) == work)) (gy_gf rfl rfl) (fun hg => x_mv (v := I (s2 : Int)) rfl) ?_
   obtain ⟨r3, hx64z, hM⟩ := M.e_bind hM
   refine t_gcall (((((w__list_works.getD s2 default).of).getD s 0) != work) && !((s2 : Int) == work)) (gy_gf rfl rfl) cf127 (B r3) (fun _ => [Pz b_3, I (s2 : Int)]) (fun hg => lst2 (gd_of (c := (((((w__list_works.getD s2 default).of).getD s 0) != work) && !((s2 : Int) == work))) hg (Pz b_3)) (gd_of (c := (((((w__list_works.getD s2 default).of).getD s 0) != work) && !((s2 : Int) == work))) hg (I (s2 : Int)))) H (fun hg => (notes_lanes_inner_ok w__list_works revised work mp (fun _ => none) (s2 : Int) (hC_w__list_works.app _) hs_w__list_works (h_b_w_.app _) (hC_revised.app _) hs_revised (Has.here (k := 3) rfl) (Has.here (k := 2) rfl) (Has.here (k := 1) rfl) (M.e_opt hx64z hg) _ (H.give (A := []) rfl)).mono fun v_ w_ ⟨y_, hr_, hv_, H_⟩ => by subst hr_; exact ⟨hv_, H.via H_⟩) ?_
   intro w65z H
   refine g_val ((((w__list_works.getD s2 default).of).getD s 0) != work) (gy_t rfl) (fun hg => x_por (b := (s2 : Int) == work) (r := r3) (gd_of (c := (((w__list_works.getD s2 default).of).getD s 0) != work) hg (B ((s2 : Int) == work))) rfl (fun hb => gd_of (c := (((((w__list_works.getD s2 default).of).getD s 0) != work) && !((s2 : Int) == work))) (by first | exact hb | (rw [hb]; rfl) | simp_all) (B r3))) <| s_val (x_pand (b := (((w__list_works.getD s2 default).of).getD s 0) != work) (r := (((s2 : Int) == work) || r3)) rfl (fun hb => gd_of (c := (((w__list_works.getD s2 default).of).getD s 0) != work) (by first | exact hb | (rw [hb]; rfl) | simp_all) (B (((s2 : Int) == work) || r3))) rfl) <| s_nil ?_
   refine W.cond (((((w__list_works.getD s2 default).of).getD s 0) != work) && (((s2 : Int) == work) || r3)) rfl (fun c66z => ?_) (fun c66z => ?_)
   ·replace hM := M.e_t hM c66z
    refine W.region rfl <| sM (Pz b_3) rfl <| s_val (x_nc (a := ⟨b_3, 0, none⟩) rfl) <| s_val (x_fa (a := Pz b_3) (v := Oz b_3 3) rfl (fa_blk (o := 0) Fd180_3 Sz177)) <| s_val (x_ld (p := Oz b_3 3) (v := .map (some b_1)) rfl (ldb_sc Sc177 (H.blk (k := 1) rfl) rfl)) <| sM (I (((w__list_works.getD s2 default).of).getD s 0)) rfl ?_
    obtain ⟨sd67z, hM⟩ := M.e_gd hM
    refine sR 2 (((w__list_works.getD s2 default).of).getD s 0) (2 * (((w__list_works.getD s2 default).of).getD s 0)) rfl rfl rfl (by omega) ?_
    obtain ⟨sd68z, hM⟩ := M.e_gd hM
    refine sR (2 * (((w__list_works.getD s2 default).of).getD s 0)) 1 ((2 * (((w__list_works.getD s2 default).of).getD s 0)) + 1) rfl rfl rfl (by omega) <| sM (I (s2 : Int)) rfl ?_
    obtain ⟨sd69z, hM⟩ := M.e_gd hM
    refine sR 2 (s2 : Int) (2 * (s2 : Int)) rfl rfl rfl (by omega) <| s_val (x_bld (ps := [(0, I ((2 * (((w__list_works.getD s2 default).of).getD s 0)) + 1)), (1, I (2 * (s2 : Int)))]) (zs := [I 0, I 0]) (L' := [I ((2 * (((w__list_works.getD s2 default).of).getD s 0)) + 1), I (2 * (s2 : Int))]) rfl Try.underlying182 Al182 rfl (Bd182 Try.underlying182) (.cons (cs := [I ((2 * (((w__list_works.getD s2 default).of).getD s 0)) + 1)]) rfl rfl rfl rfl rfl <| .cons (cs := [I (2 * (s2 : Int))]) rfl rfl rfl rfl rfl <| .nil)) ?_
    refine t_mapu (i := 3) (kenc := encG) (venc := I) (f := mp) (k := (⟨((2 * (((w__list_works.getD s2 default).of).getD s 0)) + 1 : Int), 2 * (s2 : Int)⟩ : Gate)) (v := (30 : Int)) (L' := [cBlk b_4 [u17z, I ((w__list_works.getD s2 default).base), I ((w__list_works.getD s2 default).minutes)] 60, cBlk b_3 [Pz b_w_, v_revised, I work, .map (some b_1), .map (some b_2)] 180, cMap I B b_2 (fun _ => none), cMap encG I b_1 (updF mp (⟨((2 * (((w__list_works.getD s2 default).of).getD s 0)) + 1 : Int), 2 * (s2 : Int)⟩ : Gate) (30 : Int))]) keyGate Try.underlying177 H rfl rfl rfl rfl rfl ?_
    intro w70z H
    refine s_nil <| W.region rfl <| sR (s : Int) 1 ((s : Int) + 1) rfl rfl rfl (by omega) <| sM (I ((s : Int) + 1)) rfl <| s_nil ?_
    exact ⟨m58z, lt59z, updF mp (⟨((2 * (((w__list_works.getD s2 default).of).getD s 0)) + 1 : Int), 2 * (s2 : Int)⟩ : Gate) (30 : Int), s + 1, _, upds_of _ _ ⟨rfl, rfl, rfl, rfl, rfl, rfl, rfl, rfl, rfl, rfl, trivial⟩, M.e_inl hM hN61z, H⟩
   replace hM := M.e_f hM c66z
   refine W.skip <| W.region rfl <| sR (s : Int) 1 ((s : Int) + 1) rfl rfl rfl (by omega) <| sM (I ((s : Int) + 1)) rfl <| s_nil ?_
   exact ⟨m58z, lt59z, mp, s + 1, _, upds_of _ _ ⟨rfl, rfl, rfl, rfl, rfl, rfl, rfl, rfl, rfl, rfl, trivial⟩, M.e_inl hM hN61z, H⟩
  replace hM := M.e_f hM c62z
  simp only [qz1, qz2, qz3, qz4, qz5, qz6, ne_eq, qz7] at c62z
  refine W.exit ?_
  have hX71z := M.e_inr hM hN61z
  subst hX71z
  replace hM := hk54z
  try dsimp only at hM
  refine W.region rfl <| sR (s2 : Int) 1 ((s2 : Int) + 1) rfl rfl rfl (by omega) <| sM (I ((s2 : Int) + 1)) rfl <| s_nil ?_
  exact ⟨m11z, lt12z, mp, s2 + 1, _, upds_of _ _ ⟨rfl, rfl, rfl, rfl, rfl, rfl, trivial⟩, M.e_inl hM hN14z, (H.pick [1, 2, 3] (by decide) rfl)⟩
 replace hM := M.e_f hM c15z
 simp only [qz1, qz2, qz3, qz4, qz5, qz6, ne_eq, qz7] at c15z
 refine W.exit ?_
 have hX72z := M.e_inr hM hN14z
 subst hX72z
 replace hM := hk7z
 try dsimp only at hM
 refine W.seq <| sQ rfl <| sM v_revised rfl ?_
 have hl73z := (hs_revised).len_le
 refine s_val (x_lenS T34.und rfl hs_revised) <| sM (I 0) rfl <| s_nil <| W.block ?_
 obtain ⟨ex74z, hi75z, hk76z⟩ := M.e_bind hM
 obtain ⟨m0_, hi75z⟩ := M.e_iter hi75z
 refine W.loop (fun m σ W => ∃ (mp9 : Gate → Option Int) (mp10 : Int → Option Bool) (s3 : Nat) (ρ : Env), σ = upds ρ [(7, Pz b_3), (77, v_revised), (78, I (revised.length : Int)), (79, I (s3 : Int))] ∧ M.iterN (m_notes_web_lanes_b7 w__list_works revised work) m (mp9, mp10, s3) = some ex74z ∧ St w W [cBlk b_3 [Pz b_w_, v_revised, I work, .map (some b_1), .map (some b_2)] 180, cMap I B b_2 mp10, cMap encG I b_1 mp9] R) ?_ ?_
 ·exact ⟨_, mp3, (fun _ => none), 0, _, upds_of _ _ ⟨rfl, rfl, rfl, rfl, trivial⟩, hi75z, H⟩
 rintro m79z σ w77z ⟨mp9, mp10, s3, ρ, rfl, hI78z, H⟩
 obtain ⟨m80z, lt81z, x82z, hM, hN83z⟩ := M.e_iterN hI78z
 simp only [m_notes_web_lanes_b7] at hM
 clear hI78z
 refine sQ rfl <| sC (s3 : Int) (revised.length : Int) (decide ((s3 : Int) < (revised.length : Int))) rfl rfl rfl <| s_nil <| W.seq ?_
 refine W.cond (decide ((s3 : Int) < (revised.length : Int))) rfl (fun c84z => ?_) (fun c84z => ?_)
 ·replace hM := M.e_t hM c84z
  simp only [qz1, qz2, qz3, qz4, qz5, qz6, ne_eq, qz7] at c84z
  refine W.skip <| W.seq <| W.block <| sQ rfl ?_
  obtain ⟨sd85z, hM⟩ := M.e_gd hM
  refine s_val (x_ix (a := v_revised) (b := I (s3 : Int)) (v := vat v_revised 1 (Int.toNat (s3 : Int))) rfl rfl (Sl.ix (α := Int) T34.und T34.size hs_revised (by omega) (by omega))) <| s_val (x_ld (p := vat v_revised 1 (Int.toNat (s3 : Int))) (v := I (revised.getD s3 0)) rfl (ld_sc Sc3 (At.mono (Int_at hs_revised (i := (s3 : Int)) (by omega) (by omega)) (hC_revised.at H)))) <| sA (I (revised.getD s3 0)) rfl <| s_nil ?_
  refine W.scope ?_
  refine W.seq ?_
  refine W.label ?_
  refine W.block ?_
  obtain ⟨ex86z, hi87z, hk88z⟩ := M.e_bind hM
  obtain ⟨m0_, hi87z⟩ := M.e_iter hi87z
  refine W.loop (fun m σ W => ∃ (mp5 : Gate → Option Int) (mp6 : Int → Option Bool) (ρ : Env), σ = upds ρ [(7, Pz b_3), (13, I (revised.getD s3 0)), (77, v_revised), (78, I (revised.length : Int)), (79, I (s3 : Int))] ∧ M.iterN (m_notes_web_lanes_b6 w__list_works revised work s3) m (mp5, mp6) = some ex86z ∧ St w W [cBlk b_3 [Pz b_w_, v_revised, I work, .map (some b_1), .map (some b_2)] 180, cMap I B b_2 mp6, cMap encG I b_1 mp5] R) ?_ ?_
  ·exact ⟨_, mp9, mp10, _, upds_of _ _ ⟨rfl, rfl, rfl, rfl, rfl, trivial⟩, hi87z, H⟩
  rintro m91z σ w89z ⟨mp5, mp6, ρ, rfl, hI90z, H⟩
  obtain ⟨m92z, lt93z, x94z, hM, hN95z⟩ := M.e_iterN hI90z
  simp only [m_notes_web_lanes_b6] at hM
  clear hI90z
  refine W.block <| sQ rfl <| sM (Pz b_3) rfl <| s_val (x_nc (a := ⟨b_3, 0, none⟩) rfl) <| s_val (x_fa (a := Pz b_3) (v := Oz b_3 4) rfl (fa_blk (o := 0) Fd180_4 Sz178)) <| s_val (x_ld (p := Oz b_3 4) (v := .map (some b_2)) rfl (ldb_sc Sc178 (H.blk (k := 0) rfl) rfl)) ?_
  refine t_clearm (i := 1) (kenc := I) (venc := B) (f := mp6) (L' := [cBlk b_3 [Pz b_w_, v_revised, I work, .map (some b_1), .map (some b_2)] 180, cMap I B b_2 (fun _ => none), cMap encG I b_1 mp5]) (by rw [show (#[178] : Array TypeId)[0]?.bind Try.prog.underlying = Try.prog.underlying 178 from rfl, Try.underlying178]; rfl) H rfl rfl rfl ?_
  intro w96z H
  refine s_nil <| sQ rfl <| sM (Pz b_3) rfl <| sM (I (revised.getD s3 0)) rfl ?_
  obtain ⟨sd97z, hM⟩ := M.e_gd hM
  refine sR 2 (revised.getD s3 0) (2 * (revised.getD s3 0)) rfl rfl rfl (by omega) ?_
  obtain ⟨sd98z, hM⟩ := M.e_gd hM
  refine sR (2 * (revised.getD s3 0)) 1 ((2 * (revised.getD s3 0)) + 1) rfl rfl rfl (by omega) ?_
  obtain ⟨r100z, hx99z, hM⟩ := M.e_bind hM
  refine s_call cf126 [Pz b_3, I ((2 * (revised.getD s3 0)) + 1)] rfl (notes_lanes_goes_ok w__list_works revised work mp5 (fun _ => none) ((2 * (revised.getD s3 0)) + 1) (hC_w__list_works.app _) hs_w__list_works (h_b_w_.app _) (hC_revised.app _) hs_revised (Has.here (k := 0) rfl) hx99z _ (St.give (L := [cMap encG I b_1 mp5, cMap I B b_2 (fun _ => none), cBlk b_3 [Pz b_w_, v_revised, I work, .map (some b_1), .map (some b_2)] 180]) (A := [cMap encG I b_1 mp5, cMap I B b_2 (fun _ => none)]) (T := [cBlk b_3 [Pz b_w_, v_revised, I work, .map (some b_1), .map (some b_2)] 180]) (H.pick [2, 1, 0] (by decide) rfl) rfl)) ?_
  rintro vq w101z ⟨r4, q_b_n_room, q_b_n_met, hr102z, hvq, H2_⟩
  subst hr102z
  subst vq
  try dsimp only at hM
  replace H : St w w101z [cMap encG I b_1 q_b_n_room, cMap I B b_2 q_b_n_met, cBlk b_3 [Pz b_w_, v_revised, I work, .map (some b_1), .map (some b_2)] 180] R := H.pick [2, 1, 0] (by decide) rfl |>.back H2_ rfl
  clear H2_
  refine s_val (x_not (b := r4) rfl) <| s_nil ?_
  refine W.cond (!r4) rfl (fun c103z => ?_) (fun c103z => ?_)
  ·replace hM := M.e_t hM c103z
   refine W.exit ?_
   have hX104z := M.e_inr hM hN95z
   subst hX104z
   replace hM := hk88z
   try dsimp only at hM
   refine W.region rfl <| sR (s3 : Int) 1 ((s3 : Int) + 1) rfl rfl rfl (by omega) <| sM (I ((s3 : Int) + 1)) rfl <| s_nil ?_
   exact ⟨m80z, lt81z, q_b_n_room, q_b_n_met, s3 + 1, _, upds_of _ _ ⟨rfl, rfl, rfl, rfl, trivial⟩, M.e_inl hM hN83z, (H.pick [2, 1, 0] (by decide) rfl)⟩
  replace hM := M.e_f hM c103z
  refine W.skip ?_
  exact ⟨m92z, lt93z, q_b_n_room, q_b_n_met, _, upds_of _ _ ⟨rfl, rfl, rfl, rfl, rfl, trivial⟩, M.e_inl hM hN95z, (H.pick [2, 1, 0] (by decide) rfl)⟩
 replace hM := M.e_f hM c84z
 simp only [qz1, qz2, qz3, qz4, qz5, qz6, ne_eq, qz7] at c84z
 refine W.exit ?_
 have hX105z := M.e_inr hM hN83z
 subst hX105z
 replace hM := hk76z
 try dsimp only at hM
 refine sQ rfl <| sM (Pz b_3) rfl <| sA (Pz b_3) rfl <| s_nil ?_
 refine W.ret ?_
 have hr_ := M.e_pure hM
 exact ⟨_, resE_tmp rfl, ⟨work, mp9, mp10, b_3, b_1, b_2, hr_, rfl, (H.pick [0, 2, 1] (by decide) rfl)⟩⟩

def m_notes_full (w_ : List Work) (revised : List Int) (work : Int) : M (Int ⊕ (Int × (Gate → Option Int) × (Int → Option Bool) × Int)) :=
  M.bind (m_notes_kept w_ revised work) fun x_ => match x_ with
  | (.inl r1) => (
  bif r1 != 0 then (
  M.pure (.inl r1))
  else (
  M.fail))
  | (.inr r12) => (
  bif r12 != 0 then (
  M.pure (.inl r12))
  else (
  M.bind (m_slices_ContainsFunc_int revised (fun xqz => m_notes_full_1 xqz w_ work)) fun r2 =>
  bif r2 then (
  M.pure (.inl 5))
  else (
  M.bind (m_notes_web_lanes w_ revised work) fun (r22, r3, r4) =>
  M.pure (.inr (r22, r3, r4, 0)))))
theorem notes_full_ok {R : List Chunk} {C_w_ : Cells} {v_w_ : Value} {C_revised : Cells} {v_revised : Value} (w_ : List Work) (revised : List Int) (work : Int) (hC_w_ : Reads R C_w_) (hs_w_ : Sl C_w_ v_w_ w_) (hC_revised : Reads R C_revised) (hs_revised : Sl C_revised v_revised revised) {r : (Int ⊕ (Int × (Gate → Option Int) × (Int → Option Bool) × Int))} (hM : (m_notes_full w_ revised work).Ends r) (w : World) (H : St w w [] R) : Ret Try.prog 125 #[v_w_, v_revised, I work] w fun v w' => (∃ (y0 : Int), (.inl y0) = r ∧ v = .tuple #[.pointer none, I y0] ∧ St w w' [] R) ∨ (∃ (y0 : Int) (y1 : Gate → Option Int) (y2 : Int → Option Bool) (y3 : Int) (nb0 : Nat) (nb1 : Nat) (Bs2 : Base) (nb3 : Nat) (nb4 : Nat), (.inr (y0, y1, y2, y3)) = r ∧ v = .tuple #[Pz nb0, I y3] ∧ St w w' [cBlk nb0 [Pz nb1, v_revised, I y0, .map (some nb3), .map (some nb4)] 180, cRo Bs2, cMap encG I nb3 y1, cMap I B nb4 y2] R ∧ (∀ W, (cRo Bs2).ok W → W.heap[nb1]? = some (.cells [v_w_].toArray 187 (0, 0)))) := by
 refine ret_of_W Try.func125 rfl rfl rfl ?_
 refine sQ rfl ?_
 refine t_box (v := I work) (cs := [I work]) H rfl rfl ?_
 intro b_1 w1z H
 refine sA (.pointer none) rfl <| sA (I 0) rfl <| s_nil <| sQ rfl <| sM v_w_ rfl <| sM v_revised rfl <| s_val (x_ld (p := Pz b_1) (v := I work) rfl (ldb_sc Sc3 (H.blk (k := 0) rfl) rfl)) ?_
 obtain ⟨r3z, hx2z, hM⟩ := M.e_bind hM
 refine s_call cf116 [v_w_, v_revised, I work] rfl (notes_kept_ok w_ revised work (hC_w_.app _) hs_w_ (hC_revised.app _) hs_revised hx2z _ (St.give (T := [cBlk b_1 [I work] 3]) H rfl)) ?_
 rintro vq w4z (⟨r1, hr5z, hvq, H2_⟩ | ⟨r12, nb0_2, Bs1_3, hr6z, hvq, H2_, hf7z⟩)
 ·subst hr5z
  subst vq
  try dsimp only at hM
  replace H : St w w4z [cBlk b_1 [I work] 3] R := H.back H2_ rfl
  clear H2_
  refine sM (.tuple #[.pointer none, I r1]) rfl <| sX [.pointer none, I r1] (.pointer none) rfl rfl <| sX [.pointer none, I r1] (I r1) rfl rfl ?_
  refine t_alloc (cs := [.pointer none]) H Al127 rfl ?_
  intro b_4 w8z H
  refine t_st (k := 0) (b := b_4) (off := 0) (cs := [.pointer none]) (vs := [.pointer none]) (cs' := [.pointer none]) (v := .pointer none) (L' := [cBlk b_4 [.pointer none] 127, cBlk b_1 [I work] 3]) H rfl rfl rfl Sz127 rfl rfl rfl rfl rfl rfl ?_
  intro w9z H
  refine sA (I r1) rfl <| s_nil <| W.seq <| W.block <| sQ rfl <| sM (I r1) rfl <| sC r1 0 (r1 != 0) rfl rfl rfl <| sA (B (r1 != 0)) rfl <| s_nil ?_
  refine W.cond (r1 != 0) rfl (fun c10z => ?_) (fun c10z => ?_)
  ·replace hM := M.e_t hM c10z
   simp only [qz1, qz2, qz3, qz4, qz5, qz6, ne_eq, qz7] at c10z
   refine sQ rfl <| sM (I r1) rfl <| sA (.pointer none) rfl <| sA (I r1) rfl <| s_nil ?_
   refine W.ret ?_
   have hr_ := M.e_pure hM
   exact ⟨_, resE_tmp2 rfl, .inl (⟨r1, hr_, rfl, (H.pick [] (by decide) rfl)⟩)⟩
  replace hM := M.e_f hM c10z
  simp only [qz1, qz2, qz3, qz4, qz5, qz6, ne_eq, qz7] at c10z
  refine sQ rfl <| sM v_revised rfl <| s_val (x_mf (fs := []) (cs := [Pz b_4, Pz b_1]) rfl rfl) ?_
  exact (M.e_fail hM).elim
 subst hr6z
 subst vq
 try dsimp only at hM
 replace H : St w w4z [cRo Bs1_3, cBlk b_1 [I work] 3] R := H.back H2_ rfl
 clear H2_
 refine sM (.tuple #[Pz nb0_2, I r12]) rfl <| sX [Pz nb0_2, I r12] (Pz nb0_2) rfl rfl <| sX [Pz nb0_2, I r12] (I r12) rfl rfl ?_
 refine t_alloc (cs := [.pointer none]) H Al127 rfl ?_
 intro b_4 w11z H
 refine t_st (k := 0) (b := b_4) (off := 0) (cs := [.pointer none]) (vs := [Pz nb0_2]) (cs' := [Pz nb0_2]) (v := Pz nb0_2) (L' := [cBlk b_4 [Pz nb0_2] 127, cRo Bs1_3, cBlk b_1 [I work] 3]) H rfl rfl rfl Sz127 rfl rfl rfl rfl rfl rfl ?_
 intro w12z H
 refine sA (I r12) rfl <| s_nil <| W.seq <| W.block <| sQ rfl <| sM (I r12) rfl <| sC r12 0 (r12 != 0) rfl rfl rfl <| sA (B (r12 != 0)) rfl <| s_nil ?_
 refine W.cond (r12 != 0) rfl (fun c13z => ?_) (fun c13z => ?_)
 ·replace hM := M.e_t hM c13z
  simp only [qz1, qz2, qz3, qz4, qz5, qz6, ne_eq, qz7] at c13z
  refine sQ rfl <| sM (I r12) rfl <| sA (.pointer none) rfl <| sA (I r12) rfl <| s_nil ?_
  refine W.ret ?_
  have hr_ := M.e_pure hM
  exact ⟨_, resE_tmp2 rfl, .inl (⟨r12, hr_, rfl, (H.pick [] (by decide) rfl)⟩)⟩
 replace hM := M.e_f hM c13z
 simp only [qz1, qz2, qz3, qz4, qz5, qz6, ne_eq, qz7] at c13z
 refine sQ rfl <| sM v_revised rfl <| s_val (x_mf (fs := []) (cs := [Pz b_4, Pz b_1]) rfl rfl) ?_
 obtain ⟨r15z, hx14z, hM⟩ := M.e_bind hM
 refine s_call cf48 [v_revised, .func (.func 159) #[] #[Pz b_4, Pz b_1]] rfl (slices_ContainsFunc_int_ok revised (fun xqz => m_notes_full_1 xqz w_ work) (hC_revised.app _) hs_revised ⟨159, [Pz b_4, Pz b_1], rfl, cf159, fun wqz Lqz Cqz vqz xqz bqz hsqz hCqz hAqz hpqz => by obtain rfl := Arg.int hAqz; exact (notes_full_1_ok xqz w_ work (Reads.app (hC_w_.app _) _) hs_w_ (Has.app (Has.ro (k := 1) rfl hf7z) _) (Has.app (Has.here (k := 0) rfl) _) (Has.app (Has.here (k := 2) rfl) _) hpqz wqz (St.refl hsqz)).mono fun vqz wqz ⟨yqz, hrqz, hvqz, Hqz⟩ => by subst hrqz; exact ⟨hvqz, Hqz⟩⟩ hx14z _ (St.give (T := [cBlk b_4 [Pz nb0_2] 127, cRo Bs1_3, cBlk b_1 [I work] 3]) H rfl)) ?_
 rintro vq w16z ⟨r2, hr17z, hvq, H2_⟩
 subst hr17z
 subst vq
 try dsimp only at hM
 replace H : St w w16z [cBlk b_4 [Pz nb0_2] 127, cRo Bs1_3, cBlk b_1 [I work] 3] R := H.back H2_ rfl
 clear H2_
 refine sA (B r2) rfl <| s_nil ?_
 refine W.cond r2 rfl (fun c18z => ?_) (fun c18z => ?_)
 ·replace hM := M.e_t hM c18z
  refine sQ rfl <| sA (.pointer none) rfl <| sA (I 5) rfl <| s_nil ?_
  refine W.ret ?_
  have hr_ := M.e_pure hM
  exact ⟨_, resE_tmp2 rfl, .inl (⟨5, hr_, rfl, (H.pick [] (by decide) rfl)⟩)⟩
 replace hM := M.e_f hM c18z
 refine W.skip <| sQ rfl <| s_val (x_ld (p := Pz b_4) (v := Pz nb0_2) rfl (ldb_sc Sc127 (H.blk (k := 0) rfl) rfl)) <| sM v_revised rfl <| s_val (x_ld (p := Pz b_1) (v := I work) rfl (ldb_sc Sc3 (H.blk (k := 2) rfl) rfl)) ?_
 obtain ⟨r20z, hx19z, hM⟩ := M.e_bind hM
 refine s_call cf160 [Pz nb0_2, v_revised, I work] rfl (notes_web_lanes_ok w_ revised work (hC_w_.app _) hs_w_ (Has.ro (k := 1) rfl hf7z) (hC_revised.app _) hs_revised hx19z _ (St.give (T := [cBlk b_4 [Pz nb0_2] 127, cRo Bs1_3, cBlk b_1 [I work] 3]) H rfl)) ?_
 rintro vq w21z ⟨r22, r3, r4, nb0_5, nb1_6, nb2_7, hr22z, hvq, H2_⟩
 subst hr22z
 subst vq
 try dsimp only at hM
 replace H : St w w21z [cBlk nb0_5 [Pz nb0_2, v_revised, I r22, .map (some nb1_6), .map (some nb2_7)] 180, cMap encG I nb1_6 r3, cMap I B nb2_7 r4, cBlk b_4 [Pz nb0_2] 127, cRo Bs1_3, cBlk b_1 [I work] 3] R := H.back H2_ rfl
 clear H2_
 refine sA (Pz nb0_5) rfl <| sA (I 0) rfl <| s_nil ?_
 refine W.ret ?_
 have hr_ := M.e_pure hM
 exact ⟨_, resE_tmp2 rfl, .inr (⟨r22, r3, r4, 0, nb0_5, nb0_2, Bs1_3, nb1_6, nb2_7, hr_, rfl, (H.pick [0, 4, 1, 2] (by decide) rfl), hf7z⟩)⟩

def m_notes_Freeze_b0 (w_ : List Work) (revised : List Int) (r02 : Int) : ((Gate → Option Int) × (Int → Option Bool) × Nat) → M (((Gate → Option Int) × (Int → Option Bool) × Nat) ⊕ ((Gate → Option Int) × (Int → Option Bool))) := fun (mp, mp2, s) =>
  bif decide ((s : Int) < (revised.length : Int)) then (
  M.grd (decide ((s : Int) < (revised.length : Int))) <|
  M.grd (decide ((-9223372036854775808 : Int) ≤ (2 * (revised.getD s 0))) && decide ((2 * (revised.getD s 0)) ≤ (9223372036854775807 : Int))) <|
  M.grd (decide ((-9223372036854775808 : Int) ≤ ((2 * (revised.getD s 0)) + 1)) && decide (((2 * (revised.getD s 0)) + 1) ≤ (9223372036854775807 : Int))) <|
  M.bind (m_notes_lanes_goes w_ revised r02 mp mp2 ((2 * (revised.getD s 0)) + 1)) fun (r2, q_b_n_room, q_b_n_met) =>
  M.pure (.inl (q_b_n_room, q_b_n_met, s + 1)))
  else (
  M.pure (.inr (mp, mp2)))
def m_notes_Freeze_b1 (w_ : List Work) (revised : List Int) (r02 : Int) (mp3 : Gate → Option Int) (mp4 : Int → Option Bool) : (Nat × (List Int)) → M ((Nat × (List Int)) ⊕ ((List Int) × (List Int))) := fun (s2, l) =>
  bif decide ((s2 : Int) < (w_.length : Int)) then (
  M.bind (m_notes_lanes_inner w_ revised r02 mp3 mp4 (s2 : Int)) fun r3 =>
  M.grd ((!r3 || (decide ((-9223372036854775808 : Int) ≤ (2 * (s2 : Int))) && decide ((2 * (s2 : Int)) ≤ (9223372036854775807 : Int))))) <|
  M.grd ((!(r3 && ((mp4 (2 * (s2 : Int))).getD false)) || (decide ((-9223372036854775808 : Int) ≤ (2 * (s2 : Int))) && decide ((2 * (s2 : Int)) ≤ (9223372036854775807 : Int))))) <|
  M.grd ((!(r3 && ((mp4 (2 * (s2 : Int))).getD false)) || (decide ((-9223372036854775808 : Int) ≤ ((2 * (s2 : Int)) + 1)) && decide (((2 * (s2 : Int)) + 1) ≤ (9223372036854775807 : Int))))) <|
  bif ((r3 && ((mp4 (2 * (s2 : Int))).getD false)) && (!((mp4 ((2 * (s2 : Int)) + 1 : Int)).getD false))) then (
  M.grd (decide ((l.length + ([(s2 : Int)]).length) * 8 ≤ 140737488355328)) <|
  M.pure (.inl (s2 + 1, l ++ ([(s2 : Int)]))))
  else (
  M.pure (.inl (s2 + 1, l))))
  else (
  M.pure (.inr (l, l)))
def m_notes_Freeze (w_ : List Work) (revised : List Int) (work : Int) : M ((List Int) × Int) :=
  M.bind (m_notes_full w_ revised work) fun x_ => match x_ with
  | (.inl r1) => (
  bif r1 != 0 then (
  M.pure (([]), r1))
  else (
  M.fail))
  | (.inr (r02, r03, r04, r12)) => (
  bif r12 != 0 then (
  M.pure (([]), r12))
  else (
  M.bind (M.iter (m_notes_Freeze_b0 w_ revised r02) (r03, (fun _ => none), 0)) fun (mp3, mp4) =>
  M.bind (M.iter (m_notes_Freeze_b1 w_ revised r02 mp3 mp4) (0, [])) fun (l2, l3) =>
  M.pure (l3, 0)))
theorem notes_Freeze_ok {R : List Chunk} {C_w_ : Cells} {v_w_ : Value} {C_revised : Cells} {v_revised : Value} (w_ : List Work) (revised : List Int) (work : Int) (hC_w_ : Reads R C_w_) (hs_w_ : Sl C_w_ v_w_ w_) (hC_revised : Reads R C_revised) (hs_revised : Sl C_revised v_revised revised) {r : ((List Int) × Int)} (hM : (m_notes_Freeze w_ revised work).Ends r) (w : World) (H : St w w [] R) : Ret Try.prog 64 #[v_w_, v_revised, I work] w fun v w' => ∃ (y0 : List Int) (y1 : Int) (u0 : Value), (y0, y1) = r ∧ v = .tuple #[u0, I y1] ∧ St w w' [cOwn (α := Int) 3 u0 y0] R := by
 refine ret_of_W Try.func64 rfl rfl rfl ?_
 refine sQ rfl <| sA (.slice none 0 0) rfl <| sA (I 0) rfl <| s_nil <| sQ rfl <| sM v_w_ rfl <| sM v_revised rfl <| sM (I work) rfl ?_
 obtain ⟨r2z, hx1z, hM⟩ := M.e_bind hM
 refine s_call cf125 [v_w_, v_revised, I work] rfl (notes_full_ok w_ revised work (hC_w_.app _) hs_w_ (hC_revised.app _) hs_revised hx1z _ (St.give (T := []) H rfl)) ?_
 rintro vq w3z (⟨r1, hr4z, hvq, H2_⟩ | ⟨r02, r03, r04, r12, nb0_1, nb1_2, Bs2_3, nb3_4, nb4_5, hr5z, hvq, H2_, hf6z⟩)
 ·subst hr4z
  subst vq
  try dsimp only at hM
  replace H : St w w3z [] R := H.back H2_ rfl
  clear H2_
  refine sM (.tuple #[.pointer none, I r1]) rfl <| sX [.pointer none, I r1] (.pointer none) rfl rfl <| sX [.pointer none, I r1] (I r1) rfl rfl <| sA (.pointer none) rfl <| sA (I r1) rfl <| s_nil <| W.seq <| sQ rfl <| sM (I r1) rfl <| sC r1 0 (r1 != 0) rfl rfl rfl <| s_nil ?_
  refine W.cond (r1 != 0) rfl (fun c7z => ?_) (fun c7z => ?_)
  ·replace hM := M.e_t hM c7z
   simp only [qz1, qz2, qz3, qz4, qz5, qz6, ne_eq, qz7] at c7z
   refine sQ rfl <| sM (I r1) rfl <| sA (.slice none 0 0) rfl <| sA (I r1) rfl <| s_nil ?_
   refine W.ret ?_
   have hr_ := M.e_pure hM
   replace H : St w w3z [cOwn (α := Int) 3 (.slice none 0 0) ([])] R := H.nilOwn (α := Int) 3
   exact ⟨_, resE_tmp2 rfl, ⟨([]), r1, (.slice none 0 0), hr_, rfl, H⟩⟩
  replace hM := M.e_f hM c7z
  simp only [qz1, qz2, qz3, qz4, qz5, qz6, ne_eq, qz7] at c7z
  refine W.skip <| sQ rfl <| sM (.pointer none) rfl ?_
  exact (M.e_fail hM).elim
 subst hr5z
 subst vq
 try dsimp only at hM
 replace H : St w w3z [cBlk nb0_1 [Pz nb1_2, v_revised, I r02, .map (some nb3_4), .map (some nb4_5)] 180, cRo Bs2_3, cMap encG I nb3_4 r03, cMap I B nb4_5 r04] R := H.back H2_ rfl
 clear H2_
 refine sM (.tuple #[Pz nb0_1, I r12]) rfl <| sX [Pz nb0_1, I r12] (Pz nb0_1) rfl rfl <| sX [Pz nb0_1, I r12] (I r12) rfl rfl <| sA (Pz nb0_1) rfl <| sA (I r12) rfl <| s_nil <| W.seq <| sQ rfl <| sM (I r12) rfl <| sC r12 0 (r12 != 0) rfl rfl rfl <| s_nil ?_
 refine W.cond (r12 != 0) rfl (fun c8z => ?_) (fun c8z => ?_)
 ·replace hM := M.e_t hM c8z
  simp only [qz1, qz2, qz3, qz4, qz5, qz6, ne_eq, qz7] at c8z
  refine sQ rfl <| sM (I r12) rfl <| sA (.slice none 0 0) rfl <| sA (I r12) rfl <| s_nil ?_
  refine W.ret ?_
  have hr_ := M.e_pure hM
  replace H : St w w3z [cOwn (α := Int) 3 (.slice none 0 0) ([]), cBlk nb0_1 [Pz nb1_2, v_revised, I r02, .map (some nb3_4), .map (some nb4_5)] 180, cRo Bs2_3, cMap encG I nb3_4 r03, cMap I B nb4_5 r04] R := H.nilOwn (α := Int) 3
  exact ⟨_, resE_tmp2 rfl, ⟨([]), r12, (.slice none 0 0), hr_, rfl, (H.pick [0] (by decide) rfl)⟩⟩
 replace hM := M.e_f hM c8z
 simp only [qz1, qz2, qz3, qz4, qz5, qz6, ne_eq, qz7] at c8z
 refine W.skip <| sQ rfl <| sM (Pz nb0_1) rfl <| s_val (x_nc (a := ⟨nb0_1, 0, none⟩) rfl) <| s_val (x_fa (a := Pz nb0_1) (v := Oz nb0_1 4) rfl (fa_blk (o := 0) Fd180_4 Sz178)) <| s_val (x_ld (p := Oz nb0_1 4) (v := .map (some nb4_5)) rfl (ldb_sc Sc178 (H.blk (k := 0) rfl) rfl)) ?_
 refine t_clearm (i := 3) (kenc := I) (venc := B) (f := r04) (L' := [cBlk nb0_1 [Pz nb1_2, v_revised, I r02, .map (some nb3_4), .map (some nb4_5)] 180, cRo Bs2_3, cMap encG I nb3_4 r03, cMap I B nb4_5 (fun _ => none)]) (by rw [show (#[178] : Array TypeId)[0]?.bind Try.prog.underlying = Try.prog.underlying 178 from rfl, Try.underlying178]; rfl) H rfl rfl rfl ?_
 intro w9z H
 refine s_nil <| W.seq <| sQ rfl <| sM v_revised rfl ?_
 have hl10z := (hs_revised).len_le
 refine s_val (x_lenS T34.und rfl hs_revised) <| sM (I 0) rfl <| s_nil <| W.block ?_
 obtain ⟨ex11z, hi12z, hk13z⟩ := M.e_bind hM
 obtain ⟨m0_, hi12z⟩ := M.e_iter hi12z
 refine W.loop (fun m σ W => ∃ (mp : Gate → Option Int) (mp2 : Int → Option Bool) (s : Nat) (ρ : Env), σ = upds ρ [(0, v_w_), (8, Pz nb0_1), (28, v_revised), (29, I (revised.length : Int)), (30, I (s : Int))] ∧ M.iterN (m_notes_Freeze_b0 w_ revised r02) m (mp, mp2, s) = some ex11z ∧ St w W [cBlk nb0_1 [Pz nb1_2, v_revised, I r02, .map (some nb3_4), .map (some nb4_5)] 180, cRo Bs2_3, cMap encG I nb3_4 mp, cMap I B nb4_5 mp2] R) ?_ ?_
 ·exact ⟨_, r03, (fun _ => none), 0, _, upds_of _ _ ⟨rfl, rfl, rfl, rfl, rfl, trivial⟩, hi12z, H⟩
 rintro m16z σ w14z ⟨mp, mp2, s, ρ, rfl, hI15z, H⟩
 obtain ⟨m17z, lt18z, x19z, hM, hN20z⟩ := M.e_iterN hI15z
 simp only [m_notes_Freeze_b0] at hM
 clear hI15z
 refine sQ rfl <| sC (s : Int) (revised.length : Int) (decide ((s : Int) < (revised.length : Int))) rfl rfl rfl <| s_nil <| W.seq ?_
 refine W.cond (decide ((s : Int) < (revised.length : Int))) rfl (fun c21z => ?_) (fun c21z => ?_)
 ·replace hM := M.e_t hM c21z
  simp only [qz1, qz2, qz3, qz4, qz5, qz6, ne_eq, qz7] at c21z
  refine W.skip <| W.seq <| W.block <| sQ rfl ?_
  obtain ⟨sd22z, hM⟩ := M.e_gd hM
  refine s_val (x_ix (a := v_revised) (b := I (s : Int)) (v := vat v_revised 1 (Int.toNat (s : Int))) rfl rfl (Sl.ix (α := Int) T34.und T34.size hs_revised (by omega) (by omega))) <| s_val (x_ld (p := vat v_revised 1 (Int.toNat (s : Int))) (v := I (revised.getD s 0)) rfl (ld_sc Sc3 (At.mono (Int_at hs_revised (i := (s : Int)) (by omega) (by omega)) (hC_revised.at H)))) <| sA (I (revised.getD s 0)) rfl <| s_nil <| W.region rfl <| sM (Pz nb0_1) rfl <| sM (I (revised.getD s 0)) rfl ?_
  obtain ⟨sd23z, hM⟩ := M.e_gd hM
  refine sR 2 (revised.getD s 0) (2 * (revised.getD s 0)) rfl rfl rfl (by omega) ?_
  obtain ⟨sd24z, hM⟩ := M.e_gd hM
  refine sR (2 * (revised.getD s 0)) 1 ((2 * (revised.getD s 0)) + 1) rfl rfl rfl (by omega) ?_
  obtain ⟨r26z, hx25z, hM⟩ := M.e_bind hM
  refine s_call cf126 [Pz nb0_1, I ((2 * (revised.getD s 0)) + 1)] rfl (notes_lanes_goes_ok w_ revised r02 mp mp2 ((2 * (revised.getD s 0)) + 1) (hC_w_.app _) hs_w_ (Has.ro (k := 1) rfl hf6z) (hC_revised.app _) hs_revised (Has.here (k := 0) rfl) hx25z _ (St.give (L := [cMap encG I nb3_4 mp, cMap I B nb4_5 mp2, cBlk nb0_1 [Pz nb1_2, v_revised, I r02, .map (some nb3_4), .map (some nb4_5)] 180, cRo Bs2_3]) (A := [cMap encG I nb3_4 mp, cMap I B nb4_5 mp2]) (T := [cBlk nb0_1 [Pz nb1_2, v_revised, I r02, .map (some nb3_4), .map (some nb4_5)] 180, cRo Bs2_3]) (H.pick [2, 3, 0, 1] (by decide) rfl) rfl)) ?_
  rintro vq w27z ⟨r2, q_b_n_room, q_b_n_met, hr28z, hvq, H2_⟩
  subst hr28z
  subst vq
  try dsimp only at hM
  replace H : St w w27z [cMap encG I nb3_4 q_b_n_room, cMap I B nb4_5 q_b_n_met, cBlk nb0_1 [Pz nb1_2, v_revised, I r02, .map (some nb3_4), .map (some nb4_5)] 180, cRo Bs2_3] R := H.pick [2, 3, 0, 1] (by decide) rfl |>.back H2_ rfl
  clear H2_
  refine s_nil <| W.region rfl <| sR (s : Int) 1 ((s : Int) + 1) rfl rfl rfl (by omega) <| sM (I ((s : Int) + 1)) rfl <| s_nil ?_
  exact ⟨m17z, lt18z, q_b_n_room, q_b_n_met, s + 1, _, upds_of _ _ ⟨rfl, rfl, rfl, rfl, rfl, trivial⟩, M.e_inl hM hN20z, (H.pick [2, 3, 0, 1] (by decide) rfl)⟩
 replace hM := M.e_f hM c21z
 simp only [qz1, qz2, qz3, qz4, qz5, qz6, ne_eq, qz7] at c21z
 refine W.exit ?_
 have hX29z := M.e_inr hM hN20z
 subst hX29z
 replace hM := hk13z
 try dsimp only at hM
 refine sQ rfl <| sA (.slice none 0 0) rfl <| s_nil <| W.seq <| sQ rfl <| sM v_w_ rfl ?_
 have hl30z := (hs_w_).len_le
 refine s_val (x_lenS T22.und rfl hs_w_) <| sM (I 0) rfl <| s_nil <| W.block ?_
 replace H : St w w14z [cOwn (α := Int) 3 (.slice none 0 0) ([]), cBlk nb0_1 [Pz nb1_2, v_revised, I r02, .map (some nb3_4), .map (some nb4_5)] 180, cRo Bs2_3, cMap encG I nb3_4 mp, cMap I B nb4_5 mp2] R := H.nilOwn (α := Int) 3
 obtain ⟨ex31z, hi32z, hk33z⟩ := M.e_bind hM
 obtain ⟨m0_, hi32z⟩ := M.e_iter hi32z
 refine W.loop (fun m σ W => ∃ (s2 : Nat) (l : List Int) (v_l : Value) (ρ : Env), σ = upds ρ [(8, Pz nb0_1), (12, v_l), (41, I (w_.length : Int)), (42, I (s2 : Int))] ∧ M.iterN (m_notes_Freeze_b1 w_ revised r02 mp mp2) m (s2, l) = some ex31z ∧ St w W [cOwn (α := Int) 3 v_l l, cBlk nb0_1 [Pz nb1_2, v_revised, I r02, .map (some nb3_4), .map (some nb4_5)] 180, cRo Bs2_3, cMap encG I nb3_4 mp, cMap I B nb4_5 mp2] R) ?_ ?_
 ·exact ⟨_, 0, [], (.slice none 0 0), _, upds_of _ _ ⟨rfl, rfl, rfl, rfl, trivial⟩, hi32z, H⟩
 rintro m36z σ w34z ⟨s2, l, v_l, ρ, rfl, hI35z, H⟩
 obtain ⟨m37z, lt38z, x39z, hM, hN40z⟩ := M.e_iterN hI35z
 simp only [m_notes_Freeze_b1] at hM
 clear hI35z
 refine sQ rfl <| sC (s2 : Int) (w_.length : Int) (decide ((s2 : Int) < (w_.length : Int))) rfl rfl rfl <| s_nil <| W.seq ?_
 refine W.cond (decide ((s2 : Int) < (w_.length : Int))) rfl (fun c41z => ?_) (fun c41z => ?_)
 ·replace hM := M.e_t hM c41z
  simp only [qz1, qz2, qz3, qz4, qz5, qz6, ne_eq, qz7] at c41z
  refine W.skip <| W.seq <| W.block <| sQ rfl <| sM (I (s2 : Int)) rfl <| sA (I (s2 : Int)) rfl <| s_nil <| sQ rfl <| sM (Pz nb0_1) rfl <| sM (I (s2 : Int)) rfl ?_
  obtain ⟨r43z, hx42z, hM⟩ := M.e_bind hM
  refine s_call cf127 [Pz nb0_1, I (s2 : Int)] rfl (notes_lanes_inner_ok w_ revised r02 mp mp2 (s2 : Int) (hC_w_.app _) hs_w_ (Has.ro (k := 2) rfl hf6z) (hC_revised.app _) hs_revised (Has.here (k := 3) rfl) (Has.here (k := 4) rfl) (Has.here (k := 1) rfl) hx42z _ (St.give (T := [cOwn (α := Int) 3 v_l l, cBlk nb0_1 [Pz nb1_2, v_revised, I r02, .map (some nb3_4), .map (some nb4_5)] 180, cRo Bs2_3, cMap encG I nb3_4 mp, cMap I B nb4_5 mp2]) H rfl)) ?_
  rintro vq w44z ⟨r3, hr45z, hvq, H2_⟩
  subst hr45z
  subst vq
  try dsimp only at hM
  replace H : St w w44z [cOwn (α := Int) 3 v_l l, cBlk nb0_1 [Pz nb1_2, v_revised, I r02, .map (some nb3_4), .map (some nb4_5)] 180, cRo Bs2_3, cMap encG I nb3_4 mp, cMap I B nb4_5 mp2] R := H.back H2_ rfl
  clear H2_
  refine sM (B r3) rfl <| g_val r3 (gy_t rfl) (fun hg => x_mv (v := Pz nb0_1) rfl) <| g_val r3 (gy_t rfl) (fun hg => x_nc (a := ⟨nb0_1, 0, none⟩) (gd_of (c := r3) hg (Pz nb0_1))) <| g_val r3 (gy_t rfl) (fun hg => x_fa (a := Pz nb0_1) (v := Oz nb0_1 4) (gd_of (c := r3) hg (Pz nb0_1)) (fa_blk (o := 0) Fd180_4 Sz178)) <| g_val r3 (gy_t rfl) (fun hg => x_ld (p := Oz nb0_1 4) (v := .map (some nb4_5)) (gd_of (c := r3) hg (Oz nb0_1 4)) (ldb_sc Sc178 (H.blk (k := 1) rfl) rfl)) <| g_val r3 (gy_t rfl) (fun hg => x_mv (v := I (s2 : Int)) rfl) ?_
  obtain ⟨sd46z, hM⟩ := M.e_grd hM
  replace sd46z := M.imp_of sd46z
  simp only [Bool.and_eq_true, decide_eq_true_eq] at sd46z
  refine g_val r3 (gy_t rfl) (fun hg => x_ari (a := 2) (b := (s2 : Int)) (r := 2 * (s2 : Int)) rfl (gd_of (c := r3) hg (I (s2 : Int))) rfl (by have h1_ := sd46z.resolve_left (by rw [hg]; decide); first | exact h1_ | exact h1_.1 | exact h1_.2 | omega | (have hx_ := hg; simp at hx_; omega))) <| g_val r3 (gy_t rfl) (fun hg => q_look (kenc := I) (venc := B) (f := mp2) (k := (2 * (s2 : Int))) (v := B ((mp2 (2 * (s2 : Int))).getD false)) keyIntB Try.underlying178 Al4 (by exact (gd_of (c := r3) hg (.map (some nb4_5)))) (by exact (gd_of (c := r3) hg (I (2 * (s2 : Int))))) (H.get (k := 4) rfl) false (by rw [if_neg (by decide), bool_val])) <| s_val (x_pand (b := r3) (r := (mp2 (2 * (s2 : Int))).getD false) rfl (fun hb => gd_of (c := r3) (by first | exact hb | (rw [hb]; rfl) | simp_all) (B ((mp2 (2 * (s2 : Int))).getD false))) rfl) <| sM (B (r3 && ((mp2 (2 * (s2 : Int))).getD false))) rfl <| g_val (r3 && ((mp2 (2 * (s2 : Int))).getD false)) (gy_t rfl) (fun hg => x_mv (v := Pz nb0_1) rfl) <| g_val (r3 && ((mp2 (2 * (s2 : Int))).getD false)) (gy_t rfl) (fun hg => x_nc (a := ⟨nb0_1, 0, none⟩) (gd_of (c := (r3 && ((mp2 (2 * (s2 : Int))).getD false))) hg (Pz nb0_1))) <| g_val (r3 && ((mp2 (2 * (s2 : Int))).getD false)) (gy_t rfl) (fun hg => x_fa (a := Pz nb0_1) (v := Oz nb0_1 4) (gd_of (c := (r3 && ((mp2 (2 * (s2 : Int))).getD false))) hg (Pz nb0_1)) (fa_blk (o := 0) Fd180_4 Sz178)) <| g_val (r3 && ((mp2 (2 * (s2 : Int))).getD false)) (gy_t rfl) (fun hg => x_ld (p := Oz nb0_1 4) (v := .map (some nb4_5)) (gd_of (c := (r3 && ((mp2 (2 * (s2 : Int))).getD false))) hg (Oz nb0_1 4)) (ldb_sc Sc178 (H.blk (k := 1) rfl) rfl)) <| g_val (r3 && ((mp2 (2 * (s2 : Int))).getD false)) (gy_t rfl) (fun hg => x_mv (v := I (s2 : Int)) rfl) ?_
  obtain ⟨sd47z, hM⟩ := M.e_grd hM
  replace sd47z := M.imp_of sd47z
  simp only [Bool.and_eq_true, decide_eq_true_eq] at sd47z
  refine g_val (r3 && ((mp2 (2 * (s2 : Int))).getD false)) (gy_t rfl) (fun hg => x_ari (a := 2) (b := (s2 : Int)) (r := 2 * (s2 : Int)) rfl (gd_of (c := (r3 && ((mp2 (2 * (s2 : Int))).getD false))) hg (I (s2 : Int))) rfl (by have h1_ := sd47z.resolve_left (by rw [hg]; decide); first | exact h1_ | exact h1_.1 | exact h1_.2 | omega | (have hx_ := hg; simp at hx_; omega))) ?_
  obtain ⟨sd48z, hM⟩ := M.e_grd hM
  replace sd48z := M.imp_of sd48z
  simp only [Bool.and_eq_true, decide_eq_true_eq] at sd48z
  refine g_val (r3 && ((mp2 (2 * (s2 : Int))).getD false)) (gy_t rfl) (fun hg => x_ari (a := 2 * (s2 : Int)) (b := 1) (r := (2 * (s2 : Int)) + 1) (gd_of (c := (r3 && ((mp2 (2 * (s2 : Int))).getD false))) hg (I (2 * (s2 : Int)))) rfl rfl (by have h1_ := sd47z.resolve_left (by rw [hg]; decide); have h2_ := sd48z.resolve_left (by rw [hg]; decide); first | exact h1_ | exact h1_.1 | exact h1_.2 | exact h2_ | exact h2_.1 | exact h2_.2 | omega | (have hx_ := hg; simp at hx_; omega))) <| g_val (r3 && ((mp2 (2 * (s2 : Int))).getD false)) (gy_t rfl) (fun hg => q_look (kenc := I) (venc := B) (f := mp2) (k := ((2 * (s2 : Int)) + 1 : Int)) (v := B ((mp2 ((2 * (s2 : Int)) + 1 : Int)).getD false)) keyIntB Try.underlying178 Al4 (by exact (gd_of (c := (r3 && ((mp2 (2 * (s2 : Int))).getD false))) hg (.map (some nb4_5)))) (by exact (gd_of (c := (r3 && ((mp2 (2 * (s2 : Int))).getD false))) hg (I ((2 * (s2 : Int)) + 1)))) (H.get (k := 4) rfl) false (by rw [if_neg (by decide), bool_val])) <| g_val (r3 && ((mp2 (2 * (s2 : Int))).getD false)) (gy_t rfl) (fun hg => x_not (b := (mp2 ((2 * (s2 : Int)) + 1 : Int)).getD false) (gd_of (c := (r3 && ((mp2 (2 * (s2 : Int))).getD false))) hg (B ((mp2 ((2 * (s2 : Int)) + 1 : Int)).getD false)))) <| s_val (x_pand (b := (r3 && ((mp2 (2 * (s2 : Int))).getD false))) (r := !((mp2 ((2 * (s2 : Int)) + 1 : Int)).getD false)) rfl (fun hb => gd_of (c := (r3 && ((mp2 (2 * (s2 : Int))).getD false))) (by first | exact hb | (rw [hb]; rfl) | simp_all) (B (!((mp2 ((2 * (s2 : Int)) + 1 : Int)).getD false)))) rfl) <| s_nil ?_
  refine W.cond ((r3 && ((mp2 (2 * (s2 : Int))).getD false)) && (!((mp2 ((2 * (s2 : Int)) + 1 : Int)).getD false))) rfl (fun c49z => ?_) (fun c49z => ?_)
  ·replace hM := M.e_t hM c49z
   refine W.region rfl <| sM v_l rfl <| sM (I (s2 : Int)) rfl ?_
   refine t_bs (α := Int) T34 [I (s2 : Int)] [(s2 : Int)] H rfl (.cons rfl (Flat.rep_enc _ (s2 : Int)) <| .nil) rfl rfl rfl ?_
   intro v50z w51z H
   obtain ⟨sd52z, hM⟩ := M.e_gd hM
   refine t_app (α := Int) (k := 1) (l := l) (l2 := [(s2 : Int)]) (l' := l ++ ([(s2 : Int)])) (vy := v50z) T34 rfl H rfl rfl rfl (ownSl (H.get (k := 0) rfl)) (ownLe _ (H.get (k := 0) rfl)) (rfl) (by first | omega | (simp only [List.length_nil] at *; omega)) ?_
   intro v53z w54z H
   replace H : St w w54z [cOwn (α := Int) 3 v50z ([(s2 : Int)]), cOwn (α := Int) 3 v53z (l ++ ([(s2 : Int)])), cBlk nb0_1 [Pz nb1_2, v_revised, I r02, .map (some nb3_4), .map (some nb4_5)] 180, cRo Bs2_3, cMap encG I nb3_4 mp, cMap I B nb4_5 mp2] R := H
   refine sA v53z rfl <| s_nil <| W.region rfl <| sR (s2 : Int) 1 ((s2 : Int) + 1) rfl rfl rfl (by omega) <| sM (I ((s2 : Int) + 1)) rfl <| s_nil ?_
   exact ⟨m37z, lt38z, s2 + 1, l ++ ([(s2 : Int)]), v53z, _, upds_of _ _ ⟨rfl, rfl, rfl, rfl, trivial⟩, M.e_inl hM hN40z, (H.pick [1, 2, 3, 4, 5] (by decide) rfl)⟩
  replace hM := M.e_f hM c49z
  refine W.skip <| W.region rfl <| sR (s2 : Int) 1 ((s2 : Int) + 1) rfl rfl rfl (by omega) <| sM (I ((s2 : Int) + 1)) rfl <| s_nil ?_
  exact ⟨m37z, lt38z, s2 + 1, l, v_l, _, upds_of _ _ ⟨rfl, rfl, rfl, rfl, trivial⟩, M.e_inl hM hN40z, H⟩
 replace hM := M.e_f hM c41z
 simp only [qz1, qz2, qz3, qz4, qz5, qz6, ne_eq, qz7] at c41z
 refine W.exit ?_
 have hX55z := M.e_inr hM hN40z
 subst hX55z
 replace hM := hk33z
 try dsimp only at hM
 refine sQ rfl <| sM v_l rfl <| sA v_l rfl <| sA (I 0) rfl <| s_nil ?_
 refine W.ret ?_
 have hr_ := M.e_pure hM
 exact ⟨_, resE_tmp2 rfl, ⟨l, 0, v_l, hr_, rfl, (H.pick [0] (by decide) rfl)⟩⟩

def m_notes_Lines_1 (i : Int) (k : Int) (k0202 : List Work) (k021 : List Int) (k022 : Int) (k023 : Gate → Option Int) (k024 : Int → Option Bool) : M Bool :=
  M.grd (decide ((-9223372036854775808 : Int) ≤ (2 * k)) && decide ((2 * k) ≤ (9223372036854775807 : Int))) <|
  M.grd (decide ((-9223372036854775808 : Int) ≤ (2 * i)) && decide ((2 * i) ≤ (9223372036854775807 : Int))) <|
  M.grd (decide ((-9223372036854775808 : Int) ≤ ((2 * i) + 1)) && decide (((2 * i) + 1) ≤ (9223372036854775807 : Int))) <|
  M.pure (decide (0 < ((k023 (⟨(2 * k : Int), ((2 * i) + 1 : Int)⟩ : Gate)).getD 0)))
theorem notes_Lines_1_ok {R : List Chunk} {b_k0 : Nat} {b_k02 : Nat} {b_k020 : Nat} {C_k0202 : Cells} {v_k0202 : Value} {C_k021 : Cells} {v_k021 : Value} {b_k023 : Nat} {b_k024 : Nat} (i : Int) (k : Int) (k0202 : List Work) (k021 : List Int) (k022 : Int) (k023 : Gate → Option Int) (k024 : Int → Option Bool) (hC_k0202 : Reads R C_k0202) (hs_k0202 : Sl C_k0202 v_k0202 k0202) (h_b_k020 : Has R (cBlk b_k020 [v_k0202] 187)) (hC_k021 : Reads R C_k021) (hs_k021 : Sl C_k021 v_k021 k021) (h_b_k023 : Has R (cMap encG I b_k023 k023)) (h_b_k024 : Has R (cMap I B b_k024 k024)) (h_b_k02 : Has R (cBlk b_k02 [Pz b_k020, v_k021, I k022, .map (some b_k023), .map (some b_k024)] 180)) (h_b_k0 : Has R (cBlk b_k0 [Pz b_k02] 174)) {r : Bool} (hM : (m_notes_Lines_1 i k k0202 k021 k022 k023 k024).Ends r) (w : World) (H : St w w [] R) : Ret Try.prog 128 #[I i, I k, Pz b_k0] w fun v w' => ∃ (y0 : Bool), y0 = r ∧ v = B y0 ∧ St w w' [] R := by
 refine ret_of_W Try.func128 rfl rfl rfl ?_
 refine sQ rfl <| sA (B false) rfl <| s_nil <| sQ rfl <| s_val (x_ld (p := Pz b_k0) (v := Pz b_k02) rfl (ldb_sc Sc174 (h_b_k0.blk H) rfl)) <| s_val (x_nc (a := ⟨b_k02, 0, none⟩) rfl) <| s_val (x_fa (a := Pz b_k02) (v := Oz b_k02 3) rfl (fa_blk (o := 0) Fd180_3 Sz177)) <| s_val (x_ld (p := Oz b_k02 3) (v := .map (some b_k023)) rfl (ldb_sc Sc177 (h_b_k02.blk H) rfl)) <| sM (I k) rfl ?_
 obtain ⟨sd1z, hM⟩ := M.e_gd hM
 refine sR 2 k (2 * k) rfl rfl rfl (by omega) <| sM (I i) rfl ?_
 obtain ⟨sd2z, hM⟩ := M.e_gd hM
 refine sR 2 i (2 * i) rfl rfl rfl (by omega) ?_
 obtain ⟨sd3z, hM⟩ := M.e_gd hM
 refine sR (2 * i) 1 ((2 * i) + 1) rfl rfl rfl (by omega) <| s_val (x_bld (ps := [(0, I (2 * k)), (1, I ((2 * i) + 1))]) (zs := [I 0, I 0]) (L' := [I (2 * k), I ((2 * i) + 1)]) rfl Try.underlying182 Al182 rfl (Bd182 Try.underlying182) (.cons (cs := [I (2 * k)]) rfl rfl rfl rfl rfl <| .cons (cs := [I ((2 * i) + 1)]) rfl rfl rfl rfl rfl <| .nil)) <| s_val (q_look (kenc := encG) (venc := I) (f := k023) (k := (⟨(2 * k : Int), ((2 * i) + 1 : Int)⟩ : Gate)) (v := I ((k023 (⟨(2 * k : Int), ((2 * i) + 1 : Int)⟩ : Gate)).getD 0)) keyGate Try.underlying177 Al3 rfl rfl (h_b_k023.at H) false (by rw [if_neg (by decide), int_val])) <| sC ((k023 (⟨(2 * k : Int), ((2 * i) + 1 : Int)⟩ : Gate)).getD 0) 0 (decide (0 < ((k023 (⟨(2 * k : Int), ((2 * i) + 1 : Int)⟩ : Gate)).getD 0))) rfl rfl rfl <| sA (B (decide (0 < ((k023 (⟨(2 * k : Int), ((2 * i) + 1 : Int)⟩ : Gate)).getD 0)))) rfl <| s_nil ?_
 refine W.ret ?_
 have hr_ := M.e_pure hM
 exact ⟨_, resE_tmp rfl, ⟨(decide (0 < ((k023 (⟨(2 * k : Int), ((2 * i) + 1 : Int)⟩ : Gate)).getD 0))), hr_, rfl, H⟩⟩

def m_notes_Lines_2 (k : Int) (k020202 : List Work) (k02021 : List Int) (k02022 : Int) (k02023 : Gate → Option Int) (k02024 : Int → Option Bool) (k12 : Int) : M Bool :=
  M.bind (m_notes_Lines_1 k12 k k020202 k02021 k02022 k02023 k02024) fun r2 =>
  M.pure r2
theorem notes_Lines_2_ok {R : List Chunk} {b_k0 : Nat} {b_k020 : Nat} {b_k0202 : Nat} {b_k02020 : Nat} {C_k020202 : Cells} {v_k020202 : Value} {C_k02021 : Cells} {v_k02021 : Value} {b_k02023 : Nat} {b_k02024 : Nat} {b_k1 : Nat} (k : Int) (k020202 : List Work) (k02021 : List Int) (k02022 : Int) (k02023 : Gate → Option Int) (k02024 : Int → Option Bool) (k12 : Int) (hC_k020202 : Reads R C_k020202) (hs_k020202 : Sl C_k020202 v_k020202 k020202) (h_b_k02020 : Has R (cBlk b_k02020 [v_k020202] 187)) (hC_k02021 : Reads R C_k02021) (hs_k02021 : Sl C_k02021 v_k02021 k02021) (h_b_k02023 : Has R (cMap encG I b_k02023 k02023)) (h_b_k02024 : Has R (cMap I B b_k02024 k02024)) (h_b_k0202 : Has R (cBlk b_k0202 [Pz b_k02020, v_k02021, I k02022, .map (some b_k02023), .map (some b_k02024)] 180)) (h_b_k020 : Has R (cBlk b_k020 [Pz b_k0202] 174)) (h_b_k0 : Has R (cBlk b_k0 [.func (.func 128) #[] #[Pz b_k020]] 183)) (h_b_k1 : Has R (cBlk b_k1 [I k12] 3)) {r : Bool} (hM : (m_notes_Lines_2 k k020202 k02021 k02022 k02023 k02024 k12).Ends r) (w : World) (H : St w w [] R) : Ret Try.prog 129 #[I k, Pz b_k0, Pz b_k1] w fun v w' => ∃ (y0 : Bool), y0 = r ∧ v = B y0 ∧ St w w' [] R := by
 refine ret_of_W Try.func129 rfl rfl rfl ?_
 refine sQ rfl <| sA (B false) rfl <| s_nil <| sQ rfl <| s_val (x_ld (p := Pz b_k0) (v := .func (.func 128) #[] #[Pz b_k020]) rfl (ldb_sc Sc183 (h_b_k0.blk H) rfl)) <| s_val (x_ld (p := Pz b_k1) (v := I k12) rfl (ldb_sc Sc3 (h_b_k1.blk H) rfl)) <| sM (I k) rfl ?_
 obtain ⟨r2z, hx1z, hM⟩ := M.e_bind hM
 refine s_callv (f := 128) rfl cf128 [I k12, I k] rfl (notes_Lines_1_ok k12 k k020202 k02021 k02022 k02023 k02024 (hC_k020202.app _) hs_k020202 (h_b_k02020.app _) (hC_k02021.app _) hs_k02021 (h_b_k02023.app _) (h_b_k02024.app _) (h_b_k0202.app _) (h_b_k020.app _) hx1z _ (St.give (T := []) H rfl)) ?_
 rintro vq w3z ⟨r2, hr4z, hvq, H2_⟩
 subst hr4z
 subst vq
 try dsimp only at hM
 replace H : St w w3z [] R := H.back H2_ rfl
 clear H2_
 refine sA (B r2) rfl <| s_nil ?_
 refine W.ret ?_
 have hr_ := M.e_pure hM
 exact ⟨_, resE_tmp rfl, ⟨r2, hr_, rfl, H⟩⟩

def m_notes_Lines_b0 (w_ : List Work) : ((List Int) × Nat) → M (((List Int) × Nat) ⊕ ((List Int) × (List Int))) := fun (l, s) =>
  bif decide ((s : Int) < ((List.replicate (w_.length) (0 : Int)).length : Int)) then (
  M.grd (decide ((s : Int) < (l.length : Int))) <|
  M.pure (.inl (l.set s (s : Int), s + 1)))
  else (
  M.pure (.inr (l, l)))
def m_notes_Lines_b3 (l3 : List Int) : (Nat × (List (List Int))) → M ((Nat × (List (List Int))) ⊕ ((List (List Int)) × (List (List Int)))) := fun (s4, l10) =>
  bif decide ((s4 : Int) < (l3.length : Int)) then (
  M.grd (decide ((s4 : Int) < (l3.length : Int))) <|
  M.fail)
  else (
  M.pure (.inr (l10, l10)))
def m_notes_Lines_b4 (revised : List Int) (l3 : List Int) : (Nat × (List (List Int))) → M ((Nat × (List (List Int))) ⊕ ((List (List Int)) × (List (List Int)))) := fun (s2, l12) =>
  bif decide ((s2 : Int) < (revised.length : Int)) then (
  M.grd (decide ((s2 : Int) < (revised.length : Int))) <|
  M.bind (M.iter (m_notes_Lines_b3 l3) (0, l12)) fun (l8, l11) =>
  M.pure (.inl (s2 + 1, l11)))
  else (
  M.pure (.inr (l12, l12)))
def m_notes_Lines_b5 (w_ : List Work) : ((List Int) × Nat) → M (((List Int) × Nat) ⊕ ((List Int) × (List Int))) := fun (l, s) =>
  bif decide ((s : Int) < ((List.replicate (w_.length) (0 : Int)).length : Int)) then (
  M.grd (decide ((s : Int) < (l.length : Int))) <|
  M.pure (.inl (l.set s (s : Int), s + 1)))
  else (
  M.pure (.inr (l, l)))
def m_notes_Lines_b13 (w_ : List Work) (revised : List Int) (work : Int) (r02 : Int) (r03 : Gate → Option Int) (r04 : Int → Option Bool) (l3 : List Int) : ((List Int) × Int) → M (((List Int) × Int) ⊕ ((List Int) × (List Int))) := fun (l4, s3) =>
  bif s3 != work then (
  M.grd (decide ((l4.length + ([(s3 : Int)]).length) * 8 ≤ 140737488355328)) <|
  M.bind (m_slices_IndexFunc_int l3 (fun xqz => m_notes_Lines_2 xqz w_ revised r02 r03 r04 s3)) fun r4 =>
  M.pure (.inl (l4 ++ ([(s3 : Int)]), r4)))
  else (
  M.pure (.inr (l4, l4)))
def m_notes_Lines_b14 (w_ : List Work) (revised : List Int) (work : Int) (r02 : Int) (r03 : Gate → Option Int) (r04 : Int → Option Bool) (l3 : List Int) (s2 : Nat) : (Nat × (List (List Int))) → M ((Nat × (List (List Int))) ⊕ ((List (List Int)) × (List (List Int)))) := fun (s4, l10) =>
  bif decide ((s4 : Int) < (l3.length : Int)) then (
  M.grd (decide ((s4 : Int) < (l3.length : Int))) <|
  M.bind (m_notes_lanes_inner w_ revised r02 r03 r04 (l3.getD s4 0)) fun r2 =>
  M.bind (M.opt (!(!r2)) (m_notes_Lines_1 (revised.getD s2 0) (l3.getD s4 0) w_ revised r02 r03 r04) false) fun r3 =>
  bif ((!r2) || (!r3)) then (
  M.pure (.inl (s4 + 1, l10)))
  else (
  M.bind (M.iter (m_notes_Lines_b13 w_ revised work r02 r03 r04 l3) ([(revised.getD s2 0 : Int)], l3.getD s4 0)) fun (l5, l6) =>
  M.grd (decide ((l6.length + ([(work : Int)]).length) * 8 ≤ 140737488355328)) <|
  M.grd (decide ((l10.length + ([l6 ++ ([(work : Int)])]).length) * 24 ≤ 140737488355328)) <|
  M.pure (.inl (s4 + 1, l10 ++ ([l6 ++ ([(work : Int)])])))))
  else (
  M.pure (.inr (l10, l10)))
def m_notes_Lines_b15 (w_ : List Work) (revised : List Int) (work : Int) (r02 : Int) (r03 : Gate → Option Int) (r04 : Int → Option Bool) (l3 : List Int) : (Nat × (List (List Int))) → M ((Nat × (List (List Int))) ⊕ ((List (List Int)) × (List (List Int)))) := fun (s2, l12) =>
  bif decide ((s2 : Int) < (revised.length : Int)) then (
  M.grd (decide ((s2 : Int) < (revised.length : Int))) <|
  M.bind (M.iter (m_notes_Lines_b14 w_ revised work r02 r03 r04 l3 s2) (0, l12)) fun (l8, l11) =>
  M.pure (.inl (s2 + 1, l11)))
  else (
  M.pure (.inr (l12, l12)))
def m_notes_Lines (w_ : List Work) (revised : List Int) (work : Int) : M ((List (List Int)) × Int) :=
  M.bind (m_notes_full w_ revised work) fun x_ => match x_ with
  | (.inl r1) => (
  bif r1 != 0 then (
  M.pure (([]), r1))
  else (
  M.grd (decide ((0 : Int) ≤ (w_.length : Int)) && decide ((8 : Int) * (w_.length : Int) ≤ 281474976710656) && decide ((w_.length : Int) ≤ (9223372036854775807 : Int))) <|
  M.bind (M.iter (m_notes_Lines_b0 w_) (List.replicate (w_.length) (0 : Int), 0)) fun (l2, l3) =>
  M.bind (M.iter (m_notes_Lines_b4 revised l3) (0, [])) fun (l13, l14) =>
  M.pure (l14, 0)))
  | (.inr (r02, r03, r04, r12)) => (
  bif r12 != 0 then (
  M.pure (([]), r12))
  else (
  M.grd (decide ((0 : Int) ≤ (w_.length : Int)) && decide ((8 : Int) * (w_.length : Int) ≤ 281474976710656) && decide ((w_.length : Int) ≤ (9223372036854775807 : Int))) <|
  M.bind (M.iter (m_notes_Lines_b5 w_) (List.replicate (w_.length) (0 : Int), 0)) fun (l2, l3) =>
  M.bind (M.iter (m_notes_Lines_b15 w_ revised work r02 r03 r04 l3) (0, [])) fun (l13, l14) =>
  M.pure (l14, 0)))
theorem notes_Lines_ok {R : List Chunk} {C_w_ : Cells} {v_w_ : Value} {C_revised : Cells} {v_revised : Value} (w_ : List Work) (revised : List Int) (work : Int) (hC_w_ : Reads R C_w_) (hs_w_ : Sl C_w_ v_w_ w_) (hC_revised : Reads R C_revised) (hs_revised : Sl C_revised v_revised revised) {r : ((List (List Int)) × Int)} (hM : (m_notes_Lines w_ revised work).Ends r) (w : World) (H : St w w [] R) : Ret Try.prog 65 #[v_w_, v_revised, I work] w fun v w' => ∃ (y0 : List (List Int)) (y1 : Int) (u0 : Value) (rr1 : List (Raw 0)) (Bs2 : Base), (y0, y1) = r ∧ v = .tuple #[u0, I y1] ∧ St w w' [cOwn (α := Raw 0) 34 u0 rr1, cRo Bs2] R ∧ RepR (α := List Int) Bs2.cells rr1 y0 := by
 refine ret_of_W Try.func65 rfl rfl rfl ?_
 refine sQ rfl <| sA (.slice none 0 0) rfl <| sA (I 0) rfl <| s_nil <| sQ rfl <| sM v_w_ rfl <| sM v_revised rfl <| sM (I work) rfl ?_
 obtain ⟨r2z, hx1z, hM⟩ := M.e_bind hM
 refine s_call cf125 [v_w_, v_revised, I work] rfl (notes_full_ok w_ revised work (hC_w_.app _) hs_w_ (hC_revised.app _) hs_revised hx1z _ (St.give (T := []) H rfl)) ?_
 rintro vq w3z (⟨r1, hr4z, hvq, H2_⟩ | ⟨r02, r03, r04, r12, nb0_1, nb1_2, Bs2_3, nb3_4, nb4_5, hr5z, hvq, H2_, hf6z⟩)
 ·subst hr4z
  subst vq
  try dsimp only at hM
  replace H : St w w3z [] R := H.back H2_ rfl
  clear H2_
  refine sM (.tuple #[.pointer none, I r1]) rfl <| sX [.pointer none, I r1] (.pointer none) rfl rfl <| sX [.pointer none, I r1] (I r1) rfl rfl ?_
  refine t_alloc (cs := [.pointer none]) H Al174 rfl ?_
  intro b_6 w7z H
  refine t_st (k := 0) (b := b_6) (off := 0) (cs := [.pointer none]) (vs := [.pointer none]) (cs' := [.pointer none]) (v := .pointer none) (L' := [cBlk b_6 [.pointer none] 174]) H rfl rfl rfl Sz174 rfl rfl rfl rfl rfl rfl ?_
  intro w8z H
  refine sA (I r1) rfl <| s_nil <| W.seq <| sQ rfl <| sM (I r1) rfl <| sC r1 0 (r1 != 0) rfl rfl rfl <| s_nil ?_
  refine W.cond (r1 != 0) rfl (fun c9z => ?_) (fun c9z => ?_)
  ·replace hM := M.e_t hM c9z
   simp only [qz1, qz2, qz3, qz4, qz5, qz6, ne_eq, qz7] at c9z
   refine sQ rfl <| sM (I r1) rfl <| sA (.slice none 0 0) rfl <| sA (I r1) rfl <| s_nil ?_
   refine W.ret ?_
   have hr_ := M.e_pure hM
   obtain ⟨Bs_25, H⟩ := H.emptyE
   replace H : St w w8z [cOwn (α := Raw 0) 34 (.slice none 0 0) ([]), cRo Bs_25, cBlk b_6 [.pointer none] 174] R := H.nilOwn (α := Raw 0) 34
   have hr10z : RepR (α := List Int) (n := 0) Bs_25.cells [] [] := .nil
   exact ⟨_, resE_tmp2 rfl, ⟨([]), r1, (.slice none 0 0), [], Bs_25, hr_, rfl, (H.pick [0, 1] (by decide) rfl), hr10z⟩⟩
  replace hM := M.e_f hM c9z
  simp only [qz1, qz2, qz3, qz4, qz5, qz6, ne_eq, qz7] at c9z
  refine W.skip <| sQ rfl <| s_val (x_mf (fs := []) (cs := [Pz b_6]) rfl rfl) ?_
  refine t_alloc (cs := [.nilFunc]) H Al183 rfl ?_
  intro b_7 w11z H
  refine t_st (k := 0) (b := b_7) (off := 0) (cs := [.nilFunc]) (vs := [.func (.func 128) #[] #[Pz b_6]]) (cs' := [.func (.func 128) #[] #[Pz b_6]]) (v := .func (.func 128) #[] #[Pz b_6]) (L' := [cBlk b_7 [.func (.func 128) #[] #[Pz b_6]] 183, cBlk b_6 [.pointer none] 174]) H rfl rfl rfl Sz183 rfl rfl rfl rfl rfl rfl ?_
  intro w12z H
  refine s_nil <| sQ rfl <| sM v_w_ rfl ?_
  have hl13z := (hs_w_).len_le
  refine s_val (x_lenS T22.und rfl hs_w_) ?_
  obtain ⟨sd14z, hM⟩ := M.e_gd hM
  refine t_mk (α := Int) T34 (0 : Int) rfl (n := (w_.length : Int)) H rfl rfl (by omega) (by omega) (by omega) ?_
  intro v15z w16z H
  replace H : St w w16z [cOwn (α := Int) 3 v15z (List.replicate (w_.length) (0 : Int)), cBlk b_7 [.func (.func 128) #[] #[Pz b_6]] 183, cBlk b_6 [.pointer none] 174] R := H
  refine sA v15z rfl <| s_nil <| W.seq <| sQ rfl <| sM v15z rfl ?_
  have hl17z := ((ownSl (H.get (k := 0) rfl))).len_le
  refine s_val (x_lenS T34.und rfl (ownSl (H.get (k := 0) rfl))) <| sM (I 0) rfl <| s_nil <| W.block ?_
  obtain ⟨ex18z, hi19z, hk20z⟩ := M.e_bind hM
  obtain ⟨m0_, hi19z⟩ := M.e_iter hi19z
  refine W.loop (fun m σ W => ∃ (l : List Int) (s : Nat) (v_l : Value) (ρ : Env), σ = upds ρ [(1, v_revised), (2, I work), (8, Pz b_6), (10, Pz b_7), (11, v_l), (35, I ((List.replicate (w_.length) (0 : Int)).length : Int)), (36, I (s : Int))] ∧ M.iterN (m_notes_Lines_b0 w_) m (l, s) = some ex18z ∧ St w W [cOwn (α := Int) 3 v_l l, cBlk b_7 [.func (.func 128) #[] #[Pz b_6]] 183, cBlk b_6 [.pointer none] 174] R) ?_ ?_
  ·exact ⟨_, List.replicate (w_.length) (0 : Int), 0, v15z, _, upds_of _ _ ⟨rfl, rfl, rfl, rfl, rfl, rfl, rfl, trivial⟩, hi19z, H⟩
  rintro m23z σ w21z ⟨l, s, v_l, ρ, rfl, hI22z, H⟩
  obtain ⟨m24z, lt25z, x26z, hM, hN27z⟩ := M.e_iterN hI22z
  simp only [m_notes_Lines_b0] at hM
  clear hI22z
  refine sQ rfl <| sC (s : Int) ((List.replicate (w_.length) (0 : Int)).length : Int) (decide ((s : Int) < ((List.replicate (w_.length) (0 : Int)).length : Int))) rfl rfl rfl <| s_nil <| W.seq ?_
  refine W.cond (decide ((s : Int) < ((List.replicate (w_.length) (0 : Int)).length : Int))) rfl (fun c28z => ?_) (fun c28z => ?_)
  ·replace hM := M.e_t hM c28z
   simp only [qz1, qz2, qz3, qz4, qz5, qz6, ne_eq, qz7] at c28z
   refine W.skip <| W.seq <| W.block <| sQ rfl <| sM (I (s : Int)) rfl <| sA (I (s : Int)) rfl <| s_nil <| W.region rfl <| sM v_l rfl <| sM (I (s : Int)) rfl <| sM (I (s : Int)) rfl ?_
   obtain ⟨sd29z, hM⟩ := M.e_gd hM
   refine s_val (x_ix (a := v_l) (b := I (s : Int)) (v := vat v_l 1 (Int.toNat (s : Int))) rfl rfl (Sl.ix (α := Int) T34.und T34.size (ownSl (H.get (k := 0) rfl)) (by omega) (by omega))) ?_
   refine t_ost (k := 0) (i := (s : Int)) (l := l) (l' := l.set s (s : Int)) (val := I (s : Int)) (L' := [cOwn (α := Int) 3 v_l (l.set s (s : Int)), cBlk b_7 [.func (.func 128) #[] #[Pz b_6]] 183, cBlk b_6 [.pointer none] 174]) H rfl Sz3 (by omega) (by omega) (s : Int) rfl rfl rfl rfl rfl ?_
   intro w30z H
   refine s_nil <| W.region rfl <| sR (s : Int) 1 ((s : Int) + 1) rfl rfl rfl (by omega) <| sM (I ((s : Int) + 1)) rfl <| s_nil ?_
   exact ⟨m24z, lt25z, l.set s (s : Int), s + 1, v_l, _, upds_of _ _ ⟨rfl, rfl, rfl, rfl, rfl, rfl, rfl, trivial⟩, M.e_inl hM hN27z, H⟩
  replace hM := M.e_f hM c28z
  simp only [qz1, qz2, qz3, qz4, qz5, qz6, ne_eq, qz7] at c28z
  refine W.exit ?_
  have hX31z := M.e_inr hM hN27z
  subst hX31z
  replace hM := hk20z
  try dsimp only at hM
  refine sQ rfl <| sA (.slice none 0 0) rfl <| s_nil <| W.seq <| sQ rfl <| sM v_revised rfl ?_
  have hl32z := (hs_revised).len_le
  refine s_val (x_lenS T34.und rfl hs_revised) <| sM (I 0) rfl <| s_nil <| W.block ?_
  obtain ⟨Bs_23, H⟩ := H.emptyE
  replace H : St w w21z [cOwn (α := Raw 0) 34 (.slice none 0 0) ([]), cRo Bs_23, cOwn (α := Int) 3 v_l l, cBlk b_7 [.func (.func 128) #[] #[Pz b_6]] 183, cBlk b_6 [.pointer none] 174] R := H.nilOwn (α := Raw 0) 34
  have hr33z : RepR (α := List Int) (n := 0) Bs_23.cells [] [] := .nil
  obtain ⟨ex34z, hi35z, hk36z⟩ := M.e_bind hM
  obtain ⟨m0_, hi35z⟩ := M.e_iter hi35z
  refine W.loop (fun m σ W => ∃ (s2 : Nat) (l12 : List (List Int)) (v_l12 : Value) (rw_l12 : List (Raw 0)) (B_l12 : Base) (ρ : Env), σ = upds ρ [(2, I work), (8, Pz b_6), (10, Pz b_7), (11, v_l), (13, v_l12), (44, v_revised), (45, I (revised.length : Int)), (46, I (s2 : Int))] ∧ M.iterN (m_notes_Lines_b4 revised l) m (s2, l12) = some ex34z ∧ St w W [cOwn (α := Raw 0) 34 v_l12 rw_l12, cRo B_l12, cOwn (α := Int) 3 v_l l, cBlk b_7 [.func (.func 128) #[] #[Pz b_6]] 183, cBlk b_6 [.pointer none] 174] R ∧ RepR (α := List Int) B_l12.cells rw_l12 l12) ?_ ?_
  ·exact ⟨_, 0, [], (.slice none 0 0), [], Bs_23, _, upds_of _ _ ⟨rfl, rfl, rfl, rfl, rfl, rfl, rfl, rfl, trivial⟩, hi35z, H, hr33z⟩
  rintro m39z σ w37z ⟨s2, l12, v_l12, rw_l12, B_l12, ρ, rfl, hI38z, H, hr_l12⟩
  obtain ⟨m40z, lt41z, x42z, hM, hN43z⟩ := M.e_iterN hI38z
  simp only [m_notes_Lines_b4] at hM
  clear hI38z
  refine sQ rfl <| sC (s2 : Int) (revised.length : Int) (decide ((s2 : Int) < (revised.length : Int))) rfl rfl rfl <| s_nil <| W.seq ?_
  refine W.cond (decide ((s2 : Int) < (revised.length : Int))) rfl (fun c44z => ?_) (fun c44z => ?_)
  ·replace hM := M.e_t hM c44z
   simp only [qz1, qz2, qz3, qz4, qz5, qz6, ne_eq, qz7] at c44z
   refine W.skip <| W.seq <| W.block <| sQ rfl ?_
   obtain ⟨sd45z, hM⟩ := M.e_gd hM
   refine s_val (x_ix (a := v_revised) (b := I (s2 : Int)) (v := vat v_revised 1 (Int.toNat (s2 : Int))) rfl rfl (Sl.ix (α := Int) T34.und T34.size hs_revised (by omega) (by omega))) <| s_val (x_ld (p := vat v_revised 1 (Int.toNat (s2 : Int))) (v := I (revised.getD s2 0)) rfl (ld_sc Sc3 (At.mono (Int_at hs_revised (i := (s2 : Int)) (by omega) (by omega)) (hC_revised.at H)))) <| sA (I (revised.getD s2 0)) rfl <| s_nil <| sQ rfl <| sM v_l rfl ?_
   have hl46z := ((ownSl (H.get (k := 2) rfl))).len_le
   refine s_val (x_lenS T34.und rfl (ownSl (H.get (k := 2) rfl))) <| sM (I 0) rfl <| s_nil <| W.block ?_
   obtain ⟨ex47z, hi48z, hk49z⟩ := M.e_bind hM
   obtain ⟨m0_, hi48z⟩ := M.e_iter hi48z
   refine W.loop (fun m σ W => ∃ (s4 : Nat) (l10 : List (List Int)) (v_l10 : Value) (rw_l10 : List (Raw 0)) (B_l10 : Base) (ρ : Env), σ = upds ρ [(2, I work), (8, Pz b_6), (10, Pz b_7), (11, v_l), (13, v_l10), (15, I (revised.getD s2 0)), (44, v_revised), (45, I (revised.length : Int)), (46, I (s2 : Int)), (50, v_l), (51, I (l.length : Int)), (52, I (s4 : Int))] ∧ M.iterN (m_notes_Lines_b3 l) m (s4, l10) = some ex47z ∧ St w W [cOwn (α := Raw 0) 34 v_l10 rw_l10, cRo B_l10, cOwn (α := Int) 3 v_l l, cBlk b_7 [.func (.func 128) #[] #[Pz b_6]] 183, cBlk b_6 [.pointer none] 174] R ∧ RepR (α := List Int) B_l10.cells rw_l10 l10) ?_ ?_
   ·exact ⟨_, 0, l12, v_l12, rw_l12, B_l12, _, upds_of _ _ ⟨rfl, rfl, rfl, rfl, rfl, rfl, rfl, rfl, rfl, rfl, rfl, rfl, trivial⟩, hi48z, H, hr_l12⟩
   rintro m52z σ w50z ⟨s4, l10, v_l10, rw_l10, B_l10, ρ, rfl, hI51z, H, hr_l10⟩
   obtain ⟨m53z, lt54z, x55z, hM, hN56z⟩ := M.e_iterN hI51z
   simp only [m_notes_Lines_b3] at hM
   clear hI51z
   refine sQ rfl <| sC (s4 : Int) (l.length : Int) (decide ((s4 : Int) < (l.length : Int))) rfl rfl rfl <| s_nil <| W.seq ?_
   refine W.cond (decide ((s4 : Int) < (l.length : Int))) rfl (fun c57z => ?_) (fun c57z => ?_)
   ·replace hM := M.e_t hM c57z
    simp only [qz1, qz2, qz3, qz4, qz5, qz6, ne_eq, qz7] at c57z
    refine W.skip <| W.seq <| W.block <| sQ rfl ?_
    obtain ⟨sd58z, hM⟩ := M.e_gd hM
    refine s_val (x_ix (a := v_l) (b := I (s4 : Int)) (v := vat v_l 1 (Int.toNat (s4 : Int))) rfl rfl (Sl.ix (α := Int) T34.und T34.size (ownSl (H.get (k := 2) rfl)) (by omega) (by omega))) <| s_val (x_ld (p := vat v_l 1 (Int.toNat (s4 : Int))) (v := I (l.getD s4 0)) rfl (ld_sc Sc3 (At.mono (Int_at (ownSl (H.get (k := 2) rfl)) (i := (s4 : Int)) (by omega) (by omega)) (ownLe _ (H.get (k := 2) rfl))))) <| sA (I (l.getD s4 0)) rfl <| s_nil <| W.seq <| sQ rfl <| s_val (x_ld (p := Pz b_6) (v := .pointer none) rfl (ldb_sc Sc174 (H.blk (k := 4) rfl) rfl)) <| sM (I (l.getD s4 0)) rfl ?_
    exact (M.e_fail hM).elim
   replace hM := M.e_f hM c57z
   simp only [qz1, qz2, qz3, qz4, qz5, qz6, ne_eq, qz7] at c57z
   refine W.exit ?_
   have hX59z := M.e_inr hM hN56z
   subst hX59z
   replace hM := hk49z
   try dsimp only at hM
   refine W.region rfl <| sR (s2 : Int) 1 ((s2 : Int) + 1) rfl rfl rfl (by omega) <| sM (I ((s2 : Int) + 1)) rfl <| s_nil ?_
   exact ⟨m40z, lt41z, s2 + 1, l10, v_l10, rw_l10, B_l10, _, upds_of _ _ ⟨rfl, rfl, rfl, rfl, rfl, rfl, rfl, rfl, trivial⟩, M.e_inl hM hN43z, H, hr_l10⟩
  replace hM := M.e_f hM c44z
  simp only [qz1, qz2, qz3, qz4, qz5, qz6, ne_eq, qz7] at c44z
  refine W.exit ?_
  have hX60z := M.e_inr hM hN43z
  subst hX60z
  replace hM := hk36z
  try dsimp only at hM
  refine sQ rfl <| sM v_l12 rfl <| sA v_l12 rfl <| sA (I 0) rfl <| s_nil ?_
  refine W.ret ?_
  have hr_ := M.e_pure hM
  exact ⟨_, resE_tmp2 rfl, ⟨l12, 0, v_l12, rw_l12, B_l12, hr_, rfl, (H.pick [0, 1] (by decide) rfl), hr_l12⟩⟩
 subst hr5z
 subst vq
 try dsimp only at hM
 replace H : St w w3z [cBlk nb0_1 [Pz nb1_2, v_revised, I r02, .map (some nb3_4), .map (some nb4_5)] 180, cRo Bs2_3, cMap encG I nb3_4 r03, cMap I B nb4_5 r04] R := H.back H2_ rfl
 clear H2_
 refine sM (.tuple #[Pz nb0_1, I r12]) rfl <| sX [Pz nb0_1, I r12] (Pz nb0_1) rfl rfl <| sX [Pz nb0_1, I r12] (I r12) rfl rfl ?_
 refine t_alloc (cs := [.pointer none]) H Al174 rfl ?_
 intro b_6 w61z H
 refine t_st (k := 0) (b := b_6) (off := 0) (cs := [.pointer none]) (vs := [Pz nb0_1]) (cs' := [Pz nb0_1]) (v := Pz nb0_1) (L' := [cBlk b_6 [Pz nb0_1] 174, cBlk nb0_1 [Pz nb1_2, v_revised, I r02, .map (some nb3_4), .map (some nb4_5)] 180, cRo Bs2_3, cMap encG I nb3_4 r03, cMap I B nb4_5 r04]) H rfl rfl rfl Sz174 rfl rfl rfl rfl rfl rfl ?_
 intro w62z H
 refine sA (I r12) rfl <| s_nil <| W.seq <| sQ rfl <| sM (I r12) rfl <| sC r12 0 (r12 != 0) rfl rfl rfl <| s_nil ?_
 refine W.cond (r12 != 0) rfl (fun c63z => ?_) (fun c63z => ?_)
 ·replace hM := M.e_t hM c63z
  simp only [qz1, qz2, qz3, qz4, qz5, qz6, ne_eq, qz7] at c63z
  refine sQ rfl <| sM (I r12) rfl <| sA (.slice none 0 0) rfl <| sA (I r12) rfl <| s_nil ?_
  refine W.ret ?_
  have hr_ := M.e_pure hM
  obtain ⟨Bs_25, H⟩ := H.emptyE
  replace H : St w w62z [cOwn (α := Raw 0) 34 (.slice none 0 0) ([]), cRo Bs_25, cBlk b_6 [Pz nb0_1] 174, cBlk nb0_1 [Pz nb1_2, v_revised, I r02, .map (some nb3_4), .map (some nb4_5)] 180, cRo Bs2_3, cMap encG I nb3_4 r03, cMap I B nb4_5 r04] R := H.nilOwn (α := Raw 0) 34
  have hr64z : RepR (α := List Int) (n := 0) Bs_25.cells [] [] := .nil
  exact ⟨_, resE_tmp2 rfl, ⟨([]), r12, (.slice none 0 0), [], Bs_25, hr_, rfl, (H.pick [0, 1] (by decide) rfl), hr64z⟩⟩
 replace hM := M.e_f hM c63z
 simp only [qz1, qz2, qz3, qz4, qz5, qz6, ne_eq, qz7] at c63z
 refine W.skip <| sQ rfl <| s_val (x_mf (fs := []) (cs := [Pz b_6]) rfl rfl) ?_
 refine t_alloc (cs := [.nilFunc]) H Al183 rfl ?_
 intro b_7 w65z H
 refine t_st (k := 0) (b := b_7) (off := 0) (cs := [.nilFunc]) (vs := [.func (.func 128) #[] #[Pz b_6]]) (cs' := [.func (.func 128) #[] #[Pz b_6]]) (v := .func (.func 128) #[] #[Pz b_6]) (L' := [cBlk b_7 [.func (.func 128) #[] #[Pz b_6]] 183, cBlk b_6 [Pz nb0_1] 174, cBlk nb0_1 [Pz nb1_2, v_revised, I r02, .map (some nb3_4), .map (some nb4_5)] 180, cRo Bs2_3, cMap encG I nb3_4 r03, cMap I B nb4_5 r04]) H rfl rfl rfl Sz183 rfl rfl rfl rfl rfl rfl ?_
 intro w66z H
 refine s_nil <| sQ rfl <| sM v_w_ rfl ?_
 have hl67z := (hs_w_).len_le
 refine s_val (x_lenS T22.und rfl hs_w_) ?_
 obtain ⟨sd68z, hM⟩ := M.e_gd hM
 refine t_mk (α := Int) T34 (0 : Int) rfl (n := (w_.length : Int)) H rfl rfl (by omega) (by omega) (by omega) ?_
 intro v69z w70z H
 replace H : St w w70z [cOwn (α := Int) 3 v69z (List.replicate (w_.length) (0 : Int)), cBlk b_7 [.func (.func 128) #[] #[Pz b_6]] 183, cBlk b_6 [Pz nb0_1] 174, cBlk nb0_1 [Pz nb1_2, v_revised, I r02, .map (some nb3_4), .map (some nb4_5)] 180, cRo Bs2_3, cMap encG I nb3_4 r03, cMap I B nb4_5 r04] R := H
 refine sA v69z rfl <| s_nil <| W.seq <| sQ rfl <| sM v69z rfl ?_
 have hl71z := ((ownSl (H.get (k := 0) rfl))).len_le
 refine s_val (x_lenS T34.und rfl (ownSl (H.get (k := 0) rfl))) <| sM (I 0) rfl <| s_nil <| W.block ?_
 obtain ⟨ex72z, hi73z, hk74z⟩ := M.e_bind hM
 obtain ⟨m0_, hi73z⟩ := M.e_iter hi73z
 refine W.loop (fun m σ W => ∃ (l : List Int) (s : Nat) (v_l : Value) (ρ : Env), σ = upds ρ [(1, v_revised), (2, I work), (8, Pz b_6), (10, Pz b_7), (11, v_l), (35, I ((List.replicate (w_.length) (0 : Int)).length : Int)), (36, I (s : Int))] ∧ M.iterN (m_notes_Lines_b5 w_) m (l, s) = some ex72z ∧ St w W [cOwn (α := Int) 3 v_l l, cBlk b_7 [.func (.func 128) #[] #[Pz b_6]] 183, cBlk b_6 [Pz nb0_1] 174, cBlk nb0_1 [Pz nb1_2, v_revised, I r02, .map (some nb3_4), .map (some nb4_5)] 180, cRo Bs2_3, cMap encG I nb3_4 r03, cMap I B nb4_5 r04] R) ?_ ?_
 ·exact ⟨_, List.replicate (w_.length) (0 : Int), 0, v69z, _, upds_of _ _ ⟨rfl, rfl, rfl, rfl, rfl, rfl, rfl, trivial⟩, hi73z, H⟩
 rintro m77z σ w75z ⟨l, s, v_l, ρ, rfl, hI76z, H⟩
 obtain ⟨m78z, lt79z, x80z, hM, hN81z⟩ := M.e_iterN hI76z
 simp only [m_notes_Lines_b5] at hM
 clear hI76z
 refine sQ rfl <| sC (s : Int) ((List.replicate (w_.length) (0 : Int)).length : Int) (decide ((s : Int) < ((List.replicate (w_.length) (0 : Int)).length : Int))) rfl rfl rfl <| s_nil <| W.seq ?_
 refine W.cond (decide ((s : Int) < ((List.replicate (w_.length) (0 : Int)).length : Int))) rfl (fun c82z => ?_) (fun c82z => ?_)
 ·replace hM := M.e_t hM c82z
  simp only [qz1, qz2, qz3, qz4, qz5, qz6, ne_eq, qz7] at c82z
  refine W.skip <| W.seq <| W.block <| sQ rfl <| sM (I (s : Int)) rfl <| sA (I (s : Int)) rfl <| s_nil <| W.region rfl <| sM v_l rfl <| sM (I (s : Int)) rfl <| sM (I (s : Int)) rfl ?_
  obtain ⟨sd83z, hM⟩ := M.e_gd hM
  refine s_val (x_ix (a := v_l) (b := I (s : Int)) (v := vat v_l 1 (Int.toNat (s : Int))) rfl rfl (Sl.ix (α := Int) T34.und T34.size (ownSl (H.get (k := 0) rfl)) (by omega) (by omega))) ?_
  refine t_ost (k := 0) (i := (s : Int)) (l := l) (l' := l.set s (s : Int)) (val := I (s : Int)) (L' := [cOwn (α := Int) 3 v_l (l.set s (s : Int)), cBlk b_7 [.func (.func 128) #[] #[Pz b_6]] 183, cBlk b_6 [Pz nb0_1] 174, cBlk nb0_1 [Pz nb1_2, v_revised, I r02, .map (some nb3_4), .map (some nb4_5)] 180, cRo Bs2_3, cMap encG I nb3_4 r03, cMap I B nb4_5 r04]) H rfl Sz3 (by omega) (by omega) (s : Int) rfl rfl rfl rfl rfl ?_
  intro w84z H
  refine s_nil <| W.region rfl <| sR (s : Int) 1 ((s : Int) + 1) rfl rfl rfl (by omega) <| sM (I ((s : Int) + 1)) rfl <| s_nil ?_
  exact ⟨m78z, lt79z, l.set s (s : Int), s + 1, v_l, _, upds_of _ _ ⟨rfl, rfl, rfl, rfl, rfl, rfl, rfl, trivial⟩, M.e_inl hM hN81z, H⟩
 replace hM := M.e_f hM c82z
 simp only [qz1, qz2, qz3, qz4, qz5, qz6, ne_eq, qz7] at c82z
 refine W.exit ?_
 have hX85z := M.e_inr hM hN81z
 subst hX85z
 replace hM := hk74z
 try dsimp only at hM
 refine sQ rfl <| sA (.slice none 0 0) rfl <| s_nil <| W.seq <| sQ rfl <| sM v_revised rfl ?_
 have hl86z := (hs_revised).len_le
 refine s_val (x_lenS T34.und rfl hs_revised) <| sM (I 0) rfl <| s_nil <| W.block ?_
 obtain ⟨Bs_23, H⟩ := H.emptyE
 replace H : St w w75z [cOwn (α := Raw 0) 34 (.slice none 0 0) ([]), cRo Bs_23, cOwn (α := Int) 3 v_l l, cBlk b_7 [.func (.func 128) #[] #[Pz b_6]] 183, cBlk b_6 [Pz nb0_1] 174, cBlk nb0_1 [Pz nb1_2, v_revised, I r02, .map (some nb3_4), .map (some nb4_5)] 180, cRo Bs2_3, cMap encG I nb3_4 r03, cMap I B nb4_5 r04] R := H.nilOwn (α := Raw 0) 34
 have hr87z : RepR (α := List Int) (n := 0) Bs_23.cells [] [] := .nil
 obtain ⟨ex88z, hi89z, hk90z⟩ := M.e_bind hM
 obtain ⟨m0_, hi89z⟩ := M.e_iter hi89z
 refine W.loop (fun m σ W => ∃ (s2 : Nat) (l12 : List (List Int)) (v_l12 : Value) (rw_l12 : List (Raw 0)) (B_l12 : Base) (ρ : Env), σ = upds ρ [(2, I work), (8, Pz b_6), (10, Pz b_7), (11, v_l), (13, v_l12), (44, v_revised), (45, I (revised.length : Int)), (46, I (s2 : Int))] ∧ M.iterN (m_notes_Lines_b15 w_ revised work r02 r03 r04 l) m (s2, l12) = some ex88z ∧ St w W [cOwn (α := Raw 0) 34 v_l12 rw_l12, cRo B_l12, cOwn (α := Int) 3 v_l l, cBlk b_7 [.func (.func 128) #[] #[Pz b_6]] 183, cBlk b_6 [Pz nb0_1] 174, cBlk nb0_1 [Pz nb1_2, v_revised, I r02, .map (some nb3_4), .map (some nb4_5)] 180, cRo Bs2_3, cMap encG I nb3_4 r03, cMap I B nb4_5 r04] R ∧ RepR (α := List Int) B_l12.cells rw_l12 l12) ?_ ?_
 ·exact ⟨_, 0, [], (.slice none 0 0), [], Bs_23, _, upds_of _ _ ⟨rfl, rfl, rfl, rfl, rfl, rfl, rfl, rfl, trivial⟩, hi89z, H, hr87z⟩
 rintro m93z σ w91z ⟨s2, l12, v_l12, rw_l12, B_l12, ρ, rfl, hI92z, H, hr_l12⟩
 obtain ⟨m94z, lt95z, x96z, hM, hN97z⟩ := M.e_iterN hI92z
 simp only [m_notes_Lines_b15] at hM
 clear hI92z
 refine sQ rfl <| sC (s2 : Int) (revised.length : Int) (decide ((s2 : Int) < (revised.length : Int))) rfl rfl rfl <| s_nil <| W.seq ?_
 refine W.cond (decide ((s2 : Int) < (revised.length : Int))) rfl (fun c98z => ?_) (fun c98z => ?_)
 ·replace hM := M.e_t hM c98z
  simp only [qz1, qz2, qz3, qz4, qz5, qz6, ne_eq, qz7] at c98z
  refine W.skip <| W.seq <| W.block <| sQ rfl ?_
  obtain ⟨sd99z, hM⟩ := M.e_gd hM
  refine s_val (x_ix (a := v_revised) (b := I (s2 : Int)) (v := vat v_revised 1 (Int.toNat (s2 : Int))) rfl rfl (Sl.ix (α := Int) T34.und T34.size hs_revised (by omega) (by omega))) <| s_val (x_ld (p := vat v_revised 1 (Int.toNat (s2 : Int))) (v := I (revised.getD s2 0)) rfl (ld_sc Sc3 (At.mono (Int_at hs_revised (i := (s2 : Int)) (by omega) (by omega)) (hC_revised.at H)))) <| sA (I (revised.getD s2 0)) rfl <| s_nil <| sQ rfl <| sM v_l rfl ?_
  have hl100z := ((ownSl (H.get (k := 2) rfl))).len_le
  refine s_val (x_lenS T34.und rfl (ownSl (H.get (k := 2) rfl))) <| sM (I 0) rfl <| s_nil <| W.block ?_
  obtain ⟨ex101z, hi102z, hk103z⟩ := M.e_bind hM
  obtain ⟨m0_, hi102z⟩ := M.e_iter hi102z
  refine W.loop (fun m σ W => ∃ (s4 : Nat) (l10 : List (List Int)) (v_l10 : Value) (rw_l10 : List (Raw 0)) (B_l10 : Base) (ρ : Env), σ = upds ρ [(2, I work), (8, Pz b_6), (10, Pz b_7), (11, v_l), (13, v_l10), (15, I (revised.getD s2 0)), (44, v_revised), (45, I (revised.length : Int)), (46, I (s2 : Int)), (50, v_l), (51, I (l.length : Int)), (52, I (s4 : Int))] ∧ M.iterN (m_notes_Lines_b14 w_ revised work r02 r03 r04 l s2) m (s4, l10) = some ex101z ∧ St w W [cOwn (α := Raw 0) 34 v_l10 rw_l10, cRo B_l10, cOwn (α := Int) 3 v_l l, cBlk b_7 [.func (.func 128) #[] #[Pz b_6]] 183, cBlk b_6 [Pz nb0_1] 174, cBlk nb0_1 [Pz nb1_2, v_revised, I r02, .map (some nb3_4), .map (some nb4_5)] 180, cRo Bs2_3, cMap encG I nb3_4 r03, cMap I B nb4_5 r04] R ∧ RepR (α := List Int) B_l10.cells rw_l10 l10) ?_ ?_
  ·exact ⟨_, 0, l12, v_l12, rw_l12, B_l12, _, upds_of _ _ ⟨rfl, rfl, rfl, rfl, rfl, rfl, rfl, rfl, rfl, rfl, rfl, rfl, trivial⟩, hi102z, H, hr_l12⟩
  rintro m106z σ w104z ⟨s4, l10, v_l10, rw_l10, B_l10, ρ, rfl, hI105z, H, hr_l10⟩
  obtain ⟨m107z, lt108z, x109z, hM, hN110z⟩ := M.e_iterN hI105z
  simp only [m_notes_Lines_b14] at hM
  clear hI105z
  refine sQ rfl <| sC (s4 : Int) (l.length : Int) (decide ((s4 : Int) < (l.length : Int))) rfl rfl rfl <| s_nil <| W.seq ?_
  refine W.cond (decide ((s4 : Int) < (l.length : Int))) rfl (fun c111z => ?_) (fun c111z => ?_)
  ·replace hM := M.e_t hM c111z
   simp only [qz1, qz2, qz3, qz4, qz5, qz6, ne_eq, qz7] at c111z
   refine W.skip <| W.seq <| W.block <| sQ rfl ?_
   obtain ⟨sd112z, hM⟩ := M.e_gd hM
   refine s_val (x_ix (a := v_l) (b := I (s4 : Int)) (v := vat v_l 1 (Int.toNat (s4 : Int))) rfl rfl (Sl.ix (α := Int) T34.und T34.size (ownSl (H.get (k := 2) rfl)) (by omega) (by omega))) <| s_val (x_ld (p := vat v_l 1 (Int.toNat (s4 : Int))) (v := I (l.getD s4 0)) rfl (ld_sc Sc3 (At.mono (Int_at (ownSl (H.get (k := 2) rfl)) (i := (s4 : Int)) (by omega) (by omega)) (ownLe _ (H.get (k := 2) rfl))))) <| sA (I (l.getD s4 0)) rfl <| s_nil <| W.seq <| sQ rfl <| s_val (x_ld (p := Pz b_6) (v := Pz nb0_1) rfl (ldb_sc Sc174 (H.blk (k := 4) rfl) rfl)) <| sM (I (l.getD s4 0)) rfl ?_
   obtain ⟨r114z, hx113z, hM⟩ := M.e_bind hM
   refine s_call cf127 [Pz nb0_1, I (l.getD s4 0)] rfl (notes_lanes_inner_ok w_ revised r02 r03 r04 (l.getD s4 0) (hC_w_.app _) hs_w_ (Has.ro (k := 6) rfl hf6z) (hC_revised.app _) hs_revised (Has.here (k := 7) rfl) (Has.here (k := 8) rfl) (Has.here (k := 5) rfl) hx113z _ (St.give (T := [cOwn (α := Raw 0) 34 v_l10 rw_l10, cRo B_l10, cOwn (α := Int) 3 v_l l, cBlk b_7 [.func (.func 128) #[] #[Pz b_6]] 183, cBlk b_6 [Pz nb0_1] 174, cBlk nb0_1 [Pz nb1_2, v_revised, I r02, .map (some nb3_4), .map (some nb4_5)] 180, cRo Bs2_3, cMap encG I nb3_4 r03, cMap I B nb4_5 r04]) H rfl)) ?_
   rintro vq w115z ⟨r2, hr116z, hvq, H2_⟩
   subst hr116z
   subst vq
   try dsimp only at hM
   replace H : St w w115z [cOwn (α := Raw 0) 34 v_l10 rw_l10, cRo B_l10, cOwn (α := Int) 3 v_l l, cBlk b_7 [.func (.func 128) #[] #[Pz b_6]] 183, cBlk b_6 [Pz nb0_1] 174, cBlk nb0_1 [Pz nb1_2, v_revised, I r02, .map (some nb3_4), .map (some nb4_5)] 180, cRo Bs2_3, cMap encG I nb3_4 r03, cMap I B nb4_5 r04] R := H.back H2_ rfl
   clear H2_
   refine s_val (x_not (b := r2) rfl) <| sM (B (!r2)) rfl <| g_val (!(!r2)) (gy_f rfl) (fun hg => x_ld (p := Pz b_7) (v := .func (.func 128) #[] #[Pz b_6]) rfl (ldb_sc Sc183 (H.blk (k := 3) rfl) rfl)) <| g_val (!(!r2)) (gy_f rfl) (fun hg => x_mv (v := I (revised.getD s2 0)) rfl) <| g_val (!(!r2)) (gy_f rfl) (fun hg => x_mv (v := I (l.getD s4 0)) rfl) ?_
   obtain ⟨r3, hx117z, hM⟩ := M.e_bind hM
   refine t_gcallv (cap := [Pz b_6]) (!(!r2)) (gy_f rfl) cf128 (fun hg => (gd_of (c := !(!r2)) hg (.func (.func 128) #[] #[Pz b_6]))) (B r3) (fun _ => [I (revised.getD s2 0), I (l.getD s4 0)]) (fun hg => lst2 (gd_of (c := !(!r2)) hg (I (revised.getD s2 0))) (gd_of (c := !(!r2)) hg (I (l.getD s4 0)))) H (fun hg => (notes_Lines_1_ok (revised.getD s2 0) (l.getD s4 0) w_ revised r02 r03 r04 (hC_w_.app _) hs_w_ (Has.ro (k := 6) rfl hf6z) (hC_revised.app _) hs_revised (Has.here (k := 7) rfl) (Has.here (k := 8) rfl) (Has.here (k := 5) rfl) (Has.here (k := 4) rfl) (M.e_opt hx117z hg) _ (H.give (A := []) rfl)).mono fun v_ w_ ⟨y_, hr_, hv_, H_⟩ => by subst hr_; exact ⟨hv_, H.via H_⟩) ?_
   intro w118z H
   refine g_val (!(!r2)) (gy_f rfl) (fun hg => x_not (b := r3) (gd_of (c := !(!r2)) hg (B r3))) <| s_val (x_por (b := !r2) (r := !r3) rfl rfl (fun hb => gd_of (c := !(!r2)) (by first | exact hb | (rw [hb]; rfl) | simp_all) (B (!r3)))) <| s_nil ?_
   refine W.cond ((!r2) || (!r3)) rfl (fun c119z => ?_) (fun c119z => ?_)
   ·replace hM := M.e_t hM c119z
    refine W.exit ?_
    refine W.region rfl <| sR (s4 : Int) 1 ((s4 : Int) + 1) rfl rfl rfl (by omega) <| sM (I ((s4 : Int) + 1)) rfl <| s_nil ?_
    exact ⟨m107z, lt108z, s4 + 1, l10, v_l10, rw_l10, B_l10, _, upds_of _ _ ⟨rfl, rfl, rfl, rfl, rfl, rfl, rfl, rfl, rfl, rfl, rfl, rfl, trivial⟩, M.e_inl hM hN110z, H, hr_l10⟩
   replace hM := M.e_f hM c119z
   refine W.skip <| sQ rfl <| sM (I (revised.getD s2 0)) rfl ?_
   refine t_bs (α := Int) T34 [I (revised.getD s2 0)] [(revised.getD s2 0 : Int)] H rfl (.cons rfl (Flat.rep_enc _ (revised.getD s2 0 : Int)) <| .nil) rfl rfl rfl ?_
   intro v120z w121z H
   refine sA v120z rfl <| s_nil <| W.seq <| sQ rfl <| sM (I (l.getD s4 0)) rfl ?_
   refine t_alloc (cs := [I 0]) H Al3 rfl ?_
   intro b_10 w122z H
   refine t_st (k := 0) (b := b_10) (off := 0) (cs := [I 0]) (vs := [I (l.getD s4 0)]) (cs' := [I (l.getD s4 0)]) (v := I (l.getD s4 0)) (L' := [cBlk b_10 [I (l.getD s4 0)] 3, cOwn (α := Int) 3 v120z ([(revised.getD s2 0 : Int)]), cOwn (α := Raw 0) 34 v_l10 rw_l10, cRo B_l10, cOwn (α := Int) 3 v_l l, cBlk b_7 [.func (.func 128) #[] #[Pz b_6]] 183, cBlk b_6 [Pz nb0_1] 174, cBlk nb0_1 [Pz nb1_2, v_revised, I r02, .map (some nb3_4), .map (some nb4_5)] 180, cRo Bs2_3, cMap encG I nb3_4 r03, cMap I B nb4_5 r04]) H rfl rfl rfl Sz3 rfl rfl rfl rfl rfl rfl ?_
   intro w123z H
   refine s_nil <| W.block ?_
   obtain ⟨ex124z, hi125z, hk126z⟩ := M.e_bind hM
   obtain ⟨m0_, hi125z⟩ := M.e_iter hi125z
   refine W.loop (fun m σ W => ∃ (bk_b_10 : Nat) (l4 : List Int) (s3 : Int) (v_l4 : Value) (ρ : Env), σ = upds ρ [(2, I work), (8, Pz b_6), (10, Pz b_7), (11, v_l), (13, v_l10), (15, I (revised.getD s2 0)), (18, v_l4), (19, Pz bk_b_10), (44, v_revised), (45, I (revised.length : Int)), (46, I (s2 : Int)), (50, v_l), (51, I (l.length : Int)), (52, I (s4 : Int)), (61, gd (!(!r2)) (.func (.func 128) #[] #[Pz b_6])), (62, gd (!(!r2)) (I (revised.getD s2 0))), (63, gd (!(!r2)) (I (l.getD s4 0))), (64, gd (!(!r2)) (B r3)), (65, gd (!(!r2)) (B (!r3)))] ∧ M.iterN (m_notes_Lines_b13 w_ revised work r02 r03 r04 l) m (l4, s3) = some ex124z ∧ St w W [cBlk bk_b_10 [I s3] 3, cOwn (α := Int) 3 v_l4 l4, cOwn (α := Raw 0) 34 v_l10 rw_l10, cRo B_l10, cOwn (α := Int) 3 v_l l, cBlk b_7 [.func (.func 128) #[] #[Pz b_6]] 183, cBlk b_6 [Pz nb0_1] 174, cBlk nb0_1 [Pz nb1_2, v_revised, I r02, .map (some nb3_4), .map (some nb4_5)] 180, cRo Bs2_3, cMap encG I nb3_4 r03, cMap I B nb4_5 r04] R) ?_ ?_
   ·exact ⟨_, b_10, [(revised.getD s2 0 : Int)], l.getD s4 0, v120z, _, upds_of _ _ ⟨rfl, rfl, rfl, rfl, rfl, rfl, rfl, rfl, rfl, rfl, rfl, rfl, rfl, rfl, rfl, rfl, rfl, rfl, rfl, trivial⟩, hi125z, H⟩
   rintro m129z σ w127z ⟨bk_b_10, l4, s3, v_l4, ρ, rfl, hI128z, H⟩
   obtain ⟨m130z, lt131z, x132z, hM, hN133z⟩ := M.e_iterN hI128z
   simp only [m_notes_Lines_b13] at hM
   clear hI128z
   refine W.seq <| sQ rfl <| s_val (x_ld (p := Pz bk_b_10) (v := I s3) rfl (ldb_sc Sc3 (H.blk (k := 0) rfl) rfl)) <| sM (I work) rfl <| sC s3 work (s3 != work) rfl rfl rfl <| s_nil ?_
   refine W.cond (s3 != work) rfl (fun c134z => ?_) (fun c134z => ?_)
   ·replace hM := M.e_t hM c134z
    simp only [qz1, qz2, qz3, qz4, qz5, qz6, ne_eq, qz7] at c134z
    refine W.skip <| W.seq <| W.block <| sQ rfl <| sM v_l4 rfl <| s_val (x_ld (p := Pz bk_b_10) (v := I s3) rfl (ldb_sc Sc3 (H.blk (k := 0) rfl) rfl)) ?_
    refine t_bs (α := Int) T34 [I s3] [(s3 : Int)] H rfl (.cons rfl (Flat.rep_enc _ (s3 : Int)) <| .nil) rfl rfl rfl ?_
    intro v135z w136z H
    obtain ⟨sd137z, hM⟩ := M.e_gd hM
    refine t_app (α := Int) (k := 2) (l := l4) (l2 := [(s3 : Int)]) (l' := l4 ++ ([(s3 : Int)])) (vy := v135z) T34 rfl H rfl rfl rfl (ownSl (H.get (k := 0) rfl)) (ownLe _ (H.get (k := 0) rfl)) (rfl) (by first | omega | (simp only [List.length_nil] at *; omega)) ?_
    intro v138z w139z H
    replace H : St w w139z [cOwn (α := Int) 3 v135z ([(s3 : Int)]), cBlk bk_b_10 [I s3] 3, cOwn (α := Int) 3 v138z (l4 ++ ([(s3 : Int)])), cOwn (α := Raw 0) 34 v_l10 rw_l10, cRo B_l10, cOwn (α := Int) 3 v_l l, cBlk b_7 [.func (.func 128) #[] #[Pz b_6]] 183, cBlk b_6 [Pz nb0_1] 174, cBlk nb0_1 [Pz nb1_2, v_revised, I r02, .map (some nb3_4), .map (some nb4_5)] 180, cRo Bs2_3, cMap encG I nb3_4 r03, cMap I B nb4_5 r04] R := H
    refine sA v138z rfl <| s_nil <| W.region rfl <| sM v_l rfl <| s_val (x_mf (fs := []) (cs := [Pz b_7, Pz bk_b_10]) rfl rfl) ?_
    obtain ⟨r141z, hx140z, hM⟩ := M.e_bind hM
    refine s_call cf102 [v_l, .func (.func 129) #[] #[Pz b_7, Pz bk_b_10]] rfl (slices_IndexFunc_int_ok l (fun xqz => m_notes_Lines_2 xqz w_ revised r02 r03 r04 s3) (Reads.of (k := 5) rfl ownLe) (ownSl (H.get (k := 5) rfl)) ⟨129, [Pz b_7, Pz bk_b_10], rfl, cf129, fun wqz Lqz Cqz vqz xqz bqz hsqz hCqz hAqz hpqz => by obtain rfl := Arg.int hAqz; exact (notes_Lines_2_ok xqz w_ revised r02 r03 r04 s3 (Reads.app (hC_w_.app _) _) hs_w_ (Has.app (Has.ro (k := 9) rfl hf6z) _) (Reads.app (hC_revised.app _) _) hs_revised (Has.app (Has.here (k := 10) rfl) _) (Has.app (Has.here (k := 11) rfl) _) (Has.app (Has.here (k := 8) rfl) _) (Has.app (Has.here (k := 7) rfl) _) (Has.app (Has.here (k := 6) rfl) _) (Has.app (Has.here (k := 1) rfl) _) hpqz wqz (St.refl hsqz)).mono fun vqz wqz ⟨yqz, hrqz, hvqz, Hqz⟩ => by subst hrqz; exact ⟨hvqz, Hqz⟩⟩ hx140z _ (St.give (T := [cOwn (α := Int) 3 v135z ([(s3 : Int)]), cBlk bk_b_10 [I s3] 3, cOwn (α := Int) 3 v138z (l4 ++ ([(s3 : Int)])), cOwn (α := Raw 0) 34 v_l10 rw_l10, cRo B_l10, cOwn (α := Int) 3 v_l l, cBlk b_7 [.func (.func 128) #[] #[Pz b_6]] 183, cBlk b_6 [Pz nb0_1] 174, cBlk nb0_1 [Pz nb1_2, v_revised, I r02, .map (some nb3_4), .map (some nb4_5)] 180, cRo Bs2_3, cMap encG I nb3_4 r03, cMap I B nb4_5 r04]) H rfl)) ?_
    rintro vq w142z ⟨r4, hr143z, hvq, H2_⟩
    subst hr143z
    subst vq
    try dsimp only at hM
    replace H : St w w142z [cOwn (α := Int) 3 v135z ([(s3 : Int)]), cBlk bk_b_10 [I s3] 3, cOwn (α := Int) 3 v138z (l4 ++ ([(s3 : Int)])), cOwn (α := Raw 0) 34 v_l10 rw_l10, cRo B_l10, cOwn (α := Int) 3 v_l l, cBlk b_7 [.func (.func 128) #[] #[Pz b_6]] 183, cBlk b_6 [Pz nb0_1] 174, cBlk nb0_1 [Pz nb1_2, v_revised, I r02, .map (some nb3_4), .map (some nb4_5)] 180, cRo Bs2_3, cMap encG I nb3_4 r03, cMap I B nb4_5 r04] R := H.back H2_ rfl
    clear H2_
    refine t_st (k := 1) (b := bk_b_10) (off := 0) (cs := [I s3]) (vs := [I r4]) (cs' := [I r4]) (v := I r4) (L' := [cOwn (α := Int) 3 v135z ([(s3 : Int)]), cBlk bk_b_10 [I r4] 3, cOwn (α := Int) 3 v138z (l4 ++ ([(s3 : Int)])), cOwn (α := Raw 0) 34 v_l10 rw_l10, cRo B_l10, cOwn (α := Int) 3 v_l l, cBlk b_7 [.func (.func 128) #[] #[Pz b_6]] 183, cBlk b_6 [Pz nb0_1] 174, cBlk nb0_1 [Pz nb1_2, v_revised, I r02, .map (some nb3_4), .map (some nb4_5)] 180, cRo Bs2_3, cMap encG I nb3_4 r03, cMap I B nb4_5 r04]) H rfl rfl rfl Sz3 rfl rfl rfl rfl rfl rfl ?_
    intro w144z H
    refine s_nil <| sQ rfl <| s_val (x_ld (p := Pz bk_b_10) (v := I r4) rfl (ldb_sc Sc3 (H.blk (k := 1) rfl) rfl)) <| s_nil <| W.region rfl ?_
    refine t_alloc (cs := [I 0]) H Al3 rfl ?_
    intro b_12 w145z H
    refine t_st (k := 0) (b := b_12) (off := 0) (cs := [I 0]) (vs := [I r4]) (cs' := [I r4]) (v := I r4) (L' := [cBlk b_12 [I r4] 3, cOwn (α := Int) 3 v135z ([(s3 : Int)]), cBlk bk_b_10 [I r4] 3, cOwn (α := Int) 3 v138z (l4 ++ ([(s3 : Int)])), cOwn (α := Raw 0) 34 v_l10 rw_l10, cRo B_l10, cOwn (α := Int) 3 v_l l, cBlk b_7 [.func (.func 128) #[] #[Pz b_6]] 183, cBlk b_6 [Pz nb0_1] 174, cBlk nb0_1 [Pz nb1_2, v_revised, I r02, .map (some nb3_4), .map (some nb4_5)] 180, cRo Bs2_3, cMap encG I nb3_4 r03, cMap I B nb4_5 r04]) H rfl rfl rfl Sz3 rfl rfl rfl rfl rfl rfl ?_
    intro w146z H
    refine s_nil ?_
    exact ⟨m130z, lt131z, b_12, l4 ++ ([(s3 : Int)]), r4, v138z, _, upds_of _ _ ⟨rfl, rfl, rfl, rfl, rfl, rfl, rfl, rfl, rfl, rfl, rfl, rfl, rfl, rfl, rfl, rfl, rfl, rfl, rfl, trivial⟩, M.e_inl hM hN133z, (H.pick [0, 3, 4, 5, 6, 7, 8, 9, 10, 11, 12] (by decide) rfl)⟩
   replace hM := M.e_f hM c134z
   simp only [qz1, qz2, qz3, qz4, qz5, qz6, ne_eq, qz7] at c134z
   refine W.exit ?_
   have hX147z := M.e_inr hM hN133z
   subst hX147z
   replace hM := hk126z
   try dsimp only at hM
   refine W.region rfl <| sM v_l10 rfl <| sM v_l4 rfl <| sM (I work) rfl ?_
   refine t_bs (α := Int) T34 [I work] [(work : Int)] H rfl (.cons rfl (Flat.rep_enc _ (work : Int)) <| .nil) rfl rfl rfl ?_
   intro v148z w149z H
   obtain ⟨sd150z, hM⟩ := M.e_gd hM
   refine t_app (α := Int) (k := 2) (l := l4) (l2 := [(work : Int)]) (l' := l4 ++ ([(work : Int)])) (vy := v148z) T34 rfl H rfl rfl rfl (ownSl (H.get (k := 0) rfl)) (ownLe _ (H.get (k := 0) rfl)) (rfl) (by first | omega | (simp only [List.length_nil] at *; omega)) ?_
   intro v151z w152z H
   replace H : St w w152z [cOwn (α := Int) 3 v148z ([(work : Int)]), cBlk bk_b_10 [I s3] 3, cOwn (α := Int) 3 v151z (l4 ++ ([(work : Int)])), cOwn (α := Raw 0) 34 v_l10 rw_l10, cRo B_l10, cOwn (α := Int) 3 v_l l, cBlk b_7 [.func (.func 128) #[] #[Pz b_6]] 183, cBlk b_6 [Pz nb0_1] 174, cBlk nb0_1 [Pz nb1_2, v_revised, I r02, .map (some nb3_4), .map (some nb4_5)] 180, cRo Bs2_3, cMap encG I nb3_4 r03, cMap I B nb4_5 r04] R := H
   obtain ⟨Bs_14, H⟩ := H.emptyE
   obtain ⟨Bs_15, H, hs154z⟩ := H.freezeE (k := 3) rfl
   replace H : St w w152z [cRo Bs_14, cOwn (α := Int) 3 v148z ([(work : Int)]), cBlk bk_b_10 [I s3] 3, cRo Bs_15, cOwn (α := Raw 0) 34 v_l10 rw_l10, cRo B_l10, cOwn (α := Int) 3 v_l l, cBlk b_7 [.func (.func 128) #[] #[Pz b_6]] 183, cBlk b_6 [Pz nb0_1] 174, cBlk nb0_1 [Pz nb1_2, v_revised, I r02, .map (some nb3_4), .map (some nb4_5)] 180, cRo Bs2_3, cMap encG I nb3_4 r03, cMap I B nb4_5 r04] R := H
   have hq153z := hs154z
   obtain ⟨Bs_16, H, le155z, le156z⟩ := H.joinE (i := 0) (j := 3) rfl rfl
   replace hq153z := hq153z.mono le156z
   obtain ⟨rw157z, hrw_rw157z⟩ : ∃ r : Raw 0, r.cs = [v151z] := ⟨Raw.of [v151z] rfl (by simp only [List.all_cons, List.all_nil, Bool.true_and, Bool.and_true, Sl.oc hq153z]; try rfl), rfl⟩
   have hr158z : RepR (α := List Int) Bs_16.cells [rw157z] [l4 ++ ([(work : Int)])] := .cons (by rw [hrw_rw157z]; exact ⟨_, rfl, hq153z⟩) <| .nil
   refine t_bs (α := Raw 0) T73 [v151z] [rw157z] H rfl (.cons (by rw [show (Flat.enc rw157z : List Value) = rw157z.cs from rfl, hrw_rw157z]; exact Sl.cells hq153z) (Flat.rep_enc _ _) <| .nil) rfl rfl rfl ?_
   intro v159z w160z H
   replace H : St w w160z [cOwn (α := Raw 0) 34 v159z ([rw157z]), cRo Bs_16, cRo Bs_14, cOwn (α := Int) 3 v148z ([(work : Int)]), cBlk bk_b_10 [I s3] 3, cRo Bs_15, cOwn (α := Raw 0) 34 v_l10 rw_l10, cRo B_l10, cOwn (α := Int) 3 v_l l, cBlk b_7 [.func (.func 128) #[] #[Pz b_6]] 183, cBlk b_6 [Pz nb0_1] 174, cBlk nb0_1 [Pz nb1_2, v_revised, I r02, .map (some nb3_4), .map (some nb4_5)] 180, cRo Bs2_3, cMap encG I nb3_4 r03, cMap I B nb4_5 r04] R := H
   obtain ⟨sd161z, hM⟩ := M.e_gd hM
   have hr162z := hr158z
   obtain ⟨Bs_20, H, le163z, le164z⟩ := H.joinE (i := 7) (j := 1) rfl rfl
   replace hr_l10 := hr_l10.mono le163z
   replace hr162z := hr162z.mono le164z
   have hr167z := hr_l10.app hr162z
   refine t_app (α := Raw 0) (k := 7) (l := rw_l10) (l2 := [rw157z]) (l' := rw_l10 ++ ([rw157z])) (vy := v159z) T73 rfl H rfl rfl rfl (ownSl (H.get (k := 1) rfl)) (ownLe _ (H.get (k := 1) rfl)) (rfl) (by have a_ := hr_l10.len; have b_ := hr162z.len; simp only [List.length_nil] at *; first | omega | (rw [a_, b_]; omega)) ?_
   intro v165z w166z H
   replace H : St w w166z [cRo Bs_20, cOwn (α := Raw 0) 34 v159z ([rw157z]), cRo Bs_16, cRo Bs_14, cOwn (α := Int) 3 v148z ([(work : Int)]), cBlk bk_b_10 [I s3] 3, cRo Bs_15, cOwn (α := Raw 0) 34 v165z (rw_l10 ++ ([rw157z])), cRo B_l10, cOwn (α := Int) 3 v_l l, cBlk b_7 [.func (.func 128) #[] #[Pz b_6]] 183, cBlk b_6 [Pz nb0_1] 174, cBlk nb0_1 [Pz nb1_2, v_revised, I r02, .map (some nb3_4), .map (some nb4_5)] 180, cRo Bs2_3, cMap encG I nb3_4 r03, cMap I B nb4_5 r04] R := H
   refine sA v165z rfl <| s_nil <| W.region rfl <| sR (s4 : Int) 1 ((s4 : Int) + 1) rfl rfl rfl (by omega) <| sM (I ((s4 : Int) + 1)) rfl <| s_nil ?_
   exact ⟨m107z, lt108z, s4 + 1, l10 ++ ([l4 ++ ([(work : Int)])]), v165z, rw_l10 ++ ([rw157z]), Bs_20, _, upds_of _ _ ⟨rfl, rfl, rfl, rfl, rfl, rfl, rfl, rfl, rfl, rfl, rfl, rfl, trivial⟩, M.e_inl hM hN110z, (H.pick [7, 0, 9, 10, 11, 12, 13, 14, 15] (by decide) rfl), hr167z⟩
  replace hM := M.e_f hM c111z
  simp only [qz1, qz2, qz3, qz4, qz5, qz6, ne_eq, qz7] at c111z
  refine W.exit ?_
  have hX168z := M.e_inr hM hN110z
  subst hX168z
  replace hM := hk103z
  try dsimp only at hM
  refine W.region rfl <| sR (s2 : Int) 1 ((s2 : Int) + 1) rfl rfl rfl (by omega) <| sM (I ((s2 : Int) + 1)) rfl <| s_nil ?_
  exact ⟨m94z, lt95z, s2 + 1, l10, v_l10, rw_l10, B_l10, _, upds_of _ _ ⟨rfl, rfl, rfl, rfl, rfl, rfl, rfl, rfl, trivial⟩, M.e_inl hM hN97z, H, hr_l10⟩
 replace hM := M.e_f hM c98z
 simp only [qz1, qz2, qz3, qz4, qz5, qz6, ne_eq, qz7] at c98z
 refine W.exit ?_
 have hX169z := M.e_inr hM hN97z
 subst hX169z
 replace hM := hk90z
 try dsimp only at hM
 refine sQ rfl <| sM v_l12 rfl <| sA v_l12 rfl <| sA (I 0) rfl <| s_nil ?_
 refine W.ret ?_
 have hr_ := M.e_pure hM
 exact ⟨_, resE_tmp2 rfl, ⟨l12, 0, v_l12, rw_l12, B_l12, hr_, rfl, (H.pick [0, 1] (by decide) rfl), hr_l12⟩⟩

end Go.Proofs.Ytndobgodeicloaa
end
