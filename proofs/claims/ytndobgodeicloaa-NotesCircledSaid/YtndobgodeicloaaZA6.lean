/- Part 6 of the texts on which the proof rests. Conditions: none. -/
import Derived.Test.YtndobgodeicloaaZA5
set_option linter.unusedVariables false
set_option linter.unusedSimpArgs false
set_option linter.unusedSectionVars false
namespace Go.Proofs.Ytndobgodeicloaa
open Go Go.Nm
variable {ws : List Work} {rev f : List Int}
end Go.Proofs.Ytndobgodeicloaa
namespace Go.Proofs.Ytndobgodeicloaa
open Go Go.Nm
variable {ws : List Work} {rev f : List Int}
structure RRel (ws : List Work) (rev : List Int) (t : Nat) (R : List Int) : Prop where
  len : R.length = ws.length
  eq : ∀ x ∈ (orderP ws).take t, R.getD x.toNat 0 = (readyR ws rev).getD x.toNat 0
end Go.Proofs.Ytndobgodeicloaa
namespace Go.Proofs.Ytndobgodeicloaa
open Go Go.Nm
variable {ws : List Work}
theorem notesOrder_ends (ws : List Work) : (m_notes_Order ws).Ends (if openedE ws = 0 then (orderP ws, 0) else ([], openedE ws)) := by
  unfold m_notes_Order
  by_cases hO : openedE ws = 0
  · rw [if_pos hO]
    exact M.i_t (by simp [hO]) (M.i_f rfl M.i_pure)
  · rw [if_neg hO]
    exact M.i_f (by simpa using hO) (M.i_t (by simpa using hO) M.i_pure)
theorem notesCheck_ends (ws : List Work) : (m_notes_Check ws).Ends (openedE ws) := by
  unfold m_notes_Check
  by_cases hO : openedE ws = 0
  · rw [hO]; exact M.i_t rfl M.i_pure
  · exact M.i_f (by simpa using hO) M.i_pure
end Go.Proofs.Ytndobgodeicloaa
namespace Go.Nm
open Go
def raw0 : Raw 2 := Raw.of [.slice none 0 0, I 0, I 0] rfl rfl
def work0 : Work := ⟨[], 0, 0⟩
theorem rep0 {X : Cells} : Elt.rep X raw0.cs work0 := ⟨_, rfl, Sl.nil _⟩
/-- Works the first of which are copied; the row of one of them is a part of its own. -/
def Hole (X : Cells) (f s : Nat) (A : List Chunk) (rw : List (Raw 2)) (l : List Work) : Prop :=
  (s ≤ f ∧ A = [] ∧ RepR (α := Work) X rw l) ∨
  (f < s ∧ ∃ x, A = [cOwn (α := Int) 3 x (l.getD f default).of] ∧ RepR (α := Work) X (rw.set f raw0) (l.set f work0) ∧ f < l.length ∧ (rw.getD f default).cs = [x, I (l.getD f default).base, I (l.getD f default).minutes])
variable {X Y : Cells} {f s : Nat} {A : List Chunk} {rw : List (Raw 2)} {l : List Work}
theorem Hole.mono (h : Hole X f s A rw l) (hle : X.Le Y) : Hole Y f s A rw l := by
  rcases h with ⟨h1, h2, h3⟩ | ⟨h1, x, h2, h3, h4⟩
  · exact .inl ⟨h1, h2, h3.mono hle⟩
  · exact .inr ⟨h1, x, h2, h3.mono hle, h4⟩
theorem Hole.len (h : Hole X f s A rw l) : rw.length = l.length := by
  rcases h with ⟨_, _, h3⟩ | ⟨_, x, _, h3, _⟩
  · exact h3.len
  · have := h3.len
    simpa using this
theorem put_cs {r : Raw 2} {a b c v : Value} {h h1} (hr : r.cs = [a, b, c]) : (Raw.put r 0 [v] h h1).cs = [v, b, c] := by
  show r.cs.take 0 ++ [v] ++ r.cs.drop (0 + ([v] : List Value).length) = _
  rw [hr]
  rfl
theorem Hole.step (h : Hole X f s A rw l) (hs : s < l.length) (hne : s ≠ f) {v : Value} {o : List Int} (hv : Sl X v o) {h0 h1} :
    Hole X f (s + 1) A (rw.set s (Raw.put (rw.getD s default) 0 [v] h0 h1)) (l.set s { (l.getD s default) with of := o }) := by
  rcases h with ⟨k1, k2, k3⟩ | ⟨k1, x, k2, k3, k4, k5⟩
  · refine .inl ⟨by omega, k2, k3.set _ ?_⟩
    obtain ⟨sv, hc, _⟩ := k3.getD (k := s) hs default
    rw [put_cs hc]
    exact ⟨_, rfl, hv⟩
  · have e1 : (l.set s { (l.getD s default) with of := o }).getD f default = l.getD f default := by
      rw [List.getD_eq_getElem?_getD, List.getElem?_set_ne hne, ← List.getD_eq_getElem?_getD]
    have e2 : (rw.set s (Raw.put (rw.getD s default) 0 [v] h0 h1)).getD f default = rw.getD f default := by
      rw [List.getD_eq_getElem?_getD, List.getElem?_set_ne hne, ← List.getD_eq_getElem?_getD]
    refine .inr ⟨by omega, x, by rw [e1]; exact k2, ?_, by rw [List.length_set]; exact k4, by rw [e1, e2]; exact k5⟩
    rw [List.set_comm _ _ hne, List.set_comm _ _ hne]
    refine k3.set _ ?_
    have hs' : s < (l.set f work0).length := by rw [List.length_set]; exact hs
    obtain ⟨sv, hc, _⟩ := k3.getD (k := s) hs' default
    have e3 : (rw.set f raw0).getD s default = rw.getD s default := by
      rw [List.getD_eq_getElem?_getD, List.getElem?_set_ne (Ne.symm hne), ← List.getD_eq_getElem?_getD]
    have e4 : (l.set f work0).getD s default = l.getD s default := by
      rw [List.getD_eq_getElem?_getD, List.getElem?_set_ne (Ne.symm hne), ← List.getD_eq_getElem?_getD]
    rw [e3, e4] at hc
    rw [put_cs hc]
    exact ⟨_, rfl, hv⟩
theorem Hole.own (h : Hole X f f A rw l) (hs : f < l.length) {v : Value} {o : List Int} {h0 h1} :
    A = [] ∧ Hole X f (f + 1) [cOwn (α := Int) 3 v o] (rw.set f (Raw.put (rw.getD f default) 0 [v] h0 h1)) (l.set f { (l.getD f default) with of := o }) := by
  rcases h with ⟨k1, k2, k3⟩ | ⟨k1, _⟩
  · have hl := k3.len
    obtain ⟨sv, hc, _⟩ := k3.getD (k := f) hs default
    have e1 : (l.set f { (l.getD f default) with of := o }).getD f default = { (l.getD f default) with of := o } := by
      rw [List.getD_eq_getElem?_getD, List.getElem?_set_self hs]; rfl
    have e2 : (rw.set f (Raw.put (rw.getD f default) 0 [v] h0 h1)).getD f default = Raw.put (rw.getD f default) 0 [v] h0 h1 := by
      rw [List.getD_eq_getElem?_getD, List.getElem?_set_self (by omega)]; rfl
    refine ⟨k2, .inr ⟨by omega, v, by rw [e1], ?_, by rw [List.length_set]; exact hs, by rw [e1, e2, put_cs hc]⟩⟩
    rw [List.set_set, List.set_set]
    exact k3.set f rep0
  · omega
theorem hole_fill {x v : Value} {o : List Int} (h : RepR (α := Work) X (rw.set f raw0) (l.set f work0)) (hc : (rw.getD f default).cs = [x, I (l.getD f default).base, I (l.getD f default).minutes]) (hv : Sl X v o) {h0 h1} :
    RepR (α := Work) X (rw.set f (Raw.put (rw.getD f default) 0 [v] h0 h1)) (l.set f { (l.getD f default) with of := o }) := by
  have := h.set f (c := Raw.put (rw.getD f default) 0 [v] h0 h1) (x := { (l.getD f default) with of := o }) (by rw [put_cs hc]; exact ⟨_, rfl, hv⟩)
  rwa [List.set_set, List.set_set] at this
theorem raw_at0 {v x b c : Value} {rs : List (Raw 2)} (h : Sl X v rs) {i : Int} (h0 : 0 ≤ i) (h1 : i < rs.length) (hc : (rs.getD i.toNat default).cs = [x, b, c]) : At X (fat (vat v 3 i.toNat) 0) [x] := by
  obtain ⟨cs, ha, hr⟩ := h.atI h0 h1 default
  subst hr
  rw [hc] at ha
  exact ha.fld 0 1
end Go.Nm
namespace Go.Proofs.Ytndobgodeicloaa
open Go Go.Nm
set_option maxRecDepth 100000 in
set_option maxHeartbeats 16000000 in
theorem copyWorks_at {R : List Chunk} {C_w_ : Cells} {v_w_ : Value} (w_ : List Work) (hC_w_ : Reads R C_w_) (hs_w_ : Sl C_w_ v_w_ w_) {r : (List Work)} (hM : (m_nilometerlaw13_CopyWorks w_).Ends r) {f : Nat} (hf : f < w_.length) (w : World) (H : St w w [] R) : Ret Try.prog 18 #[v_w_] w fun v w' => ∃ (u0 : Value) (rr1 : List (Raw 2)) (Bs2 : Base) (x : Value), v = u0 ∧ St w w' [cOwn (α := Int) 3 x (r.getD f default).of, cOwn (α := Raw 2) 60 u0 rr1, cRo Bs2] R ∧ RepR (α := Work) (Cells.sup C_w_ Bs2.cells) (rr1.set f raw0) (r.set f work0) ∧ f < r.length ∧ (rr1.getD f default).cs = [x, I (r.getD f default).base, I (r.getD f default).minutes] := by
 refine ret_of_W Try.func18 rfl rfl rfl ?_
 refine W.seq ?_
 refine W.region rfl ?_
 refine s_val (x_as (v := .slice none 0 0) rfl) ?_
 refine s_nil ?_
 refine W.seq ?_
 refine W.region rfl ?_
 refine s_val (x_mv (v := v_w_) rfl) ?_
 obtain ⟨r2z, hx1z, hM⟩ := M.e_bind hM
 have hcp : w_ = r2z := by unfold m_nilometerkit_Copy_notes_Work at hx1z; exact M.e_pure (M.e_grd hx1z).2
 refine s_call cf80 [v_w_] rfl (nilometerkit_Copy_notes_Work_ok w_ (hC_w_.app _) hs_w_ hx1z _ (St.give (T := []) H rfl)) ?_
 rintro vq w3z ⟨r2, u0_1, rr1_2, Bs2_3, hr4z, hvq, H2_, hf5z⟩
 subst hr4z
 subst vq
 try dsimp only at hM
 replace H : St w w3z [cOwn (α := Raw 2) 60 u0_1 rr1_2, cRo Bs2_3] R := H.back H2_ rfl
 clear H2_
 refine s_val (x_as (v := u0_1) rfl) ?_
 refine s_nil ?_
 refine W.seq ?_
 refine W.seq ?_
 refine W.region rfl ?_
 refine s_val (x_mv (v := u0_1) rfl) ?_
 have hl6z := ((rowSl rfl (H.get (k := 0) rfl) (Cells.sup_le (hC_w_.at H) (roLe _ (H.get (k := 1) rfl))) hf5z)).len_le
 refine s_val (x_lenS T22.und rfl (rowSl rfl (H.get (k := 0) rfl) (Cells.sup_le (hC_w_.at H) (roLe _ (H.get (k := 1) rfl))) hf5z)) ?_
 refine s_val (x_mv (v := I 0) rfl) ?_
 refine s_nil ?_
 refine W.block ?_
 obtain ⟨ex7z, hi8z, hk9z⟩ := M.e_bind hM
 obtain ⟨m0_, hi8z⟩ := M.e_iter hi8z
 refine W.loop (fun m σ W => ∃ (l : List Work) (s : Nat) (v_l : Value) (rw_l : List (Raw 2)) (B_l : Base) (ρ : Env), σ = upds ρ [(0, v_w_), (3, v_l), (8, I (r2.length : Int)), (9, I (s : Int))] ∧ M.iterN (m_nilometerlaw13_CopyWorks_b0 w_ r2) m (l, s) = some ex7z ∧ ∃ A, St w W [cAll A, cOwn (α := Raw 2) 60 v_l rw_l, cRo B_l] R ∧ Hole (Cells.sup C_w_ B_l.cells) f s A rw_l l) ?_ ?_
 ·exact ⟨_, r2, 0, u0_1, rr1_2, Bs2_3, _, upds_of _ _ ⟨rfl, rfl, rfl, rfl, trivial⟩, hi8z, [], St.bundle (A := []) (fun c h => by cases h) H, .inl ⟨Nat.zero_le _, rfl, hf5z⟩⟩
 ·rintro m12z σ w10z ⟨l, s, v_l, rw_l, B_l, ρ, rfl, hI11z, A, H, hr_l⟩
  obtain ⟨m13z, lt14z, x15z, hM, hN16z⟩ := M.e_iterN hI11z
  simp only [m_nilometerlaw13_CopyWorks_b0] at hM
  clear hI11z
  refine W.seq ?_
  refine W.region rfl ?_
  refine s_val (x_cmp (kd := .i64) (a := (s : Int)) (b := (r2.length : Int)) (r := decide ((s : Int) < (r2.length : Int))) rfl rfl rfl) ?_
  refine s_nil ?_
  refine W.seq ?_
  refine W.cond (decide ((s : Int) < (r2.length : Int))) rfl (fun c17z => ?_) (fun c17z => ?_)
  ·replace hM := M.e_t hM c17z
   simp only [decide_eq_true_eq, decide_eq_false_iff_not, beq_iff_eq, bne_iff_ne, beq_eq_false_iff_ne, bne_eq_false_iff_eq, ne_eq, Decidable.not_not] at c17z
   refine W.skip ?_
   refine W.seq ?_
   refine W.block ?_
   refine W.seq ?_
   refine W.region rfl ?_
   refine s_val (x_mv (v := I (s : Int)) rfl) ?_
   refine s_val (x_as (v := I (s : Int)) rfl) ?_
   refine s_nil ?_
   refine W.region rfl ?_
   refine s_val (x_mv (v := v_l) rfl) ?_
   refine s_val (x_mv (v := I (s : Int)) rfl) ?_
   refine s_val (x_mv (v := v_w_) rfl) ?_
   refine s_val (x_mv (v := I (s : Int)) rfl) ?_
   obtain ⟨sd18z, hM⟩ := M.e_grd hM
   simp only [Bool.and_eq_true, decide_eq_true_eq] at sd18z
   refine s_val (x_ix (a := v_w_) (b := I (s : Int)) (v := vat v_w_ 3 (Int.toNat (s : Int))) rfl rfl (Sl.ix (α := Work) T22.und T22.size hs_w_ (by omega) (by omega))) ?_
   refine s_val (x_fa (a := vat v_w_ 3 (Int.toNat (s : Int))) (v := fat (vat v_w_ 3 (Int.toNat (s : Int))) 0) rfl (fa_pl Fd60_0 Sz34 (Sl.pl (i := (s : Int)) hs_w_ (by omega) (by omega)))) ?_
   obtain ⟨u19z, ha_u19z, hs20z⟩ := Work_at0 hs_w_ (i := (s : Int)) (by omega) (by omega)
   replace hs20z : Sl _ u19z (w_.getD s default).of := hs20z
   have hl_hs20z := hs20z.len_le
   refine s_val (x_ld (p := fat (vat v_w_ 3 (Int.toNat (s : Int))) 0) (v := u19z) rfl (ld_sc Sc34 (At.mono (ha_u19z) (hC_w_.at H)))) ?_
   obtain ⟨sd21z, hM⟩ := M.e_grd hM
   simp only [Bool.and_eq_true, decide_eq_true_eq] at sd21z
   refine s_call cf31 [u19z] rfl (copy_int _ (hs20z.mono (hC_w_.at H)) (by omega)) ?_
   rintro v23z w22z ⟨ho_, hx_⟩
   replace H : St w w22z [cOwn (α := Int) 3 v23z ((w_.getD s default).of), cAll A, cOwn (α := Raw 2) 60 v_l rw_l, cRo B_l] R := H.ownOf hx_ ho_
   clear hx_ ho_
   obtain ⟨sd24z, hM⟩ := M.e_grd hM
   simp only [Bool.and_eq_true, decide_eq_true_eq] at sd24z
   have hlen := hr_l.len
   refine s_val (x_ix (a := v_l) (b := I (s : Int)) (v := vat v_l 3 (Int.toNat (s : Int))) rfl rfl (Sl.ix (α := Raw 2) T22.und T22.size (ownSl (H.get (k := 2) rfl)) (by omega) (by omega))) ?_
   refine s_val (x_fa (a := vat v_l 3 (Int.toNat (s : Int))) (v := fat (vat v_l 3 (Int.toNat (s : Int))) 0) rfl (fa_pl Fd60_0 Sz34 (Sl.pl (α := Raw 2) (i := (s : Int)) (ownSl (H.get (k := 2) rfl)) (by omega) (by omega)))) ?_
   have hoc : (([v23z] : List Value).all (·.oneCell')) = true := by simp only [List.all_cons, List.all_nil, Bool.true_and, Bool.and_true, Sl.oc (ownSl (H.get (k := 0) rfl))]
   have hce := Sl.cells (ownSl (H.get (k := 0) rfl))
   obtain ⟨A2, B2, H, hr2⟩ : ∃ A2 B2, St w w22z [cAll A2, cOwn (α := Raw 2) 60 v_l rw_l, cRo B2] R ∧ Hole (Cells.sup C_w_ B2.cells) f (s + 1) A2 (rw_l.set s (Raw.put (rw_l.getD s default) 0 [v23z] rfl hoc)) (l.set s { (l.getD s default) with of := (w_.getD s default).of }) := by
    by_cases e : s = f
    · subst e
      obtain ⟨rfl, h2⟩ := hr_l.own (by omega : s < l.length) (v := v23z) (o := (w_.getD s default).of) (h0 := rfl) (h1 := hoc)
      exact ⟨_, B_l, St.bundle (A := [cOwn (α := Int) 3 v23z ((w_.getD s default).of)]) (fun c h => by rw [List.mem_singleton.1 h]; rfl) (H.pick [0, 2, 3] (by decide) rfl), h2⟩
    · obtain ⟨Bs_5, H, hs27z⟩ := H.freezeE (k := 0) rfl
      replace H : St w w22z [cRo Bs_5, cAll A, cOwn (α := Raw 2) 60 v_l rw_l, cRo B_l] R := H
      obtain ⟨Bs_6, H, le28z, le29z⟩ := H.joinE (i := 3) (j := 0) rfl rfl
      refine ⟨A, Bs_6, H.pick [2, 3, 0] (by decide) rfl, (hr_l.mono (Cells.sup_mono le28z (hC_w_.at H) (roLe _ (H.get (k := 0) rfl)))).step (by omega) e (hs27z.mono (le29z.trans (Cells.sup_r (hC_w_.at H) (roLe _ (H.get (k := 0) rfl)))))⟩
   obtain ⟨rw30z, hw32z⟩ : ∃ r : List (Raw 2), rw_l.set s (Raw.put (rw_l.getD s default) 0 [v23z] rfl hoc) = r := ⟨_, rfl⟩
   rw [hw32z] at hr2
   refine t_fst (α := Raw 2) (k := 1) (i := (s : Int)) (off := 0) (l := rw_l) (l' := rw30z) (val := v23z) (L' := [cAll A2, cOwn (α := Raw 2) 60 v_l rw30z, cRo B2]) H rfl Sz34 (by omega) (by omega) ((rw_l).getD s default) (Raw.put ((rw_l).getD s default) 0 [v23z] rfl hoc) (getD_some _ (by omega) _) rfl rfl [v23z] hce rfl rfl hoc rfl hw32z rfl ?_
   intro w34z H
   refine s_nil ?_
   refine W.region rfl ?_
   refine s_val (x_ari (a := (s : Int)) (b := 1) (r := (s : Int) + 1) rfl rfl rfl (by omega)) ?_
   refine s_val (x_mv (v := I ((s : Int) + 1)) rfl) ?_
   refine s_nil ?_
   exact ⟨m13z, lt14z, l.set s ({ (l.getD s default) with of := ((w_.getD s default).of) }), s + 1, v_l, rw30z, B2, _, upds_of _ _ ⟨rfl, rfl, rfl, rfl, trivial⟩, M.e_inl hM hN16z, A2, H, hr2⟩
  ·replace hM := M.e_f hM c17z
   simp only [decide_eq_true_eq, decide_eq_false_iff_not, beq_iff_eq, bne_iff_ne, beq_eq_false_iff_ne, bne_eq_false_iff_eq, ne_eq, Decidable.not_not] at c17z
   refine W.exit ?_
   have hX35z := M.e_inr hM hN16z
   subst hX35z
   replace hM := hk9z
   try dsimp only at hM
   refine W.seq ?_
   refine W.region rfl ?_
   refine s_val (x_mv (v := v_l) rfl) ?_
   refine s_val (x_as (v := v_l) rfl) ?_
   refine s_nil ?_
   refine W.ret ?_
   have hr_ := M.e_pure hM
   subst hr_
   rcases hr_l with ⟨k1, _⟩ | ⟨k1, x, rfl, k3, k4, k5⟩
   · subst hcp; omega
   · exact ⟨_, resE_tmp rfl, ⟨v_l, rw_l, B_l, x, rfl, St.unbundle H, k3, k4, k5⟩⟩
end Go.Proofs.Ytndobgodeicloaa
section
set_option maxRecDepth 100000
set_option maxHeartbeats 16000000
namespace Go.Proofs.Ytndobgodeicloaa
open Go Go.Nm
def m_nilometerlaw13_NotesCircled_b1 (r3 : List Work) (r0 : List Int) (s2 : Nat) : Nat → M (Nat ⊕ (Unit ⊕ Unit)) := fun s =>
  bif decide ((s : Int) < (((r3.getD (Int.toNat (r0.getD s2 0)) default).of).length : Int)) then (
  M.grd (decide ((s : Int) < (((r3.getD (Int.toNat (r0.getD s2 0)) default).of).length : Int))) <|
  bif !((r0.take s2).contains (((r3.getD (Int.toNat (r0.getD s2 0)) default).of).getD s 0)) then (
  M.pure (.inr (.inl ())))
  else (
  M.pure (.inl (s + 1))))
  else (
  M.pure (.inr (.inr ())))
def m_nilometerlaw13_NotesCircled_b2 (r3 : List Work) (r0 : List Int) : Nat → M (Nat ⊕ (Unit ⊕ Unit)) := fun s2 =>
  bif decide ((s2 : Int) < (r0.length : Int)) then (
  M.grd (decide ((s2 : Int) < (r0.length : Int))) <|
  bif (((decide ((r0.getD s2 0) < 0)) || (decide ((r3.length : Int) ≤ (r0.getD s2 0)))) || ((r0.take s2).contains (r0.getD s2 0))) then (
  M.pure (.inr (.inl ())))
  else (
  M.grd (decide ((0 : Int) ≤ (r0.getD s2 0)) && decide ((r0.getD s2 0) < (r3.length : Int))) <|
  M.bind (M.iter (m_nilometerlaw13_NotesCircled_b1 r3 r0 s2) 0) fun x_ => match x_ with
  | (.inl (_ : Unit)) => (
  M.pure (.inr (.inl ())))
  | (.inr (_ : Unit)) => (
  M.pure (.inl (s2 + 1)))))
  else (
  M.pure (.inr (.inr ())))
def m_nilometerlaw13_NotesCircled (numbers : List UInt8) (a : Int) (b : Int) : M Bool :=
  M.bind (m_nilometerkit_New numbers) fun (r1, r2) =>
  M.bind (m_nilometerlaw13_Made numbers r1 r2 14) fun (r3, q1, q2) =>
  M.bind (m_notes_Order r3) fun (r0, r12) =>
  M.bind (m_notes_Circle r3) fun (r02, r13) =>
  bif (((r12 != 0) || (r13 != 5)) || ((r0.length : Int) != (r3.length : Int))) then (
  M.pure false)
  else (
  M.bind (M.iter (m_nilometerlaw13_NotesCircled_b2 r3 r0) 0) fun x_ => match x_ with
  | (.inl (_ : Unit)) => (
  M.pure false)
  | (.inr (_ : Unit)) => (
  M.grd (decide ((0 : Int) ≤ a) && decide (a < (256 : Int))) <|
  M.grd (decide ((0 : Int) ≤ a) && decide ((0 : Int) < (r3.length : Int))) <|
  M.grd (decide ((0 : Int) ≤ b) && decide (b < (256 : Int))) <|
  M.grd ((!(!((a % (r3.length : Int)) == (b % (r3.length : Int)))) || (decide ((0 : Int) ≤ (a % (r3.length : Int))) && decide ((a % (r3.length : Int)) < (r3.length : Int))))) <|
  M.grd ((!(!(((a % (r3.length : Int)) == (b % (r3.length : Int))) || ((((r3.getD (Int.toNat (a % (r3.length : Int))) default).of).length : Int) == 5))) || (decide ((0 : Int) ≤ (a % (r3.length : Int))) && decide ((a % (r3.length : Int)) < (r3.length : Int))))) <|
  bif ((((a % (r3.length : Int)) == (b % (r3.length : Int))) || ((((r3.getD (Int.toNat (a % (r3.length : Int))) default).of).length : Int) == 5)) || (((r3.getD (Int.toNat (a % (r3.length : Int))) default).of).contains (b % (r3.length : Int)))) then (
  M.bind (m_nilometerlaw13_awake) fun r4 =>
  M.pure r4)
  else (
  M.grd (decide ((0 : Int) ≤ (a % (r3.length : Int))) && decide ((a % (r3.length : Int)) < (r3.length : Int))) <|
  M.bind (m_nilometerlaw13_CopyWorks r3) fun r5 =>
  M.grd (decide ((((r5.getD (Int.toNat (a % (r3.length : Int))) default).of).length + ([b % (r3.length : Int)]).length) * 8 ≤ 140737488355328)) <|
  M.bind (m_notes_Line r3 (a % (r3.length : Int)) (b % (r3.length : Int))) fun (r03, r14) =>
  M.bind (m_notes_Check (r5.set (Int.toNat (a % (r3.length : Int))) { (r5.getD (Int.toNat (a % (r3.length : Int))) default) with of := ((r5.getD (Int.toNat (a % (r3.length : Int))) default).of) ++ ([b % (r3.length : Int)]) })) fun r6 =>
  M.bind (m_notes_Circle (r5.set (Int.toNat (a % (r3.length : Int))) { (r5.getD (Int.toNat (a % (r3.length : Int))) default) with of := ((r5.getD (Int.toNat (a % (r3.length : Int))) default).of) ++ ([b % (r3.length : Int)]) })) fun (r04, r15) =>
  bif r14 != 0 then (
  M.bind (M.opt (((r14 == 5) && (r6 == 0)) && (r15 == 5)) (m_nilometerlaw13_awake) false) fun r7 =>
  M.pure ((((r14 == 5) && (r6 == 0)) && (r15 == 5)) && r7))
  else (
  bif (((((r6 != 9) || (r15 != 0)) || (decide ((r04.length : Int) < 2))) || (!(r04.contains (a % (r3.length : Int))))) || (!(r04.contains (b % (r3.length : Int))))) then (
  M.pure false)
  else (
  M.bind (m_nilometerlaw13_circle (r5.set (Int.toNat (a % (r3.length : Int))) { (r5.getD (Int.toNat (a % (r3.length : Int))) default) with of := ((r5.getD (Int.toNat (a % (r3.length : Int))) default).of) ++ ([b % (r3.length : Int)]) }) r04) fun r8 =>
  M.bind (M.opt r8 (m_nilometerlaw13_awake) false) fun r9 =>
  M.pure (r8 && r9))))))
theorem nilometerlaw13_NotesCircled_ok {R : List Chunk} {C_numbers : Cells} {v_numbers : Value} (numbers : List UInt8) (a : Int) (b : Int) (hC_numbers : Reads R C_numbers) (hs_numbers : Sl C_numbers v_numbers numbers) {r : Bool} (hM : (m_nilometerlaw13_NotesCircled numbers a b).Ends r) (w : World) (H : St w w [] R) : Ret Try.prog 11 #[v_numbers, .int .u8 a, .int .u8 b] w fun v w' => ∃ (y0 : Bool), y0 = r ∧ v = B y0 ∧ St w w' [] R := by
 refine ret_of_W Try.func11 rfl rfl rfl ?_
 refine sQ rfl <| sA (B false) rfl <| s_nil <| sQ rfl <| sM v_numbers rfl ?_
 obtain ⟨r2z, hx1z, hM⟩ := M.e_bind hM
 refine s_call cf40 [v_numbers] rfl (nilometerkit_New_ok numbers (hC_numbers.app _) hs_numbers hx1z _ (St.give (T := []) H rfl)) ?_
 rintro vq w3z ⟨r1, r2, nb0_1, hr4z, hvq, H2_⟩
 subst hr4z
 subst vq
 try dsimp only at hM
 replace H : St w w3z [cBlk nb0_1 [v_numbers, I r1, I r2] 158] R := H.back H2_ rfl
 clear H2_
 obtain ⟨r6z, hx5z, hM⟩ := M.e_bind hM
 refine s_call cf41 [Pz nb0_1, I 14] rfl (nilometerlaw13_Made_ok numbers r1 r2 14 (hC_numbers.app _) hs_numbers hx5z _ (St.give (T := []) H rfl)) ?_
 rintro vq w7z ⟨r3, q1, q2, u0_2, rr1_3, Bs2_4, hr8z, hvq, H2_, hf9z⟩
 subst hr8z
 subst vq
 try dsimp only at hM
 replace H : St w w7z [cOwn (α := Raw 2) 60 u0_2 rr1_3, cRo Bs2_4, cBlk nb0_1 [v_numbers, I q1, I q2] 158] R := H.back H2_ rfl
 clear H2_
 refine sA u0_2 rfl <| s_nil <| sQ rfl <| sM u0_2 rfl ?_
 obtain ⟨r11z, hx10z, hM⟩ := M.e_bind hM
 refine s_call cf54 [u0_2] rfl (notes_Order_ok r3 (Reads.sup (Reads.of (k := 0) rfl ownLe) (Reads.of (k := 1) rfl roLe)) (rowSl rfl (H.get (k := 0) rfl) (roLe _ (H.get (k := 1) rfl)) hf9z) hx10z _ (St.give (T := [cOwn (α := Raw 2) 60 u0_2 rr1_3, cRo Bs2_4, cBlk nb0_1 [v_numbers, I q1, I q2] 158]) H rfl)) ?_
 rintro vq w12z ⟨r0, r12, u0_5, Bs1_6, hr13z, hvq, H2_, hf14z⟩
 subst hr13z
 subst vq
 try dsimp only at hM
 replace H : St w w12z [cRo Bs1_6, cOwn (α := Raw 2) 60 u0_2 rr1_3, cRo Bs2_4, cBlk nb0_1 [v_numbers, I q1, I q2] 158] R := H.back H2_ rfl
 clear H2_
 refine sM (.tuple #[u0_5, I r12]) rfl <| sX [u0_5, I r12] u0_5 rfl rfl <| sX [u0_5, I r12] (I r12) rfl rfl <| sA u0_5 rfl <| sA (I r12) rfl <| s_nil <| sQ rfl <| sM u0_2 rfl ?_
 obtain ⟨r16z, hx15z, hM⟩ := M.e_bind hM
 refine s_call cf67 [u0_2] rfl (notes_Circle_ok r3 (Reads.sup (Reads.of (k := 1) rfl ownLe) (Reads.of (k := 2) rfl roLe)) (rowSl rfl (H.get (k := 1) rfl) (roLe _ (H.get (k := 2) rfl)) hf9z) hx15z _ (St.give (T := [cRo Bs1_6, cOwn (α := Raw 2) 60 u0_2 rr1_3, cRo Bs2_4, cBlk nb0_1 [v_numbers, I q1, I q2] 158]) H rfl)) ?_
 rintro vq w17z ⟨r02, r13, u0_7, hr18z, hvq, H2_⟩
 subst hr18z
 subst vq
 try dsimp only at hM
 replace H : St w w17z [cOwn (α := Int) 3 u0_7 r02, cRo Bs1_6, cOwn (α := Raw 2) 60 u0_2 rr1_3, cRo Bs2_4, cBlk nb0_1 [v_numbers, I q1, I q2] 158] R := H.back H2_ rfl
 clear H2_
 refine sM (.tuple #[u0_7, I r13]) rfl <| sX [u0_7, I r13] u0_7 rfl rfl <| sX [u0_7, I r13] (I r13) rfl rfl <| sA u0_7 rfl <| sA (I r13) rfl <| s_nil <| W.seq <| sQ rfl <| sM (I r12) rfl <| sC r12 0 (r12 != 0) rfl rfl rfl <| sM (B (r12 != 0)) rfl ?_
 refine g_val (!(r12 != 0)) (gy_f rfl) (fun hg => x_mv (v := I r13) rfl) <| g_val (!(r12 != 0)) (gy_f rfl) (fun hg => x_cmp (kd := .i64) (a := r13) (b := 5) (r := r13 != 5) (gd_of (c := !(r12 != 0)) hg (I r13)) rfl rfl) <| s_val (x_por (b := r12 != 0) (r := r13 != 5) rfl rfl (fun hb => gd_of (c := !(r12 != 0)) (by first | exact hb | (rw [hb]; rfl) | simp_all) (B (r13 != 5)))) <| sM (B ((r12 != 0) || (r13 != 5))) rfl <| g_val (!((r12 != 0) || (r13 != 5))) (gy_f rfl) (fun hg => x_mv (v := u0_5) rfl) <| g_val (!((r12 != 0) || (r13 != 5))) (gy_f rfl) (fun hg => x_lenS T34.und (gd_of (c := !((r12 != 0) || (r13 != 5))) hg (u0_5)) hf14z) <| g_val (!((r12 != 0) || (r13 != 5))) (gy_f rfl) (fun hg => x_mv (v := u0_2) rfl) <| g_val (!((r12 != 0) || (r13 != 5))) (gy_f rfl) (fun hg => x_lenS T22.und (gd_of (c := !((r12 != 0) || (r13 != 5))) hg (u0_2)) (rowSl rfl (H.get (k := 2) rfl) (roLe _ (H.get (k := 3) rfl)) hf9z)) <| g_val (!((r12 != 0) || (r13 != 5))) (gy_f rfl) (fun hg => x_cmp (kd := .i64) (a := (r0.length : Int)) (b := (r3.length : Int)) (r := (r0.length : Int) != (r3.length : Int)) (gd_of (c := !((r12 != 0) || (r13 != 5))) hg (I (r0.length : Int))) (gd_of (c := !((r12 != 0) || (r13 != 5))) hg (I (r3.length : Int))) rfl) <| s_val (x_por (b := ((r12 != 0) || (r13 != 5))) (r := (r0.length : Int) != (r3.length : Int)) rfl rfl (fun hb => gd_of (c := !((r12 != 0) || (r13 != 5))) (by first | exact hb | (rw [hb]; rfl) | simp_all) (B ((r0.length : Int) != (r3.length : Int))))) <| s_nil ?_
 refine W.cond (((r12 != 0) || (r13 != 5)) || ((r0.length : Int) != (r3.length : Int))) rfl (fun c21z => ?_) (fun c21z => ?_)
 ·replace hM := M.e_t hM c21z
  refine sQ rfl <| sA (B false) rfl <| s_nil ?_
  refine W.ret ?_
  have hr_ := M.e_pure hM
  exact ⟨_, resE_tmp rfl, ⟨false, hr_, rfl, (H.pick [] (by decide) rfl)⟩⟩
 replace hM := M.e_f hM c21z
 refine W.skip <| W.seq <| sQ rfl <| sM u0_5 rfl ?_
 have hl22z := (hf14z).len_le
 refine s_val (x_lenS T34.und rfl hf14z) <| sM (I 0) rfl <| s_nil <| W.block ?_
 obtain ⟨ex23z, hi24z, hk25z⟩ := M.e_bind hM
 obtain ⟨m0_, hi24z⟩ := M.e_iter hi24z
 refine W.loop (fun m σ W => ∃ (s2 : Nat) (ρ : Env), σ = upds ρ [(1, .int .u8 a), (2, .int .u8 b), (7, u0_2), (8, u0_5), (48, u0_5), (49, I (r0.length : Int)), (50, I (s2 : Int))] ∧ M.iterN (m_nilometerlaw13_NotesCircled_b2 r3 r0) m s2 = some ex23z ∧ St w W [cOwn (α := Int) 3 u0_7 r02, cRo Bs1_6, cOwn (α := Raw 2) 60 u0_2 rr1_3, cRo Bs2_4, cBlk nb0_1 [v_numbers, I q1, I q2] 158] R) ?_ ?_
 ·exact ⟨_, 0, _, upds_of _ _ ⟨rfl, rfl, rfl, rfl, rfl, rfl, rfl, trivial⟩, hi24z, H⟩
 rintro m28z σ w26z ⟨s2, ρ, rfl, hI27z, H⟩
 obtain ⟨m29z, lt30z, x31z, hM, hN32z⟩ := M.e_iterN hI27z
 simp only [m_nilometerlaw13_NotesCircled_b2] at hM
 clear hI27z
 refine sQ rfl <| sC (s2 : Int) (r0.length : Int) (decide ((s2 : Int) < (r0.length : Int))) rfl rfl rfl <| s_nil <| W.seq ?_
 refine W.cond (decide ((s2 : Int) < (r0.length : Int))) rfl (fun c33z => ?_) (fun c33z => ?_)
 ·replace hM := M.e_t hM c33z
  simp only [qz1, qz2, qz3, qz4, qz5, qz6, ne_eq, qz7] at c33z
  refine W.skip <| W.seq <| W.block <| sQ rfl <| sM (I (s2 : Int)) rfl ?_
  obtain ⟨sd34z, hM⟩ := M.e_gd hM
  refine s_val (x_ix (a := u0_5) (b := I (s2 : Int)) (v := vat u0_5 1 (Int.toNat (s2 : Int))) rfl rfl (Sl.ix (α := Int) T34.und T34.size hf14z (by omega) (by omega))) <| s_val (x_ld (p := vat u0_5 1 (Int.toNat (s2 : Int))) (v := I (r0.getD s2 0)) rfl (ld_sc Sc3 (At.mono (Int_at hf14z (i := (s2 : Int)) (by omega) (by omega)) (roLe _ (H.get (k := 1) rfl))))) <| sA (I (s2 : Int)) rfl <| sA (I (r0.getD s2 0)) rfl <| s_nil <| W.seq <| sQ rfl <| sM (I (r0.getD s2 0)) rfl <| sC (r0.getD s2 0) 0 (decide ((r0.getD s2 0) < 0)) rfl rfl rfl <| sM (B (decide ((r0.getD s2 0) < 0))) rfl <| g_val (!(decide ((r0.getD s2 0) < 0))) (gy_f rfl) (fun hg => x_mv (v := I (r0.getD s2 0)) rfl) ?_
  refine g_val (!(decide ((r0.getD s2 0) < 0))) (gy_f rfl) (fun hg => x_mv (v := u0_2) rfl) <| g_val (!(decide ((r0.getD s2 0) < 0))) (gy_f rfl) (fun hg => x_lenS T22.und (gd_of (c := !(decide ((r0.getD s2 0) < 0))) hg (u0_2)) (rowSl rfl (H.get (k := 2) rfl) (roLe _ (H.get (k := 3) rfl)) hf9z)) <| g_val (!(decide ((r0.getD s2 0) < 0))) (gy_f rfl) (fun hg => x_cmp (kd := .i64) (a := r0.getD s2 0) (b := (r3.length : Int)) (r := decide ((r3.length : Int) ≤ (r0.getD s2 0))) (gd_of (c := !(decide ((r0.getD s2 0) < 0))) hg (I (r0.getD s2 0))) (gd_of (c := !(decide ((r0.getD s2 0) < 0))) hg (I (r3.length : Int))) rfl) <| s_val (x_por (b := decide ((r0.getD s2 0) < 0)) (r := decide ((r3.length : Int) ≤ (r0.getD s2 0))) rfl rfl (fun hb => gd_of (c := !(decide ((r0.getD s2 0) < 0))) (by first | exact hb | (rw [hb]; rfl) | simp_all) (B (decide ((r3.length : Int) ≤ (r0.getD s2 0)))))) <| sM (B ((decide ((r0.getD s2 0) < 0)) || (decide ((r3.length : Int) ≤ (r0.getD s2 0))))) rfl <| g_val (!((decide ((r0.getD s2 0) < 0)) || (decide ((r3.length : Int) ≤ (r0.getD s2 0))))) (gy_f rfl) (fun hg => x_mv (v := u0_5) rfl) <| g_val (!((decide ((r0.getD s2 0) < 0)) || (decide ((r3.length : Int) ≤ (r0.getD s2 0))))) (gy_f rfl) (fun hg => x_mv (v := I (s2 : Int)) rfl) ?_
  obtain ⟨u36z, hr_u36z, hs37z⟩ := gd_ex (c := !((decide ((r0.getD s2 0) < 0)) || (decide ((r3.length : Int) ≤ (r0.getD s2 0))))) fun hg => sl_hi T34.und T34.size hf14z (j := (s2 : Int)) (by first | omega | (have hx_ := hg; simp at hx_; omega)) (by first | omega | (have hx_ := hg; simp at hx_; omega))
  replace hs37z : (!((decide ((r0.getD s2 0) < 0)) || (decide ((r3.length : Int) ≤ (r0.getD s2 0))))) = true → Sl _ u36z (r0.take s2) := hs37z
  refine g_val (!((decide ((r0.getD s2 0) < 0)) || (decide ((r3.length : Int) ≤ (r0.getD s2 0))))) (gy_f rfl) (fun hg => x_sl (v := u0_5) (u := u36z) (lo' := none) (hi' := some (I (s2 : Int))) (mx' := none) (gd_of (c := !((decide ((r0.getD s2 0) < 0)) || (decide ((r3.length : Int) ≤ (r0.getD s2 0))))) hg (u0_5)) rfl (congrArg some (gd_of (c := !((decide ((r0.getD s2 0) < 0)) || (decide ((r3.length : Int) ≤ (r0.getD s2 0))))) hg (I (s2 : Int)))) rfl (hr_u36z hg _)) <| g_val (!((decide ((r0.getD s2 0) < 0)) || (decide ((r3.length : Int) ≤ (r0.getD s2 0))))) (gy_f rfl) (fun hg => x_mv (v := I (r0.getD s2 0)) rfl) ?_
  refine t_gcall (!((decide ((r0.getD s2 0) < 0)) || (decide ((r3.length : Int) ≤ (r0.getD s2 0))))) (gy_f rfl) cf45 (B ((r0.take s2).contains (r0.getD s2 0))) (fun _ => [u36z, I (r0.getD s2 0)]) (fun hg => lst2 (gd_of (c := !((decide ((r0.getD s2 0) < 0)) || (decide ((r3.length : Int) ≤ (r0.getD s2 0))))) hg (u36z)) (gd_of (c := !((decide ((r0.getD s2 0) < 0)) || (decide ((r3.length : Int) ≤ (r0.getD s2 0))))) hg (I (r0.getD s2 0)))) H (fun hg => Ret.mono (contains_int (r0.getD s2 0) _ ((hs37z hg).mono (roLe _ (H.get (k := 1) rfl)))) fun v_ w_ ⟨hv_, hx_⟩ => ⟨hv_, H.ext hx_⟩) ?_
  intro w38z H
  refine s_val (x_por (b := ((decide ((r0.getD s2 0) < 0)) || (decide ((r3.length : Int) ≤ (r0.getD s2 0))))) (r := (r0.take s2).contains (r0.getD s2 0)) rfl rfl (fun hb => gd_of (c := !((decide ((r0.getD s2 0) < 0)) || (decide ((r3.length : Int) ≤ (r0.getD s2 0))))) (by first | exact hb | (rw [hb]; rfl) | simp_all) (B ((r0.take s2).contains (r0.getD s2 0))))) <| s_nil ?_
  refine W.cond (((decide ((r0.getD s2 0) < 0)) || (decide ((r3.length : Int) ≤ (r0.getD s2 0)))) || ((r0.take s2).contains (r0.getD s2 0))) rfl (fun c39z => ?_) (fun c39z => ?_)
  ·replace hM := M.e_t hM c39z
   refine sQ rfl <| sA (B false) rfl <| s_nil ?_
   refine W.ret ?_
   have hX40z := M.e_inr hM hN32z
   subst hX40z
   replace hM := hk25z
   try dsimp only at hM
   have hr_ := M.e_pure hM
   exact ⟨_, resE_tmp rfl, ⟨false, hr_, rfl, (H.pick [] (by decide) rfl)⟩⟩
  replace hM := M.e_f hM c39z
  refine W.skip <| sQ rfl <| sM u0_2 rfl <| sM (I (r0.getD s2 0)) rfl ?_
  obtain ⟨sd41z, hM⟩ := M.e_gd hM
  refine s_val (x_ix (a := u0_2) (b := I (r0.getD s2 0)) (v := vat u0_2 3 (Int.toNat (r0.getD s2 0))) rfl rfl (Sl.ix (α := Work) T22.und T22.size (rowSl rfl (H.get (k := 2) rfl) (roLe _ (H.get (k := 3) rfl)) hf9z) (by omega) (by omega))) <| s_val (x_fa (a := vat u0_2 3 (Int.toNat (r0.getD s2 0))) (v := fat (vat u0_2 3 (Int.toNat (r0.getD s2 0))) 0) rfl (fa_pl Fd60_0 Sz34 (Sl.pl (i := r0.getD s2 0) (rowSl rfl (H.get (k := 2) rfl) (roLe _ (H.get (k := 3) rfl)) hf9z) (by omega) (by omega)))) ?_
  obtain ⟨u42z, ha_u42z, hs43z⟩ := Work_at0 (rowSl rfl (H.get (k := 2) rfl) (roLe _ (H.get (k := 3) rfl)) hf9z) (i := r0.getD s2 0) (by omega) (by omega)
  replace hs43z : Sl _ u42z (r3.getD (Int.toNat (r0.getD s2 0)) default).of := hs43z
  have hl_hs43z := hs43z.len_le
  refine s_val (x_ld (p := fat (vat u0_2 3 (Int.toNat (r0.getD s2 0))) 0) (v := u42z) rfl (ld_sc Sc34 (At.mono (ha_u42z) (Cells.sup_le (ownLe _ (H.get (k := 2) rfl)) (roLe _ (H.get (k := 3) rfl)))))) ?_
  have hl44z := (hs43z).len_le
  refine s_val (x_lenS T34.und rfl hs43z) <| sM (I 0) rfl <| s_nil <| W.block ?_
  obtain ⟨ex45z, hi46z, hk47z⟩ := M.e_bind hM
  obtain ⟨m0_, hi46z⟩ := M.e_iter hi46z
  refine W.loop (fun m σ W => ∃ (s : Nat) (ρ : Env), σ = upds ρ [(1, .int .u8 a), (2, .int .u8 b), (7, u0_2), (8, u0_5), (12, I (s2 : Int)), (48, u0_5), (49, I (r0.length : Int)), (50, I (s2 : Int)), (58, gd (!(decide ((r0.getD s2 0) < 0))) (I (r0.getD s2 0))), (59, gd (!(decide ((r0.getD s2 0) < 0))) u0_2), (60, gd (!(decide ((r0.getD s2 0) < 0))) (I (r3.length : Int))), (61, gd (!(decide ((r0.getD s2 0) < 0))) (B (decide ((r3.length : Int) ≤ (r0.getD s2 0))))), (64, gd (!((decide ((r0.getD s2 0) < 0)) || (decide ((r3.length : Int) ≤ (r0.getD s2 0))))) u0_5), (65, gd (!((decide ((r0.getD s2 0) < 0)) || (decide ((r3.length : Int) ≤ (r0.getD s2 0))))) (I (s2 : Int))), (66, gd (!((decide ((r0.getD s2 0) < 0)) || (decide ((r3.length : Int) ≤ (r0.getD s2 0))))) u36z), (67, gd (!((decide ((r0.getD s2 0) < 0)) || (decide ((r3.length : Int) ≤ (r0.getD s2 0))))) (I (r0.getD s2 0))), (68, gd (!((decide ((r0.getD s2 0) < 0)) || (decide ((r3.length : Int) ≤ (r0.getD s2 0))))) (B ((r0.take s2).contains (r0.getD s2 0)))), (74, u42z), (75, I (((r3.getD (Int.toNat (r0.getD s2 0)) default).of).length : Int)), (76, I (s : Int))] ∧ M.iterN (m_nilometerlaw13_NotesCircled_b1 r3 r0 s2) m s = some ex45z ∧ St w W [cOwn (α := Int) 3 u0_7 r02, cRo Bs1_6, cOwn (α := Raw 2) 60 u0_2 rr1_3, cRo Bs2_4, cBlk nb0_1 [v_numbers, I q1, I q2] 158] R) ?_ ?_
  ·exact ⟨_, 0, _, upds_of _ _ ⟨rfl, rfl, rfl, rfl, rfl, rfl, rfl, rfl, rfl, rfl, rfl, rfl, rfl, rfl, rfl, rfl, rfl, rfl, rfl, rfl, trivial⟩, hi46z, H⟩
  rintro m50z σ w48z ⟨s, ρ, rfl, hI49z, H⟩
  obtain ⟨m51z, lt52z, x53z, hM, hN54z⟩ := M.e_iterN hI49z
  simp only [m_nilometerlaw13_NotesCircled_b1] at hM
  clear hI49z
  refine sQ rfl <| sC (s : Int) (((r3.getD (Int.toNat (r0.getD s2 0)) default).of).length : Int) (decide ((s : Int) < (((r3.getD (Int.toNat (r0.getD s2 0)) default).of).length : Int))) rfl rfl rfl <| s_nil <| W.seq ?_
  refine W.cond (decide ((s : Int) < (((r3.getD (Int.toNat (r0.getD s2 0)) default).of).length : Int))) rfl (fun c55z => ?_) (fun c55z => ?_)
  ·replace hM := M.e_t hM c55z
   simp only [qz1, qz2, qz3, qz4, qz5, qz6, ne_eq, qz7] at c55z
   refine W.skip <| W.seq <| W.block <| sQ rfl ?_
   obtain ⟨sd56z, hM⟩ := M.e_gd hM
   refine s_val (x_ix (a := u42z) (b := I (s : Int)) (v := vat u42z 1 (Int.toNat (s : Int))) rfl rfl (Sl.ix (α := Int) T34.und T34.size hs43z (by omega) (by omega))) <| s_val (x_ld (p := vat u42z 1 (Int.toNat (s : Int))) (v := I (((r3.getD (Int.toNat (r0.getD s2 0)) default).of).getD s 0)) rfl (ld_sc Sc3 (At.mono (Int_at hs43z (i := (s : Int)) (by omega) (by omega)) (Cells.sup_le (ownLe _ (H.get (k := 2) rfl)) (roLe _ (H.get (k := 3) rfl)))))) <| sA (I (((r3.getD (Int.toNat (r0.getD s2 0)) default).of).getD s 0)) rfl <| s_nil <| sQ rfl <| sM u0_5 rfl <| sM (I (s2 : Int)) rfl ?_
   obtain ⟨u57z, hr_u57z, hs58z⟩ := sl_hi T34.und T34.size hf14z (j := (s2 : Int)) (by omega) (by omega)
   replace hs58z : Sl _ u57z (r0.take s2) := hs58z
   refine s_val (x_sl (v := u0_5) (u := u57z) (lo' := none) (hi' := some (I (s2 : Int))) (mx' := none) rfl rfl rfl rfl (hr_u57z _)) <| sM (I (((r3.getD (Int.toNat (r0.getD s2 0)) default).of).getD s 0)) rfl ?_
   refine s_call cf45 [u57z, I (((r3.getD (Int.toNat (r0.getD s2 0)) default).of).getD s 0)] rfl (contains_int (((r3.getD (Int.toNat (r0.getD s2 0)) default).of).getD s 0) _ (hs58z.mono (roLe _ (H.get (k := 1) rfl)))) ?_
   rintro _ w59z ⟨rfl, hx_⟩
   replace H : St w w59z [cOwn (α := Int) 3 u0_7 r02, cRo Bs1_6, cOwn (α := Raw 2) 60 u0_2 rr1_3, cRo Bs2_4, cBlk nb0_1 [v_numbers, I q1, I q2] 158] R := H.ext hx_
   clear hx_
   refine s_val (x_not (b := (r0.take s2).contains (((r3.getD (Int.toNat (r0.getD s2 0)) default).of).getD s 0)) rfl) <| s_nil ?_
   refine W.cond (!((r0.take s2).contains (((r3.getD (Int.toNat (r0.getD s2 0)) default).of).getD s 0))) rfl (fun c60z => ?_) (fun c60z => ?_)
   ·replace hM := M.e_t hM c60z
    refine sQ rfl <| sA (B false) rfl <| s_nil ?_
    refine W.ret ?_
    have hX61z := M.e_inr hM hN54z
    subst hX61z
    replace hM := hk47z
    try dsimp only at hM
    have hX62z := M.e_inr hM hN32z
    subst hX62z
    replace hM := hk25z
    try dsimp only at hM
    have hr_ := M.e_pure hM
    exact ⟨_, resE_tmp rfl, ⟨false, hr_, rfl, (H.pick [] (by decide) rfl)⟩⟩
   replace hM := M.e_f hM c60z
   refine W.skip <| W.region rfl <| sR (s : Int) 1 ((s : Int) + 1) rfl rfl rfl (by omega) <| sM (I ((s : Int) + 1)) rfl <| s_nil ?_
   exact ⟨m51z, lt52z, s + 1, _, upds_of _ _ ⟨rfl, rfl, rfl, rfl, rfl, rfl, rfl, rfl, rfl, rfl, rfl, rfl, rfl, rfl, rfl, rfl, rfl, rfl, rfl, rfl, trivial⟩, M.e_inl hM hN54z, H⟩
  replace hM := M.e_f hM c55z
  simp only [qz1, qz2, qz3, qz4, qz5, qz6, ne_eq, qz7] at c55z
  refine W.exit ?_
  have hX63z := M.e_inr hM hN54z
  subst hX63z
  replace hM := hk47z
  try dsimp only at hM
  refine W.region rfl <| sR (s2 : Int) 1 ((s2 : Int) + 1) rfl rfl rfl (by omega) <| sM (I ((s2 : Int) + 1)) rfl <| s_nil ?_
  exact ⟨m29z, lt30z, s2 + 1, _, upds_of _ _ ⟨rfl, rfl, rfl, rfl, rfl, rfl, rfl, trivial⟩, M.e_inl hM hN32z, H⟩
 replace hM := M.e_f hM c33z
 simp only [qz1, qz2, qz3, qz4, qz5, qz6, ne_eq, qz7] at c33z
 refine W.exit ?_
 have hX64z := M.e_inr hM hN32z
 subst hX64z
 replace hM := hk25z
 try dsimp only at hM
 refine W.seq ?_
 refine W.draw (fun W => St w W [cOwn (α := Int) 3 u0_7 r02, cRo Bs1_6, cOwn (α := Raw 2) 60 u0_2 rr1_3, cRo Bs2_4, cBlk nb0_1 [v_numbers, I q1, I q2] 158] R) [(0, true), (1, true), (2, true), (3, true), (4, true), (5, true), (6, true), (7, true), (8, true), (9, true), (10, true), (11, true)] mixed (by decide +kernel) rfl ?_
 intro w65z hx_
 replace H : St w w65z [cOwn (α := Int) 3 u0_7 r02, cRo Bs1_6, cOwn (α := Raw 2) 60 u0_2 rr1_3, cRo Bs2_4, cBlk nb0_1 [v_numbers, I q1, I q2] 158] R := H.ext hx_
 clear hx_
 refine ⟨(H.pick [0, 1, 2, 3, 4] (by decide) rfl), ?_⟩
 refine d_q rfl (fun w' H => x_mv (v := .int .u8 a) rfl) ?_
 obtain ⟨sd66z, hM⟩ := M.e_gd hM
 refine d_q rfl (fun w' H => x_conv64 (kd := .u8) (a := a) Try.underlying5 Try.underlying3 rfl (by omega)) ?_
 refine d_q rfl (fun w' H => x_mv (v := u0_2) rfl) ?_
 have hl67z := ((rowSl rfl (H.get (k := 2) rfl) (roLe _ (H.get (k := 3) rfl)) hf9z)).len_le
 refine d_q rfl (fun w' H => x_lenS T22.und rfl (rowSl rfl (H.get (k := 2) rfl) (roLe _ (H.get (k := 3) rfl)) hf9z)) ?_
 obtain ⟨sd68z, hM⟩ := M.e_gd hM
 refine d_q rfl (fun w' H => x_rem' (a := a) (b := (r3.length : Int)) rfl rfl (by omega)) ?_
 refine d_q rfl (fun w' H => x_mv (v := .int .u8 b) rfl) ?_
 obtain ⟨sd69z, hM⟩ := M.e_gd hM
 refine d_q rfl (fun w' H => x_conv64 (kd := .u8) (a := b) Try.underlying5 Try.underlying3 rfl (by omega)) ?_
 refine d_q rfl (fun w' H => x_mv (v := u0_2) rfl) ?_
 have hl70z := ((rowSl rfl (H.get (k := 2) rfl) (roLe _ (H.get (k := 3) rfl)) hf9z)).len_le
 refine d_q rfl (fun w' H => x_lenS T22.und rfl (rowSl rfl (H.get (k := 2) rfl) (roLe _ (H.get (k := 3) rfl)) hf9z)) ?_
 refine d_q rfl (fun w' H => x_rem' (a := b) (b := (r3.length : Int)) rfl rfl (by omega)) ?_
 refine d_q rfl (fun w' H => x_as (v := I (a % (r3.length : Int))) rfl) ?_
 refine d_q rfl (fun w' H => x_as (v := I (b % (r3.length : Int))) rfl) ?_
 refine d_nil ?_
 refine W.seq <| sQ rfl <| sM (I (a % (r3.length : Int))) rfl <| sM (I (b % (r3.length : Int))) rfl <| sC (a % (r3.length : Int)) (b % (r3.length : Int)) ((a % (r3.length : Int)) == (b % (r3.length : Int))) rfl rfl rfl <| sM (B ((a % (r3.length : Int)) == (b % (r3.length : Int)))) rfl <| g_val (!((a % (r3.length : Int)) == (b % (r3.length : Int)))) (gy_f rfl) (fun hg => x_mv (v := u0_2) rfl) <| g_val (!((a % (r3.length : Int)) == (b % (r3.length : Int)))) (gy_f rfl) (fun hg => x_mv (v := I (a % (r3.length : Int))) rfl) ?_
 obtain ⟨sd71z, hM⟩ := M.e_grd hM
 replace sd71z := M.imp_of sd71z
 simp only [Bool.and_eq_true, decide_eq_true_eq] at sd71z
 refine g_val (!((a % (r3.length : Int)) == (b % (r3.length : Int)))) (gy_f rfl) (fun hg => x_ix (a := u0_2) (b := I (a % (r3.length : Int))) (v := vat u0_2 3 (Int.toNat (a % (r3.length : Int)))) (gd_of (c := !((a % (r3.length : Int)) == (b % (r3.length : Int)))) hg (u0_2)) (gd_of (c := !((a % (r3.length : Int)) == (b % (r3.length : Int)))) hg (I (a % (r3.length : Int)))) (Sl.ix (α := Work) T22.und T22.size (rowSl rfl (H.get (k := 2) rfl) (roLe _ (H.get (k := 3) rfl)) hf9z) (by have h1_ := sd71z.resolve_left (by rw [hg]; decide); first | exact h1_ | exact h1_.1 | exact h1_.2 | omega | (have hx_ := hg; simp at hx_; omega)) (by have h1_ := sd71z.resolve_left (by rw [hg]; decide); first | exact h1_ | exact h1_.1 | exact h1_.2 | omega | (have hx_ := hg; simp at hx_; omega)))) <| g_val (!((a % (r3.length : Int)) == (b % (r3.length : Int)))) (gy_f rfl) (fun hg => x_fa (a := vat u0_2 3 (Int.toNat (a % (r3.length : Int)))) (v := fat (vat u0_2 3 (Int.toNat (a % (r3.length : Int)))) 0) (gd_of (c := !((a % (r3.length : Int)) == (b % (r3.length : Int)))) hg (vat u0_2 3 (Int.toNat (a % (r3.length : Int))))) (fa_pl Fd60_0 Sz34 (Sl.pl (i := a % (r3.length : Int)) (rowSl rfl (H.get (k := 2) rfl) (roLe _ (H.get (k := 3) rfl)) hf9z) (by have h1_ := sd71z.resolve_left (by rw [hg]; decide); first | exact h1_ | exact h1_.1 | exact h1_.2 | omega | (have hx_ := hg; simp at hx_; omega)) (by have h1_ := sd71z.resolve_left (by rw [hg]; decide); first | exact h1_ | exact h1_.1 | exact h1_.2 | omega | (have hx_ := hg; simp at hx_; omega))))) ?_
 obtain ⟨u72z, ha_u72z, hs73z⟩ := gd_ex (c := !((a % (r3.length : Int)) == (b % (r3.length : Int)))) fun hg => Work_at0 (rowSl rfl (H.get (k := 2) rfl) (roLe _ (H.get (k := 3) rfl)) hf9z) (i := a % (r3.length : Int)) (by have h1_ := sd71z.resolve_left (by rw [hg]; decide); first | exact h1_ | exact h1_.1 | exact h1_.2 | omega | (have hx_ := hg; simp at hx_; omega)) (by have h1_ := sd71z.resolve_left (by rw [hg]; decide); first | exact h1_ | exact h1_.1 | exact h1_.2 | omega | (have hx_ := hg; simp at hx_; omega))
 replace hs73z : (!((a % (r3.length : Int)) == (b % (r3.length : Int)))) = true → Sl _ u72z (r3.getD (Int.toNat (a % (r3.length : Int))) default).of := hs73z
 refine g_val (!((a % (r3.length : Int)) == (b % (r3.length : Int)))) (gy_f rfl) (fun hg => x_ld (p := fat (vat u0_2 3 (Int.toNat (a % (r3.length : Int)))) 0) (v := u72z) (gd_of (c := !((a % (r3.length : Int)) == (b % (r3.length : Int)))) hg (fat (vat u0_2 3 (Int.toNat (a % (r3.length : Int)))) 0)) (ld_sc Sc34 (At.mono (ha_u72z hg) (Cells.sup_le (ownLe _ (H.get (k := 2) rfl)) (roLe _ (H.get (k := 3) rfl)))))) <| g_val (!((a % (r3.length : Int)) == (b % (r3.length : Int)))) (gy_f rfl) (fun hg => x_lenS T34.und (gd_of (c := !((a % (r3.length : Int)) == (b % (r3.length : Int)))) hg (u72z)) (hs73z hg)) <| g_val (!((a % (r3.length : Int)) == (b % (r3.length : Int)))) (gy_f rfl) (fun hg => x_cmp (kd := .i64) (a := (((r3.getD (Int.toNat (a % (r3.length : Int))) default).of).length : Int)) (b := 5) (r := (((r3.getD (Int.toNat (a % (r3.length : Int))) default).of).length : Int) == 5) (gd_of (c := !((a % (r3.length : Int)) == (b % (r3.length : Int)))) hg (I (((r3.getD (Int.toNat (a % (r3.length : Int))) default).of).length : Int))) rfl rfl) <| s_val (x_por (b := (a % (r3.length : Int)) == (b % (r3.length : Int))) (r := (((r3.getD (Int.toNat (a % (r3.length : Int))) default).of).length : Int) == 5) rfl rfl (fun hb => gd_of (c := !((a % (r3.length : Int)) == (b % (r3.length : Int)))) (by first | exact hb | (rw [hb]; rfl) | simp_all) (B ((((r3.getD (Int.toNat (a % (r3.length : Int))) default).of).length : Int) == 5)))) <| sM (B (((a % (r3.length : Int)) == (b % (r3.length : Int))) || ((((r3.getD (Int.toNat (a % (r3.length : Int))) default).of).length : Int) == 5))) rfl <| g_val (!(((a % (r3.length : Int)) == (b % (r3.length : Int))) || ((((r3.getD (Int.toNat (a % (r3.length : Int))) default).of).length : Int) == 5))) (gy_f rfl) (fun hg => x_mv (v := u0_2) rfl) <| g_val (!(((a % (r3.length : Int)) == (b % (r3.length : Int))) || ((((r3.getD (Int.toNat (a % (r3.length : Int))) default).of).length : Int) == 5))) (gy_f rfl) (fun hg => x_mv (v := I (a % (r3.length : Int))) rfl) ?_
 obtain ⟨sd75z, hM⟩ := M.e_grd hM
 replace sd75z := M.imp_of sd75z
 simp only [Bool.and_eq_true, decide_eq_true_eq] at sd75z
 refine g_val (!(((a % (r3.length : Int)) == (b % (r3.length : Int))) || ((((r3.getD (Int.toNat (a % (r3.length : Int))) default).of).length : Int) == 5))) (gy_f rfl) (fun hg => x_ix (a := u0_2) (b := I (a % (r3.length : Int))) (v := vat u0_2 3 (Int.toNat (a % (r3.length : Int)))) (gd_of (c := !(((a % (r3.length : Int)) == (b % (r3.length : Int))) || ((((r3.getD (Int.toNat (a % (r3.length : Int))) default).of).length : Int) == 5))) hg (u0_2)) (gd_of (c := !(((a % (r3.length : Int)) == (b % (r3.length : Int))) || ((((r3.getD (Int.toNat (a % (r3.length : Int))) default).of).length : Int) == 5))) hg (I (a % (r3.length : Int)))) (Sl.ix (α := Work) T22.und T22.size (rowSl rfl (H.get (k := 2) rfl) (roLe _ (H.get (k := 3) rfl)) hf9z) (by have h1_ := sd75z.resolve_left (by rw [hg]; decide); first | exact h1_ | exact h1_.1 | exact h1_.2 | omega | (have hx_ := hg; simp at hx_; omega)) (by have h1_ := sd75z.resolve_left (by rw [hg]; decide); first | exact h1_ | exact h1_.1 | exact h1_.2 | omega | (have hx_ := hg; simp at hx_; omega)))) <| g_val (!(((a % (r3.length : Int)) == (b % (r3.length : Int))) || ((((r3.getD (Int.toNat (a % (r3.length : Int))) default).of).length : Int) == 5))) (gy_f rfl) (fun hg => x_fa (a := vat u0_2 3 (Int.toNat (a % (r3.length : Int)))) (v := fat (vat u0_2 3 (Int.toNat (a % (r3.length : Int)))) 0) (gd_of (c := !(((a % (r3.length : Int)) == (b % (r3.length : Int))) || ((((r3.getD (Int.toNat (a % (r3.length : Int))) default).of).length : Int) == 5))) hg (vat u0_2 3 (Int.toNat (a % (r3.length : Int))))) (fa_pl Fd60_0 Sz34 (Sl.pl (i := a % (r3.length : Int)) (rowSl rfl (H.get (k := 2) rfl) (roLe _ (H.get (k := 3) rfl)) hf9z) (by have h1_ := sd75z.resolve_left (by rw [hg]; decide); first | exact h1_ | exact h1_.1 | exact h1_.2 | omega | (have hx_ := hg; simp at hx_; omega)) (by have h1_ := sd75z.resolve_left (by rw [hg]; decide); first | exact h1_ | exact h1_.1 | exact h1_.2 | omega | (have hx_ := hg; simp at hx_; omega))))) ?_
 obtain ⟨u76z, ha_u76z, hs77z⟩ := gd_ex (c := !(((a % (r3.length : Int)) == (b % (r3.length : Int))) || ((((r3.getD (Int.toNat (a % (r3.length : Int))) default).of).length : Int) == 5))) fun hg => Work_at0 (rowSl rfl (H.get (k := 2) rfl) (roLe _ (H.get (k := 3) rfl)) hf9z) (i := a % (r3.length : Int)) (by have h1_ := sd75z.resolve_left (by rw [hg]; decide); first | exact h1_ | exact h1_.1 | exact h1_.2 | omega | (have hx_ := hg; simp at hx_; omega)) (by have h1_ := sd75z.resolve_left (by rw [hg]; decide); first | exact h1_ | exact h1_.1 | exact h1_.2 | omega | (have hx_ := hg; simp at hx_; omega))
 replace hs77z : (!(((a % (r3.length : Int)) == (b % (r3.length : Int))) || ((((r3.getD (Int.toNat (a % (r3.length : Int))) default).of).length : Int) == 5))) = true → Sl _ u76z (r3.getD (Int.toNat (a % (r3.length : Int))) default).of := hs77z
 refine g_val (!(((a % (r3.length : Int)) == (b % (r3.length : Int))) || ((((r3.getD (Int.toNat (a % (r3.length : Int))) default).of).length : Int) == 5))) (gy_f rfl) (fun hg => x_ld (p := fat (vat u0_2 3 (Int.toNat (a % (r3.length : Int)))) 0) (v := u76z) (gd_of (c := !(((a % (r3.length : Int)) == (b % (r3.length : Int))) || ((((r3.getD (Int.toNat (a % (r3.length : Int))) default).of).length : Int) == 5))) hg (fat (vat u0_2 3 (Int.toNat (a % (r3.length : Int)))) 0)) (ld_sc Sc34 (At.mono (ha_u76z hg) (Cells.sup_le (ownLe _ (H.get (k := 2) rfl)) (roLe _ (H.get (k := 3) rfl)))))) <| g_val (!(((a % (r3.length : Int)) == (b % (r3.length : Int))) || ((((r3.getD (Int.toNat (a % (r3.length : Int))) default).of).length : Int) == 5))) (gy_f rfl) (fun hg => x_mv (v := I (b % (r3.length : Int))) rfl) ?_
 refine t_gcall (!(((a % (r3.length : Int)) == (b % (r3.length : Int))) || ((((r3.getD (Int.toNat (a % (r3.length : Int))) default).of).length : Int) == 5))) (gy_f rfl) cf45 (B (((r3.getD (Int.toNat (a % (r3.length : Int))) default).of).contains (b % (r3.length : Int)))) (fun _ => [u76z, I (b % (r3.length : Int))]) (fun hg => lst2 (gd_of (c := !(((a % (r3.length : Int)) == (b % (r3.length : Int))) || ((((r3.getD (Int.toNat (a % (r3.length : Int))) default).of).length : Int) == 5))) hg (u76z)) (gd_of (c := !(((a % (r3.length : Int)) == (b % (r3.length : Int))) || ((((r3.getD (Int.toNat (a % (r3.length : Int))) default).of).length : Int) == 5))) hg (I (b % (r3.length : Int))))) H (fun hg => Ret.mono (contains_int (b % (r3.length : Int)) _ ((hs77z hg).mono (Cells.sup_le (ownLe _ (H.get (k := 2) rfl)) (roLe _ (H.get (k := 3) rfl))))) fun v_ w_ ⟨hv_, hx_⟩ => ⟨hv_, H.ext hx_⟩) ?_
 intro w78z H
 refine s_val (x_por (b := (((a % (r3.length : Int)) == (b % (r3.length : Int))) || ((((r3.getD (Int.toNat (a % (r3.length : Int))) default).of).length : Int) == 5))) (r := ((r3.getD (Int.toNat (a % (r3.length : Int))) default).of).contains (b % (r3.length : Int))) rfl rfl (fun hb => gd_of (c := !(((a % (r3.length : Int)) == (b % (r3.length : Int))) || ((((r3.getD (Int.toNat (a % (r3.length : Int))) default).of).length : Int) == 5))) (by first | exact hb | (rw [hb]; rfl) | simp_all) (B (((r3.getD (Int.toNat (a % (r3.length : Int))) default).of).contains (b % (r3.length : Int)))))) <| s_nil ?_
 refine W.cond ((((a % (r3.length : Int)) == (b % (r3.length : Int))) || ((((r3.getD (Int.toNat (a % (r3.length : Int))) default).of).length : Int) == 5)) || (((r3.getD (Int.toNat (a % (r3.length : Int))) default).of).contains (b % (r3.length : Int)))) rfl (fun c79z => ?_) (fun c79z => ?_)
 ·replace hM := M.e_t hM c79z
  refine sQ rfl ?_
  obtain ⟨r81z, hx80z, hM⟩ := M.e_bind hM
  refine s_call cf17 [] rfl (nilometerlaw13_awake_ok hx80z _ (St.give (T := [cOwn (α := Int) 3 u0_7 r02, cRo Bs1_6, cOwn (α := Raw 2) 60 u0_2 rr1_3, cRo Bs2_4, cBlk nb0_1 [v_numbers, I q1, I q2] 158]) H rfl)) ?_
  rintro vq w82z ⟨r4, hr83z, hvq, H2_⟩
  subst hr83z
  subst vq
  try dsimp only at hM
  replace H : St w w82z [cOwn (α := Int) 3 u0_7 r02, cRo Bs1_6, cOwn (α := Raw 2) 60 u0_2 rr1_3, cRo Bs2_4, cBlk nb0_1 [v_numbers, I q1, I q2] 158] R := H.back H2_ rfl
  clear H2_
  refine sA (B r4) rfl <| s_nil ?_
  refine W.ret ?_
  have hr_ := M.e_pure hM
  exact ⟨_, resE_tmp rfl, ⟨r4, hr_, rfl, (H.pick [] (by decide) rfl)⟩⟩
 replace hM := M.e_f hM c79z
 refine W.skip <| sQ rfl <| sM u0_2 rfl ?_
 obtain ⟨Bs_8, H, hs84z⟩ := H.freezeE (k := 2) rfl
 obtain ⟨Bs_9, H, le85z, le86z⟩ := H.joinE (i := 2) (j := 3) rfl rfl
 have hs87z := unraw (α := Work) rfl (hs84z.mono le85z) (hf9z.mono le86z)
 replace H : St w w78z [cRo Bs_9, cOwn (α := Int) 3 u0_7 r02, cRo Bs1_6, cRo Bs_8, cRo Bs2_4, cBlk nb0_1 [v_numbers, I q1, I q2] 158] R := H
 obtain ⟨sd88z, hM⟩ := M.e_gd hM
 obtain ⟨r5, hx89z, hM⟩ := M.e_bind hM
 refine s_call cf18 [u0_2] rfl (copyWorks_at (f := (Int.toNat (a % (r3.length : Int)))) r3 (Reads.of (k := 0) rfl roLe) hs87z hx89z (by omega) _ (St.give (T := [cRo Bs_9, cOwn (α := Int) 3 u0_7 r02, cRo Bs1_6, cRo Bs_8, cRo Bs2_4, cBlk nb0_1 [v_numbers, I q1, I q2] 158]) H rfl)) ?_
 rintro vq w90z ⟨u_11, rr95z, Bs_12, v_10, hvq, H2_, hf91z, hf92z, hf93z⟩
 subst vq
 try dsimp only at hM
 replace H : St w w90z [cOwn (α := Int) 3 v_10 ((r5.getD (Int.toNat (a % (r3.length : Int))) default).of), cOwn (α := Raw 2) 60 u_11 rr95z, cRo Bs_12, cRo Bs_9, cOwn (α := Int) 3 u0_7 r02, cRo Bs1_6, cRo Bs_8, cRo Bs2_4, cBlk nb0_1 [v_numbers, I q1, I q2] 158] R := H.back H2_ rfl
 clear H2_
 obtain ⟨Bs_13, H, le96z, le97z⟩ := H.joinE (i := 3) (j := 2) rfl rfl
 replace hf91z := hf91z.mono (Cells.sup_le le96z le97z)
 replace H : St w w90z [cRo Bs_13, cOwn (α := Int) 3 v_10 ((r5.getD (Int.toNat (a % (r3.length : Int))) default).of), cOwn (α := Raw 2) 60 u_11 rr95z, cRo Bs_12, cRo Bs_9, cOwn (α := Int) 3 u0_7 r02, cRo Bs1_6, cRo Bs_8, cRo Bs2_4, cBlk nb0_1 [v_numbers, I q1, I q2] 158] R := H
 have hl94z := hf91z.len
 simp only [List.length_set] at hl94z
 refine sA u_11 rfl <| s_nil <| sQ rfl <| sM u_11 rfl <| sM (I (a % (r3.length : Int))) rfl <| sM u_11 rfl <| sM (I (a % (r3.length : Int))) rfl <| s_val (x_ix (a := u_11) (b := I (a % (r3.length : Int))) (v := vat u_11 3 (Int.toNat (a % (r3.length : Int)))) rfl rfl (Sl.ix (α := Raw 2) T22.und T22.size (ownSl (H.get (k := 2) rfl)) (by omega) (by omega))) <| s_val (x_fa (a := vat u_11 3 (Int.toNat (a % (r3.length : Int)))) (v := fat (vat u_11 3 (Int.toNat (a % (r3.length : Int)))) 0) rfl (fa_pl Fd60_0 Sz34 (Sl.pl (α := Raw 2) (i := a % (r3.length : Int)) (ownSl (H.get (k := 2) rfl)) (by omega) (by omega)))) <| s_val (x_ld (p := fat (vat u_11 3 (Int.toNat (a % (r3.length : Int)))) 0) (v := v_10) rfl (ld_sc Sc34 (At.mono (raw_at0 (i := a % (r3.length : Int)) (ownSl (H.get (k := 2) rfl)) (by omega) (by omega) hf93z) (ownLe _ (H.get (k := 2) rfl))))) <| sM (I (b % (r3.length : Int))) rfl ?_
 refine t_bs (α := Int) T34 [I (b % (r3.length : Int))] [b % (r3.length : Int)] H rfl (.cons rfl (Flat.rep_enc _ (b % (r3.length : Int))) <| .nil) rfl rfl rfl ?_
 intro v98z w99z H
 obtain ⟨sd100z, hM⟩ := M.e_gd hM
 refine t_app (α := Int) (k := 2) (l := (r5.getD (Int.toNat (a % (r3.length : Int))) default).of) (l2 := [b % (r3.length : Int)]) (l' := ((r5.getD (Int.toNat (a % (r3.length : Int))) default).of) ++ ([b % (r3.length : Int)])) (vy := v98z) T34 rfl H rfl rfl rfl (ownSl (H.get (k := 0) rfl)) (ownLe _ (H.get (k := 0) rfl)) (rfl) (by first | omega | (simp only [List.length_nil] at *; omega)) ?_
 intro v101z w102z H
 replace H : St w w102z [cOwn (α := Int) 3 v98z ([b % (r3.length : Int)]), cRo Bs_13, cOwn (α := Int) 3 v101z (((r5.getD (Int.toNat (a % (r3.length : Int))) default).of) ++ ([b % (r3.length : Int)])), cOwn (α := Raw 2) 60 u_11 rr95z, cRo Bs_12, cRo Bs_9, cOwn (α := Int) 3 u0_7 r02, cRo Bs1_6, cRo Bs_8, cRo Bs2_4, cBlk nb0_1 [v_numbers, I q1, I q2] 158] R := H
 refine s_val (x_ix (a := u_11) (b := I (a % (r3.length : Int))) (v := vat u_11 3 (Int.toNat (a % (r3.length : Int)))) rfl rfl (Sl.ix (α := Raw 2) T22.und T22.size (ownSl (H.get (k := 3) rfl)) (by omega) (by omega))) <| s_val (x_fa (a := vat u_11 3 (Int.toNat (a % (r3.length : Int)))) (v := fat (vat u_11 3 (Int.toNat (a % (r3.length : Int)))) 0) rfl (fa_pl Fd60_0 Sz34 (Sl.pl (α := Raw 2) (i := a % (r3.length : Int)) (ownSl (H.get (k := 3) rfl)) (by omega) (by omega)))) ?_
 obtain ⟨Bs_15, H, hs104z⟩ := H.freezeE (k := 2) rfl
 replace H : St w w102z [cOwn (α := Int) 3 v98z ([b % (r3.length : Int)]), cRo Bs_13, cRo Bs_15, cOwn (α := Raw 2) 60 u_11 rr95z, cRo Bs_12, cRo Bs_9, cOwn (α := Int) 3 u0_7 r02, cRo Bs1_6, cRo Bs_8, cRo Bs2_4, cBlk nb0_1 [v_numbers, I q1, I q2] 158] R := H
 have hq103z := hs104z
 obtain ⟨Bs_16, H, le105z, le106z⟩ := H.joinE (i := 1) (j := 2) rfl rfl
 replace hf91z := hf91z.mono le105z
 replace hq103z := hq103z.mono le106z
 obtain ⟨rw107z, hw108z⟩ : ∃ r : List (Raw 2), (rr95z).set (Int.toNat (a % (r3.length : Int))) (Raw.put ((rr95z).getD (Int.toNat (a % (r3.length : Int))) default) 0 [v101z] rfl (by simp only [List.all_cons, List.all_nil, Bool.true_and, Bool.and_true, Sl.oc hq103z]; try rfl)) = r := ⟨_, rfl⟩
 have hr109z : RepR (α := Work) Bs_16.cells rw107z (r5.set (Int.toNat (a % (r3.length : Int))) { (r5.getD (Int.toNat (a % (r3.length : Int))) default) with of := ((r5.getD (Int.toNat (a % (r3.length : Int))) default).of) ++ ([b % (r3.length : Int)]) }) := by rw [← hw108z]; exact hole_fill hf91z hf93z hq103z
 refine t_fst (α := Raw 2) (k := 4) (i := a % (r3.length : Int)) (off := 0) (l := rr95z) (l' := rw107z) (val := v101z) (L' := [cRo Bs_16, cOwn (α := Int) 3 v98z ([b % (r3.length : Int)]), cRo Bs_13, cRo Bs_15, cOwn (α := Raw 2) 60 u_11 rw107z, cRo Bs_12, cRo Bs_9, cOwn (α := Int) 3 u0_7 r02, cRo Bs1_6, cRo Bs_8, cRo Bs2_4, cBlk nb0_1 [v_numbers, I q1, I q2] 158]) H rfl Sz34 (by omega) (by omega) ((rr95z).getD (Int.toNat (a % (r3.length : Int))) default) (Raw.put ((rr95z).getD (Int.toNat (a % (r3.length : Int))) default) 0 [v101z] rfl (by simp only [List.all_cons, List.all_nil, Bool.true_and, Bool.and_true, Sl.oc hq103z]; try rfl)) (getD_some _ (by omega) _) rfl rfl [v101z] (Sl.cells hq103z) rfl rfl (by simp only [List.all_cons, List.all_nil, Bool.true_and, Bool.and_true, Sl.oc hq103z]; try rfl) rfl hw108z rfl ?_
 intro w110z H
 refine s_nil <| sQ rfl <| sM u0_2 rfl <| sM (I (a % (r3.length : Int))) rfl <| sM (I (b % (r3.length : Int))) rfl ?_
 obtain ⟨r112z, hx111z, hM⟩ := M.e_bind hM
 refine s_call cf53 [u0_2, I (a % (r3.length : Int)), I (b % (r3.length : Int))] rfl (notes_Line_ok r3 (a % (r3.length : Int)) (b % (r3.length : Int)) (Reads.of (k := 6) rfl roLe) hs87z hx111z _ (St.give (T := [cRo Bs_16, cOwn (α := Int) 3 v98z ([b % (r3.length : Int)]), cRo Bs_13, cRo Bs_15, cOwn (α := Raw 2) 60 u_11 rw107z, cRo Bs_12, cRo Bs_9, cOwn (α := Int) 3 u0_7 r02, cRo Bs1_6, cRo Bs_8, cRo Bs2_4, cBlk nb0_1 [v_numbers, I q1, I q2] 158]) H rfl)) ?_
 rintro vq w113z ⟨r03, r14, u0_17, hr114z, hvq, H2_⟩
 subst hr114z
 subst vq
 try dsimp only at hM
 replace H : St w w113z [cOwn (α := Int) 3 u0_17 r03, cRo Bs_16, cOwn (α := Int) 3 v98z ([b % (r3.length : Int)]), cRo Bs_13, cRo Bs_15, cOwn (α := Raw 2) 60 u_11 rw107z, cRo Bs_12, cRo Bs_9, cOwn (α := Int) 3 u0_7 r02, cRo Bs1_6, cRo Bs_8, cRo Bs2_4, cBlk nb0_1 [v_numbers, I q1, I q2] 158] R := H.back H2_ rfl
 clear H2_
 refine sM (.tuple #[u0_17, I r14]) rfl <| sX [u0_17, I r14] u0_17 rfl rfl <| sX [u0_17, I r14] (I r14) rfl rfl <| sA u0_17 rfl <| sA (I r14) rfl <| s_nil <| sQ rfl <| sM u_11 rfl ?_
 obtain ⟨r116z, hx115z, hM⟩ := M.e_bind hM
 refine s_call cf68 [u_11] rfl (notes_Check_ok (r5.set (Int.toNat (a % (r3.length : Int))) { (r5.getD (Int.toNat (a % (r3.length : Int))) default) with of := ((r5.getD (Int.toNat (a % (r3.length : Int))) default).of) ++ ([b % (r3.length : Int)]) }) (Reads.sup (Reads.of (k := 5) rfl ownLe) (Reads.of (k := 1) rfl roLe)) (rowSl rfl (H.get (k := 5) rfl) (roLe _ (H.get (k := 1) rfl)) hr109z) hx115z _ (St.give (T := [cOwn (α := Int) 3 u0_17 r03, cRo Bs_16, cOwn (α := Int) 3 v98z ([b % (r3.length : Int)]), cRo Bs_13, cRo Bs_15, cOwn (α := Raw 2) 60 u_11 rw107z, cRo Bs_12, cRo Bs_9, cOwn (α := Int) 3 u0_7 r02, cRo Bs1_6, cRo Bs_8, cRo Bs2_4, cBlk nb0_1 [v_numbers, I q1, I q2] 158]) H rfl)) ?_
 rintro vq w117z ⟨r6, hr118z, hvq, H2_⟩
 subst hr118z
 subst vq
 try dsimp only at hM
 replace H : St w w117z [cOwn (α := Int) 3 u0_17 r03, cRo Bs_16, cOwn (α := Int) 3 v98z ([b % (r3.length : Int)]), cRo Bs_13, cRo Bs_15, cOwn (α := Raw 2) 60 u_11 rw107z, cRo Bs_12, cRo Bs_9, cOwn (α := Int) 3 u0_7 r02, cRo Bs1_6, cRo Bs_8, cRo Bs2_4, cBlk nb0_1 [v_numbers, I q1, I q2] 158] R := H.back H2_ rfl
 clear H2_
 refine sA (I r6) rfl <| s_nil <| sQ rfl <| sM u_11 rfl ?_
 obtain ⟨r120z, hx119z, hM⟩ := M.e_bind hM
 refine s_call cf67 [u_11] rfl (notes_Circle_ok (r5.set (Int.toNat (a % (r3.length : Int))) { (r5.getD (Int.toNat (a % (r3.length : Int))) default) with of := ((r5.getD (Int.toNat (a % (r3.length : Int))) default).of) ++ ([b % (r3.length : Int)]) }) (Reads.sup (Reads.of (k := 5) rfl ownLe) (Reads.of (k := 1) rfl roLe)) (rowSl rfl (H.get (k := 5) rfl) (roLe _ (H.get (k := 1) rfl)) hr109z) hx119z _ (St.give (T := [cOwn (α := Int) 3 u0_17 r03, cRo Bs_16, cOwn (α := Int) 3 v98z ([b % (r3.length : Int)]), cRo Bs_13, cRo Bs_15, cOwn (α := Raw 2) 60 u_11 rw107z, cRo Bs_12, cRo Bs_9, cOwn (α := Int) 3 u0_7 r02, cRo Bs1_6, cRo Bs_8, cRo Bs2_4, cBlk nb0_1 [v_numbers, I q1, I q2] 158]) H rfl)) ?_
 rintro vq w121z ⟨r04, r15, u0_18, hr122z, hvq, H2_⟩
 subst hr122z
 subst vq
 try dsimp only at hM
 replace H : St w w121z [cOwn (α := Int) 3 u0_18 r04, cOwn (α := Int) 3 u0_17 r03, cRo Bs_16, cOwn (α := Int) 3 v98z ([b % (r3.length : Int)]), cRo Bs_13, cRo Bs_15, cOwn (α := Raw 2) 60 u_11 rw107z, cRo Bs_12, cRo Bs_9, cOwn (α := Int) 3 u0_7 r02, cRo Bs1_6, cRo Bs_8, cRo Bs2_4, cBlk nb0_1 [v_numbers, I q1, I q2] 158] R := H.back H2_ rfl
 clear H2_
 refine sM (.tuple #[u0_18, I r15]) rfl <| sX [u0_18, I r15] u0_18 rfl rfl <| sX [u0_18, I r15] (I r15) rfl rfl <| sA u0_18 rfl <| sA (I r15) rfl <| s_nil <| W.seq <| sQ rfl <| sM (I r14) rfl <| sC r14 0 (r14 != 0) rfl rfl rfl <| s_nil ?_
 refine W.cond (r14 != 0) rfl (fun c123z => ?_) (fun c123z => ?_)
 ·replace hM := M.e_t hM c123z
  simp only [qz1, qz2, qz3, qz4, qz5, qz6, ne_eq, qz7] at c123z
  refine sQ rfl <| sM (I r14) rfl <| sC r14 5 (r14 == 5) rfl rfl rfl <| sM (B (r14 == 5)) rfl <| g_val (r14 == 5) (gy_t rfl) (fun hg => x_mv (v := I r6) rfl) <| g_val (r14 == 5) (gy_t rfl) (fun hg => x_cmp (kd := .i64) (a := r6) (b := 0) (r := r6 == 0) (gd_of (c := r14 == 5) hg (I r6)) rfl rfl) <| s_val (x_pand (b := r14 == 5) (r := r6 == 0) rfl (fun hb => gd_of (c := r14 == 5) (by first | exact hb | (rw [hb]; rfl) | simp_all) (B (r6 == 0))) rfl) <| sM (B ((r14 == 5) && (r6 == 0))) rfl <| g_val ((r14 == 5) && (r6 == 0)) (gy_t rfl) (fun hg => x_mv (v := I r15) rfl) <| g_val ((r14 == 5) && (r6 == 0)) (gy_t rfl) (fun hg => x_cmp (kd := .i64) (a := r15) (b := 5) (r := r15 == 5) (gd_of (c := ((r14 == 5) && (r6 == 0))) hg (I r15)) rfl rfl) <| s_val (x_pand (b := ((r14 == 5) && (r6 == 0))) (r := r15 == 5) rfl (fun hb => gd_of (c := ((r14 == 5) && (r6 == 0))) (by first | exact hb | (rw [hb]; rfl) | simp_all) (B (r15 == 5))) rfl) ?_
  refine sM (B (((r14 == 5) && (r6 == 0)) && (r15 == 5))) rfl ?_
  obtain ⟨r7, hx124z, hM⟩ := M.e_bind hM
  refine t_gcall (((r14 == 5) && (r6 == 0)) && (r15 == 5)) (gy_t rfl) cf17 (B r7) (fun _ => []) (fun _ => rfl) H (fun hg => (nilometerlaw13_awake_ok (M.e_opt hx124z hg) _ (H.give (A := []) rfl)).mono fun v_ w_ ⟨y_, hr_, hv_, H_⟩ => by subst hr_; exact ⟨hv_, H.via H_⟩) ?_
  intro w125z H
  refine s_val (x_pand (b := (((r14 == 5) && (r6 == 0)) && (r15 == 5))) (r := r7) rfl (fun hb => gd_of (c := (((r14 == 5) && (r6 == 0)) && (r15 == 5))) (by first | exact hb | (rw [hb]; rfl) | simp_all) (B r7)) rfl) <| sA (B ((((r14 == 5) && (r6 == 0)) && (r15 == 5)) && r7)) rfl <| s_nil ?_
  refine W.ret ?_
  have hr_ := M.e_pure hM
  exact ⟨_, resE_tmp rfl, ⟨((((r14 == 5) && (r6 == 0)) && (r15 == 5)) && r7), hr_, rfl, (H.pick [] (by decide) rfl)⟩⟩
 replace hM := M.e_f hM c123z
 simp only [qz1, qz2, qz3, qz4, qz5, qz6, ne_eq, qz7] at c123z
 refine W.skip <| W.seq <| sQ rfl <| sM (I r6) rfl <| sC r6 9 (r6 != 9) rfl rfl rfl <| sM (B (r6 != 9)) rfl <| g_val (!(r6 != 9)) (gy_f rfl) (fun hg => x_mv (v := I r15) rfl) <| g_val (!(r6 != 9)) (gy_f rfl) (fun hg => x_cmp (kd := .i64) (a := r15) (b := 0) (r := r15 != 0) (gd_of (c := !(r6 != 9)) hg (I r15)) rfl rfl) <| s_val (x_por (b := r6 != 9) (r := r15 != 0) rfl rfl (fun hb => gd_of (c := !(r6 != 9)) (by first | exact hb | (rw [hb]; rfl) | simp_all) (B (r15 != 0)))) <| sM (B ((r6 != 9) || (r15 != 0))) rfl <| g_val (!((r6 != 9) || (r15 != 0))) (gy_f rfl) (fun hg => x_mv (v := u0_18) rfl) ?_
 refine g_val (!((r6 != 9) || (r15 != 0))) (gy_f rfl) (fun hg => x_lenS T34.und (gd_of (c := !((r6 != 9) || (r15 != 0))) hg (u0_18)) (ownSl (H.get (k := 0) rfl))) <| g_val (!((r6 != 9) || (r15 != 0))) (gy_f rfl) (fun hg => x_cmp (kd := .i64) (a := (r04.length : Int)) (b := 2) (r := decide ((r04.length : Int) < 2)) (gd_of (c := !((r6 != 9) || (r15 != 0))) hg (I (r04.length : Int))) rfl rfl) <| s_val (x_por (b := ((r6 != 9) || (r15 != 0))) (r := decide ((r04.length : Int) < 2)) rfl rfl (fun hb => gd_of (c := !((r6 != 9) || (r15 != 0))) (by first | exact hb | (rw [hb]; rfl) | simp_all) (B (decide ((r04.length : Int) < 2))))) <| sM (B (((r6 != 9) || (r15 != 0)) || (decide ((r04.length : Int) < 2)))) rfl <| g_val (!(((r6 != 9) || (r15 != 0)) || (decide ((r04.length : Int) < 2)))) (gy_f rfl) (fun hg => x_mv (v := u0_18) rfl) <| g_val (!(((r6 != 9) || (r15 != 0)) || (decide ((r04.length : Int) < 2)))) (gy_f rfl) (fun hg => x_mv (v := I (a % (r3.length : Int))) rfl) ?_
 refine t_gcall (!(((r6 != 9) || (r15 != 0)) || (decide ((r04.length : Int) < 2)))) (gy_f rfl) cf45 (B (r04.contains (a % (r3.length : Int)))) (fun _ => [u0_18, I (a % (r3.length : Int))]) (fun hg => lst2 (gd_of (c := !(((r6 != 9) || (r15 != 0)) || (decide ((r04.length : Int) < 2)))) hg (u0_18)) (gd_of (c := !(((r6 != 9) || (r15 != 0)) || (decide ((r04.length : Int) < 2)))) hg (I (a % (r3.length : Int))))) H (fun hg => Ret.mono (contains_int (a % (r3.length : Int)) _ ((ownSl (H.get (k := 0) rfl)).mono (ownLe _ (H.get (k := 0) rfl)))) fun v_ w_ ⟨hv_, hx_⟩ => ⟨hv_, H.ext hx_⟩) ?_
 intro w127z H
 refine g_val (!(((r6 != 9) || (r15 != 0)) || (decide ((r04.length : Int) < 2)))) (gy_f rfl) (fun hg => x_not (b := r04.contains (a % (r3.length : Int))) (gd_of (c := !(((r6 != 9) || (r15 != 0)) || (decide ((r04.length : Int) < 2)))) hg (B (r04.contains (a % (r3.length : Int)))))) <| s_val (x_por (b := (((r6 != 9) || (r15 != 0)) || (decide ((r04.length : Int) < 2)))) (r := !(r04.contains (a % (r3.length : Int)))) rfl rfl (fun hb => gd_of (c := !(((r6 != 9) || (r15 != 0)) || (decide ((r04.length : Int) < 2)))) (by first | exact hb | (rw [hb]; rfl) | simp_all) (B (!(r04.contains (a % (r3.length : Int))))))) <| sM (B ((((r6 != 9) || (r15 != 0)) || (decide ((r04.length : Int) < 2))) || (!(r04.contains (a % (r3.length : Int)))))) rfl <| g_val (!((((r6 != 9) || (r15 != 0)) || (decide ((r04.length : Int) < 2))) || (!(r04.contains (a % (r3.length : Int)))))) (gy_f rfl) (fun hg => x_mv (v := u0_18) rfl) <| g_val (!((((r6 != 9) || (r15 != 0)) || (decide ((r04.length : Int) < 2))) || (!(r04.contains (a % (r3.length : Int)))))) (gy_f rfl) (fun hg => x_mv (v := I (b % (r3.length : Int))) rfl) ?_
 refine t_gcall (!((((r6 != 9) || (r15 != 0)) || (decide ((r04.length : Int) < 2))) || (!(r04.contains (a % (r3.length : Int)))))) (gy_f rfl) cf45 (B (r04.contains (b % (r3.length : Int)))) (fun _ => [u0_18, I (b % (r3.length : Int))]) (fun hg => lst2 (gd_of (c := !((((r6 != 9) || (r15 != 0)) || (decide ((r04.length : Int) < 2))) || (!(r04.contains (a % (r3.length : Int)))))) hg (u0_18)) (gd_of (c := !((((r6 != 9) || (r15 != 0)) || (decide ((r04.length : Int) < 2))) || (!(r04.contains (a % (r3.length : Int)))))) hg (I (b % (r3.length : Int))))) H (fun hg => Ret.mono (contains_int (b % (r3.length : Int)) _ ((ownSl (H.get (k := 0) rfl)).mono (ownLe _ (H.get (k := 0) rfl)))) fun v_ w_ ⟨hv_, hx_⟩ => ⟨hv_, H.ext hx_⟩) ?_
 intro w128z H
 refine g_val (!((((r6 != 9) || (r15 != 0)) || (decide ((r04.length : Int) < 2))) || (!(r04.contains (a % (r3.length : Int)))))) (gy_f rfl) (fun hg => x_not (b := r04.contains (b % (r3.length : Int))) (gd_of (c := !((((r6 != 9) || (r15 != 0)) || (decide ((r04.length : Int) < 2))) || (!(r04.contains (a % (r3.length : Int)))))) hg (B (r04.contains (b % (r3.length : Int)))))) <| s_val (x_por (b := ((((r6 != 9) || (r15 != 0)) || (decide ((r04.length : Int) < 2))) || (!(r04.contains (a % (r3.length : Int)))))) (r := !(r04.contains (b % (r3.length : Int)))) rfl rfl (fun hb => gd_of (c := !((((r6 != 9) || (r15 != 0)) || (decide ((r04.length : Int) < 2))) || (!(r04.contains (a % (r3.length : Int)))))) (by first | exact hb | (rw [hb]; rfl) | simp_all) (B (!(r04.contains (b % (r3.length : Int))))))) <| s_nil ?_
 refine W.cond (((((r6 != 9) || (r15 != 0)) || (decide ((r04.length : Int) < 2))) || (!(r04.contains (a % (r3.length : Int))))) || (!(r04.contains (b % (r3.length : Int))))) rfl (fun c129z => ?_) (fun c129z => ?_)
 ·replace hM := M.e_t hM c129z
  refine sQ rfl <| sA (B false) rfl <| s_nil ?_
  refine W.ret ?_
  have hr_ := M.e_pure hM
  exact ⟨_, resE_tmp rfl, ⟨false, hr_, rfl, (H.pick [] (by decide) rfl)⟩⟩
 replace hM := M.e_f hM c129z
 refine W.skip <| sQ rfl <| sM u_11 rfl <| sM u0_18 rfl ?_
 obtain ⟨r131z, hx130z, hM⟩ := M.e_bind hM
 refine s_call cf69 [u_11, u0_18] rfl (nilometerlaw13_circle_ok (r5.set (Int.toNat (a % (r3.length : Int))) { (r5.getD (Int.toNat (a % (r3.length : Int))) default) with of := ((r5.getD (Int.toNat (a % (r3.length : Int))) default).of) ++ ([b % (r3.length : Int)]) }) r04 (Reads.sup (Reads.of (k := 6) rfl ownLe) (Reads.of (k := 2) rfl roLe)) (rowSl rfl (H.get (k := 6) rfl) (roLe _ (H.get (k := 2) rfl)) hr109z) (Reads.of (k := 0) rfl ownLe) (ownSl (H.get (k := 0) rfl)) hx130z _ (St.give (T := [cOwn (α := Int) 3 u0_18 r04, cOwn (α := Int) 3 u0_17 r03, cRo Bs_16, cOwn (α := Int) 3 v98z ([b % (r3.length : Int)]), cRo Bs_13, cRo Bs_15, cOwn (α := Raw 2) 60 u_11 rw107z, cRo Bs_12, cRo Bs_9, cOwn (α := Int) 3 u0_7 r02, cRo Bs1_6, cRo Bs_8, cRo Bs2_4, cBlk nb0_1 [v_numbers, I q1, I q2] 158]) H rfl)) ?_
 rintro vq w132z ⟨r8, hr133z, hvq, H2_⟩
 subst hr133z
 subst vq
 try dsimp only at hM
 replace H : St w w132z [cOwn (α := Int) 3 u0_18 r04, cOwn (α := Int) 3 u0_17 r03, cRo Bs_16, cOwn (α := Int) 3 v98z ([b % (r3.length : Int)]), cRo Bs_13, cRo Bs_15, cOwn (α := Raw 2) 60 u_11 rw107z, cRo Bs_12, cRo Bs_9, cOwn (α := Int) 3 u0_7 r02, cRo Bs1_6, cRo Bs_8, cRo Bs2_4, cBlk nb0_1 [v_numbers, I q1, I q2] 158] R := H.back H2_ rfl
 clear H2_
 refine sM (B r8) rfl ?_
 obtain ⟨r9, hx134z, hM⟩ := M.e_bind hM
 refine t_gcall r8 (gy_t rfl) cf17 (B r9) (fun _ => []) (fun _ => rfl) H (fun hg => (nilometerlaw13_awake_ok (M.e_opt hx134z hg) _ (H.give (A := []) rfl)).mono fun v_ w_ ⟨y_, hr_, hv_, H_⟩ => by subst hr_; exact ⟨hv_, H.via H_⟩) ?_
 intro w135z H
 refine s_val (x_pand (b := r8) (r := r9) rfl (fun hb => gd_of (c := r8) (by first | exact hb | (rw [hb]; rfl) | simp_all) (B r9)) rfl) <| sA (B (r8 && r9)) rfl <| s_nil ?_
 refine W.ret ?_
 have hr_ := M.e_pure hM
 exact ⟨_, resE_tmp rfl, ⟨(r8 && r9), hr_, rfl, (H.pick [] (by decide) rfl)⟩⟩

end Go.Proofs.Ytndobgodeicloaa
end
namespace Go.Nm
variable {ws : List Work} {f : Nat} {t : Int}
/-- Works, one of which is made of one more. -/
def addE (ws : List Work) (f : Nat) (t : Int) : List Work := ws.set f { (ws.getD f default) with of := (ws.getD f default).of ++ [t] }
theorem addE_len : (addE ws f t).length = ws.length := by simp [addE]
theorem addE_at (h : f < ws.length) : (addE ws f t).getD f default = { (ws.getD f default) with of := (ws.getD f default).of ++ [t] } := by
  unfold addE
  rw [List.getD_eq_getElem?_getD, List.getElem?_set_self h]
  rfl
theorem addE_ne {i : Nat} (h : i ≠ f) : (addE ws f t).getD i default = ws.getD i default := by
  unfold addE
  rw [List.getD_eq_getElem?_getD, List.getElem?_set_ne (fun e => h e.symm), ← List.getD_eq_getElem?_getD]
theorem addE_of (hf : f < ws.length) {i : Nat} {k : Int} : k ∈ ((addE ws f t).getD i default).of ↔ k ∈ (ws.getD i default).of ∨ (i = f ∧ k = t) := by
  by_cases e : i = f
  · subst e
    rw [addE_at hf]
    simp
  · rw [addE_ne e]
    constructor
    · exact .inl
    · rintro (h | h)
      · exact h
      · exact absurd h.1 e
theorem addE_right (hB : Built ws) (hf : f < ws.length) (t0 : 0 ≤ t) (t1 : t < ws.length) (hne : t ≠ (f : Int)) (h5 : (ws.getD f default).of.length < 5) (hn : t ∉ (ws.getD f default).of) : rightE (addE ws f t) = 0 := by
  have h1 : inB (addE ws f t).length 1 30 = true := by
    have := hB.len
    rw [addE_len]
    unfold inB
    simp only [Bool.and_eq_true, decide_eq_true_eq]
    omega
  have h2 : ((addE ws f t).all fun x => decide ((x.of.length : Int) ≤ 5)) = true := by
    rw [List.all_eq_true]
    intro x hx
    obtain ⟨i, hi, rfl⟩ := mem_getD hx default
    rw [addE_len] at hi
    have := (hB.at_ i hi).few
    simp only [decide_eq_true_eq]
    by_cases e : i = f
    · subst e
      rw [addE_at hf]
      simp only [List.length_append, List.length_cons, List.length_nil]
      omega
    · rw [addE_ne e]; omega
  have h3 : (List.range (addE ws f t).length).any (badAt (addE ws f t)) = false := by
    rw [List.any_eq_false]
    intro i hi
    have hi := List.mem_range.1 hi
    rw [addE_len] at hi
    have hb := hB.at_ i hi
    unfold badAt badW
    have eb : ((addE ws f t).getD i default).base = (ws.getD i default).base ∧ ((addE ws f t).getD i default).minutes = (ws.getD i default).minutes := by
      by_cases e : i = f
      · subst e; rw [addE_at hf]; exact ⟨rfl, rfl⟩
      · rw [addE_ne e]; exact ⟨rfl, rfl⟩
    have e1 : inB ((addE ws f t).getD i default).base 0 1000002 = true := by rw [eb.1]; unfold inB; simp only [Bool.and_eq_true, decide_eq_true_eq]; exact hb.base
    have e2 : inB ((addE ws f t).getD i default).minutes 0 10000 = true := by rw [eb.2]; unfold inB; simp only [Bool.and_eq_true, decide_eq_true_eq]; exact hb.mins
    have e3 : (((addE ws f t).getD i default).of.all fun k => inB k 0 (((addE ws f t).length : Int) - 1) && (k != (i : Int))) = true := by
      rw [List.all_eq_true, addE_len]
      intro k hk
      unfold inB
      simp only [Bool.and_eq_true, decide_eq_true_eq, bne_iff_ne, ne_eq]
      rcases (addE_of hf).1 hk with hk | ⟨rfl, rfl⟩
      · have := hb.ahead k hk; omega
      · omega
    rw [e1, e2, e3]
    decide
  have h4 : ((addE ws f t).any fun x => dupL x.of) = false := by
    rw [List.any_eq_false]
    intro x hx hd
    obtain ⟨i, hi, rfl⟩ := mem_getD hx default
    rw [addE_len] at hi
    have hn : ((addE ws f t).getD i default).of.Nodup := by
      have := (hB.at_ i hi).once
      by_cases e : i = f
      · subst e
        rw [addE_at hf]
        rw [List.nodup_append]
        exact ⟨this, by simp, fun a ha b hb e => hn (by rw [← List.mem_singleton.1 hb, ← e]; exact ha)⟩
      · rw [addE_ne e]; exact this
    unfold dupL at hd
    obtain ⟨k, hk, hd⟩ := List.any_eq_true.1 hd
    have hk := List.mem_range.1 hk
    unfold dupAt at hd
    rw [List.contains_iff_mem] at hd
    rw [← List.take_append_drop k ((addE ws f t).getD i default).of, List.nodup_append] at hn
    refine hn.2.2 _ hd _ ?_ rfl
    rw [List.mem_iff_getElem]
    refine ⟨0, by rw [List.length_drop]; omega, ?_⟩
    rw [List.getElem_drop]
    simp only [Nat.add_zero]
    exact (getD_el _ hk 0).symm
  unfold rightE
  rw [if_neg (by simp only [h1, h2]; decide), if_neg (by rw [h3]; decide), if_neg (by rw [h4]; decide)]
theorem wyP_lt (hO : openedE ws = 0) {a b : Nat} (w : Wy ws a b) : posO ws (a : Int) < posO ws (b : Int) := by
  induction w with
  | one h hb => exact posO_lt (order_all hO (by omega) (by omega)) (by rw [Int.toNat_natCast]; exact h)
  | @more m b w h hb ih =>
    have := posO_lt (order_all hO (i := (b : Int)) (by omega) (by omega)) (by rw [Int.toNat_natCast]; exact h)
    omega
theorem wy_mono (hf : f < ws.length) {a b : Nat} (w : Wy ws a b) : Wy (addE ws f t) a b := by
  induction w with
  | one h hb => exact .one ((addE_of hf).2 (.inl h)) (by rw [addE_len]; exact hb)
  | more w h hb ih => exact .more ih ((addE_of hf).2 (.inl h)) (by rw [addE_len]; exact hb)
theorem wy_trans {a b c : Nat} (w1 : Wy ws a b) (w2 : Wy ws b c) : Wy ws a c := by
  induction w2 with
  | one h hb => exact .more w1 h hb
  | more _ h hb ih => exact .more ih h hb
/-- A way that takes the new step: up to it, and on from it. -/
theorem wy_split (hf : f < ws.length) (t0 : 0 ≤ t) {a b : Nat} (w : Wy (addE ws f t) a b) : Wy ws a b ∨ ((a = t.toNat ∨ Wy ws a t.toNat) ∧ (f = b ∨ Wy ws f b)) := by
  induction w with
  | one h hb =>
    rw [addE_len] at hb
    rcases (addE_of hf).1 h with h | ⟨rfl, h⟩
    · exact .inl (.one h hb)
    · exact .inr ⟨.inl (by omega), .inl rfl⟩
  | @more m b w h hb ih =>
    rw [addE_len] at hb
    rcases (addE_of hf).1 h with h | ⟨rfl, h⟩
    · rcases ih with ih | ⟨h1, h2⟩
      · exact .inl (.more ih h hb)
      · refine .inr ⟨h1, .inr ?_⟩
        rcases h2 with rfl | h2
        · exact .one h hb
        · exact .more h2 h hb
    · obtain rfl : m = t.toNat := by omega
      refine .inr ⟨?_, .inl rfl⟩
      rcases ih with ih | ⟨h1, _⟩
      · exact .inr ih
      · exact h1
theorem circ_no (hB : Built ws) {l : List Int} (h : Circ ws l) : False := by
  have hp := h.pos
  have key : ∀ j, j < l.length → l.getD j 0 ≤ l.getD 0 0 := by
    intro j
    induction j with
    | zero => intro _; exact Int.le_refl _
    | succ j ih =>
      intro hj
      have h1 := h.rng _ (getD_memN l (by omega : (j : Int) < _) 0)
      have h2 := (hB.at_ (l.getD j 0).toNat (by omega)).ahead _ (h.pth j hj)
      have := ih (by omega)
      omega
  have h1 := h.rng _ (getD_memN l (by omega : ((l.length - 1 : Nat) : Int) < _) 0)
  have h2 := (hB.at_ (l.getD (l.length - 1) 0).toNat (by omega)).ahead _ h.shut
  have := key (l.length - 1) (by omega)
  omega
theorem circ_uses (hB : Built ws) (hf : f < ws.length) {l : List Int} (h : Circ (addE ws f t) l) : (f : Int) ∈ l ∧ t ∈ l := by
  refine Classical.byContradiction fun hc => circ_no hB (l := l) ⟨h.pos, fun x hx => by have := h.rng x hx; rw [addE_len] at this; exact this, h.once, fun j hj => ?_, ?_⟩
  · have h1 := h.rng _ (getD_memN l (by omega : (j : Int) < _) 0)
    rcases (addE_of hf).1 (h.pth j hj) with h2 | ⟨h2, h3⟩
    · exact h2
    · exact absurd ⟨by rw [show (f : Int) = l.getD j 0 from by omega]; exact getD_memN l (by omega : (j : Int) < _) 0, by rw [← h3]; exact getD_memN l (by omega) 0⟩ hc
  · have h1 := h.rng _ (getD_memN l (by have := h.pos; omega : ((l.length - 1 : Nat) : Int) < _) 0)
    rcases (addE_of hf).1 h.shut with h2 | ⟨h2, h3⟩
    · exact h2
    · exact absurd ⟨by rw [show (f : Int) = l.getD (l.length - 1) 0 from by omega]; exact getD_memN l (by have := h.pos; omega : ((l.length - 1 : Nat) : Int) < _) 0, by rw [← h3]; exact getD_memN l (by have := h.pos; omega : ((0 : Nat) : Int) < _) 0⟩ hc
end Go.Nm
namespace Go.Proofs.Ytndobgodeicloaa
open Go Go.Nm
variable {ws : List Work}
theorem circled_order (hB : Built ws) : (M.iter (m_nilometerlaw13_NotesCircled_b2 ws (orderP ws)) 0).Ends (.inr ()) := by
  have hO := hB.opened
  have hg := order_good ws
  have hl := order_full hO
  have hlen := hB.len
  refine M.i_for (fun i => i) (orderP ws).length (fun i hi => ?_) ?_
  · have hr := hg.2.1 _ (getD_memN (orderP ws) (by omega : (i : Int) < _) 0)
    have hnc : ((orderP ws).take i).contains ((orderP ws).getD i 0) = false := by
      cases hc : ((orderP ws).take i).contains ((orderP ws).getD i 0) with
      | false => rfl
      | true =>
        rw [List.contains_iff_mem] at hc
        have hn := hg.1
        rw [← List.take_append_drop i (orderP ws), List.nodup_append] at hn
        refine absurd rfl (hn.2.2 _ hc _ ?_)
        rw [List.mem_iff_getElem]
        refine ⟨0, by rw [List.length_drop]; omega, ?_⟩
        rw [List.getElem_drop]
        simp only [Nat.add_zero]
        exact (getD_el _ (by omega) 0).symm
    have hin := hg.2.2 i hi
    simp only [m_nilometerlaw13_NotesCircled_b2]
    refine M.i_t (by simpa using hi) (M.grdD (by omega) (M.i_f ?_ (M.i_grd (gA2 hr.1 hr.2) (M.i_bind (a := Sum.inr ()) ?_ M.i_pure))))
    · rw [hnc, decide_eq_false (by omega), decide_eq_false (by omega)]; rfl
    · refine M.i_for (fun k => k) ((ws.getD ((orderP ws).getD i 0).toNat default).of).length (fun k hk => ?_) ?_
      · simp only [m_nilometerlaw13_NotesCircled_b1]
        have := hin _ (getD_memN ((ws.getD ((orderP ws).getD i 0).toNat default).of) (by omega : (k : Int) < _) 0)
        refine M.i_t (by simpa using hk) (M.grdD (by omega) (M.i_f ?_ M.i_pure))
        rw [List.contains_iff_mem.2 this]; rfl
      · simp only [m_nilometerlaw13_NotesCircled_b1]
        exact M.i_f (by simp) M.i_pure
  · simp only [m_nilometerlaw13_NotesCircled_b2]
    exact M.i_f (by simp) M.i_pure
theorem notesCircled_out (p : List UInt8) (a b : Int) (a0 : 0 ≤ a) (a1 : a < 256) (b0 : 0 ≤ b) (b1 : b < 256) : (m_nilometerlaw13_NotesCircled p a b).Out (fun r => r = true) := by
  unfold m_nilometerlaw13_NotesCircled
  have s0 : SOk 0 0 0 := ⟨Int.le_refl _, Int.le_refl _, Int.le_refl _, by omega⟩
  refine M.o_bindE M.i_pure (M.o_bind (made_out s0 (by omega) (by omega) (by omega)) ?_)
  rintro ⟨ws, u1, x1⟩ ⟨hW, _⟩
  dsimp only at hW ⊢
  have hB := hW.built
  have hO := hB.opened
  have hfull := order_full hO
  have h2 := hW.two
  have h14 := hW.most
  have hO1 := notesOrder_ends ws
  rw [if_pos hO] at hO1
  have hAw : ∀ {c : Bool}, c = true → (M.bind (M.opt c m_nilometerlaw13_awake false) fun r => M.pure (c && r)).Out (fun r => r = true) := by
    intro c hc
    subst hc
    exact M.o_bindE awake_ends (M.o_pure rfl)
  refine M.o_bindE hO1 (M.o_bindE (circle_none hO) (M.o_f ?_ (M.o_bindE (circled_order hB) (M.o_grd (gA2 a0 a1) (M.o_grd (gA2 a0 (by omega)) (M.o_grd (gA2 b0 b1) ?_))))))
  · rw [hfull]; simp
  have hL : (0 : Int) < ws.length := by omega
  have f0 := Int.emod_nonneg a (Int.ne_of_gt hL)
  have f1 := Int.emod_lt_of_pos a hL
  have t0 := Int.emod_nonneg b (Int.ne_of_gt hL)
  have t1 := Int.emod_lt_of_pos b hL
  generalize hfe : a % (ws.length : Int) = f at *
  generalize hte : b % (ws.length : Int) = t at *
  refine M.o_grd (gOr2 f0 f1) (M.o_grd (gOr2 f0 f1) (M.o_if (fun _ => M.o_bindE awake_ends (M.o_pure rfl)) (fun hc => ?_)))
  simp only [Bool.or_eq_false_iff, beq_eq_false_iff_ne, ne_eq] at hc
  obtain ⟨⟨hne, h5⟩, hnc⟩ := hc
  have hni : t ∉ (ws.getD f.toNat default).of := by
    intro h
    rw [List.contains_iff_mem.2 h] at hnc
    cases hnc
  have hfew := (hB.at_ f.toNat (by omega)).few
  have hf : f.toNat < ws.length := by omega
  refine M.o_grd (gA2 f0 f1) (M.o_bindE (copyWorks_ends (by omega) (fun x hx => by obtain ⟨i, hi, rfl⟩ := mem_getD hx default; have := (hB.at_ i hi).few; omega)) (M.o_grdD (by simp only [List.length_cons, List.length_nil]; omega) ?_))
  have hR := addE_right hB hf t0 t1 (by omega) (by omega) hni
  have hLen : (addE ws f.toNat t).length = ws.length := addE_len
  refine M.o_bind (line_outG hO f0 f1 t0 t1) ?_
  rintro ⟨l, e⟩ hq
  dsimp only
  refine M.o_bindE (notesCheck_ends (addE ws f.toNat t)) ?_
  rcases hq with ⟨h1, _, h3⟩ | ⟨h1, _, h3⟩
  · dsimp only at h1
    subst h1
    have hw := h3.resolve_left hne
    have hno : openedE (addE ws f.toNat t) ≠ 0 := by
      intro hop
      have w1 := wy_mono (t := t) hf hw
      have w2 : Wy (addE ws f.toNat t) f.toNat f.toNat := .more w1 ((addE_of hf).2 (.inr ⟨rfl, by omega⟩)) (by rw [hLen]; exact hf)
      have := wyP_lt hop w2
      omega
    have hlt : (orderP (addE ws f.toNat t)).length < (addE ws f.toNat t).length := Classical.byContradiction fun hc => hno (opened_ok hR (by omega))
    have h9 := opened_circle hR (by omega : ((orderP (addE ws f.toNat t)).length : Int) < (addE ws f.toNat t).length)
    refine M.o_bind (circle_found hR hlt) ?_
    rintro ⟨c, e⟩ ⟨he, hcc⟩
    dsimp only at he hcc ⊢
    subst he
    obtain ⟨u1, u2⟩ := circ_uses hB hf hcc
    rw [show ((f.toNat : Nat) : Int) = f from by omega] at u1
    have hc2 : 2 ≤ c.length := by
      obtain ⟨i, hi, e1⟩ := mem_getD u1 0
      obtain ⟨j, hj, e2⟩ := mem_getD u2 0
      refine Classical.byContradiction fun hlt => hne ?_
      obtain rfl : i = j := by omega
      rw [← e1, ← e2]
    have hlb : c.length ≤ (addE ws f.toNat t).length := nodup_bound _ c hcc.once hcc.rng
    refine M.o_f rfl (M.o_f ?_ (M.o_bindE (isCircle hcc (by omega)) (hAw rfl)))
    rw [h9, List.contains_iff_mem.2 u1, List.contains_iff_mem.2 u2, decide_eq_false (by omega)]
    rfl
  · obtain ⟨rfl, rfl⟩ := Prod.mk.inj h1
    have hop : openedE (addE ws f.toNat t) = 0 := by
      refine opened_ok hR ?_
      intro hc
      obtain ⟨i, _, hw⟩ := order_circle hR (by omega)
      rcases wy_split hf t0 hw with hw | ⟨q1, q2⟩
      · have := hB.way hw; omega
      · apply h3
        rcases q2 with rfl | q2
        · rcases q1 with q1 | q1
          · omega
          · exact q1
        · rcases q1 with rfl | q1
          · exact q2
          · exact wy_trans q2 q1
    refine M.o_bindE (circle_none hop) (M.o_t rfl (hAw ?_))
    rw [hop]; rfl
theorem notesCircled_ends (p : List UInt8) (a b : UInt8) : (m_nilometerlaw13_NotesCircled p (a.toNat : Int) (b.toNat : Int)).Ends true := by
  have ha := a.toNat_lt
  have hb := b.toNat_lt
  obtain ⟨r, h, rfl⟩ := notesCircled_out p (a.toNat : Int) (b.toNat : Int) (by omega) (by omega) (by omega) (by omega)
  exact h
end Go.Proofs.Ytndobgodeicloaa
