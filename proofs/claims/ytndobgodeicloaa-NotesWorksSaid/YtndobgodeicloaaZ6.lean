/- Part 6 of the texts on which the proof rests. Conditions: none. -/
import Derived.Test.YtndobgodeicloaaZ5
set_option linter.unusedVariables false
set_option linter.unusedSimpArgs false
set_option linter.unusedSectionVars false
section
set_option maxRecDepth 100000
set_option maxHeartbeats 16000000
namespace Go.Proofs.Ytndobgodeicloaa
open Go Go.Nm
def m_notes_Order (w_ : List Work) : M ((List Int) × Int) :=
  bif (openedE w_ == 0) then (
  bif (0 : Int) != 0 then (M.fail) else (M.pure ((orderP w_), 0)))
  else (
  bif (openedE w_) != 0 then (
  M.pure (([]), (openedE w_)))
  else (
  M.pure (([]), 0)))
theorem notes_Order_ok {R : List Chunk} {C_w_ : Cells} {v_w_ : Value} (w_ : List Work) (hC_w_ : Reads R C_w_) (hs_w_ : Sl C_w_ v_w_ w_) {r : ((List Int) × Int)} (hM : (m_notes_Order w_).Ends r) (w : World) (H : St w w [] R) : Ret Try.prog 54 #[v_w_] w fun v w' => ∃ (y0 : List Int) (y1 : Int) (u0 : Value) (Bs1 : Base), (y0, y1) = r ∧ v = .tuple #[u0, I y1] ∧ St w w' [cRo Bs1] R ∧ Sl Bs1.cells u0 y0 := by
 refine ret_of_W Try.func54 rfl rfl rfl ?_
 refine sQ rfl <| sA (.slice none 0 0) rfl <| sA (I 0) rfl <| s_nil <| sQ rfl <| sM v_w_ rfl ?_
 refine s_call cf81 [v_w_] rfl (opened_any _ (hs_w_.mono (hC_w_.at H))) ?_
 rintro _ w1z (⟨he_, rfl, hx_⟩ | ⟨he_, b_1, u2z, rfl, hn_, hs3z⟩)
 ·replace hM := M.e_f hM (by simpa using he_)
  replace H : St w w1z [] R := H.ext hx_
  clear hx_
  refine sM (.tuple #[.pointer none, .slice none 0 0, I (openedE w_)]) rfl <| sX [.pointer none, .slice none 0 0, I (openedE w_)] (.pointer none) rfl rfl <| sX [.pointer none, .slice none 0 0, I (openedE w_)] (.slice none 0 0) rfl rfl <| sX [.pointer none, .slice none 0 0, I (openedE w_)] (I (openedE w_)) rfl rfl <| sA (.pointer none) rfl <| sA (.slice none 0 0) rfl <| sA (I (openedE w_)) rfl <| s_nil <| W.seq <| sQ rfl <| sM (I (openedE w_)) rfl ?_
  refine sC (openedE w_) 0 ((openedE w_) != 0) rfl rfl rfl <| s_nil ?_
  refine W.cond ((openedE w_) != 0) rfl (fun c4z => ?_) (fun c4z => ?_)
  ·replace hM := M.e_t hM c4z
   simp only [qz1, qz2, qz3, qz4, qz5, qz6, ne_eq, qz7] at c4z
   refine sQ rfl <| sM (I (openedE w_)) rfl <| sA (.slice none 0 0) rfl <| sA (I (openedE w_)) rfl <| s_nil ?_
   refine W.ret ?_
   have hr_ := M.e_pure hM
   obtain ⟨Bs_3, H⟩ := H.emptyE
   exact ⟨_, resE_tmp2 rfl, ⟨([]), (openedE w_), .slice none 0 0, Bs_3, hr_, rfl, H, (Sl.nil _)⟩⟩
  replace hM := M.e_f hM c4z
  simp only [qz1, qz2, qz3, qz4, qz5, qz6, ne_eq, qz7] at c4z
  refine W.skip <| sQ rfl <| sM (.slice none 0 0) rfl <| sA (.slice none 0 0) rfl <| sA (I 0) rfl <| s_nil ?_
  refine W.ret ?_
  have hr_ := M.e_pure hM
  obtain ⟨Bs_3, H⟩ := H.emptyE
  exact ⟨_, resE_tmp2 rfl, ⟨([]), 0, .slice none 0 0, Bs_3, hr_, rfl, H, (Sl.nil _)⟩⟩
 replace hM := M.e_t hM (by simpa using he_)
 obtain ⟨Bs_2, H2_, hs3z, hb_b_1⟩ := H.freshNB hn_ hs3z
 replace H : St w w1z [cRo Bs_2] R := H2_
 clear H2_ hn_
 have hl_hs3z := hs3z.len_le
 refine sM (.tuple #[Pz b_1, u2z, I 0]) rfl <| sX [Pz b_1, u2z, I 0] (Pz b_1) rfl rfl <| sX [Pz b_1, u2z, I 0] u2z rfl rfl <| sX [Pz b_1, u2z, I 0] (I 0) rfl rfl <| sA (Pz b_1) rfl <| sA u2z rfl <| sA (I 0) rfl <| s_nil <| W.seq <| sQ rfl <| sM (I 0) rfl ?_
 refine sC 0 0 ((0 : Int) != 0) rfl rfl rfl <| s_nil ?_
 refine W.cond ((0 : Int) != 0) rfl (fun c5z => ?_) (fun c5z => ?_)
 ·skip
  exact absurd c5z (by decide)
 skip
 replace hM := M.e_f hM c5z
 refine W.skip <| sQ rfl <| sM u2z rfl <| sA u2z rfl <| sA (I 0) rfl <| s_nil ?_
 refine W.ret ?_
 have hr_ := M.e_pure hM
 exact ⟨_, resE_tmp2 rfl, ⟨(orderP w_), 0, u2z, Bs_2, hr_, rfl, H, hs3z⟩⟩

end Go.Proofs.Ytndobgodeicloaa
end
namespace Go.Nm
open Go
section
variable {P : Program} {w : World} {σ : Env} {d : Nat} {ty : TypeId} {pos : String} {af : Array Edge} {g : Option (Nat × Bool)}
theorem x_eqnilp {α : Type} [Elt α] {t e yt : TypeId} {x y : Operand} {C : Cells} {v : Value} {l : List α} (ht : P.underlying t = some (.slice e)) (hx : ev σ x = v) (hy : ev σ y = .slice none 0 0) (h : Sl C v l) (hn : 0 < l.length) :
    (execOp (ev σ) ⟨some d, .binOp .eql t x y yt, ty, pos, af, g⟩).run P w = .ok (.value (.bool false)) w := by
  have := x_eqnil (P := P) (w := w) (σ := σ) (d := d) (ty := ty) (pos := pos) (af := af) (g := g) (yt := yt) ht hx hy h (fun e => by subst e; cases hn)
  cases l with
  | nil => cases hn
  | cons x l => exact this
end
section
variable {P : Program} {all rest : List Oper} {Q : Post} {σ : Env} {w0 w : World} {L L' R : List Chunk} {d : Nat} {ty : TypeId} {pos : String} {af : Array Edge} {g : Option (Nat × Bool)}
theorem t_bs0 {α : Type} [Flat α] {t e by' : Nat} {z : Value} (T : SlT P t e (Elt.sz α) by' z) (H : St w0 w L R)
    (k : ∀ u w', St w0 w' (cOwn e u ([] : List α) :: L) R → SL P all Q rest (upd σ d u) w') : SL P all Q (⟨some d, .buildSlice t 0 #[], ty, pos, af, none⟩ :: rest) σ w := by
  obtain ⟨i, hi, hz, hisz, hby⟩ := T.parts
  refine s_any (v := .slice (some ⟨w.heap.size, 0, none⟩) 0 0) (w' := w.alloc (.cells #[] e)) ?_ (k _ _ (H.push (.allocCells ..) ?_ ?_))
  · simp [execOp, Instr.buildSlice, run_underlying T.und, sizeOf, typeInfo, zeroValue, hi, hz, newRow, Instr.fill]
    exact congrArg (fun c => w.alloc (Obj.cells c e)) (by simp)
  · refine ⟨by simp, .inr ⟨w.heap.size, 0, #[], by simp, Nat.zero_le _, heap_alloc_new w _, Nat.le_refl _, by simp [maxLen], by simp, by simp⟩⟩
  · intro b hb
    simp only [cOwn, Value.ownBlock, Option.some.injEq] at hb
    omega
end
section
variable {r : Option Nat} {P : Program} {n : Nat} {Q : Post} {σ : Env} {w : World}
theorem W.seqJ {x y : Code} (J : Env → World → Prop) (h : WR r P n x (thenQ J Q) σ w) (k : ∀ σ' w', J σ' w' → WR r P n y Q σ' w') : WR r P n (.seq x y) Q σ w := by
  refine W.seq fun ds a ha => wpIn_mono (h ds a ha) ?_
  rintro e a' w' ⟨s, hs, h'⟩
  cases e with
  | normal => exact ⟨s, hs, k _ _ h'⟩
  | _ => exact ⟨s, hs, h'⟩
end
end Go.Nm
section
set_option maxRecDepth 100000
set_option maxHeartbeats 16000000
namespace Go.Proofs.Ytndobgodeicloaa
open Go Go.Nm
def m_notes_Check (w_ : List Work) : M Int :=
  bif (openedE w_ == 0) then (
  M.pure 0)
  else (
  M.pure (openedE w_))
theorem notes_Check_ok {R : List Chunk} {C_w_ : Cells} {v_w_ : Value} (w_ : List Work) (hC_w_ : Reads R C_w_) (hs_w_ : Sl C_w_ v_w_ w_) {r : Int} (hM : (m_notes_Check w_).Ends r) (w : World) (H : St w w [] R) : Ret Try.prog 68 #[v_w_] w fun v w' => ∃ (y0 : Int), y0 = r ∧ v = I y0 ∧ St w w' [] R := by
 refine ret_of_W Try.func68 rfl rfl rfl ?_
 refine sQ rfl <| sA (I 0) rfl <| s_nil <| sQ rfl <| sM v_w_ rfl ?_
 refine s_call cf81 [v_w_] rfl (opened_any _ (hs_w_.mono (hC_w_.at H))) ?_
 rintro _ w1z (⟨he_, rfl, hx_⟩ | ⟨he_, b_1, u2z, rfl, hn_, hs3z⟩)
 ·replace hM := M.e_f hM (by simpa using he_)
  replace H : St w w1z [] R := H.ext hx_
  clear hx_
  refine sM (.tuple #[.pointer none, .slice none 0 0, I (openedE w_)]) rfl <| sX [.pointer none, .slice none 0 0, I (openedE w_)] (.pointer none) rfl rfl <| sX [.pointer none, .slice none 0 0, I (openedE w_)] (.slice none 0 0) rfl rfl <| sX [.pointer none, .slice none 0 0, I (openedE w_)] (I (openedE w_)) rfl rfl <| sA (.pointer none) rfl <| sA (.slice none 0 0) rfl <| sA (I (openedE w_)) rfl <| s_nil <| sQ rfl <| sM (I (openedE w_)) rfl <| sA (I (openedE w_)) rfl ?_
  refine s_nil ?_
  refine W.ret ?_
  have hr_ := M.e_pure hM
  exact ⟨_, resE_tmp rfl, ⟨(openedE w_), hr_, rfl, H⟩⟩
 replace hM := M.e_t hM (by simpa using he_)
 obtain ⟨Bs_2, H2_, hs3z, hb_b_1⟩ := H.freshNB hn_ hs3z
 replace H : St w w1z [cRo Bs_2] R := H2_
 clear H2_ hn_
 have hl_hs3z := hs3z.len_le
 refine sM (.tuple #[Pz b_1, u2z, I 0]) rfl <| sX [Pz b_1, u2z, I 0] (Pz b_1) rfl rfl <| sX [Pz b_1, u2z, I 0] u2z rfl rfl <| sX [Pz b_1, u2z, I 0] (I 0) rfl rfl <| sA (Pz b_1) rfl <| sA u2z rfl <| sA (I 0) rfl <| s_nil <| sQ rfl <| sM (I 0) rfl <| sA (I 0) rfl ?_
 refine s_nil ?_
 refine W.ret ?_
 have hr_ := M.e_pure hM
 exact ⟨_, resE_tmp rfl, ⟨0, hr_, rfl, (H.pick [] (by decide) rfl)⟩⟩

def m_notes_web_order_1 (i : Int) (k02 : List Int) : M Bool :=
  M.pure (k02.contains i)
theorem notes_web_order_1_ok {R : List Chunk} {b_k0 : Nat} {C_k02 : Cells} {v_k02 : Value} (i : Int) (k02 : List Int) (hC_k02 : Reads R C_k02) (hs_k02 : Sl C_k02 v_k02 k02) (h_b_k0 : Has R (cBlk b_k0 [v_k02] 34)) {r : Bool} (hM : (m_notes_web_order_1 i k02).Ends r) (w : World) (H : St w w [] R) : Ret Try.prog 164 #[I i, Pz b_k0] w fun v w' => ∃ (y0 : Bool), y0 = r ∧ v = B y0 ∧ St w w' [] R := by
 refine ret_of_W Try.func164 rfl rfl rfl ?_
 refine sQ rfl <| sA (B false) rfl <| s_nil <| sQ rfl <| s_val (x_ld (p := Pz b_k0) (v := v_k02) rfl (ldb_sc Sc34 (h_b_k0.blk H) rfl)) <| sM (I i) rfl ?_
 refine s_call cf45 [v_k02, I i] rfl (contains_int i _ (hs_k02.mono (hC_k02.at H))) ?_
 rintro _ w1z ⟨rfl, hx_⟩
 replace H : St w w1z [] R := H.ext hx_
 clear hx_
 refine sA (B (k02.contains i)) rfl <| s_nil ?_
 refine W.ret ?_
 have hr_ := M.e_pure hM
 exact ⟨_, resE_tmp rfl, ⟨(k02.contains i), hr_, rfl, H⟩⟩

def m_notes_web_order_b0 (w__list_works : List Work) : (Int × (List Int)) → M ((Int × (List Int)) ⊕ ((List Int) × (List Int))) := fun (i, l) =>
  bif decide (i < (w__list_works.length : Int)) then (
  M.bind (m_notes_web_order_1 i l) fun r2 =>
  M.grd ((!(!r2) || (decide ((0 : Int) ≤ i) && decide (i < (w__list_works.length : Int))))) <|
  M.bind (M.opt (!r2) (m_notes_every_int (fun xqz => m_notes_web_order_1 xqz l) ((w__list_works.getD (Int.toNat i) default).of)) false) fun r3 =>
  bif ((!r2) && r3) then (
  M.grd (decide ((l.length + ([(i : Int)]).length) * 8 ≤ 140737488355328)) <|
  M.grd (decide ((-9223372036854775808 : Int) ≤ ((-1) + 1)) && decide (((-1) + 1) ≤ (9223372036854775807 : Int))) <|
  M.pure (.inl ((-1) + 1, l ++ ([(i : Int)]))))
  else (
  M.grd (decide ((-9223372036854775808 : Int) ≤ (i + 1)) && decide ((i + 1) ≤ (9223372036854775807 : Int))) <|
  M.pure (.inl (i + 1, l))))
  else (
  M.pure (.inr (l, l)))
def m_notes_web_order (w__list_works : List Work) : M (List Int) :=
  M.bind (M.iter (m_notes_web_order_b0 w__list_works) (0, [])) fun (l2, l3) =>
  M.pure l3
theorem notes_web_order_ok {R : List Chunk} {b_w_ : Nat} {C_w__list_works : Cells} {v_w__list_works : Value} (w__list_works : List Work) (hC_w__list_works : Reads R C_w__list_works) (hs_w__list_works : Sl C_w__list_works v_w__list_works w__list_works) (h_b_w_ : Has R (cBlk b_w_ [v_w__list_works] 187)) {r : (List Int)} (hM : (m_notes_web_order w__list_works).Ends r) (w : World) (H : St w w [] R) : Ret Try.prog 131 #[Pz b_w_] w fun v w' => ∃ (y0 : List Int) (u0 : Value), y0 = r ∧ v = u0 ∧ St w w' [cOwn (α := Int) 3 u0 y0] R := by
 refine ret_of_W Try.func131 rfl rfl rfl ?_
 refine sQ rfl <| sA (.slice none 0 0) rfl <| s_nil <| sQ rfl ?_
 refine t_alloc (cs := [.slice none 0 0]) H Al34 rfl ?_
 intro b_1 w1z H
 refine s_nil <| sQ rfl <| s_val (x_mf (fs := []) (cs := [Pz b_1]) rfl rfl) <| sA (.func (.func 164) #[] #[Pz b_1]) rfl <| s_nil <| W.seq <| sQ rfl <| sA (I 0) rfl <| s_nil <| W.block ?_
 replace H : St w w1z [cOwn (α := Int) 3 (.slice none 0 0) ([]), cBlk b_1 [.slice none 0 0] 34] R := H.nilOwn (α := Int) 3
 obtain ⟨ex2z, hi3z, hk4z⟩ := M.e_bind hM
 obtain ⟨m0_, hi3z⟩ := M.e_iter hi3z
 refine W.loop (fun m σ W => ∃ (i : Int) (l : List Int) (v_l : Value) (ρ : Env), σ = upds ρ [(0, Pz b_w_), (3, Pz b_1), (4, .func (.func 164) #[] #[Pz b_1]), (5, I i)] ∧ M.iterN (m_notes_web_order_b0 w__list_works) m (i, l) = some ex2z ∧ St w W [cOwn (α := Int) 3 v_l l, cBlk b_1 [v_l] 34] R) ?_ ?_
 ·exact ⟨_, 0, [], (.slice none 0 0), _, upds_of _ _ ⟨rfl, rfl, rfl, rfl, trivial⟩, hi3z, H⟩
 rintro m7z σ w5z ⟨i, l, v_l, ρ, rfl, hI6z, H⟩
 obtain ⟨m8z, lt9z, x10z, hM, hN11z⟩ := M.e_iterN hI6z
 simp only [m_notes_web_order_b0] at hM
 clear hI6z
 refine W.seq <| sQ rfl <| sM (I i) rfl <| sM (Pz b_w_) rfl <| s_val (x_nc (a := ⟨b_w_, 0, none⟩) rfl) <| s_val (x_fa (a := Pz b_w_) (v := Pz b_w_) rfl (fa_blk (o := 0) Fd187_0 Sz185)) <| s_val (x_fa (a := Pz b_w_) (v := Pz b_w_) rfl (fa_blk (o := 0) Fd185_0 Sz22)) <| s_val (x_ld (p := Pz b_w_) (v := v_w__list_works) rfl (ldb_sc Sc22 (h_b_w_.blk H) rfl)) ?_
 have hl12z := (hs_w__list_works).len_le
 refine s_val (x_lenS T22.und rfl hs_w__list_works) <| sC i (w__list_works.length : Int) (decide (i < (w__list_works.length : Int))) rfl rfl rfl <| s_nil ?_
 refine W.cond (decide (i < (w__list_works.length : Int))) rfl (fun c13z => ?_) (fun c13z => ?_)
 ·replace hM := M.e_t hM c13z
  simp only [qz1, qz2, qz3, qz4, qz5, qz6, ne_eq, qz7] at c13z
  refine W.skip <| W.seq <| W.block <| sQ rfl <| sM (.func (.func 164) #[] #[Pz b_1]) rfl <| sM (I i) rfl ?_
  obtain ⟨r15z, hx14z, hM⟩ := M.e_bind hM
  refine s_callv (f := 164) rfl cf164 [I i] rfl (notes_web_order_1_ok i l (Reads.of (k := 0) rfl ownLe) (ownSl (H.get (k := 0) rfl)) (Has.here (k := 1) rfl) hx14z _ (St.give (T := [cOwn (α := Int) 3 v_l l, cBlk b_1 [v_l] 34]) H rfl)) ?_
  rintro vq w16z ⟨r2, hr17z, hvq, H2_⟩
  subst hr17z
  subst vq
  try dsimp only at hM
  replace H : St w w16z [cOwn (α := Int) 3 v_l l, cBlk b_1 [v_l] 34] R := H.back H2_ rfl
  clear H2_
  refine s_val (x_not (b := r2) rfl) <| sM (B (!r2)) rfl <| g_val (!r2) (gy_t rfl) (fun hg => x_mv (v := .func (.func 164) #[] #[Pz b_1]) rfl) <| g_val (!r2) (gy_t rfl) (fun hg => x_mv (v := Pz b_w_) rfl) <| g_val (!r2) (gy_t rfl) (fun hg => x_nc (a := ⟨b_w_, 0, none⟩) (gd_of (c := !r2) hg (Pz b_w_))) <| g_val (!r2) (gy_t rfl) (fun hg => x_fa (a := Pz b_w_) (v := Pz b_w_) (gd_of (c := !r2) hg (Pz b_w_)) (fa_blk (o := 0) Fd187_0 Sz185)) <| g_val (!r2) (gy_t rfl) (fun hg => x_fa (a := Pz b_w_) (v := Pz b_w_) (gd_of (c := !r2) hg (Pz b_w_)) (fa_blk (o := 0) Fd185_0 Sz22)) <| g_val (!r2) (gy_t rfl) (fun hg => x_ld (p := Pz b_w_) (v := v_w__list_works) (gd_of (c := !r2) hg (Pz b_w_)) (ldb_sc Sc22 (h_b_w_.blk H) rfl)) <| g_val (!r2) (gy_t rfl) (fun hg => x_mv (v := I i) rfl) ?_
  obtain ⟨sd18z, hM⟩ := M.e_grd hM
  replace sd18z := M.imp_of sd18z
  simp only [Bool.and_eq_true, decide_eq_true_eq] at sd18z
  refine g_val (!r2) (gy_t rfl) (fun hg => x_ix (a := v_w__list_works) (b := I i) (v := vat v_w__list_works 3 (Int.toNat i)) (gd_of (c := !r2) hg (v_w__list_works)) (gd_of (c := !r2) hg (I i)) (Sl.ix (α := Work) T22.und T22.size hs_w__list_works (by have h1_ := sd18z.resolve_left (by rw [hg]; decide); first | exact h1_ | exact h1_.1 | exact h1_.2 | omega | (have hx_ := hg; simp at hx_; omega)) (by have h1_ := sd18z.resolve_left (by rw [hg]; decide); first | exact h1_ | exact h1_.1 | exact h1_.2 | omega | (have hx_ := hg; simp at hx_; omega)))) <| g_val (!r2) (gy_t rfl) (fun hg => x_fa (a := vat v_w__list_works 3 (Int.toNat i)) (v := fat (vat v_w__list_works 3 (Int.toNat i)) 0) (gd_of (c := !r2) hg (vat v_w__list_works 3 (Int.toNat i))) (fa_pl Fd60_0 Sz34 (Sl.pl (i := i) hs_w__list_works (by have h1_ := sd18z.resolve_left (by rw [hg]; decide); first | exact h1_ | exact h1_.1 | exact h1_.2 | omega | (have hx_ := hg; simp at hx_; omega)) (by have h1_ := sd18z.resolve_left (by rw [hg]; decide); first | exact h1_ | exact h1_.1 | exact h1_.2 | omega | (have hx_ := hg; simp at hx_; omega))))) ?_
  obtain ⟨u19z, ha_u19z, hs20z⟩ := gd_ex (c := !r2) fun hg => Work_at0 hs_w__list_works (i := i) (by have h1_ := sd18z.resolve_left (by rw [hg]; decide); first | exact h1_ | exact h1_.1 | exact h1_.2 | omega | (have hx_ := hg; simp at hx_; omega)) (by have h1_ := sd18z.resolve_left (by rw [hg]; decide); first | exact h1_ | exact h1_.1 | exact h1_.2 | omega | (have hx_ := hg; simp at hx_; omega))
  replace hs20z : (!r2) = true → Sl _ u19z (w__list_works.getD (Int.toNat i) default).of := hs20z
  refine g_val (!r2) (gy_t rfl) (fun hg => x_ld (p := fat (vat v_w__list_works 3 (Int.toNat i)) 0) (v := u19z) (gd_of (c := !r2) hg (fat (vat v_w__list_works 3 (Int.toNat i)) 0)) (ld_sc Sc34 (At.mono (ha_u19z hg) (hC_w__list_works.at H)))) ?_
  obtain ⟨r3, hx21z, hM⟩ := M.e_bind hM
  refine t_gcall (!r2) (gy_t rfl) cf87 (B r3) (fun _ => [.func (.func 164) #[] #[Pz b_1], u19z]) (fun hg => lst2 (gd_of (c := !r2) hg (.func (.func 164) #[] #[Pz b_1])) (gd_of (c := !r2) hg (u19z))) H (fun hg => (notes_every_int_ok (fun xqz => m_notes_web_order_1 xqz l) ((w__list_works.getD (Int.toNat i) default).of) ⟨164, [Pz b_1], rfl, cf164, fun wqz Lqz Cqz vqz xqz bqz hsqz hCqz hAqz hpqz => by obtain rfl := Arg.int hAqz; exact (notes_web_order_1_ok xqz l (Reads.app (Reads.of (k := 0) rfl ownLe) _) (ownSl (H.get (k := 0) rfl)) (Has.app (Has.here (k := 1) rfl) _) hpqz wqz (St.refl hsqz)).mono fun vqz wqz ⟨yqz, hrqz, hvqz, Hqz⟩ => by subst hrqz; exact ⟨hvqz, Hqz⟩⟩ (hC_w__list_works.app _) (hs20z hg) (M.e_opt hx21z hg) _ (H.give (A := []) rfl)).mono fun v_ w_ ⟨y_, hr_, hv_, H_⟩ => by subst hr_; exact ⟨hv_, H.via H_⟩) ?_
  intro w22z H
  refine s_val (x_pand (b := !r2) (r := r3) rfl (fun hb => gd_of (c := !r2) (by first | exact hb | (rw [hb]; rfl) | simp_all) (B r3)) rfl) <| s_nil ?_
  refine W.cond ((!r2) && r3) rfl (fun c23z => ?_) (fun c23z => ?_)
  ·replace hM := M.e_t hM c23z
   refine sQ rfl <| s_val (x_ld (p := Pz b_1) (v := v_l) rfl (ldb_sc Sc34 (H.blk (k := 1) rfl) rfl)) <| sM (I i) rfl ?_
   refine t_bs (α := Int) T34 [I i] [(i : Int)] H rfl (.cons rfl (Flat.rep_enc _ (i : Int)) <| .nil) rfl rfl rfl ?_
   intro v24z w25z H
   obtain ⟨sd26z, hM⟩ := M.e_gd hM
   refine t_app (α := Int) (k := 1) (l := l) (l2 := [(i : Int)]) (l' := l ++ ([(i : Int)])) (vy := v24z) T34 rfl H rfl rfl rfl (ownSl (H.get (k := 0) rfl)) (ownLe _ (H.get (k := 0) rfl)) (rfl) (by first | omega | (simp only [List.length_nil] at *; omega)) ?_
   intro v27z w28z H
   replace H : St w w28z [cOwn (α := Int) 3 v24z ([(i : Int)]), cOwn (α := Int) 3 v27z (l ++ ([(i : Int)])), cBlk b_1 [v_l] 34] R := H
   refine t_st (k := 2) (b := b_1) (off := 0) (cs := [v_l]) (vs := [v27z]) (cs' := [v27z]) (v := v27z) (L' := [cOwn (α := Int) 3 v24z ([(i : Int)]), cOwn (α := Int) 3 v27z (l ++ ([(i : Int)])), cBlk b_1 [v27z] 34]) H rfl rfl rfl Sz34 (Sl.cells (ownSl (H.get (k := 1) rfl))) rfl rfl (by simp only [List.all_cons, List.all_nil, Bool.true_and, Bool.and_true, Sl.oc (ownSl (H.get (k := 1) rfl))]; try rfl) rfl rfl ?_
   intro w29z H
   refine s_nil <| W.region rfl <| sA (I (-1)) rfl <| s_nil <| W.region rfl <| sM (I (-1)) rfl ?_
   obtain ⟨sd30z, hM⟩ := M.e_gd hM
   refine sR (-1) 1 ((-1) + 1) rfl rfl rfl (by omega) <| sA (I ((-1) + 1)) rfl <| s_nil ?_
   exact ⟨m8z, lt9z, (-1) + 1, l ++ ([(i : Int)]), v27z, _, upds_of _ _ ⟨rfl, rfl, rfl, rfl, trivial⟩, M.e_inl hM hN11z, (H.pick [1, 2] (by decide) rfl)⟩
  replace hM := M.e_f hM c23z
  refine W.skip <| W.region rfl <| sM (I i) rfl ?_
  obtain ⟨sd31z, hM⟩ := M.e_gd hM
  refine sR i 1 (i + 1) rfl rfl rfl (by omega) <| sA (I (i + 1)) rfl <| s_nil ?_
  exact ⟨m8z, lt9z, i + 1, l, v_l, _, upds_of _ _ ⟨rfl, rfl, rfl, rfl, trivial⟩, M.e_inl hM hN11z, H⟩
 replace hM := M.e_f hM c13z
 simp only [qz1, qz2, qz3, qz4, qz5, qz6, ne_eq, qz7] at c13z
 refine W.exit ?_
 have hX32z := M.e_inr hM hN11z
 subst hX32z
 replace hM := hk4z
 try dsimp only at hM
 refine sQ rfl <| s_val (x_ld (p := Pz b_1) (v := v_l) rfl (ldb_sc Sc34 (H.blk (k := 1) rfl) rfl)) <| sA v_l rfl <| s_nil ?_
 refine W.ret ?_
 have hr_ := M.e_pure hM
 exact ⟨_, resE_tmp rfl, ⟨l, v_l, hr_, rfl, (H.pick [0] (by decide) rfl)⟩⟩

def m_slices_Clone_int (s : List Int) : M (List Int) :=
  M.grd (decide (0 < s.length)) <|
  M.grd (decide ((([] : List Int).length + s.length) * 8 ≤ 140737488355328)) <|
  M.pure s
theorem slices_Clone_int_ok {R : List Chunk} {C_s : Cells} {v_s : Value} (s : List Int) (hC_s : Reads R C_s) (hs_s : Sl C_s v_s s) {r : (List Int)} (hM : (m_slices_Clone_int s).Ends r) (w : World) (H : St w w [] R) : Ret Try.prog 133 #[v_s] w fun v w' => ∃ (y0 : List Int) (u0 : Value), y0 = r ∧ v = u0 ∧ St w w' [cOwn (α := Int) 3 u0 y0] R := by
 refine ret_of_W Try.func133 rfl rfl rfl ?_
 refine sQ rfl <| sA (.slice none 0 0) rfl <| s_nil <| W.seq <| sQ rfl <| sM v_s rfl ?_
 obtain ⟨sd1z, hM⟩ := M.e_gd hM
 refine s_val (x_eqnilp (α := Int) T34.und rfl rfl hs_s (by omega)) <| s_nil ?_
 refine W.cond false rfl (fun c2z => ?_) (fun c2z => ?_)
 ·skip
  exact absurd c2z (by decide)
 skip
 refine W.skip <| sQ rfl ?_
 refine t_bs0 (α := Int) T34 H ?_
 intro v3z w4z H
 refine sM v_s rfl ?_
 obtain ⟨sd5z, hM⟩ := M.e_gd hM
 refine t_app (α := Int) (k := 0) (l := []) (l2 := s) (l' := s) (vy := v_s) T34 rfl H rfl rfl rfl hs_s (hC_s.at H) (List.nil_append _) (by first | omega | (simp only [List.length_nil] at *; omega)) ?_
 intro v6z w7z H
 replace H : St w w7z [cOwn (α := Int) 3 v6z s] R := H
 refine sA v6z rfl <| s_nil ?_
 refine W.ret ?_
 have hr_ := M.e_pure hM
 exact ⟨_, resE_tmp rfl, ⟨s, v6z, hr_, rfl, H⟩⟩

def m_notes_Circle_1_1 (k : Int) (k02 : List Int) : M Bool :=
  M.pure (!(k02.contains k))
theorem notes_Circle_1_1_ok {R : List Chunk} {b_k0 : Nat} {C_k02 : Cells} {v_k02 : Value} (k : Int) (k02 : List Int) (hC_k02 : Reads R C_k02) (hs_k02 : Sl C_k02 v_k02 k02) (h_b_k0 : Has R (cBlk b_k0 [v_k02] 34)) {r : Bool} (hM : (m_notes_Circle_1_1 k k02).Ends r) (w : World) (H : St w w [] R) : Ret Try.prog 134 #[I k, Pz b_k0] w fun v w' => ∃ (y0 : Bool), y0 = r ∧ v = B y0 ∧ St w w' [] R := by
 refine ret_of_W Try.func134 rfl rfl rfl ?_
 refine sQ rfl <| sA (B false) rfl <| s_nil <| sQ rfl <| s_val (x_ld (p := Pz b_k0) (v := v_k02) rfl (ldb_sc Sc34 (h_b_k0.blk H) rfl)) <| sM (I k) rfl ?_
 refine s_call cf45 [v_k02, I k] rfl (contains_int k _ (hs_k02.mono (hC_k02.at H))) ?_
 rintro _ w1z ⟨rfl, hx_⟩
 replace H : St w w1z [] R := H.ext hx_
 clear hx_
 refine s_val (x_not (b := k02.contains k) rfl) <| sA (B (!(k02.contains k))) rfl <| s_nil ?_
 refine W.ret ?_
 have hr_ := M.e_pure hM
 exact ⟨_, resE_tmp rfl, ⟨(!(k02.contains k)), hr_, rfl, H⟩⟩

def m_notes_Circle_1_F (self_ : (Int × (List Int) × (List Work) × (List Int)) → M ((List Int) × (List Int))) : (Int × (List Int) × (List Work) × (List Int)) → M ((List Int) × (List Int)) := fun (i, k02, k12, k22) =>
  bif (idxI k02 i) != (-1) then (
  M.grd (decide ((0 : Int) ≤ (idxI k02 i)) && decide ((idxI k02 i) ≤ (k02.length : Int))) <|
  M.bind (m_slices_Clone_int (k02.drop (Int.toNat (idxI k02 i)))) fun r2 =>
  M.pure (r2, k02))
  else (
  M.grd (decide ((k02.length + ([(i : Int)]).length) * 8 ≤ 140737488355328)) <|
  M.grd (decide ((0 : Int) ≤ i) && decide (i < (k12.length : Int))) <|
  M.bind (m_slices_IndexFunc_int ((k12.getD (Int.toNat i) default).of) (fun xqz => m_notes_Circle_1_1 xqz k22)) fun r3 =>
  M.grd (decide ((0 : Int) ≤ r3) && decide (r3 < (((k12.getD (Int.toNat i) default).of).length : Int))) <|
  M.bind (self_ ((((k12.getD (Int.toNat i) default).of).getD (Int.toNat r3) 0), (k02 ++ ([(i : Int)])), k12, k22)) fun (r4, l_k02) =>
  M.pure (r4, l_k02))
theorem m_notes_Circle_1_mon : M.Mon m_notes_Circle_1_F := by
  intro n f g h a
  obtain ⟨i, k02, k12, k22⟩ := a
  simp only [m_notes_Circle_1_F]
  repeat' (first | exact M.le_same _ _ | exact h _ | refine M.le_grd ?_ | refine M.le_if ?_ ?_ | refine M.le_bind ?_ (fun x => ?_) | refine M.le_opt ?_ | refine M.le_iter (fun x => ?_) _ | refine m_notes_web_made_1_le (M.le_yl (fun s_ a_ => ?_)) _ _ _ | (rename_i x; cases x) | (rename_i x; obtain ⟨_, _⟩ := x))
def m_notes_Circle_1 (i : Int) (k02 : List Int) (k12 : List Work) (k22 : List Int) : M ((List Int) × (List Int)) := M.fix m_notes_Circle_1_F m_notes_Circle_1_mon (i, k02, k12, k22)
theorem notes_Circle_1_okN (n_ : Nat) : ∀ {R : List Chunk} {b_k0 : Nat} {v_k02 : Value} {b_k1 : Nat} {C_k12 : Cells} {v_k12 : Value} {b_k2 : Nat} {C_k22 : Cells} {v_k22 : Value} {b_k3 : Nat} (i : Int) (k02 : List Int) (k12 : List Work) (k22 : List Int) (hC_k12 : Reads R C_k12) (hs_k12 : Sl C_k12 v_k12 k12) (h_b_k1 : Has R (cBlk b_k1 [v_k12] 22)) (hC_k22 : Reads R C_k22) (hs_k22 : Sl C_k22 v_k22 k22) (h_b_k2 : Has R (cBlk b_k2 [v_k22] 34)) (h_b_k3 : Has R (cBlk b_k3 [.func (.func 132) #[] #[Pz b_k0, Pz b_k1, Pz b_k2, Pz b_k3]] 189)) {r : ((List Int) × (List Int))} (hM : (M.fixN m_notes_Circle_1_F n_ (i, k02, k12, k22)).Ends r) (w : World) (H : St w w [cOwn (α := Int) 3 v_k02 k02, cBlk b_k0 [v_k02] 34] R), Ret Try.prog 132 #[I i, Pz b_k0, Pz b_k1, Pz b_k2, Pz b_k3] w fun v w' => ∃ (y0 : List Int) (y1 : List Int) (u0 : Value) (u1 : Value), (y0, y1) = r ∧ v = u0 ∧ St w w' [cOwn (α := Int) 3 u0 y0, cOwn (α := Int) 3 u1 y1, cBlk b_k0 [u1] 34] R := by
  induction n_ with
  | zero => intro R b_k0 v_k02 b_k1 C_k12 v_k12 b_k2 C_k22 v_k22 b_k3 i k02 k12 k22 hC_k12 hs_k12 h_b_k1 hC_k22 hs_k22 h_b_k2 h_b_k3 r hM w H; exact (M.e_fail hM).elim
  | succ n_ ih =>
    intro R b_k0 v_k02 b_k1 C_k12 v_k12 b_k2 C_k22 v_k22 b_k3 i k02 k12 k22 hC_k12 hs_k12 h_b_k1 hC_k22 hs_k22 h_b_k2 h_b_k3 r hM w H
    refine ret_of_W Try.func132 rfl rfl rfl ?_
    refine sQ rfl <| sA (.slice none 0 0) rfl <| s_nil <| W.seq <| sQ rfl <| s_val (x_ld (p := Pz b_k0) (v := v_k02) rfl (ldb_sc Sc34 (H.blk (k := 1) rfl) rfl)) <| sM (I i) rfl ?_
    refine s_call cf100 [v_k02, I i] rfl (index_int i _ ((ownSl (H.get (k := 0) rfl)).mono (ownLe _ (H.get (k := 0) rfl)))) ?_
    rintro _ w1z ⟨rfl, hx_⟩
    replace H : St w w1z [cOwn (α := Int) 3 v_k02 k02, cBlk b_k0 [v_k02] 34] R := H.ext hx_
    clear hx_
    refine sA (I (idxI k02 i)) rfl <| s_nil <| sQ rfl <| sM (I (idxI k02 i)) rfl <| sC (idxI k02 i) (-1) ((idxI k02 i) != (-1)) rfl rfl rfl <| s_nil ?_
    refine W.cond ((idxI k02 i) != (-1)) rfl (fun c2z => ?_) (fun c2z => ?_)
    ·replace hM := M.e_t hM c2z
     simp only [qz1, qz2, qz3, qz4, qz5, qz6, ne_eq, qz7] at c2z
     refine sQ rfl <| s_val (x_ld (p := Pz b_k0) (v := v_k02) rfl (ldb_sc Sc34 (H.blk (k := 1) rfl) rfl)) <| sM (I (idxI k02 i)) rfl ?_
     obtain ⟨sd5z, hM⟩ := M.e_gd hM
     obtain ⟨u3z, hr_u3z, hs4z⟩ := sl_lo T34.und T34.size (ownSl (H.get (k := 0) rfl)) (i := idxI k02 i) (by omega) (by omega)
     replace hs4z : Sl _ u3z (k02.drop (Int.toNat (idxI k02 i))) := hs4z
     refine s_val (x_sl (v := v_k02) (u := u3z) (lo' := some (I (idxI k02 i))) (hi' := none) (mx' := none) rfl rfl rfl rfl (hr_u3z _)) ?_
     obtain ⟨r7z, hx6z, hM⟩ := M.e_bind hM
     refine s_call cf133 [u3z] rfl (slices_Clone_int_ok (k02.drop (Int.toNat (idxI k02 i))) (Reads.of (k := 0) rfl ownLe) hs4z hx6z _ (St.give (T := [cOwn (α := Int) 3 v_k02 k02, cBlk b_k0 [v_k02] 34]) H rfl)) ?_
     rintro vq w8z ⟨r2, u0_1, hr9z, hvq, H2_⟩
     subst hr9z
     subst vq
     try dsimp only at hM
     replace H : St w w8z [cOwn (α := Int) 3 u0_1 r2, cOwn (α := Int) 3 v_k02 k02, cBlk b_k0 [v_k02] 34] R := H.back H2_ rfl
     clear H2_
     refine sA u0_1 rfl <| s_nil ?_
     refine W.ret ?_
     have hr_ := M.e_pure hM
     exact ⟨_, resE_tmp rfl, ⟨r2, k02, u0_1, v_k02, hr_, rfl, H⟩⟩
    replace hM := M.e_f hM c2z
    simp only [qz1, qz2, qz3, qz4, qz5, qz6, ne_eq, qz7] at c2z
    refine W.skip <| sQ rfl <| s_val (x_ld (p := Pz b_k0) (v := v_k02) rfl (ldb_sc Sc34 (H.blk (k := 1) rfl) rfl)) <| sM (I i) rfl ?_
    refine t_bs (α := Int) T34 [I i] [(i : Int)] H rfl (.cons rfl (Flat.rep_enc _ (i : Int)) <| .nil) rfl rfl rfl ?_
    intro v10z w11z H
    obtain ⟨sd12z, hM⟩ := M.e_gd hM
    refine t_app (α := Int) (k := 1) (l := k02) (l2 := [(i : Int)]) (l' := k02 ++ ([(i : Int)])) (vy := v10z) T34 rfl H rfl rfl rfl (ownSl (H.get (k := 0) rfl)) (ownLe _ (H.get (k := 0) rfl)) (rfl) (by first | omega | (simp only [List.length_nil] at *; omega)) ?_
    intro v13z w14z H
    replace H : St w w14z [cOwn (α := Int) 3 v10z ([(i : Int)]), cOwn (α := Int) 3 v13z (k02 ++ ([(i : Int)])), cBlk b_k0 [v_k02] 34] R := H
    refine t_st (k := 2) (b := b_k0) (off := 0) (cs := [v_k02]) (vs := [v13z]) (cs' := [v13z]) (v := v13z) (L' := [cOwn (α := Int) 3 v10z ([(i : Int)]), cOwn (α := Int) 3 v13z (k02 ++ ([(i : Int)])), cBlk b_k0 [v13z] 34]) H rfl rfl rfl Sz34 (Sl.cells (ownSl (H.get (k := 1) rfl))) rfl rfl (by simp only [List.all_cons, List.all_nil, Bool.true_and, Bool.and_true, Sl.oc (ownSl (H.get (k := 1) rfl))]; try rfl) rfl rfl ?_
    intro w15z H
    refine s_nil <| sQ rfl <| s_val (x_ld (p := Pz b_k1) (v := v_k12) rfl (ldb_sc Sc22 (h_b_k1.blk H) rfl)) <| sM (I i) rfl ?_
    obtain ⟨sd16z, hM⟩ := M.e_gd hM
    refine s_val (x_ix (a := v_k12) (b := I i) (v := vat v_k12 3 (Int.toNat i)) rfl rfl (Sl.ix (α := Work) T22.und T22.size hs_k12 (by omega) (by omega))) <| s_val (x_fa (a := vat v_k12 3 (Int.toNat i)) (v := fat (vat v_k12 3 (Int.toNat i)) 0) rfl (fa_pl Fd60_0 Sz34 (Sl.pl (i := i) hs_k12 (by omega) (by omega)))) ?_
    obtain ⟨u17z, ha_u17z, hs18z⟩ := Work_at0 hs_k12 (i := i) (by omega) (by omega)
    replace hs18z : Sl _ u17z (k12.getD (Int.toNat i) default).of := hs18z
    have hl_hs18z := hs18z.len_le
    refine s_val (x_ld (p := fat (vat v_k12 3 (Int.toNat i)) 0) (v := u17z) rfl (ld_sc Sc34 (At.mono (ha_u17z) (hC_k12.at H)))) <| s_val (x_mf (fs := []) (cs := [Pz b_k2]) rfl rfl) ?_
    obtain ⟨r20z, hx19z, hM⟩ := M.e_bind hM
    refine s_call cf102 [u17z, .func (.func 134) #[] #[Pz b_k2]] rfl (slices_IndexFunc_int_ok ((k12.getD (Int.toNat i) default).of) (fun xqz => m_notes_Circle_1_1 xqz k22) (hC_k12.app _) hs18z ⟨134, [Pz b_k2], rfl, cf134, fun wqz Lqz Cqz vqz xqz bqz hsqz hCqz hAqz hpqz => by obtain rfl := Arg.int hAqz; exact (notes_Circle_1_1_ok xqz k22 (Reads.app (hC_k22.app _) _) hs_k22 (Has.app (h_b_k2.app _) _) hpqz wqz (St.refl hsqz)).mono fun vqz wqz ⟨yqz, hrqz, hvqz, Hqz⟩ => by subst hrqz; exact ⟨hvqz, Hqz⟩⟩ hx19z _ (St.give (T := [cOwn (α := Int) 3 v10z ([(i : Int)]), cOwn (α := Int) 3 v13z (k02 ++ ([(i : Int)])), cBlk b_k0 [v13z] 34]) H rfl)) ?_
    rintro vq w21z ⟨r3, hr22z, hvq, H2_⟩
    subst hr22z
    subst vq
    try dsimp only at hM
    replace H : St w w21z [cOwn (α := Int) 3 v10z ([(i : Int)]), cOwn (α := Int) 3 v13z (k02 ++ ([(i : Int)])), cBlk b_k0 [v13z] 34] R := H.back H2_ rfl
    clear H2_
    refine sA (I r3) rfl <| s_nil <| W.seq ?_
    refine W.draw (fun W => St w W [cOwn (α := Int) 3 v10z ([(i : Int)])] R) [(0, true), (1, true), (2, true), (3, true), (4, true), (5, true), (6, true), (7, true), (8, true), (9, false), (10, true)] mixed (by decide +kernel) rfl ?_
    intro w23z hx_
    replace H : St w w23z [cOwn (α := Int) 3 v10z ([(i : Int)]), cOwn (α := Int) 3 v13z (k02 ++ ([(i : Int)])), cBlk b_k0 [v13z] 34] R := H.ext hx_
    clear hx_
    refine ⟨(H.pick [0] (by decide) rfl), ?_⟩
    refine d_q rfl (fun w' H => x_ld (p := Pz b_k3) (v := .func (.func 132) #[] #[Pz b_k0, Pz b_k1, Pz b_k2, Pz b_k3]) rfl (ldb_sc Sc189 (h_b_k3.blk H) rfl)) ?_
    refine d_q rfl (fun w' H => x_ld (p := Pz b_k1) (v := v_k12) rfl (ldb_sc Sc22 (h_b_k1.blk H) rfl)) ?_
    refine d_q rfl (fun w' H => x_mv (v := I i) rfl) ?_
    refine d_q rfl (fun w' H => x_ix (a := v_k12) (b := I i) (v := vat v_k12 3 (Int.toNat i)) rfl rfl (Sl.ix (α := Work) T22.und T22.size hs_k12 (by omega) (by omega))) ?_
    refine d_q rfl (fun w' H => x_fa (a := vat v_k12 3 (Int.toNat i)) (v := fat (vat v_k12 3 (Int.toNat i)) 0) rfl (fa_pl Fd60_0 Sz34 (Sl.pl (i := i) hs_k12 (by omega) (by omega)))) ?_
    obtain ⟨u24z, ha_u24z, hs25z⟩ := Work_at0 hs_k12 (i := i) (by omega) (by omega)
    replace hs25z : Sl _ u24z (k12.getD (Int.toNat i) default).of := hs25z
    have hl_hs25z := hs25z.len_le
    refine d_q rfl (fun w' H => x_ld (p := fat (vat v_k12 3 (Int.toNat i)) 0) (v := u24z) rfl (ld_sc Sc34 (At.mono (ha_u24z) (hC_k12.at H)))) ?_
    refine d_q rfl (fun w' H => x_mv (v := I r3) rfl) ?_
    obtain ⟨sd26z, hM⟩ := M.e_gd hM
    refine d_q rfl (fun w' H => x_ix (a := u24z) (b := I r3) (v := vat u24z 1 (Int.toNat r3)) rfl rfl (Sl.ix (α := Int) T34.und T34.size hs25z (by omega) (by omega))) ?_
    refine d_q rfl (fun w' H => x_ld (p := vat u24z 1 (Int.toNat r3)) (v := I (((k12.getD (Int.toNat i) default).of).getD (Int.toNat r3) 0)) rfl (ld_sc Sc3 (At.mono (Int_at hs25z (i := r3) (by omega) (by omega)) (hC_k12.at H)))) ?_
    refine d_l rfl ?_
    obtain ⟨r28z, hx27z, hM⟩ := M.e_bind hM
    refine s_callv (f := 132) rfl cf132 [I (((k12.getD (Int.toNat i) default).of).getD (Int.toNat r3) 0)] rfl (ih (((k12.getD (Int.toNat i) default).of).getD (Int.toNat r3) 0) (k02 ++ ([(i : Int)])) k12 k22 (hC_k12.app _) hs_k12 (h_b_k1.app _) (hC_k22.app _) hs_k22 (h_b_k2.app _) (h_b_k3.app _) hx27z _ (St.give (L := [cOwn (α := Int) 3 v13z (k02 ++ ([(i : Int)])), cBlk b_k0 [v13z] 34, cOwn (α := Int) 3 v10z ([(i : Int)])]) (A := [cOwn (α := Int) 3 v13z (k02 ++ ([(i : Int)])), cBlk b_k0 [v13z] 34]) (T := [cOwn (α := Int) 3 v10z ([(i : Int)])]) (H.pick [1, 2, 0] (by decide) rfl) rfl)) ?_
    rintro vq w29z ⟨r4, l_k02, u0_3, u1_4, hr30z, hvq, H2_⟩
    subst hr30z
    subst vq
    try dsimp only at hM
    replace H : St w w29z [cOwn (α := Int) 3 u0_3 r4, cOwn (α := Int) 3 u1_4 l_k02, cBlk b_k0 [u1_4] 34, cOwn (α := Int) 3 v10z ([(i : Int)])] R := H.pick [1, 2, 0] (by decide) rfl |>.back H2_ rfl
    clear H2_
    refine s_nil ⟨(H.pick [3] (by decide) rfl), ?_⟩
    refine d_q rfl (fun w' H => x_as (v := u0_3) rfl) ?_
    refine d_nil ?_
    refine W.ret ?_
    have hr_ := M.e_pure hM
    exact ⟨_, resE_tmp rfl, ⟨r4, l_k02, u0_3, u1_4, hr_, rfl, (H.pick [0, 1, 2] (by decide) rfl)⟩⟩
theorem notes_Circle_1_ok {R : List Chunk} {b_k0 : Nat} {v_k02 : Value} {b_k1 : Nat} {C_k12 : Cells} {v_k12 : Value} {b_k2 : Nat} {C_k22 : Cells} {v_k22 : Value} {b_k3 : Nat} (i : Int) (k02 : List Int) (k12 : List Work) (k22 : List Int) (hC_k12 : Reads R C_k12) (hs_k12 : Sl C_k12 v_k12 k12) (h_b_k1 : Has R (cBlk b_k1 [v_k12] 22)) (hC_k22 : Reads R C_k22) (hs_k22 : Sl C_k22 v_k22 k22) (h_b_k2 : Has R (cBlk b_k2 [v_k22] 34)) (h_b_k3 : Has R (cBlk b_k3 [.func (.func 132) #[] #[Pz b_k0, Pz b_k1, Pz b_k2, Pz b_k3]] 189)) {r : ((List Int) × (List Int))} (hM : (m_notes_Circle_1 i k02 k12 k22).Ends r) (w : World) (H : St w w [cOwn (α := Int) 3 v_k02 k02, cBlk b_k0 [v_k02] 34] R) : Ret Try.prog 132 #[I i, Pz b_k0, Pz b_k1, Pz b_k2, Pz b_k3] w fun v w' => ∃ (y0 : List Int) (y1 : List Int) (u0 : Value) (u1 : Value), (y0, y1) = r ∧ v = u0 ∧ St w w' [cOwn (α := Int) 3 u0 y0, cOwn (α := Int) 3 u1 y1, cBlk b_k0 [u1] 34] R := by
  obtain ⟨n_, hM⟩ := M.e_fix hM
  exact notes_Circle_1_okN n_ i k02 k12 k22 hC_k12 hs_k12 h_b_k1 hC_k22 hs_k22 h_b_k2 h_b_k3 hM w H

def m_notes_Circle_b0 (w_ : List Work) (r2 : List Int) : Nat → M (Nat ⊕ (((List Int) × (List Int)) ⊕ Unit)) := fun s =>
  bif decide ((s : Int) < (w_.length : Int)) then (
  bif !(r2.contains (s : Int)) then (
  M.bind (m_notes_Circle_1 (s : Int) ([] : List Int) w_ r2) fun (r3, l_k02) =>
  M.pure (.inr (.inl (r3, l_k02))))
  else (
  M.pure (.inl (s + 1))))
  else (
  M.pure (.inr (.inr ())))
def m_notes_Circle (w_ : List Work) : M ((List Int) × Int) :=
  bif (rightE w_) != 0 then (
  M.pure (([]), (rightE w_)))
  else (
  M.bind (m_notes_web_order w_) fun r2 =>
  M.bind (M.iter (m_notes_Circle_b0 w_ r2) 0) fun x_ => match x_ with
  | (.inl (l, l2)) => (
  M.pure (l, 0))
  | (.inr (_ : Unit)) => (
  M.pure (([]), 5)))
theorem notes_Circle_ok {R : List Chunk} {C_w_ : Cells} {v_w_ : Value} (w_ : List Work) (hC_w_ : Reads R C_w_) (hs_w_ : Sl C_w_ v_w_ w_) {r : ((List Int) × Int)} (hM : (m_notes_Circle w_).Ends r) (w : World) (H : St w w [] R) : Ret Try.prog 67 #[v_w_] w fun v w' => ∃ (y0 : List Int) (y1 : Int) (u0 : Value), (y0, y1) = r ∧ v = .tuple #[u0, I y1] ∧ St w w' [cOwn (α := Int) 3 u0 y0] R := by
 refine ret_of_W Try.func67 rfl rfl rfl ?_
 refine sQ rfl ?_
 refine t_box (v := v_w_) (cs := [v_w_]) H rfl (Sl.cells hs_w_) ?_
 intro b_1 w1z H
 refine sA (.slice none 0 0) rfl <| sA (I 0) rfl <| s_nil <| W.seq <| sQ rfl <| s_val (x_ld (p := Pz b_1) (v := v_w_) rfl (ldb_sc Sc22 (H.blk (k := 0) rfl) rfl)) ?_
 refine s_call cf130 [v_w_] rfl (right_any _ (hs_w_.mono (hC_w_.at H))) ?_
 rintro _ w2z ⟨rfl, hx_⟩
 replace H : St w w2z [cBlk b_1 [v_w_] 22] R := H.ext hx_
 clear hx_
 refine sA (I (rightE w_)) rfl <| s_nil <| sQ rfl <| sM (I (rightE w_)) rfl <| sC (rightE w_) 0 ((rightE w_) != 0) rfl rfl rfl <| s_nil ?_
 refine W.cond ((rightE w_) != 0) rfl (fun c3z => ?_) (fun c3z => ?_)
 ·replace hM := M.e_t hM c3z
  simp only [qz1, qz2, qz3, qz4, qz5, qz6, ne_eq, qz7] at c3z
  refine sQ rfl <| sM (I (rightE w_)) rfl <| sA (.slice none 0 0) rfl <| sA (I (rightE w_)) rfl <| s_nil ?_
  refine W.ret ?_
  have hr_ := M.e_pure hM
  replace H : St w w2z [cOwn (α := Int) 3 (.slice none 0 0) ([]), cBlk b_1 [v_w_] 22] R := H.nilOwn (α := Int) 3
  exact ⟨_, resE_tmp2 rfl, ⟨([]), (rightE w_), (.slice none 0 0), hr_, rfl, (H.pick [0] (by decide) rfl)⟩⟩
 replace hM := M.e_f hM c3z
 simp only [qz1, qz2, qz3, qz4, qz5, qz6, ne_eq, qz7] at c3z
 refine W.skip <| sQ rfl <| s_val (x_ld (p := Pz b_1) (v := v_w_) rfl (ldb_sc Sc22 (H.blk (k := 0) rfl) rfl)) <| s_val (x_bld (ps := [(0, v_w_)]) (zs := [.slice none 0 0]) (L' := [v_w_]) rfl Try.underlying185 Al185 rfl (Bd185 Try.underlying185) (.cons (cs := [v_w_]) (Sl.cells hs_w_) rfl rfl rfl rfl <| .nil)) <| s_val (x_bld (ps := [(0, .agg #[v_w_])]) (zs := [.slice none 0 0]) (L' := [v_w_]) rfl Try.underlying187 Al187 rfl (Bd187 Try.underlying187) (.cons (cs := [v_w_]) rfl rfl rfl rfl rfl <| .nil)) ?_
 refine t_box (v := .agg #[v_w_]) (cs := [v_w_]) H rfl rfl ?_
 intro b_2 w4z H
 refine sA (Pz b_2) rfl <| s_nil <| sQ rfl <| sM (Pz b_2) rfl ?_
 obtain ⟨r6z, hx5z, hM⟩ := M.e_bind hM
 refine s_call cf131 [Pz b_2] rfl (notes_web_order_ok w_ (hC_w_.app _) hs_w_ (Has.here (k := 0) rfl) hx5z _ (St.give (T := [cBlk b_2 [v_w_] 187, cBlk b_1 [v_w_] 22]) H rfl)) ?_
 rintro vq w7z ⟨r2, u0_3, hr8z, hvq, H2_⟩
 subst hr8z
 subst vq
 try dsimp only at hM
 replace H : St w w7z [cOwn (α := Int) 3 u0_3 r2, cBlk b_2 [v_w_] 187, cBlk b_1 [v_w_] 22] R := H.back H2_ rfl
 clear H2_
 refine t_alloc (cs := [.slice none 0 0]) H Al34 rfl ?_
 intro b_4 w9z H
 refine t_st (k := 0) (b := b_4) (off := 0) (cs := [.slice none 0 0]) (vs := [u0_3]) (cs' := [u0_3]) (v := u0_3) (L' := [cBlk b_4 [u0_3] 34, cOwn (α := Int) 3 u0_3 r2, cBlk b_2 [v_w_] 187, cBlk b_1 [v_w_] 22]) H rfl rfl rfl Sz34 (Sl.cells (ownSl (H.get (k := 1) rfl))) rfl rfl (by simp only [List.all_cons, List.all_nil, Bool.true_and, Bool.and_true, Sl.oc (ownSl (H.get (k := 1) rfl))]; try rfl) rfl rfl ?_
 intro w10z H
 refine s_nil <| sQ rfl ?_
 refine t_alloc (cs := [.slice none 0 0]) H Al34 rfl ?_
 intro b_5 w11z H
 refine s_nil <| sQ rfl ?_
 refine t_alloc (cs := [.nilFunc]) H Al189 rfl ?_
 intro b_6 w12z H
 refine s_nil <| sQ rfl <| s_val (x_mf (fs := []) (cs := [Pz b_5, Pz b_1, Pz b_4, Pz b_6]) rfl rfl) ?_
 refine t_st (k := 0) (b := b_6) (off := 0) (cs := [.nilFunc]) (vs := [.func (.func 132) #[] #[Pz b_5, Pz b_1, Pz b_4, Pz b_6]]) (cs' := [.func (.func 132) #[] #[Pz b_5, Pz b_1, Pz b_4, Pz b_6]]) (v := .func (.func 132) #[] #[Pz b_5, Pz b_1, Pz b_4, Pz b_6]) (L' := [cBlk b_6 [.func (.func 132) #[] #[Pz b_5, Pz b_1, Pz b_4, Pz b_6]] 189, cBlk b_5 [.slice none 0 0] 34, cBlk b_4 [u0_3] 34, cOwn (α := Int) 3 u0_3 r2, cBlk b_2 [v_w_] 187, cBlk b_1 [v_w_] 22]) H rfl rfl rfl Sz189 rfl rfl rfl rfl rfl rfl ?_
 intro w13z H
 refine s_nil <| W.seq <| sQ rfl <| s_val (x_ld (p := Pz b_1) (v := v_w_) rfl (ldb_sc Sc22 (H.blk (k := 5) rfl) rfl)) ?_
 have hl14z := (hs_w_).len_le
 refine s_val (x_lenS T22.und rfl hs_w_) <| sM (I 0) rfl <| s_nil <| W.block ?_
 obtain ⟨ex15z, hi16z, hk17z⟩ := M.e_bind hM
 obtain ⟨m0_, hi16z⟩ := M.e_iter hi16z
 refine W.loop (fun m σ W => ∃ (s : Nat) (ρ : Env), σ = upds ρ [(6, Pz b_4), (8, Pz b_6), (23, I (w_.length : Int)), (24, I (s : Int))] ∧ M.iterN (m_notes_Circle_b0 w_ r2) m s = some ex15z ∧ St w W [cBlk b_6 [.func (.func 132) #[] #[Pz b_5, Pz b_1, Pz b_4, Pz b_6]] 189, cBlk b_5 [.slice none 0 0] 34, cBlk b_4 [u0_3] 34, cOwn (α := Int) 3 u0_3 r2, cBlk b_2 [v_w_] 187, cBlk b_1 [v_w_] 22] R) ?_ ?_
 ·exact ⟨_, 0, _, upds_of _ _ ⟨rfl, rfl, rfl, rfl, trivial⟩, hi16z, H⟩
 rintro m20z σ w18z ⟨s, ρ, rfl, hI19z, H⟩
 obtain ⟨m21z, lt22z, x23z, hM, hN24z⟩ := M.e_iterN hI19z
 simp only [m_notes_Circle_b0] at hM
 clear hI19z
 refine sQ rfl <| sC (s : Int) (w_.length : Int) (decide ((s : Int) < (w_.length : Int))) rfl rfl rfl <| s_nil <| W.seq ?_
 refine W.cond (decide ((s : Int) < (w_.length : Int))) rfl (fun c25z => ?_) (fun c25z => ?_)
 ·replace hM := M.e_t hM c25z
  simp only [qz1, qz2, qz3, qz4, qz5, qz6, ne_eq, qz7] at c25z
  refine W.skip <| W.seq <| W.block <| sQ rfl <| sM (I (s : Int)) rfl <| sA (I (s : Int)) rfl <| s_nil <| sQ rfl <| s_val (x_ld (p := Pz b_4) (v := u0_3) rfl (ldb_sc Sc34 (H.blk (k := 2) rfl) rfl)) <| sM (I (s : Int)) rfl ?_
  refine s_call cf45 [u0_3, I (s : Int)] rfl (contains_int (s : Int) _ ((ownSl (H.get (k := 3) rfl)).mono (ownLe _ (H.get (k := 3) rfl)))) ?_
  rintro _ w26z ⟨rfl, hx_⟩
  replace H : St w w26z [cBlk b_6 [.func (.func 132) #[] #[Pz b_5, Pz b_1, Pz b_4, Pz b_6]] 189, cBlk b_5 [.slice none 0 0] 34, cBlk b_4 [u0_3] 34, cOwn (α := Int) 3 u0_3 r2, cBlk b_2 [v_w_] 187, cBlk b_1 [v_w_] 22] R := H.ext hx_
  clear hx_
  refine s_val (x_not (b := r2.contains (s : Int)) rfl) <| s_nil ?_
  refine W.cond (!(r2.contains (s : Int))) rfl (fun c27z => ?_) (fun c27z => ?_)
  ·replace hM := M.e_t hM c27z
   refine sQ rfl <| s_val (x_ld (p := Pz b_6) (v := .func (.func 132) #[] #[Pz b_5, Pz b_1, Pz b_4, Pz b_6]) rfl (ldb_sc Sc189 (H.blk (k := 0) rfl) rfl)) <| sM (I (s : Int)) rfl ?_
   replace H : St w w26z [cOwn (α := Int) 3 (.slice none 0 0) ([]), cBlk b_6 [.func (.func 132) #[] #[Pz b_5, Pz b_1, Pz b_4, Pz b_6]] 189, cBlk b_5 [.slice none 0 0] 34, cBlk b_4 [u0_3] 34, cOwn (α := Int) 3 u0_3 r2, cBlk b_2 [v_w_] 187, cBlk b_1 [v_w_] 22] R := H.nilOwn (α := Int) 3
   replace H : St w w26z [cOwn (α := Int) 3 (.slice none 0 0) ([]), cBlk b_6 [.func (.func 132) #[] #[Pz b_5, Pz b_1, Pz b_4, Pz b_6]] 189, cBlk b_5 [(.slice none 0 0)] 34, cBlk b_4 [u0_3] 34, cOwn (α := Int) 3 u0_3 r2, cBlk b_2 [v_w_] 187, cBlk b_1 [v_w_] 22] R := H
   obtain ⟨r29z, hx28z, hM⟩ := M.e_bind hM
   refine s_callv (f := 132) rfl cf132 [I (s : Int)] rfl (notes_Circle_1_ok (s : Int) ([] : List Int) w_ r2 (hC_w_.app _) hs_w_ (Has.here (k := 4) rfl) (Reads.of (k := 2) rfl ownLe) (ownSl (H.get (k := 4) rfl)) (Has.here (k := 1) rfl) (Has.here (k := 0) rfl) hx28z _ (St.give (L := [cOwn (α := Int) 3 (.slice none 0 0) ([]), cBlk b_5 [(.slice none 0 0)] 34, cBlk b_6 [.func (.func 132) #[] #[Pz b_5, Pz b_1, Pz b_4, Pz b_6]] 189, cBlk b_4 [u0_3] 34, cOwn (α := Int) 3 u0_3 r2, cBlk b_2 [v_w_] 187, cBlk b_1 [v_w_] 22]) (A := [cOwn (α := Int) 3 (.slice none 0 0) ([]), cBlk b_5 [(.slice none 0 0)] 34]) (T := [cBlk b_6 [.func (.func 132) #[] #[Pz b_5, Pz b_1, Pz b_4, Pz b_6]] 189, cBlk b_4 [u0_3] 34, cOwn (α := Int) 3 u0_3 r2, cBlk b_2 [v_w_] 187, cBlk b_1 [v_w_] 22]) (H.pick [0, 2, 1, 3, 4, 5, 6] (by decide) rfl) rfl)) ?_
   rintro vq w30z ⟨r3, l_k02, u0_8, u1_9, hr31z, hvq, H2_⟩
   subst hr31z
   subst vq
   try dsimp only at hM
   replace H : St w w30z [cOwn (α := Int) 3 u0_8 r3, cOwn (α := Int) 3 u1_9 l_k02, cBlk b_5 [u1_9] 34, cBlk b_6 [.func (.func 132) #[] #[Pz b_5, Pz b_1, Pz b_4, Pz b_6]] 189, cBlk b_4 [u0_3] 34, cOwn (α := Int) 3 u0_3 r2, cBlk b_2 [v_w_] 187, cBlk b_1 [v_w_] 22] R := H.pick [0, 2, 1, 3, 4, 5, 6] (by decide) rfl |>.back H2_ rfl
   clear H2_
   refine sA u0_8 rfl <| sA (I 0) rfl <| s_nil ?_
   refine W.ret ?_
   have hX32z := M.e_inr hM hN24z
   subst hX32z
   replace hM := hk17z
   try dsimp only at hM
   have hr_ := M.e_pure hM
   exact ⟨_, resE_tmp2 rfl, ⟨r3, 0, u0_8, hr_, rfl, (H.pick [0] (by decide) rfl)⟩⟩
  replace hM := M.e_f hM c27z
  refine W.skip <| W.region rfl <| sR (s : Int) 1 ((s : Int) + 1) rfl rfl rfl (by omega) <| sM (I ((s : Int) + 1)) rfl <| s_nil ?_
  exact ⟨m21z, lt22z, s + 1, _, upds_of _ _ ⟨rfl, rfl, rfl, rfl, trivial⟩, M.e_inl hM hN24z, H⟩
 replace hM := M.e_f hM c25z
 simp only [qz1, qz2, qz3, qz4, qz5, qz6, ne_eq, qz7] at c25z
 refine W.exit ?_
 have hX33z := M.e_inr hM hN24z
 subst hX33z
 replace hM := hk17z
 try dsimp only at hM
 refine sQ rfl <| sA (.slice none 0 0) rfl <| sA (I 5) rfl <| s_nil ?_
 refine W.ret ?_
 have hr_ := M.e_pure hM
 replace H : St w w18z [cOwn (α := Int) 3 (.slice none 0 0) ([]), cBlk b_6 [.func (.func 132) #[] #[Pz b_5, Pz b_1, Pz b_4, Pz b_6]] 189, cBlk b_5 [.slice none 0 0] 34, cBlk b_4 [u0_3] 34, cOwn (α := Int) 3 u0_3 r2, cBlk b_2 [v_w_] 187, cBlk b_1 [v_w_] 22] R := H.nilOwn (α := Int) 3
 exact ⟨_, resE_tmp2 rfl, ⟨([]), 5, (.slice none 0 0), hr_, rfl, (H.pick [0] (by decide) rfl)⟩⟩

def m_nilometerlaw13_circle_b2 (w_ : List Work) (l : List Int) (s3 : Nat) : (Bool × Nat) → M ((Bool × Nat) ⊕ Bool) := fun (there, s) =>
  bif decide ((s : Int) < (((w_.getD (Int.toNat (l.getD s3 0)) default).of).length : Int)) then (
  M.grd (decide ((s : Int) < (((w_.getD (Int.toNat (l.getD s3 0)) default).of).length : Int))) <|
  M.pure (.inl ((there || ((((w_.getD (Int.toNat (l.getD s3 0)) default).of).getD s 0) == (l.getD (Int.toNat (((s3 : Int) + 1) % (l.length : Int))) 0))), s + 1)))
  else (
  M.pure (.inr there))
def m_nilometerlaw13_circle_b3 (l : List Int) (s3 : Nat) : Nat → M (Nat ⊕ (Unit ⊕ Unit)) := fun s2 =>
  bif decide ((s2 : Int) < (s3 : Int)) then (
  M.grd (decide ((s2 : Int) < (l.length : Int))) <|
  bif (l.getD s2 0) == (l.getD s3 0) then (
  M.pure (.inr (.inl ())))
  else (
  M.pure (.inl (s2 + 1))))
  else (
  M.pure (.inr (.inr ())))
def m_nilometerlaw13_circle_b4 (w_ : List Work) (l : List Int) : Nat → M (Nat ⊕ (Unit ⊕ Unit)) := fun s3 =>
  bif decide ((s3 : Int) < (l.length : Int)) then (
  M.grd (decide ((s3 : Int) < (l.length : Int))) <|
  bif ((decide ((l.getD s3 0) < 0)) || (decide ((w_.length : Int) ≤ (l.getD s3 0)))) then (
  M.pure (.inr (.inl ())))
  else (
  M.grd (decide ((0 : Int) ≤ ((s3 : Int) + 1)) && decide ((0 : Int) < (l.length : Int))) <|
  M.grd (decide ((0 : Int) ≤ (((s3 : Int) + 1) % (l.length : Int))) && decide ((((s3 : Int) + 1) % (l.length : Int)) < (l.length : Int))) <|
  M.grd (decide ((0 : Int) ≤ (l.getD s3 0)) && decide ((l.getD s3 0) < (w_.length : Int))) <|
  M.bind (M.iter (m_nilometerlaw13_circle_b2 w_ l s3) (false, 0)) fun there2 =>
  M.bind (M.iter (m_nilometerlaw13_circle_b3 l s3) 0) fun x_ => match x_ with
  | (.inl (_ : Unit)) => (
  M.pure (.inr (.inl ())))
  | (.inr (_ : Unit)) => (
  bif !there2 then (
  M.pure (.inr (.inl ())))
  else (
  M.pure (.inl (s3 + 1))))))
  else (
  M.pure (.inr (.inr ())))
def m_nilometerlaw13_circle (w_ : List Work) (l : List Int) : M Bool :=
  M.bind (M.iter (m_nilometerlaw13_circle_b4 w_ l) 0) fun x_ => match x_ with
  | (.inl (_ : Unit)) => (
  M.pure false)
  | (.inr (_ : Unit)) => (
  M.pure (decide (0 < (l.length : Int))))
theorem nilometerlaw13_circle_ok {R : List Chunk} {C_w_ : Cells} {v_w_ : Value} {C_l : Cells} {v_l : Value} (w_ : List Work) (l : List Int) (hC_w_ : Reads R C_w_) (hs_w_ : Sl C_w_ v_w_ w_) (hC_l : Reads R C_l) (hs_l : Sl C_l v_l l) {r : Bool} (hM : (m_nilometerlaw13_circle w_ l).Ends r) (w : World) (H : St w w [] R) : Ret Try.prog 69 #[v_w_, v_l] w fun v w' => ∃ (y0 : Bool), y0 = r ∧ v = B y0 ∧ St w w' [] R := by
 refine ret_of_W Try.func69 rfl rfl rfl ?_
 refine sQ rfl <| sA (B false) rfl <| s_nil <| W.seq <| sQ rfl <| sM v_l rfl ?_
 have hl1z := (hs_l).len_le
 refine s_val (x_lenS T34.und rfl hs_l) <| sM (I 0) rfl <| s_nil <| W.block ?_
 obtain ⟨ex2z, hi3z, hk4z⟩ := M.e_bind hM
 obtain ⟨m0_, hi3z⟩ := M.e_iter hi3z
 refine W.loop (fun m σ W => ∃ (s3 : Nat) (ρ : Env), σ = upds ρ [(0, v_w_), (1, v_l), (12, v_l), (13, I (l.length : Int)), (14, I (s3 : Int))] ∧ M.iterN (m_nilometerlaw13_circle_b4 w_ l) m s3 = some ex2z ∧ St w W [] R) ?_ ?_
 ·exact ⟨_, 0, _, upds_of _ _ ⟨rfl, rfl, rfl, rfl, rfl, trivial⟩, hi3z, H⟩
 rintro m7z σ w5z ⟨s3, ρ, rfl, hI6z, H⟩
 obtain ⟨m8z, lt9z, x10z, hM, hN11z⟩ := M.e_iterN hI6z
 simp only [m_nilometerlaw13_circle_b4] at hM
 clear hI6z
 refine sQ rfl <| sC (s3 : Int) (l.length : Int) (decide ((s3 : Int) < (l.length : Int))) rfl rfl rfl <| s_nil <| W.seq ?_
 refine W.cond (decide ((s3 : Int) < (l.length : Int))) rfl (fun c12z => ?_) (fun c12z => ?_)
 ·replace hM := M.e_t hM c12z
  simp only [qz1, qz2, qz3, qz4, qz5, qz6, ne_eq, qz7] at c12z
  refine W.skip <| W.seq <| W.block <| sQ rfl <| sM (I (s3 : Int)) rfl ?_
  obtain ⟨sd13z, hM⟩ := M.e_gd hM
  refine s_val (x_ix (a := v_l) (b := I (s3 : Int)) (v := vat v_l 1 (Int.toNat (s3 : Int))) rfl rfl (Sl.ix (α := Int) T34.und T34.size hs_l (by omega) (by omega))) <| s_val (x_ld (p := vat v_l 1 (Int.toNat (s3 : Int))) (v := I (l.getD s3 0)) rfl (ld_sc Sc3 (At.mono (Int_at hs_l (i := (s3 : Int)) (by omega) (by omega)) (hC_l.at H)))) <| sA (I (s3 : Int)) rfl <| sA (I (l.getD s3 0)) rfl <| s_nil <| W.seq <| sQ rfl <| sM (I (l.getD s3 0)) rfl <| sC (l.getD s3 0) 0 (decide ((l.getD s3 0) < 0)) rfl rfl rfl <| sM (B (decide ((l.getD s3 0) < 0))) rfl <| g_val (!(decide ((l.getD s3 0) < 0))) (gy_f rfl) (fun hg => x_mv (v := I (l.getD s3 0)) rfl) ?_
  refine g_val (!(decide ((l.getD s3 0) < 0))) (gy_f rfl) (fun hg => x_mv (v := v_w_) rfl) <| g_val (!(decide ((l.getD s3 0) < 0))) (gy_f rfl) (fun hg => x_lenS T22.und (gd_of (c := !(decide ((l.getD s3 0) < 0))) hg (v_w_)) hs_w_) <| g_val (!(decide ((l.getD s3 0) < 0))) (gy_f rfl) (fun hg => x_cmp (kd := .i64) (a := l.getD s3 0) (b := (w_.length : Int)) (r := decide ((w_.length : Int) ≤ (l.getD s3 0))) (gd_of (c := !(decide ((l.getD s3 0) < 0))) hg (I (l.getD s3 0))) (gd_of (c := !(decide ((l.getD s3 0) < 0))) hg (I (w_.length : Int))) rfl) <| s_val (x_por (b := decide ((l.getD s3 0) < 0)) (r := decide ((w_.length : Int) ≤ (l.getD s3 0))) rfl rfl (fun hb => gd_of (c := !(decide ((l.getD s3 0) < 0))) (by first | exact hb | (rw [hb]; rfl) | simp_all) (B (decide ((w_.length : Int) ≤ (l.getD s3 0)))))) <| s_nil ?_
  refine W.cond ((decide ((l.getD s3 0) < 0)) || (decide ((w_.length : Int) ≤ (l.getD s3 0)))) rfl (fun c15z => ?_) (fun c15z => ?_)
  ·replace hM := M.e_t hM c15z
   refine sQ rfl <| sA (B false) rfl <| s_nil ?_
   refine W.ret ?_
   have hX16z := M.e_inr hM hN11z
   subst hX16z
   replace hM := hk4z
   try dsimp only at hM
   have hr_ := M.e_pure hM
   exact ⟨_, resE_tmp rfl, ⟨false, hr_, rfl, H⟩⟩
  replace hM := M.e_f hM c15z
  refine W.skip <| sQ rfl <| sM v_l rfl <| sM (I (s3 : Int)) rfl <| sR (s3 : Int) 1 ((s3 : Int) + 1) rfl rfl rfl (by omega) <| sM v_l rfl ?_
  have hl17z := (hs_l).len_le
  refine s_val (x_lenS T34.und rfl hs_l) ?_
  obtain ⟨sd18z, hM⟩ := M.e_gd hM
  refine s_val (x_rem' (a := (s3 : Int) + 1) (b := (l.length : Int)) rfl rfl (by omega)) ?_
  obtain ⟨sd19z, hM⟩ := M.e_gd hM
  refine s_val (x_ix (a := v_l) (b := I (((s3 : Int) + 1) % (l.length : Int))) (v := vat v_l 1 (Int.toNat (((s3 : Int) + 1) % (l.length : Int)))) rfl rfl (Sl.ix (α := Int) T34.und T34.size hs_l (by omega) (by omega))) <| s_val (x_ld (p := vat v_l 1 (Int.toNat (((s3 : Int) + 1) % (l.length : Int)))) (v := I (l.getD (Int.toNat (((s3 : Int) + 1) % (l.length : Int))) 0)) rfl (ld_sc Sc3 (At.mono (Int_at hs_l (i := ((s3 : Int) + 1) % (l.length : Int)) (by omega) (by omega)) (hC_l.at H)))) <| sA (I (l.getD (Int.toNat (((s3 : Int) + 1) % (l.length : Int))) 0)) rfl <| sA (B false) rfl <| s_nil <| W.seq <| sQ rfl <| sM v_w_ rfl <| sM (I (l.getD s3 0)) rfl ?_
  obtain ⟨sd20z, hM⟩ := M.e_gd hM
  refine s_val (x_ix (a := v_w_) (b := I (l.getD s3 0)) (v := vat v_w_ 3 (Int.toNat (l.getD s3 0))) rfl rfl (Sl.ix (α := Work) T22.und T22.size hs_w_ (by omega) (by omega))) <| s_val (x_fa (a := vat v_w_ 3 (Int.toNat (l.getD s3 0))) (v := fat (vat v_w_ 3 (Int.toNat (l.getD s3 0))) 0) rfl (fa_pl Fd60_0 Sz34 (Sl.pl (i := l.getD s3 0) hs_w_ (by omega) (by omega)))) ?_
  obtain ⟨u21z, ha_u21z, hs22z⟩ := Work_at0 hs_w_ (i := l.getD s3 0) (by omega) (by omega)
  replace hs22z : Sl _ u21z (w_.getD (Int.toNat (l.getD s3 0)) default).of := hs22z
  have hl_hs22z := hs22z.len_le
  refine s_val (x_ld (p := fat (vat v_w_ 3 (Int.toNat (l.getD s3 0))) 0) (v := u21z) rfl (ld_sc Sc34 (At.mono (ha_u21z) (hC_w_.at H)))) ?_
  have hl23z := (hs22z).len_le
  refine s_val (x_lenS T34.und rfl hs22z) <| sM (I 0) rfl <| s_nil <| W.block ?_
  obtain ⟨ex24z, hi25z, hk26z⟩ := M.e_bind hM
  obtain ⟨m0_, hi25z⟩ := M.e_iter hi25z
  refine W.loop (fun m σ W => ∃ (there : Bool) (s : Nat) (ρ : Env), σ = upds ρ [(0, v_w_), (1, v_l), (5, I (s3 : Int)), (6, I (l.getD s3 0)), (7, I (l.getD (Int.toNat (((s3 : Int) + 1) % (l.length : Int))) 0)), (8, B there), (12, v_l), (13, I (l.length : Int)), (14, I (s3 : Int)), (22, gd (!(decide ((l.getD s3 0) < 0))) (I (l.getD s3 0))), (23, gd (!(decide ((l.getD s3 0) < 0))) v_w_), (24, gd (!(decide ((l.getD s3 0) < 0))) (I (w_.length : Int))), (25, gd (!(decide ((l.getD s3 0) < 0))) (B (decide ((w_.length : Int) ≤ (l.getD s3 0))))), (39, u21z), (40, I (((w_.getD (Int.toNat (l.getD s3 0)) default).of).length : Int)), (41, I (s : Int))] ∧ M.iterN (m_nilometerlaw13_circle_b2 w_ l s3) m (there, s) = some ex24z ∧ St w W [] R) ?_ ?_
  ·exact ⟨_, false, 0, _, upds_of _ _ ⟨rfl, rfl, rfl, rfl, rfl, rfl, rfl, rfl, rfl, rfl, rfl, rfl, rfl, rfl, rfl, rfl, trivial⟩, hi25z, H⟩
  rintro m29z σ w27z ⟨there, s, ρ, rfl, hI28z, H⟩
  obtain ⟨m30z, lt31z, x32z, hM, hN33z⟩ := M.e_iterN hI28z
  simp only [m_nilometerlaw13_circle_b2] at hM
  clear hI28z
  refine sQ rfl <| sC (s : Int) (((w_.getD (Int.toNat (l.getD s3 0)) default).of).length : Int) (decide ((s : Int) < (((w_.getD (Int.toNat (l.getD s3 0)) default).of).length : Int))) rfl rfl rfl <| s_nil <| W.seq ?_
  refine W.cond (decide ((s : Int) < (((w_.getD (Int.toNat (l.getD s3 0)) default).of).length : Int))) rfl (fun c34z => ?_) (fun c34z => ?_)
  ·replace hM := M.e_t hM c34z
   simp only [qz1, qz2, qz3, qz4, qz5, qz6, ne_eq, qz7] at c34z
   refine W.skip <| W.seq <| W.block <| sQ rfl ?_
   obtain ⟨sd35z, hM⟩ := M.e_gd hM
   refine s_val (x_ix (a := u21z) (b := I (s : Int)) (v := vat u21z 1 (Int.toNat (s : Int))) rfl rfl (Sl.ix (α := Int) T34.und T34.size hs22z (by omega) (by omega))) <| s_val (x_ld (p := vat u21z 1 (Int.toNat (s : Int))) (v := I (((w_.getD (Int.toNat (l.getD s3 0)) default).of).getD s 0)) rfl (ld_sc Sc3 (At.mono (Int_at hs22z (i := (s : Int)) (by omega) (by omega)) (hC_w_.at H)))) <| sA (I (((w_.getD (Int.toNat (l.getD s3 0)) default).of).getD s 0)) rfl <| s_nil <| W.region rfl <| sM (B there) rfl <| sM (B there) rfl <| g_val (!there) (gy_f rfl) (fun hg => x_mv (v := I (((w_.getD (Int.toNat (l.getD s3 0)) default).of).getD s 0)) rfl) <| g_val (!there) (gy_f rfl) (fun hg => x_mv (v := I (l.getD (Int.toNat (((s3 : Int) + 1) % (l.length : Int))) 0)) rfl) <| g_val (!there) (gy_f rfl) (fun hg => x_cmp (kd := .i64) (a := ((w_.getD (Int.toNat (l.getD s3 0)) default).of).getD s 0) (b := l.getD (Int.toNat (((s3 : Int) + 1) % (l.length : Int))) 0) (r := (((w_.getD (Int.toNat (l.getD s3 0)) default).of).getD s 0) == (l.getD (Int.toNat (((s3 : Int) + 1) % (l.length : Int))) 0)) (gd_of (c := !there) hg (I (((w_.getD (Int.toNat (l.getD s3 0)) default).of).getD s 0))) (gd_of (c := !there) hg (I (l.getD (Int.toNat (((s3 : Int) + 1) % (l.length : Int))) 0))) rfl) <| s_val (x_por (b := there) (r := (((w_.getD (Int.toNat (l.getD s3 0)) default).of).getD s 0) == (l.getD (Int.toNat (((s3 : Int) + 1) % (l.length : Int))) 0)) rfl rfl (fun hb => gd_of (c := !there) (by first | exact hb | (rw [hb]; rfl) | simp_all) (B ((((w_.getD (Int.toNat (l.getD s3 0)) default).of).getD s 0) == (l.getD (Int.toNat (((s3 : Int) + 1) % (l.length : Int))) 0))))) <| sA (B (there || ((((w_.getD (Int.toNat (l.getD s3 0)) default).of).getD s 0) == (l.getD (Int.toNat (((s3 : Int) + 1) % (l.length : Int))) 0)))) rfl ?_
   refine s_nil <| W.region rfl <| sR (s : Int) 1 ((s : Int) + 1) rfl rfl rfl (by omega) <| sM (I ((s : Int) + 1)) rfl <| s_nil ?_
   exact ⟨m30z, lt31z, (there || ((((w_.getD (Int.toNat (l.getD s3 0)) default).of).getD s 0) == (l.getD (Int.toNat (((s3 : Int) + 1) % (l.length : Int))) 0))), s + 1, _, upds_of _ _ ⟨rfl, rfl, rfl, rfl, rfl, rfl, rfl, rfl, rfl, rfl, rfl, rfl, rfl, rfl, rfl, rfl, trivial⟩, M.e_inl hM hN33z, H⟩
  replace hM := M.e_f hM c34z
  simp only [qz1, qz2, qz3, qz4, qz5, qz6, ne_eq, qz7] at c34z
  refine W.exit ?_
  have hX36z := M.e_inr hM hN33z
  subst hX36z
  replace hM := hk26z
  try dsimp only at hM
  refine W.seq <| sQ rfl <| sM (I (s3 : Int)) rfl <| sM (I 0) rfl <| s_nil <| W.block ?_
  obtain ⟨ex37z, hi38z, hk39z⟩ := M.e_bind hM
  obtain ⟨m0_, hi38z⟩ := M.e_iter hi38z
  refine W.loop (fun m σ W => ∃ (s2 : Nat) (ρ : Env), σ = upds ρ [(0, v_w_), (1, v_l), (6, I (l.getD s3 0)), (8, B there), (12, v_l), (13, I (l.length : Int)), (14, I (s3 : Int)), (22, gd (!(decide ((l.getD s3 0) < 0))) (I (l.getD s3 0))), (23, gd (!(decide ((l.getD s3 0) < 0))) v_w_), (24, gd (!(decide ((l.getD s3 0) < 0))) (I (w_.length : Int))), (25, gd (!(decide ((l.getD s3 0) < 0))) (B (decide ((w_.length : Int) ≤ (l.getD s3 0))))), (52, I (s3 : Int)), (53, I (s2 : Int))] ∧ M.iterN (m_nilometerlaw13_circle_b3 l s3) m s2 = some ex37z ∧ St w W [] R) ?_ ?_
  ·exact ⟨_, 0, _, upds_of _ _ ⟨rfl, rfl, rfl, rfl, rfl, rfl, rfl, rfl, rfl, rfl, rfl, rfl, rfl, trivial⟩, hi38z, H⟩
  rintro m42z σ w40z ⟨s2, ρ, rfl, hI41z, H⟩
  obtain ⟨m43z, lt44z, x45z, hM, hN46z⟩ := M.e_iterN hI41z
  simp only [m_nilometerlaw13_circle_b3] at hM
  clear hI41z
  refine sQ rfl <| sC (s2 : Int) (s3 : Int) (decide ((s2 : Int) < (s3 : Int))) rfl rfl rfl <| s_nil <| W.seq ?_
  refine W.cond (decide ((s2 : Int) < (s3 : Int))) rfl (fun c47z => ?_) (fun c47z => ?_)
  ·replace hM := M.e_t hM c47z
   simp only [qz1, qz2, qz3, qz4, qz5, qz6, ne_eq, qz7] at c47z
   refine W.skip <| W.seq <| W.block <| sQ rfl <| sM (I (s2 : Int)) rfl <| sA (I (s2 : Int)) rfl <| s_nil <| sQ rfl <| sM v_l rfl <| sM (I (s2 : Int)) rfl ?_
   obtain ⟨sd48z, hM⟩ := M.e_gd hM
   refine s_val (x_ix (a := v_l) (b := I (s2 : Int)) (v := vat v_l 1 (Int.toNat (s2 : Int))) rfl rfl (Sl.ix (α := Int) T34.und T34.size hs_l (by omega) (by omega))) <| s_val (x_ld (p := vat v_l 1 (Int.toNat (s2 : Int))) (v := I (l.getD s2 0)) rfl (ld_sc Sc3 (At.mono (Int_at hs_l (i := (s2 : Int)) (by omega) (by omega)) (hC_l.at H)))) <| sM (I (l.getD s3 0)) rfl <| sC (l.getD s2 0) (l.getD s3 0) ((l.getD s2 0) == (l.getD s3 0)) rfl rfl rfl <| s_nil ?_
   refine W.cond ((l.getD s2 0) == (l.getD s3 0)) rfl (fun c49z => ?_) (fun c49z => ?_)
   ·replace hM := M.e_t hM c49z
    simp only [qz1, qz2, qz3, qz4, qz5, qz6, ne_eq, qz7] at c49z
    refine sQ rfl <| sA (B false) rfl <| s_nil ?_
    refine W.ret ?_
    have hX50z := M.e_inr hM hN46z
    subst hX50z
    replace hM := hk39z
    try dsimp only at hM
    have hX51z := M.e_inr hM hN11z
    subst hX51z
    replace hM := hk4z
    try dsimp only at hM
    have hr_ := M.e_pure hM
    exact ⟨_, resE_tmp rfl, ⟨false, hr_, rfl, H⟩⟩
   replace hM := M.e_f hM c49z
   simp only [qz1, qz2, qz3, qz4, qz5, qz6, ne_eq, qz7] at c49z
   refine W.skip <| W.region rfl <| sR (s2 : Int) 1 ((s2 : Int) + 1) rfl rfl rfl (by omega) <| sM (I ((s2 : Int) + 1)) rfl <| s_nil ?_
   exact ⟨m43z, lt44z, s2 + 1, _, upds_of _ _ ⟨rfl, rfl, rfl, rfl, rfl, rfl, rfl, rfl, rfl, rfl, rfl, rfl, rfl, trivial⟩, M.e_inl hM hN46z, H⟩
  replace hM := M.e_f hM c47z
  simp only [qz1, qz2, qz3, qz4, qz5, qz6, ne_eq, qz7] at c47z
  refine W.exit ?_
  have hX52z := M.e_inr hM hN46z
  subst hX52z
  replace hM := hk39z
  try dsimp only at hM
  refine sQ rfl <| sM (B there) rfl <| s_val (x_not (b := there) rfl) <| s_nil ?_
  refine W.cond (!there) rfl (fun c53z => ?_) (fun c53z => ?_)
  ·replace hM := M.e_t hM c53z
   refine sQ rfl <| sA (B false) rfl <| s_nil ?_
   refine W.ret ?_
   have hX54z := M.e_inr hM hN11z
   subst hX54z
   replace hM := hk4z
   try dsimp only at hM
   have hr_ := M.e_pure hM
   exact ⟨_, resE_tmp rfl, ⟨false, hr_, rfl, H⟩⟩
  replace hM := M.e_f hM c53z
  refine W.skip <| W.region rfl <| sR (s3 : Int) 1 ((s3 : Int) + 1) rfl rfl rfl (by omega) <| sM (I ((s3 : Int) + 1)) rfl <| s_nil ?_
  exact ⟨m8z, lt9z, s3 + 1, _, upds_of _ _ ⟨rfl, rfl, rfl, rfl, rfl, trivial⟩, M.e_inl hM hN11z, H⟩
 replace hM := M.e_f hM c12z
 simp only [qz1, qz2, qz3, qz4, qz5, qz6, ne_eq, qz7] at c12z
 refine W.exit ?_
 have hX55z := M.e_inr hM hN11z
 subst hX55z
 replace hM := hk4z
 try dsimp only at hM
 refine sQ rfl <| sM v_l rfl ?_
 have hl56z := (hs_l).len_le
 refine s_val (x_lenS T34.und rfl hs_l) <| sC (l.length : Int) 0 (decide (0 < (l.length : Int))) rfl rfl rfl <| sA (B (decide (0 < (l.length : Int)))) rfl <| s_nil ?_
 refine W.ret ?_
 have hr_ := M.e_pure hM
 exact ⟨_, resE_tmp rfl, ⟨(decide (0 < (l.length : Int))), hr_, rfl, H⟩⟩

def m_nilometerref13_Ends (w_ : List Work) (from_ : Int) (to_ : Int) : M Int :=
  M.bind (m_nilometerref13_Check w_) fun r2 =>
  bif r2 != 0 then (
  M.pure r2)
  else (
  bif ((outB from_ 0 ((w_.length : Int) - 1)) || (outB to_ 0 ((w_.length : Int) - 1))) then (
  M.pure 2)
  else (
  bif from_ != to_ then (
  M.bind (m_nilometerref13_behind w_) fun r4 =>
  M.grd ((!(from_ != to_) || (decide ((0 : Int) ≤ from_) && decide (from_ < (r4.length : Int))))) <|
  M.grd ((!(from_ != to_) || (decide ((0 : Int) ≤ to_) && decide (to_ < ((r4.getD (Int.toNat from_) ([])).length : Int))))) <|
  bif ((from_ != to_) && (!((r4.getD (Int.toNat from_) ([])).getD (Int.toNat to_) false))) then (
  M.pure 5)
  else (
  M.pure 0))
  else (
  bif ((from_ != to_) && false) then (
  M.pure 5)
  else (
  M.pure 0))))
theorem nilometerref13_Ends_ok {R : List Chunk} {C_w_ : Cells} {v_w_ : Value} (w_ : List Work) (from_ : Int) (to_ : Int) (hC_w_ : Reads R C_w_) (hs_w_ : Sl C_w_ v_w_ w_) {r : Int} (hM : (m_nilometerref13_Ends w_ from_ to_).Ends r) (w : World) (H : St w w [] R) : Ret Try.prog 73 #[v_w_, I from_, I to_] w fun v w' => ∃ (y0 : Int), y0 = r ∧ v = I y0 ∧ St w w' [] R := by
 refine ret_of_W Try.func73 rfl rfl rfl ?_
 refine sQ rfl <| sA (I 0) rfl <| s_nil <| W.seq <| sQ rfl <| sM v_w_ rfl ?_
 obtain ⟨r2z, hx1z, hM⟩ := M.e_bind hM
 refine s_call cf71 [v_w_] rfl (nilometerref13_Check_ok w_ (hC_w_.app _) hs_w_ hx1z _ (St.give (T := []) H rfl)) ?_
 rintro vq w3z ⟨r2, hr4z, hvq, H2_⟩
 subst hr4z
 subst vq
 try dsimp only at hM
 replace H : St w w3z [] R := H.back H2_ rfl
 clear H2_
 refine sA (I r2) rfl <| s_nil <| sQ rfl <| sM (I r2) rfl <| sC r2 0 (r2 != 0) rfl rfl rfl <| s_nil ?_
 refine W.cond (r2 != 0) rfl (fun c5z => ?_) (fun c5z => ?_)
 ·replace hM := M.e_t hM c5z
  simp only [qz1, qz2, qz3, qz4, qz5, qz6, ne_eq, qz7] at c5z
  refine sQ rfl <| sM (I r2) rfl <| sA (I r2) rfl <| s_nil ?_
  refine W.ret ?_
  have hr_ := M.e_pure hM
  exact ⟨_, resE_tmp rfl, ⟨r2, hr_, rfl, H⟩⟩
 replace hM := M.e_f hM c5z
 simp only [qz1, qz2, qz3, qz4, qz5, qz6, ne_eq, qz7] at c5z
 refine W.skip <| W.seq <| sQ rfl <| sM (I from_) rfl <| sM v_w_ rfl ?_
 have hl6z := (hs_w_).len_le
 refine s_val (x_lenS T39.und rfl hs_w_) <| sR (w_.length : Int) 1 ((w_.length : Int) - 1) rfl rfl rfl (by omega) ?_
 refine s_call cf89 [I from_, I 0, I ((w_.length : Int) - 1)] rfl (outside_any from_ 0 ((w_.length : Int) - 1) _) ?_
 rintro _ w7z ⟨rfl, hx_⟩
 replace H : St w w7z [] R := H.ext hx_
 clear hx_
 refine sM (B (outB from_ 0 ((w_.length : Int) - 1))) rfl <| g_val (!(outB from_ 0 ((w_.length : Int) - 1))) (gy_f rfl) (fun hg => x_mv (v := I to_) rfl) <| g_val (!(outB from_ 0 ((w_.length : Int) - 1))) (gy_f rfl) (fun hg => x_mv (v := v_w_) rfl) <| g_val (!(outB from_ 0 ((w_.length : Int) - 1))) (gy_f rfl) (fun hg => x_lenS T39.und (gd_of (c := !(outB from_ 0 ((w_.length : Int) - 1))) hg (v_w_)) hs_w_) <| g_val (!(outB from_ 0 ((w_.length : Int) - 1))) (gy_f rfl) (fun hg => x_ari (a := (w_.length : Int)) (b := 1) (r := (w_.length : Int) - 1) (gd_of (c := !(outB from_ 0 ((w_.length : Int) - 1))) hg (I (w_.length : Int))) rfl rfl (by first | omega | (have hx_ := hg; simp at hx_; omega))) ?_
 refine t_gcall (!(outB from_ 0 ((w_.length : Int) - 1))) (gy_f rfl) cf89 (B (outB to_ 0 ((w_.length : Int) - 1))) (fun _ => [I to_, I 0, I ((w_.length : Int) - 1)]) (fun hg => lst3 (gd_of (c := !(outB from_ 0 ((w_.length : Int) - 1))) hg (I to_)) rfl (gd_of (c := !(outB from_ 0 ((w_.length : Int) - 1))) hg (I ((w_.length : Int) - 1)))) H (fun hg => Ret.mono (outside_any to_ 0 ((w_.length : Int) - 1) _) fun v_ w_ ⟨hv_, hx_⟩ => ⟨hv_, H.ext hx_⟩) ?_
 intro w9z H
 refine s_val (x_por (b := outB from_ 0 ((w_.length : Int) - 1)) (r := outB to_ 0 ((w_.length : Int) - 1)) rfl rfl (fun hb => gd_of (c := !(outB from_ 0 ((w_.length : Int) - 1))) (by first | exact hb | (rw [hb]; rfl) | simp_all) (B (outB to_ 0 ((w_.length : Int) - 1))))) <| s_nil ?_
 refine W.cond ((outB from_ 0 ((w_.length : Int) - 1)) || (outB to_ 0 ((w_.length : Int) - 1))) rfl (fun c10z => ?_) (fun c10z => ?_)
 ·replace hM := M.e_t hM c10z
  refine sQ rfl <| sA (I 2) rfl <| s_nil ?_
  refine W.ret ?_
  have hr_ := M.e_pure hM
  exact ⟨_, resE_tmp rfl, ⟨2, hr_, rfl, H⟩⟩
 replace hM := M.e_f hM c10z
 refine W.skip <| W.seq <| sQ rfl <| sM (I from_) rfl <| sM (I to_) rfl <| sC from_ to_ (from_ != to_) rfl rfl rfl <| sM (B (from_ != to_)) rfl <| g_val (from_ != to_) (gy_t rfl) (fun hg => x_mv (v := v_w_) rfl) ?_
 refine g_splitV (from_ != to_) (.slice none 0 0) (gy_t rfl) (fun hg_ => ?_) (fun hg_ => ?_)
 ·replace hM := M.e_t hM hg_
  obtain ⟨r12z, hx11z, hM⟩ := M.e_bind hM
  refine s_call cf94 [v_w_] (lst1 (gd_of (c := from_ != to_) hg_ (v_w_))) (nilometerref13_behind_ok w_ (hC_w_.app _) hs_w_ hx11z _ (St.give (T := []) H rfl)) ?_
  rintro vq w13z ⟨r5, u0_5, Bs1_6, hr14z, hvq, H2_, hf15z⟩
  subst hr14z
  subst vq
  try dsimp only at hM
  replace H : St w w13z [cRo Bs1_6] R := H.back H2_ rfl
  clear H2_
  refine g_val (from_ != to_) (gy_t rfl) (fun hg => x_mv (v := I from_) rfl) ?_
  obtain ⟨sd16z, hM⟩ := M.e_grd hM
  replace sd16z := M.imp_of sd16z
  simp only [Bool.and_eq_true, decide_eq_true_eq] at sd16z
  refine g_val (from_ != to_) (gy_t rfl) (fun hg => x_ix (a := u0_5) (b := I from_) (v := vat u0_5 1 (Int.toNat from_)) rfl (gd_of (c := from_ != to_) hg (I from_)) (Sl.ix (α := List Bool) T145.und T145.size hf15z (by have h1_ := sd16z.resolve_left (by rw [hg]; decide); first | exact h1_ | exact h1_.1 | exact h1_.2 | omega | (have hx_ := hg; simp at hx_; omega)) (by have h1_ := sd16z.resolve_left (by rw [hg]; decide); first | exact h1_ | exact h1_.1 | exact h1_.2 | omega | (have hx_ := hg; simp at hx_; omega)))) ?_
  obtain ⟨u17z, ha_u17z, hs18z⟩ := gd_ex (c := from_ != to_) fun hg => List_at hf15z (i := from_) (by have h1_ := sd16z.resolve_left (by rw [hg]; decide); first | exact h1_ | exact h1_.1 | exact h1_.2 | omega | (have hx_ := hg; simp at hx_; omega)) (by have h1_ := sd16z.resolve_left (by rw [hg]; decide); first | exact h1_ | exact h1_.1 | exact h1_.2 | omega | (have hx_ := hg; simp at hx_; omega))
  replace hs18z : (from_ != to_) = true → Sl _ u17z (r5.getD (Int.toNat from_) ([])) := hs18z
  refine g_val (from_ != to_) (gy_t rfl) (fun hg => x_ld (p := vat u0_5 1 (Int.toNat from_)) (v := u17z) (gd_of (c := from_ != to_) hg (vat u0_5 1 (Int.toNat from_))) (ld_sc Sc147 (At.mono (ha_u17z hg) (roLe _ (H.get (k := 0) rfl))))) <| g_val (from_ != to_) (gy_t rfl) (fun hg => x_mv (v := I to_) rfl) ?_
  obtain ⟨sd19z, hM⟩ := M.e_grd hM
  replace sd19z := M.imp_of sd19z
  simp only [Bool.and_eq_true, decide_eq_true_eq] at sd19z
  refine g_val (from_ != to_) (gy_t rfl) (fun hg => x_ix (a := u17z) (b := I to_) (v := vat u17z 1 (Int.toNat to_)) (gd_of (c := from_ != to_) hg (u17z)) (gd_of (c := from_ != to_) hg (I to_)) (Sl.ix (α := Bool) T147.und T147.size (hs18z hg) (by have h1_ := sd16z.resolve_left (by rw [hg]; decide); have h2_ := sd19z.resolve_left (by rw [hg]; decide); first | exact h1_ | exact h1_.1 | exact h1_.2 | exact h2_ | exact h2_.1 | exact h2_.2 | omega | (have hx_ := hg; simp at hx_; omega)) (by have h1_ := sd16z.resolve_left (by rw [hg]; decide); have h2_ := sd19z.resolve_left (by rw [hg]; decide); first | exact h1_ | exact h1_.1 | exact h1_.2 | exact h2_ | exact h2_.1 | exact h2_.2 | omega | (have hx_ := hg; simp at hx_; omega)))) <| g_val (from_ != to_) (gy_t rfl) (fun hg => x_ld (p := vat u17z 1 (Int.toNat to_)) (v := B ((r5.getD (Int.toNat from_) ([])).getD (Int.toNat to_) false)) (gd_of (c := from_ != to_) hg (vat u17z 1 (Int.toNat to_))) (ld_sc Sc4 (At.mono (Bool_at (hs18z hg) (i := to_) (by have h1_ := sd16z.resolve_left (by rw [hg]; decide); have h2_ := sd19z.resolve_left (by rw [hg]; decide); first | exact h1_ | exact h1_.1 | exact h1_.2 | exact h2_ | exact h2_.1 | exact h2_.2 | omega | (have hx_ := hg; simp at hx_; omega)) (by have h1_ := sd16z.resolve_left (by rw [hg]; decide); have h2_ := sd19z.resolve_left (by rw [hg]; decide); first | exact h1_ | exact h1_.1 | exact h1_.2 | exact h2_ | exact h2_.1 | exact h2_.2 | omega | (have hx_ := hg; simp at hx_; omega))) (roLe _ (H.get (k := 0) rfl))))) <| g_val (from_ != to_) (gy_t rfl) (fun hg => x_not (b := (r5.getD (Int.toNat from_) ([])).getD (Int.toNat to_) false) (gd_of (c := from_ != to_) hg (B ((r5.getD (Int.toNat from_) ([])).getD (Int.toNat to_) false)))) <| s_val (x_pand (b := from_ != to_) (r := !((r5.getD (Int.toNat from_) ([])).getD (Int.toNat to_) false)) rfl (fun hb => gd_of (c := from_ != to_) (by first | exact hb | (rw [hb]; rfl) | simp_all) (B (!((r5.getD (Int.toNat from_) ([])).getD (Int.toNat to_) false)))) rfl) <| s_nil ?_
  refine W.cond ((from_ != to_) && (!((r5.getD (Int.toNat from_) ([])).getD (Int.toNat to_) false))) rfl (fun c20z => ?_) (fun c20z => ?_)
  ·replace hM := M.e_t hM c20z
   refine sQ rfl <| sA (I 5) rfl <| s_nil ?_
   refine W.ret ?_
   have hr_ := M.e_pure hM
   exact ⟨_, resE_tmp rfl, ⟨5, hr_, rfl, (H.pick [] (by decide) rfl)⟩⟩
  replace hM := M.e_f hM c20z
  refine W.skip <| sQ rfl <| sA (I 0) rfl <| s_nil ?_
  refine W.ret ?_
  have hr_ := M.e_pure hM
  exact ⟨_, resE_tmp rfl, ⟨0, hr_, rfl, (H.pick [] (by decide) rfl)⟩⟩
 replace hM := M.e_f hM hg_
 refine g_val (v := I 0) (from_ != to_) (gy_t rfl) (fun hg => Bool.noConfusion (hg_.symm.trans hg)) <| g_val (v := .slice none 0 0) (from_ != to_) (gy_t rfl) (fun hg => Bool.noConfusion (hg_.symm.trans hg)) <| g_val (v := .slice none 0 0) (from_ != to_) (gy_t rfl) (fun hg => Bool.noConfusion (hg_.symm.trans hg)) <| g_val (v := I 0) (from_ != to_) (gy_t rfl) (fun hg => Bool.noConfusion (hg_.symm.trans hg)) <| g_val (v := .slice none 0 0) (from_ != to_) (gy_t rfl) (fun hg => Bool.noConfusion (hg_.symm.trans hg)) <| g_val (v := B false) (from_ != to_) (gy_t rfl) (fun hg => Bool.noConfusion (hg_.symm.trans hg)) <| g_val (v := B false) (from_ != to_) (gy_t rfl) (fun hg => Bool.noConfusion (hg_.symm.trans hg)) <| s_val (x_pand (b := from_ != to_) (r := false) rfl (fun hb => gd_of (c := from_ != to_) (by first | exact hb | (rw [hb]; rfl) | simp_all) (B false)) rfl) <| s_nil ?_
 refine W.cond ((from_ != to_) && false) rfl (fun c21z => ?_) (fun c21z => ?_)
 ·replace hM := M.e_t hM c21z
  refine sQ rfl <| sA (I 5) rfl <| s_nil ?_
  refine W.ret ?_
  have hr_ := M.e_pure hM
  exact ⟨_, resE_tmp rfl, ⟨5, hr_, rfl, H⟩⟩
 replace hM := M.e_f hM c21z
 refine W.skip <| sQ rfl <| sA (I 0) rfl <| s_nil ?_
 refine W.ret ?_
 have hr_ := M.e_pure hM
 exact ⟨_, resE_tmp rfl, ⟨0, hr_, rfl, H⟩⟩

def m_nilometerlaw13_NotesWorks_j0 (w_ : List Work) (line_ : List Int) (r3 : List Work) : M Bool :=
  M.bind (m_nilometerlaw13_same r3 w_) fun r19 =>
  M.bind (M.pure (decide (line_ = line_))) fun s2 =>
  M.bind (M.opt (r19 && s2) (m_nilometerlaw13_awake) false) fun r20 =>
  M.pure ((r19 && s2) && r20)
def m_nilometerlaw13_NotesWorks_j1 (w_ : List Work) (line_ : List Int) (from_ : Int) (to_ : Int) (r3 : List Work) : M Bool :=
  M.bind (m_notes_Order r3) fun (r02, r12) =>
  M.bind (m_nilometerlaw13_Works w_) fun r8 =>
  M.bind (m_nilometerref13_Order r8) fun (r03, r13) =>
  M.bind (M.pure (decide (r02 = r03))) fun s =>
  bif ((!s) || (r12 != r13)) then (
  M.pure false)
  else (
  M.bind (m_notes_Leads r3 line_) fun (r04, r14) =>
  M.bind (m_nilometerlaw13_Works w_) fun r9 =>
  M.bind (m_nilometerref13_Leads r9 line_) fun (r05, r15) =>
  bif ((r04 != r05) || (r14 != r15)) then (
  M.pure false)
  else (
  M.bind (m_notes_Line r3 from_ to_) fun (r06, r16) =>
  M.bind (m_nilometerlaw13_Works w_) fun r10 =>
  M.bind (m_nilometerref13_Ends r10 from_ to_) fun r11 =>
  bif ((r16 != r11) || ((r16 != 0) && (decide (0 < (r06.length : Int))))) then (
  M.pure false)
  else (
  bif r16 == 0 then (
  M.bind (m_nilometerlaw13_Works w_) fun r17 =>
  M.bind (m_nilometerref13_Leads r17 r06) fun (r07, r18) =>
  M.grd ((!(!((r18 != 0) || (!r07))) || (decide (0 < (r06.length : Int))))) <|
  M.grd ((!(!(((r18 != 0) || (!r07)) || ((r06.getD 0 0) != from_))) || (decide ((-9223372036854775808 : Int) ≤ ((r06.length : Int) - 1)) && decide (((r06.length : Int) - 1) ≤ (9223372036854775807 : Int))))) <|
  M.grd ((!(!(((r18 != 0) || (!r07)) || ((r06.getD 0 0) != from_))) || (decide ((0 : Int) ≤ ((r06.length : Int) - 1)) && decide (((r06.length : Int) - 1) < (r06.length : Int))))) <|
  bif ((((r18 != 0) || (!r07)) || ((r06.getD 0 0) != from_)) || ((r06.getD (Int.toNat ((r06.length : Int) - 1)) 0) != to_)) then (
  M.pure false)
  else (
  m_nilometerlaw13_NotesWorks_j0 w_ line_ r3))
  else (
  m_nilometerlaw13_NotesWorks_j0 w_ line_ r3))))
def m_nilometerlaw13_NotesWorks (w_ : List Work) (line_ : List Int) (from_ : Int) (to_ : Int) : M Bool :=
  bif !(littleB w_ ([line_])) then (
  M.bind (m_nilometerlaw13_awake) fun r2 =>
  M.pure r2)
  else (
  M.bind (m_nilometerlaw13_CopyWorks w_) fun r3 =>
  M.grd (decide (line_.length ≤ 1000000)) <|
  M.bind (m_nilometerlaw13_Works w_) fun r4 =>
  M.bind (m_nilometerref13_Check r4) fun r5 =>
  M.bind (m_notes_Check r3) fun r6 =>
  bif r6 != r5 then (
  M.pure false)
  else (
  M.bind (m_notes_Circle r3) fun (r0, r1) =>
  bif r5 == 0 then (
  bif ((r1 != 5) || (decide (0 < (r0.length : Int)))) then (
  M.pure false)
  else (
  m_nilometerlaw13_NotesWorks_j1 w_ line_ from_ to_ r3))
  else (
  bif r5 != 9 then (
  bif ((r1 != r5) || (decide (0 < (r0.length : Int)))) then (
  M.pure false)
  else (
  m_nilometerlaw13_NotesWorks_j1 w_ line_ from_ to_ r3))
  else (
  M.bind (M.opt (!(r1 != 0)) (m_nilometerlaw13_circle w_ r0) false) fun r7 =>
  bif ((r1 != 0) || (!r7)) then (
  M.pure false)
  else (
  m_nilometerlaw13_NotesWorks_j1 w_ line_ from_ to_ r3)))))
theorem nilometerlaw13_NotesWorks_ok {R : List Chunk} {C_w_ : Cells} {v_w_ : Value} {C_line_ : Cells} {v_line_ : Value} (w_ : List Work) (line_ : List Int) (from_ : Int) (to_ : Int) (hC_w_ : Reads R C_w_) (hs_w_ : Sl C_w_ v_w_ w_) (hC_line_ : Reads R C_line_) (hs_line_ : Sl C_line_ v_line_ line_) {r : Bool} (hM : (m_nilometerlaw13_NotesWorks w_ line_ from_ to_).Ends r) (w : World) (H : St w w [] R) : Ret Try.prog 13 #[v_w_, v_line_, I from_, I to_] w fun v w' => ∃ (y0 : Bool), y0 = r ∧ v = B y0 ∧ St w w' [] R := by
 refine ret_of_W Try.func13 rfl rfl rfl ?_
 refine sQ rfl <| sA (B false) rfl <| s_nil <| W.seq <| sQ rfl <| sM v_w_ rfl <| sM v_line_ rfl ?_
 obtain ⟨Bs_1, H⟩ := H.emptyE
 have hq1z := hs_line_
 replace hq1z := hq1z.mono (Cells.sup_l _ Bs_1.cells)
 obtain ⟨rw2z, hrw_rw2z⟩ : ∃ r : Raw 0, r.cs = [v_line_] := ⟨Raw.of [v_line_] rfl (by simp only [List.all_cons, List.all_nil, Bool.true_and, Bool.and_true, Sl.oc hq1z]; try rfl), rfl⟩
 have hr3z : RepR (α := List Int) (Cells.sup C_line_ Bs_1.cells) [rw2z] [line_] := .cons (by rw [hrw_rw2z]; exact ⟨_, rfl, hq1z⟩) <| .nil
 refine t_bs (α := Raw 0) T73 [v_line_] [rw2z] H rfl (.cons (by rw [show (Flat.enc rw2z : List Value) = rw2z.cs from rfl, hrw_rw2z]; exact Sl.cells hq1z) (Flat.rep_enc _ _) <| .nil) rfl rfl rfl ?_
 intro v4z w5z H
 replace H : St w w5z [cOwn (α := Raw 0) 34 v4z ([rw2z]), cRo Bs_1] R := H
 refine s_call cf16 [v_w_, v4z] rfl (little_any _ (hs_w_.mono (hC_w_.at H)) ((rowSl rfl (H.get (k := 0) rfl) (Cells.sup_le (hC_line_.at H) (roLe _ (H.get (k := 1) rfl))) hr3z).mono (Cells.sup_le (ownLe _ (H.get (k := 0) rfl)) (Cells.sup_le (hC_line_.at H) (roLe _ (H.get (k := 1) rfl)))))) ?_
 rintro _ w6z ⟨rfl, hx_⟩
 replace H : St w w6z [cOwn (α := Raw 0) 34 v4z ([rw2z]), cRo Bs_1] R := H.ext hx_
 clear hx_
 refine s_val (x_not (b := littleB w_ ([line_])) rfl) <| s_nil ?_
 refine W.cond (!(littleB w_ ([line_]))) rfl (fun c7z => ?_) (fun c7z => ?_)
 ·replace hM := M.e_t hM c7z
  refine sQ rfl ?_
  obtain ⟨r9z, hx8z, hM⟩ := M.e_bind hM
  refine s_call cf17 [] rfl (nilometerlaw13_awake_ok hx8z _ (St.give (T := [cOwn (α := Raw 0) 34 v4z ([rw2z]), cRo Bs_1]) H rfl)) ?_
  rintro vq w10z ⟨r2, hr11z, hvq, H2_⟩
  subst hr11z
  subst vq
  try dsimp only at hM
  replace H : St w w10z [cOwn (α := Raw 0) 34 v4z ([rw2z]), cRo Bs_1] R := H.back H2_ rfl
  clear H2_
  refine sA (B r2) rfl <| s_nil ?_
  refine W.ret ?_
  have hr_ := M.e_pure hM
  exact ⟨_, resE_tmp rfl, ⟨r2, hr_, rfl, (H.pick [] (by decide) rfl)⟩⟩
 replace hM := M.e_f hM c7z
 refine W.skip <| sQ rfl <| sM v_w_ rfl ?_
 obtain ⟨r13z, hx12z, hM⟩ := M.e_bind hM
 refine s_call cf18 [v_w_] rfl (nilometerlaw13_CopyWorks_ok w_ (hC_w_.app _) hs_w_ hx12z _ (St.give (T := [cOwn (α := Raw 0) 34 v4z ([rw2z]), cRo Bs_1]) H rfl)) ?_
 rintro vq w14z ⟨r3, u0_3, rr1_4, Bs2_5, hr15z, hvq, H2_, hf16z⟩
 subst hr15z
 subst vq
 try dsimp only at hM
 replace H : St w w14z [cOwn (α := Raw 2) 60 u0_3 rr1_4, cRo Bs2_5, cOwn (α := Raw 0) 34 v4z ([rw2z]), cRo Bs_1] R := H.back H2_ rfl
 clear H2_
 refine sM v_line_ rfl ?_
 obtain ⟨sd17z, hM⟩ := M.e_gd hM
 refine s_call cf31 [v_line_] rfl (copy_int _ (hs_line_.mono (hC_line_.at H)) (by omega)) ?_
 rintro v19z w18z ⟨ho_, hx_⟩
 replace H : St w w18z [cOwn (α := Int) 3 v19z line_, cOwn (α := Raw 2) 60 u0_3 rr1_4, cRo Bs2_5, cOwn (α := Raw 0) 34 v4z ([rw2z]), cRo Bs_1] R := H.ownOf hx_ ho_
 clear hx_ ho_
 refine sA u0_3 rfl <| sA v19z rfl <| s_nil <| sQ rfl <| sM v_w_ rfl ?_
 obtain ⟨r21z, hx20z, hM⟩ := M.e_bind hM
 refine s_call cf23 [v_w_] rfl (nilometerlaw13_Works_ok w_ (hC_w_.app _) hs_w_ hx20z _ (St.give (T := [cOwn (α := Int) 3 v19z line_, cOwn (α := Raw 2) 60 u0_3 rr1_4, cRo Bs2_5, cOwn (α := Raw 0) 34 v4z ([rw2z]), cRo Bs_1]) H rfl)) ?_
 rintro vq w22z ⟨r4, u0_7, rr1_8, Bs2_9, hr23z, hvq, H2_, hf24z⟩
 subst hr23z
 subst vq
 try dsimp only at hM
 replace H : St w w22z [cOwn (α := Raw 2) 138 u0_7 rr1_8, cRo Bs2_9, cOwn (α := Int) 3 v19z line_, cOwn (α := Raw 2) 60 u0_3 rr1_4, cRo Bs2_5, cOwn (α := Raw 0) 34 v4z ([rw2z]), cRo Bs_1] R := H.back H2_ rfl
 clear H2_
 obtain ⟨r26z, hx25z, hM⟩ := M.e_bind hM
 refine s_call cf71 [u0_7] rfl (nilometerref13_Check_ok r4 (Reads.sup (Reads.of (k := 0) rfl ownLe) (Reads.of (k := 1) rfl roLe)) (rowSl rfl (H.get (k := 0) rfl) (roLe _ (H.get (k := 1) rfl)) hf24z) hx25z _ (St.give (T := [cOwn (α := Raw 2) 138 u0_7 rr1_8, cRo Bs2_9, cOwn (α := Int) 3 v19z line_, cOwn (α := Raw 2) 60 u0_3 rr1_4, cRo Bs2_5, cOwn (α := Raw 0) 34 v4z ([rw2z]), cRo Bs_1]) H rfl)) ?_
 rintro vq w27z ⟨r5, hr28z, hvq, H2_⟩
 subst hr28z
 subst vq
 try dsimp only at hM
 replace H : St w w27z [cOwn (α := Raw 2) 138 u0_7 rr1_8, cRo Bs2_9, cOwn (α := Int) 3 v19z line_, cOwn (α := Raw 2) 60 u0_3 rr1_4, cRo Bs2_5, cOwn (α := Raw 0) 34 v4z ([rw2z]), cRo Bs_1] R := H.back H2_ rfl
 clear H2_
 refine sA (I r5) rfl <| s_nil <| W.seq <| sQ rfl <| sM u0_3 rfl ?_
 obtain ⟨r30z, hx29z, hM⟩ := M.e_bind hM
 refine s_call cf68 [u0_3] rfl (notes_Check_ok r3 (Reads.sup (Reads.of (k := 3) rfl ownLe) (Reads.sup (hC_w_.app _) (Reads.of (k := 4) rfl roLe))) (rowSl rfl (H.get (k := 3) rfl) (Cells.sup_le (hC_w_.at H) (roLe _ (H.get (k := 4) rfl))) hf16z) hx29z _ (St.give (T := [cOwn (α := Raw 2) 138 u0_7 rr1_8, cRo Bs2_9, cOwn (α := Int) 3 v19z line_, cOwn (α := Raw 2) 60 u0_3 rr1_4, cRo Bs2_5, cOwn (α := Raw 0) 34 v4z ([rw2z]), cRo Bs_1]) H rfl)) ?_
 rintro vq w31z ⟨r6, hr32z, hvq, H2_⟩
 subst hr32z
 subst vq
 try dsimp only at hM
 replace H : St w w31z [cOwn (α := Raw 2) 138 u0_7 rr1_8, cRo Bs2_9, cOwn (α := Int) 3 v19z line_, cOwn (α := Raw 2) 60 u0_3 rr1_4, cRo Bs2_5, cOwn (α := Raw 0) 34 v4z ([rw2z]), cRo Bs_1] R := H.back H2_ rfl
 clear H2_
 refine sM (I r5) rfl <| sC r6 r5 (r6 != r5) rfl rfl rfl <| s_nil ?_
 refine W.cond (r6 != r5) rfl (fun c33z => ?_) (fun c33z => ?_)
 ·replace hM := M.e_t hM c33z
  simp only [qz1, qz2, qz3, qz4, qz5, qz6, ne_eq, qz7] at c33z
  refine sQ rfl <| sA (B false) rfl <| s_nil ?_
  refine W.ret ?_
  have hr_ := M.e_pure hM
  exact ⟨_, resE_tmp rfl, ⟨false, hr_, rfl, (H.pick [] (by decide) rfl)⟩⟩
 replace hM := M.e_f hM c33z
 simp only [qz1, qz2, qz3, qz4, qz5, qz6, ne_eq, qz7] at c33z
 refine W.skip <| sQ rfl <| sM u0_3 rfl ?_
 obtain ⟨r35z, hx34z, hM⟩ := M.e_bind hM
 refine s_call cf67 [u0_3] rfl (notes_Circle_ok r3 (Reads.sup (Reads.of (k := 3) rfl ownLe) (Reads.sup (hC_w_.app _) (Reads.of (k := 4) rfl roLe))) (rowSl rfl (H.get (k := 3) rfl) (Cells.sup_le (hC_w_.at H) (roLe _ (H.get (k := 4) rfl))) hf16z) hx34z _ (St.give (T := [cOwn (α := Raw 2) 138 u0_7 rr1_8, cRo Bs2_9, cOwn (α := Int) 3 v19z line_, cOwn (α := Raw 2) 60 u0_3 rr1_4, cRo Bs2_5, cOwn (α := Raw 0) 34 v4z ([rw2z]), cRo Bs_1]) H rfl)) ?_
 rintro vq w36z ⟨r0, r1, u0_10, hr37z, hvq, H2_⟩
 subst hr37z
 subst vq
 try dsimp only at hM
 replace H : St w w36z [cOwn (α := Int) 3 u0_10 r0, cOwn (α := Raw 2) 138 u0_7 rr1_8, cRo Bs2_9, cOwn (α := Int) 3 v19z line_, cOwn (α := Raw 2) 60 u0_3 rr1_4, cRo Bs2_5, cOwn (α := Raw 0) 34 v4z ([rw2z]), cRo Bs_1] R := H.back H2_ rfl
 clear H2_
 refine sM (.tuple #[u0_10, I r1]) rfl <| sX [u0_10, I r1] u0_10 rfl rfl <| sX [u0_10, I r1] (I r1) rfl rfl <| sA u0_10 rfl <| sA (I r1) rfl <| s_nil ?_
 refine W.seqJ (fun σ W => ∃ (ρ : Env), σ = upds ρ [(0, v_w_), (1, v_line_), (2, I from_), (3, I to_), (9, u0_3), (10, v19z)] ∧ (m_nilometerlaw13_NotesWorks_j1 w_ line_ from_ to_ r3).Ends r ∧ St w W [cOwn (α := Int) 3 u0_10 r0, cOwn (α := Raw 2) 138 u0_7 rr1_8, cRo Bs2_9, cOwn (α := Int) 3 v19z line_, cOwn (α := Raw 2) 60 u0_3 rr1_4, cRo Bs2_5, cOwn (α := Raw 0) 34 v4z ([rw2z]), cRo Bs_1] R) ?_ ?_
 ·skip
  refine sQ rfl <| sM (I r5) rfl <| sC r5 0 (r5 == 0) rfl rfl rfl <| s_nil ?_
  refine W.cond (r5 == 0) rfl (fun c38z => ?_) (fun c38z => ?_)
  ·replace hM := M.e_t hM c38z
   simp only [qz1, qz2, qz3, qz4, qz5, qz6, ne_eq, qz7] at c38z
   refine sQ rfl <| sM (I r1) rfl <| sC r1 5 (r1 != 5) rfl rfl rfl <| sM (B (r1 != 5)) rfl <| g_val (!(r1 != 5)) (gy_f rfl) (fun hg => x_mv (v := u0_10) rfl) <| g_val (!(r1 != 5)) (gy_f rfl) (fun hg => x_lenS T34.und (gd_of (c := !(r1 != 5)) hg (u0_10)) (ownSl (H.get (k := 0) rfl))) <| g_val (!(r1 != 5)) (gy_f rfl) (fun hg => x_cmp (kd := .i64) (a := (r0.length : Int)) (b := 0) (r := decide (0 < (r0.length : Int))) (gd_of (c := !(r1 != 5)) hg (I (r0.length : Int))) rfl rfl) <| s_val (x_por (b := r1 != 5) (r := decide (0 < (r0.length : Int))) rfl rfl (fun hb => gd_of (c := !(r1 != 5)) (by first | exact hb | (rw [hb]; rfl) | simp_all) (B (decide (0 < (r0.length : Int)))))) <| s_nil ?_
   refine W.cond ((r1 != 5) || (decide (0 < (r0.length : Int)))) rfl (fun c40z => ?_) (fun c40z => ?_)
   ·replace hM := M.e_t hM c40z
    refine sQ rfl <| sA (B false) rfl <| s_nil ?_
    refine W.ret ?_
    have hr_ := M.e_pure hM
    exact ⟨_, resE_tmp rfl, ⟨false, hr_, rfl, (H.pick [] (by decide) rfl)⟩⟩
   replace hM := M.e_f hM c40z
   refine W.skip ?_
   exact ⟨_, upds_of _ _ ⟨rfl, rfl, rfl, rfl, rfl, rfl, trivial⟩, hM, H⟩
  replace hM := M.e_f hM c38z
  simp only [qz1, qz2, qz3, qz4, qz5, qz6, ne_eq, qz7] at c38z
  refine sQ rfl <| sM (I r5) rfl <| sC r5 9 (r5 != 9) rfl rfl rfl <| s_nil ?_
  refine W.cond (r5 != 9) rfl (fun c41z => ?_) (fun c41z => ?_)
  ·replace hM := M.e_t hM c41z
   simp only [qz1, qz2, qz3, qz4, qz5, qz6, ne_eq, qz7] at c41z
   refine sQ rfl <| sM (I r1) rfl <| sM (I r5) rfl <| sC r1 r5 (r1 != r5) rfl rfl rfl <| sM (B (r1 != r5)) rfl <| g_val (!(r1 != r5)) (gy_f rfl) (fun hg => x_mv (v := u0_10) rfl) <| g_val (!(r1 != r5)) (gy_f rfl) (fun hg => x_lenS T34.und (gd_of (c := !(r1 != r5)) hg (u0_10)) (ownSl (H.get (k := 0) rfl))) <| g_val (!(r1 != r5)) (gy_f rfl) (fun hg => x_cmp (kd := .i64) (a := (r0.length : Int)) (b := 0) (r := decide (0 < (r0.length : Int))) (gd_of (c := !(r1 != r5)) hg (I (r0.length : Int))) rfl rfl) <| s_val (x_por (b := r1 != r5) (r := decide (0 < (r0.length : Int))) rfl rfl (fun hb => gd_of (c := !(r1 != r5)) (by first | exact hb | (rw [hb]; rfl) | simp_all) (B (decide (0 < (r0.length : Int)))))) <| s_nil ?_
   refine W.cond ((r1 != r5) || (decide (0 < (r0.length : Int)))) rfl (fun c43z => ?_) (fun c43z => ?_)
   ·replace hM := M.e_t hM c43z
    refine sQ rfl <| sA (B false) rfl <| s_nil ?_
    refine W.ret ?_
    have hr_ := M.e_pure hM
    exact ⟨_, resE_tmp rfl, ⟨false, hr_, rfl, (H.pick [] (by decide) rfl)⟩⟩
   replace hM := M.e_f hM c43z
   refine W.skip ?_
   exact ⟨_, upds_of _ _ ⟨rfl, rfl, rfl, rfl, rfl, rfl, trivial⟩, hM, H⟩
  replace hM := M.e_f hM c41z
  simp only [qz1, qz2, qz3, qz4, qz5, qz6, ne_eq, qz7] at c41z
  refine sQ rfl <| sM (I r1) rfl <| sC r1 0 (r1 != 0) rfl rfl rfl <| sM (B (r1 != 0)) rfl <| g_val (!(r1 != 0)) (gy_f rfl) (fun hg => x_mv (v := v_w_) rfl) <| g_val (!(r1 != 0)) (gy_f rfl) (fun hg => x_mv (v := u0_10) rfl) ?_
  obtain ⟨r7, hx44z, hM⟩ := M.e_bind hM
  refine t_gcall (!(r1 != 0)) (gy_f rfl) cf69 (B r7) (fun _ => [v_w_, u0_10]) (fun hg => lst2 (gd_of (c := !(r1 != 0)) hg (v_w_)) (gd_of (c := !(r1 != 0)) hg (u0_10))) H (fun hg => (nilometerlaw13_circle_ok w_ r0 (hC_w_.app _) hs_w_ (Reads.of (k := 0) rfl ownLe) (ownSl (H.get (k := 0) rfl)) (M.e_opt hx44z hg) _ (H.give (A := []) rfl)).mono fun v_ w_ ⟨y_, hr_, hv_, H_⟩ => by subst hr_; exact ⟨hv_, H.via H_⟩) ?_
  intro w45z H
  refine g_val (!(r1 != 0)) (gy_f rfl) (fun hg => x_not (b := r7) (gd_of (c := !(r1 != 0)) hg (B r7))) <| s_val (x_por (b := r1 != 0) (r := !r7) rfl rfl (fun hb => gd_of (c := !(r1 != 0)) (by first | exact hb | (rw [hb]; rfl) | simp_all) (B (!r7)))) <| s_nil ?_
  refine W.cond ((r1 != 0) || (!r7)) rfl (fun c46z => ?_) (fun c46z => ?_)
  ·replace hM := M.e_t hM c46z
   refine sQ rfl <| sA (B false) rfl <| s_nil ?_
   refine W.ret ?_
   have hr_ := M.e_pure hM
   exact ⟨_, resE_tmp rfl, ⟨false, hr_, rfl, (H.pick [] (by decide) rfl)⟩⟩
  replace hM := M.e_f hM c46z
  refine W.skip ?_
  exact ⟨_, upds_of _ _ ⟨rfl, rfl, rfl, rfl, rfl, rfl, trivial⟩, hM, H⟩
 rintro _ w47z ⟨ρ, rfl, hM, H⟩
 unfold m_nilometerlaw13_NotesWorks_j1 at hM
 refine sQ rfl <| sM u0_3 rfl ?_
 obtain ⟨r49z, hx48z, hM⟩ := M.e_bind hM
 refine s_call cf54 [u0_3] rfl (notes_Order_ok r3 (Reads.sup (Reads.of (k := 4) rfl ownLe) (Reads.sup (hC_w_.app _) (Reads.of (k := 5) rfl roLe))) (rowSl rfl (H.get (k := 4) rfl) (Cells.sup_le (hC_w_.at H) (roLe _ (H.get (k := 5) rfl))) hf16z) hx48z _ (St.give (T := [cOwn (α := Int) 3 u0_10 r0, cOwn (α := Raw 2) 138 u0_7 rr1_8, cRo Bs2_9, cOwn (α := Int) 3 v19z line_, cOwn (α := Raw 2) 60 u0_3 rr1_4, cRo Bs2_5, cOwn (α := Raw 0) 34 v4z ([rw2z]), cRo Bs_1]) H rfl)) ?_
 rintro vq w50z ⟨r02, r12, u0_11, Bs1_12, hr51z, hvq, H2_, hf52z⟩
 subst hr51z
 subst vq
 try dsimp only at hM
 replace H : St w w50z [cRo Bs1_12, cOwn (α := Int) 3 u0_10 r0, cOwn (α := Raw 2) 138 u0_7 rr1_8, cRo Bs2_9, cOwn (α := Int) 3 v19z line_, cOwn (α := Raw 2) 60 u0_3 rr1_4, cRo Bs2_5, cOwn (α := Raw 0) 34 v4z ([rw2z]), cRo Bs_1] R := H.back H2_ rfl
 clear H2_
 refine sM (.tuple #[u0_11, I r12]) rfl <| sX [u0_11, I r12] u0_11 rfl rfl <| sX [u0_11, I r12] (I r12) rfl rfl <| sA u0_11 rfl <| sA (I r12) rfl <| s_nil <| sQ rfl <| sM v_w_ rfl ?_
 obtain ⟨r54z, hx53z, hM⟩ := M.e_bind hM
 refine s_call cf23 [v_w_] rfl (nilometerlaw13_Works_ok w_ (hC_w_.app _) hs_w_ hx53z _ (St.give (T := [cRo Bs1_12, cOwn (α := Int) 3 u0_10 r0, cOwn (α := Raw 2) 138 u0_7 rr1_8, cRo Bs2_9, cOwn (α := Int) 3 v19z line_, cOwn (α := Raw 2) 60 u0_3 rr1_4, cRo Bs2_5, cOwn (α := Raw 0) 34 v4z ([rw2z]), cRo Bs_1]) H rfl)) ?_
 rintro vq w55z ⟨r8, u0_13, rr1_14, Bs2_15, hr56z, hvq, H2_, hf57z⟩
 subst hr56z
 subst vq
 try dsimp only at hM
 replace H : St w w55z [cOwn (α := Raw 2) 138 u0_13 rr1_14, cRo Bs2_15, cRo Bs1_12, cOwn (α := Int) 3 u0_10 r0, cOwn (α := Raw 2) 138 u0_7 rr1_8, cRo Bs2_9, cOwn (α := Int) 3 v19z line_, cOwn (α := Raw 2) 60 u0_3 rr1_4, cRo Bs2_5, cOwn (α := Raw 0) 34 v4z ([rw2z]), cRo Bs_1] R := H.back H2_ rfl
 clear H2_
 obtain ⟨r59z, hx58z, hM⟩ := M.e_bind hM
 refine s_call cf72 [u0_13] rfl (nilometerref13_Order_ok r8 (Reads.sup (Reads.of (k := 0) rfl ownLe) (Reads.of (k := 1) rfl roLe)) (rowSl rfl (H.get (k := 0) rfl) (roLe _ (H.get (k := 1) rfl)) hf57z) hx58z _ (St.give (T := [cOwn (α := Raw 2) 138 u0_13 rr1_14, cRo Bs2_15, cRo Bs1_12, cOwn (α := Int) 3 u0_10 r0, cOwn (α := Raw 2) 138 u0_7 rr1_8, cRo Bs2_9, cOwn (α := Int) 3 v19z line_, cOwn (α := Raw 2) 60 u0_3 rr1_4, cRo Bs2_5, cOwn (α := Raw 0) 34 v4z ([rw2z]), cRo Bs_1]) H rfl)) ?_
 rintro vq w60z ⟨r03, r13, u0_16, hr61z, hvq, H2_⟩
 subst hr61z
 subst vq
 try dsimp only at hM
 replace H : St w w60z [cOwn (α := Int) 3 u0_16 r03, cOwn (α := Raw 2) 138 u0_13 rr1_14, cRo Bs2_15, cRo Bs1_12, cOwn (α := Int) 3 u0_10 r0, cOwn (α := Raw 2) 138 u0_7 rr1_8, cRo Bs2_9, cOwn (α := Int) 3 v19z line_, cOwn (α := Raw 2) 60 u0_3 rr1_4, cRo Bs2_5, cOwn (α := Raw 0) 34 v4z ([rw2z]), cRo Bs_1] R := H.back H2_ rfl
 clear H2_
 refine sM (.tuple #[u0_16, I r13]) rfl <| sX [u0_16, I r13] u0_16 rfl rfl <| sX [u0_16, I r13] (I r13) rfl rfl <| sA u0_16 rfl <| sA (I r13) rfl <| s_nil <| W.seq <| sQ rfl <| sM u0_11 rfl <| sM u0_16 rfl ?_
 obtain ⟨s, hx62z, hM⟩ := M.e_bind hM
 replace hx62z := M.e_pure hx62z
 refine s_call cf25 [u0_11, u0_16] rfl (by have hc_ := (same_int _ (hf52z.mono (roLe _ (H.get (k := 3) rfl))) ((ownSl (H.get (k := 0) rfl)).mono (ownLe _ (H.get (k := 0) rfl)))); rw [hx62z] at hc_; exact hc_) ?_
 rintro _ w63z ⟨rfl, hx_⟩
 replace H : St w w63z [cOwn (α := Int) 3 u0_16 r03, cOwn (α := Raw 2) 138 u0_13 rr1_14, cRo Bs2_15, cRo Bs1_12, cOwn (α := Int) 3 u0_10 r0, cOwn (α := Raw 2) 138 u0_7 rr1_8, cRo Bs2_9, cOwn (α := Int) 3 v19z line_, cOwn (α := Raw 2) 60 u0_3 rr1_4, cRo Bs2_5, cOwn (α := Raw 0) 34 v4z ([rw2z]), cRo Bs_1] R := H.ext hx_
 clear hx_
 refine s_val (x_not (b := s) rfl) <| sM (B (!s)) rfl <| g_val (!(!s)) (gy_f rfl) (fun hg => x_mv (v := I r12) rfl) <| g_val (!(!s)) (gy_f rfl) (fun hg => x_mv (v := I r13) rfl) <| g_val (!(!s)) (gy_f rfl) (fun hg => x_cmp (kd := .i64) (a := r12) (b := r13) (r := r12 != r13) (gd_of (c := !(!s)) hg (I r12)) (gd_of (c := !(!s)) hg (I r13)) rfl) <| s_val (x_por (b := !s) (r := r12 != r13) rfl rfl (fun hb => gd_of (c := !(!s)) (by first | exact hb | (rw [hb]; rfl) | simp_all) (B (r12 != r13)))) <| s_nil ?_
 refine W.cond ((!s) || (r12 != r13)) rfl (fun c64z => ?_) (fun c64z => ?_)
 ·replace hM := M.e_t hM c64z
  refine sQ rfl <| sA (B false) rfl <| s_nil ?_
  refine W.ret ?_
  have hr_ := M.e_pure hM
  exact ⟨_, resE_tmp rfl, ⟨false, hr_, rfl, (H.pick [] (by decide) rfl)⟩⟩
 replace hM := M.e_f hM c64z
 refine W.skip <| sQ rfl <| sM u0_3 rfl <| sM v19z rfl ?_
 obtain ⟨r66z, hx65z, hM⟩ := M.e_bind hM
 refine s_call cf51 [u0_3, v19z] rfl (notes_Leads_ok r3 line_ (Reads.sup (Reads.of (k := 8) rfl ownLe) (Reads.sup (hC_w_.app _) (Reads.of (k := 9) rfl roLe))) (rowSl rfl (H.get (k := 8) rfl) (Cells.sup_le (hC_w_.at H) (roLe _ (H.get (k := 9) rfl))) hf16z) (Reads.of (k := 7) rfl ownLe) (ownSl (H.get (k := 7) rfl)) hx65z _ (St.give (T := [cOwn (α := Int) 3 u0_16 r03, cOwn (α := Raw 2) 138 u0_13 rr1_14, cRo Bs2_15, cRo Bs1_12, cOwn (α := Int) 3 u0_10 r0, cOwn (α := Raw 2) 138 u0_7 rr1_8, cRo Bs2_9, cOwn (α := Int) 3 v19z line_, cOwn (α := Raw 2) 60 u0_3 rr1_4, cRo Bs2_5, cOwn (α := Raw 0) 34 v4z ([rw2z]), cRo Bs_1]) H rfl)) ?_
 rintro vq w67z ⟨r04, r14, hr68z, hvq, H2_⟩
 subst hr68z
 subst vq
 try dsimp only at hM
 replace H : St w w67z [cOwn (α := Int) 3 u0_16 r03, cOwn (α := Raw 2) 138 u0_13 rr1_14, cRo Bs2_15, cRo Bs1_12, cOwn (α := Int) 3 u0_10 r0, cOwn (α := Raw 2) 138 u0_7 rr1_8, cRo Bs2_9, cOwn (α := Int) 3 v19z line_, cOwn (α := Raw 2) 60 u0_3 rr1_4, cRo Bs2_5, cOwn (α := Raw 0) 34 v4z ([rw2z]), cRo Bs_1] R := H.back H2_ rfl
 clear H2_
 refine sM (.tuple #[B r04, I r14]) rfl <| sX [B r04, I r14] (B r04) rfl rfl <| sX [B r04, I r14] (I r14) rfl rfl <| sA (B r04) rfl <| sA (I r14) rfl <| s_nil <| sQ rfl <| sM v_w_ rfl ?_
 obtain ⟨r70z, hx69z, hM⟩ := M.e_bind hM
 refine s_call cf23 [v_w_] rfl (nilometerlaw13_Works_ok w_ (hC_w_.app _) hs_w_ hx69z _ (St.give (T := [cOwn (α := Int) 3 u0_16 r03, cOwn (α := Raw 2) 138 u0_13 rr1_14, cRo Bs2_15, cRo Bs1_12, cOwn (α := Int) 3 u0_10 r0, cOwn (α := Raw 2) 138 u0_7 rr1_8, cRo Bs2_9, cOwn (α := Int) 3 v19z line_, cOwn (α := Raw 2) 60 u0_3 rr1_4, cRo Bs2_5, cOwn (α := Raw 0) 34 v4z ([rw2z]), cRo Bs_1]) H rfl)) ?_
 rintro vq w71z ⟨r9, u0_17, rr1_18, Bs2_19, hr72z, hvq, H2_, hf73z⟩
 subst hr72z
 subst vq
 try dsimp only at hM
 replace H : St w w71z [cOwn (α := Raw 2) 138 u0_17 rr1_18, cRo Bs2_19, cOwn (α := Int) 3 u0_16 r03, cOwn (α := Raw 2) 138 u0_13 rr1_14, cRo Bs2_15, cRo Bs1_12, cOwn (α := Int) 3 u0_10 r0, cOwn (α := Raw 2) 138 u0_7 rr1_8, cRo Bs2_9, cOwn (α := Int) 3 v19z line_, cOwn (α := Raw 2) 60 u0_3 rr1_4, cRo Bs2_5, cOwn (α := Raw 0) 34 v4z ([rw2z]), cRo Bs_1] R := H.back H2_ rfl
 clear H2_
 refine sM v_line_ rfl ?_
 obtain ⟨r75z, hx74z, hM⟩ := M.e_bind hM
 refine s_call cf39 [u0_17, v_line_] rfl (nilometerref13_Leads_ok r9 line_ (Reads.sup (Reads.of (k := 0) rfl ownLe) (Reads.of (k := 1) rfl roLe)) (rowSl rfl (H.get (k := 0) rfl) (roLe _ (H.get (k := 1) rfl)) hf73z) (hC_line_.app _) hs_line_ hx74z _ (St.give (T := [cOwn (α := Raw 2) 138 u0_17 rr1_18, cRo Bs2_19, cOwn (α := Int) 3 u0_16 r03, cOwn (α := Raw 2) 138 u0_13 rr1_14, cRo Bs2_15, cRo Bs1_12, cOwn (α := Int) 3 u0_10 r0, cOwn (α := Raw 2) 138 u0_7 rr1_8, cRo Bs2_9, cOwn (α := Int) 3 v19z line_, cOwn (α := Raw 2) 60 u0_3 rr1_4, cRo Bs2_5, cOwn (α := Raw 0) 34 v4z ([rw2z]), cRo Bs_1]) H rfl)) ?_
 rintro vq w76z ⟨r05, r15, hr77z, hvq, H2_⟩
 subst hr77z
 subst vq
 try dsimp only at hM
 replace H : St w w76z [cOwn (α := Raw 2) 138 u0_17 rr1_18, cRo Bs2_19, cOwn (α := Int) 3 u0_16 r03, cOwn (α := Raw 2) 138 u0_13 rr1_14, cRo Bs2_15, cRo Bs1_12, cOwn (α := Int) 3 u0_10 r0, cOwn (α := Raw 2) 138 u0_7 rr1_8, cRo Bs2_9, cOwn (α := Int) 3 v19z line_, cOwn (α := Raw 2) 60 u0_3 rr1_4, cRo Bs2_5, cOwn (α := Raw 0) 34 v4z ([rw2z]), cRo Bs_1] R := H.back H2_ rfl
 clear H2_
 refine sM (.tuple #[B r05, I r15]) rfl <| sX [B r05, I r15] (B r05) rfl rfl <| sX [B r05, I r15] (I r15) rfl rfl <| sA (B r05) rfl <| sA (I r15) rfl <| s_nil <| W.seq <| sQ rfl <| sM (B r04) rfl <| sM (B r05) rfl <| s_val (x_eqb (a := r04) (b := r05) (r := (r04 != r05)) rfl rfl Try.underlying4 rfl) ?_
 refine sM (B (r04 != r05)) rfl <| g_val (!(r04 != r05)) (gy_f rfl) (fun hg => x_mv (v := I r14) rfl) <| g_val (!(r04 != r05)) (gy_f rfl) (fun hg => x_mv (v := I r15) rfl) <| g_val (!(r04 != r05)) (gy_f rfl) (fun hg => x_cmp (kd := .i64) (a := r14) (b := r15) (r := r14 != r15) (gd_of (c := !(r04 != r05)) hg (I r14)) (gd_of (c := !(r04 != r05)) hg (I r15)) rfl) <| s_val (x_por (b := (r04 != r05)) (r := r14 != r15) rfl rfl (fun hb => gd_of (c := !(r04 != r05)) (by first | exact hb | (rw [hb]; rfl) | simp_all) (B (r14 != r15)))) <| s_nil ?_
 refine W.cond ((r04 != r05) || (r14 != r15)) rfl (fun c78z => ?_) (fun c78z => ?_)
 ·replace hM := M.e_t hM c78z
  refine sQ rfl <| sA (B false) rfl <| s_nil ?_
  refine W.ret ?_
  have hr_ := M.e_pure hM
  exact ⟨_, resE_tmp rfl, ⟨false, hr_, rfl, (H.pick [] (by decide) rfl)⟩⟩
 replace hM := M.e_f hM c78z
 refine W.skip <| sQ rfl <| sM u0_3 rfl <| sM (I from_) rfl <| sM (I to_) rfl ?_
 obtain ⟨r80z, hx79z, hM⟩ := M.e_bind hM
 refine s_call cf53 [u0_3, I from_, I to_] rfl (notes_Line_ok r3 from_ to_ (Reads.sup (Reads.of (k := 10) rfl ownLe) (Reads.sup (hC_w_.app _) (Reads.of (k := 11) rfl roLe))) (rowSl rfl (H.get (k := 10) rfl) (Cells.sup_le (hC_w_.at H) (roLe _ (H.get (k := 11) rfl))) hf16z) hx79z _ (St.give (T := [cOwn (α := Raw 2) 138 u0_17 rr1_18, cRo Bs2_19, cOwn (α := Int) 3 u0_16 r03, cOwn (α := Raw 2) 138 u0_13 rr1_14, cRo Bs2_15, cRo Bs1_12, cOwn (α := Int) 3 u0_10 r0, cOwn (α := Raw 2) 138 u0_7 rr1_8, cRo Bs2_9, cOwn (α := Int) 3 v19z line_, cOwn (α := Raw 2) 60 u0_3 rr1_4, cRo Bs2_5, cOwn (α := Raw 0) 34 v4z ([rw2z]), cRo Bs_1]) H rfl)) ?_
 rintro vq w81z ⟨r06, r16, u0_20, hr82z, hvq, H2_⟩
 subst hr82z
 subst vq
 try dsimp only at hM
 replace H : St w w81z [cOwn (α := Int) 3 u0_20 r06, cOwn (α := Raw 2) 138 u0_17 rr1_18, cRo Bs2_19, cOwn (α := Int) 3 u0_16 r03, cOwn (α := Raw 2) 138 u0_13 rr1_14, cRo Bs2_15, cRo Bs1_12, cOwn (α := Int) 3 u0_10 r0, cOwn (α := Raw 2) 138 u0_7 rr1_8, cRo Bs2_9, cOwn (α := Int) 3 v19z line_, cOwn (α := Raw 2) 60 u0_3 rr1_4, cRo Bs2_5, cOwn (α := Raw 0) 34 v4z ([rw2z]), cRo Bs_1] R := H.back H2_ rfl
 clear H2_
 refine sM (.tuple #[u0_20, I r16]) rfl <| sX [u0_20, I r16] u0_20 rfl rfl <| sX [u0_20, I r16] (I r16) rfl rfl <| sA u0_20 rfl <| sA (I r16) rfl <| s_nil <| W.seq <| sQ rfl <| sM (I r16) rfl <| sM v_w_ rfl ?_
 obtain ⟨r84z, hx83z, hM⟩ := M.e_bind hM
 refine s_call cf23 [v_w_] rfl (nilometerlaw13_Works_ok w_ (hC_w_.app _) hs_w_ hx83z _ (St.give (T := [cOwn (α := Int) 3 u0_20 r06, cOwn (α := Raw 2) 138 u0_17 rr1_18, cRo Bs2_19, cOwn (α := Int) 3 u0_16 r03, cOwn (α := Raw 2) 138 u0_13 rr1_14, cRo Bs2_15, cRo Bs1_12, cOwn (α := Int) 3 u0_10 r0, cOwn (α := Raw 2) 138 u0_7 rr1_8, cRo Bs2_9, cOwn (α := Int) 3 v19z line_, cOwn (α := Raw 2) 60 u0_3 rr1_4, cRo Bs2_5, cOwn (α := Raw 0) 34 v4z ([rw2z]), cRo Bs_1]) H rfl)) ?_
 rintro vq w85z ⟨r10, u0_21, rr1_22, Bs2_23, hr86z, hvq, H2_, hf87z⟩
 subst hr86z
 subst vq
 try dsimp only at hM
 replace H : St w w85z [cOwn (α := Raw 2) 138 u0_21 rr1_22, cRo Bs2_23, cOwn (α := Int) 3 u0_20 r06, cOwn (α := Raw 2) 138 u0_17 rr1_18, cRo Bs2_19, cOwn (α := Int) 3 u0_16 r03, cOwn (α := Raw 2) 138 u0_13 rr1_14, cRo Bs2_15, cRo Bs1_12, cOwn (α := Int) 3 u0_10 r0, cOwn (α := Raw 2) 138 u0_7 rr1_8, cRo Bs2_9, cOwn (α := Int) 3 v19z line_, cOwn (α := Raw 2) 60 u0_3 rr1_4, cRo Bs2_5, cOwn (α := Raw 0) 34 v4z ([rw2z]), cRo Bs_1] R := H.back H2_ rfl
 clear H2_
 refine sM (I from_) rfl <| sM (I to_) rfl ?_
 obtain ⟨r89z, hx88z, hM⟩ := M.e_bind hM
 refine s_call cf73 [u0_21, I from_, I to_] rfl (nilometerref13_Ends_ok r10 from_ to_ (Reads.sup (Reads.of (k := 0) rfl ownLe) (Reads.of (k := 1) rfl roLe)) (rowSl rfl (H.get (k := 0) rfl) (roLe _ (H.get (k := 1) rfl)) hf87z) hx88z _ (St.give (T := [cOwn (α := Raw 2) 138 u0_21 rr1_22, cRo Bs2_23, cOwn (α := Int) 3 u0_20 r06, cOwn (α := Raw 2) 138 u0_17 rr1_18, cRo Bs2_19, cOwn (α := Int) 3 u0_16 r03, cOwn (α := Raw 2) 138 u0_13 rr1_14, cRo Bs2_15, cRo Bs1_12, cOwn (α := Int) 3 u0_10 r0, cOwn (α := Raw 2) 138 u0_7 rr1_8, cRo Bs2_9, cOwn (α := Int) 3 v19z line_, cOwn (α := Raw 2) 60 u0_3 rr1_4, cRo Bs2_5, cOwn (α := Raw 0) 34 v4z ([rw2z]), cRo Bs_1]) H rfl)) ?_
 rintro vq w90z ⟨r11, hr91z, hvq, H2_⟩
 subst hr91z
 subst vq
 try dsimp only at hM
 replace H : St w w90z [cOwn (α := Raw 2) 138 u0_21 rr1_22, cRo Bs2_23, cOwn (α := Int) 3 u0_20 r06, cOwn (α := Raw 2) 138 u0_17 rr1_18, cRo Bs2_19, cOwn (α := Int) 3 u0_16 r03, cOwn (α := Raw 2) 138 u0_13 rr1_14, cRo Bs2_15, cRo Bs1_12, cOwn (α := Int) 3 u0_10 r0, cOwn (α := Raw 2) 138 u0_7 rr1_8, cRo Bs2_9, cOwn (α := Int) 3 v19z line_, cOwn (α := Raw 2) 60 u0_3 rr1_4, cRo Bs2_5, cOwn (α := Raw 0) 34 v4z ([rw2z]), cRo Bs_1] R := H.back H2_ rfl
 clear H2_
 refine sC r16 r11 (r16 != r11) rfl rfl rfl <| sM (B (r16 != r11)) rfl <| g_val (!(r16 != r11)) (gy_f rfl) (fun hg => x_mv (v := I r16) rfl) <| g_val (!(r16 != r11)) (gy_f rfl) (fun hg => x_cmp (kd := .i64) (a := r16) (b := 0) (r := r16 != 0) (gd_of (c := !(r16 != r11)) hg (I r16)) rfl rfl) <| g_val (!(r16 != r11)) (gy_f rfl) (fun hg => x_mv (v := B (r16 != 0)) (gd_of (c := !(r16 != r11)) hg (B (r16 != 0)))) <| g_val ((!(r16 != r11)) && (r16 != 0)) (gy_gt rfl rfl) (fun hg => x_mv (v := u0_20) rfl) <| g_val ((!(r16 != r11)) && (r16 != 0)) (gy_gt rfl rfl) (fun hg => x_lenS T34.und (gd_of (c := ((!(r16 != r11)) && (r16 != 0))) hg (u0_20)) (ownSl (H.get (k := 2) rfl))) <| g_val ((!(r16 != r11)) && (r16 != 0)) (gy_gt rfl rfl) (fun hg => x_cmp (kd := .i64) (a := (r06.length : Int)) (b := 0) (r := decide (0 < (r06.length : Int))) (gd_of (c := ((!(r16 != r11)) && (r16 != 0))) hg (I (r06.length : Int))) rfl rfl) <| g_val (!(r16 != r11)) (gy_f rfl) (fun hg => x_pand (b := r16 != 0) (r := decide (0 < (r06.length : Int))) (gd_of (c := !(r16 != r11)) hg (B (r16 != 0))) (fun hb => gd_of (c := ((!(r16 != r11)) && (r16 != 0))) (by first | exact hb | (rw [hb]; rfl) | simp_all) (B (decide (0 < (r06.length : Int))))) rfl) <| s_val (x_por (b := r16 != r11) (r := ((r16 != 0) && (decide (0 < (r06.length : Int))))) rfl rfl (fun hb => gd_of (c := !(r16 != r11)) (by first | exact hb | (rw [hb]; rfl) | simp_all) (B ((r16 != 0) && (decide (0 < (r06.length : Int))))))) <| s_nil ?_
 refine W.cond ((r16 != r11) || ((r16 != 0) && (decide (0 < (r06.length : Int))))) rfl (fun c93z => ?_) (fun c93z => ?_)
 ·replace hM := M.e_t hM c93z
  refine sQ rfl <| sA (B false) rfl <| s_nil ?_
  refine W.ret ?_
  have hr_ := M.e_pure hM
  exact ⟨_, resE_tmp rfl, ⟨false, hr_, rfl, (H.pick [] (by decide) rfl)⟩⟩
 replace hM := M.e_f hM c93z
 refine W.skip ?_
 refine W.seqJ (fun σ W => ∃ (ρ : Env), σ = upds ρ [(0, v_w_), (1, v_line_), (9, u0_3), (10, v19z)] ∧ (m_nilometerlaw13_NotesWorks_j0 w_ line_ r3).Ends r ∧ St w W [cOwn (α := Raw 2) 138 u0_21 rr1_22, cRo Bs2_23, cOwn (α := Int) 3 u0_20 r06, cOwn (α := Raw 2) 138 u0_17 rr1_18, cRo Bs2_19, cOwn (α := Int) 3 u0_16 r03, cOwn (α := Raw 2) 138 u0_13 rr1_14, cRo Bs2_15, cRo Bs1_12, cOwn (α := Int) 3 u0_10 r0, cOwn (α := Raw 2) 138 u0_7 rr1_8, cRo Bs2_9, cOwn (α := Int) 3 v19z line_, cOwn (α := Raw 2) 60 u0_3 rr1_4, cRo Bs2_5, cOwn (α := Raw 0) 34 v4z ([rw2z]), cRo Bs_1] R) ?_ ?_
 ·skip
  refine sQ rfl <| sM (I r16) rfl <| sC r16 0 (r16 == 0) rfl rfl rfl <| s_nil ?_
  refine W.cond (r16 == 0) rfl (fun c94z => ?_) (fun c94z => ?_)
  ·replace hM := M.e_t hM c94z
   simp only [qz1, qz2, qz3, qz4, qz5, qz6, ne_eq, qz7] at c94z
   refine sQ rfl <| sM v_w_ rfl ?_
   obtain ⟨r96z, hx95z, hM⟩ := M.e_bind hM
   refine s_call cf23 [v_w_] rfl (nilometerlaw13_Works_ok w_ (hC_w_.app _) hs_w_ hx95z _ (St.give (T := [cOwn (α := Raw 2) 138 u0_21 rr1_22, cRo Bs2_23, cOwn (α := Int) 3 u0_20 r06, cOwn (α := Raw 2) 138 u0_17 rr1_18, cRo Bs2_19, cOwn (α := Int) 3 u0_16 r03, cOwn (α := Raw 2) 138 u0_13 rr1_14, cRo Bs2_15, cRo Bs1_12, cOwn (α := Int) 3 u0_10 r0, cOwn (α := Raw 2) 138 u0_7 rr1_8, cRo Bs2_9, cOwn (α := Int) 3 v19z line_, cOwn (α := Raw 2) 60 u0_3 rr1_4, cRo Bs2_5, cOwn (α := Raw 0) 34 v4z ([rw2z]), cRo Bs_1]) H rfl)) ?_
   rintro vq w97z ⟨r17, u0_24, rr1_25, Bs2_26, hr98z, hvq, H2_, hf99z⟩
   subst hr98z
   subst vq
   try dsimp only at hM
   replace H : St w w97z [cOwn (α := Raw 2) 138 u0_24 rr1_25, cRo Bs2_26, cOwn (α := Raw 2) 138 u0_21 rr1_22, cRo Bs2_23, cOwn (α := Int) 3 u0_20 r06, cOwn (α := Raw 2) 138 u0_17 rr1_18, cRo Bs2_19, cOwn (α := Int) 3 u0_16 r03, cOwn (α := Raw 2) 138 u0_13 rr1_14, cRo Bs2_15, cRo Bs1_12, cOwn (α := Int) 3 u0_10 r0, cOwn (α := Raw 2) 138 u0_7 rr1_8, cRo Bs2_9, cOwn (α := Int) 3 v19z line_, cOwn (α := Raw 2) 60 u0_3 rr1_4, cRo Bs2_5, cOwn (α := Raw 0) 34 v4z ([rw2z]), cRo Bs_1] R := H.back H2_ rfl
   clear H2_
   refine sM u0_20 rfl ?_
   obtain ⟨r101z, hx100z, hM⟩ := M.e_bind hM
   refine s_call cf39 [u0_24, u0_20] rfl (nilometerref13_Leads_ok r17 r06 (Reads.sup (Reads.of (k := 0) rfl ownLe) (Reads.of (k := 1) rfl roLe)) (rowSl rfl (H.get (k := 0) rfl) (roLe _ (H.get (k := 1) rfl)) hf99z) (Reads.of (k := 4) rfl ownLe) (ownSl (H.get (k := 4) rfl)) hx100z _ (St.give (T := [cOwn (α := Raw 2) 138 u0_24 rr1_25, cRo Bs2_26, cOwn (α := Raw 2) 138 u0_21 rr1_22, cRo Bs2_23, cOwn (α := Int) 3 u0_20 r06, cOwn (α := Raw 2) 138 u0_17 rr1_18, cRo Bs2_19, cOwn (α := Int) 3 u0_16 r03, cOwn (α := Raw 2) 138 u0_13 rr1_14, cRo Bs2_15, cRo Bs1_12, cOwn (α := Int) 3 u0_10 r0, cOwn (α := Raw 2) 138 u0_7 rr1_8, cRo Bs2_9, cOwn (α := Int) 3 v19z line_, cOwn (α := Raw 2) 60 u0_3 rr1_4, cRo Bs2_5, cOwn (α := Raw 0) 34 v4z ([rw2z]), cRo Bs_1]) H rfl)) ?_
   rintro vq w102z ⟨r07, r18, hr103z, hvq, H2_⟩
   subst hr103z
   subst vq
   try dsimp only at hM
   replace H : St w w102z [cOwn (α := Raw 2) 138 u0_24 rr1_25, cRo Bs2_26, cOwn (α := Raw 2) 138 u0_21 rr1_22, cRo Bs2_23, cOwn (α := Int) 3 u0_20 r06, cOwn (α := Raw 2) 138 u0_17 rr1_18, cRo Bs2_19, cOwn (α := Int) 3 u0_16 r03, cOwn (α := Raw 2) 138 u0_13 rr1_14, cRo Bs2_15, cRo Bs1_12, cOwn (α := Int) 3 u0_10 r0, cOwn (α := Raw 2) 138 u0_7 rr1_8, cRo Bs2_9, cOwn (α := Int) 3 v19z line_, cOwn (α := Raw 2) 60 u0_3 rr1_4, cRo Bs2_5, cOwn (α := Raw 0) 34 v4z ([rw2z]), cRo Bs_1] R := H.back H2_ rfl
   clear H2_
   refine sM (.tuple #[B r07, I r18]) rfl <| sX [B r07, I r18] (B r07) rfl rfl <| sX [B r07, I r18] (I r18) rfl rfl <| sA (B r07) rfl <| sA (I r18) rfl <| s_nil <| sQ rfl <| sM (I r18) rfl <| sC r18 0 (r18 != 0) rfl rfl rfl <| sM (B (r18 != 0)) rfl <| g_val (!(r18 != 0)) (gy_f rfl) (fun hg => x_mv (v := B r07) rfl) ?_
   refine g_val (!(r18 != 0)) (gy_f rfl) (fun hg => x_not (b := r07) (gd_of (c := !(r18 != 0)) hg (B r07))) <| s_val (x_por (b := r18 != 0) (r := !r07) rfl rfl (fun hb => gd_of (c := !(r18 != 0)) (by first | exact hb | (rw [hb]; rfl) | simp_all) (B (!r07)))) <| sM (B ((r18 != 0) || (!r07))) rfl <| g_val (!((r18 != 0) || (!r07))) (gy_f rfl) (fun hg => x_mv (v := u0_20) rfl) ?_
   obtain ⟨sd104z, hM⟩ := M.e_grd hM
   replace sd104z := M.imp_of sd104z
   simp only [Bool.and_eq_true, decide_eq_true_eq] at sd104z
   refine g_val (!((r18 != 0) || (!r07))) (gy_f rfl) (fun hg => x_ix (a := u0_20) (b := I 0) (v := vat u0_20 1 (Int.toNat 0)) (gd_of (c := !((r18 != 0) || (!r07))) hg (u0_20)) rfl (Sl.ix (α := Int) T34.und T34.size (ownSl (H.get (k := 4) rfl)) (by have h1_ := sd104z.resolve_left (by rw [hg]; decide); first | exact h1_ | exact h1_.1 | exact h1_.2 | omega | (have hx_ := hg; simp at hx_; omega)) (by have h1_ := sd104z.resolve_left (by rw [hg]; decide); first | exact h1_ | exact h1_.1 | exact h1_.2 | omega | (have hx_ := hg; simp at hx_; omega)))) <| g_val (!((r18 != 0) || (!r07))) (gy_f rfl) (fun hg => x_ld (p := vat u0_20 1 (Int.toNat 0)) (v := I (r06.getD 0 0)) (gd_of (c := !((r18 != 0) || (!r07))) hg (vat u0_20 1 (Int.toNat 0))) (ld_sc Sc3 (At.mono (Int_at (ownSl (H.get (k := 4) rfl)) (i := 0) (by have h1_ := sd104z.resolve_left (by rw [hg]; decide); first | exact h1_ | exact h1_.1 | exact h1_.2 | omega | (have hx_ := hg; simp at hx_; omega)) (by have h1_ := sd104z.resolve_left (by rw [hg]; decide); first | exact h1_ | exact h1_.1 | exact h1_.2 | omega | (have hx_ := hg; simp at hx_; omega))) (ownLe _ (H.get (k := 4) rfl))))) <| g_val (!((r18 != 0) || (!r07))) (gy_f rfl) (fun hg => x_mv (v := I from_) rfl) <| g_val (!((r18 != 0) || (!r07))) (gy_f rfl) (fun hg => x_cmp (kd := .i64) (a := r06.getD 0 0) (b := from_) (r := (r06.getD 0 0) != from_) (gd_of (c := !((r18 != 0) || (!r07))) hg (I (r06.getD 0 0))) (gd_of (c := !((r18 != 0) || (!r07))) hg (I from_)) rfl) <| s_val (x_por (b := ((r18 != 0) || (!r07))) (r := (r06.getD 0 0) != from_) rfl rfl (fun hb => gd_of (c := !((r18 != 0) || (!r07))) (by first | exact hb | (rw [hb]; rfl) | simp_all) (B ((r06.getD 0 0) != from_)))) <| sM (B (((r18 != 0) || (!r07)) || ((r06.getD 0 0) != from_))) rfl <| g_val (!(((r18 != 0) || (!r07)) || ((r06.getD 0 0) != from_))) (gy_f rfl) (fun hg => x_mv (v := u0_20) rfl) <| g_val (!(((r18 != 0) || (!r07)) || ((r06.getD 0 0) != from_))) (gy_f rfl) (fun hg => x_mv (v := u0_20) rfl) <| g_val (!(((r18 != 0) || (!r07)) || ((r06.getD 0 0) != from_))) (gy_f rfl) (fun hg => x_lenS T34.und (gd_of (c := !(((r18 != 0) || (!r07)) || ((r06.getD 0 0) != from_))) hg (u0_20)) (ownSl (H.get (k := 4) rfl))) ?_
   obtain ⟨sd106z, hM⟩ := M.e_grd hM
   replace sd106z := M.imp_of sd106z
   simp only [Bool.and_eq_true, decide_eq_true_eq] at sd106z
   refine g_val (!(((r18 != 0) || (!r07)) || ((r06.getD 0 0) != from_))) (gy_f rfl) (fun hg => x_ari (a := (r06.length : Int)) (b := 1) (r := (r06.length : Int) - 1) (gd_of (c := !(((r18 != 0) || (!r07)) || ((r06.getD 0 0) != from_))) hg (I (r06.length : Int))) rfl rfl (by have h1_ := sd106z.resolve_left (by rw [hg]; decide); first | exact h1_ | exact h1_.1 | exact h1_.2 | omega | (have hx_ := hg; simp at hx_; omega))) ?_
   obtain ⟨sd107z, hM⟩ := M.e_grd hM
   replace sd107z := M.imp_of sd107z
   simp only [Bool.and_eq_true, decide_eq_true_eq] at sd107z
   refine g_val (!(((r18 != 0) || (!r07)) || ((r06.getD 0 0) != from_))) (gy_f rfl) (fun hg => x_ix (a := u0_20) (b := I ((r06.length : Int) - 1)) (v := vat u0_20 1 (Int.toNat ((r06.length : Int) - 1))) (gd_of (c := !(((r18 != 0) || (!r07)) || ((r06.getD 0 0) != from_))) hg (u0_20)) (gd_of (c := !(((r18 != 0) || (!r07)) || ((r06.getD 0 0) != from_))) hg (I ((r06.length : Int) - 1))) (Sl.ix (α := Int) T34.und T34.size (ownSl (H.get (k := 4) rfl)) (by have h1_ := sd106z.resolve_left (by rw [hg]; decide); have h2_ := sd107z.resolve_left (by rw [hg]; decide); first | exact h1_ | exact h1_.1 | exact h1_.2 | exact h2_ | exact h2_.1 | exact h2_.2 | omega | (have hx_ := hg; simp at hx_; omega)) (by have h1_ := sd106z.resolve_left (by rw [hg]; decide); have h2_ := sd107z.resolve_left (by rw [hg]; decide); first | exact h1_ | exact h1_.1 | exact h1_.2 | exact h2_ | exact h2_.1 | exact h2_.2 | omega | (have hx_ := hg; simp at hx_; omega)))) <| g_val (!(((r18 != 0) || (!r07)) || ((r06.getD 0 0) != from_))) (gy_f rfl) (fun hg => x_ld (p := vat u0_20 1 (Int.toNat ((r06.length : Int) - 1))) (v := I (r06.getD (Int.toNat ((r06.length : Int) - 1)) 0)) (gd_of (c := !(((r18 != 0) || (!r07)) || ((r06.getD 0 0) != from_))) hg (vat u0_20 1 (Int.toNat ((r06.length : Int) - 1)))) (ld_sc Sc3 (At.mono (Int_at (ownSl (H.get (k := 4) rfl)) (i := (r06.length : Int) - 1) (by have h1_ := sd106z.resolve_left (by rw [hg]; decide); have h2_ := sd107z.resolve_left (by rw [hg]; decide); first | exact h1_ | exact h1_.1 | exact h1_.2 | exact h2_ | exact h2_.1 | exact h2_.2 | omega | (have hx_ := hg; simp at hx_; omega)) (by have h1_ := sd106z.resolve_left (by rw [hg]; decide); have h2_ := sd107z.resolve_left (by rw [hg]; decide); first | exact h1_ | exact h1_.1 | exact h1_.2 | exact h2_ | exact h2_.1 | exact h2_.2 | omega | (have hx_ := hg; simp at hx_; omega))) (ownLe _ (H.get (k := 4) rfl))))) <| g_val (!(((r18 != 0) || (!r07)) || ((r06.getD 0 0) != from_))) (gy_f rfl) (fun hg => x_mv (v := I to_) rfl) <| g_val (!(((r18 != 0) || (!r07)) || ((r06.getD 0 0) != from_))) (gy_f rfl) (fun hg => x_cmp (kd := .i64) (a := r06.getD (Int.toNat ((r06.length : Int) - 1)) 0) (b := to_) (r := (r06.getD (Int.toNat ((r06.length : Int) - 1)) 0) != to_) (gd_of (c := !(((r18 != 0) || (!r07)) || ((r06.getD 0 0) != from_))) hg (I (r06.getD (Int.toNat ((r06.length : Int) - 1)) 0))) (gd_of (c := !(((r18 != 0) || (!r07)) || ((r06.getD 0 0) != from_))) hg (I to_)) rfl) <| s_val (x_por (b := (((r18 != 0) || (!r07)) || ((r06.getD 0 0) != from_))) (r := (r06.getD (Int.toNat ((r06.length : Int) - 1)) 0) != to_) rfl rfl (fun hb => gd_of (c := !(((r18 != 0) || (!r07)) || ((r06.getD 0 0) != from_))) (by first | exact hb | (rw [hb]; rfl) | simp_all) (B ((r06.getD (Int.toNat ((r06.length : Int) - 1)) 0) != to_)))) <| s_nil ?_
   refine W.cond ((((r18 != 0) || (!r07)) || ((r06.getD 0 0) != from_)) || ((r06.getD (Int.toNat ((r06.length : Int) - 1)) 0) != to_)) rfl (fun c108z => ?_) (fun c108z => ?_)
   ·replace hM := M.e_t hM c108z
    refine sQ rfl <| sA (B false) rfl <| s_nil ?_
    refine W.ret ?_
    have hr_ := M.e_pure hM
    exact ⟨_, resE_tmp rfl, ⟨false, hr_, rfl, (H.pick [] (by decide) rfl)⟩⟩
   replace hM := M.e_f hM c108z
   refine W.skip ?_
   exact ⟨_, upds_of _ _ ⟨rfl, rfl, rfl, rfl, trivial⟩, hM, (H.pick [2, 3, 4, 5, 6, 7, 8, 9, 10, 11, 12, 13, 14, 15, 16, 17, 18] (by decide) rfl)⟩
  replace hM := M.e_f hM c94z
  simp only [qz1, qz2, qz3, qz4, qz5, qz6, ne_eq, qz7] at c94z
  refine W.skip ?_
  exact ⟨_, upds_of _ _ ⟨rfl, rfl, rfl, rfl, trivial⟩, hM, H⟩
 rintro _ w109z ⟨ρ, rfl, hM, H⟩
 unfold m_nilometerlaw13_NotesWorks_j0 at hM
 refine sQ rfl <| sM u0_3 rfl <| sM v_w_ rfl ?_
 obtain ⟨r111z, hx110z, hM⟩ := M.e_bind hM
 refine s_call cf28 [u0_3, v_w_] rfl (nilometerlaw13_same_ok r3 w_ (Reads.sup (Reads.of (k := 13) rfl ownLe) (Reads.sup (hC_w_.app _) (Reads.of (k := 14) rfl roLe))) (rowSl rfl (H.get (k := 13) rfl) (Cells.sup_le (hC_w_.at H) (roLe _ (H.get (k := 14) rfl))) hf16z) (hC_w_.app _) hs_w_ hx110z _ (St.give (T := [cOwn (α := Raw 2) 138 u0_21 rr1_22, cRo Bs2_23, cOwn (α := Int) 3 u0_20 r06, cOwn (α := Raw 2) 138 u0_17 rr1_18, cRo Bs2_19, cOwn (α := Int) 3 u0_16 r03, cOwn (α := Raw 2) 138 u0_13 rr1_14, cRo Bs2_15, cRo Bs1_12, cOwn (α := Int) 3 u0_10 r0, cOwn (α := Raw 2) 138 u0_7 rr1_8, cRo Bs2_9, cOwn (α := Int) 3 v19z line_, cOwn (α := Raw 2) 60 u0_3 rr1_4, cRo Bs2_5, cOwn (α := Raw 0) 34 v4z ([rw2z]), cRo Bs_1]) H rfl)) ?_
 rintro vq w112z ⟨r19, hr113z, hvq, H2_⟩
 subst hr113z
 subst vq
 try dsimp only at hM
 replace H : St w w112z [cOwn (α := Raw 2) 138 u0_21 rr1_22, cRo Bs2_23, cOwn (α := Int) 3 u0_20 r06, cOwn (α := Raw 2) 138 u0_17 rr1_18, cRo Bs2_19, cOwn (α := Int) 3 u0_16 r03, cOwn (α := Raw 2) 138 u0_13 rr1_14, cRo Bs2_15, cRo Bs1_12, cOwn (α := Int) 3 u0_10 r0, cOwn (α := Raw 2) 138 u0_7 rr1_8, cRo Bs2_9, cOwn (α := Int) 3 v19z line_, cOwn (α := Raw 2) 60 u0_3 rr1_4, cRo Bs2_5, cOwn (α := Raw 0) 34 v4z ([rw2z]), cRo Bs_1] R := H.back H2_ rfl
 clear H2_
 refine sM (B r19) rfl <| g_val r19 (gy_t rfl) (fun hg => x_mv (v := v19z) rfl) <| g_val r19 (gy_t rfl) (fun hg => x_mv (v := v_line_) rfl) ?_
 obtain ⟨s2, hx114z, hM⟩ := M.e_bind hM
 replace hx114z := M.e_pure hx114z
 refine t_gcall r19 (gy_t rfl) cf25 (B s2) (fun _ => [v19z, v_line_]) (fun hg => lst2 (gd_of (c := r19) hg (v19z)) (gd_of (c := r19) hg (v_line_))) H (fun hg => Ret.mono (same_int _ ((ownSl (H.get (k := 12) rfl)).mono (ownLe _ (H.get (k := 12) rfl))) (hs_line_.mono (hC_line_.at H))) fun v_ w_ ⟨hv_, hx_⟩ => ⟨hv_.trans (congrArg B hx114z), H.ext hx_⟩) ?_
 intro w115z H
 refine s_val (x_pand (b := r19) (r := s2) rfl (fun hb => gd_of (c := r19) (by first | exact hb | (rw [hb]; rfl) | simp_all) (B s2)) rfl) <| sM (B (r19 && s2)) rfl ?_
 obtain ⟨r20, hx116z, hM⟩ := M.e_bind hM
 refine t_gcall (r19 && s2) (gy_t rfl) cf17 (B r20) (fun _ => []) (fun _ => rfl) H (fun hg => (nilometerlaw13_awake_ok (M.e_opt hx116z hg) _ (H.give (A := []) rfl)).mono fun v_ w_ ⟨y_, hr_, hv_, H_⟩ => by subst hr_; exact ⟨hv_, H.via H_⟩) ?_
 intro w117z H
 refine s_val (x_pand (b := (r19 && s2)) (r := r20) rfl (fun hb => gd_of (c := (r19 && s2)) (by first | exact hb | (rw [hb]; rfl) | simp_all) (B r20)) rfl) <| sA (B ((r19 && s2) && r20)) rfl <| s_nil ?_
 refine W.ret ?_
 have hr_ := M.e_pure hM
 exact ⟨_, resE_tmp rfl, ⟨((r19 && s2) && r20), hr_, rfl, (H.pick [] (by decide) rfl)⟩⟩

end Go.Proofs.Ytndobgodeicloaa
end
namespace Go.Nm
variable {ws : List Work}
/-- Each of some works is made of the next one. -/
def Pth (ws : List Work) (l : List Int) : Prop := ∀ j, j + 1 < l.length → l.getD (j + 1) 0 ∈ (ws.getD (l.getD j 0).toNat default).of
/-- A circle. -/
structure Circ (ws : List Work) (l : List Int) : Prop where
  pos : 0 < l.length
  rng : ∀ x ∈ l, 0 ≤ x ∧ x < (ws.length : Int)
  once : l.Nodup
  pth : Pth ws l
  shut : l.getD 0 0 ∈ (ws.getD (l.getD (l.length - 1) 0).toNat default).of
theorem stuck_out (h : (orderP ws).length < ws.length) : nextR ws (orderP ws) = none := orderF_stuck ws.length [] (by simpa [orderP] using h)
theorem stuck_not (hs : nextR ws (orderP ws) = none) {i : Nat} (hi : i < ws.length) : readyAt ws (orderP ws) i = false := by
  unfold nextR at hs
  rw [List.find?_eq_none] at hs
  simpa using hs i (List.mem_range.2 hi)
/-- What is met on the way. -/
structure MetOk (ws : List Work) (met : List Int) (i : Int) : Prop where
  rng : ∀ x ∈ met, 0 ≤ x ∧ x < (ws.length : Int)
  once : met.Nodup
  pth : Pth ws met
  last : 0 < met.length → i ∈ (ws.getD (met.getD (met.length - 1) 0).toNat default).of
  i0 : 0 ≤ i
  i1 : i < (ws.length : Int)
  iO : i ∉ orderP ws
theorem clL {l r : List Int} {j : Nat} (h : j < l.length) : (l ++ r).getD j 0 = l.getD j 0 := by
  rw [List.getD_eq_getElem?_getD, List.getElem?_append_left h, ← List.getD_eq_getElem?_getD]
theorem clR {l : List Int} {x : Int} : (l ++ [x]).getD l.length 0 = x := by
  rw [List.getD_eq_getElem?_getD, List.getElem?_append_right (Nat.le_refl _)]
  simp
theorem clD {l : List Int} (k j : Nat) : (l.drop k).getD j 0 = l.getD (k + j) 0 := by
  rw [List.getD_eq_getElem?_getD, List.getElem?_drop, ← List.getD_eq_getElem?_getD]
theorem MetOk.circ {met : List Int} {i : Int} (h : MetOk ws met i) (hm : i ∈ met) : Circ ws (met.drop (idxI met i).toNat) := by
  obtain ⟨k0, k1, k2⟩ := idxI_spec hm
  have hk : (idxI met i).toNat < met.length := by omega
  generalize hkk : (idxI met i).toNat = k at hk k2 ⊢
  refine ⟨by rw [List.length_drop]; omega, fun x hx => h.rng x (List.mem_of_mem_drop hx), h.once.sublist (List.drop_sublist _ _), fun j hj => ?_, ?_⟩
  · rw [List.length_drop] at hj
    rw [clD, clD]
    exact h.pth (k + j) (by omega)
  · rw [clD, clD, List.length_drop, Nat.add_zero, k2, show k + (met.length - k - 1) = met.length - 1 from by omega]
    exact h.last (by omega)
theorem MetOk.next {met : List Int} {i y : Int} (h : MetOk ws met i) (hm : i ∉ met) (hy : y ∈ (ws.getD i.toNat default).of) (h0 : 0 ≤ y) (h1 : y < (ws.length : Int)) (hO : y ∉ orderP ws) : MetOk ws (met ++ [i]) y := by
  refine ⟨fun x hx => ?_, ?_, fun j hj => ?_, fun _ => ?_, h0, h1, hO⟩
  · rcases List.mem_append.1 hx with hx | hx
    · exact h.rng x hx
    · rw [List.mem_singleton.1 hx]; exact ⟨h.i0, h.i1⟩
  · rw [List.nodup_append]
    exact ⟨h.once, by simp, fun a ha b hb e => hm (by rw [← List.mem_singleton.1 hb, ← e]; exact ha)⟩
  · simp only [List.length_append, List.length_cons, List.length_nil] at hj
    rw [clL (by omega : j < met.length)]
    by_cases e : j + 1 < met.length
    · rw [clL e]
      exact h.pth j e
    · have e2 : j + 1 = met.length := by omega
      rw [e2, clR, show j = met.length - 1 from by omega]
      exact h.last (by omega)
  · rw [show (met ++ [i]).length - 1 = met.length from by simp, clR]
    exact hy
theorem MetOk.lt {met : List Int} {i : Int} (h : MetOk ws met i) (hm : i ∉ met) : met.length < ws.length := by
  have := nodup_bound ws.length (i :: met) (List.nodup_cons.2 ⟨hm, h.once⟩) (fun x hx => by
    rcases List.mem_cons.1 hx with rfl | hx
    · exact ⟨h.i0, h.i1⟩
    · exact h.rng x hx)
  simp only [List.length_cons] at this
  omega
end Go.Nm
namespace Go.Proofs.Ytndobgodeicloaa
open Go Go.Nm
variable {ws : List Work}
theorem webOrder_ends (hR : rightE ws = 0) : (m_notes_web_order ws).Ends (orderP ws) := by
  have hl := right_len hR
  unfold m_notes_web_order
  have h := M.i_loopQ (body := m_notes_web_order_b0 ws) (fun r => r.2 = orderP ws)
    (fun m s => ∃ i : Nat, s.1 = (i : Int) ∧ i ≤ ws.length ∧ m = (ws.length - s.2.length) * (ws.length + 2) + (ws.length + 1 - i) ∧ OrdInv ws s.2 ∧ ∀ j < i, readyAt ws s.2 j = false) (by
      rintro m ⟨x, l⟩ ⟨i, rfl, hi, rfl, hI, hn⟩
      dsimp only at hI hn ⊢
      simp only [m_notes_web_order_b0]
      have hle := hI.le
      by_cases e : i < ws.length
      · have he := every_ends (s := (ws.getD i default).of) (f := fun xqz => m_notes_web_order_1 xqz l) (p := fun k => l.contains k) (fun x _ => M.i_pure)
        have hop : (M.opt (!(l.contains (i : Int))) (m_notes_every_int (fun xqz => m_notes_web_order_1 xqz l) ((ws.getD (Int.toNat (i : Int)) default).of)) false).Ends ((!(l.contains (i : Int))) && (ws.getD i default).of.all fun k => l.contains k) := by
          refine M.i_opt (fun hb => ?_) (fun hb => ?_)
          · rw [hb, Bool.true_and, Int.toNat_natCast]; exact he
          · rw [hb]; rfl
        have hrd : ((!(l.contains (i : Int))) && ((!(l.contains (i : Int))) && (ws.getD i default).of.all fun k => l.contains k)) = readyAt ws l i := by
          unfold readyAt
          cases l.contains (i : Int) <;> rfl
        cases hr : readyAt ws l i with
        | true =>
          have hlt := hI.lt (by omega) hr
          refine .inl ⟨(0, l ++ [(i : Int)]), (ws.length - (l.length + 1)) * (ws.length + 2) + (ws.length + 1 - 0), order_dec hlt hi, ?_, 0, rfl, Nat.zero_le _, by simp, hI.step (by omega) hr hn, fun j hj => by omega⟩
          refine M.i_t (by simpa using e) (M.i_bind (a := l.contains (i : Int)) M.i_pure (M.i_grd (gOr2 (by omega) (by omega)) (M.i_bind hop (M.i_t (by rw [hrd, hr]) (M.grdD (by simp only [List.length_cons, List.length_nil]; omega) (M.i_grd (gA2 (by omega) (by omega)) ?_))))))
          exact M.i_pure
        | false =>
          refine .inl ⟨((i : Int) + 1, l), (ws.length - l.length) * (ws.length + 2) + (ws.length + 1 - (i + 1)), by omega, ?_, i + 1, by omega, e, rfl, hI, notReady_next hn hr⟩
          exact M.i_t (by simpa using e) (M.i_bind (a := l.contains (i : Int)) M.i_pure (M.i_grd (gOr2 (by omega) (by omega)) (M.i_bind hop (M.i_f (by rw [hrd, hr]) (M.i_grd (gA2 (by omega) (by omega)) M.i_pure)))))
      · exact .inr ⟨(l, l), M.i_f (by simpa using e) M.i_pure, hI.done (by omega) hn⟩) _ (0, []) ⟨0, rfl, Nat.zero_le _, rfl, OrdInv.nil ws, fun j hj => by omega⟩
  obtain ⟨⟨r1, r2⟩, h1, h2⟩ := h
  dsimp only at h2
  rw [← h2]
  exact M.i_bind h1 M.i_pure
theorem indexFunc_out {s : List Int} {f : Int → M Bool} {p : Int → Bool} (hf : ∀ x ∈ s, (f x).Ends (p x)) (hp : s.any p = true) :
    (m_slices_IndexFunc_int s f).Out (fun r => 0 ≤ r ∧ r < (s.length : Int) ∧ p (s.getD r.toNat 0) = true) := by
  have h := M.i_loopQ (body := m_slices_IndexFunc_int_b0 s f) (fun r => match r with | .inl k => 0 ≤ k ∧ k < (s.length : Int) ∧ p (s.getD k.toNat 0) = true | .inr _ => s.any p = false)
    (fun m i => m = s.length - i ∧ i ≤ s.length ∧ (s.take i).any p = false) (by
      rintro m i ⟨rfl, hi, ha⟩
      simp only [m_slices_IndexFunc_int_b0]
      by_cases e : i < s.length
      · have hp := hf _ (getD_memN s (by omega : (i : Int) < _) 0)
        cases hc : p (s.getD i 0) with
        | true =>
          rw [hc] at hp
          exact .inr ⟨.inl (i : Int), M.i_t (by simpa using e) (M.grdD (by omega) (M.i_bind hp M.i_pure)), by omega, by omega, by rw [Int.toNat_natCast]; exact hc⟩
        | false =>
          rw [hc] at hp
          exact .inl ⟨i + 1, s.length - (i + 1), by omega, M.i_t (by simpa using e) (M.grdD (by omega) (M.i_bind hp M.i_pure)), rfl, e, by rw [any_take_succ p s e 0, ha, hc]; rfl⟩
      · obtain rfl : i = s.length := by omega
        rw [List.take_length] at ha
        exact .inr ⟨.inr (), M.i_f (by simp) M.i_pure, ha⟩) _ 0 ⟨rfl, Nat.zero_le _, by simp⟩
  obtain ⟨r, h1, h2⟩ := h
  cases r with
  | inl k => exact ⟨k, M.i_bind h1 M.i_pure, h2⟩
  | inr u => dsimp only at h2; rw [hp] at h2; cases h2
theorem circle_out (hR : rightE ws = 0) (hs : nextR ws (orderP ws) = none) : ∀ (d : Nat) (met : List Int) (i : Int), ws.length - met.length ≤ d → MetOk ws met i →
    (m_notes_Circle_1 i met ws (orderP ws)).Out (fun r => Circ ws r.1) := by
  have hl := right_len hR
  intro d
  induction d with
  | zero =>
    intro met i hd hm
    -- all works were met
    have hin : i ∈ met := Classical.byContradiction fun hn => by have := hm.lt hn; omega
    suffices h : (m_notes_Circle_1_F (M.fix m_notes_Circle_1_F m_notes_Circle_1_mon) (i, met, ws, orderP ws)).Out (fun r => Circ ws r.1) by
      obtain ⟨r, h2, h3⟩ := h
      exact ⟨r, M.i_fix h2, h3⟩
    obtain ⟨k0, k1, k2⟩ := idxI_spec hin
    have hb := nodup_bound ws.length met hm.once hm.rng
    simp only [m_notes_Circle_1_F, m_slices_Clone_int]
    refine M.o_t (by simp only [bne_iff_ne, ne_eq]; omega) (M.o_grd (gA2 (by omega) (by omega)) (M.o_bindE (a := met.drop (idxI met i).toNat) (M.grdD (by rw [List.length_drop]; omega) (M.grdD (by simp only [List.length_nil, List.length_drop]; omega) M.i_pure)) (M.o_pure (hm.circ hin))))
  | succ d ih =>
    intro met i hd hm
    suffices h : (m_notes_Circle_1_F (M.fix m_notes_Circle_1_F m_notes_Circle_1_mon) (i, met, ws, orderP ws)).Out (fun r => Circ ws r.1) by
      obtain ⟨r, h2, h3⟩ := h
      exact ⟨r, M.i_fix h2, h3⟩
    have hb := nodup_bound ws.length met hm.once hm.rng
    simp only [m_notes_Circle_1_F, m_slices_Clone_int]
    by_cases hin : i ∈ met
    · obtain ⟨k0, k1, k2⟩ := idxI_spec hin
      exact M.o_t (by simp only [bne_iff_ne, ne_eq]; omega) (M.o_grd (gA2 (by omega) (by omega)) (M.o_bindE (a := met.drop (idxI met i).toNat) (M.grdD (by rw [List.length_drop]; omega) (M.grdD (by simp only [List.length_nil, List.length_drop]; omega) M.i_pure)) (M.o_pure (hm.circ hin))))
    · have hix : idxI met i = -1 := by
        have h1 := idxI_any met i
        rw [show met.contains i = false from by simpa using hin] at h1
        simp only [decide_eq_false_iff_not] at h1
        have h2 : -1 ≤ idxI met i := idxP_lo _ _
        omega
      have hlt := hm.lt hin
      have hi0 := hm.i0
      have hi1 := hm.i1
      have hnr := stuck_not hs (i := i.toNat) (by omega)
      unfold readyAt at hnr
      have h2 : (orderP ws).contains ((i.toNat : Nat) : Int) = false := by rw [Int.toNat_of_nonneg hi0]; simpa using hm.iO
      rw [h2, Bool.not_false, Bool.true_and, List.all_eq_false] at hnr
      obtain ⟨x, hx, hx2⟩ := hnr
      have hany : ((ws.getD i.toNat default).of.any fun k => !((orderP ws).contains k)) = true := List.any_eq_true.2 ⟨x, hx, by simpa using hx2⟩
      refine M.o_f (by rw [hix]; rfl) (M.o_grdD (by simp only [List.length_cons, List.length_nil]; omega) (M.o_grd (gA2 hi0 hi1) (M.o_bind (indexFunc_out (p := fun k => !((orderP ws).contains k)) (fun x _ => M.i_pure) hany) ?_)))
      rintro r ⟨r0, r1, r2⟩
      have hym := getD_memN (ws.getD i.toNat default).of (i := r.toNat) (by omega) 0
      have hyr := right_of hR (i := i.toNat) (by omega) _ hym
      have hyO : (ws.getD i.toNat default).of.getD r.toNat 0 ∉ orderP ws := by simpa using r2
      refine M.o_grd (gA2 r0 r1) (M.o_bind (ih (met ++ [i]) _ (by simp only [List.length_append, List.length_cons, List.length_nil]; omega) (hm.next hin hym hyr.1 hyr.2.1 hyO)) ?_)
      rintro ⟨l, m⟩ hc
      exact M.o_pure hc
theorem circle_found (hR : rightE ws = 0) (h : (orderP ws).length < ws.length) : (m_notes_Circle ws).Out (fun r => r.2 = 0 ∧ Circ ws r.1) := by
  have hs := stuck_out h
  have hl := right_len hR
  have start : ∃ i, i < ws.length ∧ (i : Int) ∉ orderP ws := by
    refine Classical.byContradiction fun hc => ?_
    have h1 : ∀ i, i < ws.length → (i : Int) ∈ orderP ws := fun i hi => Classical.byContradiction fun hn => hc ⟨i, hi, hn⟩
    have h2 : ((List.range ws.length).map fun i : Nat => (i : Int)).length ≤ (orderP ws).length := by
      refine nodup_sub _ _ ?_ ?_
      · rw [List.Nodup, List.pairwise_map]
        exact List.nodup_range.imp fun hne e => hne (by omega)
      · intro x hx
        obtain ⟨i, hi, rfl⟩ := List.mem_map.1 hx
        exact h1 i (List.mem_range.1 hi)
    simp at h2
    omega
  obtain ⟨i0, hi0, hn0⟩ := start
  unfold m_notes_Circle
  refine M.o_f (by rw [hR]; rfl) (M.o_bindE (webOrder_ends hR) (M.o_bind (P := fun r => match r with | .inl (l, _) => Circ ws l | .inr _ => False) ?_ ?_))
  · refine M.o_for ws.length (fun i s => s = i ∧ ∀ j < i, (j : Int) ∈ orderP ws) ?_ ?_ (s := 0) ⟨rfl, fun j hj => by omega⟩
    · rintro i s hi ⟨rfl, hj⟩
      simp only [m_notes_Circle_b0]
      refine M.o_t (by simpa using hi) ?_
      cases hc : (orderP ws).contains (s : Int) with
      | true =>
        refine M.o_f rfl (M.o_pure ⟨rfl, fun j hj2 => ?_⟩)
        by_cases e : j = s
        · subst e; simpa using hc
        · exact hj j (by omega)
      | false =>
        refine M.o_t rfl (M.o_bind (circle_out hR hs ws.length [] (s : Int) (by simp) ⟨fun x h => by simp at h, List.nodup_nil, fun j hj => by simp at hj, fun h => by simp at h, by omega, by omega, by simpa using hc⟩) ?_)
        rintro ⟨l, m⟩ hq
        exact M.o_pure hq
    · rintro s ⟨rfl, hj⟩
      exact absurd (hj i0 hi0) hn0
  · rintro (⟨l, m⟩ | u) hq
    · exact M.o_pure ⟨rfl, hq⟩
    · exact hq.elim
theorem circle_none (hO : openedE ws = 0) : (m_notes_Circle ws).Ends ([], 5) := by
  have hR := opened_right hO
  have hl := right_len hR
  have hall : ∀ i : Nat, i < ws.length → (orderP ws).contains (i : Int) = true := fun i hi => by
    rw [List.contains_iff_mem]
    exact order_all hO (by omega) (by omega)
  unfold m_notes_Circle
  have hit : (M.iter (m_notes_Circle_b0 ws (orderP ws)) 0).Ends (.inr ()) := by
    refine M.i_for (fun i => i) ws.length (fun i hi => ?_) ?_
    · simp only [m_notes_Circle_b0]
      rw [hall i hi]
      exact M.i_t (by simpa using hi) (M.i_f rfl M.i_pure)
    · simp only [m_notes_Circle_b0]
      exact M.i_f (by simp) M.i_pure
  exact M.i_f (by rw [hR]; rfl) (M.i_bind (webOrder_ends hR) (M.i_bind hit M.i_pure))
theorem circle_wrong (hR : rightE ws ≠ 0) : (m_notes_Circle ws).Ends ([], rightE ws) := by
  unfold m_notes_Circle
  exact M.i_t (by simpa using hR) M.i_pure
/-- The law's own look at a circle. -/
theorem isCircle {l : List Int} (h : Circ ws l) (hn : l.length ≤ 1000000) : (m_nilometerlaw13_circle ws l).Ends true := by
  have hp := h.pos
  unfold m_nilometerlaw13_circle
  refine M.i_bind (a := .inr ()) ?_ (by rw [show (true : Bool) = decide (0 < (l.length : Int)) from by simp; omega]; exact M.i_pure)
  refine M.i_for (fun i => i) l.length (fun i hi => ?_) ?_
  · have hm := h.rng _ (getD_memN l (by omega : (i : Int) < _) 0)
    have hm1 := hm.1
    have hm2 := hm.2
    -- the next one
    have hnx : l.getD (Int.toNat (((i : Int) + 1) % (l.length : Int))) 0 ∈ (ws.getD (Int.toNat (l.getD i 0)) default).of := by
      by_cases e : i + 1 < l.length
      · rw [Int.emod_eq_of_lt (by omega) (by omega), show ((i : Int) + 1).toNat = i + 1 from by omega]
        exact h.pth i e
      · obtain rfl : i = l.length - 1 := by omega
        rw [show (((l.length - 1 : Nat) : Int) + 1) = (l.length : Int) from by omega, Int.emod_self]
        exact h.shut
    have hmod0 := Int.emod_nonneg ((i : Int) + 1) (show (l.length : Int) ≠ 0 from by omega)
    have hmod1 := Int.emod_lt_of_pos ((i : Int) + 1) (show 0 < (l.length : Int) from by omega)
    have hth := M.i_for (body := m_nilometerlaw13_circle_b2 ws l i) (r := (ws.getD (Int.toNat (l.getD i 0)) default).of.any fun x => x == l.getD (Int.toNat (((i : Int) + 1) % (l.length : Int))) 0)
      (fun k => (((ws.getD (Int.toNat (l.getD i 0)) default).of.take k).any (fun x => x == l.getD (Int.toNat (((i : Int) + 1) % (l.length : Int))) 0), k)) (ws.getD (Int.toNat (l.getD i 0)) default).of.length (fun k hk => by
        simp only [m_nilometerlaw13_circle_b2]
        rw [any_take_succ _ _ hk 0]
        exact M.i_t (by simpa using hk) (M.grdD (by omega) M.i_pure)) (by
        simp only [m_nilometerlaw13_circle_b2, List.take_length]
        exact M.i_f (by simp) M.i_pure)
    have hth2 : ((ws.getD (Int.toNat (l.getD i 0)) default).of.any fun x => x == l.getD (Int.toNat (((i : Int) + 1) % (l.length : Int))) 0) = true := List.any_eq_true.2 ⟨_, hnx, by simp⟩
    rw [hth2] at hth
    have hno : (M.iter (m_nilometerlaw13_circle_b3 l i) 0).Ends (.inr ()) := by
      refine M.i_for (fun k => k) i (fun k hk => ?_) ?_
      · have hne : l.getD k 0 ≠ l.getD i 0 := fun e => by
          rw [getD_el l (by omega : k < l.length) 0, getD_el l hi 0] at e
          exact List.pairwise_iff_getElem.1 h.once k i (by omega) hi hk e
        simp only [m_nilometerlaw13_circle_b3]
        exact M.i_t (by simpa using hk) (M.grdD (by omega) (M.i_f (by simpa using hne) M.i_pure))
      · simp only [m_nilometerlaw13_circle_b3]
        exact M.i_f (by simp) M.i_pure
    simp only [m_nilometerlaw13_circle_b4]
    refine M.i_t (by simpa using hi) (M.grdD (by omega) (M.i_f (by simp only [Bool.or_eq_false_iff, decide_eq_false_iff_not]; omega) (M.i_grd (gA2 (by omega) (by omega)) (M.i_grd (gA2 hmod0 hmod1) (M.i_grd (gA2 hm1 hm2) (M.i_bind (by simpa using hth) (M.i_bind hno (M.i_f rfl M.i_pure))))))))
  · simp only [m_nilometerlaw13_circle_b4]
    exact M.i_f (by simp) M.i_pure
end Go.Proofs.Ytndobgodeicloaa
namespace Go.Proofs.Ytndobgodeicloaa
open Go Go.Nm
variable {ws : List Work}
theorem right_ne9 (ws : List Work) : (rightE ws != 9) = true := by
  unfold rightE
  split
  · rfl
  · split
    · rfl
    · split <;> rfl
/-- Whether works are a line, or the error. -/
def leadsR (ws : List Work) (l : List Int) : Bool × Int := if openedE ws ≠ 0 then (false, openedE ws) else if (l.all fun x => inB x 0 ((ws.length : Int) - 1)) = true then (lineB ws l && decide (0 < (l.length : Int)), 0) else (false, 2)
theorem all_in {l : List Int} {n : Nat} (h : (l.all fun x => inB x 0 ((n : Int) - 1)) = true) : ∀ x ∈ l, 0 ≤ x ∧ x < (n : Int) := fun x hx => by
  have := List.all_eq_true.1 h x hx
  unfold inB at this
  simp only [Bool.and_eq_true, decide_eq_true_eq] at this
  omega
theorem refLeads_all (ws : List Work) {l : List Int} (hl : l.length ≤ 1000000) : (m_nilometerref13_Leads ws l).Ends (leadsR ws l) := by
  by_cases hO : openedE ws = 0
  · cases ha : (l.all fun x => inB x 0 ((ws.length : Int) - 1)) with
    | true =>
      have := refLeads_ends hO (all_in ha) hl
      unfold leadsR
      rw [if_neg (by simp [hO]), if_pos ha]
      exact this
    | false =>
      unfold leadsR m_nilometerref13_Leads
      rw [if_neg (by simp [hO]), if_neg (by simp [ha])]
      have s0 := M.i_scan (b := m_nilometerref13_Leads_b0 ws l) l.length (fun i => !inB (l.getD i 0) 0 ((ws.length : Int) - 1)) (fun i hi _ => ?_) (fun _ => ?_)
      · rw [any_range_all l 0 (fun x => inB x 0 ((ws.length : Int) - 1)), ha] at s0
        exact M.i_bind (check_ends ws) (M.i_f (by simp [hO]) (M.i_bind s0 M.i_pure))
      · simp only [m_nilometerref13_Leads_b0, outB_eq]
        refine M.i_t (by simpa using hi) (M.grdD (by omega) ?_)
        cases inB (l.getD i 0) 0 ((ws.length : Int) - 1) <;> exact M.i_pure
      · simp only [m_nilometerref13_Leads_b0]
        exact M.i_f (by simp) M.i_pure
  · unfold leadsR m_nilometerref13_Leads
    rw [if_pos hO]
    exact M.i_bind (check_ends ws) (M.i_t (by simpa using hO) M.i_pure)
theorem notesLeads_all (ws : List Work) {l : List Int} (hl : l.length ≤ 1000000) : (m_notes_Leads ws l).Ends (leadsR ws l) := by
  by_cases hO : openedE ws = 0
  · cases ha : (l.all fun x => inB x 0 ((ws.length : Int) - 1)) with
    | true =>
      have := notesLeads_ends hO (all_in ha) hl
      unfold leadsR
      rw [if_neg (by simp [hO]), if_pos ha]
      exact this
    | false =>
      have he := everyInt_ends (s := l) (f := fun x => m_notes_Leads_1 x ws) (p := fun x => inB x 0 ((ws.length : Int) - 1)) (fun x _ => M.i_pure)
      rw [ha] at he
      unfold leadsR m_notes_Leads
      rw [if_neg (by simp [hO]), if_neg (by simp [ha])]
      exact M.i_t (by simp [hO]) (M.i_f rfl (M.i_bind he (M.i_t rfl M.i_pure)))
  · unfold leadsR m_notes_Leads
    rw [if_pos hO]
    exact M.i_f (by simpa using hO) (M.i_t (by simpa using hO) M.i_pure)
theorem line_ref (ws : List Work) (a b : Int) : ∃ l e, (m_notes_Line ws a b).Ends (l, e) ∧ (m_nilometerref13_Ends ws a b).Ends e ∧ (e ≠ 0 → l = []) ∧ (e = 0 → openedE ws = 0 ∧ LineG ws a b l) := by
  by_cases hO : openedE ws = 0
  · cases hr : (inB a 0 ((ws.length : Int) - 1) && inB b 0 ((ws.length : Int) - 1)) with
    | false =>
      have hc : ((!(inB a 0 ((ws.length : Int) - 1))) || (!(inB b 0 ((ws.length : Int) - 1)))) = true := by rw [← Bool.not_and, hr]; rfl
      refine ⟨[], 2, ?_, ?_, fun _ => rfl, fun h => by cases h⟩
      · unfold m_notes_Line
        exact M.i_t (by simp [hO]) (M.i_f rfl (M.i_t hc M.i_pure))
      · unfold m_nilometerref13_Ends
        simp only [outB_eq]
        exact M.i_bind (check_ends ws) (M.i_f (by simp [hO]) (M.i_t hc M.i_pure))
    | true =>
      simp only [Bool.and_eq_true] at hr
      have ha := hr.1
      have hb := hr.2
      unfold inB at ha hb
      simp only [Bool.and_eq_true, decide_eq_true_eq] at ha hb
      obtain ⟨⟨l, e⟩, h1, h2⟩ := line_outG hO (a := a) (b := b) ha.1 (by omega) hb.1 (by omega)
      have hc : ((!(inB a 0 ((ws.length : Int) - 1))) || (!(inB b 0 ((ws.length : Int) - 1)))) = false := by rw [hr.1, hr.2]; rfl
      obtain ⟨T, hT, hD⟩ := behind_ends (opened_right hO)
      have q1 := hD.sq.len
      have q2 := hD.sq.row a.toNat (by omega)
      have ref : ∀ e, (a ≠ b ∧ ¬ Wy ws a.toNat b.toNat → e = 5) → (¬ (a ≠ b ∧ ¬ Wy ws a.toNat b.toNat) → e = 0) → (m_nilometerref13_Ends ws a b).Ends e := by
        intro e he5 he0
        unfold m_nilometerref13_Ends
        simp only [outB_eq]
        refine M.i_bind (check_ends ws) (M.i_f (by simp [hO]) (M.i_f hc ?_))
        by_cases hab : a = b
        · rw [he0 (fun h => h.1 hab)]
          exact M.i_f (by simpa using hab) (M.i_f (by simp) M.i_pure)
        · refine M.i_t (by simpa using hab) (M.i_bind hT (M.i_grd (gOr2 (by omega) (by omega)) (M.i_grd (gOr2 (by omega) (by omega)) ?_)))
          cases ht : Tb T a.toNat b.toNat with
          | true =>
            rw [he0 (fun h => h.2 (hD.sound _ _ ht))]
            refine M.i_f ?_ M.i_pure
            show ((a != b) && !(Tb T a.toNat b.toNat)) = false
            rw [ht]; simp
          | false =>
            rw [he5 ⟨hab, fun w => by rw [hD.way (opened_right hO) w] at ht; cases ht⟩]
            refine M.i_t ?_ M.i_pure
            show ((a != b) && !(Tb T a.toNat b.toNat)) = true
            rw [ht]; simpa using hab
      rcases h2 with ⟨e0, hl, hw⟩ | ⟨e5, hne, hw⟩
      · dsimp only at e0 hl
        subst e0
        refine ⟨l, 0, h1, ref 0 (fun h => absurd hw (fun h' => h'.elim h.1 h.2)) (fun _ => rfl), fun h => absurd rfl h, fun _ => ⟨hO, hl⟩⟩
      · obtain ⟨rfl, rfl⟩ := Prod.mk.inj e5
        exact ⟨[], 5, h1, ref 5 (fun _ => rfl) (fun h => absurd ⟨hne, hw⟩ h), fun _ => rfl, fun h => by cases h⟩
  · refine ⟨[], openedE ws, ?_, ?_, fun _ => rfl, fun h => absurd h hO⟩
    · unfold m_notes_Line
      exact M.i_f (by simpa using hO) (M.i_t (by simpa using hO) M.i_pure)
    · unfold m_nilometerref13_Ends
      exact M.i_bind (check_ends ws) (M.i_t (by simpa using hO) M.i_pure)
theorem notesOrder_ends (ws : List Work) : (m_notes_Order ws).Ends (if openedE ws = 0 then (orderP ws, 0) else ([], openedE ws)) := by
  unfold m_notes_Order
  by_cases hO : openedE ws = 0
  · rw [if_pos hO]
    exact M.i_t (by simp [hO]) (M.i_f rfl M.i_pure)
  · rw [if_neg hO]
    exact M.i_f (by simpa using hO) (M.i_t (by simpa using hO) M.i_pure)
theorem notesCheck_ends (ws : List Work) : (m_notes_Check ws).Ends (openedE ws) := by
  unfold m_notes_Check
  by_cases hO : openedE ws = 0
  · rw [hO]; exact M.i_t rfl M.i_pure
  · exact M.i_f (by simpa using hO) M.i_pure
theorem works_tail (line : List Int) (a b : Int) (hw : ws.length ≤ 1000) (ho : ∀ x ∈ ws, x.of.length ≤ 1000) (hn : line.length ≤ 40) : (m_nilometerlaw13_NotesWorks_j1 ws line a b ws).Ends true := by
  have hO1 := notesOrder_ends ws
  have hO2 := order_ends ws
  generalize (if openedE ws = 0 then (orderP ws, (0 : Int)) else ([], openedE ws)) = o at hO1 hO2
  obtain ⟨o1, o2⟩ := o
  have hL1 := notesLeads_all ws (l := line) (by omega)
  have hL2 := refLeads_all ws (l := line) (by omega)
  generalize leadsR ws line = q at hL1 hL2
  obtain ⟨q1, q2⟩ := q
  obtain ⟨l, e, h1, h2, h3, h4⟩ := line_ref ws a b
  have fin : (m_nilometerlaw13_NotesWorks_j0 ws line ws).Ends true := by
    unfold m_nilometerlaw13_NotesWorks_j0
    refine M.i_bind (same_ends ws) (M.i_bind M.i_pure (M.i_bind (M.i_opt (fun _ => awake_ends) (fun e => by simp at e)) ?_))
    have : ((true && (decide (line = line))) && true) = true := by simp
    rw [this]
    exact M.i_pure
  unfold m_nilometerlaw13_NotesWorks_j1
  refine M.i_bind hO1 (M.i_bind (works_ends hw ho) (M.i_bind hO2 (M.i_bind M.i_pure (M.i_f (by simp) (M.i_bind hL1 (M.i_bind (works_ends hw ho) (M.i_bind hL2 (M.i_f (by simp) (M.i_bind h1 (M.i_bind (works_ends hw ho) (M.i_bind h2 ?_)))))))))))
  by_cases he : e = 0
  · obtain ⟨hO, hg⟩ := h4 he
    subst he
    have hlen := right_len (opened_right hO)
    have hgl := hg.len
    obtain ⟨r, hr⟩ := hg.first
    obtain ⟨r', hr'⟩ := hg.last
    have hpos : 0 < l.length := by rw [hr]; simp
    have hld := refLeads_ends (l := l) hO hg.rng (by omega)
    rw [hg.line, show decide (0 < (l.length : Int)) = true from by simpa using hpos] at hld
    have e0 : l.getD 0 0 = a := by rw [hr]; rfl
    have e1 : l.getD (Int.toNat ((l.length : Int) - 1)) 0 = b := by
      rw [show Int.toNat ((l.length : Int) - 1) = l.length - 1 from by omega, hr', show (r' ++ [b]).length - 1 = r'.length from by simp]
      exact clR
    refine M.i_f (by simp) (M.i_t rfl (M.i_bind (works_ends hw ho) (M.i_bind hld (M.i_grd (gOr (by omega)) (M.i_grd (gOr2 (by omega) (by omega)) (M.i_grd (gOr2 (by omega) (by omega)) (M.i_f ?_ fin)))))))
    rw [e0, e1]
    simp
  · have hl := h3 he
    subst hl
    exact M.i_f (by simp) (M.i_f (by simpa using he) fin)
theorem notesWorks_ends (ws : List Work) (line : List Int) (a b : Int) : (m_nilometerlaw13_NotesWorks ws line a b).Ends true := by
  unfold m_nilometerlaw13_NotesWorks
  cases hb : littleB ws [line] with
  | false => exact M.i_t rfl (M.i_bind awake_ends M.i_pure)
  | true =>
    have h1 := hb
    unfold littleB at h1
    simp only [Bool.and_eq_true, decide_eq_true_eq, List.all_eq_true] at h1
    have hw : ws.length ≤ 1000 := by omega
    have ho : ∀ x ∈ ws, x.of.length ≤ 1000 := fun x hx => by have := h1.1.2 x hx; omega
    have hn : line.length ≤ 40 := h1.2 line (by simp)
    have tail := works_tail (ws := ws) line a b hw ho hn
    refine M.i_f rfl (M.i_bind (copyWorks_ends hw ho) (M.grdD (by omega) (M.i_bind (works_ends hw ho) (M.i_bind (check_ends ws) (M.i_bind (notesCheck_ends ws) (M.i_f (by simp) ?_))))))
    by_cases hO : openedE ws = 0
    · refine M.i_bind (circle_none hO) (M.i_t (by simp [hO]) (M.i_f (by simp) tail))
    · by_cases hR : rightE ws = 0
      · have hlt : (orderP ws).length < ws.length := Classical.byContradiction fun hc => hO (opened_ok hR (by omega))
        have h9 := opened_circle hR (by omega : ((orderP ws).length : Int) < ws.length)
        obtain ⟨⟨l, e⟩, hc1, hc2, hc3⟩ := circle_found hR hlt
        dsimp only at hc2 hc3
        subst hc2
        have hlb := nodup_bound ws.length l hc3.once hc3.rng
        refine M.i_bind hc1 (M.i_f (by simpa using hO) (M.i_f (by simp [h9]) (M.i_bind (M.i_opt (fun _ => isCircle hc3 (by omega)) (fun h => by simp at h)) (M.i_f rfl tail))))
      · have hw' := opened_wrong hR
        refine M.i_bind (circle_wrong hR) (M.i_f (by simpa using hO) (M.i_t ?_ (M.i_f (by simp [hw']) tail)))
        rw [hw']
        exact right_ne9 ws
end Go.Proofs.Ytndobgodeicloaa
