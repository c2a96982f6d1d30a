/- Part 7 of the texts on which the proof rests. Conditions: none. -/
import Derived.Test.YtbaehghammbjdaaGreatZA6
set_option linter.unusedVariables false
set_option linter.unusedSimpArgs false
set_option linter.unusedSectionVars false
section
set_option maxRecDepth 100000
set_option maxHeartbeats 16000000
namespace Go.Proofs.YtbaehghammbjdaaGreat
open Go Go.Nm
def zab (n : Int) (a : Int) (b : Int) : M Bool :=
  M.pure ((decide (n < a)) || (decide (b < n)))
theorem zaf {R : List Chunk}  (n : Int) (a : Int) (b : Int)  {r : Bool} (hM : (zab n a b).Ends r) (w : World) (H : St w w [] R) : Ret Tryz.prog 49 #[I n, I a, I b] w fun v w' => ∃ (y0 : Bool), y0 = r /\ v = B y0 /\ St w w' [] R := by
 refine ret_of_W Tryz.func49 rfl rfl rfl ?_
 refine W.seq ?_
 refine W.region rfl ?_
 refine s_val (x_as (v := B false) rfl) ?_
 refine s_nil ?_
 refine W.seq ?_
 refine W.region rfl ?_
 refine s_val (x_mv (v := I n) rfl) ?_
 refine s_val (x_mv (v := I a) rfl) ?_
 refine s_val (x_cmp (kd := .i64) (a := n) (b := a) (r := decide (n < a)) rfl rfl rfl) ?_
 refine s_val (x_mv (v := B (decide (n < a))) rfl) ?_
 refine g_val (!(decide (n < a))) (gy_f rfl) (fun hg => x_mv (v := I n) rfl) ?_
 refine g_val (!(decide (n < a))) (gy_f rfl) (fun hg => x_mv (v := I b) rfl) ?_
 refine g_val (!(decide (n < a))) (gy_f rfl) (fun hg => x_cmp (kd := .i64) (a := n) (b := b) (r := decide (b < n)) (gd_of (c := !(decide (n < a))) hg (I n)) (gd_of (c := !(decide (n < a))) hg (I b)) rfl) ?_
 refine s_val (x_por (b := decide (n < a)) (r := decide (b < n)) rfl rfl (fun hb => gd_of (c := !(decide (n < a))) (by first | exact hb | (rw [hb]; rfl) | simp_all) (B (decide (b < n))))) ?_
 refine s_val (x_as (v := B ((decide (n < a)) || (decide (b < n)))) rfl) ?_
 refine s_nil ?_
 refine W.ret ?_
 have hr_ := M.e_pure hM
 exact ⟨_, resE_tmp rfl, ⟨((decide (n < a)) || (decide (b < n))), hr_, rfl, H⟩⟩

def zbr (s : Span) : M Bool :=
  M.pure (((decide (s.lo < 0)) || (decide (1000 < s.hi))) || (decide (s.hi < s.lo)))
theorem zct {R : List Chunk}  (s : Span)  {r : Bool} (hM : (zbr s).Ends r) (w : World) (H : St w w [] R) : Ret Tryz.prog 69 #[.agg #[I s.lo, I s.hi]] w fun v w' => ∃ (y0 : Bool), y0 = r /\ v = B y0 /\ St w w' [] R := by
 refine ret_of_W Tryz.func69 rfl rfl rfl ?_
 refine W.seq ?_
 refine W.region rfl ?_
 refine t_box (v := .agg #[I s.lo, I s.hi]) (cs := [I s.lo, I s.hi]) H rfl rfl ?_
 intro b_1 w1z H
 refine s_val (x_as (v := B false) rfl) ?_
 refine s_nil ?_
 refine W.seq ?_
 refine W.region rfl ?_
 refine s_val (x_fa (a := .pointer (some ⟨b_1, 0, none⟩)) (v := .pointer (some ⟨b_1, 0, none⟩)) rfl (fa_blk (o := 0) Fd26_0 Sz3)) ?_
 refine s_val (x_ld (p := .pointer (some ⟨b_1, 0, none⟩)) (v := I s.lo) rfl (ldb_sc Sc3 (H.blk (k := 0) rfl) rfl)) ?_
 refine s_val (x_cmp (kd := .i64) (a := s.lo) (b := 0) (r := decide (s.lo < 0)) rfl rfl rfl) ?_
 refine s_val (x_mv (v := B (decide (s.lo < 0))) rfl) ?_
 refine g_val (!(decide (s.lo < 0))) (gy_f rfl) (fun hg => x_fa (a := .pointer (some ⟨b_1, 0, none⟩)) (v := .pointer (some ⟨b_1, 1, none⟩)) rfl (fa_blk (o := 0) Fd26_1 Sz3)) ?_
 refine g_val (!(decide (s.lo < 0))) (gy_f rfl) (fun hg => x_ld (p := .pointer (some ⟨b_1, 1, none⟩)) (v := I s.hi) (gd_of (c := !(decide (s.lo < 0))) hg (.pointer (some ⟨b_1, 1, none⟩))) (ldb_sc Sc3 (H.blk (k := 0) rfl) rfl)) ?_
 refine g_val (!(decide (s.lo < 0))) (gy_f rfl) (fun hg => x_cmp (kd := .i64) (a := s.hi) (b := 1000) (r := decide (1000 < s.hi)) (gd_of (c := !(decide (s.lo < 0))) hg (I s.hi)) rfl rfl) ?_
 refine s_val (x_por (b := decide (s.lo < 0)) (r := decide (1000 < s.hi)) rfl rfl (fun hb => gd_of (c := !(decide (s.lo < 0))) (by first | exact hb | (rw [hb]; rfl) | simp_all) (B (decide (1000 < s.hi))))) ?_
 refine s_val (x_mv (v := B ((decide (s.lo < 0)) || (decide (1000 < s.hi)))) rfl) ?_
 refine g_val (!((decide (s.lo < 0)) || (decide (1000 < s.hi)))) (gy_f rfl) (fun hg => x_fa (a := .pointer (some ⟨b_1, 0, none⟩)) (v := .pointer (some ⟨b_1, 0, none⟩)) rfl (fa_blk (o := 0) Fd26_0 Sz3)) ?_
 refine g_val (!((decide (s.lo < 0)) || (decide (1000 < s.hi)))) (gy_f rfl) (fun hg => x_ld (p := .pointer (some ⟨b_1, 0, none⟩)) (v := I s.lo) (gd_of (c := !((decide (s.lo < 0)) || (decide (1000 < s.hi)))) hg (.pointer (some ⟨b_1, 0, none⟩))) (ldb_sc Sc3 (H.blk (k := 0) rfl) rfl)) ?_
 refine g_val (!((decide (s.lo < 0)) || (decide (1000 < s.hi)))) (gy_f rfl) (fun hg => x_fa (a := .pointer (some ⟨b_1, 0, none⟩)) (v := .pointer (some ⟨b_1, 1, none⟩)) rfl (fa_blk (o := 0) Fd26_1 Sz3)) ?_
 refine g_val (!((decide (s.lo < 0)) || (decide (1000 < s.hi)))) (gy_f rfl) (fun hg => x_ld (p := .pointer (some ⟨b_1, 1, none⟩)) (v := I s.hi) (gd_of (c := !((decide (s.lo < 0)) || (decide (1000 < s.hi)))) hg (.pointer (some ⟨b_1, 1, none⟩))) (ldb_sc Sc3 (H.blk (k := 0) rfl) rfl)) ?_
 refine g_val (!((decide (s.lo < 0)) || (decide (1000 < s.hi)))) (gy_f rfl) (fun hg => x_cmp (kd := .i64) (a := s.lo) (b := s.hi) (r := decide (s.hi < s.lo)) (gd_of (c := !((decide (s.lo < 0)) || (decide (1000 < s.hi)))) hg (I s.lo)) (gd_of (c := !((decide (s.lo < 0)) || (decide (1000 < s.hi)))) hg (I s.hi)) rfl) ?_
 refine s_val (x_por (b := ((decide (s.lo < 0)) || (decide (1000 < s.hi)))) (r := decide (s.hi < s.lo)) rfl rfl (fun hb => gd_of (c := !((decide (s.lo < 0)) || (decide (1000 < s.hi)))) (by first | exact hb | (rw [hb]; rfl) | simp_all) (B (decide (s.hi < s.lo))))) ?_
 refine s_val (x_as (v := B (((decide (s.lo < 0)) || (decide (1000 < s.hi))) || (decide (s.hi < s.lo)))) rfl) ?_
 refine s_nil ?_
 refine W.ret ?_
 have hr_ := M.e_pure hM
 exact ⟨_, resE_tmp rfl, ⟨(((decide (s.lo < 0)) || (decide (1000 < s.hi))) || (decide (s.hi < s.lo))), hr_, rfl, (H.pk [])⟩⟩

def zbp (l : List Int) (end_ : Int) : Nat -> M (Nat ⊕ (Unit ⊕ Unit)) := fun i =>
  bif decide ((i : Int) < (l.length : Int)) then (
  M.grd (decide ((i : Int) < (l.length : Int))) <|
  M.grd (decide ((-9223372036854775808 : Int) <= (end_ - 1)) && decide ((end_ - 1) <= (9223372036854775807 : Int))) <|
  M.bind (zab (l.getD i 0) 0 (end_ - 1)) fun r2 =>
  M.grd ((!((!r2) && (decide (0 < (i : Int)))) || (decide ((-9223372036854775808 : Int) <= ((i : Int) - 1)) && decide (((i : Int) - 1) <= (9223372036854775807 : Int))))) <|
  M.grd ((!((!r2) && (decide (0 < (i : Int)))) || (decide ((0 : Int) <= ((i : Int) - 1)) && decide (((i : Int) - 1) < (l.length : Int))))) <|
  bif (r2 || ((decide (0 < (i : Int))) && (decide ((l.getD i 0) <= (l.getD (Int.toNat ((i : Int) - 1)) 0))))) then (
  M.pure (.inr (.inl ())))
  else (
  M.pure (.inl (i + 1))))
  else (
  M.pure (.inr (.inr ())))
def zbR (l : List Int) (end_ : Int) : M Bool :=
  M.bind (M.iter (zbp l end_) 0) fun x_ => match x_ with
  | (.inl (_ : Unit)) => (
  M.pure true)
  | (.inr (_ : Unit)) => (
  M.pure false)
theorem zdr {R : List Chunk} {C_l : Cells} {v_l : Value} (l : List Int) (end_ : Int) (hC_l : Reads R C_l) (hs_l : Sl C_l v_l l) {r : Bool} (hM : (zbR l end_).Ends r) (w : World) (H : St w w [] R) : Ret Tryz.prog 70 #[v_l, I end_] w fun v w' => ∃ (y0 : Bool), y0 = r /\ v = B y0 /\ St w w' [] R := by
 refine ret_of_W Tryz.func70 rfl rfl rfl ?_
 refine W.seq ?_
 refine W.region rfl ?_
 refine s_val (x_as (v := B false) rfl) ?_
 refine s_nil ?_
 refine W.seq ?_
 refine W.seq ?_
 refine W.region rfl ?_
 refine s_val (x_as (v := I 0) rfl) ?_
 refine s_nil ?_
 refine W.block ?_
 obtain ⟨ex1z, hi2z, hk3z⟩ := M.e_bind hM
 obtain ⟨m0_, hi2z⟩ := M.e_iter hi2z
 refine W.loop (fun m σ W => ∃ (i : Nat) (ρ : Env), σ = upds ρ [(0, v_l), (1, I end_), (5, I (i : Int))] /\ M.iterN (zbp l end_) m i = some ex1z /\ St w W [] R) ?_ ?_
 ·exact ⟨_, 0, _, upds_of _ _ ⟨rfl, rfl, rfl, trivial⟩, hi2z, H⟩
 rintro m6z σ w4z ⟨i, ρ, rfl, hI5z, H⟩
 obtain ⟨m7z, lt8z, x9z, hM, hN10z⟩ := M.e_iterN hI5z
 simp only [zbp] at hM
 clear hI5z
 refine W.seq ?_
 refine W.seq ?_
 refine W.region rfl ?_
 refine s_val (x_mv (v := I (i : Int)) rfl) ?_
 refine s_val (x_mv (v := v_l) rfl) ?_
 have hl11z := (hs_l).len_le
 refine s_val (x_lenS T22.und rfl hs_l) ?_
 refine s_val (x_cmp (kd := .i64) (a := (i : Int)) (b := (l.length : Int)) (r := decide ((i : Int) < (l.length : Int))) rfl rfl rfl) ?_
 refine s_nil ?_
 refine W.cond (decide ((i : Int) < (l.length : Int))) rfl (fun c12z => ?_) (fun c12z => ?_)
 ·replace hM := M.e_t hM c12z
  simp only [decide_eq_true_eq, decide_eq_false_iff_not, beq_iff_eq, bne_iff_ne, beq_eq_false_iff_ne, bne_eq_false_iff_eq, ne_eq, Decidable.not_not] at c12z
  refine W.skip ?_
  refine W.seq ?_
  refine W.block ?_
  refine W.seq ?_
  refine W.draw (fun W => St w W [] R) [(0, true), (1, true), (2, true), (3, true), (4, true), (5, true), (6, false), (7, true), (8, true), (9, true), (10, true), (11, true), (12, true), (13, true), (14, true), (15, true), (16, true), (17, true), (18, true), (19, true), (20, true), (21, true), (22, true)] mixed (by decide +kernel) rfl ?_
  intro w13z hx_
  replace H := H.ext hx_
  clear hx_
  refine ⟨(H.pk []), ?_⟩
  refine d_q rfl (fun w' H => x_mv (v := v_l) rfl) ?_
  refine d_q rfl (fun w' H => x_mv (v := I (i : Int)) rfl) ?_
  obtain ⟨sd14z, hM⟩ := M.e_grd hM
  simp only [Bool.and_eq_true, decide_eq_true_eq] at sd14z
  refine d_q rfl (fun w' H => x_ix (a := v_l) (b := I (i : Int)) (v := vat v_l 1 (Int.toNat (i : Int))) rfl rfl (Sl.ix (α := Int) T22.und T22.size hs_l (by omega) (by omega))) ?_
  refine d_q rfl (fun w' H => x_ld (p := vat v_l 1 (Int.toNat (i : Int))) (v := I (l.getD i 0)) rfl (ld_sc Sc3 (At.mono (Int_at hs_l (i := (i : Int)) (by omega) (by omega)) (hC_l.at H)))) ?_
  refine d_q rfl (fun w' H => x_mv (v := I end_) rfl) ?_
  obtain ⟨sd15z, hM⟩ := M.e_grd hM
  simp only [Bool.and_eq_true, decide_eq_true_eq] at sd15z
  refine d_q rfl (fun w' H => x_ari (a := end_) (b := 1) (r := end_ - 1) rfl rfl rfl (by omega)) ?_
  refine d_l rfl ?_
  obtain ⟨r17z, hx16z, hM⟩ := M.e_bind hM
  refine s_call cf49 [I (l.getD i 0), I 0, I (end_ - 1)] rfl (zaf (l.getD i 0) 0 (end_ - 1) hx16z _ (H.gt 0)) ?_
  rintro vq w18z ⟨r2, hr19z, hvq, H2_⟩
  subst hr19z
  subst vq
  try dsimp only at hM
  replace H := H.bk H2_
  clear H2_
  refine s_nil ⟨(H.pk []), ?_⟩
  refine d_q rfl (fun w' H => x_mv (v := B r2) rfl) ?_
  refine d_qg (!r2) rfl (gy_f rfl) (fun hg => (fun w' H => x_mv (v := I (i : Int)) rfl)) ?_
  refine d_qg (!r2) rfl (gy_f rfl) (fun hg => (fun w' H => x_cmp (kd := .i64) (a := (i : Int)) (b := 0) (r := decide (0 < (i : Int))) (gd_of (c := !r2) hg (I (i : Int))) rfl rfl)) ?_
  refine d_qg (!r2) rfl (gy_f rfl) (fun hg => (fun w' H => x_mv (v := B (decide (0 < (i : Int)))) (gd_of (c := !r2) hg (B (decide (0 < (i : Int))))))) ?_
  refine d_qg ((!r2) && (decide (0 < (i : Int)))) rfl (gy_gt rfl rfl) (fun hg => (fun w' H => x_mv (v := v_l) rfl)) ?_
  refine d_qg ((!r2) && (decide (0 < (i : Int)))) rfl (gy_gt rfl rfl) (fun hg => (fun w' H => x_mv (v := I (i : Int)) rfl)) ?_
  refine d_qg ((!r2) && (decide (0 < (i : Int)))) rfl (gy_gt rfl rfl) (fun hg => (fun w' H => x_ix (a := v_l) (b := I (i : Int)) (v := vat v_l 1 (Int.toNat (i : Int))) (gd_of (c := ((!r2) && (decide (0 < (i : Int))))) hg (v_l)) (gd_of (c := ((!r2) && (decide (0 < (i : Int))))) hg (I (i : Int))) (Sl.ix (α := Int) T22.und T22.size hs_l (by first | omega | (have hx_ := hg; simp at hx_; omega)) (by first | omega | (have hx_ := hg; simp at hx_; omega))))) ?_
  refine d_qg ((!r2) && (decide (0 < (i : Int)))) rfl (gy_gt rfl rfl) (fun hg => (fun w' H => x_ld (p := vat v_l 1 (Int.toNat (i : Int))) (v := I (l.getD i 0)) (gd_of (c := ((!r2) && (decide (0 < (i : Int))))) hg (vat v_l 1 (Int.toNat (i : Int)))) (ld_sc Sc3 (At.mono (Int_at hs_l (i := (i : Int)) (by first | omega | (have hx_ := hg; simp at hx_; omega)) (by first | omega | (have hx_ := hg; simp at hx_; omega))) (hC_l.at H))))) ?_
  refine d_qg ((!r2) && (decide (0 < (i : Int)))) rfl (gy_gt rfl rfl) (fun hg => (fun w' H => x_mv (v := v_l) rfl)) ?_
  refine d_qg ((!r2) && (decide (0 < (i : Int)))) rfl (gy_gt rfl rfl) (fun hg => (fun w' H => x_mv (v := I (i : Int)) rfl)) ?_
  obtain ⟨sd20z, hM⟩ := M.e_grd hM
  replace sd20z := M.imp_of sd20z
  simp only [Bool.and_eq_true, decide_eq_true_eq] at sd20z
  refine d_qg ((!r2) && (decide (0 < (i : Int)))) rfl (gy_gt rfl rfl) (fun hg => (fun w' H => x_ari (a := (i : Int)) (b := 1) (r := (i : Int) - 1) (gd_of (c := ((!r2) && (decide (0 < (i : Int))))) hg (I (i : Int))) rfl rfl (by have h1_ := sd20z.resolve_left (by rw [hg]; decide); first | exact h1_ | exact h1_.1 | exact h1_.2 | omega | (have hx_ := hg; simp at hx_; omega)))) ?_
  obtain ⟨sd21z, hM⟩ := M.e_grd hM
  replace sd21z := M.imp_of sd21z
  simp only [Bool.and_eq_true, decide_eq_true_eq] at sd21z
  refine d_qg ((!r2) && (decide (0 < (i : Int)))) rfl (gy_gt rfl rfl) (fun hg => (fun w' H => x_ix (a := v_l) (b := I ((i : Int) - 1)) (v := vat v_l 1 (Int.toNat ((i : Int) - 1))) (gd_of (c := ((!r2) && (decide (0 < (i : Int))))) hg (v_l)) (gd_of (c := ((!r2) && (decide (0 < (i : Int))))) hg (I ((i : Int) - 1))) (Sl.ix (α := Int) T22.und T22.size hs_l (by have h1_ := sd20z.resolve_left (by rw [hg]; decide); have h2_ := sd21z.resolve_left (by rw [hg]; decide); first | exact h1_ | exact h1_.1 | exact h1_.2 | exact h2_ | exact h2_.1 | exact h2_.2 | omega | (have hx_ := hg; simp at hx_; omega)) (by have h1_ := sd20z.resolve_left (by rw [hg]; decide); have h2_ := sd21z.resolve_left (by rw [hg]; decide); first | exact h1_ | exact h1_.1 | exact h1_.2 | exact h2_ | exact h2_.1 | exact h2_.2 | omega | (have hx_ := hg; simp at hx_; omega))))) ?_
  refine d_qg ((!r2) && (decide (0 < (i : Int)))) rfl (gy_gt rfl rfl) (fun hg => (fun w' H => x_ld (p := vat v_l 1 (Int.toNat ((i : Int) - 1))) (v := I (l.getD (Int.toNat ((i : Int) - 1)) 0)) (gd_of (c := ((!r2) && (decide (0 < (i : Int))))) hg (vat v_l 1 (Int.toNat ((i : Int) - 1)))) (ld_sc Sc3 (At.mono (Int_at hs_l (i := (i : Int) - 1) (by have h1_ := sd20z.resolve_left (by rw [hg]; decide); have h2_ := sd21z.resolve_left (by rw [hg]; decide); first | exact h1_ | exact h1_.1 | exact h1_.2 | exact h2_ | exact h2_.1 | exact h2_.2 | omega | (have hx_ := hg; simp at hx_; omega)) (by have h1_ := sd20z.resolve_left (by rw [hg]; decide); have h2_ := sd21z.resolve_left (by rw [hg]; decide); first | exact h1_ | exact h1_.1 | exact h1_.2 | exact h2_ | exact h2_.1 | exact h2_.2 | omega | (have hx_ := hg; simp at hx_; omega))) (hC_l.at H))))) ?_
  refine d_qg ((!r2) && (decide (0 < (i : Int)))) rfl (gy_gt rfl rfl) (fun hg => (fun w' H => x_cmp (kd := .i64) (a := l.getD i 0) (b := l.getD (Int.toNat ((i : Int) - 1)) 0) (r := decide ((l.getD i 0) <= (l.getD (Int.toNat ((i : Int) - 1)) 0))) (gd_of (c := ((!r2) && (decide (0 < (i : Int))))) hg (I (l.getD i 0))) (gd_of (c := ((!r2) && (decide (0 < (i : Int))))) hg (I (l.getD (Int.toNat ((i : Int) - 1)) 0))) rfl)) ?_
  refine d_qg (!r2) rfl (gy_f rfl) (fun hg => (fun w' H => x_pand (b := decide (0 < (i : Int))) (r := decide ((l.getD i 0) <= (l.getD (Int.toNat ((i : Int) - 1)) 0))) (gd_of (c := !r2) hg (B (decide (0 < (i : Int))))) (fun hb => gd_of (c := ((!r2) && (decide (0 < (i : Int))))) (by first | exact hb | (rw [hb]; rfl) | simp_all) (B (decide ((l.getD i 0) <= (l.getD (Int.toNat ((i : Int) - 1)) 0))))) rfl)) ?_
  refine d_q rfl (fun w' H => x_por (b := r2) (r := ((decide (0 < (i : Int))) && (decide ((l.getD i 0) <= (l.getD (Int.toNat ((i : Int) - 1)) 0))))) rfl rfl (fun hb => gd_of (c := !r2) (by first | exact hb | (rw [hb]; rfl) | simp_all) (B ((decide (0 < (i : Int))) && (decide ((l.getD i 0) <= (l.getD (Int.toNat ((i : Int) - 1)) 0))))))) ?_
  refine d_nil ?_
  refine W.cond (r2 || ((decide (0 < (i : Int))) && (decide ((l.getD i 0) <= (l.getD (Int.toNat ((i : Int) - 1)) 0))))) rfl (fun c22z => ?_) (fun c22z => ?_)
  ·replace hM := M.e_t hM c22z
   refine W.seq ?_
   refine W.region rfl ?_
   refine s_val (x_as (v := B true) rfl) ?_
   refine s_nil ?_
   refine W.ret ?_
   have hX23z := M.e_inr hM hN10z
   subst hX23z
   replace hM := hk3z
   try dsimp only at hM
   have hr_ := M.e_pure hM
   exact ⟨_, resE_tmp rfl, ⟨true, hr_, rfl, H⟩⟩
  replace hM := M.e_f hM c22z
  refine W.skip ?_
  refine W.region rfl ?_
  refine s_val (x_mv (v := I (i : Int)) rfl) ?_
  refine s_val (x_ari (a := (i : Int)) (b := 1) (r := (i : Int) + 1) rfl rfl rfl (by omega)) ?_
  refine s_val (x_as (v := I ((i : Int) + 1)) rfl) ?_
  refine s_nil ?_
  exact ⟨m7z, lt8z, i + 1, _, upds_of _ _ ⟨rfl, rfl, rfl, trivial⟩, M.e_inl hM hN10z, H⟩
 replace hM := M.e_f hM c12z
 simp only [decide_eq_true_eq, decide_eq_false_iff_not, beq_iff_eq, bne_iff_ne, beq_eq_false_iff_ne, bne_eq_false_iff_eq, ne_eq, Decidable.not_not] at c12z
 refine W.exit ?_
 have hX24z := M.e_inr hM hN10z
 subst hX24z
 replace hM := hk3z
 try dsimp only at hM
 refine W.seq ?_
 refine W.region rfl ?_
 refine s_val (x_as (v := B false) rfl) ?_
 refine s_nil ?_
 refine W.ret ?_
 have hr_ := M.e_pure hM
 exact ⟨_, resE_tmp rfl, ⟨false, hr_, rfl, H⟩⟩

def zbs (r__Down : List Int) : (Int × (List Int)) -> M ((Int × (List Int)) ⊕ ((List Int) × (List Int))) := fun (station2, l) =>
  bif station2 != (-1) then (
  M.grd (decide ((l.length + ([(station2 : Int)]).length) * 8 <= 140737488355328)) <|
  M.grd (decide ((0 : Int) <= station2) && decide (station2 < (r__Down.length : Int))) <|
  M.pure (.inl (r__Down.getD (Int.toNat station2) 0, l ++ ([(station2 : Int)]))))
  else (
  M.pure (.inr (l, l)))
def zbc (r__Down : List Int) (r__Travel : List Span) (r__Springs : List Int) (r__Towns : List Town) (r__Delay_Lo : Int) (r__Delay_Hi : Int) (r__Floods : List Flood) (station : Int) : M (List Int) :=
  M.bind (M.iter (zbs r__Down) (station, [])) fun (l2, l3) =>
  M.pure l3
theorem zcZ {R : List Chunk} {C_r__Down : Cells} {v_r__Down : Value} {C_r__Travel : Cells} {v_r__Travel : Value} {C_r__Springs : Cells} {v_r__Springs : Value} {C_r__Towns : Cells} {v_r__Towns : Value} {C_r__Floods : Cells} {v_r__Floods : Value} (r__Down : List Int) (r__Travel : List Span) (r__Springs : List Int) (r__Towns : List Town) (r__Delay_Lo : Int) (r__Delay_Hi : Int) (r__Floods : List Flood) (station : Int) (hC_r__Down : Reads R C_r__Down) (hs_r__Down : Sl C_r__Down v_r__Down r__Down) (hC_r__Travel : Reads R C_r__Travel) (hs_r__Travel : Sl C_r__Travel v_r__Travel r__Travel) (hC_r__Springs : Reads R C_r__Springs) (hs_r__Springs : Sl C_r__Springs v_r__Springs r__Springs) (hC_r__Towns : Reads R C_r__Towns) (hs_r__Towns : Sl C_r__Towns v_r__Towns r__Towns) (hC_r__Floods : Reads R C_r__Floods) (hs_r__Floods : Sl C_r__Floods v_r__Floods r__Floods) {r : (List Int)} (hM : (zbc r__Down r__Travel r__Springs r__Towns r__Delay_Lo r__Delay_Hi r__Floods station).Ends r) (w : World) (H : St w w [] R) : Ret Tryz.prog 71 #[.agg #[v_r__Down, v_r__Travel, v_r__Springs, v_r__Towns, I r__Delay_Lo, I r__Delay_Hi, v_r__Floods], I station] w fun v w' => ∃ (y0 : List Int) (u0 : Value), y0 = r /\ v = u0 /\ St w w' [cOwn (α := Int) 3 u0 y0] R := by
 refine ret_of_W Tryz.func71 rfl rfl rfl ?_
 refine W.seq ?_
 refine W.region rfl ?_
 refine t_box (v := .agg #[v_r__Down, v_r__Travel, v_r__Springs, v_r__Towns, I r__Delay_Lo, I r__Delay_Hi, v_r__Floods]) (cs := [v_r__Down, v_r__Travel, v_r__Springs, v_r__Towns, I r__Delay_Lo, I r__Delay_Hi, v_r__Floods]) H rfl rfl ?_
 intro b_1 w1z H
 refine s_val (x_as (v := .slice none 0 0) rfl) ?_
 refine s_nil ?_
 refine W.seq ?_
 refine W.region rfl ?_
 refine s_val (x_as (v := .slice none 0 0) rfl) ?_
 refine s_nil ?_
 refine W.seq ?_
 refine W.block ?_
 replace H := H.nilOwn (α := Int) 3
 obtain ⟨ex2z, hi3z, hk4z⟩ := M.e_bind hM
 obtain ⟨m0_, hi3z⟩ := M.e_iter hi3z
 refine W.loop (fun m σ W => ∃ (station2 : Int) (l : List Int) (v_l : Value) (ρ : Env), σ = upds ρ [(1, I station2), (2, .pointer (some ⟨b_1, 0, none⟩)), (5, v_l)] /\ M.iterN (zbs r__Down) m (station2, l) = some ex2z /\ St w W [cOwn (α := Int) 3 v_l l, cBlk b_1 [v_r__Down, v_r__Travel, v_r__Springs, v_r__Towns, I r__Delay_Lo, I r__Delay_Hi, v_r__Floods] 37] R) ?_ ?_
 ·exact ⟨_, station, [], (.slice none 0 0), _, upds_of _ _ ⟨rfl, rfl, rfl, trivial⟩, hi3z, H⟩
 rintro m7z σ w5z ⟨station2, l, v_l, ρ, rfl, hI6z, H⟩
 obtain ⟨m8z, lt9z, x10z, hM, hN11z⟩ := M.e_iterN hI6z
 simp only [zbs] at hM
 clear hI6z
 refine W.seq ?_
 refine W.seq ?_
 refine W.region rfl ?_
 refine s_val (x_mv (v := I station2) rfl) ?_
 refine s_val (x_cmp (kd := .i64) (a := station2) (b := -1) (r := station2 != (-1)) rfl rfl rfl) ?_
 refine s_nil ?_
 refine W.cond (station2 != (-1)) rfl (fun c12z => ?_) (fun c12z => ?_)
 ·replace hM := M.e_t hM c12z
  simp only [decide_eq_true_eq, decide_eq_false_iff_not, beq_iff_eq, bne_iff_ne, beq_eq_false_iff_ne, bne_eq_false_iff_eq, ne_eq, Decidable.not_not] at c12z
  refine W.skip ?_
  refine W.block ?_
  refine W.seq ?_
  refine W.region rfl ?_
  refine s_val (x_mv (v := v_l) rfl) ?_
  refine s_val (x_mv (v := I station2) rfl) ?_
  refine t_bs (α := Int) T22 [I station2] [(station2 : Int)] H rfl (.cons rfl (Flat.rep_enc _ (station2 : Int)) <| .nil) rfl rfl rfl ?_
  intro v13z w14z H
  obtain ⟨sd15z, hM⟩ := M.e_grd hM
  simp only [Bool.and_eq_true, decide_eq_true_eq] at sd15z
  refine t_app (α := Int) (k := 1) (l := l) (l2 := [(station2 : Int)]) (l' := l ++ ([(station2 : Int)])) (vy := v13z) T22 rfl H rfl rfl rfl (ownSl (H.get (k := 0) rfl)) (ownLe _ (H.get (k := 0) rfl)) (rfl) (by first | omega | (simp only [List.length_nil] at *; omega)) ?_
  intro v16z w17z H
  replace H := H.nf
  refine s_val (x_as (v := v16z) rfl) ?_
  refine s_nil ?_
  refine W.region rfl ?_
  refine s_val (x_fa (a := .pointer (some ⟨b_1, 0, none⟩)) (v := .pointer (some ⟨b_1, 0, none⟩)) rfl (fa_blk (o := 0) Fd37_0 Sz22)) ?_
  refine s_val (x_ld (p := .pointer (some ⟨b_1, 0, none⟩)) (v := v_r__Down) rfl (ldb_sc Sc22 (H.blk (k := 2) rfl) rfl)) ?_
  refine s_val (x_mv (v := I station2) rfl) ?_
  obtain ⟨sd18z, hM⟩ := M.e_grd hM
  simp only [Bool.and_eq_true, decide_eq_true_eq] at sd18z
  refine s_val (x_ix (a := v_r__Down) (b := I station2) (v := vat v_r__Down 1 (Int.toNat station2)) rfl rfl (Sl.ix (α := Int) T22.und T22.size hs_r__Down (by omega) (by omega))) ?_
  refine s_val (x_ld (p := vat v_r__Down 1 (Int.toNat station2)) (v := I (r__Down.getD (Int.toNat station2) 0)) rfl (ld_sc Sc3 (At.mono (Int_at hs_r__Down (i := station2) (by omega) (by omega)) (hC_r__Down.at H)))) ?_
  refine s_val (x_as (v := I (r__Down.getD (Int.toNat station2) 0)) rfl) ?_
  refine s_nil ?_
  exact ⟨m8z, lt9z, r__Down.getD (Int.toNat station2) 0, l ++ ([(station2 : Int)]), v16z, _, upds_of _ _ ⟨rfl, rfl, rfl, trivial⟩, M.e_inl hM hN11z, (H.pk [1, 2])⟩
 replace hM := M.e_f hM c12z
 simp only [decide_eq_true_eq, decide_eq_false_iff_not, beq_iff_eq, bne_iff_ne, beq_eq_false_iff_ne, bne_eq_false_iff_eq, ne_eq, Decidable.not_not] at c12z
 refine W.exit ?_
 have hX19z := M.e_inr hM hN11z
 subst hX19z
 replace hM := hk4z
 try dsimp only at hM
 refine W.seq ?_
 refine W.region rfl ?_
 refine s_val (x_mv (v := v_l) rfl) ?_
 refine s_val (x_as (v := v_l) rfl) ?_
 refine s_nil ?_
 refine W.ret ?_
 have hr_ := M.e_pure hM
 exact ⟨_, resE_tmp rfl, ⟨l, v_l, hr_, rfl, (H.pk [0])⟩⟩

def za4 (r__Down : List Int) (r__Travel : List Span) : Nat -> M (Nat ⊕ (Int ⊕ Unit)) := fun i =>
  bif decide ((i : Int) < (r__Down.length : Int)) then (
  M.grd (decide ((i : Int) < (r__Down.length : Int))) <|
  M.bind (M.opt ((r__Down.getD i 0) != (-1)) (zab (r__Down.getD i 0) ((i : Int) + 1) ((r__Down.length : Int) - 1)) false) fun r4 =>
  bif (((r__Down.getD i 0) != (-1)) && r4) then (
  M.pure (.inr (.inl 2)))
  else (
  M.grd (decide ((i : Int) < (r__Travel.length : Int))) <|
  M.bind (zbr (r__Travel.getD i default)) fun r5 =>
  bif r5 then (
  M.pure (.inr (.inl 130)))
  else (
  M.pure (.inl (i + 1)))))
  else (
  M.pure (.inr (.inr ())))
def za0 (r__Down : List Int) (r__Towns : List Town) : Nat -> M (Nat ⊕ (Unit ⊕ Unit)) := fun i2 =>
  bif decide ((i2 : Int) < (r__Towns.length : Int)) then (
  M.grd (decide ((i2 : Int) < (r__Towns.length : Int))) <|
  M.bind (zab ((r__Towns.getD i2 default).station) 0 ((r__Down.length : Int) - 1)) fun r7 =>
  M.bind (M.opt (!r7) (zab ((r__Towns.getD i2 default).lead) 0 1000) false) fun r8 =>
  M.bind (M.opt (!(r7 || r8)) (zab ((r__Towns.getD i2 default).alarm) 0 2000) false) fun r9 =>
  bif ((r7 || r8) || r9) then (
  M.pure (.inr (.inl ())))
  else (
  M.pure (.inl (i2 + 1))))
  else (
  M.pure (.inr (.inr ())))
def zaT (r__Springs : List Int) (r__Floods : List Flood) (i3 : Nat) : (Bool × Nat) -> M ((Bool × Nat) ⊕ (Int × Bool)) := fun (spring, k) =>
  bif decide ((k : Int) < (r__Springs.length : Int)) then (
  M.grd ((!(!spring) || (decide ((k : Int) < (r__Springs.length : Int))))) <|
  M.pure (.inl ((spring || ((r__Springs.getD k 0) == ((r__Floods.getD i3 default).spring))), k + 1)))
  else (
  M.pure (.inr ((r__Floods.getD i3 default).spring, spring)))
def zaU (r__Floods : List Flood) (i3 : Nat) : Nat -> M (Nat ⊕ (Unit ⊕ Unit)) := fun k2 =>
  bif decide ((k2 : Int) < (((r__Floods.getD i3 default).stages).length : Int)) then (
  M.grd (decide ((k2 : Int) < (((r__Floods.getD i3 default).stages).length : Int))) <|
  M.bind (zab (((r__Floods.getD i3 default).stages).getD k2 0) 0 2000) fun r12 =>
  bif r12 then (
  M.pure (.inr (.inl ())))
  else (
  M.pure (.inl (k2 + 1))))
  else (
  M.pure (.inr (.inr ())))
def zcg (r__Floods : List Flood) (i3 : Nat) : Nat -> M (Nat ⊕ (Unit ⊕ Unit)) := fun k2 =>
  bif decide ((k2 : Int) < (((r__Floods.getD i3 default).stages).length : Int)) then (
  M.grd (decide ((k2 : Int) < (((r__Floods.getD i3 default).stages).length : Int))) <|
  M.bind (zab (((r__Floods.getD i3 default).stages).getD k2 0) 0 2000) fun r12 =>
  bif r12 then (
  M.pure (.inr (.inl ())))
  else (
  M.pure (.inl (k2 + 1))))
  else (
  M.pure (.inr (.inr ())))
def zaR (r__Down : List Int) (r__Travel : List Span) (r__Springs : List Int) (r__Towns : List Town) (r__Delay_Lo : Int) (r__Delay_Hi : Int) (r__Floods : List Flood) : Nat -> M (Nat ⊕ (Int ⊕ Unit)) := fun i3 =>
  bif decide ((i3 : Int) < (r__Floods.length : Int)) then (
  M.grd (decide ((i3 : Int) < (r__Floods.length : Int))) <|
  M.bind (M.iter (zaT r__Springs r__Floods i3) (false, 0)) fun (s2, spring2) =>
  bif !(!spring2) then (
  M.bind (zbc r__Down r__Travel r__Springs r__Towns r__Delay_Lo r__Delay_Hi r__Floods s2) fun r11 =>
  bif ((!spring2) || ((((r__Floods.getD i3 default).stages).length : Int) != (r11.length : Int))) then (
  M.pure (.inr (.inl 2)))
  else (
  M.bind (M.iter (zaU r__Floods i3) 0) fun x_ => match x_ with
  | (.inl (_ : Unit)) => (
  M.pure (.inr (.inl 130)))
  | (.inr (_ : Unit)) => (
  M.pure (.inl (i3 + 1)))))
  else (
  bif ((!spring2) || ((((r__Floods.getD i3 default).stages).length : Int) != 0)) then (
  M.pure (.inr (.inl 2)))
  else (
  M.bind (M.iter (zcg r__Floods i3) 0) fun x_ => match x_ with
  | (.inl (_ : Unit)) => (
  M.pure (.inr (.inl 130)))
  | (.inr (_ : Unit)) => (
  M.pure (.inl (i3 + 1))))))
  else (
  M.pure (.inr (.inr ())))
def zaH (r__Down : List Int) (r__Travel : List Span) (r__Springs : List Int) (r__Towns : List Town) (r__Delay_Lo : Int) (r__Delay_Hi : Int) (r__Floods : List Flood) : M Int :=
  M.bind (zab (r__Down.length : Int) 1 12) fun r2 =>
  M.bind (M.opt (!(r2 || ((r__Travel.length : Int) != (r__Down.length : Int)))) (zab (r__Springs.length : Int) 1 8) false) fun r3 =>
  bif ((((r2 || ((r__Travel.length : Int) != (r__Down.length : Int))) || r3) || (decide (8 < (r__Towns.length : Int)))) || (decide (20 < (r__Floods.length : Int)))) then (
  M.pure 3)
  else (
  M.bind (M.iter (za4 r__Down r__Travel) 0) fun x_ => match x_ with
  | (.inl s) => (
  M.pure s)
  | (.inr (_ : Unit)) => (
  M.bind (zbR r__Springs (r__Down.length : Int)) fun r6 =>
  bif r6 then (
  M.pure 9)
  else (
  M.bind (M.iter (za0 r__Down r__Towns) 0) fun x_ => match x_ with
  | (.inl (_ : Unit)) => (
  M.pure 130)
  | (.inr (_ : Unit)) => (
  M.bind (zbr (⟨(r__Delay_Lo : Int), (r__Delay_Hi : Int)⟩ : Span)) fun r10 =>
  bif r10 then (
  M.pure 130)
  else (
  M.bind (M.iter (zaR r__Down r__Travel r__Springs r__Towns r__Delay_Lo r__Delay_Hi r__Floods) 0) fun x_ => match x_ with
  | (.inl s3) => (
  M.pure s3)
  | (.inr (_ : Unit)) => (
  M.pure 0))))))
theorem zbK {R : List Chunk} {C_r__Down : Cells} {v_r__Down : Value} {C_r__Travel : Cells} {v_r__Travel : Value} {C_r__Springs : Cells} {v_r__Springs : Value} {C_r__Towns : Cells} {v_r__Towns : Value} {C_r__Floods : Cells} {v_r__Floods : Value} (r__Down : List Int) (r__Travel : List Span) (r__Springs : List Int) (r__Towns : List Town) (r__Delay_Lo : Int) (r__Delay_Hi : Int) (r__Floods : List Flood) (hC_r__Down : Reads R C_r__Down) (hs_r__Down : Sl C_r__Down v_r__Down r__Down) (hC_r__Travel : Reads R C_r__Travel) (hs_r__Travel : Sl C_r__Travel v_r__Travel r__Travel) (hC_r__Springs : Reads R C_r__Springs) (hs_r__Springs : Sl C_r__Springs v_r__Springs r__Springs) (hC_r__Towns : Reads R C_r__Towns) (hs_r__Towns : Sl C_r__Towns v_r__Towns r__Towns) (hC_r__Floods : Reads R C_r__Floods) (hs_r__Floods : Sl C_r__Floods v_r__Floods r__Floods) {r : Int} (hM : (zaH r__Down r__Travel r__Springs r__Towns r__Delay_Lo r__Delay_Hi r__Floods).Ends r) (w : World) (H : St w w [] R) : Ret Tryz.prog 20 #[.agg #[v_r__Down, v_r__Travel, v_r__Springs, v_r__Towns, I r__Delay_Lo, I r__Delay_Hi, v_r__Floods]] w fun v w' => ∃ (y0 : Int), y0 = r /\ v = I y0 /\ St w w' [] R := by
 refine ret_of_W Tryz.func20 rfl rfl rfl ?_
 refine W.seq ?_
 refine W.region rfl ?_
 refine t_box (v := .agg #[v_r__Down, v_r__Travel, v_r__Springs, v_r__Towns, I r__Delay_Lo, I r__Delay_Hi, v_r__Floods]) (cs := [v_r__Down, v_r__Travel, v_r__Springs, v_r__Towns, I r__Delay_Lo, I r__Delay_Hi, v_r__Floods]) H rfl rfl ?_
 intro b_1 w1z H
 refine s_val (x_as (v := I 0) rfl) ?_
 refine s_nil ?_
 refine W.seq ?_
 refine W.region rfl ?_
 refine s_val (x_fa (a := .pointer (some ⟨b_1, 0, none⟩)) (v := .pointer (some ⟨b_1, 0, none⟩)) rfl (fa_blk (o := 0) Fd37_0 Sz22)) ?_
 refine s_val (x_ld (p := .pointer (some ⟨b_1, 0, none⟩)) (v := v_r__Down) rfl (ldb_sc Sc22 (H.blk (k := 0) rfl) rfl)) ?_
 have hl2z := (hs_r__Down).len_le
 refine s_val (x_lenS T22.und rfl hs_r__Down) ?_
 refine s_val (x_as (v := I (r__Down.length : Int)) rfl) ?_
 refine s_nil ?_
 refine W.seq ?_
 refine W.seq ?_
 refine W.region rfl ?_
 refine s_val (x_mv (v := I (r__Down.length : Int)) rfl) ?_
 obtain ⟨r4z, hx3z, hM⟩ := M.e_bind hM
 refine s_call cf49 [I (r__Down.length : Int), I 1, I 12] rfl (zaf (r__Down.length : Int) 1 12 hx3z _ (H.gt 1)) ?_
 rintro vq w5z ⟨r2, hr6z, hvq, H2_⟩
 subst hr6z
 subst vq
 try dsimp only at hM
 replace H := H.bk H2_
 clear H2_
 refine s_val (x_mv (v := B r2) rfl) ?_
 refine g_val (!r2) (gy_f rfl) (fun hg => x_fa (a := .pointer (some ⟨b_1, 0, none⟩)) (v := .pointer (some ⟨b_1, 1, none⟩)) rfl (fa_blk (o := 0) Fd37_1 Sz23)) ?_
 refine g_val (!r2) (gy_f rfl) (fun hg => x_ld (p := .pointer (some ⟨b_1, 1, none⟩)) (v := v_r__Travel) (gd_of (c := !r2) hg (.pointer (some ⟨b_1, 1, none⟩))) (ldb_sc Sc23 (H.blk (k := 0) rfl) rfl)) ?_
 have hl7z := (hs_r__Travel).len_le
 refine g_val (!r2) (gy_f rfl) (fun hg => x_lenS T23.und (gd_of (c := !r2) hg (v_r__Travel)) hs_r__Travel) ?_
 refine g_val (!r2) (gy_f rfl) (fun hg => x_mv (v := I (r__Down.length : Int)) rfl) ?_
 refine g_val (!r2) (gy_f rfl) (fun hg => x_cmp (kd := .i64) (a := (r__Travel.length : Int)) (b := (r__Down.length : Int)) (r := (r__Travel.length : Int) != (r__Down.length : Int)) (gd_of (c := !r2) hg (I (r__Travel.length : Int))) (gd_of (c := !r2) hg (I (r__Down.length : Int))) rfl) ?_
 refine s_val (x_por (b := r2) (r := (r__Travel.length : Int) != (r__Down.length : Int)) rfl rfl (fun hb => gd_of (c := !r2) (by first | exact hb | (rw [hb]; rfl) | simp_all) (B ((r__Travel.length : Int) != (r__Down.length : Int))))) ?_
 refine s_val (x_mv (v := B (r2 || ((r__Travel.length : Int) != (r__Down.length : Int)))) rfl) ?_
 refine g_val (!(r2 || ((r__Travel.length : Int) != (r__Down.length : Int)))) (gy_f rfl) (fun hg => x_fa (a := .pointer (some ⟨b_1, 0, none⟩)) (v := .pointer (some ⟨b_1, 2, none⟩)) rfl (fa_blk (o := 0) Fd37_2 Sz22)) ?_
 refine g_val (!(r2 || ((r__Travel.length : Int) != (r__Down.length : Int)))) (gy_f rfl) (fun hg => x_ld (p := .pointer (some ⟨b_1, 2, none⟩)) (v := v_r__Springs) (gd_of (c := !(r2 || ((r__Travel.length : Int) != (r__Down.length : Int)))) hg (.pointer (some ⟨b_1, 2, none⟩))) (ldb_sc Sc22 (H.blk (k := 0) rfl) rfl)) ?_
 have hl8z := (hs_r__Springs).len_le
 refine g_val (!(r2 || ((r__Travel.length : Int) != (r__Down.length : Int)))) (gy_f rfl) (fun hg => x_lenS T22.und (gd_of (c := !(r2 || ((r__Travel.length : Int) != (r__Down.length : Int)))) hg (v_r__Springs)) hs_r__Springs) ?_
 obtain ⟨r3, hx9z, hM⟩ := M.e_bind hM
 refine t_gcall (!(r2 || ((r__Travel.length : Int) != (r__Down.length : Int)))) (gy_f rfl) cf49 (B r3) (fun _ => [I (r__Springs.length : Int), I 1, I 8]) (fun hg => lst3 (gd_of (c := !(r2 || ((r__Travel.length : Int) != (r__Down.length : Int)))) hg (I (r__Springs.length : Int))) rfl rfl) H (fun hg => (zaf (r__Springs.length : Int) 1 8 (M.e_opt hx9z hg) _ (H.give (A := []) rfl)).mono fun v_ w_ ⟨y_, hr_, hv_, H_⟩ => by subst hr_; exact ⟨hv_, H.via H_⟩) ?_
 intro w10z H
 refine s_val (x_por (b := (r2 || ((r__Travel.length : Int) != (r__Down.length : Int)))) (r := r3) rfl rfl (fun hb => gd_of (c := !(r2 || ((r__Travel.length : Int) != (r__Down.length : Int)))) (by first | exact hb | (rw [hb]; rfl) | simp_all) (B r3))) ?_
 refine s_val (x_mv (v := B ((r2 || ((r__Travel.length : Int) != (r__Down.length : Int))) || r3)) rfl) ?_
 refine g_val (!((r2 || ((r__Travel.length : Int) != (r__Down.length : Int))) || r3)) (gy_f rfl) (fun hg => x_fa (a := .pointer (some ⟨b_1, 0, none⟩)) (v := .pointer (some ⟨b_1, 3, none⟩)) rfl (fa_blk (o := 0) Fd37_3 Sz34)) ?_
 refine g_val (!((r2 || ((r__Travel.length : Int) != (r__Down.length : Int))) || r3)) (gy_f rfl) (fun hg => x_ld (p := .pointer (some ⟨b_1, 3, none⟩)) (v := v_r__Towns) (gd_of (c := !((r2 || ((r__Travel.length : Int) != (r__Down.length : Int))) || r3)) hg (.pointer (some ⟨b_1, 3, none⟩))) (ldb_sc Sc34 (H.blk (k := 0) rfl) rfl)) ?_
 have hl11z := (hs_r__Towns).len_le
 refine g_val (!((r2 || ((r__Travel.length : Int) != (r__Down.length : Int))) || r3)) (gy_f rfl) (fun hg => x_lenS T34.und (gd_of (c := !((r2 || ((r__Travel.length : Int) != (r__Down.length : Int))) || r3)) hg (v_r__Towns)) hs_r__Towns) ?_
 refine g_val (!((r2 || ((r__Travel.length : Int) != (r__Down.length : Int))) || r3)) (gy_f rfl) (fun hg => x_cmp (kd := .i64) (a := (r__Towns.length : Int)) (b := 8) (r := decide (8 < (r__Towns.length : Int))) (gd_of (c := !((r2 || ((r__Travel.length : Int) != (r__Down.length : Int))) || r3)) hg (I (r__Towns.length : Int))) rfl rfl) ?_
 refine s_val (x_por (b := ((r2 || ((r__Travel.length : Int) != (r__Down.length : Int))) || r3)) (r := decide (8 < (r__Towns.length : Int))) rfl rfl (fun hb => gd_of (c := !((r2 || ((r__Travel.length : Int) != (r__Down.length : Int))) || r3)) (by first | exact hb | (rw [hb]; rfl) | simp_all) (B (decide (8 < (r__Towns.length : Int)))))) ?_
 refine s_val (x_mv (v := B (((r2 || ((r__Travel.length : Int) != (r__Down.length : Int))) || r3) || (decide (8 < (r__Towns.length : Int))))) rfl) ?_
 refine g_val (!(((r2 || ((r__Travel.length : Int) != (r__Down.length : Int))) || r3) || (decide (8 < (r__Towns.length : Int))))) (gy_f rfl) (fun hg => x_fa (a := .pointer (some ⟨b_1, 0, none⟩)) (v := .pointer (some ⟨b_1, 6, none⟩)) rfl (fa_blk (o := 0) Fd37_5 Sz35)) ?_
 refine g_val (!(((r2 || ((r__Travel.length : Int) != (r__Down.length : Int))) || r3) || (decide (8 < (r__Towns.length : Int))))) (gy_f rfl) (fun hg => x_ld (p := .pointer (some ⟨b_1, 6, none⟩)) (v := v_r__Floods) (gd_of (c := !(((r2 || ((r__Travel.length : Int) != (r__Down.length : Int))) || r3) || (decide (8 < (r__Towns.length : Int))))) hg (.pointer (some ⟨b_1, 6, none⟩))) (ldb_sc Sc35 (H.blk (k := 0) rfl) rfl)) ?_
 have hl12z := (hs_r__Floods).len_le
 refine g_val (!(((r2 || ((r__Travel.length : Int) != (r__Down.length : Int))) || r3) || (decide (8 < (r__Towns.length : Int))))) (gy_f rfl) (fun hg => x_lenS T35.und (gd_of (c := !(((r2 || ((r__Travel.length : Int) != (r__Down.length : Int))) || r3) || (decide (8 < (r__Towns.length : Int))))) hg (v_r__Floods)) hs_r__Floods) ?_
 refine g_val (!(((r2 || ((r__Travel.length : Int) != (r__Down.length : Int))) || r3) || (decide (8 < (r__Towns.length : Int))))) (gy_f rfl) (fun hg => x_cmp (kd := .i64) (a := (r__Floods.length : Int)) (b := 20) (r := decide (20 < (r__Floods.length : Int))) (gd_of (c := !(((r2 || ((r__Travel.length : Int) != (r__Down.length : Int))) || r3) || (decide (8 < (r__Towns.length : Int))))) hg (I (r__Floods.length : Int))) rfl rfl) ?_
 refine s_val (x_por (b := (((r2 || ((r__Travel.length : Int) != (r__Down.length : Int))) || r3) || (decide (8 < (r__Towns.length : Int))))) (r := decide (20 < (r__Floods.length : Int))) rfl rfl (fun hb => gd_of (c := !(((r2 || ((r__Travel.length : Int) != (r__Down.length : Int))) || r3) || (decide (8 < (r__Towns.length : Int))))) (by first | exact hb | (rw [hb]; rfl) | simp_all) (B (decide (20 < (r__Floods.length : Int)))))) ?_
 refine s_nil ?_
 refine W.cond ((((r2 || ((r__Travel.length : Int) != (r__Down.length : Int))) || r3) || (decide (8 < (r__Towns.length : Int)))) || (decide (20 < (r__Floods.length : Int)))) rfl (fun c13z => ?_) (fun c13z => ?_)
 ·replace hM := M.e_t hM c13z
  refine W.seq ?_
  refine W.region rfl ?_
  refine s_val (x_as (v := I 3) rfl) ?_
  refine s_nil ?_
  refine W.ret ?_
  have hr_ := M.e_pure hM
  exact ⟨_, resE_tmp rfl, ⟨3, hr_, rfl, (H.pk [])⟩⟩
 replace hM := M.e_f hM c13z
 refine W.skip ?_
 refine W.seq ?_
 refine W.seq ?_
 refine W.region rfl ?_
 refine s_val (x_as (v := I 0) rfl) ?_
 refine s_nil ?_
 refine W.block ?_
 obtain ⟨ex14z, hi15z, hk16z⟩ := M.e_bind hM
 obtain ⟨m0_, hi15z⟩ := M.e_iter hi15z
 refine W.loop (fun m σ W => ∃ (i : Nat) (ρ : Env), σ = upds ρ [(1, .pointer (some ⟨b_1, 0, none⟩)), (3, I (r__Down.length : Int)), (4, I (i : Int))] /\ M.iterN (za4 r__Down r__Travel) m i = some ex14z /\ St w W [cBlk b_1 [v_r__Down, v_r__Travel, v_r__Springs, v_r__Towns, I r__Delay_Lo, I r__Delay_Hi, v_r__Floods] 37] R) ?_ ?_
 ·exact ⟨_, 0, _, upds_of _ _ ⟨rfl, rfl, rfl, trivial⟩, hi15z, H⟩
 rintro m19z σ w17z ⟨i, ρ, rfl, hI18z, H⟩
 obtain ⟨m20z, lt21z, x22z, hM, hN23z⟩ := M.e_iterN hI18z
 simp only [za4] at hM
 clear hI18z
 refine W.seq ?_
 refine W.seq ?_
 refine W.region rfl ?_
 refine s_val (x_mv (v := I (i : Int)) rfl) ?_
 refine s_val (x_mv (v := I (r__Down.length : Int)) rfl) ?_
 refine s_val (x_cmp (kd := .i64) (a := (i : Int)) (b := (r__Down.length : Int)) (r := decide ((i : Int) < (r__Down.length : Int))) rfl rfl rfl) ?_
 refine s_nil ?_
 refine W.cond (decide ((i : Int) < (r__Down.length : Int))) rfl (fun c24z => ?_) (fun c24z => ?_)
 ·replace hM := M.e_t hM c24z
  simp only [decide_eq_true_eq, decide_eq_false_iff_not, beq_iff_eq, bne_iff_ne, beq_eq_false_iff_ne, bne_eq_false_iff_eq, ne_eq, Decidable.not_not] at c24z
  refine W.skip ?_
  refine W.seq ?_
  refine W.block ?_
  refine W.seq ?_
  refine W.seq ?_
  refine W.region rfl ?_
  refine s_val (x_fa (a := .pointer (some ⟨b_1, 0, none⟩)) (v := .pointer (some ⟨b_1, 0, none⟩)) rfl (fa_blk (o := 0) Fd37_0 Sz22)) ?_
  refine s_val (x_ld (p := .pointer (some ⟨b_1, 0, none⟩)) (v := v_r__Down) rfl (ldb_sc Sc22 (H.blk (k := 0) rfl) rfl)) ?_
  refine s_val (x_mv (v := I (i : Int)) rfl) ?_
  obtain ⟨sd25z, hM⟩ := M.e_grd hM
  simp only [Bool.and_eq_true, decide_eq_true_eq] at sd25z
  refine s_val (x_ix (a := v_r__Down) (b := I (i : Int)) (v := vat v_r__Down 1 (Int.toNat (i : Int))) rfl rfl (Sl.ix (α := Int) T22.und T22.size hs_r__Down (by omega) (by omega))) ?_
  refine s_val (x_ld (p := vat v_r__Down 1 (Int.toNat (i : Int))) (v := I (r__Down.getD i 0)) rfl (ld_sc Sc3 (At.mono (Int_at hs_r__Down (i := (i : Int)) (by omega) (by omega)) (hC_r__Down.at H)))) ?_
  refine s_val (x_cmp (kd := .i64) (a := r__Down.getD i 0) (b := -1) (r := (r__Down.getD i 0) != (-1)) rfl rfl rfl) ?_
  refine s_val (x_mv (v := B ((r__Down.getD i 0) != (-1))) rfl) ?_
  refine g_val ((r__Down.getD i 0) != (-1)) (gy_t rfl) (fun hg => x_fa (a := .pointer (some ⟨b_1, 0, none⟩)) (v := .pointer (some ⟨b_1, 0, none⟩)) rfl (fa_blk (o := 0) Fd37_0 Sz22)) ?_
  refine g_val ((r__Down.getD i 0) != (-1)) (gy_t rfl) (fun hg => x_ld (p := .pointer (some ⟨b_1, 0, none⟩)) (v := v_r__Down) (gd_of (c := (r__Down.getD i 0) != (-1)) hg (.pointer (some ⟨b_1, 0, none⟩))) (ldb_sc Sc22 (H.blk (k := 0) rfl) rfl)) ?_
  refine g_val ((r__Down.getD i 0) != (-1)) (gy_t rfl) (fun hg => x_mv (v := I (i : Int)) rfl) ?_
  refine g_val ((r__Down.getD i 0) != (-1)) (gy_t rfl) (fun hg => x_ix (a := v_r__Down) (b := I (i : Int)) (v := vat v_r__Down 1 (Int.toNat (i : Int))) (gd_of (c := (r__Down.getD i 0) != (-1)) hg (v_r__Down)) (gd_of (c := (r__Down.getD i 0) != (-1)) hg (I (i : Int))) (Sl.ix (α := Int) T22.und T22.size hs_r__Down (by first | omega | (have hx_ := hg; simp at hx_; omega)) (by first | omega | (have hx_ := hg; simp at hx_; omega)))) ?_
  refine g_val ((r__Down.getD i 0) != (-1)) (gy_t rfl) (fun hg => x_ld (p := vat v_r__Down 1 (Int.toNat (i : Int))) (v := I (r__Down.getD i 0)) (gd_of (c := (r__Down.getD i 0) != (-1)) hg (vat v_r__Down 1 (Int.toNat (i : Int)))) (ld_sc Sc3 (At.mono (Int_at hs_r__Down (i := (i : Int)) (by first | omega | (have hx_ := hg; simp at hx_; omega)) (by first | omega | (have hx_ := hg; simp at hx_; omega))) (hC_r__Down.at H)))) ?_
  refine g_val ((r__Down.getD i 0) != (-1)) (gy_t rfl) (fun hg => x_mv (v := I (i : Int)) rfl) ?_
  refine g_val ((r__Down.getD i 0) != (-1)) (gy_t rfl) (fun hg => x_ari (a := (i : Int)) (b := 1) (r := (i : Int) + 1) (gd_of (c := (r__Down.getD i 0) != (-1)) hg (I (i : Int))) rfl rfl (by first | omega | (have hx_ := hg; simp at hx_; omega))) ?_
  refine g_val ((r__Down.getD i 0) != (-1)) (gy_t rfl) (fun hg => x_mv (v := I (r__Down.length : Int)) rfl) ?_
  refine g_val ((r__Down.getD i 0) != (-1)) (gy_t rfl) (fun hg => x_ari (a := (r__Down.length : Int)) (b := 1) (r := (r__Down.length : Int) - 1) (gd_of (c := (r__Down.getD i 0) != (-1)) hg (I (r__Down.length : Int))) rfl rfl (by first | omega | (have hx_ := hg; simp at hx_; omega))) ?_
  obtain ⟨r4, hx26z, hM⟩ := M.e_bind hM
  refine t_gcall ((r__Down.getD i 0) != (-1)) (gy_t rfl) cf49 (B r4) (fun _ => [I (r__Down.getD i 0), I ((i : Int) + 1), I ((r__Down.length : Int) - 1)]) (fun hg => lst3 (gd_of (c := (r__Down.getD i 0) != (-1)) hg (I (r__Down.getD i 0))) (gd_of (c := (r__Down.getD i 0) != (-1)) hg (I ((i : Int) + 1))) (gd_of (c := (r__Down.getD i 0) != (-1)) hg (I ((r__Down.length : Int) - 1)))) H (fun hg => (zaf (r__Down.getD i 0) ((i : Int) + 1) ((r__Down.length : Int) - 1) (M.e_opt hx26z hg) _ (H.give (A := []) rfl)).mono fun v_ w_ ⟨y_, hr_, hv_, H_⟩ => by subst hr_; exact ⟨hv_, H.via H_⟩) ?_
  intro w27z H
  refine s_val (x_pand (b := (r__Down.getD i 0) != (-1)) (r := r4) rfl (fun hb => gd_of (c := (r__Down.getD i 0) != (-1)) (by first | exact hb | (rw [hb]; rfl) | simp_all) (B r4)) rfl) ?_
  refine s_nil ?_
  refine W.cond (((r__Down.getD i 0) != (-1)) && r4) rfl (fun c28z => ?_) (fun c28z => ?_)
  ·replace hM := M.e_t hM c28z
   refine W.seq ?_
   refine W.region rfl ?_
   refine s_val (x_as (v := I 2) rfl) ?_
   refine s_nil ?_
   refine W.ret ?_
   have hX29z := M.e_inr hM hN23z
   subst hX29z
   replace hM := hk16z
   try dsimp only at hM
   have hr_ := M.e_pure hM
   exact ⟨_, resE_tmp rfl, ⟨2, hr_, rfl, (H.pk [])⟩⟩
  replace hM := M.e_f hM c28z
  refine W.skip ?_
  refine W.seq ?_
  refine W.region rfl ?_
  refine s_val (x_fa (a := .pointer (some ⟨b_1, 0, none⟩)) (v := .pointer (some ⟨b_1, 1, none⟩)) rfl (fa_blk (o := 0) Fd37_1 Sz23)) ?_
  refine s_val (x_ld (p := .pointer (some ⟨b_1, 1, none⟩)) (v := v_r__Travel) rfl (ldb_sc Sc23 (H.blk (k := 0) rfl) rfl)) ?_
  refine s_val (x_mv (v := I (i : Int)) rfl) ?_
  obtain ⟨sd30z, hM⟩ := M.e_grd hM
  simp only [Bool.and_eq_true, decide_eq_true_eq] at sd30z
  refine s_val (x_ix (a := v_r__Travel) (b := I (i : Int)) (v := vat v_r__Travel 2 (Int.toNat (i : Int))) rfl rfl (Sl.ix (α := Span) T23.und T23.size hs_r__Travel (by omega) (by omega))) ?_
  refine s_val (x_ld (p := vat v_r__Travel 2 (Int.toNat (i : Int))) (v := .agg #[I ((r__Travel.getD i default).lo), I ((r__Travel.getD i default).hi)]) rfl (ld_ag Ag26 Sz26 (At.mono (Span_atA hs_r__Travel (i := (i : Int)) (by omega) (by omega)) (hC_r__Travel.at H)))) ?_
  obtain ⟨r32z, hx31z, hM⟩ := M.e_bind hM
  refine s_call cf69 [.agg #[I ((r__Travel.getD i default).lo), I ((r__Travel.getD i default).hi)]] rfl (zct (r__Travel.getD i default) hx31z _ (H.gt 1)) ?_
  rintro vq w33z ⟨r5, hr34z, hvq, H2_⟩
  subst hr34z
  subst vq
  try dsimp only at hM
  replace H := H.bk H2_
  clear H2_
  refine s_nil ?_
  refine W.cond r5 rfl (fun c35z => ?_) (fun c35z => ?_)
  ·replace hM := M.e_t hM c35z
   refine W.seq ?_
   refine W.region rfl ?_
   refine s_val (x_as (v := I 130) rfl) ?_
   refine s_nil ?_
   refine W.ret ?_
   have hX36z := M.e_inr hM hN23z
   subst hX36z
   replace hM := hk16z
   try dsimp only at hM
   have hr_ := M.e_pure hM
   exact ⟨_, resE_tmp rfl, ⟨130, hr_, rfl, (H.pk [])⟩⟩
  replace hM := M.e_f hM c35z
  refine W.skip ?_
  refine W.region rfl ?_
  refine s_val (x_mv (v := I (i : Int)) rfl) ?_
  refine s_val (x_ari (a := (i : Int)) (b := 1) (r := (i : Int) + 1) rfl rfl rfl (by omega)) ?_
  refine s_val (x_as (v := I ((i : Int) + 1)) rfl) ?_
  refine s_nil ?_
  exact ⟨m20z, lt21z, i + 1, _, upds_of _ _ ⟨rfl, rfl, rfl, trivial⟩, M.e_inl hM hN23z, H⟩
 replace hM := M.e_f hM c24z
 simp only [decide_eq_true_eq, decide_eq_false_iff_not, beq_iff_eq, bne_iff_ne, beq_eq_false_iff_ne, bne_eq_false_iff_eq, ne_eq, Decidable.not_not] at c24z
 refine W.exit ?_
 have hX37z := M.e_inr hM hN23z
 subst hX37z
 replace hM := hk16z
 try dsimp only at hM
 refine W.seq ?_
 refine W.seq ?_
 refine W.region rfl ?_
 refine s_val (x_fa (a := .pointer (some ⟨b_1, 0, none⟩)) (v := .pointer (some ⟨b_1, 2, none⟩)) rfl (fa_blk (o := 0) Fd37_2 Sz22)) ?_
 refine s_val (x_ld (p := .pointer (some ⟨b_1, 2, none⟩)) (v := v_r__Springs) rfl (ldb_sc Sc22 (H.blk (k := 0) rfl) rfl)) ?_
 refine s_val (x_mv (v := I (r__Down.length : Int)) rfl) ?_
 obtain ⟨r39z, hx38z, hM⟩ := M.e_bind hM
 refine s_call cf70 [v_r__Springs, I (r__Down.length : Int)] rfl (zdr r__Springs (r__Down.length : Int) (hC_r__Springs.app _) hs_r__Springs hx38z _ (H.gt 1)) ?_
 rintro vq w40z ⟨r6, hr41z, hvq, H2_⟩
 subst hr41z
 subst vq
 try dsimp only at hM
 replace H := H.bk H2_
 clear H2_
 refine s_nil ?_
 refine W.cond r6 rfl (fun c42z => ?_) (fun c42z => ?_)
 ·replace hM := M.e_t hM c42z
  refine W.seq ?_
  refine W.region rfl ?_
  refine s_val (x_as (v := I 9) rfl) ?_
  refine s_nil ?_
  refine W.ret ?_
  have hr_ := M.e_pure hM
  exact ⟨_, resE_tmp rfl, ⟨9, hr_, rfl, (H.pk [])⟩⟩
 replace hM := M.e_f hM c42z
 refine W.skip ?_
 refine W.seq ?_
 refine W.seq ?_
 refine W.region rfl ?_
 refine s_val (x_as (v := I 0) rfl) ?_
 refine s_nil ?_
 refine W.block ?_
 obtain ⟨ex43z, hi44z, hk45z⟩ := M.e_bind hM
 obtain ⟨m0_, hi44z⟩ := M.e_iter hi44z
 refine W.loop (fun m σ W => ∃ (i2 : Nat) (ρ : Env), σ = upds ρ [(1, .pointer (some ⟨b_1, 0, none⟩)), (3, I (r__Down.length : Int)), (5, I (i2 : Int))] /\ M.iterN (za0 r__Down r__Towns) m i2 = some ex43z /\ St w W [cBlk b_1 [v_r__Down, v_r__Travel, v_r__Springs, v_r__Towns, I r__Delay_Lo, I r__Delay_Hi, v_r__Floods] 37] R) ?_ ?_
 ·exact ⟨_, 0, _, upds_of _ _ ⟨rfl, rfl, rfl, trivial⟩, hi44z, H⟩
 rintro m48z σ w46z ⟨i2, ρ, rfl, hI47z, H⟩
 obtain ⟨m49z, lt50z, x51z, hM, hN52z⟩ := M.e_iterN hI47z
 simp only [za0] at hM
 clear hI47z
 refine W.seq ?_
 refine W.seq ?_
 refine W.region rfl ?_
 refine s_val (x_mv (v := I (i2 : Int)) rfl) ?_
 refine s_val (x_fa (a := .pointer (some ⟨b_1, 0, none⟩)) (v := .pointer (some ⟨b_1, 3, none⟩)) rfl (fa_blk (o := 0) Fd37_3 Sz34)) ?_
 refine s_val (x_ld (p := .pointer (some ⟨b_1, 3, none⟩)) (v := v_r__Towns) rfl (ldb_sc Sc34 (H.blk (k := 0) rfl) rfl)) ?_
 have hl53z := (hs_r__Towns).len_le
 refine s_val (x_lenS T34.und rfl hs_r__Towns) ?_
 refine s_val (x_cmp (kd := .i64) (a := (i2 : Int)) (b := (r__Towns.length : Int)) (r := decide ((i2 : Int) < (r__Towns.length : Int))) rfl rfl rfl) ?_
 refine s_nil ?_
 refine W.cond (decide ((i2 : Int) < (r__Towns.length : Int))) rfl (fun c54z => ?_) (fun c54z => ?_)
 ·replace hM := M.e_t hM c54z
  simp only [decide_eq_true_eq, decide_eq_false_iff_not, beq_iff_eq, bne_iff_ne, beq_eq_false_iff_ne, bne_eq_false_iff_eq, ne_eq, Decidable.not_not] at c54z
  refine W.skip ?_
  refine W.seq ?_
  refine W.block ?_
  refine W.seq ?_
  refine W.region rfl ?_
  refine s_val (x_fa (a := .pointer (some ⟨b_1, 0, none⟩)) (v := .pointer (some ⟨b_1, 3, none⟩)) rfl (fa_blk (o := 0) Fd37_3 Sz34)) ?_
  refine s_val (x_ld (p := .pointer (some ⟨b_1, 3, none⟩)) (v := v_r__Towns) rfl (ldb_sc Sc34 (H.blk (k := 0) rfl) rfl)) ?_
  refine s_val (x_mv (v := I (i2 : Int)) rfl) ?_
  obtain ⟨sd55z, hM⟩ := M.e_grd hM
  simp only [Bool.and_eq_true, decide_eq_true_eq] at sd55z
  refine s_val (x_ix (a := v_r__Towns) (b := I (i2 : Int)) (v := vat v_r__Towns 3 (Int.toNat (i2 : Int))) rfl rfl (Sl.ix (α := Town) T34.und T34.size hs_r__Towns (by omega) (by omega))) ?_
  refine s_val (x_ld (p := vat v_r__Towns 3 (Int.toNat (i2 : Int))) (v := .agg #[I ((r__Towns.getD i2 default).station), I ((r__Towns.getD i2 default).lead), I ((r__Towns.getD i2 default).alarm)]) rfl (ld_ag Ag92 Sz92 (At.mono (Town_atA hs_r__Towns (i := (i2 : Int)) (by omega) (by omega)) (hC_r__Towns.at H)))) ?_
  refine t_alloc (cs := [I 0, I 0, I 0]) H Al92 rfl ?_
  intro b_2 w56z H
  refine t_sw 0 0 [I ((r__Towns.getD i2 default).station), I ((r__Towns.getD i2 default).lead), I ((r__Towns.getD i2 default).alarm)] (.agg #[I ((r__Towns.getD i2 default).station), I ((r__Towns.getD i2 default).lead), I ((r__Towns.getD i2 default).alarm)]) H rfl rfl Sz92 rfl rfl rfl rfl ?_
  intro w57z H
  refine s_nil ?_
  refine W.seq ?_
  refine W.region rfl ?_
  refine s_val (x_fa (a := .pointer (some ⟨b_2, 0, none⟩)) (v := .pointer (some ⟨b_2, 0, none⟩)) rfl (fa_blk (o := 0) Fd92_0 Sz3)) ?_
  refine s_val (x_ld (p := .pointer (some ⟨b_2, 0, none⟩)) (v := I ((r__Towns.getD i2 default).station)) rfl (ldb_sc Sc3 (H.blk (k := 0) rfl) rfl)) ?_
  refine s_val (x_mv (v := I (r__Down.length : Int)) rfl) ?_
  refine s_val (x_ari (a := (r__Down.length : Int)) (b := 1) (r := (r__Down.length : Int) - 1) rfl rfl rfl (by omega)) ?_
  obtain ⟨r59z, hx58z, hM⟩ := M.e_bind hM
  refine s_call cf49 [I ((r__Towns.getD i2 default).station), I 0, I ((r__Down.length : Int) - 1)] rfl (zaf ((r__Towns.getD i2 default).station) 0 ((r__Down.length : Int) - 1) hx58z _ (H.gt 2)) ?_
  rintro vq w60z ⟨r7, hr61z, hvq, H2_⟩
  subst hr61z
  subst vq
  try dsimp only at hM
  replace H := H.bk H2_
  clear H2_
  refine s_val (x_mv (v := B r7) rfl) ?_
  refine g_val (!r7) (gy_f rfl) (fun hg => x_fa (a := .pointer (some ⟨b_2, 0, none⟩)) (v := .pointer (some ⟨b_2, 1, none⟩)) rfl (fa_blk (o := 0) Fd92_1 Sz3)) ?_
  refine g_val (!r7) (gy_f rfl) (fun hg => x_ld (p := .pointer (some ⟨b_2, 1, none⟩)) (v := I ((r__Towns.getD i2 default).lead)) (gd_of (c := !r7) hg (.pointer (some ⟨b_2, 1, none⟩))) (ldb_sc Sc3 (H.blk (k := 0) rfl) rfl)) ?_
  obtain ⟨r8, hx62z, hM⟩ := M.e_bind hM
  refine t_gcall (!r7) (gy_f rfl) cf49 (B r8) (fun _ => [I ((r__Towns.getD i2 default).lead), I 0, I 1000]) (fun hg => lst3 (gd_of (c := !r7) hg (I ((r__Towns.getD i2 default).lead))) rfl rfl) H (fun hg => (zaf ((r__Towns.getD i2 default).lead) 0 1000 (M.e_opt hx62z hg) _ (H.give (A := []) rfl)).mono fun v_ w_ ⟨y_, hr_, hv_, H_⟩ => by subst hr_; exact ⟨hv_, H.via H_⟩) ?_
  intro w63z H
  refine s_val (x_por (b := r7) (r := r8) rfl rfl (fun hb => gd_of (c := !r7) (by first | exact hb | (rw [hb]; rfl) | simp_all) (B r8))) ?_
  refine s_val (x_mv (v := B (r7 || r8)) rfl) ?_
  refine g_val (!(r7 || r8)) (gy_f rfl) (fun hg => x_fa (a := .pointer (some ⟨b_2, 0, none⟩)) (v := .pointer (some ⟨b_2, 2, none⟩)) rfl (fa_blk (o := 0) Fd92_2 Sz3)) ?_
  refine g_val (!(r7 || r8)) (gy_f rfl) (fun hg => x_ld (p := .pointer (some ⟨b_2, 2, none⟩)) (v := I ((r__Towns.getD i2 default).alarm)) (gd_of (c := !(r7 || r8)) hg (.pointer (some ⟨b_2, 2, none⟩))) (ldb_sc Sc3 (H.blk (k := 0) rfl) rfl)) ?_
  obtain ⟨r9, hx64z, hM⟩ := M.e_bind hM
  refine t_gcall (!(r7 || r8)) (gy_f rfl) cf49 (B r9) (fun _ => [I ((r__Towns.getD i2 default).alarm), I 0, I 2000]) (fun hg => lst3 (gd_of (c := !(r7 || r8)) hg (I ((r__Towns.getD i2 default).alarm))) rfl rfl) H (fun hg => (zaf ((r__Towns.getD i2 default).alarm) 0 2000 (M.e_opt hx64z hg) _ (H.give (A := []) rfl)).mono fun v_ w_ ⟨y_, hr_, hv_, H_⟩ => by subst hr_; exact ⟨hv_, H.via H_⟩) ?_
  intro w65z H
  refine s_val (x_por (b := (r7 || r8)) (r := r9) rfl rfl (fun hb => gd_of (c := !(r7 || r8)) (by first | exact hb | (rw [hb]; rfl) | simp_all) (B r9))) ?_
  refine s_nil ?_
  refine W.cond ((r7 || r8) || r9) rfl (fun c66z => ?_) (fun c66z => ?_)
  ·replace hM := M.e_t hM c66z
   refine W.seq ?_
   refine W.region rfl ?_
   refine s_val (x_as (v := I 130) rfl) ?_
   refine s_nil ?_
   refine W.ret ?_
   have hX67z := M.e_inr hM hN52z
   subst hX67z
   replace hM := hk45z
   try dsimp only at hM
   have hr_ := M.e_pure hM
   exact ⟨_, resE_tmp rfl, ⟨130, hr_, rfl, (H.pk [])⟩⟩
  replace hM := M.e_f hM c66z
  refine W.skip ?_
  refine W.region rfl ?_
  refine s_val (x_mv (v := I (i2 : Int)) rfl) ?_
  refine s_val (x_ari (a := (i2 : Int)) (b := 1) (r := (i2 : Int) + 1) rfl rfl rfl (by omega)) ?_
  refine s_val (x_as (v := I ((i2 : Int) + 1)) rfl) ?_
  refine s_nil ?_
  exact ⟨m49z, lt50z, i2 + 1, _, upds_of _ _ ⟨rfl, rfl, rfl, trivial⟩, M.e_inl hM hN52z, (H.pk [1])⟩
 replace hM := M.e_f hM c54z
 simp only [decide_eq_true_eq, decide_eq_false_iff_not, beq_iff_eq, bne_iff_ne, beq_eq_false_iff_ne, bne_eq_false_iff_eq, ne_eq, Decidable.not_not] at c54z
 refine W.exit ?_
 have hX68z := M.e_inr hM hN52z
 subst hX68z
 replace hM := hk45z
 try dsimp only at hM
 refine W.seq ?_
 refine W.seq ?_
 refine W.region rfl ?_
 refine s_val (x_fa (a := .pointer (some ⟨b_1, 0, none⟩)) (v := .pointer (some ⟨b_1, 4, none⟩)) rfl (fa_blk (o := 0) Fd37_4 Sz26)) ?_
 refine s_val (x_ld (p := .pointer (some ⟨b_1, 4, none⟩)) (v := .agg #[I r__Delay_Lo, I r__Delay_Hi]) rfl (ldb_ag (ds := [I r__Delay_Lo, I r__Delay_Hi]) Ag26 Sz26 (H.blk (k := 0) rfl) rfl rfl)) ?_
 obtain ⟨r70z, hx69z, hM⟩ := M.e_bind hM
 refine s_call cf69 [.agg #[I r__Delay_Lo, I r__Delay_Hi]] rfl (zct (⟨(r__Delay_Lo : Int), (r__Delay_Hi : Int)⟩ : Span) hx69z _ (H.gt 1)) ?_
 rintro vq w71z ⟨r10, hr72z, hvq, H2_⟩
 subst hr72z
 subst vq
 try dsimp only at hM
 replace H := H.bk H2_
 clear H2_
 refine s_nil ?_
 refine W.cond r10 rfl (fun c73z => ?_) (fun c73z => ?_)
 ·replace hM := M.e_t hM c73z
  refine W.seq ?_
  refine W.region rfl ?_
  refine s_val (x_as (v := I 130) rfl) ?_
  refine s_nil ?_
  refine W.ret ?_
  have hr_ := M.e_pure hM
  exact ⟨_, resE_tmp rfl, ⟨130, hr_, rfl, (H.pk [])⟩⟩
 replace hM := M.e_f hM c73z
 refine W.skip ?_
 refine W.seq ?_
 refine W.seq ?_
 refine W.region rfl ?_
 refine s_val (x_as (v := I 0) rfl) ?_
 refine s_nil ?_
 refine W.block ?_
 obtain ⟨ex74z, hi75z, hk76z⟩ := M.e_bind hM
 obtain ⟨m0_, hi75z⟩ := M.e_iter hi75z
 refine W.loop (fun m σ W => ∃ (i3 : Nat) (ρ : Env), σ = upds ρ [(1, .pointer (some ⟨b_1, 0, none⟩)), (7, I (i3 : Int))] /\ M.iterN (zaR r__Down r__Travel r__Springs r__Towns r__Delay_Lo r__Delay_Hi r__Floods) m i3 = some ex74z /\ St w W [cBlk b_1 [v_r__Down, v_r__Travel, v_r__Springs, v_r__Towns, I r__Delay_Lo, I r__Delay_Hi, v_r__Floods] 37] R) ?_ ?_
 ·exact ⟨_, 0, _, upds_of _ _ ⟨rfl, rfl, trivial⟩, hi75z, H⟩
 rintro m79z σ w77z ⟨i3, ρ, rfl, hI78z, H⟩
 obtain ⟨m80z, lt81z, x82z, hM, hN83z⟩ := M.e_iterN hI78z
 simp only [zaR] at hM
 clear hI78z
 refine W.seq ?_
 refine W.seq ?_
 refine W.region rfl ?_
 refine s_val (x_mv (v := I (i3 : Int)) rfl) ?_
 refine s_val (x_fa (a := .pointer (some ⟨b_1, 0, none⟩)) (v := .pointer (some ⟨b_1, 6, none⟩)) rfl (fa_blk (o := 0) Fd37_5 Sz35)) ?_
 refine s_val (x_ld (p := .pointer (some ⟨b_1, 6, none⟩)) (v := v_r__Floods) rfl (ldb_sc Sc35 (H.blk (k := 0) rfl) rfl)) ?_
 have hl84z := (hs_r__Floods).len_le
 refine s_val (x_lenS T35.und rfl hs_r__Floods) ?_
 refine s_val (x_cmp (kd := .i64) (a := (i3 : Int)) (b := (r__Floods.length : Int)) (r := decide ((i3 : Int) < (r__Floods.length : Int))) rfl rfl rfl) ?_
 refine s_nil ?_
 refine W.cond (decide ((i3 : Int) < (r__Floods.length : Int))) rfl (fun c85z => ?_) (fun c85z => ?_)
 ·replace hM := M.e_t hM c85z
  simp only [decide_eq_true_eq, decide_eq_false_iff_not, beq_iff_eq, bne_iff_ne, beq_eq_false_iff_ne, bne_eq_false_iff_eq, ne_eq, Decidable.not_not] at c85z
  refine W.skip ?_
  refine W.seq ?_
  refine W.block ?_
  refine W.seq ?_
  refine W.region rfl ?_
  refine s_val (x_fa (a := .pointer (some ⟨b_1, 0, none⟩)) (v := .pointer (some ⟨b_1, 6, none⟩)) rfl (fa_blk (o := 0) Fd37_5 Sz35)) ?_
  refine s_val (x_ld (p := .pointer (some ⟨b_1, 6, none⟩)) (v := v_r__Floods) rfl (ldb_sc Sc35 (H.blk (k := 0) rfl) rfl)) ?_
  refine s_val (x_mv (v := I (i3 : Int)) rfl) ?_
  obtain ⟨sd86z, hM⟩ := M.e_grd hM
  simp only [Bool.and_eq_true, decide_eq_true_eq] at sd86z
  refine s_val (x_ix (a := v_r__Floods) (b := I (i3 : Int)) (v := vat v_r__Floods 2 (Int.toNat (i3 : Int))) rfl rfl (Sl.ix (α := Flood) T35.und T35.size hs_r__Floods (by omega) (by omega))) ?_
  obtain ⟨u87z, ha89z, hs88z⟩ := Flood_atA hs_r__Floods (i := (i3 : Int)) (by omega) (by omega)
  replace hs88z : Sl _ u87z (r__Floods.getD i3 default).stages := hs88z
  have hl_hs88z := hs88z.len_le
  refine s_val (x_ld (p := vat v_r__Floods 2 (Int.toNat (i3 : Int))) (v := .agg #[I ((r__Floods.getD i3 default).spring), u87z]) rfl (ld_ag Ag93 Sz93 (At.mono ha89z (hC_r__Floods.at H)))) ?_
  refine t_alloc (cs := [I 0, .slice none 0 0]) H Al93 rfl ?_
  intro b_3 w90z H
  refine t_sw 0 0 [I ((r__Floods.getD i3 default).spring), u87z] (.agg #[I ((r__Floods.getD i3 default).spring), u87z]) H rfl rfl Sz93 rfl rfl rfl (by simp only [List.all_cons, List.all_nil, Bool.true_and, Bool.and_true, Sl.oc hs88z]; try rfl) ?_
  intro w91z H
  refine s_nil ?_
  refine W.seq ?_
  refine W.region rfl ?_
  refine s_val (x_as (v := B false) rfl) ?_
  refine s_nil ?_
  refine W.seq ?_
  refine W.seq ?_
  refine W.region rfl ?_
  refine s_val (x_as (v := I 0) rfl) ?_
  refine s_nil ?_
  refine W.block ?_
  obtain ⟨ex92z, hi93z, hk94z⟩ := M.e_bind hM
  obtain ⟨m0_, hi93z⟩ := M.e_iter hi93z
  refine W.loop (fun m σ W => ∃ (spring : Bool) (k : Nat) (ρ : Env), σ = upds ρ [(1, .pointer (some ⟨b_1, 0, none⟩)), (7, I (i3 : Int)), (8, .pointer (some ⟨b_3, 0, none⟩)), (9, B spring), (10, I (k : Int))] /\ M.iterN (zaT r__Springs r__Floods i3) m (spring, k) = some ex92z /\ St w W [cBlk b_3 [I ((r__Floods.getD i3 default).spring), u87z] 93, cBlk b_1 [v_r__Down, v_r__Travel, v_r__Springs, v_r__Towns, I r__Delay_Lo, I r__Delay_Hi, v_r__Floods] 37] R) ?_ ?_
  ·exact ⟨_, false, 0, _, upds_of _ _ ⟨rfl, rfl, rfl, rfl, rfl, trivial⟩, hi93z, H⟩
  rintro m97z σ w95z ⟨spring, k, ρ, rfl, hI96z, H⟩
  obtain ⟨m98z, lt99z, x100z, hM, hN101z⟩ := M.e_iterN hI96z
  simp only [zaT] at hM
  clear hI96z
  refine W.seq ?_
  refine W.seq ?_
  refine W.region rfl ?_
  refine s_val (x_mv (v := I (k : Int)) rfl) ?_
  refine s_val (x_fa (a := .pointer (some ⟨b_1, 0, none⟩)) (v := .pointer (some ⟨b_1, 2, none⟩)) rfl (fa_blk (o := 0) Fd37_2 Sz22)) ?_
  refine s_val (x_ld (p := .pointer (some ⟨b_1, 2, none⟩)) (v := v_r__Springs) rfl (ldb_sc Sc22 (H.blk (k := 1) rfl) rfl)) ?_
  have hl102z := (hs_r__Springs).len_le
  refine s_val (x_lenS T22.und rfl hs_r__Springs) ?_
  refine s_val (x_cmp (kd := .i64) (a := (k : Int)) (b := (r__Springs.length : Int)) (r := decide ((k : Int) < (r__Springs.length : Int))) rfl rfl rfl) ?_
  refine s_nil ?_
  refine W.cond (decide ((k : Int) < (r__Springs.length : Int))) rfl (fun c103z => ?_) (fun c103z => ?_)
  ·replace hM := M.e_t hM c103z
   simp only [decide_eq_true_eq, decide_eq_false_iff_not, beq_iff_eq, bne_iff_ne, beq_eq_false_iff_ne, bne_eq_false_iff_eq, ne_eq, Decidable.not_not] at c103z
   refine W.skip ?_
   refine W.seq ?_
   refine W.block ?_
   refine W.draw (fun W => St w W [cBlk b_3 [I ((r__Floods.getD i3 default).spring), u87z] 93, cBlk b_1 [v_r__Down, v_r__Travel, v_r__Springs, v_r__Towns, I r__Delay_Lo, I r__Delay_Hi, v_r__Floods] 37] R) [(0, true), (1, true), (2, true), (3, true), (4, true), (5, true), (6, true), (7, true), (8, true), (9, true), (10, true), (11, true)] mixed (by decide +kernel) rfl ?_
   intro w104z hx_
   replace H := H.ext hx_
   clear hx_
   refine ⟨(H.pk [0, 1]), ?_⟩
   refine d_q rfl (fun w' H => x_mv (v := B spring) rfl) ?_
   refine d_q rfl (fun w' H => x_mv (v := B spring) rfl) ?_
   refine d_qg (!spring) rfl (gy_f rfl) (fun hg => (fun w' H => x_fa (a := .pointer (some ⟨b_1, 0, none⟩)) (v := .pointer (some ⟨b_1, 2, none⟩)) rfl (fa_blk (o := 0) Fd37_2 Sz22))) ?_
   refine d_qg (!spring) rfl (gy_f rfl) (fun hg => (fun w' H => x_ld (p := .pointer (some ⟨b_1, 2, none⟩)) (v := v_r__Springs) (gd_of (c := !spring) hg (.pointer (some ⟨b_1, 2, none⟩))) (ldb_sc Sc22 (H.blk (k := 1) rfl) rfl))) ?_
   refine d_qg (!spring) rfl (gy_f rfl) (fun hg => (fun w' H => x_mv (v := I (k : Int)) rfl)) ?_
   obtain ⟨sd105z, hM⟩ := M.e_grd hM
   replace sd105z := M.imp_of sd105z
   simp only [Bool.and_eq_true, decide_eq_true_eq] at sd105z
   refine d_qg (!spring) rfl (gy_f rfl) (fun hg => (fun w' H => x_ix (a := v_r__Springs) (b := I (k : Int)) (v := vat v_r__Springs 1 (Int.toNat (k : Int))) (gd_of (c := !spring) hg (v_r__Springs)) (gd_of (c := !spring) hg (I (k : Int))) (Sl.ix (α := Int) T22.und T22.size hs_r__Springs (by have h1_ := sd105z.resolve_left (by rw [hg]; decide); first | exact h1_ | exact h1_.1 | exact h1_.2 | omega | (have hx_ := hg; simp at hx_; omega)) (by have h1_ := sd105z.resolve_left (by rw [hg]; decide); first | exact h1_ | exact h1_.1 | exact h1_.2 | omega | (have hx_ := hg; simp at hx_; omega))))) ?_
   refine d_qg (!spring) rfl (gy_f rfl) (fun hg => (fun w' H => x_ld (p := vat v_r__Springs 1 (Int.toNat (k : Int))) (v := I (r__Springs.getD k 0)) (gd_of (c := !spring) hg (vat v_r__Springs 1 (Int.toNat (k : Int)))) (ld_sc Sc3 (At.mono (Int_at hs_r__Springs (i := (k : Int)) (by have h1_ := sd105z.resolve_left (by rw [hg]; decide); first | exact h1_ | exact h1_.1 | exact h1_.2 | omega | (have hx_ := hg; simp at hx_; omega)) (by have h1_ := sd105z.resolve_left (by rw [hg]; decide); first | exact h1_ | exact h1_.1 | exact h1_.2 | omega | (have hx_ := hg; simp at hx_; omega))) (hC_r__Springs.at H))))) ?_
   refine d_qg (!spring) rfl (gy_f rfl) (fun hg => (fun w' H => x_fa (a := .pointer (some ⟨b_3, 0, none⟩)) (v := .pointer (some ⟨b_3, 0, none⟩)) rfl (fa_blk (o := 0) Fd93_0 Sz3))) ?_
   refine d_qg (!spring) rfl (gy_f rfl) (fun hg => (fun w' H => x_ld (p := .pointer (some ⟨b_3, 0, none⟩)) (v := I ((r__Floods.getD i3 default).spring)) (gd_of (c := !spring) hg (.pointer (some ⟨b_3, 0, none⟩))) (ldb_sc Sc3 (H.blk (k := 0) rfl) rfl))) ?_
   refine d_qg (!spring) rfl (gy_f rfl) (fun hg => (fun w' H => x_cmp (kd := .i64) (a := r__Springs.getD k 0) (b := (r__Floods.getD i3 default).spring) (r := (r__Springs.getD k 0) == ((r__Floods.getD i3 default).spring)) (gd_of (c := !spring) hg (I (r__Springs.getD k 0))) (gd_of (c := !spring) hg (I ((r__Floods.getD i3 default).spring))) rfl)) ?_
   refine d_q rfl (fun w' H => x_por (b := spring) (r := (r__Springs.getD k 0) == ((r__Floods.getD i3 default).spring)) rfl rfl (fun hb => gd_of (c := !spring) (by first | exact hb | (rw [hb]; rfl) | simp_all) (B ((r__Springs.getD k 0) == ((r__Floods.getD i3 default).spring))))) ?_
   refine d_q rfl (fun w' H => x_as (v := B (spring || ((r__Springs.getD k 0) == ((r__Floods.getD i3 default).spring)))) rfl) ?_
   refine d_nil ?_
   refine W.region rfl ?_
   refine s_val (x_mv (v := I (k : Int)) rfl) ?_
   refine s_val (x_ari (a := (k : Int)) (b := 1) (r := (k : Int) + 1) rfl rfl rfl (by omega)) ?_
   refine s_val (x_as (v := I ((k : Int) + 1)) rfl) ?_
   refine s_nil ?_
   exact ⟨m98z, lt99z, (spring || ((r__Springs.getD k 0) == ((r__Floods.getD i3 default).spring))), k + 1, _, upds_of _ _ ⟨rfl, rfl, rfl, rfl, rfl, trivial⟩, M.e_inl hM hN101z, H⟩
  replace hM := M.e_f hM c103z
  simp only [decide_eq_true_eq, decide_eq_false_iff_not, beq_iff_eq, bne_iff_ne, beq_eq_false_iff_ne, bne_eq_false_iff_eq, ne_eq, Decidable.not_not] at c103z
  refine W.exit ?_
  have hX106z := M.e_inr hM hN101z
  subst hX106z
  replace hM := hk94z
  try dsimp only at hM
  refine W.seq ?_
  refine W.seq ?_
  refine W.draw (fun W => St w W [cBlk b_3 [I ((r__Floods.getD i3 default).spring), u87z] 93, cBlk b_1 [v_r__Down, v_r__Travel, v_r__Springs, v_r__Towns, I r__Delay_Lo, I r__Delay_Hi, v_r__Floods] 37] R) [(0, true), (1, true), (2, true), (3, true), (4, true), (5, true), (6, true), (7, true), (8, true), (9, false), (10, true), (11, true), (12, true)] mixed (by decide +kernel) rfl ?_
  intro w107z hx_
  replace H := H.ext hx_
  clear hx_
  refine ⟨(H.pk [0, 1]), ?_⟩
  refine d_q rfl (fun w' H => x_mv (v := B spring) rfl) ?_
  refine d_q rfl (fun w' H => x_not (b := spring) rfl) ?_
  refine d_q rfl (fun w' H => x_mv (v := B (!spring)) rfl) ?_
  refine d_qg (!(!spring)) rfl (gy_f rfl) (fun hg => (fun w' H => x_fa (a := .pointer (some ⟨b_3, 0, none⟩)) (v := .pointer (some ⟨b_3, 1, none⟩)) rfl (fa_blk (o := 0) Fd93_1 Sz22))) ?_
  refine d_qg (!(!spring)) rfl (gy_f rfl) (fun hg => (fun w' H => x_ld (p := .pointer (some ⟨b_3, 1, none⟩)) (v := u87z) (gd_of (c := !(!spring)) hg (.pointer (some ⟨b_3, 1, none⟩))) (ldb_sc Sc22 (H.blk (k := 0) rfl) rfl))) ?_
  have hl108z := (hs88z).len_le
  refine d_qg (!(!spring)) rfl (gy_f rfl) (fun hg => (fun w' H => x_lenS T22.und (gd_of (c := !(!spring)) hg (u87z)) hs88z)) ?_
  refine d_qg (!(!spring)) rfl (gy_f rfl) (fun hg => (fun w' H => x_ld (p := .pointer (some ⟨b_1, 0, none⟩)) (v := .agg #[v_r__Down, v_r__Travel, v_r__Springs, v_r__Towns, I r__Delay_Lo, I r__Delay_Hi, v_r__Floods]) rfl (ldb_ag (ds := [v_r__Down, v_r__Travel, v_r__Springs, v_r__Towns, I r__Delay_Lo, I r__Delay_Hi, v_r__Floods]) Ag37 Sz37 (H.blk (k := 1) rfl) rfl rfl))) ?_
  refine d_qg (!(!spring)) rfl (gy_f rfl) (fun hg => (fun w' H => x_fa (a := .pointer (some ⟨b_3, 0, none⟩)) (v := .pointer (some ⟨b_3, 0, none⟩)) rfl (fa_blk (o := 0) Fd93_0 Sz3))) ?_
  refine d_qg (!(!spring)) rfl (gy_f rfl) (fun hg => (fun w' H => x_ld (p := .pointer (some ⟨b_3, 0, none⟩)) (v := I ((r__Floods.getD i3 default).spring)) (gd_of (c := !(!spring)) hg (.pointer (some ⟨b_3, 0, none⟩))) (ldb_sc Sc3 (H.blk (k := 0) rfl) rfl))) ?_
  refine d_l rfl ?_
  refine g_splitV (!(!spring)) (.slice none 0 0) (gy_f rfl) (fun hg_ => ?_) (fun hg_ => ?_)
  ·replace hM := M.e_t hM hg_
   obtain ⟨r110z, hx109z, hM⟩ := M.e_bind hM
   refine s_call cf71 [.agg #[v_r__Down, v_r__Travel, v_r__Springs, v_r__Towns, I r__Delay_Lo, I r__Delay_Hi, v_r__Floods], I ((r__Floods.getD i3 default).spring)] (lst2 (gd_of (c := !(!spring)) hg_ (.agg #[v_r__Down, v_r__Travel, v_r__Springs, v_r__Towns, I r__Delay_Lo, I r__Delay_Hi, v_r__Floods])) (gd_of (c := !(!spring)) hg_ (I ((r__Floods.getD i3 default).spring)))) (zcZ r__Down r__Travel r__Springs r__Towns r__Delay_Lo r__Delay_Hi r__Floods ((r__Floods.getD i3 default).spring) (hC_r__Down.app _) hs_r__Down (hC_r__Travel.app _) hs_r__Travel (hC_r__Springs.app _) hs_r__Springs (hC_r__Towns.app _) hs_r__Towns (hC_r__Floods.app _) hs_r__Floods hx109z _ (H.gt 2)) ?_
   rintro vq w111z ⟨r11, u0_4, hr112z, hvq, H2_⟩
   subst hr112z
   subst vq
   try dsimp only at hM
   replace H := H.bk H2_
   clear H2_
   have hvc_q113z := Sl.cells (ownSl (H.get (k := 0) rfl))
   have hvo_q113z := Sl.oc (ownSl (H.get (k := 0) rfl))
   have hvs_q113z := ownSl (H.get (k := 0) rfl)
   refine s_nil ⟨(H.pk [1, 2]), ?_⟩
   refine d_qg (!(!spring)) rfl (gy_f rfl) (fun hg => (fun w' H => x_lenS T22.und rfl hvs_q113z)) ?_
   refine d_qg (!(!spring)) rfl (gy_f rfl) (fun hg => (fun w' H => x_cmp (kd := .i64) (a := (((r__Floods.getD i3 default).stages).length : Int)) (b := (r11.length : Int)) (r := (((r__Floods.getD i3 default).stages).length : Int) != (r11.length : Int)) (gd_of (c := !(!spring)) hg (I (((r__Floods.getD i3 default).stages).length : Int))) (gd_of (c := !(!spring)) hg (I (r11.length : Int))) rfl)) ?_
   refine d_q rfl (fun w' H => x_por (b := !spring) (r := (((r__Floods.getD i3 default).stages).length : Int) != (r11.length : Int)) rfl rfl (fun hb => gd_of (c := !(!spring)) (by first | exact hb | (rw [hb]; rfl) | simp_all) (B ((((r__Floods.getD i3 default).stages).length : Int) != (r11.length : Int))))) ?_
   refine d_nil ?_
   refine W.cond ((!spring) || ((((r__Floods.getD i3 default).stages).length : Int) != (r11.length : Int))) rfl (fun c115z => ?_) (fun c115z => ?_)
   ·replace hM := M.e_t hM c115z
    refine W.seq ?_
    refine W.region rfl ?_
    refine s_val (x_as (v := I 2) rfl) ?_
    refine s_nil ?_
    replace H := H.pk [2]
    refine W.ret ?_
    have hX116z := M.e_inr hM hN83z
    subst hX116z
    replace hM := hk76z
    try dsimp only at hM
    have hr_ := M.e_pure hM
    exact ⟨_, resE_tmp rfl, ⟨2, hr_, rfl, (H.pk [])⟩⟩
   replace hM := M.e_f hM c115z
   refine W.skip ?_
   refine W.seq ?_
   refine W.region rfl ?_
   refine s_val (x_as (v := I 0) rfl) ?_
   refine s_nil ?_
   refine W.block ?_
   obtain ⟨ex117z, hi118z, hk119z⟩ := M.e_bind hM
   obtain ⟨m0_, hi118z⟩ := M.e_iter hi118z
   refine W.loop (fun m σ W => ∃ (k2 : Nat) (ρ : Env), σ = upds ρ [(1, .pointer (some ⟨b_1, 0, none⟩)), (7, I (i3 : Int)), (8, .pointer (some ⟨b_3, 0, none⟩)), (11, I (k2 : Int)), (138, gd (!(!spring)) (.pointer (some ⟨b_3, 1, none⟩))), (139, gd (!(!spring)) u87z), (140, gd (!(!spring)) (I (((r__Floods.getD i3 default).stages).length : Int))), (141, gd (!(!spring)) (.agg #[v_r__Down, v_r__Travel, v_r__Springs, v_r__Towns, I r__Delay_Lo, I r__Delay_Hi, v_r__Floods])), (142, gd (!(!spring)) (.pointer (some ⟨b_3, 0, none⟩))), (143, gd (!(!spring)) (I ((r__Floods.getD i3 default).spring))), (144, u0_4), (145, gd (!(!spring)) (I (r11.length : Int))), (146, gd (!(!spring)) (B ((((r__Floods.getD i3 default).stages).length : Int) != (r11.length : Int))))] /\ M.iterN (zaU r__Floods i3) m k2 = some ex117z /\ St w W [cOwn (α := Int) 3 u0_4 r11, cBlk b_3 [I ((r__Floods.getD i3 default).spring), u87z] 93, cBlk b_1 [v_r__Down, v_r__Travel, v_r__Springs, v_r__Towns, I r__Delay_Lo, I r__Delay_Hi, v_r__Floods] 37] R) ?_ ?_
   ·exact ⟨_, 0, _, upds_of _ _ ⟨rfl, rfl, rfl, rfl, rfl, rfl, rfl, rfl, rfl, rfl, rfl, rfl, rfl, trivial⟩, hi118z, H⟩
   rintro m122z σ w120z ⟨k2, ρ, rfl, hI121z, H⟩
   obtain ⟨m123z, lt124z, x125z, hM, hN126z⟩ := M.e_iterN hI121z
   simp only [zaU] at hM
   clear hI121z
   refine W.seq ?_
   refine W.seq ?_
   refine W.region rfl ?_
   refine s_val (x_mv (v := I (k2 : Int)) rfl) ?_
   refine s_val (x_fa (a := .pointer (some ⟨b_3, 0, none⟩)) (v := .pointer (some ⟨b_3, 1, none⟩)) rfl (fa_blk (o := 0) Fd93_1 Sz22)) ?_
   refine s_val (x_ld (p := .pointer (some ⟨b_3, 1, none⟩)) (v := u87z) rfl (ldb_sc Sc22 (H.blk (k := 1) rfl) rfl)) ?_
   have hl127z := (hs88z).len_le
   refine s_val (x_lenS T22.und rfl hs88z) ?_
   refine s_val (x_cmp (kd := .i64) (a := (k2 : Int)) (b := (((r__Floods.getD i3 default).stages).length : Int)) (r := decide ((k2 : Int) < (((r__Floods.getD i3 default).stages).length : Int))) rfl rfl rfl) ?_
   refine s_nil ?_
   refine W.cond (decide ((k2 : Int) < (((r__Floods.getD i3 default).stages).length : Int))) rfl (fun c128z => ?_) (fun c128z => ?_)
   ·replace hM := M.e_t hM c128z
    simp only [decide_eq_true_eq, decide_eq_false_iff_not, beq_iff_eq, bne_iff_ne, beq_eq_false_iff_ne, bne_eq_false_iff_eq, ne_eq, Decidable.not_not] at c128z
    refine W.skip ?_
    refine W.seq ?_
    refine W.block ?_
    refine W.seq ?_
    refine W.region rfl ?_
    refine s_val (x_fa (a := .pointer (some ⟨b_3, 0, none⟩)) (v := .pointer (some ⟨b_3, 1, none⟩)) rfl (fa_blk (o := 0) Fd93_1 Sz22)) ?_
    refine s_val (x_ld (p := .pointer (some ⟨b_3, 1, none⟩)) (v := u87z) rfl (ldb_sc Sc22 (H.blk (k := 1) rfl) rfl)) ?_
    refine s_val (x_mv (v := I (k2 : Int)) rfl) ?_
    obtain ⟨sd129z, hM⟩ := M.e_grd hM
    simp only [Bool.and_eq_true, decide_eq_true_eq] at sd129z
    refine s_val (x_ix (a := u87z) (b := I (k2 : Int)) (v := vat u87z 1 (Int.toNat (k2 : Int))) rfl rfl (Sl.ix (α := Int) T22.und T22.size hs88z (by omega) (by omega))) ?_
    refine s_val (x_ld (p := vat u87z 1 (Int.toNat (k2 : Int))) (v := I (((r__Floods.getD i3 default).stages).getD k2 0)) rfl (ld_sc Sc3 (At.mono (Int_at hs88z (i := (k2 : Int)) (by omega) (by omega)) (hC_r__Floods.at H)))) ?_
    obtain ⟨r131z, hx130z, hM⟩ := M.e_bind hM
    refine s_call cf49 [I (((r__Floods.getD i3 default).stages).getD k2 0), I 0, I 2000] rfl (zaf (((r__Floods.getD i3 default).stages).getD k2 0) 0 2000 hx130z _ (H.gt 3)) ?_
    rintro vq w132z ⟨r12, hr133z, hvq, H2_⟩
    subst hr133z
    subst vq
    try dsimp only at hM
    replace H := H.bk H2_
    clear H2_
    refine s_nil ?_
    refine W.cond r12 rfl (fun c134z => ?_) (fun c134z => ?_)
    ·replace hM := M.e_t hM c134z
     refine W.seq ?_
     refine W.region rfl ?_
     refine s_val (x_as (v := I 130) rfl) ?_
     refine s_nil ?_
     refine W.ret ?_
     have hX135z := M.e_inr hM hN126z
     subst hX135z
     replace hM := hk119z
     try dsimp only at hM
     have hX136z := M.e_inr hM hN83z
     subst hX136z
     replace hM := hk76z
     try dsimp only at hM
     have hr_ := M.e_pure hM
     exact ⟨_, resE_tmp rfl, ⟨130, hr_, rfl, (H.pk [])⟩⟩
    replace hM := M.e_f hM c134z
    refine W.skip ?_
    refine W.region rfl ?_
    refine s_val (x_mv (v := I (k2 : Int)) rfl) ?_
    refine s_val (x_ari (a := (k2 : Int)) (b := 1) (r := (k2 : Int) + 1) rfl rfl rfl (by omega)) ?_
    refine s_val (x_as (v := I ((k2 : Int) + 1)) rfl) ?_
    refine s_nil ?_
    exact ⟨m123z, lt124z, k2 + 1, _, upds_of _ _ ⟨rfl, rfl, rfl, rfl, rfl, rfl, rfl, rfl, rfl, rfl, rfl, rfl, rfl, trivial⟩, M.e_inl hM hN126z, H⟩
   replace hM := M.e_f hM c128z
   simp only [decide_eq_true_eq, decide_eq_false_iff_not, beq_iff_eq, bne_iff_ne, beq_eq_false_iff_ne, bne_eq_false_iff_eq, ne_eq, Decidable.not_not] at c128z
   refine W.exit ?_
   have hX137z := M.e_inr hM hN126z
   subst hX137z
   replace hM := hk119z
   try dsimp only at hM
   refine W.region rfl ?_
   refine s_val (x_mv (v := I (i3 : Int)) rfl) ?_
   refine s_val (x_ari (a := (i3 : Int)) (b := 1) (r := (i3 : Int) + 1) rfl rfl rfl (by omega)) ?_
   refine s_val (x_as (v := I ((i3 : Int) + 1)) rfl) ?_
   refine s_nil ?_
   exact ⟨m80z, lt81z, i3 + 1, _, upds_of _ _ ⟨rfl, rfl, trivial⟩, M.e_inl hM hN83z, (H.pk [2])⟩
  replace hM := M.e_f hM hg_
  refine s_nil ⟨(H.pk [0, 1]), ?_⟩
  refine d_qg (!(!spring)) rfl (gy_f rfl) (fun hg => (fun w' H => x_len (n := 0) T22.und (gd_of (c := !(!spring)) hg (.slice none 0 0)))) ?_
  refine d_qg (!(!spring)) rfl (gy_f rfl) (fun hg => (fun w' H => x_cmp (kd := .i64) (a := (((r__Floods.getD i3 default).stages).length : Int)) (b := 0) (r := (((r__Floods.getD i3 default).stages).length : Int) != 0) (gd_of (c := !(!spring)) hg (I (((r__Floods.getD i3 default).stages).length : Int))) (gd_of (c := !(!spring)) hg (I 0)) rfl)) ?_
  refine d_q rfl (fun w' H => x_por (b := !spring) (r := (((r__Floods.getD i3 default).stages).length : Int) != 0) rfl rfl (fun hb => gd_of (c := !(!spring)) (by first | exact hb | (rw [hb]; rfl) | simp_all) (B ((((r__Floods.getD i3 default).stages).length : Int) != 0)))) ?_
  refine d_nil ?_
  refine W.cond ((!spring) || ((((r__Floods.getD i3 default).stages).length : Int) != 0)) rfl (fun c138z => ?_) (fun c138z => ?_)
  ·replace hM := M.e_t hM c138z
   refine W.seq ?_
   refine W.region rfl ?_
   refine s_val (x_as (v := I 2) rfl) ?_
   refine s_nil ?_
   refine W.ret ?_
   have hX139z := M.e_inr hM hN83z
   subst hX139z
   replace hM := hk76z
   try dsimp only at hM
   have hr_ := M.e_pure hM
   exact ⟨_, resE_tmp rfl, ⟨2, hr_, rfl, (H.pk [])⟩⟩
  replace hM := M.e_f hM c138z
  refine W.skip ?_
  refine W.seq ?_
  refine W.region rfl ?_
  refine s_val (x_as (v := I 0) rfl) ?_
  refine s_nil ?_
  refine W.block ?_
  obtain ⟨ex140z, hi141z, hk142z⟩ := M.e_bind hM
  obtain ⟨m0_, hi141z⟩ := M.e_iter hi141z
  refine W.loop (fun m σ W => ∃ (k2 : Nat) (ρ : Env), σ = upds ρ [(1, .pointer (some ⟨b_1, 0, none⟩)), (7, I (i3 : Int)), (8, .pointer (some ⟨b_3, 0, none⟩)), (11, I (k2 : Int)), (138, gd (!(!spring)) (.pointer (some ⟨b_3, 1, none⟩))), (139, gd (!(!spring)) u87z), (140, gd (!(!spring)) (I (((r__Floods.getD i3 default).stages).length : Int))), (141, gd (!(!spring)) (.agg #[v_r__Down, v_r__Travel, v_r__Springs, v_r__Towns, I r__Delay_Lo, I r__Delay_Hi, v_r__Floods])), (142, gd (!(!spring)) (.pointer (some ⟨b_3, 0, none⟩))), (143, gd (!(!spring)) (I ((r__Floods.getD i3 default).spring))), (144, gd (!(!spring)) (.slice none 0 0)), (145, gd (!(!spring)) (I 0)), (146, gd (!(!spring)) (B ((((r__Floods.getD i3 default).stages).length : Int) != 0)))] /\ M.iterN (zcg r__Floods i3) m k2 = some ex140z /\ St w W [cBlk b_3 [I ((r__Floods.getD i3 default).spring), u87z] 93, cBlk b_1 [v_r__Down, v_r__Travel, v_r__Springs, v_r__Towns, I r__Delay_Lo, I r__Delay_Hi, v_r__Floods] 37] R) ?_ ?_
  ·exact ⟨_, 0, _, upds_of _ _ ⟨rfl, rfl, rfl, rfl, rfl, rfl, rfl, rfl, rfl, rfl, rfl, rfl, rfl, trivial⟩, hi141z, H⟩
  rintro m145z σ w143z ⟨k2, ρ, rfl, hI144z, H⟩
  obtain ⟨m146z, lt147z, x148z, hM, hN149z⟩ := M.e_iterN hI144z
  simp only [zcg] at hM
  clear hI144z
  refine W.seq ?_
  refine W.seq ?_
  refine W.region rfl ?_
  refine s_val (x_mv (v := I (k2 : Int)) rfl) ?_
  refine s_val (x_fa (a := .pointer (some ⟨b_3, 0, none⟩)) (v := .pointer (some ⟨b_3, 1, none⟩)) rfl (fa_blk (o := 0) Fd93_1 Sz22)) ?_
  refine s_val (x_ld (p := .pointer (some ⟨b_3, 1, none⟩)) (v := u87z) rfl (ldb_sc Sc22 (H.blk (k := 0) rfl) rfl)) ?_
  have hl150z := (hs88z).len_le
  refine s_val (x_lenS T22.und rfl hs88z) ?_
  refine s_val (x_cmp (kd := .i64) (a := (k2 : Int)) (b := (((r__Floods.getD i3 default).stages).length : Int)) (r := decide ((k2 : Int) < (((r__Floods.getD i3 default).stages).length : Int))) rfl rfl rfl) ?_
  refine s_nil ?_
  refine W.cond (decide ((k2 : Int) < (((r__Floods.getD i3 default).stages).length : Int))) rfl (fun c151z => ?_) (fun c151z => ?_)
  ·replace hM := M.e_t hM c151z
   simp only [decide_eq_true_eq, decide_eq_false_iff_not, beq_iff_eq, bne_iff_ne, beq_eq_false_iff_ne, bne_eq_false_iff_eq, ne_eq, Decidable.not_not] at c151z
   refine W.skip ?_
   refine W.seq ?_
   refine W.block ?_
   refine W.seq ?_
   refine W.region rfl ?_
   refine s_val (x_fa (a := .pointer (some ⟨b_3, 0, none⟩)) (v := .pointer (some ⟨b_3, 1, none⟩)) rfl (fa_blk (o := 0) Fd93_1 Sz22)) ?_
   refine s_val (x_ld (p := .pointer (some ⟨b_3, 1, none⟩)) (v := u87z) rfl (ldb_sc Sc22 (H.blk (k := 0) rfl) rfl)) ?_
   refine s_val (x_mv (v := I (k2 : Int)) rfl) ?_
   obtain ⟨sd152z, hM⟩ := M.e_grd hM
   simp only [Bool.and_eq_true, decide_eq_true_eq] at sd152z
   refine s_val (x_ix (a := u87z) (b := I (k2 : Int)) (v := vat u87z 1 (Int.toNat (k2 : Int))) rfl rfl (Sl.ix (α := Int) T22.und T22.size hs88z (by omega) (by omega))) ?_
   refine s_val (x_ld (p := vat u87z 1 (Int.toNat (k2 : Int))) (v := I (((r__Floods.getD i3 default).stages).getD k2 0)) rfl (ld_sc Sc3 (At.mono (Int_at hs88z (i := (k2 : Int)) (by omega) (by omega)) (hC_r__Floods.at H)))) ?_
   obtain ⟨r154z, hx153z, hM⟩ := M.e_bind hM
   refine s_call cf49 [I (((r__Floods.getD i3 default).stages).getD k2 0), I 0, I 2000] rfl (zaf (((r__Floods.getD i3 default).stages).getD k2 0) 0 2000 hx153z _ (H.gt 2)) ?_
   rintro vq w155z ⟨r12, hr156z, hvq, H2_⟩
   subst hr156z
   subst vq
   try dsimp only at hM
   replace H := H.bk H2_
   clear H2_
   refine s_nil ?_
   refine W.cond r12 rfl (fun c157z => ?_) (fun c157z => ?_)
   ·replace hM := M.e_t hM c157z
    refine W.seq ?_
    refine W.region rfl ?_
    refine s_val (x_as (v := I 130) rfl) ?_
    refine s_nil ?_
    refine W.ret ?_
    have hX158z := M.e_inr hM hN149z
    subst hX158z
    replace hM := hk142z
    try dsimp only at hM
    have hX159z := M.e_inr hM hN83z
    subst hX159z
    replace hM := hk76z
    try dsimp only at hM
    have hr_ := M.e_pure hM
    exact ⟨_, resE_tmp rfl, ⟨130, hr_, rfl, (H.pk [])⟩⟩
   replace hM := M.e_f hM c157z
   refine W.skip ?_
   refine W.region rfl ?_
   refine s_val (x_mv (v := I (k2 : Int)) rfl) ?_
   refine s_val (x_ari (a := (k2 : Int)) (b := 1) (r := (k2 : Int) + 1) rfl rfl rfl (by omega)) ?_
   refine s_val (x_as (v := I ((k2 : Int) + 1)) rfl) ?_
   refine s_nil ?_
   exact ⟨m146z, lt147z, k2 + 1, _, upds_of _ _ ⟨rfl, rfl, rfl, rfl, rfl, rfl, rfl, rfl, rfl, rfl, rfl, rfl, rfl, trivial⟩, M.e_inl hM hN149z, H⟩
  replace hM := M.e_f hM c151z
  simp only [decide_eq_true_eq, decide_eq_false_iff_not, beq_iff_eq, bne_iff_ne, beq_eq_false_iff_ne, bne_eq_false_iff_eq, ne_eq, Decidable.not_not] at c151z
  refine W.exit ?_
  have hX160z := M.e_inr hM hN149z
  subst hX160z
  replace hM := hk142z
  try dsimp only at hM
  refine W.region rfl ?_
  refine s_val (x_mv (v := I (i3 : Int)) rfl) ?_
  refine s_val (x_ari (a := (i3 : Int)) (b := 1) (r := (i3 : Int) + 1) rfl rfl rfl (by omega)) ?_
  refine s_val (x_as (v := I ((i3 : Int) + 1)) rfl) ?_
  refine s_nil ?_
  exact ⟨m80z, lt81z, i3 + 1, _, upds_of _ _ ⟨rfl, rfl, trivial⟩, M.e_inl hM hN83z, (H.pk [1])⟩
 replace hM := M.e_f hM c85z
 simp only [decide_eq_true_eq, decide_eq_false_iff_not, beq_iff_eq, bne_iff_ne, beq_eq_false_iff_ne, bne_eq_false_iff_eq, ne_eq, Decidable.not_not] at c85z
 refine W.exit ?_
 have hX161z := M.e_inr hM hN83z
 subst hX161z
 replace hM := hk76z
 try dsimp only at hM
 refine W.seq ?_
 refine W.region rfl ?_
 refine s_val (x_as (v := I 0) rfl) ?_
 refine s_nil ?_
 refine W.ret ?_
 have hr_ := M.e_pure hM
 exact ⟨_, resE_tmp rfl, ⟨0, hr_, rfl, (H.pk [])⟩⟩

def zay : (List Int) -> (Int × Int) -> M ((List Int) ⊕ Unit) := fun l (x, x2) =>
  M.grd (decide ((l.length + ([(x2 : Int)]).length) * 8 <= 140737488355328)) <|
  M.pure (.inl (l ++ ([(x2 : Int)])))
def zar (r__Down : List Int) (r__Travel : List Span) (r__Springs : List Int) (r__Towns : List Town) (r__Delay_Lo : Int) (r__Delay_Hi : Int) (r__Floods : List Flood) (station : Int) : M ((List Int) × Int) :=
  M.bind (zal r__Down r__Travel r__Springs r__Towns r__Delay_Lo r__Delay_Hi r__Floods) fun x_ => match x_ with
  | (.inl r1) => (
  bif r1 != 0 then (
  M.pure (([]), r1))
  else (
  M.fail))
  | (.inr (r04, r05, r12)) => (
  bif r12 != 0 then (
  M.fail)
  else (
  M.bind (zao r__Down r__Travel r__Springs r__Towns r04 r05 r__Floods station) fun r2 =>
  bif !r2 then (
  M.pure (([]), 2))
  else (
  M.bind (zak r__Down r__Travel r__Springs r__Towns r04 r05 r__Floods station) fun (r00, r14, r15) =>
  M.bind (zan (M.yl zay) (.inl ([])) r00 r__Down r__Travel r__Springs r__Towns r14 r15 r__Floods) fun x_ => match x_ with
  | (.inl l, q0) => (
  M.pure (l, 0))
  | (.inr _, _) => M.fail)))
theorem zde {R : List Chunk} {C_r__Down : Cells} {v_r__Down : Value} {C_r__Travel : Cells} {v_r__Travel : Value} {C_r__Springs : Cells} {v_r__Springs : Value} {C_r__Towns : Cells} {v_r__Towns : Value} {C_r__Floods : Cells} {v_r__Floods : Value} (r__Down : List Int) (r__Travel : List Span) (r__Springs : List Int) (r__Towns : List Town) (r__Delay_Lo : Int) (r__Delay_Hi : Int) (r__Floods : List Flood) (station : Int) (hC_r__Down : Reads R C_r__Down) (hs_r__Down : Sl C_r__Down v_r__Down r__Down) (hC_r__Travel : Reads R C_r__Travel) (hs_r__Travel : Sl C_r__Travel v_r__Travel r__Travel) (hC_r__Springs : Reads R C_r__Springs) (hs_r__Springs : Sl C_r__Springs v_r__Springs r__Springs) (hC_r__Towns : Reads R C_r__Towns) (hs_r__Towns : Sl C_r__Towns v_r__Towns r__Towns) (hC_r__Floods : Reads R C_r__Floods) (hs_r__Floods : Sl C_r__Floods v_r__Floods r__Floods) {r : ((List Int) × Int)} (hM : (zar r__Down r__Travel r__Springs r__Towns r__Delay_Lo r__Delay_Hi r__Floods station).Ends r) (w : World) (H : St w w [] R) : Ret Tryz.prog 21 #[.agg #[v_r__Down, v_r__Travel, v_r__Springs, v_r__Towns, I r__Delay_Lo, I r__Delay_Hi, v_r__Floods], I station] w fun v w' => ∃ (y0 : List Int) (y1 : Int) (u0 : Value), (y0, y1) = r /\ v = .tuple #[u0, I y1] /\ St w w' [cOwn (α := Int) 3 u0 y0] R := by
 refine ret_of_WD Tryz.func21 rfl rfl rfl ?_
 replace H : St w w [cMk ([])] R := H.mk0
 have hl_r__Down := hs_r__Down.len_le
 have hl_r__Travel := hs_r__Travel.len_le
 have hl_r__Springs := hs_r__Springs.len_le
 have hl_r__Towns := hs_r__Towns.len_le
 have hl_r__Floods := hs_r__Floods.len_le
 unfold zar at hM
 refine WD.seq ?_
 refine WD.of ?_
 refine W.region rfl ?_
 refine t_box (v := .agg #[v_r__Down, v_r__Travel, v_r__Springs, v_r__Towns, I r__Delay_Lo, I r__Delay_Hi, v_r__Floods]) (cs := [v_r__Down, v_r__Travel, v_r__Springs, v_r__Towns, I r__Delay_Lo, I r__Delay_Hi, v_r__Floods]) H rfl rfl ?_
 intro b_1 w1z H
 refine s_val (x_as (v := .slice none 0 0) rfl) ?_
 refine s_val (x_as (v := I 0) rfl) ?_
 refine s_nil ?_
 refine WD.seq ?_
 refine WD.of ?_
 refine W.region rfl ?_
 refine s_val (x_ld (p := .pointer (some ⟨b_1, 0, none⟩)) (v := .agg #[v_r__Down, v_r__Travel, v_r__Springs, v_r__Towns, I r__Delay_Lo, I r__Delay_Hi, v_r__Floods]) rfl (ldb_ag (ds := [v_r__Down, v_r__Travel, v_r__Springs, v_r__Towns, I r__Delay_Lo, I r__Delay_Hi, v_r__Floods]) Ag29 Sz29 (H.blk (k := 0) rfl) rfl rfl)) ?_
 obtain ⟨r3z, hx2z, hM⟩ := M.e_bind hM
 refine s_call cf72 [.agg #[v_r__Down, v_r__Travel, v_r__Springs, v_r__Towns, I r__Delay_Lo, I r__Delay_Hi, v_r__Floods]] rfl (zaS r__Down r__Travel r__Springs r__Towns r__Delay_Lo r__Delay_Hi r__Floods (hC_r__Down.app _) hs_r__Down (hC_r__Travel.app _) hs_r__Travel (hC_r__Springs.app _) hs_r__Springs (hC_r__Towns.app _) hs_r__Towns (hC_r__Floods.app _) hs_r__Floods hx2z _ (H.gt 2)) ?_
 rintro vq w4z (⟨r1, hr5z, hvq, H2_⟩ | ⟨r04, r05, r12, nb0_2, nb1_3, Bs2_4, hr6z, hvq, H2_⟩)
 ·subst hr5z
  subst vq
  try dsimp only at hM
  replace H := H.bk H2_
  clear H2_
  refine s_val (x_mv (v := .tuple #[.pointer none, I r1]) rfl) ?_
  refine s_val (x_ext (vs := [.pointer none, I r1]) (v := .pointer none) rfl rfl) ?_
  refine s_val (x_ext (vs := [.pointer none, I r1]) (v := I r1) rfl rfl) ?_
  refine s_val (x_as (v := .pointer none) rfl) ?_
  refine s_val (x_as (v := I r1) rfl) ?_
  refine s_nil ?_
  refine WD.seq ?_
  refine WD.block ?_
  refine WD.seq ?_
  refine WD.of ?_
  refine W.region rfl ?_
  refine s_val (x_mv (v := I r1) rfl) ?_
  refine s_val (x_cmp (kd := .i64) (a := r1) (b := 0) (r := r1 != 0) rfl rfl rfl) ?_
  refine s_val (x_as (v := B (r1 != 0)) rfl) ?_
  refine s_nil ?_
  refine WD.cond (r1 != 0) rfl (fun c7z => ?_) (fun c7z => ?_)
  ·replace hM := M.e_t hM c7z
   simp only [decide_eq_true_eq, decide_eq_false_iff_not, beq_iff_eq, bne_iff_ne, beq_eq_false_iff_ne, bne_eq_false_iff_eq, ne_eq, Decidable.not_not] at c7z
   refine WD.seq ?_
   refine WD.of ?_
   refine W.region rfl ?_
   refine s_val (x_mv (v := I r1) rfl) ?_
   refine s_val (x_as (v := .slice none 0 0) rfl) ?_
   refine s_val (x_as (v := I r1) rfl) ?_
   refine s_nil ?_
   refine WD.of ?_
   refine W.ret ?_
   refine bodyD_r (H.pk [1, 0]) ?_
   intro w8z H
   replace H := H.nf
   have hr_ := M.e_pure hM
   replace H := H.nilOwn (α := Int) 3
   exact ⟨_, resE_tmp2 rfl, ⟨([]), r1, (.slice none 0 0), hr_, rfl, (H.pk [0])⟩⟩
  replace hM := M.e_f hM c7z
  exact (M.e_fail hM).elim
 subst hr6z
 subst vq
 try dsimp only at hM
 replace H := H.bk H2_
 clear H2_
 refine s_val (x_mv (v := .tuple #[.pointer (some ⟨nb0_2, 0, none⟩), I r12]) rfl) ?_
 refine s_val (x_ext (vs := [.pointer (some ⟨nb0_2, 0, none⟩), I r12]) (v := .pointer (some ⟨nb0_2, 0, none⟩)) rfl rfl) ?_
 refine s_val (x_ext (vs := [.pointer (some ⟨nb0_2, 0, none⟩), I r12]) (v := I r12) rfl rfl) ?_
 refine s_val (x_as (v := .pointer (some ⟨nb0_2, 0, none⟩)) rfl) ?_
 refine s_val (x_as (v := I r12) rfl) ?_
 refine s_nil ?_
 refine WD.seq ?_
 refine WD.block ?_
 refine WD.seq ?_
 refine WD.of ?_
 refine W.region rfl ?_
 refine s_val (x_mv (v := I r12) rfl) ?_
 refine s_val (x_cmp (kd := .i64) (a := r12) (b := 0) (r := r12 != 0) rfl rfl rfl) ?_
 refine s_val (x_as (v := B (r12 != 0)) rfl) ?_
 refine s_nil ?_
 refine WD.cond (r12 != 0) rfl (fun c9z => ?_) (fun c9z => ?_)
 ·replace hM := M.e_t hM c9z
  exact (M.e_fail hM).elim
 replace hM := M.e_f hM c9z
 simp only [decide_eq_true_eq, decide_eq_false_iff_not, beq_iff_eq, bne_iff_ne, beq_eq_false_iff_ne, bne_eq_false_iff_eq, ne_eq, Decidable.not_not] at c9z
 refine WD.seq ?_
 refine WD.of ?_
 refine W.region rfl ?_
 refine s_val (x_mv (v := .pointer (some ⟨nb0_2, 0, none⟩)) rfl) ?_
 refine s_val (x_mv (v := I station) rfl) ?_
 obtain ⟨r11z, hx10z, hM⟩ := M.e_bind hM
 refine s_call cf73 [.pointer (some ⟨nb0_2, 0, none⟩), I station] rfl (zbv r__Down r__Travel r__Springs r__Towns r04 r05 r__Floods station (hC_r__Down.app _) hs_r__Down (hC_r__Travel.app _) hs_r__Travel (hC_r__Springs.app _) hs_r__Springs (hC_r__Towns.app _) hs_r__Towns (hC_r__Floods.app _) hs_r__Floods (Has.here (k := 0) rfl) hx10z _ (H.gt 4)) ?_
 rintro vq w12z ⟨r2, hr13z, hvq, H2_⟩
 subst hr13z
 subst vq
 try dsimp only at hM
 replace H := H.bk H2_
 clear H2_
 refine s_val (x_not (b := r2) rfl) ?_
 refine s_val (x_as (v := B (!r2)) rfl) ?_
 refine s_nil ?_
 refine WD.cond (!r2) rfl (fun c14z => ?_) (fun c14z => ?_)
 ·replace hM := M.e_t hM c14z
  refine WD.seq ?_
  refine WD.of ?_
  refine W.region rfl ?_
  refine s_val (x_as (v := .slice none 0 0) rfl) ?_
  refine s_val (x_as (v := I 2) rfl) ?_
  refine s_nil ?_
  replace H := H.pk [3]
  refine WD.of ?_
  refine W.ret ?_
  refine bodyD_r (H.pk [0]) ?_
  intro w15z H
  replace H := H.nf
  have hr_ := M.e_pure hM
  replace H := H.nilOwn (α := Int) 3
  exact ⟨_, resE_tmp2 rfl, ⟨([]), 2, (.slice none 0 0), hr_, rfl, H⟩⟩
 replace hM := M.e_f hM c14z
 refine WD.of ?_
 refine W.skip ?_
 refine WD.seq ?_
 refine WD.of ?_
 refine W.region rfl ?_
 refine t_alloc (cs := [.slice none 0 0]) H Al22 rfl ?_
 intro b_5 w16z H
 refine s_nil ?_
 refine WD.seq ?_
 refine WD.seq ?_
 refine WD.of ?_
 refine W.region rfl ?_
 refine s_val (x_mv (v := .pointer (some ⟨nb0_2, 0, none⟩)) rfl) ?_
 refine s_val (x_nc (a := ⟨nb0_2, 0, none⟩) rfl) ?_
 refine s_val (x_fa (a := .pointer (some ⟨nb0_2, 0, none⟩)) (v := .pointer (some ⟨nb0_2, 0, none⟩)) rfl (fa_blk (o := 0) Fd111_0 Sz29)) ?_
 refine s_val (x_ld (p := .pointer (some ⟨nb0_2, 0, none⟩)) (v := .agg #[v_r__Down, v_r__Travel, v_r__Springs, v_r__Towns, I r04, I r05, v_r__Floods]) rfl (ldb_ag (ds := [v_r__Down, v_r__Travel, v_r__Springs, v_r__Towns, I r04, I r05, v_r__Floods]) Ag29 Sz29 (H.blk (k := 1) rfl) rfl rfl)) ?_
 refine s_val (x_mv (v := I station) rfl) ?_
 obtain ⟨r18z, hx17z, hM⟩ := M.e_bind hM
 refine s_call cf66 [.agg #[v_r__Down, v_r__Travel, v_r__Springs, v_r__Towns, I r04, I r05, v_r__Floods], I station] rfl (za2 r__Down r__Travel r__Springs r__Towns r04 r05 r__Floods station (hC_r__Down.app _) hs_r__Down (hC_r__Travel.app _) hs_r__Travel (hC_r__Springs.app _) hs_r__Springs (hC_r__Towns.app _) hs_r__Towns (hC_r__Floods.app _) hs_r__Floods hx17z _ (H.gt 5)) ?_
 rintro vq w19z ⟨r00, r14, r15, nb0_6, nb1_7, hr20z, hvq, H2_⟩
 subst hr20z
 subst vq
 try dsimp only at hM
 replace H := H.bk H2_
 clear H2_
 refine s_nil ?_
 replace H := H.pk [0, 1, 2, 6]
 refine WD.block ?_
 replace H := H.nilOwn (α := Int) 3
 obtain ⟨t21z, hx22z, hM⟩ := M.e_bind hM
 refine WD.range (L := [cOwn (α := Int) 3 (.slice none 0 0) ([]), cBlk b_5 [(.slice none 0 0)] 22, cBlk nb1_7 [v_r__Down, v_r__Travel, v_r__Springs, v_r__Towns, I r14, I r15, v_r__Floods] 29, cBlk nb0_6 [I r00] 3]) [.pointer (some ⟨nb0_6, 0, none⟩), .pointer (some ⟨nb1_7, 0, none⟩)] (H.pk [4, 0, 3, 2, 1]) rfl cf96 ?_
 intro l23z D24z r25z w26z hr27z H
 have hYC : YieldC Tryz.prog ([cMk (D24z :: ([])), cBlk nb1_7 [v_r__Down, v_r__Travel, v_r__Springs, v_r__Towns, I r14, I r15, v_r__Floods] 29] ++ R) arII (yJ l23z r25z (fun l Ls_ => ∃ (v_l : Value), Ls_ = [cOwn (α := Int) 3 v_l l, cBlk b_5 [v_l] 22]) (fun (_ : Unit) _ => False) (fun _ => .ret)) (.func (.yield l23z) #[] #[]) (M.yl zay) := by
  refine YieldC.mk hr27z (fun l Ls_ => ∃ (v_l : Value), Ls_ = [cOwn (α := Int) 3 v_l l, cBlk b_5 [v_l] 22]) (fun (_ : Unit) _ => False) (fun _ => .ret) zay (by rintro l _ h_; obtain ⟨_, rfl⟩ := h_; rfl) (fun _ _ h_ => h_.elim) rfl (arII_len rfl) ?_
  intro C_ vs_ x_ W_ hA_
  obtain ⟨x, x2⟩ := x_
  obtain rfl := hA_
  refine W.region rfl ?_
  refine s_val (x_as (v := I x2) rfl) ?_
  refine s_nil ?_
  refine ⟨rfl, rfl, ?_⟩
  intro w R hR_ Ls_ s_ r hY_ hM H
  skip
  obtain ⟨l, hs_eq_⟩ : ∃ y_, y_ = s_ := ⟨_, rfl⟩
  subst hs_eq_
  obtain ⟨v_l, rfl⟩ := hY_
  replace hC_r__Down := hC_r__Down.sub hR_
  replace hC_r__Travel := hC_r__Travel.sub hR_
  replace hC_r__Springs := hC_r__Springs.sub hR_
  replace hC_r__Towns := hC_r__Towns.sub hR_
  replace hC_r__Floods := hC_r__Floods.sub hR_
  replace hM : (zay l (x, x2)).Ends r := hM
  simp only [zay] at hM
  replace H := H.pk [0, 1, 3, 2]
  refine W.block ?_
  refine W.region rfl ?_
  refine s_val (x_ld (p := .pointer (some ⟨b_5, 0, none⟩)) (v := v_l) rfl (ldb_sc Sc22 (H.blk (k := 1) rfl) rfl)) ?_
  refine s_val (x_mv (v := I x2) rfl) ?_
  refine t_bs (α := Int) T22 [I x2] [(x2 : Int)] H rfl (.cons rfl (Flat.rep_enc _ (x2 : Int)) <| .nil) rfl rfl rfl ?_
  intro v28z w29z H
  obtain ⟨sd30z, hM⟩ := M.e_grd hM
  simp only [Bool.and_eq_true, decide_eq_true_eq] at sd30z
  refine t_app (α := Int) (k := 1) (l := l) (l2 := [(x2 : Int)]) (l' := l ++ ([(x2 : Int)])) (vy := v28z) T22 rfl H rfl rfl rfl (ownSl (H.get (k := 0) rfl)) (ownLe _ (H.get (k := 0) rfl)) (rfl) (by first | omega | (simp only [List.length_nil] at *; omega)) ?_
  intro v31z w32z H
  replace H := H.nf
  refine t_sw 2 0 [v31z] v31z H rfl rfl Sz22 (Sl.cells (ownSl (H.get (k := 1) rfl))) rfl rfl (by simp only [List.all_cons, List.all_nil, Bool.true_and, Bool.and_true, Sl.oc (ownSl (H.get (k := 1) rfl))]; try rfl) ?_
  intro w33z H
  refine s_nil ?_
  exact ⟨l ++ ([(x2 : Int)]), [cOwn (α := Int) 3 v31z (l ++ ([(x2 : Int)])), cBlk b_5 [v31z] 22], (M.e_pure hM).symm, ⟨v31z, rfl⟩, H.pick [1, 2, 4, 3] (by decide) rfl⟩
 replace H : St w w26z (cAll (cObj l23z (.loop r25z) :: [cOwn (α := Int) 3 (.slice none 0 0) ([]), cBlk b_5 [(.slice none 0 0)] 22]) :: [cBlk nb0_6 [I r00] 3, cMk (D24z :: ([])), cBlk nb1_7 [v_r__Down, v_r__Travel, v_r__Springs, v_r__Towns, I r14, I r15, v_r__Floods] 29]) R := St.bundleB (A := cObj l23z (.loop r25z) :: [cOwn (α := Int) 3 (.slice none 0 0) ([]), cBlk b_5 [(.slice none 0 0)] 22]) (T := [cBlk nb0_6 [I r00] 3, cMk (D24z :: ([])), cBlk nb1_7 [v_r__Down, v_r__Travel, v_r__Springs, v_r__Towns, I r14, I r15, v_r__Floods] 29]) rfl (H.pk [0, 2, 3, 5, 1, 4])
 refine (za3 (M.yl zay) (.inl ([])) r00 r__Down r__Travel r__Springs r__Towns r14 r15 r__Floods hYC ⟨_, rfl, ⟨(.slice none 0 0), rfl⟩⟩ (hC_r__Down.app _) hs_r__Down (hC_r__Travel.app _) hs_r__Travel (hC_r__Springs.app _) hs_r__Springs (hC_r__Towns.app _) hs_r__Towns (hC_r__Floods.app _) hs_r__Floods (Has.here (k := 1) rfl) hx22z _ (H.gt 2)).mono ?_
 rintro vq w34z ⟨t38z, q0, Ls36z, hq39z, hvq, H2_, hY37z⟩
 subst hq39z
 replace H := H.back H2_ rfl
 clear H2_ hYC
 rcases t38z with l | _
 ·try dsimp only at hM
  obtain ⟨_, rfl, v_l, rfl⟩ := hY37z
  refine ⟨_, [cOwn (α := Int) 3 v_l l, cBlk b_5 [v_l] 22, cBlk nb1_7 [v_r__Down, v_r__Travel, v_r__Springs, v_r__Towns, I r14, I r15, v_r__Floods] 29, cBlk nb0_6 [I q0] 3], H.unbundle.pick [0, 4, 1, 2, 5, 3] (by decide) rfl, hr27z.nb, ?_⟩
  intro w35z H
  rw [hr27z.pd]
  replace H := H.nf
  try simp only []
  replace H := H.pk [0, 1, 2]
  refine WD.seq ?_
  refine WD.of ?_
  refine W.region rfl ?_
  refine s_val (x_ld (p := .pointer (some ⟨b_5, 0, none⟩)) (v := v_l) rfl (ldb_sc Sc22 (H.blk (k := 2) rfl) rfl)) ?_
  refine s_val (x_as (v := v_l) rfl) ?_
  refine s_val (x_as (v := I 0) rfl) ?_
  refine s_nil ?_
  refine WD.of ?_
  refine W.ret ?_
  refine bodyD_r (H.pk [0, 1, 2]) ?_
  intro w40z H
  replace H := H.nf
  have hr_ := M.e_pure hM
  exact ⟨_, resE_tmp2 rfl, ⟨l, 0, v_l, hr_, rfl, (H.pk [0])⟩⟩
 obtain ⟨_, _, h_⟩ := hY37z; exact h_.elim

def zaQ (r__Down : List Int) (r__Travel : List Span) (r__Springs : List Int) (r__Towns : List Town) (r__Delay_Lo : Int) (r__Delay_Hi : Int) (r__Floods : List Flood) (station : Int) : M ((List Int) × Int) :=
  M.bind (zaH r__Down r__Travel r__Springs r__Towns r__Delay_Lo r__Delay_Hi r__Floods) fun r2 =>
  bif r2 != 0 then (
  M.pure (([]), r2))
  else (
  M.bind (zab station 0 ((r__Down.length : Int) - 1)) fun r3 =>
  bif r3 then (
  M.pure (([]), 2))
  else (
  M.bind (zbc r__Down r__Travel r__Springs r__Towns r__Delay_Lo r__Delay_Hi r__Floods station) fun r4 =>
  M.pure (r4, 0)))
theorem zdh {R : List Chunk} {C_r__Down : Cells} {v_r__Down : Value} {C_r__Travel : Cells} {v_r__Travel : Value} {C_r__Springs : Cells} {v_r__Springs : Value} {C_r__Towns : Cells} {v_r__Towns : Value} {C_r__Floods : Cells} {v_r__Floods : Value} (r__Down : List Int) (r__Travel : List Span) (r__Springs : List Int) (r__Towns : List Town) (r__Delay_Lo : Int) (r__Delay_Hi : Int) (r__Floods : List Flood) (station : Int) (hC_r__Down : Reads R C_r__Down) (hs_r__Down : Sl C_r__Down v_r__Down r__Down) (hC_r__Travel : Reads R C_r__Travel) (hs_r__Travel : Sl C_r__Travel v_r__Travel r__Travel) (hC_r__Springs : Reads R C_r__Springs) (hs_r__Springs : Sl C_r__Springs v_r__Springs r__Springs) (hC_r__Towns : Reads R C_r__Towns) (hs_r__Towns : Sl C_r__Towns v_r__Towns r__Towns) (hC_r__Floods : Reads R C_r__Floods) (hs_r__Floods : Sl C_r__Floods v_r__Floods r__Floods) {r : ((List Int) × Int)} (hM : (zaQ r__Down r__Travel r__Springs r__Towns r__Delay_Lo r__Delay_Hi r__Floods station).Ends r) (w : World) (H : St w w [] R) : Ret Tryz.prog 22 #[.agg #[v_r__Down, v_r__Travel, v_r__Springs, v_r__Towns, I r__Delay_Lo, I r__Delay_Hi, v_r__Floods], I station] w fun v w' => ∃ (y0 : List Int) (y1 : Int) (u0 : Value), (y0, y1) = r /\ v = .tuple #[u0, I y1] /\ St w w' [cOwn (α := Int) 3 u0 y0] R := by
 refine ret_of_W Tryz.func22 rfl rfl rfl ?_
 refine W.seq ?_
 refine W.region rfl ?_
 refine t_box (v := .agg #[v_r__Down, v_r__Travel, v_r__Springs, v_r__Towns, I r__Delay_Lo, I r__Delay_Hi, v_r__Floods]) (cs := [v_r__Down, v_r__Travel, v_r__Springs, v_r__Towns, I r__Delay_Lo, I r__Delay_Hi, v_r__Floods]) H rfl rfl ?_
 intro b_1 w1z H
 refine s_val (x_as (v := .slice none 0 0) rfl) ?_
 refine s_val (x_as (v := I 0) rfl) ?_
 refine s_nil ?_
 refine W.seq ?_
 refine W.seq ?_
 refine W.region rfl ?_
 refine s_val (x_ld (p := .pointer (some ⟨b_1, 0, none⟩)) (v := .agg #[v_r__Down, v_r__Travel, v_r__Springs, v_r__Towns, I r__Delay_Lo, I r__Delay_Hi, v_r__Floods]) rfl (ldb_ag (ds := [v_r__Down, v_r__Travel, v_r__Springs, v_r__Towns, I r__Delay_Lo, I r__Delay_Hi, v_r__Floods]) Ag37 Sz37 (H.blk (k := 0) rfl) rfl rfl)) ?_
 obtain ⟨r3z, hx2z, hM⟩ := M.e_bind hM
 refine s_call cf20 [.agg #[v_r__Down, v_r__Travel, v_r__Springs, v_r__Towns, I r__Delay_Lo, I r__Delay_Hi, v_r__Floods]] rfl (zbK r__Down r__Travel r__Springs r__Towns r__Delay_Lo r__Delay_Hi r__Floods (hC_r__Down.app _) hs_r__Down (hC_r__Travel.app _) hs_r__Travel (hC_r__Springs.app _) hs_r__Springs (hC_r__Towns.app _) hs_r__Towns (hC_r__Floods.app _) hs_r__Floods hx2z _ (H.gt 1)) ?_
 rintro vq w4z ⟨r2, hr5z, hvq, H2_⟩
 subst hr5z
 subst vq
 try dsimp only at hM
 replace H := H.bk H2_
 clear H2_
 refine s_val (x_as (v := I r2) rfl) ?_
 refine s_nil ?_
 refine W.seq ?_
 refine W.region rfl ?_
 refine s_val (x_mv (v := I r2) rfl) ?_
 refine s_val (x_cmp (kd := .i64) (a := r2) (b := 0) (r := r2 != 0) rfl rfl rfl) ?_
 refine s_nil ?_
 refine W.cond (r2 != 0) rfl (fun c6z => ?_) (fun c6z => ?_)
 ·replace hM := M.e_t hM c6z
  simp only [decide_eq_true_eq, decide_eq_false_iff_not, beq_iff_eq, bne_iff_ne, beq_eq_false_iff_ne, bne_eq_false_iff_eq, ne_eq, Decidable.not_not] at c6z
  refine W.seq ?_
  refine W.region rfl ?_
  refine s_val (x_mv (v := I r2) rfl) ?_
  refine s_val (x_as (v := .slice none 0 0) rfl) ?_
  refine s_val (x_as (v := I r2) rfl) ?_
  refine s_nil ?_
  refine W.ret ?_
  have hr_ := M.e_pure hM
  replace H := H.nilOwn (α := Int) 3
  exact ⟨_, resE_tmp2 rfl, ⟨([]), r2, (.slice none 0 0), hr_, rfl, (H.pk [0])⟩⟩
 replace hM := M.e_f hM c6z
 simp only [decide_eq_true_eq, decide_eq_false_iff_not, beq_iff_eq, bne_iff_ne, beq_eq_false_iff_ne, bne_eq_false_iff_eq, ne_eq, Decidable.not_not] at c6z
 refine W.skip ?_
 refine W.seq ?_
 refine W.seq ?_
 refine W.region rfl ?_
 refine s_val (x_mv (v := I station) rfl) ?_
 refine s_val (x_fa (a := .pointer (some ⟨b_1, 0, none⟩)) (v := .pointer (some ⟨b_1, 0, none⟩)) rfl (fa_blk (o := 0) Fd37_0 Sz22)) ?_
 refine s_val (x_ld (p := .pointer (some ⟨b_1, 0, none⟩)) (v := v_r__Down) rfl (ldb_sc Sc22 (H.blk (k := 0) rfl) rfl)) ?_
 have hl7z := (hs_r__Down).len_le
 refine s_val (x_lenS T22.und rfl hs_r__Down) ?_
 refine s_val (x_ari (a := (r__Down.length : Int)) (b := 1) (r := (r__Down.length : Int) - 1) rfl rfl rfl (by omega)) ?_
 obtain ⟨r9z, hx8z, hM⟩ := M.e_bind hM
 refine s_call cf49 [I station, I 0, I ((r__Down.length : Int) - 1)] rfl (zaf station 0 ((r__Down.length : Int) - 1) hx8z _ (H.gt 1)) ?_
 rintro vq w10z ⟨r3, hr11z, hvq, H2_⟩
 subst hr11z
 subst vq
 try dsimp only at hM
 replace H := H.bk H2_
 clear H2_
 refine s_nil ?_
 refine W.cond r3 rfl (fun c12z => ?_) (fun c12z => ?_)
 ·replace hM := M.e_t hM c12z
  refine W.seq ?_
  refine W.region rfl ?_
  refine s_val (x_as (v := .slice none 0 0) rfl) ?_
  refine s_val (x_as (v := I 2) rfl) ?_
  refine s_nil ?_
  refine W.ret ?_
  have hr_ := M.e_pure hM
  replace H := H.nilOwn (α := Int) 3
  exact ⟨_, resE_tmp2 rfl, ⟨([]), 2, (.slice none 0 0), hr_, rfl, (H.pk [0])⟩⟩
 replace hM := M.e_f hM c12z
 refine W.skip ?_
 refine W.seq ?_
 refine W.region rfl ?_
 refine s_val (x_ld (p := .pointer (some ⟨b_1, 0, none⟩)) (v := .agg #[v_r__Down, v_r__Travel, v_r__Springs, v_r__Towns, I r__Delay_Lo, I r__Delay_Hi, v_r__Floods]) rfl (ldb_ag (ds := [v_r__Down, v_r__Travel, v_r__Springs, v_r__Towns, I r__Delay_Lo, I r__Delay_Hi, v_r__Floods]) Ag37 Sz37 (H.blk (k := 0) rfl) rfl rfl)) ?_
 refine s_val (x_mv (v := I station) rfl) ?_
 obtain ⟨r14z, hx13z, hM⟩ := M.e_bind hM
 refine s_call cf71 [.agg #[v_r__Down, v_r__Travel, v_r__Springs, v_r__Towns, I r__Delay_Lo, I r__Delay_Hi, v_r__Floods], I station] rfl (zcZ r__Down r__Travel r__Springs r__Towns r__Delay_Lo r__Delay_Hi r__Floods station (hC_r__Down.app _) hs_r__Down (hC_r__Travel.app _) hs_r__Travel (hC_r__Springs.app _) hs_r__Springs (hC_r__Towns.app _) hs_r__Towns (hC_r__Floods.app _) hs_r__Floods hx13z _ (H.gt 1)) ?_
 rintro vq w15z ⟨r4, u0_2, hr16z, hvq, H2_⟩
 subst hr16z
 subst vq
 try dsimp only at hM
 replace H := H.bk H2_
 clear H2_
 refine s_val (x_as (v := u0_2) rfl) ?_
 refine s_val (x_as (v := I 0) rfl) ?_
 refine s_nil ?_
 refine W.ret ?_
 have hr_ := M.e_pure hM
 exact ⟨_, resE_tmp2 rfl, ⟨r4, 0, u0_2, hr_, rfl, (H.pk [0])⟩⟩

def zaM (r__Down : List Int) (r__Travel : List Span) (r__Springs : List Int) (r__Towns : List Town) (r__Delay_Lo : Int) (r__Delay_Hi : Int) (r__Floods : List Flood) (from_ : Int) (to_ : Int) : M (Int × Int × Int) :=
  M.bind (zal r__Down r__Travel r__Springs r__Towns r__Delay_Lo r__Delay_Hi r__Floods) fun x_ => match x_ with
  | (.inl r1) => (
  bif r1 != 0 then (
  M.pure (0, 0, r1))
  else (
  M.fail))
  | (.inr (r04, r05, r12)) => (
  bif r12 != 0 then (
  M.fail)
  else (
  M.bind (zao r__Down r__Travel r__Springs r__Towns r04 r05 r__Floods from_) fun r2 =>
  M.bind (M.opt (!(!r2)) (zao r__Down r__Travel r__Springs r__Towns r04 r05 r__Floods to_) false) fun r3 =>
  bif ((!r2) || (!r3)) then (
  M.pure (0, 0, 2))
  else (
  M.bind (zat r__Down r__Travel r__Springs r__Towns r04 r05 r__Floods from_ to_) fun (r00, r01, r13) =>
  bif !r13 then (
  M.pure (0, 0, 5))
  else (
  M.pure (r00, r01, 0)))))
theorem zdj {R : List Chunk} {C_r__Down : Cells} {v_r__Down : Value} {C_r__Travel : Cells} {v_r__Travel : Value} {C_r__Springs : Cells} {v_r__Springs : Value} {C_r__Towns : Cells} {v_r__Towns : Value} {C_r__Floods : Cells} {v_r__Floods : Value} (r__Down : List Int) (r__Travel : List Span) (r__Springs : List Int) (r__Towns : List Town) (r__Delay_Lo : Int) (r__Delay_Hi : Int) (r__Floods : List Flood) (from_ : Int) (to_ : Int) (hC_r__Down : Reads R C_r__Down) (hs_r__Down : Sl C_r__Down v_r__Down r__Down) (hC_r__Travel : Reads R C_r__Travel) (hs_r__Travel : Sl C_r__Travel v_r__Travel r__Travel) (hC_r__Springs : Reads R C_r__Springs) (hs_r__Springs : Sl C_r__Springs v_r__Springs r__Springs) (hC_r__Towns : Reads R C_r__Towns) (hs_r__Towns : Sl C_r__Towns v_r__Towns r__Towns) (hC_r__Floods : Reads R C_r__Floods) (hs_r__Floods : Sl C_r__Floods v_r__Floods r__Floods) {r : (Int × Int × Int)} (hM : (zaM r__Down r__Travel r__Springs r__Towns r__Delay_Lo r__Delay_Hi r__Floods from_ to_).Ends r) (w : World) (H : St w w [] R) : Ret Tryz.prog 23 #[.agg #[v_r__Down, v_r__Travel, v_r__Springs, v_r__Towns, I r__Delay_Lo, I r__Delay_Hi, v_r__Floods], I from_, I to_] w fun v w' => ∃ (y0 : Int) (y1 : Int) (y2 : Int), (y0, y1, y2) = r /\ v = .tuple #[.agg #[I y0, I y1], I y2] /\ St w w' [] R := by
 refine ret_of_W Tryz.func23 rfl rfl rfl ?_
 refine W.seq ?_
 refine W.region rfl ?_
 refine t_box (v := .agg #[v_r__Down, v_r__Travel, v_r__Springs, v_r__Towns, I r__Delay_Lo, I r__Delay_Hi, v_r__Floods]) (cs := [v_r__Down, v_r__Travel, v_r__Springs, v_r__Towns, I r__Delay_Lo, I r__Delay_Hi, v_r__Floods]) H rfl rfl ?_
 intro b_1 w1z H
 refine t_alloc (cs := [I 0, I 0]) H Al26 rfl ?_
 intro b_2 w2z H
 refine s_val (x_as (v := I 0) rfl) ?_
 refine s_nil ?_
 refine W.seq ?_
 refine W.region rfl ?_
 refine s_val (x_ld (p := .pointer (some ⟨b_1, 0, none⟩)) (v := .agg #[v_r__Down, v_r__Travel, v_r__Springs, v_r__Towns, I r__Delay_Lo, I r__Delay_Hi, v_r__Floods]) rfl (ldb_ag (ds := [v_r__Down, v_r__Travel, v_r__Springs, v_r__Towns, I r__Delay_Lo, I r__Delay_Hi, v_r__Floods]) Ag29 Sz29 (H.blk (k := 1) rfl) rfl rfl)) ?_
 obtain ⟨r4z, hx3z, hM⟩ := M.e_bind hM
 refine s_call cf72 [.agg #[v_r__Down, v_r__Travel, v_r__Springs, v_r__Towns, I r__Delay_Lo, I r__Delay_Hi, v_r__Floods]] rfl (zaS r__Down r__Travel r__Springs r__Towns r__Delay_Lo r__Delay_Hi r__Floods (hC_r__Down.app _) hs_r__Down (hC_r__Travel.app _) hs_r__Travel (hC_r__Springs.app _) hs_r__Springs (hC_r__Towns.app _) hs_r__Towns (hC_r__Floods.app _) hs_r__Floods hx3z _ (H.gt 2)) ?_
 rintro vq w5z (⟨r1, hr6z, hvq, H2_⟩ | ⟨r04, r05, r12, nb0_3, nb1_4, Bs2_5, hr7z, hvq, H2_⟩)
 ·subst hr6z
  subst vq
  try dsimp only at hM
  replace H := H.bk H2_
  clear H2_
  refine s_val (x_mv (v := .tuple #[.pointer none, I r1]) rfl) ?_
  refine s_val (x_ext (vs := [.pointer none, I r1]) (v := .pointer none) rfl rfl) ?_
  refine s_val (x_ext (vs := [.pointer none, I r1]) (v := I r1) rfl rfl) ?_
  refine s_val (x_as (v := .pointer none) rfl) ?_
  refine s_val (x_as (v := I r1) rfl) ?_
  refine s_nil ?_
  refine W.seq ?_
  refine W.block ?_
  refine W.seq ?_
  refine W.region rfl ?_
  refine s_val (x_mv (v := I r1) rfl) ?_
  refine s_val (x_cmp (kd := .i64) (a := r1) (b := 0) (r := r1 != 0) rfl rfl rfl) ?_
  refine s_val (x_as (v := B (r1 != 0)) rfl) ?_
  refine s_nil ?_
  refine W.cond (r1 != 0) rfl (fun c8z => ?_) (fun c8z => ?_)
  ·replace hM := M.e_t hM c8z
   simp only [decide_eq_true_eq, decide_eq_false_iff_not, beq_iff_eq, bne_iff_ne, beq_eq_false_iff_ne, bne_eq_false_iff_eq, ne_eq, Decidable.not_not] at c8z
   refine W.seq ?_
   refine W.region rfl ?_
   refine s_val (x_bld (ps := []) (zs := [I 0, I 0]) (L' := [I 0, I 0]) rfl Tryz.underlying26 Al26 rfl (Bd26 Tryz.underlying26) (.nil)) ?_
   refine s_val (x_mv (v := I r1) rfl) ?_
   refine t_sw 0 0 [I 0, I 0] (.agg #[I 0, I 0]) H rfl rfl Sz26 rfl rfl rfl rfl ?_
   intro w9z H
   refine s_val (x_as (v := I r1) rfl) ?_
   refine s_nil ?_
   refine W.ret ?_
   have hb10z := (H.blk (k := 0) rfl)
   have hr_ := M.e_pure hM
   exact ⟨_, (resE_ofn (vs := [.agg #[I 0, I 0], I r1]) rfl rfl (.cell (v := .agg #[I 0, I 0]) rfl (run_loadVar_ag (ds := [I 0, I 0]) Ag26 Sz26 hb10z rfl rfl) <| .tmp (v := I r1) rfl <| .nil)), ⟨0, 0, r1, hr_, rfl, (H.pk [])⟩⟩
  replace hM := M.e_f hM c8z
  exact (M.e_fail hM).elim
 subst hr7z
 subst vq
 try dsimp only at hM
 replace H := H.bk H2_
 clear H2_
 refine s_val (x_mv (v := .tuple #[.pointer (some ⟨nb0_3, 0, none⟩), I r12]) rfl) ?_
 refine s_val (x_ext (vs := [.pointer (some ⟨nb0_3, 0, none⟩), I r12]) (v := .pointer (some ⟨nb0_3, 0, none⟩)) rfl rfl) ?_
 refine s_val (x_ext (vs := [.pointer (some ⟨nb0_3, 0, none⟩), I r12]) (v := I r12) rfl rfl) ?_
 refine s_val (x_as (v := .pointer (some ⟨nb0_3, 0, none⟩)) rfl) ?_
 refine s_val (x_as (v := I r12) rfl) ?_
 refine s_nil ?_
 refine W.seq ?_
 refine W.block ?_
 refine W.seq ?_
 refine W.region rfl ?_
 refine s_val (x_mv (v := I r12) rfl) ?_
 refine s_val (x_cmp (kd := .i64) (a := r12) (b := 0) (r := r12 != 0) rfl rfl rfl) ?_
 refine s_val (x_as (v := B (r12 != 0)) rfl) ?_
 refine s_nil ?_
 refine W.cond (r12 != 0) rfl (fun c11z => ?_) (fun c11z => ?_)
 ·replace hM := M.e_t hM c11z
  exact (M.e_fail hM).elim
 replace hM := M.e_f hM c11z
 simp only [decide_eq_true_eq, decide_eq_false_iff_not, beq_iff_eq, bne_iff_ne, beq_eq_false_iff_ne, bne_eq_false_iff_eq, ne_eq, Decidable.not_not] at c11z
 refine W.seq ?_
 refine W.region rfl ?_
 refine s_val (x_mv (v := .pointer (some ⟨nb0_3, 0, none⟩)) rfl) ?_
 refine s_val (x_mv (v := I from_) rfl) ?_
 obtain ⟨r13z, hx12z, hM⟩ := M.e_bind hM
 refine s_call cf73 [.pointer (some ⟨nb0_3, 0, none⟩), I from_] rfl (zbv r__Down r__Travel r__Springs r__Towns r04 r05 r__Floods from_ (hC_r__Down.app _) hs_r__Down (hC_r__Travel.app _) hs_r__Travel (hC_r__Springs.app _) hs_r__Springs (hC_r__Towns.app _) hs_r__Towns (hC_r__Floods.app _) hs_r__Floods (Has.here (k := 0) rfl) hx12z _ (H.gt 4)) ?_
 rintro vq w14z ⟨r2, hr15z, hvq, H2_⟩
 subst hr15z
 subst vq
 try dsimp only at hM
 replace H := H.bk H2_
 clear H2_
 refine s_val (x_not (b := r2) rfl) ?_
 refine s_val (x_mv (v := B (!r2)) rfl) ?_
 refine g_val (!(!r2)) (gy_f rfl) (fun hg => x_mv (v := .pointer (some ⟨nb0_3, 0, none⟩)) rfl) ?_
 refine g_val (!(!r2)) (gy_f rfl) (fun hg => x_mv (v := I to_) rfl) ?_
 obtain ⟨r3, hx16z, hM⟩ := M.e_bind hM
 refine t_gcall (!(!r2)) (gy_f rfl) cf73 (B r3) (fun _ => [.pointer (some ⟨nb0_3, 0, none⟩), I to_]) (fun hg => lst2 (gd_of (c := !(!r2)) hg (.pointer (some ⟨nb0_3, 0, none⟩))) (gd_of (c := !(!r2)) hg (I to_))) H (fun hg => (zbv r__Down r__Travel r__Springs r__Towns r04 r05 r__Floods to_ (hC_r__Down.app _) hs_r__Down (hC_r__Travel.app _) hs_r__Travel (hC_r__Springs.app _) hs_r__Springs (hC_r__Towns.app _) hs_r__Towns (hC_r__Floods.app _) hs_r__Floods (Has.here (k := 0) rfl) (M.e_opt hx16z hg) _ (H.give (A := []) rfl)).mono fun v_ w_ ⟨y_, hr_, hv_, H_⟩ => by subst hr_; exact ⟨hv_, H.via H_⟩) ?_
 intro w17z H
 refine g_val (!(!r2)) (gy_f rfl) (fun hg => x_not (b := r3) (gd_of (c := !(!r2)) hg (B r3))) ?_
 refine s_val (x_por (b := !r2) (r := !r3) rfl rfl (fun hb => gd_of (c := !(!r2)) (by first | exact hb | (rw [hb]; rfl) | simp_all) (B (!r3)))) ?_
 refine s_val (x_as (v := B ((!r2) || (!r3))) rfl) ?_
 refine s_nil ?_
 refine W.cond ((!r2) || (!r3)) rfl (fun c18z => ?_) (fun c18z => ?_)
 ·replace hM := M.e_t hM c18z
  refine W.seq ?_
  refine W.region rfl ?_
  refine s_val (x_bld (ps := []) (zs := [I 0, I 0]) (L' := [I 0, I 0]) rfl Tryz.underlying26 Al26 rfl (Bd26 Tryz.underlying26) (.nil)) ?_
  refine t_sw 2 0 [I 0, I 0] (.agg #[I 0, I 0]) H rfl rfl Sz26 rfl rfl rfl rfl ?_
  intro w19z H
  refine s_val (x_as (v := I 2) rfl) ?_
  refine s_nil ?_
  replace H := H.pk [2]
  refine W.ret ?_
  have hb20z := (H.blk (k := 0) rfl)
  have hr_ := M.e_pure hM
  exact ⟨_, (resE_ofn (vs := [.agg #[I 0, I 0], I 2]) rfl rfl (.cell (v := .agg #[I 0, I 0]) rfl (run_loadVar_ag (ds := [I 0, I 0]) Ag26 Sz26 hb20z rfl rfl) <| .tmp (v := I 2) rfl <| .nil)), ⟨0, 0, 2, hr_, rfl, (H.pk [])⟩⟩
 replace hM := M.e_f hM c18z
 refine W.skip ?_
 refine W.seq ?_
 refine W.region rfl ?_
 refine s_val (x_mv (v := .pointer (some ⟨nb0_3, 0, none⟩)) rfl) ?_
 refine s_val (x_mv (v := I from_) rfl) ?_
 refine s_val (x_mv (v := I to_) rfl) ?_
 obtain ⟨r22z, hx21z, hM⟩ := M.e_bind hM
 refine s_call cf74 [.pointer (some ⟨nb0_3, 0, none⟩), I from_, I to_] rfl (zbB r__Down r__Travel r__Springs r__Towns r04 r05 r__Floods from_ to_ (hC_r__Down.app _) hs_r__Down (hC_r__Travel.app _) hs_r__Travel (hC_r__Springs.app _) hs_r__Springs (hC_r__Towns.app _) hs_r__Towns (hC_r__Floods.app _) hs_r__Floods (Has.here (k := 0) rfl) hx21z _ (H.gt 4)) ?_
 rintro vq w23z ⟨r00, r01, r13, hr24z, hvq, H2_⟩
 subst hr24z
 subst vq
 try dsimp only at hM
 replace H := H.bk H2_
 clear H2_
 refine s_val (x_mv (v := .tuple #[.agg #[I r00, I r01], B r13]) rfl) ?_
 refine s_val (x_ext (vs := [.agg #[I r00, I r01], B r13]) (v := .agg #[I r00, I r01]) rfl rfl) ?_
 refine s_val (x_ext (vs := [.agg #[I r00, I r01], B r13]) (v := B r13) rfl rfl) ?_
 refine t_alloc (cs := [I 0, I 0]) H Al26 rfl ?_
 intro b_6 w25z H
 refine t_sw 0 0 [I r00, I r01] (.agg #[I r00, I r01]) H rfl rfl Sz26 rfl rfl rfl rfl ?_
 intro w26z H
 refine s_val (x_as (v := B r13) rfl) ?_
 refine s_nil ?_
 replace H := H.pk [0, 3]
 refine W.seq ?_
 refine W.seq ?_
 refine W.region rfl ?_
 refine s_val (x_mv (v := B r13) rfl) ?_
 refine s_val (x_not (b := r13) rfl) ?_
 refine s_nil ?_
 refine W.cond (!r13) rfl (fun c27z => ?_) (fun c27z => ?_)
 ·replace hM := M.e_t hM c27z
  refine W.seq ?_
  refine W.region rfl ?_
  refine s_val (x_bld (ps := []) (zs := [I 0, I 0]) (L' := [I 0, I 0]) rfl Tryz.underlying26 Al26 rfl (Bd26 Tryz.underlying26) (.nil)) ?_
  refine t_sw 1 0 [I 0, I 0] (.agg #[I 0, I 0]) H rfl rfl Sz26 rfl rfl rfl rfl ?_
  intro w28z H
  refine s_val (x_as (v := I 5) rfl) ?_
  refine s_nil ?_
  refine W.ret ?_
  have hb29z := (H.blk (k := 1) rfl)
  have hr_ := M.e_pure hM
  exact ⟨_, (resE_ofn (vs := [.agg #[I 0, I 0], I 5]) rfl rfl (.cell (v := .agg #[I 0, I 0]) rfl (run_loadVar_ag (ds := [I 0, I 0]) Ag26 Sz26 hb29z rfl rfl) <| .tmp (v := I 5) rfl <| .nil)), ⟨0, 0, 5, hr_, rfl, (H.pk [])⟩⟩
 replace hM := M.e_f hM c27z
 refine W.skip ?_
 refine W.seq ?_
 refine W.region rfl ?_
 refine s_val (x_ld (p := .pointer (some ⟨b_6, 0, none⟩)) (v := .agg #[I r00, I r01]) rfl (ldb_ag (ds := [I r00, I r01]) Ag26 Sz26 (H.blk (k := 0) rfl) rfl rfl)) ?_
 refine t_sw 1 0 [I r00, I r01] (.agg #[I r00, I r01]) H rfl rfl Sz26 rfl rfl rfl rfl ?_
 intro w30z H
 refine s_val (x_as (v := I 0) rfl) ?_
 refine s_nil ?_
 refine W.ret ?_
 have hb31z := (H.blk (k := 1) rfl)
 have hr_ := M.e_pure hM
 exact ⟨_, (resE_ofn (vs := [.agg #[I r00, I r01], I 0]) rfl rfl (.cell (v := .agg #[I r00, I r01]) rfl (run_loadVar_ag (ds := [I r00, I r01]) Ag26 Sz26 hb31z rfl rfl) <| .tmp (v := I 0) rfl <| .nil)), ⟨r00, r01, 0, hr_, rfl, (H.pk [])⟩⟩

def zbH (r__Down : List Int) (r__Travel : List Span) (to_ : Int) : (Int × Int × Int) -> M ((Int × Int × Int) ⊕ ((Int × Int) ⊕ (Int × Int))) := fun (s, s2, s3) =>
  bif s != to_ then (
  M.grd (decide ((0 : Int) <= s) && decide (s < (r__Travel.length : Int))) <|
  M.grd (decide ((-9223372036854775808 : Int) <= (s2 + ((r__Travel.getD (Int.toNat s) default).lo))) && decide ((s2 + ((r__Travel.getD (Int.toNat s) default).lo)) <= (9223372036854775807 : Int))) <|
  M.grd (decide ((-9223372036854775808 : Int) <= (s3 + ((r__Travel.getD (Int.toNat s) default).hi))) && decide ((s3 + ((r__Travel.getD (Int.toNat s) default).hi)) <= (9223372036854775807 : Int))) <|
  M.grd (decide ((0 : Int) <= s) && decide (s < (r__Down.length : Int))) <|
  bif (r__Down.getD (Int.toNat s) 0) == (-1) then (
  M.pure (.inr (.inl (s2 + ((r__Travel.getD (Int.toNat s) default).lo), s3 + ((r__Travel.getD (Int.toNat s) default).hi)))))
  else (
  M.pure (.inl (r__Down.getD (Int.toNat s) 0, s2 + ((r__Travel.getD (Int.toNat s) default).lo), s3 + ((r__Travel.getD (Int.toNat s) default).hi)))))
  else (
  M.pure (.inr (.inr (s2, s3))))
def zbf (r__Down : List Int) (r__Travel : List Span) (r__Springs : List Int) (r__Towns : List Town) (r__Delay_Lo : Int) (r__Delay_Hi : Int) (r__Floods : List Flood) (from_ : Int) (to_ : Int) : M (Int × Int × Bool) :=
  M.bind (M.iter (zbH r__Down r__Travel to_) (from_, 0, 0)) fun x_ => match x_ with
  | (.inl (s4, s5)) => (
  M.pure (0, 0, false))
  | (.inr (s6, s7)) => (
  M.pure (s6, s7, true))
theorem zbX {R : List Chunk} {C_r__Down : Cells} {v_r__Down : Value} {C_r__Travel : Cells} {v_r__Travel : Value} {C_r__Springs : Cells} {v_r__Springs : Value} {C_r__Towns : Cells} {v_r__Towns : Value} {C_r__Floods : Cells} {v_r__Floods : Value} (r__Down : List Int) (r__Travel : List Span) (r__Springs : List Int) (r__Towns : List Town) (r__Delay_Lo : Int) (r__Delay_Hi : Int) (r__Floods : List Flood) (from_ : Int) (to_ : Int) (hC_r__Down : Reads R C_r__Down) (hs_r__Down : Sl C_r__Down v_r__Down r__Down) (hC_r__Travel : Reads R C_r__Travel) (hs_r__Travel : Sl C_r__Travel v_r__Travel r__Travel) (hC_r__Springs : Reads R C_r__Springs) (hs_r__Springs : Sl C_r__Springs v_r__Springs r__Springs) (hC_r__Towns : Reads R C_r__Towns) (hs_r__Towns : Sl C_r__Towns v_r__Towns r__Towns) (hC_r__Floods : Reads R C_r__Floods) (hs_r__Floods : Sl C_r__Floods v_r__Floods r__Floods) {r : (Int × Int × Bool)} (hM : (zbf r__Down r__Travel r__Springs r__Towns r__Delay_Lo r__Delay_Hi r__Floods from_ to_).Ends r) (w : World) (H : St w w [] R) : Ret Tryz.prog 75 #[.agg #[v_r__Down, v_r__Travel, v_r__Springs, v_r__Towns, I r__Delay_Lo, I r__Delay_Hi, v_r__Floods], I from_, I to_] w fun v w' => ∃ (y0 : Int) (y1 : Int) (y2 : Bool), (y0, y1, y2) = r /\ v = .tuple #[.agg #[I y0, I y1], B y2] /\ St w w' [] R := by
 refine ret_of_W Tryz.func75 rfl rfl rfl ?_
 refine W.seq ?_
 refine W.region rfl ?_
 refine t_box (v := .agg #[v_r__Down, v_r__Travel, v_r__Springs, v_r__Towns, I r__Delay_Lo, I r__Delay_Hi, v_r__Floods]) (cs := [v_r__Down, v_r__Travel, v_r__Springs, v_r__Towns, I r__Delay_Lo, I r__Delay_Hi, v_r__Floods]) H rfl rfl ?_
 intro b_1 w1z H
 refine t_alloc (cs := [I 0, I 0]) H Al26 rfl ?_
 intro b_2 w2z H
 refine s_val (x_as (v := B false) rfl) ?_
 refine s_nil ?_
 refine W.seq ?_
 refine W.region rfl ?_
 refine t_alloc (cs := [I 0, I 0]) H Al26 rfl ?_
 intro b_3 w3z H
 refine s_nil ?_
 refine W.seq ?_
 refine W.block ?_
 obtain ⟨ex4z, hi5z, hk6z⟩ := M.e_bind hM
 obtain ⟨m0_, hi5z⟩ := M.e_iter hi5z
 refine W.loop (fun m σ W => ∃ (s : Int) (s2 : Int) (s3 : Int) (ρ : Env), σ = upds ρ [(1, I s), (2, I to_), (3, .pointer (some ⟨b_1, 0, none⟩)), (6, .pointer (some ⟨b_2, 0, none⟩)), (8, .pointer (some ⟨b_3, 0, none⟩))] /\ M.iterN (zbH r__Down r__Travel to_) m (s, s2, s3) = some ex4z /\ St w W [cBlk b_3 [I s2, I s3] 26, cBlk b_2 [I 0, I 0] 26, cBlk b_1 [v_r__Down, v_r__Travel, v_r__Springs, v_r__Towns, I r__Delay_Lo, I r__Delay_Hi, v_r__Floods] 37] R) ?_ ?_
 ·exact ⟨_, from_, 0, 0, _, upds_of _ _ ⟨rfl, rfl, rfl, rfl, rfl, trivial⟩, hi5z, H⟩
 rintro m9z σ w7z ⟨s, s2, s3, ρ, rfl, hI8z, H⟩
 obtain ⟨m10z, lt11z, x12z, hM, hN13z⟩ := M.e_iterN hI8z
 simp only [zbH] at hM
 clear hI8z
 refine W.seq ?_
 refine W.seq ?_
 refine W.region rfl ?_
 refine s_val (x_mv (v := I s) rfl) ?_
 refine s_val (x_mv (v := I to_) rfl) ?_
 refine s_val (x_cmp (kd := .i64) (a := s) (b := to_) (r := s != to_) rfl rfl rfl) ?_
 refine s_nil ?_
 refine W.cond (s != to_) rfl (fun c14z => ?_) (fun c14z => ?_)
 ·replace hM := M.e_t hM c14z
  simp only [decide_eq_true_eq, decide_eq_false_iff_not, beq_iff_eq, bne_iff_ne, beq_eq_false_iff_ne, bne_eq_false_iff_eq, ne_eq, Decidable.not_not] at c14z
  refine W.skip ?_
  refine W.block ?_
  refine W.seq ?_
  refine W.drawT (fun W => St w W [cBlk b_2 [I 0, I 0] 26, cBlk b_1 [v_r__Down, v_r__Travel, v_r__Springs, v_r__Towns, I r__Delay_Lo, I r__Delay_Hi, v_r__Floods] 37] R) (.q 0 (.q 2 (.q 3 (.q 4 (.q 5 (.q 6 (.q 7 (.q 9 (.q 11 (.q 12 (.q 13 (.q 14 (.q 15 (.q 16 (.l2 1 (.q 8 (.l 10 (.q 17 (.q 18 (.l 19 .nil))))) 10 (.q 17 (.l 1 (.q 8 (.q 18 (.l 19 .nil)))))))))))))))))))) mixed (by decide +kernel) rfl ?_
  intro w15z hx_
  replace H := H.ext hx_
  clear hx_
  refine ⟨(H.pk [1, 2]), ?_⟩
  refine t_q rfl (fun w' H => x_fa (a := .pointer (some ⟨b_3, 0, none⟩)) (v := .pointer (some ⟨b_3, 0, none⟩)) rfl (fa_blk (o := 0) Fd26_0 Sz3)) ?_
  refine t_q rfl (fun w' H => x_fa (a := .pointer (some ⟨b_1, 0, none⟩)) (v := .pointer (some ⟨b_1, 1, none⟩)) rfl (fa_blk (o := 0) Fd37_1 Sz23)) ?_
  refine t_q rfl (fun w' H => x_ld (p := .pointer (some ⟨b_1, 1, none⟩)) (v := v_r__Travel) rfl (ldb_sc Sc23 (H.blk (k := 1) rfl) rfl)) ?_
  refine t_q rfl (fun w' H => x_mv (v := I s) rfl) ?_
  obtain ⟨sd16z, hM⟩ := M.e_grd hM
  simp only [Bool.and_eq_true, decide_eq_true_eq] at sd16z
  refine t_q rfl (fun w' H => x_ix (a := v_r__Travel) (b := I s) (v := vat v_r__Travel 2 (Int.toNat s)) rfl rfl (Sl.ix (α := Span) T23.und T23.size hs_r__Travel (by omega) (by omega))) ?_
  refine t_q rfl (fun w' H => x_fa (a := vat v_r__Travel 2 (Int.toNat s)) (v := fat (vat v_r__Travel 2 (Int.toNat s)) 0) rfl (fa_pl Fd26_0 Sz3 (Sl.pl (i := s) hs_r__Travel (by omega) (by omega)))) ?_
  refine t_q rfl (fun w' H => x_ld (p := fat (vat v_r__Travel 2 (Int.toNat s)) 0) (v := I ((r__Travel.getD (Int.toNat s) default).lo)) rfl (ld_sc Sc3 (At.mono (Span_at0 hs_r__Travel (i := s) (by omega) (by omega)) (hC_r__Travel.at H)))) ?_
  refine t_q rfl (fun w' H => x_fa (a := .pointer (some ⟨b_3, 0, none⟩)) (v := .pointer (some ⟨b_3, 1, none⟩)) rfl (fa_blk (o := 0) Fd26_1 Sz3)) ?_
  refine t_q rfl (fun w' H => x_fa (a := .pointer (some ⟨b_1, 0, none⟩)) (v := .pointer (some ⟨b_1, 1, none⟩)) rfl (fa_blk (o := 0) Fd37_1 Sz23)) ?_
  refine t_q rfl (fun w' H => x_ld (p := .pointer (some ⟨b_1, 1, none⟩)) (v := v_r__Travel) rfl (ldb_sc Sc23 (H.blk (k := 1) rfl) rfl)) ?_
  refine t_q rfl (fun w' H => x_mv (v := I s) rfl) ?_
  refine t_q rfl (fun w' H => x_ix (a := v_r__Travel) (b := I s) (v := vat v_r__Travel 2 (Int.toNat s)) rfl rfl (Sl.ix (α := Span) T23.und T23.size hs_r__Travel (by omega) (by omega))) ?_
  refine t_q rfl (fun w' H => x_fa (a := vat v_r__Travel 2 (Int.toNat s)) (v := fat (vat v_r__Travel 2 (Int.toNat s)) 1) rfl (fa_pl Fd26_1 Sz3 (Sl.pl (i := s) hs_r__Travel (by omega) (by omega)))) ?_
  refine t_q rfl (fun w' H => x_ld (p := fat (vat v_r__Travel 2 (Int.toNat s)) 1) (v := I ((r__Travel.getD (Int.toNat s) default).hi)) rfl (ld_sc Sc3 (At.mono (Span_at1 hs_r__Travel (i := s) (by omega) (by omega)) (hC_r__Travel.at H)))) ?_
  obtain ⟨sd17z, hM⟩ := M.e_grd hM
  simp only [Bool.and_eq_true, decide_eq_true_eq] at sd17z
  obtain ⟨sd18z, hM⟩ := M.e_grd hM
  simp only [Bool.and_eq_true, decide_eq_true_eq] at sd18z
  refine t_l2 rfl rfl ?_ ?_
  ·skip
   refine s_val (x_ld (p := .pointer (some ⟨b_3, 0, none⟩)) (v := I s2) rfl (ldb_sc Sc3 (H.blk (k := 0) rfl) rfl)) ?_
   refine s_nil ⟨(H.pk [1, 2]), ?_⟩
   refine t_q rfl (fun w' H => x_ari (a := s2) (b := (r__Travel.getD (Int.toNat s) default).lo) (r := s2 + ((r__Travel.getD (Int.toNat s) default).lo)) rfl rfl rfl (by omega)) ?_
   refine t_l rfl ?_
   refine s_val (x_ld (p := .pointer (some ⟨b_3, 1, none⟩)) (v := I s3) rfl (ldb_sc Sc3 (H.blk (k := 0) rfl) rfl)) ?_
   refine s_nil ⟨(H.pk [1, 2]), ?_⟩
   refine t_q rfl (fun w' H => x_ari (a := s3) (b := (r__Travel.getD (Int.toNat s) default).hi) (r := s3 + ((r__Travel.getD (Int.toNat s) default).hi)) rfl rfl rfl (by omega)) ?_
   refine t_q rfl (fun w' H => x_bld (ps := [(0, I (s2 + ((r__Travel.getD (Int.toNat s) default).lo))), (1, I (s3 + ((r__Travel.getD (Int.toNat s) default).hi)))]) (zs := [I 0, I 0]) (L' := [I (s2 + ((r__Travel.getD (Int.toNat s) default).lo)), I (s3 + ((r__Travel.getD (Int.toNat s) default).hi))]) rfl Tryz.underlying26 Al26 rfl (Bd26 Tryz.underlying26) (.cons (cs := [I (s2 + ((r__Travel.getD (Int.toNat s) default).lo))]) rfl rfl rfl rfl rfl <| .cons (cs := [I (s3 + ((r__Travel.getD (Int.toNat s) default).hi))]) rfl rfl rfl rfl rfl <| .nil)) ?_
   refine t_l rfl ?_
   refine t_sw 0 0 [I (s2 + ((r__Travel.getD (Int.toNat s) default).lo)), I (s3 + ((r__Travel.getD (Int.toNat s) default).hi))] (.agg #[I (s2 + ((r__Travel.getD (Int.toNat s) default).lo)), I (s3 + ((r__Travel.getD (Int.toNat s) default).hi))]) H rfl rfl Sz26 rfl rfl rfl rfl ?_
   intro w20z H
   refine s_nil ⟨(H.pk [1, 2]), ?_⟩
   refine t_nil ?_
   refine W.seq ?_
   refine W.region rfl ?_
   refine s_val (x_fa (a := .pointer (some ⟨b_1, 0, none⟩)) (v := .pointer (some ⟨b_1, 0, none⟩)) rfl (fa_blk (o := 0) Fd37_0 Sz22)) ?_
   refine s_val (x_ld (p := .pointer (some ⟨b_1, 0, none⟩)) (v := v_r__Down) rfl (ldb_sc Sc22 (H.blk (k := 2) rfl) rfl)) ?_
   refine s_val (x_mv (v := I s) rfl) ?_
   obtain ⟨sd21z, hM⟩ := M.e_grd hM
   simp only [Bool.and_eq_true, decide_eq_true_eq] at sd21z
   refine s_val (x_ix (a := v_r__Down) (b := I s) (v := vat v_r__Down 1 (Int.toNat s)) rfl rfl (Sl.ix (α := Int) T22.und T22.size hs_r__Down (by omega) (by omega))) ?_
   refine s_val (x_ld (p := vat v_r__Down 1 (Int.toNat s)) (v := I (r__Down.getD (Int.toNat s) 0)) rfl (ld_sc Sc3 (At.mono (Int_at hs_r__Down (i := s) (by omega) (by omega)) (hC_r__Down.at H)))) ?_
   refine s_val (x_as (v := I (r__Down.getD (Int.toNat s) 0)) rfl) ?_
   refine s_nil ?_
   refine W.seq ?_
   refine W.region rfl ?_
   refine s_val (x_mv (v := I (r__Down.getD (Int.toNat s) 0)) rfl) ?_
   refine s_val (x_cmp (kd := .i64) (a := r__Down.getD (Int.toNat s) 0) (b := -1) (r := (r__Down.getD (Int.toNat s) 0) == (-1)) rfl rfl rfl) ?_
   refine s_nil ?_
   refine W.cond ((r__Down.getD (Int.toNat s) 0) == (-1)) rfl (fun c22z => ?_) (fun c22z => ?_)
   ·replace hM := M.e_t hM c22z
    simp only [decide_eq_true_eq, decide_eq_false_iff_not, beq_iff_eq, bne_iff_ne, beq_eq_false_iff_ne, bne_eq_false_iff_eq, ne_eq, Decidable.not_not] at c22z
    refine W.seq ?_
    refine W.region rfl ?_
    refine s_val (x_bld (ps := []) (zs := [I 0, I 0]) (L' := [I 0, I 0]) rfl Tryz.underlying26 Al26 rfl (Bd26 Tryz.underlying26) (.nil)) ?_
    refine t_sw 1 0 [I 0, I 0] (.agg #[I 0, I 0]) H rfl rfl Sz26 rfl rfl rfl rfl ?_
    intro w23z H
    refine s_val (x_as (v := B false) rfl) ?_
    refine s_nil ?_
    refine W.ret ?_
    have hX24z := M.e_inr hM hN13z
    subst hX24z
    replace hM := hk6z
    try dsimp only at hM
    have hb25z := (H.blk (k := 1) rfl)
    have hr_ := M.e_pure hM
    exact ⟨_, (resE_ofn (vs := [.agg #[I 0, I 0], B false]) rfl rfl (.cell (v := .agg #[I 0, I 0]) rfl (run_loadVar_ag (ds := [I 0, I 0]) Ag26 Sz26 hb25z rfl rfl) <| .tmp (v := B false) rfl <| .nil)), ⟨0, 0, false, hr_, rfl, (H.pk [])⟩⟩
   replace hM := M.e_f hM c22z
   simp only [decide_eq_true_eq, decide_eq_false_iff_not, beq_iff_eq, bne_iff_ne, beq_eq_false_iff_ne, bne_eq_false_iff_eq, ne_eq, Decidable.not_not] at c22z
   refine W.skip ?_
   exact ⟨m10z, lt11z, r__Down.getD (Int.toNat s) 0, s2 + ((r__Travel.getD (Int.toNat s) default).lo), s3 + ((r__Travel.getD (Int.toNat s) default).hi), _, upds_of _ _ ⟨rfl, rfl, rfl, rfl, rfl, trivial⟩, M.e_inl hM hN13z, H⟩
  skip
  refine s_val (x_ld (p := .pointer (some ⟨b_3, 1, none⟩)) (v := I s3) rfl (ldb_sc Sc3 (H.blk (k := 0) rfl) rfl)) ?_
  refine s_nil ⟨(H.pk [1, 2]), ?_⟩
  refine t_q rfl (fun w' H => x_ari (a := s3) (b := (r__Travel.getD (Int.toNat s) default).hi) (r := s3 + ((r__Travel.getD (Int.toNat s) default).hi)) rfl rfl rfl (by omega)) ?_
  refine t_l rfl ?_
  refine s_val (x_ld (p := .pointer (some ⟨b_3, 0, none⟩)) (v := I s2) rfl (ldb_sc Sc3 (H.blk (k := 0) rfl) rfl)) ?_
  refine s_nil ⟨(H.pk [1, 2]), ?_⟩
  refine t_q rfl (fun w' H => x_ari (a := s2) (b := (r__Travel.getD (Int.toNat s) default).lo) (r := s2 + ((r__Travel.getD (Int.toNat s) default).lo)) rfl rfl rfl (by omega)) ?_
  refine t_q rfl (fun w' H => x_bld (ps := [(0, I (s2 + ((r__Travel.getD (Int.toNat s) default).lo))), (1, I (s3 + ((r__Travel.getD (Int.toNat s) default).hi)))]) (zs := [I 0, I 0]) (L' := [I (s2 + ((r__Travel.getD (Int.toNat s) default).lo)), I (s3 + ((r__Travel.getD (Int.toNat s) default).hi))]) rfl Tryz.underlying26 Al26 rfl (Bd26 Tryz.underlying26) (.cons (cs := [I (s2 + ((r__Travel.getD (Int.toNat s) default).lo))]) rfl rfl rfl rfl rfl <| .cons (cs := [I (s3 + ((r__Travel.getD (Int.toNat s) default).hi))]) rfl rfl rfl rfl rfl <| .nil)) ?_
  refine t_l rfl ?_
  refine t_sw 0 0 [I (s2 + ((r__Travel.getD (Int.toNat s) default).lo)), I (s3 + ((r__Travel.getD (Int.toNat s) default).hi))] (.agg #[I (s2 + ((r__Travel.getD (Int.toNat s) default).lo)), I (s3 + ((r__Travel.getD (Int.toNat s) default).hi))]) H rfl rfl Sz26 rfl rfl rfl rfl ?_
  intro w26z H
  refine s_nil ⟨(H.pk [1, 2]), ?_⟩
  refine t_nil ?_
  refine W.seq ?_
  refine W.region rfl ?_
  refine s_val (x_fa (a := .pointer (some ⟨b_1, 0, none⟩)) (v := .pointer (some ⟨b_1, 0, none⟩)) rfl (fa_blk (o := 0) Fd37_0 Sz22)) ?_
  refine s_val (x_ld (p := .pointer (some ⟨b_1, 0, none⟩)) (v := v_r__Down) rfl (ldb_sc Sc22 (H.blk (k := 2) rfl) rfl)) ?_
  refine s_val (x_mv (v := I s) rfl) ?_
  obtain ⟨sd27z, hM⟩ := M.e_grd hM
  simp only [Bool.and_eq_true, decide_eq_true_eq] at sd27z
  refine s_val (x_ix (a := v_r__Down) (b := I s) (v := vat v_r__Down 1 (Int.toNat s)) rfl rfl (Sl.ix (α := Int) T22.und T22.size hs_r__Down (by omega) (by omega))) ?_
  refine s_val (x_ld (p := vat v_r__Down 1 (Int.toNat s)) (v := I (r__Down.getD (Int.toNat s) 0)) rfl (ld_sc Sc3 (At.mono (Int_at hs_r__Down (i := s) (by omega) (by omega)) (hC_r__Down.at H)))) ?_
  refine s_val (x_as (v := I (r__Down.getD (Int.toNat s) 0)) rfl) ?_
  refine s_nil ?_
  refine W.seq ?_
  refine W.region rfl ?_
  refine s_val (x_mv (v := I (r__Down.getD (Int.toNat s) 0)) rfl) ?_
  refine s_val (x_cmp (kd := .i64) (a := r__Down.getD (Int.toNat s) 0) (b := -1) (r := (r__Down.getD (Int.toNat s) 0) == (-1)) rfl rfl rfl) ?_
  refine s_nil ?_
  refine W.cond ((r__Down.getD (Int.toNat s) 0) == (-1)) rfl (fun c28z => ?_) (fun c28z => ?_)
  ·replace hM := M.e_t hM c28z
   simp only [decide_eq_true_eq, decide_eq_false_iff_not, beq_iff_eq, bne_iff_ne, beq_eq_false_iff_ne, bne_eq_false_iff_eq, ne_eq, Decidable.not_not] at c28z
   refine W.seq ?_
   refine W.region rfl ?_
   refine s_val (x_bld (ps := []) (zs := [I 0, I 0]) (L' := [I 0, I 0]) rfl Tryz.underlying26 Al26 rfl (Bd26 Tryz.underlying26) (.nil)) ?_
   refine t_sw 1 0 [I 0, I 0] (.agg #[I 0, I 0]) H rfl rfl Sz26 rfl rfl rfl rfl ?_
   intro w29z H
   refine s_val (x_as (v := B false) rfl) ?_
   refine s_nil ?_
   refine W.ret ?_
   have hX30z := M.e_inr hM hN13z
   subst hX30z
   replace hM := hk6z
   try dsimp only at hM
   have hb31z := (H.blk (k := 1) rfl)
   have hr_ := M.e_pure hM
   exact ⟨_, (resE_ofn (vs := [.agg #[I 0, I 0], B false]) rfl rfl (.cell (v := .agg #[I 0, I 0]) rfl (run_loadVar_ag (ds := [I 0, I 0]) Ag26 Sz26 hb31z rfl rfl) <| .tmp (v := B false) rfl <| .nil)), ⟨0, 0, false, hr_, rfl, (H.pk [])⟩⟩
  replace hM := M.e_f hM c28z
  simp only [decide_eq_true_eq, decide_eq_false_iff_not, beq_iff_eq, bne_iff_ne, beq_eq_false_iff_ne, bne_eq_false_iff_eq, ne_eq, Decidable.not_not] at c28z
  refine W.skip ?_
  exact ⟨m10z, lt11z, r__Down.getD (Int.toNat s) 0, s2 + ((r__Travel.getD (Int.toNat s) default).lo), s3 + ((r__Travel.getD (Int.toNat s) default).hi), _, upds_of _ _ ⟨rfl, rfl, rfl, rfl, rfl, trivial⟩, M.e_inl hM hN13z, H⟩
 replace hM := M.e_f hM c14z
 simp only [decide_eq_true_eq, decide_eq_false_iff_not, beq_iff_eq, bne_iff_ne, beq_eq_false_iff_ne, bne_eq_false_iff_eq, ne_eq, Decidable.not_not] at c14z
 refine W.exit ?_
 have hX32z := M.e_inr hM hN13z
 subst hX32z
 replace hM := hk6z
 try dsimp only at hM
 refine W.seq ?_
 refine W.region rfl ?_
 refine s_val (x_ld (p := .pointer (some ⟨b_3, 0, none⟩)) (v := .agg #[I s2, I s3]) rfl (ldb_ag (ds := [I s2, I s3]) Ag26 Sz26 (H.blk (k := 0) rfl) rfl rfl)) ?_
 refine t_sw 1 0 [I s2, I s3] (.agg #[I s2, I s3]) H rfl rfl Sz26 rfl rfl rfl rfl ?_
 intro w33z H
 refine s_val (x_as (v := B true) rfl) ?_
 refine s_nil ?_
 replace H := H.pk [1]
 refine W.ret ?_
 have hb34z := (H.blk (k := 0) rfl)
 have hr_ := M.e_pure hM
 exact ⟨_, (resE_ofn (vs := [.agg #[I s2, I s3], B true]) rfl rfl (.cell (v := .agg #[I s2, I s3]) rfl (run_loadVar_ag (ds := [I s2, I s3]) Ag26 Sz26 hb34z rfl rfl) <| .tmp (v := B true) rfl <| .nil)), ⟨s2, s3, true, hr_, rfl, (H.pk [])⟩⟩

def za1 (r__Down : List Int) (r__Travel : List Span) (r__Springs : List Int) (r__Towns : List Town) (r__Delay_Lo : Int) (r__Delay_Hi : Int) (r__Floods : List Flood) (from_ : Int) (to_ : Int) : M (Int × Int × Int) :=
  M.bind (zaH r__Down r__Travel r__Springs r__Towns r__Delay_Lo r__Delay_Hi r__Floods) fun r2 =>
  bif r2 != 0 then (
  M.pure (0, 0, r2))
  else (
  M.bind (zab from_ 0 ((r__Down.length : Int) - 1)) fun r3 =>
  M.bind (M.opt (!r3) (zab to_ 0 ((r__Down.length : Int) - 1)) false) fun r4 =>
  bif (r3 || r4) then (
  M.pure (0, 0, 2))
  else (
  M.bind (zbf r__Down r__Travel r__Springs r__Towns r__Delay_Lo r__Delay_Hi r__Floods from_ to_) fun (r00, r01, r1) =>
  bif !r1 then (
  M.pure (0, 0, 5))
  else (
  M.pure (r00, r01, 0))))
theorem zda {R : List Chunk} {C_r__Down : Cells} {v_r__Down : Value} {C_r__Travel : Cells} {v_r__Travel : Value} {C_r__Springs : Cells} {v_r__Springs : Value} {C_r__Towns : Cells} {v_r__Towns : Value} {C_r__Floods : Cells} {v_r__Floods : Value} (r__Down : List Int) (r__Travel : List Span) (r__Springs : List Int) (r__Towns : List Town) (r__Delay_Lo : Int) (r__Delay_Hi : Int) (r__Floods : List Flood) (from_ : Int) (to_ : Int) (hC_r__Down : Reads R C_r__Down) (hs_r__Down : Sl C_r__Down v_r__Down r__Down) (hC_r__Travel : Reads R C_r__Travel) (hs_r__Travel : Sl C_r__Travel v_r__Travel r__Travel) (hC_r__Springs : Reads R C_r__Springs) (hs_r__Springs : Sl C_r__Springs v_r__Springs r__Springs) (hC_r__Towns : Reads R C_r__Towns) (hs_r__Towns : Sl C_r__Towns v_r__Towns r__Towns) (hC_r__Floods : Reads R C_r__Floods) (hs_r__Floods : Sl C_r__Floods v_r__Floods r__Floods) {r : (Int × Int × Int)} (hM : (za1 r__Down r__Travel r__Springs r__Towns r__Delay_Lo r__Delay_Hi r__Floods from_ to_).Ends r) (w : World) (H : St w w [] R) : Ret Tryz.prog 24 #[.agg #[v_r__Down, v_r__Travel, v_r__Springs, v_r__Towns, I r__Delay_Lo, I r__Delay_Hi, v_r__Floods], I from_, I to_] w fun v w' => ∃ (y0 : Int) (y1 : Int) (y2 : Int), (y0, y1, y2) = r /\ v = .tuple #[.agg #[I y0, I y1], I y2] /\ St w w' [] R := by
 refine ret_of_W Tryz.func24 rfl rfl rfl ?_
 refine W.seq ?_
 refine W.region rfl ?_
 refine t_box (v := .agg #[v_r__Down, v_r__Travel, v_r__Springs, v_r__Towns, I r__Delay_Lo, I r__Delay_Hi, v_r__Floods]) (cs := [v_r__Down, v_r__Travel, v_r__Springs, v_r__Towns, I r__Delay_Lo, I r__Delay_Hi, v_r__Floods]) H rfl rfl ?_
 intro b_1 w1z H
 refine t_alloc (cs := [I 0, I 0]) H Al26 rfl ?_
 intro b_2 w2z H
 refine s_val (x_as (v := I 0) rfl) ?_
 refine s_nil ?_
 refine W.seq ?_
 refine W.seq ?_
 refine W.region rfl ?_
 refine s_val (x_ld (p := .pointer (some ⟨b_1, 0, none⟩)) (v := .agg #[v_r__Down, v_r__Travel, v_r__Springs, v_r__Towns, I r__Delay_Lo, I r__Delay_Hi, v_r__Floods]) rfl (ldb_ag (ds := [v_r__Down, v_r__Travel, v_r__Springs, v_r__Towns, I r__Delay_Lo, I r__Delay_Hi, v_r__Floods]) Ag37 Sz37 (H.blk (k := 1) rfl) rfl rfl)) ?_
 obtain ⟨r4z, hx3z, hM⟩ := M.e_bind hM
 refine s_call cf20 [.agg #[v_r__Down, v_r__Travel, v_r__Springs, v_r__Towns, I r__Delay_Lo, I r__Delay_Hi, v_r__Floods]] rfl (zbK r__Down r__Travel r__Springs r__Towns r__Delay_Lo r__Delay_Hi r__Floods (hC_r__Down.app _) hs_r__Down (hC_r__Travel.app _) hs_r__Travel (hC_r__Springs.app _) hs_r__Springs (hC_r__Towns.app _) hs_r__Towns (hC_r__Floods.app _) hs_r__Floods hx3z _ (H.gt 2)) ?_
 rintro vq w5z ⟨r2, hr6z, hvq, H2_⟩
 subst hr6z
 subst vq
 try dsimp only at hM
 replace H := H.bk H2_
 clear H2_
 refine s_val (x_as (v := I r2) rfl) ?_
 refine s_nil ?_
 refine W.seq ?_
 refine W.region rfl ?_
 refine s_val (x_mv (v := I r2) rfl) ?_
 refine s_val (x_cmp (kd := .i64) (a := r2) (b := 0) (r := r2 != 0) rfl rfl rfl) ?_
 refine s_nil ?_
 refine W.cond (r2 != 0) rfl (fun c7z => ?_) (fun c7z => ?_)
 ·replace hM := M.e_t hM c7z
  simp only [decide_eq_true_eq, decide_eq_false_iff_not, beq_iff_eq, bne_iff_ne, beq_eq_false_iff_ne, bne_eq_false_iff_eq, ne_eq, Decidable.not_not] at c7z
  refine W.seq ?_
  refine W.region rfl ?_
  refine s_val (x_bld (ps := []) (zs := [I 0, I 0]) (L' := [I 0, I 0]) rfl Tryz.underlying26 Al26 rfl (Bd26 Tryz.underlying26) (.nil)) ?_
  refine s_val (x_mv (v := I r2) rfl) ?_
  refine t_sw 0 0 [I 0, I 0] (.agg #[I 0, I 0]) H rfl rfl Sz26 rfl rfl rfl rfl ?_
  intro w8z H
  refine s_val (x_as (v := I r2) rfl) ?_
  refine s_nil ?_
  refine W.ret ?_
  have hb9z := (H.blk (k := 0) rfl)
  have hr_ := M.e_pure hM
  exact ⟨_, (resE_ofn (vs := [.agg #[I 0, I 0], I r2]) rfl rfl (.cell (v := .agg #[I 0, I 0]) rfl (run_loadVar_ag (ds := [I 0, I 0]) Ag26 Sz26 hb9z rfl rfl) <| .tmp (v := I r2) rfl <| .nil)), ⟨0, 0, r2, hr_, rfl, (H.pk [])⟩⟩
 replace hM := M.e_f hM c7z
 simp only [decide_eq_true_eq, decide_eq_false_iff_not, beq_iff_eq, bne_iff_ne, beq_eq_false_iff_ne, bne_eq_false_iff_eq, ne_eq, Decidable.not_not] at c7z
 refine W.skip ?_
 refine W.seq ?_
 refine W.seq ?_
 refine W.region rfl ?_
 refine s_val (x_mv (v := I from_) rfl) ?_
 refine s_val (x_fa (a := .pointer (some ⟨b_1, 0, none⟩)) (v := .pointer (some ⟨b_1, 0, none⟩)) rfl (fa_blk (o := 0) Fd37_0 Sz22)) ?_
 refine s_val (x_ld (p := .pointer (some ⟨b_1, 0, none⟩)) (v := v_r__Down) rfl (ldb_sc Sc22 (H.blk (k := 1) rfl) rfl)) ?_
 have hl10z := (hs_r__Down).len_le
 refine s_val (x_lenS T22.und rfl hs_r__Down) ?_
 refine s_val (x_ari (a := (r__Down.length : Int)) (b := 1) (r := (r__Down.length : Int) - 1) rfl rfl rfl (by omega)) ?_
 obtain ⟨r12z, hx11z, hM⟩ := M.e_bind hM
 refine s_call cf49 [I from_, I 0, I ((r__Down.length : Int) - 1)] rfl (zaf from_ 0 ((r__Down.length : Int) - 1) hx11z _ (H.gt 2)) ?_
 rintro vq w13z ⟨r3, hr14z, hvq, H2_⟩
 subst hr14z
 subst vq
 try dsimp only at hM
 replace H := H.bk H2_
 clear H2_
 refine s_val (x_mv (v := B r3) rfl) ?_
 refine g_val (!r3) (gy_f rfl) (fun hg => x_mv (v := I to_) rfl) ?_
 refine g_val (!r3) (gy_f rfl) (fun hg => x_fa (a := .pointer (some ⟨b_1, 0, none⟩)) (v := .pointer (some ⟨b_1, 0, none⟩)) rfl (fa_blk (o := 0) Fd37_0 Sz22)) ?_
 refine g_val (!r3) (gy_f rfl) (fun hg => x_ld (p := .pointer (some ⟨b_1, 0, none⟩)) (v := v_r__Down) (gd_of (c := !r3) hg (.pointer (some ⟨b_1, 0, none⟩))) (ldb_sc Sc22 (H.blk (k := 1) rfl) rfl)) ?_
 have hl15z := (hs_r__Down).len_le
 refine g_val (!r3) (gy_f rfl) (fun hg => x_lenS T22.und (gd_of (c := !r3) hg (v_r__Down)) hs_r__Down) ?_
 refine g_val (!r3) (gy_f rfl) (fun hg => x_ari (a := (r__Down.length : Int)) (b := 1) (r := (r__Down.length : Int) - 1) (gd_of (c := !r3) hg (I (r__Down.length : Int))) rfl rfl (by first | omega | (have hx_ := hg; simp at hx_; omega))) ?_
 obtain ⟨r4, hx16z, hM⟩ := M.e_bind hM
 refine t_gcall (!r3) (gy_f rfl) cf49 (B r4) (fun _ => [I to_, I 0, I ((r__Down.length : Int) - 1)]) (fun hg => lst3 (gd_of (c := !r3) hg (I to_)) rfl (gd_of (c := !r3) hg (I ((r__Down.length : Int) - 1)))) H (fun hg => (zaf to_ 0 ((r__Down.length : Int) - 1) (M.e_opt hx16z hg) _ (H.give (A := []) rfl)).mono fun v_ w_ ⟨y_, hr_, hv_, H_⟩ => by subst hr_; exact ⟨hv_, H.via H_⟩) ?_
 intro w17z H
 refine s_val (x_por (b := r3) (r := r4) rfl rfl (fun hb => gd_of (c := !r3) (by first | exact hb | (rw [hb]; rfl) | simp_all) (B r4))) ?_
 refine s_nil ?_
 refine W.cond (r3 || r4) rfl (fun c18z => ?_) (fun c18z => ?_)
 ·replace hM := M.e_t hM c18z
  refine W.seq ?_
  refine W.region rfl ?_
  refine s_val (x_bld (ps := []) (zs := [I 0, I 0]) (L' := [I 0, I 0]) rfl Tryz.underlying26 Al26 rfl (Bd26 Tryz.underlying26) (.nil)) ?_
  refine t_sw 0 0 [I 0, I 0] (.agg #[I 0, I 0]) H rfl rfl Sz26 rfl rfl rfl rfl ?_
  intro w19z H
  refine s_val (x_as (v := I 2) rfl) ?_
  refine s_nil ?_
  refine W.ret ?_
  have hb20z := (H.blk (k := 0) rfl)
  have hr_ := M.e_pure hM
  exact ⟨_, (resE_ofn (vs := [.agg #[I 0, I 0], I 2]) rfl rfl (.cell (v := .agg #[I 0, I 0]) rfl (run_loadVar_ag (ds := [I 0, I 0]) Ag26 Sz26 hb20z rfl rfl) <| .tmp (v := I 2) rfl <| .nil)), ⟨0, 0, 2, hr_, rfl, (H.pk [])⟩⟩
 replace hM := M.e_f hM c18z
 refine W.skip ?_
 refine W.seq ?_
 refine W.region rfl ?_
 refine s_val (x_ld (p := .pointer (some ⟨b_1, 0, none⟩)) (v := .agg #[v_r__Down, v_r__Travel, v_r__Springs, v_r__Towns, I r__Delay_Lo, I r__Delay_Hi, v_r__Floods]) rfl (ldb_ag (ds := [v_r__Down, v_r__Travel, v_r__Springs, v_r__Towns, I r__Delay_Lo, I r__Delay_Hi, v_r__Floods]) Ag37 Sz37 (H.blk (k := 1) rfl) rfl rfl)) ?_
 refine s_val (x_mv (v := I from_) rfl) ?_
 refine s_val (x_mv (v := I to_) rfl) ?_
 obtain ⟨r22z, hx21z, hM⟩ := M.e_bind hM
 refine s_call cf75 [.agg #[v_r__Down, v_r__Travel, v_r__Springs, v_r__Towns, I r__Delay_Lo, I r__Delay_Hi, v_r__Floods], I from_, I to_] rfl (zbX r__Down r__Travel r__Springs r__Towns r__Delay_Lo r__Delay_Hi r__Floods from_ to_ (hC_r__Down.app _) hs_r__Down (hC_r__Travel.app _) hs_r__Travel (hC_r__Springs.app _) hs_r__Springs (hC_r__Towns.app _) hs_r__Towns (hC_r__Floods.app _) hs_r__Floods hx21z _ (H.gt 2)) ?_
 rintro vq w23z ⟨r00, r01, r1, hr24z, hvq, H2_⟩
 subst hr24z
 subst vq
 try dsimp only at hM
 replace H := H.bk H2_
 clear H2_
 refine s_val (x_mv (v := .tuple #[.agg #[I r00, I r01], B r1]) rfl) ?_
 refine s_val (x_ext (vs := [.agg #[I r00, I r01], B r1]) (v := .agg #[I r00, I r01]) rfl rfl) ?_
 refine s_val (x_ext (vs := [.agg #[I r00, I r01], B r1]) (v := B r1) rfl rfl) ?_
 refine t_alloc (cs := [I 0, I 0]) H Al26 rfl ?_
 intro b_3 w25z H
 refine t_sw 0 0 [I r00, I r01] (.agg #[I r00, I r01]) H rfl rfl Sz26 rfl rfl rfl rfl ?_
 intro w26z H
 refine s_val (x_as (v := B r1) rfl) ?_
 refine s_nil ?_
 refine W.seq ?_
 refine W.seq ?_
 refine W.region rfl ?_
 refine s_val (x_mv (v := B r1) rfl) ?_
 refine s_val (x_not (b := r1) rfl) ?_
 refine s_nil ?_
 refine W.cond (!r1) rfl (fun c27z => ?_) (fun c27z => ?_)
 ·replace hM := M.e_t hM c27z
  refine W.seq ?_
  refine W.region rfl ?_
  refine s_val (x_bld (ps := []) (zs := [I 0, I 0]) (L' := [I 0, I 0]) rfl Tryz.underlying26 Al26 rfl (Bd26 Tryz.underlying26) (.nil)) ?_
  refine t_sw 1 0 [I 0, I 0] (.agg #[I 0, I 0]) H rfl rfl Sz26 rfl rfl rfl rfl ?_
  intro w28z H
  refine s_val (x_as (v := I 5) rfl) ?_
  refine s_nil ?_
  replace H := H.pk [1]
  refine W.ret ?_
  have hb29z := (H.blk (k := 0) rfl)
  have hr_ := M.e_pure hM
  exact ⟨_, (resE_ofn (vs := [.agg #[I 0, I 0], I 5]) rfl rfl (.cell (v := .agg #[I 0, I 0]) rfl (run_loadVar_ag (ds := [I 0, I 0]) Ag26 Sz26 hb29z rfl rfl) <| .tmp (v := I 5) rfl <| .nil)), ⟨0, 0, 5, hr_, rfl, (H.pk [])⟩⟩
 replace hM := M.e_f hM c27z
 refine W.skip ?_
 refine W.seq ?_
 refine W.region rfl ?_
 refine s_val (x_ld (p := .pointer (some ⟨b_3, 0, none⟩)) (v := .agg #[I r00, I r01]) rfl (ldb_ag (ds := [I r00, I r01]) Ag26 Sz26 (H.blk (k := 0) rfl) rfl rfl)) ?_
 refine t_sw 1 0 [I r00, I r01] (.agg #[I r00, I r01]) H rfl rfl Sz26 rfl rfl rfl rfl ?_
 intro w30z H
 refine s_val (x_as (v := I 0) rfl) ?_
 refine s_nil ?_
 replace H := H.pk [1]
 refine W.ret ?_
 have hb31z := (H.blk (k := 0) rfl)
 have hr_ := M.e_pure hM
 exact ⟨_, (resE_ofn (vs := [.agg #[I r00, I r01], I 0]) rfl rfl (.cell (v := .agg #[I r00, I r01]) rfl (run_loadVar_ag (ds := [I r00, I r01]) Ag26 Sz26 hb31z rfl rfl) <| .tmp (v := I 0) rfl <| .nil)), ⟨r00, r01, 0, hr_, rfl, (H.pk [])⟩⟩

end Go.Proofs.YtbaehghammbjdaaGreat
end
section
set_option maxRecDepth 100000
set_option maxHeartbeats 16000000
namespace Go.Proofs.YtbaehghammbjdaaGreat
open Go Go.Nm
def zaB (r__Down : List Int) (r__Travel : List Span) (r__Springs : List Int) (r__Towns : List Town) (r__Delay_Lo : Int) (r__Delay_Hi : Int) (r__Floods : List Flood) (watch : Int) (town : Int) : M (Int × Int × Int) :=
  M.bind (zaH r__Down r__Travel r__Springs r__Towns r__Delay_Lo r__Delay_Hi r__Floods) fun r2 =>
  bif r2 != 0 then (
  M.pure (0, 0, r2))
  else (
  M.bind (zab watch 0 ((r__Down.length : Int) - 1)) fun r3 =>
  M.bind (M.opt (!r3) (zab town 0 ((r__Towns.length : Int) - 1)) false) fun r4 =>
  bif (r3 || r4) then (
  M.pure (0, 0, 2))
  else (
  M.grd (decide ((0 : Int) <= town) && decide (town < (r__Towns.length : Int))) <|
  M.bind (zbf r__Down r__Travel r__Springs r__Towns r__Delay_Lo r__Delay_Hi r__Floods watch ((r__Towns.getD (Int.toNat town) default).station)) fun (r00, r01, r1) =>
  bif !r1 then (
  M.pure (0, 0, 5))
  else (
  M.grd (decide ((-9223372036854775808 : Int) <= (r00 - r__Delay_Hi)) && decide ((r00 - r__Delay_Hi) <= (9223372036854775807 : Int))) <|
  M.grd (decide ((-9223372036854775808 : Int) <= (r01 - r__Delay_Lo)) && decide ((r01 - r__Delay_Lo) <= (9223372036854775807 : Int))) <|
  M.pure ((r00 - r__Delay_Hi), (r01 - r__Delay_Lo), 0))))
theorem zdw {R : List Chunk} {C_r__Down : Cells} {v_r__Down : Value} {C_r__Travel : Cells} {v_r__Travel : Value} {C_r__Springs : Cells} {v_r__Springs : Value} {C_r__Towns : Cells} {v_r__Towns : Value} {C_r__Floods : Cells} {v_r__Floods : Value} (r__Down : List Int) (r__Travel : List Span) (r__Springs : List Int) (r__Towns : List Town) (r__Delay_Lo : Int) (r__Delay_Hi : Int) (r__Floods : List Flood) (watch : Int) (town : Int) (hC_r__Down : Reads R C_r__Down) (hs_r__Down : Sl C_r__Down v_r__Down r__Down) (hC_r__Travel : Reads R C_r__Travel) (hs_r__Travel : Sl C_r__Travel v_r__Travel r__Travel) (hC_r__Springs : Reads R C_r__Springs) (hs_r__Springs : Sl C_r__Springs v_r__Springs r__Springs) (hC_r__Towns : Reads R C_r__Towns) (hs_r__Towns : Sl C_r__Towns v_r__Towns r__Towns) (hC_r__Floods : Reads R C_r__Floods) (hs_r__Floods : Sl C_r__Floods v_r__Floods r__Floods) {r : (Int × Int × Int)} (hM : (zaB r__Down r__Travel r__Springs r__Towns r__Delay_Lo r__Delay_Hi r__Floods watch town).Ends r) (w : World) (H : St w w [] R) : Ret Tryz.prog 26 #[.agg #[v_r__Down, v_r__Travel, v_r__Springs, v_r__Towns, I r__Delay_Lo, I r__Delay_Hi, v_r__Floods], I watch, I town] w fun v w' => ∃ (y0 : Int) (y1 : Int) (y2 : Int), (y0, y1, y2) = r /\ v = .tuple #[.agg #[I y0, I y1], I y2] /\ St w w' [] R := by
 refine ret_of_W Tryz.func26 rfl rfl rfl ?_
 refine W.seq ?_
 refine W.region rfl ?_
 refine t_box (v := .agg #[v_r__Down, v_r__Travel, v_r__Springs, v_r__Towns, I r__Delay_Lo, I r__Delay_Hi, v_r__Floods]) (cs := [v_r__Down, v_r__Travel, v_r__Springs, v_r__Towns, I r__Delay_Lo, I r__Delay_Hi, v_r__Floods]) H rfl rfl ?_
 intro b_1 w1z H
 refine t_alloc (cs := [I 0, I 0]) H Al26 rfl ?_
 intro b_2 w2z H
 refine s_val (x_as (v := I 0) rfl) ?_
 refine s_nil ?_
 refine W.seq ?_
 refine W.seq ?_
 refine W.region rfl ?_
 refine s_val (x_ld (p := .pointer (some ⟨b_1, 0, none⟩)) (v := .agg #[v_r__Down, v_r__Travel, v_r__Springs, v_r__Towns, I r__Delay_Lo, I r__Delay_Hi, v_r__Floods]) rfl (ldb_ag (ds := [v_r__Down, v_r__Travel, v_r__Springs, v_r__Towns, I r__Delay_Lo, I r__Delay_Hi, v_r__Floods]) Ag37 Sz37 (H.blk (k := 1) rfl) rfl rfl)) ?_
 obtain ⟨r4z, hx3z, hM⟩ := M.e_bind hM
 refine s_call cf20 [.agg #[v_r__Down, v_r__Travel, v_r__Springs, v_r__Towns, I r__Delay_Lo, I r__Delay_Hi, v_r__Floods]] rfl (zbK r__Down r__Travel r__Springs r__Towns r__Delay_Lo r__Delay_Hi r__Floods (hC_r__Down.app _) hs_r__Down (hC_r__Travel.app _) hs_r__Travel (hC_r__Springs.app _) hs_r__Springs (hC_r__Towns.app _) hs_r__Towns (hC_r__Floods.app _) hs_r__Floods hx3z _ (H.gt 2)) ?_
 rintro vq w5z ⟨r2, hr6z, hvq, H2_⟩
 subst hr6z
 subst vq
 try dsimp only at hM
 replace H := H.bk H2_
 clear H2_
 refine s_val (x_as (v := I r2) rfl) ?_
 refine s_nil ?_
 refine W.seq ?_
 refine W.region rfl ?_
 refine s_val (x_mv (v := I r2) rfl) ?_
 refine s_val (x_cmp (kd := .i64) (a := r2) (b := 0) (r := r2 != 0) rfl rfl rfl) ?_
 refine s_nil ?_
 refine W.cond (r2 != 0) rfl (fun c7z => ?_) (fun c7z => ?_)
 ·replace hM := M.e_t hM c7z
  simp only [decide_eq_true_eq, decide_eq_false_iff_not, beq_iff_eq, bne_iff_ne, beq_eq_false_iff_ne, bne_eq_false_iff_eq, ne_eq, Decidable.not_not] at c7z
  refine W.seq ?_
  refine W.region rfl ?_
  refine s_val (x_bld (ps := []) (zs := [I 0, I 0]) (L' := [I 0, I 0]) rfl Tryz.underlying26 Al26 rfl (Bd26 Tryz.underlying26) (.nil)) ?_
  refine s_val (x_mv (v := I r2) rfl) ?_
  refine t_sw 0 0 [I 0, I 0] (.agg #[I 0, I 0]) H rfl rfl Sz26 rfl rfl rfl rfl ?_
  intro w8z H
  refine s_val (x_as (v := I r2) rfl) ?_
  refine s_nil ?_
  refine W.ret ?_
  have hb9z := (H.blk (k := 0) rfl)
  have hr_ := M.e_pure hM
  exact ⟨_, (resE_ofn (vs := [.agg #[I 0, I 0], I r2]) rfl rfl (.cell (v := .agg #[I 0, I 0]) rfl (run_loadVar_ag (ds := [I 0, I 0]) Ag26 Sz26 hb9z rfl rfl) <| .tmp (v := I r2) rfl <| .nil)), ⟨0, 0, r2, hr_, rfl, (H.pk [])⟩⟩
 replace hM := M.e_f hM c7z
 simp only [decide_eq_true_eq, decide_eq_false_iff_not, beq_iff_eq, bne_iff_ne, beq_eq_false_iff_ne, bne_eq_false_iff_eq, ne_eq, Decidable.not_not] at c7z
 refine W.skip ?_
 refine W.seq ?_
 refine W.seq ?_
 refine W.region rfl ?_
 refine s_val (x_mv (v := I watch) rfl) ?_
 refine s_val (x_fa (a := .pointer (some ⟨b_1, 0, none⟩)) (v := .pointer (some ⟨b_1, 0, none⟩)) rfl (fa_blk (o := 0) Fd37_0 Sz22)) ?_
 refine s_val (x_ld (p := .pointer (some ⟨b_1, 0, none⟩)) (v := v_r__Down) rfl (ldb_sc Sc22 (H.blk (k := 1) rfl) rfl)) ?_
 have hl10z := (hs_r__Down).len_le
 refine s_val (x_lenS T22.und rfl hs_r__Down) ?_
 refine s_val (x_ari (a := (r__Down.length : Int)) (b := 1) (r := (r__Down.length : Int) - 1) rfl rfl rfl (by omega)) ?_
 obtain ⟨r12z, hx11z, hM⟩ := M.e_bind hM
 refine s_call cf49 [I watch, I 0, I ((r__Down.length : Int) - 1)] rfl (zaf watch 0 ((r__Down.length : Int) - 1) hx11z _ (H.gt 2)) ?_
 rintro vq w13z ⟨r3, hr14z, hvq, H2_⟩
 subst hr14z
 subst vq
 try dsimp only at hM
 replace H := H.bk H2_
 clear H2_
 refine s_val (x_mv (v := B r3) rfl) ?_
 refine g_val (!r3) (gy_f rfl) (fun hg => x_mv (v := I town) rfl) ?_
 refine g_val (!r3) (gy_f rfl) (fun hg => x_fa (a := .pointer (some ⟨b_1, 0, none⟩)) (v := .pointer (some ⟨b_1, 3, none⟩)) rfl (fa_blk (o := 0) Fd37_3 Sz34)) ?_
 refine g_val (!r3) (gy_f rfl) (fun hg => x_ld (p := .pointer (some ⟨b_1, 3, none⟩)) (v := v_r__Towns) (gd_of (c := !r3) hg (.pointer (some ⟨b_1, 3, none⟩))) (ldb_sc Sc34 (H.blk (k := 1) rfl) rfl)) ?_
 have hl15z := (hs_r__Towns).len_le
 refine g_val (!r3) (gy_f rfl) (fun hg => x_lenS T34.und (gd_of (c := !r3) hg (v_r__Towns)) hs_r__Towns) ?_
 refine g_val (!r3) (gy_f rfl) (fun hg => x_ari (a := (r__Towns.length : Int)) (b := 1) (r := (r__Towns.length : Int) - 1) (gd_of (c := !r3) hg (I (r__Towns.length : Int))) rfl rfl (by first | omega | (have hx_ := hg; simp at hx_; omega))) ?_
 obtain ⟨r4, hx16z, hM⟩ := M.e_bind hM
 refine t_gcall (!r3) (gy_f rfl) cf49 (B r4) (fun _ => [I town, I 0, I ((r__Towns.length : Int) - 1)]) (fun hg => lst3 (gd_of (c := !r3) hg (I town)) rfl (gd_of (c := !r3) hg (I ((r__Towns.length : Int) - 1)))) H (fun hg => (zaf town 0 ((r__Towns.length : Int) - 1) (M.e_opt hx16z hg) _ (H.give (A := []) rfl)).mono fun v_ w_ ⟨y_, hr_, hv_, H_⟩ => by subst hr_; exact ⟨hv_, H.via H_⟩) ?_
 intro w17z H
 refine s_val (x_por (b := r3) (r := r4) rfl rfl (fun hb => gd_of (c := !r3) (by first | exact hb | (rw [hb]; rfl) | simp_all) (B r4))) ?_
 refine s_nil ?_
 refine W.cond (r3 || r4) rfl (fun c18z => ?_) (fun c18z => ?_)
 ·replace hM := M.e_t hM c18z
  refine W.seq ?_
  refine W.region rfl ?_
  refine s_val (x_bld (ps := []) (zs := [I 0, I 0]) (L' := [I 0, I 0]) rfl Tryz.underlying26 Al26 rfl (Bd26 Tryz.underlying26) (.nil)) ?_
  refine t_sw 0 0 [I 0, I 0] (.agg #[I 0, I 0]) H rfl rfl Sz26 rfl rfl rfl rfl ?_
  intro w19z H
  refine s_val (x_as (v := I 2) rfl) ?_
  refine s_nil ?_
  refine W.ret ?_
  have hb20z := (H.blk (k := 0) rfl)
  have hr_ := M.e_pure hM
  exact ⟨_, (resE_ofn (vs := [.agg #[I 0, I 0], I 2]) rfl rfl (.cell (v := .agg #[I 0, I 0]) rfl (run_loadVar_ag (ds := [I 0, I 0]) Ag26 Sz26 hb20z rfl rfl) <| .tmp (v := I 2) rfl <| .nil)), ⟨0, 0, 2, hr_, rfl, (H.pk [])⟩⟩
 replace hM := M.e_f hM c18z
 refine W.skip ?_
 refine W.seq ?_
 refine W.drawT (fun W => St w W [cBlk b_2 [I 0, I 0] 26, cBlk b_1 [v_r__Down, v_r__Travel, v_r__Springs, v_r__Towns, I r__Delay_Lo, I r__Delay_Hi, v_r__Floods] 37] R) (.q 0 (.q 1 (.q 2 (.q 3 (.q 4 (.q 5 (.q 6 (.q 7 (.l2 8 (.q 9 (.q 10 (.q 11 (.l 12 (.l 13 (.q 14 .nil)))))) 12 (.l 8 (.q 9 (.q 10 (.q 11 (.l 13 (.q 14 .nil))))))))))))))) mixed (by decide +kernel) rfl ?_
 intro w21z hx_
 replace H := H.ext hx_
 clear hx_
 refine ⟨(H.pk [0, 1]), ?_⟩
 refine t_q rfl (fun w' H => x_ld (p := .pointer (some ⟨b_1, 0, none⟩)) (v := .agg #[v_r__Down, v_r__Travel, v_r__Springs, v_r__Towns, I r__Delay_Lo, I r__Delay_Hi, v_r__Floods]) rfl (ldb_ag (ds := [v_r__Down, v_r__Travel, v_r__Springs, v_r__Towns, I r__Delay_Lo, I r__Delay_Hi, v_r__Floods]) Ag37 Sz37 (H.blk (k := 1) rfl) rfl rfl)) ?_
 refine t_q rfl (fun w' H => x_mv (v := I watch) rfl) ?_
 refine t_q rfl (fun w' H => x_fa (a := .pointer (some ⟨b_1, 0, none⟩)) (v := .pointer (some ⟨b_1, 3, none⟩)) rfl (fa_blk (o := 0) Fd37_3 Sz34)) ?_
 refine t_q rfl (fun w' H => x_ld (p := .pointer (some ⟨b_1, 3, none⟩)) (v := v_r__Towns) rfl (ldb_sc Sc34 (H.blk (k := 1) rfl) rfl)) ?_
 refine t_q rfl (fun w' H => x_mv (v := I town) rfl) ?_
 obtain ⟨sd22z, hM⟩ := M.e_grd hM
 simp only [Bool.and_eq_true, decide_eq_true_eq] at sd22z
 refine t_q rfl (fun w' H => x_ix (a := v_r__Towns) (b := I town) (v := vat v_r__Towns 3 (Int.toNat town)) rfl rfl (Sl.ix (α := Town) T34.und T34.size hs_r__Towns (by omega) (by omega))) ?_
 refine t_q rfl (fun w' H => x_fa (a := vat v_r__Towns 3 (Int.toNat town)) (v := fat (vat v_r__Towns 3 (Int.toNat town)) 0) rfl (fa_pl Fd92_0 Sz3 (Sl.pl (i := town) hs_r__Towns (by omega) (by omega)))) ?_
 refine t_q rfl (fun w' H => x_ld (p := fat (vat v_r__Towns 3 (Int.toNat town)) 0) (v := I ((r__Towns.getD (Int.toNat town) default).station)) rfl (ld_sc Sc3 (At.mono (Town_at0 hs_r__Towns (i := town) (by omega) (by omega)) (hC_r__Towns.at H)))) ?_
 refine t_l2 rfl rfl ?_ ?_
 ·skip
  obtain ⟨r35z, hx34z, hM⟩ := M.e_bind hM
  refine s_call cf75 [.agg #[v_r__Down, v_r__Travel, v_r__Springs, v_r__Towns, I r__Delay_Lo, I r__Delay_Hi, v_r__Floods], I watch, I ((r__Towns.getD (Int.toNat town) default).station)] rfl (zbX r__Down r__Travel r__Springs r__Towns r__Delay_Lo r__Delay_Hi r__Floods watch ((r__Towns.getD (Int.toNat town) default).station) (hC_r__Down.app _) hs_r__Down (hC_r__Travel.app _) hs_r__Travel (hC_r__Springs.app _) hs_r__Springs (hC_r__Towns.app _) hs_r__Towns (hC_r__Floods.app _) hs_r__Floods hx34z _ (H.gt 2)) ?_
  rintro vq w36z ⟨r00, r01, r1, hr37z, hvq, H2_⟩
  subst hr37z
  subst vq
  try dsimp only at hM
  replace H := H.bk H2_
  clear H2_
  refine s_nil ⟨(H.pk [0, 1]), ?_⟩
  refine t_q rfl (fun w' H => x_mv (v := .tuple #[.agg #[I r00, I r01], B r1]) rfl) ?_
  refine t_q rfl (fun w' H => x_ext (vs := [.agg #[I r00, I r01], B r1]) (v := .agg #[I r00, I r01]) rfl rfl) ?_
  refine t_q rfl (fun w' H => x_ext (vs := [.agg #[I r00, I r01], B r1]) (v := B r1) rfl rfl) ?_
  refine t_l rfl ?_
  refine t_alloc (cs := [I 0, I 0]) H Al26 rfl ?_
  intro b_3 w38z H
  refine s_nil ⟨(H.pk [1, 2]), ?_⟩
  refine t_l rfl ?_
  refine t_sw 0 0 [I r00, I r01] (.agg #[I r00, I r01]) H rfl rfl Sz26 rfl rfl rfl rfl ?_
  intro w39z H
  refine s_nil ⟨(H.pk [1, 2]), ?_⟩
  refine t_q rfl (fun w' H => x_as (v := B r1) rfl) ?_
  refine t_nil ?_
  refine W.seq ?_
  refine W.seq ?_
  refine W.region rfl ?_
  refine s_val (x_mv (v := B r1) rfl) ?_
  refine s_val (x_not (b := r1) rfl) ?_
  refine s_nil ?_
  refine W.cond (!r1) rfl (fun c40z => ?_) (fun c40z => ?_)
  ·replace hM := M.e_t hM c40z
   refine W.seq ?_
   refine W.region rfl ?_
   refine s_val (x_bld (ps := []) (zs := [I 0, I 0]) (L' := [I 0, I 0]) rfl Tryz.underlying26 Al26 rfl (Bd26 Tryz.underlying26) (.nil)) ?_
   refine t_sw 1 0 [I 0, I 0] (.agg #[I 0, I 0]) H rfl rfl Sz26 rfl rfl rfl rfl ?_
   intro w41z H
   refine s_val (x_as (v := I 5) rfl) ?_
   refine s_nil ?_
   replace H := H.pk [1]
   refine W.ret ?_
   have hb42z := (H.blk (k := 0) rfl)
   have hr_ := M.e_pure hM
   exact ⟨_, (resE_ofn (vs := [.agg #[I 0, I 0], I 5]) rfl rfl (.cell (v := .agg #[I 0, I 0]) rfl (run_loadVar_ag (ds := [I 0, I 0]) Ag26 Sz26 hb42z rfl rfl) <| .tmp (v := I 5) rfl <| .nil)), ⟨0, 0, 5, hr_, rfl, (H.pk [])⟩⟩
  replace hM := M.e_f hM c40z
  refine W.skip ?_
  refine W.seq ?_
  refine W.region rfl ?_
  refine s_val (x_fa (a := .pointer (some ⟨b_3, 0, none⟩)) (v := .pointer (some ⟨b_3, 0, none⟩)) rfl (fa_blk (o := 0) Fd26_0 Sz3)) ?_
  refine s_val (x_ld (p := .pointer (some ⟨b_3, 0, none⟩)) (v := I r00) rfl (ldb_sc Sc3 (H.blk (k := 0) rfl) rfl)) ?_
  refine s_val (x_fa (a := .pointer (some ⟨b_1, 0, none⟩)) (v := .pointer (some ⟨b_1, 4, none⟩)) rfl (fa_blk (o := 0) Fd37_4 Sz26)) ?_
  refine s_val (x_fa (a := .pointer (some ⟨b_1, 4, none⟩)) (v := .pointer (some ⟨b_1, 5, none⟩)) rfl (fa_blk (o := 4) Fd26_1 Sz3)) ?_
  refine s_val (x_ld (p := .pointer (some ⟨b_1, 5, none⟩)) (v := I r__Delay_Hi) rfl (ldb_sc Sc3 (H.blk (k := 2) rfl) rfl)) ?_
  obtain ⟨sd43z, hM⟩ := M.e_grd hM
  simp only [Bool.and_eq_true, decide_eq_true_eq] at sd43z
  refine s_val (x_ari (a := r00) (b := r__Delay_Hi) (r := r00 - r__Delay_Hi) rfl rfl rfl (by omega)) ?_
  refine s_val (x_fa (a := .pointer (some ⟨b_3, 0, none⟩)) (v := .pointer (some ⟨b_3, 1, none⟩)) rfl (fa_blk (o := 0) Fd26_1 Sz3)) ?_
  refine s_val (x_ld (p := .pointer (some ⟨b_3, 1, none⟩)) (v := I r01) rfl (ldb_sc Sc3 (H.blk (k := 0) rfl) rfl)) ?_
  refine s_val (x_fa (a := .pointer (some ⟨b_1, 0, none⟩)) (v := .pointer (some ⟨b_1, 4, none⟩)) rfl (fa_blk (o := 0) Fd37_4 Sz26)) ?_
  refine s_val (x_fa (a := .pointer (some ⟨b_1, 4, none⟩)) (v := .pointer (some ⟨b_1, 4, none⟩)) rfl (fa_blk (o := 4) Fd26_0 Sz3)) ?_
  refine s_val (x_ld (p := .pointer (some ⟨b_1, 4, none⟩)) (v := I r__Delay_Lo) rfl (ldb_sc Sc3 (H.blk (k := 2) rfl) rfl)) ?_
  obtain ⟨sd44z, hM⟩ := M.e_grd hM
  simp only [Bool.and_eq_true, decide_eq_true_eq] at sd44z
  refine s_val (x_ari (a := r01) (b := r__Delay_Lo) (r := r01 - r__Delay_Lo) rfl rfl rfl (by omega)) ?_
  refine s_val (x_bld (ps := [(0, I (r00 - r__Delay_Hi)), (1, I (r01 - r__Delay_Lo))]) (zs := [I 0, I 0]) (L' := [I (r00 - r__Delay_Hi), I (r01 - r__Delay_Lo)]) rfl Tryz.underlying26 Al26 rfl (Bd26 Tryz.underlying26) (.cons (cs := [I (r00 - r__Delay_Hi)]) rfl rfl rfl rfl rfl <| .cons (cs := [I (r01 - r__Delay_Lo)]) rfl rfl rfl rfl rfl <| .nil)) ?_
  refine t_sw 1 0 [I (r00 - r__Delay_Hi), I (r01 - r__Delay_Lo)] (.agg #[I (r00 - r__Delay_Hi), I (r01 - r__Delay_Lo)]) H rfl rfl Sz26 rfl rfl rfl rfl ?_
  intro w45z H
  refine s_val (x_as (v := I 0) rfl) ?_
  refine s_nil ?_
  replace H := H.pk [1]
  refine W.ret ?_
  have hb46z := (H.blk (k := 0) rfl)
  have hr_ := M.e_pure hM
  exact ⟨_, (resE_ofn (vs := [.agg #[I (r00 - r__Delay_Hi), I (r01 - r__Delay_Lo)], I 0]) rfl rfl (.cell (v := .agg #[I (r00 - r__Delay_Hi), I (r01 - r__Delay_Lo)]) rfl (run_loadVar_ag (ds := [I (r00 - r__Delay_Hi), I (r01 - r__Delay_Lo)]) Ag26 Sz26 hb46z rfl rfl) <| .tmp (v := I 0) rfl <| .nil)), ⟨(r00 - r__Delay_Hi), (r01 - r__Delay_Lo), 0, hr_, rfl, (H.pk [])⟩⟩
 skip
 refine t_alloc (cs := [I 0, I 0]) H Al26 rfl ?_
 intro b_3 w47z H
 refine s_nil ⟨(H.pk [1, 2]), ?_⟩
 refine t_l rfl ?_
 obtain ⟨r49z, hx48z, hM⟩ := M.e_bind hM
 refine s_call cf75 [.agg #[v_r__Down, v_r__Travel, v_r__Springs, v_r__Towns, I r__Delay_Lo, I r__Delay_Hi, v_r__Floods], I watch, I ((r__Towns.getD (Int.toNat town) default).station)] rfl (zbX r__Down r__Travel r__Springs r__Towns r__Delay_Lo r__Delay_Hi r__Floods watch ((r__Towns.getD (Int.toNat town) default).station) (hC_r__Down.app _) hs_r__Down (hC_r__Travel.app _) hs_r__Travel (hC_r__Springs.app _) hs_r__Springs (hC_r__Towns.app _) hs_r__Towns (hC_r__Floods.app _) hs_r__Floods hx48z _ (H.gt 3)) ?_
 rintro vq w50z ⟨r00, r01, r1, hr51z, hvq, H2_⟩
 subst hr51z
 subst vq
 try dsimp only at hM
 replace H := H.bk H2_
 clear H2_
 refine s_nil ⟨(H.pk [1, 2]), ?_⟩
 refine t_q rfl (fun w' H => x_mv (v := .tuple #[.agg #[I r00, I r01], B r1]) rfl) ?_
 refine t_q rfl (fun w' H => x_ext (vs := [.agg #[I r00, I r01], B r1]) (v := .agg #[I r00, I r01]) rfl rfl) ?_
 refine t_q rfl (fun w' H => x_ext (vs := [.agg #[I r00, I r01], B r1]) (v := B r1) rfl rfl) ?_
 refine t_l rfl ?_
 refine t_sw 0 0 [I r00, I r01] (.agg #[I r00, I r01]) H rfl rfl Sz26 rfl rfl rfl rfl ?_
 intro w52z H
 refine s_nil ⟨(H.pk [1, 2]), ?_⟩
 refine t_q rfl (fun w' H => x_as (v := B r1) rfl) ?_
 refine t_nil ?_
 refine W.seq ?_
 refine W.seq ?_
 refine W.region rfl ?_
 refine s_val (x_mv (v := B r1) rfl) ?_
 refine s_val (x_not (b := r1) rfl) ?_
 refine s_nil ?_
 refine W.cond (!r1) rfl (fun c53z => ?_) (fun c53z => ?_)
 ·replace hM := M.e_t hM c53z
  refine W.seq ?_
  refine W.region rfl ?_
  refine s_val (x_bld (ps := []) (zs := [I 0, I 0]) (L' := [I 0, I 0]) rfl Tryz.underlying26 Al26 rfl (Bd26 Tryz.underlying26) (.nil)) ?_
  refine t_sw 1 0 [I 0, I 0] (.agg #[I 0, I 0]) H rfl rfl Sz26 rfl rfl rfl rfl ?_
  intro w54z H
  refine s_val (x_as (v := I 5) rfl) ?_
  refine s_nil ?_
  replace H := H.pk [1]
  refine W.ret ?_
  have hb55z := (H.blk (k := 0) rfl)
  have hr_ := M.e_pure hM
  exact ⟨_, (resE_ofn (vs := [.agg #[I 0, I 0], I 5]) rfl rfl (.cell (v := .agg #[I 0, I 0]) rfl (run_loadVar_ag (ds := [I 0, I 0]) Ag26 Sz26 hb55z rfl rfl) <| .tmp (v := I 5) rfl <| .nil)), ⟨0, 0, 5, hr_, rfl, (H.pk [])⟩⟩
 replace hM := M.e_f hM c53z
 refine W.skip ?_
 refine W.seq ?_
 refine W.region rfl ?_
 refine s_val (x_fa (a := .pointer (some ⟨b_3, 0, none⟩)) (v := .pointer (some ⟨b_3, 0, none⟩)) rfl (fa_blk (o := 0) Fd26_0 Sz3)) ?_
 refine s_val (x_ld (p := .pointer (some ⟨b_3, 0, none⟩)) (v := I r00) rfl (ldb_sc Sc3 (H.blk (k := 0) rfl) rfl)) ?_
 refine s_val (x_fa (a := .pointer (some ⟨b_1, 0, none⟩)) (v := .pointer (some ⟨b_1, 4, none⟩)) rfl (fa_blk (o := 0) Fd37_4 Sz26)) ?_
 refine s_val (x_fa (a := .pointer (some ⟨b_1, 4, none⟩)) (v := .pointer (some ⟨b_1, 5, none⟩)) rfl (fa_blk (o := 4) Fd26_1 Sz3)) ?_
 refine s_val (x_ld (p := .pointer (some ⟨b_1, 5, none⟩)) (v := I r__Delay_Hi) rfl (ldb_sc Sc3 (H.blk (k := 2) rfl) rfl)) ?_
 obtain ⟨sd56z, hM⟩ := M.e_grd hM
 simp only [Bool.and_eq_true, decide_eq_true_eq] at sd56z
 refine s_val (x_ari (a := r00) (b := r__Delay_Hi) (r := r00 - r__Delay_Hi) rfl rfl rfl (by omega)) ?_
 refine s_val (x_fa (a := .pointer (some ⟨b_3, 0, none⟩)) (v := .pointer (some ⟨b_3, 1, none⟩)) rfl (fa_blk (o := 0) Fd26_1 Sz3)) ?_
 refine s_val (x_ld (p := .pointer (some ⟨b_3, 1, none⟩)) (v := I r01) rfl (ldb_sc Sc3 (H.blk (k := 0) rfl) rfl)) ?_
 refine s_val (x_fa (a := .pointer (some ⟨b_1, 0, none⟩)) (v := .pointer (some ⟨b_1, 4, none⟩)) rfl (fa_blk (o := 0) Fd37_4 Sz26)) ?_
 refine s_val (x_fa (a := .pointer (some ⟨b_1, 4, none⟩)) (v := .pointer (some ⟨b_1, 4, none⟩)) rfl (fa_blk (o := 4) Fd26_0 Sz3)) ?_
 refine s_val (x_ld (p := .pointer (some ⟨b_1, 4, none⟩)) (v := I r__Delay_Lo) rfl (ldb_sc Sc3 (H.blk (k := 2) rfl) rfl)) ?_
 obtain ⟨sd57z, hM⟩ := M.e_grd hM
 simp only [Bool.and_eq_true, decide_eq_true_eq] at sd57z
 refine s_val (x_ari (a := r01) (b := r__Delay_Lo) (r := r01 - r__Delay_Lo) rfl rfl rfl (by omega)) ?_
 refine s_val (x_bld (ps := [(0, I (r00 - r__Delay_Hi)), (1, I (r01 - r__Delay_Lo))]) (zs := [I 0, I 0]) (L' := [I (r00 - r__Delay_Hi), I (r01 - r__Delay_Lo)]) rfl Tryz.underlying26 Al26 rfl (Bd26 Tryz.underlying26) (.cons (cs := [I (r00 - r__Delay_Hi)]) rfl rfl rfl rfl rfl <| .cons (cs := [I (r01 - r__Delay_Lo)]) rfl rfl rfl rfl rfl <| .nil)) ?_
 refine t_sw 1 0 [I (r00 - r__Delay_Hi), I (r01 - r__Delay_Lo)] (.agg #[I (r00 - r__Delay_Hi), I (r01 - r__Delay_Lo)]) H rfl rfl Sz26 rfl rfl rfl rfl ?_
 intro w58z H
 refine s_val (x_as (v := I 0) rfl) ?_
 refine s_nil ?_
 replace H := H.pk [1]
 refine W.ret ?_
 have hb59z := (H.blk (k := 0) rfl)
 have hr_ := M.e_pure hM
 exact ⟨_, (resE_ofn (vs := [.agg #[I (r00 - r__Delay_Hi), I (r01 - r__Delay_Lo)], I 0]) rfl rfl (.cell (v := .agg #[I (r00 - r__Delay_Hi), I (r01 - r__Delay_Lo)]) rfl (run_loadVar_ag (ds := [I (r00 - r__Delay_Hi), I (r01 - r__Delay_Lo)]) Ag26 Sz26 hb59z rfl rfl) <| .tmp (v := I 0) rfl <| .nil)), ⟨(r00 - r__Delay_Hi), (r01 - r__Delay_Lo), 0, hr_, rfl, (H.pk [])⟩⟩

def zbN (r__Down : List Int) (r__Travel : List Span) (r__Springs : List Int) (r__Towns : List Town) (r__Delay_Lo : Int) (r__Delay_Hi : Int) (r__Floods : List Flood) (from_ : Int) (to_ : Int) (town : Int) (r0 : List Int) (r1 : List Span) (r22 : List Int) (r32 : List Town) (r4 : Int) (r5 : Int) (r6 : List Flood) (r02 : List Int) (r12 : List Span) (r23 : List Int) (r33 : List Town) (r42 : Int) (r52 : Int) (r62 : List Flood) : M Bool :=
  M.bind (zaq r0 r1 r22 r32 r4 r5 r6) fun r7 =>
  M.bind (zaH r02 r12 r23 r33 r42 r52 r62) fun r8 =>
  bif r7 != r8 then (
  M.pure false)
  else (
  M.bind (zar r0 r1 r22 r32 r4 r5 r6 from_) fun (r03, r13) =>
  M.bind (zaQ r02 r12 r23 r33 r42 r52 r62 from_) fun (r04, r14) =>
  M.bind (M.opt (!(r13 != r14)) (zad r03 r04) false) fun r9 =>
  bif ((r13 != r14) || (!r9)) then (
  M.pure false)
  else (
  M.bind (zaM r0 r1 r22 r32 r4 r5 r6 from_ to_) fun (r00, r01, r15) =>
  M.bind (za1 r02 r12 r23 r33 r42 r52 r62 from_ to_) fun (r002, r012, r16) =>
  bif ((r15 != r16) || (!(decide ((⟨(r00 : Int), (r01 : Int)⟩ : Span) = (⟨(r002 : Int), (r012 : Int)⟩ : Span))))) then (
  M.pure false)
  else (
  M.bind (zaw r0 r1 r22 r32 r4 r5 r6 from_ town) fun (r003, r013, r17) =>
  M.bind (zaB r02 r12 r23 r33 r42 r52 r62 from_ town) fun (r004, r014, r18) =>
  M.bind (M.opt ((r17 == r18) && (decide ((⟨(r003 : Int), (r013 : Int)⟩ : Span) = (⟨(r004 : Int), (r014 : Int)⟩ : Span)))) (zbO r0 r1 r22 r32 r4 r5 r6 r__Down r__Travel r__Springs r__Towns r__Delay_Lo r__Delay_Hi r__Floods) false) fun r10 =>
  M.bind (M.opt (((r17 == r18) && (decide ((⟨(r003 : Int), (r013 : Int)⟩ : Span) = (⟨(r004 : Int), (r014 : Int)⟩ : Span)))) && r10) (zbL) false) fun r11 =>
  M.pure ((((r17 == r18) && (decide ((⟨(r003 : Int), (r013 : Int)⟩ : Span) = (⟨(r004 : Int), (r014 : Int)⟩ : Span)))) && r10) && r11))))
def zcm (r__Down : List Int) (r__Travel : List Span) (r__Springs : List Int) (r__Towns : List Town) (r__Delay_Lo : Int) (r__Delay_Hi : Int) (r__Floods : List Flood) (from_ : Int) (to_ : Int) (town : Int) : M Bool :=
  M.bind (zbw r__Down r__Travel r__Springs r__Towns r__Delay_Lo r__Delay_Hi r__Floods) fun r2 =>
  bif r2 then (
  M.bind (zbL) fun r3 =>
  M.pure r3)
  else (
  M.bind (zbM r__Down r__Travel r__Springs r__Towns r__Delay_Lo r__Delay_Hi r__Floods) fun (r0, r1, r22, r32, r4, r5, r6) =>
  M.bind (zbS r__Down r__Travel r__Springs r__Towns r__Delay_Lo r__Delay_Hi r__Floods) fun (r02, r12, r23, r33, r42, r52, r62) =>
  zbN r__Down r__Travel r__Springs r__Towns r__Delay_Lo r__Delay_Hi r__Floods from_ to_ town r0 r1 r22 r32 r4 r5 r6 r02 r12 r23 r33 r42 r52 r62)
theorem zc4 {R : List Chunk} {C_r__Down : Cells} {v_r__Down : Value} {C_r__Travel : Cells} {v_r__Travel : Value} {C_r__Springs : Cells} {v_r__Springs : Value} {C_r__Towns : Cells} {v_r__Towns : Value} {C_r__Floods : Cells} {v_r__Floods : Value} (r__Down : List Int) (r__Travel : List Span) (r__Springs : List Int) (r__Towns : List Town) (r__Delay_Lo : Int) (r__Delay_Hi : Int) (r__Floods : List Flood) (from_ : Int) (to_ : Int) (town : Int) (hC_r__Down : Reads R C_r__Down) (hs_r__Down : Sl C_r__Down v_r__Down r__Down) (hC_r__Travel : Reads R C_r__Travel) (hs_r__Travel : Sl C_r__Travel v_r__Travel r__Travel) (hC_r__Springs : Reads R C_r__Springs) (hs_r__Springs : Sl C_r__Springs v_r__Springs r__Springs) (hC_r__Towns : Reads R C_r__Towns) (hs_r__Towns : Sl C_r__Towns v_r__Towns r__Towns) (hC_r__Floods : Reads R C_r__Floods) (hs_r__Floods : Sl C_r__Floods v_r__Floods r__Floods) {r : Bool} (hM : (zcm r__Down r__Travel r__Springs r__Towns r__Delay_Lo r__Delay_Hi r__Floods from_ to_ town).Ends r) (w : World) (H : St w w [] R) : Ret Tryz.prog 4 #[.agg #[v_r__Down, v_r__Travel, v_r__Springs, v_r__Towns, I r__Delay_Lo, I r__Delay_Hi, v_r__Floods], I from_, I to_, I town] w fun v w' => ∃ (y0 : Bool), y0 = r /\ v = B y0 /\ St w w' [] R := by
 refine ret_of_W Tryz.func4 rfl rfl rfl ?_
 refine W.seq ?_
 refine W.region rfl ?_
 refine t_box (v := .agg #[v_r__Down, v_r__Travel, v_r__Springs, v_r__Towns, I r__Delay_Lo, I r__Delay_Hi, v_r__Floods]) (cs := [v_r__Down, v_r__Travel, v_r__Springs, v_r__Towns, I r__Delay_Lo, I r__Delay_Hi, v_r__Floods]) H rfl rfl ?_
 intro b_1 w1z H
 refine s_val (x_as (v := B false) rfl) ?_
 refine s_nil ?_
 refine W.seq ?_
 refine W.seq ?_
 refine W.region rfl ?_
 refine s_val (x_ld (p := .pointer (some ⟨b_1, 0, none⟩)) (v := .agg #[v_r__Down, v_r__Travel, v_r__Springs, v_r__Towns, I r__Delay_Lo, I r__Delay_Hi, v_r__Floods]) rfl (ldb_ag (ds := [v_r__Down, v_r__Travel, v_r__Springs, v_r__Towns, I r__Delay_Lo, I r__Delay_Hi, v_r__Floods]) Ag29 Sz29 (H.blk (k := 0) rfl) rfl rfl)) ?_
 obtain ⟨r3z, hx2z, hM⟩ := M.e_bind hM
 refine s_call cf6 [.agg #[v_r__Down, v_r__Travel, v_r__Springs, v_r__Towns, I r__Delay_Lo, I r__Delay_Hi, v_r__Floods]] rfl (zdm r__Down r__Travel r__Springs r__Towns r__Delay_Lo r__Delay_Hi r__Floods (hC_r__Down.app _) hs_r__Down (hC_r__Travel.app _) hs_r__Travel (hC_r__Springs.app _) hs_r__Springs (hC_r__Towns.app _) hs_r__Towns (hC_r__Floods.app _) hs_r__Floods hx2z _ (H.gt 1)) ?_
 rintro vq w4z ⟨r2, hr5z, hvq, H2_⟩
 subst hr5z
 subst vq
 try dsimp only at hM
 replace H := H.bk H2_
 clear H2_
 refine s_nil ?_
 refine W.cond r2 rfl (fun c6z => ?_) (fun c6z => ?_)
 ·replace hM := M.e_t hM c6z
  refine W.seq ?_
  refine W.region rfl ?_
  obtain ⟨r8z, hx7z, hM⟩ := M.e_bind hM
  refine s_call cf7 [] rfl (zcJ hx7z _ (H.gt 1)) ?_
  rintro vq w9z ⟨r3, hr10z, hvq, H2_⟩
  subst hr10z
  subst vq
  try dsimp only at hM
  replace H := H.bk H2_
  clear H2_
  refine s_val (x_as (v := B r3) rfl) ?_
  refine s_nil ?_
  refine W.ret ?_
  have hr_ := M.e_pure hM
  exact ⟨_, resE_tmp rfl, ⟨r3, hr_, rfl, (H.pk [])⟩⟩
 replace hM := M.e_f hM c6z
 refine W.skip ?_
 refine W.seqJ (fun σ W => ∃ (b_16 : Nat) (b_17 : Nat) (r0 : List Int) (r1 : List Span) (r22 : List Int) (r32 : List Town) (r4 : Int) (r5 : Int) (r6 : List Flood) (r02 : List Int) (r12 : List Span) (r23 : List Int) (r33 : List Town) (r42 : Int) (r52 : Int) (r62 : List Flood) (u0_9 : Value) (u1_10 : Value) (u2_11 : Value) (u3_12 : Value) (u4_13 : Value) (u0_2 : Value) (u1_3 : Value) (u2_4 : Value) (u3_5 : Value) (u4_6 : Value) (rr5_14 : List (Raw 1)) (Bs6_15 : Base) (rr5_7 : List (Raw 1)) (Bs6_8 : Base) (ρ : Env), σ = upds ρ [(1, I from_), (2, I to_), (3, I town), (4, .pointer (some ⟨b_1, 0, none⟩)), (9, .pointer (some ⟨b_16, 0, none⟩)), (10, .pointer (some ⟨b_17, 0, none⟩))] /\ (zbN r__Down r__Travel r__Springs r__Towns r__Delay_Lo r__Delay_Hi r__Floods from_ to_ town r0 r1 r22 r32 r4 r5 r6 r02 r12 r23 r33 r42 r52 r62).Ends r /\ St w W [cBlk b_17 [u0_9, u1_10, u2_11, u3_12, I r42, I r52, u4_13] 37, cBlk b_16 [u0_2, u1_3, u2_4, u3_5, I r4, I r5, u4_6] 29, cOwn (α := Int) 3 u0_9 r02, cOwn (α := Span) 26 u1_10 r12, cOwn (α := Int) 3 u2_11 r23, cOwn (α := Town) 92 u3_12 r33, cOwn (α := Raw 1) 93 u4_13 rr5_14, cRo Bs6_15, cOwn (α := Int) 3 u0_2 r0, cOwn (α := Span) 26 u1_3 r1, cOwn (α := Int) 3 u2_4 r22, cOwn (α := Town) 91 u3_5 r32, cOwn (α := Raw 1) 85 u4_6 rr5_7, cRo Bs6_8, cBlk b_1 [v_r__Down, v_r__Travel, v_r__Springs, v_r__Towns, I r__Delay_Lo, I r__Delay_Hi, v_r__Floods] 29] R /\ RepR (α := Flood) (Cells.sup C_r__Floods Bs6_15.cells) rr5_14 r62 /\ RepR (α := Flood) Bs6_8.cells rr5_7 r6) ?_ ?_
 ·skip
  refine W.drawT (fun W => St w W [cBlk b_1 [v_r__Down, v_r__Travel, v_r__Springs, v_r__Towns, I r__Delay_Lo, I r__Delay_Hi, v_r__Floods] 29] R) (.q 0 (.q 2 (.l3 1 (.l3 3 (.l2 4 (.l 5 (.l 6 (.l 7 .nil))) 5 (.l 4 (.l 6 (.l 7 .nil)))) 4 (.l2 3 (.l 5 (.l 6 (.l 7 .nil))) 5 (.l 3 (.l 6 (.l 7 .nil)))) 5 (.l2 3 (.l 4 (.l 6 (.l 7 .nil))) 4 (.l 3 (.l 6 (.l 7 .nil))))) 4 (.l2 1 (.l2 3 (.l 5 (.l 6 (.l 7 .nil))) 5 (.l 3 (.l 6 (.l 7 .nil)))) 5 (.l 1 (.l 3 (.l 6 (.l 7 .nil))))) 5 (.l2 1 (.l2 3 (.l 4 (.l 6 (.l 7 .nil))) 4 (.l 3 (.l 6 (.l 7 .nil)))) 4 (.l 1 (.l 3 (.l 6 (.l 7 .nil)))))))) mixed (by decide +kernel) rfl ?_
  intro w11z hx_
  replace H := H.ext hx_
  clear hx_
  refine ⟨(H.pk [0]), ?_⟩
  refine t_q rfl (fun w' H => x_ld (p := .pointer (some ⟨b_1, 0, none⟩)) (v := .agg #[v_r__Down, v_r__Travel, v_r__Springs, v_r__Towns, I r__Delay_Lo, I r__Delay_Hi, v_r__Floods]) rfl (ldb_ag (ds := [v_r__Down, v_r__Travel, v_r__Springs, v_r__Towns, I r__Delay_Lo, I r__Delay_Hi, v_r__Floods]) Ag29 Sz29 (H.blk (k := 0) rfl) rfl rfl)) ?_
  refine t_q rfl (fun w' H => x_ld (p := .pointer (some ⟨b_1, 0, none⟩)) (v := .agg #[v_r__Down, v_r__Travel, v_r__Springs, v_r__Towns, I r__Delay_Lo, I r__Delay_Hi, v_r__Floods]) rfl (ldb_ag (ds := [v_r__Down, v_r__Travel, v_r__Springs, v_r__Towns, I r__Delay_Lo, I r__Delay_Hi, v_r__Floods]) Ag29 Sz29 (H.blk (k := 0) rfl) rfl rfl)) ?_
  refine t_l3 rfl rfl rfl ?_ ?_ ?_
  ·skip
   obtain ⟨r20z, hx19z, hM⟩ := M.e_bind hM
   refine s_call cf8 [.agg #[v_r__Down, v_r__Travel, v_r__Springs, v_r__Towns, I r__Delay_Lo, I r__Delay_Hi, v_r__Floods]] rfl (zbi r__Down r__Travel r__Springs r__Towns r__Delay_Lo r__Delay_Hi r__Floods (hC_r__Down.app _) hs_r__Down (hC_r__Travel.app _) hs_r__Travel (hC_r__Springs.app _) hs_r__Springs (hC_r__Towns.app _) hs_r__Towns (hC_r__Floods.app _) hs_r__Floods hx19z _ (H.gt 1)) ?_
   rintro vq w21z ⟨r0, r1, r22, r32, r4, r5, r6, u0_2, u1_3, u2_4, u3_5, u4_6, rr5_7, Bs6_8, hr22z, hvq, H2_, hf23z⟩
   subst hr22z
   subst vq
   try dsimp only at hM
   replace H := H.bk H2_
   clear H2_
   have hvc_q24z := Sl.cells (ownSl (H.get (k := 0) rfl))
   have hvo_q24z := Sl.oc (ownSl (H.get (k := 0) rfl))
   have hvc_q25z := Sl.cells (ownSl (H.get (k := 1) rfl))
   have hvo_q25z := Sl.oc (ownSl (H.get (k := 1) rfl))
   have hvc_q26z := Sl.cells (ownSl (H.get (k := 2) rfl))
   have hvo_q26z := Sl.oc (ownSl (H.get (k := 2) rfl))
   have hvc_q27z := Sl.cells (ownSl (H.get (k := 3) rfl))
   have hvo_q27z := Sl.oc (ownSl (H.get (k := 3) rfl))
   have hvc_q28z := Sl.cells (ownSl (H.get (k := 4) rfl))
   have hvo_q28z := Sl.oc (ownSl (H.get (k := 4) rfl))
   refine s_nil ⟨(H.pk [6]), ?_⟩
   refine t_l3 rfl rfl rfl ?_ ?_ ?_
   ·skip
    obtain ⟨r37z, hx36z, hM⟩ := M.e_bind hM
    refine s_call cf10 [.agg #[v_r__Down, v_r__Travel, v_r__Springs, v_r__Towns, I r__Delay_Lo, I r__Delay_Hi, v_r__Floods]] rfl (zam r__Down r__Travel r__Springs r__Towns r__Delay_Lo r__Delay_Hi r__Floods (hC_r__Down.app _) hs_r__Down (hC_r__Travel.app _) hs_r__Travel (hC_r__Springs.app _) hs_r__Springs (hC_r__Towns.app _) hs_r__Towns (hC_r__Floods.app _) hs_r__Floods hx36z _ (H.gt 7)) ?_
    rintro vq w38z ⟨r02, r12, r23, r33, r42, r52, r62, u0_9, u1_10, u2_11, u3_12, u4_13, rr5_14, Bs6_15, hr39z, hvq, H2_, hf40z⟩
    subst hr39z
    subst vq
    try dsimp only at hM
    replace H := H.bk H2_
    clear H2_
    have hvc_q41z := Sl.cells (ownSl (H.get (k := 0) rfl))
    have hvo_q41z := Sl.oc (ownSl (H.get (k := 0) rfl))
    have hvc_q42z := Sl.cells (ownSl (H.get (k := 1) rfl))
    have hvo_q42z := Sl.oc (ownSl (H.get (k := 1) rfl))
    have hvc_q43z := Sl.cells (ownSl (H.get (k := 2) rfl))
    have hvo_q43z := Sl.oc (ownSl (H.get (k := 2) rfl))
    have hvc_q44z := Sl.cells (ownSl (H.get (k := 3) rfl))
    have hvo_q44z := Sl.oc (ownSl (H.get (k := 3) rfl))
    have hvc_q45z := Sl.cells (ownSl (H.get (k := 4) rfl))
    have hvo_q45z := Sl.oc (ownSl (H.get (k := 4) rfl))
    refine s_nil ⟨(H.pk [12]), ?_⟩
    refine t_l2 rfl rfl ?_ ?_
    ·skip
     refine t_alloc (cs := [.slice none 0 0, .slice none 0 0, .slice none 0 0, .slice none 0 0, I 0, I 0, .slice none 0 0]) H Al29 rfl ?_
     intro b_16 w50z H
     refine s_nil ⟨(H.pk [13]), ?_⟩
     refine t_l rfl ?_
     refine t_alloc (cs := [.slice none 0 0, .slice none 0 0, .slice none 0 0, .slice none 0 0, I 0, I 0, .slice none 0 0]) H Al37 rfl ?_
     intro b_17 w51z H
     refine s_nil ⟨(H.pk [14]), ?_⟩
     refine t_l rfl ?_
     refine t_sw 1 0 [u0_2, u1_3, u2_4, u3_5, I r4, I r5, u4_6] (.agg #[u0_2, u1_3, u2_4, u3_5, I r4, I r5, u4_6]) H rfl rfl Sz29 rfl rfl rfl (by simp only [List.all_cons, List.all_nil, Bool.true_and, Bool.and_true, Sl.oc (ownSl (H.get (k := 8) rfl)), Sl.oc (ownSl (H.get (k := 9) rfl)), Sl.oc (ownSl (H.get (k := 10) rfl)), Sl.oc (ownSl (H.get (k := 11) rfl)), Sl.oc (rowSl rfl (H.get (k := 12) rfl) (roLe _ (H.get (k := 13) rfl)) hf23z)]; try rfl) ?_
     intro w52z H
     refine s_nil ⟨(H.pk [14]), ?_⟩
     refine t_l rfl ?_
     refine t_sw 0 0 [u0_9, u1_10, u2_11, u3_12, I r42, I r52, u4_13] (.agg #[u0_9, u1_10, u2_11, u3_12, I r42, I r52, u4_13]) H rfl rfl Sz37 rfl rfl rfl (by simp only [List.all_cons, List.all_nil, Bool.true_and, Bool.and_true, Sl.oc (ownSl (H.get (k := 2) rfl)), Sl.oc (ownSl (H.get (k := 3) rfl)), Sl.oc (ownSl (H.get (k := 4) rfl)), Sl.oc (ownSl (H.get (k := 5) rfl)), Sl.oc (rowSl rfl (H.get (k := 6) rfl) (Cells.sup_le (hC_r__Floods.at H) (roLe _ (H.get (k := 7) rfl))) hf40z)]; try rfl) ?_
     intro w53z H
     refine s_nil ⟨(H.pk [14]), ?_⟩
     refine t_nil ?_
     exact ⟨b_16, b_17, r0, r1, r22, r32, r4, r5, r6, r02, r12, r23, r33, r42, r52, r62, u0_9, u1_10, u2_11, u3_12, u4_13, u0_2, u1_3, u2_4, u3_5, u4_6, rr5_14, Bs6_15, rr5_7, Bs6_8, _, upds_of _ _ ⟨rfl, rfl, rfl, rfl, rfl, rfl, trivial⟩, hM, H, hf40z, hf23z⟩
    skip
    refine t_alloc (cs := [.slice none 0 0, .slice none 0 0, .slice none 0 0, .slice none 0 0, I 0, I 0, .slice none 0 0]) H Al37 rfl ?_
    intro b_17 w54z H
    refine s_nil ⟨(H.pk [13]), ?_⟩
    refine t_l rfl ?_
    refine t_alloc (cs := [.slice none 0 0, .slice none 0 0, .slice none 0 0, .slice none 0 0, I 0, I 0, .slice none 0 0]) H Al29 rfl ?_
    intro b_16 w55z H
    refine s_nil ⟨(H.pk [14]), ?_⟩
    refine t_l rfl ?_
    refine t_sw 0 0 [u0_2, u1_3, u2_4, u3_5, I r4, I r5, u4_6] (.agg #[u0_2, u1_3, u2_4, u3_5, I r4, I r5, u4_6]) H rfl rfl Sz29 rfl rfl rfl (by simp only [List.all_cons, List.all_nil, Bool.true_and, Bool.and_true, Sl.oc (ownSl (H.get (k := 8) rfl)), Sl.oc (ownSl (H.get (k := 9) rfl)), Sl.oc (ownSl (H.get (k := 10) rfl)), Sl.oc (ownSl (H.get (k := 11) rfl)), Sl.oc (rowSl rfl (H.get (k := 12) rfl) (roLe _ (H.get (k := 13) rfl)) hf23z)]; try rfl) ?_
    intro w56z H
    refine s_nil ⟨(H.pk [14]), ?_⟩
    refine t_l rfl ?_
    refine t_sw 1 0 [u0_9, u1_10, u2_11, u3_12, I r42, I r52, u4_13] (.agg #[u0_9, u1_10, u2_11, u3_12, I r42, I r52, u4_13]) H rfl rfl Sz37 rfl rfl rfl (by simp only [List.all_cons, List.all_nil, Bool.true_and, Bool.and_true, Sl.oc (ownSl (H.get (k := 2) rfl)), Sl.oc (ownSl (H.get (k := 3) rfl)), Sl.oc (ownSl (H.get (k := 4) rfl)), Sl.oc (ownSl (H.get (k := 5) rfl)), Sl.oc (rowSl rfl (H.get (k := 6) rfl) (Cells.sup_le (hC_r__Floods.at H) (roLe _ (H.get (k := 7) rfl))) hf40z)]; try rfl) ?_
    intro w57z H
    refine s_nil ⟨(H.pk [14]), ?_⟩
    refine t_nil ?_
    exact ⟨b_16, b_17, r0, r1, r22, r32, r4, r5, r6, r02, r12, r23, r33, r42, r52, r62, u0_9, u1_10, u2_11, u3_12, u4_13, u0_2, u1_3, u2_4, u3_5, u4_6, rr5_14, Bs6_15, rr5_7, Bs6_8, _, upds_of _ _ ⟨rfl, rfl, rfl, rfl, rfl, rfl, trivial⟩, hM, (H.pk [1, 0, 2, 3, 4, 5, 6, 7, 8, 9, 10, 11, 12, 13, 14]), hf40z, hf23z⟩
   ·skip
    refine t_alloc (cs := [.slice none 0 0, .slice none 0 0, .slice none 0 0, .slice none 0 0, I 0, I 0, .slice none 0 0]) H Al29 rfl ?_
    intro b_16 w58z H
    refine s_nil ⟨(H.pk [7]), ?_⟩
    refine t_l2 rfl rfl ?_ ?_
    ·skip
     obtain ⟨r74z, hx73z, hM⟩ := M.e_bind hM
     refine s_call cf10 [.agg #[v_r__Down, v_r__Travel, v_r__Springs, v_r__Towns, I r__Delay_Lo, I r__Delay_Hi, v_r__Floods]] rfl (zam r__Down r__Travel r__Springs r__Towns r__Delay_Lo r__Delay_Hi r__Floods (hC_r__Down.app _) hs_r__Down (hC_r__Travel.app _) hs_r__Travel (hC_r__Springs.app _) hs_r__Springs (hC_r__Towns.app _) hs_r__Towns (hC_r__Floods.app _) hs_r__Floods hx73z _ (H.gt 8)) ?_
     rintro vq w75z ⟨r02, r12, r23, r33, r42, r52, r62, u0_9, u1_10, u2_11, u3_12, u4_13, rr5_14, Bs6_15, hr76z, hvq, H2_, hf77z⟩
     subst hr76z
     subst vq
     try dsimp only at hM
     replace H := H.bk H2_
     clear H2_
     have hvc_q78z := Sl.cells (ownSl (H.get (k := 0) rfl))
     have hvo_q78z := Sl.oc (ownSl (H.get (k := 0) rfl))
     have hvc_q79z := Sl.cells (ownSl (H.get (k := 1) rfl))
     have hvo_q79z := Sl.oc (ownSl (H.get (k := 1) rfl))
     have hvc_q80z := Sl.cells (ownSl (H.get (k := 2) rfl))
     have hvo_q80z := Sl.oc (ownSl (H.get (k := 2) rfl))
     have hvc_q81z := Sl.cells (ownSl (H.get (k := 3) rfl))
     have hvo_q81z := Sl.oc (ownSl (H.get (k := 3) rfl))
     have hvc_q82z := Sl.cells (ownSl (H.get (k := 4) rfl))
     have hvo_q82z := Sl.oc (ownSl (H.get (k := 4) rfl))
     refine s_nil ⟨(H.pk [13]), ?_⟩
     refine t_l rfl ?_
     refine t_alloc (cs := [.slice none 0 0, .slice none 0 0, .slice none 0 0, .slice none 0 0, I 0, I 0, .slice none 0 0]) H Al37 rfl ?_
     intro b_17 w83z H
     refine s_nil ⟨(H.pk [14]), ?_⟩
     refine t_l rfl ?_
     refine t_sw 7 0 [u0_2, u1_3, u2_4, u3_5, I r4, I r5, u4_6] (.agg #[u0_2, u1_3, u2_4, u3_5, I r4, I r5, u4_6]) H rfl rfl Sz29 rfl rfl rfl (by simp only [List.all_cons, List.all_nil, Bool.true_and, Bool.and_true, Sl.oc (ownSl (H.get (k := 8) rfl)), Sl.oc (ownSl (H.get (k := 9) rfl)), Sl.oc (ownSl (H.get (k := 10) rfl)), Sl.oc (ownSl (H.get (k := 11) rfl)), Sl.oc (rowSl rfl (H.get (k := 12) rfl) (roLe _ (H.get (k := 13) rfl)) hf23z)]; try rfl) ?_
     intro w84z H
     refine s_nil ⟨(H.pk [14]), ?_⟩
     refine t_l rfl ?_
     refine t_sw 0 0 [u0_9, u1_10, u2_11, u3_12, I r42, I r52, u4_13] (.agg #[u0_9, u1_10, u2_11, u3_12, I r42, I r52, u4_13]) H rfl rfl Sz37 rfl rfl rfl (by simp only [List.all_cons, List.all_nil, Bool.true_and, Bool.and_true, Sl.oc (ownSl (H.get (k := 1) rfl)), Sl.oc (ownSl (H.get (k := 2) rfl)), Sl.oc (ownSl (H.get (k := 3) rfl)), Sl.oc (ownSl (H.get (k := 4) rfl)), Sl.oc (rowSl rfl (H.get (k := 5) rfl) (Cells.sup_le (hC_r__Floods.at H) (roLe _ (H.get (k := 6) rfl))) hf77z)]; try rfl) ?_
     intro w85z H
     refine s_nil ⟨(H.pk [14]), ?_⟩
     refine t_nil ?_
     exact ⟨b_16, b_17, r0, r1, r22, r32, r4, r5, r6, r02, r12, r23, r33, r42, r52, r62, u0_9, u1_10, u2_11, u3_12, u4_13, u0_2, u1_3, u2_4, u3_5, u4_6, rr5_14, Bs6_15, rr5_7, Bs6_8, _, upds_of _ _ ⟨rfl, rfl, rfl, rfl, rfl, rfl, trivial⟩, hM, (H.pk [0, 7, 1, 2, 3, 4, 5, 6, 8, 9, 10, 11, 12, 13, 14]), hf77z, hf23z⟩
    skip
    refine t_alloc (cs := [.slice none 0 0, .slice none 0 0, .slice none 0 0, .slice none 0 0, I 0, I 0, .slice none 0 0]) H Al37 rfl ?_
    intro b_17 w86z H
    refine s_nil ⟨(H.pk [8]), ?_⟩
    refine t_l rfl ?_
    obtain ⟨r88z, hx87z, hM⟩ := M.e_bind hM
    refine s_call cf10 [.agg #[v_r__Down, v_r__Travel, v_r__Springs, v_r__Towns, I r__Delay_Lo, I r__Delay_Hi, v_r__Floods]] rfl (zam r__Down r__Travel r__Springs r__Towns r__Delay_Lo r__Delay_Hi r__Floods (hC_r__Down.app _) hs_r__Down (hC_r__Travel.app _) hs_r__Travel (hC_r__Springs.app _) hs_r__Springs (hC_r__Towns.app _) hs_r__Towns (hC_r__Floods.app _) hs_r__Floods hx87z _ (H.gt 9)) ?_
    rintro vq w89z ⟨r02, r12, r23, r33, r42, r52, r62, u0_9, u1_10, u2_11, u3_12, u4_13, rr5_14, Bs6_15, hr90z, hvq, H2_, hf91z⟩
    subst hr90z
    subst vq
    try dsimp only at hM
    replace H := H.bk H2_
    clear H2_
    have hvc_q92z := Sl.cells (ownSl (H.get (k := 0) rfl))
    have hvo_q92z := Sl.oc (ownSl (H.get (k := 0) rfl))
    have hvc_q93z := Sl.cells (ownSl (H.get (k := 1) rfl))
    have hvo_q93z := Sl.oc (ownSl (H.get (k := 1) rfl))
    have hvc_q94z := Sl.cells (ownSl (H.get (k := 2) rfl))
    have hvo_q94z := Sl.oc (ownSl (H.get (k := 2) rfl))
    have hvc_q95z := Sl.cells (ownSl (H.get (k := 3) rfl))
    have hvo_q95z := Sl.oc (ownSl (H.get (k := 3) rfl))
    have hvc_q96z := Sl.cells (ownSl (H.get (k := 4) rfl))
    have hvo_q96z := Sl.oc (ownSl (H.get (k := 4) rfl))
    refine s_nil ⟨(H.pk [14]), ?_⟩
    refine t_l rfl ?_
    refine t_sw 7 0 [u0_2, u1_3, u2_4, u3_5, I r4, I r5, u4_6] (.agg #[u0_2, u1_3, u2_4, u3_5, I r4, I r5, u4_6]) H rfl rfl Sz29 rfl rfl rfl (by simp only [List.all_cons, List.all_nil, Bool.true_and, Bool.and_true, Sl.oc (ownSl (H.get (k := 8) rfl)), Sl.oc (ownSl (H.get (k := 9) rfl)), Sl.oc (ownSl (H.get (k := 10) rfl)), Sl.oc (ownSl (H.get (k := 11) rfl)), Sl.oc (rowSl rfl (H.get (k := 12) rfl) (roLe _ (H.get (k := 13) rfl)) hf23z)]; try rfl) ?_
    intro w97z H
    refine s_nil ⟨(H.pk [14]), ?_⟩
    refine t_l rfl ?_
    refine t_sw 6 0 [u0_9, u1_10, u2_11, u3_12, I r42, I r52, u4_13] (.agg #[u0_9, u1_10, u2_11, u3_12, I r42, I r52, u4_13]) H rfl rfl Sz37 rfl rfl rfl (by simp only [List.all_cons, List.all_nil, Bool.true_and, Bool.and_true, Sl.oc (ownSl (H.get (k := 0) rfl)), Sl.oc (ownSl (H.get (k := 1) rfl)), Sl.oc (ownSl (H.get (k := 2) rfl)), Sl.oc (ownSl (H.get (k := 3) rfl)), Sl.oc (rowSl rfl (H.get (k := 4) rfl) (Cells.sup_le (hC_r__Floods.at H) (roLe _ (H.get (k := 5) rfl))) hf91z)]; try rfl) ?_
    intro w98z H
    refine s_nil ⟨(H.pk [14]), ?_⟩
    refine t_nil ?_
    exact ⟨b_16, b_17, r0, r1, r22, r32, r4, r5, r6, r02, r12, r23, r33, r42, r52, r62, u0_9, u1_10, u2_11, u3_12, u4_13, u0_2, u1_3, u2_4, u3_5, u4_6, rr5_14, Bs6_15, rr5_7, Bs6_8, _, upds_of _ _ ⟨rfl, rfl, rfl, rfl, rfl, rfl, trivial⟩, hM, (H.pk [6, 7, 0, 1, 2, 3, 4, 5, 8, 9, 10, 11, 12, 13, 14]), hf91z, hf23z⟩
   skip
   refine t_alloc (cs := [.slice none 0 0, .slice none 0 0, .slice none 0 0, .slice none 0 0, I 0, I 0, .slice none 0 0]) H Al37 rfl ?_
   intro b_17 w99z H
   refine s_nil ⟨(H.pk [7]), ?_⟩
   refine t_l2 rfl rfl ?_ ?_
   ·skip
    obtain ⟨r115z, hx114z, hM⟩ := M.e_bind hM
    refine s_call cf10 [.agg #[v_r__Down, v_r__Travel, v_r__Springs, v_r__Towns, I r__Delay_Lo, I r__Delay_Hi, v_r__Floods]] rfl (zam r__Down r__Travel r__Springs r__Towns r__Delay_Lo r__Delay_Hi r__Floods (hC_r__Down.app _) hs_r__Down (hC_r__Travel.app _) hs_r__Travel (hC_r__Springs.app _) hs_r__Springs (hC_r__Towns.app _) hs_r__Towns (hC_r__Floods.app _) hs_r__Floods hx114z _ (H.gt 8)) ?_
    rintro vq w116z ⟨r02, r12, r23, r33, r42, r52, r62, u0_9, u1_10, u2_11, u3_12, u4_13, rr5_14, Bs6_15, hr117z, hvq, H2_, hf118z⟩
    subst hr117z
    subst vq
    try dsimp only at hM
    replace H := H.bk H2_
    clear H2_
    have hvc_q119z := Sl.cells (ownSl (H.get (k := 0) rfl))
    have hvo_q119z := Sl.oc (ownSl (H.get (k := 0) rfl))
    have hvc_q120z := Sl.cells (ownSl (H.get (k := 1) rfl))
    have hvo_q120z := Sl.oc (ownSl (H.get (k := 1) rfl))
    have hvc_q121z := Sl.cells (ownSl (H.get (k := 2) rfl))
    have hvo_q121z := Sl.oc (ownSl (H.get (k := 2) rfl))
    have hvc_q122z := Sl.cells (ownSl (H.get (k := 3) rfl))
    have hvo_q122z := Sl.oc (ownSl (H.get (k := 3) rfl))
    have hvc_q123z := Sl.cells (ownSl (H.get (k := 4) rfl))
    have hvo_q123z := Sl.oc (ownSl (H.get (k := 4) rfl))
    refine s_nil ⟨(H.pk [13]), ?_⟩
    refine t_l rfl ?_
    refine t_alloc (cs := [.slice none 0 0, .slice none 0 0, .slice none 0 0, .slice none 0 0, I 0, I 0, .slice none 0 0]) H Al29 rfl ?_
    intro b_16 w124z H
    refine s_nil ⟨(H.pk [14]), ?_⟩
    refine t_l rfl ?_
    refine t_sw 0 0 [u0_2, u1_3, u2_4, u3_5, I r4, I r5, u4_6] (.agg #[u0_2, u1_3, u2_4, u3_5, I r4, I r5, u4_6]) H rfl rfl Sz29 rfl rfl rfl (by simp only [List.all_cons, List.all_nil, Bool.true_and, Bool.and_true, Sl.oc (ownSl (H.get (k := 8) rfl)), Sl.oc (ownSl (H.get (k := 9) rfl)), Sl.oc (ownSl (H.get (k := 10) rfl)), Sl.oc (ownSl (H.get (k := 11) rfl)), Sl.oc (rowSl rfl (H.get (k := 12) rfl) (roLe _ (H.get (k := 13) rfl)) hf23z)]; try rfl) ?_
    intro w125z H
    refine s_nil ⟨(H.pk [14]), ?_⟩
    refine t_l rfl ?_
    refine t_sw 7 0 [u0_9, u1_10, u2_11, u3_12, I r42, I r52, u4_13] (.agg #[u0_9, u1_10, u2_11, u3_12, I r42, I r52, u4_13]) H rfl rfl Sz37 rfl rfl rfl (by simp only [List.all_cons, List.all_nil, Bool.true_and, Bool.and_true, Sl.oc (ownSl (H.get (k := 1) rfl)), Sl.oc (ownSl (H.get (k := 2) rfl)), Sl.oc (ownSl (H.get (k := 3) rfl)), Sl.oc (ownSl (H.get (k := 4) rfl)), Sl.oc (rowSl rfl (H.get (k := 5) rfl) (Cells.sup_le (hC_r__Floods.at H) (roLe _ (H.get (k := 6) rfl))) hf118z)]; try rfl) ?_
    intro w126z H
    refine s_nil ⟨(H.pk [14]), ?_⟩
    refine t_nil ?_
    exact ⟨b_16, b_17, r0, r1, r22, r32, r4, r5, r6, r02, r12, r23, r33, r42, r52, r62, u0_9, u1_10, u2_11, u3_12, u4_13, u0_2, u1_3, u2_4, u3_5, u4_6, rr5_14, Bs6_15, rr5_7, Bs6_8, _, upds_of _ _ ⟨rfl, rfl, rfl, rfl, rfl, rfl, trivial⟩, hM, (H.pk [7, 0, 1, 2, 3, 4, 5, 6, 8, 9, 10, 11, 12, 13, 14]), hf118z, hf23z⟩
   skip
   refine t_alloc (cs := [.slice none 0 0, .slice none 0 0, .slice none 0 0, .slice none 0 0, I 0, I 0, .slice none 0 0]) H Al29 rfl ?_
   intro b_16 w127z H
   refine s_nil ⟨(H.pk [8]), ?_⟩
   refine t_l rfl ?_
   obtain ⟨r129z, hx128z, hM⟩ := M.e_bind hM
   refine s_call cf10 [.agg #[v_r__Down, v_r__Travel, v_r__Springs, v_r__Towns, I r__Delay_Lo, I r__Delay_Hi, v_r__Floods]] rfl (zam r__Down r__Travel r__Springs r__Towns r__Delay_Lo r__Delay_Hi r__Floods (hC_r__Down.app _) hs_r__Down (hC_r__Travel.app _) hs_r__Travel (hC_r__Springs.app _) hs_r__Springs (hC_r__Towns.app _) hs_r__Towns (hC_r__Floods.app _) hs_r__Floods hx128z _ (H.gt 9)) ?_
   rintro vq w130z ⟨r02, r12, r23, r33, r42, r52, r62, u0_9, u1_10, u2_11, u3_12, u4_13, rr5_14, Bs6_15, hr131z, hvq, H2_, hf132z⟩
   subst hr131z
   subst vq
   try dsimp only at hM
   replace H := H.bk H2_
   clear H2_
   have hvc_q133z := Sl.cells (ownSl (H.get (k := 0) rfl))
   have hvo_q133z := Sl.oc (ownSl (H.get (k := 0) rfl))
   have hvc_q134z := Sl.cells (ownSl (H.get (k := 1) rfl))
   have hvo_q134z := Sl.oc (ownSl (H.get (k := 1) rfl))
   have hvc_q135z := Sl.cells (ownSl (H.get (k := 2) rfl))
   have hvo_q135z := Sl.oc (ownSl (H.get (k := 2) rfl))
   have hvc_q136z := Sl.cells (ownSl (H.get (k := 3) rfl))
   have hvo_q136z := Sl.oc (ownSl (H.get (k := 3) rfl))
   have hvc_q137z := Sl.cells (ownSl (H.get (k := 4) rfl))
   have hvo_q137z := Sl.oc (ownSl (H.get (k := 4) rfl))
   refine s_nil ⟨(H.pk [14]), ?_⟩
   refine t_l rfl ?_
   refine t_sw 6 0 [u0_2, u1_3, u2_4, u3_5, I r4, I r5, u4_6] (.agg #[u0_2, u1_3, u2_4, u3_5, I r4, I r5, u4_6]) H rfl rfl Sz29 rfl rfl rfl (by simp only [List.all_cons, List.all_nil, Bool.true_and, Bool.and_true, Sl.oc (ownSl (H.get (k := 8) rfl)), Sl.oc (ownSl (H.get (k := 9) rfl)), Sl.oc (ownSl (H.get (k := 10) rfl)), Sl.oc (ownSl (H.get (k := 11) rfl)), Sl.oc (rowSl rfl (H.get (k := 12) rfl) (roLe _ (H.get (k := 13) rfl)) hf23z)]; try rfl) ?_
   intro w138z H
   refine s_nil ⟨(H.pk [14]), ?_⟩
   refine t_l rfl ?_
   refine t_sw 7 0 [u0_9, u1_10, u2_11, u3_12, I r42, I r52, u4_13] (.agg #[u0_9, u1_10, u2_11, u3_12, I r42, I r52, u4_13]) H rfl rfl Sz37 rfl rfl rfl (by simp only [List.all_cons, List.all_nil, Bool.true_and, Bool.and_true, Sl.oc (ownSl (H.get (k := 0) rfl)), Sl.oc (ownSl (H.get (k := 1) rfl)), Sl.oc (ownSl (H.get (k := 2) rfl)), Sl.oc (ownSl (H.get (k := 3) rfl)), Sl.oc (rowSl rfl (H.get (k := 4) rfl) (Cells.sup_le (hC_r__Floods.at H) (roLe _ (H.get (k := 5) rfl))) hf132z)]; try rfl) ?_
   intro w139z H
   refine s_nil ⟨(H.pk [14]), ?_⟩
   refine t_nil ?_
   exact ⟨b_16, b_17, r0, r1, r22, r32, r4, r5, r6, r02, r12, r23, r33, r42, r52, r62, u0_9, u1_10, u2_11, u3_12, u4_13, u0_2, u1_3, u2_4, u3_5, u4_6, rr5_14, Bs6_15, rr5_7, Bs6_8, _, upds_of _ _ ⟨rfl, rfl, rfl, rfl, rfl, rfl, trivial⟩, hM, (H.pk [7, 6, 0, 1, 2, 3, 4, 5, 8, 9, 10, 11, 12, 13, 14]), hf132z, hf23z⟩
  ·skip
   refine t_alloc (cs := [.slice none 0 0, .slice none 0 0, .slice none 0 0, .slice none 0 0, I 0, I 0, .slice none 0 0]) H Al29 rfl ?_
   intro b_16 w140z H
   refine s_nil ⟨(H.pk [1]), ?_⟩
   refine t_l2 rfl rfl ?_ ?_
   ·skip
    obtain ⟨r161z, hx160z, hM⟩ := M.e_bind hM
    refine s_call cf8 [.agg #[v_r__Down, v_r__Travel, v_r__Springs, v_r__Towns, I r__Delay_Lo, I r__Delay_Hi, v_r__Floods]] rfl (zbi r__Down r__Travel r__Springs r__Towns r__Delay_Lo r__Delay_Hi r__Floods (hC_r__Down.app _) hs_r__Down (hC_r__Travel.app _) hs_r__Travel (hC_r__Springs.app _) hs_r__Springs (hC_r__Towns.app _) hs_r__Towns (hC_r__Floods.app _) hs_r__Floods hx160z _ (H.gt 2)) ?_
    rintro vq w162z ⟨r0, r1, r22, r32, r4, r5, r6, u0_2, u1_3, u2_4, u3_5, u4_6, rr5_7, Bs6_8, hr163z, hvq, H2_, hf164z⟩
    subst hr163z
    subst vq
    try dsimp only at hM
    replace H := H.bk H2_
    clear H2_
    have hvc_q165z := Sl.cells (ownSl (H.get (k := 0) rfl))
    have hvo_q165z := Sl.oc (ownSl (H.get (k := 0) rfl))
    have hvc_q166z := Sl.cells (ownSl (H.get (k := 1) rfl))
    have hvo_q166z := Sl.oc (ownSl (H.get (k := 1) rfl))
    have hvc_q167z := Sl.cells (ownSl (H.get (k := 2) rfl))
    have hvo_q167z := Sl.oc (ownSl (H.get (k := 2) rfl))
    have hvc_q168z := Sl.cells (ownSl (H.get (k := 3) rfl))
    have hvo_q168z := Sl.oc (ownSl (H.get (k := 3) rfl))
    have hvc_q169z := Sl.cells (ownSl (H.get (k := 4) rfl))
    have hvo_q169z := Sl.oc (ownSl (H.get (k := 4) rfl))
    refine s_nil ⟨(H.pk [7]), ?_⟩
    refine t_l2 rfl rfl ?_ ?_
    ·skip
     obtain ⟨r185z, hx184z, hM⟩ := M.e_bind hM
     refine s_call cf10 [.agg #[v_r__Down, v_r__Travel, v_r__Springs, v_r__Towns, I r__Delay_Lo, I r__Delay_Hi, v_r__Floods]] rfl (zam r__Down r__Travel r__Springs r__Towns r__Delay_Lo r__Delay_Hi r__Floods (hC_r__Down.app _) hs_r__Down (hC_r__Travel.app _) hs_r__Travel (hC_r__Springs.app _) hs_r__Springs (hC_r__Towns.app _) hs_r__Towns (hC_r__Floods.app _) hs_r__Floods hx184z _ (H.gt 8)) ?_
     rintro vq w186z ⟨r02, r12, r23, r33, r42, r52, r62, u0_9, u1_10, u2_11, u3_12, u4_13, rr5_14, Bs6_15, hr187z, hvq, H2_, hf188z⟩
     subst hr187z
     subst vq
     try dsimp only at hM
     replace H := H.bk H2_
     clear H2_
     have hvc_q189z := Sl.cells (ownSl (H.get (k := 0) rfl))
     have hvo_q189z := Sl.oc (ownSl (H.get (k := 0) rfl))
     have hvc_q190z := Sl.cells (ownSl (H.get (k := 1) rfl))
     have hvo_q190z := Sl.oc (ownSl (H.get (k := 1) rfl))
     have hvc_q191z := Sl.cells (ownSl (H.get (k := 2) rfl))
     have hvo_q191z := Sl.oc (ownSl (H.get (k := 2) rfl))
     have hvc_q192z := Sl.cells (ownSl (H.get (k := 3) rfl))
     have hvo_q192z := Sl.oc (ownSl (H.get (k := 3) rfl))
     have hvc_q193z := Sl.cells (ownSl (H.get (k := 4) rfl))
     have hvo_q193z := Sl.oc (ownSl (H.get (k := 4) rfl))
     refine s_nil ⟨(H.pk [13]), ?_⟩
     refine t_l rfl ?_
     refine t_alloc (cs := [.slice none 0 0, .slice none 0 0, .slice none 0 0, .slice none 0 0, I 0, I 0, .slice none 0 0]) H Al37 rfl ?_
     intro b_17 w194z H
     refine s_nil ⟨(H.pk [14]), ?_⟩
     refine t_l rfl ?_
     refine t_sw 13 0 [u0_2, u1_3, u2_4, u3_5, I r4, I r5, u4_6] (.agg #[u0_2, u1_3, u2_4, u3_5, I r4, I r5, u4_6]) H rfl rfl Sz29 rfl rfl rfl (by simp only [List.all_cons, List.all_nil, Bool.true_and, Bool.and_true, Sl.oc (ownSl (H.get (k := 7) rfl)), Sl.oc (ownSl (H.get (k := 8) rfl)), Sl.oc (ownSl (H.get (k := 9) rfl)), Sl.oc (ownSl (H.get (k := 10) rfl)), Sl.oc (rowSl rfl (H.get (k := 11) rfl) (roLe _ (H.get (k := 12) rfl)) hf164z)]; try rfl) ?_
     intro w195z H
     refine s_nil ⟨(H.pk [14]), ?_⟩
     refine t_l rfl ?_
     refine t_sw 0 0 [u0_9, u1_10, u2_11, u3_12, I r42, I r52, u4_13] (.agg #[u0_9, u1_10, u2_11, u3_12, I r42, I r52, u4_13]) H rfl rfl Sz37 rfl rfl rfl (by simp only [List.all_cons, List.all_nil, Bool.true_and, Bool.and_true, Sl.oc (ownSl (H.get (k := 1) rfl)), Sl.oc (ownSl (H.get (k := 2) rfl)), Sl.oc (ownSl (H.get (k := 3) rfl)), Sl.oc (ownSl (H.get (k := 4) rfl)), Sl.oc (rowSl rfl (H.get (k := 5) rfl) (Cells.sup_le (hC_r__Floods.at H) (roLe _ (H.get (k := 6) rfl))) hf188z)]; try rfl) ?_
     intro w196z H
     refine s_nil ⟨(H.pk [14]), ?_⟩
     refine t_nil ?_
     exact ⟨b_16, b_17, r0, r1, r22, r32, r4, r5, r6, r02, r12, r23, r33, r42, r52, r62, u0_9, u1_10, u2_11, u3_12, u4_13, u0_2, u1_3, u2_4, u3_5, u4_6, rr5_14, Bs6_15, rr5_7, Bs6_8, _, upds_of _ _ ⟨rfl, rfl, rfl, rfl, rfl, rfl, trivial⟩, hM, (H.pk [0, 13, 1, 2, 3, 4, 5, 6, 7, 8, 9, 10, 11, 12, 14]), hf188z, hf164z⟩
    skip
    refine t_alloc (cs := [.slice none 0 0, .slice none 0 0, .slice none 0 0, .slice none 0 0, I 0, I 0, .slice none 0 0]) H Al37 rfl ?_
    intro b_17 w197z H
    refine s_nil ⟨(H.pk [8]), ?_⟩
    refine t_l rfl ?_
    obtain ⟨r199z, hx198z, hM⟩ := M.e_bind hM
    refine s_call cf10 [.agg #[v_r__Down, v_r__Travel, v_r__Springs, v_r__Towns, I r__Delay_Lo, I r__Delay_Hi, v_r__Floods]] rfl (zam r__Down r__Travel r__Springs r__Towns r__Delay_Lo r__Delay_Hi r__Floods (hC_r__Down.app _) hs_r__Down (hC_r__Travel.app _) hs_r__Travel (hC_r__Springs.app _) hs_r__Springs (hC_r__Towns.app _) hs_r__Towns (hC_r__Floods.app _) hs_r__Floods hx198z _ (H.gt 9)) ?_
    rintro vq w200z ⟨r02, r12, r23, r33, r42, r52, r62, u0_9, u1_10, u2_11, u3_12, u4_13, rr5_14, Bs6_15, hr201z, hvq, H2_, hf202z⟩
    subst hr201z
    subst vq
    try dsimp only at hM
    replace H := H.bk H2_
    clear H2_
    have hvc_q203z := Sl.cells (ownSl (H.get (k := 0) rfl))
    have hvo_q203z := Sl.oc (ownSl (H.get (k := 0) rfl))
    have hvc_q204z := Sl.cells (ownSl (H.get (k := 1) rfl))
    have hvo_q204z := Sl.oc (ownSl (H.get (k := 1) rfl))
    have hvc_q205z := Sl.cells (ownSl (H.get (k := 2) rfl))
    have hvo_q205z := Sl.oc (ownSl (H.get (k := 2) rfl))
    have hvc_q206z := Sl.cells (ownSl (H.get (k := 3) rfl))
    have hvo_q206z := Sl.oc (ownSl (H.get (k := 3) rfl))
    have hvc_q207z := Sl.cells (ownSl (H.get (k := 4) rfl))
    have hvo_q207z := Sl.oc (ownSl (H.get (k := 4) rfl))
    refine s_nil ⟨(H.pk [14]), ?_⟩
    refine t_l rfl ?_
    refine t_sw 13 0 [u0_2, u1_3, u2_4, u3_5, I r4, I r5, u4_6] (.agg #[u0_2, u1_3, u2_4, u3_5, I r4, I r5, u4_6]) H rfl rfl Sz29 rfl rfl rfl (by simp only [List.all_cons, List.all_nil, Bool.true_and, Bool.and_true, Sl.oc (ownSl (H.get (k := 7) rfl)), Sl.oc (ownSl (H.get (k := 8) rfl)), Sl.oc (ownSl (H.get (k := 9) rfl)), Sl.oc (ownSl (H.get (k := 10) rfl)), Sl.oc (rowSl rfl (H.get (k := 11) rfl) (roLe _ (H.get (k := 12) rfl)) hf164z)]; try rfl) ?_
    intro w208z H
    refine s_nil ⟨(H.pk [14]), ?_⟩
    refine t_l rfl ?_
    refine t_sw 6 0 [u0_9, u1_10, u2_11, u3_12, I r42, I r52, u4_13] (.agg #[u0_9, u1_10, u2_11, u3_12, I r42, I r52, u4_13]) H rfl rfl Sz37 rfl rfl rfl (by simp only [List.all_cons, List.all_nil, Bool.true_and, Bool.and_true, Sl.oc (ownSl (H.get (k := 0) rfl)), Sl.oc (ownSl (H.get (k := 1) rfl)), Sl.oc (ownSl (H.get (k := 2) rfl)), Sl.oc (ownSl (H.get (k := 3) rfl)), Sl.oc (rowSl rfl (H.get (k := 4) rfl) (Cells.sup_le (hC_r__Floods.at H) (roLe _ (H.get (k := 5) rfl))) hf202z)]; try rfl) ?_
    intro w209z H
    refine s_nil ⟨(H.pk [14]), ?_⟩
    refine t_nil ?_
    exact ⟨b_16, b_17, r0, r1, r22, r32, r4, r5, r6, r02, r12, r23, r33, r42, r52, r62, u0_9, u1_10, u2_11, u3_12, u4_13, u0_2, u1_3, u2_4, u3_5, u4_6, rr5_14, Bs6_15, rr5_7, Bs6_8, _, upds_of _ _ ⟨rfl, rfl, rfl, rfl, rfl, rfl, trivial⟩, hM, (H.pk [6, 13, 0, 1, 2, 3, 4, 5, 7, 8, 9, 10, 11, 12, 14]), hf202z, hf164z⟩
   skip
   refine t_alloc (cs := [.slice none 0 0, .slice none 0 0, .slice none 0 0, .slice none 0 0, I 0, I 0, .slice none 0 0]) H Al37 rfl ?_
   intro b_17 w210z H
   refine s_nil ⟨(H.pk [2]), ?_⟩
   refine t_l rfl ?_
   obtain ⟨r212z, hx211z, hM⟩ := M.e_bind hM
   refine s_call cf8 [.agg #[v_r__Down, v_r__Travel, v_r__Springs, v_r__Towns, I r__Delay_Lo, I r__Delay_Hi, v_r__Floods]] rfl (zbi r__Down r__Travel r__Springs r__Towns r__Delay_Lo r__Delay_Hi r__Floods (hC_r__Down.app _) hs_r__Down (hC_r__Travel.app _) hs_r__Travel (hC_r__Springs.app _) hs_r__Springs (hC_r__Towns.app _) hs_r__Towns (hC_r__Floods.app _) hs_r__Floods hx211z _ (H.gt 3)) ?_
   rintro vq w213z ⟨r0, r1, r22, r32, r4, r5, r6, u0_2, u1_3, u2_4, u3_5, u4_6, rr5_7, Bs6_8, hr214z, hvq, H2_, hf215z⟩
   subst hr214z
   subst vq
   try dsimp only at hM
   replace H := H.bk H2_
   clear H2_
   have hvc_q216z := Sl.cells (ownSl (H.get (k := 0) rfl))
   have hvo_q216z := Sl.oc (ownSl (H.get (k := 0) rfl))
   have hvc_q217z := Sl.cells (ownSl (H.get (k := 1) rfl))
   have hvo_q217z := Sl.oc (ownSl (H.get (k := 1) rfl))
   have hvc_q218z := Sl.cells (ownSl (H.get (k := 2) rfl))
   have hvo_q218z := Sl.oc (ownSl (H.get (k := 2) rfl))
   have hvc_q219z := Sl.cells (ownSl (H.get (k := 3) rfl))
   have hvo_q219z := Sl.oc (ownSl (H.get (k := 3) rfl))
   have hvc_q220z := Sl.cells (ownSl (H.get (k := 4) rfl))
   have hvo_q220z := Sl.oc (ownSl (H.get (k := 4) rfl))
   refine s_nil ⟨(H.pk [8]), ?_⟩
   refine t_l rfl ?_
   obtain ⟨r222z, hx221z, hM⟩ := M.e_bind hM
   refine s_call cf10 [.agg #[v_r__Down, v_r__Travel, v_r__Springs, v_r__Towns, I r__Delay_Lo, I r__Delay_Hi, v_r__Floods]] rfl (zam r__Down r__Travel r__Springs r__Towns r__Delay_Lo r__Delay_Hi r__Floods (hC_r__Down.app _) hs_r__Down (hC_r__Travel.app _) hs_r__Travel (hC_r__Springs.app _) hs_r__Springs (hC_r__Towns.app _) hs_r__Towns (hC_r__Floods.app _) hs_r__Floods hx221z _ (H.gt 9)) ?_
   rintro vq w223z ⟨r02, r12, r23, r33, r42, r52, r62, u0_9, u1_10, u2_11, u3_12, u4_13, rr5_14, Bs6_15, hr224z, hvq, H2_, hf225z⟩
   subst hr224z
   subst vq
   try dsimp only at hM
   replace H := H.bk H2_
   clear H2_
   have hvc_q226z := Sl.cells (ownSl (H.get (k := 0) rfl))
   have hvo_q226z := Sl.oc (ownSl (H.get (k := 0) rfl))
   have hvc_q227z := Sl.cells (ownSl (H.get (k := 1) rfl))
   have hvo_q227z := Sl.oc (ownSl (H.get (k := 1) rfl))
   have hvc_q228z := Sl.cells (ownSl (H.get (k := 2) rfl))
   have hvo_q228z := Sl.oc (ownSl (H.get (k := 2) rfl))
   have hvc_q229z := Sl.cells (ownSl (H.get (k := 3) rfl))
   have hvo_q229z := Sl.oc (ownSl (H.get (k := 3) rfl))
   have hvc_q230z := Sl.cells (ownSl (H.get (k := 4) rfl))
   have hvo_q230z := Sl.oc (ownSl (H.get (k := 4) rfl))
   refine s_nil ⟨(H.pk [14]), ?_⟩
   refine t_l rfl ?_
   refine t_sw 13 0 [u0_2, u1_3, u2_4, u3_5, I r4, I r5, u4_6] (.agg #[u0_2, u1_3, u2_4, u3_5, I r4, I r5, u4_6]) H rfl rfl Sz29 rfl rfl rfl (by simp only [List.all_cons, List.all_nil, Bool.true_and, Bool.and_true, Sl.oc (ownSl (H.get (k := 6) rfl)), Sl.oc (ownSl (H.get (k := 7) rfl)), Sl.oc (ownSl (H.get (k := 8) rfl)), Sl.oc (ownSl (H.get (k := 9) rfl)), Sl.oc (rowSl rfl (H.get (k := 10) rfl) (roLe _ (H.get (k := 11) rfl)) hf215z)]; try rfl) ?_
   intro w231z H
   refine s_nil ⟨(H.pk [14]), ?_⟩
   refine t_l rfl ?_
   refine t_sw 12 0 [u0_9, u1_10, u2_11, u3_12, I r42, I r52, u4_13] (.agg #[u0_9, u1_10, u2_11, u3_12, I r42, I r52, u4_13]) H rfl rfl Sz37 rfl rfl rfl (by simp only [List.all_cons, List.all_nil, Bool.true_and, Bool.and_true, Sl.oc (ownSl (H.get (k := 0) rfl)), Sl.oc (ownSl (H.get (k := 1) rfl)), Sl.oc (ownSl (H.get (k := 2) rfl)), Sl.oc (ownSl (H.get (k := 3) rfl)), Sl.oc (rowSl rfl (H.get (k := 4) rfl) (Cells.sup_le (hC_r__Floods.at H) (roLe _ (H.get (k := 5) rfl))) hf225z)]; try rfl) ?_
   intro w232z H
   refine s_nil ⟨(H.pk [14]), ?_⟩
   refine t_nil ?_
   exact ⟨b_16, b_17, r0, r1, r22, r32, r4, r5, r6, r02, r12, r23, r33, r42, r52, r62, u0_9, u1_10, u2_11, u3_12, u4_13, u0_2, u1_3, u2_4, u3_5, u4_6, rr5_14, Bs6_15, rr5_7, Bs6_8, _, upds_of _ _ ⟨rfl, rfl, rfl, rfl, rfl, rfl, trivial⟩, hM, (H.pk [12, 13, 0, 1, 2, 3, 4, 5, 6, 7, 8, 9, 10, 11, 14]), hf225z, hf215z⟩
  skip
  refine t_alloc (cs := [.slice none 0 0, .slice none 0 0, .slice none 0 0, .slice none 0 0, I 0, I 0, .slice none 0 0]) H Al37 rfl ?_
  intro b_17 w233z H
  refine s_nil ⟨(H.pk [1]), ?_⟩
  refine t_l2 rfl rfl ?_ ?_
  ·skip
   obtain ⟨r254z, hx253z, hM⟩ := M.e_bind hM
   refine s_call cf8 [.agg #[v_r__Down, v_r__Travel, v_r__Springs, v_r__Towns, I r__Delay_Lo, I r__Delay_Hi, v_r__Floods]] rfl (zbi r__Down r__Travel r__Springs r__Towns r__Delay_Lo r__Delay_Hi r__Floods (hC_r__Down.app _) hs_r__Down (hC_r__Travel.app _) hs_r__Travel (hC_r__Springs.app _) hs_r__Springs (hC_r__Towns.app _) hs_r__Towns (hC_r__Floods.app _) hs_r__Floods hx253z _ (H.gt 2)) ?_
   rintro vq w255z ⟨r0, r1, r22, r32, r4, r5, r6, u0_2, u1_3, u2_4, u3_5, u4_6, rr5_7, Bs6_8, hr256z, hvq, H2_, hf257z⟩
   subst hr256z
   subst vq
   try dsimp only at hM
   replace H := H.bk H2_
   clear H2_
   have hvc_q258z := Sl.cells (ownSl (H.get (k := 0) rfl))
   have hvo_q258z := Sl.oc (ownSl (H.get (k := 0) rfl))
   have hvc_q259z := Sl.cells (ownSl (H.get (k := 1) rfl))
   have hvo_q259z := Sl.oc (ownSl (H.get (k := 1) rfl))
   have hvc_q260z := Sl.cells (ownSl (H.get (k := 2) rfl))
   have hvo_q260z := Sl.oc (ownSl (H.get (k := 2) rfl))
   have hvc_q261z := Sl.cells (ownSl (H.get (k := 3) rfl))
   have hvo_q261z := Sl.oc (ownSl (H.get (k := 3) rfl))
   have hvc_q262z := Sl.cells (ownSl (H.get (k := 4) rfl))
   have hvo_q262z := Sl.oc (ownSl (H.get (k := 4) rfl))
   refine s_nil ⟨(H.pk [7]), ?_⟩
   refine t_l2 rfl rfl ?_ ?_
   ·skip
    obtain ⟨r278z, hx277z, hM⟩ := M.e_bind hM
    refine s_call cf10 [.agg #[v_r__Down, v_r__Travel, v_r__Springs, v_r__Towns, I r__Delay_Lo, I r__Delay_Hi, v_r__Floods]] rfl (zam r__Down r__Travel r__Springs r__Towns r__Delay_Lo r__Delay_Hi r__Floods (hC_r__Down.app _) hs_r__Down (hC_r__Travel.app _) hs_r__Travel (hC_r__Springs.app _) hs_r__Springs (hC_r__Towns.app _) hs_r__Towns (hC_r__Floods.app _) hs_r__Floods hx277z _ (H.gt 8)) ?_
    rintro vq w279z ⟨r02, r12, r23, r33, r42, r52, r62, u0_9, u1_10, u2_11, u3_12, u4_13, rr5_14, Bs6_15, hr280z, hvq, H2_, hf281z⟩
    subst hr280z
    subst vq
    try dsimp only at hM
    replace H := H.bk H2_
    clear H2_
    have hvc_q282z := Sl.cells (ownSl (H.get (k := 0) rfl))
    have hvo_q282z := Sl.oc (ownSl (H.get (k := 0) rfl))
    have hvc_q283z := Sl.cells (ownSl (H.get (k := 1) rfl))
    have hvo_q283z := Sl.oc (ownSl (H.get (k := 1) rfl))
    have hvc_q284z := Sl.cells (ownSl (H.get (k := 2) rfl))
    have hvo_q284z := Sl.oc (ownSl (H.get (k := 2) rfl))
    have hvc_q285z := Sl.cells (ownSl (H.get (k := 3) rfl))
    have hvo_q285z := Sl.oc (ownSl (H.get (k := 3) rfl))
    have hvc_q286z := Sl.cells (ownSl (H.get (k := 4) rfl))
    have hvo_q286z := Sl.oc (ownSl (H.get (k := 4) rfl))
    refine s_nil ⟨(H.pk [13]), ?_⟩
    refine t_l rfl ?_
    refine t_alloc (cs := [.slice none 0 0, .slice none 0 0, .slice none 0 0, .slice none 0 0, I 0, I 0, .slice none 0 0]) H Al29 rfl ?_
    intro b_16 w287z H
    refine s_nil ⟨(H.pk [14]), ?_⟩
    refine t_l rfl ?_
    refine t_sw 0 0 [u0_2, u1_3, u2_4, u3_5, I r4, I r5, u4_6] (.agg #[u0_2, u1_3, u2_4, u3_5, I r4, I r5, u4_6]) H rfl rfl Sz29 rfl rfl rfl (by simp only [List.all_cons, List.all_nil, Bool.true_and, Bool.and_true, Sl.oc (ownSl (H.get (k := 7) rfl)), Sl.oc (ownSl (H.get (k := 8) rfl)), Sl.oc (ownSl (H.get (k := 9) rfl)), Sl.oc (ownSl (H.get (k := 10) rfl)), Sl.oc (rowSl rfl (H.get (k := 11) rfl) (roLe _ (H.get (k := 12) rfl)) hf257z)]; try rfl) ?_
    intro w288z H
    refine s_nil ⟨(H.pk [14]), ?_⟩
    refine t_l rfl ?_
    refine t_sw 13 0 [u0_9, u1_10, u2_11, u3_12, I r42, I r52, u4_13] (.agg #[u0_9, u1_10, u2_11, u3_12, I r42, I r52, u4_13]) H rfl rfl Sz37 rfl rfl rfl (by simp only [List.all_cons, List.all_nil, Bool.true_and, Bool.and_true, Sl.oc (ownSl (H.get (k := 1) rfl)), Sl.oc (ownSl (H.get (k := 2) rfl)), Sl.oc (ownSl (H.get (k := 3) rfl)), Sl.oc (ownSl (H.get (k := 4) rfl)), Sl.oc (rowSl rfl (H.get (k := 5) rfl) (Cells.sup_le (hC_r__Floods.at H) (roLe _ (H.get (k := 6) rfl))) hf281z)]; try rfl) ?_
    intro w289z H
    refine s_nil ⟨(H.pk [14]), ?_⟩
    refine t_nil ?_
    exact ⟨b_16, b_17, r0, r1, r22, r32, r4, r5, r6, r02, r12, r23, r33, r42, r52, r62, u0_9, u1_10, u2_11, u3_12, u4_13, u0_2, u1_3, u2_4, u3_5, u4_6, rr5_14, Bs6_15, rr5_7, Bs6_8, _, upds_of _ _ ⟨rfl, rfl, rfl, rfl, rfl, rfl, trivial⟩, hM, (H.pk [13, 0, 1, 2, 3, 4, 5, 6, 7, 8, 9, 10, 11, 12, 14]), hf281z, hf257z⟩
   skip
   refine t_alloc (cs := [.slice none 0 0, .slice none 0 0, .slice none 0 0, .slice none 0 0, I 0, I 0, .slice none 0 0]) H Al29 rfl ?_
   intro b_16 w290z H
   refine s_nil ⟨(H.pk [8]), ?_⟩
   refine t_l rfl ?_
   obtain ⟨r292z, hx291z, hM⟩ := M.e_bind hM
   refine s_call cf10 [.agg #[v_r__Down, v_r__Travel, v_r__Springs, v_r__Towns, I r__Delay_Lo, I r__Delay_Hi, v_r__Floods]] rfl (zam r__Down r__Travel r__Springs r__Towns r__Delay_Lo r__Delay_Hi r__Floods (hC_r__Down.app _) hs_r__Down (hC_r__Travel.app _) hs_r__Travel (hC_r__Springs.app _) hs_r__Springs (hC_r__Towns.app _) hs_r__Towns (hC_r__Floods.app _) hs_r__Floods hx291z _ (H.gt 9)) ?_
   rintro vq w293z ⟨r02, r12, r23, r33, r42, r52, r62, u0_9, u1_10, u2_11, u3_12, u4_13, rr5_14, Bs6_15, hr294z, hvq, H2_, hf295z⟩
   subst hr294z
   subst vq
   try dsimp only at hM
   replace H := H.bk H2_
   clear H2_
   have hvc_q296z := Sl.cells (ownSl (H.get (k := 0) rfl))
   have hvo_q296z := Sl.oc (ownSl (H.get (k := 0) rfl))
   have hvc_q297z := Sl.cells (ownSl (H.get (k := 1) rfl))
   have hvo_q297z := Sl.oc (ownSl (H.get (k := 1) rfl))
   have hvc_q298z := Sl.cells (ownSl (H.get (k := 2) rfl))
   have hvo_q298z := Sl.oc (ownSl (H.get (k := 2) rfl))
   have hvc_q299z := Sl.cells (ownSl (H.get (k := 3) rfl))
   have hvo_q299z := Sl.oc (ownSl (H.get (k := 3) rfl))
   have hvc_q300z := Sl.cells (ownSl (H.get (k := 4) rfl))
   have hvo_q300z := Sl.oc (ownSl (H.get (k := 4) rfl))
   refine s_nil ⟨(H.pk [14]), ?_⟩
   refine t_l rfl ?_
   refine t_sw 6 0 [u0_2, u1_3, u2_4, u3_5, I r4, I r5, u4_6] (.agg #[u0_2, u1_3, u2_4, u3_5, I r4, I r5, u4_6]) H rfl rfl Sz29 rfl rfl rfl (by simp only [List.all_cons, List.all_nil, Bool.true_and, Bool.and_true, Sl.oc (ownSl (H.get (k := 7) rfl)), Sl.oc (ownSl (H.get (k := 8) rfl)), Sl.oc (ownSl (H.get (k := 9) rfl)), Sl.oc (ownSl (H.get (k := 10) rfl)), Sl.oc (rowSl rfl (H.get (k := 11) rfl) (roLe _ (H.get (k := 12) rfl)) hf257z)]; try rfl) ?_
   intro w301z H
   refine s_nil ⟨(H.pk [14]), ?_⟩
   refine t_l rfl ?_
   refine t_sw 13 0 [u0_9, u1_10, u2_11, u3_12, I r42, I r52, u4_13] (.agg #[u0_9, u1_10, u2_11, u3_12, I r42, I r52, u4_13]) H rfl rfl Sz37 rfl rfl rfl (by simp only [List.all_cons, List.all_nil, Bool.true_and, Bool.and_true, Sl.oc (ownSl (H.get (k := 0) rfl)), Sl.oc (ownSl (H.get (k := 1) rfl)), Sl.oc (ownSl (H.get (k := 2) rfl)), Sl.oc (ownSl (H.get (k := 3) rfl)), Sl.oc (rowSl rfl (H.get (k := 4) rfl) (Cells.sup_le (hC_r__Floods.at H) (roLe _ (H.get (k := 5) rfl))) hf295z)]; try rfl) ?_
   intro w302z H
   refine s_nil ⟨(H.pk [14]), ?_⟩
   refine t_nil ?_
   exact ⟨b_16, b_17, r0, r1, r22, r32, r4, r5, r6, r02, r12, r23, r33, r42, r52, r62, u0_9, u1_10, u2_11, u3_12, u4_13, u0_2, u1_3, u2_4, u3_5, u4_6, rr5_14, Bs6_15, rr5_7, Bs6_8, _, upds_of _ _ ⟨rfl, rfl, rfl, rfl, rfl, rfl, trivial⟩, hM, (H.pk [13, 6, 0, 1, 2, 3, 4, 5, 7, 8, 9, 10, 11, 12, 14]), hf295z, hf257z⟩
  skip
  refine t_alloc (cs := [.slice none 0 0, .slice none 0 0, .slice none 0 0, .slice none 0 0, I 0, I 0, .slice none 0 0]) H Al29 rfl ?_
  intro b_16 w303z H
  refine s_nil ⟨(H.pk [2]), ?_⟩
  refine t_l rfl ?_
  obtain ⟨r305z, hx304z, hM⟩ := M.e_bind hM
  refine s_call cf8 [.agg #[v_r__Down, v_r__Travel, v_r__Springs, v_r__Towns, I r__Delay_Lo, I r__Delay_Hi, v_r__Floods]] rfl (zbi r__Down r__Travel r__Springs r__Towns r__Delay_Lo r__Delay_Hi r__Floods (hC_r__Down.app _) hs_r__Down (hC_r__Travel.app _) hs_r__Travel (hC_r__Springs.app _) hs_r__Springs (hC_r__Towns.app _) hs_r__Towns (hC_r__Floods.app _) hs_r__Floods hx304z _ (H.gt 3)) ?_
  rintro vq w306z ⟨r0, r1, r22, r32, r4, r5, r6, u0_2, u1_3, u2_4, u3_5, u4_6, rr5_7, Bs6_8, hr307z, hvq, H2_, hf308z⟩
  subst hr307z
  subst vq
  try dsimp only at hM
  replace H := H.bk H2_
  clear H2_
  have hvc_q309z := Sl.cells (ownSl (H.get (k := 0) rfl))
  have hvo_q309z := Sl.oc (ownSl (H.get (k := 0) rfl))
  have hvc_q310z := Sl.cells (ownSl (H.get (k := 1) rfl))
  have hvo_q310z := Sl.oc (ownSl (H.get (k := 1) rfl))
  have hvc_q311z := Sl.cells (ownSl (H.get (k := 2) rfl))
  have hvo_q311z := Sl.oc (ownSl (H.get (k := 2) rfl))
  have hvc_q312z := Sl.cells (ownSl (H.get (k := 3) rfl))
  have hvo_q312z := Sl.oc (ownSl (H.get (k := 3) rfl))
  have hvc_q313z := Sl.cells (ownSl (H.get (k := 4) rfl))
  have hvo_q313z := Sl.oc (ownSl (H.get (k := 4) rfl))
  refine s_nil ⟨(H.pk [8]), ?_⟩
  refine t_l rfl ?_
  obtain ⟨r315z, hx314z, hM⟩ := M.e_bind hM
  refine s_call cf10 [.agg #[v_r__Down, v_r__Travel, v_r__Springs, v_r__Towns, I r__Delay_Lo, I r__Delay_Hi, v_r__Floods]] rfl (zam r__Down r__Travel r__Springs r__Towns r__Delay_Lo r__Delay_Hi r__Floods (hC_r__Down.app _) hs_r__Down (hC_r__Travel.app _) hs_r__Travel (hC_r__Springs.app _) hs_r__Springs (hC_r__Towns.app _) hs_r__Towns (hC_r__Floods.app _) hs_r__Floods hx314z _ (H.gt 9)) ?_
  rintro vq w316z ⟨r02, r12, r23, r33, r42, r52, r62, u0_9, u1_10, u2_11, u3_12, u4_13, rr5_14, Bs6_15, hr317z, hvq, H2_, hf318z⟩
  subst hr317z
  subst vq
  try dsimp only at hM
  replace H := H.bk H2_
  clear H2_
  have hvc_q319z := Sl.cells (ownSl (H.get (k := 0) rfl))
  have hvo_q319z := Sl.oc (ownSl (H.get (k := 0) rfl))
  have hvc_q320z := Sl.cells (ownSl (H.get (k := 1) rfl))
  have hvo_q320z := Sl.oc (ownSl (H.get (k := 1) rfl))
  have hvc_q321z := Sl.cells (ownSl (H.get (k := 2) rfl))
  have hvo_q321z := Sl.oc (ownSl (H.get (k := 2) rfl))
  have hvc_q322z := Sl.cells (ownSl (H.get (k := 3) rfl))
  have hvo_q322z := Sl.oc (ownSl (H.get (k := 3) rfl))
  have hvc_q323z := Sl.cells (ownSl (H.get (k := 4) rfl))
  have hvo_q323z := Sl.oc (ownSl (H.get (k := 4) rfl))
  refine s_nil ⟨(H.pk [14]), ?_⟩
  refine t_l rfl ?_
  refine t_sw 12 0 [u0_2, u1_3, u2_4, u3_5, I r4, I r5, u4_6] (.agg #[u0_2, u1_3, u2_4, u3_5, I r4, I r5, u4_6]) H rfl rfl Sz29 rfl rfl rfl (by simp only [List.all_cons, List.all_nil, Bool.true_and, Bool.and_true, Sl.oc (ownSl (H.get (k := 6) rfl)), Sl.oc (ownSl (H.get (k := 7) rfl)), Sl.oc (ownSl (H.get (k := 8) rfl)), Sl.oc (ownSl (H.get (k := 9) rfl)), Sl.oc (rowSl rfl (H.get (k := 10) rfl) (roLe _ (H.get (k := 11) rfl)) hf308z)]; try rfl) ?_
  intro w324z H
  refine s_nil ⟨(H.pk [14]), ?_⟩
  refine t_l rfl ?_
  refine t_sw 13 0 [u0_9, u1_10, u2_11, u3_12, I r42, I r52, u4_13] (.agg #[u0_9, u1_10, u2_11, u3_12, I r42, I r52, u4_13]) H rfl rfl Sz37 rfl rfl rfl (by simp only [List.all_cons, List.all_nil, Bool.true_and, Bool.and_true, Sl.oc (ownSl (H.get (k := 0) rfl)), Sl.oc (ownSl (H.get (k := 1) rfl)), Sl.oc (ownSl (H.get (k := 2) rfl)), Sl.oc (ownSl (H.get (k := 3) rfl)), Sl.oc (rowSl rfl (H.get (k := 4) rfl) (Cells.sup_le (hC_r__Floods.at H) (roLe _ (H.get (k := 5) rfl))) hf318z)]; try rfl) ?_
  intro w325z H
  refine s_nil ⟨(H.pk [14]), ?_⟩
  refine t_nil ?_
  exact ⟨b_16, b_17, r0, r1, r22, r32, r4, r5, r6, r02, r12, r23, r33, r42, r52, r62, u0_9, u1_10, u2_11, u3_12, u4_13, u0_2, u1_3, u2_4, u3_5, u4_6, rr5_14, Bs6_15, rr5_7, Bs6_8, _, upds_of _ _ ⟨rfl, rfl, rfl, rfl, rfl, rfl, trivial⟩, hM, (H.pk [13, 12, 0, 1, 2, 3, 4, 5, 6, 7, 8, 9, 10, 11, 14]), hf318z, hf308z⟩
 rintro _ w326z ⟨b_16, b_17, r0, r1, r22, r32, r4, r5, r6, r02, r12, r23, r33, r42, r52, r62, u0_9, u1_10, u2_11, u3_12, u4_13, u0_2, u1_3, u2_4, u3_5, u4_6, rr5_14, Bs6_15, rr5_7, Bs6_8, ρ, rfl, hM, H, hrj327z, hrj328z⟩
 unfold zbN at hM
 refine W.seq ?_
 refine W.seq ?_
 refine W.draw (fun W => St w W [cBlk b_17 [u0_9, u1_10, u2_11, u3_12, I r42, I r52, u4_13] 37, cBlk b_16 [u0_2, u1_3, u2_4, u3_5, I r4, I r5, u4_6] 29, cOwn (α := Int) 3 u0_9 r02, cOwn (α := Span) 26 u1_10 r12, cOwn (α := Int) 3 u2_11 r23, cOwn (α := Town) 92 u3_12 r33, cOwn (α := Raw 1) 93 u4_13 rr5_14, cRo Bs6_15, cOwn (α := Int) 3 u0_2 r0, cOwn (α := Span) 26 u1_3 r1, cOwn (α := Int) 3 u2_4 r22, cOwn (α := Town) 91 u3_5 r32, cOwn (α := Raw 1) 85 u4_6 rr5_7, cRo Bs6_8, cBlk b_1 [v_r__Down, v_r__Travel, v_r__Springs, v_r__Towns, I r__Delay_Lo, I r__Delay_Hi, v_r__Floods] 29] R) [(0, true), (2, true), (1, false), (3, false), (4, true)] mixed (by decide +kernel) rfl ?_
 intro w329z hx_
 replace H := H.ext hx_
 clear hx_
 refine ⟨(H.pk [0, 1, 2, 3, 4, 5, 6, 7, 8, 9, 10, 11, 12, 13, 14]), ?_⟩
 refine d_q rfl (fun w' H => x_ld (p := .pointer (some ⟨b_16, 0, none⟩)) (v := .agg #[u0_2, u1_3, u2_4, u3_5, I r4, I r5, u4_6]) rfl (ldb_ag (ds := [u0_2, u1_3, u2_4, u3_5, I r4, I r5, u4_6]) Ag29 Sz29 (H.blk (k := 1) rfl) rfl rfl)) ?_
 refine d_q rfl (fun w' H => x_ld (p := .pointer (some ⟨b_17, 0, none⟩)) (v := .agg #[u0_9, u1_10, u2_11, u3_12, I r42, I r52, u4_13]) rfl (ldb_ag (ds := [u0_9, u1_10, u2_11, u3_12, I r42, I r52, u4_13]) Ag37 Sz37 (H.blk (k := 0) rfl) rfl rfl)) ?_
 refine d_l rfl ?_
 obtain ⟨r331z, hx330z, hM⟩ := M.e_bind hM
 refine s_call cf19 [.agg #[u0_2, u1_3, u2_4, u3_5, I r4, I r5, u4_6]] rfl (zcQ r0 r1 r22 r32 r4 r5 r6 (Reads.of (k := 8) rfl ownLe) (ownSl (H.get (k := 8) rfl)) (Reads.of (k := 9) rfl ownLe) (ownSl (H.get (k := 9) rfl)) (Reads.of (k := 10) rfl ownLe) (ownSl (H.get (k := 10) rfl)) (Reads.of (k := 11) rfl ownLe) (ownSl (H.get (k := 11) rfl)) (Reads.sup (Reads.of (k := 12) rfl ownLe) (Reads.of (k := 13) rfl roLe)) (rowSl rfl (H.get (k := 12) rfl) (roLe _ (H.get (k := 13) rfl)) hrj328z) hx330z _ (H.gt 15)) ?_
 rintro vq w332z ⟨r7, hr333z, hvq, H2_⟩
 subst hr333z
 subst vq
 try dsimp only at hM
 replace H := H.bk H2_
 clear H2_
 refine s_nil ⟨(H.pk [0, 1, 2, 3, 4, 5, 6, 7, 8, 9, 10, 11, 12, 13, 14]), ?_⟩
 refine d_l rfl ?_
 obtain ⟨r335z, hx334z, hM⟩ := M.e_bind hM
 refine s_call cf20 [.agg #[u0_9, u1_10, u2_11, u3_12, I r42, I r52, u4_13]] rfl (zbK r02 r12 r23 r33 r42 r52 r62 (Reads.of (k := 2) rfl ownLe) (ownSl (H.get (k := 2) rfl)) (Reads.of (k := 3) rfl ownLe) (ownSl (H.get (k := 3) rfl)) (Reads.of (k := 4) rfl ownLe) (ownSl (H.get (k := 4) rfl)) (Reads.of (k := 5) rfl ownLe) (ownSl (H.get (k := 5) rfl)) (Reads.sup (Reads.of (k := 6) rfl ownLe) (Reads.sup (hC_r__Floods.app _) (Reads.of (k := 7) rfl roLe))) (rowSl rfl (H.get (k := 6) rfl) (Cells.sup_le (hC_r__Floods.at H) (roLe _ (H.get (k := 7) rfl))) hrj327z) hx334z _ (H.gt 15)) ?_
 rintro vq w336z ⟨r8, hr337z, hvq, H2_⟩
 subst hr337z
 subst vq
 try dsimp only at hM
 replace H := H.bk H2_
 clear H2_
 refine s_nil ⟨(H.pk [0, 1, 2, 3, 4, 5, 6, 7, 8, 9, 10, 11, 12, 13, 14]), ?_⟩
 refine d_q rfl (fun w' H => x_cmp (kd := .i64) (a := r7) (b := r8) (r := r7 != r8) rfl rfl rfl) ?_
 refine d_nil ?_
 refine W.cond (r7 != r8) rfl (fun c338z => ?_) (fun c338z => ?_)
 ·replace hM := M.e_t hM c338z
  simp only [decide_eq_true_eq, decide_eq_false_iff_not, beq_iff_eq, bne_iff_ne, beq_eq_false_iff_ne, bne_eq_false_iff_eq, ne_eq, Decidable.not_not] at c338z
  refine W.seq ?_
  refine W.region rfl ?_
  refine s_val (x_as (v := B false) rfl) ?_
  refine s_nil ?_
  replace H := H.pk []
  refine W.ret ?_
  have hr_ := M.e_pure hM
  exact ⟨_, resE_tmp rfl, ⟨false, hr_, rfl, H⟩⟩
 replace hM := M.e_f hM c338z
 simp only [decide_eq_true_eq, decide_eq_false_iff_not, beq_iff_eq, bne_iff_ne, beq_eq_false_iff_ne, bne_eq_false_iff_eq, ne_eq, Decidable.not_not] at c338z
 refine W.skip ?_
 refine W.seq ?_
 refine W.region rfl ?_
 refine s_val (x_ld (p := .pointer (some ⟨b_16, 0, none⟩)) (v := .agg #[u0_2, u1_3, u2_4, u3_5, I r4, I r5, u4_6]) rfl (ldb_ag (ds := [u0_2, u1_3, u2_4, u3_5, I r4, I r5, u4_6]) Ag29 Sz29 (H.blk (k := 1) rfl) rfl rfl)) ?_
 refine s_val (x_mv (v := I from_) rfl) ?_
 obtain ⟨r340z, hx339z, hM⟩ := M.e_bind hM
 refine s_call cf21 [.agg #[u0_2, u1_3, u2_4, u3_5, I r4, I r5, u4_6], I from_] rfl (zde r0 r1 r22 r32 r4 r5 r6 from_ (Reads.of (k := 8) rfl ownLe) (ownSl (H.get (k := 8) rfl)) (Reads.of (k := 9) rfl ownLe) (ownSl (H.get (k := 9) rfl)) (Reads.of (k := 10) rfl ownLe) (ownSl (H.get (k := 10) rfl)) (Reads.of (k := 11) rfl ownLe) (ownSl (H.get (k := 11) rfl)) (Reads.sup (Reads.of (k := 12) rfl ownLe) (Reads.of (k := 13) rfl roLe)) (rowSl rfl (H.get (k := 12) rfl) (roLe _ (H.get (k := 13) rfl)) hrj328z) hx339z _ (H.gt 15)) ?_
 rintro vq w341z ⟨r03, r13, u0_18, hr342z, hvq, H2_⟩
 subst hr342z
 subst vq
 try dsimp only at hM
 replace H := H.bk H2_
 clear H2_
 refine s_val (x_mv (v := .tuple #[u0_18, I r13]) rfl) ?_
 refine s_val (x_ext (vs := [u0_18, I r13]) (v := u0_18) rfl rfl) ?_
 refine s_val (x_ext (vs := [u0_18, I r13]) (v := I r13) rfl rfl) ?_
 refine s_val (x_as (v := u0_18) rfl) ?_
 refine s_val (x_as (v := I r13) rfl) ?_
 refine s_nil ?_
 refine W.seq ?_
 refine W.region rfl ?_
 refine s_val (x_ld (p := .pointer (some ⟨b_17, 0, none⟩)) (v := .agg #[u0_9, u1_10, u2_11, u3_12, I r42, I r52, u4_13]) rfl (ldb_ag (ds := [u0_9, u1_10, u2_11, u3_12, I r42, I r52, u4_13]) Ag37 Sz37 (H.blk (k := 1) rfl) rfl rfl)) ?_
 refine s_val (x_mv (v := I from_) rfl) ?_
 obtain ⟨r344z, hx343z, hM⟩ := M.e_bind hM
 refine s_call cf22 [.agg #[u0_9, u1_10, u2_11, u3_12, I r42, I r52, u4_13], I from_] rfl (zdh r02 r12 r23 r33 r42 r52 r62 from_ (Reads.of (k := 3) rfl ownLe) (ownSl (H.get (k := 3) rfl)) (Reads.of (k := 4) rfl ownLe) (ownSl (H.get (k := 4) rfl)) (Reads.of (k := 5) rfl ownLe) (ownSl (H.get (k := 5) rfl)) (Reads.of (k := 6) rfl ownLe) (ownSl (H.get (k := 6) rfl)) (Reads.sup (Reads.of (k := 7) rfl ownLe) (Reads.sup (hC_r__Floods.app _) (Reads.of (k := 8) rfl roLe))) (rowSl rfl (H.get (k := 7) rfl) (Cells.sup_le (hC_r__Floods.at H) (roLe _ (H.get (k := 8) rfl))) hrj327z) hx343z _ (H.gt 16)) ?_
 rintro vq w345z ⟨r04, r14, u0_19, hr346z, hvq, H2_⟩
 subst hr346z
 subst vq
 try dsimp only at hM
 replace H := H.bk H2_
 clear H2_
 refine s_val (x_mv (v := .tuple #[u0_19, I r14]) rfl) ?_
 refine s_val (x_ext (vs := [u0_19, I r14]) (v := u0_19) rfl rfl) ?_
 refine s_val (x_ext (vs := [u0_19, I r14]) (v := I r14) rfl rfl) ?_
 refine s_val (x_as (v := u0_19) rfl) ?_
 refine s_val (x_as (v := I r14) rfl) ?_
 refine s_nil ?_
 refine W.seq ?_
 refine W.seq ?_
 refine W.region rfl ?_
 refine s_val (x_mv (v := I r13) rfl) ?_
 refine s_val (x_mv (v := I r14) rfl) ?_
 refine s_val (x_cmp (kd := .i64) (a := r13) (b := r14) (r := r13 != r14) rfl rfl rfl) ?_
 refine s_val (x_mv (v := B (r13 != r14)) rfl) ?_
 refine g_val (!(r13 != r14)) (gy_f rfl) (fun hg => x_mv (v := u0_18) rfl) ?_
 refine g_val (!(r13 != r14)) (gy_f rfl) (fun hg => x_mv (v := u0_19) rfl) ?_
 obtain ⟨r9, hx347z, hM⟩ := M.e_bind hM
 refine t_gcall (!(r13 != r14)) (gy_f rfl) cf15 (B r9) (fun _ => [u0_18, u0_19]) (fun hg => lst2 (gd_of (c := !(r13 != r14)) hg (u0_18)) (gd_of (c := !(r13 != r14)) hg (u0_19))) H (fun hg => (zai r03 r04 (Reads.of (k := 1) rfl ownLe) (ownSl (H.get (k := 1) rfl)) (Reads.of (k := 0) rfl ownLe) (ownSl (H.get (k := 0) rfl)) (M.e_opt hx347z hg) _ (H.give (A := []) rfl)).mono fun v_ w_ ⟨y_, hr_, hv_, H_⟩ => by subst hr_; exact ⟨hv_, H.via H_⟩) ?_
 intro w348z H
 refine g_val (!(r13 != r14)) (gy_f rfl) (fun hg => x_not (b := r9) (gd_of (c := !(r13 != r14)) hg (B r9))) ?_
 refine s_val (x_por (b := r13 != r14) (r := !r9) rfl rfl (fun hb => gd_of (c := !(r13 != r14)) (by first | exact hb | (rw [hb]; rfl) | simp_all) (B (!r9)))) ?_
 refine s_nil ?_
 replace H := H.pk [2, 3, 4, 5, 6, 7, 8, 9, 10, 11, 12, 13, 14, 15, 16]
 refine W.cond ((r13 != r14) || (!r9)) rfl (fun c349z => ?_) (fun c349z => ?_)
 ·replace hM := M.e_t hM c349z
  refine W.seq ?_
  refine W.region rfl ?_
  refine s_val (x_as (v := B false) rfl) ?_
  refine s_nil ?_
  replace H := H.pk []
  refine W.ret ?_
  have hr_ := M.e_pure hM
  exact ⟨_, resE_tmp rfl, ⟨false, hr_, rfl, H⟩⟩
 replace hM := M.e_f hM c349z
 refine W.skip ?_
 refine W.seq ?_
 refine W.region rfl ?_
 refine s_val (x_ld (p := .pointer (some ⟨b_16, 0, none⟩)) (v := .agg #[u0_2, u1_3, u2_4, u3_5, I r4, I r5, u4_6]) rfl (ldb_ag (ds := [u0_2, u1_3, u2_4, u3_5, I r4, I r5, u4_6]) Ag29 Sz29 (H.blk (k := 1) rfl) rfl rfl)) ?_
 refine s_val (x_mv (v := I from_) rfl) ?_
 refine s_val (x_mv (v := I to_) rfl) ?_
 obtain ⟨r351z, hx350z, hM⟩ := M.e_bind hM
 refine s_call cf23 [.agg #[u0_2, u1_3, u2_4, u3_5, I r4, I r5, u4_6], I from_, I to_] rfl (zdj r0 r1 r22 r32 r4 r5 r6 from_ to_ (Reads.of (k := 8) rfl ownLe) (ownSl (H.get (k := 8) rfl)) (Reads.of (k := 9) rfl ownLe) (ownSl (H.get (k := 9) rfl)) (Reads.of (k := 10) rfl ownLe) (ownSl (H.get (k := 10) rfl)) (Reads.of (k := 11) rfl ownLe) (ownSl (H.get (k := 11) rfl)) (Reads.sup (Reads.of (k := 12) rfl ownLe) (Reads.of (k := 13) rfl roLe)) (rowSl rfl (H.get (k := 12) rfl) (roLe _ (H.get (k := 13) rfl)) hrj328z) hx350z _ (H.gt 15)) ?_
 rintro vq w352z ⟨r00, r01, r15, hr353z, hvq, H2_⟩
 subst hr353z
 subst vq
 try dsimp only at hM
 replace H := H.bk H2_
 clear H2_
 refine s_val (x_mv (v := .tuple #[.agg #[I r00, I r01], I r15]) rfl) ?_
 refine s_val (x_ext (vs := [.agg #[I r00, I r01], I r15]) (v := .agg #[I r00, I r01]) rfl rfl) ?_
 refine s_val (x_ext (vs := [.agg #[I r00, I r01], I r15]) (v := I r15) rfl rfl) ?_
 refine t_alloc (cs := [I 0, I 0]) H Al26 rfl ?_
 intro b_20 w354z H
 refine t_sw 0 0 [I r00, I r01] (.agg #[I r00, I r01]) H rfl rfl Sz26 rfl rfl rfl rfl ?_
 intro w355z H
 refine s_val (x_as (v := I r15) rfl) ?_
 refine s_nil ?_
 refine W.seq ?_
 refine W.region rfl ?_
 refine s_val (x_ld (p := .pointer (some ⟨b_17, 0, none⟩)) (v := .agg #[u0_9, u1_10, u2_11, u3_12, I r42, I r52, u4_13]) rfl (ldb_ag (ds := [u0_9, u1_10, u2_11, u3_12, I r42, I r52, u4_13]) Ag37 Sz37 (H.blk (k := 1) rfl) rfl rfl)) ?_
 refine s_val (x_mv (v := I from_) rfl) ?_
 refine s_val (x_mv (v := I to_) rfl) ?_
 obtain ⟨r357z, hx356z, hM⟩ := M.e_bind hM
 refine s_call cf24 [.agg #[u0_9, u1_10, u2_11, u3_12, I r42, I r52, u4_13], I from_, I to_] rfl (zda r02 r12 r23 r33 r42 r52 r62 from_ to_ (Reads.of (k := 3) rfl ownLe) (ownSl (H.get (k := 3) rfl)) (Reads.of (k := 4) rfl ownLe) (ownSl (H.get (k := 4) rfl)) (Reads.of (k := 5) rfl ownLe) (ownSl (H.get (k := 5) rfl)) (Reads.of (k := 6) rfl ownLe) (ownSl (H.get (k := 6) rfl)) (Reads.sup (Reads.of (k := 7) rfl ownLe) (Reads.sup (hC_r__Floods.app _) (Reads.of (k := 8) rfl roLe))) (rowSl rfl (H.get (k := 7) rfl) (Cells.sup_le (hC_r__Floods.at H) (roLe _ (H.get (k := 8) rfl))) hrj327z) hx356z _ (H.gt 16)) ?_
 rintro vq w358z ⟨r002, r012, r16, hr359z, hvq, H2_⟩
 subst hr359z
 subst vq
 try dsimp only at hM
 replace H := H.bk H2_
 clear H2_
 refine s_val (x_mv (v := .tuple #[.agg #[I r002, I r012], I r16]) rfl) ?_
 refine s_val (x_ext (vs := [.agg #[I r002, I r012], I r16]) (v := .agg #[I r002, I r012]) rfl rfl) ?_
 refine s_val (x_ext (vs := [.agg #[I r002, I r012], I r16]) (v := I r16) rfl rfl) ?_
 refine t_alloc (cs := [I 0, I 0]) H Al26 rfl ?_
 intro b_21 w360z H
 refine t_sw 0 0 [I r002, I r012] (.agg #[I r002, I r012]) H rfl rfl Sz26 rfl rfl rfl rfl ?_
 intro w361z H
 refine s_val (x_as (v := I r16) rfl) ?_
 refine s_nil ?_
 refine W.seq ?_
 refine W.seq ?_
 refine W.region rfl ?_
 refine s_val (x_mv (v := I r15) rfl) ?_
 refine s_val (x_mv (v := I r16) rfl) ?_
 refine s_val (x_cmp (kd := .i64) (a := r15) (b := r16) (r := r15 != r16) rfl rfl rfl) ?_
 refine s_val (x_mv (v := B (r15 != r16)) rfl) ?_
 refine g_val (!(r15 != r16)) (gy_f rfl) (fun hg => x_ld (p := .pointer (some ⟨b_20, 0, none⟩)) (v := .agg #[I r00, I r01]) rfl (ldb_ag (ds := [I r00, I r01]) Ag26 Sz26 (H.blk (k := 1) rfl) rfl rfl)) ?_
 refine g_val (!(r15 != r16)) (gy_f rfl) (fun hg => x_ld (p := .pointer (some ⟨b_21, 0, none⟩)) (v := .agg #[I r002, I r012]) rfl (ldb_ag (ds := [I r002, I r012]) Ag26 Sz26 (H.blk (k := 0) rfl) rfl rfl)) ?_
 refine g_val (!(r15 != r16)) (gy_f rfl) (fun hg => x_neS (eqT26 (⟨(r00 : Int), (r01 : Int)⟩ : Span) (⟨(r002 : Int), (r012 : Int)⟩ : Span) _) gdT26 (gd_of (c := !(r15 != r16)) hg (.agg #[I r00, I r01])) (gd_of (c := !(r15 != r16)) hg (.agg #[I r002, I r012]))) ?_
 refine s_val (x_por (b := r15 != r16) (r := !(decide ((⟨(r00 : Int), (r01 : Int)⟩ : Span) = (⟨(r002 : Int), (r012 : Int)⟩ : Span)))) rfl rfl (fun hb => gd_of (c := !(r15 != r16)) (by first | exact hb | (rw [hb]; rfl) | simp_all) (B (!(decide ((⟨(r00 : Int), (r01 : Int)⟩ : Span) = (⟨(r002 : Int), (r012 : Int)⟩ : Span))))))) ?_
 refine s_nil ?_
 refine W.cond ((r15 != r16) || (!(decide ((⟨(r00 : Int), (r01 : Int)⟩ : Span) = (⟨(r002 : Int), (r012 : Int)⟩ : Span))))) rfl (fun c362z => ?_) (fun c362z => ?_)
 ·replace hM := M.e_t hM c362z
  refine W.seq ?_
  refine W.region rfl ?_
  refine s_val (x_as (v := B false) rfl) ?_
  refine s_nil ?_
  replace H := H.pk []
  refine W.ret ?_
  have hr_ := M.e_pure hM
  exact ⟨_, resE_tmp rfl, ⟨false, hr_, rfl, H⟩⟩
 replace hM := M.e_f hM c362z
 refine W.skip ?_
 refine W.seq ?_
 refine W.region rfl ?_
 refine s_val (x_ld (p := .pointer (some ⟨b_16, 0, none⟩)) (v := .agg #[u0_2, u1_3, u2_4, u3_5, I r4, I r5, u4_6]) rfl (ldb_ag (ds := [u0_2, u1_3, u2_4, u3_5, I r4, I r5, u4_6]) Ag29 Sz29 (H.blk (k := 3) rfl) rfl rfl)) ?_
 refine s_val (x_mv (v := I from_) rfl) ?_
 refine s_val (x_mv (v := I town) rfl) ?_
 obtain ⟨r364z, hx363z, hM⟩ := M.e_bind hM
 refine s_call cf25 [.agg #[u0_2, u1_3, u2_4, u3_5, I r4, I r5, u4_6], I from_, I town] rfl (zcT r0 r1 r22 r32 r4 r5 r6 from_ town (Reads.of (k := 10) rfl ownLe) (ownSl (H.get (k := 10) rfl)) (Reads.of (k := 11) rfl ownLe) (ownSl (H.get (k := 11) rfl)) (Reads.of (k := 12) rfl ownLe) (ownSl (H.get (k := 12) rfl)) (Reads.of (k := 13) rfl ownLe) (ownSl (H.get (k := 13) rfl)) (Reads.sup (Reads.of (k := 14) rfl ownLe) (Reads.of (k := 15) rfl roLe)) (rowSl rfl (H.get (k := 14) rfl) (roLe _ (H.get (k := 15) rfl)) hrj328z) hx363z _ (H.gt 17)) ?_
 rintro vq w365z ⟨r003, r013, r17, hr366z, hvq, H2_⟩
 subst hr366z
 subst vq
 try dsimp only at hM
 replace H := H.bk H2_
 clear H2_
 refine s_val (x_mv (v := .tuple #[.agg #[I r003, I r013], I r17]) rfl) ?_
 refine s_val (x_ext (vs := [.agg #[I r003, I r013], I r17]) (v := .agg #[I r003, I r013]) rfl rfl) ?_
 refine s_val (x_ext (vs := [.agg #[I r003, I r013], I r17]) (v := I r17) rfl rfl) ?_
 refine t_sw 1 0 [I r003, I r013] (.agg #[I r003, I r013]) H rfl rfl Sz26 rfl rfl rfl rfl ?_
 intro w367z H
 refine s_val (x_as (v := I r17) rfl) ?_
 refine s_nil ?_
 refine W.seq ?_
 refine W.region rfl ?_
 refine s_val (x_ld (p := .pointer (some ⟨b_17, 0, none⟩)) (v := .agg #[u0_9, u1_10, u2_11, u3_12, I r42, I r52, u4_13]) rfl (ldb_ag (ds := [u0_9, u1_10, u2_11, u3_12, I r42, I r52, u4_13]) Ag37 Sz37 (H.blk (k := 2) rfl) rfl rfl)) ?_
 refine s_val (x_mv (v := I from_) rfl) ?_
 refine s_val (x_mv (v := I town) rfl) ?_
 obtain ⟨r369z, hx368z, hM⟩ := M.e_bind hM
 refine s_call cf26 [.agg #[u0_9, u1_10, u2_11, u3_12, I r42, I r52, u4_13], I from_, I town] rfl (zdw r02 r12 r23 r33 r42 r52 r62 from_ town (Reads.of (k := 4) rfl ownLe) (ownSl (H.get (k := 4) rfl)) (Reads.of (k := 5) rfl ownLe) (ownSl (H.get (k := 5) rfl)) (Reads.of (k := 6) rfl ownLe) (ownSl (H.get (k := 6) rfl)) (Reads.of (k := 7) rfl ownLe) (ownSl (H.get (k := 7) rfl)) (Reads.sup (Reads.of (k := 8) rfl ownLe) (Reads.sup (hC_r__Floods.app _) (Reads.of (k := 9) rfl roLe))) (rowSl rfl (H.get (k := 8) rfl) (Cells.sup_le (hC_r__Floods.at H) (roLe _ (H.get (k := 9) rfl))) hrj327z) hx368z _ (H.gt 17)) ?_
 rintro vq w370z ⟨r004, r014, r18, hr371z, hvq, H2_⟩
 subst hr371z
 subst vq
 try dsimp only at hM
 replace H := H.bk H2_
 clear H2_
 refine s_val (x_mv (v := .tuple #[.agg #[I r004, I r014], I r18]) rfl) ?_
 refine s_val (x_ext (vs := [.agg #[I r004, I r014], I r18]) (v := .agg #[I r004, I r014]) rfl rfl) ?_
 refine s_val (x_ext (vs := [.agg #[I r004, I r014], I r18]) (v := I r18) rfl rfl) ?_
 refine t_sw 0 0 [I r004, I r014] (.agg #[I r004, I r014]) H rfl rfl Sz26 rfl rfl rfl rfl ?_
 intro w372z H
 refine s_val (x_as (v := I r18) rfl) ?_
 refine s_nil ?_
 replace H := H.pk [0, 1, 3, 10, 11, 12, 13, 14, 15, 16]
 refine W.seq ?_
 refine W.region rfl ?_
 refine s_val (x_mv (v := I r17) rfl) ?_
 refine s_val (x_mv (v := I r18) rfl) ?_
 refine s_val (x_cmp (kd := .i64) (a := r17) (b := r18) (r := r17 == r18) rfl rfl rfl) ?_
 refine s_val (x_mv (v := B (r17 == r18)) rfl) ?_
 refine g_val (r17 == r18) (gy_t rfl) (fun hg => x_ld (p := .pointer (some ⟨b_20, 0, none⟩)) (v := .agg #[I r003, I r013]) rfl (ldb_ag (ds := [I r003, I r013]) Ag26 Sz26 (H.blk (k := 1) rfl) rfl rfl)) ?_
 refine g_val (r17 == r18) (gy_t rfl) (fun hg => x_ld (p := .pointer (some ⟨b_21, 0, none⟩)) (v := .agg #[I r004, I r014]) rfl (ldb_ag (ds := [I r004, I r014]) Ag26 Sz26 (H.blk (k := 0) rfl) rfl rfl)) ?_
 refine g_val (r17 == r18) (gy_t rfl) (fun hg => x_eqS (eqT26 (⟨(r003 : Int), (r013 : Int)⟩ : Span) (⟨(r004 : Int), (r014 : Int)⟩ : Span) _) gdT26 (gd_of (c := r17 == r18) hg (.agg #[I r003, I r013])) (gd_of (c := r17 == r18) hg (.agg #[I r004, I r014]))) ?_
 refine s_val (x_pand (b := r17 == r18) (r := decide ((⟨(r003 : Int), (r013 : Int)⟩ : Span) = (⟨(r004 : Int), (r014 : Int)⟩ : Span))) rfl (fun hb => gd_of (c := r17 == r18) (by first | exact hb | (rw [hb]; rfl) | simp_all) (B (decide ((⟨(r003 : Int), (r013 : Int)⟩ : Span) = (⟨(r004 : Int), (r014 : Int)⟩ : Span))))) rfl) ?_
 refine s_val (x_mv (v := B ((r17 == r18) && (decide ((⟨(r003 : Int), (r013 : Int)⟩ : Span) = (⟨(r004 : Int), (r014 : Int)⟩ : Span))))) rfl) ?_
 refine g_val ((r17 == r18) && (decide ((⟨(r003 : Int), (r013 : Int)⟩ : Span) = (⟨(r004 : Int), (r014 : Int)⟩ : Span)))) (gy_t rfl) (fun hg => x_ld (p := .pointer (some ⟨b_16, 0, none⟩)) (v := .agg #[u0_2, u1_3, u2_4, u3_5, I r4, I r5, u4_6]) rfl (ldb_ag (ds := [u0_2, u1_3, u2_4, u3_5, I r4, I r5, u4_6]) Ag29 Sz29 (H.blk (k := 2) rfl) rfl rfl)) ?_
 refine g_val ((r17 == r18) && (decide ((⟨(r003 : Int), (r013 : Int)⟩ : Span) = (⟨(r004 : Int), (r014 : Int)⟩ : Span)))) (gy_t rfl) (fun hg => x_ld (p := .pointer (some ⟨b_1, 0, none⟩)) (v := .agg #[v_r__Down, v_r__Travel, v_r__Springs, v_r__Towns, I r__Delay_Lo, I r__Delay_Hi, v_r__Floods]) rfl (ldb_ag (ds := [v_r__Down, v_r__Travel, v_r__Springs, v_r__Towns, I r__Delay_Lo, I r__Delay_Hi, v_r__Floods]) Ag29 Sz29 (H.blk (k := 9) rfl) rfl rfl)) ?_
 obtain ⟨r10, hx373z, hM⟩ := M.e_bind hM
 refine t_gcall ((r17 == r18) && (decide ((⟨(r003 : Int), (r013 : Int)⟩ : Span) = (⟨(r004 : Int), (r014 : Int)⟩ : Span)))) (gy_t rfl) cf18 (B r10) (fun _ => [.agg #[u0_2, u1_3, u2_4, u3_5, I r4, I r5, u4_6], .agg #[v_r__Down, v_r__Travel, v_r__Springs, v_r__Towns, I r__Delay_Lo, I r__Delay_Hi, v_r__Floods]]) (fun hg => lst2 (gd_of (c := ((r17 == r18) && (decide ((⟨(r003 : Int), (r013 : Int)⟩ : Span) = (⟨(r004 : Int), (r014 : Int)⟩ : Span))))) hg (.agg #[u0_2, u1_3, u2_4, u3_5, I r4, I r5, u4_6])) (gd_of (c := ((r17 == r18) && (decide ((⟨(r003 : Int), (r013 : Int)⟩ : Span) = (⟨(r004 : Int), (r014 : Int)⟩ : Span))))) hg (.agg #[v_r__Down, v_r__Travel, v_r__Springs, v_r__Towns, I r__Delay_Lo, I r__Delay_Hi, v_r__Floods]))) H (fun hg => (zdq r0 r1 r22 r32 r4 r5 r6 r__Down r__Travel r__Springs r__Towns r__Delay_Lo r__Delay_Hi r__Floods (Reads.of (k := 3) rfl ownLe) (ownSl (H.get (k := 3) rfl)) (Reads.of (k := 4) rfl ownLe) (ownSl (H.get (k := 4) rfl)) (Reads.of (k := 5) rfl ownLe) (ownSl (H.get (k := 5) rfl)) (Reads.of (k := 6) rfl ownLe) (ownSl (H.get (k := 6) rfl)) (Reads.sup (Reads.of (k := 7) rfl ownLe) (Reads.of (k := 8) rfl roLe)) (rowSl rfl (H.get (k := 7) rfl) (roLe _ (H.get (k := 8) rfl)) hrj328z) (hC_r__Down.app _) hs_r__Down (hC_r__Travel.app _) hs_r__Travel (hC_r__Springs.app _) hs_r__Springs (hC_r__Towns.app _) hs_r__Towns (hC_r__Floods.app _) hs_r__Floods (M.e_opt hx373z hg) _ (H.give (A := []) rfl)).mono fun v_ w_ ⟨y_, hr_, hv_, H_⟩ => by subst hr_; exact ⟨hv_, H.via H_⟩) ?_
 intro w374z H
 refine s_val (x_pand (b := ((r17 == r18) && (decide ((⟨(r003 : Int), (r013 : Int)⟩ : Span) = (⟨(r004 : Int), (r014 : Int)⟩ : Span))))) (r := r10) rfl (fun hb => gd_of (c := ((r17 == r18) && (decide ((⟨(r003 : Int), (r013 : Int)⟩ : Span) = (⟨(r004 : Int), (r014 : Int)⟩ : Span))))) (by first | exact hb | (rw [hb]; rfl) | simp_all) (B r10)) rfl) ?_
 refine s_val (x_mv (v := B (((r17 == r18) && (decide ((⟨(r003 : Int), (r013 : Int)⟩ : Span) = (⟨(r004 : Int), (r014 : Int)⟩ : Span)))) && r10)) rfl) ?_
 obtain ⟨r11, hx375z, hM⟩ := M.e_bind hM
 refine t_gcall (((r17 == r18) && (decide ((⟨(r003 : Int), (r013 : Int)⟩ : Span) = (⟨(r004 : Int), (r014 : Int)⟩ : Span)))) && r10) (gy_t rfl) cf7 (B r11) (fun _ => []) (fun _ => rfl) H (fun hg => (zcJ (M.e_opt hx375z hg) _ (H.give (A := []) rfl)).mono fun v_ w_ ⟨y_, hr_, hv_, H_⟩ => by subst hr_; exact ⟨hv_, H.via H_⟩) ?_
 intro w376z H
 refine s_val (x_pand (b := (((r17 == r18) && (decide ((⟨(r003 : Int), (r013 : Int)⟩ : Span) = (⟨(r004 : Int), (r014 : Int)⟩ : Span)))) && r10)) (r := r11) rfl (fun hb => gd_of (c := (((r17 == r18) && (decide ((⟨(r003 : Int), (r013 : Int)⟩ : Span) = (⟨(r004 : Int), (r014 : Int)⟩ : Span)))) && r10)) (by first | exact hb | (rw [hb]; rfl) | simp_all) (B r11)) rfl) ?_
 refine s_val (x_as (v := B ((((r17 == r18) && (decide ((⟨(r003 : Int), (r013 : Int)⟩ : Span) = (⟨(r004 : Int), (r014 : Int)⟩ : Span)))) && r10) && r11)) rfl) ?_
 refine s_nil ?_
 replace H := H.pk []
 refine W.ret ?_
 have hr_ := M.e_pure hM
 exact ⟨_, resE_tmp rfl, ⟨((((r17 == r18) && (decide ((⟨(r003 : Int), (r013 : Int)⟩ : Span) = (⟨(r004 : Int), (r014 : Int)⟩ : Span)))) && r10) && r11), hr_, rfl, H⟩⟩

end Go.Proofs.YtbaehghammbjdaaGreat
end
namespace Go.Nm
/-- The first one from a place on. -/
def fs {ρ : Type} (f : Nat -> Option ρ) : Nat -> Nat -> Option ρ
  | 0, _ => none
  | m + 1, i => match f i with
    | some e => some e
    | none => fs f m (i + 1)
theorem fs_none {ρ : Type} {f : Nat -> Option ρ} : ∀ {m i : Nat}, fs f m i = none -> ∀ j, i <= j -> j < i + m -> f j = none
  | 0, i, _, j, h1, h2 => by omega
  | m + 1, i, h, j, h1, h2 => by
    unfold fs at h
    cases e : f i with
    | some x => rw [e] at h; cases h
    | none =>
      rw [e] at h
      rcases Nat.lt_or_eq_of_le h1 with g | g
      · exact fs_none h j g (by omega)
      · subst g
        exact e
/-- How a scan goes on. -/
def fsS {ρ : Type} (i : Nat) : Option ρ -> Nat ⊕ (ρ ⊕ Unit)
  | none => .inl (i + 1)
  | some e => .inr (.inl e)
def fsR {ρ : Type} : Option ρ -> ρ ⊕ Unit
  | none => .inr ()
  | some e => .inl e
theorem M.i_fs {ρ : Type} {body : Nat -> M (Nat ⊕ (ρ ⊕ Unit))} (n : Nat) (f : Nat -> Option ρ) (step : ∀ i, i < n -> (body i).Ends (fsS i (f i))) (fin : (body n).Ends (.inr (.inr ()))) :
    ∀ m i, i + m = n -> (M.iter body i).Ends (fsR (fs f m i))
  | 0, i, h => by
    obtain rfl : i = n := by omega
    exact M.i_stop fin
  | m + 1, i, h => by
    have h1 := step i (by omega)
    unfold fs
    cases e : f i with
    | some x => rw [e] at h1; exact M.i_stop h1
    | none => rw [e] at h1; exact M.i_next h1 (M.i_fs n f step fin m (i + 1) (by omega))
theorem M.i_optA {b x : Bool} {m : M Bool} (h : m.Ends x) : (M.opt b m false).Ends (b && x) := by
  cases b with
  | true => exact M.i_opt (fun _ => h) (fun h => by cases h)
  | false => exact M.i_opt (fun h => by cases h) (fun _ => rfl)
namespace Wn
/-- Strictly increasing, from 0 to less than an end. -/
def Up (l : List Int) (n : Int) : Prop := ∀ i, i < l.length -> (0 <= l.getD i 0 /\ l.getD i 0 < n) /\ (0 < i -> l.getD (i - 1) 0 < l.getD i 0)
theorem Up.sr {l : List Int} {n : Int} (h : Up l n) : l.Pairwise (· < ·) := by
  rw [List.pairwise_iff_getElem]
  intro i j hi hj hij
  induction j with
  | zero => omega
  | succ j ih =>
    have := (h (j + 1) hj).2 (by omega)
    rw [Nat.add_sub_cancel, getD_el l hj, getD_el l (show j < l.length by omega)] at this
    rcases Nat.lt_or_eq_of_le (Nat.le_of_lt_succ hij) with g | g
    · have := ih (by omega) g
      omega
    · subst g
      exact this
theorem Up.si {l : List Int} {n : Int} (h : Up l n) : ∀ x ∈ l, 0 <= x /\ x < n := by
  intro x hx
  obtain ⟨i, hi, rfl⟩ := mem_getD hx 0
  exact (h i hi).1
end Wn
end Go.Nm
namespace Go.Proofs.YtbaehghammbjdaaGreat
open Go Go.Nm
theorem rising_out {l : List Int} {n : Int} (hn : 0 <= n /\ n <= 1000) : (zau l n).Out (fun r => r = true ↔ Wn.Up l n) := by
  unfold zau
  refine M.o_bind (P := fun x => match x with | .inl (_ : Unit) => ¬ Wn.Up l n | .inr (_ : Unit) => Wn.Up l n) ?_ ?_
  · refine M.o_for l.length (fun i (t : Int × Nat) => t.2 = i /\ (∀ j, j < i -> (0 <= l.getD j 0 /\ l.getD j 0 < n) /\ (0 < j -> l.getD (j - 1) 0 < l.getD j 0)) /\ (i = 0 -> t.1 = -1) /\ (0 < i -> t.1 = l.getD (i - 1) 0)) ?_ ?_ ⟨rfl, fun j hj => by omega, fun _ => rfl, fun h => by omega⟩
    · rintro _ ⟨a, i⟩ hi ⟨rfl, h1, h2, h3⟩
      dsimp only at hi h1 h2 h3
      simp only [zaG]
      have ha : -1 <= a /\ a < 1000 := by
        rcases Nat.eq_zero_or_pos i with e | e
        · have := h2 e; omega
        · have := h3 e
          have := (h1 (i - 1) (by omega)).1
          omega
      refine M.o_t (decide_eq_true (by omega)) (M.o_grdD (by omega) (M.o_grd (gA2 (by omega) (by omega)) (M.o_grd (gA2 (by omega) (by omega)) (M.o_bindE (in_ends _ _ _) (M.o_if (fun hb => M.o_pure ?_) (fun hb => M.o_pure ⟨rfl, fun j hj => ?_, fun h => by omega, fun _ => rfl⟩))))))
      · intro hU
        have := hU i hi
        simp only [Bool.not_eq_true', Bool.and_eq_false_iff, decide_eq_false_iff_not] at hb
        rcases Nat.eq_zero_or_pos i with e | e
        · have := h2 e; omega
        · have := h3 e
          have := this
          have h4 := (hU i hi).2 e
          omega
      · simp only [Bool.not_eq_false', Bool.and_eq_true, decide_eq_true_eq] at hb
        rcases Nat.lt_or_eq_of_le (Nat.le_of_lt_succ hj) with g | g
        · exact h1 j g
        · subst g
          refine ⟨by omega, fun h => ?_⟩
          have := h3 h
          omega
    · rintro ⟨a, i⟩ ⟨e, h1, _⟩
      dsimp only at e h1
      subst e
      simp only [zaG]
      exact M.o_f (decide_eq_false (by omega)) (M.o_pure h1)
  · rintro (u | u) h
    · exact M.o_pure ⟨fun h => (by cases h), fun h' => absurd h' h⟩
    · exact M.o_pure ⟨fun _ => h, fun _ => rfl⟩
theorem outside_ends (n a b : Int) : (zab n a b).Ends (decide (n < a) || decide (b < n)) := M.i_pure
theorem unlisted_out {l : List Int} {n : Int} (hn : 0 <= n /\ n <= 1000) (hl : l.length <= 1000) : (zbR l n).Out (fun r => r = true ↔ ¬ Wn.Up l n) := by
  unfold zbR
  refine M.o_bind (P := fun x => match x with | .inl (_ : Unit) => ¬ Wn.Up l n | .inr (_ : Unit) => Wn.Up l n) ?_ ?_
  · refine M.o_for l.length (fun i (t : Nat) => t = i /\ (∀ j, j < i -> (0 <= l.getD j 0 /\ l.getD j 0 < n) /\ (0 < j -> l.getD (j - 1) 0 < l.getD j 0))) ?_ ?_ ⟨rfl, fun j hj => by omega⟩
    · rintro _ i hi ⟨rfl, h1⟩
      simp only [zbp]
      have e1 : Int.toNat ((i : Int) - 1) = i - 1 := by omega
      refine M.o_t (decide_eq_true (by omega)) (M.o_grdD (by omega) (M.o_grd (gA2 (by omega) (by omega)) (M.o_bindE (outside_ends _ _ _) (M.o_grd (gI2 fun _ => by omega) (M.o_grd (gI2 fun h => ?_) ?_)))))
      · simp only [Bool.and_eq_true, decide_eq_true_eq] at h
        omega
      rw [e1]
      refine M.o_if (fun hb => M.o_pure ?_) (fun hb => M.o_pure ⟨rfl, fun j hj => ?_⟩)
      · intro hU
        have h2 := hU i hi
        simp only [Bool.or_eq_true, Bool.and_eq_true, decide_eq_true_eq] at hb
        rcases hb with hb | hb
        · omega
        · have := h2.2 (by omega)
          omega
      · simp only [Bool.or_eq_false_iff, Bool.and_eq_false_iff, decide_eq_false_iff_not] at hb
        rcases Nat.lt_or_eq_of_le (Nat.le_of_lt_succ hj) with g | g
        · exact h1 j g
        · subst g
          omega
    · rintro _ ⟨rfl, h1⟩
      simp only [zbp]
      exact M.o_f (decide_eq_false (by omega)) (M.o_pure h1)
  · rintro (u | u) h
    · exact M.o_pure ⟨fun _ => h, fun _ => rfl⟩
    · exact M.o_pure ⟨fun h => (by cases h), fun h' => absurd h h'⟩
theorem contains_ends (s : List Int) (v : Int) : (za6 s v).Ends (decide (v ∈ s)) := by
  refine M.Out.ends ?_
  unfold za6 zbk
  refine M.o_bind (P := fun r => 0 <= r ↔ v ∈ s) (M.o_bind (P := fun r => match r with | .inl r => ∃ k : Nat, r = (k : Int) /\ v ∈ s | .inr (_ : Unit) => v ∉ s) ?_ ?_) (fun r h => M.o_pure (by simp only [h]))
  · refine M.o_for s.length (fun i (k : Nat) => k = i /\ ∀ j, j < i -> s.getD j 0 ≠ v) ?_ ?_ ⟨rfl, fun j hj => by omega⟩
    · rintro i _ hi ⟨rfl, hp⟩
      simp only [zaz]
      refine M.o_t (decide_eq_true (by omega)) (M.o_grdD (by omega) (M.o_if (fun hb => M.o_pure ⟨_, rfl, ?_⟩) (fun hb => M.o_pure ⟨rfl, fun j hj => ?_⟩)))
      · rw [beq_iff_eq.1 hb, getD_el s hi]
        exact List.getElem_mem hi
      rcases Nat.lt_or_eq_of_le (Nat.le_of_lt_succ hj) with e | e
      · exact hp j e
      · subst e
        exact fun e => (beq_eq_false_iff_ne.1 hb) e.symm
    · rintro _ ⟨rfl, hp⟩
      simp only [zaz]
      refine M.o_f (decide_eq_false (by omega)) (M.o_pure ?_)
      intro h
      obtain ⟨i, hi, e⟩ := mem_getD h 0
      exact hp i hi e
  · rintro (r | r) h
    · obtain ⟨k, rfl, h⟩ := h
      exact M.o_pure ⟨fun _ => h, fun _ => by omega⟩
    · exact M.o_pure ⟨fun h' => by omega, fun h' => absurd h' h⟩
theorem every_towns (l : List Town) (so : Town -> M Bool) (p : Town -> Bool) (h : ∀ t ∈ l, (so t).Ends (p t)) : (zaK l so).Ends (l.all p) := by
  refine M.Out.ends ?_
  unfold zaK zaP zbJ
  refine M.o_bind (P := fun b => b = !l.all p) (M.o_bind (P := fun r => decide (0 <= r) = !l.all p) (M.o_bind (P := fun r => match r with | .inl r => (0 : Int) <= r /\ l.all p = false | .inr (_ : Unit) => l.all p = true) ?_ ?_) (fun r h => M.o_pure h)) (fun r h => M.o_pure (by rw [h]; simp))
  · refine M.o_for l.length (fun i (k : Nat) => k = i /\ ∀ j, j < i -> p (l.getD j default) = true) ?_ ?_ ⟨rfl, fun j hj => by omega⟩
    · rintro _ i hi ⟨rfl, hp⟩
      simp only [zaC]
      have hm : l.getD i default ∈ l := by rw [getD_el l hi]; exact List.getElem_mem hi
      refine M.o_t (decide_eq_true (by omega)) (M.o_grdD (by omega) (M.o_bindE (a := !p (l.getD i default)) ?_ (M.o_if (fun hb => M.o_pure ⟨by omega, ?_⟩) (fun hb => M.o_pure ⟨rfl, fun j hj => ?_⟩))))
      · unfold zbq
        exact M.i_bind (h _ hm) M.i_pure
      · rw [List.all_eq_false]
        exact ⟨_, hm, by simpa using hb⟩
      · rcases Nat.lt_or_eq_of_le (Nat.le_of_lt_succ hj) with e | e
        · exact hp j e
        · subst e
          simpa using hb
    · rintro _ ⟨rfl, hp⟩
      simp only [zaC]
      refine M.o_f (decide_eq_false (by omega)) (M.o_pure ?_)
      rw [List.all_eq_true]
      intro x hx
      obtain ⟨i, hi, e⟩ := mem_getD hx default
      rw [← e]
      exact hp i hi
  · rintro (r | r) h
    · exact M.o_pure (by rw [h.2, decide_eq_true h.1]; rfl)
    · exact M.o_pure (by dsimp only at h; rw [h]; rfl)
theorem every_ints (l : List Int) (so : Int -> M Bool) (p : Int -> Bool) (h : ∀ t ∈ l, (so t).Ends (p t)) : (zaE l so).Ends (l.all p) := by
  refine M.Out.ends ?_
  unfold zaE zbE zbA
  refine M.o_bind (P := fun b => b = !l.all p) (M.o_bind (P := fun r => decide (0 <= r) = !l.all p) (M.o_bind (P := fun r => match r with | .inl r => (0 : Int) <= r /\ l.all p = false | .inr (_ : Unit) => l.all p = true) ?_ ?_) (fun r h => M.o_pure h)) (fun r h => M.o_pure (by rw [h]; simp))
  · refine M.o_for l.length (fun i (k : Nat) => k = i /\ ∀ j, j < i -> p (l.getD j 0) = true) ?_ ?_ ⟨rfl, fun j hj => by omega⟩
    · rintro _ i hi ⟨rfl, hp⟩
      simp only [zaN]
      have hm : l.getD i 0 ∈ l := by rw [getD_el l hi]; exact List.getElem_mem hi
      refine M.o_t (decide_eq_true (by omega)) (M.o_grdD (by omega) (M.o_bindE (a := !p (l.getD i 0)) ?_ (M.o_if (fun hb => M.o_pure ⟨by omega, ?_⟩) (fun hb => M.o_pure ⟨rfl, fun j hj => ?_⟩))))
      · unfold zbb
        exact M.i_bind (h _ hm) M.i_pure
      · rw [List.all_eq_false]
        exact ⟨_, hm, by simpa using hb⟩
      · rcases Nat.lt_or_eq_of_le (Nat.le_of_lt_succ hj) with e | e
        · exact hp j e
        · subst e
          simpa using hb
    · rintro _ ⟨rfl, hp⟩
      simp only [zaN]
      refine M.o_f (decide_eq_false (by omega)) (M.o_pure ?_)
      rw [List.all_eq_true]
      intro x hx
      obtain ⟨i, hi, e⟩ := mem_getD hx 0
      rw [← e]
      exact hp i hi
  · rintro (r | r) h
    · exact M.o_pure (by rw [h.2, decide_eq_true h.1]; rfl)
    · exact M.o_pure (by dsimp only at h; rw [h]; rfl)
end Go.Proofs.YtbaehghammbjdaaGreat
namespace Go.Nm
theorem M.i_eq {α : Type} {m : M α} {a b : α} (h : m.Ends a) (e : a = b) : m.Ends b := e ▸ h
theorem fs_some {ρ : Type} {f : Nat -> Option ρ} {x : ρ} : ∀ {m i : Nat}, fs f m i = some x -> ∃ j, f j = some x
  | 0, _, h => by cases h
  | m + 1, i, h => by
    unfold fs at h
    cases e : f i with
    | some y => rw [e] at h; exact ⟨i, by rw [e]; exact h⟩
    | none => rw [e] at h; exact fs_some h
namespace Wn
def hok (s : Span) : Bool := decide (0 <= s.lo /\ s.lo <= s.hi /\ s.hi <= 1000)
def c1 (dn : List Int) (tr : List Span) (i : Nat) : Option Int :=
  if dn.getD i 0 ≠ -1 /\ ¬((i : Int) + 1 <= dn.getD i 0 /\ dn.getD i 0 <= (dn.length : Int) - 1) then some 2 else if hok (tr.getD i default) = true then none else some 130
def tim (t : Town) : Bool := decide ((0 <= t.lead /\ t.lead <= 1000) /\ 0 <= t.alarm /\ t.alarm <= 2000)
def sta (n : Int) (t : Town) : Bool := decide (0 <= t.station /\ t.station < n)
def sok (x : Int) : Bool := decide (0 <= x) && decide (x <= 2000)
def ct (n : Int) (tw : List Town) (i : Nat) : Option Unit := if tim (tw.getD i default) = true /\ sta n (tw.getD i default) = true then none else some ()
def c2 (dn sp : List Int) (fl : List Flood) (i : Nat) : Option Int :=
  if (fl.getD i default).spring ∈ sp /\ (fl.getD i default).stages.length = (P dn (fl.getD i default).spring).length then (if (fl.getD i default).stages.all sok = true then none else some 130) else some 2
end Wn
end Go.Nm
namespace Go.Proofs.YtbaehghammbjdaaGreat
open Go Go.Nm
variable {dn : List Int} {tr : List Span} {sp : List Int} {tw : List Town} {dl dh : Int} {fl : List Flood}
theorem hours_ends (s : Span) : (zaJ s).Ends (Wn.hok s) := by
  unfold zaJ
  refine M.i_eq (M.i_bind (in_ends _ _ _) (M.i_bind (M.i_optA (in_ends _ _ _)) M.i_pure)) ?_
  unfold Wn.hok
  rw [Bool.eq_iff_iff]
  simp only [Bool.and_eq_true, decide_eq_true_eq]
  omega
theorem spoilt_ends (s : Span) : (zbr s).Ends (!Wn.hok s) := by
  unfold zbr
  refine M.i_eq M.i_pure ?_
  unfold Wn.hok
  rw [Bool.eq_iff_iff]
  simp only [Bool.or_eq_true, Bool.not_eq_true', decide_eq_false_iff_not, decide_eq_true_eq]
  omega
theorem stage_ends (n : Int) : (zax n).Ends (Wn.sok n) := by
  unfold zax
  exact M.i_bind (in_ends _ _ _) M.i_pure
theorem timely_ends (t : Town) : (zaL t).Ends (Wn.tim t) := by
  unfold zaL
  refine M.i_eq (M.i_bind (in_ends _ _ _) (M.i_bind (M.i_optA (stage_ends _)) M.i_pure)) ?_
  unfold Wn.tim Wn.sok
  rw [Bool.eq_iff_iff]
  simp only [Bool.and_eq_true, decide_eq_true_eq]
  omega
theorem check1_ends {n : Nat} (hn : n <= 12) (t : Town) : (zaF t (n : Int)).Ends (Wn.sta n t) := by
  unfold zaF
  refine M.i_grd (gA2 (by omega) (by omega)) (M.i_eq (M.i_bind (in_ends _ _ _) M.i_pure) ?_)
  unfold Wn.sta
  rw [Bool.eq_iff_iff]
  simp only [Bool.and_eq_true, decide_eq_true_eq]
  omega
theorem b0_own (h12 : dn.length <= 12) (tl : tr.length = dn.length) (i : Nat) (hi : i < dn.length) : (zas dn tr i).Ends (fsS i (Wn.c1 dn tr i)) := by
  simp only [zas]
  refine M.i_t (decide_eq_true (by omega)) (M.i_grd (decide_eq_true (by omega)) (M.i_bind (M.i_optA (in_ends _ _ _)) ?_))
  unfold Wn.c1
  by_cases a : dn.getD i 0 ≠ -1 /\ ¬((i : Int) + 1 <= dn.getD i 0 /\ dn.getD i 0 <= (dn.length : Int) - 1)
  · rw [if_pos a]
    refine M.i_t ?_ M.i_pure
    rw [show (dn.getD i 0 != -1) = true from bne_iff_ne.2 a.1]
    simp only [Bool.true_and, Bool.not_eq_true', Bool.and_eq_false_iff, decide_eq_false_iff_not]
    omega
  · rw [if_neg a]
    refine M.i_f ?_ (M.i_grd (decide_eq_true (by omega)) (M.i_bind (hours_ends _) ?_))
    · by_cases e : dn.getD i 0 = -1
      · rw [e]; rfl
      · rw [show (dn.getD i 0 != -1) = true from bne_iff_ne.2 e]
        simp only [Bool.true_and, Bool.not_eq_false', Bool.and_eq_true, decide_eq_true_eq]
        omega
    · cases Wn.hok (tr.getD i default) with
      | true => exact M.i_f rfl M.i_pure
      | false => exact M.i_t rfl M.i_pure
theorem b0_ref (h12 : dn.length <= 12) (tl : tr.length = dn.length) (i : Nat) (hi : i < dn.length) : (za4 dn tr i).Ends (fsS i (Wn.c1 dn tr i)) := by
  simp only [za4]
  refine M.i_t (decide_eq_true (by omega)) (M.i_grd (decide_eq_true (by omega)) (M.i_bind (M.i_optA (outside_ends _ _ _)) ?_))
  unfold Wn.c1
  by_cases a : dn.getD i 0 ≠ -1 /\ ¬((i : Int) + 1 <= dn.getD i 0 /\ dn.getD i 0 <= (dn.length : Int) - 1)
  · rw [if_pos a]
    refine M.i_t ?_ M.i_pure
    rw [show (dn.getD i 0 != -1) = true from bne_iff_ne.2 a.1]
    simp only [Bool.true_and, Bool.or_eq_true, decide_eq_true_eq]
    omega
  · rw [if_neg a]
    refine M.i_f ?_ (M.i_grd (decide_eq_true (by omega)) (M.i_bind (spoilt_ends _) ?_))
    · by_cases e : dn.getD i 0 = -1
      · rw [e]; rfl
      · rw [show (dn.getD i 0 != -1) = true from bne_iff_ne.2 e]
        simp only [Bool.true_and, Bool.or_eq_false_iff, decide_eq_false_iff_not]
        omega
    · cases Wn.hok (tr.getD i default) with
      | true => exact M.i_f rfl M.i_pure
      | false => exact M.i_t rfl M.i_pure
theorem b1_ref (h12 : dn.length <= 12) (i : Nat) (hi : i < tw.length) : (za0 dn tw i).Ends (fsS i (Wn.ct dn.length tw i)) := by
  simp only [za0]
  refine M.i_t (decide_eq_true (by omega)) (M.i_grd (decide_eq_true (by omega)) (M.i_bind (outside_ends _ _ _) (M.i_bind (M.i_optA (outside_ends _ _ _)) (M.i_bind (M.i_optA (outside_ends _ _ _)) ?_))))
  unfold Wn.ct Wn.tim Wn.sta
  by_cases a : decide (((0 : Int) <= (tw.getD i default).lead /\ (tw.getD i default).lead <= 1000) /\ 0 <= (tw.getD i default).alarm /\ (tw.getD i default).alarm <= 2000) = true /\ decide (0 <= (tw.getD i default).station /\ (tw.getD i default).station < (dn.length : Int)) = true
  · rw [if_pos a]
    simp only [decide_eq_true_eq] at a
    refine M.i_f ?_ M.i_pure
    simp only [Bool.or_eq_false_iff, Bool.and_eq_false_iff, Bool.and_eq_true, Bool.not_eq_true', decide_eq_false_iff_not, Bool.not_eq_false', Bool.or_eq_true, decide_eq_true_eq]
    omega
  · rw [if_neg a]
    simp only [decide_eq_true_eq] at a
    refine M.i_t ?_ M.i_pure
    rw [← Bool.not_eq_false]
    intro h
    apply a
    simp only [Bool.or_eq_false_iff, Bool.and_eq_false_iff, Bool.and_eq_true, Bool.not_eq_true', decide_eq_false_iff_not, Bool.not_eq_false', Bool.or_eq_true, decide_eq_true_eq] at h
    omega
theorem path_long (h : Wn.Dn dn) (h12 : dn.length <= 12) {s : Int} (hs : 0 <= s) (k11 : List Span) (k12 : List Int) (k13 : List Town) (k14 k15 : Int) (k16 : List Flood) :
    (zan (M.yl zap) (.inl 0) s dn k11 k12 k13 k14 k15 k16).Out (fun y => ∃ c, y.1 = .inl c /\ (s < (dn.length : Int) -> c = ((Wn.P dn s).length : Int))) := by
  by_cases e : s < (dn.length : Int)
  · have hst : Wn.Stn dn s := .inr ⟨hs, e⟩
    have hsh := Wn.P_short h hst
    refine M.o_mono (path_out (Q := fun x => x = (.inl ((Wn.P dn s).length : Int) : Int ⊕ Unit)) h h12 hst (fun k (c : Int) => c = (k : Int)) rfl ?_ ?_ _ _ _ _ _ _) (fun y hy => ⟨_, hy, fun _ => rfl⟩)
    · rintro k hk _ rfl
      simp only [zap]
      exact M.o_grd (gA2 (by omega) (by omega)) (M.o_pure (by omega))
    · rintro _ rfl
      rfl
  · unfold zan
    refine M.o_bindE (a := Sum.inr ((Sum.inl 0 : Int ⊕ Unit), s)) (M.i_stop ?_) ?_
    · simp only [zaY]
      exact M.i_f (by rw [decide_eq_false e, Bool.and_false]) M.i_pure
    · exact M.o_pure ⟨0, rfl, fun h => absurd h e⟩
theorem refpath_ends (h : Wn.Dn dn) (h12 : dn.length <= 12) {s : Int} (hs : Wn.Stn dn s) (k11 : List Span) (k12 : List Int) (k13 : List Town) (k14 k15 : Int) (k16 : List Flood) : (zbc dn k11 k12 k13 k14 k15 k16 s).Ends (Wn.P dn s) := by
  refine M.Out.ends ?_
  unfold zbc
  have hsh := Wn.P_short h hs
  refine M.o_bind (P := fun y => y.2 = Wn.P dn s) (M.o_for (Wn.P dn s).length (fun i (t : Int × List Int) => t.2 = (Wn.P dn s).take i /\ Wn.P dn t.1 = (Wn.P dn s).drop i /\ Wn.Stn dn t.1) ?_ ?_ ⟨by rw [List.take_zero], by rw [List.drop_zero], hs⟩) (fun y hy => M.o_pure hy)
  · rintro i ⟨c, l⟩ hi ⟨e1, e2, e3⟩
    dsimp only at e1 e2 e3
    simp only [zbs]
    have hd : (Wn.P dn s).drop i = (Wn.P dn s)[i] :: (Wn.P dn s).drop (i + 1) := List.drop_eq_getElem_cons hi
    have hc : 0 <= c /\ c < dn.length := by
      rcases e3 with rfl | e3
      · rw [Wn.P_none, hd] at e2
        cases e2
      · exact e3
    rw [Wn.P_cons h hc.1 hc.2, hd] at e2
    obtain ⟨g1, g2⟩ := List.cons.inj e2
    have hx := h.next hc.1 hc.2
    refine M.o_t (bne_iff_ne.2 (by omega)) (M.o_grdD (by rw [e1]; simp; omega) (M.o_grd (gA2 hc.1 hc.2) (M.o_pure ⟨?_, g2, h.next_st hc.1 hc.2⟩)))
    dsimp only
    rw [e1, g1, ← List.take_succ_eq_append_getElem hi]
  · rintro ⟨c, l⟩ ⟨e1, e2, e3⟩
    dsimp only at e1 e2 e3
    simp only [zbs]
    rw [List.drop_length] at e2
    have hc : c = -1 := by
      rcases e3 with e3 | e3
      · exact e3
      · rw [Wn.P_cons h e3.1 e3.2] at e2
        cases e2
    subst hc
    refine M.o_f rfl (M.o_pure ?_)
    dsimp only
    rw [e1, List.take_length]
theorem b5_ref (i : Nat) : (M.iter (zaT sp fl i) (false, 0)).Ends ((fl.getD i default).spring, decide ((fl.getD i default).spring ∈ sp)) := by
  refine M.Out.ends ?_
  refine M.o_for sp.length (fun k (t : Bool × Nat) => t = (decide ((fl.getD i default).spring ∈ sp.take k), k)) ?_ ?_ (by simp)
  · rintro k _ hk rfl
    simp only [zaT]
    refine M.o_t (decide_eq_true (by omega)) (M.o_grd (gOr (by omega)) (M.o_pure ?_))
    rw [List.take_succ_eq_append_getElem hk, getD_el sp hk]
    congr 1
    rw [Bool.eq_iff_iff]
    simp only [Bool.or_eq_true, decide_eq_true_eq, beq_iff_eq, List.mem_append, List.mem_singleton]
    exact or_congr Iff.rfl ⟨Eq.symm, Eq.symm⟩
  · rintro _ rfl
    simp only [zaT]
    refine M.o_f (decide_eq_false (by omega)) (M.o_pure ?_)
    rw [List.take_length]
theorem b6_ref (i : Nat) : (M.iter (zaU fl i) 0).Ends (if (fl.getD i default).stages.all Wn.sok = true then .inr () else .inl ()) := by
  refine M.Out.ends ?_
  refine M.o_for (fl.getD i default).stages.length (fun k (t : Nat) => t = k /\ ∀ j, j < k -> Wn.sok ((fl.getD i default).stages.getD j 0) = true) ?_ ?_ ⟨rfl, fun j hj => by omega⟩
  · rintro _ k hk ⟨rfl, hp⟩
    simp only [zaU]
    refine M.o_t (decide_eq_true (by omega)) (M.o_grdD (by omega) (M.o_bindE (outside_ends _ _ _) (M.o_if (fun hb => M.o_pure ?_) (fun hb => M.o_pure ⟨rfl, fun j hj => ?_⟩))))
    · rw [if_neg]
      intro h
      have := List.all_eq_true.1 h ((fl.getD i default).stages.getD k 0) (by rw [getD_el _ hk]; exact List.getElem_mem hk)
      unfold Wn.sok at this
      simp only [Bool.or_eq_true, Bool.and_eq_true, decide_eq_true_eq] at hb this
      omega
    · rcases Nat.lt_or_eq_of_le (Nat.le_of_lt_succ hj) with e | e
      · exact hp j e
      · subst e
        unfold Wn.sok
        simp only [Bool.or_eq_false_iff, decide_eq_false_iff_not] at hb
        exact gA2 (by omega) (by omega)
  · rintro _ ⟨rfl, hp⟩
    simp only [zaU]
    refine M.o_f (decide_eq_false (by omega)) (M.o_pure ?_)
    rw [if_pos]
    rw [List.all_eq_true]
    intro x hx
    obtain ⟨j, hj, e⟩ := mem_getD hx 0
    rw [← e]
    exact hp j hj
theorem b3_own (h : Wn.Dn dn) (h12 : dn.length <= 12) (U : Wn.Up sp dn.length) (i : Nat) (hi : i < fl.length) : (zav dn tr sp tw dl dh fl i).Ends (fsS i (Wn.c2 dn sp fl i)) := by
  simp only [zav]
  have hp : (zak dn tr sp tw dl dh fl (max 0 (fl.getD i default).spring)).Ends (max 0 (fl.getD i default).spring, dl, dh) := M.i_pure
  obtain ⟨⟨x, q⟩, e1, c, e2, e3⟩ := path_long h h12 (show 0 <= max 0 (fl.getD i default).spring by omega) tr sp tw dl dh fl
  dsimp only at e2
  subst e2
  refine M.i_t (decide_eq_true (by omega)) (M.i_grd (decide_eq_true (by omega)) (M.i_bind hp (M.i_bind e1 ?_)))
  dsimp only
  refine M.i_bind (contains_ends _ _) ?_
  unfold Wn.c2
  by_cases a : (fl.getD i default).spring ∈ sp
  · have hs := U.si _ a
    rw [show max 0 (fl.getD i default).spring = (fl.getD i default).spring by omega] at e3
    have e3 := e3 hs.2
    subst e3
    rw [decide_eq_true a]
    by_cases b : (fl.getD i default).stages.length = (Wn.P dn (fl.getD i default).spring).length
    · rw [if_pos ⟨a, b⟩]
      refine M.i_f (by rw [b]; simp) (M.i_bind (every_ints _ _ Wn.sok fun t _ => stage_ends t) ?_)
      cases (fl.getD i default).stages.all Wn.sok with
      | true => exact M.i_f rfl M.i_pure
      | false => exact M.i_t rfl M.i_pure
    · rw [if_neg (fun h => b h.2)]
      refine M.i_t ?_ M.i_pure
      simp only [Bool.not_true, Bool.false_or, bne_iff_ne]
      omega
  · rw [if_neg (fun h => a h.1), decide_eq_false a]
    exact M.i_t rfl M.i_pure
theorem b8_ref (h : Wn.Dn dn) (h12 : dn.length <= 12) (U : Wn.Up sp dn.length) (i : Nat) (hi : i < fl.length) : (zaR dn tr sp tw dl dh fl i).Ends (fsS i (Wn.c2 dn sp fl i)) := by
  simp only [zaR]
  refine M.i_t (decide_eq_true (by omega)) (M.i_grd (decide_eq_true (by omega)) (M.i_bind (b5_ref i) ?_))
  dsimp only
  unfold Wn.c2
  by_cases a : (fl.getD i default).spring ∈ sp
  · have hs := U.si _ a
    rw [decide_eq_true a]
    refine M.i_t rfl (M.i_bind (refpath_ends h h12 (.inr hs) _ _ _ _ _ _) ?_)
    by_cases b : (fl.getD i default).stages.length = (Wn.P dn (fl.getD i default).spring).length
    · rw [if_pos ⟨a, b⟩]
      refine M.i_f (by rw [b]; simp) (M.i_bind (b6_ref i) ?_)
      cases (fl.getD i default).stages.all Wn.sok with
      | true => exact M.i_pure
      | false => exact M.i_pure
    · rw [if_neg (fun h => b h.2)]
      refine M.i_t ?_ M.i_pure
      simp only [Bool.not_true, Bool.false_or, bne_iff_ne]
      omega
  · rw [if_neg (fun h => a h.1), decide_eq_false a]
    exact M.i_f rfl (M.i_t rfl M.i_pure)
theorem own_head {K : M Int} {e : Int} (L : (1 <= dn.length /\ dn.length <= 12) /\ tr.length = dn.length /\ (1 <= sp.length /\ sp.length <= 8) /\ tw.length <= 8 /\ fl.length <= 20) (h : K.Ends e) :
    (M.bind (zac (dn.length : Int) 1 12) fun r2 => M.bind (M.opt (!((!r2) || ((tr.length : Int) != (dn.length : Int)))) (zac (sp.length : Int) 1 8) false) fun r3 =>
      bif (((((!r2) || ((tr.length : Int) != (dn.length : Int))) || (!r3)) || (decide (8 < (tw.length : Int)))) || (decide (20 < (fl.length : Int)))) then M.pure 3 else K).Ends e := by
  refine M.i_bind (in_ends _ _ _) (M.i_bind (M.i_optA (in_ends _ _ _)) (M.i_f ?_ h))
  simp only [Bool.or_eq_false_iff, Bool.not_eq_false', Bool.and_eq_true, Bool.not_eq_true', decide_eq_true_eq, decide_eq_false_iff_not, bne_eq_false_iff_eq]
  omega
theorem ref_head {K : M Int} {e : Int} (L : (1 <= dn.length /\ dn.length <= 12) /\ tr.length = dn.length /\ (1 <= sp.length /\ sp.length <= 8) /\ tw.length <= 8 /\ fl.length <= 20) (h : K.Ends e) :
    (M.bind (zab (dn.length : Int) 1 12) fun r2 => M.bind (M.opt (!(r2 || ((tr.length : Int) != (dn.length : Int)))) (zab (sp.length : Int) 1 8) false) fun r3 =>
      bif ((((r2 || ((tr.length : Int) != (dn.length : Int))) || r3) || (decide (8 < (tw.length : Int)))) || (decide (20 < (fl.length : Int)))) then M.pure 3 else K).Ends e := by
  refine M.i_bind (outside_ends _ _ _) (M.i_bind (M.i_optA (outside_ends _ _ _)) (M.i_f ?_ h))
  simp only [Bool.or_eq_false_iff, Bool.and_eq_false_iff, Bool.and_eq_true, Bool.not_eq_true', Bool.not_eq_false', Bool.or_eq_true, decide_eq_true_eq, decide_eq_false_iff_not, bne_eq_false_iff_eq, bne_iff_ne]
  omega
/-- Both checks say the same, and what they let pass is right. -/
theorem checks (dn : List Int) (tr : List Span) (sp : List Int) (tw : List Town) (dl dh : Int) (fl : List Flood) :
    ∃ e, (zaq dn tr sp tw dl dh fl).Ends e /\ (zaH dn tr sp tw dl dh fl).Ends e /\ (e = 0 -> Wn.Rv dn tr sp tw dl dh fl) := by
  unfold zaq zaH
  by_cases L : (1 <= dn.length /\ dn.length <= 12) /\ tr.length = dn.length /\ (1 <= sp.length /\ sp.length <= 8) /\ tw.length <= 8 /\ fl.length <= 20
  case neg =>
    refine ⟨3, M.i_bind (in_ends _ _ _) (M.i_bind (M.i_optA (in_ends _ _ _)) (M.i_t ?_ M.i_pure)), M.i_bind (outside_ends _ _ _) (M.i_bind (M.i_optA (outside_ends _ _ _)) (M.i_t ?_ M.i_pure)), fun h => by omega⟩
    · rw [← Bool.not_eq_false]
      intro h
      apply L
      simp only [Bool.or_eq_false_iff, Bool.not_eq_false', Bool.and_eq_true, decide_eq_true_eq, decide_eq_false_iff_not, bne_eq_false_iff_eq] at h
      omega
    · rw [← Bool.not_eq_false]
      intro h
      apply L
      simp only [Bool.or_eq_false_iff, Bool.and_eq_false_iff, Bool.not_eq_false', Bool.or_eq_true, decide_eq_true_eq, decide_eq_false_iff_not, bne_eq_false_iff_eq, bne_iff_ne] at h
      omega
  have L' := L
  obtain ⟨⟨n1, n12⟩, tl, ⟨s1, s8⟩, t8, f20⟩ := L
  have g1 := M.i_fs dn.length (Wn.c1 dn tr) (b0_own n12 tl) (by simp only [zas]; exact M.i_f (decide_eq_false (by omega)) M.i_pure) dn.length 0 (by omega)
  have g2 := M.i_fs dn.length (Wn.c1 dn tr) (b0_ref n12 tl) (by simp only [za4]; exact M.i_f (decide_eq_false (by omega)) M.i_pure) dn.length 0 (by omega)
  cases e1 : fs (Wn.c1 dn tr) dn.length 0 with
  | some x =>
    rw [e1] at g1 g2
    refine ⟨x, own_head L' (M.i_bind g1 M.i_pure), ref_head L' (M.i_bind g2 M.i_pure), fun h => ?_⟩
    obtain ⟨j, hj⟩ := fs_some e1
    unfold Wn.c1 at hj
    subst h
    split at hj
    · cases hj
    · split at hj <;> cases hj
  | none =>
  rw [e1] at g1 g2
  have c1 := fs_none e1
  have hnx : Wn.Dn dn := fun i hi => by
    have := c1 i (Nat.zero_le _) (by omega)
    unfold Wn.c1 at this
    split at this
    · cases this
    · omega
  have hhr : ∀ i, i < tr.length -> 0 <= (tr.getD i default).lo /\ (tr.getD i default).lo <= (tr.getD i default).hi /\ (tr.getD i default).hi <= 1000 := fun i hi => by
    have := c1 i (Nat.zero_le _) (by omega)
    unfold Wn.c1 at this
    split at this
    · cases this
    · split at this
      · rename_i h
        exact of_decide_eq_true h
      · cases this
  obtain ⟨r, r1, r2⟩ := rising_out (l := sp) (n := (dn.length : Int)) (by omega)
  obtain ⟨u, u1, u2⟩ := unlisted_out (l := sp) (n := (dn.length : Int)) (by omega) (by omega)
  by_cases U : Wn.Up sp (dn.length : Int)
  case neg =>
    have hr : r = false := by rw [← Bool.not_eq_true, r2]; exact U
    have hu : u = true := u2.2 U
    subst hr hu
    exact ⟨9, own_head L' (M.i_bind g1 (M.i_bind r1 (M.i_t rfl M.i_pure))), ref_head L' (M.i_bind g2 (M.i_bind u1 (M.i_t rfl M.i_pure))), fun h => by omega⟩
  have hr : r = true := r2.2 U
  have hu : u = false := by
    rw [← Bool.not_eq_true, u2]
    exact fun h => h U
  subst hr hu
  have t1 := every_towns tw (fun xqz => zaL xqz) Wn.tim fun t _ => timely_ends t
  have t2 := every_towns tw (fun xqz => zaF xqz (dn.length : Int)) (Wn.sta dn.length) fun t _ => check1_ends n12 t
  have t3 := M.i_fs tw.length (Wn.ct dn.length tw) (b1_ref n12) (by simp only [za0]; exact M.i_f (decide_eq_false (by omega)) M.i_pure) tw.length 0 (by omega)
  by_cases T : tw.all Wn.tim = true /\ tw.all (Wn.sta dn.length) = true
  case neg =>
    have e3 : fs (Wn.ct dn.length tw) tw.length 0 = some () := by
      cases e3 : fs (Wn.ct dn.length tw) tw.length 0 with
      | some x => rfl
      | none =>
        exfalso
        apply T
        have key : ∀ t ∈ tw, Wn.tim t = true /\ Wn.sta dn.length t = true := fun t ht => by
          obtain ⟨i, hi, rfl⟩ := mem_getD ht default
          have := fs_none e3 i (Nat.zero_le _) (by omega)
          unfold Wn.ct at this
          split at this
          · assumption
          · cases this
        exact ⟨List.all_eq_true.2 fun t ht => (key t ht).1, List.all_eq_true.2 fun t ht => (key t ht).2⟩
    rw [e3] at t3
    refine ⟨130, own_head L' (M.i_bind g1 (M.i_bind r1 (M.i_f rfl (M.i_bind t1 (M.i_bind (M.i_optA t2) (M.i_bind (M.i_optA (hours_ends _)) (M.i_t ?_ M.i_pure))))))), ref_head L' (M.i_bind g2 (M.i_bind u1 (M.i_f rfl (M.i_bind t3 M.i_pure)))), fun h => by omega⟩
    cases h1 : tw.all Wn.tim with
    | false => rfl
    | true =>
      cases h2 : tw.all (Wn.sta dn.length) with
      | false => rfl
      | true => exact absurd ⟨h1, h2⟩ T
  have e3 : fs (Wn.ct dn.length tw) tw.length 0 = none := by
    cases e3 : fs (Wn.ct dn.length tw) tw.length 0 with
    | none => rfl
    | some x =>
      exfalso
      suffices h : ∀ m i, i + m <= tw.length -> fs (Wn.ct dn.length tw) m i = none by
        rw [h tw.length 0 (by omega)] at e3
        cases e3
      intro m
      induction m with
      | zero => intro i _; rfl
      | succ m ih =>
        intro i hi
        have hm : tw.getD i default ∈ tw := by rw [getD_el tw (by omega)]; exact List.getElem_mem _
        have : Wn.ct dn.length tw i = none := by
          unfold Wn.ct
          rw [if_pos ⟨List.all_eq_true.1 T.1 _ hm, List.all_eq_true.1 T.2 _ hm⟩]
        unfold fs
        rw [this]
        exact ih (i + 1) (by omega)
  rw [e3] at t3
  by_cases D : Wn.hok ⟨dl, dh⟩ = true
  case neg =>
    have D' : Wn.hok ⟨dl, dh⟩ = false := by simpa using D
    have s3 := spoilt_ends ⟨dl, dh⟩
    rw [D'] at s3
    refine ⟨130, own_head L' (M.i_bind g1 (M.i_bind r1 (M.i_f rfl (M.i_bind t1 (M.i_bind (M.i_optA t2) (M.i_bind (M.i_optA (hours_ends _)) (M.i_t ?_ M.i_pure))))))), ref_head L' (M.i_bind g2 (M.i_bind u1 (M.i_f rfl (M.i_bind t3 (M.i_bind s3 (M.i_t rfl M.i_pure)))))), fun h => by omega⟩
    rw [T.1, T.2, D']
    rfl
  have s3 := spoilt_ends ⟨dl, dh⟩
  rw [D] at s3
  have g3 := M.i_fs fl.length (Wn.c2 dn sp fl) (b3_own (tr := tr) (tw := tw) (dl := dl) (dh := dh) hnx n12 U) (by simp only [zav]; exact M.i_f (decide_eq_false (by omega)) M.i_pure) fl.length 0 (by omega)
  have g4 := M.i_fs fl.length (Wn.c2 dn sp fl) (b8_ref (tr := tr) (tw := tw) (dl := dl) (dh := dh) hnx n12 U) (by simp only [zaR]; exact M.i_f (decide_eq_false (by omega)) M.i_pure) fl.length 0 (by omega)
  have cd : ((((!tw.all Wn.tim) || (!((!(!tw.all Wn.tim)) && tw.all (Wn.sta dn.length)))) || (!((!((!tw.all Wn.tim) || (!((!(!tw.all Wn.tim)) && tw.all (Wn.sta dn.length))))) && Wn.hok ⟨dl, dh⟩)))) = false := by
    rw [T.1, T.2, D]
    rfl
  cases e4 : fs (Wn.c2 dn sp fl) fl.length 0 with
  | some x =>
    rw [e4] at g3 g4
    refine ⟨x, own_head L' (M.i_bind g1 (M.i_bind r1 (M.i_f rfl (M.i_bind t1 (M.i_bind (M.i_optA t2) (M.i_bind (M.i_optA (hours_ends _)) (M.i_f cd (M.i_bind g3 M.i_pure)))))))), ref_head L' (M.i_bind g2 (M.i_bind u1 (M.i_f rfl (M.i_bind t3 (M.i_bind s3 (M.i_f rfl (M.i_bind g4 M.i_pure))))))), fun h => ?_⟩
    obtain ⟨j, hj⟩ := fs_some e4
    unfold Wn.c2 at hj
    subst h
    split at hj
    · split at hj <;> cases hj
    · cases hj
  | none =>
  rw [e4] at g3 g4
  have D := of_decide_eq_true D
  dsimp only at D
  refine ⟨0, own_head L' (M.i_bind g1 (M.i_bind r1 (M.i_f rfl (M.i_bind t1 (M.i_bind (M.i_optA t2) (M.i_bind (M.i_optA (hours_ends _)) (M.i_f cd (M.i_bind g3 M.i_pure)))))))), ref_head L' (M.i_bind g2 (M.i_bind u1 (M.i_f rfl (M.i_bind t3 (M.i_bind s3 (M.i_f rfl (M.i_bind g4 M.i_pure))))))), fun _ => ⟨n1, n12, hnx, tl, hhr, s1, s8, U.sr, U.si, t8, fun t ht => ?_, D.1, D.2.1, D.2.2, f20, fun f hf => ?_⟩⟩
  · have h1 := of_decide_eq_true (List.all_eq_true.1 T.1 t ht)
    have h2 := of_decide_eq_true (List.all_eq_true.1 T.2 t ht)
    exact ⟨h2, h1⟩
  · obtain ⟨i, hi, rfl⟩ := mem_getD hf default
    have := fs_none e4 i (Nat.zero_le _) (by omega)
    unfold Wn.c2 at this
    split at this
    · rename_i h
      split at this
      · rename_i h2
        refine ⟨h.1, h.2, fun x hx => ?_⟩
        have := List.all_eq_true.1 h2 x hx
        unfold Wn.sok at this
        simpa using this
      · cases this
    · cases this
end Go.Proofs.YtbaehghammbjdaaGreat
