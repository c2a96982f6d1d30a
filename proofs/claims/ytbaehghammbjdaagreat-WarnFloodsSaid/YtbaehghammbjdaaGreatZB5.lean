/- Part 5 of the texts on which the proof rests. Conditions: none. -/
import Derived.Test.YtbaehghammbjdaaGreatZB4
set_option linter.unusedVariables false
set_option linter.unusedSimpArgs false
set_option linter.unusedSectionVars false
section
set_option maxRecDepth 100000
set_option maxHeartbeats 16000000
namespace Go.Proofs.YtbaehghammbjdaaGreat
open Go Go.Nm
def zaf (n : Int) (a : Int) (b : Int) : M Bool :=
  M.pure ((decide (n < a)) || (decide (b < n)))
theorem zal {R : List Chunk}  (n : Int) (a : Int) (b : Int)  {r : Bool} (hM : (zaf n a b).Ends r) (w : World) (H : St w w [] R) : Ret Tryz.prog 49 #[I n, I a, I b] w fun v w' => ∃ (y0 : Bool), y0 = r /\ v = B y0 /\ St w w' [] R := by
 refine ret_of_W Tryz.func49 rfl rfl rfl ?_
 refine W.seq ?_
 refine W.region rfl ?_
 refine zA (B false) rfl ?_
 refine s_nil ?_
 refine W.seq ?_
 refine W.region rfl ?_
 refine zM (I n) rfl ?_
 refine zM (I a) rfl ?_
 refine zC n a (decide (n < a)) rfl rfl rfl ?_
 refine zM (B (decide (n < a))) rfl ?_
 refine g_val (!(decide (n < a))) (gy_f rfl) (fun hg => x_mv (v := I n) rfl) ?_
 refine g_val (!(decide (n < a))) (gy_f rfl) (fun hg => x_mv (v := I b) rfl) ?_
 refine g_val (!(decide (n < a))) (gy_f rfl) (fun hg => x_cmp (kd := .i64) (a := n) (b := b) (r := decide (b < n)) (gd_of (c := !(decide (n < a))) hg (I n)) (gd_of (c := !(decide (n < a))) hg (I b)) rfl) ?_
 refine s_val (x_por (b := decide (n < a)) (r := decide (b < n)) rfl rfl (fun hb => gd_of (c := !(decide (n < a))) (by first | exact hb | (rw [hb]; rfl) | simp_all) (B (decide (b < n))))) ?_
 refine zA (B ((decide (n < a)) || (decide (b < n)))) rfl ?_
 refine s_nil ?_
 refine W.ret ?_
 have aa := M.e_pure hM
 exact ⟨_, resE_tmp rfl, ⟨((decide (n < a)) || (decide (b < n))), aa, rfl, H⟩⟩

def zbz (s : Span) : M Bool :=
  M.pure (((decide (s.lo < 0)) || (decide (1000 < s.hi))) || (decide (s.hi < s.lo)))
theorem zcM {R : List Chunk}  (s : Span)  {r : Bool} (hM : (zbz s).Ends r) (w : World) (H : St w w [] R) : Ret Tryz.prog 69 #[.agg #[I s.lo, I s.hi]] w fun v w' => ∃ (y0 : Bool), y0 = r /\ v = B y0 /\ St w w' [] R := by
 refine ret_of_W Tryz.func69 rfl rfl rfl ?_
 refine W.seq ?_
 refine W.region rfl ?_
 refine t_box (v := .agg #[I s.lo, I s.hi]) (cs := [I s.lo, I s.hi]) H rfl rfl ?_
 intro aa ac H
 refine zA (B false) rfl ?_
 refine s_nil ?_
 refine W.seq ?_
 refine W.region rfl ?_
 refine s_val (x_fa (a := Pq aa) (v := Pq aa) rfl (fa_blk (o := 0) Fd26_0 Sz3)) ?_
 refine s_val (x_ld (p := Pq aa) (v := I s.lo) rfl (ldb_sc Sc3 (H.bl 0) rfl)) ?_
 refine zC s.lo 0 (decide (s.lo < 0)) rfl rfl rfl ?_
 refine zM (B (decide (s.lo < 0))) rfl ?_
 refine g_val (!(decide (s.lo < 0))) (gy_f rfl) (fun hg => x_fa (a := Pq aa) (v := Oq aa 1) rfl (fa_blk (o := 0) Fd26_1 Sz3)) ?_
 refine g_val (!(decide (s.lo < 0))) (gy_f rfl) (fun hg => x_ld (p := Oq aa 1) (v := I s.hi) (gd_of (c := !(decide (s.lo < 0))) hg (Oq aa 1)) (ldb_sc Sc3 (H.bl 0) rfl)) ?_
 refine g_val (!(decide (s.lo < 0))) (gy_f rfl) (fun hg => x_cmp (kd := .i64) (a := s.hi) (b := 1000) (r := decide (1000 < s.hi)) (gd_of (c := !(decide (s.lo < 0))) hg (I s.hi)) rfl rfl) ?_
 refine s_val (x_por (b := decide (s.lo < 0)) (r := decide (1000 < s.hi)) rfl rfl (fun hb => gd_of (c := !(decide (s.lo < 0))) (by first | exact hb | (rw [hb]; rfl) | simp_all) (B (decide (1000 < s.hi))))) ?_
 refine zM (B ((decide (s.lo < 0)) || (decide (1000 < s.hi)))) rfl ?_
 refine g_val (!((decide (s.lo < 0)) || (decide (1000 < s.hi)))) (gy_f rfl) (fun hg => x_fa (a := Pq aa) (v := Pq aa) rfl (fa_blk (o := 0) Fd26_0 Sz3)) ?_
 refine g_val (!((decide (s.lo < 0)) || (decide (1000 < s.hi)))) (gy_f rfl) (fun hg => x_ld (p := Pq aa) (v := I s.lo) (gd_of (c := !((decide (s.lo < 0)) || (decide (1000 < s.hi)))) hg (Pq aa)) (ldb_sc Sc3 (H.bl 0) rfl)) ?_
 refine g_val (!((decide (s.lo < 0)) || (decide (1000 < s.hi)))) (gy_f rfl) (fun hg => x_fa (a := Pq aa) (v := Oq aa 1) rfl (fa_blk (o := 0) Fd26_1 Sz3)) ?_
 refine g_val (!((decide (s.lo < 0)) || (decide (1000 < s.hi)))) (gy_f rfl) (fun hg => x_ld (p := Oq aa 1) (v := I s.hi) (gd_of (c := !((decide (s.lo < 0)) || (decide (1000 < s.hi)))) hg (Oq aa 1)) (ldb_sc Sc3 (H.bl 0) rfl)) ?_
 refine g_val (!((decide (s.lo < 0)) || (decide (1000 < s.hi)))) (gy_f rfl) (fun hg => x_cmp (kd := .i64) (a := s.lo) (b := s.hi) (r := decide (s.hi < s.lo)) (gd_of (c := !((decide (s.lo < 0)) || (decide (1000 < s.hi)))) hg (I s.lo)) (gd_of (c := !((decide (s.lo < 0)) || (decide (1000 < s.hi)))) hg (I s.hi)) rfl) ?_
 refine s_val (x_por (b := ((decide (s.lo < 0)) || (decide (1000 < s.hi)))) (r := decide (s.hi < s.lo)) rfl rfl (fun hb => gd_of (c := !((decide (s.lo < 0)) || (decide (1000 < s.hi)))) (by first | exact hb | (rw [hb]; rfl) | simp_all) (B (decide (s.hi < s.lo))))) ?_
 refine zA (B (((decide (s.lo < 0)) || (decide (1000 < s.hi))) || (decide (s.hi < s.lo)))) rfl ?_
 refine s_nil ?_
 refine W.ret ?_
 have ab := M.e_pure hM
 exact ⟨_, resE_tmp rfl, ⟨(((decide (s.lo < 0)) || (decide (1000 < s.hi))) || (decide (s.hi < s.lo))), ab, rfl, (H.pk [])⟩⟩

def zbg (l : List Int) (aa : Int) : Nat -> M (Nat ⊕ (Unit ⊕ Unit)) := fun i =>
  bif decide ((i : Int) < (l.length : Int)) then (
  M.grd (decide ((i : Int) < (l.length : Int))) <|
  M.grd (decide ((-9223372036854775808 : Int) <= (aa - 1)) && decide ((aa - 1) <= (9223372036854775807 : Int))) <|
  M.bind (zaf (l.getD i 0) 0 (aa - 1)) fun r2 =>
  M.grd ((!((!r2) && (decide (0 < (i : Int)))) || (decide ((-9223372036854775808 : Int) <= ((i : Int) - 1)) && decide (((i : Int) - 1) <= (9223372036854775807 : Int))))) <|
  M.grd ((!((!r2) && (decide (0 < (i : Int)))) || (decide ((0 : Int) <= ((i : Int) - 1)) && decide (((i : Int) - 1) < (l.length : Int))))) <|
  bif (r2 || ((decide (0 < (i : Int))) && (decide ((l.getD i 0) <= (l.getD (Int.toNat ((i : Int) - 1)) 0))))) then (
  M.pure (.inr (.inl ())))
  else (
  M.pure (.inl (i + 1))))
  else (
  M.pure (.inr (.inr ())))
def zbA (l : List Int) (aa : Int) : M Bool :=
  M.bind (M.iter (zbg l aa) 0) fun x_ => match x_ with
  | (.inl (_ : Unit)) => (
  M.pure true)
  | (.inr (_ : Unit)) => (
  M.pure false)
theorem zcT {R : List Chunk} {av : Cells} {aa : Value} (l : List Int) (ag : Int) (am : Reads R av) (ah : Sl av aa l) {r : Bool} (hM : (zbA l ag).Ends r) (w : World) (H : St w w [] R) : Ret Tryz.prog 70 #[aa, I ag] w fun v w' => ∃ (y0 : Bool), y0 = r /\ v = B y0 /\ St w w' [] R := by
 refine ret_of_W Tryz.func70 rfl rfl rfl ?_
 refine W.seq ?_
 refine W.region rfl ?_
 refine zA (B false) rfl ?_
 refine s_nil ?_
 refine W.seq ?_
 refine W.seq ?_
 refine W.region rfl ?_
 refine zA (I 0) rfl ?_
 refine s_nil ?_
 refine W.block ?_
 obtain ⟨az, ao, aw⟩ := M.e_bind hM
 obtain ⟨aI, ao⟩ := M.e_iter ao
 refine W.loop (fun m σ W => ∃ (i : Nat) (ρ : Env), σ = upds ρ [(0, aa), (1, I ag), (5, I (i : Int))] /\ M.iterN (zbg l ag) m i = some az /\ St w W [] R) ?_ ?_
 ·exact ⟨_, 0, _, upds_of _ _ ⟨rfl, rfl, rfl, trivial⟩, ao, H⟩
 rintro aJ σ aK ⟨i, ρ, rfl, ax, H⟩
 obtain ⟨aA, aB, aL, hM, ap⟩ := M.e_iterN ax
 simp only [zbg] at hM
 clear ax
 refine W.seq ?_
 refine W.seq ?_
 refine W.region rfl ?_
 refine zM (I (i : Int)) rfl ?_
 refine zM aa rfl ?_
 have aM := (ah).len_le
 refine s_val (x_lenS T22.und rfl ah) ?_
 refine zC (i : Int) (l.length : Int) (decide ((i : Int) < (l.length : Int))) rfl rfl rfl ?_
 refine s_nil ?_
 refine W.cond (decide ((i : Int) < (l.length : Int))) rfl (fun ak => ?_) (fun ak => ?_)
 ·replace hM := M.e_t hM ak
  simp only [qy1, qy2, qy3, qy4, qy5, qy6, ne_eq, qy7] at ak
  refine W.skip ?_
  refine W.seq ?_
  refine W.block ?_
  refine W.seq ?_
  refine W.draw (fun W => St w W [] R) [(0, true), (1, true), (2, true), (3, true), (4, true), (5, true), (6, false), (7, true), (8, true), (9, true), (10, true), (11, true), (12, true), (13, true), (14, true), (15, true), (16, true), (17, true), (18, true), (19, true), (20, true), (21, true), (22, true)] mixed (by decide +kernel) rfl ?_
  intro aN ab
  replace H := H.ext ab
  clear ab
  refine ⟨(H.pk []), ?_⟩
  refine d_q rfl (fun w' H => x_mv (v := aa) rfl) ?_
  refine d_q rfl (fun w' H => x_mv (v := I (i : Int)) rfl) ?_
  obtain ⟨aC, hM⟩ := M.e_grd hM
  simp only [Bool.and_eq_true, decide_eq_true_eq] at aC
  refine d_q rfl (fun w' H => x_ix (a := aa) (b := I (i : Int)) (v := vat aa 1 (Int.toNat (i : Int))) rfl rfl (Sl.ix (α := Int) T22.und T22.size ah (by omega) (by omega))) ?_
  refine d_q rfl (fun w' H => x_ld (p := vat aa 1 (Int.toNat (i : Int))) (v := I (l.getD i 0)) rfl (ld_sc Sc3 (At.mono (Int_at ah (i := (i : Int)) (by omega) (by omega)) (am.at H)))) ?_
  refine d_q rfl (fun w' H => x_mv (v := I ag) rfl) ?_
  obtain ⟨aD, hM⟩ := M.e_grd hM
  simp only [Bool.and_eq_true, decide_eq_true_eq] at aD
  refine d_q rfl (fun w' H => x_ari (a := ag) (b := 1) (r := ag - 1) rfl rfl rfl (by omega)) ?_
  refine d_l rfl ?_
  obtain ⟨aO, aE, hM⟩ := M.e_bind hM
  refine s_call cf49 [I (l.getD i 0), I 0, I (ag - 1)] rfl (zal (l.getD i 0) 0 (ag - 1) aE _ (H.gt 0)) ?_
  rintro vq aP ⟨r2, aF, hvq, ay⟩
  subst aF
  subst vq
  try dsimp only at hM
  replace H := H.bk ay
  clear ay
  refine s_nil ⟨(H.pk []), ?_⟩
  refine d_q rfl (fun w' H => x_mv (v := B r2) rfl) ?_
  refine d_qg (!r2) rfl (gy_f rfl) (fun hg => (fun w' H => x_mv (v := I (i : Int)) rfl)) ?_
  refine d_qg (!r2) rfl (gy_f rfl) (fun hg => (fun w' H => x_cmp (kd := .i64) (a := (i : Int)) (b := 0) (r := decide (0 < (i : Int))) (gd_of (c := !r2) hg (I (i : Int))) rfl rfl)) ?_
  refine d_qg (!r2) rfl (gy_f rfl) (fun hg => (fun w' H => x_mv (v := B (decide (0 < (i : Int)))) (gd_of (c := !r2) hg (B (decide (0 < (i : Int))))))) ?_
  refine d_qg ((!r2) && (decide (0 < (i : Int)))) rfl (gy_gt rfl rfl) (fun hg => (fun w' H => x_mv (v := aa) rfl)) ?_
  refine d_qg ((!r2) && (decide (0 < (i : Int)))) rfl (gy_gt rfl rfl) (fun hg => (fun w' H => x_mv (v := I (i : Int)) rfl)) ?_
  refine d_qg ((!r2) && (decide (0 < (i : Int)))) rfl (gy_gt rfl rfl) (fun hg => (fun w' H => x_ix (a := aa) (b := I (i : Int)) (v := vat aa 1 (Int.toNat (i : Int))) (gd_of (c := ((!r2) && (decide (0 < (i : Int))))) hg (aa)) (gd_of (c := ((!r2) && (decide (0 < (i : Int))))) hg (I (i : Int))) (Sl.ix (α := Int) T22.und T22.size ah (by first | omega | (have ab := hg; simp at ab; omega)) (by first | omega | (have ab := hg; simp at ab; omega))))) ?_
  refine d_qg ((!r2) && (decide (0 < (i : Int)))) rfl (gy_gt rfl rfl) (fun hg => (fun w' H => x_ld (p := vat aa 1 (Int.toNat (i : Int))) (v := I (l.getD i 0)) (gd_of (c := ((!r2) && (decide (0 < (i : Int))))) hg (vat aa 1 (Int.toNat (i : Int)))) (ld_sc Sc3 (At.mono (Int_at ah (i := (i : Int)) (by first | omega | (have ab := hg; simp at ab; omega)) (by first | omega | (have ab := hg; simp at ab; omega))) (am.at H))))) ?_
  refine d_qg ((!r2) && (decide (0 < (i : Int)))) rfl (gy_gt rfl rfl) (fun hg => (fun w' H => x_mv (v := aa) rfl)) ?_
  refine d_qg ((!r2) && (decide (0 < (i : Int)))) rfl (gy_gt rfl rfl) (fun hg => (fun w' H => x_mv (v := I (i : Int)) rfl)) ?_
  obtain ⟨ai, hM⟩ := M.e_grd hM
  replace ai := M.imp_of ai
  simp only [Bool.and_eq_true, decide_eq_true_eq] at ai
  refine d_qg ((!r2) && (decide (0 < (i : Int)))) rfl (gy_gt rfl rfl) (fun hg => (fun w' H => x_ari (a := (i : Int)) (b := 1) (r := (i : Int) - 1) (gd_of (c := ((!r2) && (decide (0 < (i : Int))))) hg (I (i : Int))) rfl rfl (by have ac := ai.resolve_left (by rw [hg]; decide); first | exact ac | exact ac.1 | exact ac.2 | omega | (have ab := hg; simp at ab; omega)))) ?_
  obtain ⟨aj, hM⟩ := M.e_grd hM
  replace aj := M.imp_of aj
  simp only [Bool.and_eq_true, decide_eq_true_eq] at aj
  refine d_qg ((!r2) && (decide (0 < (i : Int)))) rfl (gy_gt rfl rfl) (fun hg => (fun w' H => x_ix (a := aa) (b := I ((i : Int) - 1)) (v := vat aa 1 (Int.toNat ((i : Int) - 1))) (gd_of (c := ((!r2) && (decide (0 < (i : Int))))) hg (aa)) (gd_of (c := ((!r2) && (decide (0 < (i : Int))))) hg (I ((i : Int) - 1))) (Sl.ix (α := Int) T22.und T22.size ah (by have ac := ai.resolve_left (by rw [hg]; decide); have ae := aj.resolve_left (by rw [hg]; decide); first | exact ac | exact ac.1 | exact ac.2 | exact ae | exact ae.1 | exact ae.2 | omega | (have ab := hg; simp at ab; omega)) (by have ac := ai.resolve_left (by rw [hg]; decide); have ae := aj.resolve_left (by rw [hg]; decide); first | exact ac | exact ac.1 | exact ac.2 | exact ae | exact ae.1 | exact ae.2 | omega | (have ab := hg; simp at ab; omega))))) ?_
  refine d_qg ((!r2) && (decide (0 < (i : Int)))) rfl (gy_gt rfl rfl) (fun hg => (fun w' H => x_ld (p := vat aa 1 (Int.toNat ((i : Int) - 1))) (v := I (l.getD (Int.toNat ((i : Int) - 1)) 0)) (gd_of (c := ((!r2) && (decide (0 < (i : Int))))) hg (vat aa 1 (Int.toNat ((i : Int) - 1)))) (ld_sc Sc3 (At.mono (Int_at ah (i := (i : Int) - 1) (by have ac := ai.resolve_left (by rw [hg]; decide); have ae := aj.resolve_left (by rw [hg]; decide); first | exact ac | exact ac.1 | exact ac.2 | exact ae | exact ae.1 | exact ae.2 | omega | (have ab := hg; simp at ab; omega)) (by have ac := ai.resolve_left (by rw [hg]; decide); have ae := aj.resolve_left (by rw [hg]; decide); first | exact ac | exact ac.1 | exact ac.2 | exact ae | exact ae.1 | exact ae.2 | omega | (have ab := hg; simp at ab; omega))) (am.at H))))) ?_
  refine d_qg ((!r2) && (decide (0 < (i : Int)))) rfl (gy_gt rfl rfl) (fun hg => (fun w' H => x_cmp (kd := .i64) (a := l.getD i 0) (b := l.getD (Int.toNat ((i : Int) - 1)) 0) (r := decide ((l.getD i 0) <= (l.getD (Int.toNat ((i : Int) - 1)) 0))) (gd_of (c := ((!r2) && (decide (0 < (i : Int))))) hg (I (l.getD i 0))) (gd_of (c := ((!r2) && (decide (0 < (i : Int))))) hg (I (l.getD (Int.toNat ((i : Int) - 1)) 0))) rfl)) ?_
  refine d_qg (!r2) rfl (gy_f rfl) (fun hg => (fun w' H => x_pand (b := decide (0 < (i : Int))) (r := decide ((l.getD i 0) <= (l.getD (Int.toNat ((i : Int) - 1)) 0))) (gd_of (c := !r2) hg (B (decide (0 < (i : Int))))) (fun hb => gd_of (c := ((!r2) && (decide (0 < (i : Int))))) (by first | exact hb | (rw [hb]; rfl) | simp_all) (B (decide ((l.getD i 0) <= (l.getD (Int.toNat ((i : Int) - 1)) 0))))) rfl)) ?_
  refine d_q rfl (fun w' H => x_por (b := r2) (r := ((decide (0 < (i : Int))) && (decide ((l.getD i 0) <= (l.getD (Int.toNat ((i : Int) - 1)) 0))))) rfl rfl (fun hb => gd_of (c := !r2) (by first | exact hb | (rw [hb]; rfl) | simp_all) (B ((decide (0 < (i : Int))) && (decide ((l.getD i 0) <= (l.getD (Int.toNat ((i : Int) - 1)) 0))))))) ?_
  refine d_nil ?_
  refine W.cond (r2 || ((decide (0 < (i : Int))) && (decide ((l.getD i 0) <= (l.getD (Int.toNat ((i : Int) - 1)) 0))))) rfl (fun aq => ?_) (fun aq => ?_)
  ·replace hM := M.e_t hM aq
   refine W.seq ?_
   refine W.region rfl ?_
   refine zA (B true) rfl ?_
   refine s_nil ?_
   refine W.ret ?_
   have aG := M.e_inr hM ap
   subst aG
   replace hM := aw
   try dsimp only at hM
   have au := M.e_pure hM
   exact ⟨_, resE_tmp rfl, ⟨true, au, rfl, H⟩⟩
  replace hM := M.e_f hM aq
  refine W.skip ?_
  refine W.region rfl ?_
  refine zM (I (i : Int)) rfl ?_
  refine zR (i : Int) 1 ((i : Int) + 1) rfl rfl rfl (by omega) ?_
  refine zA (I ((i : Int) + 1)) rfl ?_
  refine s_nil ?_
  exact ⟨aA, aB, i + 1, _, upds_of _ _ ⟨rfl, rfl, rfl, trivial⟩, M.e_inl hM ap, H⟩
 replace hM := M.e_f hM ak
 simp only [qy1, qy2, qy3, qy4, qy5, qy6, ne_eq, qy7] at ak
 refine W.exit ?_
 have aH := M.e_inr hM ap
 subst aH
 replace hM := aw
 try dsimp only at hM
 refine W.seq ?_
 refine W.region rfl ?_
 refine zA (B false) rfl ?_
 refine s_nil ?_
 refine W.ret ?_
 have au := M.e_pure hM
 exact ⟨_, resE_tmp rfl, ⟨false, au, rfl, H⟩⟩

def zbd (aa : List Int) : (Int × (List Int)) -> M ((Int × (List Int)) ⊕ ((List Int) × (List Int))) := fun (station2, l) =>
  bif station2 != (-1) then (
  M.grd (decide ((l.length + ([(station2 : Int)]).length) * 8 <= 140737488355328)) <|
  M.grd (decide ((0 : Int) <= station2) && decide (station2 < (aa.length : Int))) <|
  M.pure (.inl (aa.getD (Int.toNat station2) 0, l ++ ([(station2 : Int)]))))
  else (
  M.pure (.inr (l, l)))
def zbB (aa : List Int) (ab : List Span) (ac : List Int) (ae : List Town) (ag : Int) (ah : Int) (ai : List Flood) (station : Int) : M (List Int) :=
  M.bind (M.iter (zbd aa) (station, [])) fun (l2, l3) =>
  M.pure l3
theorem zc3 {R : List Chunk} {aq : Cells} {aa : Value} {au : Cells} {ae : Value} {av : Cells} {ag : Value} {aw : Cells} {ah : Value} {ax : Cells} {ai : Value} (ac : List Int) (ay : List Span) (az : List Int) (aA : List Town) (aj : Int) (ak : Int) (aB : List Flood) (station : Int) (aG : Reads R aq) (aC : Sl aq aa ac) (aQ : Reads R au) (aR : Sl au ae ay) (aS : Reads R av) (aT : Sl av ag az) (aU : Reads R aw) (aV : Sl aw ah aA) (aW : Reads R ax) (aX : Sl ax ai aB) {r : (List Int)} (hM : (zbB ac ay az aA aj ak aB station).Ends r) (w : World) (H : St w w [] R) : Ret Tryz.prog 71 #[.agg #[aa, ae, ag, ah, I aj, I ak, ai], I station] w fun v w' => ∃ (y0 : List Int) (u0 : Value), y0 = r /\ v = u0 /\ St w w' [cOwn (α := Int) 3 u0 y0] R := by
 refine ret_of_W Tryz.func71 rfl rfl rfl ?_
 refine W.seq ?_
 refine W.region rfl ?_
 refine t_box (v := .agg #[aa, ae, ag, ah, I aj, I ak, ai]) (cs := [aa, ae, ag, ah, I aj, I ak, ai]) H rfl rfl ?_
 intro am aY H
 refine zA (.slice none 0 0) rfl ?_
 refine s_nil ?_
 refine W.seq ?_
 refine W.region rfl ?_
 refine zA (.slice none 0 0) rfl ?_
 refine s_nil ?_
 refine W.seq ?_
 refine W.block ?_
 replace H := H.nilOwn (α := Int) 3
 obtain ⟨aH, ap, aI⟩ := M.e_bind hM
 obtain ⟨aZ, ap⟩ := M.e_iter ap
 refine W.loop (fun m σ W => ∃ (station2 : Int) (l : List Int) (ab : Value) (ρ : Env), σ = upds ρ [(1, I station2), (2, Pq am), (5, ab)] /\ M.iterN (zbd ac) m (station2, l) = some aH /\ St w W [cOwn (α := Int) 3 ab l, cBlk am [aa, ae, ag, ah, I aj, I ak, ai] 37] R) ?_ ?_
 ·exact ⟨_, station, [], (.slice none 0 0), _, upds_of _ _ ⟨rfl, rfl, rfl, trivial⟩, ap, H⟩
 rintro a6 σ a7 ⟨station2, l, ab, ρ, rfl, aD, H⟩
 obtain ⟨aJ, aK, a8, hM, aE⟩ := M.e_iterN aD
 simp only [zbd] at hM
 clear aD
 refine W.seq ?_
 refine W.seq ?_
 refine W.region rfl ?_
 refine zM (I station2) rfl ?_
 refine zC station2 (-1) (station2 != (-1)) rfl rfl rfl ?_
 refine s_nil ?_
 refine W.cond (station2 != (-1)) rfl (fun ao => ?_) (fun ao => ?_)
 ·replace hM := M.e_t hM ao
  simp only [qy1, qy2, qy3, qy4, qy5, qy6, ne_eq, qy7] at ao
  refine W.skip ?_
  refine W.block ?_
  refine W.seq ?_
  refine W.region rfl ?_
  refine zM ab rfl ?_
  refine zM (I station2) rfl ?_
  refine t_bs (α := Int) T22 [I station2] [(station2 : Int)] H rfl (.cons rfl (Flat.rep_enc _ (station2 : Int)) <| .nil) rfl rfl rfl ?_
  intro aL ba H
  obtain ⟨aM, hM⟩ := M.e_grd hM
  simp only [Bool.and_eq_true, decide_eq_true_eq] at aM
  refine t_app (α := Int) (k := 1) (l := l) (l2 := [(station2 : Int)]) (l' := l ++ ([(station2 : Int)])) (vy := aL) T22 rfl H rfl rfl rfl (H.os 0) (H.ol 0) (rfl) (by first | omega | (simp only [List.length_nil] at *; omega)) ?_
  intro aF bc H
  replace H := H.nf
  refine zA aF rfl ?_
  refine s_nil ?_
  refine W.region rfl ?_
  refine s_val (x_fa (a := Pq am) (v := Pq am) rfl (fa_blk (o := 0) Fd37_0 Sz22)) ?_
  refine s_val (x_ld (p := Pq am) (v := aa) rfl (ldb_sc Sc22 (H.bl 2) rfl)) ?_
  refine zM (I station2) rfl ?_
  obtain ⟨aN, hM⟩ := M.e_grd hM
  simp only [Bool.and_eq_true, decide_eq_true_eq] at aN
  refine s_val (x_ix (a := aa) (b := I station2) (v := vat aa 1 (Int.toNat station2)) rfl rfl (Sl.ix (α := Int) T22.und T22.size aC (by omega) (by omega))) ?_
  refine s_val (x_ld (p := vat aa 1 (Int.toNat station2)) (v := I (ac.getD (Int.toNat station2) 0)) rfl (ld_sc Sc3 (At.mono (Int_at aC (i := station2) (by omega) (by omega)) (aG.at H)))) ?_
  refine zA (I (ac.getD (Int.toNat station2) 0)) rfl ?_
  refine s_nil ?_
  exact ⟨aJ, aK, ac.getD (Int.toNat station2) 0, l ++ ([(station2 : Int)]), aF, _, upds_of _ _ ⟨rfl, rfl, rfl, trivial⟩, M.e_inl hM aE, (H.pk [1, 2])⟩
 replace hM := M.e_f hM ao
 simp only [qy1, qy2, qy3, qy4, qy5, qy6, ne_eq, qy7] at ao
 refine W.exit ?_
 have aO := M.e_inr hM aE
 subst aO
 replace hM := aI
 try dsimp only at hM
 refine W.seq ?_
 refine W.region rfl ?_
 refine zM ab rfl ?_
 refine zA ab rfl ?_
 refine s_nil ?_
 refine W.ret ?_
 have aP := M.e_pure hM
 exact ⟨_, resE_tmp rfl, ⟨l, ab, aP, rfl, (H.pk [0])⟩⟩

def zaV (aa : List Int) (ab : List Span) : Nat -> M (Nat ⊕ (Int ⊕ Unit)) := fun i =>
  bif decide ((i : Int) < (aa.length : Int)) then (
  M.grd (decide ((i : Int) < (aa.length : Int))) <|
  M.bind (M.opt ((aa.getD i 0) != (-1)) (zaf (aa.getD i 0) ((i : Int) + 1) ((aa.length : Int) - 1)) false) fun r4 =>
  bif (((aa.getD i 0) != (-1)) && r4) then (
  M.pure (.inr (.inl 2)))
  else (
  M.grd (decide ((i : Int) < (ab.length : Int))) <|
  M.bind (zbz (ab.getD i default)) fun r5 =>
  bif r5 then (
  M.pure (.inr (.inl 130)))
  else (
  M.pure (.inl (i + 1)))))
  else (
  M.pure (.inr (.inr ())))
def zaU (ab : List Int) (aa : List Town) : Nat -> M (Nat ⊕ (Unit ⊕ Unit)) := fun i2 =>
  bif decide ((i2 : Int) < (aa.length : Int)) then (
  M.grd (decide ((i2 : Int) < (aa.length : Int))) <|
  M.bind (zaf ((aa.getD i2 default).station) 0 ((ab.length : Int) - 1)) fun r7 =>
  M.bind (M.opt (!r7) (zaf ((aa.getD i2 default).lead) 0 1000) false) fun r8 =>
  M.bind (M.opt (!(r7 || r8)) (zaf ((aa.getD i2 default).alarm) 0 2000) false) fun r9 =>
  bif ((r7 || r8) || r9) then (
  M.pure (.inr (.inl ())))
  else (
  M.pure (.inl (i2 + 1))))
  else (
  M.pure (.inr (.inr ())))
def zaT (aa : List Int) (ab : List Flood) (i3 : Nat) : (Bool × Nat) -> M ((Bool × Nat) ⊕ (Int × Bool)) := fun (spring, k) =>
  bif decide ((k : Int) < (aa.length : Int)) then (
  M.grd ((!(!spring) || (decide ((k : Int) < (aa.length : Int))))) <|
  M.pure (.inl ((spring || ((aa.getD k 0) == ((ab.getD i3 default).spring))), k + 1)))
  else (
  M.pure (.inr ((ab.getD i3 default).spring, spring)))
def za3 (aa : List Flood) (i3 : Nat) : Nat -> M (Nat ⊕ (Unit ⊕ Unit)) := fun k2 =>
  bif decide ((k2 : Int) < (((aa.getD i3 default).stages).length : Int)) then (
  M.grd (decide ((k2 : Int) < (((aa.getD i3 default).stages).length : Int))) <|
  M.bind (zaf (((aa.getD i3 default).stages).getD k2 0) 0 2000) fun ab =>
  bif ab then (
  M.pure (.inr (.inl ())))
  else (
  M.pure (.inl (k2 + 1))))
  else (
  M.pure (.inr (.inr ())))
def zcc (aa : List Flood) (i3 : Nat) : Nat -> M (Nat ⊕ (Unit ⊕ Unit)) := fun k2 =>
  bif decide ((k2 : Int) < (((aa.getD i3 default).stages).length : Int)) then (
  M.grd (decide ((k2 : Int) < (((aa.getD i3 default).stages).length : Int))) <|
  M.bind (zaf (((aa.getD i3 default).stages).getD k2 0) 0 2000) fun ab =>
  bif ab then (
  M.pure (.inr (.inl ())))
  else (
  M.pure (.inl (k2 + 1))))
  else (
  M.pure (.inr (.inr ())))
def za5 (ac : List Int) (ae : List Span) (ab : List Int) (ag : List Town) (ah : Int) (ai : Int) (aa : List Flood) : Nat -> M (Nat ⊕ (Int ⊕ Unit)) := fun i3 =>
  bif decide ((i3 : Int) < (aa.length : Int)) then (
  M.grd (decide ((i3 : Int) < (aa.length : Int))) <|
  M.bind (M.iter (zaT ab aa i3) (false, 0)) fun (s2, spring2) =>
  bif !(!spring2) then (
  M.bind (zbB ac ae ab ag ah ai aa s2) fun aj =>
  bif ((!spring2) || ((((aa.getD i3 default).stages).length : Int) != (aj.length : Int))) then (
  M.pure (.inr (.inl 2)))
  else (
  M.bind (M.iter (za3 aa i3) 0) fun x_ => match x_ with
  | (.inl (_ : Unit)) => (
  M.pure (.inr (.inl 130)))
  | (.inr (_ : Unit)) => (
  M.pure (.inl (i3 + 1)))))
  else (
  bif ((!spring2) || ((((aa.getD i3 default).stages).length : Int) != 0)) then (
  M.pure (.inr (.inl 2)))
  else (
  M.bind (M.iter (zcc aa i3) 0) fun x_ => match x_ with
  | (.inl (_ : Unit)) => (
  M.pure (.inr (.inl 130)))
  | (.inr (_ : Unit)) => (
  M.pure (.inl (i3 + 1))))))
  else (
  M.pure (.inr (.inr ())))
def zcb (aa : List Int) (ab : List Span) (ac : List Int) (ae : List Town) (ag : Int) (ah : Int) (ai : List Flood) : M Int :=
  M.bind (zaf (aa.length : Int) 1 12) fun r2 =>
  M.bind (M.opt (!(r2 || ((ab.length : Int) != (aa.length : Int)))) (zaf (ac.length : Int) 1 8) false) fun r3 =>
  bif ((((r2 || ((ab.length : Int) != (aa.length : Int))) || r3) || (decide (8 < (ae.length : Int)))) || (decide (20 < (ai.length : Int)))) then (
  M.pure 3)
  else (
  M.bind (M.iter (zaV aa ab) 0) fun x_ => match x_ with
  | (.inl s) => (
  M.pure s)
  | (.inr (_ : Unit)) => (
  M.bind (zbA ac (aa.length : Int)) fun r6 =>
  bif r6 then (
  M.pure 9)
  else (
  M.bind (M.iter (zaU aa ae) 0) fun x_ => match x_ with
  | (.inl (_ : Unit)) => (
  M.pure 130)
  | (.inr (_ : Unit)) => (
  M.bind (zbz (⟨(ag : Int), (ah : Int)⟩ : Span)) fun aj =>
  bif aj then (
  M.pure 130)
  else (
  M.bind (M.iter (za5 aa ab ac ae ag ah ai) 0) fun x_ => match x_ with
  | (.inl s3) => (
  M.pure s3)
  | (.inr (_ : Unit)) => (
  M.pure 0))))))
theorem zdV {R : List Chunk} {bw : Cells} {ai : Value} {bx : Cells} {aq : Value} {bz : Cells} {aj : Value} {bA : Cells} {am : Value} {bB : Cells} {ao : Value} (aa : List Int) (ae : List Span) (ay : List Int) (ag : List Town) (au : Int) (av : Int) (ac : List Flood) (aW : Reads R bw) (aE : Sl bw ai aa) (bC : Reads R bx) (aK : Sl bx aq ae) (aX : Reads R bz) (aD : Sl bz aj ay) (bD : Reads R bA) (aF : Sl bA am ag) (aU : Reads R bB) (aG : Sl bB ao ac) {r : Int} (hM : (zcb aa ae ay ag au av ac).Ends r) (w : World) (H : St w w [] R) : Ret Tryz.prog 20 #[.agg #[ai, aq, aj, am, I au, I av, ao]] w fun v w' => ∃ (y0 : Int), y0 = r /\ v = I y0 /\ St w w' [] R := by
 refine ret_of_W Tryz.func20 rfl rfl rfl ?_
 refine W.seq ?_
 refine W.region rfl ?_
 refine t_box (v := .agg #[ai, aq, aj, am, I au, I av, ao]) (cs := [ai, aq, aj, am, I au, I av, ao]) H rfl rfl ?_
 intro ab cX H
 refine zA (I 0) rfl ?_
 refine s_nil ?_
 refine W.seq ?_
 refine W.region rfl ?_
 refine s_val (x_fa (a := Pq ab) (v := Pq ab) rfl (fa_blk (o := 0) Fd37_0 Sz22)) ?_
 refine s_val (x_ld (p := Pq ab) (v := ai) rfl (ldb_sc Sc22 (H.bl 0) rfl)) ?_
 have cY := (aE).len_le
 refine s_val (x_lenS T22.und rfl aE) ?_
 refine zA (I (aa.length : Int)) rfl ?_
 refine s_nil ?_
 refine W.seq ?_
 refine W.seq ?_
 refine W.region rfl ?_
 refine zM (I (aa.length : Int)) rfl ?_
 obtain ⟨cZ, bR, hM⟩ := M.e_bind hM
 refine s_call cf49 [I (aa.length : Int), I 1, I 12] rfl (zal (aa.length : Int) 1 12 bR _ (H.gt 1)) ?_
 rintro vq c6 ⟨r2, bS, hvq, aw⟩
 subst bS
 subst vq
 try dsimp only at hM
 replace H := H.bk aw
 clear aw
 refine zM (B r2) rfl ?_
 refine g_val (!r2) (gy_f rfl) (fun hg => x_fa (a := Pq ab) (v := Oq ab 1) rfl (fa_blk (o := 0) Fd37_1 Sz23)) ?_
 refine g_val (!r2) (gy_f rfl) (fun hg => x_ld (p := Oq ab 1) (v := aq) (gd_of (c := !r2) hg (Oq ab 1)) (ldb_sc Sc23 (H.bl 0) rfl)) ?_
 have c7 := (aK).len_le
 refine g_val (!r2) (gy_f rfl) (fun hg => x_lenS T23.und (gd_of (c := !r2) hg (aq)) aK) ?_
 refine g_val (!r2) (gy_f rfl) (fun hg => x_mv (v := I (aa.length : Int)) rfl) ?_
 refine g_val (!r2) (gy_f rfl) (fun hg => x_cmp (kd := .i64) (a := (ae.length : Int)) (b := (aa.length : Int)) (r := (ae.length : Int) != (aa.length : Int)) (gd_of (c := !r2) hg (I (ae.length : Int))) (gd_of (c := !r2) hg (I (aa.length : Int))) rfl) ?_
 refine s_val (x_por (b := r2) (r := (ae.length : Int) != (aa.length : Int)) rfl rfl (fun hb => gd_of (c := !r2) (by first | exact hb | (rw [hb]; rfl) | simp_all) (B ((ae.length : Int) != (aa.length : Int))))) ?_
 refine zM (B (r2 || ((ae.length : Int) != (aa.length : Int)))) rfl ?_
 refine g_val (!(r2 || ((ae.length : Int) != (aa.length : Int)))) (gy_f rfl) (fun hg => x_fa (a := Pq ab) (v := Oq ab 2) rfl (fa_blk (o := 0) Fd37_2 Sz22)) ?_
 refine g_val (!(r2 || ((ae.length : Int) != (aa.length : Int)))) (gy_f rfl) (fun hg => x_ld (p := Oq ab 2) (v := aj) (gd_of (c := !(r2 || ((ae.length : Int) != (aa.length : Int)))) hg (Oq ab 2)) (ldb_sc Sc22 (H.bl 0) rfl)) ?_
 have c8 := (aD).len_le
 refine g_val (!(r2 || ((ae.length : Int) != (aa.length : Int)))) (gy_f rfl) (fun hg => x_lenS T22.und (gd_of (c := !(r2 || ((ae.length : Int) != (aa.length : Int)))) hg (aj)) aD) ?_
 obtain ⟨r3, bT, hM⟩ := M.e_bind hM
 refine t_gcall (!(r2 || ((ae.length : Int) != (aa.length : Int)))) (gy_f rfl) cf49 (B r3) (fun _ => [I (ay.length : Int), I 1, I 8]) (fun hg => lst3 (gd_of (c := !(r2 || ((ae.length : Int) != (aa.length : Int)))) hg (I (ay.length : Int))) rfl rfl) H (fun hg => (zal (ay.length : Int) 1 8 (M.e_opt bT hg) _ (H.give (A := []) rfl)).mono fun v_ w_ ⟨y_, ak, aH, H_⟩ => by subst ak; exact ⟨aH, H.via H_⟩) ?_
 intro c9 H
 refine s_val (x_por (b := (r2 || ((ae.length : Int) != (aa.length : Int)))) (r := r3) rfl rfl (fun hb => gd_of (c := !(r2 || ((ae.length : Int) != (aa.length : Int)))) (by first | exact hb | (rw [hb]; rfl) | simp_all) (B r3))) ?_
 refine zM (B ((r2 || ((ae.length : Int) != (aa.length : Int))) || r3)) rfl ?_
 refine g_val (!((r2 || ((ae.length : Int) != (aa.length : Int))) || r3)) (gy_f rfl) (fun hg => x_fa (a := Pq ab) (v := Oq ab 3) rfl (fa_blk (o := 0) Fd37_3 Sz34)) ?_
 refine g_val (!((r2 || ((ae.length : Int) != (aa.length : Int))) || r3)) (gy_f rfl) (fun hg => x_ld (p := Oq ab 3) (v := am) (gd_of (c := !((r2 || ((ae.length : Int) != (aa.length : Int))) || r3)) hg (Oq ab 3)) (ldb_sc Sc34 (H.bl 0) rfl)) ?_
 have da := (aF).len_le
 refine g_val (!((r2 || ((ae.length : Int) != (aa.length : Int))) || r3)) (gy_f rfl) (fun hg => x_lenS T34.und (gd_of (c := !((r2 || ((ae.length : Int) != (aa.length : Int))) || r3)) hg (am)) aF) ?_
 refine g_val (!((r2 || ((ae.length : Int) != (aa.length : Int))) || r3)) (gy_f rfl) (fun hg => x_cmp (kd := .i64) (a := (ag.length : Int)) (b := 8) (r := decide (8 < (ag.length : Int))) (gd_of (c := !((r2 || ((ae.length : Int) != (aa.length : Int))) || r3)) hg (I (ag.length : Int))) rfl rfl) ?_
 refine s_val (x_por (b := ((r2 || ((ae.length : Int) != (aa.length : Int))) || r3)) (r := decide (8 < (ag.length : Int))) rfl rfl (fun hb => gd_of (c := !((r2 || ((ae.length : Int) != (aa.length : Int))) || r3)) (by first | exact hb | (rw [hb]; rfl) | simp_all) (B (decide (8 < (ag.length : Int)))))) ?_
 refine zM (B (((r2 || ((ae.length : Int) != (aa.length : Int))) || r3) || (decide (8 < (ag.length : Int))))) rfl ?_
 refine g_val (!(((r2 || ((ae.length : Int) != (aa.length : Int))) || r3) || (decide (8 < (ag.length : Int))))) (gy_f rfl) (fun hg => x_fa (a := Pq ab) (v := Oq ab 6) rfl (fa_blk (o := 0) Fd37_5 Sz35)) ?_
 refine g_val (!(((r2 || ((ae.length : Int) != (aa.length : Int))) || r3) || (decide (8 < (ag.length : Int))))) (gy_f rfl) (fun hg => x_ld (p := Oq ab 6) (v := ao) (gd_of (c := !(((r2 || ((ae.length : Int) != (aa.length : Int))) || r3) || (decide (8 < (ag.length : Int))))) hg (Oq ab 6)) (ldb_sc Sc35 (H.bl 0) rfl)) ?_
 have db := (aG).len_le
 refine g_val (!(((r2 || ((ae.length : Int) != (aa.length : Int))) || r3) || (decide (8 < (ag.length : Int))))) (gy_f rfl) (fun hg => x_lenS T35.und (gd_of (c := !(((r2 || ((ae.length : Int) != (aa.length : Int))) || r3) || (decide (8 < (ag.length : Int))))) hg (ao)) aG) ?_
 refine g_val (!(((r2 || ((ae.length : Int) != (aa.length : Int))) || r3) || (decide (8 < (ag.length : Int))))) (gy_f rfl) (fun hg => x_cmp (kd := .i64) (a := (ac.length : Int)) (b := 20) (r := decide (20 < (ac.length : Int))) (gd_of (c := !(((r2 || ((ae.length : Int) != (aa.length : Int))) || r3) || (decide (8 < (ag.length : Int))))) hg (I (ac.length : Int))) rfl rfl) ?_
 refine s_val (x_por (b := (((r2 || ((ae.length : Int) != (aa.length : Int))) || r3) || (decide (8 < (ag.length : Int))))) (r := decide (20 < (ac.length : Int))) rfl rfl (fun hb => gd_of (c := !(((r2 || ((ae.length : Int) != (aa.length : Int))) || r3) || (decide (8 < (ag.length : Int))))) (by first | exact hb | (rw [hb]; rfl) | simp_all) (B (decide (20 < (ac.length : Int)))))) ?_
 refine s_nil ?_
 refine W.cond ((((r2 || ((ae.length : Int) != (aa.length : Int))) || r3) || (decide (8 < (ag.length : Int)))) || (decide (20 < (ac.length : Int)))) rfl (fun aY => ?_) (fun aY => ?_)
 ·replace hM := M.e_t hM aY
  refine W.seq ?_
  refine W.region rfl ?_
  refine zA (I 3) rfl ?_
  refine s_nil ?_
  refine W.ret ?_
  have ak := M.e_pure hM
  exact ⟨_, resE_tmp rfl, ⟨3, ak, rfl, (H.pk [])⟩⟩
 replace hM := M.e_f hM aY
 refine W.skip ?_
 refine W.seq ?_
 refine W.seq ?_
 refine W.region rfl ?_
 refine zA (I 0) rfl ?_
 refine s_nil ?_
 refine W.block ?_
 obtain ⟨bU, aZ, a6⟩ := M.e_bind hM
 obtain ⟨aL, aZ⟩ := M.e_iter aZ
 refine W.loop (fun m σ W => ∃ (i : Nat) (ρ : Env), σ = upds ρ [(1, Pq ab), (3, I (aa.length : Int)), (4, I (i : Int))] /\ M.iterN (zaV aa ae) m i = some bU /\ St w W [cBlk ab [ai, aq, aj, am, I au, I av, ao] 37] R) ?_ ?_
 ·exact ⟨_, 0, _, upds_of _ _ ⟨rfl, rfl, rfl, trivial⟩, aZ, H⟩
 rintro dc σ dd ⟨i, ρ, rfl, bE, H⟩
 obtain ⟨bV, bW, de, hM, aV⟩ := M.e_iterN bE
 simp only [zaV] at hM
 clear bE
 refine W.seq ?_
 refine W.seq ?_
 refine W.region rfl ?_
 refine zM (I (i : Int)) rfl ?_
 refine zM (I (aa.length : Int)) rfl ?_
 refine zC (i : Int) (aa.length : Int) (decide ((i : Int) < (aa.length : Int))) rfl rfl rfl ?_
 refine s_nil ?_
 refine W.cond (decide ((i : Int) < (aa.length : Int))) rfl (fun aM => ?_) (fun aM => ?_)
 ·replace hM := M.e_t hM aM
  simp only [qy1, qy2, qy3, qy4, qy5, qy6, ne_eq, qy7] at aM
  refine W.skip ?_
  refine W.seq ?_
  refine W.block ?_
  refine W.seq ?_
  refine W.seq ?_
  refine W.region rfl ?_
  refine s_val (x_fa (a := Pq ab) (v := Pq ab) rfl (fa_blk (o := 0) Fd37_0 Sz22)) ?_
  refine s_val (x_ld (p := Pq ab) (v := ai) rfl (ldb_sc Sc22 (H.bl 0) rfl)) ?_
  refine zM (I (i : Int)) rfl ?_
  obtain ⟨bX, hM⟩ := M.e_grd hM
  simp only [Bool.and_eq_true, decide_eq_true_eq] at bX
  refine s_val (x_ix (a := ai) (b := I (i : Int)) (v := vat ai 1 (Int.toNat (i : Int))) rfl rfl (Sl.ix (α := Int) T22.und T22.size aE (by omega) (by omega))) ?_
  refine s_val (x_ld (p := vat ai 1 (Int.toNat (i : Int))) (v := I (aa.getD i 0)) rfl (ld_sc Sc3 (At.mono (Int_at aE (i := (i : Int)) (by omega) (by omega)) (aW.at H)))) ?_
  refine zC (aa.getD i 0) (-1) ((aa.getD i 0) != (-1)) rfl rfl rfl ?_
  refine zM (B ((aa.getD i 0) != (-1))) rfl ?_
  refine g_val ((aa.getD i 0) != (-1)) (gy_t rfl) (fun hg => x_fa (a := Pq ab) (v := Pq ab) rfl (fa_blk (o := 0) Fd37_0 Sz22)) ?_
  refine g_val ((aa.getD i 0) != (-1)) (gy_t rfl) (fun hg => x_ld (p := Pq ab) (v := ai) (gd_of (c := (aa.getD i 0) != (-1)) hg (Pq ab)) (ldb_sc Sc22 (H.bl 0) rfl)) ?_
  refine g_val ((aa.getD i 0) != (-1)) (gy_t rfl) (fun hg => x_mv (v := I (i : Int)) rfl) ?_
  refine g_val ((aa.getD i 0) != (-1)) (gy_t rfl) (fun hg => x_ix (a := ai) (b := I (i : Int)) (v := vat ai 1 (Int.toNat (i : Int))) (gd_of (c := (aa.getD i 0) != (-1)) hg (ai)) (gd_of (c := (aa.getD i 0) != (-1)) hg (I (i : Int))) (Sl.ix (α := Int) T22.und T22.size aE (by first | omega | (have ap := hg; simp at ap; omega)) (by first | omega | (have ap := hg; simp at ap; omega)))) ?_
  refine g_val ((aa.getD i 0) != (-1)) (gy_t rfl) (fun hg => x_ld (p := vat ai 1 (Int.toNat (i : Int))) (v := I (aa.getD i 0)) (gd_of (c := (aa.getD i 0) != (-1)) hg (vat ai 1 (Int.toNat (i : Int)))) (ld_sc Sc3 (At.mono (Int_at aE (i := (i : Int)) (by first | omega | (have ap := hg; simp at ap; omega)) (by first | omega | (have ap := hg; simp at ap; omega))) (aW.at H)))) ?_
  refine g_val ((aa.getD i 0) != (-1)) (gy_t rfl) (fun hg => x_mv (v := I (i : Int)) rfl) ?_
  refine g_val ((aa.getD i 0) != (-1)) (gy_t rfl) (fun hg => x_ari (a := (i : Int)) (b := 1) (r := (i : Int) + 1) (gd_of (c := (aa.getD i 0) != (-1)) hg (I (i : Int))) rfl rfl (by first | omega | (have ap := hg; simp at ap; omega))) ?_
  refine g_val ((aa.getD i 0) != (-1)) (gy_t rfl) (fun hg => x_mv (v := I (aa.length : Int)) rfl) ?_
  refine g_val ((aa.getD i 0) != (-1)) (gy_t rfl) (fun hg => x_ari (a := (aa.length : Int)) (b := 1) (r := (aa.length : Int) - 1) (gd_of (c := (aa.getD i 0) != (-1)) hg (I (aa.length : Int))) rfl rfl (by first | omega | (have ap := hg; simp at ap; omega))) ?_
  obtain ⟨r4, bY, hM⟩ := M.e_bind hM
  refine t_gcall ((aa.getD i 0) != (-1)) (gy_t rfl) cf49 (B r4) (fun _ => [I (aa.getD i 0), I ((i : Int) + 1), I ((aa.length : Int) - 1)]) (fun hg => lst3 (gd_of (c := (aa.getD i 0) != (-1)) hg (I (aa.getD i 0))) (gd_of (c := (aa.getD i 0) != (-1)) hg (I ((i : Int) + 1))) (gd_of (c := (aa.getD i 0) != (-1)) hg (I ((aa.length : Int) - 1)))) H (fun hg => (zal (aa.getD i 0) ((i : Int) + 1) ((aa.length : Int) - 1) (M.e_opt bY hg) _ (H.give (A := []) rfl)).mono fun v_ w_ ⟨y_, ak, aH, H_⟩ => by subst ak; exact ⟨aH, H.via H_⟩) ?_
  intro dg H
  refine s_val (x_pand (b := (aa.getD i 0) != (-1)) (r := r4) rfl (fun hb => gd_of (c := (aa.getD i 0) != (-1)) (by first | exact hb | (rw [hb]; rfl) | simp_all) (B r4)) rfl) ?_
  refine s_nil ?_
  refine W.cond (((aa.getD i 0) != (-1)) && r4) rfl (fun a7 => ?_) (fun a7 => ?_)
  ·replace hM := M.e_t hM a7
   refine W.seq ?_
   refine W.region rfl ?_
   refine zA (I 2) rfl ?_
   refine s_nil ?_
   refine W.ret ?_
   have bZ := M.e_inr hM aV
   subst bZ
   replace hM := a6
   try dsimp only at hM
   have ak := M.e_pure hM
   exact ⟨_, resE_tmp rfl, ⟨2, ak, rfl, (H.pk [])⟩⟩
  replace hM := M.e_f hM a7
  refine W.skip ?_
  refine W.seq ?_
  refine W.region rfl ?_
  refine s_val (x_fa (a := Pq ab) (v := Oq ab 1) rfl (fa_blk (o := 0) Fd37_1 Sz23)) ?_
  refine s_val (x_ld (p := Oq ab 1) (v := aq) rfl (ldb_sc Sc23 (H.bl 0) rfl)) ?_
  refine zM (I (i : Int)) rfl ?_
  obtain ⟨b3, hM⟩ := M.e_grd hM
  simp only [Bool.and_eq_true, decide_eq_true_eq] at b3
  refine s_val (x_ix (a := aq) (b := I (i : Int)) (v := vat aq 2 (Int.toNat (i : Int))) rfl rfl (Sl.ix (α := Span) T23.und T23.size aK (by omega) (by omega))) ?_
  refine s_val (x_ld (p := vat aq 2 (Int.toNat (i : Int))) (v := .agg #[I ((ae.getD i default).lo), I ((ae.getD i default).hi)]) rfl (ld_ag Ag26 Sz26 (At.mono (Span_atA aK (i := (i : Int)) (by omega) (by omega)) (bC.at H)))) ?_
  obtain ⟨di, b4, hM⟩ := M.e_bind hM
  refine s_call cf69 [.agg #[I ((ae.getD i default).lo), I ((ae.getD i default).hi)]] rfl (zcM (ae.getD i default) b4 _ (H.gt 1)) ?_
  rintro vq dj ⟨r5, b5, hvq, aw⟩
  subst b5
  subst vq
  try dsimp only at hM
  replace H := H.bk aw
  clear aw
  refine s_nil ?_
  refine W.cond r5 rfl (fun a8 => ?_) (fun a8 => ?_)
  ·replace hM := M.e_t hM a8
   refine W.seq ?_
   refine W.region rfl ?_
   refine zA (I 130) rfl ?_
   refine s_nil ?_
   refine W.ret ?_
   have b6 := M.e_inr hM aV
   subst b6
   replace hM := a6
   try dsimp only at hM
   have ak := M.e_pure hM
   exact ⟨_, resE_tmp rfl, ⟨130, ak, rfl, (H.pk [])⟩⟩
  replace hM := M.e_f hM a8
  refine W.skip ?_
  refine W.region rfl ?_
  refine zM (I (i : Int)) rfl ?_
  refine zR (i : Int) 1 ((i : Int) + 1) rfl rfl rfl (by omega) ?_
  refine zA (I ((i : Int) + 1)) rfl ?_
  refine s_nil ?_
  exact ⟨bV, bW, i + 1, _, upds_of _ _ ⟨rfl, rfl, rfl, trivial⟩, M.e_inl hM aV, H⟩
 replace hM := M.e_f hM aM
 simp only [qy1, qy2, qy3, qy4, qy5, qy6, ne_eq, qy7] at aM
 refine W.exit ?_
 have b7 := M.e_inr hM aV
 subst b7
 replace hM := a6
 try dsimp only at hM
 refine W.seq ?_
 refine W.seq ?_
 refine W.region rfl ?_
 refine s_val (x_fa (a := Pq ab) (v := Oq ab 2) rfl (fa_blk (o := 0) Fd37_2 Sz22)) ?_
 refine s_val (x_ld (p := Oq ab 2) (v := aj) rfl (ldb_sc Sc22 (H.bl 0) rfl)) ?_
 refine zM (I (aa.length : Int)) rfl ?_
 obtain ⟨dk, b8, hM⟩ := M.e_bind hM
 refine s_call cf70 [aj, I (aa.length : Int)] rfl (zcT ay (aa.length : Int) (aX.app _) aD b8 _ (H.gt 1)) ?_
 rintro vq dm ⟨r6, b9, hvq, aw⟩
 subst b9
 subst vq
 try dsimp only at hM
 replace H := H.bk aw
 clear aw
 refine s_nil ?_
 refine W.cond r6 rfl (fun ba => ?_) (fun ba => ?_)
 ·replace hM := M.e_t hM ba
  refine W.seq ?_
  refine W.region rfl ?_
  refine zA (I 9) rfl ?_
  refine s_nil ?_
  refine W.ret ?_
  have ak := M.e_pure hM
  exact ⟨_, resE_tmp rfl, ⟨9, ak, rfl, (H.pk [])⟩⟩
 replace hM := M.e_f hM ba
 refine W.skip ?_
 refine W.seq ?_
 refine W.seq ?_
 refine W.region rfl ?_
 refine zA (I 0) rfl ?_
 refine s_nil ?_
 refine W.block ?_
 obtain ⟨ca, bc, bF⟩ := M.e_bind hM
 obtain ⟨aL, bc⟩ := M.e_iter bc
 refine W.loop (fun m σ W => ∃ (i2 : Nat) (ρ : Env), σ = upds ρ [(1, Pq ab), (3, I (aa.length : Int)), (5, I (i2 : Int))] /\ M.iterN (zaU aa ag) m i2 = some ca /\ St w W [cBlk ab [ai, aq, aj, am, I au, I av, ao] 37] R) ?_ ?_
 ·exact ⟨_, 0, _, upds_of _ _ ⟨rfl, rfl, rfl, trivial⟩, bc, H⟩
 rintro dp σ dq ⟨i2, ρ, rfl, bG, H⟩
 obtain ⟨cb, cc, dr, hM, bf⟩ := M.e_iterN bG
 simp only [zaU] at hM
 clear bG
 refine W.seq ?_
 refine W.seq ?_
 refine W.region rfl ?_
 refine zM (I (i2 : Int)) rfl ?_
 refine s_val (x_fa (a := Pq ab) (v := Oq ab 3) rfl (fa_blk (o := 0) Fd37_3 Sz34)) ?_
 refine s_val (x_ld (p := Oq ab 3) (v := am) rfl (ldb_sc Sc34 (H.bl 0) rfl)) ?_
 have dt := (aF).len_le
 refine s_val (x_lenS T34.und rfl aF) ?_
 refine zC (i2 : Int) (ag.length : Int) (decide ((i2 : Int) < (ag.length : Int))) rfl rfl rfl ?_
 refine s_nil ?_
 refine W.cond (decide ((i2 : Int) < (ag.length : Int))) rfl (fun aN => ?_) (fun aN => ?_)
 ·replace hM := M.e_t hM aN
  simp only [qy1, qy2, qy3, qy4, qy5, qy6, ne_eq, qy7] at aN
  refine W.skip ?_
  refine W.seq ?_
  refine W.block ?_
  refine W.seq ?_
  refine W.region rfl ?_
  refine s_val (x_fa (a := Pq ab) (v := Oq ab 3) rfl (fa_blk (o := 0) Fd37_3 Sz34)) ?_
  refine s_val (x_ld (p := Oq ab 3) (v := am) rfl (ldb_sc Sc34 (H.bl 0) rfl)) ?_
  refine zM (I (i2 : Int)) rfl ?_
  obtain ⟨ce, hM⟩ := M.e_grd hM
  simp only [Bool.and_eq_true, decide_eq_true_eq] at ce
  refine s_val (x_ix (a := am) (b := I (i2 : Int)) (v := vat am 3 (Int.toNat (i2 : Int))) rfl rfl (Sl.ix (α := Town) T34.und T34.size aF (by omega) (by omega))) ?_
  refine s_val (x_ld (p := vat am 3 (Int.toNat (i2 : Int))) (v := .agg #[I ((ag.getD i2 default).station), I ((ag.getD i2 default).lead), I ((ag.getD i2 default).alarm)]) rfl (ld_ag Ag92 Sz92 (At.mono (Town_atA aF (i := (i2 : Int)) (by omega) (by omega)) (bD.at H)))) ?_
  refine t_alloc (cs := [I 0, I 0, I 0]) H Al92 rfl ?_
  intro aB du H
  refine t_sw 0 0 [I ((ag.getD i2 default).station), I ((ag.getD i2 default).lead), I ((ag.getD i2 default).alarm)] (.agg #[I ((ag.getD i2 default).station), I ((ag.getD i2 default).lead), I ((ag.getD i2 default).alarm)]) H rfl rfl Sz92 rfl rfl rfl rfl ?_
  intro dv H
  refine s_nil ?_
  refine W.seq ?_
  refine W.region rfl ?_
  refine s_val (x_fa (a := Pq aB) (v := Pq aB) rfl (fa_blk (o := 0) Fd92_0 Sz3)) ?_
  refine s_val (x_ld (p := Pq aB) (v := I ((ag.getD i2 default).station)) rfl (ldb_sc Sc3 (H.bl 0) rfl)) ?_
  refine zM (I (aa.length : Int)) rfl ?_
  refine zR (aa.length : Int) 1 ((aa.length : Int) - 1) rfl rfl rfl (by omega) ?_
  obtain ⟨dw, cf, hM⟩ := M.e_bind hM
  refine s_call cf49 [I ((ag.getD i2 default).station), I 0, I ((aa.length : Int) - 1)] rfl (zal ((ag.getD i2 default).station) 0 ((aa.length : Int) - 1) cf _ (H.gt 2)) ?_
  rintro vq dx ⟨r7, cg, hvq, aw⟩
  subst cg
  subst vq
  try dsimp only at hM
  replace H := H.bk aw
  clear aw
  refine zM (B r7) rfl ?_
  refine g_val (!r7) (gy_f rfl) (fun hg => x_fa (a := Pq aB) (v := Oq aB 1) rfl (fa_blk (o := 0) Fd92_1 Sz3)) ?_
  refine g_val (!r7) (gy_f rfl) (fun hg => x_ld (p := Oq aB 1) (v := I ((ag.getD i2 default).lead)) (gd_of (c := !r7) hg (Oq aB 1)) (ldb_sc Sc3 (H.bl 0) rfl)) ?_
  obtain ⟨r8, ci, hM⟩ := M.e_bind hM
  refine t_gcall (!r7) (gy_f rfl) cf49 (B r8) (fun _ => [I ((ag.getD i2 default).lead), I 0, I 1000]) (fun hg => lst3 (gd_of (c := !r7) hg (I ((ag.getD i2 default).lead))) rfl rfl) H (fun hg => (zal ((ag.getD i2 default).lead) 0 1000 (M.e_opt ci hg) _ (H.give (A := []) rfl)).mono fun v_ w_ ⟨y_, ak, aH, H_⟩ => by subst ak; exact ⟨aH, H.via H_⟩) ?_
  intro dy H
  refine s_val (x_por (b := r7) (r := r8) rfl rfl (fun hb => gd_of (c := !r7) (by first | exact hb | (rw [hb]; rfl) | simp_all) (B r8))) ?_
  refine zM (B (r7 || r8)) rfl ?_
  refine g_val (!(r7 || r8)) (gy_f rfl) (fun hg => x_fa (a := Pq aB) (v := Oq aB 2) rfl (fa_blk (o := 0) Fd92_2 Sz3)) ?_
  refine g_val (!(r7 || r8)) (gy_f rfl) (fun hg => x_ld (p := Oq aB 2) (v := I ((ag.getD i2 default).alarm)) (gd_of (c := !(r7 || r8)) hg (Oq aB 2)) (ldb_sc Sc3 (H.bl 0) rfl)) ?_
  obtain ⟨r9, cj, hM⟩ := M.e_bind hM
  refine t_gcall (!(r7 || r8)) (gy_f rfl) cf49 (B r9) (fun _ => [I ((ag.getD i2 default).alarm), I 0, I 2000]) (fun hg => lst3 (gd_of (c := !(r7 || r8)) hg (I ((ag.getD i2 default).alarm))) rfl rfl) H (fun hg => (zal ((ag.getD i2 default).alarm) 0 2000 (M.e_opt cj hg) _ (H.give (A := []) rfl)).mono fun v_ w_ ⟨y_, ak, aH, H_⟩ => by subst ak; exact ⟨aH, H.via H_⟩) ?_
  intro dz H
  refine s_val (x_por (b := (r7 || r8)) (r := r9) rfl rfl (fun hb => gd_of (c := !(r7 || r8)) (by first | exact hb | (rw [hb]; rfl) | simp_all) (B r9))) ?_
  refine s_nil ?_
  refine W.cond ((r7 || r8) || r9) rfl (fun bg => ?_) (fun bg => ?_)
  ·replace hM := M.e_t hM bg
   refine W.seq ?_
   refine W.region rfl ?_
   refine zA (I 130) rfl ?_
   refine s_nil ?_
   refine W.ret ?_
   have ck := M.e_inr hM bf
   subst ck
   replace hM := bF
   try dsimp only at hM
   have ak := M.e_pure hM
   exact ⟨_, resE_tmp rfl, ⟨130, ak, rfl, (H.pk [])⟩⟩
  replace hM := M.e_f hM bg
  refine W.skip ?_
  refine W.region rfl ?_
  refine zM (I (i2 : Int)) rfl ?_
  refine zR (i2 : Int) 1 ((i2 : Int) + 1) rfl rfl rfl (by omega) ?_
  refine zA (I ((i2 : Int) + 1)) rfl ?_
  refine s_nil ?_
  exact ⟨cb, cc, i2 + 1, _, upds_of _ _ ⟨rfl, rfl, rfl, trivial⟩, M.e_inl hM bf, (H.pk [1])⟩
 replace hM := M.e_f hM aN
 simp only [qy1, qy2, qy3, qy4, qy5, qy6, ne_eq, qy7] at aN
 refine W.exit ?_
 have cl := M.e_inr hM bf
 subst cl
 replace hM := bF
 try dsimp only at hM
 refine W.seq ?_
 refine W.seq ?_
 refine W.region rfl ?_
 refine s_val (x_fa (a := Pq ab) (v := Oq ab 4) rfl (fa_blk (o := 0) Fd37_4 Sz26)) ?_
 refine s_val (x_ld (p := Oq ab 4) (v := .agg #[I au, I av]) rfl (ldb_ag (ds := [I au, I av]) Ag26 Sz26 (H.bl 0) rfl rfl)) ?_
 obtain ⟨dA, cm, hM⟩ := M.e_bind hM
 refine s_call cf69 [.agg #[I au, I av]] rfl (zcM (⟨(au : Int), (av : Int)⟩ : Span) cm _ (H.gt 1)) ?_
 rintro vq dB ⟨cn, co, hvq, aw⟩
 subst co
 subst vq
 try dsimp only at hM
 replace H := H.bk aw
 clear aw
 refine s_nil ?_
 refine W.cond cn rfl (fun bh => ?_) (fun bh => ?_)
 ·replace hM := M.e_t hM bh
  refine W.seq ?_
  refine W.region rfl ?_
  refine zA (I 130) rfl ?_
  refine s_nil ?_
  refine W.ret ?_
  have ak := M.e_pure hM
  exact ⟨_, resE_tmp rfl, ⟨130, ak, rfl, (H.pk [])⟩⟩
 replace hM := M.e_f hM bh
 refine W.skip ?_
 refine W.seq ?_
 refine W.seq ?_
 refine W.region rfl ?_
 refine zA (I 0) rfl ?_
 refine s_nil ?_
 refine W.block ?_
 obtain ⟨cp, bi, aO⟩ := M.e_bind hM
 obtain ⟨aL, bi⟩ := M.e_iter bi
 refine W.loop (fun m σ W => ∃ (i3 : Nat) (ρ : Env), σ = upds ρ [(1, Pq ab), (7, I (i3 : Int))] /\ M.iterN (za5 aa ae ay ag au av ac) m i3 = some cp /\ St w W [cBlk ab [ai, aq, aj, am, I au, I av, ao] 37] R) ?_ ?_
 ·exact ⟨_, 0, _, upds_of _ _ ⟨rfl, rfl, trivial⟩, bi, H⟩
 rintro dC σ dD ⟨i3, ρ, rfl, bH, H⟩
 obtain ⟨bI, bJ, dE, hM, aI⟩ := M.e_iterN bH
 simp only [za5] at hM
 clear bH
 refine W.seq ?_
 refine W.seq ?_
 refine W.region rfl ?_
 refine zM (I (i3 : Int)) rfl ?_
 refine s_val (x_fa (a := Pq ab) (v := Oq ab 6) rfl (fa_blk (o := 0) Fd37_5 Sz35)) ?_
 refine s_val (x_ld (p := Oq ab 6) (v := ao) rfl (ldb_sc Sc35 (H.bl 0) rfl)) ?_
 have dF := (aG).len_le
 refine s_val (x_lenS T35.und rfl aG) ?_
 refine zC (i3 : Int) (ac.length : Int) (decide ((i3 : Int) < (ac.length : Int))) rfl rfl rfl ?_
 refine s_nil ?_
 refine W.cond (decide ((i3 : Int) < (ac.length : Int))) rfl (fun aP => ?_) (fun aP => ?_)
 ·replace hM := M.e_t hM aP
  simp only [qy1, qy2, qy3, qy4, qy5, qy6, ne_eq, qy7] at aP
  refine W.skip ?_
  refine W.seq ?_
  refine W.block ?_
  refine W.seq ?_
  refine W.region rfl ?_
  refine s_val (x_fa (a := Pq ab) (v := Oq ab 6) rfl (fa_blk (o := 0) Fd37_5 Sz35)) ?_
  refine s_val (x_ld (p := Oq ab 6) (v := ao) rfl (ldb_sc Sc35 (H.bl 0) rfl)) ?_
  refine zM (I (i3 : Int)) rfl ?_
  obtain ⟨cq, hM⟩ := M.e_grd hM
  simp only [Bool.and_eq_true, decide_eq_true_eq] at cq
  refine s_val (x_ix (a := ao) (b := I (i3 : Int)) (v := vat ao 2 (Int.toNat (i3 : Int))) rfl rfl (Sl.ix (α := Flood) T35.und T35.size aG (by omega) (by omega))) ?_
  obtain ⟨ax, cr, aA⟩ := Flood_atA aG (i := (i3 : Int)) (by omega) (by omega)
  replace aA : Sl _ ax (ac.getD i3 default).stages := aA
  have dG := aA.len_le
  refine s_val (x_ld (p := vat ao 2 (Int.toNat (i3 : Int))) (v := .agg #[I ((ac.getD i3 default).spring), ax]) rfl (ld_ag Ag93 Sz93 (At.mono cr (aU.at H)))) ?_
  refine t_alloc (cs := [I 0, .slice none 0 0]) H Al93 rfl ?_
  intro ah dH H
  refine t_sw 0 0 [I ((ac.getD i3 default).spring), ax] (.agg #[I ((ac.getD i3 default).spring), ax]) H rfl rfl Sz93 rfl rfl rfl (by simp only [List.all_cons, List.all_nil, Bool.true_and, Bool.and_true, Sl.oc aA]; try rfl) ?_
  intro dI H
  refine s_nil ?_
  refine W.seq ?_
  refine W.region rfl ?_
  refine zA (B false) rfl ?_
  refine s_nil ?_
  refine W.seq ?_
  refine W.seq ?_
  refine W.region rfl ?_
  refine zA (I 0) rfl ?_
  refine s_nil ?_
  refine W.block ?_
  obtain ⟨cu, bj, cv⟩ := M.e_bind hM
  obtain ⟨aL, bj⟩ := M.e_iter bj
  refine W.loop (fun m σ W => ∃ (spring : Bool) (k : Nat) (ρ : Env), σ = upds ρ [(1, Pq ab), (7, I (i3 : Int)), (8, Pq ah), (9, B spring), (10, I (k : Int))] /\ M.iterN (zaT ay ac i3) m (spring, k) = some cu /\ St w W [cBlk ah [I ((ac.getD i3 default).spring), ax] 93, cBlk ab [ai, aq, aj, am, I au, I av, ao] 37] R) ?_ ?_
  ·exact ⟨_, false, 0, _, upds_of _ _ ⟨rfl, rfl, rfl, rfl, rfl, trivial⟩, bj, H⟩
  rintro dJ σ dK ⟨spring, k, ρ, rfl, bK, H⟩
  obtain ⟨cw, cx, dL, hM, bL⟩ := M.e_iterN bK
  simp only [zaT] at hM
  clear bK
  refine W.seq ?_
  refine W.seq ?_
  refine W.region rfl ?_
  refine zM (I (k : Int)) rfl ?_
  refine s_val (x_fa (a := Pq ab) (v := Oq ab 2) rfl (fa_blk (o := 0) Fd37_2 Sz22)) ?_
  refine s_val (x_ld (p := Oq ab 2) (v := aj) rfl (ldb_sc Sc22 (H.bl 1) rfl)) ?_
  have dM := (aD).len_le
  refine s_val (x_lenS T22.und rfl aD) ?_
  refine zC (k : Int) (ay.length : Int) (decide ((k : Int) < (ay.length : Int))) rfl rfl rfl ?_
  refine s_nil ?_
  refine W.cond (decide ((k : Int) < (ay.length : Int))) rfl (fun aQ => ?_) (fun aQ => ?_)
  ·replace hM := M.e_t hM aQ
   simp only [qy1, qy2, qy3, qy4, qy5, qy6, ne_eq, qy7] at aQ
   refine W.skip ?_
   refine W.seq ?_
   refine W.block ?_
   refine W.draw (fun W => St w W [cBlk ah [I ((ac.getD i3 default).spring), ax] 93, cBlk ab [ai, aq, aj, am, I au, I av, ao] 37] R) [(0, true), (1, true), (2, true), (3, true), (4, true), (5, true), (6, true), (7, true), (8, true), (9, true), (10, true), (11, true)] mixed (by decide +kernel) rfl ?_
   intro dN ap
   replace H := H.ext ap
   clear ap
   refine ⟨(H.pk [0, 1]), ?_⟩
   refine d_q rfl (fun w' H => x_mv (v := B spring) rfl) ?_
   refine d_q rfl (fun w' H => x_mv (v := B spring) rfl) ?_
   refine d_qg (!spring) rfl (gy_f rfl) (fun hg => (fun w' H => x_fa (a := Pq ab) (v := Oq ab 2) rfl (fa_blk (o := 0) Fd37_2 Sz22))) ?_
   refine d_qg (!spring) rfl (gy_f rfl) (fun hg => (fun w' H => x_ld (p := Oq ab 2) (v := aj) (gd_of (c := !spring) hg (Oq ab 2)) (ldb_sc Sc22 (H.bl 1) rfl))) ?_
   refine d_qg (!spring) rfl (gy_f rfl) (fun hg => (fun w' H => x_mv (v := I (k : Int)) rfl)) ?_
   obtain ⟨aJ, hM⟩ := M.e_grd hM
   replace aJ := M.imp_of aJ
   simp only [Bool.and_eq_true, decide_eq_true_eq] at aJ
   refine d_qg (!spring) rfl (gy_f rfl) (fun hg => (fun w' H => x_ix (a := aj) (b := I (k : Int)) (v := vat aj 1 (Int.toNat (k : Int))) (gd_of (c := !spring) hg (aj)) (gd_of (c := !spring) hg (I (k : Int))) (Sl.ix (α := Int) T22.und T22.size aD (by have az := aJ.resolve_left (by rw [hg]; decide); first | exact az | exact az.1 | exact az.2 | omega | (have ap := hg; simp at ap; omega)) (by have az := aJ.resolve_left (by rw [hg]; decide); first | exact az | exact az.1 | exact az.2 | omega | (have ap := hg; simp at ap; omega))))) ?_
   refine d_qg (!spring) rfl (gy_f rfl) (fun hg => (fun w' H => x_ld (p := vat aj 1 (Int.toNat (k : Int))) (v := I (ay.getD k 0)) (gd_of (c := !spring) hg (vat aj 1 (Int.toNat (k : Int)))) (ld_sc Sc3 (At.mono (Int_at aD (i := (k : Int)) (by have az := aJ.resolve_left (by rw [hg]; decide); first | exact az | exact az.1 | exact az.2 | omega | (have ap := hg; simp at ap; omega)) (by have az := aJ.resolve_left (by rw [hg]; decide); first | exact az | exact az.1 | exact az.2 | omega | (have ap := hg; simp at ap; omega))) (aX.at H))))) ?_
   refine d_qg (!spring) rfl (gy_f rfl) (fun hg => (fun w' H => x_fa (a := Pq ah) (v := Pq ah) rfl (fa_blk (o := 0) Fd93_0 Sz3))) ?_
   refine d_qg (!spring) rfl (gy_f rfl) (fun hg => (fun w' H => x_ld (p := Pq ah) (v := I ((ac.getD i3 default).spring)) (gd_of (c := !spring) hg (Pq ah)) (ldb_sc Sc3 (H.bl 0) rfl))) ?_
   refine d_qg (!spring) rfl (gy_f rfl) (fun hg => (fun w' H => x_cmp (kd := .i64) (a := ay.getD k 0) (b := (ac.getD i3 default).spring) (r := (ay.getD k 0) == ((ac.getD i3 default).spring)) (gd_of (c := !spring) hg (I (ay.getD k 0))) (gd_of (c := !spring) hg (I ((ac.getD i3 default).spring))) rfl)) ?_
   refine d_q rfl (fun w' H => x_por (b := spring) (r := (ay.getD k 0) == ((ac.getD i3 default).spring)) rfl rfl (fun hb => gd_of (c := !spring) (by first | exact hb | (rw [hb]; rfl) | simp_all) (B ((ay.getD k 0) == ((ac.getD i3 default).spring))))) ?_
   refine d_q rfl (fun w' H => x_as (v := B (spring || ((ay.getD k 0) == ((ac.getD i3 default).spring)))) rfl) ?_
   refine d_nil ?_
   refine W.region rfl ?_
   refine zM (I (k : Int)) rfl ?_
   refine zR (k : Int) 1 ((k : Int) + 1) rfl rfl rfl (by omega) ?_
   refine zA (I ((k : Int) + 1)) rfl ?_
   refine s_nil ?_
   exact ⟨cw, cx, (spring || ((ay.getD k 0) == ((ac.getD i3 default).spring))), k + 1, _, upds_of _ _ ⟨rfl, rfl, rfl, rfl, rfl, trivial⟩, M.e_inl hM bL, H⟩
  replace hM := M.e_f hM aQ
  simp only [qy1, qy2, qy3, qy4, qy5, qy6, ne_eq, qy7] at aQ
  refine W.exit ?_
  have cy := M.e_inr hM bL
  subst cy
  replace hM := cv
  try dsimp only at hM
  refine W.seq ?_
  refine W.seq ?_
  refine W.draw (fun W => St w W [cBlk ah [I ((ac.getD i3 default).spring), ax] 93, cBlk ab [ai, aq, aj, am, I au, I av, ao] 37] R) [(0, true), (1, true), (2, true), (3, true), (4, true), (5, true), (6, true), (7, true), (8, true), (9, false), (10, true), (11, true), (12, true)] mixed (by decide +kernel) rfl ?_
  intro dO ap
  replace H := H.ext ap
  clear ap
  refine ⟨(H.pk [0, 1]), ?_⟩
  refine d_q rfl (fun w' H => x_mv (v := B spring) rfl) ?_
  refine d_q rfl (fun w' H => x_not (b := spring) rfl) ?_
  refine d_q rfl (fun w' H => x_mv (v := B (!spring)) rfl) ?_
  refine d_qg (!(!spring)) rfl (gy_f rfl) (fun hg => (fun w' H => x_fa (a := Pq ah) (v := Oq ah 1) rfl (fa_blk (o := 0) Fd93_1 Sz22))) ?_
  refine d_qg (!(!spring)) rfl (gy_f rfl) (fun hg => (fun w' H => x_ld (p := Oq ah 1) (v := ax) (gd_of (c := !(!spring)) hg (Oq ah 1)) (ldb_sc Sc22 (H.bl 0) rfl))) ?_
  have dP := (aA).len_le
  refine d_qg (!(!spring)) rfl (gy_f rfl) (fun hg => (fun w' H => x_lenS T22.und (gd_of (c := !(!spring)) hg (ax)) aA)) ?_
  refine d_qg (!(!spring)) rfl (gy_f rfl) (fun hg => (fun w' H => x_ld (p := Pq ab) (v := .agg #[ai, aq, aj, am, I au, I av, ao]) rfl (ldb_ag (ds := [ai, aq, aj, am, I au, I av, ao]) Ag37 Sz37 (H.bl 1) rfl rfl))) ?_
  refine d_qg (!(!spring)) rfl (gy_f rfl) (fun hg => (fun w' H => x_fa (a := Pq ah) (v := Pq ah) rfl (fa_blk (o := 0) Fd93_0 Sz3))) ?_
  refine d_qg (!(!spring)) rfl (gy_f rfl) (fun hg => (fun w' H => x_ld (p := Pq ah) (v := I ((ac.getD i3 default).spring)) (gd_of (c := !(!spring)) hg (Pq ah)) (ldb_sc Sc3 (H.bl 0) rfl))) ?_
  refine d_l rfl ?_
  refine g_splitV (!(!spring)) (.slice none 0 0) (gy_f rfl) (fun aR => ?_) (fun aR => ?_)
  ·replace hM := M.e_t hM aR
   obtain ⟨dQ, cz, hM⟩ := M.e_bind hM
   refine s_call cf71 [.agg #[ai, aq, aj, am, I au, I av, ao], I ((ac.getD i3 default).spring)] (lst2 (gd_of (c := !(!spring)) aR (.agg #[ai, aq, aj, am, I au, I av, ao])) (gd_of (c := !(!spring)) aR (I ((ac.getD i3 default).spring)))) (zc3 aa ae ay ag au av ac ((ac.getD i3 default).spring) (aW.app _) aE (bC.app _) aK (aX.app _) aD (bD.app _) aF (aU.app _) aG cz _ (H.gt 2)) ?_
   rintro vq dR ⟨aC, bM, cA, hvq, aw⟩
   subst cA
   subst vq
   try dsimp only at hM
   replace H := H.bk aw
   clear aw
   have dS := Sl.cells (H.os 0)
   have dT := Sl.oc (H.os 0)
   have cB := ownSl (H.get (k := 0) rfl)
   refine s_nil ⟨(H.pk [1, 2]), ?_⟩
   refine d_qg (!(!spring)) rfl (gy_f rfl) (fun hg => (fun w' H => x_lenS T22.und rfl cB)) ?_
   refine d_qg (!(!spring)) rfl (gy_f rfl) (fun hg => (fun w' H => x_cmp (kd := .i64) (a := (((ac.getD i3 default).stages).length : Int)) (b := (aC.length : Int)) (r := (((ac.getD i3 default).stages).length : Int) != (aC.length : Int)) (gd_of (c := !(!spring)) hg (I (((ac.getD i3 default).stages).length : Int))) (gd_of (c := !(!spring)) hg (I (aC.length : Int))) rfl)) ?_
   refine d_q rfl (fun w' H => x_por (b := !spring) (r := (((ac.getD i3 default).stages).length : Int) != (aC.length : Int)) rfl rfl (fun hb => gd_of (c := !(!spring)) (by first | exact hb | (rw [hb]; rfl) | simp_all) (B ((((ac.getD i3 default).stages).length : Int) != (aC.length : Int))))) ?_
   refine d_nil ?_
   refine W.cond ((!spring) || ((((ac.getD i3 default).stages).length : Int) != (aC.length : Int))) rfl (fun bm => ?_) (fun bm => ?_)
   ·replace hM := M.e_t hM bm
    refine W.seq ?_
    refine W.region rfl ?_
    refine zA (I 2) rfl ?_
    refine s_nil ?_
    replace H := H.pk [2]
    refine W.ret ?_
    have cC := M.e_inr hM aI
    subst cC
    replace hM := aO
    try dsimp only at hM
    have ak := M.e_pure hM
    exact ⟨_, resE_tmp rfl, ⟨2, ak, rfl, (H.pk [])⟩⟩
   replace hM := M.e_f hM bm
   refine W.skip ?_
   refine W.seq ?_
   refine W.region rfl ?_
   refine zA (I 0) rfl ?_
   refine s_nil ?_
   refine W.block ?_
   obtain ⟨cD, bn, bN⟩ := M.e_bind hM
   obtain ⟨aL, bn⟩ := M.e_iter bn
   refine W.loop (fun m σ W => ∃ (k2 : Nat) (ρ : Env), σ = upds ρ [(1, Pq ab), (7, I (i3 : Int)), (8, Pq ah), (11, I (k2 : Int)), (138, gd (!(!spring)) (Oq ah 1)), (139, gd (!(!spring)) ax), (140, gd (!(!spring)) (I (((ac.getD i3 default).stages).length : Int))), (141, gd (!(!spring)) (.agg #[ai, aq, aj, am, I au, I av, ao])), (142, gd (!(!spring)) (Pq ah)), (143, gd (!(!spring)) (I ((ac.getD i3 default).spring))), (144, bM), (145, gd (!(!spring)) (I (aC.length : Int))), (146, gd (!(!spring)) (B ((((ac.getD i3 default).stages).length : Int) != (aC.length : Int))))] /\ M.iterN (za3 ac i3) m k2 = some cD /\ St w W [cOwn (α := Int) 3 bM aC, cBlk ah [I ((ac.getD i3 default).spring), ax] 93, cBlk ab [ai, aq, aj, am, I au, I av, ao] 37] R) ?_ ?_
   ·exact ⟨_, 0, _, upds_of _ _ ⟨rfl, rfl, rfl, rfl, rfl, rfl, rfl, rfl, rfl, rfl, rfl, rfl, rfl, trivial⟩, bn, H⟩
   rintro dU σ dV ⟨k2, ρ, rfl, bO, H⟩
   obtain ⟨cE, cF, dW, hM, bo⟩ := M.e_iterN bO
   simp only [za3] at hM
   clear bO
   refine W.seq ?_
   refine W.seq ?_
   refine W.region rfl ?_
   refine zM (I (k2 : Int)) rfl ?_
   refine s_val (x_fa (a := Pq ah) (v := Oq ah 1) rfl (fa_blk (o := 0) Fd93_1 Sz22)) ?_
   refine s_val (x_ld (p := Oq ah 1) (v := ax) rfl (ldb_sc Sc22 (H.bl 1) rfl)) ?_
   have dX := (aA).len_le
   refine s_val (x_lenS T22.und rfl aA) ?_
   refine zC (k2 : Int) (((ac.getD i3 default).stages).length : Int) (decide ((k2 : Int) < (((ac.getD i3 default).stages).length : Int))) rfl rfl rfl ?_
   refine s_nil ?_
   refine W.cond (decide ((k2 : Int) < (((ac.getD i3 default).stages).length : Int))) rfl (fun aS => ?_) (fun aS => ?_)
   ·replace hM := M.e_t hM aS
    simp only [qy1, qy2, qy3, qy4, qy5, qy6, ne_eq, qy7] at aS
    refine W.skip ?_
    refine W.seq ?_
    refine W.block ?_
    refine W.seq ?_
    refine W.region rfl ?_
    refine s_val (x_fa (a := Pq ah) (v := Oq ah 1) rfl (fa_blk (o := 0) Fd93_1 Sz22)) ?_
    refine s_val (x_ld (p := Oq ah 1) (v := ax) rfl (ldb_sc Sc22 (H.bl 1) rfl)) ?_
    refine zM (I (k2 : Int)) rfl ?_
    obtain ⟨cG, hM⟩ := M.e_grd hM
    simp only [Bool.and_eq_true, decide_eq_true_eq] at cG
    refine s_val (x_ix (a := ax) (b := I (k2 : Int)) (v := vat ax 1 (Int.toNat (k2 : Int))) rfl rfl (Sl.ix (α := Int) T22.und T22.size aA (by omega) (by omega))) ?_
    refine s_val (x_ld (p := vat ax 1 (Int.toNat (k2 : Int))) (v := I (((ac.getD i3 default).stages).getD k2 0)) rfl (ld_sc Sc3 (At.mono (Int_at aA (i := (k2 : Int)) (by omega) (by omega)) (aU.at H)))) ?_
    obtain ⟨dY, cH, hM⟩ := M.e_bind hM
    refine s_call cf49 [I (((ac.getD i3 default).stages).getD k2 0), I 0, I 2000] rfl (zal (((ac.getD i3 default).stages).getD k2 0) 0 2000 cH _ (H.gt 3)) ?_
    rintro vq dZ ⟨bp, cI, hvq, aw⟩
    subst cI
    subst vq
    try dsimp only at hM
    replace H := H.bk aw
    clear aw
    refine s_nil ?_
    refine W.cond bp rfl (fun bq => ?_) (fun bq => ?_)
    ·replace hM := M.e_t hM bq
     refine W.seq ?_
     refine W.region rfl ?_
     refine zA (I 130) rfl ?_
     refine s_nil ?_
     refine W.ret ?_
     have cJ := M.e_inr hM bo
     subst cJ
     replace hM := bN
     try dsimp only at hM
     have cK := M.e_inr hM aI
     subst cK
     replace hM := aO
     try dsimp only at hM
     have ak := M.e_pure hM
     exact ⟨_, resE_tmp rfl, ⟨130, ak, rfl, (H.pk [])⟩⟩
    replace hM := M.e_f hM bq
    refine W.skip ?_
    refine W.region rfl ?_
    refine zM (I (k2 : Int)) rfl ?_
    refine zR (k2 : Int) 1 ((k2 : Int) + 1) rfl rfl rfl (by omega) ?_
    refine zA (I ((k2 : Int) + 1)) rfl ?_
    refine s_nil ?_
    exact ⟨cE, cF, k2 + 1, _, upds_of _ _ ⟨rfl, rfl, rfl, rfl, rfl, rfl, rfl, rfl, rfl, rfl, rfl, rfl, rfl, trivial⟩, M.e_inl hM bo, H⟩
   replace hM := M.e_f hM aS
   simp only [qy1, qy2, qy3, qy4, qy5, qy6, ne_eq, qy7] at aS
   refine W.exit ?_
   have cL := M.e_inr hM bo
   subst cL
   replace hM := bN
   try dsimp only at hM
   refine W.region rfl ?_
   refine zM (I (i3 : Int)) rfl ?_
   refine zR (i3 : Int) 1 ((i3 : Int) + 1) rfl rfl rfl (by omega) ?_
   refine zA (I ((i3 : Int) + 1)) rfl ?_
   refine s_nil ?_
   exact ⟨bI, bJ, i3 + 1, _, upds_of _ _ ⟨rfl, rfl, trivial⟩, M.e_inl hM aI, (H.pk [2])⟩
  replace hM := M.e_f hM aR
  refine s_nil ⟨(H.pk [0, 1]), ?_⟩
  refine d_qg (!(!spring)) rfl (gy_f rfl) (fun hg => (fun w' H => x_len (n := 0) T22.und (gd_of (c := !(!spring)) hg (.slice none 0 0)))) ?_
  refine d_qg (!(!spring)) rfl (gy_f rfl) (fun hg => (fun w' H => x_cmp (kd := .i64) (a := (((ac.getD i3 default).stages).length : Int)) (b := 0) (r := (((ac.getD i3 default).stages).length : Int) != 0) (gd_of (c := !(!spring)) hg (I (((ac.getD i3 default).stages).length : Int))) (gd_of (c := !(!spring)) hg (I 0)) rfl)) ?_
  refine d_q rfl (fun w' H => x_por (b := !spring) (r := (((ac.getD i3 default).stages).length : Int) != 0) rfl rfl (fun hb => gd_of (c := !(!spring)) (by first | exact hb | (rw [hb]; rfl) | simp_all) (B ((((ac.getD i3 default).stages).length : Int) != 0)))) ?_
  refine d_nil ?_
  refine W.cond ((!spring) || ((((ac.getD i3 default).stages).length : Int) != 0)) rfl (fun br => ?_) (fun br => ?_)
  ·replace hM := M.e_t hM br
   refine W.seq ?_
   refine W.region rfl ?_
   refine zA (I 2) rfl ?_
   refine s_nil ?_
   refine W.ret ?_
   have cM := M.e_inr hM aI
   subst cM
   replace hM := aO
   try dsimp only at hM
   have ak := M.e_pure hM
   exact ⟨_, resE_tmp rfl, ⟨2, ak, rfl, (H.pk [])⟩⟩
  replace hM := M.e_f hM br
  refine W.skip ?_
  refine W.seq ?_
  refine W.region rfl ?_
  refine zA (I 0) rfl ?_
  refine s_nil ?_
  refine W.block ?_
  obtain ⟨cN, bt, bP⟩ := M.e_bind hM
  obtain ⟨aL, bt⟩ := M.e_iter bt
  refine W.loop (fun m σ W => ∃ (k2 : Nat) (ρ : Env), σ = upds ρ [(1, Pq ab), (7, I (i3 : Int)), (8, Pq ah), (11, I (k2 : Int)), (138, gd (!(!spring)) (Oq ah 1)), (139, gd (!(!spring)) ax), (140, gd (!(!spring)) (I (((ac.getD i3 default).stages).length : Int))), (141, gd (!(!spring)) (.agg #[ai, aq, aj, am, I au, I av, ao])), (142, gd (!(!spring)) (Pq ah)), (143, gd (!(!spring)) (I ((ac.getD i3 default).spring))), (144, gd (!(!spring)) (.slice none 0 0)), (145, gd (!(!spring)) (I 0)), (146, gd (!(!spring)) (B ((((ac.getD i3 default).stages).length : Int) != 0)))] /\ M.iterN (zcc ac i3) m k2 = some cN /\ St w W [cBlk ah [I ((ac.getD i3 default).spring), ax] 93, cBlk ab [ai, aq, aj, am, I au, I av, ao] 37] R) ?_ ?_
  ·exact ⟨_, 0, _, upds_of _ _ ⟨rfl, rfl, rfl, rfl, rfl, rfl, rfl, rfl, rfl, rfl, rfl, rfl, rfl, trivial⟩, bt, H⟩
  rintro d6 σ d7 ⟨k2, ρ, rfl, bQ, H⟩
  obtain ⟨cO, cP, d8, hM, bu⟩ := M.e_iterN bQ
  simp only [zcc] at hM
  clear bQ
  refine W.seq ?_
  refine W.seq ?_
  refine W.region rfl ?_
  refine zM (I (k2 : Int)) rfl ?_
  refine s_val (x_fa (a := Pq ah) (v := Oq ah 1) rfl (fa_blk (o := 0) Fd93_1 Sz22)) ?_
  refine s_val (x_ld (p := Oq ah 1) (v := ax) rfl (ldb_sc Sc22 (H.bl 0) rfl)) ?_
  have d9 := (aA).len_le
  refine s_val (x_lenS T22.und rfl aA) ?_
  refine zC (k2 : Int) (((ac.getD i3 default).stages).length : Int) (decide ((k2 : Int) < (((ac.getD i3 default).stages).length : Int))) rfl rfl rfl ?_
  refine s_nil ?_
  refine W.cond (decide ((k2 : Int) < (((ac.getD i3 default).stages).length : Int))) rfl (fun aT => ?_) (fun aT => ?_)
  ·replace hM := M.e_t hM aT
   simp only [qy1, qy2, qy3, qy4, qy5, qy6, ne_eq, qy7] at aT
   refine W.skip ?_
   refine W.seq ?_
   refine W.block ?_
   refine W.seq ?_
   refine W.region rfl ?_
   refine s_val (x_fa (a := Pq ah) (v := Oq ah 1) rfl (fa_blk (o := 0) Fd93_1 Sz22)) ?_
   refine s_val (x_ld (p := Oq ah 1) (v := ax) rfl (ldb_sc Sc22 (H.bl 0) rfl)) ?_
   refine zM (I (k2 : Int)) rfl ?_
   obtain ⟨cQ, hM⟩ := M.e_grd hM
   simp only [Bool.and_eq_true, decide_eq_true_eq] at cQ
   refine s_val (x_ix (a := ax) (b := I (k2 : Int)) (v := vat ax 1 (Int.toNat (k2 : Int))) rfl rfl (Sl.ix (α := Int) T22.und T22.size aA (by omega) (by omega))) ?_
   refine s_val (x_ld (p := vat ax 1 (Int.toNat (k2 : Int))) (v := I (((ac.getD i3 default).stages).getD k2 0)) rfl (ld_sc Sc3 (At.mono (Int_at aA (i := (k2 : Int)) (by omega) (by omega)) (aU.at H)))) ?_
   obtain ⟨ea, cR, hM⟩ := M.e_bind hM
   refine s_call cf49 [I (((ac.getD i3 default).stages).getD k2 0), I 0, I 2000] rfl (zal (((ac.getD i3 default).stages).getD k2 0) 0 2000 cR _ (H.gt 2)) ?_
   rintro vq eb ⟨bp, cS, hvq, aw⟩
   subst cS
   subst vq
   try dsimp only at hM
   replace H := H.bk aw
   clear aw
   refine s_nil ?_
   refine W.cond bp rfl (fun bv => ?_) (fun bv => ?_)
   ·replace hM := M.e_t hM bv
    refine W.seq ?_
    refine W.region rfl ?_
    refine zA (I 130) rfl ?_
    refine s_nil ?_
    refine W.ret ?_
    have cT := M.e_inr hM bu
    subst cT
    replace hM := bP
    try dsimp only at hM
    have cU := M.e_inr hM aI
    subst cU
    replace hM := aO
    try dsimp only at hM
    have ak := M.e_pure hM
    exact ⟨_, resE_tmp rfl, ⟨130, ak, rfl, (H.pk [])⟩⟩
   replace hM := M.e_f hM bv
   refine W.skip ?_
   refine W.region rfl ?_
   refine zM (I (k2 : Int)) rfl ?_
   refine zR (k2 : Int) 1 ((k2 : Int) + 1) rfl rfl rfl (by omega) ?_
   refine zA (I ((k2 : Int) + 1)) rfl ?_
   refine s_nil ?_
   exact ⟨cO, cP, k2 + 1, _, upds_of _ _ ⟨rfl, rfl, rfl, rfl, rfl, rfl, rfl, rfl, rfl, rfl, rfl, rfl, rfl, trivial⟩, M.e_inl hM bu, H⟩
  replace hM := M.e_f hM aT
  simp only [qy1, qy2, qy3, qy4, qy5, qy6, ne_eq, qy7] at aT
  refine W.exit ?_
  have cV := M.e_inr hM bu
  subst cV
  replace hM := bP
  try dsimp only at hM
  refine W.region rfl ?_
  refine zM (I (i3 : Int)) rfl ?_
  refine zR (i3 : Int) 1 ((i3 : Int) + 1) rfl rfl rfl (by omega) ?_
  refine zA (I ((i3 : Int) + 1)) rfl ?_
  refine s_nil ?_
  exact ⟨bI, bJ, i3 + 1, _, upds_of _ _ ⟨rfl, rfl, trivial⟩, M.e_inl hM aI, (H.pk [1])⟩
 replace hM := M.e_f hM aP
 simp only [qy1, qy2, qy3, qy4, qy5, qy6, ne_eq, qy7] at aP
 refine W.exit ?_
 have cW := M.e_inr hM aI
 subst cW
 replace hM := aO
 try dsimp only at hM
 refine W.seq ?_
 refine W.region rfl ?_
 refine zA (I 0) rfl ?_
 refine s_nil ?_
 refine W.ret ?_
 have ak := M.e_pure hM
 exact ⟨_, resE_tmp rfl, ⟨0, ak, rfl, (H.pk [])⟩⟩

def zb0 (ab : List Int) (aa : List Span) (ac : Int) : (Int × Int × Int) -> M ((Int × Int × Int) ⊕ ((Int × Int) ⊕ (Int × Int))) := fun (s, s2, s3) =>
  bif s != ac then (
  M.grd (decide ((0 : Int) <= s) && decide (s < (aa.length : Int))) <|
  M.grd (decide ((-9223372036854775808 : Int) <= (s2 + ((aa.getD (Int.toNat s) default).lo))) && decide ((s2 + ((aa.getD (Int.toNat s) default).lo)) <= (9223372036854775807 : Int))) <|
  M.grd (decide ((-9223372036854775808 : Int) <= (s3 + ((aa.getD (Int.toNat s) default).hi))) && decide ((s3 + ((aa.getD (Int.toNat s) default).hi)) <= (9223372036854775807 : Int))) <|
  M.grd (decide ((0 : Int) <= s) && decide (s < (ab.length : Int))) <|
  bif (ab.getD (Int.toNat s) 0) == (-1) then (
  M.pure (.inr (.inl (s2 + ((aa.getD (Int.toNat s) default).lo), s3 + ((aa.getD (Int.toNat s) default).hi)))))
  else (
  M.pure (.inl (ab.getD (Int.toNat s) 0, s2 + ((aa.getD (Int.toNat s) default).lo), s3 + ((aa.getD (Int.toNat s) default).hi)))))
  else (
  M.pure (.inr (.inr (s2, s3))))
def za9 (aa : List Int) (ab : List Span) (ag : List Int) (ah : List Town) (ai : Int) (aj : Int) (ak : List Flood) (ac : Int) (ae : Int) : M (Int × Int × Bool) :=
  M.bind (M.iter (zb0 aa ab ae) (ac, 0, 0)) fun x_ => match x_ with
  | (.inl (s4, s5)) => (
  M.pure (0, 0, false))
  | (.inr (s6, s7)) => (
  M.pure (s6, s7, true))
theorem zby {R : List Chunk} {aE : Cells} {ag : Value} {aF : Cells} {ab : Value} {aG : Cells} {aj : Value} {aH : Cells} {ak : Value} {aI : Cells} {am : Value} (ac : List Int) (aa : List Span) (aJ : List Int) (aK : List Town) (ao : Int) (ap : Int) (aL : List Flood) (aA : Int) (ai : Int) (aM : Reads R aE) (az : Sl aE ag ac) (aN : Reads R aF) (aq : Sl aF ab aa) (bc : Reads R aG) (bf : Sl aG aj aJ) (bg : Reads R aH) (bh : Sl aH ak aK) (bi : Reads R aI) (bj : Sl aI am aL) {r : (Int × Int × Bool)} (hM : (za9 ac aa aJ aK ao ap aL aA ai).Ends r) (w : World) (H : St w w [] R) : Ret Tryz.prog 75 #[.agg #[ag, ab, aj, ak, I ao, I ap, am], I aA, I ai] w fun v w' => ∃ (y0 : Int) (y1 : Int) (y2 : Bool), (y0, y1, y2) = r /\ v = .tuple #[.agg #[I y0, I y1], B y2] /\ St w w' [] R := by
 refine ret_of_W Tryz.func75 rfl rfl rfl ?_
 refine W.seq ?_
 refine W.region rfl ?_
 refine t_box (v := .agg #[ag, ab, aj, ak, I ao, I ap, am]) (cs := [ag, ab, aj, ak, I ao, I ap, am]) H rfl rfl ?_
 intro ae bm H
 refine t_alloc (cs := [I 0, I 0]) H Al26 rfl ?_
 intro aB bn H
 refine zA (B false) rfl ?_
 refine s_nil ?_
 refine W.seq ?_
 refine W.region rfl ?_
 refine t_alloc (cs := [I 0, I 0]) H Al26 rfl ?_
 intro ah bo H
 refine s_nil ?_
 refine W.seq ?_
 refine W.block ?_
 obtain ⟨aS, aC, aD⟩ := M.e_bind hM
 obtain ⟨bp, aC⟩ := M.e_iter aC
 refine W.loop (fun m σ W => ∃ (s : Int) (s2 : Int) (s3 : Int) (ρ : Env), σ = upds ρ [(1, I s), (2, I ai), (3, Pq ae), (6, Pq aB), (8, Pq ah)] /\ M.iterN (zb0 ac aa ai) m (s, s2, s3) = some aS /\ St w W [cBlk ah [I s2, I s3] 26, cBlk aB [I 0, I 0] 26, cBlk ae [ag, ab, aj, ak, I ao, I ap, am] 37] R) ?_ ?_
 ·exact ⟨_, aA, 0, 0, _, upds_of _ _ ⟨rfl, rfl, rfl, rfl, rfl, trivial⟩, aC, H⟩
 rintro bq σ br ⟨s, s2, s3, ρ, rfl, aO, H⟩
 obtain ⟨aP, aQ, bt, hM, au⟩ := M.e_iterN aO
 simp only [zb0] at hM
 clear aO
 refine W.seq ?_
 refine W.seq ?_
 refine W.region rfl ?_
 refine zM (I s) rfl ?_
 refine zM (I ai) rfl ?_
 refine zC s ai (s != ai) rfl rfl rfl ?_
 refine s_nil ?_
 refine W.cond (s != ai) rfl (fun av => ?_) (fun av => ?_)
 ·replace hM := M.e_t hM av
  simp only [qy1, qy2, qy3, qy4, qy5, qy6, ne_eq, qy7] at av
  refine W.skip ?_
  refine W.block ?_
  refine W.seq ?_
  refine W.drawT (fun W => St w W [cBlk aB [I 0, I 0] 26, cBlk ae [ag, ab, aj, ak, I ao, I ap, am] 37] R) (.q 0 (.q 2 (.q 3 (.q 4 (.q 5 (.q 6 (.q 7 (.q 9 (.q 11 (.q 12 (.q 13 (.q 14 (.q 15 (.q 16 (.l2 1 (.q 8 (.l 10 (.q 17 (.q 18 (.l 19 .nil))))) 10 (.q 17 (.l 1 (.q 8 (.q 18 (.l 19 .nil)))))))))))))))))))) mixed (by decide +kernel) rfl ?_
  intro bu aR
  replace H := H.ext aR
  clear aR
  refine ⟨(H.pk [1, 2]), ?_⟩
  refine t_q rfl (fun w' H => x_fa (a := Pq ah) (v := Pq ah) rfl (fa_blk (o := 0) Fd26_0 Sz3)) ?_
  refine t_q rfl (fun w' H => x_fa (a := Pq ae) (v := Oq ae 1) rfl (fa_blk (o := 0) Fd37_1 Sz23)) ?_
  refine t_q rfl (fun w' H => x_ld (p := Oq ae 1) (v := ab) rfl (ldb_sc Sc23 (H.bl 1) rfl)) ?_
  refine t_q rfl (fun w' H => x_mv (v := I s) rfl) ?_
  obtain ⟨aT, hM⟩ := M.e_grd hM
  simp only [Bool.and_eq_true, decide_eq_true_eq] at aT
  refine t_q rfl (fun w' H => x_ix (a := ab) (b := I s) (v := vat ab 2 (Int.toNat s)) rfl rfl (Sl.ix (α := Span) T23.und T23.size aq (by omega) (by omega))) ?_
  refine t_q rfl (fun w' H => x_fa (a := vat ab 2 (Int.toNat s)) (v := fat (vat ab 2 (Int.toNat s)) 0) rfl (fa_pl Fd26_0 Sz3 (Sl.pl (i := s) aq (by omega) (by omega)))) ?_
  refine t_q rfl (fun w' H => x_ld (p := fat (vat ab 2 (Int.toNat s)) 0) (v := I ((aa.getD (Int.toNat s) default).lo)) rfl (ld_sc Sc3 (At.mono (Span_at0 aq (i := s) (by omega) (by omega)) (aN.at H)))) ?_
  refine t_q rfl (fun w' H => x_fa (a := Pq ah) (v := Oq ah 1) rfl (fa_blk (o := 0) Fd26_1 Sz3)) ?_
  refine t_q rfl (fun w' H => x_fa (a := Pq ae) (v := Oq ae 1) rfl (fa_blk (o := 0) Fd37_1 Sz23)) ?_
  refine t_q rfl (fun w' H => x_ld (p := Oq ae 1) (v := ab) rfl (ldb_sc Sc23 (H.bl 1) rfl)) ?_
  refine t_q rfl (fun w' H => x_mv (v := I s) rfl) ?_
  refine t_q rfl (fun w' H => x_ix (a := ab) (b := I s) (v := vat ab 2 (Int.toNat s)) rfl rfl (Sl.ix (α := Span) T23.und T23.size aq (by omega) (by omega))) ?_
  refine t_q rfl (fun w' H => x_fa (a := vat ab 2 (Int.toNat s)) (v := fat (vat ab 2 (Int.toNat s)) 1) rfl (fa_pl Fd26_1 Sz3 (Sl.pl (i := s) aq (by omega) (by omega)))) ?_
  refine t_q rfl (fun w' H => x_ld (p := fat (vat ab 2 (Int.toNat s)) 1) (v := I ((aa.getD (Int.toNat s) default).hi)) rfl (ld_sc Sc3 (At.mono (Span_at1 aq (i := s) (by omega) (by omega)) (aN.at H)))) ?_
  obtain ⟨aU, hM⟩ := M.e_grd hM
  simp only [Bool.and_eq_true, decide_eq_true_eq] at aU
  obtain ⟨aV, hM⟩ := M.e_grd hM
  simp only [Bool.and_eq_true, decide_eq_true_eq] at aV
  refine t_l2 rfl rfl ?_ ?_
  ·skip
   refine s_val (x_ld (p := Pq ah) (v := I s2) rfl (ldb_sc Sc3 (H.bl 0) rfl)) ?_
   refine s_nil ⟨(H.pk [1, 2]), ?_⟩
   refine t_q rfl (fun w' H => x_ari (a := s2) (b := (aa.getD (Int.toNat s) default).lo) (r := s2 + ((aa.getD (Int.toNat s) default).lo)) rfl rfl rfl (by omega)) ?_
   refine t_l rfl ?_
   refine s_val (x_ld (p := Oq ah 1) (v := I s3) rfl (ldb_sc Sc3 (H.bl 0) rfl)) ?_
   refine s_nil ⟨(H.pk [1, 2]), ?_⟩
   refine t_q rfl (fun w' H => x_ari (a := s3) (b := (aa.getD (Int.toNat s) default).hi) (r := s3 + ((aa.getD (Int.toNat s) default).hi)) rfl rfl rfl (by omega)) ?_
   refine t_q rfl (fun w' H => x_bld (ps := [(0, I (s2 + ((aa.getD (Int.toNat s) default).lo))), (1, I (s3 + ((aa.getD (Int.toNat s) default).hi)))]) (zs := [I 0, I 0]) (L' := [I (s2 + ((aa.getD (Int.toNat s) default).lo)), I (s3 + ((aa.getD (Int.toNat s) default).hi))]) rfl Tryz.underlying26 Al26 rfl (Bd26 Tryz.underlying26) (.cons (cs := [I (s2 + ((aa.getD (Int.toNat s) default).lo))]) rfl rfl rfl rfl rfl <| .cons (cs := [I (s3 + ((aa.getD (Int.toNat s) default).hi))]) rfl rfl rfl rfl rfl <| .nil)) ?_
   refine t_l rfl ?_
   refine t_sw 0 0 [I (s2 + ((aa.getD (Int.toNat s) default).lo)), I (s3 + ((aa.getD (Int.toNat s) default).hi))] (.agg #[I (s2 + ((aa.getD (Int.toNat s) default).lo)), I (s3 + ((aa.getD (Int.toNat s) default).hi))]) H rfl rfl Sz26 rfl rfl rfl rfl ?_
   intro bv H
   refine s_nil ⟨(H.pk [1, 2]), ?_⟩
   refine t_nil ?_
   refine W.seq ?_
   refine W.region rfl ?_
   refine s_val (x_fa (a := Pq ae) (v := Pq ae) rfl (fa_blk (o := 0) Fd37_0 Sz22)) ?_
   refine s_val (x_ld (p := Pq ae) (v := ag) rfl (ldb_sc Sc22 (H.bl 2) rfl)) ?_
   refine zM (I s) rfl ?_
   obtain ⟨aW, hM⟩ := M.e_grd hM
   simp only [Bool.and_eq_true, decide_eq_true_eq] at aW
   refine s_val (x_ix (a := ag) (b := I s) (v := vat ag 1 (Int.toNat s)) rfl rfl (Sl.ix (α := Int) T22.und T22.size az (by omega) (by omega))) ?_
   refine s_val (x_ld (p := vat ag 1 (Int.toNat s)) (v := I (ac.getD (Int.toNat s) 0)) rfl (ld_sc Sc3 (At.mono (Int_at az (i := s) (by omega) (by omega)) (aM.at H)))) ?_
   refine zA (I (ac.getD (Int.toNat s) 0)) rfl ?_
   refine s_nil ?_
   refine W.seq ?_
   refine W.region rfl ?_
   refine zM (I (ac.getD (Int.toNat s) 0)) rfl ?_
   refine zC (ac.getD (Int.toNat s) 0) (-1) ((ac.getD (Int.toNat s) 0) == (-1)) rfl rfl rfl ?_
   refine s_nil ?_
   refine W.cond ((ac.getD (Int.toNat s) 0) == (-1)) rfl (fun aw => ?_) (fun aw => ?_)
   ·replace hM := M.e_t hM aw
    simp only [qy1, qy2, qy3, qy4, qy5, qy6, ne_eq, qy7] at aw
    refine W.seq ?_
    refine W.region rfl ?_
    refine s_val (x_bld (ps := []) (zs := [I 0, I 0]) (L' := [I 0, I 0]) rfl Tryz.underlying26 Al26 rfl (Bd26 Tryz.underlying26) (.nil)) ?_
    refine t_sw 1 0 [I 0, I 0] (.agg #[I 0, I 0]) H rfl rfl Sz26 rfl rfl rfl rfl ?_
    intro bw H
    refine zA (B false) rfl ?_
    refine s_nil ?_
    refine W.ret ?_
    have aX := M.e_inr hM au
    subst aX
    replace hM := aD
    try dsimp only at hM
    have aY := (H.bl 1)
    have ax := M.e_pure hM
    exact ⟨_, (resE_ofn (vs := [.agg #[I 0, I 0], B false]) rfl rfl (.cell (v := .agg #[I 0, I 0]) rfl (run_loadVar_ag (ds := [I 0, I 0]) Ag26 Sz26 aY rfl rfl) <| .tmp (v := B false) rfl <| .nil)), ⟨0, 0, false, ax, rfl, (H.pk [])⟩⟩
   replace hM := M.e_f hM aw
   simp only [qy1, qy2, qy3, qy4, qy5, qy6, ne_eq, qy7] at aw
   refine W.skip ?_
   exact ⟨aP, aQ, ac.getD (Int.toNat s) 0, s2 + ((aa.getD (Int.toNat s) default).lo), s3 + ((aa.getD (Int.toNat s) default).hi), _, upds_of _ _ ⟨rfl, rfl, rfl, rfl, rfl, trivial⟩, M.e_inl hM au, H⟩
  skip
  refine s_val (x_ld (p := Oq ah 1) (v := I s3) rfl (ldb_sc Sc3 (H.bl 0) rfl)) ?_
  refine s_nil ⟨(H.pk [1, 2]), ?_⟩
  refine t_q rfl (fun w' H => x_ari (a := s3) (b := (aa.getD (Int.toNat s) default).hi) (r := s3 + ((aa.getD (Int.toNat s) default).hi)) rfl rfl rfl (by omega)) ?_
  refine t_l rfl ?_
  refine s_val (x_ld (p := Pq ah) (v := I s2) rfl (ldb_sc Sc3 (H.bl 0) rfl)) ?_
  refine s_nil ⟨(H.pk [1, 2]), ?_⟩
  refine t_q rfl (fun w' H => x_ari (a := s2) (b := (aa.getD (Int.toNat s) default).lo) (r := s2 + ((aa.getD (Int.toNat s) default).lo)) rfl rfl rfl (by omega)) ?_
  refine t_q rfl (fun w' H => x_bld (ps := [(0, I (s2 + ((aa.getD (Int.toNat s) default).lo))), (1, I (s3 + ((aa.getD (Int.toNat s) default).hi)))]) (zs := [I 0, I 0]) (L' := [I (s2 + ((aa.getD (Int.toNat s) default).lo)), I (s3 + ((aa.getD (Int.toNat s) default).hi))]) rfl Tryz.underlying26 Al26 rfl (Bd26 Tryz.underlying26) (.cons (cs := [I (s2 + ((aa.getD (Int.toNat s) default).lo))]) rfl rfl rfl rfl rfl <| .cons (cs := [I (s3 + ((aa.getD (Int.toNat s) default).hi))]) rfl rfl rfl rfl rfl <| .nil)) ?_
  refine t_l rfl ?_
  refine t_sw 0 0 [I (s2 + ((aa.getD (Int.toNat s) default).lo)), I (s3 + ((aa.getD (Int.toNat s) default).hi))] (.agg #[I (s2 + ((aa.getD (Int.toNat s) default).lo)), I (s3 + ((aa.getD (Int.toNat s) default).hi))]) H rfl rfl Sz26 rfl rfl rfl rfl ?_
  intro bx H
  refine s_nil ⟨(H.pk [1, 2]), ?_⟩
  refine t_nil ?_
  refine W.seq ?_
  refine W.region rfl ?_
  refine s_val (x_fa (a := Pq ae) (v := Pq ae) rfl (fa_blk (o := 0) Fd37_0 Sz22)) ?_
  refine s_val (x_ld (p := Pq ae) (v := ag) rfl (ldb_sc Sc22 (H.bl 2) rfl)) ?_
  refine zM (I s) rfl ?_
  obtain ⟨aZ, hM⟩ := M.e_grd hM
  simp only [Bool.and_eq_true, decide_eq_true_eq] at aZ
  refine s_val (x_ix (a := ag) (b := I s) (v := vat ag 1 (Int.toNat s)) rfl rfl (Sl.ix (α := Int) T22.und T22.size az (by omega) (by omega))) ?_
  refine s_val (x_ld (p := vat ag 1 (Int.toNat s)) (v := I (ac.getD (Int.toNat s) 0)) rfl (ld_sc Sc3 (At.mono (Int_at az (i := s) (by omega) (by omega)) (aM.at H)))) ?_
  refine zA (I (ac.getD (Int.toNat s) 0)) rfl ?_
  refine s_nil ?_
  refine W.seq ?_
  refine W.region rfl ?_
  refine zM (I (ac.getD (Int.toNat s) 0)) rfl ?_
  refine zC (ac.getD (Int.toNat s) 0) (-1) ((ac.getD (Int.toNat s) 0) == (-1)) rfl rfl rfl ?_
  refine s_nil ?_
  refine W.cond ((ac.getD (Int.toNat s) 0) == (-1)) rfl (fun ay => ?_) (fun ay => ?_)
  ·replace hM := M.e_t hM ay
   simp only [qy1, qy2, qy3, qy4, qy5, qy6, ne_eq, qy7] at ay
   refine W.seq ?_
   refine W.region rfl ?_
   refine s_val (x_bld (ps := []) (zs := [I 0, I 0]) (L' := [I 0, I 0]) rfl Tryz.underlying26 Al26 rfl (Bd26 Tryz.underlying26) (.nil)) ?_
   refine t_sw 1 0 [I 0, I 0] (.agg #[I 0, I 0]) H rfl rfl Sz26 rfl rfl rfl rfl ?_
   intro bz H
   refine zA (B false) rfl ?_
   refine s_nil ?_
   refine W.ret ?_
   have a6 := M.e_inr hM au
   subst a6
   replace hM := aD
   try dsimp only at hM
   have a7 := (H.bl 1)
   have ax := M.e_pure hM
   exact ⟨_, (resE_ofn (vs := [.agg #[I 0, I 0], B false]) rfl rfl (.cell (v := .agg #[I 0, I 0]) rfl (run_loadVar_ag (ds := [I 0, I 0]) Ag26 Sz26 a7 rfl rfl) <| .tmp (v := B false) rfl <| .nil)), ⟨0, 0, false, ax, rfl, (H.pk [])⟩⟩
  replace hM := M.e_f hM ay
  simp only [qy1, qy2, qy3, qy4, qy5, qy6, ne_eq, qy7] at ay
  refine W.skip ?_
  exact ⟨aP, aQ, ac.getD (Int.toNat s) 0, s2 + ((aa.getD (Int.toNat s) default).lo), s3 + ((aa.getD (Int.toNat s) default).hi), _, upds_of _ _ ⟨rfl, rfl, rfl, rfl, rfl, trivial⟩, M.e_inl hM au, H⟩
 replace hM := M.e_f hM av
 simp only [qy1, qy2, qy3, qy4, qy5, qy6, ne_eq, qy7] at av
 refine W.exit ?_
 have a8 := M.e_inr hM au
 subst a8
 replace hM := aD
 try dsimp only at hM
 refine W.seq ?_
 refine W.region rfl ?_
 refine s_val (x_ld (p := Pq ah) (v := .agg #[I s2, I s3]) rfl (ldb_ag (ds := [I s2, I s3]) Ag26 Sz26 (H.bl 0) rfl rfl)) ?_
 refine t_sw 1 0 [I s2, I s3] (.agg #[I s2, I s3]) H rfl rfl Sz26 rfl rfl rfl rfl ?_
 intro bA H
 refine zA (B true) rfl ?_
 refine s_nil ?_
 replace H := H.pk [1]
 refine W.ret ?_
 have ba := (H.bl 0)
 have ax := M.e_pure hM
 exact ⟨_, (resE_ofn (vs := [.agg #[I s2, I s3], B true]) rfl rfl (.cell (v := .agg #[I s2, I s3]) rfl (run_loadVar_ag (ds := [I s2, I s3]) Ag26 Sz26 ba rfl rfl) <| .tmp (v := B true) rfl <| .nil)), ⟨s2, s3, true, ax, rfl, (H.pk [])⟩⟩

end Go.Proofs.YtbaehghammbjdaaGreat
end
namespace Go.Nm
/-- The first one from a place on. -/
def fs {ρ : Type} (f : Nat -> Option ρ) : Nat -> Nat -> Option ρ
  | 0, _ => none
  | m + 1, i => match f i with
    | some e => some e
    | none => fs f m (i + 1)
theorem fs_none {ρ : Type} {f : Nat -> Option ρ} : ∀ {m i : Nat}, fs f m i = none -> ∀ j, i <= j -> j < i + m -> f j = none
  | 0, i, _, j, h1, h2 => by omega
  | m + 1, i, h, j, h1, h2 => by
    unfold fs at h
    cases e : f i with
    | some x => rw [e] at h; cases h
    | none =>
      rw [e] at h
      rcases Nat.lt_or_eq_of_le h1 with g | g
      · exact fs_none h j g (by omega)
      · subst g
        exact e
/-- How a scan goes on. -/
def fsS {ρ : Type} (i : Nat) : Option ρ -> Nat ⊕ (ρ ⊕ Unit)
  | none => .inl (i + 1)
  | some e => .inr (.inl e)
def fsR {ρ : Type} : Option ρ -> ρ ⊕ Unit
  | none => .inr ()
  | some e => .inl e
theorem M.i_fs {ρ : Type} {body : Nat -> M (Nat ⊕ (ρ ⊕ Unit))} (n : Nat) (f : Nat -> Option ρ) (step : ∀ i, i < n -> (body i).Ends (fsS i (f i))) (fin : (body n).Ends (.inr (.inr ()))) :
    ∀ m i, i + m = n -> (M.iter body i).Ends (fsR (fs f m i))
  | 0, i, h => by
    obtain rfl : i = n := by omega
    exact M.i_stop fin
  | m + 1, i, h => by
    have h1 := step i (by omega)
    unfold fs
    cases e : f i with
    | some x => rw [e] at h1; exact M.i_stop h1
    | none => rw [e] at h1; exact M.i_next h1 (M.i_fs n f step fin m (i + 1) (by omega))
theorem M.i_optA {b x : Bool} {m : M Bool} (h : m.Ends x) : (M.opt b m false).Ends (b && x) := by
  cases b with
  | true => exact M.i_opt (fun _ => h) (fun h => by cases h)
  | false => exact M.i_opt (fun h => by cases h) (fun _ => rfl)
namespace Wn
/-- Strictly increasing, from 0 to less than an end. -/
def Up (l : List Int) (n : Int) : Prop := ∀ i, i < l.length -> (0 <= l.getD i 0 /\ l.getD i 0 < n) /\ (0 < i -> l.getD (i - 1) 0 < l.getD i 0)
theorem Up.sr {l : List Int} {n : Int} (h : Up l n) : l.Pairwise (· < ·) := by
  rw [List.pairwise_iff_getElem]
  intro i j hi hj hij
  induction j with
  | zero => omega
  | succ j ih =>
    have := (h (j + 1) hj).2 (by omega)
    rw [Nat.add_sub_cancel, getD_el l hj, getD_el l (show j < l.length by omega)] at this
    rcases Nat.lt_or_eq_of_le (Nat.le_of_lt_succ hij) with g | g
    · have := ih (by omega) g
      omega
    · subst g
      exact this
theorem Up.si {l : List Int} {n : Int} (h : Up l n) : ∀ x ∈ l, 0 <= x /\ x < n := by
  intro x hx
  obtain ⟨i, hi, rfl⟩ := mem_getD hx 0
  exact (h i hi).1
end Wn
end Go.Nm
namespace Go.Proofs.YtbaehghammbjdaaGreat
open Go Go.Nm
theorem rising_out {l : List Int} {n : Int} (hn : 0 <= n /\ n <= 1000) : (zay l n).Out (fun r => r = true ↔ Wn.Up l n) := by
  unfold zay
  refine M.o_bind (P := fun x => match x with | .inl (_ : Unit) => ¬ Wn.Up l n | .inr (_ : Unit) => Wn.Up l n) ?_ ?_
  · refine M.o_for l.length (fun i (t : Int × Nat) => t.2 = i /\ (∀ j, j < i -> (0 <= l.getD j 0 /\ l.getD j 0 < n) /\ (0 < j -> l.getD (j - 1) 0 < l.getD j 0)) /\ (i = 0 -> t.1 = -1) /\ (0 < i -> t.1 = l.getD (i - 1) 0)) ?_ ?_ ⟨rfl, fun j hj => by omega, fun _ => rfl, fun h => by omega⟩
    · rintro _ ⟨a, i⟩ hi ⟨rfl, h1, h2, h3⟩
      dsimp only at hi h1 h2 h3
      simp only [zaO]
      have ha : -1 <= a /\ a < 1000 := by
        rcases Nat.eq_zero_or_pos i with e | e
        · have := h2 e; omega
        · have := h3 e
          have := (h1 (i - 1) (by omega)).1
          omega
      refine M.o_t (decide_eq_true (by omega)) (M.o_grdD (by omega) (M.o_grd (gA2 (by omega) (by omega)) (M.o_grd (gA2 (by omega) (by omega)) (M.o_bindE (in_ends _ _ _) (M.o_if (fun hb => M.o_pure ?_) (fun hb => M.o_pure ⟨rfl, fun j hj => ?_, fun h => by omega, fun _ => rfl⟩))))))
      · intro hU
        have := hU i hi
        simp only [Bool.not_eq_true', Bool.and_eq_false_iff, decide_eq_false_iff_not] at hb
        rcases Nat.eq_zero_or_pos i with e | e
        · have := h2 e; omega
        · have := h3 e
          have := this
          have h4 := (hU i hi).2 e
          omega
      · simp only [Bool.not_eq_false', Bool.and_eq_true, decide_eq_true_eq] at hb
        rcases Nat.lt_or_eq_of_le (Nat.le_of_lt_succ hj) with g | g
        · exact h1 j g
        · subst g
          refine ⟨by omega, fun h => ?_⟩
          have := h3 h
          omega
    · rintro ⟨a, i⟩ ⟨e, h1, _⟩
      dsimp only at e h1
      subst e
      simp only [zaO]
      exact M.o_f (decide_eq_false (by omega)) (M.o_pure h1)
  · rintro (u | u) h
    · exact M.o_pure ⟨fun h => (by cases h), fun h' => absurd h' h⟩
    · exact M.o_pure ⟨fun _ => h, fun _ => rfl⟩
theorem outside_ends (n a b : Int) : (zaf n a b).Ends (decide (n < a) || decide (b < n)) := M.i_pure
theorem unlisted_out {l : List Int} {n : Int} (hn : 0 <= n /\ n <= 1000) (hl : l.length <= 1000) : (zbA l n).Out (fun r => r = true ↔ ¬ Wn.Up l n) := by
  unfold zbA
  refine M.o_bind (P := fun x => match x with | .inl (_ : Unit) => ¬ Wn.Up l n | .inr (_ : Unit) => Wn.Up l n) ?_ ?_
  · refine M.o_for l.length (fun i (t : Nat) => t = i /\ (∀ j, j < i -> (0 <= l.getD j 0 /\ l.getD j 0 < n) /\ (0 < j -> l.getD (j - 1) 0 < l.getD j 0))) ?_ ?_ ⟨rfl, fun j hj => by omega⟩
    · rintro _ i hi ⟨rfl, h1⟩
      simp only [zbg]
      have e1 : Int.toNat ((i : Int) - 1) = i - 1 := by omega
      refine M.o_t (decide_eq_true (by omega)) (M.o_grdD (by omega) (M.o_grd (gA2 (by omega) (by omega)) (M.o_bindE (outside_ends _ _ _) (M.o_grd (gI2 fun _ => by omega) (M.o_grd (gI2 fun h => ?_) ?_)))))
      · simp only [Bool.and_eq_true, decide_eq_true_eq] at h
        omega
      rw [e1]
      refine M.o_if (fun hb => M.o_pure ?_) (fun hb => M.o_pure ⟨rfl, fun j hj => ?_⟩)
      · intro hU
        have h2 := hU i hi
        simp only [Bool.or_eq_true, Bool.and_eq_true, decide_eq_true_eq] at hb
        rcases hb with hb | hb
        · omega
        · have := h2.2 (by omega)
          omega
      · simp only [Bool.or_eq_false_iff, Bool.and_eq_false_iff, decide_eq_false_iff_not] at hb
        rcases Nat.lt_or_eq_of_le (Nat.le_of_lt_succ hj) with g | g
        · exact h1 j g
        · subst g
          omega
    · rintro _ ⟨rfl, h1⟩
      simp only [zbg]
      exact M.o_f (decide_eq_false (by omega)) (M.o_pure h1)
  · rintro (u | u) h
    · exact M.o_pure ⟨fun _ => h, fun _ => rfl⟩
    · exact M.o_pure ⟨fun h => (by cases h), fun h' => absurd h h'⟩
theorem contains_ends (s : List Int) (v : Int) : (zaX s v).Ends (decide (v ∈ s)) := by
  refine M.Out.ends ?_
  unfold zaX zaB
  refine M.o_bind (P := fun r => 0 <= r ↔ v ∈ s) (M.o_bind (P := fun r => match r with | .inl r => ∃ k : Nat, r = (k : Int) /\ v ∈ s | .inr (_ : Unit) => v ∉ s) ?_ ?_) (fun r h => M.o_pure (by simp only [h]))
  · refine M.o_for s.length (fun i (k : Nat) => k = i /\ ∀ j, j < i -> s.getD j 0 ≠ v) ?_ ?_ ⟨rfl, fun j hj => by omega⟩
    · rintro i _ hi ⟨rfl, hp⟩
      simp only [zao]
      refine M.o_t (decide_eq_true (by omega)) (M.o_grdD (by omega) (M.o_if (fun hb => M.o_pure ⟨_, rfl, ?_⟩) (fun hb => M.o_pure ⟨rfl, fun j hj => ?_⟩)))
      · rw [beq_iff_eq.1 hb, getD_el s hi]
        exact List.getElem_mem hi
      rcases Nat.lt_or_eq_of_le (Nat.le_of_lt_succ hj) with e | e
      · exact hp j e
      · subst e
        exact fun e => (beq_eq_false_iff_ne.1 hb) e.symm
    · rintro _ ⟨rfl, hp⟩
      simp only [zao]
      refine M.o_f (decide_eq_false (by omega)) (M.o_pure ?_)
      intro h
      obtain ⟨i, hi, e⟩ := mem_getD h 0
      exact hp i hi e
  · rintro (r | r) h
    · obtain ⟨k, rfl, h⟩ := h
      exact M.o_pure ⟨fun _ => h, fun _ => by omega⟩
    · exact M.o_pure ⟨fun h' => by omega, fun h' => absurd h' h⟩
theorem every_towns (l : List Town) (so : Town -> M Bool) (p : Town -> Bool) (h : ∀ t ∈ l, (so t).Ends (p t)) : (zaN l so).Ends (l.all p) := by
  refine M.Out.ends ?_
  unfold zaN zar zbM
  refine M.o_bind (P := fun b => b = !l.all p) (M.o_bind (P := fun r => decide (0 <= r) = !l.all p) (M.o_bind (P := fun r => match r with | .inl r => (0 : Int) <= r /\ l.all p = false | .inr (_ : Unit) => l.all p = true) ?_ ?_) (fun r h => M.o_pure h)) (fun r h => M.o_pure (by rw [h]; simp))
  · refine M.o_for l.length (fun i (k : Nat) => k = i /\ ∀ j, j < i -> p (l.getD j default) = true) ?_ ?_ ⟨rfl, fun j hj => by omega⟩
    · rintro _ i hi ⟨rfl, hp⟩
      simp only [zat]
      have hm : l.getD i default ∈ l := by rw [getD_el l hi]; exact List.getElem_mem hi
      refine M.o_t (decide_eq_true (by omega)) (M.o_grdD (by omega) (M.o_bindE (a := !p (l.getD i default)) ?_ (M.o_if (fun hb => M.o_pure ⟨by omega, ?_⟩) (fun hb => M.o_pure ⟨rfl, fun j hj => ?_⟩))))
      · unfold zbK
        exact M.i_bind (h _ hm) M.i_pure
      · rw [List.all_eq_false]
        exact ⟨_, hm, by simpa using hb⟩
      · rcases Nat.lt_or_eq_of_le (Nat.le_of_lt_succ hj) with e | e
        · exact hp j e
        · subst e
          simpa using hb
    · rintro _ ⟨rfl, hp⟩
      simp only [zat]
      refine M.o_f (decide_eq_false (by omega)) (M.o_pure ?_)
      rw [List.all_eq_true]
      intro x hx
      obtain ⟨i, hi, e⟩ := mem_getD hx default
      rw [← e]
      exact hp i hi
  · rintro (r | r) h
    · exact M.o_pure (by rw [h.2, decide_eq_true h.1]; rfl)
    · exact M.o_pure (by dsimp only at h; rw [h]; rfl)
theorem every_ints (l : List Int) (so : Int -> M Bool) (p : Int -> Bool) (h : ∀ t ∈ l, (so t).Ends (p t)) : (zaM l so).Ends (l.all p) := by
  refine M.Out.ends ?_
  unfold zaM zbY zbR
  refine M.o_bind (P := fun b => b = !l.all p) (M.o_bind (P := fun r => decide (0 <= r) = !l.all p) (M.o_bind (P := fun r => match r with | .inl r => (0 : Int) <= r /\ l.all p = false | .inr (_ : Unit) => l.all p = true) ?_ ?_) (fun r h => M.o_pure h)) (fun r h => M.o_pure (by rw [h]; simp))
  · refine M.o_for l.length (fun i (k : Nat) => k = i /\ ∀ j, j < i -> p (l.getD j 0) = true) ?_ ?_ ⟨rfl, fun j hj => by omega⟩
    · rintro _ i hi ⟨rfl, hp⟩
      simp only [zaR]
      have hm : l.getD i 0 ∈ l := by rw [getD_el l hi]; exact List.getElem_mem hi
      refine M.o_t (decide_eq_true (by omega)) (M.o_grdD (by omega) (M.o_bindE (a := !p (l.getD i 0)) ?_ (M.o_if (fun hb => M.o_pure ⟨by omega, ?_⟩) (fun hb => M.o_pure ⟨rfl, fun j hj => ?_⟩))))
      · unfold zbJ
        exact M.i_bind (h _ hm) M.i_pure
      · rw [List.all_eq_false]
        exact ⟨_, hm, by simpa using hb⟩
      · rcases Nat.lt_or_eq_of_le (Nat.le_of_lt_succ hj) with e | e
        · exact hp j e
        · subst e
          simpa using hb
    · rintro _ ⟨rfl, hp⟩
      simp only [zaR]
      refine M.o_f (decide_eq_false (by omega)) (M.o_pure ?_)
      rw [List.all_eq_true]
      intro x hx
      obtain ⟨i, hi, e⟩ := mem_getD hx 0
      rw [← e]
      exact hp i hi
  · rintro (r | r) h
    · exact M.o_pure (by rw [h.2, decide_eq_true h.1]; rfl)
    · exact M.o_pure (by dsimp only at h; rw [h]; rfl)
end Go.Proofs.YtbaehghammbjdaaGreat
namespace Go.Nm
theorem M.i_eq {α : Type} {m : M α} {a b : α} (h : m.Ends a) (e : a = b) : m.Ends b := e ▸ h
theorem fs_some {ρ : Type} {f : Nat -> Option ρ} {x : ρ} : ∀ {m i : Nat}, fs f m i = some x -> ∃ j, f j = some x
  | 0, _, h => by cases h
  | m + 1, i, h => by
    unfold fs at h
    cases e : f i with
    | some y => rw [e] at h; exact ⟨i, by rw [e]; exact h⟩
    | none => rw [e] at h; exact fs_some h
namespace Wn
def hok (s : Span) : Bool := decide (0 <= s.lo /\ s.lo <= s.hi /\ s.hi <= 1000)
def c1 (dn : List Int) (tr : List Span) (i : Nat) : Option Int :=
  if dn.getD i 0 ≠ -1 /\ ¬((i : Int) + 1 <= dn.getD i 0 /\ dn.getD i 0 <= (dn.length : Int) - 1) then some 2 else if hok (tr.getD i default) = true then none else some 130
def tim (t : Town) : Bool := decide ((0 <= t.lead /\ t.lead <= 1000) /\ 0 <= t.alarm /\ t.alarm <= 2000)
def sta (n : Int) (t : Town) : Bool := decide (0 <= t.station /\ t.station < n)
def sok (x : Int) : Bool := decide (0 <= x) && decide (x <= 2000)
def ct (n : Int) (tw : List Town) (i : Nat) : Option Unit := if tim (tw.getD i default) = true /\ sta n (tw.getD i default) = true then none else some ()
def c2 (dn sp : List Int) (fl : List Flood) (i : Nat) : Option Int :=
  if (fl.getD i default).spring ∈ sp /\ (fl.getD i default).stages.length = (P dn (fl.getD i default).spring).length then (if (fl.getD i default).stages.all sok = true then none else some 130) else some 2
end Wn
end Go.Nm
namespace Go.Proofs.YtbaehghammbjdaaGreat
open Go Go.Nm
variable {dn : List Int} {tr : List Span} {sp : List Int} {tw : List Town} {dl dh : Int} {fl : List Flood}
theorem hours_ends (s : Span) : (zaH s).Ends (Wn.hok s) := by
  unfold zaH
  refine M.i_eq (M.i_bind (in_ends _ _ _) (M.i_bind (M.i_optA (in_ends _ _ _)) M.i_pure)) ?_
  unfold Wn.hok
  rw [Bool.eq_iff_iff]
  simp only [Bool.and_eq_true, decide_eq_true_eq]
  omega
theorem spoilt_ends (s : Span) : (zbz s).Ends (!Wn.hok s) := by
  unfold zbz
  refine M.i_eq M.i_pure ?_
  unfold Wn.hok
  rw [Bool.eq_iff_iff]
  simp only [Bool.or_eq_true, Bool.not_eq_true', decide_eq_false_iff_not, decide_eq_true_eq]
  omega
theorem stage_ends (n : Int) : (zaz n).Ends (Wn.sok n) := by
  unfold zaz
  exact M.i_bind (in_ends _ _ _) M.i_pure
theorem timely_ends (t : Town) : (zaJ t).Ends (Wn.tim t) := by
  unfold zaJ
  refine M.i_eq (M.i_bind (in_ends _ _ _) (M.i_bind (M.i_optA (stage_ends _)) M.i_pure)) ?_
  unfold Wn.tim Wn.sok
  rw [Bool.eq_iff_iff]
  simp only [Bool.and_eq_true, decide_eq_true_eq]
  omega
theorem check1_ends {n : Nat} (hn : n <= 12) (t : Town) : (zaI t (n : Int)).Ends (Wn.sta n t) := by
  unfold zaI
  refine M.i_grd (gA2 (by omega) (by omega)) (M.i_eq (M.i_bind (in_ends _ _ _) M.i_pure) ?_)
  unfold Wn.sta
  rw [Bool.eq_iff_iff]
  simp only [Bool.and_eq_true, decide_eq_true_eq]
  omega
theorem b0_own (h12 : dn.length <= 12) (tl : tr.length = dn.length) (i : Nat) (hi : i < dn.length) : (zax dn tr i).Ends (fsS i (Wn.c1 dn tr i)) := by
  simp only [zax]
  refine M.i_t (decide_eq_true (by omega)) (M.i_grd (decide_eq_true (by omega)) (M.i_bind (M.i_optA (in_ends _ _ _)) ?_))
  unfold Wn.c1
  by_cases a : dn.getD i 0 ≠ -1 /\ ¬((i : Int) + 1 <= dn.getD i 0 /\ dn.getD i 0 <= (dn.length : Int) - 1)
  · rw [if_pos a]
    refine M.i_t ?_ M.i_pure
    rw [show (dn.getD i 0 != -1) = true from bne_iff_ne.2 a.1]
    simp only [Bool.true_and, Bool.not_eq_true', Bool.and_eq_false_iff, decide_eq_false_iff_not]
    omega
  · rw [if_neg a]
    refine M.i_f ?_ (M.i_grd (decide_eq_true (by omega)) (M.i_bind (hours_ends _) ?_))
    · by_cases e : dn.getD i 0 = -1
      · rw [e]; rfl
      · rw [show (dn.getD i 0 != -1) = true from bne_iff_ne.2 e]
        simp only [Bool.true_and, Bool.not_eq_false', Bool.and_eq_true, decide_eq_true_eq]
        omega
    · cases Wn.hok (tr.getD i default) with
      | true => exact M.i_f rfl M.i_pure
      | false => exact M.i_t rfl M.i_pure
theorem b0_ref (h12 : dn.length <= 12) (tl : tr.length = dn.length) (i : Nat) (hi : i < dn.length) : (zaV dn tr i).Ends (fsS i (Wn.c1 dn tr i)) := by
  simp only [zaV]
  refine M.i_t (decide_eq_true (by omega)) (M.i_grd (decide_eq_true (by omega)) (M.i_bind (M.i_optA (outside_ends _ _ _)) ?_))
  unfold Wn.c1
  by_cases a : dn.getD i 0 ≠ -1 /\ ¬((i : Int) + 1 <= dn.getD i 0 /\ dn.getD i 0 <= (dn.length : Int) - 1)
  · rw [if_pos a]
    refine M.i_t ?_ M.i_pure
    rw [show (dn.getD i 0 != -1) = true from bne_iff_ne.2 a.1]
    simp only [Bool.true_and, Bool.or_eq_true, decide_eq_true_eq]
    omega
  · rw [if_neg a]
    refine M.i_f ?_ (M.i_grd (decide_eq_true (by omega)) (M.i_bind (spoilt_ends _) ?_))
    · by_cases e : dn.getD i 0 = -1
      · rw [e]; rfl
      · rw [show (dn.getD i 0 != -1) = true from bne_iff_ne.2 e]
        simp only [Bool.true_and, Bool.or_eq_false_iff, decide_eq_false_iff_not]
        omega
    · cases Wn.hok (tr.getD i default) with
      | true => exact M.i_f rfl M.i_pure
      | false => exact M.i_t rfl M.i_pure
theorem b1_ref (h12 : dn.length <= 12) (i : Nat) (hi : i < tw.length) : (zaU dn tw i).Ends (fsS i (Wn.ct dn.length tw i)) := by
  simp only [zaU]
  refine M.i_t (decide_eq_true (by omega)) (M.i_grd (decide_eq_true (by omega)) (M.i_bind (outside_ends _ _ _) (M.i_bind (M.i_optA (outside_ends _ _ _)) (M.i_bind (M.i_optA (outside_ends _ _ _)) ?_))))
  unfold Wn.ct Wn.tim Wn.sta
  by_cases a : decide (((0 : Int) <= (tw.getD i default).lead /\ (tw.getD i default).lead <= 1000) /\ 0 <= (tw.getD i default).alarm /\ (tw.getD i default).alarm <= 2000) = true /\ decide (0 <= (tw.getD i default).station /\ (tw.getD i default).station < (dn.length : Int)) = true
  · rw [if_pos a]
    simp only [decide_eq_true_eq] at a
    refine M.i_f ?_ M.i_pure
    simp only [Bool.or_eq_false_iff, Bool.and_eq_false_iff, Bool.and_eq_true, Bool.not_eq_true', decide_eq_false_iff_not, Bool.not_eq_false', Bool.or_eq_true, decide_eq_true_eq]
    omega
  · rw [if_neg a]
    simp only [decide_eq_true_eq] at a
    refine M.i_t ?_ M.i_pure
    rw [← Bool.not_eq_false]
    intro h
    apply a
    simp only [Bool.or_eq_false_iff, Bool.and_eq_false_iff, Bool.and_eq_true, Bool.not_eq_true', decide_eq_false_iff_not, Bool.not_eq_false', Bool.or_eq_true, decide_eq_true_eq] at h
    omega
theorem path_long (h : Wn.Dn dn) (h12 : dn.length <= 12) {s : Int} (hs : 0 <= s) (k11 : List Span) (k12 : List Int) (k13 : List Town) (k14 k15 : Int) (k16 : List Flood) :
    (zan (M.yl zas) (.inl 0) s dn k11 k12 k13 k14 k15 k16).Out (fun y => ∃ c, y.1 = .inl c /\ (s < (dn.length : Int) -> c = ((Wn.P dn s).length : Int))) := by
  by_cases e : s < (dn.length : Int)
  · have hst : Wn.Stn dn s := .inr ⟨hs, e⟩
    have hsh := Wn.P_short h hst
    refine M.o_mono (path_out (Q := fun x => x = (.inl ((Wn.P dn s).length : Int) : Int ⊕ Unit)) h h12 hst (fun k (c : Int) => c = (k : Int)) rfl ?_ ?_ _ _ _ _ _ _) (fun y hy => ⟨_, hy, fun _ => rfl⟩)
    · rintro k hk _ rfl
      simp only [zas]
      exact M.o_grd (gA2 (by omega) (by omega)) (M.o_pure (by omega))
    · rintro _ rfl
      rfl
  · unfold zan
    refine M.o_bindE (a := Sum.inr ((Sum.inl 0 : Int ⊕ Unit), s)) (M.i_stop ?_) ?_
    · simp only [za1]
      exact M.i_f (by rw [decide_eq_false e, Bool.and_false]) M.i_pure
    · exact M.o_pure ⟨0, rfl, fun h => absurd h e⟩
theorem refpath_ends (h : Wn.Dn dn) (h12 : dn.length <= 12) {s : Int} (hs : Wn.Stn dn s) (k11 : List Span) (k12 : List Int) (k13 : List Town) (k14 k15 : Int) (k16 : List Flood) : (zbB dn k11 k12 k13 k14 k15 k16 s).Ends (Wn.P dn s) := by
  refine M.Out.ends ?_
  unfold zbB
  have hsh := Wn.P_short h hs
  refine M.o_bind (P := fun y => y.2 = Wn.P dn s) (M.o_for (Wn.P dn s).length (fun i (t : Int × List Int) => t.2 = (Wn.P dn s).take i /\ Wn.P dn t.1 = (Wn.P dn s).drop i /\ Wn.Stn dn t.1) ?_ ?_ ⟨by rw [List.take_zero], by rw [List.drop_zero], hs⟩) (fun y hy => M.o_pure hy)
  · rintro i ⟨c, l⟩ hi ⟨e1, e2, e3⟩
    dsimp only at e1 e2 e3
    simp only [zbd]
    have hd : (Wn.P dn s).drop i = (Wn.P dn s)[i] :: (Wn.P dn s).drop (i + 1) := List.drop_eq_getElem_cons hi
    have hc : 0 <= c /\ c < dn.length := by
      rcases e3 with rfl | e3
      · rw [Wn.P_none, hd] at e2
        cases e2
      · exact e3
    rw [Wn.P_cons h hc.1 hc.2, hd] at e2
    obtain ⟨g1, g2⟩ := List.cons.inj e2
    have hx := h.next hc.1 hc.2
    refine M.o_t (bne_iff_ne.2 (by omega)) (M.o_grdD (by rw [e1]; simp; omega) (M.o_grd (gA2 hc.1 hc.2) (M.o_pure ⟨?_, g2, h.next_st hc.1 hc.2⟩)))
    dsimp only
    rw [e1, g1, ← List.take_succ_eq_append_getElem hi]
  · rintro ⟨c, l⟩ ⟨e1, e2, e3⟩
    dsimp only at e1 e2 e3
    simp only [zbd]
    rw [List.drop_length] at e2
    have hc : c = -1 := by
      rcases e3 with e3 | e3
      · exact e3
      · rw [Wn.P_cons h e3.1 e3.2] at e2
        cases e2
    subst hc
    refine M.o_f rfl (M.o_pure ?_)
    dsimp only
    rw [e1, List.take_length]
theorem b5_ref (i : Nat) : (M.iter (zaT sp fl i) (false, 0)).Ends ((fl.getD i default).spring, decide ((fl.getD i default).spring ∈ sp)) := by
  refine M.Out.ends ?_
  refine M.o_for sp.length (fun k (t : Bool × Nat) => t = (decide ((fl.getD i default).spring ∈ sp.take k), k)) ?_ ?_ (by simp)
  · rintro k _ hk rfl
    simp only [zaT]
    refine M.o_t (decide_eq_true (by omega)) (M.o_grd (gOr (by omega)) (M.o_pure ?_))
    rw [List.take_succ_eq_append_getElem hk, getD_el sp hk]
    congr 1
    rw [Bool.eq_iff_iff]
    simp only [Bool.or_eq_true, decide_eq_true_eq, beq_iff_eq, List.mem_append, List.mem_singleton]
    exact or_congr Iff.rfl ⟨Eq.symm, Eq.symm⟩
  · rintro _ rfl
    simp only [zaT]
    refine M.o_f (decide_eq_false (by omega)) (M.o_pure ?_)
    rw [List.take_length]
theorem b6_ref (i : Nat) : (M.iter (za3 fl i) 0).Ends (if (fl.getD i default).stages.all Wn.sok = true then .inr () else .inl ()) := by
  refine M.Out.ends ?_
  refine M.o_for (fl.getD i default).stages.length (fun k (t : Nat) => t = k /\ ∀ j, j < k -> Wn.sok ((fl.getD i default).stages.getD j 0) = true) ?_ ?_ ⟨rfl, fun j hj => by omega⟩
  · rintro _ k hk ⟨rfl, hp⟩
    simp only [za3]
    refine M.o_t (decide_eq_true (by omega)) (M.o_grdD (by omega) (M.o_bindE (outside_ends _ _ _) (M.o_if (fun hb => M.o_pure ?_) (fun hb => M.o_pure ⟨rfl, fun j hj => ?_⟩))))
    · rw [if_neg]
      intro h
      have := List.all_eq_true.1 h ((fl.getD i default).stages.getD k 0) (by rw [getD_el _ hk]; exact List.getElem_mem hk)
      unfold Wn.sok at this
      simp only [Bool.or_eq_true, Bool.and_eq_true, decide_eq_true_eq] at hb this
      omega
    · rcases Nat.lt_or_eq_of_le (Nat.le_of_lt_succ hj) with e | e
      · exact hp j e
      · subst e
        unfold Wn.sok
        simp only [Bool.or_eq_false_iff, decide_eq_false_iff_not] at hb
        exact gA2 (by omega) (by omega)
  · rintro _ ⟨rfl, hp⟩
    simp only [za3]
    refine M.o_f (decide_eq_false (by omega)) (M.o_pure ?_)
    rw [if_pos]
    rw [List.all_eq_true]
    intro x hx
    obtain ⟨j, hj, e⟩ := mem_getD hx 0
    rw [← e]
    exact hp j hj
theorem b3_own (h : Wn.Dn dn) (h12 : dn.length <= 12) (U : Wn.Up sp dn.length) (i : Nat) (hi : i < fl.length) : (zaD dn tr sp tw dl dh fl i).Ends (fsS i (Wn.c2 dn sp fl i)) := by
  simp only [zaD]
  have hp : (zap dn tr sp tw dl dh fl (max 0 (fl.getD i default).spring)).Ends (max 0 (fl.getD i default).spring, dl, dh) := M.i_pure
  obtain ⟨⟨x, q⟩, e1, c, e2, e3⟩ := path_long h h12 (show 0 <= max 0 (fl.getD i default).spring by omega) tr sp tw dl dh fl
  dsimp only at e2
  subst e2
  refine M.i_t (decide_eq_true (by omega)) (M.i_grd (decide_eq_true (by omega)) (M.i_bind hp (M.i_bind e1 ?_)))
  dsimp only
  refine M.i_bind (contains_ends _ _) ?_
  unfold Wn.c2
  by_cases a : (fl.getD i default).spring ∈ sp
  · have hs := U.si _ a
    rw [show max 0 (fl.getD i default).spring = (fl.getD i default).spring by omega] at e3
    have e3 := e3 hs.2
    subst e3
    rw [decide_eq_true a]
    by_cases b : (fl.getD i default).stages.length = (Wn.P dn (fl.getD i default).spring).length
    · rw [if_pos ⟨a, b⟩]
      refine M.i_f (by rw [b]; simp) (M.i_bind (every_ints _ _ Wn.sok fun t _ => stage_ends t) ?_)
      cases (fl.getD i default).stages.all Wn.sok with
      | true => exact M.i_f rfl M.i_pure
      | false => exact M.i_t rfl M.i_pure
    · rw [if_neg (fun h => b h.2)]
      refine M.i_t ?_ M.i_pure
      simp only [Bool.not_true, Bool.false_or, bne_iff_ne]
      omega
  · rw [if_neg (fun h => a h.1), decide_eq_false a]
    exact M.i_t rfl M.i_pure
theorem b8_ref (h : Wn.Dn dn) (h12 : dn.length <= 12) (U : Wn.Up sp dn.length) (i : Nat) (hi : i < fl.length) : (za5 dn tr sp tw dl dh fl i).Ends (fsS i (Wn.c2 dn sp fl i)) := by
  simp only [za5]
  refine M.i_t (decide_eq_true (by omega)) (M.i_grd (decide_eq_true (by omega)) (M.i_bind (b5_ref i) ?_))
  dsimp only
  unfold Wn.c2
  by_cases a : (fl.getD i default).spring ∈ sp
  · have hs := U.si _ a
    rw [decide_eq_true a]
    refine M.i_t rfl (M.i_bind (refpath_ends h h12 (.inr hs) _ _ _ _ _ _) ?_)
    by_cases b : (fl.getD i default).stages.length = (Wn.P dn (fl.getD i default).spring).length
    · rw [if_pos ⟨a, b⟩]
      refine M.i_f (by rw [b]; simp) (M.i_bind (b6_ref i) ?_)
      cases (fl.getD i default).stages.all Wn.sok with
      | true => exact M.i_pure
      | false => exact M.i_pure
    · rw [if_neg (fun h => b h.2)]
      refine M.i_t ?_ M.i_pure
      simp only [Bool.not_true, Bool.false_or, bne_iff_ne]
      omega
  · rw [if_neg (fun h => a h.1), decide_eq_false a]
    exact M.i_f rfl (M.i_t rfl M.i_pure)
theorem own_head {K : M Int} {e : Int} (L : (1 <= dn.length /\ dn.length <= 12) /\ tr.length = dn.length /\ (1 <= sp.length /\ sp.length <= 8) /\ tw.length <= 8 /\ fl.length <= 20) (h : K.Ends e) :
    (M.bind (zad (dn.length : Int) 1 12) fun r2 => M.bind (M.opt (!((!r2) || ((tr.length : Int) != (dn.length : Int)))) (zad (sp.length : Int) 1 8) false) fun r3 =>
      bif (((((!r2) || ((tr.length : Int) != (dn.length : Int))) || (!r3)) || (decide (8 < (tw.length : Int)))) || (decide (20 < (fl.length : Int)))) then M.pure 3 else K).Ends e := by
  refine M.i_bind (in_ends _ _ _) (M.i_bind (M.i_optA (in_ends _ _ _)) (M.i_f ?_ h))
  simp only [Bool.or_eq_false_iff, Bool.not_eq_false', Bool.and_eq_true, Bool.not_eq_true', decide_eq_true_eq, decide_eq_false_iff_not, bne_eq_false_iff_eq]
  omega
theorem ref_head {K : M Int} {e : Int} (L : (1 <= dn.length /\ dn.length <= 12) /\ tr.length = dn.length /\ (1 <= sp.length /\ sp.length <= 8) /\ tw.length <= 8 /\ fl.length <= 20) (h : K.Ends e) :
    (M.bind (zaf (dn.length : Int) 1 12) fun r2 => M.bind (M.opt (!(r2 || ((tr.length : Int) != (dn.length : Int)))) (zaf (sp.length : Int) 1 8) false) fun r3 =>
      bif ((((r2 || ((tr.length : Int) != (dn.length : Int))) || r3) || (decide (8 < (tw.length : Int)))) || (decide (20 < (fl.length : Int)))) then M.pure 3 else K).Ends e := by
  refine M.i_bind (outside_ends _ _ _) (M.i_bind (M.i_optA (outside_ends _ _ _)) (M.i_f ?_ h))
  simp only [Bool.or_eq_false_iff, Bool.and_eq_false_iff, Bool.and_eq_true, Bool.not_eq_true', Bool.not_eq_false', Bool.or_eq_true, decide_eq_true_eq, decide_eq_false_iff_not, bne_eq_false_iff_eq, bne_iff_ne]
  omega
/-- Both checks say the same, and what they let pass is right. -/
theorem checks (dn : List Int) (tr : List Span) (sp : List Int) (tw : List Town) (dl dh : Int) (fl : List Flood) :
    ∃ e, (zaE dn tr sp tw dl dh fl).Ends e /\ (zcb dn tr sp tw dl dh fl).Ends e /\ (e = 0 -> Wn.Rv dn tr sp tw dl dh fl) := by
  unfold zaE zcb
  by_cases L : (1 <= dn.length /\ dn.length <= 12) /\ tr.length = dn.length /\ (1 <= sp.length /\ sp.length <= 8) /\ tw.length <= 8 /\ fl.length <= 20
  case neg =>
    refine ⟨3, M.i_bind (in_ends _ _ _) (M.i_bind (M.i_optA (in_ends _ _ _)) (M.i_t ?_ M.i_pure)), M.i_bind (outside_ends _ _ _) (M.i_bind (M.i_optA (outside_ends _ _ _)) (M.i_t ?_ M.i_pure)), fun h => by omega⟩
    · rw [← Bool.not_eq_false]
      intro h
      apply L
      simp only [Bool.or_eq_false_iff, Bool.not_eq_false', Bool.and_eq_true, decide_eq_true_eq, decide_eq_false_iff_not, bne_eq_false_iff_eq] at h
      omega
    · rw [← Bool.not_eq_false]
      intro h
      apply L
      simp only [Bool.or_eq_false_iff, Bool.and_eq_false_iff, Bool.not_eq_false', Bool.or_eq_true, decide_eq_true_eq, decide_eq_false_iff_not, bne_eq_false_iff_eq, bne_iff_ne] at h
      omega
  have L' := L
  obtain ⟨⟨n1, n12⟩, tl, ⟨s1, s8⟩, t8, f20⟩ := L
  have g1 := M.i_fs dn.length (Wn.c1 dn tr) (b0_own n12 tl) (by simp only [zax]; exact M.i_f (decide_eq_false (by omega)) M.i_pure) dn.length 0 (by omega)
  have g2 := M.i_fs dn.length (Wn.c1 dn tr) (b0_ref n12 tl) (by simp only [zaV]; exact M.i_f (decide_eq_false (by omega)) M.i_pure) dn.length 0 (by omega)
  cases e1 : fs (Wn.c1 dn tr) dn.length 0 with
  | some x =>
    rw [e1] at g1 g2
    refine ⟨x, own_head L' (M.i_bind g1 M.i_pure), ref_head L' (M.i_bind g2 M.i_pure), fun h => ?_⟩
    obtain ⟨j, hj⟩ := fs_some e1
    unfold Wn.c1 at hj
    subst h
    split at hj
    · cases hj
    · split at hj <;> cases hj
  | none =>
  rw [e1] at g1 g2
  have c1 := fs_none e1
  have hnx : Wn.Dn dn := fun i hi => by
    have := c1 i (Nat.zero_le _) (by omega)
    unfold Wn.c1 at this
    split at this
    · cases this
    · omega
  have hhr : ∀ i, i < tr.length -> 0 <= (tr.getD i default).lo /\ (tr.getD i default).lo <= (tr.getD i default).hi /\ (tr.getD i default).hi <= 1000 := fun i hi => by
    have := c1 i (Nat.zero_le _) (by omega)
    unfold Wn.c1 at this
    split at this
    · cases this
    · split at this
      · rename_i h
        exact of_decide_eq_true h
      · cases this
  obtain ⟨r, r1, r2⟩ := rising_out (l := sp) (n := (dn.length : Int)) (by omega)
  obtain ⟨u, u1, u2⟩ := unlisted_out (l := sp) (n := (dn.length : Int)) (by omega) (by omega)
  by_cases U : Wn.Up sp (dn.length : Int)
  case neg =>
    have hr : r = false := by rw [← Bool.not_eq_true, r2]; exact U
    have hu : u = true := u2.2 U
    subst hr hu
    exact ⟨9, own_head L' (M.i_bind g1 (M.i_bind r1 (M.i_t rfl M.i_pure))), ref_head L' (M.i_bind g2 (M.i_bind u1 (M.i_t rfl M.i_pure))), fun h => by omega⟩
  have hr : r = true := r2.2 U
  have hu : u = false := by
    rw [← Bool.not_eq_true, u2]
    exact fun h => h U
  subst hr hu
  have t1 := every_towns tw (fun xqz => zaJ xqz) Wn.tim fun t _ => timely_ends t
  have t2 := every_towns tw (fun xqz => zaI xqz (dn.length : Int)) (Wn.sta dn.length) fun t _ => check1_ends n12 t
  have t3 := M.i_fs tw.length (Wn.ct dn.length tw) (b1_ref n12) (by simp only [zaU]; exact M.i_f (decide_eq_false (by omega)) M.i_pure) tw.length 0 (by omega)
  by_cases T : tw.all Wn.tim = true /\ tw.all (Wn.sta dn.length) = true
  case neg =>
    have e3 : fs (Wn.ct dn.length tw) tw.length 0 = some () := by
      cases e3 : fs (Wn.ct dn.length tw) tw.length 0 with
      | some x => rfl
      | none =>
        exfalso
        apply T
        have key : ∀ t ∈ tw, Wn.tim t = true /\ Wn.sta dn.length t = true := fun t ht => by
          obtain ⟨i, hi, rfl⟩ := mem_getD ht default
          have := fs_none e3 i (Nat.zero_le _) (by omega)
          unfold Wn.ct at this
          split at this
          · assumption
          · cases this
        exact ⟨List.all_eq_true.2 fun t ht => (key t ht).1, List.all_eq_true.2 fun t ht => (key t ht).2⟩
    rw [e3] at t3
    refine ⟨130, own_head L' (M.i_bind g1 (M.i_bind r1 (M.i_f rfl (M.i_bind t1 (M.i_bind (M.i_optA t2) (M.i_bind (M.i_optA (hours_ends _)) (M.i_t ?_ M.i_pure))))))), ref_head L' (M.i_bind g2 (M.i_bind u1 (M.i_f rfl (M.i_bind t3 M.i_pure)))), fun h => by omega⟩
    cases h1 : tw.all Wn.tim with
    | false => rfl
    | true =>
      cases h2 : tw.all (Wn.sta dn.length) with
      | false => rfl
      | true => exact absurd ⟨h1, h2⟩ T
  have e3 : fs (Wn.ct dn.length tw) tw.length 0 = none := by
    cases e3 : fs (Wn.ct dn.length tw) tw.length 0 with
    | none => rfl
    | some x =>
      exfalso
      suffices h : ∀ m i, i + m <= tw.length -> fs (Wn.ct dn.length tw) m i = none by
        rw [h tw.length 0 (by omega)] at e3
        cases e3
      intro m
      induction m with
      | zero => intro i _; rfl
      | succ m ih =>
        intro i hi
        have hm : tw.getD i default ∈ tw := by rw [getD_el tw (by omega)]; exact List.getElem_mem _
        have : Wn.ct dn.length tw i = none := by
          unfold Wn.ct
          rw [if_pos ⟨List.all_eq_true.1 T.1 _ hm, List.all_eq_true.1 T.2 _ hm⟩]
        unfold fs
        rw [this]
        exact ih (i + 1) (by omega)
  rw [e3] at t3
  by_cases D : Wn.hok ⟨dl, dh⟩ = true
  case neg =>
    have D' : Wn.hok ⟨dl, dh⟩ = false := by simpa using D
    have s3 := spoilt_ends ⟨dl, dh⟩
    rw [D'] at s3
    refine ⟨130, own_head L' (M.i_bind g1 (M.i_bind r1 (M.i_f rfl (M.i_bind t1 (M.i_bind (M.i_optA t2) (M.i_bind (M.i_optA (hours_ends _)) (M.i_t ?_ M.i_pure))))))), ref_head L' (M.i_bind g2 (M.i_bind u1 (M.i_f rfl (M.i_bind t3 (M.i_bind s3 (M.i_t rfl M.i_pure)))))), fun h => by omega⟩
    rw [T.1, T.2, D']
    rfl
  have s3 := spoilt_ends ⟨dl, dh⟩
  rw [D] at s3
  have g3 := M.i_fs fl.length (Wn.c2 dn sp fl) (b3_own (tr := tr) (tw := tw) (dl := dl) (dh := dh) hnx n12 U) (by simp only [zaD]; exact M.i_f (decide_eq_false (by omega)) M.i_pure) fl.length 0 (by omega)
  have g4 := M.i_fs fl.length (Wn.c2 dn sp fl) (b8_ref (tr := tr) (tw := tw) (dl := dl) (dh := dh) hnx n12 U) (by simp only [za5]; exact M.i_f (decide_eq_false (by omega)) M.i_pure) fl.length 0 (by omega)
  have cd : ((((!tw.all Wn.tim) || (!((!(!tw.all Wn.tim)) && tw.all (Wn.sta dn.length)))) || (!((!((!tw.all Wn.tim) || (!((!(!tw.all Wn.tim)) && tw.all (Wn.sta dn.length))))) && Wn.hok ⟨dl, dh⟩)))) = false := by
    rw [T.1, T.2, D]
    rfl
  cases e4 : fs (Wn.c2 dn sp fl) fl.length 0 with
  | some x =>
    rw [e4] at g3 g4
    refine ⟨x, own_head L' (M.i_bind g1 (M.i_bind r1 (M.i_f rfl (M.i_bind t1 (M.i_bind (M.i_optA t2) (M.i_bind (M.i_optA (hours_ends _)) (M.i_f cd (M.i_bind g3 M.i_pure)))))))), ref_head L' (M.i_bind g2 (M.i_bind u1 (M.i_f rfl (M.i_bind t3 (M.i_bind s3 (M.i_f rfl (M.i_bind g4 M.i_pure))))))), fun h => ?_⟩
    obtain ⟨j, hj⟩ := fs_some e4
    unfold Wn.c2 at hj
    subst h
    split at hj
    · split at hj <;> cases hj
    · cases hj
  | none =>
  rw [e4] at g3 g4
  have D := of_decide_eq_true D
  dsimp only at D
  refine ⟨0, own_head L' (M.i_bind g1 (M.i_bind r1 (M.i_f rfl (M.i_bind t1 (M.i_bind (M.i_optA t2) (M.i_bind (M.i_optA (hours_ends _)) (M.i_f cd (M.i_bind g3 M.i_pure)))))))), ref_head L' (M.i_bind g2 (M.i_bind u1 (M.i_f rfl (M.i_bind t3 (M.i_bind s3 (M.i_f rfl (M.i_bind g4 M.i_pure))))))), fun _ => ⟨n1, n12, hnx, tl, hhr, s1, s8, U.sr, U.si, t8, fun t ht => ?_, D.1, D.2.1, D.2.2, f20, fun f hf => ?_⟩⟩
  · have h1 := of_decide_eq_true (List.all_eq_true.1 T.1 t ht)
    have h2 := of_decide_eq_true (List.all_eq_true.1 T.2 t ht)
    exact ⟨h2, h1⟩
  · obtain ⟨i, hi, rfl⟩ := mem_getD hf default
    have := fs_none e4 i (Nat.zero_le _) (by omega)
    unfold Wn.c2 at this
    split at this
    · rename_i h
      split at this
      · rename_i h2
        refine ⟨h.1, h.2, fun x hx => ?_⟩
        have := List.all_eq_true.1 h2 x hx
        unfold Wn.sok at this
        simpa using this
      · cases this
    · cases this
end Go.Proofs.YtbaehghammbjdaaGreat
section
set_option maxRecDepth 100000
set_option maxHeartbeats 16000000
namespace Go.Proofs.YtbaehghammbjdaaGreat
open Go Go.Nm
def zaK (ac : List Int) (ae : List Span) (ag : List Int) (ah : List Town) (ai : Int) (aj : Int) (aa : List Flood) (watches : List Int) (flood : Int) : M (Int × Bool × Int) :=
  M.bind (zam ac ae ag ah ai aj aa watches) fun x_ => match x_ with
  | (.inl (r1, r2)) => (
  M.bind (M.opt (r2 == 0) (zad flood 0 ((aa.length : Int) - 1)) false) fun r3 =>
  bif ((r2 == 0) && (!r3)) then (
  M.pure (0, false, 2))
  else (
  bif r2 != 0 then (
  M.pure (0, false, r2))
  else (
  M.fail)))
  | (.inr (ak, am, ao, ab)) => (
  M.bind (M.opt (ab == 0) (zad flood 0 ((aa.length : Int) - 1)) false) fun r3 =>
  bif ((ab == 0) && (!r3)) then (
  M.pure (0, false, 2))
  else (
  bif ab != 0 then (
  M.fail)
  else (
  M.grd (decide ((0 : Int) <= flood) && decide (flood < (aa.length : Int))) <|
  M.bind (zak ac ae ag ah ak am aa (aa.getD (Int.toNat flood) default) ao) fun (r0, aq, ap) =>
  M.pure (r0, ap, 0))))
theorem zdf {R : List Chunk} {a7 : Cells} {ak : Value} {a8 : Cells} {am : Value} {ba : Cells} {ao : Value} {bc : Cells} {ap : Value} {bf : Cells} {ac : Value} {bg : Cells} {aJ : Value} (az : List Int) (aA : List Span) (aB : List Int) (aC : List Town) (au : Int) (av : Int) (ab : List Flood) (watches : List Int) (flood : Int) (aP : Reads R a7) (aQ : Sl a7 ak az) (aR : Reads R a8) (aS : Sl a8 am aA) (aT : Reads R ba) (aU : Sl ba ao aB) (aV : Reads R bc) (aW : Sl bc ap aC) (aF : Reads R bf) (ay : Sl bf ac ab) (bm : Reads R bg) (bn : Sl bg aJ watches) {r : (Int × Bool × Int)} (hM : (zaK az aA aB aC au av ab watches flood).Ends r) (w : World) (H : St w w [] R) : Ret Tryz.prog 11 #[.agg #[ak, am, ao, ap, I au, I av, ac], aJ, I flood] w fun v w' => ∃ (y0 : Int) (y1 : Bool) (y2 : Int), (y0, y1, y2) = r /\ v = .tuple #[I y0, B y1, I y2] /\ St w w' [] R := by
 refine ret_of_W Tryz.func11 rfl rfl rfl ?_
 refine W.seq ?_
 refine W.region rfl ?_
 refine t_box (v := .agg #[ak, am, ao, ap, I au, I av, ac]) (cs := [ak, am, ao, ap, I au, I av, ac]) H rfl rfl ?_
 intro ae bC H
 refine zA (I 0) rfl ?_
 refine zA (B false) rfl ?_
 refine zA (I 0) rfl ?_
 refine s_nil ?_
 refine W.seq ?_
 refine W.region rfl ?_
 refine s_val (x_ld (p := Pq ae) (v := .agg #[ak, am, ao, ap, I au, I av, ac]) rfl (ldb_ag (ds := [ak, am, ao, ap, I au, I av, ac]) Ag29 Sz29 (H.bl 0) rfl rfl)) ?_
 refine zM aJ rfl ?_
 obtain ⟨bD, bo, hM⟩ := M.e_bind hM
 refine s_call cf46 [.agg #[ak, am, ao, ap, I au, I av, ac], aJ] rfl (zcp az aA aB aC au av ab watches (aP.app _) aQ (aR.app _) aS (aT.app _) aU (aV.app _) aW (aF.app _) ay (bm.app _) bn bo _ (H.gt 1)) ?_
 rintro vq bE (⟨r1, r2, bp, hvq, aw, bq⟩ | ⟨aG, aH, ah, aa, ax, aK, bh, br, hvq, aw, aL⟩)
 ·subst bp
  subst vq
  try dsimp only at hM
  replace H := H.bk aw
  clear aw
  refine zM (.tuple #[.pointer none, .agg (encB r1).toArray, I r2]) rfl ?_
  refine zX [.pointer none, .agg (encB r1).toArray, I r2] (.pointer none) rfl rfl ?_
  refine zX [.pointer none, .agg (encB r1).toArray, I r2] (.agg (encB r1).toArray) rfl rfl ?_
  refine zX [.pointer none, .agg (encB r1).toArray, I r2] (I r2) rfl rfl ?_
  refine t_alloc (cs := encB (List.replicate 12 false)) H Al96 rfl ?_
  intro aD bF H
  have aX : (List.replicate 12 false).length = 12 := by simp
  refine zA (.pointer none) rfl ?_
  refine t_stArrA (k := 0) (b := aD) (l := List.replicate 12 false) (l' := r1) (L' := [cBlk aD (encB r1) 96, cBlk ae [ak, am, ao, ap, I au, I av, ac] 29]) H rfl rfl rfl Sz96 aX bq rfl ?_
  intro bG H
  refine zA (I r2) rfl ?_
  refine s_nil ?_
  refine W.seq ?_
  refine W.seq ?_
  refine W.region rfl ?_
  refine zM (I r2) rfl ?_
  refine zC r2 0 (r2 == 0) rfl rfl rfl ?_
  refine zM (B (r2 == 0)) rfl ?_
  refine g_val (r2 == 0) (gy_t rfl) (fun hg => x_mv (v := I flood) rfl) ?_
  refine g_val (r2 == 0) (gy_t rfl) (fun hg => x_fa (a := Pq ae) (v := Oq ae 6) rfl (fa_blk (o := 0) Fd29_5 Sz27)) ?_
  refine g_val (r2 == 0) (gy_t rfl) (fun hg => x_ld (p := Oq ae 6) (v := ac) (gd_of (c := r2 == 0) hg (Oq ae 6)) (ldb_sc Sc27 (H.bl 1) rfl)) ?_
  have bH := (ay).len_le
  refine g_val (r2 == 0) (gy_t rfl) (fun hg => x_lenS T27.und (gd_of (c := r2 == 0) hg (ac)) ay) ?_
  refine g_val (r2 == 0) (gy_t rfl) (fun hg => x_ari (a := (ab.length : Int)) (b := 1) (r := (ab.length : Int) - 1) (gd_of (c := r2 == 0) hg (I (ab.length : Int))) rfl rfl (by first | omega | (have aq := hg; simp at aq; omega))) ?_
  obtain ⟨r3, bt, hM⟩ := M.e_bind hM
  refine t_gcall (r2 == 0) (gy_t rfl) cf47 (B r3) (fun _ => [I flood, I 0, I ((ab.length : Int) - 1)]) (fun hg => lst3 (gd_of (c := r2 == 0) hg (I flood)) rfl (gd_of (c := r2 == 0) hg (I ((ab.length : Int) - 1)))) H (fun hg => (zaj flood 0 ((ab.length : Int) - 1) (M.e_opt bt hg) _ (H.give (A := []) rfl)).mono fun v_ w_ ⟨y_, ai, aY, H_⟩ => by subst ai; exact ⟨aY, H.via H_⟩) ?_
  intro bI H
  refine g_val (r2 == 0) (gy_t rfl) (fun hg => x_not (b := r3) (gd_of (c := r2 == 0) hg (B r3))) ?_
  refine s_val (x_pand (b := r2 == 0) (r := !r3) rfl (fun hb => gd_of (c := r2 == 0) (by first | exact hb | (rw [hb]; rfl) | simp_all) (B (!r3))) rfl) ?_
  refine s_nil ?_
  refine W.cond ((r2 == 0) && (!r3)) rfl (fun aZ => ?_) (fun aZ => ?_)
  ·replace hM := M.e_t hM aZ
   refine W.region rfl ?_
   refine zA (I 2) rfl ?_
   refine s_nil ?_
   refine W.seq ?_
   refine W.seq ?_
   refine W.region rfl ?_
   refine zM (I 2) rfl ?_
   refine zC 2 0 ((2 : Int) != 0) rfl rfl rfl ?_
   refine s_nil ?_
   refine W.cond ((2 : Int) != 0) rfl (fun bi => ?_) (fun bi => ?_)
   ·skip
    refine W.seq ?_
    refine W.region rfl ?_
    refine zM (I 2) rfl ?_
    refine zA (I 0) rfl ?_
    refine zA (B false) rfl ?_
    refine zA (I 2) rfl ?_
    refine s_nil ?_
    replace H := H.pk []
    refine W.ret ?_
    have ai := M.e_pure hM
    exact ⟨_, resE_tmp3 rfl, ⟨0, false, 2, ai, rfl, H⟩⟩
   skip
   exact absurd bi (by decide)
  replace hM := M.e_f hM aZ
  refine W.skip ?_
  refine W.seq ?_
  refine W.seq ?_
  refine W.region rfl ?_
  refine zM (I r2) rfl ?_
  refine zC r2 0 (r2 != 0) rfl rfl rfl ?_
  refine s_nil ?_
  refine W.cond (r2 != 0) rfl (fun aM => ?_) (fun aM => ?_)
  ·replace hM := M.e_t hM aM
   simp only [qy1, qy2, qy3, qy4, qy5, qy6, ne_eq, qy7] at aM
   refine W.seq ?_
   refine W.region rfl ?_
   refine zM (I r2) rfl ?_
   refine zA (I 0) rfl ?_
   refine zA (B false) rfl ?_
   refine zA (I r2) rfl ?_
   refine s_nil ?_
   replace H := H.pk []
   refine W.ret ?_
   have ai := M.e_pure hM
   exact ⟨_, resE_tmp3 rfl, ⟨0, false, r2, ai, rfl, H⟩⟩
  replace hM := M.e_f hM aM
  exact (M.e_fail hM).elim
 subst br
 subst vq
 try dsimp only at hM
 replace H := H.bk aw
 clear aw
 refine zM (.tuple #[Pq ax, .agg (encB ah).toArray, I aa]) rfl ?_
 refine zX [Pq ax, .agg (encB ah).toArray, I aa] (Pq ax) rfl rfl ?_
 refine zX [Pq ax, .agg (encB ah).toArray, I aa] (.agg (encB ah).toArray) rfl rfl ?_
 refine zX [Pq ax, .agg (encB ah).toArray, I aa] (I aa) rfl rfl ?_
 refine t_alloc (cs := encB (List.replicate 12 false)) H Al96 rfl ?_
 intro aD bJ H
 have aX : (List.replicate 12 false).length = 12 := by simp
 refine zA (Pq ax) rfl ?_
 refine t_stArrA (k := 0) (b := aD) (l := List.replicate 12 false) (l' := ah) (L' := [cBlk aD (encB ah) 96, cBlk ax [ak, am, ao, ap, I aG, I aH, ac, .map (some aK)] 111, cMem encDm aK bh (zaa az aA aB aC aG aH ab), cBlk ae [ak, am, ao, ap, I au, I av, ac] 29]) H rfl rfl rfl Sz96 aX aL rfl ?_
 intro bK H
 refine zA (I aa) rfl ?_
 refine s_nil ?_
 refine W.seq ?_
 refine W.seq ?_
 refine W.region rfl ?_
 refine zM (I aa) rfl ?_
 refine zC aa 0 (aa == 0) rfl rfl rfl ?_
 refine zM (B (aa == 0)) rfl ?_
 refine g_val (aa == 0) (gy_t rfl) (fun hg => x_mv (v := I flood) rfl) ?_
 refine g_val (aa == 0) (gy_t rfl) (fun hg => x_fa (a := Pq ae) (v := Oq ae 6) rfl (fa_blk (o := 0) Fd29_5 Sz27)) ?_
 refine g_val (aa == 0) (gy_t rfl) (fun hg => x_ld (p := Oq ae 6) (v := ac) (gd_of (c := aa == 0) hg (Oq ae 6)) (ldb_sc Sc27 (H.bl 3) rfl)) ?_
 have bL := (ay).len_le
 refine g_val (aa == 0) (gy_t rfl) (fun hg => x_lenS T27.und (gd_of (c := aa == 0) hg (ac)) ay) ?_
 refine g_val (aa == 0) (gy_t rfl) (fun hg => x_ari (a := (ab.length : Int)) (b := 1) (r := (ab.length : Int) - 1) (gd_of (c := aa == 0) hg (I (ab.length : Int))) rfl rfl (by first | omega | (have aq := hg; simp at aq; omega))) ?_
 obtain ⟨r3, bu, hM⟩ := M.e_bind hM
 refine t_gcall (aa == 0) (gy_t rfl) cf47 (B r3) (fun _ => [I flood, I 0, I ((ab.length : Int) - 1)]) (fun hg => lst3 (gd_of (c := aa == 0) hg (I flood)) rfl (gd_of (c := aa == 0) hg (I ((ab.length : Int) - 1)))) H (fun hg => (zaj flood 0 ((ab.length : Int) - 1) (M.e_opt bu hg) _ (H.give (A := []) rfl)).mono fun v_ w_ ⟨y_, ai, aY, H_⟩ => by subst ai; exact ⟨aY, H.via H_⟩) ?_
 intro bM H
 refine g_val (aa == 0) (gy_t rfl) (fun hg => x_not (b := r3) (gd_of (c := aa == 0) hg (B r3))) ?_
 refine s_val (x_pand (b := aa == 0) (r := !r3) rfl (fun hb => gd_of (c := aa == 0) (by first | exact hb | (rw [hb]; rfl) | simp_all) (B (!r3))) rfl) ?_
 refine s_nil ?_
 refine W.cond ((aa == 0) && (!r3)) rfl (fun a6 => ?_) (fun a6 => ?_)
 ·replace hM := M.e_t hM a6
  refine W.region rfl ?_
  refine zA (I 2) rfl ?_
  refine s_nil ?_
  refine W.seq ?_
  refine W.seq ?_
  refine W.region rfl ?_
  refine zM (I 2) rfl ?_
  refine zC 2 0 ((2 : Int) != 0) rfl rfl rfl ?_
  refine s_nil ?_
  refine W.cond ((2 : Int) != 0) rfl (fun bj => ?_) (fun bj => ?_)
  ·skip
   refine W.seq ?_
   refine W.region rfl ?_
   refine zM (I 2) rfl ?_
   refine zA (I 0) rfl ?_
   refine zA (B false) rfl ?_
   refine zA (I 2) rfl ?_
   refine s_nil ?_
   replace H := H.pk []
   refine W.ret ?_
   have ai := M.e_pure hM
   exact ⟨_, resE_tmp3 rfl, ⟨0, false, 2, ai, rfl, H⟩⟩
  skip
  exact absurd bj (by decide)
 replace hM := M.e_f hM a6
 refine W.skip ?_
 refine W.seq ?_
 refine W.seq ?_
 refine W.region rfl ?_
 refine zM (I aa) rfl ?_
 refine zC aa 0 (aa != 0) rfl rfl rfl ?_
 refine s_nil ?_
 refine W.cond (aa != 0) rfl (fun aN => ?_) (fun aN => ?_)
 ·replace hM := M.e_t hM aN
  exact (M.e_fail hM).elim
 replace hM := M.e_f hM aN
 simp only [qy1, qy2, qy3, qy4, qy5, qy6, ne_eq, qy7] at aN
 refine W.skip ?_
 refine W.seq ?_
 refine W.drawT (fun W => St w W [cBlk aD (encB ah) 96, cBlk ax [ak, am, ao, ap, I aG, I aH, ac, .map (some aK)] 111, cMem encDm aK bh (zaa az aA aB aC aG aH ab), cBlk ae [ak, am, ao, ap, I au, I av, ac] 29] R) (.q 0 (.q 1 (.q 2 (.q 3 (.q 4 (.q 5 (.q 6 (.l2 7 (.l 8 (.l 9 .nil)) 8 (.l 7 (.l 9 .nil)))))))))) mixed (by decide +kernel) rfl ?_
 intro bN aq
 replace H := H.ext aq
 clear aq
 refine ⟨(H.pk [0, 1, 2, 3]), ?_⟩
 refine t_q rfl (fun w' H => x_mv (v := Pq ax) rfl) ?_
 refine t_q rfl (fun w' H => x_fa (a := Pq ae) (v := Oq ae 6) rfl (fa_blk (o := 0) Fd29_5 Sz27)) ?_
 refine t_q rfl (fun w' H => x_ld (p := Oq ae 6) (v := ac) rfl (ldb_sc Sc27 (H.bl 3) rfl)) ?_
 refine t_q rfl (fun w' H => x_mv (v := I flood) rfl) ?_
 obtain ⟨bv, hM⟩ := M.e_grd hM
 simp only [Bool.and_eq_true, decide_eq_true_eq] at bv
 refine t_q rfl (fun w' H => x_ix (a := ac) (b := I flood) (v := vat ac 2 (Int.toNat flood)) rfl rfl (Sl.ix (α := Flood) T27.und T27.size ay (by omega) (by omega))) ?_
 obtain ⟨aO, bw, aI⟩ := Flood_atA ay (i := flood) (by omega) (by omega)
 replace aI : Sl _ aO (ab.getD (Int.toNat flood) default).stages := aI
 have bO := aI.len_le
 refine t_q rfl (fun w' H => x_ld (p := vat ac 2 (Int.toNat flood)) (v := .agg #[I ((ab.getD (Int.toNat flood) default).spring), aO]) rfl (ld_ag Ag85 Sz85 (At.mono bw (aF.at H)))) ?_
 refine t_q rfl (fun w' H => x_ld (p := Pq aD) (v := .agg (encB ah).toArray) rfl (ldArrA Ag96 Sz96 aL (H.bl 0))) ?_
 refine t_l2 rfl rfl ?_ ?_
 ·skip
  obtain ⟨bP, bx, hM⟩ := M.e_bind hM
  refine s_call cf48 [Pq ax, .agg #[I ((ab.getD (Int.toNat flood) default).spring), aO], .agg (encB ah).toArray] rfl (zaL az aA aB aC aG aH ab (ab.getD (Int.toNat flood) default) ah (aP.app _) aQ (aR.app _) aS (aT.app _) aU (aV.app _) aW (aF.app _) ay (Has.here (k := 1) rfl) (aF.app _) aI aL bx _ (H.gt 4)) ?_
  rintro vq bQ ⟨r0, aE, aj, bz, hvq, aw⟩
  subst bz
  subst vq
  try dsimp only at hM
  replace H := H.bk aw
  clear aw
  refine s_nil ⟨(H.pk [0, 1, 2, 3]), ?_⟩
  refine t_l rfl ?_
  refine t_alloc (cs := [I 0, I 0, B false]) H Al101 rfl ?_
  intro ag bR H
  refine s_nil ⟨(H.pk [1, 2, 3, 4]), ?_⟩
  refine t_l rfl ?_
  refine t_sw 0 0 [I r0, I aE, B aj] (.agg #[I r0, I aE, B aj]) H rfl rfl Sz101 rfl rfl rfl rfl ?_
  intro bS H
  refine s_nil ⟨(H.pk [1, 2, 3, 4]), ?_⟩
  refine t_nil ?_
  replace H := H.pk [0]
  refine W.seq ?_
  refine W.draw (fun W => St w W [cBlk ag [I r0, I aE, B aj] 101] R) [(0, true), (1, true), (2, true), (3, true), (4, true), (5, true), (6, true)] mixed (by decide +kernel) rfl ?_
  intro bT aq
  replace H := H.ext aq
  clear aq
  refine ⟨(H.pk [0]), ?_⟩
  refine d_q rfl (fun w' H => x_fa (a := Pq ag) (v := Pq ag) rfl (fa_blk (o := 0) Fd101_0 Sz3)) ?_
  refine d_q rfl (fun w' H => x_ld (p := Pq ag) (v := I r0) rfl (ldb_sc Sc3 (H.bl 0) rfl)) ?_
  refine d_q rfl (fun w' H => x_fa (a := Pq ag) (v := Oq ag 2) rfl (fa_blk (o := 0) Fd101_2 Sz4)) ?_
  refine d_q rfl (fun w' H => x_ld (p := Oq ag 2) (v := B aj) rfl (ldb_sc Sc4 (H.bl 0) rfl)) ?_
  refine d_q rfl (fun w' H => x_as (v := I r0) rfl) ?_
  refine d_q rfl (fun w' H => x_as (v := B aj) rfl) ?_
  refine d_q rfl (fun w' H => x_as (v := I 0) rfl) ?_
  refine d_nil ?_
  refine W.ret ?_
  have ai := M.e_pure hM
  exact ⟨_, resE_tmp3 rfl, ⟨r0, aj, 0, ai, rfl, (H.pk [])⟩⟩
 skip
 refine t_alloc (cs := [I 0, I 0, B false]) H Al101 rfl ?_
 intro ag bU H
 refine s_nil ⟨(H.pk [1, 2, 3, 4]), ?_⟩
 refine t_l rfl ?_
 obtain ⟨bV, bA, hM⟩ := M.e_bind hM
 refine s_call cf48 [Pq ax, .agg #[I ((ab.getD (Int.toNat flood) default).spring), aO], .agg (encB ah).toArray] rfl (zaL az aA aB aC aG aH ab (ab.getD (Int.toNat flood) default) ah (aP.app _) aQ (aR.app _) aS (aT.app _) aU (aV.app _) aW (aF.app _) ay (Has.here (k := 2) rfl) (aF.app _) aI aL bA _ (H.gt 5)) ?_
 rintro vq bW ⟨r0, aE, aj, bB, hvq, aw⟩
 subst bB
 subst vq
 try dsimp only at hM
 replace H := H.bk aw
 clear aw
 refine s_nil ⟨(H.pk [1, 2, 3, 4]), ?_⟩
 refine t_l rfl ?_
 refine t_sw 0 0 [I r0, I aE, B aj] (.agg #[I r0, I aE, B aj]) H rfl rfl Sz101 rfl rfl rfl rfl ?_
 intro bX H
 refine s_nil ⟨(H.pk [1, 2, 3, 4]), ?_⟩
 refine t_nil ?_
 replace H := H.pk [0]
 refine W.seq ?_
 refine W.draw (fun W => St w W [cBlk ag [I r0, I aE, B aj] 101] R) [(0, true), (1, true), (2, true), (3, true), (4, true), (5, true), (6, true)] mixed (by decide +kernel) rfl ?_
 intro bY aq
 replace H := H.ext aq
 clear aq
 refine ⟨(H.pk [0]), ?_⟩
 refine d_q rfl (fun w' H => x_fa (a := Pq ag) (v := Pq ag) rfl (fa_blk (o := 0) Fd101_0 Sz3)) ?_
 refine d_q rfl (fun w' H => x_ld (p := Pq ag) (v := I r0) rfl (ldb_sc Sc3 (H.bl 0) rfl)) ?_
 refine d_q rfl (fun w' H => x_fa (a := Pq ag) (v := Oq ag 2) rfl (fa_blk (o := 0) Fd101_2 Sz4)) ?_
 refine d_q rfl (fun w' H => x_ld (p := Oq ag 2) (v := B aj) rfl (ldb_sc Sc4 (H.bl 0) rfl)) ?_
 refine d_q rfl (fun w' H => x_as (v := I r0) rfl) ?_
 refine d_q rfl (fun w' H => x_as (v := B aj) rfl) ?_
 refine d_q rfl (fun w' H => x_as (v := I 0) rfl) ?_
 refine d_nil ?_
 refine W.ret ?_
 have ai := M.e_pure hM
 exact ⟨_, resE_tmp3 rfl, ⟨r0, aj, 0, ai, rfl, (H.pk [])⟩⟩

def zbv (ac : List Int) (ae : List Span) (aa : List Int) (ab : List Town) (ag : Int) (ah : Int) (ai : List Flood) (i : Nat) : (Nat × (List Dem)) -> M ((Nat × (List Dem)) ⊕ ((List Dem) × (List Dem))) := fun (k, l4) =>
  bif decide ((k : Int) < (ab.length : Int)) then (
  M.grd (decide ((i : Int) < (aa.length : Int))) <|
  M.grd (decide ((k : Int) < (ab.length : Int))) <|
  M.bind (za9 ac ae aa ab ag ah ai (aa.getD i 0) ((ab.getD k default).station)) fun (aj, ak, r1) =>
  bif r1 then (
  M.grd (decide ((l4.length + ([(⟨(aa.getD i 0 : Int), (k : Int)⟩ : Dem)]).length) * 16 <= 140737488355328)) <|
  M.pure (.inl (k + 1, l4 ++ ([(⟨(aa.getD i 0 : Int), (k : Int)⟩ : Dem)]))))
  else (
  M.pure (.inl (k + 1, l4))))
  else (
  M.pure (.inr (l4, l4)))
def zbD (ab : List Int) (ac : List Span) (aa : List Int) (ae : List Town) (ag : Int) (ah : Int) (ai : List Flood) : (Nat × (List Dem)) -> M ((Nat × (List Dem)) ⊕ ((List Dem) × (List Dem))) := fun (i, l6) =>
  bif decide ((i : Int) < (aa.length : Int)) then (
  M.bind (M.iter (zbv ab ac aa ae ag ah ai i) (0, l6)) fun (l2, l5) =>
  M.pure (.inl (i + 1, l5)))
  else (
  M.pure (.inr (l6, l6)))
def zbW (aa : List Int) (ab : List Span) (ac : List Int) (ae : List Town) (ag : Int) (ah : Int) (ai : List Flood) : M (List Dem) :=
  M.bind (M.iter (zbD aa ab ac ae ag ah ai) (0, [])) fun (l7, l8) =>
  M.pure l8
theorem zdD {R : List Chunk} {aM : Cells} {am : Value} {aN : Cells} {ao : Value} {aO : Cells} {ab : Value} {aP : Cells} {ae : Value} {aQ : Cells} {ap : Value} (ax : List Int) (ay : List Span) (aa : List Int) (ai : List Town) (ag : Int) (ah : Int) (az : List Flood) (aR : Reads R aM) (aS : Sl aM am ax) (aT : Reads R aN) (aU : Sl aN ao ay) (aA : Reads R aO) (aq : Sl aO ab aa) (aH : Reads R aP) (av : Sl aP ae ai) (aV : Reads R aQ) (aW : Sl aQ ap az) {r : (List Dem)} (hM : (zbW ax ay aa ai ag ah az).Ends r) (w : World) (H : St w w [] R) : Ret Tryz.prog 78 #[.agg #[am, ao, ab, ae, I ag, I ah, ap]] w fun v w' => ∃ (y0 : List Dem) (u0 : Value), y0 = r /\ v = u0 /\ St w w' [cOwn (α := Dem) 70 u0 y0] R := by
 refine ret_of_W Tryz.func78 rfl rfl rfl ?_
 refine W.seq ?_
 refine W.region rfl ?_
 refine t_box (v := .agg #[am, ao, ab, ae, I ag, I ah, ap]) (cs := [am, ao, ab, ae, I ag, I ah, ap]) H rfl rfl ?_
 intro ac bC H
 refine zA (.slice none 0 0) rfl ?_
 refine s_nil ?_
 refine W.seq ?_
 refine W.region rfl ?_
 refine zA (.slice none 0 0) rfl ?_
 refine s_nil ?_
 refine W.seq ?_
 refine W.seq ?_
 refine W.region rfl ?_
 refine zA (I 0) rfl ?_
 refine s_nil ?_
 refine W.block ?_
 replace H := H.nilOwn (α := Dem) 70
 obtain ⟨ba, aI, bc⟩ := M.e_bind hM
 obtain ⟨bf, aI⟩ := M.e_iter aI
 refine W.loop (fun m σ W => ∃ (i : Nat) (l6 : List Dem) (aw : Value) (ρ : Env), σ = upds ρ [(1, Pq ac), (3, aw), (4, I (i : Int))] /\ M.iterN (zbD ax ay aa ai ag ah az) m (i, l6) = some ba /\ St w W [cOwn (α := Dem) 70 aw l6, cBlk ac [am, ao, ab, ae, I ag, I ah, ap] 37] R) ?_ ?_
 ·exact ⟨_, 0, [], (.slice none 0 0), _, upds_of _ _ ⟨rfl, rfl, rfl, trivial⟩, aI, H⟩
 rintro bD σ bE ⟨i, l6, aw, ρ, rfl, aX, H⟩
 obtain ⟨bg, bh, bF, hM, aY⟩ := M.e_iterN aX
 simp only [zbD] at hM
 clear aX
 refine W.seq ?_
 refine W.seq ?_
 refine W.region rfl ?_
 refine zM (I (i : Int)) rfl ?_
 refine s_val (x_fa (a := Pq ac) (v := Oq ac 2) rfl (fa_blk (o := 0) Fd37_2 Sz22)) ?_
 refine s_val (x_ld (p := Oq ac 2) (v := ab) rfl (ldb_sc Sc22 (H.bl 1) rfl)) ?_
 have bG := (aq).len_le
 refine s_val (x_lenS T22.und rfl aq) ?_
 refine zC (i : Int) (aa.length : Int) (decide ((i : Int) < (aa.length : Int))) rfl rfl rfl ?_
 refine s_nil ?_
 refine W.cond (decide ((i : Int) < (aa.length : Int))) rfl (fun aB => ?_) (fun aB => ?_)
 ·replace hM := M.e_t hM aB
  simp only [qy1, qy2, qy3, qy4, qy5, qy6, ne_eq, qy7] at aB
  refine W.skip ?_
  refine W.seq ?_
  refine W.block ?_
  refine W.seq ?_
  refine W.region rfl ?_
  refine zA (I 0) rfl ?_
  refine s_nil ?_
  refine W.block ?_
  obtain ⟨bi, aJ, bj⟩ := M.e_bind hM
  obtain ⟨bf, aJ⟩ := M.e_iter aJ
  refine W.loop (fun m σ W => ∃ (k : Nat) (l4 : List Dem) (au : Value) (ρ : Env), σ = upds ρ [(1, Pq ac), (3, au), (4, I (i : Int)), (5, I (k : Int))] /\ M.iterN (zbv ax ay aa ai ag ah az i) m (k, l4) = some bi /\ St w W [cOwn (α := Dem) 70 au l4, cBlk ac [am, ao, ab, ae, I ag, I ah, ap] 37] R) ?_ ?_
  ·exact ⟨_, 0, l6, aw, _, upds_of _ _ ⟨rfl, rfl, rfl, rfl, trivial⟩, aJ, H⟩
  rintro bH σ bI ⟨k, l4, au, ρ, rfl, aZ, H⟩
  obtain ⟨aF, aG, bJ, hM, aC⟩ := M.e_iterN aZ
  simp only [zbv] at hM
  clear aZ
  refine W.seq ?_
  refine W.seq ?_
  refine W.region rfl ?_
  refine zM (I (k : Int)) rfl ?_
  refine s_val (x_fa (a := Pq ac) (v := Oq ac 3) rfl (fa_blk (o := 0) Fd37_3 Sz34)) ?_
  refine s_val (x_ld (p := Oq ac 3) (v := ae) rfl (ldb_sc Sc34 (H.bl 1) rfl)) ?_
  have bK := (av).len_le
  refine s_val (x_lenS T34.und rfl av) ?_
  refine zC (k : Int) (ai.length : Int) (decide ((k : Int) < (ai.length : Int))) rfl rfl rfl ?_
  refine s_nil ?_
  refine W.cond (decide ((k : Int) < (ai.length : Int))) rfl (fun aD => ?_) (fun aD => ?_)
  ·replace hM := M.e_t hM aD
   simp only [qy1, qy2, qy3, qy4, qy5, qy6, ne_eq, qy7] at aD
   refine W.skip ?_
   refine W.seq ?_
   refine W.block ?_
   refine W.seq ?_
   refine W.drawT (fun W => St w W [cOwn (α := Dem) 70 au l4, cBlk ac [am, ao, ab, ae, I ag, I ah, ap] 37] R) (.q 0 (.q 1 (.q 2 (.q 3 (.q 4 (.q 5 (.q 6 (.q 7 (.q 8 (.q 9 (.q 10 (.q 11 (.l2 12 (.q 13 (.q 14 (.q 15 (.l 16 (.l 17 (.q 18 .nil)))))) 16 (.l 12 (.q 13 (.q 14 (.q 15 (.l 17 (.q 18 .nil))))))))))))))))))) mixed (by decide +kernel) rfl ?_
   intro bL a6
   replace H := H.ext a6
   clear a6
   refine ⟨(H.pk [0, 1]), ?_⟩
   refine t_q rfl (fun w' H => x_ld (p := Pq ac) (v := .agg #[am, ao, ab, ae, I ag, I ah, ap]) rfl (ldb_ag (ds := [am, ao, ab, ae, I ag, I ah, ap]) Ag37 Sz37 (H.bl 1) rfl rfl)) ?_
   refine t_q rfl (fun w' H => x_fa (a := Pq ac) (v := Oq ac 2) rfl (fa_blk (o := 0) Fd37_2 Sz22)) ?_
   refine t_q rfl (fun w' H => x_ld (p := Oq ac 2) (v := ab) rfl (ldb_sc Sc22 (H.bl 1) rfl)) ?_
   refine t_q rfl (fun w' H => x_mv (v := I (i : Int)) rfl) ?_
   obtain ⟨bm, hM⟩ := M.e_grd hM
   simp only [Bool.and_eq_true, decide_eq_true_eq] at bm
   refine t_q rfl (fun w' H => x_ix (a := ab) (b := I (i : Int)) (v := vat ab 1 (Int.toNat (i : Int))) rfl rfl (Sl.ix (α := Int) T22.und T22.size aq (by omega) (by omega))) ?_
   refine t_q rfl (fun w' H => x_ld (p := vat ab 1 (Int.toNat (i : Int))) (v := I (aa.getD i 0)) rfl (ld_sc Sc3 (At.mono (Int_at aq (i := (i : Int)) (by omega) (by omega)) (aA.at H)))) ?_
   refine t_q rfl (fun w' H => x_fa (a := Pq ac) (v := Oq ac 3) rfl (fa_blk (o := 0) Fd37_3 Sz34)) ?_
   refine t_q rfl (fun w' H => x_ld (p := Oq ac 3) (v := ae) rfl (ldb_sc Sc34 (H.bl 1) rfl)) ?_
   refine t_q rfl (fun w' H => x_mv (v := I (k : Int)) rfl) ?_
   obtain ⟨bn, hM⟩ := M.e_grd hM
   simp only [Bool.and_eq_true, decide_eq_true_eq] at bn
   refine t_q rfl (fun w' H => x_ix (a := ae) (b := I (k : Int)) (v := vat ae 3 (Int.toNat (k : Int))) rfl rfl (Sl.ix (α := Town) T34.und T34.size av (by omega) (by omega))) ?_
   refine t_q rfl (fun w' H => x_fa (a := vat ae 3 (Int.toNat (k : Int))) (v := fat (vat ae 3 (Int.toNat (k : Int))) 0) rfl (fa_pl Fd92_0 Sz3 (Sl.pl (i := (k : Int)) av (by omega) (by omega)))) ?_
   refine t_q rfl (fun w' H => x_ld (p := fat (vat ae 3 (Int.toNat (k : Int))) 0) (v := I ((ai.getD k default).station)) rfl (ld_sc Sc3 (At.mono (Town_at0 av (i := (k : Int)) (by omega) (by omega)) (aH.at H)))) ?_
   refine t_l2 rfl rfl ?_ ?_
   ·skip
    obtain ⟨bM, bo, hM⟩ := M.e_bind hM
    refine s_call cf75 [.agg #[am, ao, ab, ae, I ag, I ah, ap], I (aa.getD i 0), I ((ai.getD k default).station)] rfl (zby ax ay aa ai ag ah az (aa.getD i 0) ((ai.getD k default).station) (aR.app _) aS (aT.app _) aU (aA.app _) aq (aH.app _) av (aV.app _) aW bo _ (H.gt 2)) ?_
    rintro vq bN ⟨aj, ak, r1, bp, hvq, aE⟩
    subst bp
    subst vq
    try dsimp only at hM
    replace H := H.bk aE
    clear aE
    refine s_nil ⟨(H.pk [0, 1]), ?_⟩
    refine t_q rfl (fun w' H => x_mv (v := .tuple #[.agg #[I aj, I ak], B r1]) rfl) ?_
    refine t_q rfl (fun w' H => x_ext (vs := [.agg #[I aj, I ak], B r1]) (v := .agg #[I aj, I ak]) rfl rfl) ?_
    refine t_q rfl (fun w' H => x_ext (vs := [.agg #[I aj, I ak], B r1]) (v := B r1) rfl rfl) ?_
    refine t_l rfl ?_
    refine t_alloc (cs := [I 0, I 0]) H Al26 rfl ?_
    intro bq bO H
    refine s_nil ⟨(H.pk [1, 2]), ?_⟩
    refine t_l rfl ?_
    refine t_sw 0 0 [I aj, I ak] (.agg #[I aj, I ak]) H rfl rfl Sz26 rfl rfl rfl rfl ?_
    intro bP H
    refine s_nil ⟨(H.pk [1, 2]), ?_⟩
    refine t_q rfl (fun w' H => x_as (v := B r1) rfl) ?_
    refine t_nil ?_
    refine W.seq ?_
    refine W.region rfl ?_
    refine zM (B r1) rfl ?_
    refine s_nil ?_
    refine W.cond r1 rfl (fun aK => ?_) (fun aK => ?_)
    ·replace hM := M.e_t hM aK
     refine W.region rfl ?_
     refine zM au rfl ?_
     refine s_val (x_fa (a := Pq ac) (v := Oq ac 2) rfl (fa_blk (o := 0) Fd37_2 Sz22)) ?_
     refine s_val (x_ld (p := Oq ac 2) (v := ab) rfl (ldb_sc Sc22 (H.bl 2) rfl)) ?_
     refine zM (I (i : Int)) rfl ?_
     refine s_val (x_ix (a := ab) (b := I (i : Int)) (v := vat ab 1 (Int.toNat (i : Int))) rfl rfl (Sl.ix (α := Int) T22.und T22.size aq (by omega) (by omega))) ?_
     refine s_val (x_ld (p := vat ab 1 (Int.toNat (i : Int))) (v := I (aa.getD i 0)) rfl (ld_sc Sc3 (At.mono (Int_at aq (i := (i : Int)) (by omega) (by omega)) (aA.at H)))) ?_
     refine zM (I (k : Int)) rfl ?_
     refine s_val (x_bld (ps := [(0, I (aa.getD i 0)), (1, I (k : Int))]) (zs := [I 0, I 0]) (L' := [I (aa.getD i 0), I (k : Int)]) rfl Tryz.underlying70 Al70 rfl (Bd70 Tryz.underlying70) (.cons (cs := [I (aa.getD i 0)]) rfl rfl rfl rfl rfl <| .cons (cs := [I (k : Int)]) rfl rfl rfl rfl rfl <| .nil)) ?_
     refine t_bs (α := Dem) T66 [.agg #[I (aa.getD i 0), I (k : Int)]] [(⟨(aa.getD i 0 : Int), (k : Int)⟩ : Dem)] H rfl (.cons rfl (Flat.rep_enc _ (⟨(aa.getD i 0 : Int), (k : Int)⟩ : Dem)) <| .nil) rfl rfl rfl ?_
     intro br bQ H
     obtain ⟨bt, hM⟩ := M.e_grd hM
     simp only [Bool.and_eq_true, decide_eq_true_eq] at bt
     refine t_app (α := Dem) (k := 2) (l := l4) (l2 := [(⟨(aa.getD i 0 : Int), (k : Int)⟩ : Dem)]) (l' := l4 ++ ([(⟨(aa.getD i 0 : Int), (k : Int)⟩ : Dem)])) (vy := br) T66 rfl H rfl rfl rfl (H.os 0) (H.ol 0) (rfl) (by first | omega | (simp only [List.length_nil] at *; omega)) ?_
     intro a7 bR H
     replace H := H.nf
     refine zA a7 rfl ?_
     refine s_nil ?_
     replace H := H.pk [2, 3]
     refine W.region rfl ?_
     refine zM (I (k : Int)) rfl ?_
     refine zR (k : Int) 1 ((k : Int) + 1) rfl rfl rfl (by omega) ?_
     refine zA (I ((k : Int) + 1)) rfl ?_
     refine s_nil ?_
     exact ⟨aF, aG, k + 1, l4 ++ ([(⟨(aa.getD i 0 : Int), (k : Int)⟩ : Dem)]), a7, _, upds_of _ _ ⟨rfl, rfl, rfl, rfl, trivial⟩, M.e_inl hM aC, H⟩
    replace hM := M.e_f hM aK
    refine W.skip ?_
    refine W.region rfl ?_
    refine zM (I (k : Int)) rfl ?_
    refine zR (k : Int) 1 ((k : Int) + 1) rfl rfl rfl (by omega) ?_
    refine zA (I ((k : Int) + 1)) rfl ?_
    refine s_nil ?_
    exact ⟨aF, aG, k + 1, l4, au, _, upds_of _ _ ⟨rfl, rfl, rfl, rfl, trivial⟩, M.e_inl hM aC, (H.pk [1, 2])⟩
   skip
   refine t_alloc (cs := [I 0, I 0]) H Al26 rfl ?_
   intro bq bS H
   refine s_nil ⟨(H.pk [1, 2]), ?_⟩
   refine t_l rfl ?_
   obtain ⟨bT, bu, hM⟩ := M.e_bind hM
   refine s_call cf75 [.agg #[am, ao, ab, ae, I ag, I ah, ap], I (aa.getD i 0), I ((ai.getD k default).station)] rfl (zby ax ay aa ai ag ah az (aa.getD i 0) ((ai.getD k default).station) (aR.app _) aS (aT.app _) aU (aA.app _) aq (aH.app _) av (aV.app _) aW bu _ (H.gt 3)) ?_
   rintro vq bU ⟨aj, ak, r1, bv, hvq, aE⟩
   subst bv
   subst vq
   try dsimp only at hM
   replace H := H.bk aE
   clear aE
   refine s_nil ⟨(H.pk [1, 2]), ?_⟩
   refine t_q rfl (fun w' H => x_mv (v := .tuple #[.agg #[I aj, I ak], B r1]) rfl) ?_
   refine t_q rfl (fun w' H => x_ext (vs := [.agg #[I aj, I ak], B r1]) (v := .agg #[I aj, I ak]) rfl rfl) ?_
   refine t_q rfl (fun w' H => x_ext (vs := [.agg #[I aj, I ak], B r1]) (v := B r1) rfl rfl) ?_
   refine t_l rfl ?_
   refine t_sw 0 0 [I aj, I ak] (.agg #[I aj, I ak]) H rfl rfl Sz26 rfl rfl rfl rfl ?_
   intro bV H
   refine s_nil ⟨(H.pk [1, 2]), ?_⟩
   refine t_q rfl (fun w' H => x_as (v := B r1) rfl) ?_
   refine t_nil ?_
   refine W.seq ?_
   refine W.region rfl ?_
   refine zM (B r1) rfl ?_
   refine s_nil ?_
   refine W.cond r1 rfl (fun aL => ?_) (fun aL => ?_)
   ·replace hM := M.e_t hM aL
    refine W.region rfl ?_
    refine zM au rfl ?_
    refine s_val (x_fa (a := Pq ac) (v := Oq ac 2) rfl (fa_blk (o := 0) Fd37_2 Sz22)) ?_
    refine s_val (x_ld (p := Oq ac 2) (v := ab) rfl (ldb_sc Sc22 (H.bl 2) rfl)) ?_
    refine zM (I (i : Int)) rfl ?_
    refine s_val (x_ix (a := ab) (b := I (i : Int)) (v := vat ab 1 (Int.toNat (i : Int))) rfl rfl (Sl.ix (α := Int) T22.und T22.size aq (by omega) (by omega))) ?_
    refine s_val (x_ld (p := vat ab 1 (Int.toNat (i : Int))) (v := I (aa.getD i 0)) rfl (ld_sc Sc3 (At.mono (Int_at aq (i := (i : Int)) (by omega) (by omega)) (aA.at H)))) ?_
    refine zM (I (k : Int)) rfl ?_
    refine s_val (x_bld (ps := [(0, I (aa.getD i 0)), (1, I (k : Int))]) (zs := [I 0, I 0]) (L' := [I (aa.getD i 0), I (k : Int)]) rfl Tryz.underlying70 Al70 rfl (Bd70 Tryz.underlying70) (.cons (cs := [I (aa.getD i 0)]) rfl rfl rfl rfl rfl <| .cons (cs := [I (k : Int)]) rfl rfl rfl rfl rfl <| .nil)) ?_
    refine t_bs (α := Dem) T66 [.agg #[I (aa.getD i 0), I (k : Int)]] [(⟨(aa.getD i 0 : Int), (k : Int)⟩ : Dem)] H rfl (.cons rfl (Flat.rep_enc _ (⟨(aa.getD i 0 : Int), (k : Int)⟩ : Dem)) <| .nil) rfl rfl rfl ?_
    intro bw bW H
    obtain ⟨bx, hM⟩ := M.e_grd hM
    simp only [Bool.and_eq_true, decide_eq_true_eq] at bx
    refine t_app (α := Dem) (k := 2) (l := l4) (l2 := [(⟨(aa.getD i 0 : Int), (k : Int)⟩ : Dem)]) (l' := l4 ++ ([(⟨(aa.getD i 0 : Int), (k : Int)⟩ : Dem)])) (vy := bw) T66 rfl H rfl rfl rfl (H.os 0) (H.ol 0) (rfl) (by first | omega | (simp only [List.length_nil] at *; omega)) ?_
    intro a8 bX H
    replace H := H.nf
    refine zA a8 rfl ?_
    refine s_nil ?_
    replace H := H.pk [2, 3]
    refine W.region rfl ?_
    refine zM (I (k : Int)) rfl ?_
    refine zR (k : Int) 1 ((k : Int) + 1) rfl rfl rfl (by omega) ?_
    refine zA (I ((k : Int) + 1)) rfl ?_
    refine s_nil ?_
    exact ⟨aF, aG, k + 1, l4 ++ ([(⟨(aa.getD i 0 : Int), (k : Int)⟩ : Dem)]), a8, _, upds_of _ _ ⟨rfl, rfl, rfl, rfl, trivial⟩, M.e_inl hM aC, H⟩
   replace hM := M.e_f hM aL
   refine W.skip ?_
   refine W.region rfl ?_
   refine zM (I (k : Int)) rfl ?_
   refine zR (k : Int) 1 ((k : Int) + 1) rfl rfl rfl (by omega) ?_
   refine zA (I ((k : Int) + 1)) rfl ?_
   refine s_nil ?_
   exact ⟨aF, aG, k + 1, l4, au, _, upds_of _ _ ⟨rfl, rfl, rfl, rfl, trivial⟩, M.e_inl hM aC, (H.pk [1, 2])⟩
  replace hM := M.e_f hM aD
  simp only [qy1, qy2, qy3, qy4, qy5, qy6, ne_eq, qy7] at aD
  refine W.exit ?_
  have bz := M.e_inr hM aC
  subst bz
  replace hM := bj
  try dsimp only at hM
  refine W.region rfl ?_
  refine zM (I (i : Int)) rfl ?_
  refine zR (i : Int) 1 ((i : Int) + 1) rfl rfl rfl (by omega) ?_
  refine zA (I ((i : Int) + 1)) rfl ?_
  refine s_nil ?_
  exact ⟨bg, bh, i + 1, l4, au, _, upds_of _ _ ⟨rfl, rfl, rfl, trivial⟩, M.e_inl hM aY, H⟩
 replace hM := M.e_f hM aB
 simp only [qy1, qy2, qy3, qy4, qy5, qy6, ne_eq, qy7] at aB
 refine W.exit ?_
 have bA := M.e_inr hM aY
 subst bA
 replace hM := bc
 try dsimp only at hM
 refine W.seq ?_
 refine W.region rfl ?_
 refine zM aw rfl ?_
 refine zA aw rfl ?_
 refine s_nil ?_
 refine W.ret ?_
 have bB := M.e_pure hM
 exact ⟨_, resE_tmp rfl, ⟨l6, aw, bB, rfl, (H.pk [0])⟩⟩

def zbT (ae : List Int) (ag : List Span) (ah : List Int) (aa : List Town) (ai : Int) (ab : Int) (aj : List Flood) (station : Int) (d : Dem) : M Bool :=
  M.bind (za9 ae ag ah aa ai ab aj d.spring station) fun (am, ao, r1) =>
  bif !r1 then (
  M.pure false)
  else (
  M.grd (decide ((0 : Int) <= d.town) && decide (d.town < (aa.length : Int))) <|
  M.bind (za9 ae ag ah aa ai ab aj station ((aa.getD (Int.toNat d.town) default).station)) fun (ac, ap, ak) =>
  M.grd ((!ak || (decide ((-9223372036854775808 : Int) <= (ac - ab)) && decide ((ac - ab) <= (9223372036854775807 : Int))))) <|
  M.pure (ak && (decide (((aa.getD (Int.toNat d.town) default).lead) <= (ac - ab)))))
theorem zdN {R : List Chunk} {aT : Cells} {ap : Value} {aU : Cells} {aq : Value} {aV : Cells} {au : Value} {aW : Cells} {ae : Value} {aX : Cells} {av : Value} (aE : List Int) (aF : List Span) (aG : List Int) (aj : List Town) (ak : Int) (ac : Int) (aH : List Flood) (station : Int) (d : Dem) (aJ : Reads R aT) (aK : Sl aT ap aE) (aL : Reads R aU) (aM : Sl aU aq aF) (aN : Reads R aV) (aO : Sl aV au aG) (aD : Reads R aW) (aw : Sl aW ae aj) (aP : Reads R aX) (aQ : Sl aX av aH) {r : Bool} (hM : (zbT aE aF aG aj ak ac aH station d).Ends r) (w : World) (H : St w w [] R) : Ret Tryz.prog 83 #[.agg #[ap, aq, au, ae, I ak, I ac, av], I station, .agg #[I d.spring, I d.town]] w fun v w' => ∃ (y0 : Bool), y0 = r /\ v = B y0 /\ St w w' [] R := by
 refine ret_of_W Tryz.func83 rfl rfl rfl ?_
 refine W.seq ?_
 refine W.region rfl ?_
 refine t_box (v := .agg #[ap, aq, au, ae, I ak, I ac, av]) (cs := [ap, aq, au, ae, I ak, I ac, av]) H rfl rfl ?_
 intro ai bf H
 refine t_box (v := .agg #[I d.spring, I d.town]) (cs := [I d.spring, I d.town]) H rfl rfl ?_
 intro am bg H
 refine zA (B false) rfl ?_
 refine s_nil ?_
 refine W.seq ?_
 refine W.seq ?_
 refine W.region rfl ?_
 refine s_val (x_ld (p := Pq ai) (v := .agg #[ap, aq, au, ae, I ak, I ac, av]) rfl (ldb_ag (ds := [ap, aq, au, ae, I ak, I ac, av]) Ag37 Sz37 (H.bl 1) rfl rfl)) ?_
 refine s_val (x_fa (a := Pq am) (v := Pq am) rfl (fa_blk (o := 0) Fd70_0 Sz3)) ?_
 refine s_val (x_ld (p := Pq am) (v := I d.spring) rfl (ldb_sc Sc3 (H.bl 0) rfl)) ?_
 refine zM (I station) rfl ?_
 obtain ⟨bh, aY, hM⟩ := M.e_bind hM
 refine s_call cf75 [.agg #[ap, aq, au, ae, I ak, I ac, av], I d.spring, I station] rfl (zby aE aF aG aj ak ac aH d.spring station (aJ.app _) aK (aL.app _) aM (aN.app _) aO (aD.app _) aw (aP.app _) aQ aY _ (H.gt 2)) ?_
 rintro vq bi ⟨aA, aB, r1, aZ, hvq, aC⟩
 subst aZ
 subst vq
 try dsimp only at hM
 replace H := H.bk aC
 clear aC
 refine zM (.tuple #[.agg #[I aA, I aB], B r1]) rfl ?_
 refine zX [.agg #[I aA, I aB], B r1] (.agg #[I aA, I aB]) rfl rfl ?_
 refine zX [.agg #[I aA, I aB], B r1] (B r1) rfl rfl ?_
 refine t_alloc (cs := [I 0, I 0]) H Al26 rfl ?_
 intro aR bj H
 refine t_sw 0 0 [I aA, I aB] (.agg #[I aA, I aB]) H rfl rfl Sz26 rfl rfl rfl rfl ?_
 intro bm H
 refine zA (B r1) rfl ?_
 refine s_nil ?_
 refine W.seq ?_
 refine W.region rfl ?_
 refine zM (B r1) rfl ?_
 refine s_val (x_not (b := r1) rfl) ?_
 refine s_nil ?_
 refine W.cond (!r1) rfl (fun aS => ?_) (fun aS => ?_)
 ·replace hM := M.e_t hM aS
  refine W.seq ?_
  refine W.region rfl ?_
  refine zA (B false) rfl ?_
  refine s_nil ?_
  replace H := H.pk []
  refine W.ret ?_
  have aI := M.e_pure hM
  exact ⟨_, resE_tmp rfl, ⟨false, aI, rfl, H⟩⟩
 replace hM := M.e_f hM aS
 refine W.skip ?_
 refine W.seq ?_
 refine W.drawT (fun W => St w W [cBlk aR [I aA, I aB] 26, cBlk am [I d.spring, I d.town] 70, cBlk ai [ap, aq, au, ae, I ak, I ac, av] 37] R) (.q 0 (.q 1 (.q 2 (.q 3 (.q 4 (.q 5 (.q 6 (.q 7 (.q 8 (.l2 9 (.q 10 (.q 11 (.q 12 (.l 13 (.l 14 (.q 15 .nil)))))) 13 (.l 9 (.q 10 (.q 11 (.q 12 (.l 14 (.q 15 .nil)))))))))))))))) mixed (by decide +kernel) rfl ?_
 intro bn ah
 replace H := H.ext ah
 clear ah
 refine ⟨(H.pk [0, 1, 2]), ?_⟩
 refine t_q rfl (fun w' H => x_ld (p := Pq ai) (v := .agg #[ap, aq, au, ae, I ak, I ac, av]) rfl (ldb_ag (ds := [ap, aq, au, ae, I ak, I ac, av]) Ag37 Sz37 (H.bl 2) rfl rfl)) ?_
 refine t_q rfl (fun w' H => x_mv (v := I station) rfl) ?_
 refine t_q rfl (fun w' H => x_fa (a := Pq ai) (v := Oq ai 3) rfl (fa_blk (o := 0) Fd37_3 Sz34)) ?_
 refine t_q rfl (fun w' H => x_ld (p := Oq ai 3) (v := ae) rfl (ldb_sc Sc34 (H.bl 2) rfl)) ?_
 refine t_q rfl (fun w' H => x_fa (a := Pq am) (v := Oq am 1) rfl (fa_blk (o := 0) Fd70_1 Sz3)) ?_
 refine t_q rfl (fun w' H => x_ld (p := Oq am 1) (v := I d.town) rfl (ldb_sc Sc3 (H.bl 1) rfl)) ?_
 obtain ⟨a6, hM⟩ := M.e_grd hM
 simp only [Bool.and_eq_true, decide_eq_true_eq] at a6
 refine t_q rfl (fun w' H => x_ix (a := ae) (b := I d.town) (v := vat ae 3 (Int.toNat d.town)) rfl rfl (Sl.ix (α := Town) T34.und T34.size aw (by omega) (by omega))) ?_
 refine t_q rfl (fun w' H => x_fa (a := vat ae 3 (Int.toNat d.town)) (v := fat (vat ae 3 (Int.toNat d.town)) 0) rfl (fa_pl Fd92_0 Sz3 (Sl.pl (i := d.town) aw (by omega) (by omega)))) ?_
 refine t_q rfl (fun w' H => x_ld (p := fat (vat ae 3 (Int.toNat d.town)) 0) (v := I ((aj.getD (Int.toNat d.town) default).station)) rfl (ld_sc Sc3 (At.mono (Town_at0 aw (i := d.town) (by omega) (by omega)) (aD.at H)))) ?_
 refine t_l2 rfl rfl ?_ ?_
 ·skip
  obtain ⟨bo, a7, hM⟩ := M.e_bind hM
  refine s_call cf75 [.agg #[ap, aq, au, ae, I ak, I ac, av], I station, I ((aj.getD (Int.toNat d.town) default).station)] rfl (zby aE aF aG aj ak ac aH station ((aj.getD (Int.toNat d.town) default).station) (aJ.app _) aK (aL.app _) aM (aN.app _) aO (aD.app _) aw (aP.app _) aQ a7 _ (H.gt 3)) ?_
  rintro vq bp ⟨ag, ao, aa, a8, hvq, aC⟩
  subst a8
  subst vq
  try dsimp only at hM
  replace H := H.bk aC
  clear aC
  refine s_nil ⟨(H.pk [0, 1, 2]), ?_⟩
  refine t_q rfl (fun w' H => x_mv (v := .tuple #[.agg #[I ag, I ao], B aa]) rfl) ?_
  refine t_q rfl (fun w' H => x_ext (vs := [.agg #[I ag, I ao], B aa]) (v := .agg #[I ag, I ao]) rfl rfl) ?_
  refine t_q rfl (fun w' H => x_ext (vs := [.agg #[I ag, I ao], B aa]) (v := B aa) rfl rfl) ?_
  refine t_l rfl ?_
  refine t_alloc (cs := [I 0, I 0]) H Al26 rfl ?_
  intro ax bq H
  refine s_nil ⟨(H.pk [1, 2, 3]), ?_⟩
  refine t_l rfl ?_
  refine t_sw 0 0 [I ag, I ao] (.agg #[I ag, I ao]) H rfl rfl Sz26 rfl rfl rfl rfl ?_
  intro br H
  refine s_nil ⟨(H.pk [1, 2, 3]), ?_⟩
  refine t_q rfl (fun w' H => x_as (v := B aa) rfl) ?_
  refine t_nil ?_
  refine W.seq ?_
  refine W.draw (fun W => St w W [cBlk ax [I ag, I ao] 26, cBlk aR [I aA, I aB] 26, cBlk am [I d.spring, I d.town] 70, cBlk ai [ap, aq, au, ae, I ak, I ac, av] 37] R) [(0, true), (1, true), (2, true), (3, true), (4, true), (5, true), (6, true), (7, true), (8, true), (9, true), (10, true), (11, true), (12, true), (13, true), (14, true), (15, true), (16, true), (17, true)] mixed (by decide +kernel) rfl ?_
  intro bt ah
  replace H := H.ext ah
  clear ah
  refine ⟨(H.pk [0, 1, 2, 3]), ?_⟩
  refine d_q rfl (fun w' H => x_mv (v := B aa) rfl) ?_
  refine d_q rfl (fun w' H => x_mv (v := B aa) rfl) ?_
  refine d_qg aa rfl (gy_t rfl) (fun hg => (fun w' H => x_fa (a := Pq ax) (v := Pq ax) rfl (fa_blk (o := 0) Fd26_0 Sz3))) ?_
  refine d_qg aa rfl (gy_t rfl) (fun hg => (fun w' H => x_ld (p := Pq ax) (v := I ag) (gd_of (c := aa) hg (Pq ax)) (ldb_sc Sc3 (H.bl 0) rfl))) ?_
  refine d_qg aa rfl (gy_t rfl) (fun hg => (fun w' H => x_fa (a := Pq ai) (v := Oq ai 4) rfl (fa_blk (o := 0) Fd37_4 Sz26))) ?_
  refine d_qg aa rfl (gy_t rfl) (fun hg => (fun w' H => x_fa (a := Oq ai 4) (v := Oq ai 5) (gd_of (c := aa) hg (Oq ai 4)) (fa_blk (o := 4) Fd26_1 Sz3))) ?_
  refine d_qg aa rfl (gy_t rfl) (fun hg => (fun w' H => x_ld (p := Oq ai 5) (v := I ac) (gd_of (c := aa) hg (Oq ai 5)) (ldb_sc Sc3 (H.bl 3) rfl))) ?_
  obtain ⟨ay, hM⟩ := M.e_grd hM
  replace ay := M.imp_of ay
  simp only [Bool.and_eq_true, decide_eq_true_eq] at ay
  refine d_qg aa rfl (gy_t rfl) (fun hg => (fun w' H => x_ari (a := ag) (b := ac) (r := ag - ac) (gd_of (c := aa) hg (I ag)) (gd_of (c := aa) hg (I ac)) rfl (by have ab := ay.resolve_left (by rw [hg]; decide); first | exact ab | exact ab.1 | exact ab.2 | omega | (have ah := hg; simp at ah; omega)))) ?_
  refine d_qg aa rfl (gy_t rfl) (fun hg => (fun w' H => x_fa (a := Pq ai) (v := Oq ai 3) rfl (fa_blk (o := 0) Fd37_3 Sz34))) ?_
  refine d_qg aa rfl (gy_t rfl) (fun hg => (fun w' H => x_ld (p := Oq ai 3) (v := ae) (gd_of (c := aa) hg (Oq ai 3)) (ldb_sc Sc34 (H.bl 3) rfl))) ?_
  refine d_qg aa rfl (gy_t rfl) (fun hg => (fun w' H => x_fa (a := Pq am) (v := Oq am 1) rfl (fa_blk (o := 0) Fd70_1 Sz3))) ?_
  refine d_qg aa rfl (gy_t rfl) (fun hg => (fun w' H => x_ld (p := Oq am 1) (v := I d.town) (gd_of (c := aa) hg (Oq am 1)) (ldb_sc Sc3 (H.bl 2) rfl))) ?_
  refine d_qg aa rfl (gy_t rfl) (fun hg => (fun w' H => x_ix (a := ae) (b := I d.town) (v := vat ae 3 (Int.toNat d.town)) (gd_of (c := aa) hg (ae)) (gd_of (c := aa) hg (I d.town)) (Sl.ix (α := Town) T34.und T34.size aw (by have ab := ay.resolve_left (by rw [hg]; decide); first | exact ab | exact ab.1 | exact ab.2 | omega | (have ah := hg; simp at ah; omega)) (by have ab := ay.resolve_left (by rw [hg]; decide); first | exact ab | exact ab.1 | exact ab.2 | omega | (have ah := hg; simp at ah; omega))))) ?_
  refine d_qg aa rfl (gy_t rfl) (fun hg => (fun w' H => x_fa (a := vat ae 3 (Int.toNat d.town)) (v := fat (vat ae 3 (Int.toNat d.town)) 1) (gd_of (c := aa) hg (vat ae 3 (Int.toNat d.town))) (fa_pl Fd92_1 Sz3 (Sl.pl (i := d.town) aw (by have ab := ay.resolve_left (by rw [hg]; decide); first | exact ab | exact ab.1 | exact ab.2 | omega | (have ah := hg; simp at ah; omega)) (by have ab := ay.resolve_left (by rw [hg]; decide); first | exact ab | exact ab.1 | exact ab.2 | omega | (have ah := hg; simp at ah; omega)))))) ?_
  refine d_qg aa rfl (gy_t rfl) (fun hg => (fun w' H => x_ld (p := fat (vat ae 3 (Int.toNat d.town)) 1) (v := I ((aj.getD (Int.toNat d.town) default).lead)) (gd_of (c := aa) hg (fat (vat ae 3 (Int.toNat d.town)) 1)) (ld_sc Sc3 (At.mono (Town_at1 aw (i := d.town) (by have ab := ay.resolve_left (by rw [hg]; decide); first | exact ab | exact ab.1 | exact ab.2 | omega | (have ah := hg; simp at ah; omega)) (by have ab := ay.resolve_left (by rw [hg]; decide); first | exact ab | exact ab.1 | exact ab.2 | omega | (have ah := hg; simp at ah; omega))) (aD.at H))))) ?_
  refine d_qg aa rfl (gy_t rfl) (fun hg => (fun w' H => x_cmp (kd := .i64) (a := ag - ac) (b := (aj.getD (Int.toNat d.town) default).lead) (r := decide (((aj.getD (Int.toNat d.town) default).lead) <= (ag - ac))) (gd_of (c := aa) hg (I (ag - ac))) (gd_of (c := aa) hg (I ((aj.getD (Int.toNat d.town) default).lead))) rfl)) ?_
  refine d_q rfl (fun w' H => x_pand (b := aa) (r := decide (((aj.getD (Int.toNat d.town) default).lead) <= (ag - ac))) rfl (fun hb => gd_of (c := aa) (by first | exact hb | (rw [hb]; rfl) | simp_all) (B (decide (((aj.getD (Int.toNat d.town) default).lead) <= (ag - ac))))) rfl) ?_
  refine d_q rfl (fun w' H => x_as (v := B (aa && (decide (((aj.getD (Int.toNat d.town) default).lead) <= (ag - ac))))) rfl) ?_
  refine d_nil ?_
  replace H := H.pk []
  refine W.ret ?_
  have aI := M.e_pure hM
  exact ⟨_, resE_tmp rfl, ⟨(aa && (decide (((aj.getD (Int.toNat d.town) default).lead) <= (ag - ac)))), aI, rfl, H⟩⟩
 skip
 refine t_alloc (cs := [I 0, I 0]) H Al26 rfl ?_
 intro ax bu H
 refine s_nil ⟨(H.pk [1, 2, 3]), ?_⟩
 refine t_l rfl ?_
 obtain ⟨bv, ba, hM⟩ := M.e_bind hM
 refine s_call cf75 [.agg #[ap, aq, au, ae, I ak, I ac, av], I station, I ((aj.getD (Int.toNat d.town) default).station)] rfl (zby aE aF aG aj ak ac aH station ((aj.getD (Int.toNat d.town) default).station) (aJ.app _) aK (aL.app _) aM (aN.app _) aO (aD.app _) aw (aP.app _) aQ ba _ (H.gt 4)) ?_
 rintro vq bw ⟨ag, ao, aa, bc, hvq, aC⟩
 subst bc
 subst vq
 try dsimp only at hM
 replace H := H.bk aC
 clear aC
 refine s_nil ⟨(H.pk [1, 2, 3]), ?_⟩
 refine t_q rfl (fun w' H => x_mv (v := .tuple #[.agg #[I ag, I ao], B aa]) rfl) ?_
 refine t_q rfl (fun w' H => x_ext (vs := [.agg #[I ag, I ao], B aa]) (v := .agg #[I ag, I ao]) rfl rfl) ?_
 refine t_q rfl (fun w' H => x_ext (vs := [.agg #[I ag, I ao], B aa]) (v := B aa) rfl rfl) ?_
 refine t_l rfl ?_
 refine t_sw 0 0 [I ag, I ao] (.agg #[I ag, I ao]) H rfl rfl Sz26 rfl rfl rfl rfl ?_
 intro bx H
 refine s_nil ⟨(H.pk [1, 2, 3]), ?_⟩
 refine t_q rfl (fun w' H => x_as (v := B aa) rfl) ?_
 refine t_nil ?_
 refine W.seq ?_
 refine W.draw (fun W => St w W [cBlk ax [I ag, I ao] 26, cBlk aR [I aA, I aB] 26, cBlk am [I d.spring, I d.town] 70, cBlk ai [ap, aq, au, ae, I ak, I ac, av] 37] R) [(0, true), (1, true), (2, true), (3, true), (4, true), (5, true), (6, true), (7, true), (8, true), (9, true), (10, true), (11, true), (12, true), (13, true), (14, true), (15, true), (16, true), (17, true)] mixed (by decide +kernel) rfl ?_
 intro bz ah
 replace H := H.ext ah
 clear ah
 refine ⟨(H.pk [0, 1, 2, 3]), ?_⟩
 refine d_q rfl (fun w' H => x_mv (v := B aa) rfl) ?_
 refine d_q rfl (fun w' H => x_mv (v := B aa) rfl) ?_
 refine d_qg aa rfl (gy_t rfl) (fun hg => (fun w' H => x_fa (a := Pq ax) (v := Pq ax) rfl (fa_blk (o := 0) Fd26_0 Sz3))) ?_
 refine d_qg aa rfl (gy_t rfl) (fun hg => (fun w' H => x_ld (p := Pq ax) (v := I ag) (gd_of (c := aa) hg (Pq ax)) (ldb_sc Sc3 (H.bl 0) rfl))) ?_
 refine d_qg aa rfl (gy_t rfl) (fun hg => (fun w' H => x_fa (a := Pq ai) (v := Oq ai 4) rfl (fa_blk (o := 0) Fd37_4 Sz26))) ?_
 refine d_qg aa rfl (gy_t rfl) (fun hg => (fun w' H => x_fa (a := Oq ai 4) (v := Oq ai 5) (gd_of (c := aa) hg (Oq ai 4)) (fa_blk (o := 4) Fd26_1 Sz3))) ?_
 refine d_qg aa rfl (gy_t rfl) (fun hg => (fun w' H => x_ld (p := Oq ai 5) (v := I ac) (gd_of (c := aa) hg (Oq ai 5)) (ldb_sc Sc3 (H.bl 3) rfl))) ?_
 obtain ⟨az, hM⟩ := M.e_grd hM
 replace az := M.imp_of az
 simp only [Bool.and_eq_true, decide_eq_true_eq] at az
 refine d_qg aa rfl (gy_t rfl) (fun hg => (fun w' H => x_ari (a := ag) (b := ac) (r := ag - ac) (gd_of (c := aa) hg (I ag)) (gd_of (c := aa) hg (I ac)) rfl (by have ab := az.resolve_left (by rw [hg]; decide); first | exact ab | exact ab.1 | exact ab.2 | omega | (have ah := hg; simp at ah; omega)))) ?_
 refine d_qg aa rfl (gy_t rfl) (fun hg => (fun w' H => x_fa (a := Pq ai) (v := Oq ai 3) rfl (fa_blk (o := 0) Fd37_3 Sz34))) ?_
 refine d_qg aa rfl (gy_t rfl) (fun hg => (fun w' H => x_ld (p := Oq ai 3) (v := ae) (gd_of (c := aa) hg (Oq ai 3)) (ldb_sc Sc34 (H.bl 3) rfl))) ?_
 refine d_qg aa rfl (gy_t rfl) (fun hg => (fun w' H => x_fa (a := Pq am) (v := Oq am 1) rfl (fa_blk (o := 0) Fd70_1 Sz3))) ?_
 refine d_qg aa rfl (gy_t rfl) (fun hg => (fun w' H => x_ld (p := Oq am 1) (v := I d.town) (gd_of (c := aa) hg (Oq am 1)) (ldb_sc Sc3 (H.bl 2) rfl))) ?_
 refine d_qg aa rfl (gy_t rfl) (fun hg => (fun w' H => x_ix (a := ae) (b := I d.town) (v := vat ae 3 (Int.toNat d.town)) (gd_of (c := aa) hg (ae)) (gd_of (c := aa) hg (I d.town)) (Sl.ix (α := Town) T34.und T34.size aw (by have ab := az.resolve_left (by rw [hg]; decide); first | exact ab | exact ab.1 | exact ab.2 | omega | (have ah := hg; simp at ah; omega)) (by have ab := az.resolve_left (by rw [hg]; decide); first | exact ab | exact ab.1 | exact ab.2 | omega | (have ah := hg; simp at ah; omega))))) ?_
 refine d_qg aa rfl (gy_t rfl) (fun hg => (fun w' H => x_fa (a := vat ae 3 (Int.toNat d.town)) (v := fat (vat ae 3 (Int.toNat d.town)) 1) (gd_of (c := aa) hg (vat ae 3 (Int.toNat d.town))) (fa_pl Fd92_1 Sz3 (Sl.pl (i := d.town) aw (by have ab := az.resolve_left (by rw [hg]; decide); first | exact ab | exact ab.1 | exact ab.2 | omega | (have ah := hg; simp at ah; omega)) (by have ab := az.resolve_left (by rw [hg]; decide); first | exact ab | exact ab.1 | exact ab.2 | omega | (have ah := hg; simp at ah; omega)))))) ?_
 refine d_qg aa rfl (gy_t rfl) (fun hg => (fun w' H => x_ld (p := fat (vat ae 3 (Int.toNat d.town)) 1) (v := I ((aj.getD (Int.toNat d.town) default).lead)) (gd_of (c := aa) hg (fat (vat ae 3 (Int.toNat d.town)) 1)) (ld_sc Sc3 (At.mono (Town_at1 aw (i := d.town) (by have ab := az.resolve_left (by rw [hg]; decide); first | exact ab | exact ab.1 | exact ab.2 | omega | (have ah := hg; simp at ah; omega)) (by have ab := az.resolve_left (by rw [hg]; decide); first | exact ab | exact ab.1 | exact ab.2 | omega | (have ah := hg; simp at ah; omega))) (aD.at H))))) ?_
 refine d_qg aa rfl (gy_t rfl) (fun hg => (fun w' H => x_cmp (kd := .i64) (a := ag - ac) (b := (aj.getD (Int.toNat d.town) default).lead) (r := decide (((aj.getD (Int.toNat d.town) default).lead) <= (ag - ac))) (gd_of (c := aa) hg (I (ag - ac))) (gd_of (c := aa) hg (I ((aj.getD (Int.toNat d.town) default).lead))) rfl)) ?_
 refine d_q rfl (fun w' H => x_pand (b := aa) (r := decide (((aj.getD (Int.toNat d.town) default).lead) <= (ag - ac))) rfl (fun hb => gd_of (c := aa) (by first | exact hb | (rw [hb]; rfl) | simp_all) (B (decide (((aj.getD (Int.toNat d.town) default).lead) <= (ag - ac))))) rfl) ?_
 refine d_q rfl (fun w' H => x_as (v := B (aa && (decide (((aj.getD (Int.toNat d.town) default).lead) <= (ag - ac))))) rfl) ?_
 refine d_nil ?_
 replace H := H.pk []
 refine W.ret ?_
 have aI := M.e_pure hM
 exact ⟨_, resE_tmp rfl, ⟨(aa && (decide (((aj.getD (Int.toNat d.town) default).lead) <= (ag - ac)))), aI, rfl, H⟩⟩

def zbx (aa : List Int) (ab : List Span) (ac : List Int) (ae : List Town) (ag : Int) (ah : Int) (ai : List Flood) (watches : List Int) (r2 : List Dem) (i : Nat) : (Bool × Nat) -> M ((Bool × Nat) ⊕ Bool) := fun (met, k) =>
  bif decide ((k : Int) < (watches.length : Int)) then (
  M.grd ((!(!met) || (decide ((k : Int) < (watches.length : Int))))) <|
  M.grd ((!(!met) || (decide ((i : Int) < (r2.length : Int))))) <|
  M.bind (M.opt (!met) (zbT aa ab ac ae ag ah ai (watches.getD k 0) (r2.getD i default)) false) fun r3 =>
  M.pure (.inl ((met || r3), k + 1)))
  else (
  M.pure (.inr met))
def zbE (aa : List Int) (ab : List Span) (ac : List Int) (ae : List Town) (ag : Int) (ah : Int) (ai : List Flood) (watches : List Int) (r2 : List Dem) : (Nat × (List Dem)) -> M ((Nat × (List Dem)) ⊕ ((List Dem) × (List Dem))) := fun (i, l) =>
  bif decide ((i : Int) < (r2.length : Int)) then (
  M.bind (M.iter (zbx aa ab ac ae ag ah ai watches r2 i) (false, 0)) fun met2 =>
  bif !met2 then (
  M.grd (decide ((i : Int) < (r2.length : Int))) <|
  M.grd (decide ((l.length + ([(r2.getD i default)]).length) * 16 <= 140737488355328)) <|
  M.pure (.inl (i + 1, l ++ ([(r2.getD i default)]))))
  else (
  M.pure (.inl (i + 1, l))))
  else (
  M.pure (.inr (l, l)))
def zb7 (aa : List Int) (ab : List Span) (ac : List Int) (ae : List Town) (ag : Int) (ah : Int) (ai : List Flood) (watches : List Int) : M (List Dem) :=
  M.bind (zbW aa ab ac ae ag ah ai) fun r2 =>
  M.bind (M.iter (zbE aa ab ac ae ag ah ai watches r2) (0, [])) fun (l2, l3) =>
  M.pure l3
theorem zdJ {R : List Chunk} {aK : Cells} {ai : Value} {aL : Cells} {aj : Value} {aM : Cells} {ak : Value} {aN : Cells} {am : Value} {aO : Cells} {ao : Value} {aP : Cells} {ap : Value} (ax : List Int) (ay : List Span) (az : List Int) (aA : List Town) (ab : Int) (ac : Int) (aB : List Flood) (watches : List Int) (aQ : Reads R aK) (aR : Sl aK ai ax) (aS : Reads R aL) (aT : Sl aL aj ay) (aU : Reads R aM) (aV : Sl aM ak az) (aW : Reads R aN) (aX : Sl aN am aA) (aY : Reads R aO) (aZ : Sl aO ao aB) (bh : Reads R aP) (aE : Sl aP ap watches) {r : (List Dem)} (hM : (zb7 ax ay az aA ab ac aB watches).Ends r) (w : World) (H : St w w [] R) : Ret Tryz.prog 88 #[.agg #[ai, aj, ak, am, I ab, I ac, ao], ap] w fun v w' => ∃ (y0 : List Dem) (u0 : Value), y0 = r /\ v = u0 /\ St w w' [cOwn (α := Dem) 70 u0 y0] R := by
 refine ret_of_W Tryz.func88 rfl rfl rfl ?_
 refine W.seq ?_
 refine W.region rfl ?_
 refine t_box (v := .agg #[ai, aj, ak, am, I ab, I ac, ao]) (cs := [ai, aj, ak, am, I ab, I ac, ao]) H rfl rfl ?_
 intro av bC H
 refine zA (.slice none 0 0) rfl ?_
 refine s_nil ?_
 refine W.seq ?_
 refine W.region rfl ?_
 refine s_val (x_ld (p := Pq av) (v := .agg #[ai, aj, ak, am, I ab, I ac, ao]) rfl (ldb_ag (ds := [ai, aj, ak, am, I ab, I ac, ao]) Ag37 Sz37 (H.bl 0) rfl rfl)) ?_
 obtain ⟨bD, bi, hM⟩ := M.e_bind hM
 refine s_call cf78 [.agg #[ai, aj, ak, am, I ab, I ac, ao]] rfl (zdD ax ay az aA ab ac aB (aQ.app _) aR (aS.app _) aT (aU.app _) aV (aW.app _) aX (aY.app _) aZ bi _ (H.gt 1)) ?_
 rintro vq bE ⟨r2, ag, bj, hvq, a6⟩
 subst bj
 subst vq
 try dsimp only at hM
 replace H := H.bk a6
 clear a6
 refine zA ag rfl ?_
 refine s_nil ?_
 refine W.seq ?_
 refine W.region rfl ?_
 refine zA (.slice none 0 0) rfl ?_
 refine s_nil ?_
 refine W.seq ?_
 refine W.seq ?_
 refine W.region rfl ?_
 refine zA (I 0) rfl ?_
 refine s_nil ?_
 refine W.block ?_
 replace H := H.nilOwn (α := Dem) 70
 obtain ⟨bm, aF, bn⟩ := M.e_bind hM
 obtain ⟨bo, aF⟩ := M.e_iter aF
 refine W.loop (fun m σ W => ∃ (i : Nat) (l : List Dem) (aq : Value) (ρ : Env), σ = upds ρ [(1, ap), (2, Pq av), (5, ag), (6, aq), (7, I (i : Int))] /\ M.iterN (zbE ax ay az aA ab ac aB watches r2) m (i, l) = some bm /\ St w W [cOwn (α := Dem) 70 aq l, cOwn (α := Dem) 70 ag r2, cBlk av [ai, aj, ak, am, I ab, I ac, ao] 37] R) ?_ ?_
 ·exact ⟨_, 0, [], (.slice none 0 0), _, upds_of _ _ ⟨rfl, rfl, rfl, rfl, rfl, trivial⟩, aF, H⟩
 rintro bF σ bG ⟨i, l, aq, ρ, rfl, a7, H⟩
 obtain ⟨a8, ba, bH, hM, aG⟩ := M.e_iterN a7
 simp only [zbE] at hM
 clear a7
 refine W.seq ?_
 refine W.seq ?_
 refine W.region rfl ?_
 refine zM (I (i : Int)) rfl ?_
 refine zM ag rfl ?_
 have bI := ((H.os 1)).len_le
 refine s_val (x_lenS T66.und rfl (H.os 1)) ?_
 refine zC (i : Int) (r2.length : Int) (decide ((i : Int) < (r2.length : Int))) rfl rfl rfl ?_
 refine s_nil ?_
 refine W.cond (decide ((i : Int) < (r2.length : Int))) rfl (fun aC => ?_) (fun aC => ?_)
 ·replace hM := M.e_t hM aC
  simp only [qy1, qy2, qy3, qy4, qy5, qy6, ne_eq, qy7] at aC
  refine W.skip ?_
  refine W.seq ?_
  refine W.block ?_
  refine W.seq ?_
  refine W.region rfl ?_
  refine zA (B false) rfl ?_
  refine s_nil ?_
  refine W.seq ?_
  refine W.seq ?_
  refine W.region rfl ?_
  refine zA (I 0) rfl ?_
  refine s_nil ?_
  refine W.block ?_
  obtain ⟨bp, aH, bq⟩ := M.e_bind hM
  obtain ⟨bo, aH⟩ := M.e_iter aH
  refine W.loop (fun m σ W => ∃ (met : Bool) (k : Nat) (ρ : Env), σ = upds ρ [(1, ap), (2, Pq av), (5, ag), (6, aq), (7, I (i : Int)), (8, B met), (9, I (k : Int))] /\ M.iterN (zbx ax ay az aA ab ac aB watches r2 i) m (met, k) = some bp /\ St w W [cOwn (α := Dem) 70 aq l, cOwn (α := Dem) 70 ag r2, cBlk av [ai, aj, ak, am, I ab, I ac, ao] 37] R) ?_ ?_
  ·exact ⟨_, false, 0, _, upds_of _ _ ⟨rfl, rfl, rfl, rfl, rfl, rfl, rfl, trivial⟩, aH, H⟩
  rintro bJ σ bK ⟨met, k, ρ, rfl, bc, H⟩
  obtain ⟨br, bt, bL, hM, bf⟩ := M.e_iterN bc
  simp only [zbx] at hM
  clear bc
  refine W.seq ?_
  refine W.seq ?_
  refine W.region rfl ?_
  refine zM (I (k : Int)) rfl ?_
  refine zM ap rfl ?_
  have bM := (aE).len_le
  refine s_val (x_lenS T22.und rfl aE) ?_
  refine zC (k : Int) (watches.length : Int) (decide ((k : Int) < (watches.length : Int))) rfl rfl rfl ?_
  refine s_nil ?_
  refine W.cond (decide ((k : Int) < (watches.length : Int))) rfl (fun aD => ?_) (fun aD => ?_)
  ·replace hM := M.e_t hM aD
   simp only [qy1, qy2, qy3, qy4, qy5, qy6, ne_eq, qy7] at aD
   refine W.skip ?_
   refine W.seq ?_
   refine W.block ?_
   refine W.draw (fun W => St w W [cOwn (α := Dem) 70 aq l, cOwn (α := Dem) 70 ag r2, cBlk av [ai, aj, ak, am, I ab, I ac, ao] 37] R) [(0, true), (1, true), (2, true), (3, true), (4, true), (5, true), (6, true), (7, true), (8, true), (9, true), (10, true), (11, false), (12, true), (13, true)] mixed (by decide +kernel) rfl ?_
   intro bN ae
   replace H := H.ext ae
   clear ae
   refine ⟨(H.pk [0, 1, 2]), ?_⟩
   refine d_q rfl (fun w' H => x_mv (v := B met) rfl) ?_
   refine d_q rfl (fun w' H => x_mv (v := B met) rfl) ?_
   refine d_qg (!met) rfl (gy_f rfl) (fun hg => (fun w' H => x_ld (p := Pq av) (v := .agg #[ai, aj, ak, am, I ab, I ac, ao]) rfl (ldb_ag (ds := [ai, aj, ak, am, I ab, I ac, ao]) Ag37 Sz37 (H.bl 2) rfl rfl))) ?_
   refine d_qg (!met) rfl (gy_f rfl) (fun hg => (fun w' H => x_mv (v := ap) rfl)) ?_
   refine d_qg (!met) rfl (gy_f rfl) (fun hg => (fun w' H => x_mv (v := I (k : Int)) rfl)) ?_
   obtain ⟨au, hM⟩ := M.e_grd hM
   replace au := M.imp_of au
   simp only [Bool.and_eq_true, decide_eq_true_eq] at au
   refine d_qg (!met) rfl (gy_f rfl) (fun hg => (fun w' H => x_ix (a := ap) (b := I (k : Int)) (v := vat ap 1 (Int.toNat (k : Int))) (gd_of (c := !met) hg (ap)) (gd_of (c := !met) hg (I (k : Int))) (Sl.ix (α := Int) T22.und T22.size aE (by have aa := au.resolve_left (by rw [hg]; decide); first | exact aa | exact aa.1 | exact aa.2 | omega | (have ae := hg; simp at ae; omega)) (by have aa := au.resolve_left (by rw [hg]; decide); first | exact aa | exact aa.1 | exact aa.2 | omega | (have ae := hg; simp at ae; omega))))) ?_
   refine d_qg (!met) rfl (gy_f rfl) (fun hg => (fun w' H => x_ld (p := vat ap 1 (Int.toNat (k : Int))) (v := I (watches.getD k 0)) (gd_of (c := !met) hg (vat ap 1 (Int.toNat (k : Int)))) (ld_sc Sc3 (At.mono (Int_at aE (i := (k : Int)) (by have aa := au.resolve_left (by rw [hg]; decide); first | exact aa | exact aa.1 | exact aa.2 | omega | (have ae := hg; simp at ae; omega)) (by have aa := au.resolve_left (by rw [hg]; decide); first | exact aa | exact aa.1 | exact aa.2 | omega | (have ae := hg; simp at ae; omega))) (bh.at H))))) ?_
   refine d_qg (!met) rfl (gy_f rfl) (fun hg => (fun w' H => x_mv (v := ag) rfl)) ?_
   refine d_qg (!met) rfl (gy_f rfl) (fun hg => (fun w' H => x_mv (v := I (i : Int)) rfl)) ?_
   obtain ⟨aw, hM⟩ := M.e_grd hM
   replace aw := M.imp_of aw
   simp only [Bool.and_eq_true, decide_eq_true_eq] at aw
   refine d_qg (!met) rfl (gy_f rfl) (fun hg => (fun w' H => x_ix (a := ag) (b := I (i : Int)) (v := vat ag 2 (Int.toNat (i : Int))) (gd_of (c := !met) hg (ag)) (gd_of (c := !met) hg (I (i : Int))) (Sl.ix (α := Dem) T66.und T66.size (H.os 1) (by have aa := au.resolve_left (by rw [hg]; decide); have ah := aw.resolve_left (by rw [hg]; decide); first | exact aa | exact aa.1 | exact aa.2 | exact ah | exact ah.1 | exact ah.2 | omega | (have ae := hg; simp at ae; omega)) (by have aa := au.resolve_left (by rw [hg]; decide); have ah := aw.resolve_left (by rw [hg]; decide); first | exact aa | exact aa.1 | exact aa.2 | exact ah | exact ah.1 | exact ah.2 | omega | (have ae := hg; simp at ae; omega))))) ?_
   refine d_qg (!met) rfl (gy_f rfl) (fun hg => (fun w' H => x_ld (p := vat ag 2 (Int.toNat (i : Int))) (v := .agg #[I ((r2.getD i default).spring), I ((r2.getD i default).town)]) (gd_of (c := !met) hg (vat ag 2 (Int.toNat (i : Int)))) (ld_ag Ag70 Sz70 (At.mono (Dem_atA (H.os 1) (i := (i : Int)) (by have aa := au.resolve_left (by rw [hg]; decide); have ah := aw.resolve_left (by rw [hg]; decide); first | exact aa | exact aa.1 | exact aa.2 | exact ah | exact ah.1 | exact ah.2 | omega | (have ae := hg; simp at ae; omega)) (by have aa := au.resolve_left (by rw [hg]; decide); have ah := aw.resolve_left (by rw [hg]; decide); first | exact aa | exact aa.1 | exact aa.2 | exact ah | exact ah.1 | exact ah.2 | omega | (have ae := hg; simp at ae; omega))) (H.ol 1))))) ?_
   refine d_l rfl ?_
   obtain ⟨r3, bu, hM⟩ := M.e_bind hM
   refine t_gcall (!met) (gy_f rfl) cf83 (B r3) (fun _ => [.agg #[ai, aj, ak, am, I ab, I ac, ao], I (watches.getD k 0), .agg #[I ((r2.getD i default).spring), I ((r2.getD i default).town)]]) (fun hg => lst3 (gd_of (c := !met) hg (.agg #[ai, aj, ak, am, I ab, I ac, ao])) (gd_of (c := !met) hg (I (watches.getD k 0))) (gd_of (c := !met) hg (.agg #[I ((r2.getD i default).spring), I ((r2.getD i default).town)]))) H (fun hg => (zdN ax ay az aA ab ac aB (watches.getD k 0) (r2.getD i default) (aQ.app _) aR (aS.app _) aT (aU.app _) aV (aW.app _) aX (aY.app _) aZ (M.e_opt bu hg) _ (H.give (A := []) rfl)).mono fun v_ w_ ⟨y_, aI, bv, H_⟩ => by subst aI; exact ⟨bv, H.via H_⟩) ?_
   intro bO H
   refine s_nil ⟨(H.pk [0, 1, 2]), ?_⟩
   refine d_q rfl (fun w' H => x_por (b := met) (r := r3) rfl rfl (fun hb => gd_of (c := !met) (by first | exact hb | (rw [hb]; rfl) | simp_all) (B r3))) ?_
   refine d_q rfl (fun w' H => x_as (v := B (met || r3)) rfl) ?_
   refine d_nil ?_
   refine W.region rfl ?_
   refine zM (I (k : Int)) rfl ?_
   refine zR (k : Int) 1 ((k : Int) + 1) rfl rfl rfl (by omega) ?_
   refine zA (I ((k : Int) + 1)) rfl ?_
   refine s_nil ?_
   exact ⟨br, bt, (met || r3), k + 1, _, upds_of _ _ ⟨rfl, rfl, rfl, rfl, rfl, rfl, rfl, trivial⟩, M.e_inl hM bf, H⟩
  replace hM := M.e_f hM aD
  simp only [qy1, qy2, qy3, qy4, qy5, qy6, ne_eq, qy7] at aD
  refine W.exit ?_
  have bw := M.e_inr hM bf
  subst bw
  replace hM := bq
  try dsimp only at hM
  refine W.seq ?_
  refine W.region rfl ?_
  refine zM (B met) rfl ?_
  refine s_val (x_not (b := met) rfl) ?_
  refine s_nil ?_
  refine W.cond (!met) rfl (fun aJ => ?_) (fun aJ => ?_)
  ·replace hM := M.e_t hM aJ
   refine W.region rfl ?_
   refine zM aq rfl ?_
   refine zM ag rfl ?_
   refine zM (I (i : Int)) rfl ?_
   obtain ⟨bx, hM⟩ := M.e_grd hM
   simp only [Bool.and_eq_true, decide_eq_true_eq] at bx
   refine s_val (x_ix (a := ag) (b := I (i : Int)) (v := vat ag 2 (Int.toNat (i : Int))) rfl rfl (Sl.ix (α := Dem) T66.und T66.size (H.os 1) (by omega) (by omega))) ?_
   refine s_val (x_ld (p := vat ag 2 (Int.toNat (i : Int))) (v := .agg #[I ((r2.getD i default).spring), I ((r2.getD i default).town)]) rfl (ld_ag Ag70 Sz70 (At.mono (Dem_atA (H.os 1) (i := (i : Int)) (by omega) (by omega)) (H.ol 1)))) ?_
   refine t_bs (α := Dem) T66 [.agg #[I ((r2.getD i default).spring), I ((r2.getD i default).town)]] [(r2.getD i default)] H rfl (.cons rfl (Flat.rep_enc _ (r2.getD i default)) <| .nil) rfl rfl rfl ?_
   intro bz bP H
   obtain ⟨bA, hM⟩ := M.e_grd hM
   simp only [Bool.and_eq_true, decide_eq_true_eq] at bA
   refine t_app (α := Dem) (k := 1) (l := l) (l2 := [(r2.getD i default)]) (l' := l ++ ([(r2.getD i default)])) (vy := bz) T66 rfl H rfl rfl rfl (H.os 0) (H.ol 0) (rfl) (by first | omega | (simp only [List.length_nil] at *; omega)) ?_
   intro bg bQ H
   replace H := H.nf
   refine zA bg rfl ?_
   refine s_nil ?_
   refine W.region rfl ?_
   refine zM (I (i : Int)) rfl ?_
   refine zR (i : Int) 1 ((i : Int) + 1) rfl rfl rfl (by omega) ?_
   refine zA (I ((i : Int) + 1)) rfl ?_
   refine s_nil ?_
   exact ⟨a8, ba, i + 1, l ++ ([(r2.getD i default)]), bg, _, upds_of _ _ ⟨rfl, rfl, rfl, rfl, rfl, trivial⟩, M.e_inl hM aG, (H.pk [1, 2, 3])⟩
  replace hM := M.e_f hM aJ
  refine W.skip ?_
  refine W.region rfl ?_
  refine zM (I (i : Int)) rfl ?_
  refine zR (i : Int) 1 ((i : Int) + 1) rfl rfl rfl (by omega) ?_
  refine zA (I ((i : Int) + 1)) rfl ?_
  refine s_nil ?_
  exact ⟨a8, ba, i + 1, l, aq, _, upds_of _ _ ⟨rfl, rfl, rfl, rfl, rfl, trivial⟩, M.e_inl hM aG, H⟩
 replace hM := M.e_f hM aC
 simp only [qy1, qy2, qy3, qy4, qy5, qy6, ne_eq, qy7] at aC
 refine W.exit ?_
 have bB := M.e_inr hM aG
 subst bB
 replace hM := bn
 try dsimp only at hM
 replace H := H.pk [0]
 refine W.seq ?_
 refine W.region rfl ?_
 refine zM aq rfl ?_
 refine zA aq rfl ?_
 refine s_nil ?_
 refine W.ret ?_
 have aI := M.e_pure hM
 exact ⟨_, resE_tmp rfl, ⟨l, aq, aI, rfl, H⟩⟩

def zaq (aa : List Int) (ab : List Span) (ac : List Int) (ae : List Town) (ag : Int) (ah : Int) (ai : List Flood) (watches : List Int) : M ((List Dem) × Int) :=
  M.bind (zcb aa ab ac ae ag ah ai) fun r2 =>
  bif r2 != 0 then (
  M.pure (([]), r2))
  else (
  M.bind (zbA watches (aa.length : Int)) fun r3 =>
  bif r3 then (
  M.pure (([]), 2))
  else (
  M.bind (zb7 aa ab ac ae ag ah ai watches) fun r4 =>
  M.pure (r4, 0)))
theorem zck {R : List Chunk} {aA : Cells} {ac : Value} {aB : Cells} {ae : Value} {aC : Cells} {ag : Value} {aD : Cells} {ah : Value} {aE : Cells} {ai : Value} {aF : Cells} {ak : Value} (am : List Int) (au : List Span) (av : List Int) (aw : List Town) (aa : Int) (ab : Int) (ax : List Flood) (watches : List Int) (aG : Reads R aA) (ay : Sl aA ac am) (aH : Reads R aB) (aI : Sl aB ae au) (aJ : Reads R aC) (aK : Sl aC ag av) (aL : Reads R aD) (aM : Sl aD ah aw) (aN : Reads R aE) (aO : Sl aE ai ax) (aP : Reads R aF) (aQ : Sl aF ak watches) {r : ((List Dem) × Int)} (hM : (zaq am au av aw aa ab ax watches).Ends r) (w : World) (H : St w w [] R) : Ret Tryz.prog 35 #[.agg #[ac, ae, ag, ah, I aa, I ab, ai], ak] w fun v w' => ∃ (y0 : List Dem) (y1 : Int) (u0 : Value), (y0, y1) = r /\ v = .tuple #[u0, I y1] /\ St w w' [cOwn (α := Dem) 70 u0 y0] R := by
 refine ret_of_W Tryz.func35 rfl rfl rfl ?_
 refine W.seq ?_
 refine W.region rfl ?_
 refine t_box (v := .agg #[ac, ae, ag, ah, I aa, I ab, ai]) (cs := [ac, ae, ag, ah, I aa, I ab, ai]) H rfl rfl ?_
 intro ao aY H
 refine zA (.slice none 0 0) rfl ?_
 refine zA (I 0) rfl ?_
 refine s_nil ?_
 refine W.seq ?_
 refine W.seq ?_
 refine W.region rfl ?_
 refine s_val (x_ld (p := Pq ao) (v := .agg #[ac, ae, ag, ah, I aa, I ab, ai]) rfl (ldb_ag (ds := [ac, ae, ag, ah, I aa, I ab, ai]) Ag37 Sz37 (H.bl 0) rfl rfl)) ?_
 obtain ⟨aZ, aS, hM⟩ := M.e_bind hM
 refine s_call cf20 [.agg #[ac, ae, ag, ah, I aa, I ab, ai]] rfl (zdV am au av aw aa ab ax (aG.app _) ay (aH.app _) aI (aJ.app _) aK (aL.app _) aM (aN.app _) aO aS _ (H.gt 1)) ?_
 rintro vq a6 ⟨r2, aT, hvq, aj⟩
 subst aT
 subst vq
 try dsimp only at hM
 replace H := H.bk aj
 clear aj
 refine zA (I r2) rfl ?_
 refine s_nil ?_
 refine W.seq ?_
 refine W.region rfl ?_
 refine zM (I r2) rfl ?_
 refine zC r2 0 (r2 != 0) rfl rfl rfl ?_
 refine s_nil ?_
 refine W.cond (r2 != 0) rfl (fun ap => ?_) (fun ap => ?_)
 ·replace hM := M.e_t hM ap
  simp only [qy1, qy2, qy3, qy4, qy5, qy6, ne_eq, qy7] at ap
  refine W.seq ?_
  refine W.region rfl ?_
  refine zM (I r2) rfl ?_
  refine zA (.slice none 0 0) rfl ?_
  refine zA (I r2) rfl ?_
  refine s_nil ?_
  refine W.ret ?_
  have aq := M.e_pure hM
  replace H := H.nilOwn (α := Dem) 70
  exact ⟨_, resE_tmp2 rfl, ⟨([]), r2, (.slice none 0 0), aq, rfl, (H.pk [0])⟩⟩
 replace hM := M.e_f hM ap
 simp only [qy1, qy2, qy3, qy4, qy5, qy6, ne_eq, qy7] at ap
 refine W.skip ?_
 refine W.seq ?_
 refine W.seq ?_
 refine W.region rfl ?_
 refine zM ak rfl ?_
 refine s_val (x_fa (a := Pq ao) (v := Pq ao) rfl (fa_blk (o := 0) Fd37_0 Sz22)) ?_
 refine s_val (x_ld (p := Pq ao) (v := ac) rfl (ldb_sc Sc22 (H.bl 0) rfl)) ?_
 have a7 := (ay).len_le
 refine s_val (x_lenS T22.und rfl ay) ?_
 obtain ⟨a8, aU, hM⟩ := M.e_bind hM
 refine s_call cf70 [ak, I (am.length : Int)] rfl (zcT watches (am.length : Int) (aP.app _) aQ aU _ (H.gt 1)) ?_
 rintro vq ba ⟨r3, aV, hvq, aj⟩
 subst aV
 subst vq
 try dsimp only at hM
 replace H := H.bk aj
 clear aj
 refine s_nil ?_
 refine W.cond r3 rfl (fun az => ?_) (fun az => ?_)
 ·replace hM := M.e_t hM az
  refine W.seq ?_
  refine W.region rfl ?_
  refine zA (.slice none 0 0) rfl ?_
  refine zA (I 2) rfl ?_
  refine s_nil ?_
  refine W.ret ?_
  have aq := M.e_pure hM
  replace H := H.nilOwn (α := Dem) 70
  exact ⟨_, resE_tmp2 rfl, ⟨([]), 2, (.slice none 0 0), aq, rfl, (H.pk [0])⟩⟩
 replace hM := M.e_f hM az
 refine W.skip ?_
 refine W.seq ?_
 refine W.region rfl ?_
 refine s_val (x_ld (p := Pq ao) (v := .agg #[ac, ae, ag, ah, I aa, I ab, ai]) rfl (ldb_ag (ds := [ac, ae, ag, ah, I aa, I ab, ai]) Ag37 Sz37 (H.bl 0) rfl rfl)) ?_
 refine zM ak rfl ?_
 obtain ⟨bc, aW, hM⟩ := M.e_bind hM
 refine s_call cf88 [.agg #[ac, ae, ag, ah, I aa, I ab, ai], ak] rfl (zdJ am au av aw aa ab ax watches (aG.app _) ay (aH.app _) aI (aJ.app _) aK (aL.app _) aM (aN.app _) aO (aP.app _) aQ aW _ (H.gt 1)) ?_
 rintro vq bf ⟨r4, aR, aX, hvq, aj⟩
 subst aX
 subst vq
 try dsimp only at hM
 replace H := H.bk aj
 clear aj
 refine zA aR rfl ?_
 refine zA (I 0) rfl ?_
 refine s_nil ?_
 refine W.ret ?_
 have aq := M.e_pure hM
 exact ⟨_, resE_tmp2 rfl, ⟨r4, 0, aR, aq, rfl, (H.pk [0])⟩⟩

def za4 (watches : List Int) (f : Flood) (r2 : List Int) (i : Int) : (Int × Int × Nat) -> M ((Int × Int × Nat) ⊕ (Int × Int)) := fun (who, stage, k) =>
  bif decide ((k : Int) < (watches.length : Int)) then (
  M.grd (decide ((k : Int) < (watches.length : Int))) <|
  M.grd (decide ((0 : Int) <= i) && decide (i < (r2.length : Int))) <|
  bif (watches.getD k 0) == (r2.getD (Int.toNat i) 0) then (
  M.grd (decide ((0 : Int) <= i) && decide (i < (f.stages.length : Int))) <|
  M.pure (.inl (r2.getD (Int.toNat i) 0, f.stages.getD (Int.toNat i) 0, k + 1)))
  else (
  M.pure (.inl (who, stage, k + 1))))
  else (
  M.pure (.inr (who, stage)))
def zaY (aa : List Town) (f : Flood) (r2 : List Int) (i : Int) : (Bool × Nat) -> M ((Bool × Nat) ⊕ Bool) := fun (danger, k2) =>
  bif decide ((k2 : Int) < (aa.length : Int)) then (
  M.grd ((!(!danger) || (decide ((k2 : Int) < (aa.length : Int))))) <|
  M.grd ((!(!danger) || (decide ((0 : Int) <= i) && decide (i < (r2.length : Int))))) <|
  M.grd ((!((!danger) && (((aa.getD k2 default).station) == (r2.getD (Int.toNat i) 0))) || (decide ((k2 : Int) < (aa.length : Int))))) <|
  M.grd ((!((!danger) && (((aa.getD k2 default).station) == (r2.getD (Int.toNat i) 0))) || (decide ((0 : Int) <= i) && decide (i < (f.stages.length : Int))))) <|
  M.pure (.inl ((danger || ((((aa.getD k2 default).station) == (r2.getD (Int.toNat i) 0)) && (decide (((aa.getD k2 default).alarm) <= (f.stages.getD (Int.toNat i) 0))))), k2 + 1)))
  else (
  M.pure (.inr danger))
def zbI (aa : List Town) (watches : List Int) (f : Flood) (r2 : List Int) : (Int × Int × Bool × Int) -> M ((Int × Int × Bool × Int) ⊕ (Int × Int × Bool)) := fun (who3, stage3, danger3, i) =>
  bif decide (0 <= i) then (
  M.bind (M.iter (za4 watches f r2 i) (who3, stage3, 0)) fun (who2, stage2) =>
  M.bind (M.iter (zaY aa f r2 i) (danger3, 0)) fun danger2 =>
  M.grd (decide ((-9223372036854775808 : Int) <= (i - 1)) && decide ((i - 1) <= (9223372036854775807 : Int))) <|
  M.pure (.inl (who2, stage2, danger2, i - 1)))
  else (
  M.pure (.inr (who3, stage3, danger3)))
def zaw (ab : List Int) (ac : List Span) (ae : List Int) (aa : List Town) (ag : Int) (ah : Int) (ai : List Flood) (watches : List Int) (f : Flood) : M (Int × Int × Bool) :=
  M.bind (zbB ab ac ae aa ag ah ai f.spring) fun r2 =>
  M.bind (M.iter (zbI aa watches f r2) (-1, 0, false, (r2.length : Int) - 1)) fun (who4, stage4, danger4) =>
  M.pure (who4, stage4, danger4)
theorem zcG {R : List Chunk} {aT : Cells} {aw : Value} {aU : Cells} {ax : Value} {aV : Cells} {ay : Value} {aW : Cells} {ah : Value} {aX : Cells} {az : Value} {aY : Cells} {aB : Value} {aZ : Cells} {am : Value} (aK : List Int) (aL : List Span) (aM : List Int) (ac : List Town) (au : Int) (av : Int) (aN : List Flood) (watches : List Int) (f : Flood) (bm : Reads R aT) (bn : Sl aT aw aK) (bo : Reads R aU) (bp : Sl aU ax aL) (bq : Reads R aV) (br : Sl aV ay aM) (aO : Reads R aW) (aC : Sl aW ah ac) (bt : Reads R aX) (bu : Sl aX az aN) (bv : Reads R aY) (aI : Sl aY aB watches) (a6 : Reads R aZ) (aJ : Sl aZ am f.stages) {r : (Int × Int × Bool)} (hM : (zaw aK aL aM ac au av aN watches f).Ends r) (w : World) (H : St w w [] R) : Ret Tryz.prog 50 #[.agg #[aw, ax, ay, ah, I au, I av, az], aB, .agg #[I f.spring, am]] w fun v w' => ∃ (y0 : Int) (y1 : Int) (y2 : Bool), (y0, y1, y2) = r /\ v = .tuple #[I y0, I y1, B y2] /\ St w w' [] R := by
 refine ret_of_W Tryz.func50 rfl rfl rfl ?_
 refine W.seq ?_
 refine W.region rfl ?_
 refine t_box (v := .agg #[aw, ax, ay, ah, I au, I av, az]) (cs := [aw, ax, ay, ah, I au, I av, az]) H rfl rfl ?_
 intro ak bR H
 refine t_box (v := .agg #[I f.spring, am]) (cs := [I f.spring, am]) H rfl rfl ?_
 intro ao bS H
 refine zA (I 0) rfl ?_
 refine zA (I 0) rfl ?_
 refine zA (B false) rfl ?_
 refine s_nil ?_
 refine W.seq ?_
 refine W.region rfl ?_
 refine s_val (x_ld (p := Pq ak) (v := .agg #[aw, ax, ay, ah, I au, I av, az]) rfl (ldb_ag (ds := [aw, ax, ay, ah, I au, I av, az]) Ag37 Sz37 (H.bl 1) rfl rfl)) ?_
 refine s_val (x_fa (a := Pq ao) (v := Pq ao) rfl (fa_blk (o := 0) Fd93_0 Sz3)) ?_
 refine s_val (x_ld (p := Pq ao) (v := I f.spring) rfl (ldb_sc Sc3 (H.bl 0) rfl)) ?_
 obtain ⟨bT, bw, hM⟩ := M.e_bind hM
 refine s_call cf71 [.agg #[aw, ax, ay, ah, I au, I av, az], I f.spring] rfl (zc3 aK aL aM ac au av aN f.spring (bm.app _) bn (bo.app _) bp (bq.app _) br (aO.app _) aC (bt.app _) bu bw _ (H.gt 2)) ?_
 rintro vq bU ⟨r2, ai, bx, hvq, a7⟩
 subst bx
 subst vq
 try dsimp only at hM
 replace H := H.bk a7
 clear a7
 refine zA ai rfl ?_
 refine s_nil ?_
 refine W.seq ?_
 refine W.region rfl ?_
 refine zA (I (-1)) rfl ?_
 refine zA (I 0) rfl ?_
 refine s_nil ?_
 refine W.seq ?_
 refine W.region rfl ?_
 refine zA (B false) rfl ?_
 refine s_nil ?_
 refine W.seq ?_
 refine W.seq ?_
 refine W.region rfl ?_
 refine zM ai rfl ?_
 have bV := ((H.os 0)).len_le
 refine s_val (x_lenS T22.und rfl (H.os 0)) ?_
 refine zR (r2.length : Int) 1 ((r2.length : Int) - 1) rfl rfl rfl (by omega) ?_
 refine zA (I ((r2.length : Int) - 1)) rfl ?_
 refine s_nil ?_
 refine W.block ?_
 obtain ⟨bz, aP, bA⟩ := M.e_bind hM
 obtain ⟨a8, aP⟩ := M.e_iter aP
 refine W.loop (fun m σ W => ∃ (who3 : Int) (stage3 : Int) (danger3 : Bool) (i : Int) (ρ : Env), σ = upds ρ [(1, aB), (3, Pq ak), (5, Pq ao), (9, ai), (10, I who3), (11, I stage3), (12, B danger3), (13, I i)] /\ M.iterN (zbI ac watches f r2) m (who3, stage3, danger3, i) = some bz /\ St w W [cOwn (α := Int) 3 ai r2, cBlk ao [I f.spring, am] 93, cBlk ak [aw, ax, ay, ah, I au, I av, az] 37] R) ?_ ?_
 ·exact ⟨_, -1, 0, false, (r2.length : Int) - 1, _, upds_of _ _ ⟨rfl, rfl, rfl, rfl, rfl, rfl, rfl, rfl, trivial⟩, aP, H⟩
 rintro bW σ bX ⟨who3, stage3, danger3, i, ρ, rfl, ba, H⟩
 obtain ⟨bB, bC, bY, hM, bc⟩ := M.e_iterN ba
 simp only [zbI] at hM
 clear ba
 refine W.seq ?_
 refine W.seq ?_
 refine W.region rfl ?_
 refine zM (I i) rfl ?_
 refine zC i 0 (decide (0 <= i)) rfl rfl rfl ?_
 refine s_nil ?_
 refine W.cond (decide (0 <= i)) rfl (fun aE => ?_) (fun aE => ?_)
 ·replace hM := M.e_t hM aE
  simp only [qy1, qy2, qy3, qy4, qy5, qy6, ne_eq, qy7] at aE
  refine W.skip ?_
  refine W.seq ?_
  refine W.block ?_
  refine W.seq ?_
  refine W.seq ?_
  refine W.region rfl ?_
  refine zA (I 0) rfl ?_
  refine s_nil ?_
  refine W.block ?_
  obtain ⟨bD, aQ, bE⟩ := M.e_bind hM
  obtain ⟨a8, aQ⟩ := M.e_iter aQ
  refine W.loop (fun m σ W => ∃ (who : Int) (stage : Int) (k : Nat) (ρ : Env), σ = upds ρ [(1, aB), (3, Pq ak), (5, Pq ao), (9, ai), (10, I who), (11, I stage), (12, B danger3), (13, I i), (14, I (k : Int))] /\ M.iterN (za4 watches f r2 i) m (who, stage, k) = some bD /\ St w W [cOwn (α := Int) 3 ai r2, cBlk ao [I f.spring, am] 93, cBlk ak [aw, ax, ay, ah, I au, I av, az] 37] R) ?_ ?_
  ·exact ⟨_, who3, stage3, 0, _, upds_of _ _ ⟨rfl, rfl, rfl, rfl, rfl, rfl, rfl, rfl, rfl, trivial⟩, aQ, H⟩
  rintro bZ σ b3 ⟨who, stage, k, ρ, rfl, bf, H⟩
  obtain ⟨bg, bh, b4, hM, aR⟩ := M.e_iterN bf
  simp only [za4] at hM
  clear bf
  refine W.seq ?_
  refine W.seq ?_
  refine W.region rfl ?_
  refine zM (I (k : Int)) rfl ?_
  refine zM aB rfl ?_
  have b5 := (aI).len_le
  refine s_val (x_lenS T22.und rfl aI) ?_
  refine zC (k : Int) (watches.length : Int) (decide ((k : Int) < (watches.length : Int))) rfl rfl rfl ?_
  refine s_nil ?_
  refine W.cond (decide ((k : Int) < (watches.length : Int))) rfl (fun aF => ?_) (fun aF => ?_)
  ·replace hM := M.e_t hM aF
   simp only [qy1, qy2, qy3, qy4, qy5, qy6, ne_eq, qy7] at aF
   refine W.skip ?_
   refine W.seq ?_
   refine W.block ?_
   refine W.seq ?_
   refine W.draw (fun W => St w W [cOwn (α := Int) 3 ai r2, cBlk ao [I f.spring, am] 93, cBlk ak [aw, ax, ay, ah, I au, I av, az] 37] R) [(0, true), (1, true), (2, true), (3, true), (4, true), (5, true), (6, true), (7, true), (8, true)] mixed (by decide +kernel) rfl ?_
   intro b6 ae
   replace H := H.ext ae
   clear ae
   refine ⟨(H.pk [0, 1, 2]), ?_⟩
   refine d_q rfl (fun w' H => x_mv (v := aB) rfl) ?_
   refine d_q rfl (fun w' H => x_mv (v := I (k : Int)) rfl) ?_
   obtain ⟨bF, hM⟩ := M.e_grd hM
   simp only [Bool.and_eq_true, decide_eq_true_eq] at bF
   refine d_q rfl (fun w' H => x_ix (a := aB) (b := I (k : Int)) (v := vat aB 1 (Int.toNat (k : Int))) rfl rfl (Sl.ix (α := Int) T22.und T22.size aI (by omega) (by omega))) ?_
   refine d_q rfl (fun w' H => x_ld (p := vat aB 1 (Int.toNat (k : Int))) (v := I (watches.getD k 0)) rfl (ld_sc Sc3 (At.mono (Int_at aI (i := (k : Int)) (by omega) (by omega)) (bv.at H)))) ?_
   refine d_q rfl (fun w' H => x_mv (v := ai) rfl) ?_
   refine d_q rfl (fun w' H => x_mv (v := I i) rfl) ?_
   obtain ⟨bG, hM⟩ := M.e_grd hM
   simp only [Bool.and_eq_true, decide_eq_true_eq] at bG
   refine d_q rfl (fun w' H => x_ix (a := ai) (b := I i) (v := vat ai 1 (Int.toNat i)) rfl rfl (Sl.ix (α := Int) T22.und T22.size (H.os 0) (by omega) (by omega))) ?_
   refine d_q rfl (fun w' H => x_ld (p := vat ai 1 (Int.toNat i)) (v := I (r2.getD (Int.toNat i) 0)) rfl (ld_sc Sc3 (At.mono (Int_at (H.os 0) (i := i) (by omega) (by omega)) (H.ol 0)))) ?_
   refine d_q rfl (fun w' H => x_cmp (kd := .i64) (a := watches.getD k 0) (b := r2.getD (Int.toNat i) 0) (r := (watches.getD k 0) == (r2.getD (Int.toNat i) 0)) rfl rfl rfl) ?_
   refine d_nil ?_
   refine W.cond ((watches.getD k 0) == (r2.getD (Int.toNat i) 0)) rfl (fun aG => ?_) (fun aG => ?_)
   ·replace hM := M.e_t hM aG
    simp only [qy1, qy2, qy3, qy4, qy5, qy6, ne_eq, qy7] at aG
    refine W.draw (fun W => St w W [cOwn (α := Int) 3 ai r2, cBlk ao [I f.spring, am] 93, cBlk ak [aw, ax, ay, ah, I au, I av, az] 37] R) [(0, true), (1, true), (2, true), (3, true), (4, true), (5, true), (6, true), (7, true), (8, true), (9, true), (10, true)] mixed (by decide +kernel) rfl ?_
    intro b7 ae
    replace H := H.ext ae
    clear ae
    refine ⟨(H.pk [0, 1, 2]), ?_⟩
    refine d_q rfl (fun w' H => x_mv (v := ai) rfl) ?_
    refine d_q rfl (fun w' H => x_mv (v := I i) rfl) ?_
    refine d_q rfl (fun w' H => x_ix (a := ai) (b := I i) (v := vat ai 1 (Int.toNat i)) rfl rfl (Sl.ix (α := Int) T22.und T22.size (H.os 0) (by omega) (by omega))) ?_
    refine d_q rfl (fun w' H => x_ld (p := vat ai 1 (Int.toNat i)) (v := I (r2.getD (Int.toNat i) 0)) rfl (ld_sc Sc3 (At.mono (Int_at (H.os 0) (i := i) (by omega) (by omega)) (H.ol 0)))) ?_
    refine d_q rfl (fun w' H => x_fa (a := Pq ao) (v := Oq ao 1) rfl (fa_blk (o := 0) Fd93_1 Sz22)) ?_
    refine d_q rfl (fun w' H => x_ld (p := Oq ao 1) (v := am) rfl (ldb_sc Sc22 (H.bl 1) rfl)) ?_
    refine d_q rfl (fun w' H => x_mv (v := I i) rfl) ?_
    obtain ⟨bH, hM⟩ := M.e_grd hM
    simp only [Bool.and_eq_true, decide_eq_true_eq] at bH
    refine d_q rfl (fun w' H => x_ix (a := am) (b := I i) (v := vat am 1 (Int.toNat i)) rfl rfl (Sl.ix (α := Int) T22.und T22.size aJ (by omega) (by omega))) ?_
    refine d_q rfl (fun w' H => x_ld (p := vat am 1 (Int.toNat i)) (v := I (f.stages.getD (Int.toNat i) 0)) rfl (ld_sc Sc3 (At.mono (Int_at aJ (i := i) (by omega) (by omega)) (a6.at H)))) ?_
    refine d_q rfl (fun w' H => x_as (v := I (r2.getD (Int.toNat i) 0)) rfl) ?_
    refine d_q rfl (fun w' H => x_as (v := I (f.stages.getD (Int.toNat i) 0)) rfl) ?_
    refine d_nil ?_
    refine W.region rfl ?_
    refine zM (I (k : Int)) rfl ?_
    refine zR (k : Int) 1 ((k : Int) + 1) rfl rfl rfl (by omega) ?_
    refine zA (I ((k : Int) + 1)) rfl ?_
    refine s_nil ?_
    exact ⟨bg, bh, r2.getD (Int.toNat i) 0, f.stages.getD (Int.toNat i) 0, k + 1, _, upds_of _ _ ⟨rfl, rfl, rfl, rfl, rfl, rfl, rfl, rfl, rfl, trivial⟩, M.e_inl hM aR, H⟩
   replace hM := M.e_f hM aG
   simp only [qy1, qy2, qy3, qy4, qy5, qy6, ne_eq, qy7] at aG
   refine W.skip ?_
   refine W.region rfl ?_
   refine zM (I (k : Int)) rfl ?_
   refine zR (k : Int) 1 ((k : Int) + 1) rfl rfl rfl (by omega) ?_
   refine zA (I ((k : Int) + 1)) rfl ?_
   refine s_nil ?_
   exact ⟨bg, bh, who, stage, k + 1, _, upds_of _ _ ⟨rfl, rfl, rfl, rfl, rfl, rfl, rfl, rfl, rfl, trivial⟩, M.e_inl hM aR, H⟩
  replace hM := M.e_f hM aF
  simp only [qy1, qy2, qy3, qy4, qy5, qy6, ne_eq, qy7] at aF
  refine W.exit ?_
  have bI := M.e_inr hM aR
  subst bI
  replace hM := bE
  try dsimp only at hM
  refine W.seq ?_
  refine W.region rfl ?_
  refine zA (I 0) rfl ?_
  refine s_nil ?_
  refine W.block ?_
  obtain ⟨bJ, aS, bK⟩ := M.e_bind hM
  obtain ⟨a8, aS⟩ := M.e_iter aS
  refine W.loop (fun m σ W => ∃ (danger : Bool) (k2 : Nat) (ρ : Env), σ = upds ρ [(1, aB), (3, Pq ak), (5, Pq ao), (9, ai), (10, I who), (11, I stage), (12, B danger), (13, I i), (15, I (k2 : Int))] /\ M.iterN (zaY ac f r2 i) m (danger, k2) = some bJ /\ St w W [cOwn (α := Int) 3 ai r2, cBlk ao [I f.spring, am] 93, cBlk ak [aw, ax, ay, ah, I au, I av, az] 37] R) ?_ ?_
  ·exact ⟨_, danger3, 0, _, upds_of _ _ ⟨rfl, rfl, rfl, rfl, rfl, rfl, rfl, rfl, rfl, trivial⟩, aS, H⟩
  rintro b8 σ b9 ⟨danger, k2, ρ, rfl, bi, H⟩
  obtain ⟨bL, bM, ca, hM, bj⟩ := M.e_iterN bi
  simp only [zaY] at hM
  clear bi
  refine W.seq ?_
  refine W.seq ?_
  refine W.region rfl ?_
  refine zM (I (k2 : Int)) rfl ?_
  refine s_val (x_fa (a := Pq ak) (v := Oq ak 3) rfl (fa_blk (o := 0) Fd37_3 Sz34)) ?_
  refine s_val (x_ld (p := Oq ak 3) (v := ah) rfl (ldb_sc Sc34 (H.bl 2) rfl)) ?_
  have cb := (aC).len_le
  refine s_val (x_lenS T34.und rfl aC) ?_
  refine zC (k2 : Int) (ac.length : Int) (decide ((k2 : Int) < (ac.length : Int))) rfl rfl rfl ?_
  refine s_nil ?_
  refine W.cond (decide ((k2 : Int) < (ac.length : Int))) rfl (fun aH => ?_) (fun aH => ?_)
  ·replace hM := M.e_t hM aH
   simp only [qy1, qy2, qy3, qy4, qy5, qy6, ne_eq, qy7] at aH
   refine W.skip ?_
   refine W.seq ?_
   refine W.block ?_
   refine W.draw (fun W => St w W [cOwn (α := Int) 3 ai r2, cBlk ao [I f.spring, am] 93, cBlk ak [aw, ax, ay, ah, I au, I av, az] 37] R) [(0, true), (1, true), (2, true), (3, true), (4, true), (5, true), (6, true), (7, true), (8, true), (9, true), (10, true), (11, true), (12, true), (13, true), (14, true), (15, true), (16, true), (17, true), (18, true), (19, true), (20, true), (21, true), (22, true), (23, true), (24, true), (25, true), (26, true), (27, true), (28, true)] mixed (by decide +kernel) rfl ?_
   intro cc ae
   replace H := H.ext ae
   clear ae
   refine ⟨(H.pk [0, 1, 2]), ?_⟩
   refine d_q rfl (fun w' H => x_mv (v := B danger) rfl) ?_
   refine d_q rfl (fun w' H => x_mv (v := B danger) rfl) ?_
   refine d_qg (!danger) rfl (gy_f rfl) (fun hg => (fun w' H => x_fa (a := Pq ak) (v := Oq ak 3) rfl (fa_blk (o := 0) Fd37_3 Sz34))) ?_
   refine d_qg (!danger) rfl (gy_f rfl) (fun hg => (fun w' H => x_ld (p := Oq ak 3) (v := ah) (gd_of (c := !danger) hg (Oq ak 3)) (ldb_sc Sc34 (H.bl 2) rfl))) ?_
   refine d_qg (!danger) rfl (gy_f rfl) (fun hg => (fun w' H => x_mv (v := I (k2 : Int)) rfl)) ?_
   obtain ⟨aj, hM⟩ := M.e_grd hM
   replace aj := M.imp_of aj
   simp only [Bool.and_eq_true, decide_eq_true_eq] at aj
   refine d_qg (!danger) rfl (gy_f rfl) (fun hg => (fun w' H => x_ix (a := ah) (b := I (k2 : Int)) (v := vat ah 3 (Int.toNat (k2 : Int))) (gd_of (c := !danger) hg (ah)) (gd_of (c := !danger) hg (I (k2 : Int))) (Sl.ix (α := Town) T34.und T34.size aC (by have aa := aj.resolve_left (by rw [hg]; decide); first | exact aa | exact aa.1 | exact aa.2 | omega | (have ae := hg; simp at ae; omega)) (by have aa := aj.resolve_left (by rw [hg]; decide); first | exact aa | exact aa.1 | exact aa.2 | omega | (have ae := hg; simp at ae; omega))))) ?_
   refine d_qg (!danger) rfl (gy_f rfl) (fun hg => (fun w' H => x_fa (a := vat ah 3 (Int.toNat (k2 : Int))) (v := fat (vat ah 3 (Int.toNat (k2 : Int))) 0) (gd_of (c := !danger) hg (vat ah 3 (Int.toNat (k2 : Int)))) (fa_pl Fd92_0 Sz3 (Sl.pl (i := (k2 : Int)) aC (by have aa := aj.resolve_left (by rw [hg]; decide); first | exact aa | exact aa.1 | exact aa.2 | omega | (have ae := hg; simp at ae; omega)) (by have aa := aj.resolve_left (by rw [hg]; decide); first | exact aa | exact aa.1 | exact aa.2 | omega | (have ae := hg; simp at ae; omega)))))) ?_
   refine d_qg (!danger) rfl (gy_f rfl) (fun hg => (fun w' H => x_ld (p := fat (vat ah 3 (Int.toNat (k2 : Int))) 0) (v := I ((ac.getD k2 default).station)) (gd_of (c := !danger) hg (fat (vat ah 3 (Int.toNat (k2 : Int))) 0)) (ld_sc Sc3 (At.mono (Town_at0 aC (i := (k2 : Int)) (by have aa := aj.resolve_left (by rw [hg]; decide); first | exact aa | exact aa.1 | exact aa.2 | omega | (have ae := hg; simp at ae; omega)) (by have aa := aj.resolve_left (by rw [hg]; decide); first | exact aa | exact aa.1 | exact aa.2 | omega | (have ae := hg; simp at ae; omega))) (aO.at H))))) ?_
   refine d_qg (!danger) rfl (gy_f rfl) (fun hg => (fun w' H => x_mv (v := ai) rfl)) ?_
   refine d_qg (!danger) rfl (gy_f rfl) (fun hg => (fun w' H => x_mv (v := I i) rfl)) ?_
   obtain ⟨ap, hM⟩ := M.e_grd hM
   replace ap := M.imp_of ap
   simp only [Bool.and_eq_true, decide_eq_true_eq] at ap
   refine d_qg (!danger) rfl (gy_f rfl) (fun hg => (fun w' H => x_ix (a := ai) (b := I i) (v := vat ai 1 (Int.toNat i)) (gd_of (c := !danger) hg (ai)) (gd_of (c := !danger) hg (I i)) (Sl.ix (α := Int) T22.und T22.size (H.os 0) (by have aa := aj.resolve_left (by rw [hg]; decide); have ab := ap.resolve_left (by rw [hg]; decide); first | exact aa | exact aa.1 | exact aa.2 | exact ab | exact ab.1 | exact ab.2 | omega | (have ae := hg; simp at ae; omega)) (by have aa := aj.resolve_left (by rw [hg]; decide); have ab := ap.resolve_left (by rw [hg]; decide); first | exact aa | exact aa.1 | exact aa.2 | exact ab | exact ab.1 | exact ab.2 | omega | (have ae := hg; simp at ae; omega))))) ?_
   refine d_qg (!danger) rfl (gy_f rfl) (fun hg => (fun w' H => x_ld (p := vat ai 1 (Int.toNat i)) (v := I (r2.getD (Int.toNat i) 0)) (gd_of (c := !danger) hg (vat ai 1 (Int.toNat i))) (ld_sc Sc3 (At.mono (Int_at (H.os 0) (i := i) (by have aa := aj.resolve_left (by rw [hg]; decide); have ab := ap.resolve_left (by rw [hg]; decide); first | exact aa | exact aa.1 | exact aa.2 | exact ab | exact ab.1 | exact ab.2 | omega | (have ae := hg; simp at ae; omega)) (by have aa := aj.resolve_left (by rw [hg]; decide); have ab := ap.resolve_left (by rw [hg]; decide); first | exact aa | exact aa.1 | exact aa.2 | exact ab | exact ab.1 | exact ab.2 | omega | (have ae := hg; simp at ae; omega))) (H.ol 0))))) ?_
   refine d_qg (!danger) rfl (gy_f rfl) (fun hg => (fun w' H => x_cmp (kd := .i64) (a := (ac.getD k2 default).station) (b := r2.getD (Int.toNat i) 0) (r := ((ac.getD k2 default).station) == (r2.getD (Int.toNat i) 0)) (gd_of (c := !danger) hg (I ((ac.getD k2 default).station))) (gd_of (c := !danger) hg (I (r2.getD (Int.toNat i) 0))) rfl)) ?_
   refine d_qg (!danger) rfl (gy_f rfl) (fun hg => (fun w' H => x_mv (v := B (((ac.getD k2 default).station) == (r2.getD (Int.toNat i) 0))) (gd_of (c := !danger) hg (B (((ac.getD k2 default).station) == (r2.getD (Int.toNat i) 0)))))) ?_
   refine d_qg ((!danger) && (((ac.getD k2 default).station) == (r2.getD (Int.toNat i) 0))) rfl (gy_gt rfl rfl) (fun hg => (fun w' H => x_fa (a := Pq ak) (v := Oq ak 3) rfl (fa_blk (o := 0) Fd37_3 Sz34))) ?_
   refine d_qg ((!danger) && (((ac.getD k2 default).station) == (r2.getD (Int.toNat i) 0))) rfl (gy_gt rfl rfl) (fun hg => (fun w' H => x_ld (p := Oq ak 3) (v := ah) (gd_of (c := ((!danger) && (((ac.getD k2 default).station) == (r2.getD (Int.toNat i) 0)))) hg (Oq ak 3)) (ldb_sc Sc34 (H.bl 2) rfl))) ?_
   refine d_qg ((!danger) && (((ac.getD k2 default).station) == (r2.getD (Int.toNat i) 0))) rfl (gy_gt rfl rfl) (fun hg => (fun w' H => x_mv (v := I (k2 : Int)) rfl)) ?_
   obtain ⟨aA, hM⟩ := M.e_grd hM
   replace aA := M.imp_of aA
   simp only [Bool.and_eq_true, decide_eq_true_eq] at aA
   refine d_qg ((!danger) && (((ac.getD k2 default).station) == (r2.getD (Int.toNat i) 0))) rfl (gy_gt rfl rfl) (fun hg => (fun w' H => x_ix (a := ah) (b := I (k2 : Int)) (v := vat ah 3 (Int.toNat (k2 : Int))) (gd_of (c := ((!danger) && (((ac.getD k2 default).station) == (r2.getD (Int.toNat i) 0)))) hg (ah)) (gd_of (c := ((!danger) && (((ac.getD k2 default).station) == (r2.getD (Int.toNat i) 0)))) hg (I (k2 : Int))) (Sl.ix (α := Town) T34.und T34.size aC (by have aa := aA.resolve_left (by rw [hg]; decide); have ab := aj.resolve_left (by rw [(Eq.mp (Bool.and_eq_true _ _) hg).1]; decide); have ag := ap.resolve_left (by rw [(Eq.mp (Bool.and_eq_true _ _) hg).1]; decide); first | exact aa | exact aa.1 | exact aa.2 | exact ab | exact ab.1 | exact ab.2 | exact ag | exact ag.1 | exact ag.2 | omega | (have ae := hg; simp at ae; omega)) (by have aa := aA.resolve_left (by rw [hg]; decide); have ab := aj.resolve_left (by rw [(Eq.mp (Bool.and_eq_true _ _) hg).1]; decide); have ag := ap.resolve_left (by rw [(Eq.mp (Bool.and_eq_true _ _) hg).1]; decide); first | exact aa | exact aa.1 | exact aa.2 | exact ab | exact ab.1 | exact ab.2 | exact ag | exact ag.1 | exact ag.2 | omega | (have ae := hg; simp at ae; omega))))) ?_
   refine d_qg ((!danger) && (((ac.getD k2 default).station) == (r2.getD (Int.toNat i) 0))) rfl (gy_gt rfl rfl) (fun hg => (fun w' H => x_fa (a := vat ah 3 (Int.toNat (k2 : Int))) (v := fat (vat ah 3 (Int.toNat (k2 : Int))) 2) (gd_of (c := ((!danger) && (((ac.getD k2 default).station) == (r2.getD (Int.toNat i) 0)))) hg (vat ah 3 (Int.toNat (k2 : Int)))) (fa_pl Fd92_2 Sz3 (Sl.pl (i := (k2 : Int)) aC (by have aa := aA.resolve_left (by rw [hg]; decide); have ab := aj.resolve_left (by rw [(Eq.mp (Bool.and_eq_true _ _) hg).1]; decide); have ag := ap.resolve_left (by rw [(Eq.mp (Bool.and_eq_true _ _) hg).1]; decide); first | exact aa | exact aa.1 | exact aa.2 | exact ab | exact ab.1 | exact ab.2 | exact ag | exact ag.1 | exact ag.2 | omega | (have ae := hg; simp at ae; omega)) (by have aa := aA.resolve_left (by rw [hg]; decide); have ab := aj.resolve_left (by rw [(Eq.mp (Bool.and_eq_true _ _) hg).1]; decide); have ag := ap.resolve_left (by rw [(Eq.mp (Bool.and_eq_true _ _) hg).1]; decide); first | exact aa | exact aa.1 | exact aa.2 | exact ab | exact ab.1 | exact ab.2 | exact ag | exact ag.1 | exact ag.2 | omega | (have ae := hg; simp at ae; omega)))))) ?_
   refine d_qg ((!danger) && (((ac.getD k2 default).station) == (r2.getD (Int.toNat i) 0))) rfl (gy_gt rfl rfl) (fun hg => (fun w' H => x_ld (p := fat (vat ah 3 (Int.toNat (k2 : Int))) 2) (v := I ((ac.getD k2 default).alarm)) (gd_of (c := ((!danger) && (((ac.getD k2 default).station) == (r2.getD (Int.toNat i) 0)))) hg (fat (vat ah 3 (Int.toNat (k2 : Int))) 2)) (ld_sc Sc3 (At.mono (Town_at2 aC (i := (k2 : Int)) (by have aa := aA.resolve_left (by rw [hg]; decide); have ab := aj.resolve_left (by rw [(Eq.mp (Bool.and_eq_true _ _) hg).1]; decide); have ag := ap.resolve_left (by rw [(Eq.mp (Bool.and_eq_true _ _) hg).1]; decide); first | exact aa | exact aa.1 | exact aa.2 | exact ab | exact ab.1 | exact ab.2 | exact ag | exact ag.1 | exact ag.2 | omega | (have ae := hg; simp at ae; omega)) (by have aa := aA.resolve_left (by rw [hg]; decide); have ab := aj.resolve_left (by rw [(Eq.mp (Bool.and_eq_true _ _) hg).1]; decide); have ag := ap.resolve_left (by rw [(Eq.mp (Bool.and_eq_true _ _) hg).1]; decide); first | exact aa | exact aa.1 | exact aa.2 | exact ab | exact ab.1 | exact ab.2 | exact ag | exact ag.1 | exact ag.2 | omega | (have ae := hg; simp at ae; omega))) (aO.at H))))) ?_
   refine d_qg ((!danger) && (((ac.getD k2 default).station) == (r2.getD (Int.toNat i) 0))) rfl (gy_gt rfl rfl) (fun hg => (fun w' H => x_fa (a := Pq ao) (v := Oq ao 1) rfl (fa_blk (o := 0) Fd93_1 Sz22))) ?_
   refine d_qg ((!danger) && (((ac.getD k2 default).station) == (r2.getD (Int.toNat i) 0))) rfl (gy_gt rfl rfl) (fun hg => (fun w' H => x_ld (p := Oq ao 1) (v := am) (gd_of (c := ((!danger) && (((ac.getD k2 default).station) == (r2.getD (Int.toNat i) 0)))) hg (Oq ao 1)) (ldb_sc Sc22 (H.bl 1) rfl))) ?_
   refine d_qg ((!danger) && (((ac.getD k2 default).station) == (r2.getD (Int.toNat i) 0))) rfl (gy_gt rfl rfl) (fun hg => (fun w' H => x_mv (v := I i) rfl)) ?_
   obtain ⟨aD, hM⟩ := M.e_grd hM
   replace aD := M.imp_of aD
   simp only [Bool.and_eq_true, decide_eq_true_eq] at aD
   refine d_qg ((!danger) && (((ac.getD k2 default).station) == (r2.getD (Int.toNat i) 0))) rfl (gy_gt rfl rfl) (fun hg => (fun w' H => x_ix (a := am) (b := I i) (v := vat am 1 (Int.toNat i)) (gd_of (c := ((!danger) && (((ac.getD k2 default).station) == (r2.getD (Int.toNat i) 0)))) hg (am)) (gd_of (c := ((!danger) && (((ac.getD k2 default).station) == (r2.getD (Int.toNat i) 0)))) hg (I i)) (Sl.ix (α := Int) T22.und T22.size aJ (by have aa := aA.resolve_left (by rw [hg]; decide); have ab := aD.resolve_left (by rw [hg]; decide); have ag := aj.resolve_left (by rw [(Eq.mp (Bool.and_eq_true _ _) hg).1]; decide); have aq := ap.resolve_left (by rw [(Eq.mp (Bool.and_eq_true _ _) hg).1]; decide); first | exact aa | exact aa.1 | exact aa.2 | exact ab | exact ab.1 | exact ab.2 | exact ag | exact ag.1 | exact ag.2 | exact aq | exact aq.1 | exact aq.2 | omega | (have ae := hg; simp at ae; omega)) (by have aa := aA.resolve_left (by rw [hg]; decide); have ab := aD.resolve_left (by rw [hg]; decide); have ag := aj.resolve_left (by rw [(Eq.mp (Bool.and_eq_true _ _) hg).1]; decide); have aq := ap.resolve_left (by rw [(Eq.mp (Bool.and_eq_true _ _) hg).1]; decide); first | exact aa | exact aa.1 | exact aa.2 | exact ab | exact ab.1 | exact ab.2 | exact ag | exact ag.1 | exact ag.2 | exact aq | exact aq.1 | exact aq.2 | omega | (have ae := hg; simp at ae; omega))))) ?_
   refine d_qg ((!danger) && (((ac.getD k2 default).station) == (r2.getD (Int.toNat i) 0))) rfl (gy_gt rfl rfl) (fun hg => (fun w' H => x_ld (p := vat am 1 (Int.toNat i)) (v := I (f.stages.getD (Int.toNat i) 0)) (gd_of (c := ((!danger) && (((ac.getD k2 default).station) == (r2.getD (Int.toNat i) 0)))) hg (vat am 1 (Int.toNat i))) (ld_sc Sc3 (At.mono (Int_at aJ (i := i) (by have aa := aA.resolve_left (by rw [hg]; decide); have ab := aD.resolve_left (by rw [hg]; decide); have ag := aj.resolve_left (by rw [(Eq.mp (Bool.and_eq_true _ _) hg).1]; decide); have aq := ap.resolve_left (by rw [(Eq.mp (Bool.and_eq_true _ _) hg).1]; decide); first | exact aa | exact aa.1 | exact aa.2 | exact ab | exact ab.1 | exact ab.2 | exact ag | exact ag.1 | exact ag.2 | exact aq | exact aq.1 | exact aq.2 | omega | (have ae := hg; simp at ae; omega)) (by have aa := aA.resolve_left (by rw [hg]; decide); have ab := aD.resolve_left (by rw [hg]; decide); have ag := aj.resolve_left (by rw [(Eq.mp (Bool.and_eq_true _ _) hg).1]; decide); have aq := ap.resolve_left (by rw [(Eq.mp (Bool.and_eq_true _ _) hg).1]; decide); first | exact aa | exact aa.1 | exact aa.2 | exact ab | exact ab.1 | exact ab.2 | exact ag | exact ag.1 | exact ag.2 | exact aq | exact aq.1 | exact aq.2 | omega | (have ae := hg; simp at ae; omega))) (a6.at H))))) ?_
   refine d_qg ((!danger) && (((ac.getD k2 default).station) == (r2.getD (Int.toNat i) 0))) rfl (gy_gt rfl rfl) (fun hg => (fun w' H => x_cmp (kd := .i64) (a := (ac.getD k2 default).alarm) (b := f.stages.getD (Int.toNat i) 0) (r := decide (((ac.getD k2 default).alarm) <= (f.stages.getD (Int.toNat i) 0))) (gd_of (c := ((!danger) && (((ac.getD k2 default).station) == (r2.getD (Int.toNat i) 0)))) hg (I ((ac.getD k2 default).alarm))) (gd_of (c := ((!danger) && (((ac.getD k2 default).station) == (r2.getD (Int.toNat i) 0)))) hg (I (f.stages.getD (Int.toNat i) 0))) rfl)) ?_
   refine d_qg (!danger) rfl (gy_f rfl) (fun hg => (fun w' H => x_pand (b := ((ac.getD k2 default).station) == (r2.getD (Int.toNat i) 0)) (r := decide (((ac.getD k2 default).alarm) <= (f.stages.getD (Int.toNat i) 0))) (gd_of (c := !danger) hg (B (((ac.getD k2 default).station) == (r2.getD (Int.toNat i) 0)))) (fun hb => gd_of (c := ((!danger) && (((ac.getD k2 default).station) == (r2.getD (Int.toNat i) 0)))) (by first | exact hb | (rw [hb]; rfl) | simp_all) (B (decide (((ac.getD k2 default).alarm) <= (f.stages.getD (Int.toNat i) 0))))) rfl)) ?_
   refine d_q rfl (fun w' H => x_por (b := danger) (r := ((((ac.getD k2 default).station) == (r2.getD (Int.toNat i) 0)) && (decide (((ac.getD k2 default).alarm) <= (f.stages.getD (Int.toNat i) 0))))) rfl rfl (fun hb => gd_of (c := !danger) (by first | exact hb | (rw [hb]; rfl) | simp_all) (B ((((ac.getD k2 default).station) == (r2.getD (Int.toNat i) 0)) && (decide (((ac.getD k2 default).alarm) <= (f.stages.getD (Int.toNat i) 0))))))) ?_
   refine d_q rfl (fun w' H => x_as (v := B (danger || ((((ac.getD k2 default).station) == (r2.getD (Int.toNat i) 0)) && (decide (((ac.getD k2 default).alarm) <= (f.stages.getD (Int.toNat i) 0)))))) rfl) ?_
   refine d_nil ?_
   refine W.region rfl ?_
   refine zM (I (k2 : Int)) rfl ?_
   refine zR (k2 : Int) 1 ((k2 : Int) + 1) rfl rfl rfl (by omega) ?_
   refine zA (I ((k2 : Int) + 1)) rfl ?_
   refine s_nil ?_
   exact ⟨bL, bM, (danger || ((((ac.getD k2 default).station) == (r2.getD (Int.toNat i) 0)) && (decide (((ac.getD k2 default).alarm) <= (f.stages.getD (Int.toNat i) 0))))), k2 + 1, _, upds_of _ _ ⟨rfl, rfl, rfl, rfl, rfl, rfl, rfl, rfl, rfl, trivial⟩, M.e_inl hM bj, H⟩
  replace hM := M.e_f hM aH
  simp only [qy1, qy2, qy3, qy4, qy5, qy6, ne_eq, qy7] at aH
  refine W.exit ?_
  have bN := M.e_inr hM bj
  subst bN
  replace hM := bK
  try dsimp only at hM
  refine W.region rfl ?_
  refine zM (I i) rfl ?_
  obtain ⟨bO, hM⟩ := M.e_grd hM
  simp only [Bool.and_eq_true, decide_eq_true_eq] at bO
  refine zR i 1 (i - 1) rfl rfl rfl (by omega) ?_
  refine zA (I (i - 1)) rfl ?_
  refine s_nil ?_
  exact ⟨bB, bC, who, stage, danger, i - 1, _, upds_of _ _ ⟨rfl, rfl, rfl, rfl, rfl, rfl, rfl, rfl, trivial⟩, M.e_inl hM bc, H⟩
 replace hM := M.e_f hM aE
 simp only [qy1, qy2, qy3, qy4, qy5, qy6, ne_eq, qy7] at aE
 refine W.exit ?_
 have bP := M.e_inr hM bc
 subst bP
 replace hM := bA
 try dsimp only at hM
 replace H := H.pk []
 refine W.seq ?_
 refine W.region rfl ?_
 refine zM (I who3) rfl ?_
 refine zM (I stage3) rfl ?_
 refine zM (B danger3) rfl ?_
 refine zA (I who3) rfl ?_
 refine zA (I stage3) rfl ?_
 refine zA (B danger3) rfl ?_
 refine s_nil ?_
 refine W.ret ?_
 have bQ := M.e_pure hM
 exact ⟨_, resE_tmp3 rfl, ⟨who3, stage3, danger3, bQ, rfl, H⟩⟩

def zba (ab : List Int) (ac : List Span) (ae : List Int) (ag : List Town) (ah : Int) (ai : Int) (aa : List Flood) (watches : List Int) (flood : Int) : M (Int × Bool × Int) :=
  M.bind (zaq ab ac ae ag ah ai aa watches) fun (r0, r1) =>
  bif r1 != 0 then (
  M.pure (0, false, r1))
  else (
  M.bind (zaf flood 0 ((aa.length : Int) - 1)) fun r2 =>
  bif r2 then (
  M.pure (0, false, 2))
  else (
  M.grd (decide ((0 : Int) <= flood) && decide (flood < (aa.length : Int))) <|
  M.bind (zaw ab ac ae ag ah ai aa watches (aa.getD (Int.toNat flood) default)) fun (aj, am, ak) =>
  M.pure (aj, ak, 0)))
theorem zdm {R : List Chunk} {aH : Cells} {ag : Value} {aI : Cells} {ah : Value} {aJ : Cells} {ai : Value} {aK : Cells} {aj : Value} {aL : Cells} {aa : Value} {aM : Cells} {aq : Value} (az : List Int) (aA : List Span) (aB : List Int) (aC : List Town) (ab : Int) (ac : Int) (ae : List Flood) (watches : List Int) (flood : Int) (aN : Reads R aH) (aO : Sl aH ag az) (aP : Reads R aI) (aQ : Sl aI ah aA) (aR : Reads R aJ) (aS : Sl aJ ai aB) (aT : Reads R aK) (aU : Sl aK aj aC) (aD : Reads R aL) (au : Sl aL aa ae) (aV : Reads R aM) (aW : Sl aM aq watches) {r : (Int × Bool × Int)} (hM : (zba az aA aB aC ab ac ae watches flood).Ends r) (w : World) (H : St w w [] R) : Ret Tryz.prog 12 #[.agg #[ag, ah, ai, aj, I ab, I ac, aa], aq, I flood] w fun v w' => ∃ (y0 : Int) (y1 : Bool) (y2 : Int), (y0, y1, y2) = r /\ v = .tuple #[I y0, B y1, I y2] /\ St w w' [] R := by
 refine ret_of_W Tryz.func12 rfl rfl rfl ?_
 refine W.seq ?_
 refine W.region rfl ?_
 refine t_box (v := .agg #[ag, ah, ai, aj, I ab, I ac, aa]) (cs := [ag, ah, ai, aj, I ab, I ac, aa]) H rfl rfl ?_
 intro ak bg H
 refine zA (I 0) rfl ?_
 refine zA (B false) rfl ?_
 refine zA (I 0) rfl ?_
 refine s_nil ?_
 refine W.seq ?_
 refine W.seq ?_
 refine W.region rfl ?_
 refine s_val (x_ld (p := Pq ak) (v := .agg #[ag, ah, ai, aj, I ab, I ac, aa]) rfl (ldb_ag (ds := [ag, ah, ai, aj, I ab, I ac, aa]) Ag37 Sz37 (H.bl 0) rfl rfl)) ?_
 refine zM aq rfl ?_
 obtain ⟨bh, aY, hM⟩ := M.e_bind hM
 refine s_call cf35 [.agg #[ag, ah, ai, aj, I ab, I ac, aa], aq] rfl (zck az aA aB aC ab ac ae watches (aN.app _) aO (aP.app _) aQ (aR.app _) aS (aT.app _) aU (aD.app _) au (aV.app _) aW aY _ (H.gt 1)) ?_
 rintro vq bi ⟨r0, r1, av, aZ, hvq, ap⟩
 subst aZ
 subst vq
 try dsimp only at hM
 replace H := H.bk ap
 clear ap
 refine zM (.tuple #[av, I r1]) rfl ?_
 refine zX [av, I r1] av rfl rfl ?_
 refine zX [av, I r1] (I r1) rfl rfl ?_
 refine zA av rfl ?_
 refine zA (I r1) rfl ?_
 refine s_nil ?_
 refine W.seq ?_
 refine W.region rfl ?_
 refine zM (I r1) rfl ?_
 refine zC r1 0 (r1 != 0) rfl rfl rfl ?_
 refine s_nil ?_
 refine W.cond (r1 != 0) rfl (fun ax => ?_) (fun ax => ?_)
 ·replace hM := M.e_t hM ax
  simp only [qy1, qy2, qy3, qy4, qy5, qy6, ne_eq, qy7] at ax
  refine W.seq ?_
  refine W.region rfl ?_
  refine zM (I r1) rfl ?_
  refine zA (I 0) rfl ?_
  refine zA (B false) rfl ?_
  refine zA (I r1) rfl ?_
  refine s_nil ?_
  replace H := H.pk []
  refine W.ret ?_
  have ay := M.e_pure hM
  exact ⟨_, resE_tmp3 rfl, ⟨0, false, r1, ay, rfl, H⟩⟩
 replace hM := M.e_f hM ax
 simp only [qy1, qy2, qy3, qy4, qy5, qy6, ne_eq, qy7] at ax
 refine W.skip ?_
 refine W.seq ?_
 refine W.seq ?_
 refine W.region rfl ?_
 refine zM (I flood) rfl ?_
 refine s_val (x_fa (a := Pq ak) (v := Oq ak 6) rfl (fa_blk (o := 0) Fd37_5 Sz35)) ?_
 refine s_val (x_ld (p := Oq ak 6) (v := aa) rfl (ldb_sc Sc35 (H.bl 1) rfl)) ?_
 have bj := (au).len_le
 refine s_val (x_lenS T35.und rfl au) ?_
 refine zR (ae.length : Int) 1 ((ae.length : Int) - 1) rfl rfl rfl (by omega) ?_
 obtain ⟨bm, a6, hM⟩ := M.e_bind hM
 refine s_call cf49 [I flood, I 0, I ((ae.length : Int) - 1)] rfl (zal flood 0 ((ae.length : Int) - 1) a6 _ (H.gt 2)) ?_
 rintro vq bn ⟨r2, a7, hvq, ap⟩
 subst a7
 subst vq
 try dsimp only at hM
 replace H := H.bk ap
 clear ap
 refine s_nil ?_
 refine W.cond r2 rfl (fun aF => ?_) (fun aF => ?_)
 ·replace hM := M.e_t hM aF
  refine W.seq ?_
  refine W.region rfl ?_
  refine zA (I 0) rfl ?_
  refine zA (B false) rfl ?_
  refine zA (I 2) rfl ?_
  refine s_nil ?_
  replace H := H.pk []
  refine W.ret ?_
  have ay := M.e_pure hM
  exact ⟨_, resE_tmp3 rfl, ⟨0, false, 2, ay, rfl, H⟩⟩
 replace hM := M.e_f hM aF
 refine W.skip ?_
 refine W.seq ?_
 refine W.draw (fun W => St w W [cOwn (α := Dem) 70 av r0, cBlk ak [ag, ah, ai, aj, I ab, I ac, aa] 37] R) [(0, true), (1, true), (2, true), (3, true), (4, true), (5, true), (6, true), (7, false), (8, true), (9, true), (10, true), (11, true), (12, true), (13, true), (14, true)] mixed (by decide +kernel) rfl ?_
 intro bo aX
 replace H := H.ext aX
 clear aX
 refine ⟨(H.pk [0, 1]), ?_⟩
 refine d_q rfl (fun w' H => x_ld (p := Pq ak) (v := .agg #[ag, ah, ai, aj, I ab, I ac, aa]) rfl (ldb_ag (ds := [ag, ah, ai, aj, I ab, I ac, aa]) Ag37 Sz37 (H.bl 1) rfl rfl)) ?_
 refine d_q rfl (fun w' H => x_mv (v := aq) rfl) ?_
 refine d_q rfl (fun w' H => x_fa (a := Pq ak) (v := Oq ak 6) rfl (fa_blk (o := 0) Fd37_5 Sz35)) ?_
 refine d_q rfl (fun w' H => x_ld (p := Oq ak 6) (v := aa) rfl (ldb_sc Sc35 (H.bl 1) rfl)) ?_
 refine d_q rfl (fun w' H => x_mv (v := I flood) rfl) ?_
 obtain ⟨a8, hM⟩ := M.e_grd hM
 simp only [Bool.and_eq_true, decide_eq_true_eq] at a8
 refine d_q rfl (fun w' H => x_ix (a := aa) (b := I flood) (v := vat aa 2 (Int.toNat flood)) rfl rfl (Sl.ix (α := Flood) T35.und T35.size au (by omega) (by omega))) ?_
 obtain ⟨aG, ba, aE⟩ := Flood_atA au (i := flood) (by omega) (by omega)
 replace aE : Sl _ aG (ae.getD (Int.toNat flood) default).stages := aE
 have bp := aE.len_le
 refine d_q rfl (fun w' H => x_ld (p := vat aa 2 (Int.toNat flood)) (v := .agg #[I ((ae.getD (Int.toNat flood) default).spring), aG]) rfl (ld_ag Ag93 Sz93 (At.mono ba (aD.at H)))) ?_
 refine d_l rfl ?_
 obtain ⟨bq, bc, hM⟩ := M.e_bind hM
 refine s_call cf50 [.agg #[ag, ah, ai, aj, I ab, I ac, aa], aq, .agg #[I ((ae.getD (Int.toNat flood) default).spring), aG]] rfl (zcG az aA aB aC ab ac ae watches (ae.getD (Int.toNat flood) default) (aN.app _) aO (aP.app _) aQ (aR.app _) aS (aT.app _) aU (aD.app _) au (aV.app _) aW (aD.app _) aE bc _ (H.gt 2)) ?_
 rintro vq br ⟨am, aw, ao, bf, hvq, ap⟩
 subst bf
 subst vq
 try dsimp only at hM
 replace H := H.bk ap
 clear ap
 refine s_nil ⟨(H.pk [0, 1]), ?_⟩
 refine d_q rfl (fun w' H => x_mv (v := .tuple #[I am, I aw, B ao]) rfl) ?_
 refine d_q rfl (fun w' H => x_ext (vs := [I am, I aw, B ao]) (v := I am) rfl rfl) ?_
 refine d_q rfl (fun w' H => x_ext (vs := [I am, I aw, B ao]) (v := I aw) rfl rfl) ?_
 refine d_q rfl (fun w' H => x_ext (vs := [I am, I aw, B ao]) (v := B ao) rfl rfl) ?_
 refine d_q rfl (fun w' H => x_as (v := I am) rfl) ?_
 refine d_q rfl (fun w' H => x_as (v := I aw) rfl) ?_
 refine d_q rfl (fun w' H => x_as (v := B ao) rfl) ?_
 refine d_nil ?_
 replace H := H.pk []
 refine W.seq ?_
 refine W.region rfl ?_
 refine zM (I am) rfl ?_
 refine zM (B ao) rfl ?_
 refine zA (I am) rfl ?_
 refine zA (B ao) rfl ?_
 refine zA (I 0) rfl ?_
 refine s_nil ?_
 refine W.ret ?_
 have ay := M.e_pure hM
 exact ⟨_, resE_tmp3 rfl, ⟨am, ao, 0, ay, rfl, H⟩⟩

def zaA (ac : List Int) (ae : List Span) (ag : List Int) (ah : List Town) (ai : Int) (aj : Int) (aa : List Flood) (watches : List Int) (k : Nat) : (Int × Int × Int) -> M ((Int × Int × Int) ⊕ (Int × Int)) := fun (t, s, i) =>
  bif decide (0 <= i) then (
  M.grd (decide ((0 : Int) <= i) && decide (i < (aa.length : Int))) <|
  M.bind (zaw ac ae ag ah ai aj aa watches (aa.getD (Int.toNat i) default)) fun (ak, ab, r2) =>
  M.grd ((!r2 || (decide ((k : Int) < (watches.length : Int))))) <|
  bif ((r2 && (ak == (watches.getD k 0))) && (decide (ab <= t))) then (
  M.grd (decide ((-9223372036854775808 : Int) <= (i - 1)) && decide ((i - 1) <= (9223372036854775807 : Int))) <|
  M.pure (.inl (ab, i, i - 1)))
  else (
  M.grd (decide ((-9223372036854775808 : Int) <= (i - 1)) && decide ((i - 1) <= (9223372036854775807 : Int))) <|
  M.pure (.inl (t, s, i - 1))))
  else (
  M.pure (.inr (t, s)))
def zbi (ab : List Int) (ac : List Span) (ae : List Int) (ag : List Town) (ah : Int) (ai : Int) (aa : List Flood) (watches : List Int) : (Nat × (List Int) × (List Int)) -> M ((Nat × (List Int) × (List Int)) ⊕ ((List Int) × (List Int) × (List Int) × (List Int))) := fun (k, l, l2) =>
  bif decide ((k : Int) < (watches.length : Int)) then (
  M.bind (M.iter (zaA ab ac ae ag ah ai aa watches k) (2001, -1, (aa.length : Int) - 1)) fun (t2, s2) =>
  M.grd (decide ((l.length + ([(t2 : Int)]).length) * 8 <= 140737488355328)) <|
  M.grd (decide ((l2.length + ([(s2 : Int)]).length) * 8 <= 140737488355328)) <|
  M.pure (.inl (k + 1, l ++ ([(t2 : Int)]), l2 ++ ([(s2 : Int)]))))
  else (
  M.pure (.inr (l, l2, l, l2)))
def zbu (aa : List Int) (ab : List Span) (ac : List Int) (ae : List Town) (ag : Int) (ah : Int) (ai : List Flood) (watches : List Int) : M ((List Int) × (List Int) × Int) :=
  M.bind (zaq aa ab ac ae ag ah ai watches) fun (r0, r1) =>
  bif r1 != 0 then (
  M.pure (([]), ([]), r1))
  else (
  M.bind (M.iter (zbi aa ab ac ae ag ah ai watches) (0, [], [])) fun (l3, l4, l5, l6) =>
  M.pure (l5, l6, 0))
theorem zdi {R : List Chunk} {aS : Cells} {ak : Value} {aT : Cells} {am : Value} {aU : Cells} {ao : Value} {aV : Cells} {ap : Value} {aW : Cells} {ab : Value} {aX : Cells} {ah : Value} (az : List Int) (aA : List Span) (aB : List Int) (aC : List Town) (ac : Int) (ae : Int) (aj : List Flood) (watches : List Int) (aY : Reads R aS) (aZ : Sl aS ak az) (a6 : Reads R aT) (a7 : Sl aT am aA) (a8 : Reads R aU) (ba : Sl aU ao aB) (bc : Reads R aV) (bf : Sl aV ap aC) (aJ : Reads R aW) (aD : Sl aW ab aj) (aL : Reads R aX) (aE : Sl aX ah watches) {r : ((List Int) × (List Int) × Int)} (hM : (zbu az aA aB aC ac ae aj watches).Ends r) (w : World) (H : St w w [] R) : Ret Tryz.prog 14 #[.agg #[ak, am, ao, ap, I ac, I ae, ab], ah] w fun v w' => ∃ (y0 : List Int) (y1 : List Int) (y2 : Int) (u0 : Value) (u1 : Value), (y0, y1, y2) = r /\ v = .tuple #[u0, u1, I y2] /\ St w w' [cOwn (α := Int) 3 u0 y0, cOwn (α := Int) 3 u1 y1] R := by
 refine ret_of_W Tryz.func14 rfl rfl rfl ?_
 refine W.seq ?_
 refine W.region rfl ?_
 refine t_box (v := .agg #[ak, am, ao, ap, I ac, I ae, ab]) (cs := [ak, am, ao, ap, I ac, I ae, ab]) H rfl rfl ?_
 intro aq bM H
 refine zA (.slice none 0 0) rfl ?_
 refine zA (.slice none 0 0) rfl ?_
 refine zA (I 0) rfl ?_
 refine s_nil ?_
 refine W.seq ?_
 refine W.seq ?_
 refine W.region rfl ?_
 refine s_val (x_ld (p := Pq aq) (v := .agg #[ak, am, ao, ap, I ac, I ae, ab]) rfl (ldb_ag (ds := [ak, am, ao, ap, I ac, I ae, ab]) Ag37 Sz37 (H.bl 0) rfl rfl)) ?_
 refine zM ah rfl ?_
 obtain ⟨bN, bp, hM⟩ := M.e_bind hM
 refine s_call cf35 [.agg #[ak, am, ao, ap, I ac, I ae, ab], ah] rfl (zck az aA aB aC ac ae aj watches (aY.app _) aZ (a6.app _) a7 (a8.app _) ba (bc.app _) bf (aJ.app _) aD (aL.app _) aE bp _ (H.gt 1)) ?_
 rintro vq bO ⟨r0, r1, ax, bq, hvq, aF⟩
 subst bq
 subst vq
 try dsimp only at hM
 replace H := H.bk aF
 clear aF
 refine zM (.tuple #[ax, I r1]) rfl ?_
 refine zX [ax, I r1] ax rfl rfl ?_
 refine zX [ax, I r1] (I r1) rfl rfl ?_
 refine zA ax rfl ?_
 refine zA (I r1) rfl ?_
 refine s_nil ?_
 refine W.seq ?_
 refine W.region rfl ?_
 refine zM (I r1) rfl ?_
 refine zC r1 0 (r1 != 0) rfl rfl rfl ?_
 refine s_nil ?_
 refine W.cond (r1 != 0) rfl (fun aG => ?_) (fun aG => ?_)
 ·replace hM := M.e_t hM aG
  simp only [qy1, qy2, qy3, qy4, qy5, qy6, ne_eq, qy7] at aG
  refine W.seq ?_
  refine W.region rfl ?_
  refine zM (I r1) rfl ?_
  refine zA (.slice none 0 0) rfl ?_
  refine zA (.slice none 0 0) rfl ?_
  refine zA (I r1) rfl ?_
  refine s_nil ?_
  replace H := H.pk []
  refine W.ret ?_
  have aM := M.e_pure hM
  replace H := H.nilOwn (α := Int) 3
  replace H := H.nilOwn (α := Int) 3
  exact ⟨_, resE_tmp3 rfl, ⟨([]), ([]), r1, (.slice none 0 0), (.slice none 0 0), aM, rfl, (H.pk [1, 0])⟩⟩
 replace hM := M.e_f hM aG
 simp only [qy1, qy2, qy3, qy4, qy5, qy6, ne_eq, qy7] at aG
 refine W.skip ?_
 refine W.seq ?_
 refine W.region rfl ?_
 refine zA (.slice none 0 0) rfl ?_
 refine zA (.slice none 0 0) rfl ?_
 refine s_nil ?_
 refine W.seq ?_
 refine W.seq ?_
 refine W.region rfl ?_
 refine zA (I 0) rfl ?_
 refine s_nil ?_
 refine W.block ?_
 replace H := H.nilOwn (α := Int) 3
 replace H := H.nilOwn (α := Int) 3
 obtain ⟨br, aN, bt⟩ := M.e_bind hM
 obtain ⟨bu, aN⟩ := M.e_iter aN
 refine W.loop (fun m σ W => ∃ (k : Nat) (l : List Int) (l2 : List Int) (au : Value) (av : Value) (ρ : Env), σ = upds ρ [(1, ah), (2, Pq aq), (9, au), (10, av), (11, I (k : Int))] /\ M.iterN (zbi az aA aB aC ac ae aj watches) m (k, l, l2) = some br /\ St w W [cOwn (α := Int) 3 au l, cOwn (α := Int) 3 av l2, cOwn (α := Dem) 70 ax r0, cBlk aq [ak, am, ao, ap, I ac, I ae, ab] 37] R) ?_ ?_
 ·exact ⟨_, 0, [], [], (.slice none 0 0), (.slice none 0 0), _, upds_of _ _ ⟨rfl, rfl, rfl, rfl, rfl, trivial⟩, aN, H⟩
 rintro bP σ bQ ⟨k, l, l2, au, av, ρ, rfl, bg, H⟩
 obtain ⟨bv, bw, bR, hM, bh⟩ := M.e_iterN bg
 simp only [zbi] at hM
 clear bg
 refine W.seq ?_
 refine W.seq ?_
 refine W.region rfl ?_
 refine zM (I (k : Int)) rfl ?_
 refine zM ah rfl ?_
 have bS := (aE).len_le
 refine s_val (x_lenS T22.und rfl aE) ?_
 refine zC (k : Int) (watches.length : Int) (decide ((k : Int) < (watches.length : Int))) rfl rfl rfl ?_
 refine s_nil ?_
 refine W.cond (decide ((k : Int) < (watches.length : Int))) rfl (fun aH => ?_) (fun aH => ?_)
 ·replace hM := M.e_t hM aH
  simp only [qy1, qy2, qy3, qy4, qy5, qy6, ne_eq, qy7] at aH
  refine W.skip ?_
  refine W.seq ?_
  refine W.block ?_
  refine W.seq ?_
  refine W.region rfl ?_
  refine zA (I 2001) rfl ?_
  refine zA (I (-1)) rfl ?_
  refine s_nil ?_
  refine W.seq ?_
  refine W.seq ?_
  refine W.region rfl ?_
  refine s_val (x_fa (a := Pq aq) (v := Oq aq 6) rfl (fa_blk (o := 0) Fd37_5 Sz35)) ?_
  refine s_val (x_ld (p := Oq aq 6) (v := ab) rfl (ldb_sc Sc35 (H.bl 3) rfl)) ?_
  have bT := (aD).len_le
  refine s_val (x_lenS T35.und rfl aD) ?_
  refine zR (aj.length : Int) 1 ((aj.length : Int) - 1) rfl rfl rfl (by omega) ?_
  refine zA (I ((aj.length : Int) - 1)) rfl ?_
  refine s_nil ?_
  refine W.block ?_
  obtain ⟨bx, aO, bz⟩ := M.e_bind hM
  obtain ⟨bu, aO⟩ := M.e_iter aO
  refine W.loop (fun m σ W => ∃ (t : Int) (s : Int) (i : Int) (ρ : Env), σ = upds ρ [(1, ah), (2, Pq aq), (9, au), (10, av), (11, I (k : Int)), (12, I t), (13, I s), (14, I i)] /\ M.iterN (zaA az aA aB aC ac ae aj watches k) m (t, s, i) = some bx /\ St w W [cOwn (α := Int) 3 au l, cOwn (α := Int) 3 av l2, cOwn (α := Dem) 70 ax r0, cBlk aq [ak, am, ao, ap, I ac, I ae, ab] 37] R) ?_ ?_
  ·exact ⟨_, 2001, -1, (aj.length : Int) - 1, _, upds_of _ _ ⟨rfl, rfl, rfl, rfl, rfl, rfl, rfl, rfl, trivial⟩, aO, H⟩
  rintro bU σ bV ⟨t, s, i, ρ, rfl, bi, H⟩
  obtain ⟨bj, bm, bW, hM, aP⟩ := M.e_iterN bi
  simp only [zaA] at hM
  clear bi
  refine W.seq ?_
  refine W.seq ?_
  refine W.region rfl ?_
  refine zM (I i) rfl ?_
  refine zC i 0 (decide (0 <= i)) rfl rfl rfl ?_
  refine s_nil ?_
  refine W.cond (decide (0 <= i)) rfl (fun aI => ?_) (fun aI => ?_)
  ·replace hM := M.e_t hM aI
   simp only [qy1, qy2, qy3, qy4, qy5, qy6, ne_eq, qy7] at aI
   refine W.skip ?_
   refine W.seq ?_
   refine W.block ?_
   refine W.seq ?_
   refine W.draw (fun W => St w W [cOwn (α := Int) 3 au l, cOwn (α := Int) 3 av l2, cOwn (α := Dem) 70 ax r0, cBlk aq [ak, am, ao, ap, I ac, I ae, ab] 37] R) [(0, true), (1, true), (2, true), (3, true), (4, true), (5, true), (6, true), (7, false), (8, true), (9, true), (10, true), (11, true), (12, true), (13, true), (14, true)] mixed (by decide +kernel) rfl ?_
   intro bX aw
   replace H := H.ext aw
   clear aw
   refine ⟨(H.pk [0, 1, 2, 3]), ?_⟩
   refine d_q rfl (fun w' H => x_ld (p := Pq aq) (v := .agg #[ak, am, ao, ap, I ac, I ae, ab]) rfl (ldb_ag (ds := [ak, am, ao, ap, I ac, I ae, ab]) Ag37 Sz37 (H.bl 3) rfl rfl)) ?_
   refine d_q rfl (fun w' H => x_mv (v := ah) rfl) ?_
   refine d_q rfl (fun w' H => x_fa (a := Pq aq) (v := Oq aq 6) rfl (fa_blk (o := 0) Fd37_5 Sz35)) ?_
   refine d_q rfl (fun w' H => x_ld (p := Oq aq 6) (v := ab) rfl (ldb_sc Sc35 (H.bl 3) rfl)) ?_
   refine d_q rfl (fun w' H => x_mv (v := I i) rfl) ?_
   obtain ⟨bA, hM⟩ := M.e_grd hM
   simp only [Bool.and_eq_true, decide_eq_true_eq] at bA
   refine d_q rfl (fun w' H => x_ix (a := ab) (b := I i) (v := vat ab 2 (Int.toNat i)) rfl rfl (Sl.ix (α := Flood) T35.und T35.size aD (by omega) (by omega))) ?_
   obtain ⟨aQ, bB, aK⟩ := Flood_atA aD (i := i) (by omega) (by omega)
   replace aK : Sl _ aQ (aj.getD (Int.toNat i) default).stages := aK
   have bY := aK.len_le
   refine d_q rfl (fun w' H => x_ld (p := vat ab 2 (Int.toNat i)) (v := .agg #[I ((aj.getD (Int.toNat i) default).spring), aQ]) rfl (ld_ag Ag93 Sz93 (At.mono bB (aJ.at H)))) ?_
   refine d_l rfl ?_
   obtain ⟨bZ, bC, hM⟩ := M.e_bind hM
   refine s_call cf50 [.agg #[ak, am, ao, ap, I ac, I ae, ab], ah, .agg #[I ((aj.getD (Int.toNat i) default).spring), aQ]] rfl (zcG az aA aB aC ac ae aj watches (aj.getD (Int.toNat i) default) (aY.app _) aZ (a6.app _) a7 (a8.app _) ba (bc.app _) bf (aJ.app _) aD (aL.app _) aE (aJ.app _) aK bC _ (H.gt 4)) ?_
   rintro vq b3 ⟨aa, ag, r2, bD, hvq, aF⟩
   subst bD
   subst vq
   try dsimp only at hM
   replace H := H.bk aF
   clear aF
   refine s_nil ⟨(H.pk [0, 1, 2, 3]), ?_⟩
   refine d_q rfl (fun w' H => x_mv (v := .tuple #[I aa, I ag, B r2]) rfl) ?_
   refine d_q rfl (fun w' H => x_ext (vs := [I aa, I ag, B r2]) (v := I aa) rfl rfl) ?_
   refine d_q rfl (fun w' H => x_ext (vs := [I aa, I ag, B r2]) (v := I ag) rfl rfl) ?_
   refine d_q rfl (fun w' H => x_ext (vs := [I aa, I ag, B r2]) (v := B r2) rfl rfl) ?_
   refine d_q rfl (fun w' H => x_as (v := I aa) rfl) ?_
   refine d_q rfl (fun w' H => x_as (v := I ag) rfl) ?_
   refine d_q rfl (fun w' H => x_as (v := B r2) rfl) ?_
   refine d_nil ?_
   refine W.seq ?_
   refine W.region rfl ?_
   refine zM (B r2) rfl ?_
   refine zM (B r2) rfl ?_
   refine g_val r2 (gy_t rfl) (fun hg => x_mv (v := I aa) rfl) ?_
   refine g_val r2 (gy_t rfl) (fun hg => x_mv (v := ah) rfl) ?_
   refine g_val r2 (gy_t rfl) (fun hg => x_mv (v := I (k : Int)) rfl) ?_
   obtain ⟨ay, hM⟩ := M.e_grd hM
   replace ay := M.imp_of ay
   simp only [Bool.and_eq_true, decide_eq_true_eq] at ay
   refine g_val r2 (gy_t rfl) (fun hg => x_ix (a := ah) (b := I (k : Int)) (v := vat ah 1 (Int.toNat (k : Int))) (gd_of (c := r2) hg (ah)) (gd_of (c := r2) hg (I (k : Int))) (Sl.ix (α := Int) T22.und T22.size aE (by have ai := ay.resolve_left (by rw [hg]; decide); first | exact ai | exact ai.1 | exact ai.2 | omega | (have aw := hg; simp at aw; omega)) (by have ai := ay.resolve_left (by rw [hg]; decide); first | exact ai | exact ai.1 | exact ai.2 | omega | (have aw := hg; simp at aw; omega)))) ?_
   refine g_val r2 (gy_t rfl) (fun hg => x_ld (p := vat ah 1 (Int.toNat (k : Int))) (v := I (watches.getD k 0)) (gd_of (c := r2) hg (vat ah 1 (Int.toNat (k : Int)))) (ld_sc Sc3 (At.mono (Int_at aE (i := (k : Int)) (by have ai := ay.resolve_left (by rw [hg]; decide); first | exact ai | exact ai.1 | exact ai.2 | omega | (have aw := hg; simp at aw; omega)) (by have ai := ay.resolve_left (by rw [hg]; decide); first | exact ai | exact ai.1 | exact ai.2 | omega | (have aw := hg; simp at aw; omega))) (aL.at H)))) ?_
   refine g_val r2 (gy_t rfl) (fun hg => x_cmp (kd := .i64) (a := aa) (b := watches.getD k 0) (r := aa == (watches.getD k 0)) (gd_of (c := r2) hg (I aa)) (gd_of (c := r2) hg (I (watches.getD k 0))) rfl) ?_
   refine s_val (x_pand (b := r2) (r := aa == (watches.getD k 0)) rfl (fun hb => gd_of (c := r2) (by first | exact hb | (rw [hb]; rfl) | simp_all) (B (aa == (watches.getD k 0)))) rfl) ?_
   refine zM (B (r2 && (aa == (watches.getD k 0)))) rfl ?_
   refine g_val (r2 && (aa == (watches.getD k 0))) (gy_t rfl) (fun hg => x_mv (v := I ag) rfl) ?_
   refine g_val (r2 && (aa == (watches.getD k 0))) (gy_t rfl) (fun hg => x_mv (v := I t) rfl) ?_
   refine g_val (r2 && (aa == (watches.getD k 0))) (gy_t rfl) (fun hg => x_cmp (kd := .i64) (a := ag) (b := t) (r := decide (ag <= t)) (gd_of (c := (r2 && (aa == (watches.getD k 0)))) hg (I ag)) (gd_of (c := (r2 && (aa == (watches.getD k 0)))) hg (I t)) rfl) ?_
   refine s_val (x_pand (b := (r2 && (aa == (watches.getD k 0)))) (r := decide (ag <= t)) rfl (fun hb => gd_of (c := (r2 && (aa == (watches.getD k 0)))) (by first | exact hb | (rw [hb]; rfl) | simp_all) (B (decide (ag <= t)))) rfl) ?_
   refine s_nil ?_
   refine W.cond ((r2 && (aa == (watches.getD k 0))) && (decide (ag <= t))) rfl (fun aR => ?_) (fun aR => ?_)
   ·replace hM := M.e_t hM aR
    refine W.region rfl ?_
    refine zM (I ag) rfl ?_
    refine zM (I i) rfl ?_
    refine zA (I ag) rfl ?_
    refine zA (I i) rfl ?_
    refine s_nil ?_
    refine W.region rfl ?_
    refine zM (I i) rfl ?_
    obtain ⟨bE, hM⟩ := M.e_grd hM
    simp only [Bool.and_eq_true, decide_eq_true_eq] at bE
    refine zR i 1 (i - 1) rfl rfl rfl (by omega) ?_
    refine zA (I (i - 1)) rfl ?_
    refine s_nil ?_
    exact ⟨bj, bm, ag, i, i - 1, _, upds_of _ _ ⟨rfl, rfl, rfl, rfl, rfl, rfl, rfl, rfl, trivial⟩, M.e_inl hM aP, H⟩
   replace hM := M.e_f hM aR
   refine W.skip ?_
   refine W.region rfl ?_
   refine zM (I i) rfl ?_
   obtain ⟨bF, hM⟩ := M.e_grd hM
   simp only [Bool.and_eq_true, decide_eq_true_eq] at bF
   refine zR i 1 (i - 1) rfl rfl rfl (by omega) ?_
   refine zA (I (i - 1)) rfl ?_
   refine s_nil ?_
   exact ⟨bj, bm, t, s, i - 1, _, upds_of _ _ ⟨rfl, rfl, rfl, rfl, rfl, rfl, rfl, rfl, trivial⟩, M.e_inl hM aP, H⟩
  replace hM := M.e_f hM aI
  simp only [qy1, qy2, qy3, qy4, qy5, qy6, ne_eq, qy7] at aI
  refine W.exit ?_
  have bG := M.e_inr hM aP
  subst bG
  replace hM := bz
  try dsimp only at hM
  refine W.region rfl ?_
  refine zM au rfl ?_
  refine zM (I t) rfl ?_
  refine t_bs (α := Int) T22 [I t] [(t : Int)] H rfl (.cons rfl (Flat.rep_enc _ (t : Int)) <| .nil) rfl rfl rfl ?_
  intro bH b4 H
  obtain ⟨bI, hM⟩ := M.e_grd hM
  simp only [Bool.and_eq_true, decide_eq_true_eq] at bI
  refine t_app (α := Int) (k := 1) (l := l) (l2 := [(t : Int)]) (l' := l ++ ([(t : Int)])) (vy := bH) T22 rfl H rfl rfl rfl (H.os 0) (H.ol 0) (rfl) (by first | omega | (simp only [List.length_nil] at *; omega)) ?_
  intro bn b5 H
  replace H := H.nf
  refine zM av rfl ?_
  refine zM (I s) rfl ?_
  refine t_bs (α := Int) T22 [I s] [(s : Int)] H rfl (.cons rfl (Flat.rep_enc _ (s : Int)) <| .nil) rfl rfl rfl ?_
  intro bJ b6 H
  obtain ⟨bK, hM⟩ := M.e_grd hM
  simp only [Bool.and_eq_true, decide_eq_true_eq] at bK
  refine t_app (α := Int) (k := 3) (l := l2) (l2 := [(s : Int)]) (l' := l2 ++ ([(s : Int)])) (vy := bJ) T22 rfl H rfl rfl rfl (H.os 0) (H.ol 0) (rfl) (by first | omega | (simp only [List.length_nil] at *; omega)) ?_
  intro bo b7 H
  replace H := H.nf
  refine zA bn rfl ?_
  refine zA bo rfl ?_
  refine s_nil ?_
  replace H := H.pk [2, 3, 4, 5]
  refine W.region rfl ?_
  refine zM (I (k : Int)) rfl ?_
  refine zR (k : Int) 1 ((k : Int) + 1) rfl rfl rfl (by omega) ?_
  refine zA (I ((k : Int) + 1)) rfl ?_
  refine s_nil ?_
  exact ⟨bv, bw, k + 1, l ++ ([(t : Int)]), l2 ++ ([(s : Int)]), bn, bo, _, upds_of _ _ ⟨rfl, rfl, rfl, rfl, rfl, trivial⟩, M.e_inl hM bh, H⟩
 replace hM := M.e_f hM aH
 simp only [qy1, qy2, qy3, qy4, qy5, qy6, ne_eq, qy7] at aH
 refine W.exit ?_
 have bL := M.e_inr hM bh
 subst bL
 replace hM := bt
 try dsimp only at hM
 replace H := H.pk [0, 1]
 refine W.seq ?_
 refine W.region rfl ?_
 refine zM au rfl ?_
 refine zM av rfl ?_
 refine zA au rfl ?_
 refine zA av rfl ?_
 refine zA (I 0) rfl ?_
 refine s_nil ?_
 refine W.ret ?_
 have aM := M.e_pure hM
 exact ⟨_, resE_tmp3 rfl, ⟨l, l2, 0, au, av, aM, rfl, H⟩⟩

end Go.Proofs.YtbaehghammbjdaaGreat
end
