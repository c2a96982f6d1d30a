/- Part 4 of the texts on which the proof rests. Conditions: none. -/
import Derived.Recover
import Derived.Tactics
import Derived.Tactics2
import Derived.Laws.Pointers
import Derived.Test.YtlemgioaakecpaaGreatZK3
set_option linter.unusedVariables false
set_option linter.unusedSimpArgs false
set_option linter.unusedSectionVars false
section
set_option maxRecDepth 100000
set_option maxHeartbeats 16000000
namespace Go.Proofs.YtlemgioaakecpaaGreat
open Go Go.Nm
def zaT (bytes : List UInt8) : M (Int × Int) :=
  M.pure (0, 0)
theorem zcB {R : List Chunk} {ab : Cells} {aa : Value} (bytes : List UInt8) (aj : Reads R ab) (ag : Sl ab aa bytes) {r : (Int × Int)} (hM : (zaT bytes).Ends r) (w : World) (H : St w w [] R) : Ret Tryz.prog 9 #[aa] w fun v w' => ∃ (y0 : Int) (y1 : Int) (ac : Nat), (y0, y1) = r /\ v = Pq ac /\ St w w' [cBlk ac [aa, I y0, I y1] 111] R := by
 refine ret_of_W Tryz.func9 rfl rfl rfl ?_
 refine W.seq ?_
 refine W.region rfl ?_
 refine zA (.pointer none) rfl ?_
 refine s_nil ?_
 refine W.seq ?_
 refine W.region rfl ?_
 refine zM aa rfl ?_
 refine s_val (x_bld (ps := [(0, aa)]) (zs := [.slice none 0 0, I 0, I 0]) (L' := [aa, I 0, I 0]) rfl Tryz.underlying111 Al111 rfl (Bd111 Tryz.underlying111) (.cons (cs := [aa]) (Sl.cells ag) rfl rfl rfl rfl <| .nil)) ?_
 refine t_box (v := .agg #[aa, I 0, I 0]) (cs := [aa, I 0, I 0]) H rfl rfl ?_
 intro ae ak H
 refine zA (Pq ae) rfl ?_
 refine s_nil ?_
 refine W.ret ?_
 have ai := M.e_pure hM
 exact ⟨_, resE_tmp rfl, ⟨0, 0, ae, ai, rfl, H⟩⟩

def zbs (s_used : Int) (s_mix : Int) (n : Int) (b : Int) : M (Int × Int × Int) :=
  M.grd (decide ((-9223372036854775808 : Int) <= (5 * s_mix)) && decide ((5 * s_mix) <= (9223372036854775807 : Int))) <|
  M.grd (decide ((-9223372036854775808 : Int) <= ((5 * s_mix) + b)) && decide (((5 * s_mix) + b) <= (9223372036854775807 : Int))) <|
  M.grd (decide ((-9223372036854775808 : Int) <= (((5 * s_mix) + b) + 1)) && decide ((((5 * s_mix) + b) + 1) <= (9223372036854775807 : Int))) <|
  M.grd (decide ((0 : Int) <= (((5 * s_mix) + b) + 1)) && decide ((0 : Int) < 251)) <|
  M.grd (decide ((-9223372036854775808 : Int) <= (s_used + 1)) && decide ((s_used + 1) <= (9223372036854775807 : Int))) <|
  bif decide (256 < n) then (
  M.grd (decide ((-9223372036854775808 : Int) <= (256 * b)) && decide ((256 * b) <= (9223372036854775807 : Int))) <|
  M.grd (decide ((-9223372036854775808 : Int) <= ((256 * b) + ((((5 * s_mix) + b) + 1) % 251))) && decide (((256 * b) + ((((5 * s_mix) + b) + 1) % 251)) <= (9223372036854775807 : Int))) <|
  M.grd (decide ((0 : Int) <= ((256 * b) + ((((5 * s_mix) + b) + 1) % 251))) && decide ((0 : Int) < n)) <|
  M.pure ((((256 * b) + ((((5 * s_mix) + b) + 1) % 251)) % n), (s_used + 1), ((((5 * s_mix) + b) + 1) % 251)))
  else (
  M.grd (decide ((0 : Int) <= b) && decide ((0 : Int) < n)) <|
  M.pure ((b % n), (s_used + 1), ((((5 * s_mix) + b) + 1) % 251)))
def zab (s_bytes : List UInt8) (s_used : Int) (s_mix : Int) (n : Int) : M (Int × Int × Int) :=
  bif ((decide (n < 2)) || ((s_bytes.length : Int) == 0)) then (
  M.pure (0, s_used, s_mix))
  else (
  M.grd (decide ((0 : Int) <= s_used) && decide ((0 : Int) < (s_bytes.length : Int))) <|
  M.grd (decide ((0 : Int) <= (s_used % (s_bytes.length : Int))) && decide ((s_used % (s_bytes.length : Int)) < (s_bytes.length : Int))) <|
  M.grd (decide ((0 : Int) <= ((s_bytes.getD (Int.toNat (s_used % (s_bytes.length : Int))) 0).toNat : Int)) && decide (((s_bytes.getD (Int.toNat (s_used % (s_bytes.length : Int))) 0).toNat : Int) < (256 : Int))) <|
  bif decide ((s_bytes.length : Int) <= s_used) then (
  M.grd (decide ((-9223372036854775808 : Int) <= (11 * s_mix)) && decide ((11 * s_mix) <= (9223372036854775807 : Int))) <|
  M.grd (decide (0 <= s_used) && decide (s_used <= (9223372036854775807 : Int)) && decide ((0 : Int) < (s_bytes.length : Int))) <|
  M.grd (decide ((-9223372036854775808 : Int) <= ((11 * s_mix) + (s_used / (s_bytes.length : Int)))) && decide (((11 * s_mix) + (s_used / (s_bytes.length : Int))) <= (9223372036854775807 : Int))) <|
  M.grd (decide ((-9223372036854775808 : Int) <= (((s_bytes.getD (Int.toNat (s_used % (s_bytes.length : Int))) 0).toNat : Int) + ((11 * s_mix) + (s_used / (s_bytes.length : Int))))) && decide ((((s_bytes.getD (Int.toNat (s_used % (s_bytes.length : Int))) 0).toNat : Int) + ((11 * s_mix) + (s_used / (s_bytes.length : Int)))) <= (9223372036854775807 : Int))) <|
  zbs s_used s_mix n (((s_bytes.getD (Int.toNat (s_used % (s_bytes.length : Int))) 0).toNat : Int) + ((11 * s_mix) + (s_used / (s_bytes.length : Int)))))
  else (
  zbs s_used s_mix n ((s_bytes.getD (Int.toNat (s_used % (s_bytes.length : Int))) 0).toNat : Int)))
theorem zad {R : List Chunk} {aa : Nat} {am : Cells} {ab : Value} (s_bytes : List UInt8) (s_used : Int) (s_mix : Int) (n : Int) (ao : Reads R am) (ac : Sl am ab s_bytes) {r : (Int × Int × Int)} (hM : (zab s_bytes s_used s_mix n).Ends r) (w : World) (H : St w w [cBlk aa [ab, I s_used, I s_mix] 111] R) : Ret Tryz.prog 14 #[Pq aa, I n] w fun v w' => ∃ (y0 : Int) (y1 : Int) (y2 : Int), (y0, y1, y2) = r /\ v = I y0 /\ St w w' [cBlk aa [ab, I y1, I y2] 111] R := by
 refine ret_of_W Tryz.func14 rfl rfl rfl ?_
 refine W.seq ?_
 refine W.region rfl ?_
 refine zA (I 0) rfl ?_
 refine s_nil ?_
 refine W.seq ?_
 refine W.seq ?_
 refine W.region rfl ?_
 refine zM (I n) rfl ?_
 refine zC n 2 (decide (n < 2)) rfl rfl rfl ?_
 refine zM (B (decide (n < 2))) rfl ?_
 refine g_val (!(decide (n < 2))) (gy_f rfl) (fun hg => x_mv (v := Pq aa) rfl) ?_
 refine g_val (!(decide (n < 2))) (gy_f rfl) (fun hg => x_nc (a := ⟨aa, 0, none⟩) (gd_of (c := !(decide (n < 2))) hg (Pq aa))) ?_
 refine g_val (!(decide (n < 2))) (gy_f rfl) (fun hg => x_fa (a := Pq aa) (v := Pq aa) (gd_of (c := !(decide (n < 2))) hg (Pq aa)) (fa_blk (o := 0) Fd111_0 Sz22)) ?_
 refine g_val (!(decide (n < 2))) (gy_f rfl) (fun hg => x_ld (p := Pq aa) (v := ab) (gd_of (c := !(decide (n < 2))) hg (Pq aa)) (ldb_sc Sc22 (H.bl 0) rfl)) ?_
 have aI := (ac).len_le
 refine g_val (!(decide (n < 2))) (gy_f rfl) (fun hg => x_lenS T22.und (gd_of (c := !(decide (n < 2))) hg (ab)) ac) ?_
 refine g_val (!(decide (n < 2))) (gy_f rfl) (fun hg => x_cmp (kd := .i64) (a := (s_bytes.length : Int)) (b := 0) (r := (s_bytes.length : Int) == 0) (gd_of (c := !(decide (n < 2))) hg (I (s_bytes.length : Int))) rfl rfl) ?_
 refine s_val (x_por (b := decide (n < 2)) (r := (s_bytes.length : Int) == 0) rfl rfl (fun hb => gd_of (c := !(decide (n < 2))) (by first | exact hb | (rw [hb]; rfl) | simp_all) (B ((s_bytes.length : Int) == 0)))) ?_
 refine s_nil ?_
 refine W.cond ((decide (n < 2)) || ((s_bytes.length : Int) == 0)) rfl (fun ak => ?_) (fun ak => ?_)
 ·replace hM := M.e_t hM ak
  refine W.seq ?_
  refine W.region rfl ?_
  refine zA (I 0) rfl ?_
  refine s_nil ?_
  refine W.ret ?_
  have ag := M.e_pure hM
  exact ⟨_, resE_tmp rfl, ⟨0, s_used, s_mix, ag, rfl, H⟩⟩
 replace hM := M.e_f hM ak
 refine W.skip ?_
 refine W.seq ?_
 refine W.draw (fun W => St w W [cBlk aa [ab, I s_used, I s_mix] 111] R) [(0, true), (1, true), (2, true), (3, true), (4, true), (5, true), (6, true), (7, true), (8, true), (9, true), (10, true), (11, true), (12, true), (13, true), (14, true), (15, true), (16, true), (17, true)] mixed (by decide +kernel) rfl ?_
 intro aJ ae
 replace H := H.ext ae
 clear ae
 refine ⟨(H.pk [0]), ?_⟩
 refine d_q rfl (fun w' H => x_mv (v := Pq aa) rfl) ?_
 refine d_q rfl (fun w' H => x_nc (a := ⟨aa, 0, none⟩) rfl) ?_
 refine d_q rfl (fun w' H => x_fa (a := Pq aa) (v := Pq aa) rfl (fa_blk (o := 0) Fd111_0 Sz22)) ?_
 refine d_q rfl (fun w' H => x_ld (p := Pq aa) (v := ab) rfl (ldb_sc Sc22 (H.bl 0) rfl)) ?_
 refine d_q rfl (fun w' H => x_mv (v := Pq aa) rfl) ?_
 refine d_q rfl (fun w' H => x_nc (a := ⟨aa, 0, none⟩) rfl) ?_
 refine d_q rfl (fun w' H => x_fa (a := Pq aa) (v := Oq aa 1) rfl (fa_blk (o := 0) Fd111_1 Sz3)) ?_
 refine d_q rfl (fun w' H => x_ld (p := Oq aa 1) (v := I s_used) rfl (ldb_sc Sc3 (H.bl 0) rfl)) ?_
 refine d_q rfl (fun w' H => x_mv (v := Pq aa) rfl) ?_
 refine d_q rfl (fun w' H => x_nc (a := ⟨aa, 0, none⟩) rfl) ?_
 refine d_q rfl (fun w' H => x_fa (a := Pq aa) (v := Pq aa) rfl (fa_blk (o := 0) Fd111_0 Sz22)) ?_
 refine d_q rfl (fun w' H => x_ld (p := Pq aa) (v := ab) rfl (ldb_sc Sc22 (H.bl 0) rfl)) ?_
 have aK := (ac).len_le
 refine d_q rfl (fun w' H => x_lenS T22.und rfl ac) ?_
 obtain ⟨ap, hM⟩ := M.e_grd hM
 simp only [Bool.and_eq_true, decide_eq_true_eq] at ap
 refine d_q rfl (fun w' H => x_rem' (a := s_used) (b := (s_bytes.length : Int)) rfl rfl (by omega)) ?_
 obtain ⟨aq, hM⟩ := M.e_grd hM
 simp only [Bool.and_eq_true, decide_eq_true_eq] at aq
 refine d_q rfl (fun w' H => x_ix (a := ab) (b := I (s_used % (s_bytes.length : Int))) (v := vat ab 1 (Int.toNat (s_used % (s_bytes.length : Int)))) rfl rfl (Sl.ix (α := UInt8) T22.und T22.size ac (by omega) (by omega))) ?_
 refine d_q rfl (fun w' H => x_ld (p := vat ab 1 (Int.toNat (s_used % (s_bytes.length : Int)))) (v := .int .u8 (((s_bytes.getD (Int.toNat (s_used % (s_bytes.length : Int))) 0).toNat : Int))) rfl (ld_sc Sc5 (At.mono (UInt8_at ac (i := s_used % (s_bytes.length : Int)) (by omega) (by omega)) (ao.at H)))) ?_
 obtain ⟨au, hM⟩ := M.e_grd hM
 simp only [Bool.and_eq_true, decide_eq_true_eq] at au
 refine d_q rfl (fun w' H => x_conv64 (kd := .u8) (a := ((s_bytes.getD (Int.toNat (s_used % (s_bytes.length : Int))) 0).toNat : Int)) Tryz.underlying5 Tryz.underlying3 rfl (by omega)) ?_
 refine d_q rfl (fun w' H => x_as (v := I ((s_bytes.getD (Int.toNat (s_used % (s_bytes.length : Int))) 0).toNat : Int)) rfl) ?_
 refine d_nil ?_
 refine W.seqJ (fun σ W => ∃ (b : Int) (ρ : Env), σ = upds ρ [(0, Pq aa), (1, I n), (5, I b)] /\ (zbs s_used s_mix n b).Ends r /\ St w W [cBlk aa [ab, I s_used, I s_mix] 111] R) ?_ ?_
 ·skip
  refine W.seq ?_
  refine W.draw (fun W => St w W [cBlk aa [ab, I s_used, I s_mix] 111] R) [(0, true), (1, true), (2, true), (3, true), (4, true), (5, true), (6, true), (7, true), (8, true), (9, true)] mixed (by decide +kernel) rfl ?_
  intro aL ae
  replace H := H.ext ae
  clear ae
  refine ⟨(H.pk [0]), ?_⟩
  refine d_q rfl (fun w' H => x_mv (v := Pq aa) rfl) ?_
  refine d_q rfl (fun w' H => x_nc (a := ⟨aa, 0, none⟩) rfl) ?_
  refine d_q rfl (fun w' H => x_fa (a := Pq aa) (v := Oq aa 1) rfl (fa_blk (o := 0) Fd111_1 Sz3)) ?_
  refine d_q rfl (fun w' H => x_ld (p := Oq aa 1) (v := I s_used) rfl (ldb_sc Sc3 (H.bl 0) rfl)) ?_
  refine d_q rfl (fun w' H => x_mv (v := Pq aa) rfl) ?_
  refine d_q rfl (fun w' H => x_nc (a := ⟨aa, 0, none⟩) rfl) ?_
  refine d_q rfl (fun w' H => x_fa (a := Pq aa) (v := Pq aa) rfl (fa_blk (o := 0) Fd111_0 Sz22)) ?_
  refine d_q rfl (fun w' H => x_ld (p := Pq aa) (v := ab) rfl (ldb_sc Sc22 (H.bl 0) rfl)) ?_
  have aM := (ac).len_le
  refine d_q rfl (fun w' H => x_lenS T22.und rfl ac) ?_
  refine d_q rfl (fun w' H => x_cmp (kd := .i64) (a := s_used) (b := (s_bytes.length : Int)) (r := decide ((s_bytes.length : Int) <= s_used)) rfl rfl rfl) ?_
  refine d_nil ?_
  refine W.cond (decide ((s_bytes.length : Int) <= s_used)) rfl (fun ai => ?_) (fun ai => ?_)
  ·replace hM := M.e_t hM ai
   simp only [qy1, qy2, qy3, qy4, qy5, qy6, ne_eq, qy7] at ai
   refine W.draw (fun W => St w W [cBlk aa [ab, I s_used, I s_mix] 111] R) [(0, true), (1, true), (2, true), (3, true), (4, true), (5, true), (6, true), (7, true), (8, true), (9, true), (10, true), (11, true), (12, true), (13, true), (14, true), (15, true), (16, true), (17, true), (18, true)] mixed (by decide +kernel) rfl ?_
   intro aN ae
   replace H := H.ext ae
   clear ae
   refine ⟨(H.pk [0]), ?_⟩
   refine d_q rfl (fun w' H => x_mv (v := I ((s_bytes.getD (Int.toNat (s_used % (s_bytes.length : Int))) 0).toNat : Int)) rfl) ?_
   refine d_q rfl (fun w' H => x_mv (v := Pq aa) rfl) ?_
   refine d_q rfl (fun w' H => x_nc (a := ⟨aa, 0, none⟩) rfl) ?_
   refine d_q rfl (fun w' H => x_fa (a := Pq aa) (v := Oq aa 2) rfl (fa_blk (o := 0) Fd111_2 Sz3)) ?_
   refine d_q rfl (fun w' H => x_ld (p := Oq aa 2) (v := I s_mix) rfl (ldb_sc Sc3 (H.bl 0) rfl)) ?_
   obtain ⟨av, hM⟩ := M.e_grd hM
   simp only [Bool.and_eq_true, decide_eq_true_eq] at av
   refine d_q rfl (fun w' H => x_ari (a := 11) (b := s_mix) (r := 11 * s_mix) rfl rfl rfl (by omega)) ?_
   refine d_q rfl (fun w' H => x_mv (v := Pq aa) rfl) ?_
   refine d_q rfl (fun w' H => x_nc (a := ⟨aa, 0, none⟩) rfl) ?_
   refine d_q rfl (fun w' H => x_fa (a := Pq aa) (v := Oq aa 1) rfl (fa_blk (o := 0) Fd111_1 Sz3)) ?_
   refine d_q rfl (fun w' H => x_ld (p := Oq aa 1) (v := I s_used) rfl (ldb_sc Sc3 (H.bl 0) rfl)) ?_
   refine d_q rfl (fun w' H => x_mv (v := Pq aa) rfl) ?_
   refine d_q rfl (fun w' H => x_nc (a := ⟨aa, 0, none⟩) rfl) ?_
   refine d_q rfl (fun w' H => x_fa (a := Pq aa) (v := Pq aa) rfl (fa_blk (o := 0) Fd111_0 Sz22)) ?_
   refine d_q rfl (fun w' H => x_ld (p := Pq aa) (v := ab) rfl (ldb_sc Sc22 (H.bl 0) rfl)) ?_
   have aO := (ac).len_le
   refine d_q rfl (fun w' H => x_lenS T22.und rfl ac) ?_
   obtain ⟨aw, hM⟩ := M.e_grd hM
   simp only [Bool.and_eq_true, decide_eq_true_eq] at aw
   refine d_q rfl (fun w' H => x_quo (a := s_used) (b := (s_bytes.length : Int)) rfl rfl (by omega)) ?_
   obtain ⟨ax, hM⟩ := M.e_grd hM
   simp only [Bool.and_eq_true, decide_eq_true_eq] at ax
   refine d_q rfl (fun w' H => x_ari (a := 11 * s_mix) (b := s_used / (s_bytes.length : Int)) (r := (11 * s_mix) + (s_used / (s_bytes.length : Int))) rfl rfl rfl (by omega)) ?_
   obtain ⟨ay, hM⟩ := M.e_grd hM
   simp only [Bool.and_eq_true, decide_eq_true_eq] at ay
   refine d_q rfl (fun w' H => x_ari (a := ((s_bytes.getD (Int.toNat (s_used % (s_bytes.length : Int))) 0).toNat : Int)) (b := (11 * s_mix) + (s_used / (s_bytes.length : Int))) (r := ((s_bytes.getD (Int.toNat (s_used % (s_bytes.length : Int))) 0).toNat : Int) + ((11 * s_mix) + (s_used / (s_bytes.length : Int)))) rfl rfl rfl (by omega)) ?_
   refine d_q rfl (fun w' H => x_as (v := I (((s_bytes.getD (Int.toNat (s_used % (s_bytes.length : Int))) 0).toNat : Int) + ((11 * s_mix) + (s_used / (s_bytes.length : Int))))) rfl) ?_
   refine d_nil ?_
   exact ⟨((s_bytes.getD (Int.toNat (s_used % (s_bytes.length : Int))) 0).toNat : Int) + ((11 * s_mix) + (s_used / (s_bytes.length : Int))), _, upds_of _ _ ⟨rfl, rfl, rfl, trivial⟩, hM, H⟩
  replace hM := M.e_f hM ai
  simp only [qy1, qy2, qy3, qy4, qy5, qy6, ne_eq, qy7] at ai
  refine W.skip ?_
  exact ⟨((s_bytes.getD (Int.toNat (s_used % (s_bytes.length : Int))) 0).toNat : Int), _, upds_of _ _ ⟨rfl, rfl, rfl, trivial⟩, hM, H⟩
 rintro _ aP ⟨b, ρ, rfl, hM, H⟩
 unfold zbs at hM
 refine W.seq ?_
 refine W.region rfl ?_
 refine zM (Pq aa) rfl ?_
 refine zM (Pq aa) rfl ?_
 refine s_val (x_nc (a := ⟨aa, 0, none⟩) rfl) ?_
 refine s_val (x_fa (a := Pq aa) (v := Oq aa 2) rfl (fa_blk (o := 0) Fd111_2 Sz3)) ?_
 refine s_val (x_ld (p := Oq aa 2) (v := I s_mix) rfl (ldb_sc Sc3 (H.bl 0) rfl)) ?_
 obtain ⟨az, hM⟩ := M.e_grd hM
 simp only [Bool.and_eq_true, decide_eq_true_eq] at az
 refine zR 5 s_mix (5 * s_mix) rfl rfl rfl (by omega) ?_
 refine zM (I b) rfl ?_
 obtain ⟨aA, hM⟩ := M.e_grd hM
 simp only [Bool.and_eq_true, decide_eq_true_eq] at aA
 refine zR (5 * s_mix) b ((5 * s_mix) + b) rfl rfl rfl (by omega) ?_
 obtain ⟨aB, hM⟩ := M.e_grd hM
 simp only [Bool.and_eq_true, decide_eq_true_eq] at aB
 refine zR ((5 * s_mix) + b) 1 (((5 * s_mix) + b) + 1) rfl rfl rfl (by omega) ?_
 obtain ⟨aC, hM⟩ := M.e_grd hM
 simp only [Bool.and_eq_true, decide_eq_true_eq] at aC
 refine s_val (x_rem' (a := ((5 * s_mix) + b) + 1) (b := 251) rfl rfl (by omega)) ?_
 refine s_val (x_nc (a := ⟨aa, 0, none⟩) rfl) ?_
 refine s_val (x_fa (a := Pq aa) (v := Oq aa 2) rfl (fa_blk (o := 0) Fd111_2 Sz3)) ?_
 refine t_sw 0 2 [I ((((5 * s_mix) + b) + 1) % 251)] (I ((((5 * s_mix) + b) + 1) % 251)) H rfl rfl Sz3 rfl rfl rfl rfl ?_
 intro aQ H
 refine s_nil ?_
 refine W.seq ?_
 refine W.region rfl ?_
 refine zM (Pq aa) rfl ?_
 refine s_val (x_nc (a := ⟨aa, 0, none⟩) rfl) ?_
 refine s_val (x_fa (a := Pq aa) (v := Oq aa 1) rfl (fa_blk (o := 0) Fd111_1 Sz3)) ?_
 refine s_val (x_ld (p := Oq aa 1) (v := I s_used) rfl (ldb_sc Sc3 (H.bl 0) rfl)) ?_
 obtain ⟨aD, hM⟩ := M.e_grd hM
 simp only [Bool.and_eq_true, decide_eq_true_eq] at aD
 refine zR s_used 1 (s_used + 1) rfl rfl rfl (by omega) ?_
 refine s_val (x_nc (a := ⟨aa, 0, none⟩) rfl) ?_
 refine s_val (x_fa (a := Pq aa) (v := Oq aa 1) rfl (fa_blk (o := 0) Fd111_1 Sz3)) ?_
 refine t_sw 0 1 [I (s_used + 1)] (I (s_used + 1)) H rfl rfl Sz3 rfl rfl rfl rfl ?_
 intro aR H
 refine s_nil ?_
 refine W.seq ?_
 refine W.seq ?_
 refine W.region rfl ?_
 refine zM (I n) rfl ?_
 refine zC n 256 (decide (256 < n)) rfl rfl rfl ?_
 refine s_nil ?_
 refine W.cond (decide (256 < n)) rfl (fun aj => ?_) (fun aj => ?_)
 ·replace hM := M.e_t hM aj
  simp only [qy1, qy2, qy3, qy4, qy5, qy6, ne_eq, qy7] at aj
  refine W.region rfl ?_
  refine zM (I b) rfl ?_
  obtain ⟨aE, hM⟩ := M.e_grd hM
  simp only [Bool.and_eq_true, decide_eq_true_eq] at aE
  refine zR 256 b (256 * b) rfl rfl rfl (by omega) ?_
  refine zM (Pq aa) rfl ?_
  refine s_val (x_nc (a := ⟨aa, 0, none⟩) rfl) ?_
  refine s_val (x_fa (a := Pq aa) (v := Oq aa 2) rfl (fa_blk (o := 0) Fd111_2 Sz3)) ?_
  refine s_val (x_ld (p := Oq aa 2) (v := I ((((5 * s_mix) + b) + 1) % 251)) rfl (ldb_sc Sc3 (H.bl 0) rfl)) ?_
  obtain ⟨aF, hM⟩ := M.e_grd hM
  simp only [Bool.and_eq_true, decide_eq_true_eq] at aF
  refine zR (256 * b) ((((5 * s_mix) + b) + 1) % 251) ((256 * b) + ((((5 * s_mix) + b) + 1) % 251)) rfl rfl rfl (by omega) ?_
  refine zA (I ((256 * b) + ((((5 * s_mix) + b) + 1) % 251))) rfl ?_
  refine s_nil ?_
  refine W.seq ?_
  refine W.region rfl ?_
  refine zM (I ((256 * b) + ((((5 * s_mix) + b) + 1) % 251))) rfl ?_
  refine zM (I n) rfl ?_
  obtain ⟨aG, hM⟩ := M.e_grd hM
  simp only [Bool.and_eq_true, decide_eq_true_eq] at aG
  refine s_val (x_rem' (a := (256 * b) + ((((5 * s_mix) + b) + 1) % 251)) (b := n) rfl rfl (by omega)) ?_
  refine zA (I (((256 * b) + ((((5 * s_mix) + b) + 1) % 251)) % n)) rfl ?_
  refine s_nil ?_
  refine W.ret ?_
  have ag := M.e_pure hM
  exact ⟨_, resE_tmp rfl, ⟨(((256 * b) + ((((5 * s_mix) + b) + 1) % 251)) % n), (s_used + 1), ((((5 * s_mix) + b) + 1) % 251), ag, rfl, H⟩⟩
 replace hM := M.e_f hM aj
 simp only [qy1, qy2, qy3, qy4, qy5, qy6, ne_eq, qy7] at aj
 refine W.skip ?_
 refine W.seq ?_
 refine W.region rfl ?_
 refine zM (I b) rfl ?_
 refine zM (I n) rfl ?_
 obtain ⟨aH, hM⟩ := M.e_grd hM
 simp only [Bool.and_eq_true, decide_eq_true_eq] at aH
 refine s_val (x_rem' (a := b) (b := n) rfl rfl (by omega)) ?_
 refine zA (I (b % n)) rfl ?_
 refine s_nil ?_
 refine W.ret ?_
 have ag := M.e_pure hM
 exact ⟨_, resE_tmp rfl, ⟨(b % n), (s_used + 1), ((((5 * s_mix) + b) + 1) % 251), ag, rfl, H⟩⟩

def zah (s_bytes : List UInt8) (s_used : Int) (s_mix : Int) (lo : Int) (hi : Int) : M (Int × Int × Int) :=
  M.grd (decide ((-9223372036854775808 : Int) <= (hi - lo)) && decide ((hi - lo) <= (9223372036854775807 : Int))) <|
  M.grd (decide ((-9223372036854775808 : Int) <= ((hi - lo) + 1)) && decide (((hi - lo) + 1) <= (9223372036854775807 : Int))) <|
  M.bind (zab s_bytes s_used s_mix ((hi - lo) + 1)) fun (r2, q1, q2) =>
  M.grd (decide ((-9223372036854775808 : Int) <= (lo + r2)) && decide ((lo + r2) <= (9223372036854775807 : Int))) <|
  M.pure ((lo + r2), q1, q2)
theorem zai {R : List Chunk} {aa : Nat} {ac : Cells} {ab : Value} (s_bytes : List UInt8) (s_used : Int) (s_mix : Int) (lo : Int) (hi : Int) (ag : Reads R ac) (ai : Sl ac ab s_bytes) {r : (Int × Int × Int)} (hM : (zah s_bytes s_used s_mix lo hi).Ends r) (w : World) (H : St w w [cBlk aa [ab, I s_used, I s_mix] 111] R) : Ret Tryz.prog 48 #[Pq aa, I lo, I hi] w fun v w' => ∃ (y0 : Int) (y1 : Int) (y2 : Int), (y0, y1, y2) = r /\ v = I y0 /\ St w w' [cBlk aa [ab, I y1, I y2] 111] R := by
 refine ret_of_W Tryz.func48 rfl rfl rfl ?_
 refine W.seq ?_
 refine W.region rfl ?_
 refine zA (I 0) rfl ?_
 refine s_nil ?_
 refine W.seq ?_
 refine W.region rfl ?_
 refine zM (I lo) rfl ?_
 refine zM (Pq aa) rfl ?_
 refine zM (I hi) rfl ?_
 refine zM (I lo) rfl ?_
 obtain ⟨aj, hM⟩ := M.e_grd hM
 simp only [Bool.and_eq_true, decide_eq_true_eq] at aj
 refine zR hi lo (hi - lo) rfl rfl rfl (by omega) ?_
 obtain ⟨ak, hM⟩ := M.e_grd hM
 simp only [Bool.and_eq_true, decide_eq_true_eq] at ak
 refine zR (hi - lo) 1 ((hi - lo) + 1) rfl rfl rfl (by omega) ?_
 obtain ⟨au, am, hM⟩ := M.e_bind hM
 refine s_call cf14 [Pq aa, I ((hi - lo) + 1)] rfl (zad s_bytes s_used s_mix ((hi - lo) + 1) (ag.app _) ai am _ (H.gt 0)) ?_
 rintro vq av ⟨r2, q1, q2, ao, hvq, ae⟩
 subst ao
 subst vq
 try dsimp only at hM
 replace H := H.bk ae
 clear ae
 obtain ⟨ap, hM⟩ := M.e_grd hM
 simp only [Bool.and_eq_true, decide_eq_true_eq] at ap
 refine zR lo r2 (lo + r2) rfl rfl rfl (by omega) ?_
 refine zA (I (lo + r2)) rfl ?_
 refine s_nil ?_
 refine W.ret ?_
 have aq := M.e_pure hM
 exact ⟨_, resE_tmp rfl, ⟨(lo + r2), q1, q2, aq, rfl, H⟩⟩

end Go.Proofs.YtlemgioaakecpaaGreat
end
namespace Go.Nm
structure SOk (c u x : Int) : Prop where
  u0 : 0 <= u
  u1 : u <= c
  x0 : 0 <= x
  x1 : x < 251
theorem SOk.mono {c d u x : Int} (h : SOk c u x) (hd : c <= d) : SOk d u x := ⟨h.u0, Int.le_trans h.u1 hd, h.x0, h.x1⟩
/-- What a stream gives: a number below n. -/
structure Nx (c n : Int) (y : Int × Int × Int) : Prop where
  ok : SOk c y.2.1 y.2.2
  lt : 1 <= n -> 0 <= y.1 /\ y.1 < n
  no : n < 1 -> y.1 = 0
end Go.Nm
namespace Go.Proofs.YtlemgioaakecpaaGreat
open Go Go.Nm
theorem next_out {b : List UInt8} {c u x n : Int} (h : SOk c u x) (hc : c <= 1000000000000) (hn : n <= 1000000) : (zab b u x n).Out (Nx (c + 1) n) := by
  obtain ⟨u0, u1, x0, x1⟩ := h
  unfold zab
  refine M.o_if (fun hb => ?_) (fun hb => ?_)
  · simp only [Bool.or_eq_true, decide_eq_true_eq, beq_iff_eq] at hb
    refine M.o_pure ⟨⟨u0, by dsimp only; omega, x0, x1⟩, fun h1 => ⟨Int.le_refl _, ?_⟩, fun _ => rfl⟩
    dsimp only
    omega
  · simp only [Bool.or_eq_false_iff, decide_eq_false_iff_not, beq_eq_false_iff_ne, ne_eq] at hb
    have hl : (0 : Int) < (b.length : Int) := by omega
    have m0 := Int.emod_nonneg u (show (b.length : Int) ≠ 0 by omega)
    have m1 := Int.emod_lt_of_pos u hl
    have d0 := Int.ediv_nonneg u0 (show (0 : Int) <= (b.length : Int) by omega)
    have d1 : u / (b.length : Int) <= u := Int.ediv_le_self _ u0
    have y1 : ((b.getD (Int.toNat (u % (b.length : Int))) 0).toNat : Int) < 256 := by
      have := UInt8.toNat_lt (b.getD (Int.toNat (u % (b.length : Int))) 0)
      omega
    have y0 : (0 : Int) <= ((b.getD (Int.toNat (u % (b.length : Int))) 0).toNat : Int) := Int.natCast_nonneg _
    generalize ((b.getD (Int.toNat (u % (b.length : Int))) 0).toNat : Int) = y at *
    generalize u % (b.length : Int) = m at *
    generalize u / (b.length : Int) = d at *
    have hn0 : 0 < n := by omega
    have fin : ∀ z : Int, 0 <= z -> 0 <= z % n /\ z % n < n := fun z hz => ⟨Int.emod_nonneg _ (by omega), Int.emod_lt_of_pos _ hn0⟩
    have pr : ∀ z w : Int, 0 <= z -> Nx (c + 1) n (z % n, u + 1, w % 251) := fun z w hz => ⟨⟨by dsimp only; omega, by dsimp only; omega, by dsimp only; omega, by dsimp only; omega⟩, fun _ => fin z hz, fun h => by omega⟩
    refine M.o_grd (by simp only [Bool.and_eq_true, decide_eq_true_eq]; omega) (M.o_grd (by simp only [Bool.and_eq_true, decide_eq_true_eq]; omega) (M.o_grd (by simp only [Bool.and_eq_true, decide_eq_true_eq]; omega) ?_))
    refine M.o_if (fun h1 => ?_) (fun h1 => ?_)
    · refine M.o_grd (by simp only [Bool.and_eq_true, decide_eq_true_eq]; omega) (M.o_grd (by simp only [Bool.and_eq_true, decide_eq_true_eq]; omega) (M.o_grd (by simp only [Bool.and_eq_true, decide_eq_true_eq]; omega) (M.o_grd (by simp only [Bool.and_eq_true, decide_eq_true_eq]; omega) (M.o_grd (by simp only [Bool.and_eq_true, decide_eq_true_eq]; omega) ?_))))
      refine M.o_grd (by simp only [Bool.and_eq_true, decide_eq_true_eq]; omega) (M.o_grd (by simp only [Bool.and_eq_true, decide_eq_true_eq]; omega) (M.o_grd (by simp only [Bool.and_eq_true, decide_eq_true_eq]; omega) (M.o_grd (by simp only [Bool.and_eq_true, decide_eq_true_eq]; omega) ?_)))
      refine M.o_if (fun h2 => ?_) (fun h2 => ?_)
      · refine M.o_grd (by simp only [Bool.and_eq_true, decide_eq_true_eq]; omega) (M.o_grd (by simp only [Bool.and_eq_true, decide_eq_true_eq]; omega) (M.o_grd (by simp only [Bool.and_eq_true, decide_eq_true_eq]; omega) (M.o_pure (pr _ _ (by omega)))))
      · refine M.o_grd (by simp only [Bool.and_eq_true, decide_eq_true_eq]; omega) (M.o_pure (pr _ _ (by omega)))
    · refine M.o_grd (by simp only [Bool.and_eq_true, decide_eq_true_eq]; omega) (M.o_grd (by simp only [Bool.and_eq_true, decide_eq_true_eq]; omega) (M.o_grd (by simp only [Bool.and_eq_true, decide_eq_true_eq]; omega) (M.o_grd (by simp only [Bool.and_eq_true, decide_eq_true_eq]; omega) (M.o_grd (by simp only [Bool.and_eq_true, decide_eq_true_eq]; omega) ?_))))
      refine M.o_if (fun h2 => ?_) (fun h2 => ?_)
      · refine M.o_grd (by simp only [Bool.and_eq_true, decide_eq_true_eq]; omega) (M.o_grd (by simp only [Bool.and_eq_true, decide_eq_true_eq]; omega) (M.o_grd (by simp only [Bool.and_eq_true, decide_eq_true_eq]; omega) (M.o_pure (pr _ _ (by omega)))))
      · refine M.o_grd (by simp only [Bool.and_eq_true, decide_eq_true_eq]; omega) (M.o_pure (pr _ _ (by omega)))
theorem within_out {b : List UInt8} {c u x lo hi : Int} (h : SOk c u x) (hc : c <= 1000000000000) (h0 : -1000 <= lo) (h1 : lo <= hi) (h2 : hi <= 10000) : (zah b u x lo hi).Out (fun y => SOk (c + 1) y.2.1 y.2.2 /\ lo <= y.1 /\ y.1 <= hi) := by
  unfold zah
  refine M.o_grd (gA2 (by omega) (by omega)) (M.o_grd (gA2 (by omega) (by omega)) (M.o_bind (next_out h hc (by omega)) ?_))
  rintro ⟨r, u', x'⟩ ⟨k, hl, _⟩
  have := hl (by omega)
  dsimp only at this k ⊢
  exact M.o_grd (gA2 (by omega) (by omega)) (M.o_pure ⟨k, by dsimp only; omega, by dsimp only; omega⟩)
end Go.Proofs.YtlemgioaakecpaaGreat
namespace Go.Nm
theorem SOk.zero : SOk 0 0 0 := ⟨Int.le_refl _, Int.le_refl _, Int.le_refl _, by decide⟩
end Go.Nm
namespace Go.Proofs.YtlemgioaakecpaaGreat
open Go Go.Nm
end Go.Proofs.YtlemgioaakecpaaGreat
section
set_option maxRecDepth 100000
set_option maxHeartbeats 16000000
namespace Go.Proofs.YtlemgioaakecpaaGreat
open Go Go.Nm
def zaW (s_bytes : List UInt8) : (Int × Int × Int × Int × Int × (List FRow)) -> M ((Int × Int × Int × Int × Int × (List FRow)) ⊕ (Int × Int × (List FRow) × (List FRow))) := fun (s2, s3, s4, carry, k, l) =>
  bif decide (0 < k) then (
  M.grd (decide ((l.length + ([(⟨(s4 : Int), (carry : Int)⟩ : FRow)]).length) * 16 <= 140737488355328)) <|
  M.bind (zah s_bytes s2 s3 1 200) fun (r8, aa, ab) =>
  M.grd (decide ((-9223372036854775808 : Int) <= (s4 + r8)) && decide ((s4 + r8) <= (9223372036854775807 : Int))) <|
  M.bind (zab s_bytes aa ab 2000) fun (r9, ac, ae) =>
  M.grd (decide ((-9223372036854775808 : Int) <= (carry + r9)) && decide ((carry + r9) <= (9223372036854775807 : Int))) <|
  M.grd (decide ((-9223372036854775808 : Int) <= (k - 1)) && decide ((k - 1) <= (9223372036854775807 : Int))) <|
  M.pure (.inl (ac, ae, s4 + r8, carry + r9, k - 1, l ++ ([(⟨(s4 : Int), (carry : Int)⟩ : FRow)]))))
  else (
  M.pure (.inr (s2, s3, l, l)))
def za9 (s_bytes : List UInt8) (marks : Int) (lies : Bool) (place : Int) (stage : Int) : (Int × Int × Int × (List Mrk)) -> M ((Int × Int × Int × (List Mrk)) ⊕ (Int × Int × (List Mrk) × (List Mrk))) := fun (aj, ak, k2, l7) =>
  bif ((decide (0 < k2)) && (decide ((l7.length : Int) < marks))) then (
  M.bind (zab s_bytes aj ak 2) fun (aa, au, av) =>
  M.bind (zab s_bytes au av 20) fun (ab, aw, ax) =>
  M.grd (decide ((-9223372036854775808 : Int) <= (aa * ab)) && decide ((aa * ab) <= (9223372036854775807 : Int))) <|
  M.grd (decide ((-9223372036854775808 : Int) <= (place + (aa * ab))) && decide ((place + (aa * ab)) <= (9223372036854775807 : Int))) <|
  M.bind (zab s_bytes aw ax 9) fun (ac, ay, az) =>
  M.grd (decide ((-9223372036854775808 : Int) <= (stage - ac)) && decide ((stage - ac) <= (9223372036854775807 : Int))) <|
  M.bind (zab s_bytes ay az 9) fun (ae, am, ao) =>
  M.grd (decide ((-9223372036854775808 : Int) <= (stage + ae)) && decide ((stage + ae) <= (9223372036854775807 : Int))) <|
  bif lies then (
  M.bind (zab s_bytes am ao 3) fun (aA, ap, aq) =>
  bif (lies && (aA == 0)) then (
  M.bind (zah s_bytes ap aq 50 420) fun (ag, aB, aC) =>
  M.bind (zab s_bytes aB aC 9) fun (ai, aD, aE) =>
  M.grd (decide ((-9223372036854775808 : Int) <= (ag + ai)) && decide ((ag + ai) <= (9223372036854775807 : Int))) <|
  M.grd (decide ((l7.length + ([(⟨(place + (aa * ab) : Int), (ag : Int), (ag + ai : Int)⟩ : Mrk)]).length) * 24 <= 140737488355328)) <|
  M.grd (decide ((-9223372036854775808 : Int) <= (k2 - 1)) && decide ((k2 - 1) <= (9223372036854775807 : Int))) <|
  M.pure (.inl (aD, aE, k2 - 1, l7 ++ ([(⟨(place + (aa * ab) : Int), (ag : Int), (ag + ai : Int)⟩ : Mrk)]))))
  else (
  M.grd (decide ((l7.length + ([(⟨(place + (aa * ab) : Int), (max 0 (stage - ac) : Int), (stage + ae : Int)⟩ : Mrk)]).length) * 24 <= 140737488355328)) <|
  M.grd (decide ((-9223372036854775808 : Int) <= (k2 - 1)) && decide ((k2 - 1) <= (9223372036854775807 : Int))) <|
  M.pure (.inl (ap, aq, k2 - 1, l7 ++ ([(⟨(place + (aa * ab) : Int), (max 0 (stage - ac) : Int), (stage + ae : Int)⟩ : Mrk)])))))
  else (
  M.grd (decide ((l7.length + ([(⟨(place + (aa * ab) : Int), (max 0 (stage - ac) : Int), (stage + ae : Int)⟩ : Mrk)]).length) * 24 <= 140737488355328)) <|
  M.grd (decide ((-9223372036854775808 : Int) <= (k2 - 1)) && decide ((k2 - 1) <= (9223372036854775807 : Int))) <|
  M.pure (.inl (am, ao, k2 - 1, l7 ++ ([(⟨(place + (aa * ab) : Int), (max 0 (stage - ac) : Int), (stage + ae : Int)⟩ : Mrk)])))))
  else (
  M.pure (.inr (aj, ak, l7, l7)))
def zbJ (s_bytes : List UInt8) (marks : Int) (lies : Bool) (place : Int) (stage : Int) (n : Int) (l9 : List Sect) (ac : List Mrk) (ae : List Int) (ag : List Int) (l3 : List FRow) (ai : Int) (aj : Int) (ak : Int) : M ((Int × Int × Int × Int × Int × (List Sect) × (List Mrk) × (List Int) × (List Int)) ⊕ (Int × Int × (List Sect) × (List Mrk) × (List Int) × (List Int) × (List Int) × (List Int) × (List Mrk) × (List Sect))) :=
  M.bind (zab s_bytes aj ak 3) fun (am, ao, ap) =>
  M.bind (M.iter (za9 s_bytes marks lies place stage) (ao, ap, am, ac)) fun (aq, au, l5, l8) =>
  M.bind (zah s_bytes aq au 21 200) fun (aa, av, aw) =>
  M.grd (decide ((-9223372036854775808 : Int) <= (place + aa)) && decide ((place + aa) <= (9223372036854775807 : Int))) <|
  M.bind (zab s_bytes av aw 20) fun (ab, ax, ay) =>
  M.grd (decide ((-9223372036854775808 : Int) <= (stage - ab)) && decide ((stage - ab) <= (9223372036854775807 : Int))) <|
  M.grd (decide ((-9223372036854775808 : Int) <= (n - 1)) && decide ((n - 1) <= (9223372036854775807 : Int))) <|
  M.pure (.inl (ax, ay, place + aa, stage - ab, n - 1, l9 ++ ([(⟨(place : Int), l3⟩ : Sect)]), l8, ae ++ ([(stage : Int)]), ag ++ ([(ai : Int)])))
def zbd (s_bytes : List UInt8) (marks : Int) (lies : Bool) : (Int × Int × Int × Int × Int × (List Sect) × (List Mrk) × (List Int) × (List Int)) -> M ((Int × Int × Int × Int × Int × (List Sect) × (List Mrk) × (List Int) × (List Int)) ⊕ (Int × Int × (List Sect) × (List Mrk) × (List Int) × (List Int) × (List Int) × (List Int) × (List Mrk) × (List Sect))) := fun (ae, ag, place, stage, n, l9, ac, aa, ab) =>
  bif decide (0 < n) then (
  M.bind (zab s_bytes ae ag 60) fun (r5, aj, ak) =>
  M.bind (zab s_bytes aj ak 50) fun (r6, am, ao) =>
  M.bind (zah s_bytes am ao 2 4) fun (r7, ap, aq) =>
  M.bind (M.iter (zaW s_bytes) (ap, aq, r5, r6, r7, [])) fun (s5, s6, l2, l3) =>
  M.grd (decide ((l9.length + ([(⟨(place : Int), l3⟩ : Sect)]).length) * 32 <= 140737488355328)) <|
  M.grd (decide ((aa.length + ([(stage : Int)]).length) * 8 <= 140737488355328)) <|
  M.bind (zah s_bytes s5 s6 30 90) fun (ai, au, av) =>
  M.grd (decide ((ab.length + ([(ai : Int)]).length) * 8 <= 140737488355328)) <|
  zbJ s_bytes marks lies place stage n l9 ac aa ab l3 ai au av)
  else (
  M.pure (.inr (ae, ag, l9, ac, aa, ab, ab, aa, ac, l9)))
def zaM (s_bytes : List UInt8) (ab : List Int) (ae : List Sect) : (Int × Int × Int × (List Rch)) -> M ((Int × Int × Int × (List Rch)) ⊕ ((List Rch) × (List Rch) × Int × Int)) := fun (ak, am, n2, ag) =>
  bif decide (0 < n2) then (
  M.bind (zab s_bytes ak am ((ae.length : Int) - 1)) fun (aa, ap, aq) =>
  M.bind (zab s_bytes ap aq 4) fun (ao, au, av) =>
  M.grd (decide ((-9223372036854775808 : Int) <= (((ae.length : Int) - 1) - aa)) && decide ((((ae.length : Int) - 1) - aa) <= (9223372036854775807 : Int))) <|
  M.bind (zah s_bytes au av 1 (((ae.length : Int) - 1) - aa)) fun (ac, aw, ax) =>
  M.grd (decide ((-9223372036854775808 : Int) <= (aa + ac)) && decide ((aa + ac) <= (9223372036854775807 : Int))) <|
  M.grd (decide ((0 : Int) <= aa) && decide (aa < (ab.length : Int))) <|
  M.grd (decide ((0 : Int) <= (aa + ac)) && decide ((aa + ac) < (ab.length : Int))) <|
  M.bind (zab s_bytes aw ax 8) fun (ai, ay, az) =>
  M.grd (decide ((-9223372036854775808 : Int) <= ((min (ab.getD (Int.toNat aa) 0) (ab.getD (Int.toNat (aa + ac)) 0)) - ai)) && decide (((min (ab.getD (Int.toNat aa) 0) (ab.getD (Int.toNat (aa + ac)) 0)) - ai) <= (9223372036854775807 : Int))) <|
  M.bind (zab s_bytes ay az 8) fun (aj, aA, aB) =>
  M.grd (decide ((-9223372036854775808 : Int) <= ((max (ab.getD (Int.toNat aa) 0) (ab.getD (Int.toNat (aa + ac)) 0)) + aj)) && decide (((max (ab.getD (Int.toNat aa) 0) (ab.getD (Int.toNat (aa + ac)) 0)) + aj) <= (9223372036854775807 : Int))) <|
  M.grd (decide ((ag.length + ([(⟨(aa : Int), (aa + ac : Int), ((min (ab.getD (Int.toNat aa) 0) (ab.getD (Int.toNat (aa + ac)) 0)) - ai : Int), ((max (ab.getD (Int.toNat aa) 0) (ab.getD (Int.toNat (aa + ac)) 0)) + aj : Int), (ao == 0)⟩ : Rch)]).length) * 40 <= 140737488355328)) <|
  M.grd (decide ((-9223372036854775808 : Int) <= (n2 - 1)) && decide ((n2 - 1) <= (9223372036854775807 : Int))) <|
  M.pure (.inl (aA, aB, n2 - 1, ag ++ ([(⟨(aa : Int), (aa + ac : Int), ((min (ab.getD (Int.toNat aa) 0) (ab.getD (Int.toNat (aa + ac)) 0)) - ai : Int), ((max (ab.getD (Int.toNat aa) 0) (ab.getD (Int.toNat (aa + ac)) 0)) + aj : Int), (ao == 0)⟩ : Rch)]))))
  else (
  M.pure (.inr (ag, ag, ak, am)))
def zaF (s_bytes : List UInt8) (ac : Int) (ae : Int) (aa : List Int) (ag : List Int) (ab : List Sect) (ai : List Mrk) : M ((List Sect) × (List Mrk) × (List Rch) × (List Int) × (List Int) × Int × Int) :=
  M.bind (zah s_bytes ac ae 1 4) fun (aj, ak, am) =>
  M.bind (M.iter (zaM s_bytes aa ab) (ak, am, aj, [])) fun (au, ao, ap, aq) =>
  M.pure (ab, ai, ao, ag, aa, ap, aq)
def zbn (s_bytes : List UInt8) (s_used : Int) (s_mix : Int) (marks : Int) (lies : Bool) : M ((List Sect) × (List Mrk) × (List Rch) × (List Int) × (List Int) × Int × Int) :=
  M.bind (zab s_bytes s_used s_mix 50) fun (r2, q1, q2) =>
  M.bind (zah s_bytes q1 q2 100 400) fun (r3, aj, ak) =>
  M.bind (zah s_bytes aj ak 2 5) fun (r4, am, ao) =>
  M.bind (M.iter (zbd s_bytes marks lies) (am, ao, r2, r3, r4, [], [], [], [])) fun (ae, ag, ap, aq, au, av, ai, aa, ac, ab) =>
  bif (ac.length : Int) == 0 then (
  M.grd (decide (0 < (ab.length : Int))) <|
  M.grd (decide (0 < (aa.length : Int))) <|
  M.grd (decide ((-9223372036854775808 : Int) <= ((aa.getD 0 0) - 5)) && decide (((aa.getD 0 0) - 5) <= (9223372036854775807 : Int))) <|
  M.grd (decide ((-9223372036854775808 : Int) <= ((aa.getD 0 0) + 5)) && decide (((aa.getD 0 0) + 5) <= (9223372036854775807 : Int))) <|
  M.grd (decide ((ac.length + ([(⟨((ab.getD 0 default).place : Int), ((aa.getD 0 0) - 5 : Int), ((aa.getD 0 0) + 5 : Int)⟩ : Mrk)]).length) * 24 <= 140737488355328)) <|
  zaF s_bytes ae ag ai aa ab (ac ++ ([(⟨((ab.getD 0 default).place : Int), ((aa.getD 0 0) - 5 : Int), ((aa.getD 0 0) + 5 : Int)⟩ : Mrk)])))
  else (
  zaF s_bytes ae ag ai aa ab ac)
theorem zdo {R : List Chunk} {ae : Nat} {cd : Cells} {aQ : Value} (s_bytes : List UInt8) (s_used : Int) (s_mix : Int) (marks : Int) (lies : Bool) (aw : Reads R cd) (ax : Sl cd aQ s_bytes) {r : ((List Sect) × (List Mrk) × (List Rch) × (List Int) × (List Int) × Int × Int)} (hM : (zbn s_bytes s_used s_mix marks lies).Ends r) (w : World) (H : St w w [cBlk ae [aQ, I s_used, I s_mix] 111] R) : Ret Tryz.prog 8 #[Pq ae, I marks, B lies] w fun v w' => ∃ (y0 : List Sect) (y1 : List Mrk) (y2 : List Rch) (y3 : List Int) (y4 : List Int) (y5 : Int) (y6 : Int) (u0 : Value) (rr1 : List (Raw 1)) (ce : Base) (u3 : Value) (u4 : Value) (u5 : Value) (u6 : Value), (y0, y1, y2, y3, y4, y5, y6) = r /\ v = .tuple #[.agg #[u0, u3, u4], .agg #[u5, u6]] /\ St w w' [cOwn (α := Raw 1) 68 u0 rr1, cRo ce, cOwn (α := Mrk) 70 u3 y1, cOwn (α := Rch) 58 u4 y2, cOwn (α := Int) 3 u5 y3, cOwn (α := Int) 3 u6 y4, cBlk ae [aQ, I y5, I y6] 111] R /\ RepR (α := Sect) ce.cells rr1 y0 := by
 refine ret_of_W Tryz.func8 rfl rfl rfl ?_
 refine W.seq ?_
 refine W.region rfl ?_
 refine t_alloc (cs := [.slice none 0 0, .slice none 0 0, .slice none 0 0]) H Al27 rfl ?_
 intro aG gi H
 refine t_alloc (cs := [.slice none 0 0, .slice none 0 0]) H Al30 rfl ?_
 intro aH gj H
 refine s_nil ?_
 refine W.seq ?_
 refine W.region rfl ?_
 refine t_alloc (cs := [.slice none 0 0, .slice none 0 0, .slice none 0 0]) H Al27 rfl ?_
 intro ag gk H
 refine s_nil ?_
 refine W.seq ?_
 refine W.region rfl ?_
 refine t_alloc (cs := [.slice none 0 0, .slice none 0 0]) H Al30 rfl ?_
 intro ak gm H
 refine s_nil ?_
 refine W.seq ?_
 refine W.region rfl ?_
 refine zM (Pq ae) rfl ?_
 obtain ⟨gp, cO, hM⟩ := M.e_bind hM
 refine s_call cf14 [Pq ae, I 50] rfl (zad s_bytes s_used s_mix 50 (aw.app _) ax cO _ ((H.pk [4, 0, 1, 2, 3]).gt 4)) ?_
 rintro vq gq ⟨r2, q1, q2, cP, hvq, ac⟩
 subst cP
 subst vq
 try dsimp only at hM
 replace H := H.pk [4, 0, 1, 2, 3] |>.bk ac
 clear ac
 refine zM (Pq ae) rfl ?_
 obtain ⟨gr, cQ, hM⟩ := M.e_bind hM
 refine s_call cf48 [Pq ae, I 100, I 400] rfl (zai s_bytes q1 q2 100 400 (aw.app _) ax cQ _ (H.gt 4)) ?_
 rintro vq gu ⟨r3, cR, cS, cT, hvq, ac⟩
 subst cT
 subst vq
 try dsimp only at hM
 replace H := H.bk ac
 clear ac
 refine zA (I r2) rfl ?_
 refine zA (I r3) rfl ?_
 refine s_nil ?_
 refine W.seq ?_
 refine W.seq ?_
 refine W.region rfl ?_
 refine zM (Pq ae) rfl ?_
 obtain ⟨gv, cU, hM⟩ := M.e_bind hM
 refine s_call cf48 [Pq ae, I 2, I 5] rfl (zai s_bytes cR cS 2 5 (aw.app _) ax cU _ (H.gt 4)) ?_
 rintro vq gw ⟨r4, cV, cW, cX, hvq, ac⟩
 subst cX
 subst vq
 try dsimp only at hM
 replace H := H.bk ac
 clear ac
 refine zA (I r4) rfl ?_
 refine s_nil ?_
 refine W.block ?_
 obtain ⟨cf, H⟩ := H.emptyE
 replace H := H.nilOwn (α := Raw 1) 68
 have cY : RepR (α := Sect) (n := 1) cf.cells [] [] := .nil
 replace H := H.nilOwn (α := Mrk) 70
 replace H := H.nilOwn (α := Int) 3
 replace H := H.nilOwn (α := Int) 3
 obtain ⟨cZ, bH, c3⟩ := M.e_bind hM
 obtain ⟨bI, bH⟩ := M.e_iter bH
 refine W.loop (fun m σ W => ∃ (a6 : Int) (a7 : Int) (place : Int) (stage : Int) (n : Int) (l9 : List Sect) (aK : List Mrk) (aj : List Int) (ab : List Int) (am : Value) (aO : Value) (ao : Value) (ap : Value) (aC : List (Raw 1)) (B_l9 : Base) (ρ : Env), σ = upds ρ [(0, Pq ae), (1, I marks), (2, B lies), (6, Pq aG), (7, Pq aH), (8, Pq ag), (9, Pq ak), (10, I place), (11, I stage), (12, I n)] /\ M.iterN (zbd s_bytes marks lies) m (a6, a7, place, stage, n, l9, aK, aj, ab) = some cZ /\ St w W [cOwn (α := Int) 3 ap ab, cOwn (α := Int) 3 ao aj, cOwn (α := Mrk) 70 aO aK, cOwn (α := Raw 1) 68 am aC, cRo B_l9, cBlk ae [aQ, I a6, I a7] 111, cBlk ak [ao, ap] 30, cBlk ag [am, aO, .slice none 0 0] 27, cBlk aH [.slice none 0 0, .slice none 0 0] 30, cBlk aG [.slice none 0 0, .slice none 0 0, .slice none 0 0] 27] R /\ RepR (α := Sect) B_l9.cells aC l9) ?_ ?_
 ·exact ⟨_, cV, cW, r2, r3, r4, [], [], [], [], (.slice none 0 0), (.slice none 0 0), (.slice none 0 0), (.slice none 0 0), [], cf, _, upds_of _ _ ⟨rfl, rfl, rfl, rfl, rfl, rfl, rfl, rfl, rfl, rfl, trivial⟩, bH, H, cY⟩
 rintro gx σ gy ⟨a6, a7, place, stage, n, l9, aK, aj, ab, am, aO, ao, ap, aC, B_l9, ρ, rfl, cg, H, aB⟩
 obtain ⟨c4, c5, c6, hM, cj⟩ := M.e_iterN cg
 simp only [zbd] at hM
 clear cg
 refine W.seq ?_
 refine W.seq ?_
 refine W.region rfl ?_
 refine zM (I n) rfl ?_
 refine zC n 0 (decide (0 < n)) rfl rfl rfl ?_
 refine s_nil ?_
 refine W.cond (decide (0 < n)) rfl (fun bn => ?_) (fun bn => ?_)
 ·replace hM := M.e_t hM bn
  simp only [qy1, qy2, qy3, qy4, qy5, qy6, ne_eq, qy7] at bn
  refine W.skip ?_
  refine W.seq ?_
  refine W.block ?_
  refine W.seq ?_
  refine W.region rfl ?_
  refine zM (I place) rfl ?_
  refine s_val (x_bld (ps := [(0, I place)]) (zs := [I 0, .slice none 0 0]) (L' := [I place, .slice none 0 0]) rfl Tryz.underlying68 Al68 rfl (Bd68 Tryz.underlying68) (.cons (cs := [I place]) rfl rfl rfl rfl rfl <| .nil)) ?_
  refine t_alloc (cs := [I 0, .slice none 0 0]) H Al68 rfl ?_
  intro aV gz H
  refine t_sw 0 0 [I place, .slice none 0 0] (.agg #[I place, .slice none 0 0]) H rfl rfl Sz68 rfl rfl rfl rfl ?_
  intro gA H
  refine s_nil ?_
  refine W.seq ?_
  refine W.region rfl ?_
  refine zM (Pq ae) rfl ?_
  obtain ⟨gB, c7, hM⟩ := M.e_bind hM
  refine s_call cf14 [Pq ae, I 60] rfl (zad s_bytes a6 a7 60 (aw.app _) ax c7 _ ((H.pk [6, 0, 1, 2, 3, 4, 5, 7, 8, 9, 10]).gt 10)) ?_
  rintro vq gC ⟨r5, c8, c9, da, hvq, ac⟩
  subst da
  subst vq
  try dsimp only at hM
  replace H := H.pk [6, 0, 1, 2, 3, 4, 5, 7, 8, 9, 10] |>.bk ac
  clear ac
  refine zM (Pq ae) rfl ?_
  obtain ⟨gD, db, hM⟩ := M.e_bind hM
  refine s_call cf14 [Pq ae, I 50] rfl (zad s_bytes c8 c9 50 (aw.app _) ax db _ (H.gt 10)) ?_
  rintro vq gE ⟨r6, dc, dd, de, hvq, ac⟩
  subst de
  subst vq
  try dsimp only at hM
  replace H := H.bk ac
  clear ac
  refine zA (I r5) rfl ?_
  refine zA (I r6) rfl ?_
  refine s_nil ?_
  refine W.seq ?_
  refine W.seq ?_
  refine W.region rfl ?_
  refine zM (Pq ae) rfl ?_
  obtain ⟨gF, dg, hM⟩ := M.e_bind hM
  refine s_call cf48 [Pq ae, I 2, I 4] rfl (zai s_bytes dc dd 2 4 (aw.app _) ax dg _ (H.gt 10)) ?_
  rintro vq gG ⟨r7, dh, di, dj, hvq, ac⟩
  subst dj
  subst vq
  try dsimp only at hM
  replace H := H.bk ac
  clear ac
  refine zA (I r7) rfl ?_
  refine s_nil ?_
  refine W.block ?_
  replace H := H.nilOwn (α := FRow) 109
  obtain ⟨dk, bJ, dm⟩ := M.e_bind hM
  obtain ⟨bI, bJ⟩ := M.e_iter bJ
  refine W.loop (fun m σ W => ∃ (s2 : Int) (s3 : Int) (s4 : Int) (carry : Int) (k : Int) (l : List FRow) (aP : Value) (ρ : Env), σ = upds ρ [(0, Pq ae), (1, I marks), (2, B lies), (6, Pq aG), (7, Pq aH), (8, Pq ag), (9, Pq ak), (10, I place), (11, I stage), (12, I n), (13, Pq aV), (14, I s4), (15, I carry), (16, I k)] /\ M.iterN (zaW s_bytes) m (s2, s3, s4, carry, k, l) = some dk /\ St w W [cOwn (α := FRow) 109 aP l, cBlk ae [aQ, I s2, I s3] 111, cBlk aV [I place, aP] 68, cOwn (α := Int) 3 ap ab, cOwn (α := Int) 3 ao aj, cOwn (α := Mrk) 70 aO aK, cOwn (α := Raw 1) 68 am aC, cRo B_l9, cBlk ak [ao, ap] 30, cBlk ag [am, aO, .slice none 0 0] 27, cBlk aH [.slice none 0 0, .slice none 0 0] 30, cBlk aG [.slice none 0 0, .slice none 0 0, .slice none 0 0] 27] R) ?_ ?_
  ·exact ⟨_, dh, di, r5, r6, r7, [], (.slice none 0 0), _, upds_of _ _ ⟨rfl, rfl, rfl, rfl, rfl, rfl, rfl, rfl, rfl, rfl, rfl, rfl, rfl, rfl, trivial⟩, bJ, H⟩
  rintro gH σ gI ⟨s2, s3, s4, carry, k, l, aP, ρ, rfl, ck, H⟩
  obtain ⟨dp, dq, gJ, hM, cn⟩ := M.e_iterN ck
  simp only [zaW] at hM
  clear ck
  refine W.seq ?_
  refine W.seq ?_
  refine W.region rfl ?_
  refine zM (I k) rfl ?_
  refine zC k 0 (decide (0 < k)) rfl rfl rfl ?_
  refine s_nil ?_
  refine W.cond (decide (0 < k)) rfl (fun bo => ?_) (fun bo => ?_)
  ·replace hM := M.e_t hM bo
   simp only [qy1, qy2, qy3, qy4, qy5, qy6, ne_eq, qy7] at bo
   refine W.skip ?_
   refine W.seq ?_
   refine W.block ?_
   refine W.seq ?_
   refine W.region rfl ?_
   refine s_val (x_fa (a := Pq aV) (v := Oq aV 1) rfl (fa_blk (o := 0) Fd68_1 Sz66)) ?_
   refine s_val (x_ld (p := Oq aV 1) (v := aP) rfl (ldb_sc Sc66 (H.bl 2) rfl)) ?_
   refine zM (I s4) rfl ?_
   refine zM (I carry) rfl ?_
   refine s_val (x_bld (ps := [(0, I s4), (1, I carry)]) (zs := [I 0, I 0]) (L' := [I s4, I carry]) rfl Tryz.underlying109 Al109 rfl (Bd109 Tryz.underlying109) (.cons (cs := [I s4]) rfl rfl rfl rfl rfl <| .cons (cs := [I carry]) rfl rfl rfl rfl rfl <| .nil)) ?_
   refine t_bs (α := FRow) T66 [.agg #[I s4, I carry]] [(⟨(s4 : Int), (carry : Int)⟩ : FRow)] H rfl (.cons rfl (Flat.rep_enc _ (⟨(s4 : Int), (carry : Int)⟩ : FRow)) <| .nil) rfl rfl rfl ?_
   intro dr gK H
   obtain ⟨dt, hM⟩ := M.e_grd hM
   simp only [Bool.and_eq_true, decide_eq_true_eq] at dt
   refine t_app (α := FRow) (k := 1) (l := l) (l2 := [(⟨(s4 : Int), (carry : Int)⟩ : FRow)]) (l' := l ++ ([(⟨(s4 : Int), (carry : Int)⟩ : FRow)])) (vy := dr) T66 rfl H rfl rfl rfl (H.os 0) (H.ol 0) (rfl) (by first | omega | (simp only [List.length_nil] at *; omega)) ?_
   intro bK gL H
   replace H := H.nf
   refine s_val (x_fa (a := Pq aV) (v := Oq aV 1) rfl (fa_blk (o := 0) Fd68_1 Sz66)) ?_
   refine t_sw 3 1 [bK] bK H rfl rfl Sz66 (Sl.cells (H.os 1)) rfl rfl (by simp only [List.all_cons, List.all_nil, Bool.true_and, Bool.and_true, Sl.oc (H.os 1)]; try rfl) ?_
   intro gM H
   refine s_nil ?_
   refine W.region rfl ?_
   refine zM (I s4) rfl ?_
   refine zM (Pq ae) rfl ?_
   obtain ⟨gN, dv, hM⟩ := M.e_bind hM
   refine s_call cf48 [Pq ae, I 1, I 200] rfl (zai s_bytes s2 s3 1 200 (aw.app _) ax dv _ ((H.pk [2, 0, 1, 3, 4, 5, 6, 7, 8, 9, 10, 11, 12]).gt 12)) ?_
   rintro vq gO ⟨r8, dw, dx, dy, hvq, ac⟩
   subst dy
   subst vq
   try dsimp only at hM
   replace H := H.pk [2, 0, 1, 3, 4, 5, 6, 7, 8, 9, 10, 11, 12] |>.bk ac
   clear ac
   obtain ⟨dz, hM⟩ := M.e_grd hM
   simp only [Bool.and_eq_true, decide_eq_true_eq] at dz
   refine zR s4 r8 (s4 + r8) rfl rfl rfl (by omega) ?_
   refine zM (I carry) rfl ?_
   refine zM (Pq ae) rfl ?_
   obtain ⟨gP, dA, hM⟩ := M.e_bind hM
   refine s_call cf14 [Pq ae, I 2000] rfl (zad s_bytes dw dx 2000 (aw.app _) ax dA _ (H.gt 12)) ?_
   rintro vq gQ ⟨r9, dB, dC, dD, hvq, ac⟩
   subst dD
   subst vq
   try dsimp only at hM
   replace H := H.bk ac
   clear ac
   obtain ⟨dE, hM⟩ := M.e_grd hM
   simp only [Bool.and_eq_true, decide_eq_true_eq] at dE
   refine zR carry r9 (carry + r9) rfl rfl rfl (by omega) ?_
   refine zA (I (s4 + r8)) rfl ?_
   refine zA (I (carry + r9)) rfl ?_
   refine s_nil ?_
   refine W.region rfl ?_
   refine zM (I k) rfl ?_
   obtain ⟨dF, hM⟩ := M.e_grd hM
   simp only [Bool.and_eq_true, decide_eq_true_eq] at dF
   refine zR k 1 (k - 1) rfl rfl rfl (by omega) ?_
   refine zA (I (k - 1)) rfl ?_
   refine s_nil ?_
   exact ⟨dp, dq, dB, dC, s4 + r8, carry + r9, k - 1, l ++ ([(⟨(s4 : Int), (carry : Int)⟩ : FRow)]), bK, _, upds_of _ _ ⟨rfl, rfl, rfl, rfl, rfl, rfl, rfl, rfl, rfl, rfl, rfl, rfl, rfl, rfl, trivial⟩, M.e_inl hM cn, (H.pk [2, 0, 3, 4, 5, 6, 7, 8, 9, 10, 11, 12])⟩
  replace hM := M.e_f hM bo
  simp only [qy1, qy2, qy3, qy4, qy5, qy6, ne_eq, qy7] at bo
  refine W.exit ?_
  have dG := M.e_inr hM cn
  subst dG
  replace hM := dm
  try dsimp only at hM
  refine W.seqJ (fun σ W => ∃ (av : Int) (aW : Int) (aX : Int) (co : Value) (cp : Value) (aR : Base) (cq : Value) (bL : List (Raw 1)) (aY : Base) (bg : Base) (bh : Base) (a8 : Value) (ba : Value) (bb : Value) (bi : List (Raw 1)) (ρ : Env), σ = upds ρ [(0, Pq ae), (1, I marks), (2, B lies), (6, Pq aG), (7, Pq aH), (8, Pq ag), (9, Pq ak), (10, I place), (11, I stage), (12, I n)] /\ (zbJ s_bytes marks lies place stage n l9 aK aj ab l av aW aX).Ends c6 /\ St w W [cOwn (α := Int) 3 co ([(av : Int)]), cBlk ae [aQ, I aW, I aX] 111, cOwn (α := Int) 3 cp ([(stage : Int)]), cRo aR, cOwn (α := Raw 1) 68 cq bL, cRo aY, cRo bg, cRo bh, cBlk aV [I place, aP] 68, cOwn (α := Int) 3 a8 (ab ++ ([(av : Int)])), cOwn (α := Int) 3 ba (aj ++ ([(stage : Int)])), cOwn (α := Mrk) 70 aO aK, cOwn (α := Raw 1) 68 bb bi, cRo B_l9, cBlk ak [ba, a8] 30, cBlk ag [bb, aO, .slice none 0 0] 27, cBlk aH [.slice none 0 0, .slice none 0 0] 30, cBlk aG [.slice none 0 0, .slice none 0 0, .slice none 0 0] 27] R /\ RepR (α := Sect) aY.cells bL ([(⟨(place : Int), l⟩ : Sect)]) /\ RepR (α := Sect) aR.cells bi (l9 ++ ([(⟨(place : Int), l⟩ : Sect)]))) ?_ ?_
  ·skip
   refine W.drawTS (fun W => St w W [cBlk aV [I place, aP] 68, cOwn (α := Mrk) 70 aO aK, cRo B_l9, cBlk ak [ao, ap] 30, cBlk ag [am, aO, .slice none 0 0] 27, cBlk aH [.slice none 0 0, .slice none 0 0] 30, cBlk aG [.slice none 0 0, .slice none 0 0, .slice none 0 0] 27] R) (.q 0 (.q 1 (.q 2 (.q 5 (.q 6 (.q 7 (.q 10 (.q 11 (.q 12 (.l2 3 (.l2 4 (.q 16 (.l 8 (.l 9 (.l 13 (.l 14 (.l 15 .nil)))))) 8 (.l 4 (.q 16 (.l 9 (.l 13 (.l 14 (.l 15 .nil))))))) 8 (.l 3 (.l 4 (.q 16 (.l 9 (.l 13 (.l 14 (.l 15 .nil))))))))))))))))) 17 [17, 18, 19, 20, 21] mixed (by decide +kernel) rfl ?_
   intro gR aI
   replace H := H.ext aI
   clear aI
   refine ⟨(H.pk [2, 5, 7, 8, 9, 10, 11]), ?_⟩
   refine ts_q rfl (fun w' H => x_fa (a := Pq ag) (v := Pq ag) rfl (fa_blk (o := 0) Fd27_0 Sz23)) ?_
   refine ts_q rfl (fun w' H => x_ld (p := Pq ag) (v := am) rfl (ldb_sc Sc23 (H.bl 4) rfl)) ?_
   refine ts_q rfl (fun w' H => x_ld (p := Pq aV) (v := .agg #[I place, aP]) rfl (ldb_ag (ds := [I place, aP]) Ag68 Sz68 (H.bl 0) rfl rfl)) ?_
   refine ts_q rfl (fun w' H => x_fa (a := Pq ak) (v := Pq ak) rfl (fa_blk (o := 0) Fd30_0 Sz28)) ?_
   refine ts_q rfl (fun w' H => x_ld (p := Pq ak) (v := ao) rfl (ldb_sc Sc28 (H.bl 3) rfl)) ?_
   refine ts_q rfl (fun w' H => x_mv (v := I stage) rfl) ?_
   refine ts_q rfl (fun w' H => x_fa (a := Pq ak) (v := Oq ak 1) rfl (fa_blk (o := 0) Fd30_1 Sz28)) ?_
   refine ts_q rfl (fun w' H => x_ld (p := Oq ak 1) (v := ap) rfl (ldb_sc Sc28 (H.bl 3) rfl)) ?_
   refine ts_q rfl (fun w' H => x_mv (v := Pq ae) rfl) ?_
   refine ts_l2 rfl rfl ?_ ?_
   ·skip
    obtain ⟨bg, H⟩ := H.emptyE
    obtain ⟨bh, H, dH⟩ := H.freezeE (k := 1) rfl
    replace H := H.nf
    have bw := dH
    obtain ⟨aY, H, gS, dI⟩ := H.joinE (i := 0) (j := 1) rfl rfl
    replace bw := bw.mono dI
    obtain ⟨aS, cr⟩ : ∃ r : Raw 1, r.cs = [I place, aP] := ⟨Raw.of [I place, aP] rfl (by simp only [List.all_cons, List.all_nil, Bool.true_and, Bool.and_true, Sl.oc bw]; try rfl), rfl⟩
    have bx : RepR (α := Sect) aY.cells [aS] [(⟨(place : Int), l⟩ : Sect)] := .cons (by rw [cr]; exact ⟨_, rfl, bw⟩) <| .nil
    refine t_bs (α := Raw 1) T23 [.agg #[I place, aP]] [aS] H rfl (.cons (by rw [show (Flat.enc aS : List Value) = aS.cs from rfl, cr]; rfl) (Flat.rep_enc _ _) <| .nil) rfl rfl rfl ?_
    intro bz gT H
    replace H := H.nf
    have gU := Sl.cells (H.os 0)
    have gV := Sl.oc (H.os 0)
    have gW := Sl.cells (H.os 6)
    have gX := Sl.oc (H.os 6)
    have gY := Sl.cells (H.os 7)
    have gZ := Sl.oc (H.os 7)
    have g0 := Sl.cells (H.os 9)
    have hG := Sl.oc (H.os 9)
    refine s_nil ⟨(H.pk [5, 8, 10, 11, 12, 13, 14]), ?_⟩
    refine ts_l2 rfl rfl ?_ ?_
    ·skip
     obtain ⟨dJ, hM⟩ := M.e_grd hM
     simp only [Bool.and_eq_true, decide_eq_true_eq] at dJ
     have bA := bx
     obtain ⟨aR, H, dK, dL⟩ := H.joinE (i := 10) (j := 1) rfl rfl
     replace aB := aB.mono dK
     replace bA := bA.mono dL
     have bM := aB.app bA
     refine t_app (α := Raw 1) (k := 10) (l := aC) (l2 := [aS]) (l' := aC ++ ([aS])) (vy := bz) T23 rfl H rfl rfl rfl (H.os 1) (H.ol 1) (rfl) (by have a_ := aB.len; have b_ := bA.len; (try simp only [List.length_nil] at *); first | omega | (rw [a_, b_]; omega)) ?_
     intro bN hO H
     replace H := H.nf
     have hP := Sl.cells (H.os 10)
     have hZ := Sl.oc (H.os 10)
     refine s_nil ⟨(H.pk [6, 9, 11, 12, 13, 14, 15]), ?_⟩
     refine ts_q rfl (fun w' H => x_fa (a := Pq ag) (v := Pq ag) rfl (fa_blk (o := 0) Fd27_0 Sz23)) ?_
     refine ts_l rfl ?_
     refine t_bs (α := Int) T28 [I stage] [(stage : Int)] H rfl (.cons rfl (Flat.rep_enc _ (stage : Int)) <| .nil) rfl rfl rfl ?_
     intro ct h9 H
     have ia := Sl.cells (H.os 0)
     have ib := Sl.oc (H.os 0)
     refine s_nil ⟨(H.pk [7, 10, 12, 13, 14, 15, 16]), ?_⟩
     refine ts_l rfl ?_
     obtain ⟨dM, hM⟩ := M.e_grd hM
     simp only [Bool.and_eq_true, decide_eq_true_eq] at dM
     refine t_app (α := Int) (k := 9) (l := aj) (l2 := [(stage : Int)]) (l' := aj ++ ([(stage : Int)])) (vy := ct) T28 rfl H rfl rfl rfl (H.os 0) (H.ol 0) (rfl) (by first | omega | (simp only [List.length_nil] at *; omega)) ?_
     intro bO ic H
     replace H := H.nf
     have ie := Sl.cells (H.os 9)
     have ig := Sl.oc (H.os 9)
     refine s_nil ⟨(H.pk [7, 10, 12, 13, 14, 15, 16]), ?_⟩
     refine ts_l rfl ?_
     obtain ⟨ii, dN, hM⟩ := M.e_bind hM
     refine s_call cf48 [Pq ae, I 30, I 90] rfl (zai s_bytes s2 s3 30 90 (aw.app _) ax dN _ ((H.pk [6, 0, 1, 2, 3, 4, 5, 7, 8, 9, 10, 11, 12, 13, 14, 15, 16]).gt 16)) ?_
     rintro vq ij ⟨av, aW, aX, dO, hvq, ac⟩
     subst dO
     subst vq
     try dsimp only at hM
     replace H := H.pk [6, 0, 1, 2, 3, 4, 5, 7, 8, 9, 10, 11, 12, 13, 14, 15, 16] |>.bk ac
     clear ac
     refine s_nil ⟨(H.pk [7, 10, 12, 13, 14, 15, 16]), ?_⟩
     refine ts_l rfl ?_
     refine t_bs (α := Int) T28 [I av] [(av : Int)] H rfl (.cons rfl (Flat.rep_enc _ (av : Int)) <| .nil) rfl rfl rfl ?_
     intro cu ik H
     have il := Sl.cells (H.os 0)
     have im := Sl.oc (H.os 0)
     refine s_nil ⟨(H.pk [8, 11, 13, 14, 15, 16, 17]), ?_⟩
     refine ts_l rfl ?_
     obtain ⟨dP, hM⟩ := M.e_grd hM
     simp only [Bool.and_eq_true, decide_eq_true_eq] at dP
     refine t_app (α := Int) (k := 9) (l := ab) (l2 := [(av : Int)]) (l' := ab ++ ([(av : Int)])) (vy := cu) T28 rfl H rfl rfl rfl (H.os 0) (H.ol 0) (rfl) (by first | omega | (simp only [List.length_nil] at *; omega)) ?_
     intro bP io H
     replace H := H.nf
     have iq := Sl.cells (H.os 9)
     have ir := Sl.oc (H.os 9)
     refine s_nil ⟨(H.pk [8, 11, 13, 14, 15, 16, 17]), ?_⟩
     refine ts_nil ?_
     refine sr_l rfl ?_
     refine t_sw 15 0 [bN] bN H rfl rfl Sz23 (Sl.cells (rowSl rfl (H.get (k := 12) rfl) (roLe _ (H.get (k := 3) rfl)) bM)) rfl rfl (by simp only [List.all_cons, List.all_nil, Bool.true_and, Bool.and_true, Sl.oc (rowSl rfl (H.get (k := 12) rfl) (roLe _ (H.get (k := 3) rfl)) bM)]; try rfl) ?_
     intro iw H
     refine s_nil ⟨trivial, ?_⟩
     refine sr_l rfl ?_
     refine s_val (x_fa (a := Pq ak) (v := Pq ak) rfl (fa_blk (o := 0) Fd30_0 Sz28)) ?_
     refine s_nil ⟨trivial, ?_⟩
     refine sr_l rfl ?_
     refine t_sw 14 0 [bO] bO H rfl rfl Sz28 (Sl.cells (H.os 10)) rfl rfl (by simp only [List.all_cons, List.all_nil, Bool.true_and, Bool.and_true, Sl.oc (H.os 10)]; try rfl) ?_
     intro iy H
     refine s_nil ⟨trivial, ?_⟩
     refine sr_l rfl ?_
     refine s_val (x_fa (a := Pq ak) (v := Oq ak 1) rfl (fa_blk (o := 0) Fd30_1 Sz28)) ?_
     refine s_nil ⟨trivial, ?_⟩
     refine sr_l rfl ?_
     refine t_sw 14 1 [bP] bP H rfl rfl Sz28 (Sl.cells (H.os 9)) rfl rfl (by simp only [List.all_cons, List.all_nil, Bool.true_and, Bool.and_true, Sl.oc (H.os 9)]; try rfl) ?_
     intro iz H
     refine s_nil ⟨trivial, ?_⟩
     refine sr_nil ?_
     exact ⟨av, aW, aX, cu, ct, aR, bz, [aS], aY, bg, bh, bP, bO, bN, aC ++ ([aS]), _, upds_of _ _ ⟨rfl, rfl, rfl, rfl, rfl, rfl, rfl, rfl, rfl, rfl, trivial⟩, hM, H, bx, bM⟩
    skip
    refine t_bs (α := Int) T28 [I stage] [(stage : Int)] H rfl (.cons rfl (Flat.rep_enc _ (stage : Int)) <| .nil) rfl rfl rfl ?_
    intro cv iA H
    have iB := Sl.cells (H.os 0)
    have iC := Sl.oc (H.os 0)
    refine s_nil ⟨(H.pk [6, 9, 11, 12, 13, 14, 15]), ?_⟩
    refine ts_l rfl ?_
    obtain ⟨dQ, hM⟩ := M.e_grd hM
    simp only [Bool.and_eq_true, decide_eq_true_eq] at dQ
    have bB := bx
    obtain ⟨aR, H, dR, dS⟩ := H.joinE (i := 11) (j := 2) rfl rfl
    replace aB := aB.mono dR
    replace bB := bB.mono dS
    have bQ := aB.app bB
    refine t_app (α := Raw 1) (k := 11) (l := aC) (l2 := [aS]) (l' := aC ++ ([aS])) (vy := bz) T23 rfl H rfl rfl rfl (H.os 2) (H.ol 2) (rfl) (by have a_ := aB.len; have b_ := bB.len; (try simp only [List.length_nil] at *); first | omega | (rw [a_, b_]; omega)) ?_
    intro bR iD H
    replace H := H.nf
    have iE := Sl.cells (H.os 11)
    have iF := Sl.oc (H.os 11)
    refine s_nil ⟨(H.pk [7, 10, 12, 13, 14, 15, 16]), ?_⟩
    refine ts_q rfl (fun w' H => x_fa (a := Pq ag) (v := Pq ag) rfl (fa_blk (o := 0) Fd27_0 Sz23)) ?_
    refine ts_l rfl ?_
    obtain ⟨dT, hM⟩ := M.e_grd hM
    simp only [Bool.and_eq_true, decide_eq_true_eq] at dT
    refine t_app (α := Int) (k := 9) (l := aj) (l2 := [(stage : Int)]) (l' := aj ++ ([(stage : Int)])) (vy := cv) T28 rfl H rfl rfl rfl (H.os 1) (H.ol 1) (rfl) (by first | omega | (simp only [List.length_nil] at *; omega)) ?_
    intro bS iG H
    replace H := H.nf
    have iH := Sl.cells (H.os 9)
    have iI := Sl.oc (H.os 9)
    refine s_nil ⟨(H.pk [7, 10, 12, 13, 14, 15, 16]), ?_⟩
    refine ts_l rfl ?_
    obtain ⟨iJ, dU, hM⟩ := M.e_bind hM
    refine s_call cf48 [Pq ae, I 30, I 90] rfl (zai s_bytes s2 s3 30 90 (aw.app _) ax dU _ ((H.pk [6, 0, 1, 2, 3, 4, 5, 7, 8, 9, 10, 11, 12, 13, 14, 15, 16]).gt 16)) ?_
    rintro vq iK ⟨av, aW, aX, dV, hvq, ac⟩
    subst dV
    subst vq
    try dsimp only at hM
    replace H := H.pk [6, 0, 1, 2, 3, 4, 5, 7, 8, 9, 10, 11, 12, 13, 14, 15, 16] |>.bk ac
    clear ac
    refine s_nil ⟨(H.pk [7, 10, 12, 13, 14, 15, 16]), ?_⟩
    refine ts_l rfl ?_
    refine t_bs (α := Int) T28 [I av] [(av : Int)] H rfl (.cons rfl (Flat.rep_enc _ (av : Int)) <| .nil) rfl rfl rfl ?_
    intro cw iL H
    have iM := Sl.cells (H.os 0)
    have iN := Sl.oc (H.os 0)
    refine s_nil ⟨(H.pk [8, 11, 13, 14, 15, 16, 17]), ?_⟩
    refine ts_l rfl ?_
    obtain ⟨dW, hM⟩ := M.e_grd hM
    simp only [Bool.and_eq_true, decide_eq_true_eq] at dW
    refine t_app (α := Int) (k := 9) (l := ab) (l2 := [(av : Int)]) (l' := ab ++ ([(av : Int)])) (vy := cw) T28 rfl H rfl rfl rfl (H.os 0) (H.ol 0) (rfl) (by first | omega | (simp only [List.length_nil] at *; omega)) ?_
    intro bT iO H
    replace H := H.nf
    have iP := Sl.cells (H.os 9)
    have iQ := Sl.oc (H.os 9)
    refine s_nil ⟨(H.pk [8, 11, 13, 14, 15, 16, 17]), ?_⟩
    refine ts_nil ?_
    refine sr_l rfl ?_
    refine t_sw 15 0 [bR] bR H rfl rfl Sz23 (Sl.cells (rowSl rfl (H.get (k := 12) rfl) (roLe _ (H.get (k := 2) rfl)) bQ)) rfl rfl (by simp only [List.all_cons, List.all_nil, Bool.true_and, Bool.and_true, Sl.oc (rowSl rfl (H.get (k := 12) rfl) (roLe _ (H.get (k := 2) rfl)) bQ)]; try rfl) ?_
    intro iR H
    refine s_nil ⟨trivial, ?_⟩
    refine sr_l rfl ?_
    refine s_val (x_fa (a := Pq ak) (v := Pq ak) rfl (fa_blk (o := 0) Fd30_0 Sz28)) ?_
    refine s_nil ⟨trivial, ?_⟩
    refine sr_l rfl ?_
    refine t_sw 14 0 [bS] bS H rfl rfl Sz28 (Sl.cells (H.os 10)) rfl rfl (by simp only [List.all_cons, List.all_nil, Bool.true_and, Bool.and_true, Sl.oc (H.os 10)]; try rfl) ?_
    intro iS H
    refine s_nil ⟨trivial, ?_⟩
    refine sr_l rfl ?_
    refine s_val (x_fa (a := Pq ak) (v := Oq ak 1) rfl (fa_blk (o := 0) Fd30_1 Sz28)) ?_
    refine s_nil ⟨trivial, ?_⟩
    refine sr_l rfl ?_
    refine t_sw 14 1 [bT] bT H rfl rfl Sz28 (Sl.cells (H.os 9)) rfl rfl (by simp only [List.all_cons, List.all_nil, Bool.true_and, Bool.and_true, Sl.oc (H.os 9)]; try rfl) ?_
    intro iT H
    refine s_nil ⟨trivial, ?_⟩
    refine sr_nil ?_
    exact ⟨av, aW, aX, cw, cv, aR, bz, [aS], aY, bg, bh, bT, bS, bR, aC ++ ([aS]), _, upds_of _ _ ⟨rfl, rfl, rfl, rfl, rfl, rfl, rfl, rfl, rfl, rfl, trivial⟩, hM, (H.pk [0, 1, 3, 2, 4, 5, 6, 7, 8, 9, 10, 11, 12, 13, 14, 15, 16, 17]), bx, bQ⟩
   skip
   refine t_bs (α := Int) T28 [I stage] [(stage : Int)] H rfl (.cons rfl (Flat.rep_enc _ (stage : Int)) <| .nil) rfl rfl rfl ?_
   intro cx iU H
   have iV := Sl.cells (H.os 0)
   have iW := Sl.oc (H.os 0)
   have iX := Sl.cells (H.os 1)
   have iY := Sl.oc (H.os 1)
   have iZ := Sl.cells (H.os 4)
   have i0 := Sl.oc (H.os 4)
   have i6 := Sl.cells (H.os 5)
   have i7 := Sl.oc (H.os 5)
   have i8 := Sl.cells (H.os 7)
   have i9 := Sl.oc (H.os 7)
   refine s_nil ⟨(H.pk [3, 6, 8, 9, 10, 11, 12]), ?_⟩
   refine ts_l rfl ?_
   obtain ⟨bg, H⟩ := H.emptyE
   obtain ⟨bh, H, dX⟩ := H.freezeE (k := 2) rfl
   replace H := H.nf
   have bC := dX
   obtain ⟨aY, H, ja, dY⟩ := H.joinE (i := 0) (j := 2) rfl rfl
   replace bC := bC.mono dY
   obtain ⟨bc, cy⟩ : ∃ r : Raw 1, r.cs = [I place, aP] := ⟨Raw.of [I place, aP] rfl (by simp only [List.all_cons, List.all_nil, Bool.true_and, Bool.and_true, Sl.oc bC]; try rfl), rfl⟩
   have cz : RepR (α := Sect) aY.cells [bc] [(⟨(place : Int), l⟩ : Sect)] := .cons (by rw [cy]; exact ⟨_, rfl, bC⟩) <| .nil
   refine t_bs (α := Raw 1) T23 [.agg #[I place, aP]] [bc] H rfl (.cons (by rw [show (Flat.enc bc : List Value) = bc.cs from rfl, cy]; rfl) (Flat.rep_enc _ _) <| .nil) rfl rfl rfl ?_
   intro cA jb H
   replace H := H.nf
   have jc := Sl.cells (H.os 0)
   have jd := Sl.oc (H.os 0)
   refine s_nil ⟨(H.pk [6, 9, 11, 12, 13, 14, 15]), ?_⟩
   refine ts_l rfl ?_
   obtain ⟨dZ, hM⟩ := M.e_grd hM
   simp only [Bool.and_eq_true, decide_eq_true_eq] at dZ
   have bD := cz
   obtain ⟨aR, H, d2, d3⟩ := H.joinE (i := 11) (j := 1) rfl rfl
   replace aB := aB.mono d2
   replace bD := bD.mono d3
   have bU := aB.app bD
   refine t_app (α := Raw 1) (k := 11) (l := aC) (l2 := [bc]) (l' := aC ++ ([bc])) (vy := cA) T23 rfl H rfl rfl rfl (H.os 1) (H.ol 1) (rfl) (by have a_ := aB.len; have b_ := bD.len; (try simp only [List.length_nil] at *); first | omega | (rw [a_, b_]; omega)) ?_
   intro bV je H
   replace H := H.nf
   have jf := Sl.cells (H.os 11)
   have jg := Sl.oc (H.os 11)
   refine s_nil ⟨(H.pk [7, 10, 12, 13, 14, 15, 16]), ?_⟩
   refine ts_q rfl (fun w' H => x_fa (a := Pq ag) (v := Pq ag) rfl (fa_blk (o := 0) Fd27_0 Sz23)) ?_
   refine ts_l rfl ?_
   obtain ⟨d4, hM⟩ := M.e_grd hM
   simp only [Bool.and_eq_true, decide_eq_true_eq] at d4
   refine t_app (α := Int) (k := 9) (l := aj) (l2 := [(stage : Int)]) (l' := aj ++ ([(stage : Int)])) (vy := cx) T28 rfl H rfl rfl rfl (H.os 4) (H.ol 4) (rfl) (by first | omega | (simp only [List.length_nil] at *; omega)) ?_
   intro bW jh H
   replace H := H.nf
   have ji := Sl.cells (H.os 9)
   have jj := Sl.oc (H.os 9)
   refine s_nil ⟨(H.pk [7, 10, 12, 13, 14, 15, 16]), ?_⟩
   refine ts_l rfl ?_
   obtain ⟨jk, d5, hM⟩ := M.e_bind hM
   refine s_call cf48 [Pq ae, I 30, I 90] rfl (zai s_bytes s2 s3 30 90 (aw.app _) ax d5 _ ((H.pk [6, 0, 1, 2, 3, 4, 5, 7, 8, 9, 10, 11, 12, 13, 14, 15, 16]).gt 16)) ?_
   rintro vq jl ⟨av, aW, aX, d6, hvq, ac⟩
   subst d6
   subst vq
   try dsimp only at hM
   replace H := H.pk [6, 0, 1, 2, 3, 4, 5, 7, 8, 9, 10, 11, 12, 13, 14, 15, 16] |>.bk ac
   clear ac
   refine s_nil ⟨(H.pk [7, 10, 12, 13, 14, 15, 16]), ?_⟩
   refine ts_l rfl ?_
   refine t_bs (α := Int) T28 [I av] [(av : Int)] H rfl (.cons rfl (Flat.rep_enc _ (av : Int)) <| .nil) rfl rfl rfl ?_
   intro cB jm H
   have jn := Sl.cells (H.os 0)
   have jo := Sl.oc (H.os 0)
   refine s_nil ⟨(H.pk [8, 11, 13, 14, 15, 16, 17]), ?_⟩
   refine ts_l rfl ?_
   obtain ⟨d7, hM⟩ := M.e_grd hM
   simp only [Bool.and_eq_true, decide_eq_true_eq] at d7
   refine t_app (α := Int) (k := 9) (l := ab) (l2 := [(av : Int)]) (l' := ab ++ ([(av : Int)])) (vy := cB) T28 rfl H rfl rfl rfl (H.os 0) (H.ol 0) (rfl) (by first | omega | (simp only [List.length_nil] at *; omega)) ?_
   intro bX jp H
   replace H := H.nf
   have jq := Sl.cells (H.os 9)
   have jr := Sl.oc (H.os 9)
   refine s_nil ⟨(H.pk [8, 11, 13, 14, 15, 16, 17]), ?_⟩
   refine ts_nil ?_
   refine sr_l rfl ?_
   refine t_sw 15 0 [bV] bV H rfl rfl Sz23 (Sl.cells (rowSl rfl (H.get (k := 12) rfl) (roLe _ (H.get (k := 2) rfl)) bU)) rfl rfl (by simp only [List.all_cons, List.all_nil, Bool.true_and, Bool.and_true, Sl.oc (rowSl rfl (H.get (k := 12) rfl) (roLe _ (H.get (k := 2) rfl)) bU)]; try rfl) ?_
   intro js H
   refine s_nil ⟨trivial, ?_⟩
   refine sr_l rfl ?_
   refine s_val (x_fa (a := Pq ak) (v := Pq ak) rfl (fa_blk (o := 0) Fd30_0 Sz28)) ?_
   refine s_nil ⟨trivial, ?_⟩
   refine sr_l rfl ?_
   refine t_sw 14 0 [bW] bW H rfl rfl Sz28 (Sl.cells (H.os 10)) rfl rfl (by simp only [List.all_cons, List.all_nil, Bool.true_and, Bool.and_true, Sl.oc (H.os 10)]; try rfl) ?_
   intro jt H
   refine s_nil ⟨trivial, ?_⟩
   refine sr_l rfl ?_
   refine s_val (x_fa (a := Pq ak) (v := Oq ak 1) rfl (fa_blk (o := 0) Fd30_1 Sz28)) ?_
   refine s_nil ⟨trivial, ?_⟩
   refine sr_l rfl ?_
   refine t_sw 14 1 [bX] bX H rfl rfl Sz28 (Sl.cells (H.os 9)) rfl rfl (by simp only [List.all_cons, List.all_nil, Bool.true_and, Bool.and_true, Sl.oc (H.os 9)]; try rfl) ?_
   intro ju H
   refine s_nil ⟨trivial, ?_⟩
   refine sr_nil ?_
   exact ⟨av, aW, aX, cB, cx, aR, cA, [bc], aY, bg, bh, bX, bW, bV, aC ++ ([bc]), _, upds_of _ _ ⟨rfl, rfl, rfl, rfl, rfl, rfl, rfl, rfl, rfl, rfl, trivial⟩, hM, (H.pk [0, 1, 6, 2, 3, 4, 5, 7, 8, 9, 10, 11, 12, 13, 14, 15, 16, 17]), cz, bU⟩
  rintro _ jv ⟨av, aW, aX, co, cp, aR, cq, bL, aY, bg, bh, a8, ba, bb, bi, ρ, rfl, hM, H, jw, d8⟩
  unfold zbJ at hM
  refine W.seq ?_
  refine W.seq ?_
  refine W.region rfl ?_
  refine zM (Pq ae) rfl ?_
  obtain ⟨jx, d9, hM⟩ := M.e_bind hM
  refine s_call cf14 [Pq ae, I 3] rfl (zad s_bytes aW aX 3 (aw.app _) ax d9 _ ((H.pk [1, 0, 2, 3, 4, 5, 6, 7, 8, 9, 10, 11, 12, 13, 14, 15, 16, 17]).gt 17)) ?_
  rintro vq jy ⟨cC, ec, ed, ef, hvq, ac⟩
  subst ef
  subst vq
  try dsimp only at hM
  replace H := H.pk [1, 0, 2, 3, 4, 5, 6, 7, 8, 9, 10, 11, 12, 13, 14, 15, 16, 17] |>.bk ac
  clear ac
  refine zA (I cC) rfl ?_
  refine s_nil ?_
  replace H := H.pk [0, 3, 9, 10, 11, 12, 13, 14, 15, 16, 17]
  refine W.block ?_
  obtain ⟨eg, bY, ei⟩ := M.e_bind hM
  obtain ⟨bI, bY⟩ := M.e_iter bY
  refine W.loop (fun m σ W => ∃ (bp : Int) (bq : Int) (k2 : Int) (l7 : List Mrk) (aU : Value) (ρ : Env), σ = upds ρ [(0, Pq ae), (1, I marks), (2, B lies), (6, Pq aG), (7, Pq aH), (8, Pq ag), (9, Pq ak), (10, I place), (11, I stage), (12, I n), (17, I k2)] /\ M.iterN (za9 s_bytes marks lies place stage) m (bp, bq, k2, l7) = some eg /\ St w W [cBlk ae [aQ, I bp, I bq] 111, cRo aR, cOwn (α := Int) 3 a8 (ab ++ ([(av : Int)])), cOwn (α := Int) 3 ba (aj ++ ([(stage : Int)])), cOwn (α := Mrk) 70 aU l7, cOwn (α := Raw 1) 68 bb bi, cRo B_l9, cBlk ak [ba, a8] 30, cBlk ag [bb, aU, .slice none 0 0] 27, cBlk aH [.slice none 0 0, .slice none 0 0] 30, cBlk aG [.slice none 0 0, .slice none 0 0, .slice none 0 0] 27] R) ?_ ?_
  ·exact ⟨_, ec, ed, cC, aK, aO, _, upds_of _ _ ⟨rfl, rfl, rfl, rfl, rfl, rfl, rfl, rfl, rfl, rfl, rfl, trivial⟩, bY, H⟩
  rintro jz σ jA ⟨bp, bq, k2, l7, aU, ρ, rfl, cD, H⟩
  obtain ⟨bZ, b3, jB, hM, bE⟩ := M.e_iterN cD
  simp only [za9] at hM
  clear cD
  refine W.seq ?_
  refine W.seq ?_
  refine W.region rfl ?_
  refine zM (I k2) rfl ?_
  refine zC k2 0 (decide (0 < k2)) rfl rfl rfl ?_
  refine zM (B (decide (0 < k2))) rfl ?_
  refine g_val (decide (0 < k2)) (gy_t rfl) (fun hg => x_fa (a := Pq ag) (v := Oq ag 1) rfl (fa_blk (o := 0) Fd27_1 Sz24)) ?_
  refine g_val (decide (0 < k2)) (gy_t rfl) (fun hg => x_ld (p := Oq ag 1) (v := aU) (gd_of (c := decide (0 < k2)) hg (Oq ag 1)) (ldb_sc Sc24 (H.bl 8) rfl)) ?_
  refine g_val (decide (0 < k2)) (gy_t rfl) (fun hg => x_lenS T24.und (gd_of (c := decide (0 < k2)) hg (aU)) (H.os 4)) ?_
  refine g_val (decide (0 < k2)) (gy_t rfl) (fun hg => x_mv (v := I marks) rfl) ?_
  refine g_val (decide (0 < k2)) (gy_t rfl) (fun hg => x_cmp (kd := .i64) (a := (l7.length : Int)) (b := marks) (r := decide ((l7.length : Int) < marks)) (gd_of (c := decide (0 < k2)) hg (I (l7.length : Int))) (gd_of (c := decide (0 < k2)) hg (I marks)) rfl) ?_
  refine s_val (x_pand (b := decide (0 < k2)) (r := decide ((l7.length : Int) < marks)) rfl (fun hb => gd_of (c := decide (0 < k2)) (by first | exact hb | (rw [hb]; rfl) | simp_all) (B (decide ((l7.length : Int) < marks)))) rfl) ?_
  refine s_nil ?_
  refine W.cond ((decide (0 < k2)) && (decide ((l7.length : Int) < marks))) rfl (fun b4 => ?_) (fun b4 => ?_)
  ·replace hM := M.e_t hM b4
   refine W.skip ?_
   refine W.seq ?_
   refine W.block ?_
   refine W.seq ?_
   refine W.region rfl ?_
   refine zM (I place) rfl ?_
   refine zM (Pq ae) rfl ?_
   obtain ⟨jC, ej, hM⟩ := M.e_bind hM
   refine s_call cf14 [Pq ae, I 2] rfl (zad s_bytes bp bq 2 (aw.app _) ax ej _ (H.gt 10)) ?_
   rintro vq jD ⟨aq, ek, em, eo, hvq, ac⟩
   subst eo
   subst vq
   try dsimp only at hM
   replace H := H.bk ac
   clear ac
   refine zM (Pq ae) rfl ?_
   obtain ⟨jE, ep, hM⟩ := M.e_bind hM
   refine s_call cf14 [Pq ae, I 20] rfl (zad s_bytes ek em 20 (aw.app _) ax ep _ (H.gt 10)) ?_
   rintro vq jF ⟨au, eq, er, ew, hvq, ac⟩
   subst ew
   subst vq
   try dsimp only at hM
   replace H := H.bk ac
   clear ac
   obtain ⟨ey, hM⟩ := M.e_grd hM
   simp only [Bool.and_eq_true, decide_eq_true_eq] at ey
   refine zR aq au (aq * au) rfl rfl rfl (by omega) ?_
   obtain ⟨ez, hM⟩ := M.e_grd hM
   simp only [Bool.and_eq_true, decide_eq_true_eq] at ez
   refine zR place (aq * au) (place + (aq * au)) rfl rfl rfl (by omega) ?_
   refine zM (I stage) rfl ?_
   refine zM (Pq ae) rfl ?_
   obtain ⟨jG, eA, hM⟩ := M.e_bind hM
   refine s_call cf14 [Pq ae, I 9] rfl (zad s_bytes eq er 9 (aw.app _) ax eA _ (H.gt 10)) ?_
   rintro vq jH ⟨ay, eB, eC, eD, hvq, ac⟩
   subst eD
   subst vq
   try dsimp only at hM
   replace H := H.bk ac
   clear ac
   obtain ⟨eE, hM⟩ := M.e_grd hM
   simp only [Bool.and_eq_true, decide_eq_true_eq] at eE
   refine zR stage ay (stage - ay) rfl rfl rfl (by omega) ?_
   refine s_val (x_max (kd := .i64) (a := 0) (b := stage - ay) rfl rfl) ?_
   refine zM (I stage) rfl ?_
   refine zM (Pq ae) rfl ?_
   obtain ⟨jI, eF, hM⟩ := M.e_bind hM
   refine s_call cf14 [Pq ae, I 9] rfl (zad s_bytes eB eC 9 (aw.app _) ax eF _ (H.gt 10)) ?_
   rintro vq jJ ⟨aA, cE, cF, eG, hvq, ac⟩
   subst eG
   subst vq
   try dsimp only at hM
   replace H := H.bk ac
   clear ac
   obtain ⟨eH, hM⟩ := M.e_grd hM
   simp only [Bool.and_eq_true, decide_eq_true_eq] at eH
   refine zR stage aA (stage + aA) rfl rfl rfl (by omega) ?_
   refine s_val (x_bld (ps := [(0, I (max 0 (stage - ay))), (1, I (stage + aA))]) (zs := [I 0, I 0]) (L' := [I (max 0 (stage - ay)), I (stage + aA)]) rfl Tryz.underlying54 Al54 rfl (Bd54 Tryz.underlying54) (.cons (cs := [I (max 0 (stage - ay))]) rfl rfl rfl rfl rfl <| .cons (cs := [I (stage + aA)]) rfl rfl rfl rfl rfl <| .nil)) ?_
   refine s_val (x_bld (ps := [(0, I (place + (aq * au))), (1, .agg #[I (max 0 (stage - ay)), I (stage + aA)])]) (zs := [I 0, I 0, I 0]) (L' := [I (place + (aq * au)), I (max 0 (stage - ay)), I (stage + aA)]) rfl Tryz.underlying70 Al70 rfl (Bd70 Tryz.underlying70) (.cons (cs := [I (place + (aq * au))]) rfl rfl rfl rfl rfl <| .cons (cs := [I (max 0 (stage - ay)), I (stage + aA)]) rfl rfl rfl rfl rfl <| .nil)) ?_
   refine t_alloc (cs := [I 0, I 0, I 0]) H Al70 rfl ?_
   intro aL jK H
   refine t_sw 0 0 [I (place + (aq * au)), I (max 0 (stage - ay)), I (stage + aA)] (.agg #[I (place + (aq * au)), I (max 0 (stage - ay)), I (stage + aA)]) H rfl rfl Sz70 rfl rfl rfl rfl ?_
   intro jL H
   refine s_nil ?_
   refine W.seq ?_
   refine W.seq ?_
   refine W.region rfl ?_
   refine zM (B lies) rfl ?_
   refine zM (B lies) rfl ?_
   refine g_val lies (gy_t rfl) (fun hg => x_mv (v := Pq ae) rfl) ?_
   refine g_splitV lies (I 0) (gy_t rfl) (fun br => ?_) (fun br => ?_)
   ·replace hM := M.e_t hM br
    obtain ⟨jM, eI, hM⟩ := M.e_bind hM
    refine s_call cf14 [Pq ae, I 3] (lst2 (gd_of (c := lies) br (Pq ae)) rfl) (zad s_bytes cE cF 3 (aw.app _) ax eI _ ((H.pk [1, 0, 2, 3, 4, 5, 6, 7, 8, 9, 10, 11]).gt 11)) ?_
    rintro vq jN ⟨bt, cG, cH, eJ, hvq, ac⟩
    subst eJ
    subst vq
    try dsimp only at hM
    replace H := H.pk [1, 0, 2, 3, 4, 5, 6, 7, 8, 9, 10, 11] |>.bk ac
    clear ac
    refine g_val lies (gy_t rfl) (fun hg => x_cmp (kd := .i64) (a := bt) (b := 0) (r := bt == 0) rfl rfl rfl) ?_
    refine s_val (x_pand (b := lies) (r := bt == 0) rfl (fun hb => gd_of (c := lies) (by first | exact hb | (rw [hb]; rfl) | simp_all) (B (bt == 0))) rfl) ?_
    refine s_nil ?_
    refine W.cond (lies && (bt == 0)) rfl (fun b5 => ?_) (fun b5 => ?_)
    ·replace hM := M.e_t hM b5
     refine W.seq ?_
     refine W.region rfl ?_
     refine zM (Pq ae) rfl ?_
     obtain ⟨jO, eK, hM⟩ := M.e_bind hM
     refine s_call cf48 [Pq ae, I 50, I 420] rfl (zai s_bytes cG cH 50 420 (aw.app _) ax eK _ (H.gt 11)) ?_
     rintro vq jP ⟨az, eL, eM, eN, hvq, ac⟩
     subst eN
     subst vq
     try dsimp only at hM
     replace H := H.bk ac
     clear ac
     refine s_val (x_bld (ps := [(0, I az)]) (zs := [I 0, I 0]) (L' := [I az, I 0]) rfl Tryz.underlying54 Al54 rfl (Bd54 Tryz.underlying54) (.cons (cs := [I az]) rfl rfl rfl rfl rfl <| .nil)) ?_
     refine s_val (x_fa (a := Pq aL) (v := Oq aL 1) rfl (fa_blk (o := 0) Fd70_1 Sz54)) ?_
     refine t_sw 1 1 [I az, I 0] (.agg #[I az, I 0]) H rfl rfl Sz54 rfl rfl rfl rfl ?_
     intro jQ H
     refine s_nil ?_
     refine W.drawTS (fun W => St w W [cBlk aL [I (place + (aq * au)), I az, I 0] 70, cRo aR, cOwn (α := Int) 3 a8 (ab ++ ([(av : Int)])), cOwn (α := Int) 3 ba (aj ++ ([(stage : Int)])), cOwn (α := Mrk) 70 aU l7, cOwn (α := Raw 1) 68 bb bi, cRo B_l9, cBlk ak [ba, a8] 30, cBlk ag [bb, aU, .slice none 0 0] 27, cBlk aH [.slice none 0 0, .slice none 0 0] 30, cBlk aG [.slice none 0 0, .slice none 0 0, .slice none 0 0] 27] R) (.q 0 (.q 1 (.q 2 (.q 3 (.l 4 (.q 5 (.q 6 (.q 7 .nil)))))))) 8 [8] mixed (by decide +kernel) rfl ?_
     intro jR aI
     replace H := H.ext aI
     clear aI
     refine ⟨(H.pk [1, 2, 3, 4, 5, 6, 7, 8, 9, 10, 11]), ?_⟩
     refine ts_q rfl (fun w' H => x_fa (a := Pq aL) (v := Oq aL 1) rfl (fa_blk (o := 0) Fd70_1 Sz54)) ?_
     refine ts_q rfl (fun w' H => x_fa (a := Oq aL 1) (v := Oq aL 1) rfl (fa_blk (o := 1) Fd54_0 Sz3)) ?_
     refine ts_q rfl (fun w' H => x_ld (p := Oq aL 1) (v := I az) rfl (ldb_sc Sc3 (H.bl 0) rfl)) ?_
     refine ts_q rfl (fun w' H => x_mv (v := Pq ae) rfl) ?_
     refine ts_l rfl ?_
     obtain ⟨jS, eO, hM⟩ := M.e_bind hM
     refine s_call cf14 [Pq ae, I 9] rfl (zad s_bytes eL eM 9 (aw.app _) ax eO _ (H.gt 11)) ?_
     rintro vq jT ⟨aT, eP, eQ, eR, hvq, ac⟩
     subst eR
     subst vq
     try dsimp only at hM
     replace H := H.bk ac
     clear ac
     refine s_nil ⟨(H.pk [1, 2, 3, 4, 5, 6, 7, 8, 9, 10, 11]), ?_⟩
     obtain ⟨eS, hM⟩ := M.e_grd hM
     simp only [Bool.and_eq_true, decide_eq_true_eq] at eS
     refine ts_q rfl (fun w' H => x_ari (a := az) (b := aT) (r := az + aT) rfl rfl rfl (by omega)) ?_
     refine ts_q rfl (fun w' H => x_fa (a := Pq aL) (v := Oq aL 1) rfl (fa_blk (o := 0) Fd70_1 Sz54)) ?_
     refine ts_q rfl (fun w' H => x_fa (a := Oq aL 1) (v := Oq aL 2) rfl (fa_blk (o := 1) Fd54_1 Sz3)) ?_
     refine ts_nil ?_
     refine sr_l rfl ?_
     refine t_sw 1 2 [I (az + aT)] (I (az + aT)) H rfl rfl Sz3 rfl rfl rfl rfl ?_
     intro jU H
     refine s_nil ⟨trivial, ?_⟩
     refine sr_nil ?_
     refine W.region rfl ?_
     refine s_val (x_fa (a := Pq ag) (v := Oq ag 1) rfl (fa_blk (o := 0) Fd27_1 Sz24)) ?_
     refine s_val (x_ld (p := Oq ag 1) (v := aU) rfl (ldb_sc Sc24 (H.bl 9) rfl)) ?_
     refine s_val (x_ld (p := Pq aL) (v := .agg #[I (place + (aq * au)), I az, I (az + aT)]) rfl (ldb_ag (ds := [I (place + (aq * au)), I az, I (az + aT)]) Ag70 Sz70 (H.bl 1) rfl rfl)) ?_
     refine t_bs (α := Mrk) T24 [.agg #[I (place + (aq * au)), I az, I (az + aT)]] [(⟨(place + (aq * au) : Int), (az : Int), (az + aT : Int)⟩ : Mrk)] H rfl (.cons rfl (Flat.rep_enc _ (⟨(place + (aq * au) : Int), (az : Int), (az + aT : Int)⟩ : Mrk)) <| .nil) rfl rfl rfl ?_
     intro eT jV H
     obtain ⟨eU, hM⟩ := M.e_grd hM
     simp only [Bool.and_eq_true, decide_eq_true_eq] at eU
     refine t_app (α := Mrk) (k := 6) (l := l7) (l2 := [(⟨(place + (aq * au) : Int), (az : Int), (az + aT : Int)⟩ : Mrk)]) (l' := l7 ++ ([(⟨(place + (aq * au) : Int), (az : Int), (az + aT : Int)⟩ : Mrk)])) (vy := eT) T24 rfl H rfl rfl rfl (H.os 0) (H.ol 0) (rfl) (by first | omega | (simp only [List.length_nil] at *; omega)) ?_
     intro b6 jW H
     replace H := H.nf
     refine s_val (x_fa (a := Pq ag) (v := Oq ag 1) rfl (fa_blk (o := 0) Fd27_1 Sz24)) ?_
     refine t_sw 10 1 [b6] b6 H rfl rfl Sz24 (Sl.cells (H.os 6)) rfl rfl (by simp only [List.all_cons, List.all_nil, Bool.true_and, Bool.and_true, Sl.oc (H.os 6)]; try rfl) ?_
     intro jX H
     refine s_nil ?_
     replace H := H.pk [1, 3, 4, 5, 6, 7, 8, 9, 10, 11, 12]
     refine W.region rfl ?_
     refine zM (I k2) rfl ?_
     obtain ⟨eV, hM⟩ := M.e_grd hM
     simp only [Bool.and_eq_true, decide_eq_true_eq] at eV
     refine zR k2 1 (k2 - 1) rfl rfl rfl (by omega) ?_
     refine zA (I (k2 - 1)) rfl ?_
     refine s_nil ?_
     exact ⟨bZ, b3, eP, eQ, k2 - 1, l7 ++ ([(⟨(place + (aq * au) : Int), (az : Int), (az + aT : Int)⟩ : Mrk)]), b6, _, upds_of _ _ ⟨rfl, rfl, rfl, rfl, rfl, rfl, rfl, rfl, rfl, rfl, rfl, trivial⟩, M.e_inl hM bE, H⟩
    replace hM := M.e_f hM b5
    refine W.skip ?_
    refine W.region rfl ?_
    refine s_val (x_fa (a := Pq ag) (v := Oq ag 1) rfl (fa_blk (o := 0) Fd27_1 Sz24)) ?_
    refine s_val (x_ld (p := Oq ag 1) (v := aU) rfl (ldb_sc Sc24 (H.bl 9) rfl)) ?_
    refine s_val (x_ld (p := Pq aL) (v := .agg #[I (place + (aq * au)), I (max 0 (stage - ay)), I (stage + aA)]) rfl (ldb_ag (ds := [I (place + (aq * au)), I (max 0 (stage - ay)), I (stage + aA)]) Ag70 Sz70 (H.bl 1) rfl rfl)) ?_
    refine t_bs (α := Mrk) T24 [.agg #[I (place + (aq * au)), I (max 0 (stage - ay)), I (stage + aA)]] [(⟨(place + (aq * au) : Int), (max 0 (stage - ay) : Int), (stage + aA : Int)⟩ : Mrk)] H rfl (.cons rfl (Flat.rep_enc _ (⟨(place + (aq * au) : Int), (max 0 (stage - ay) : Int), (stage + aA : Int)⟩ : Mrk)) <| .nil) rfl rfl rfl ?_
    intro eW jY H
    obtain ⟨eX, hM⟩ := M.e_grd hM
    simp only [Bool.and_eq_true, decide_eq_true_eq] at eX
    refine t_app (α := Mrk) (k := 6) (l := l7) (l2 := [(⟨(place + (aq * au) : Int), (max 0 (stage - ay) : Int), (stage + aA : Int)⟩ : Mrk)]) (l' := l7 ++ ([(⟨(place + (aq * au) : Int), (max 0 (stage - ay) : Int), (stage + aA : Int)⟩ : Mrk)])) (vy := eW) T24 rfl H rfl rfl rfl (H.os 0) (H.ol 0) (rfl) (by first | omega | (simp only [List.length_nil] at *; omega)) ?_
    intro b7 jZ H
    replace H := H.nf
    refine s_val (x_fa (a := Pq ag) (v := Oq ag 1) rfl (fa_blk (o := 0) Fd27_1 Sz24)) ?_
    refine t_sw 10 1 [b7] b7 H rfl rfl Sz24 (Sl.cells (H.os 6)) rfl rfl (by simp only [List.all_cons, List.all_nil, Bool.true_and, Bool.and_true, Sl.oc (H.os 6)]; try rfl) ?_
    intro j0 H
    refine s_nil ?_
    replace H := H.pk [1, 3, 4, 5, 6, 7, 8, 9, 10, 11, 12]
    refine W.region rfl ?_
    refine zM (I k2) rfl ?_
    obtain ⟨eY, hM⟩ := M.e_grd hM
    simp only [Bool.and_eq_true, decide_eq_true_eq] at eY
    refine zR k2 1 (k2 - 1) rfl rfl rfl (by omega) ?_
    refine zA (I (k2 - 1)) rfl ?_
    refine s_nil ?_
    exact ⟨bZ, b3, cG, cH, k2 - 1, l7 ++ ([(⟨(place + (aq * au) : Int), (max 0 (stage - ay) : Int), (stage + aA : Int)⟩ : Mrk)]), b7, _, upds_of _ _ ⟨rfl, rfl, rfl, rfl, rfl, rfl, rfl, rfl, rfl, rfl, rfl, trivial⟩, M.e_inl hM bE, H⟩
   replace hM := M.e_f hM br
   refine g_val (v := B false) lies (gy_t rfl) (fun hg => Bool.noConfusion (br.symm.trans hg)) ?_
   refine s_val (x_pand0 (b := lies) rfl (fun hb => gd_of (c := lies) (by first | exact hb | (rw [hb]; rfl) | simp_all) (B false)) rfl) ?_
   refine s_nil ?_
   refine W.cond false rfl (fun cI => ?_) (fun cI => ?_)
   ·skip
    exact absurd cI (by decide)
   skip
   refine W.skip ?_
   refine W.region rfl ?_
   refine s_val (x_fa (a := Pq ag) (v := Oq ag 1) rfl (fa_blk (o := 0) Fd27_1 Sz24)) ?_
   refine s_val (x_ld (p := Oq ag 1) (v := aU) rfl (ldb_sc Sc24 (H.bl 9) rfl)) ?_
   refine s_val (x_ld (p := Pq aL) (v := .agg #[I (place + (aq * au)), I (max 0 (stage - ay)), I (stage + aA)]) rfl (ldb_ag (ds := [I (place + (aq * au)), I (max 0 (stage - ay)), I (stage + aA)]) Ag70 Sz70 (H.bl 0) rfl rfl)) ?_
   refine t_bs (α := Mrk) T24 [.agg #[I (place + (aq * au)), I (max 0 (stage - ay)), I (stage + aA)]] [(⟨(place + (aq * au) : Int), (max 0 (stage - ay) : Int), (stage + aA : Int)⟩ : Mrk)] H rfl (.cons rfl (Flat.rep_enc _ (⟨(place + (aq * au) : Int), (max 0 (stage - ay) : Int), (stage + aA : Int)⟩ : Mrk)) <| .nil) rfl rfl rfl ?_
   intro eZ j6 H
   obtain ⟨e4, hM⟩ := M.e_grd hM
   simp only [Bool.and_eq_true, decide_eq_true_eq] at e4
   refine t_app (α := Mrk) (k := 6) (l := l7) (l2 := [(⟨(place + (aq * au) : Int), (max 0 (stage - ay) : Int), (stage + aA : Int)⟩ : Mrk)]) (l' := l7 ++ ([(⟨(place + (aq * au) : Int), (max 0 (stage - ay) : Int), (stage + aA : Int)⟩ : Mrk)])) (vy := eZ) T24 rfl H rfl rfl rfl (H.os 0) (H.ol 0) (rfl) (by first | omega | (simp only [List.length_nil] at *; omega)) ?_
   intro b8 j7 H
   replace H := H.nf
   refine s_val (x_fa (a := Pq ag) (v := Oq ag 1) rfl (fa_blk (o := 0) Fd27_1 Sz24)) ?_
   refine t_sw 10 1 [b8] b8 H rfl rfl Sz24 (Sl.cells (H.os 6)) rfl rfl (by simp only [List.all_cons, List.all_nil, Bool.true_and, Bool.and_true, Sl.oc (H.os 6)]; try rfl) ?_
   intro j8 H
   refine s_nil ?_
   replace H := H.pk [2, 3, 4, 5, 6, 7, 8, 9, 10, 11, 12]
   refine W.region rfl ?_
   refine zM (I k2) rfl ?_
   obtain ⟨e5, hM⟩ := M.e_grd hM
   simp only [Bool.and_eq_true, decide_eq_true_eq] at e5
   refine zR k2 1 (k2 - 1) rfl rfl rfl (by omega) ?_
   refine zA (I (k2 - 1)) rfl ?_
   refine s_nil ?_
   exact ⟨bZ, b3, cE, cF, k2 - 1, l7 ++ ([(⟨(place + (aq * au) : Int), (max 0 (stage - ay) : Int), (stage + aA : Int)⟩ : Mrk)]), b8, _, upds_of _ _ ⟨rfl, rfl, rfl, rfl, rfl, rfl, rfl, rfl, rfl, rfl, rfl, trivial⟩, M.e_inl hM bE, H⟩
  replace hM := M.e_f hM b4
  refine W.exit ?_
  have e6 := M.e_inr hM bE
  subst e6
  replace hM := ei
  try dsimp only at hM
  refine W.region rfl ?_
  refine zM (I place) rfl ?_
  refine zM (Pq ae) rfl ?_
  obtain ⟨j9, e7, hM⟩ := M.e_bind hM
  refine s_call cf48 [Pq ae, I 21, I 200] rfl (zai s_bytes bp bq 21 200 (aw.app _) ax e7 _ (H.gt 10)) ?_
  rintro vq ka ⟨bF, e8, e9, fa, hvq, ac⟩
  subst fa
  subst vq
  try dsimp only at hM
  replace H := H.bk ac
  clear ac
  obtain ⟨fb, hM⟩ := M.e_grd hM
  simp only [Bool.and_eq_true, decide_eq_true_eq] at fb
  refine zR place bF (place + bF) rfl rfl rfl (by omega) ?_
  refine zM (I stage) rfl ?_
  refine zM (Pq ae) rfl ?_
  obtain ⟨ke, fd, hM⟩ := M.e_bind hM
  refine s_call cf14 [Pq ae, I 20] rfl (zad s_bytes e8 e9 20 (aw.app _) ax fd _ (H.gt 10)) ?_
  rintro vq kg ⟨bG, fe, ff, fg, hvq, ac⟩
  subst fg
  subst vq
  try dsimp only at hM
  replace H := H.bk ac
  clear ac
  obtain ⟨fh, hM⟩ := M.e_grd hM
  simp only [Bool.and_eq_true, decide_eq_true_eq] at fh
  refine zR stage bG (stage - bG) rfl rfl rfl (by omega) ?_
  refine zA (I (place + bF)) rfl ?_
  refine zA (I (stage - bG)) rfl ?_
  refine s_nil ?_
  refine W.region rfl ?_
  refine zM (I n) rfl ?_
  obtain ⟨fj, hM⟩ := M.e_grd hM
  simp only [Bool.and_eq_true, decide_eq_true_eq] at fj
  refine zR n 1 (n - 1) rfl rfl rfl (by omega) ?_
  refine zA (I (n - 1)) rfl ?_
  refine s_nil ?_
  exact ⟨c4, c5, fe, ff, place + bF, stage - bG, n - 1, l9 ++ ([(⟨(place : Int), l⟩ : Sect)]), l7, aj ++ ([(stage : Int)]), ab ++ ([(av : Int)]), bb, aU, ba, a8, bi, aR, _, upds_of _ _ ⟨rfl, rfl, rfl, rfl, rfl, rfl, rfl, rfl, rfl, rfl, trivial⟩, M.e_inl hM cj, (H.pk [2, 3, 4, 5, 1, 0, 7, 8, 9, 10]), d8⟩
 replace hM := M.e_f hM bn
 simp only [qy1, qy2, qy3, qy4, qy5, qy6, ne_eq, qy7] at bn
 refine W.exit ?_
 have fl := M.e_inr hM cj
 subst fl
 replace hM := c3
 try dsimp only at hM
 refine W.seqJ (fun σ W => ∃ (bf : List Mrk) (aD : Value) (ρ : Env), σ = upds ρ [(0, Pq ae), (6, Pq aG), (7, Pq aH), (8, Pq ag), (9, Pq ak)] /\ (zaF s_bytes a6 a7 ab aj l9 bf).Ends r /\ St w W [cOwn (α := Int) 3 ap ab, cOwn (α := Int) 3 ao aj, cOwn (α := Mrk) 70 aD bf, cOwn (α := Raw 1) 68 am aC, cRo B_l9, cBlk ae [aQ, I a6, I a7] 111, cBlk ak [ao, ap] 30, cBlk ag [am, aD, .slice none 0 0] 27, cBlk aH [.slice none 0 0, .slice none 0 0] 30, cBlk aG [.slice none 0 0, .slice none 0 0, .slice none 0 0] 27] R) ?_ ?_
 ·skip
  refine W.seq ?_
  refine W.region rfl ?_
  refine s_val (x_fa (a := Pq ag) (v := Oq ag 1) rfl (fa_blk (o := 0) Fd27_1 Sz24)) ?_
  refine s_val (x_ld (p := Oq ag 1) (v := aO) rfl (ldb_sc Sc24 (H.bl 7) rfl)) ?_
  have kh := ((H.os 2)).len_le
  refine s_val (x_lenS T24.und rfl (H.os 2)) ?_
  refine zC (aK.length : Int) 0 ((aK.length : Int) == 0) rfl rfl rfl ?_
  refine s_nil ?_
  refine W.cond ((aK.length : Int) == 0) rfl (fun bu => ?_) (fun bu => ?_)
  ·replace hM := M.e_t hM bu
   simp only [qy1, qy2, qy3, qy4, qy5, qy6, ne_eq, qy7] at bu
   refine W.drawTS (fun W => St w W [cOwn (α := Int) 3 ap ab, cOwn (α := Int) 3 ao aj, cOwn (α := Raw 1) 68 am aC, cRo B_l9, cBlk ae [aQ, I a6, I a7] 111, cBlk ak [ao, ap] 30, cBlk ag [am, aO, .slice none 0 0] 27, cBlk aH [.slice none 0 0, .slice none 0 0] 30, cBlk aG [.slice none 0 0, .slice none 0 0, .slice none 0 0] 27] R) (.q 0 (.q 1 (.q 2 (.q 3 (.q 4 (.q 5 (.q 6 (.q 7 (.q 8 (.q 9 (.q 10 (.q 11 (.q 12 (.q 13 (.q 14 (.q 15 (.q 16 (.q 17 (.q 18 (.l 19 (.l 20 (.q 21 .nil)))))))))))))))))))))) 22 [22] mixed (by decide +kernel) rfl ?_
   intro ki aI
   replace H := H.ext aI
   clear aI
   refine ⟨(H.pk [0, 1, 3, 4, 5, 6, 7, 8, 9]), ?_⟩
   refine ts_q rfl (fun w' H => x_fa (a := Pq ag) (v := Oq ag 1) rfl (fa_blk (o := 0) Fd27_1 Sz24)) ?_
   refine ts_q rfl (fun w' H => x_ld (p := Oq ag 1) (v := aO) rfl (ldb_sc Sc24 (H.bl 6) rfl)) ?_
   refine ts_q rfl (fun w' H => x_fa (a := Pq ag) (v := Pq ag) rfl (fa_blk (o := 0) Fd27_0 Sz23)) ?_
   refine ts_q rfl (fun w' H => x_ld (p := Pq ag) (v := am) rfl (ldb_sc Sc23 (H.bl 6) rfl)) ?_
   obtain ⟨fm, hM⟩ := M.e_grd hM
   simp only [Bool.and_eq_true, decide_eq_true_eq] at fm
   refine ts_q rfl (fun w' H => x_ix (a := am) (b := I 0) (v := vat am 2 (Int.toNat 0)) rfl rfl (Sl.ix (α := Sect) T23.und T23.size (rowSl rfl (H.get (k := 2) rfl) (roLe _ (H.get (k := 3) rfl)) aB) (by omega) (by omega))) ?_
   refine ts_q rfl (fun w' H => x_fa (a := vat am 2 (Int.toNat 0)) (v := fat (vat am 2 (Int.toNat 0)) 0) rfl (fa_pl Fd68_0 Sz3 (Sl.pl (i := 0) (rowSl rfl (H.get (k := 2) rfl) (roLe _ (H.get (k := 3) rfl)) aB) (by omega) (by omega)))) ?_
   refine ts_q rfl (fun w' H => x_ld (p := fat (vat am 2 (Int.toNat 0)) 0) (v := I ((l9.getD 0 default).place)) rfl (ld_sc Sc3 (At.mono (Sect_at0 (rowSl rfl (H.get (k := 2) rfl) (roLe _ (H.get (k := 3) rfl)) aB) (i := 0) (by omega) (by omega)) (Cells.sup_le (H.ol 2) (roLe _ (H.get (k := 3) rfl)))))) ?_
   refine ts_q rfl (fun w' H => x_fa (a := Pq ak) (v := Pq ak) rfl (fa_blk (o := 0) Fd30_0 Sz28)) ?_
   refine ts_q rfl (fun w' H => x_ld (p := Pq ak) (v := ao) rfl (ldb_sc Sc28 (H.bl 5) rfl)) ?_
   obtain ⟨fo, hM⟩ := M.e_grd hM
   simp only [Bool.and_eq_true, decide_eq_true_eq] at fo
   refine ts_q rfl (fun w' H => x_ix (a := ao) (b := I 0) (v := vat ao 1 (Int.toNat 0)) rfl rfl (Sl.ix (α := Int) T28.und T28.size (H.os 1) (by omega) (by omega))) ?_
   refine ts_q rfl (fun w' H => x_ld (p := vat ao 1 (Int.toNat 0)) (v := I (aj.getD 0 0)) rfl (ld_sc Sc3 (At.mono (Int_at (H.os 1) (i := 0) (by omega) (by omega)) (H.ol 1)))) ?_
   obtain ⟨fp, hM⟩ := M.e_grd hM
   simp only [Bool.and_eq_true, decide_eq_true_eq] at fp
   refine ts_q rfl (fun w' H => x_ari (a := aj.getD 0 0) (b := 5) (r := (aj.getD 0 0) - 5) rfl rfl rfl (by omega)) ?_
   refine ts_q rfl (fun w' H => x_fa (a := Pq ak) (v := Pq ak) rfl (fa_blk (o := 0) Fd30_0 Sz28)) ?_
   refine ts_q rfl (fun w' H => x_ld (p := Pq ak) (v := ao) rfl (ldb_sc Sc28 (H.bl 5) rfl)) ?_
   refine ts_q rfl (fun w' H => x_ix (a := ao) (b := I 0) (v := vat ao 1 (Int.toNat 0)) rfl rfl (Sl.ix (α := Int) T28.und T28.size (H.os 1) (by omega) (by omega))) ?_
   refine ts_q rfl (fun w' H => x_ld (p := vat ao 1 (Int.toNat 0)) (v := I (aj.getD 0 0)) rfl (ld_sc Sc3 (At.mono (Int_at (H.os 1) (i := 0) (by omega) (by omega)) (H.ol 1)))) ?_
   obtain ⟨fq, hM⟩ := M.e_grd hM
   simp only [Bool.and_eq_true, decide_eq_true_eq] at fq
   refine ts_q rfl (fun w' H => x_ari (a := aj.getD 0 0) (b := 5) (r := (aj.getD 0 0) + 5) rfl rfl rfl (by omega)) ?_
   refine ts_q rfl (fun w' H => x_bld (ps := [(0, I ((aj.getD 0 0) - 5)), (1, I ((aj.getD 0 0) + 5))]) (zs := [I 0, I 0]) (L' := [I ((aj.getD 0 0) - 5), I ((aj.getD 0 0) + 5)]) rfl Tryz.underlying54 Al54 rfl (Bd54 Tryz.underlying54) (.cons (cs := [I ((aj.getD 0 0) - 5)]) rfl rfl rfl rfl rfl <| .cons (cs := [I ((aj.getD 0 0) + 5)]) rfl rfl rfl rfl rfl <| .nil)) ?_
   refine ts_q rfl (fun w' H => x_bld (ps := [(0, I ((l9.getD 0 default).place)), (1, .agg #[I ((aj.getD 0 0) - 5), I ((aj.getD 0 0) + 5)])]) (zs := [I 0, I 0, I 0]) (L' := [I ((l9.getD 0 default).place), I ((aj.getD 0 0) - 5), I ((aj.getD 0 0) + 5)]) rfl Tryz.underlying70 Al70 rfl (Bd70 Tryz.underlying70) (.cons (cs := [I ((l9.getD 0 default).place)]) rfl rfl rfl rfl rfl <| .cons (cs := [I ((aj.getD 0 0) - 5), I ((aj.getD 0 0) + 5)]) rfl rfl rfl rfl rfl <| .nil)) ?_
   refine ts_l rfl ?_
   refine t_bs (α := Mrk) T24 [.agg #[I ((l9.getD 0 default).place), I ((aj.getD 0 0) - 5), I ((aj.getD 0 0) + 5)]] [(⟨((l9.getD 0 default).place : Int), ((aj.getD 0 0) - 5 : Int), ((aj.getD 0 0) + 5 : Int)⟩ : Mrk)] H rfl (.cons rfl (Flat.rep_enc _ (⟨((l9.getD 0 default).place : Int), ((aj.getD 0 0) - 5 : Int), ((aj.getD 0 0) + 5 : Int)⟩ : Mrk)) <| .nil) rfl rfl rfl ?_
   intro fu kj H
   have km := Sl.cells (H.os 0)
   have kn := Sl.oc (H.os 0)
   have ko := Sl.cells (H.os 3)
   have kq := Sl.oc (H.os 3)
   refine s_nil ⟨(H.pk [1, 2, 4, 5, 6, 7, 8, 9, 10]), ?_⟩
   refine ts_l rfl ?_
   obtain ⟨fw, hM⟩ := M.e_grd hM
   simp only [Bool.and_eq_true, decide_eq_true_eq] at fw
   refine t_app (α := Mrk) (k := 3) (l := aK) (l2 := [(⟨((l9.getD 0 default).place : Int), ((aj.getD 0 0) - 5 : Int), ((aj.getD 0 0) + 5 : Int)⟩ : Mrk)]) (l' := aK ++ ([(⟨((l9.getD 0 default).place : Int), ((aj.getD 0 0) - 5 : Int), ((aj.getD 0 0) + 5 : Int)⟩ : Mrk)])) (vy := fu) T24 rfl H rfl rfl rfl (H.os 0) (H.ol 0) (rfl) (by first | omega | (simp only [List.length_nil] at *; omega)) ?_
   intro b9 kr H
   replace H := H.nf
   have ku := Sl.cells (H.os 3)
   have kw := Sl.oc (H.os 3)
   refine s_nil ⟨(H.pk [1, 2, 4, 5, 6, 7, 8, 9, 10]), ?_⟩
   refine ts_q rfl (fun w' H => x_fa (a := Pq ag) (v := Oq ag 1) rfl (fa_blk (o := 0) Fd27_1 Sz24)) ?_
   refine ts_nil ?_
   refine sr_l rfl ?_
   refine t_sw 8 1 [b9] b9 H rfl rfl Sz24 (Sl.cells (H.os 3)) rfl rfl (by simp only [List.all_cons, List.all_nil, Bool.true_and, Bool.and_true, Sl.oc (H.os 3)]; try rfl) ?_
   intro kx H
   refine s_nil ⟨trivial, ?_⟩
   refine sr_nil ?_
   exact ⟨aK ++ ([(⟨((l9.getD 0 default).place : Int), ((aj.getD 0 0) - 5 : Int), ((aj.getD 0 0) + 5 : Int)⟩ : Mrk)]), b9, _, upds_of _ _ ⟨rfl, rfl, rfl, rfl, rfl, trivial⟩, hM, (H.pk [1, 2, 3, 4, 5, 6, 7, 8, 9, 10])⟩
  replace hM := M.e_f hM bu
  simp only [qy1, qy2, qy3, qy4, qy5, qy6, ne_eq, qy7] at bu
  refine W.skip ?_
  exact ⟨aK, aO, _, upds_of _ _ ⟨rfl, rfl, rfl, rfl, rfl, trivial⟩, hM, H⟩
 rintro _ ky ⟨bf, aD, ρ, rfl, hM, H⟩
 unfold zaF at hM
 refine W.seq ?_
 refine W.seq ?_
 refine W.region rfl ?_
 refine zM (Pq ae) rfl ?_
 obtain ⟨kz, fx, hM⟩ := M.e_bind hM
 refine s_call cf48 [Pq ae, I 1, I 4] rfl (zai s_bytes a6 a7 1 4 (aw.app _) ax fx _ ((H.pk [5, 0, 1, 2, 3, 4, 6, 7, 8, 9]).gt 9)) ?_
 rintro vq kA ⟨cJ, fy, fA, fB, hvq, ac⟩
 subst fB
 subst vq
 try dsimp only at hM
 replace H := H.pk [5, 0, 1, 2, 3, 4, 6, 7, 8, 9] |>.bk ac
 clear ac
 refine zA (I cJ) rfl ?_
 refine s_nil ?_
 refine W.block ?_
 replace H := H.nilOwn (α := Rch) 58
 obtain ⟨fC, cb, fD⟩ := M.e_bind hM
 obtain ⟨bI, cb⟩ := M.e_iter cb
 refine W.loop (fun m σ W => ∃ (bj : Int) (bm : Int) (n2 : Int) (aZ : List Rch) (aF : Value) (ρ : Env), σ = upds ρ [(0, Pq ae), (6, Pq aG), (7, Pq aH), (8, Pq ag), (9, Pq ak), (19, I n2)] /\ M.iterN (zaM s_bytes ab l9) m (bj, bm, n2, aZ) = some fC /\ St w W [cOwn (α := Rch) 58 aF aZ, cBlk ae [aQ, I bj, I bm] 111, cOwn (α := Int) 3 ap ab, cOwn (α := Int) 3 ao aj, cOwn (α := Mrk) 70 aD bf, cOwn (α := Raw 1) 68 am aC, cRo B_l9, cBlk ak [ao, ap] 30, cBlk ag [am, aD, aF] 27, cBlk aH [.slice none 0 0, .slice none 0 0] 30, cBlk aG [.slice none 0 0, .slice none 0 0, .slice none 0 0] 27] R) ?_ ?_
 ·exact ⟨_, fy, fA, cJ, [], (.slice none 0 0), _, upds_of _ _ ⟨rfl, rfl, rfl, rfl, rfl, rfl, trivial⟩, cb, H⟩
 rintro kB σ kC ⟨bj, bm, n2, aZ, aF, ρ, rfl, cK, H⟩
 obtain ⟨fE, fF, kD, hM, cL⟩ := M.e_iterN cK
 simp only [zaM] at hM
 clear cK
 refine W.seq ?_
 refine W.seq ?_
 refine W.region rfl ?_
 refine zM (I n2) rfl ?_
 refine zC n2 0 (decide (0 < n2)) rfl rfl rfl ?_
 refine s_nil ?_
 refine W.cond (decide (0 < n2)) rfl (fun bv => ?_) (fun bv => ?_)
 ·replace hM := M.e_t hM bv
  simp only [qy1, qy2, qy3, qy4, qy5, qy6, ne_eq, qy7] at bv
  refine W.skip ?_
  refine W.seq ?_
  refine W.block ?_
  refine W.seq ?_
  refine W.region rfl ?_
  refine zM (Pq ae) rfl ?_
  refine s_val (x_fa (a := Pq ag) (v := Pq ag) rfl (fa_blk (o := 0) Fd27_0 Sz23)) ?_
  refine s_val (x_ld (p := Pq ag) (v := am) rfl (ldb_sc Sc23 (H.bl 8) rfl)) ?_
  have kE := ((rowSl rfl (H.get (k := 5) rfl) (roLe _ (H.get (k := 6) rfl)) aB)).len_le
  refine s_val (x_lenS T23.und rfl (rowSl rfl (H.get (k := 5) rfl) (roLe _ (H.get (k := 6) rfl)) aB)) ?_
  refine zR (l9.length : Int) 1 ((l9.length : Int) - 1) rfl rfl rfl (by omega) ?_
  obtain ⟨kF, fG, hM⟩ := M.e_bind hM
  refine s_call cf14 [Pq ae, I ((l9.length : Int) - 1)] rfl (zad s_bytes bj bm ((l9.length : Int) - 1) (aw.app _) ax fG _ ((H.pk [1, 0, 2, 3, 4, 5, 6, 7, 8, 9, 10]).gt 10)) ?_
  rintro vq kG ⟨aa, fH, fI, fJ, hvq, ac⟩
  subst fJ
  subst vq
  try dsimp only at hM
  replace H := H.pk [1, 0, 2, 3, 4, 5, 6, 7, 8, 9, 10] |>.bk ac
  clear ac
  refine zM (Pq ae) rfl ?_
  obtain ⟨kH, fK, hM⟩ := M.e_bind hM
  refine s_call cf14 [Pq ae, I 4] rfl (zad s_bytes fH fI 4 (aw.app _) ax fK _ (H.gt 10)) ?_
  rintro vq kI ⟨aJ, fL, fM, fN, hvq, ac⟩
  subst fN
  subst vq
  try dsimp only at hM
  replace H := H.bk ac
  clear ac
  refine zC aJ 0 (aJ == 0) rfl rfl rfl ?_
  refine s_val (x_bld (ps := [(0, I aa), (3, B (aJ == 0))]) (zs := [I 0, I 0, I 0, I 0, B false]) (L' := [I aa, I 0, I 0, I 0, B (aJ == 0)]) rfl Tryz.underlying58 Al58 rfl (Bd58 Tryz.underlying58) (.cons (cs := [I aa]) rfl rfl rfl rfl rfl <| .cons (cs := [B (aJ == 0)]) rfl rfl rfl rfl rfl <| .nil)) ?_
  refine t_alloc (cs := [I 0, I 0, I 0, I 0, B false]) H Al58 rfl ?_
  intro aE kJ H
  refine t_sw 0 0 [I aa, I 0, I 0, I 0, B (aJ == 0)] (.agg #[I aa, I 0, I 0, I 0, B (aJ == 0)]) H rfl rfl Sz58 rfl rfl rfl rfl ?_
  intro kK H
  refine s_nil ?_
  refine W.seq ?_
  refine W.drawTS (fun W => St w W [cBlk aE [I aa, I 0, I 0, I 0, B (aJ == 0)] 58, cOwn (α := Rch) 58 aF aZ, cOwn (α := Int) 3 ap ab, cOwn (α := Int) 3 ao aj, cOwn (α := Mrk) 70 aD bf, cOwn (α := Raw 1) 68 am aC, cRo B_l9, cBlk ak [ao, ap] 30, cBlk ag [am, aD, aF] 27, cBlk aH [.slice none 0 0, .slice none 0 0] 30, cBlk aG [.slice none 0 0, .slice none 0 0, .slice none 0 0] 27] R) (.q 0 (.q 1 (.q 2 (.q 3 (.q 4 (.q 5 (.q 6 (.q 7 (.q 8 (.q 9 (.l 10 (.q 11 (.q 12 .nil))))))))))))) 13 [13] mixed (by decide +kernel) rfl ?_
  intro kL aI
  replace H := H.ext aI
  clear aI
  refine ⟨(H.pk [0, 2, 3, 4, 5, 6, 7, 8, 9, 10, 11]), ?_⟩
  refine ts_q rfl (fun w' H => x_fa (a := Pq aE) (v := Pq aE) rfl (fa_blk (o := 0) Fd58_0 Sz3)) ?_
  refine ts_q rfl (fun w' H => x_ld (p := Pq aE) (v := I aa) rfl (ldb_sc Sc3 (H.bl 0) rfl)) ?_
  refine ts_q rfl (fun w' H => x_mv (v := Pq ae) rfl) ?_
  refine ts_q rfl (fun w' H => x_fa (a := Pq ag) (v := Pq ag) rfl (fa_blk (o := 0) Fd27_0 Sz23)) ?_
  refine ts_q rfl (fun w' H => x_ld (p := Pq ag) (v := am) rfl (ldb_sc Sc23 (H.bl 8) rfl)) ?_
  have kM := ((rowSl rfl (H.get (k := 6) rfl) (roLe _ (H.get (k := 7) rfl)) aB)).len_le
  refine ts_q rfl (fun w' H => x_lenS T23.und rfl (rowSl rfl (H.get (k := 5) rfl) (roLe _ (H.get (k := 6) rfl)) aB)) ?_
  refine ts_q rfl (fun w' H => x_ari (a := (l9.length : Int)) (b := 1) (r := (l9.length : Int) - 1) rfl rfl rfl (by omega)) ?_
  refine ts_q rfl (fun w' H => x_fa (a := Pq aE) (v := Pq aE) rfl (fa_blk (o := 0) Fd58_0 Sz3)) ?_
  refine ts_q rfl (fun w' H => x_ld (p := Pq aE) (v := I aa) rfl (ldb_sc Sc3 (H.bl 0) rfl)) ?_
  obtain ⟨fO, hM⟩ := M.e_grd hM
  simp only [Bool.and_eq_true, decide_eq_true_eq] at fO
  refine ts_q rfl (fun w' H => x_ari (a := (l9.length : Int) - 1) (b := aa) (r := ((l9.length : Int) - 1) - aa) rfl rfl rfl (by omega)) ?_
  refine ts_l rfl ?_
  obtain ⟨kN, fP, hM⟩ := M.e_bind hM
  refine s_call cf48 [Pq ae, I 1, I (((l9.length : Int) - 1) - aa)] rfl (zai s_bytes fL fM 1 (((l9.length : Int) - 1) - aa) (aw.app _) ax fP _ ((H.pk [1, 0, 2, 3, 4, 5, 6, 7, 8, 9, 10, 11]).gt 11)) ?_
  rintro vq kO ⟨ai, cM, cN, fQ, hvq, ac⟩
  subst fQ
  subst vq
  try dsimp only at hM
  replace H := H.pk [1, 0, 2, 3, 4, 5, 6, 7, 8, 9, 10, 11] |>.bk ac
  clear ac
  refine s_nil ⟨(H.pk [1, 2, 3, 4, 5, 6, 7, 8, 9, 10, 11]), ?_⟩
  obtain ⟨fR, hM⟩ := M.e_grd hM
  simp only [Bool.and_eq_true, decide_eq_true_eq] at fR
  refine ts_q rfl (fun w' H => x_ari (a := aa) (b := ai) (r := aa + ai) rfl rfl rfl (by omega)) ?_
  refine ts_q rfl (fun w' H => x_fa (a := Pq aE) (v := Oq aE 1) rfl (fa_blk (o := 0) Fd58_1 Sz3)) ?_
  refine ts_nil ?_
  refine sr_l rfl ?_
  refine t_sw 1 1 [I (aa + ai)] (I (aa + ai)) H rfl rfl Sz3 rfl rfl rfl rfl ?_
  intro kP H
  refine s_nil ⟨trivial, ?_⟩
  refine sr_nil ?_
  refine W.seq ?_
  refine W.draw (fun W => St w W [cBlk ae [aQ, I cM, I cN] 111, cBlk aE [I aa, I (aa + ai), I 0, I 0, B (aJ == 0)] 58, cOwn (α := Rch) 58 aF aZ, cOwn (α := Int) 3 ap ab, cOwn (α := Int) 3 ao aj, cOwn (α := Mrk) 70 aD bf, cOwn (α := Raw 1) 68 am aC, cRo B_l9, cBlk ak [ao, ap] 30, cBlk ag [am, aD, aF] 27, cBlk aH [.slice none 0 0, .slice none 0 0] 30, cBlk aG [.slice none 0 0, .slice none 0 0, .slice none 0 0] 27] R) [(0, true), (1, true), (2, true), (3, true), (4, true), (5, true), (6, true), (7, true), (8, true), (9, true), (10, true), (11, true), (12, true), (13, true)] mixed (by decide +kernel) rfl ?_
  intro kQ aI
  replace H := H.ext aI
  clear aI
  refine ⟨(H.pk [0, 1, 2, 3, 4, 5, 6, 7, 8, 9, 10, 11]), ?_⟩
  refine d_q rfl (fun w' H => x_fa (a := Pq ak) (v := Oq ak 1) rfl (fa_blk (o := 0) Fd30_1 Sz28)) ?_
  refine d_q rfl (fun w' H => x_ld (p := Oq ak 1) (v := ap) rfl (ldb_sc Sc28 (H.bl 8) rfl)) ?_
  refine d_q rfl (fun w' H => x_fa (a := Pq aE) (v := Pq aE) rfl (fa_blk (o := 0) Fd58_0 Sz3)) ?_
  refine d_q rfl (fun w' H => x_ld (p := Pq aE) (v := I aa) rfl (ldb_sc Sc3 (H.bl 1) rfl)) ?_
  obtain ⟨fS, hM⟩ := M.e_grd hM
  simp only [Bool.and_eq_true, decide_eq_true_eq] at fS
  refine d_q rfl (fun w' H => x_ix (a := ap) (b := I aa) (v := vat ap 1 (Int.toNat aa)) rfl rfl (Sl.ix (α := Int) T28.und T28.size (H.os 3) (by omega) (by omega))) ?_
  refine d_q rfl (fun w' H => x_ld (p := vat ap 1 (Int.toNat aa)) (v := I (ab.getD (Int.toNat aa) 0)) rfl (ld_sc Sc3 (At.mono (Int_at (H.os 3) (i := aa) (by omega) (by omega)) (H.ol 3)))) ?_
  refine d_q rfl (fun w' H => x_fa (a := Pq ak) (v := Oq ak 1) rfl (fa_blk (o := 0) Fd30_1 Sz28)) ?_
  refine d_q rfl (fun w' H => x_ld (p := Oq ak 1) (v := ap) rfl (ldb_sc Sc28 (H.bl 8) rfl)) ?_
  refine d_q rfl (fun w' H => x_fa (a := Pq aE) (v := Oq aE 1) rfl (fa_blk (o := 0) Fd58_1 Sz3)) ?_
  refine d_q rfl (fun w' H => x_ld (p := Oq aE 1) (v := I (aa + ai)) rfl (ldb_sc Sc3 (H.bl 1) rfl)) ?_
  obtain ⟨fT, hM⟩ := M.e_grd hM
  simp only [Bool.and_eq_true, decide_eq_true_eq] at fT
  refine d_q rfl (fun w' H => x_ix (a := ap) (b := I (aa + ai)) (v := vat ap 1 (Int.toNat (aa + ai))) rfl rfl (Sl.ix (α := Int) T28.und T28.size (H.os 3) (by omega) (by omega))) ?_
  refine d_q rfl (fun w' H => x_ld (p := vat ap 1 (Int.toNat (aa + ai))) (v := I (ab.getD (Int.toNat (aa + ai)) 0)) rfl (ld_sc Sc3 (At.mono (Int_at (H.os 3) (i := aa + ai) (by omega) (by omega)) (H.ol 3)))) ?_
  refine d_q rfl (fun w' H => x_as (v := I (ab.getD (Int.toNat aa) 0)) rfl) ?_
  refine d_q rfl (fun w' H => x_as (v := I (ab.getD (Int.toNat (aa + ai)) 0)) rfl) ?_
  refine d_nil ?_
  refine W.seq ?_
  refine W.region rfl ?_
  refine zM (I (ab.getD (Int.toNat aa) 0)) rfl ?_
  refine zM (I (ab.getD (Int.toNat (aa + ai)) 0)) rfl ?_
  refine s_val (x_min (kd := .i64) (a := ab.getD (Int.toNat aa) 0) (b := ab.getD (Int.toNat (aa + ai)) 0) rfl rfl) ?_
  refine zM (Pq ae) rfl ?_
  obtain ⟨kR, fU, hM⟩ := M.e_bind hM
  refine s_call cf14 [Pq ae, I 8] rfl (zad s_bytes cM cN 8 (aw.app _) ax fU _ (H.gt 11)) ?_
  rintro vq kS ⟨aM, fV, fW, fX, hvq, ac⟩
  subst fX
  subst vq
  try dsimp only at hM
  replace H := H.bk ac
  clear ac
  obtain ⟨fY, hM⟩ := M.e_grd hM
  simp only [Bool.and_eq_true, decide_eq_true_eq] at fY
  refine zR (min (ab.getD (Int.toNat aa) 0) (ab.getD (Int.toNat (aa + ai)) 0)) aM ((min (ab.getD (Int.toNat aa) 0) (ab.getD (Int.toNat (aa + ai)) 0)) - aM) rfl rfl rfl (by omega) ?_
  refine zM (I (ab.getD (Int.toNat aa) 0)) rfl ?_
  refine zM (I (ab.getD (Int.toNat (aa + ai)) 0)) rfl ?_
  refine s_val (x_max (kd := .i64) (a := ab.getD (Int.toNat aa) 0) (b := ab.getD (Int.toNat (aa + ai)) 0) rfl rfl) ?_
  refine zM (Pq ae) rfl ?_
  obtain ⟨kT, fZ, hM⟩ := M.e_bind hM
  refine s_call cf14 [Pq ae, I 8] rfl (zad s_bytes fV fW 8 (aw.app _) ax fZ _ (H.gt 11)) ?_
  rintro vq kU ⟨aN, f0, f1, f2, hvq, ac⟩
  subst f2
  subst vq
  try dsimp only at hM
  replace H := H.bk ac
  clear ac
  obtain ⟨f4, hM⟩ := M.e_grd hM
  simp only [Bool.and_eq_true, decide_eq_true_eq] at f4
  refine zR (max (ab.getD (Int.toNat aa) 0) (ab.getD (Int.toNat (aa + ai)) 0)) aN ((max (ab.getD (Int.toNat aa) 0) (ab.getD (Int.toNat (aa + ai)) 0)) + aN) rfl rfl rfl (by omega) ?_
  refine s_val (x_bld (ps := [(0, I ((min (ab.getD (Int.toNat aa) 0) (ab.getD (Int.toNat (aa + ai)) 0)) - aM)), (1, I ((max (ab.getD (Int.toNat aa) 0) (ab.getD (Int.toNat (aa + ai)) 0)) + aN))]) (zs := [I 0, I 0]) (L' := [I ((min (ab.getD (Int.toNat aa) 0) (ab.getD (Int.toNat (aa + ai)) 0)) - aM), I ((max (ab.getD (Int.toNat aa) 0) (ab.getD (Int.toNat (aa + ai)) 0)) + aN)]) rfl Tryz.underlying54 Al54 rfl (Bd54 Tryz.underlying54) (.cons (cs := [I ((min (ab.getD (Int.toNat aa) 0) (ab.getD (Int.toNat (aa + ai)) 0)) - aM)]) rfl rfl rfl rfl rfl <| .cons (cs := [I ((max (ab.getD (Int.toNat aa) 0) (ab.getD (Int.toNat (aa + ai)) 0)) + aN)]) rfl rfl rfl rfl rfl <| .nil)) ?_
  refine s_val (x_fa (a := Pq aE) (v := Oq aE 2) rfl (fa_blk (o := 0) Fd58_2 Sz54)) ?_
  refine t_sw 1 2 [I ((min (ab.getD (Int.toNat aa) 0) (ab.getD (Int.toNat (aa + ai)) 0)) - aM), I ((max (ab.getD (Int.toNat aa) 0) (ab.getD (Int.toNat (aa + ai)) 0)) + aN)] (.agg #[I ((min (ab.getD (Int.toNat aa) 0) (ab.getD (Int.toNat (aa + ai)) 0)) - aM), I ((max (ab.getD (Int.toNat aa) 0) (ab.getD (Int.toNat (aa + ai)) 0)) + aN)]) H rfl rfl Sz54 rfl rfl rfl rfl ?_
  intro kV H
  refine s_nil ?_
  refine W.region rfl ?_
  refine s_val (x_fa (a := Pq ag) (v := Oq ag 2) rfl (fa_blk (o := 0) Fd27_2 Sz25)) ?_
  refine s_val (x_ld (p := Oq ag 2) (v := aF) rfl (ldb_sc Sc25 (H.bl 9) rfl)) ?_
  refine s_val (x_ld (p := Pq aE) (v := .agg #[I aa, I (aa + ai), I ((min (ab.getD (Int.toNat aa) 0) (ab.getD (Int.toNat (aa + ai)) 0)) - aM), I ((max (ab.getD (Int.toNat aa) 0) (ab.getD (Int.toNat (aa + ai)) 0)) + aN), B (aJ == 0)]) rfl (ldb_ag (ds := [I aa, I (aa + ai), I ((min (ab.getD (Int.toNat aa) 0) (ab.getD (Int.toNat (aa + ai)) 0)) - aM), I ((max (ab.getD (Int.toNat aa) 0) (ab.getD (Int.toNat (aa + ai)) 0)) + aN), B (aJ == 0)]) Ag58 Sz58 (H.bl 1) rfl rfl)) ?_
  refine t_bs (α := Rch) T25 [.agg #[I aa, I (aa + ai), I ((min (ab.getD (Int.toNat aa) 0) (ab.getD (Int.toNat (aa + ai)) 0)) - aM), I ((max (ab.getD (Int.toNat aa) 0) (ab.getD (Int.toNat (aa + ai)) 0)) + aN), B (aJ == 0)]] [(⟨(aa : Int), (aa + ai : Int), ((min (ab.getD (Int.toNat aa) 0) (ab.getD (Int.toNat (aa + ai)) 0)) - aM : Int), ((max (ab.getD (Int.toNat aa) 0) (ab.getD (Int.toNat (aa + ai)) 0)) + aN : Int), (aJ == 0)⟩ : Rch)] H rfl (.cons rfl (Flat.rep_enc _ (⟨(aa : Int), (aa + ai : Int), ((min (ab.getD (Int.toNat aa) 0) (ab.getD (Int.toNat (aa + ai)) 0)) - aM : Int), ((max (ab.getD (Int.toNat aa) 0) (ab.getD (Int.toNat (aa + ai)) 0)) + aN : Int), (aJ == 0)⟩ : Rch)) <| .nil) rfl rfl rfl ?_
  intro f6 kW H
  obtain ⟨f9, hM⟩ := M.e_grd hM
  simp only [Bool.and_eq_true, decide_eq_true_eq] at f9
  refine t_app (α := Rch) (k := 3) (l := aZ) (l2 := [(⟨(aa : Int), (aa + ai : Int), ((min (ab.getD (Int.toNat aa) 0) (ab.getD (Int.toNat (aa + ai)) 0)) - aM : Int), ((max (ab.getD (Int.toNat aa) 0) (ab.getD (Int.toNat (aa + ai)) 0)) + aN : Int), (aJ == 0)⟩ : Rch)]) (l' := aZ ++ ([(⟨(aa : Int), (aa + ai : Int), ((min (ab.getD (Int.toNat aa) 0) (ab.getD (Int.toNat (aa + ai)) 0)) - aM : Int), ((max (ab.getD (Int.toNat aa) 0) (ab.getD (Int.toNat (aa + ai)) 0)) + aN : Int), (aJ == 0)⟩ : Rch)])) (vy := f6) T25 rfl H rfl rfl rfl (H.os 0) (H.ol 0) (rfl) (by first | omega | (simp only [List.length_nil] at *; omega)) ?_
  intro cc kX H
  replace H := H.nf
  refine s_val (x_fa (a := Pq ag) (v := Oq ag 2) rfl (fa_blk (o := 0) Fd27_2 Sz25)) ?_
  refine t_sw 10 2 [cc] cc H rfl rfl Sz25 (Sl.cells (H.os 3)) rfl rfl (by simp only [List.all_cons, List.all_nil, Bool.true_and, Bool.and_true, Sl.oc (H.os 3)]; try rfl) ?_
  intro kY H
  refine s_nil ?_
  replace H := H.pk [1, 3, 4, 5, 6, 7, 8, 9, 10, 11, 12]
  refine W.region rfl ?_
  refine zM (I n2) rfl ?_
  obtain ⟨ga, hM⟩ := M.e_grd hM
  simp only [Bool.and_eq_true, decide_eq_true_eq] at ga
  refine zR n2 1 (n2 - 1) rfl rfl rfl (by omega) ?_
  refine zA (I (n2 - 1)) rfl ?_
  refine s_nil ?_
  exact ⟨fE, fF, f0, f1, n2 - 1, aZ ++ ([(⟨(aa : Int), (aa + ai : Int), ((min (ab.getD (Int.toNat aa) 0) (ab.getD (Int.toNat (aa + ai)) 0)) - aM : Int), ((max (ab.getD (Int.toNat aa) 0) (ab.getD (Int.toNat (aa + ai)) 0)) + aN : Int), (aJ == 0)⟩ : Rch)]), cc, _, upds_of _ _ ⟨rfl, rfl, rfl, rfl, rfl, rfl, trivial⟩, M.e_inl hM cL, (H.pk [1, 0, 2, 3, 4, 5, 6, 7, 8, 9, 10])⟩
 replace hM := M.e_f hM bv
 simp only [qy1, qy2, qy3, qy4, qy5, qy6, ne_eq, qy7] at bv
 refine W.exit ?_
 have gc := M.e_inr hM cL
 subst gc
 replace hM := fD
 try dsimp only at hM
 refine W.seq ?_
 refine W.draw (fun W => St w W [cOwn (α := Rch) 58 aF aZ, cBlk ae [aQ, I bj, I bm] 111, cOwn (α := Int) 3 ap ab, cOwn (α := Int) 3 ao aj, cOwn (α := Mrk) 70 aD bf, cOwn (α := Raw 1) 68 am aC, cRo B_l9, cBlk ak [ao, ap] 30, cBlk ag [am, aD, aF] 27] R) [(0, true), (1, true), (2, false), (3, false)] mixed (by decide +kernel) rfl ?_
 intro kZ aI
 replace H := H.ext aI
 clear aI
 refine ⟨(H.pk [0, 1, 2, 3, 4, 5, 6, 7, 8]), ?_⟩
 refine d_q rfl (fun w' H => x_ld (p := Pq ag) (v := .agg #[am, aD, aF]) rfl (ldb_ag (ds := [am, aD, aF]) Ag27 Sz27 (H.bl 8) rfl rfl)) ?_
 refine d_q rfl (fun w' H => x_ld (p := Pq ak) (v := .agg #[ao, ap]) rfl (ldb_ag (ds := [ao, ap]) Ag30 Sz30 (H.bl 7) rfl rfl)) ?_
 refine d_l rfl ?_
 refine t_sw 10 0 [am, aD, aF] (.agg #[am, aD, aF]) H rfl rfl Sz27 rfl rfl rfl (by simp only [List.all_cons, List.all_nil, Bool.true_and, Bool.and_true, Sl.oc (rowSl rfl (H.get (k := 5) rfl) (roLe _ (H.get (k := 6) rfl)) aB), Sl.oc (H.os 4), Sl.oc (H.os 0)]; try rfl) ?_
 intro ld H
 refine s_nil ⟨(H.pk [0, 1, 2, 3, 4, 5, 6, 7, 8]), ?_⟩
 refine d_l rfl ?_
 refine t_sw 9 0 [ao, ap] (.agg #[ao, ap]) H rfl rfl Sz30 rfl rfl rfl (by simp only [List.all_cons, List.all_nil, Bool.true_and, Bool.and_true, Sl.oc (H.os 3), Sl.oc (H.os 2)]; try rfl) ?_
 intro lf H
 refine s_nil ⟨(H.pk [0, 1, 2, 3, 4, 5, 6, 7, 8]), ?_⟩
 refine d_nil ?_
 replace H := H.pk [0, 1, 2, 3, 4, 5, 6, 9, 10]
 refine W.ret ?_
 have gf := (H.bl 8)
 have gg := (H.bl 7)
 have gh := M.e_pure hM
 exact ⟨_, (resE_ofn (vs := [.agg #[am, aD, aF], .agg #[ao, ap]]) rfl rfl (.cell (v := .agg #[am, aD, aF]) rfl (run_loadVar_ag (ds := [am, aD, aF]) Ag27 Sz27 gf rfl rfl) <| .cell (v := .agg #[ao, ap]) rfl (run_loadVar_ag (ds := [ao, ap]) Ag30 Sz30 gg rfl rfl) <| .nil)), ⟨l9, bf, aZ, aj, ab, bj, bm, am, aC, B_l9, aD, aF, ao, ap, gh, rfl, (H.pk [5, 6, 4, 0, 3, 2, 1]), aB⟩⟩

end Go.Proofs.YtlemgioaakecpaaGreat
end
namespace Go.Nm
namespace Fl
theorem getD_app {α : Type} {l : List α} {x d : α} {j : Nat} (h : j < l.length) : (l ++ [x]).getD j d = l.getD j d := by
  simp [List.getD, List.getElem?_append_left h]
theorem getD_appE {α : Type} {l : List α} {x d : α} {j : Nat} (h : l.length = j) : (l ++ [x]).getD j d = x := by
  subst h
  simp [List.getD]
/-- A mark about what was. -/
def Mt (S : List Sect) (t : List Int) (m : Mrk) : Prop := Mok m /\ ∃ j, j < S.length /\ (S.getD j default).place <= m.place /\ m.place <= (S.getD j default).place + 19 /\ m.lo <= t.getD j 0 /\ t.getD j 0 <= m.hi
/-- What is made so far. -/
structure Mi (S : List Sect) (M : List Mrk) (t ro : List Int) (place stage : Int) : Prop where
  tl : t.length = S.length
  rl : ro.length = S.length
  rows : ∀ j, j < S.length -> Rows (S.getD j default).rows /\ 2 <= (S.getD j default).rows.length /\ (S.getD j default).rows.length <= 8
  pl : ∀ j, j < S.length -> 0 <= (S.getD j default).place /\ (S.getD j default).place + 21 <= place
  gap : ∀ i j, i < j -> j < S.length -> (S.getD i default).place + 21 <= (S.getD j default).place
  tr : ∀ j, j < S.length -> stage <= t.getD j 0 /\ t.getD j 0 <= 400
  td : ∀ i j, i <= j -> j < S.length -> t.getD j 0 <= t.getD i 0
  mt : ∀ m ∈ M, Mt S t m
  m8 : M.length <= 8
  ro0 : ∀ j, j < S.length -> 30 <= ro.getD j 0 /\ ro.getD j 0 <= 90
  p0 : 0 <= place
  p1 : place <= 50 + 200 * S.length
  s0 : 100 <= stage + 19 * S.length
  s1 : stage <= 400
theorem Mt.app {S : List Sect} {t : List Int} {m : Mrk} {s : Sect} {v : Int} (hl : t.length = S.length) (h : Mt S t m) : Mt (S ++ [s]) (t ++ [v]) m := by
  obtain ⟨h0, j, h1, h2⟩ := h
  refine ⟨h0, j, by simp; omega, ?_⟩
  rw [getD_app h1, getD_app (by omega)]
  exact h2
theorem Mi.step {S : List Sect} {M M' : List Mrk} {t ro : List Int} {place stage p q r : Int} {rows : List FRow} (h : Mi S M t ro place stage) (hr : Rows rows) (h2 : 2 <= rows.length) (h8 : rows.length <= 8) (hm : ∀ m ∈ M', Mt (S ++ [⟨place, rows⟩]) (t ++ [stage]) m) (m8 : M'.length <= 8)
    (hp : 21 <= p /\ p <= 200) (hq : 0 <= q /\ q <= 19) (hro : 30 <= r /\ r <= 90) : Mi (S ++ [⟨place, rows⟩]) M' (t ++ [stage]) (ro ++ [r]) (place + p) (stage - q) := by
  have e1 := h.tl
  have e2 := h.rl
  have p0 := h.p0
  have p1 := h.p1
  have s0 := h.s0
  have s1 := h.s1
  have split : ∀ j, j < (S ++ [(⟨place, rows⟩ : Sect)]).length -> j < S.length ∨ j = S.length := fun j hj => by simp at hj; omega
  refine ⟨by simp [e1], by simp [e2], fun j hj => ?_, fun j hj => ?_, fun i j hij hj => ?_, fun j hj => ?_, fun i j hij hj => ?_, hm, m8, fun j hj => ?_, by omega, by simp; omega, by simp; omega, by omega⟩
  · rcases split j hj with e | rfl
    · rw [getD_app e]; exact h.rows j e
    · rw [getD_appE rfl]; exact ⟨hr, h2, h8⟩
  · rcases split j hj with e | rfl
    · rw [getD_app e]; have := h.pl j e; omega
    · rw [getD_appE rfl]; dsimp only; omega
  · rcases split j hj with e | rfl
    · rw [getD_app e, getD_app (by omega)]; exact h.gap i j hij e
    · rw [getD_appE rfl, getD_app hij]; exact (h.pl i hij).2
  · rcases split j hj with e | rfl
    · rw [getD_app (by omega)]; have := h.tr j e; omega
    · rw [getD_appE e1]; omega
  · rcases split j hj with e | rfl
    · rw [getD_app (by omega), getD_app (by omega)]; exact h.td i j hij e
    · rw [getD_appE e1]
      rcases Nat.lt_or_eq_of_le hij with e | rfl
      · rw [getD_app (by omega)]; exact (h.tr i e).1
      · rw [getD_appE e1]; exact Int.le_refl _
  · rcases split j hj with e | rfl
    · rw [getD_app (by omega)]; exact h.ro0 j e
    · rw [getD_appE e2]; exact hro
end Fl
end Go.Nm
namespace Go.Proofs.YtlemgioaakecpaaGreat
open Go Go.Nm
end Go.Proofs.YtlemgioaakecpaaGreat
namespace Go.Proofs.YtlemgioaakecpaaGreat
open Go Go.Nm
theorem b10_out {b : List UInt8} {u x N : Int} {S : List Sect} {ro : List Int} (hS : SOk 2000 u x) (hn : 2 <= S.length /\ S.length <= 5) (hl : ro.length = S.length) (hro : ∀ j, j < S.length -> 30 <= ro.getD j 0 /\ ro.getD j 0 <= 90) (hN : 1 <= N /\ N <= 4) :
    (M.iter (zaM b ro S) (u, x, N, [])).Out (fun z => z.1 = z.2.1 /\ 1 <= z.1.length /\ z.1.length <= 4 /\ ∀ r ∈ z.1, Fl.Rok S r /\ r.lo <= ro.getD (Int.toNat r.up) 0 /\ r.lo <= ro.getD (Int.toNat r.down) 0 /\ ro.getD (Int.toNat r.up) 0 <= r.hi /\ ro.getD (Int.toNat r.down) 0 <= r.hi) := by
  refine M.o_iter (fun m (s : Int × Int × Int × List Rch) => m = s.2.2.1.toNat /\ 0 <= s.2.2.1 /\ s.2.2.1 + s.2.2.2.length = N /\ SOk (2000 + 10 * s.2.2.2.length) s.1 s.2.1 /\ ∀ r ∈ s.2.2.2, Fl.Rok S r /\ r.lo <= ro.getD (Int.toNat r.up) 0 /\ r.lo <= ro.getD (Int.toNat r.down) 0 /\ ro.getD (Int.toNat r.up) 0 <= r.hi /\ ro.getD (Int.toNat r.down) 0 <= r.hi) ?_ _ (u, x, N, []) ⟨rfl, by dsimp only; omega, by simp, by simpa using hS, fun r hr => (List.not_mem_nil hr).elim⟩
  rintro m ⟨u, x, n, l⟩ ⟨rfl, n0, nl, hS, hr⟩
  dsimp only at n0 nl hS hr ⊢
  simp only [zaM]
  refine M.o_if (fun hb => ?_) (fun hb => ?_)
  · have hb := of_decide_eq_true hb
    refine M.o_bind (next_out hS (by omega) (by omega)) ?_
    rintro ⟨a, u1, x1⟩ ⟨k1, g1, _⟩
    have g1 := g1 (by omega)
    dsimp only at k1 g1 ⊢
    refine M.o_bind (next_out k1 (by omega) (by omega)) ?_
    rintro ⟨w, u2, x2⟩ ⟨k2, g2, _⟩
    dsimp only at k2 ⊢
    refine M.o_grd (gA2 (by omega) (by omega)) (M.o_bind (within_out k2 (by omega) (by omega) (by omega) (by omega)) ?_)
    rintro ⟨d, u3, x3⟩ ⟨k3, g3, g3'⟩
    dsimp only at k3 g3 g3' ⊢
    have ra := hro (Int.toNat a) (by omega)
    have rb := hro (Int.toNat (a + d)) (by omega)
    refine M.o_grd (gA2 (by omega) (by omega)) (M.o_grd (gA2 (by omega) (by omega)) (M.o_grd (gA2 (by omega) (by omega)) (M.o_bind (next_out k3 (by omega) (by omega)) ?_)))
    rintro ⟨e, u4, x4⟩ ⟨k4, g4, _⟩
    have g4 := g4 (by omega)
    dsimp only at k4 g4 ⊢
    refine M.o_grd (gA2 (by omega) (by omega)) (M.o_bind (next_out k4 (by omega) (by omega)) ?_)
    rintro ⟨f, u5, x5⟩ ⟨k5, g5, _⟩
    have g5 := g5 (by omega)
    dsimp only at k5 g5 ⊢
    refine M.o_grd (gA2 (by omega) (by omega)) (M.o_grd (decide_eq_true (by simp; omega)) (M.o_grd (gA2 (by omega) (by omega)) (M.o_pure ⟨(n - 1).toNat, by omega, rfl, by dsimp only; omega, by simp; omega, k5.mono (by simp; omega), fun r h => ?_⟩)))
    rcases List.mem_append.1 h with h | h
    · exact hr r h
    · rw [List.mem_singleton] at h
      subst h
      dsimp only
      exact ⟨⟨by dsimp only; omega, by dsimp only; omega, by dsimp only; omega, by dsimp only; omega, by dsimp only; omega, by dsimp only; omega⟩, by omega, by omega, by omega, by omega⟩
  · have hb := of_decide_eq_false hb
    exact M.o_pure ⟨rfl, by dsimp only; omega, by dsimp only; omega, hr⟩
end Go.Proofs.YtlemgioaakecpaaGreat
namespace Go.Nm
namespace Fl
/-- A mark that lies where marks are made. -/
def Mk (m : Mrk) : Prop := Mok m /\ m.place <= 2000 /\ m.hi <= 430
/-- What is made so far. -/
structure Mj (K : Nat) (S : List Sect) (M : List Mrk) (t ro : List Int) (place stage : Int) : Prop where
  tl : t.length = S.length
  rl : ro.length = S.length
  rows : ∀ j, j < S.length -> Rows (S.getD j default).rows /\ 2 <= (S.getD j default).rows.length /\ (S.getD j default).rows.length <= 8 /\ ∀ e ∈ (S.getD j default).rows, e.stage <= 860
  pl : ∀ j, j < S.length -> 0 <= (S.getD j default).place /\ (S.getD j default).place + 21 <= place
  gap : ∀ i j, i < j -> j < S.length -> (S.getD i default).place + 21 <= (S.getD j default).place
  tr : ∀ j, j < S.length -> stage <= t.getD j 0 /\ t.getD j 0 <= 400
  mt : ∀ m ∈ M, Mk m
  m9 : M.length <= K
  ro0 : ∀ j, j < S.length -> 30 <= ro.getD j 0 /\ ro.getD j 0 <= 90
  p0 : 0 <= place
  p1 : place <= 50 + 200 * S.length
  s0 : 100 <= stage + 19 * S.length
  s1 : stage <= 400
theorem Mj.step {K : Nat} {S : List Sect} {M M' : List Mrk} {t ro : List Int} {place stage p q r : Int} {rows : List FRow} (h : Mj K S M t ro place stage) (hr : Rows rows) (h2 : 2 <= rows.length) (h8 : rows.length <= 8) (he : ∀ e ∈ rows, e.stage <= 860) (hm : ∀ m ∈ M', Mk m) (m9 : M'.length <= K)
    (hp : 21 <= p /\ p <= 200) (hq : 0 <= q /\ q <= 19) (hro : 30 <= r /\ r <= 90) : Mj K (S ++ [⟨place, rows⟩]) M' (t ++ [stage]) (ro ++ [r]) (place + p) (stage - q) := by
  have e1 := h.tl
  have e2 := h.rl
  have p0 := h.p0
  have p1 := h.p1
  have s0 := h.s0
  have s1 := h.s1
  have split : ∀ j, j < (S ++ [(⟨place, rows⟩ : Sect)]).length -> j < S.length ∨ j = S.length := fun j hj => by simp at hj; omega
  refine ⟨by simp [e1], by simp [e2], fun j hj => ?_, fun j hj => ?_, fun i j hij hj => ?_, fun j hj => ?_, hm, m9, fun j hj => ?_, by omega, by simp; omega, by simp; omega, by omega⟩
  · rcases split j hj with e | rfl
    · rw [getD_app e]; exact h.rows j e
    · rw [getD_appE rfl]; exact ⟨hr, h2, h8, he⟩
  · rcases split j hj with e | rfl
    · rw [getD_app e]; have := h.pl j e; omega
    · rw [getD_appE rfl]; dsimp only; omega
  · rcases split j hj with e | rfl
    · rw [getD_app e, getD_app (by omega)]; exact h.gap i j hij e
    · rw [getD_appE rfl, getD_app hij]; exact (h.pl i hij).2
  · rcases split j hj with e | rfl
    · rw [getD_app (by omega)]; have := h.tr j e; omega
    · rw [getD_appE e1]; omega
  · rcases split j hj with e | rfl
    · rw [getD_app (by omega)]; exact h.ro0 j e
    · rw [getD_appE e2]; exact hro
end Fl
end Go.Nm
namespace Go.Proofs.YtlemgioaakecpaaGreat
open Go Go.Nm
theorem b6_lim {b : List UInt8} {c u x a0 c0 K : Int} (hS : SOk c u x) (hc : c <= 100000) (ha : 0 <= a0 /\ a0 <= 60) (hc0 : 0 <= c0 /\ c0 <= 50) (hK : 2 <= K /\ K <= 4) :
    (M.iter (zaW b) (u, x, a0, c0, K, [])).Out (fun z => SOk (c + 10) z.1 z.2.1 /\ Fl.Rows z.2.2.2 /\ 2 <= z.2.2.2.length /\ z.2.2.2.length <= 8 /\ ∀ e ∈ z.2.2.2, e.stage <= 860) := by
  refine M.o_iter (fun m (s : Int × Int × Int × Int × Int × List FRow) => m = s.2.2.2.2.1.toNat /\ 0 <= s.2.2.2.2.1 /\ s.2.2.2.2.1 + s.2.2.2.2.2.length = K /\ SOk (c + 2 * s.2.2.2.2.2.length) s.1 s.2.1 /\ Fl.Rows s.2.2.2.2.2 /\ (∀ e ∈ s.2.2.2.2.2, e.stage < s.2.2.1 /\ e.carry <= s.2.2.2.1) /\ 0 <= s.2.2.1 /\ s.2.2.1 <= 60 + 200 * s.2.2.2.2.2.length /\ 0 <= s.2.2.2.1 /\ s.2.2.2.1 <= 50 + 2000 * s.2.2.2.2.2.length) ?_ _ (u, x, a0, c0, K, []) ⟨rfl, by dsimp only; omega, by simp, by simpa using hS, trivial, fun e he => (List.not_mem_nil he).elim, ha.1, by simp; omega, hc0.1, by simp; omega⟩
  rintro m ⟨u, x, a, ca, k, l⟩ ⟨rfl, k0, kl, hS, hr, he, a1, a2, c1, c2⟩
  dsimp only at k0 kl hS hr he a1 a2 c1 c2 ⊢
  simp only [zaW]
  refine M.o_if (fun hb => ?_) (fun hb => ?_)
  · have hb := of_decide_eq_true hb
    refine M.o_grd (decide_eq_true (by simp; omega)) (M.o_bind (within_out hS (by omega) (by omega) (by omega) (by omega)) ?_)
    rintro ⟨r8, u8, x8⟩ ⟨k8, g8, g8'⟩
    dsimp only at k8 g8 g8' ⊢
    refine M.o_grd (gA2 (by omega) (by omega)) (M.o_bind (next_out k8 (by omega) (by omega)) ?_)
    rintro ⟨r9, u9, x9⟩ ⟨k9, g9, _⟩
    have g9 := g9 (by omega)
    dsimp only at k9 g9 ⊢
    refine M.o_grd (gA2 (by omega) (by omega)) (M.o_grd (gA2 (by omega) (by omega)) (M.o_pure ⟨(k - 1).toNat, by omega, rfl, by dsimp only; omega, by simp; omega, k9.mono (by simp; omega), hr.snoc he a1 (by dsimp only; omega) c1 (by dsimp only; omega), fun e h => ?_, by dsimp only; omega, by simp; omega, by dsimp only; omega, by simp; omega⟩))
    rcases List.mem_append.1 h with h | h
    · have := he e h
      dsimp only
      omega
    · rw [List.mem_singleton] at h
      subst h
      dsimp only
      omega
  · have hb := of_decide_eq_false hb
    exact M.o_pure ⟨hS.mono (by omega), hr, by dsimp only; omega, by dsimp only; omega, fun e h => by have := he e h; omega⟩
theorem b7_any {b : List UInt8} {c u x place stage k : Int} {K : Nat} {lies : Bool} (hS : SOk c u x) (hc : c <= 100000) (hk : 0 <= k /\ k <= 2) (hp : 0 <= place /\ place <= 1100) (hs : 0 <= stage /\ stage <= 400) {l : List Mrk} (hK : K <= 9) (hl : l.length <= K) (h0 : ∀ m ∈ l, Fl.Mk m) :
    (M.iter (za9 b (K : Int) lies place stage) (u, x, k, l)).Out (fun z => SOk (c + 20) z.1 z.2.1 /\ (∀ m ∈ z.2.2.2, Fl.Mk m) /\ z.2.2.2.length <= K) := by
  refine M.o_iter (fun m (s : Int × Int × Int × List Mrk) => m = s.2.2.1.toNat /\ 0 <= s.2.2.1 /\ s.2.2.1 <= 2 /\ SOk (c + 10 * (2 - s.2.2.1)) s.1 s.2.1 /\ (∀ m ∈ s.2.2.2, Fl.Mk m) /\ s.2.2.2.length <= K) ?_ _ (u, x, k, l) ⟨rfl, hk.1, hk.2, hS.mono (by dsimp only; omega), h0, hl⟩
  rintro m ⟨u, x, k, l⟩ ⟨rfl, k0, k2, hS, hm, h8⟩
  dsimp only at k0 k2 hS hm h8 ⊢
  simp only [za9]
  refine M.o_if (fun hb => ?_) (fun hb => ?_)
  · rw [Bool.and_eq_true, decide_eq_true_eq, decide_eq_true_eq] at hb
    refine M.o_bind (next_out hS (by omega) (by omega)) ?_
    rintro ⟨r1, u1, x1⟩ ⟨k1, g1, _⟩
    have g1 := g1 (by omega)
    dsimp only at k1 g1 ⊢
    refine M.o_bind (next_out k1 (by omega) (by omega)) ?_
    rintro ⟨r2, u2, x2⟩ ⟨kk2, g2, _⟩
    have g2 := g2 (by omega)
    dsimp only at kk2 g2 ⊢
    have hd : 0 <= r1 * r2 /\ r1 * r2 <= 19 := by
      rcases (by omega : r1 = 0 ∨ r1 = 1) with rfl | rfl
      · simp
      · simp; omega
    generalize r1 * r2 = d at hd ⊢
    refine M.o_grd (gA2 (by omega) (by omega)) (M.o_grd (gA2 (by omega) (by omega)) (M.o_bind (next_out kk2 (by omega) (by omega)) ?_))
    rintro ⟨r3, u3, x3⟩ ⟨k3, g3, _⟩
    have g3 := g3 (by omega)
    dsimp only at k3 g3 ⊢
    refine M.o_grd (gA2 (by omega) (by omega)) (M.o_bind (next_out k3 (by omega) (by omega)) ?_)
    rintro ⟨r4, u4, x4⟩ ⟨k4, g4, _⟩
    have g4 := g4 (by omega)
    dsimp only at k4 g4 ⊢
    have tru : Fl.Mk ⟨place + d, max 0 (stage - r3), stage + r4⟩ := ⟨⟨by dsimp only; omega, by dsimp only; omega, by dsimp only; omega, by dsimp only; omega, by dsimp only; omega⟩, by dsimp only; omega, by dsimp only; omega⟩
    have add : ∀ y : Mrk, Fl.Mk y -> ∀ m ∈ l ++ [y], Fl.Mk m := fun y hy m h => by
      rcases List.mem_append.1 h with h | h
      · exact hm m h
      · rw [List.mem_singleton] at h; rw [h]; exact hy
    refine M.o_grd (gA2 (by omega) (by omega)) (M.o_if (fun _ => ?_) (fun _ => ?_))
    · refine M.o_bind (next_out k4 (by omega) (by omega)) ?_
      rintro ⟨r5, u5, x5⟩ ⟨k5, _, _⟩
      dsimp only at k5 ⊢
      refine M.o_if (fun _ => ?_) (fun _ => ?_)
      · refine M.o_bind (within_out k5 (by omega) (by omega) (by omega) (by omega)) ?_
        rintro ⟨r6, u6, x6⟩ ⟨k6, g6, g6'⟩
        dsimp only at k6 g6 g6' ⊢
        refine M.o_bind (next_out k6 (by omega) (by omega)) ?_
        rintro ⟨r7, u7, x7⟩ ⟨k7, g7, _⟩
        have g7 := g7 (by omega)
        dsimp only at k7 g7 ⊢
        refine M.o_grd (gA2 (by omega) (by omega)) (M.o_grd (decide_eq_true (by simp; omega)) (M.o_grd (gA2 (by omega) (by omega)) (M.o_pure ⟨(k - 1).toNat, by omega, rfl, by dsimp only; omega, by dsimp only; omega, k7.mono (by dsimp only; omega), add _ ?_, by simp; omega⟩)))
        exact ⟨⟨by dsimp only; omega, by dsimp only; omega, by dsimp only; omega, by dsimp only; omega, by dsimp only; omega⟩, by dsimp only; omega, by dsimp only; omega⟩
      · exact M.o_grd (decide_eq_true (by simp; omega)) (M.o_grd (gA2 (by omega) (by omega)) (M.o_pure ⟨(k - 1).toNat, by omega, rfl, by dsimp only; omega, by dsimp only; omega, k5.mono (by dsimp only; omega), add _ tru, by simp; omega⟩))
    · exact M.o_grd (decide_eq_true (by simp; omega)) (M.o_grd (gA2 (by omega) (by omega)) (M.o_pure ⟨(k - 1).toNat, by omega, rfl, by dsimp only; omega, by dsimp only; omega, k4.mono (by dsimp only; omega), add _ tru, by simp; omega⟩))
  · exact M.o_pure ⟨hS.mono (by omega), hm, h8⟩
theorem b9_any {b : List UInt8} {u x p s N : Int} {K : Nat} {lies : Bool} (hK : K <= 9) (hS : SOk 3 u x) (hp : 0 <= p /\ p <= 50) (hs : 100 <= s /\ s <= 400) (hN : 2 <= N /\ N <= 5) :
    (M.iter (zbd b (K : Int) lies) (u, x, p, s, N, [], [], [], [])).Out (fun z => ∃ S M t ro place stage, z = (z.1, z.2.1, S, M, t, ro, ro, t, M, S) /\ SOk 1000 z.1 z.2.1 /\ Fl.Mj K S M t ro place stage /\ 2 <= S.length /\ S.length <= 5) := by
  refine M.o_iter (fun m (z : Int × Int × Int × Int × Int × List Sect × List Mrk × List Int × List Int) => m = z.2.2.2.2.1.toNat /\ 0 <= z.2.2.2.2.1 /\ z.2.2.2.2.1 + z.2.2.2.2.2.1.length = N /\ SOk (3 + 100 * z.2.2.2.2.2.1.length) z.1 z.2.1 /\ Fl.Mj K z.2.2.2.2.2.1 z.2.2.2.2.2.2.1 z.2.2.2.2.2.2.2.1 z.2.2.2.2.2.2.2.2 z.2.2.1 z.2.2.2.1) ?_ _ (u, x, p, s, N, [], [], [], []) ⟨rfl, by dsimp only; omega, by simp, by simpa using hS, ?_⟩
  · rintro m ⟨u, x, place, stage, n, S, M1, t, ro⟩ ⟨rfl, n0, nl, hS, h⟩
    dsimp only at n0 nl hS h ⊢
    simp only [zbd]
    have e1 := h.tl
    have e2 := h.rl
    have p0 := h.p0
    have p1 := h.p1
    have s0 := h.s0
    have s1 := h.s1
    refine M.o_if (fun hb => ?_) (fun hb => ?_)
    · have hb := of_decide_eq_true hb
      refine M.o_bind (next_out hS (by omega) (by omega)) ?_
      rintro ⟨r5, u5, x5⟩ ⟨k5, g5, _⟩
      have g5 := g5 (by omega)
      dsimp only at k5 g5 ⊢
      refine M.o_bind (next_out k5 (by omega) (by omega)) ?_
      rintro ⟨r6, u6, x6⟩ ⟨k6, g6, _⟩
      have g6 := g6 (by omega)
      dsimp only at k6 g6 ⊢
      refine M.o_bind (within_out k6 (by omega) (by omega) (by omega) (by omega)) ?_
      rintro ⟨r7, u7, x7⟩ ⟨k7, g7, g7'⟩
      dsimp only at k7 g7 g7' ⊢
      refine M.o_bind (b6_lim k7 (by omega) (by omega) (by omega) ⟨g7, g7'⟩) ?_
      rintro ⟨u8, x8, l2, rows⟩ ⟨k8, hr, hr2, hr8, hre⟩
      dsimp only at k8 hr hr2 hr8 hre ⊢
      refine M.o_grd (decide_eq_true (by simp; omega)) (M.o_grd (decide_eq_true (by simp; omega)) (M.o_bind (within_out k8 (by omega) (by omega) (by omega) (by omega)) ?_))
      rintro ⟨r10, u10, x10⟩ ⟨k10, g10, g10'⟩
      dsimp only at k10 g10 g10' ⊢
      refine M.o_grd (decide_eq_true (by simp; omega)) ?_
      unfold zbJ
      refine M.o_bind (next_out k10 (by omega) (by omega)) ?_
      rintro ⟨r11, u11, x11⟩ ⟨k11, g11, _⟩
      have g11 := g11 (by omega)
      dsimp only at k11 g11 ⊢
      refine M.o_bind (b7_any k11 (by omega) (by omega) (by omega) (by omega) hK h.m9 h.mt) ?_
      rintro ⟨u12, x12, l5, M2⟩ ⟨k12, hm2, m8⟩
      dsimp only at k12 hm2 m8 ⊢
      refine M.o_bind (within_out k12 (by omega) (by omega) (by omega) (by omega)) ?_
      rintro ⟨r19, u19, x19⟩ ⟨k19, g19, g19'⟩
      dsimp only at k19 g19 g19' ⊢
      refine M.o_grd (gA2 (by omega) (by omega)) (M.o_bind (next_out k19 (by omega) (by omega)) ?_)
      rintro ⟨r20, u20, x20⟩ ⟨k20, g20, _⟩
      have g20 := g20 (by omega)
      dsimp only at k20 g20 ⊢
      exact M.o_grd (gA2 (by omega) (by omega)) (M.o_grd (gA2 (by omega) (by omega)) (M.o_pure ⟨(n - 1).toNat, by omega, rfl, by dsimp only; omega, by simp; omega, k20.mono (by simp; omega), h.step hr hr2 hr8 hre hm2 m8 ⟨g19, g19'⟩ (by omega) ⟨g10, g10'⟩⟩))
    · have hb := of_decide_eq_false hb
      exact M.o_pure ⟨S, M1, t, ro, place, stage, rfl, hS.mono (by omega), h, by omega, by omega⟩
  · refine ⟨rfl, rfl, fun j hj => ?_, fun j hj => ?_, fun i j _ hj => ?_, fun j hj => ?_, fun m hm => (List.not_mem_nil hm).elim, by simp, fun j hj => ?_, hp.1, by simp; omega, by simp; omega, hs.2⟩ <;> simp at hj
/-- A site that is made, with what bounds it. -/
structure Lim (K : Nat) (S : List Sect) (M : List Mrk) (R : List Rch) : Prop where
  site : Fl.Site S M R
  n5 : S.length <= 5
  mK : M.length <= K
  r4 : R.length <= 4
  pl : ∀ j, j < S.length -> (S.getD j default).place <= 2000
  st : ∀ j, j < S.length -> ∀ e ∈ (S.getD j default).rows, e.stage <= 860
  ms : ∀ m ∈ M, m.place <= 2000 /\ m.hi <= 430
theorem lim_of {K : Nat} {S : List Sect} {M' : List Mrk} {R : List Rch} {t ro : List Int} {place stage : Int} (hK : K <= 9) (h : Fl.Mj K S M' t ro place stage) (hn : 2 <= S.length /\ S.length <= 5) (hm : 1 <= M'.length) (hr : 1 <= R.length /\ R.length <= 4)
    (hR : ∀ r ∈ R, Fl.Rok S r) : Lim K S M' R := by
  have p1 := h.p1
  have s0 := h.s0
  have m9 := h.m9
  refine ⟨⟨⟨by omega, fun i hi => ?_, fun i hi => ?_, fun i j hij hj => ?_⟩, by omega, by omega, fun m hm => (h.mt m hm).1, hR⟩, hn.2, m9, hr.2, fun j hj => ?_, fun j hj => (h.rows j hj).2.2.2, fun m hm => (h.mt m hm).2⟩
  · have := h.rows i hi; exact ⟨this.1, this.2.1, this.2.2.1⟩
  · have := h.pl i hi; omega
  · have := h.gap i j hij hj; omega
  · have := h.pl j hj; omega
theorem j11_any {b : List UInt8} {u x : Int} {K : Nat} {S : List Sect} {M' : List Mrk} {t ro : List Int} {place stage : Int} (hK : K <= 9) (h : Fl.Mj K S M' t ro place stage) (hn : 2 <= S.length /\ S.length <= 5) (hm : 1 <= M'.length) (hS : SOk 1000 u x) :
    (zaF b u x ro t S M').Out (fun z => Lim K z.1 z.2.1 z.2.2.1) := by
  unfold zaF
  refine M.o_bind (within_out hS (by omega) (by omega) (by omega) (by omega)) ?_
  rintro ⟨r, u1, x1⟩ ⟨k1, g1, g1'⟩
  dsimp only at k1 g1 g1' ⊢
  refine M.o_bind (b10_out (k1.mono (by omega)) hn h.rl h.ro0 ⟨g1, g1'⟩) ?_
  rintro ⟨l, l', u2, x2⟩ ⟨e, h1, h2, h3⟩
  dsimp only at e h1 h2 h3 ⊢
  subst e
  exact M.o_pure (lim_of hK h hn hm ⟨h1, h2⟩ fun r hr => (h3 r hr).1)
theorem Made_lim {b : List UInt8} {K : Nat} {lies : Bool} (hK : 1 <= K /\ K <= 9) : (zbn b 0 0 (K : Int) lies).Out (fun z => Lim K z.1 z.2.1 z.2.2.1) := by
  unfold zbn
  refine M.o_bind (next_out SOk.zero (by omega) (by omega)) ?_
  rintro ⟨r2, u1, x1⟩ ⟨k1, g1, _⟩
  have g1 := g1 (by omega)
  dsimp only at k1 g1 ⊢
  refine M.o_bind (within_out k1 (by omega) (by omega) (by omega) (by omega)) ?_
  rintro ⟨r3, u2, x2⟩ ⟨k2, g2, g2'⟩
  dsimp only at k2 g2 g2' ⊢
  refine M.o_bind (within_out k2 (by omega) (by omega) (by omega) (by omega)) ?_
  rintro ⟨r4, u3, x3⟩ ⟨k3, g3, g3'⟩
  dsimp only at k3 g3 g3' ⊢
  refine M.o_bind (b9_any hK.2 (k3.mono (by omega)) (by omega) ⟨g2, g2'⟩ ⟨g3, g3'⟩) ?_
  rintro ⟨u4, x4, z⟩ ⟨S, M', t, ro, place, stage, e, k4, h, n2, n5⟩
  obtain rfl := (Prod.mk.inj (Prod.mk.inj e).2).2
  dsimp only at k4 ⊢
  have p1 := h.p1
  have s0 := h.s0
  refine M.o_if (fun hb => ?_) (fun hb => ?_)
  · rw [beq_iff_eq] at hb
    have hz : M'.length = 0 := by omega
    have t0 := h.tr 0 (by omega)
    have p0 := h.pl 0 (by omega)
    have tl := h.tl
    refine M.o_grd (decide_eq_true (by omega)) (M.o_grd (decide_eq_true (by omega)) (M.o_grd (gA2 (by omega) (by omega)) (M.o_grd (gA2 (by omega) (by omega)) (M.o_grd (decide_eq_true (by simp; omega)) (j11_any (place := place) (stage := stage) hK.2 ?_ ⟨n2, n5⟩ (by simp) k4)))))
    have hm : Fl.Mk ⟨(S.getD 0 default).place, t.getD 0 0 - 5, t.getD 0 0 + 5⟩ := ⟨⟨by dsimp only; omega, by dsimp only; omega, by dsimp only; omega, by dsimp only; omega, by dsimp only; omega⟩, by dsimp only; omega, by dsimp only; omega⟩
    exact ⟨h.tl, h.rl, h.rows, h.pl, h.gap, h.tr, fun m hmm => by
      rcases List.mem_append.1 hmm with hmm | hmm
      · exact h.mt m hmm
      · rw [List.mem_singleton] at hmm
        subst hmm
        exact hm, by simp; omega, h.ro0, h.p0, h.p1, h.s0, h.s1⟩
  · rw [beq_eq_false_iff_ne] at hb
    exact j11_any hK.2 h ⟨n2, n5⟩ (by omega) k4
end Go.Proofs.YtlemgioaakecpaaGreat
namespace Go.Nm
namespace Fl
/-- As many numbers below n as there are of a kind. -/
def cnt (p : Nat -> Bool) : Nat -> Nat
  | 0 => 0
  | n + 1 => cnt p n + (if p n = true then 1 else 0)
theorem cnt_le {p q : Nat -> Bool} : ∀ n, (∀ b, b < n -> p b = true -> q b = true) -> cnt p n <= cnt q n
  | 0, _ => Nat.le_refl _
  | n + 1, h => by
    have h1 := cnt_le n (fun b hb => h b (by omega))
    unfold cnt
    by_cases e : p n = true
    · rw [if_pos e, if_pos (h n (by omega) e)]; omega
    · rw [if_neg e]; omega
theorem cnt_lt {p q : Nat -> Bool} : ∀ n, (∀ b, b < n -> p b = true -> q b = true) -> ∀ x, x < n -> p x = false -> q x = true -> cnt p n < cnt q n
  | 0, _, _, h, _, _ => by omega
  | n + 1, h, x, hx, h1, h2 => by
    unfold cnt
    by_cases e : x = n
    · subst e
      have h3 := cnt_le x (fun b hb => h b (by omega))
      rw [h1, h2]
      simp
      omega
    · have h3 := cnt_lt n (fun b hb => h b (by omega)) x (by omega) h1 h2
      by_cases e : p n = true
      · rw [if_pos e, if_pos (h n (by omega) e)]; omega
      · rw [if_neg e]; omega
section
variable {M : List Mrk}
/-- A mark contradicts another one that lies no less far downstream. -/
def ah (M : List Mrk) (a b : Nat) : Prop := (M.getD a default).place <= (M.getD b default).place /\ (M.getD a default).hi < (M.getD b default).lo
instance (a b : Nat) : Decidable (ah M a b) := inferInstanceAs (Decidable (_ /\ _))
theorem mk_lh (hk : ∀ x ∈ M, Mok x) {b : Nat} (hb : b < M.length) : (M.getD b default).lo <= (M.getD b default).hi := by
  rw [getD_el M hb]
  exact (hk _ (List.getElem_mem hb)).lh
theorem ah_trans (hk : ∀ x ∈ M, Mok x) {a b c : Nat} (hb : b < M.length) (h1 : ah M a b) (h2 : ah M b c) : ah M a c := by
  have := mk_lh hk hb
  obtain ⟨a1, a2⟩ := h1
  obtain ⟨b1, b2⟩ := h2
  exact ⟨Int.le_trans a1 b1, by omega⟩
theorem ah_irr (hk : ∀ x ∈ M, Mok x) {a : Nat} (ha : a < M.length) : ¬ah M a a := fun h => by
  have := mk_lh hk ha
  have := h.2
  omega
/-- What was met. -/
def met (mp : Int -> Option Bool) (b : Nat) : Bool := (mp (b : Int)).getD false
theorem met_upd {mp : Int -> Option Bool} {i b : Nat} : met (updF mp (i : Int) true) b = true ↔ b = i ∨ met mp b = true := by
  unfold met updF
  by_cases e : (b : Int) = (i : Int)
  · rw [if_pos e]
    have : b = i := by omega
    simp [this]
  · rw [if_neg e]
    have : b ≠ i := by omega
    simp [this]
/-- Which mark follows each one in its row, and which one it follows. -/
structure Mtc (M : List Mrk) (nx ls : List Int) : Prop where
  n1 : nx.length = 16
  l1 : ls.length = 16
  l : ∀ b, b < M.length -> ls.getD b 0 = -1 ∨ ∃ c, c < M.length /\ ls.getD b 0 = (c : Int) /\ ah M c b /\ nx.getD c 0 = (b : Int)
  n : ∀ c, c < M.length -> nx.getD c 0 = -1 ∨ ∃ b, b < M.length /\ nx.getD c 0 = (b : Int) /\ ls.getD b 0 = (c : Int)
/-- Marks each of which follows one, all that this one contradicts among them. -/
def Cl (M : List Mrk) (K : Nat -> Prop) (ls : List Int) : Prop := ∀ b, K b -> b < M.length /\ ∃ c, c < M.length /\ ls.getD b 0 = (c : Int) /\ ∀ x, x < M.length -> ah M c x -> K x
/-- Rows that were made one more link long. -/
structure Sc (M : List Mrk) (K : Nat -> Prop) (a : Nat) (mp : Int -> Option Bool) (nx ls nx' ls' : List Int) : Prop where
  n1 : nx'.length = 16
  l1 : ls'.length = 16
  ex : ∃ b, b < M.length /\ met mp b = false /\ ¬K b /\ ah M a b /\ nx'.getD a 0 = (b : Int) /\ ls'.getD b 0 = (a : Int)
  l : ∀ x, x < M.length -> ls.getD x 0 ≠ (a : Int) -> ls'.getD x 0 = -1 ∨ ∃ c, c < M.length /\ ls'.getD x 0 = (c : Int) /\ ah M c x /\ nx'.getD c 0 = (x : Int)
  n : ∀ c, c < M.length -> nx'.getD c 0 = -1 ∨ ∃ x, x < M.length /\ nx'.getD c 0 = (x : Int) /\ ls'.getD x 0 = (c : Int)
  fr : ∀ x, x < M.length -> (met mp x = true ∨ K x) -> ls'.getD x 0 = ls.getD x 0
  k1 : ∀ c, c < M.length -> c ≠ a -> (nx'.getD c 0 = -1 ↔ nx.getD c 0 = -1)
  fn : ∀ c, c < M.length -> c ≠ a -> ∀ y, y < M.length -> ls.getD y 0 = (c : Int) -> met mp y = true -> nx'.getD c 0 = nx.getD c 0
/-- What a search that finds nothing has met. -/
structure Ps (M : List Mrk) (a i : Nat) (mp mp' : Int -> Option Bool) (ls : List Int) : Prop where
  le : ∀ b, met mp b = true -> met mp' b = true
  nb : ∀ c, c < i -> ah M a c -> met mp' c = true
  nw : ∀ b, met mp' b = true -> met mp b = false -> b < M.length /\ ∃ c, c < M.length /\ ls.getD b 0 = (c : Int) /\ ∀ x, x < M.length -> ah M c x -> met mp' x = true
variable {K : Nat -> Prop} {a i s : Nat} {mp mp1 mp2 : Int -> Option Bool} {nx ls nx' ls' : List Int}
theorem Ps.zero : Ps M a 0 mp mp ls := ⟨fun _ h => h, fun c h => by omega, fun b h1 h2 => by rw [h1] at h2; cases h2⟩
theorem Ps.skip (h : Ps M a i mp mp1 ls) (hs : ah M a i -> met mp1 i = true) : Ps M a (i + 1) mp mp1 ls :=
  ⟨h.le, fun c hc ha => by
    by_cases e : c = i
    · subst e; exact hs ha
    · exact h.nb c (by omega) ha, h.nw⟩
theorem Ps.fail (h : Ps M a i mp mp1 ls) (hi : i < M.length) {c : Nat} (hc : c < M.length) (e : ls.getD i 0 = (c : Int)) (h2 : Ps M c M.length (updF mp1 (i : Int) true) mp2 ls) : Ps M a (i + 1) mp mp2 ls := by
  have u : ∀ b, met mp1 b = true -> met mp2 b = true := fun b hb => h2.le b (met_upd.2 (.inr hb))
  have ui : met mp2 i = true := h2.le i (met_upd.2 (.inl rfl))
  refine ⟨fun b hb => u b (h.le b hb), fun x hx ha => ?_, fun b h1 h0 => ?_⟩
  · by_cases k : x = i
    · subst k; exact ui
    · exact u x (h.nb x (by omega) ha)
  · by_cases k1 : met mp1 b = true
    · obtain ⟨hb, d, hd, e1, e2⟩ := h.nw b k1 h0
      exact ⟨hb, d, hd, e1, fun x hx ha => u x (e2 x hx ha)⟩
    · by_cases k2 : b = i
      · subst k2
        exact ⟨hi, c, hc, e, fun x hx ha => h2.nb x hx ha⟩
      · refine h2.nw b h1 ?_
        cases hm : met (updF mp1 (i : Int) true) b with
        | false => rfl
        | true => rcases met_upd.1 hm with k | k
                  · exact absurd k k2
                  · exact absurd k k1
theorem Sc.free (hM : Mtc M nx ls) (hK : Cl M K ls) (hn : M.length <= 16) (ha : a < M.length) (hs : s < M.length) (hm : met mp s = false) (hah : ah M a s) (e : ls.getD s 0 = -1) : Sc M K a mp nx ls (nx.set a (s : Int)) (ls.set s (a : Int)) := by
  have n1 := hM.n1
  have l1 := hM.l1
  have gn : ∀ c, (nx.set a (s : Int)).getD c 0 = if c = a then (s : Int) else nx.getD c 0 := fun c => gset nx a c _ 0 (by omega)
  have gl : ∀ c, (ls.set s (a : Int)).getD c 0 = if c = s then (a : Int) else ls.getD c 0 := fun c => gset ls s c _ 0 (by omega)
  have ks : ¬K s := fun k => by
    obtain ⟨_, c, _, h, _⟩ := hK s k
    omega
  refine ⟨by simp [n1], by simp [l1], ⟨s, hs, hm, ks, hah, by rw [gn, if_pos rfl], by rw [gl, if_pos rfl]⟩, fun x hx hne => ?_, fun c hc => ?_, fun x hx h => ?_, fun c hc hca => ?_, fun c hc hca y hy e1 e2 => ?_⟩
  · by_cases k : x = s
    · subst k
      exact .inr ⟨a, ha, by rw [gl, if_pos rfl], hah, by rw [gn, if_pos rfl]⟩
    · rw [gl, if_neg k]
      rcases hM.l x hx with h | ⟨c, hc, h1, h2, h3⟩
      · exact .inl h
      · refine .inr ⟨c, hc, h1, h2, ?_⟩
        rw [gn, if_neg (fun k' => hne (by rw [h1, k']))]
        exact h3
  · by_cases k : c = a
    · subst k
      exact .inr ⟨s, hs, by rw [gn, if_pos rfl], by rw [gl, if_pos rfl]⟩
    · rw [gn, if_neg k]
      rcases hM.n c hc with h | ⟨b, hb, h1, h2⟩
      · exact .inl h
      · refine .inr ⟨b, hb, h1, ?_⟩
        rw [gl, if_neg (fun k' => by subst k'; omega)]
        exact h2
  · rw [gl, if_neg]
    rintro rfl
    rcases h with h | h
    · rw [h] at hm; cases hm
    · exact ks h
  · rw [gn, if_neg hca]
  · rw [gn, if_neg hca]
theorem Sc.sub (hM : Mtc M nx ls) (hK : Cl M K ls) (hn : M.length <= 16) (ha : a < M.length) (hs : s < M.length) (hah : ah M a s) (hle : ∀ b, met mp b = true -> met mp1 b = true) (hm : met mp1 s = false) (hp : ∀ b, b < M.length -> ls.getD b 0 = (a : Int) -> met mp b = true) {c : Nat} (hc : c < M.length) (e : ls.getD s 0 = (c : Int))
    (h : Sc M K c (updF mp1 (s : Int) true) nx ls nx' ls') : Sc M K a mp nx ls (nx'.set a (s : Int)) (ls'.set s (a : Int)) := by
  have n1 := h.n1
  have l1 := h.l1
  have gn : ∀ x, (nx'.set a (s : Int)).getD x 0 = if x = a then (s : Int) else nx'.getD x 0 := fun x => gset nx' a x _ 0 (by omega)
  have gl : ∀ x, (ls'.set s (a : Int)).getD x 0 = if x = s then (a : Int) else ls'.getD x 0 := fun x => gset ls' s x _ 0 (by omega)
  obtain ⟨b', hb', m', k', ah', nb', lb'⟩ := h.ex
  have ks : ¬K s := fun k => by
    obtain ⟨_, d, hd, h1, h2⟩ := hK s k
    obtain rfl : c = d := by omega
    exact k' (h2 b' hb' ah')
  have m0 : met mp s = false := by
    cases q : met mp s with
    | false => rfl
    | true => rw [hle s q] at hm; cases hm
  have ca : c ≠ a := fun k => by
    subst k
    rw [hp s hs e] at m0; cases m0
  have us : met (updF mp1 (s : Int) true) s = true := met_upd.2 (.inl rfl)
  have up : ∀ b, met mp b = true -> met (updF mp1 (s : Int) true) b = true := fun b hb => met_upd.2 (.inr (hle b hb))
  have fs := h.fr s hs (.inl us)
  have ns : nx.getD c 0 = (s : Int) := by
    rcases hM.l s hs with q | ⟨d, hd, q1, q2, q3⟩
    · omega
    · obtain rfl : c = d := by omega
      exact q3
  have only : ∀ x, x < M.length -> ls.getD x 0 = (c : Int) -> x = s := fun x hx q => by
    rcases hM.l x hx with q' | ⟨d, hd, q1, q2, q3⟩
    · omega
    · obtain rfl : c = d := by omega
      omega
  have bs : b' ≠ s := fun k => by
    subst k
    rw [us] at m'; cases m'
  -- the mark that asks stays as it was
  have na : nx'.getD a 0 = nx.getD a 0 := by
    rcases hM.n a ha with q | ⟨y, hy, q1, q2⟩
    · rw [q]; exact (h.k1 a ha (fun k => ca k.symm)).2 q
    · exact h.fn a ha (fun k => ca k.symm) y hy q2 (up y (hp y hy q2))
  refine ⟨by simp [n1], by simp [l1], ⟨s, hs, m0, ks, hah, by rw [gn, if_pos rfl], by rw [gl, if_pos rfl]⟩, fun x hx hne => ?_, fun d hd => ?_, fun x hx hq => ?_, fun d hd hda => ?_, fun d hd hda y hy e1 e2 => ?_⟩
  · by_cases k : x = s
    · subst k
      exact .inr ⟨a, ha, by rw [gl, if_pos rfl], hah, by rw [gn, if_pos rfl]⟩
    · rw [gl, if_neg k]
      rcases h.l x hx (fun q => k (only x hx q)) with q | ⟨d, hd, q1, q2, q3⟩
      · exact .inl q
      · refine .inr ⟨d, hd, q1, q2, ?_⟩
        rw [gn, if_neg]
        · exact q3
        · rintro rfl
          rw [na] at q3
          rcases hM.n d hd with q | ⟨y, hy, q4, q5⟩
          · omega
          · obtain rfl : x = y := by omega
            exact hne q5
  · by_cases k : d = a
    · subst k
      exact .inr ⟨s, hs, by rw [gn, if_pos rfl], by rw [gl, if_pos rfl]⟩
    · rw [gn, if_neg k]
      rcases h.n d hd with q | ⟨x, hx, q1, q2⟩
      · exact .inl q
      · refine .inr ⟨x, hx, q1, ?_⟩
        rw [gl, if_neg]
        · exact q2
        · rintro rfl
          rw [fs, e] at q2
          obtain rfl : c = d := by omega
          omega
  · rw [gl, if_neg]
    · refine h.fr x hx ?_
      rcases hq with q | q
      · exact .inl (up x q)
      · exact .inr q
    · rintro rfl
      rcases hq with q | q
      · rw [q] at m0; cases m0
      · exact ks q
  · rw [gn, if_neg hda]
    by_cases k : d = c
    · subst k
      constructor <;> intro q <;> omega
    · exact h.k1 d hd k
  · rw [gn, if_neg hda]
    by_cases k : d = c
    · subst k
      obtain rfl := only y hy e1
      rw [e2] at m0; cases m0
    · exact h.fn d hd k y hy e1 (up y e2)
/-- Where the search for each mark begins: what was done of those ahead of it. -/
structure Tp (M : List Mrk) (K : Nat -> Prop) (i : Nat) (nx ls : List Int) : Prop where
  m : Mtc M nx ls
  fr : ∀ j, i <= j -> j < M.length -> nx.getD j 0 = -1
  cl : Cl M K ls
  k : ∀ a, a < i -> nx.getD a 0 = -1 -> ∀ c, c < M.length -> ah M a c -> K c
theorem Tp.no (h : Tp M K i nx ls) (hi : i < M.length) : ∀ x, x < M.length -> ls.getD x 0 ≠ (i : Int) := fun x hx e => by
  have := h.fr i (Nat.le_refl _) hi
  rcases h.m.l x hx with q | ⟨d, hd, q1, q2, q3⟩
  · omega
  · obtain rfl : i = d := by omega
    omega
theorem Tp.ok (h : Tp M K i nx ls) (hi : i < M.length) (hz : Sc M K i mp nx ls nx' ls') : Tp M K (i + 1) nx' ls' := by
  refine ⟨⟨hz.n1, hz.l1, fun x hx => hz.l x hx (h.no hi x hx), hz.n⟩, fun j hj hj' => (hz.k1 j hj' (by omega)).2 (h.fr j (by omega) hj'), fun b kb => ?_, fun a ha e c hc hac => ?_⟩
  · obtain ⟨hb, c, hc, e, q⟩ := h.cl b kb
    exact ⟨hb, c, hc, by rw [hz.fr b hb (.inr kb)]; exact e, q⟩
  · obtain ⟨b, _, _, _, _, e1, _⟩ := hz.ex
    have hai : a ≠ i := fun k => by subst k; omega
    exact h.k a (by omega) ((hz.k1 a (by omega) hai).1 e) c hc hac
theorem Tp.no' (h : Tp M K i nx ls) (hi : i < M.length) (hz : Ps M i M.length (fun _ => none) mp ls) : Tp M (fun b => K b ∨ met mp b = true) (i + 1) nx ls := by
  refine ⟨h.m, fun j hj hj' => h.fr j (by omega) hj', fun b kb => ?_, fun a ha e c hc hac => ?_⟩
  · rcases kb with kb | kb
    · obtain ⟨hb, c, hc, e, q⟩ := h.cl b kb
      exact ⟨hb, c, hc, e, fun x hx ha => .inl (q x hx ha)⟩
    · obtain ⟨hb, c, hc, e, q⟩ := hz.nw b kb rfl
      exact ⟨hb, c, hc, e, fun x hx ha => .inr (q x hx ha)⟩
  · by_cases k : a = i
    · subst k
      exact .inr (hz.nb c hc hac)
    · exact .inl (h.k a (by omega) e c hc hac)
end
end Fl
end Go.Nm
namespace Go.Nm
open Go
/-- Whatever was known of memory is still so. -/
def Later (w w' : World) : Prop := ∀ (w0 : World) (L R : List Chunk), St w0 w L R -> St w0 w' L R
def RetE (R : Value -> World -> Prop) : Ending -> World -> Prop := fun e w => ∃ v, e = .returned v /\ R v w
/-- From here to the function's end, with nothing deferred so far. -/
def WB (P : Program) (fn : Func) (n : Nat) (c : Code) (R : Value -> World -> Prop) (σ : Env) (w : World) : Prop :=
  ∀ a, Fr [] n σ a -> c.wp P (bodyPostD P fn (RetE R)) a w
/-- The end of a function that has deferred a call which leaves memory as it was. -/
def bodyQd (P : Program) (fn : Func) (R : Value -> World -> Prop) : Post
  | .normal, σ, w | .ret, σ, w => ∀ w', Later w w' -> ∃ v, resE P fn σ w' v /\ R v w'
  | _, _, _ => False
section
variable {P : Program} {fn : Func} {n : Nat} {R : Value -> World -> Prop} {σ : Env} {w : World}
theorem ret_of_WB {f : FuncId} {c : Code} {args : Array Value}
    (hf : P.funcs[f]? = some fn) (hb : fn.body = some c) (hn : fn.ntmps = n) (hle' : Nat.ble args.size n = true)
    (h : WB P fn n c R (argE args) w) : Ret P f args w R := by
  have hle := Nat.le_of_ble_eq_true hle'
  subst hn
  refine calls_of_wp_defers hf hb (h _ ⟨rfl, ?_, fun k => ?_⟩)
  · simp; omega
  · simp only [argE, Array.getD_eq_getD_getElem?, Array.getElem?_append]
    by_cases hk : k < args.size
    · simp [hk]
    · rw [if_neg hk]
      simp only [Array.getElem?_replicate]
      have : args[k]? = none := by simp; omega
      rw [this]
      split <;> rfl
theorem WB.seq {x y : Code} (h : W P n x (thenQ (WB P fn n y R) (bodyQ P fn R)) σ w) : WB P fn n (.seq x y) R σ w := by
  intro a ha
  refine wp_seq (wp_mono ((wpIn_wide (n := 0)).1 (h [] a ha)) ?_)
  rintro e a' w' ⟨s, hs, h'⟩
  cases e with
  | normal => exact h' a' hs
  | ret =>
    obtain ⟨v, hr, hR⟩ := h'
    show Leaves P fn a'.tmps (RetE R) a'.defers .returning w'
    rw [hs.df]
    exact ⟨v, hr _ hs.get, v, rfl, hR⟩
  | _ => exact h'.elim
theorem WB.defer {id : Nat} {o1 o2 : Oper} {y : Code} {d : Nat} {v : Value} {fv : Fn} {cap : Array Value} {f : FuncId} {args : Array Value}
    (hd : Nat.blt d n = true) (hd1 : o1.dst = some d) (hg1 : o1.guard = none) (hd2 : o2.dst = none) (hg2 : o2.guard = none)
    (h1 : ∀ w, (execOp (ev σ) o1).run P w = .ok (.value v) w) (h2 : ∀ w, (execOp (ev (upd σ d v)) o2).run P w = .ok (.defer { target := .fn fv cap, args := #[] }) w)
    (hi : ∀ w, (invoke (.fn fv cap) #[]).run P w = .ok (.enter f args) w)
    (hc : ∀ w, CallsD P f args .returning w fun e u' w' => (∃ v, e = .returned v) /\ u' = .returning /\ Later w w')
    (hk : W P n y (bodyQd P fn R) (upd σ d v) w) : WB P fn n (.seq (.region id #[o1, o2] false) y) R σ w := by
  intro a ha
  refine wp_seq (wp_region ?_)
  have hd' : d < n := Nat.lt_of_lt_of_le (Nat.lt_succ_self d) (Nat.le_of_ble_eq_true hd)
  have h2' : (execOp (a.put (some d) v).eval o2).run P w = .ok (.defer { target := .fn fv cap, args := #[] }) w := by
    rw [(ha.put hd' v).eval]
    exact h2 w
  have hr : List.range (#[o1, o2] : Array Oper).size = [0, 1] := rfl
  rw [hr]
  simp only [wpOps, List.getElem?_toArray, List.getElem?_cons_zero, List.getElem?_cons_succ, Region.wanted, hg1, hg2, if_true, Oper.wp, ha.eval, h1, hd1, Oper.upon, h2', hd2]
  refine .inl (.inl ?_)
  have ha' : Fr [{ target := .fn fv cap, args := #[] }] n (upd σ d v) ({ a.put (some d) v with defers := { target := .fn fv cap, args := #[] } :: (a.put (some d) v).defers }.put none undef) := by
    have h3 := ha.put hd' v
    exact ⟨by show _ :: (a.put (some d) v).defers = _; rw [h3.df], h3.sz, h3.get⟩
  refine wp_mono ((wpIn_wide (n := 0)).1 (hk _ _ ha')) ?_
  rintro e a' w' ⟨s, hs, h'⟩
  have fin : (∀ w'', Later w' w'' -> ∃ v, resE P fn s w'' v /\ R v w'') -> Leaves P fn a'.tmps (RetE R) a'.defers .returning w' := fun h' => by
    rw [hs.df]
    refine leaves_cons (by simp) (hi w') ((hc w').mono ?_)
    rintro e u' w'' ⟨⟨v, rfl⟩, rfl, hl⟩
    obtain ⟨v', hr, hR⟩ := h' w'' hl
    exact ⟨v', hr _ hs.get, v', rfl, hR⟩
  cases e with
  | normal => exact fin h'
  | ret => exact fin h'
  | _ => exact h'.elim
theorem x_defer {x : Operand} {fv : Fn} {cap : Array Value} {ty : TypeId} {pos : String} {af : Array Edge} (hx : ev σ x = .func fv #[] cap) (w : World) :
    (execOp (ev σ) ⟨none, .defer { callee := .value x, args := #[], argTypes := #[] }, ty, pos, af, none⟩).run P w = .ok (.defer { target := .fn fv cap, args := #[] }) w := by
  simp [execOp, resolve, hx, Deferred.ofValue]
theorem x_invoke {f : FuncId} (hcf : CF P f) {cap : Array Value} (w : World) : (invoke (.fn (.func f) cap) #[]).run P w = .ok (.enter f cap) w := by
  simp [invoke, run_callFunc hcf]
end
end Go.Nm
namespace Go.Proofs.YtlemgioaakecpaaGreat
open Go Go.Nm
theorem ta_nil (w : World) : (Instr.typeAssert .nilIface 20 119 true).run Tryz.prog w = .ok (.tuple #[.agg #[I 0], .bool false]) w := by
  simp [Instr.typeAssert, go_sem]
set_option maxRecDepth 20000 in
theorem catch_idle (p q : Value) (w : World) : CallsD Tryz.prog 53 #[p, q] .returning w fun e u' w' => (∃ v, e = .returned v) /\ u' = .returning /\ Later w w' := by
  refine callsD_of_wpS Tryz.func53 rfl fun c₀ cs hu => ?_
  apply wpS_seq
  apply wpS_region
  simp [wpOpsS, go_sem, recoverD, hu, Exit.thenS, ta_nil]
  apply wpS_seq
  apply wpS_region
  simp [wpOpsS, go_sem, Exit.thenS]
  refine wpS_cond (t := false) (by simp [Act.eval, Array.replicate]) ?_
  simp only [Bool.false_eq_true, if_false]
  refine wpS_of_wp (wp_skip ?_)
  cases c₀
  simp_all [bodyPostS, results, Tryz.results53]
  exact fun w0 L R H => H.ext (New.alloc ..).ext
end Go.Proofs.YtlemgioaakecpaaGreat
section
set_option maxRecDepth 100000
set_option maxHeartbeats 16000000
namespace Go.Proofs.YtlemgioaakecpaaGreat
open Go Go.Nm
def zaD (a : Int) (ai : List Sect) (aa : List Mrk) (aj : List Rch) (ab : List Sect) (ac : List Mrk) (ae : List Rch) (ak : (Int × (List Sect) × (List Mrk) × (List Rch) × (List Sect) × (List Mrk) × (List Rch) × (Int -> Option Bool) × (List Int) × (List Int)) -> M (Bool × (Int -> Option Bool) × (List Int) × (List Int))) : (Nat × (Int -> Option Bool) × (List Int) × (List Int)) -> M ((Nat × (Int -> Option Bool) × (List Int) × (List Int)) ⊕ (((Int -> Option Bool) × (List Int) × (List Int)) ⊕ ((Int -> Option Bool) × (List Int) × (List Int)))) := fun (s, mp, s2, s3) =>
  bif decide ((s : Int) < (aa.length : Int)) then (
  M.bind (zaf ab ac ae a (s : Int)) fun r2 =>
  bif ((!r2) || ((mp (s : Int)).getD false)) then (
  M.pure (.inl (s + 1, mp, s2, s3)))
  else (
  M.grd (decide ((0 : Int) <= (s : Int)) && decide ((s : Int) < (16 : Int))) <|
  bif !((s3.getD s 0) == (-1)) then (
  M.bind (ak ((s3.getD s 0), ai, aa, aj, ab, ac, ae, (updF mp (s : Int) true), s2, s3)) fun (r3, ag, q0, q1) =>
  bif (((s3.getD s 0) == (-1)) || r3) then (
  M.grd (decide ((0 : Int) <= a) && decide (a < (16 : Int))) <|
  M.pure (.inr (.inl (ag, q0.set (Int.toNat a) (s : Int), q1.set s a))))
  else (
  M.pure (.inl (s + 1, ag, q0, q1))))
  else (
  bif (((s3.getD s 0) == (-1)) || false) then (
  M.grd (decide ((0 : Int) <= a) && decide (a < (16 : Int))) <|
  M.pure (.inr (.inl (updF mp (s : Int) true, s2.set (Int.toNat a) (s : Int), s3.set s a))))
  else (
  M.pure (.inl (s + 1, updF mp (s : Int) true, s2, s3))))))
  else (
  M.pure (.inr (.inr (mp, s2, s3))))
def zap (aa : (Int × (List Sect) × (List Mrk) × (List Rch) × (List Sect) × (List Mrk) × (List Rch) × (Int -> Option Bool) × (List Int) × (List Int)) -> M (Bool × (Int -> Option Bool) × (List Int) × (List Int))) : (Int × (List Sect) × (List Mrk) × (List Rch) × (List Sect) × (List Mrk) × (List Rch) × (Int -> Option Bool) × (List Int) × (List Int)) -> M (Bool × (Int -> Option Bool) × (List Int) × (List Int)) := fun (a, ab, ac, ae, ag, ai, aj, ak, am, ao) =>
  M.bind (M.iter (zaD a ab ac ae ag ai aj aa) (0, ak, am, ao)) fun x_ => match x_ with
  | (.inl (ap, l, l2)) => (
  M.pure (true, ap, l, l2))
  | (.inr (aq, l3, l4)) => (
  M.pure (false, aq, l3, l4))
theorem zcm : M.Mon zap := by
  intro n f g h a
  obtain ⟨a, aa, ab, ac, ae, ag, ai, aj, ak, am⟩ := a
  simp only [zap, zaD]
  repeat' (first | exact M.le_same _ _ | exact h _ | refine M.le_grd ?_ | refine M.le_if ?_ ?_ | refine M.le_bind ?_ (fun x => ?_) | refine M.le_opt ?_ | refine M.le_iter (fun x => ?_) _ | refine zdg (M.le_yl (fun s_ a_ => ?_)) _ _ _ | (rename_i x; cases x) | (rename_i x; obtain ⟨_, _⟩ := x))
def zbH (a : Int) (aa : List Sect) (ab : List Mrk) (ac : List Rch) (ae : List Sect) (ag : List Mrk) (ai : List Rch) (aj : Int -> Option Bool) (ak : List Int) (am : List Int) : M (Bool × (Int -> Option Bool) × (List Int) × (List Int)) := M.fix zap zcm (a, aa, ab, ac, ae, ag, ai, aj, ak, am)
theorem zc2 (n_ : Nat) : ∀ {R : List Chunk} {ap : Nat} {ag : Nat} {aO : Cells} {aP : Value} {aQ : Cells} {aE : Value} {aR : Cells} {aS : Value} {bj : Nat} {ak : Nat} {ay : Nat} {aT : Cells} {aU : Value} {aV : Cells} {aW : Value} {aX : Cells} {aY : Value} {bm : Nat} {ai : Nat} {ab : Nat} {ac : Nat} {aa : Nat} {am : Nat} (a : Int) (az : List Sect) (aj : List Mrk) (aA : List Rch) (av : List Sect) (aw : List Mrk) (ax : List Rch) (aF : Int -> Option Bool) (aB : List Int) (aC : List Int) (bn : Reads R aO) (bo : Sl aO aP az) (bp : Reads R aQ) (aG : Sl aQ aE aj) (bq : Reads R aR) (br : Sl aR aS aA) (aZ : Has R (cBlk ag [aP, aE, aS, .map (some bj)] 177)) (a6 : Has R (cBlk ap [Pq ag] 112)) (a7 : Reads R aT) (a8 : Sl aT aU av) (ba : Reads R aV) (bb : Sl aV aW aw) (bc : Reads R aX) (bf : Sl aX aY ax) (bg : Has R (cBlk ay [aU, aW, aY, .map (some bm)] 177)) (bh : Has R (cBlk ak [.func (.func 51) #[Pq ay] #[]] 116)) (aH : Has R (cBlk ai [.map (some ab)] 191)) (bt : aB.length = 16) (bu : aC.length = 16) (ao : Has R (cBlk ac [Pq aa] 178)) (bi : Has R (cBlk am [.func (.func 120) #[] #[Pq ap, Pq ak, Pq ai, Pq ac, Pq am]] 157)) {r : (Bool × (Int -> Option Bool) × (List Int) × (List Int))} (hM : (M.fixN zap n_ (a, az, aj, aA, av, aw, ax, aF, aB, aC)).Ends r) (w : World) (H : St w w [cMap I B ab aF, cBlk aa (List.flatten [[], encF (α := Int) aB, encF (α := Int) aC]) 182] R), Ret Tryz.prog 120 #[I a, Pq ap, Pq ak, Pq ai, Pq ac, Pq am] w fun v w' => ∃ (y0 : Bool) (y1 : Int -> Option Bool) (y2 : List Int) (y3 : List Int), (y0, y1, y2, y3) = r /\ v = B y0 /\ St w w' [cMap I B ab y1, cBlk aa (List.flatten [[], encF (α := Int) y2, encF (α := Int) y3]) 182] R /\ y2.length = 16 /\ y3.length = 16 := by
  induction n_ with
  | zero => intro R ap ag aO aP aQ aE aR aS bj ak ay aT aU aV aW aX aY bm ai ab ac aa am a az aj aA av aw ax aF aB aC bn bo bp aG bq br aZ a6 a7 a8 ba bb bc bf bg bh aH bt bu ao bi r hM w H; exact (M.e_fail hM).elim
  | succ n_ ih =>
    intro R ap ag aO aP aQ aE aR aS bj ak ay aT aU aV aW aX aY bm ai ab ac aa am a az aj aA av aw ax aF aB aC bn bo bp aG bq br aZ a6 a7 a8 ba bb bc bf bg bh aH bt bu ao bi r hM w H
    refine ret_of_W Tryz.func120 rfl rfl rfl ?_
    refine W.seq ?_
    refine W.region rfl ?_
    refine zA (B false) rfl ?_
    refine s_nil ?_
    refine W.seq ?_
    refine W.seq ?_
    refine W.region rfl ?_
    refine s_val (x_ld (p := Pq ap) (v := Pq ag) rfl (ldb_sc Sc112 (a6.blk H) rfl)) ?_
    refine s_val (x_nc (a := ⟨ag, 0, none⟩) rfl) ?_
    refine s_val (x_fa (a := Pq ag) (v := Pq ag) rfl (fa_blk (o := 0) Fd177_0 Sz27)) ?_
    refine s_val (x_fa (a := Pq ag) (v := Oq ag 1) rfl (fa_blk (o := 0) Fd27_1 Sz24)) ?_
    refine s_val (x_ld (p := Oq ag 1) (v := aE) rfl (ldb_sc Sc24 (aZ.blk H) rfl)) ?_
    have bV := (aG).len_le
    refine s_val (x_lenS T24.und rfl aG) ?_
    refine zM (I 0) rfl ?_
    refine s_nil ?_
    refine W.block ?_
    obtain ⟨bI, bv, bw⟩ := M.e_bind hM
    obtain ⟨bW, bv⟩ := M.e_iter bv
    refine W.loop (fun m σ W => ∃ (s : Nat) (mp : Int -> Option Bool) (s2 : List Int) (s3 : List Int) (ρ : Env), σ = upds ρ [(0, I a), (2, Pq ak), (3, Pq ai), (4, Pq ac), (5, Pq am), (14, I (aj.length : Int)), (15, I (s : Int))] /\ M.iterN (zaD a az aj aA av aw ax (M.fixN zap n_)) m (s, mp, s2, s3) = some bI /\ St w W [cMap I B ab mp, cBlk aa (List.flatten [[], encF (α := Int) s2, encF (α := Int) s3]) 182] R /\ s2.length = 16 /\ s3.length = 16) ?_ ?_
    ·exact ⟨_, 0, aF, aB, aC, _, upds_of _ _ ⟨rfl, rfl, rfl, rfl, rfl, rfl, rfl, trivial⟩, bv, H, bt, bu⟩
    rintro bX σ bY ⟨s, mp, s2, s3, ρ, rfl, bF, H, aq, au⟩
    obtain ⟨bx, bz, bZ, hM, aD⟩ := M.e_iterN bF
    simp only [zaD] at hM
    clear bF
    refine W.seq ?_
    refine W.region rfl ?_
    refine zC (s : Int) (aj.length : Int) (decide ((s : Int) < (aj.length : Int))) rfl rfl rfl ?_
    refine s_nil ?_
    refine W.seq ?_
    refine W.cond (decide ((s : Int) < (aj.length : Int))) rfl (fun aI => ?_) (fun aI => ?_)
    ·replace hM := M.e_t hM aI
     simp only [qy1, qy2, qy3, qy4, qy5, qy6, ne_eq, qy7] at aI
     refine W.skip ?_
     refine W.seq ?_
     refine W.block ?_
     refine W.seq ?_
     refine W.region rfl ?_
     refine zM (I (s : Int)) rfl ?_
     refine zA (I (s : Int)) rfl ?_
     refine s_nil ?_
     refine W.seq ?_
     refine W.seq ?_
     refine W.region rfl ?_
     refine s_val (x_ld (p := Pq ak) (v := .func (.func 51) #[Pq ay] #[]) rfl (ldb_sc Sc116 (bh.blk H) rfl)) ?_
     refine zM (I a) rfl ?_
     refine zM (I (s : Int)) rfl ?_
     obtain ⟨b3, bJ, hM⟩ := M.e_bind hM
     refine s_callm (f := 51) (fs := [Pq ay]) rfl cf51 [I a, I (s : Int)] rfl (zau av aw ax a (s : Int) (a7.app _) a8 (ba.app _) bb (bc.app _) bf (bg.app _) bJ _ (H.gt 2)) ?_
     rintro vq b4 ⟨r2, bK, hvq, aJ⟩
     subst bK
     subst vq
     try dsimp only at hM
     replace H := H.bk aJ
     clear aJ
     refine s_val (x_not (b := r2) rfl) ?_
     refine zM (B (!r2)) rfl ?_
     refine g_val (!(!r2)) (gy_f rfl) (fun hg => x_ld (p := Pq ai) (v := .map (some ab)) rfl (ldb_sc Sc191 (aH.blk H) rfl)) ?_
     refine g_val (!(!r2)) (gy_f rfl) (fun hg => x_mv (v := I (s : Int)) rfl) ?_
     refine g_val (!(!r2)) (gy_f rfl) (fun hg => q_look (kenc := I) (venc := B) (f := mp) (k := (s : Int)) (v := B ((mp (s : Int)).getD false)) keyIntB Tryz.underlying191 Al4 (by exact (gd_of (c := !(!r2)) hg (.map (some ab)))) (by exact (gd_of (c := !(!r2)) hg (I (s : Int)))) (H.get (k := 0) rfl) false (by rw [if_neg (by decide), bool_val])) ?_
     refine s_val (x_por (b := !r2) (r := (mp (s : Int)).getD false) rfl rfl (fun hb => gd_of (c := !(!r2)) (by first | exact hb | (rw [hb]; rfl) | simp_all) (B ((mp (s : Int)).getD false)))) ?_
     refine s_nil ?_
     refine W.cond ((!r2) || ((mp (s : Int)).getD false)) rfl (fun bA => ?_) (fun bA => ?_)
     ·replace hM := M.e_t hM bA
      refine W.exit ?_
      refine W.region rfl ?_
      refine zR (s : Int) 1 ((s : Int) + 1) rfl rfl rfl (by omega) ?_
      refine zM (I ((s : Int) + 1)) rfl ?_
      refine s_nil ?_
      exact ⟨bx, bz, s + 1, mp, s2, s3, _, upds_of _ _ ⟨rfl, rfl, rfl, rfl, rfl, rfl, rfl, trivial⟩, M.e_inl hM aD, H, aq, au⟩
     replace hM := M.e_f hM bA
     refine W.skip ?_
     refine W.seq ?_
     refine W.region rfl ?_
     refine s_val (x_ld (p := Pq ai) (v := .map (some ab)) rfl (ldb_sc Sc191 (aH.blk H) rfl)) ?_
     refine zM (I (s : Int)) rfl ?_
     refine t_mapu (i := 0) (kenc := I) (venc := B) (f := mp) (k := (s : Int)) (v := true) (L' := [cMap I B ab (updF mp (s : Int) true), cBlk aa (List.flatten [[], encF (α := Int) s2, encF (α := Int) s3]) 182]) keyIntB Tryz.underlying191 H rfl rfl rfl rfl rfl ?_
     intro b5 H
     refine s_nil ?_
     refine W.seq ?_
     refine W.draw (fun W => St w W [] R) [(0, true), (1, true), (2, true), (3, true), (4, true), (5, false), (6, true), (7, true), (8, true), (9, true), (10, true), (11, true), (12, true), (13, true), (14, false), (15, false), (16, true)] mixed (by decide +kernel) rfl ?_
     intro b6 ae
     replace H := H.ext ae
     clear ae
     refine ⟨(H.pk []), ?_⟩
     refine d_q rfl (fun w' H => x_ld (p := Pq ac) (v := Pq aa) rfl (ldb_sc Sc178 (ao.blk H) rfl)) ?_
     refine d_q rfl (fun w' H => x_mv (v := I (s : Int)) rfl) ?_
     refine d_q rfl (fun w' H => x_nc (a := ⟨aa, 0, none⟩) rfl) ?_
     refine d_q rfl (fun w' H => x_fa (a := Pq aa) (v := Oq aa 16) rfl (fa_blk (o := 0) Fd182_1 Sz180)) ?_
     obtain ⟨bL, hM⟩ := M.e_grd hM
     simp only [Bool.and_eq_true, decide_eq_true_eq] at bL
     refine d_q rfl (fun w' H => x_ix (a := Oq aa 16) (b := I (s : Int)) (v := .pointer (some ⟨aa, 16 + Int.toNat (s : Int) * 1, none⟩)) rfl rfl (run_indexS Tryz.underlying180 Sz3 (by omega) (by omega))) ?_
     refine d_l rfl ?_
     refine s_val (x_ld (p := .pointer (some ⟨aa, 16 + Int.toNat (s : Int) * 1, none⟩)) (v := I (s3.getD s 0)) rfl (ldS (α := Int) (k := 2) (off := 16) (i := s) (f := 0) (sz := 1) 0 Sc3 (H.bl 1) rfl (sgo2 aq rfl) rfl (by decide) (by have aK := au; omega) (by omega) rfl)) ?_
     refine s_nil ⟨(H.pk []), ?_⟩
     refine d_q rfl (fun w' H => x_cmp (kd := .i64) (a := s3.getD s 0) (b := -1) (r := (s3.getD s 0) == (-1)) rfl rfl rfl) ?_
     refine d_q rfl (fun w' H => x_mv (v := B ((s3.getD s 0) == (-1))) rfl) ?_
     refine d_qg (!((s3.getD s 0) == (-1))) rfl (gy_f rfl) (fun hg => (fun w' H => x_ld (p := Pq am) (v := .func (.func 120) #[] #[Pq ap, Pq ak, Pq ai, Pq ac, Pq am]) rfl (ldb_sc Sc157 (bi.blk H) rfl))) ?_
     refine d_qg (!((s3.getD s 0) == (-1))) rfl (gy_f rfl) (fun hg => (fun w' H => x_ld (p := Pq ac) (v := Pq aa) rfl (ldb_sc Sc178 (ao.blk H) rfl))) ?_
     refine d_qg (!((s3.getD s 0) == (-1))) rfl (gy_f rfl) (fun hg => (fun w' H => x_mv (v := I (s : Int)) rfl)) ?_
     refine d_qg (!((s3.getD s 0) == (-1))) rfl (gy_f rfl) (fun hg => (fun w' H => x_nc (a := ⟨aa, 0, none⟩) (gd_of (c := !((s3.getD s 0) == (-1))) hg (Pq aa)))) ?_
     refine d_qg (!((s3.getD s 0) == (-1))) rfl (gy_f rfl) (fun hg => (fun w' H => x_fa (a := Pq aa) (v := Oq aa 16) (gd_of (c := !((s3.getD s 0) == (-1))) hg (Pq aa)) (fa_blk (o := 0) Fd182_1 Sz180))) ?_
     refine d_qg (!((s3.getD s 0) == (-1))) rfl (gy_f rfl) (fun hg => (fun w' H => x_ix (a := Oq aa 16) (b := I (s : Int)) (v := .pointer (some ⟨aa, 16 + Int.toNat (s : Int) * 1, none⟩)) (gd_of (c := !((s3.getD s 0) == (-1))) hg (Oq aa 16)) (gd_of (c := !((s3.getD s 0) == (-1))) hg (I (s : Int))) (run_indexS Tryz.underlying180 Sz3 (by first | omega | (have ae := hg; simp at ae; omega)) (by first | omega | (have ae := hg; simp at ae; omega))))) ?_
     refine d_l rfl ?_
     refine g_val (!((s3.getD s 0) == (-1))) (gy_f rfl) (fun hg => x_ld (p := .pointer (some ⟨aa, 16 + Int.toNat (s : Int) * 1, none⟩)) (v := I (s3.getD s 0)) (gd_of (c := !((s3.getD s 0) == (-1))) hg (.pointer (some ⟨aa, 16 + Int.toNat (s : Int) * 1, none⟩))) (ldS (α := Int) (k := 2) (off := 16) (i := s) (f := 0) (sz := 1) 0 Sc3 (H.bl 1) rfl (sgo2 aq rfl) rfl (by decide) (by have aK := au; first | omega | (have ae := hg; simp at ae; omega)) (by omega) rfl)) ?_
     refine s_nil ⟨(H.pk []), ?_⟩
     refine d_l rfl ?_
     refine g_splitV (!((s3.getD s 0) == (-1))) (B false) (gy_f rfl) (fun aL => ?_) (fun aL => ?_)
     ·replace hM := M.e_t hM aL
      obtain ⟨b7, bM, hM⟩ := M.e_bind hM
      refine s_callv (f := 120) (by exact (gd_of (c := !((s3.getD s 0) == (-1))) aL (.func (.func 120) #[] #[Pq ap, Pq ak, Pq ai, Pq ac, Pq am]))) cf120 [I (s3.getD s 0)] (by exact (lst1 (gd_of (c := !((s3.getD s 0) == (-1))) aL (I (s3.getD s 0))))) (ih (s3.getD s 0) az aj aA av aw ax (updF mp (s : Int) true) s2 s3 (bn.app _) bo (bp.app _) aG (bq.app _) br (aZ.app _) (a6.app _) (a7.app _) a8 (ba.app _) bb (bc.app _) bf (bg.app _) (bh.app _) (aH.app _) aq au (ao.app _) (bi.app _) bM _ (H.gt 0)) ?_
      rintro vq b8 ⟨r3, aM, q0, q1, bN, hvq, aJ, bB, bC⟩
      subst bN
      subst vq
      try dsimp only at hM
      replace H := H.bk aJ
      clear aJ
      refine s_nil ⟨(H.pk []), ?_⟩
      refine d_q rfl (fun w' H => x_por (b := (s3.getD s 0) == (-1)) (r := r3) rfl rfl (fun _ => rfl)) ?_
      refine d_nil ?_
      refine W.cond (((s3.getD s 0) == (-1)) || r3) rfl (fun bD => ?_) (fun bD => ?_)
      ·replace hM := M.e_t hM bD
       refine W.seq ?_
       refine W.draw (fun W => St w W [cMap I B ab aM] R) [(0, true), (1, true), (2, true), (3, true), (4, true), (5, true), (6, true), (7, true), (8, true), (10, true), (11, true), (9, false), (12, true), (13, false)] mixed (by decide +kernel) rfl ?_
       intro b9 ae
       replace H := H.ext ae
       clear ae
       refine ⟨(H.pk [0]), ?_⟩
       refine d_q rfl (fun w' H => x_ld (p := Pq ac) (v := Pq aa) rfl (ldb_sc Sc178 (ao.blk H) rfl)) ?_
       refine d_q rfl (fun w' H => x_mv (v := I a) rfl) ?_
       refine d_q rfl (fun w' H => x_ld (p := Pq ac) (v := Pq aa) rfl (ldb_sc Sc178 (ao.blk H) rfl)) ?_
       refine d_q rfl (fun w' H => x_mv (v := I (s : Int)) rfl) ?_
       refine d_q rfl (fun w' H => x_mv (v := I (s : Int)) rfl) ?_
       refine d_q rfl (fun w' H => x_mv (v := I a) rfl) ?_
       refine d_q rfl (fun w' H => x_nc (a := ⟨aa, 0, none⟩) rfl) ?_
       refine d_q rfl (fun w' H => x_fa (a := Pq aa) (v := Pq aa) rfl (fa_blk (o := 0) Fd182_0 Sz180)) ?_
       obtain ⟨bO, hM⟩ := M.e_grd hM
       simp only [Bool.and_eq_true, decide_eq_true_eq] at bO
       refine d_q rfl (fun w' H => x_ix (a := Pq aa) (b := I a) (v := .pointer (some ⟨aa, 0 + Int.toNat a * 1, none⟩)) rfl rfl (run_indexS Tryz.underlying180 Sz3 (by omega) (by omega))) ?_
       refine d_q rfl (fun w' H => x_nc (a := ⟨aa, 0, none⟩) rfl) ?_
       refine d_q rfl (fun w' H => x_fa (a := Pq aa) (v := Oq aa 16) rfl (fa_blk (o := 0) Fd182_1 Sz180)) ?_
       refine d_l rfl ?_
       refine t_stS (α := Int) (kc := 1) (b := aa) (k := 1) (off := 0) (i := (Int.toNat a)) (f := 0) (sz := 1) (segs := [[], encF (α := Int) q0, encF (α := Int) q1]) (segs' := [[], encF (α := Int) (q0.set (Int.toNat a) (s : Int)), encF (α := Int) q1]) (l := q0) (l' := q0.set (Int.toNat a) (s : Int)) (vs := [I (s : Int)]) (L' := [cMap I B ab aM, cBlk aa (List.flatten [[], encF (α := Int) (q0.set (Int.toNat a) (s : Int)), encF (α := Int) q1]) 182]) H rfl rfl rfl Sz3 rfl rfl rfl rfl (sgo1 rfl) rfl rfl (by have aK := bB; omega) (by omega) 0 (s : Int) rfl rfl rfl rfl ?_
       intro cb H
       have bG : (q0.set (Int.toNat a) (s : Int)).length = 16 := List.length_set.trans bB
       refine s_nil ⟨(H.pk [0]), ?_⟩
       refine d_q rfl (fun w' H => x_ix (a := Oq aa 16) (b := I (s : Int)) (v := .pointer (some ⟨aa, 16 + Int.toNat (s : Int) * 1, none⟩)) rfl rfl (run_indexS Tryz.underlying180 Sz3 (by omega) (by omega))) ?_
       refine d_l rfl ?_
       refine t_stS (α := Int) (kc := 1) (b := aa) (k := 2) (off := 16) (i := s) (f := 0) (sz := 1) (segs := [[], encF (α := Int) (q0.set (Int.toNat a) (s : Int)), encF (α := Int) q1]) (segs' := [[], encF (α := Int) (q0.set (Int.toNat a) (s : Int)), encF (α := Int) (q1.set s a)]) (l := q1) (l' := q1.set s a) (vs := [I a]) (L' := [cMap I B ab aM, cBlk aa (List.flatten [[], encF (α := Int) (q0.set (Int.toNat a) (s : Int)), encF (α := Int) (q1.set s a)]) 182]) H rfl rfl rfl Sz3 rfl rfl rfl rfl (sgo2 bG rfl) rfl rfl (by have aK := bC; omega) (by omega) 0 a rfl rfl rfl rfl ?_
       intro cc H
       have bP : (q1.set s a).length = 16 := List.length_set.trans bC
       refine s_nil ⟨(H.pk [0]), ?_⟩
       refine d_nil ?_
       refine W.seq ?_
       refine W.region rfl ?_
       refine zA (B true) rfl ?_
       refine s_nil ?_
       refine W.ret ?_
       have bQ := M.e_inr hM aD
       subst bQ
       replace hM := bw
       try dsimp only at hM
       have aN := M.e_pure hM
       exact ⟨_, resE_tmp rfl, ⟨true, aM, (q0.set (Int.toNat a) (s : Int)), (q1.set s a), aN, rfl, H, bG, bP⟩⟩
      replace hM := M.e_f hM bD
      refine W.skip ?_
      refine W.region rfl ?_
      refine zR (s : Int) 1 ((s : Int) + 1) rfl rfl rfl (by omega) ?_
      refine zM (I ((s : Int) + 1)) rfl ?_
      refine s_nil ?_
      exact ⟨bx, bz, s + 1, aM, q0, q1, _, upds_of _ _ ⟨rfl, rfl, rfl, rfl, rfl, rfl, rfl, trivial⟩, M.e_inl hM aD, H, bB, bC⟩
     replace hM := M.e_f hM aL
     refine s_nil ⟨(H.pk []), ?_⟩
     refine d_q rfl (fun w' H => x_por (b := (s3.getD s 0) == (-1)) (r := false) rfl rfl (fun hb => gd_of (c := !((s3.getD s 0) == (-1))) (by first | exact hb | (rw [hb]; rfl) | simp_all) (B false))) ?_
     refine d_nil ?_
     refine W.cond (((s3.getD s 0) == (-1)) || false) rfl (fun bE => ?_) (fun bE => ?_)
     ·replace hM := M.e_t hM bE
      refine W.seq ?_
      refine W.draw (fun W => St w W [cMap I B ab (updF mp (s : Int) true)] R) [(0, true), (1, true), (2, true), (3, true), (4, true), (5, true), (6, true), (7, true), (8, true), (10, true), (11, true), (9, false), (12, true), (13, false)] mixed (by decide +kernel) rfl ?_
      intro cd ae
      replace H := H.ext ae
      clear ae
      refine ⟨(H.pk [0]), ?_⟩
      refine d_q rfl (fun w' H => x_ld (p := Pq ac) (v := Pq aa) rfl (ldb_sc Sc178 (ao.blk H) rfl)) ?_
      refine d_q rfl (fun w' H => x_mv (v := I a) rfl) ?_
      refine d_q rfl (fun w' H => x_ld (p := Pq ac) (v := Pq aa) rfl (ldb_sc Sc178 (ao.blk H) rfl)) ?_
      refine d_q rfl (fun w' H => x_mv (v := I (s : Int)) rfl) ?_
      refine d_q rfl (fun w' H => x_mv (v := I (s : Int)) rfl) ?_
      refine d_q rfl (fun w' H => x_mv (v := I a) rfl) ?_
      refine d_q rfl (fun w' H => x_nc (a := ⟨aa, 0, none⟩) rfl) ?_
      refine d_q rfl (fun w' H => x_fa (a := Pq aa) (v := Pq aa) rfl (fa_blk (o := 0) Fd182_0 Sz180)) ?_
      obtain ⟨bR, hM⟩ := M.e_grd hM
      simp only [Bool.and_eq_true, decide_eq_true_eq] at bR
      refine d_q rfl (fun w' H => x_ix (a := Pq aa) (b := I a) (v := .pointer (some ⟨aa, 0 + Int.toNat a * 1, none⟩)) rfl rfl (run_indexS Tryz.underlying180 Sz3 (by omega) (by omega))) ?_
      refine d_q rfl (fun w' H => x_nc (a := ⟨aa, 0, none⟩) rfl) ?_
      refine d_q rfl (fun w' H => x_fa (a := Pq aa) (v := Oq aa 16) rfl (fa_blk (o := 0) Fd182_1 Sz180)) ?_
      refine d_l rfl ?_
      refine t_stS (α := Int) (kc := 1) (b := aa) (k := 1) (off := 0) (i := (Int.toNat a)) (f := 0) (sz := 1) (segs := [[], encF (α := Int) s2, encF (α := Int) s3]) (segs' := [[], encF (α := Int) (s2.set (Int.toNat a) (s : Int)), encF (α := Int) s3]) (l := s2) (l' := s2.set (Int.toNat a) (s : Int)) (vs := [I (s : Int)]) (L' := [cMap I B ab (updF mp (s : Int) true), cBlk aa (List.flatten [[], encF (α := Int) (s2.set (Int.toNat a) (s : Int)), encF (α := Int) s3]) 182]) H rfl rfl rfl Sz3 rfl rfl rfl rfl (sgo1 rfl) rfl rfl (by have aK := aq; omega) (by omega) 0 (s : Int) rfl rfl rfl rfl ?_
      intro ce H
      have bH : (s2.set (Int.toNat a) (s : Int)).length = 16 := List.length_set.trans aq
      refine s_nil ⟨(H.pk [0]), ?_⟩
      refine d_q rfl (fun w' H => x_ix (a := Oq aa 16) (b := I (s : Int)) (v := .pointer (some ⟨aa, 16 + Int.toNat (s : Int) * 1, none⟩)) rfl rfl (run_indexS Tryz.underlying180 Sz3 (by omega) (by omega))) ?_
      refine d_l rfl ?_
      refine t_stS (α := Int) (kc := 1) (b := aa) (k := 2) (off := 16) (i := s) (f := 0) (sz := 1) (segs := [[], encF (α := Int) (s2.set (Int.toNat a) (s : Int)), encF (α := Int) s3]) (segs' := [[], encF (α := Int) (s2.set (Int.toNat a) (s : Int)), encF (α := Int) (s3.set s a)]) (l := s3) (l' := s3.set s a) (vs := [I a]) (L' := [cMap I B ab (updF mp (s : Int) true), cBlk aa (List.flatten [[], encF (α := Int) (s2.set (Int.toNat a) (s : Int)), encF (α := Int) (s3.set s a)]) 182]) H rfl rfl rfl Sz3 rfl rfl rfl rfl (sgo2 bH rfl) rfl rfl (by have aK := au; omega) (by omega) 0 a rfl rfl rfl rfl ?_
      intro cf H
      have bS : (s3.set s a).length = 16 := List.length_set.trans au
      refine s_nil ⟨(H.pk [0]), ?_⟩
      refine d_nil ?_
      refine W.seq ?_
      refine W.region rfl ?_
      refine zA (B true) rfl ?_
      refine s_nil ?_
      refine W.ret ?_
      have bT := M.e_inr hM aD
      subst bT
      replace hM := bw
      try dsimp only at hM
      have aN := M.e_pure hM
      exact ⟨_, resE_tmp rfl, ⟨true, (updF mp (s : Int) true), (s2.set (Int.toNat a) (s : Int)), (s3.set s a), aN, rfl, H, bH, bS⟩⟩
     replace hM := M.e_f hM bE
     refine W.skip ?_
     refine W.region rfl ?_
     refine zR (s : Int) 1 ((s : Int) + 1) rfl rfl rfl (by omega) ?_
     refine zM (I ((s : Int) + 1)) rfl ?_
     refine s_nil ?_
     exact ⟨bx, bz, s + 1, updF mp (s : Int) true, s2, s3, _, upds_of _ _ ⟨rfl, rfl, rfl, rfl, rfl, rfl, rfl, trivial⟩, M.e_inl hM aD, H, aq, au⟩
    replace hM := M.e_f hM aI
    simp only [qy1, qy2, qy3, qy4, qy5, qy6, ne_eq, qy7] at aI
    refine W.exit ?_
    have bU := M.e_inr hM aD
    subst bU
    replace hM := bw
    try dsimp only at hM
    refine W.seq ?_
    refine W.region rfl ?_
    refine zA (B false) rfl ?_
    refine s_nil ?_
    refine W.ret ?_
    have aN := M.e_pure hM
    exact ⟨_, resE_tmp rfl, ⟨false, mp, s2, s3, aN, rfl, H, aq, au⟩⟩
theorem zcJ {R : List Chunk} {ac : Nat} {ay : Nat} {az : Cells} {aA : Value} {aB : Cells} {aC : Value} {aD : Cells} {aE : Value} {aM : Nat} {ae : Nat} {aF : Nat} {aG : Cells} {aH : Value} {aI : Cells} {aJ : Value} {aK : Cells} {aL : Value} {aN : Nat} {ag : Nat} {ai : Nat} {aj : Nat} {ak : Nat} {am : Nat} (a : Int) (ao : List Sect) (ap : List Mrk) (aq : List Rch) (au : List Sect) (av : List Mrk) (aw : List Rch) (ax : Int -> Option Bool) (aa : List Int) (ab : List Int) (aO : Reads R az) (aP : Sl az aA ao) (aQ : Reads R aB) (aR : Sl aB aC ap) (aS : Reads R aD) (aT : Sl aD aE aq) (aU : Has R (cBlk ay [aA, aC, aE, .map (some aM)] 177)) (aV : Has R (cBlk ac [Pq ay] 112)) (aW : Reads R aG) (aX : Sl aG aH au) (aY : Reads R aI) (aZ : Sl aI aJ av) (a6 : Reads R aK) (a7 : Sl aK aL aw) (a8 : Has R (cBlk aF [aH, aJ, aL, .map (some aN)] 177)) (ba : Has R (cBlk ae [.func (.func 51) #[Pq aF] #[]] 116)) (bb : Has R (cBlk ag [.map (some ai)] 191)) (bc : aa.length = 16) (bf : ab.length = 16) (bg : Has R (cBlk aj [Pq ak] 178)) (bh : Has R (cBlk am [.func (.func 120) #[] #[Pq ac, Pq ae, Pq ag, Pq aj, Pq am]] 157)) {r : (Bool × (Int -> Option Bool) × (List Int) × (List Int))} (hM : (zbH a ao ap aq au av aw ax aa ab).Ends r) (w : World) (H : St w w [cMap I B ai ax, cBlk ak (List.flatten [[], encF (α := Int) aa, encF (α := Int) ab]) 182] R) : Ret Tryz.prog 120 #[I a, Pq ac, Pq ae, Pq ag, Pq aj, Pq am] w fun v w' => ∃ (y0 : Bool) (y1 : Int -> Option Bool) (y2 : List Int) (y3 : List Int), (y0, y1, y2, y3) = r /\ v = B y0 /\ St w w' [cMap I B ai y1, cBlk ak (List.flatten [[], encF (α := Int) y2, encF (α := Int) y3]) 182] R /\ y2.length = 16 /\ y3.length = 16 := by
  obtain ⟨n_, hM⟩ := M.e_fix hM
  exact zc2 n_ a ao ap aq au av aw ax aa ab aO aP aQ aR aS aT aU aV aW aX aY aZ a6 a7 a8 ba bb bc bf bg bh hM w H

def zbQ : ((List Int) × (List Int) × Nat) -> M (((List Int) × (List Int) × Nat) ⊕ ((List Int) × (List Int))) := fun (s, s2, s3) =>
  bif decide ((s3 : Int) < 16) then (
  M.grd (decide ((0 : Int) <= (s3 : Int)) && decide ((s3 : Int) < (16 : Int))) <|
  M.pure (.inl (s.set s3 (-1), s2.set s3 (-1), s3 + 1)))
  else (
  M.pure (.inr (s, s2)))
def zaY (ab : List Sect) (aa : List Mrk) (ac : List Rch) : ((List Int) × (List Int) × Nat) -> M (((List Int) × (List Int) × Nat) ⊕ ((List Int) × (List Int))) := fun (s4, s5, s6) =>
  bif decide ((s6 : Int) < (aa.length : Int)) then (
  M.bind (zbH (s6 : Int) ab aa ac ab aa ac (fun _ => none) s4 s5) fun (r2, ae, q0, q1) =>
  M.pure (.inl (q0, q1, s6 + 1)))
  else (
  M.pure (.inr (s4, s5)))
def zbl (aa : List Sect) (ab : List Mrk) (ac : List Rch) : M ((List Int) × (List Int)) :=
  M.bind (M.iter (zbQ) (List.replicate 16 0, List.replicate 16 0, 0)) fun (l, l2) =>
  M.bind (M.iter (zaY aa ab ac) (l, l2, 0)) fun (l3, l4) =>
  M.pure (l3, l4)
theorem zc3 {R : List Chunk} {ab : Nat} {aB : Cells} {aC : Value} {aD : Cells} {av : Value} {aE : Cells} {aF : Value} {aW : Nat} (aj : List Sect) (ag : List Mrk) (ak : List Rch) (aG : Reads R aB) (aH : Sl aB aC aj) (aI : Reads R aD) (aq : Sl aD av ag) (aJ : Reads R aE) (aK : Sl aE aF ak) (aw : Has R (cBlk ab [aC, av, aF, .map (some aW)] 177)) {r : ((List Int) × (List Int))} (hM : (zbl aj ag ak).Ends r) (w : World) (H : St w w [] R) : Ret Tryz.prog 96 #[Pq ab] w fun v w' => ∃ (y0 : List Int) (y1 : List Int) (aL : Nat), (y0, y1) = r /\ v = Pq aL /\ St w w' [cBlk aL (List.flatten [[], encF (α := Int) y0, encF (α := Int) y1]) 182] R /\ y0.length = 16 /\ y1.length = 16 := by
 refine ret_of_W Tryz.func96 rfl rfl rfl ?_
 refine W.seq ?_
 refine W.region rfl ?_
 refine t_box (v := Pq ab) (cs := [Pq ab]) H rfl rfl ?_
 intro ae br H
 refine zA (.pointer none) rfl ?_
 refine s_nil ?_
 refine W.seq ?_
 refine W.region rfl ?_
 refine s_val (x_bld (ps := []) (zs := (List.flatten [[], encF (α := Int) (List.replicate 16 0), encF (α := Int) (List.replicate 16 0)])) (L' := (List.flatten [[], encF (α := Int) (List.replicate 16 0), encF (α := Int) (List.replicate 16 0)])) rfl Tryz.underlying182 Al182 rfl (Bd182 Tryz.underlying182) (.nil)) ?_
 refine t_box (v := .agg (List.flatten [[], encF (α := Int) (List.replicate 16 0), encF (α := Int) (List.replicate 16 0)]).toArray) (cs := (List.flatten [[], encF (α := Int) (List.replicate 16 0), encF (α := Int) (List.replicate 16 0)])) H rfl rfl ?_
 intro aa bt H
 refine t_alloc (cs := [.pointer none]) H Al178 rfl ?_
 intro ac bu H
 refine t_sw 0 0 [Pq aa] (Pq aa) H rfl rfl Sz178 rfl rfl rfl rfl ?_
 intro bv H
 refine s_nil ?_
 refine W.seq ?_
 refine W.seq ?_
 refine W.region rfl ?_
 refine zM (I 0) rfl ?_
 refine s_nil ?_
 refine W.block ?_
 obtain ⟨aX, ax, aY⟩ := M.e_bind hM
 obtain ⟨aZ, ax⟩ := M.e_iter ax
 refine W.loop (fun m σ W => ∃ (s : List Int) (s2 : List Int) (s3 : Nat) (ρ : Env), σ = upds ρ [(1, Pq ae), (3, Pq ac), (11, I (s3 : Int))] /\ M.iterN (zbQ) m (s, s2, s3) = some aX /\ St w W [cBlk ac [Pq aa] 178, cBlk aa (List.flatten [[], encF (α := Int) s, encF (α := Int) s2]) 182, cBlk ae [Pq ab] 112] R /\ s.length = 16 /\ s2.length = 16) ?_ ?_
 ·exact ⟨_, List.replicate 16 0, List.replicate 16 0, 0, _, upds_of _ _ ⟨rfl, rfl, rfl, trivial⟩, ax, H, List.length_replicate, List.length_replicate⟩
 rintro bw σ bx ⟨s, s2, s3, ρ, rfl, aM, H, ay, az⟩
 obtain ⟨a6, a7, bz, hM, aN⟩ := M.e_iterN aM
 simp only [zbQ] at hM
 clear aM
 refine W.seq ?_
 refine W.region rfl ?_
 refine zC (s3 : Int) 16 (decide ((s3 : Int) < 16)) rfl rfl rfl ?_
 refine s_nil ?_
 refine W.seq ?_
 refine W.cond (decide ((s3 : Int) < 16)) rfl (fun am => ?_) (fun am => ?_)
 ·replace hM := M.e_t hM am
  simp only [qy1, qy2, qy3, qy4, qy5, qy6, ne_eq, qy7] at am
  refine W.skip ?_
  refine W.seq ?_
  refine W.block ?_
  refine W.seq ?_
  refine W.region rfl ?_
  refine zM (I (s3 : Int)) rfl ?_
  refine zA (I (s3 : Int)) rfl ?_
  refine s_nil ?_
  refine W.draw (fun W => St w W [cBlk ac [Pq aa] 178, cBlk ae [Pq ab] 112] R) [(0, true), (1, true), (2, true), (3, true), (4, true), (5, true), (6, true), (8, true), (9, true), (7, false), (10, true), (11, false)] mixed (by decide +kernel) rfl ?_
  intro bA aO
  replace H := H.ext aO
  clear aO
  refine ⟨(H.pk [0, 2]), ?_⟩
  refine d_q rfl (fun w' H => x_ld (p := Pq ac) (v := Pq aa) rfl (ldb_sc Sc178 (H.bl 0) rfl)) ?_
  refine d_q rfl (fun w' H => x_mv (v := I (s3 : Int)) rfl) ?_
  refine d_q rfl (fun w' H => x_ld (p := Pq ac) (v := Pq aa) rfl (ldb_sc Sc178 (H.bl 0) rfl)) ?_
  refine d_q rfl (fun w' H => x_mv (v := I (s3 : Int)) rfl) ?_
  refine d_q rfl (fun w' H => x_nc (a := ⟨aa, 0, none⟩) rfl) ?_
  refine d_q rfl (fun w' H => x_fa (a := Pq aa) (v := Pq aa) rfl (fa_blk (o := 0) Fd182_0 Sz180)) ?_
  obtain ⟨a8, hM⟩ := M.e_grd hM
  simp only [Bool.and_eq_true, decide_eq_true_eq] at a8
  refine d_q rfl (fun w' H => x_ix (a := Pq aa) (b := I (s3 : Int)) (v := .pointer (some ⟨aa, 0 + Int.toNat (s3 : Int) * 1, none⟩)) rfl rfl (run_indexS Tryz.underlying180 Sz3 (by omega) (by omega))) ?_
  refine d_q rfl (fun w' H => x_nc (a := ⟨aa, 0, none⟩) rfl) ?_
  refine d_q rfl (fun w' H => x_fa (a := Pq aa) (v := Oq aa 16) rfl (fa_blk (o := 0) Fd182_1 Sz180)) ?_
  refine d_l rfl ?_
  refine t_stS (α := Int) (kc := 1) (b := aa) (k := 1) (off := 0) (i := s3) (f := 0) (sz := 1) (segs := [[], encF (α := Int) s, encF (α := Int) s2]) (segs' := [[], encF (α := Int) (s.set s3 (-1)), encF (α := Int) s2]) (l := s) (l' := s.set s3 (-1)) (vs := [I (-1)]) (L' := [cBlk ac [Pq aa] 178, cBlk aa (List.flatten [[], encF (α := Int) (s.set s3 (-1)), encF (α := Int) s2]) 182, cBlk ae [Pq ab] 112]) H rfl rfl rfl Sz3 rfl rfl rfl rfl (sgo1 rfl) rfl rfl (by have ba := ay; omega) (by omega) 0 (-1) rfl rfl rfl rfl ?_
  intro bB H
  have aP : (s.set s3 (-1)).length = 16 := List.length_set.trans ay
  refine s_nil ⟨(H.pk [0, 2]), ?_⟩
  refine d_q rfl (fun w' H => x_ix (a := Oq aa 16) (b := I (s3 : Int)) (v := .pointer (some ⟨aa, 16 + Int.toNat (s3 : Int) * 1, none⟩)) rfl rfl (run_indexS Tryz.underlying180 Sz3 (by omega) (by omega))) ?_
  refine d_l rfl ?_
  refine t_stS (α := Int) (kc := 1) (b := aa) (k := 2) (off := 16) (i := s3) (f := 0) (sz := 1) (segs := [[], encF (α := Int) (s.set s3 (-1)), encF (α := Int) s2]) (segs' := [[], encF (α := Int) (s.set s3 (-1)), encF (α := Int) (s2.set s3 (-1))]) (l := s2) (l' := s2.set s3 (-1)) (vs := [I (-1)]) (L' := [cBlk ac [Pq aa] 178, cBlk aa (List.flatten [[], encF (α := Int) (s.set s3 (-1)), encF (α := Int) (s2.set s3 (-1))]) 182, cBlk ae [Pq ab] 112]) H rfl rfl rfl Sz3 rfl rfl rfl rfl (sgo2 aP rfl) rfl rfl (by have ba := az; omega) (by omega) 0 (-1) rfl rfl rfl rfl ?_
  intro bC H
  have bb : (s2.set s3 (-1)).length = 16 := List.length_set.trans az
  refine s_nil ⟨(H.pk [0, 2]), ?_⟩
  refine d_nil ?_
  refine W.region rfl ?_
  refine zR (s3 : Int) 1 ((s3 : Int) + 1) rfl rfl rfl (by omega) ?_
  refine zM (I ((s3 : Int) + 1)) rfl ?_
  refine s_nil ?_
  exact ⟨a6, a7, s.set s3 (-1), s2.set s3 (-1), s3 + 1, _, upds_of _ _ ⟨rfl, rfl, rfl, trivial⟩, M.e_inl hM aN, H, aP, bb⟩
 replace hM := M.e_f hM am
 simp only [qy1, qy2, qy3, qy4, qy5, qy6, ne_eq, qy7] at am
 refine W.exit ?_
 have bc := M.e_inr hM aN
 subst bc
 replace hM := aY
 try dsimp only at hM
 refine W.seq ?_
 refine W.region rfl ?_
 refine s_val (x_ld (p := Pq ae) (v := Pq ab) rfl (ldb_sc Sc112 (H.bl 2) rfl)) ?_
 refine s_val (x_mf (fs := [Pq ab]) (cs := []) rfl rfl) ?_
 refine t_alloc (cs := [.nilFunc]) H Al116 rfl ?_
 intro ai bD H
 refine t_sw 0 0 [.func (.func 51) #[Pq ab] #[]] (.func (.func 51) #[Pq ab] #[]) H rfl rfl Sz116 rfl rfl rfl rfl ?_
 intro bE H
 refine s_nil ?_
 refine W.seq ?_
 refine W.seq ?_
 refine W.region rfl ?_
 refine s_val (x_ld (p := Pq ae) (v := Pq ab) rfl (ldb_sc Sc112 (H.bl 3) rfl)) ?_
 refine s_val (x_nc (a := ⟨ab, 0, none⟩) rfl) ?_
 refine s_val (x_fa (a := Pq ab) (v := Pq ab) rfl (fa_blk (o := 0) Fd177_0 Sz27)) ?_
 refine s_val (x_fa (a := Pq ab) (v := Oq ab 1) rfl (fa_blk (o := 0) Fd27_1 Sz24)) ?_
 refine s_val (x_ld (p := Oq ab 1) (v := av) rfl (ldb_sc Sc24 (aw.blk H) rfl)) ?_
 have bF := (aq).len_le
 refine s_val (x_lenS T24.und rfl aq) ?_
 refine zM (I 0) rfl ?_
 refine s_nil ?_
 refine W.block ?_
 obtain ⟨bf, aA, bg⟩ := M.e_bind hM
 obtain ⟨aZ, aA⟩ := M.e_iter aA
 refine W.loop (fun m σ W => ∃ (s4 : List Int) (s5 : List Int) (s6 : Nat) (ρ : Env), σ = upds ρ [(1, Pq ae), (3, Pq ac), (5, Pq ai), (32, I (ag.length : Int)), (33, I (s6 : Int))] /\ M.iterN (zaY aj ag ak) m (s4, s5, s6) = some bf /\ St w W [cBlk ai [.func (.func 51) #[Pq ab] #[]] 116, cBlk ac [Pq aa] 178, cBlk aa (List.flatten [[], encF (α := Int) s4, encF (α := Int) s5]) 182, cBlk ae [Pq ab] 112] R /\ s4.length = 16 /\ s5.length = 16) ?_ ?_
 ·exact ⟨_, s, s2, 0, _, upds_of _ _ ⟨rfl, rfl, rfl, rfl, rfl, trivial⟩, aA, H, ay, az⟩
 rintro bG σ bH ⟨s4, s5, s6, ρ, rfl, aQ, H, aR, aS⟩
 obtain ⟨bh, bi, bI, hM, aT⟩ := M.e_iterN aQ
 simp only [zaY] at hM
 clear aQ
 refine W.seq ?_
 refine W.region rfl ?_
 refine zC (s6 : Int) (ag.length : Int) (decide ((s6 : Int) < (ag.length : Int))) rfl rfl rfl ?_
 refine s_nil ?_
 refine W.seq ?_
 refine W.cond (decide ((s6 : Int) < (ag.length : Int))) rfl (fun ao => ?_) (fun ao => ?_)
 ·replace hM := M.e_t hM ao
  simp only [qy1, qy2, qy3, qy4, qy5, qy6, ne_eq, qy7] at ao
  refine W.skip ?_
  refine W.seq ?_
  refine W.block ?_
  refine W.seq ?_
  refine W.region rfl ?_
  refine zM (I (s6 : Int)) rfl ?_
  refine zA (I (s6 : Int)) rfl ?_
  refine s_nil ?_
  refine W.seq ?_
  refine W.region rfl ?_
  refine t_mkmap (κ := Int) (ν := Bool) I B H ?_
  intro aU bJ H
  refine t_alloc (cs := [.map none]) H Al191 rfl ?_
  intro au bK H
  refine t_sw 0 0 [.map (some aU)] (.map (some aU)) H rfl rfl Sz191 rfl rfl rfl rfl ?_
  intro bL H
  refine s_nil ?_
  refine W.seq ?_
  refine W.region rfl ?_
  refine t_alloc (cs := [.nilFunc]) H Al157 rfl ?_
  intro ap bM H
  refine s_nil ?_
  refine W.seq ?_
  refine W.region rfl ?_
  refine s_val (x_mf (fs := []) (cs := [Pq ae, Pq ai, Pq au, Pq ac, Pq ap]) rfl rfl) ?_
  refine t_sw 0 0 [.func (.func 120) #[] #[Pq ae, Pq ai, Pq au, Pq ac, Pq ap]] (.func (.func 120) #[] #[Pq ae, Pq ai, Pq au, Pq ac, Pq ap]) H rfl rfl Sz157 rfl rfl rfl rfl ?_
  intro bN H
  refine s_nil ?_
  refine W.region rfl ?_
  refine s_val (x_ld (p := Pq ap) (v := .func (.func 120) #[] #[Pq ae, Pq ai, Pq au, Pq ac, Pq ap]) rfl (ldb_sc Sc157 (H.bl 0) rfl)) ?_
  refine zM (I (s6 : Int)) rfl ?_
  obtain ⟨bO, bj, hM⟩ := M.e_bind hM
  refine s_callv (f := 120) rfl cf120 [I (s6 : Int)] rfl (zcJ (s6 : Int) aj ag ak aj ag ak (fun _ => none) s4 s5 (aG.app _) aH (aI.app _) aq (aJ.app _) aK (aw.app _) (Has.here (k := 4) rfl) (aG.app _) aH (aI.app _) aq (aJ.app _) aK (aw.app _) (Has.here (k := 2) rfl) (Has.here (k := 1) rfl) aR aS (Has.here (k := 3) rfl) (Has.here (k := 0) rfl) bj _ ((H.pk [2, 5, 0, 1, 3, 4, 6]).gt 5)) ?_
  rintro vq bP ⟨r2, bQ, q0, q1, bm, hvq, aV, bn, bo⟩
  subst bm
  subst vq
  try dsimp only at hM
  replace H := H.pk [2, 5, 0, 1, 3, 4, 6] |>.bk aV
  clear aV
  refine s_nil ?_
  replace H := H.pk [1, 4, 5, 6]
  refine W.region rfl ?_
  refine zR (s6 : Int) 1 ((s6 : Int) + 1) rfl rfl rfl (by omega) ?_
  refine zM (I ((s6 : Int) + 1)) rfl ?_
  refine s_nil ?_
  exact ⟨bh, bi, q0, q1, s6 + 1, _, upds_of _ _ ⟨rfl, rfl, rfl, rfl, rfl, trivial⟩, M.e_inl hM aT, (H.pk [1, 2, 0, 3]), bn, bo⟩
 replace hM := M.e_f hM ao
 simp only [qy1, qy2, qy3, qy4, qy5, qy6, ne_eq, qy7] at ao
 refine W.exit ?_
 have bp := M.e_inr hM aT
 subst bp
 replace hM := bg
 try dsimp only at hM
 replace H := H.pk [1, 2]
 refine W.seq ?_
 refine W.region rfl ?_
 refine s_val (x_ld (p := Pq ac) (v := Pq aa) rfl (ldb_sc Sc178 (H.bl 0) rfl)) ?_
 refine zA (Pq aa) rfl ?_
 refine s_nil ?_
 refine W.ret ?_
 have bq := M.e_pure hM
 exact ⟨_, resE_tmp rfl, ⟨s4, s5, aa, bq, rfl, (H.pk [1]), aR, aS⟩⟩

def zaS (r0 : List Int) : (Int × (List Int)) -> M ((Int × (List Int)) ⊕ ((List Int) × (List Int))) := fun (s, l) =>
  bif s != (-1) then (
  M.grd (decide ((l.length + ([(s : Int)]).length) * 8 <= 140737488355328)) <|
  M.grd (decide ((0 : Int) <= s) && decide (s < (16 : Int))) <|
  M.pure (.inl (r0.getD (Int.toNat s) 0, l ++ ([(s : Int)]))))
  else (
  M.pure (.inr (l, l)))
def zaX (aa : List Mrk) (r0 : List Int) (r1 : List Int) : (Nat × (List (List Int))) -> M ((Nat × (List (List Int))) ⊕ ((List (List Int)) × (List (List Int)))) := fun (s2, l4) =>
  bif decide ((s2 : Int) < (aa.length : Int)) then (
  M.grd (decide ((0 : Int) <= (s2 : Int)) && decide ((s2 : Int) < (16 : Int))) <|
  bif (r1.getD s2 0) != (-1) then (
  M.pure (.inl (s2 + 1, l4)))
  else (
  M.bind (M.iter (zaS r0) ((s2 : Int), [])) fun (l2, l3) =>
  M.grd (decide ((l4.length + ([l3]).length) * 24 <= 140737488355328)) <|
  M.pure (.inl (s2 + 1, l4 ++ ([l3])))))
  else (
  M.pure (.inr (l4, l4)))
def zar (ab : List Sect) (aa : List Mrk) (ac : List Rch) : M (List (List Int)) :=
  M.bind (zbl ab aa ac) fun (r0, r1) =>
  M.bind (M.iter (zaX aa r0 r1) (0, [])) fun (l5, l6) =>
  M.pure l6
theorem zcj {R : List Chunk} {ab : Nat} {aC : Cells} {aD : Value} {aE : Cells} {av : Value} {aF : Cells} {aG : Value} {aU : Nat} (aw : List Sect) (ae : List Mrk) (ax : List Rch) (aV : Reads R aC) (aW : Sl aC aD aw) (aX : Reads R aE) (ay : Sl aE av ae) (aY : Reads R aF) (aZ : Sl aF aG ax) (aH : Has R (cBlk ab [aD, av, aG, .map (some aU)] 177)) {r : (List (List Int))} (hM : (zar aw ae ax).Ends r) (w : World) (H : St w w [] R) : Ret Tryz.prog 50 #[Pq ab] w fun v w' => ∃ (y0 : List (List Int)) (u0 : Value) (rr1 : List (Raw 0)) (aI : Base), y0 = r /\ v = u0 /\ St w w' [cOwn (α := Raw 0) 28 u0 rr1, cRo aI] R /\ RepR (α := List Int) aI.cells rr1 y0 := by
 refine ret_of_W Tryz.func50 rfl rfl rfl ?_
 refine W.seq ?_
 refine W.region rfl ?_
 refine zA (.slice none 0 0) rfl ?_
 refine s_nil ?_
 refine W.seq ?_
 refine W.region rfl ?_
 refine zM (Pq ab) rfl ?_
 obtain ⟨bG, a6, hM⟩ := M.e_bind hM
 refine s_call cf96 [Pq ab] rfl (zc3 aw ae ax (aV.app _) aW (aX.app _) ay (aY.app _) aZ (aH.app _) a6 _ (H.gt 0)) ?_
 rintro vq bH ⟨r0, r1, aa, a7, hvq, aJ, aK, a8⟩
 subst a7
 subst vq
 try dsimp only at hM
 replace H := H.bk aJ
 clear aJ
 refine zA (Pq aa) rfl ?_
 refine s_nil ?_
 refine W.seq ?_
 refine W.region rfl ?_
 refine zA (.slice none 0 0) rfl ?_
 refine s_nil ?_
 refine W.seq ?_
 refine W.seq ?_
 refine W.region rfl ?_
 refine zM (Pq ab) rfl ?_
 refine s_val (x_nc (a := ⟨ab, 0, none⟩) rfl) ?_
 refine s_val (x_fa (a := Pq ab) (v := Pq ab) rfl (fa_blk (o := 0) Fd177_0 Sz27)) ?_
 refine s_val (x_fa (a := Pq ab) (v := Oq ab 1) rfl (fa_blk (o := 0) Fd27_1 Sz24)) ?_
 refine s_val (x_ld (p := Oq ab 1) (v := av) rfl (ldb_sc Sc24 (aH.blk H) rfl)) ?_
 have bI := (ay).len_le
 refine s_val (x_lenS T24.und rfl ay) ?_
 refine zM (I 0) rfl ?_
 refine s_nil ?_
 refine W.block ?_
 obtain ⟨aL, H⟩ := H.emptyE
 replace H := H.nilOwn (α := Raw 0) 28
 have ba : RepR (α := List Int) (n := 0) aL.cells [] [] := .nil
 obtain ⟨bb, az, bc⟩ := M.e_bind hM
 obtain ⟨bf, az⟩ := M.e_iter az
 refine W.loop (fun m σ W => ∃ (s2 : Nat) (l4 : List (List Int)) (ac : Value) (ag : List (Raw 0)) (B_l4 : Base) (ρ : Env), σ = upds ρ [(3, Pq aa), (4, ac), (15, I (ae.length : Int)), (16, I (s2 : Int))] /\ M.iterN (zaX ae r0 r1) m (s2, l4) = some bb /\ St w W [cOwn (α := Raw 0) 28 ac ag, cRo B_l4, cBlk aa (List.flatten [[], encF (α := Int) r0, encF (α := Int) r1]) 182] R /\ RepR (α := List Int) B_l4.cells ag l4) ?_ ?_
 ·exact ⟨_, 0, [], (.slice none 0 0), [], aL, _, upds_of _ _ ⟨rfl, rfl, rfl, rfl, trivial⟩, az, H, ba⟩
 rintro bJ σ bK ⟨s2, l4, ac, ag, B_l4, ρ, rfl, aM, H, ak⟩
 obtain ⟨aN, aO, bL, hM, aA⟩ := M.e_iterN aM
 simp only [zaX] at hM
 clear aM
 refine W.seq ?_
 refine W.region rfl ?_
 refine zC (s2 : Int) (ae.length : Int) (decide ((s2 : Int) < (ae.length : Int))) rfl rfl rfl ?_
 refine s_nil ?_
 refine W.seq ?_
 refine W.cond (decide ((s2 : Int) < (ae.length : Int))) rfl (fun am => ?_) (fun am => ?_)
 ·replace hM := M.e_t hM am
  simp only [qy1, qy2, qy3, qy4, qy5, qy6, ne_eq, qy7] at am
  refine W.skip ?_
  refine W.seq ?_
  refine W.block ?_
  refine W.seq ?_
  refine W.region rfl ?_
  refine zM (I (s2 : Int)) rfl ?_
  refine zA (I (s2 : Int)) rfl ?_
  refine s_nil ?_
  refine W.seq ?_
  refine W.seq ?_
  refine W.region rfl ?_
  refine zM (Pq aa) rfl ?_
  refine zM (I (s2 : Int)) rfl ?_
  refine s_val (x_nc (a := ⟨aa, 0, none⟩) rfl) ?_
  refine s_val (x_fa (a := Pq aa) (v := Oq aa 16) rfl (fa_blk (o := 0) Fd182_1 Sz180)) ?_
  obtain ⟨bg, hM⟩ := M.e_grd hM
  simp only [Bool.and_eq_true, decide_eq_true_eq] at bg
  refine s_val (x_ix (a := Oq aa 16) (b := I (s2 : Int)) (v := .pointer (some ⟨aa, 16 + Int.toNat (s2 : Int) * 1, none⟩)) rfl rfl (run_indexS Tryz.underlying180 Sz3 (by omega) (by omega))) ?_
  refine s_val (x_ld (p := .pointer (some ⟨aa, 16 + Int.toNat (s2 : Int) * 1, none⟩)) (v := I (r1.getD s2 0)) rfl (ldS (α := Int) (k := 2) (off := 16) (i := s2) (f := 0) (sz := 1) 0 Sc3 (H.bl 2) rfl (sgo2 aK rfl) rfl (by decide) (by have bh := a8; omega) (by omega) rfl)) ?_
  refine zC (r1.getD s2 0) (-1) ((r1.getD s2 0) != (-1)) rfl rfl rfl ?_
  refine s_nil ?_
  refine W.cond ((r1.getD s2 0) != (-1)) rfl (fun ao => ?_) (fun ao => ?_)
  ·replace hM := M.e_t hM ao
   simp only [qy1, qy2, qy3, qy4, qy5, qy6, ne_eq, qy7] at ao
   refine W.exit ?_
   refine W.region rfl ?_
   refine zR (s2 : Int) 1 ((s2 : Int) + 1) rfl rfl rfl (by omega) ?_
   refine zM (I ((s2 : Int) + 1)) rfl ?_
   refine s_nil ?_
   exact ⟨aN, aO, s2 + 1, l4, ac, ag, B_l4, _, upds_of _ _ ⟨rfl, rfl, rfl, rfl, trivial⟩, M.e_inl hM aA, H, ak⟩
  replace hM := M.e_f hM ao
  simp only [qy1, qy2, qy3, qy4, qy5, qy6, ne_eq, qy7] at ao
  refine W.skip ?_
  refine W.seq ?_
  refine W.region rfl ?_
  refine zA (.slice none 0 0) rfl ?_
  refine s_nil ?_
  refine W.seq ?_
  refine W.seq ?_
  refine W.region rfl ?_
  refine zM (I (s2 : Int)) rfl ?_
  refine zA (I (s2 : Int)) rfl ?_
  refine s_nil ?_
  refine W.block ?_
  replace H := H.nilOwn (α := Int) 3
  obtain ⟨bi, aB, bj⟩ := M.e_bind hM
  obtain ⟨bf, aB⟩ := M.e_iter aB
  refine W.loop (fun m σ W => ∃ (s : Int) (l : List Int) (ai : Value) (ρ : Env), σ = upds ρ [(3, Pq aa), (4, ac), (6, ai), (7, I s), (15, I (ae.length : Int)), (16, I (s2 : Int))] /\ M.iterN (zaS r0) m (s, l) = some bi /\ St w W [cOwn (α := Int) 3 ai l, cOwn (α := Raw 0) 28 ac ag, cRo B_l4, cBlk aa (List.flatten [[], encF (α := Int) r0, encF (α := Int) r1]) 182] R) ?_ ?_
  ·exact ⟨_, (s2 : Int), [], (.slice none 0 0), _, upds_of _ _ ⟨rfl, rfl, rfl, rfl, rfl, rfl, trivial⟩, aB, H⟩
  rintro bM σ bN ⟨s, l, ai, ρ, rfl, aP, H⟩
  obtain ⟨bm, bn, bO, hM, aQ⟩ := M.e_iterN aP
  simp only [zaS] at hM
  clear aP
  refine W.seq ?_
  refine W.seq ?_
  refine W.region rfl ?_
  refine zM (I s) rfl ?_
  refine zC s (-1) (s != (-1)) rfl rfl rfl ?_
  refine s_nil ?_
  refine W.cond (s != (-1)) rfl (fun ap => ?_) (fun ap => ?_)
  ·replace hM := M.e_t hM ap
   simp only [qy1, qy2, qy3, qy4, qy5, qy6, ne_eq, qy7] at ap
   refine W.skip ?_
   refine W.seq ?_
   refine W.block ?_
   refine W.region rfl ?_
   refine zM ai rfl ?_
   refine zM (I s) rfl ?_
   refine t_bs (α := Int) T28 [I s] [(s : Int)] H rfl (.cons rfl (Flat.rep_enc _ (s : Int)) <| .nil) rfl rfl rfl ?_
   intro bo bP H
   obtain ⟨bp, hM⟩ := M.e_grd hM
   simp only [Bool.and_eq_true, decide_eq_true_eq] at bp
   refine t_app (α := Int) (k := 1) (l := l) (l2 := [(s : Int)]) (l' := l ++ ([(s : Int)])) (vy := bo) T28 rfl H rfl rfl rfl (H.os 0) (H.ol 0) (rfl) (by first | omega | (simp only [List.length_nil] at *; omega)) ?_
   intro aR bQ H
   replace H := H.nf
   refine zA aR rfl ?_
   refine s_nil ?_
   refine W.region rfl ?_
   refine zM (Pq aa) rfl ?_
   refine zM (I s) rfl ?_
   refine s_val (x_nc (a := ⟨aa, 0, none⟩) rfl) ?_
   refine s_val (x_fa (a := Pq aa) (v := Pq aa) rfl (fa_blk (o := 0) Fd182_0 Sz180)) ?_
   obtain ⟨bq, hM⟩ := M.e_grd hM
   simp only [Bool.and_eq_true, decide_eq_true_eq] at bq
   refine s_val (x_ix (a := Pq aa) (b := I s) (v := .pointer (some ⟨aa, 0 + Int.toNat s * 1, none⟩)) rfl rfl (run_indexS Tryz.underlying180 Sz3 (by omega) (by omega))) ?_
   refine s_val (x_ld (p := .pointer (some ⟨aa, 0 + Int.toNat s * 1, none⟩)) (v := I (r0.getD (Int.toNat s) 0)) rfl (ldS (α := Int) (k := 1) (off := 0) (i := (Int.toNat s)) (f := 0) (sz := 1) 0 Sc3 (H.bl 4) rfl (sgo1 rfl) rfl (by decide) (by have bh := aK; omega) (by omega) rfl)) ?_
   refine zA (I (r0.getD (Int.toNat s) 0)) rfl ?_
   refine s_nil ?_
   exact ⟨bm, bn, r0.getD (Int.toNat s) 0, l ++ ([(s : Int)]), aR, _, upds_of _ _ ⟨rfl, rfl, rfl, rfl, rfl, rfl, trivial⟩, M.e_inl hM aQ, (H.pk [1, 2, 3, 4])⟩
  replace hM := M.e_f hM ap
  simp only [qy1, qy2, qy3, qy4, qy5, qy6, ne_eq, qy7] at ap
  refine W.exit ?_
  have br := M.e_inr hM aQ
  subst br
  replace hM := bj
  try dsimp only at hM
  refine W.region rfl ?_
  refine zM ac rfl ?_
  refine zM ai rfl ?_
  obtain ⟨bR, H⟩ := H.emptyE
  obtain ⟨bS, H, bt⟩ := H.freezeE (k := 1) rfl
  replace H := H.nf
  have aq := bt
  obtain ⟨bu, H, bT, bv⟩ := H.joinE (i := 0) (j := 1) rfl rfl
  replace aq := aq.mono bv
  obtain ⟨aj, aS⟩ : ∃ r : Raw 0, r.cs = [ai] := ⟨Raw.of [ai] rfl (by simp only [List.all_cons, List.all_nil, Bool.true_and, Bool.and_true, Sl.oc aq]; try rfl), rfl⟩
  have bw : RepR (α := List Int) bu.cells [aj] [l] := .cons (by rw [aS]; exact ⟨_, rfl, aq⟩) <| .nil
  refine t_bs (α := Raw 0) T38 [ai] [aj] H rfl (.cons (by rw [show (Flat.enc aj : List Value) = aj.cs from rfl, aS]; exact Sl.cells aq) (Flat.rep_enc _ _) <| .nil) rfl rfl rfl ?_
  intro bx bU H
  replace H := H.nf
  obtain ⟨bz, hM⟩ := M.e_grd hM
  simp only [Bool.and_eq_true, decide_eq_true_eq] at bz
  have au := bw
  obtain ⟨bA, H, bB, bC⟩ := H.joinE (i := 5) (j := 1) rfl rfl
  replace ak := ak.mono bB
  replace au := au.mono bC
  have bD := ak.app au
  refine t_app (α := Raw 0) (k := 5) (l := ag) (l2 := [aj]) (l' := ag ++ ([aj])) (vy := bx) T38 rfl H rfl rfl rfl (H.os 1) (H.ol 1) (rfl) (by have a_ := ak.len; have b_ := au.len; (try simp only [List.length_nil] at *); first | omega | (rw [a_, b_]; omega)) ?_
  intro aT bV H
  replace H := H.nf
  refine zA aT rfl ?_
  refine s_nil ?_
  replace H := H.pk [0, 5, 6, 7]
  refine W.region rfl ?_
  refine zR (s2 : Int) 1 ((s2 : Int) + 1) rfl rfl rfl (by omega) ?_
  refine zM (I ((s2 : Int) + 1)) rfl ?_
  refine s_nil ?_
  exact ⟨aN, aO, s2 + 1, l4 ++ ([l]), aT, ag ++ ([aj]), bA, _, upds_of _ _ ⟨rfl, rfl, rfl, rfl, trivial⟩, M.e_inl hM aA, (H.pk [1, 0, 3]), bD⟩
 replace hM := M.e_f hM am
 simp only [qy1, qy2, qy3, qy4, qy5, qy6, ne_eq, qy7] at am
 refine W.exit ?_
 have bE := M.e_inr hM aA
 subst bE
 replace hM := bc
 try dsimp only at hM
 refine W.seq ?_
 refine W.region rfl ?_
 refine zM ac rfl ?_
 refine zA ac rfl ?_
 refine s_nil ?_
 refine W.ret ?_
 have bF := M.e_pure hM
 exact ⟨_, resE_tmp rfl, ⟨l4, ac, ag, B_l4, bF, rfl, (H.pk [0, 1]), ak⟩⟩

def zaK (s_Sections : List Sect) (s_Marks : List Mrk) (s_Reaches : List Rch) (r2 : List (List Int)) (l6 : List Int) (s3 : Nat) : Nat -> M (Nat ⊕ (Unit ⊕ Unit)) := fun s2 =>
  bif decide ((s2 : Int) < (r2.length : Int)) then (
  M.grd (decide ((s2 : Int) < (r2.length : Int))) <|
  M.grd ((!((s3 : Int) != (s2 : Int)) || (decide ((s3 : Int) < (l6.length : Int))))) <|
  M.grd ((!(((s3 : Int) != (s2 : Int)) && (decide ((l6.getD s3 0) < ((r2.getD s3 ([])).length : Int)))) || (decide ((s2 : Int) < (l6.length : Int))))) <|
  M.grd ((!((((s3 : Int) != (s2 : Int)) && (decide ((l6.getD s3 0) < ((r2.getD s3 ([])).length : Int)))) && (decide ((l6.getD s2 0) < ((r2.getD s2 ([])).length : Int)))) || (decide ((s3 : Int) < (l6.length : Int))))) <|
  M.grd ((!((((s3 : Int) != (s2 : Int)) && (decide ((l6.getD s3 0) < ((r2.getD s3 ([])).length : Int)))) && (decide ((l6.getD s2 0) < ((r2.getD s2 ([])).length : Int)))) || (decide ((0 : Int) <= (l6.getD s3 0)) && decide ((l6.getD s3 0) < ((r2.getD s3 ([])).length : Int))))) <|
  M.grd ((!((((s3 : Int) != (s2 : Int)) && (decide ((l6.getD s3 0) < ((r2.getD s3 ([])).length : Int)))) && (decide ((l6.getD s2 0) < ((r2.getD s2 ([])).length : Int)))) || (decide ((s2 : Int) < (l6.length : Int))))) <|
  M.grd ((!((((s3 : Int) != (s2 : Int)) && (decide ((l6.getD s3 0) < ((r2.getD s3 ([])).length : Int)))) && (decide ((l6.getD s2 0) < ((r2.getD s2 ([])).length : Int)))) || (decide ((0 : Int) <= (l6.getD s2 0)) && decide ((l6.getD s2 0) < ((r2.getD s2 ([])).length : Int))))) <|
  M.bind (M.opt ((((s3 : Int) != (s2 : Int)) && (decide ((l6.getD s3 0) < ((r2.getD s3 ([])).length : Int)))) && (decide ((l6.getD s2 0) < ((r2.getD s2 ([])).length : Int)))) (zaf s_Sections s_Marks s_Reaches ((r2.getD s3 ([])).getD (Int.toNat (l6.getD s3 0)) 0) ((r2.getD s2 ([])).getD (Int.toNat (l6.getD s2 0)) 0)) false) fun r3 =>
  bif (((((s3 : Int) != (s2 : Int)) && (decide ((l6.getD s3 0) < ((r2.getD s3 ([])).length : Int)))) && (decide ((l6.getD s2 0) < ((r2.getD s2 ([])).length : Int)))) && r3) then (
  M.grd (decide ((s3 : Int) < (l6.length : Int))) <|
  M.grd (decide ((-9223372036854775808 : Int) <= ((l6.getD s3 0) + 1)) && decide (((l6.getD s3 0) + 1) <= (9223372036854775807 : Int))) <|
  M.pure (.inr (.inl ())))
  else (
  M.pure (.inl (s2 + 1))))
  else (
  M.pure (.inr (.inr ())))
def zaI (s_Sections : List Sect) (s_Marks : List Mrk) (s_Reaches : List Rch) (r2 : List (List Int)) (l6 : List Int) : Nat -> M (Nat ⊕ (((List Int) × (List Int)) ⊕ Unit)) := fun s3 =>
  bif decide ((s3 : Int) < (r2.length : Int)) then (
  M.grd (decide ((s3 : Int) < (r2.length : Int))) <|
  M.bind (M.iter (zaK s_Sections s_Marks s_Reaches r2 l6 s3) 0) fun x_ => match x_ with
  | (.inl (_ : Unit)) => (
  M.pure (.inr (.inl (l6.set s3 ((l6.getD s3 0) + 1 : Int), l6.set s3 ((l6.getD s3 0) + 1 : Int)))))
  | (.inr (_ : Unit)) => (
  M.pure (.inl (s3 + 1))))
  else (
  M.pure (.inr (.inr ())))
def zaC (r2 : List (List Int)) (l6 : List Int) : (Nat × (List Int)) -> M ((Nat × (List Int)) ⊕ ((List Int) × (List Int))) := fun (s4, l3) =>
  bif decide ((s4 : Int) < (r2.length : Int)) then (
  M.grd (decide ((s4 : Int) < (r2.length : Int))) <|
  M.grd (decide ((s4 : Int) < (l6.length : Int))) <|
  bif decide ((l6.getD s4 0) < ((r2.getD s4 ([])).length : Int)) then (
  M.grd (decide ((0 : Int) <= (l6.getD s4 0)) && decide ((l6.getD s4 0) < ((r2.getD s4 ([])).length : Int))) <|
  M.grd (decide ((l3.length + ([((r2.getD s4 ([])).getD (Int.toNat (l6.getD s4 0)) 0 : Int)]).length) * 8 <= 140737488355328)) <|
  M.pure (.inl (s4 + 1, l3 ++ ([((r2.getD s4 ([])).getD (Int.toNat (l6.getD s4 0)) 0 : Int)]))))
  else (
  M.pure (.inl (s4 + 1, l3))))
  else (
  M.pure (.inr (l3, l3)))
def zbt (s_Sections : List Sect) (s_Marks : List Mrk) (s_Reaches : List Rch) (r2 : List (List Int)) : (List Int) -> M ((List Int) ⊕ ((List Int) × (List Int))) := fun l6 =>
  M.bind (M.iter (zaI s_Sections s_Marks s_Reaches r2 l6) 0) fun x_ => match x_ with
  | (.inl (l, l2)) => (
  M.pure (.inl l2))
  | (.inr (_ : Unit)) => (
  M.bind (M.iter (zaC r2 l6) (0, [])) fun (l4, l5) =>
  M.grd (decide (l5.length <= 1000000)) <|
  M.pure (.inr (isort l5, l6)))
def zaH (s_Sections : List Sect) (s_Marks : List Mrk) (s_Reaches : List Rch) : M ((List Int) × Int) :=
  M.bind (zal s_Sections s_Marks s_Reaches) fun x_ => match x_ with
  | (.inl r1) => (
  bif r1 != 0 then (
  M.pure (([]), r1))
  else (
  M.fail))
  | (.inr aa) => (
  bif aa != 0 then (
  M.fail)
  else (
  M.bind (zar s_Sections s_Marks s_Reaches) fun r2 =>
  M.grd (decide ((0 : Int) <= (r2.length : Int)) && decide ((8 : Int) * (r2.length : Int) <= 281474976710656) && decide ((r2.length : Int) <= (9223372036854775807 : Int))) <|
  M.bind (M.iter (zbt s_Sections s_Marks s_Reaches r2) (List.replicate (r2.length) (0 : Int))) fun (l7, l8) =>
  M.pure (l7, 0)))
theorem zb2 {R : List Chunk} {bi : Cells} {aj : Value} {bj : Cells} {ak : Value} {bm : Cells} {am : Value} (s_Sections : List Sect) (s_Marks : List Mrk) (s_Reaches : List Rch) (aU : Reads R bi) (aV : Sl bi aj s_Sections) (aW : Reads R bj) (aX : Sl bj ak s_Marks) (aY : Reads R bm) (aZ : Sl bm am s_Reaches) {r : ((List Int) × Int)} (hM : (zaH s_Sections s_Marks s_Reaches).Ends r) (w : World) (H : St w w [] R) : Ret Tryz.prog 10 #[.agg #[aj, ak, am]] w fun v w' => ∃ (y0 : List Int) (y1 : Int) (u0 : Value), (y0, y1) = r /\ v = .tuple #[u0, I y1] /\ St w w' [cOwn (α := Int) 3 u0 y0] R := by
 refine ret_of_W Tryz.func10 rfl rfl rfl ?_
 refine W.seq ?_
 refine W.region rfl ?_
 refine t_box (v := .agg #[aj, ak, am]) (cs := [aj, ak, am]) H rfl rfl ?_
 intro aC cp H
 refine zA (.slice none 0 0) rfl ?_
 refine zA (I 0) rfl ?_
 refine s_nil ?_
 refine W.jumpS 0 rfl ?_
 refine W.seq ?_
 refine W.region rfl ?_
 refine s_val (x_ld (p := Pq aC) (v := .agg #[aj, ak, am]) rfl (ldb_ag (ds := [aj, ak, am]) Ag27 Sz27 (H.bl 0) rfl rfl)) ?_
 obtain ⟨cq, bD, hM⟩ := M.e_bind hM
 refine s_call cf49 [.agg #[aj, ak, am]] rfl (zax s_Sections s_Marks s_Reaches (aU.app _) aV (aW.app _) aX (aY.app _) aZ bD _ (H.gt 1)) ?_
 rintro vq cr (⟨r1, bE, hvq, aD⟩ | ⟨aB, ao, av, bF, hvq, aD⟩)
 ·subst bE
  subst vq
  try dsimp only at hM
  replace H := H.bk aD
  clear aD
  refine zM (.tuple #[.pointer none, I r1]) rfl ?_
  refine zX [.pointer none, I r1] (.pointer none) rfl rfl ?_
  refine zX [.pointer none, I r1] (I r1) rfl rfl ?_
  refine zA (.pointer none) rfl ?_
  refine zA (I r1) rfl ?_
  refine s_nil ?_
  refine W.seq ?_
  refine W.seq ?_
  refine W.region rfl ?_
  refine zM (I r1) rfl ?_
  refine zC r1 0 (r1 != 0) rfl rfl rfl ?_
  refine s_nil ?_
  refine W.cond (r1 != 0) rfl (fun aS => ?_) (fun aS => ?_)
  ·replace hM := M.e_t hM aS
   simp only [qy1, qy2, qy3, qy4, qy5, qy6, ne_eq, qy7] at aS
   refine W.seq ?_
   refine W.region rfl ?_
   refine zM (I r1) rfl ?_
   refine zA (.slice none 0 0) rfl ?_
   refine zA (I r1) rfl ?_
   refine s_nil ?_
   refine W.ret ?_
   have aN := M.e_pure hM
   replace H := H.nilOwn (α := Int) 3
   exact ⟨_, resE_tmp2 rfl, ⟨([]), r1, (.slice none 0 0), aN, rfl, (H.pk [0])⟩⟩
  replace hM := M.e_f hM aS
  exact (M.e_fail hM).elim
 subst bF
 subst vq
 try dsimp only at hM
 replace H := H.bk aD
 clear aD
 refine zM (.tuple #[Pq ao, I aB]) rfl ?_
 refine zX [Pq ao, I aB] (Pq ao) rfl rfl ?_
 refine zX [Pq ao, I aB] (I aB) rfl rfl ?_
 refine zA (Pq ao) rfl ?_
 refine zA (I aB) rfl ?_
 refine s_nil ?_
 refine W.seq ?_
 refine W.seq ?_
 refine W.region rfl ?_
 refine zM (I aB) rfl ?_
 refine zC aB 0 (aB != 0) rfl rfl rfl ?_
 refine s_nil ?_
 refine W.cond (aB != 0) rfl (fun aT => ?_) (fun aT => ?_)
 ·replace hM := M.e_t hM aT
  exact (M.e_fail hM).elim
 replace hM := M.e_f hM aT
 simp only [qy1, qy2, qy3, qy4, qy5, qy6, ne_eq, qy7] at aT
 refine W.skip ?_
 refine W.seq ?_
 refine W.region rfl ?_
 refine zM (Pq ao) rfl ?_
 obtain ⟨ct, bG, hM⟩ := M.e_bind hM
 refine s_call cf50 [Pq ao] rfl (zcj s_Sections s_Marks s_Reaches (aU.app _) aV (aW.app _) aX (aY.app _) aZ (Has.here (k := 0) rfl) bG _ (H.gt 3)) ?_
 rintro vq cu ⟨r2, ai, aF, aG, bH, hvq, aD, aw⟩
 subst bH
 subst vq
 try dsimp only at hM
 replace H := H.bk aD
 clear aD
 refine zA ai rfl ?_
 refine s_nil ?_
 refine W.seq ?_
 refine W.region rfl ?_
 refine zM ai rfl ?_
 have cv := ((rowSl rfl (H.get (k := 0) rfl) (roLe _ (H.get (k := 1) rfl)) aw)).len_le
 refine s_val (x_lenS T38.und rfl (rowSl rfl (H.get (k := 0) rfl) (roLe _ (H.get (k := 1) rfl)) aw)) ?_
 obtain ⟨bI, hM⟩ := M.e_grd hM
 simp only [Bool.and_eq_true, decide_eq_true_eq] at bI
 refine t_mk (α := Int) T28 (0 : Int) rfl (n := (r2.length : Int)) H rfl rfl (by omega) (by omega) (by omega) ?_
 intro bn cw H
 replace H := H.nf
 refine zA bn rfl ?_
 refine s_nil ?_
 obtain ⟨bJ, a6, bK⟩ := M.e_bind hM
 obtain ⟨a7, a6⟩ := M.e_iter a6
 refine W.jumpL (fun m σ W => ∃ (l6 : List Int) (ab : Value) (ρ : Env), σ = upds ρ [(4, Pq ao), (6, ai), (7, ab)] /\ M.iterN (zbt s_Sections s_Marks s_Reaches r2) m l6 = some bJ /\ St w W [cOwn (α := Int) 3 ab l6, cOwn (α := Raw 0) 28 ai aF, cRo aG, cBlk ao [aj, ak, am, .map (some av)] 177, cMemI encSpt av (zaa s_Sections s_Marks s_Reaches), cBlk aC [aj, ak, am] 27] R) ?_ ?_
 ·exact ⟨_, List.replicate (r2.length) (0 : Int), bn, _, upds_of _ _ ⟨rfl, rfl, rfl, trivial⟩, a6, H⟩
 rintro cx σ cy ⟨l6, ab, ρ, rfl, bo, H⟩
 obtain ⟨bL, bM, cz, hM, bp⟩ := M.e_iterN bo
 simp only [zbt] at hM
 clear bo
 refine W.seq ?_
 refine W.seq ?_
 refine W.region rfl ?_
 refine zM ai rfl ?_
 have cA := ((rowSl rfl (H.get (k := 1) rfl) (roLe _ (H.get (k := 2) rfl)) aw)).len_le
 refine s_val (x_lenS T38.und rfl (rowSl rfl (H.get (k := 1) rfl) (roLe _ (H.get (k := 2) rfl)) aw)) ?_
 refine zM (I 0) rfl ?_
 refine s_nil ?_
 refine W.block ?_
 obtain ⟨bN, a8, bq⟩ := M.e_bind hM
 obtain ⟨a7, a8⟩ := M.e_iter a8
 refine W.loop (fun m σ W => ∃ (s3 : Nat) (ρ : Env), σ = upds ρ [(4, Pq ao), (6, ai), (7, ab), (28, ai), (29, I (r2.length : Int)), (30, I (s3 : Int))] /\ M.iterN (zaI s_Sections s_Marks s_Reaches r2 l6) m s3 = some bN /\ St w W [cOwn (α := Int) 3 ab l6, cOwn (α := Raw 0) 28 ai aF, cRo aG, cBlk ao [aj, ak, am, .map (some av)] 177, cMemI encSpt av (zaa s_Sections s_Marks s_Reaches), cBlk aC [aj, ak, am] 27] R) ?_ ?_
 ·exact ⟨_, 0, _, upds_of _ _ ⟨rfl, rfl, rfl, rfl, rfl, rfl, trivial⟩, a8, H⟩
 rintro cB σ cC ⟨s3, ρ, rfl, br, H⟩
 obtain ⟨bO, bP, cD, hM, ba⟩ := M.e_iterN br
 simp only [zaI] at hM
 clear br
 refine W.seq ?_
 refine W.region rfl ?_
 refine zC (s3 : Int) (r2.length : Int) (decide ((s3 : Int) < (r2.length : Int))) rfl rfl rfl ?_
 refine s_nil ?_
 refine W.seq ?_
 refine W.cond (decide ((s3 : Int) < (r2.length : Int))) rfl (fun aO => ?_) (fun aO => ?_)
 ·replace hM := M.e_t hM aO
  simp only [qy1, qy2, qy3, qy4, qy5, qy6, ne_eq, qy7] at aO
  refine W.skip ?_
  refine W.seq ?_
  refine W.block ?_
  refine W.seq ?_
  refine W.region rfl ?_
  refine zM (I (s3 : Int)) rfl ?_
  obtain ⟨bQ, hM⟩ := M.e_grd hM
  simp only [Bool.and_eq_true, decide_eq_true_eq] at bQ
  refine s_val (x_ix (a := ai) (b := I (s3 : Int)) (v := vat ai 1 (Int.toNat (s3 : Int))) rfl rfl (Sl.ix (α := List Int) T38.und T38.size (rowSl rfl (H.get (k := 1) rfl) (roLe _ (H.get (k := 2) rfl)) aw) (by omega) (by omega))) ?_
  obtain ⟨ax, bR, aL⟩ := List_at (rowSl rfl (H.get (k := 1) rfl) (roLe _ (H.get (k := 2) rfl)) aw) (i := (s3 : Int)) (by omega) (by omega)
  replace aL : Sl _ ax (r2.getD s3 ([])) := aL
  have cE := aL.len_le
  refine s_val (x_ld (p := vat ai 1 (Int.toNat (s3 : Int))) (v := ax) rfl (ld_sc Sc28 (At.mono (bR) (Cells.sup_le (H.ol 1) (roLe _ (H.get (k := 2) rfl)))))) ?_
  refine zA (I (s3 : Int)) rfl ?_
  refine zA ax rfl ?_
  refine s_nil ?_
  refine W.seq ?_
  refine W.region rfl ?_
  refine zM ai rfl ?_
  have cF := ((rowSl rfl (H.get (k := 1) rfl) (roLe _ (H.get (k := 2) rfl)) aw)).len_le
  refine s_val (x_lenS T38.und rfl (rowSl rfl (H.get (k := 1) rfl) (roLe _ (H.get (k := 2) rfl)) aw)) ?_
  refine zM (I 0) rfl ?_
  refine s_nil ?_
  refine W.block ?_
  obtain ⟨bS, bb, bt⟩ := M.e_bind hM
  obtain ⟨a7, bb⟩ := M.e_iter bb
  refine W.loop (fun m σ W => ∃ (s2 : Nat) (ρ : Env), σ = upds ρ [(4, Pq ao), (6, ai), (7, ab), (8, I (s3 : Int)), (9, ax), (28, ai), (29, I (r2.length : Int)), (30, I (s3 : Int)), (35, ai), (36, I (r2.length : Int)), (37, I (s2 : Int))] /\ M.iterN (zaK s_Sections s_Marks s_Reaches r2 l6 s3) m s2 = some bS /\ St w W [cOwn (α := Int) 3 ab l6, cOwn (α := Raw 0) 28 ai aF, cRo aG, cBlk ao [aj, ak, am, .map (some av)] 177, cMemI encSpt av (zaa s_Sections s_Marks s_Reaches), cBlk aC [aj, ak, am] 27] R) ?_ ?_
  ·exact ⟨_, 0, _, upds_of _ _ ⟨rfl, rfl, rfl, rfl, rfl, rfl, rfl, rfl, rfl, rfl, rfl, trivial⟩, bb, H⟩
  rintro cG σ cH ⟨s2, ρ, rfl, bu, H⟩
  obtain ⟨bT, bU, cI, hM, bc⟩ := M.e_iterN bu
  simp only [zaK] at hM
  clear bu
  refine W.seq ?_
  refine W.region rfl ?_
  refine zC (s2 : Int) (r2.length : Int) (decide ((s2 : Int) < (r2.length : Int))) rfl rfl rfl ?_
  refine s_nil ?_
  refine W.seq ?_
  refine W.cond (decide ((s2 : Int) < (r2.length : Int))) rfl (fun aP => ?_) (fun aP => ?_)
  ·replace hM := M.e_t hM aP
   simp only [qy1, qy2, qy3, qy4, qy5, qy6, ne_eq, qy7] at aP
   refine W.skip ?_
   refine W.seq ?_
   refine W.block ?_
   refine W.seq ?_
   refine W.region rfl ?_
   refine zM (I (s2 : Int)) rfl ?_
   obtain ⟨bV, hM⟩ := M.e_grd hM
   simp only [Bool.and_eq_true, decide_eq_true_eq] at bV
   refine s_val (x_ix (a := ai) (b := I (s2 : Int)) (v := vat ai 1 (Int.toNat (s2 : Int))) rfl rfl (Sl.ix (α := List Int) T38.und T38.size (rowSl rfl (H.get (k := 1) rfl) (roLe _ (H.get (k := 2) rfl)) aw) (by omega) (by omega))) ?_
   obtain ⟨ay, bW, aM⟩ := List_at (rowSl rfl (H.get (k := 1) rfl) (roLe _ (H.get (k := 2) rfl)) aw) (i := (s2 : Int)) (by omega) (by omega)
   replace aM : Sl _ ay (r2.getD s2 ([])) := aM
   have cJ := aM.len_le
   refine s_val (x_ld (p := vat ai 1 (Int.toNat (s2 : Int))) (v := ay) rfl (ld_sc Sc28 (At.mono (bW) (Cells.sup_le (H.ol 1) (roLe _ (H.get (k := 2) rfl)))))) ?_
   refine zA (I (s2 : Int)) rfl ?_
   refine zA ay rfl ?_
   refine s_nil ?_
   refine W.seq ?_
   refine W.draw (fun W => St w W [cOwn (α := Int) 3 ab l6, cOwn (α := Raw 0) 28 ai aF, cRo aG, cBlk ao [aj, ak, am, .map (some av)] 177, cMemI encSpt av (zaa s_Sections s_Marks s_Reaches), cBlk aC [aj, ak, am] 27] R) [(0, true), (1, true), (2, true), (3, true), (4, true), (5, true), (6, true), (7, true), (8, true), (9, true), (10, true), (11, true), (12, true), (13, true), (14, true), (15, true), (16, true), (17, true), (18, true), (19, true), (20, true), (21, true), (22, true), (23, true), (24, true), (25, true), (26, true), (27, true), (28, true), (29, true), (30, true), (31, true), (32, true), (33, true), (34, true), (35, true), (36, true), (37, false), (38, true)] mixed (by decide +kernel) rfl ?_
   intro cK ac
   replace H := H.ext ac
   clear ac
   refine ⟨(H.pk [0, 1, 2, 3, 4, 5]), ?_⟩
   refine d_q rfl (fun w' H => x_mv (v := I (s3 : Int)) rfl) ?_
   refine d_q rfl (fun w' H => x_mv (v := I (s2 : Int)) rfl) ?_
   refine d_q rfl (fun w' H => x_cmp (kd := .i64) (a := (s3 : Int)) (b := (s2 : Int)) (r := (s3 : Int) != (s2 : Int)) rfl rfl rfl) ?_
   refine d_q rfl (fun w' H => x_mv (v := B ((s3 : Int) != (s2 : Int))) rfl) ?_
   refine d_qg ((s3 : Int) != (s2 : Int)) rfl (gy_t rfl) (fun hg => (fun w' H => x_mv (v := ab) rfl)) ?_
   refine d_qg ((s3 : Int) != (s2 : Int)) rfl (gy_t rfl) (fun hg => (fun w' H => x_mv (v := I (s3 : Int)) rfl)) ?_
   obtain ⟨aH, hM⟩ := M.e_grd hM
   replace aH := M.imp_of aH
   simp only [Bool.and_eq_true, decide_eq_true_eq] at aH
   refine d_qg ((s3 : Int) != (s2 : Int)) rfl (gy_t rfl) (fun hg => (fun w' H => x_ix (a := ab) (b := I (s3 : Int)) (v := vat ab 1 (Int.toNat (s3 : Int))) (gd_of (c := (s3 : Int) != (s2 : Int)) hg (ab)) (gd_of (c := (s3 : Int) != (s2 : Int)) hg (I (s3 : Int))) (Sl.ix (α := Int) T28.und T28.size (H.os 0) (by have aa := aH.resolve_left (by rw [hg]; decide); first | exact aa | exact aa.1 | exact aa.2 | omega | (have ac := hg; simp at ac; omega)) (by have aa := aH.resolve_left (by rw [hg]; decide); first | exact aa | exact aa.1 | exact aa.2 | omega | (have ac := hg; simp at ac; omega))))) ?_
   refine d_qg ((s3 : Int) != (s2 : Int)) rfl (gy_t rfl) (fun hg => (fun w' H => x_ld (p := vat ab 1 (Int.toNat (s3 : Int))) (v := I (l6.getD s3 0)) (gd_of (c := (s3 : Int) != (s2 : Int)) hg (vat ab 1 (Int.toNat (s3 : Int)))) (ld_sc Sc3 (At.mono (Int_at (H.os 0) (i := (s3 : Int)) (by have aa := aH.resolve_left (by rw [hg]; decide); first | exact aa | exact aa.1 | exact aa.2 | omega | (have ac := hg; simp at ac; omega)) (by have aa := aH.resolve_left (by rw [hg]; decide); first | exact aa | exact aa.1 | exact aa.2 | omega | (have ac := hg; simp at ac; omega))) (H.ol 0))))) ?_
   refine d_qg ((s3 : Int) != (s2 : Int)) rfl (gy_t rfl) (fun hg => (fun w' H => x_mv (v := ax) rfl)) ?_
   refine d_qg ((s3 : Int) != (s2 : Int)) rfl (gy_t rfl) (fun hg => (fun w' H => x_lenS T28.und (gd_of (c := (s3 : Int) != (s2 : Int)) hg (ax)) aL)) ?_
   refine d_qg ((s3 : Int) != (s2 : Int)) rfl (gy_t rfl) (fun hg => (fun w' H => x_cmp (kd := .i64) (a := l6.getD s3 0) (b := ((r2.getD s3 ([])).length : Int)) (r := decide ((l6.getD s3 0) < ((r2.getD s3 ([])).length : Int))) (gd_of (c := (s3 : Int) != (s2 : Int)) hg (I (l6.getD s3 0))) (gd_of (c := (s3 : Int) != (s2 : Int)) hg (I ((r2.getD s3 ([])).length : Int))) rfl)) ?_
   refine d_q rfl (fun w' H => x_pand (b := (s3 : Int) != (s2 : Int)) (r := decide ((l6.getD s3 0) < ((r2.getD s3 ([])).length : Int))) rfl (fun hb => gd_of (c := (s3 : Int) != (s2 : Int)) (by first | exact hb | (rw [hb]; rfl) | simp_all) (B (decide ((l6.getD s3 0) < ((r2.getD s3 ([])).length : Int))))) rfl) ?_
   refine d_q rfl (fun w' H => x_mv (v := B (((s3 : Int) != (s2 : Int)) && (decide ((l6.getD s3 0) < ((r2.getD s3 ([])).length : Int))))) rfl) ?_
   refine d_qg (((s3 : Int) != (s2 : Int)) && (decide ((l6.getD s3 0) < ((r2.getD s3 ([])).length : Int)))) rfl (gy_t rfl) (fun hg => (fun w' H => x_mv (v := ab) rfl)) ?_
   refine d_qg (((s3 : Int) != (s2 : Int)) && (decide ((l6.getD s3 0) < ((r2.getD s3 ([])).length : Int)))) rfl (gy_t rfl) (fun hg => (fun w' H => x_mv (v := I (s2 : Int)) rfl)) ?_
   obtain ⟨aI, hM⟩ := M.e_grd hM
   replace aI := M.imp_of aI
   simp only [Bool.and_eq_true, decide_eq_true_eq] at aI
   refine d_qg (((s3 : Int) != (s2 : Int)) && (decide ((l6.getD s3 0) < ((r2.getD s3 ([])).length : Int)))) rfl (gy_t rfl) (fun hg => (fun w' H => x_ix (a := ab) (b := I (s2 : Int)) (v := vat ab 1 (Int.toNat (s2 : Int))) (gd_of (c := (((s3 : Int) != (s2 : Int)) && (decide ((l6.getD s3 0) < ((r2.getD s3 ([])).length : Int))))) hg (ab)) (gd_of (c := (((s3 : Int) != (s2 : Int)) && (decide ((l6.getD s3 0) < ((r2.getD s3 ([])).length : Int))))) hg (I (s2 : Int))) (Sl.ix (α := Int) T28.und T28.size (H.os 0) (by have aa := aI.resolve_left (by rw [hg]; decide); first | exact aa | exact aa.1 | exact aa.2 | omega | (have ac := hg; simp at ac; omega)) (by have aa := aI.resolve_left (by rw [hg]; decide); first | exact aa | exact aa.1 | exact aa.2 | omega | (have ac := hg; simp at ac; omega))))) ?_
   refine d_qg (((s3 : Int) != (s2 : Int)) && (decide ((l6.getD s3 0) < ((r2.getD s3 ([])).length : Int)))) rfl (gy_t rfl) (fun hg => (fun w' H => x_ld (p := vat ab 1 (Int.toNat (s2 : Int))) (v := I (l6.getD s2 0)) (gd_of (c := (((s3 : Int) != (s2 : Int)) && (decide ((l6.getD s3 0) < ((r2.getD s3 ([])).length : Int))))) hg (vat ab 1 (Int.toNat (s2 : Int)))) (ld_sc Sc3 (At.mono (Int_at (H.os 0) (i := (s2 : Int)) (by have aa := aI.resolve_left (by rw [hg]; decide); first | exact aa | exact aa.1 | exact aa.2 | omega | (have ac := hg; simp at ac; omega)) (by have aa := aI.resolve_left (by rw [hg]; decide); first | exact aa | exact aa.1 | exact aa.2 | omega | (have ac := hg; simp at ac; omega))) (H.ol 0))))) ?_
   refine d_qg (((s3 : Int) != (s2 : Int)) && (decide ((l6.getD s3 0) < ((r2.getD s3 ([])).length : Int)))) rfl (gy_t rfl) (fun hg => (fun w' H => x_mv (v := ay) rfl)) ?_
   refine d_qg (((s3 : Int) != (s2 : Int)) && (decide ((l6.getD s3 0) < ((r2.getD s3 ([])).length : Int)))) rfl (gy_t rfl) (fun hg => (fun w' H => x_lenS T28.und (gd_of (c := (((s3 : Int) != (s2 : Int)) && (decide ((l6.getD s3 0) < ((r2.getD s3 ([])).length : Int))))) hg (ay)) aM)) ?_
   refine d_qg (((s3 : Int) != (s2 : Int)) && (decide ((l6.getD s3 0) < ((r2.getD s3 ([])).length : Int)))) rfl (gy_t rfl) (fun hg => (fun w' H => x_cmp (kd := .i64) (a := l6.getD s2 0) (b := ((r2.getD s2 ([])).length : Int)) (r := decide ((l6.getD s2 0) < ((r2.getD s2 ([])).length : Int))) (gd_of (c := (((s3 : Int) != (s2 : Int)) && (decide ((l6.getD s3 0) < ((r2.getD s3 ([])).length : Int))))) hg (I (l6.getD s2 0))) (gd_of (c := (((s3 : Int) != (s2 : Int)) && (decide ((l6.getD s3 0) < ((r2.getD s3 ([])).length : Int))))) hg (I ((r2.getD s2 ([])).length : Int))) rfl)) ?_
   refine d_q rfl (fun w' H => x_pand (b := (((s3 : Int) != (s2 : Int)) && (decide ((l6.getD s3 0) < ((r2.getD s3 ([])).length : Int))))) (r := decide ((l6.getD s2 0) < ((r2.getD s2 ([])).length : Int))) rfl (fun hb => gd_of (c := (((s3 : Int) != (s2 : Int)) && (decide ((l6.getD s3 0) < ((r2.getD s3 ([])).length : Int))))) (by first | exact hb | (rw [hb]; rfl) | simp_all) (B (decide ((l6.getD s2 0) < ((r2.getD s2 ([])).length : Int))))) rfl) ?_
   refine d_q rfl (fun w' H => x_mv (v := B ((((s3 : Int) != (s2 : Int)) && (decide ((l6.getD s3 0) < ((r2.getD s3 ([])).length : Int)))) && (decide ((l6.getD s2 0) < ((r2.getD s2 ([])).length : Int))))) rfl) ?_
   refine d_qg ((((s3 : Int) != (s2 : Int)) && (decide ((l6.getD s3 0) < ((r2.getD s3 ([])).length : Int)))) && (decide ((l6.getD s2 0) < ((r2.getD s2 ([])).length : Int)))) rfl (gy_t rfl) (fun hg => (fun w' H => x_mv (v := Pq ao) rfl)) ?_
   refine d_qg ((((s3 : Int) != (s2 : Int)) && (decide ((l6.getD s3 0) < ((r2.getD s3 ([])).length : Int)))) && (decide ((l6.getD s2 0) < ((r2.getD s2 ([])).length : Int)))) rfl (gy_t rfl) (fun hg => (fun w' H => x_mv (v := ax) rfl)) ?_
   refine d_qg ((((s3 : Int) != (s2 : Int)) && (decide ((l6.getD s3 0) < ((r2.getD s3 ([])).length : Int)))) && (decide ((l6.getD s2 0) < ((r2.getD s2 ([])).length : Int)))) rfl (gy_t rfl) (fun hg => (fun w' H => x_mv (v := ab) rfl)) ?_
   refine d_qg ((((s3 : Int) != (s2 : Int)) && (decide ((l6.getD s3 0) < ((r2.getD s3 ([])).length : Int)))) && (decide ((l6.getD s2 0) < ((r2.getD s2 ([])).length : Int)))) rfl (gy_t rfl) (fun hg => (fun w' H => x_mv (v := I (s3 : Int)) rfl)) ?_
   obtain ⟨ap, hM⟩ := M.e_grd hM
   replace ap := M.imp_of ap
   simp only [Bool.and_eq_true, decide_eq_true_eq] at ap
   refine d_qg ((((s3 : Int) != (s2 : Int)) && (decide ((l6.getD s3 0) < ((r2.getD s3 ([])).length : Int)))) && (decide ((l6.getD s2 0) < ((r2.getD s2 ([])).length : Int)))) rfl (gy_t rfl) (fun hg => (fun w' H => x_ix (a := ab) (b := I (s3 : Int)) (v := vat ab 1 (Int.toNat (s3 : Int))) (gd_of (c := ((((s3 : Int) != (s2 : Int)) && (decide ((l6.getD s3 0) < ((r2.getD s3 ([])).length : Int)))) && (decide ((l6.getD s2 0) < ((r2.getD s2 ([])).length : Int))))) hg (ab)) (gd_of (c := ((((s3 : Int) != (s2 : Int)) && (decide ((l6.getD s3 0) < ((r2.getD s3 ([])).length : Int)))) && (decide ((l6.getD s2 0) < ((r2.getD s2 ([])).length : Int))))) hg (I (s3 : Int))) (Sl.ix (α := Int) T28.und T28.size (H.os 0) (by have aa := ap.resolve_left (by rw [hg]; decide); first | exact aa | exact aa.1 | exact aa.2 | omega | (have ac := hg; simp at ac; omega)) (by have aa := ap.resolve_left (by rw [hg]; decide); first | exact aa | exact aa.1 | exact aa.2 | omega | (have ac := hg; simp at ac; omega))))) ?_
   refine d_qg ((((s3 : Int) != (s2 : Int)) && (decide ((l6.getD s3 0) < ((r2.getD s3 ([])).length : Int)))) && (decide ((l6.getD s2 0) < ((r2.getD s2 ([])).length : Int)))) rfl (gy_t rfl) (fun hg => (fun w' H => x_ld (p := vat ab 1 (Int.toNat (s3 : Int))) (v := I (l6.getD s3 0)) (gd_of (c := ((((s3 : Int) != (s2 : Int)) && (decide ((l6.getD s3 0) < ((r2.getD s3 ([])).length : Int)))) && (decide ((l6.getD s2 0) < ((r2.getD s2 ([])).length : Int))))) hg (vat ab 1 (Int.toNat (s3 : Int)))) (ld_sc Sc3 (At.mono (Int_at (H.os 0) (i := (s3 : Int)) (by have aa := ap.resolve_left (by rw [hg]; decide); first | exact aa | exact aa.1 | exact aa.2 | omega | (have ac := hg; simp at ac; omega)) (by have aa := ap.resolve_left (by rw [hg]; decide); first | exact aa | exact aa.1 | exact aa.2 | omega | (have ac := hg; simp at ac; omega))) (H.ol 0))))) ?_
   obtain ⟨aq, hM⟩ := M.e_grd hM
   replace aq := M.imp_of aq
   simp only [Bool.and_eq_true, decide_eq_true_eq] at aq
   refine d_qg ((((s3 : Int) != (s2 : Int)) && (decide ((l6.getD s3 0) < ((r2.getD s3 ([])).length : Int)))) && (decide ((l6.getD s2 0) < ((r2.getD s2 ([])).length : Int)))) rfl (gy_t rfl) (fun hg => (fun w' H => x_ix (a := ax) (b := I (l6.getD s3 0)) (v := vat ax 1 (Int.toNat (l6.getD s3 0))) (gd_of (c := ((((s3 : Int) != (s2 : Int)) && (decide ((l6.getD s3 0) < ((r2.getD s3 ([])).length : Int)))) && (decide ((l6.getD s2 0) < ((r2.getD s2 ([])).length : Int))))) hg (ax)) (gd_of (c := ((((s3 : Int) != (s2 : Int)) && (decide ((l6.getD s3 0) < ((r2.getD s3 ([])).length : Int)))) && (decide ((l6.getD s2 0) < ((r2.getD s2 ([])).length : Int))))) hg (I (l6.getD s3 0))) (Sl.ix (α := Int) T28.und T28.size aL (by have aa := ap.resolve_left (by rw [hg]; decide); have ae := aq.resolve_left (by rw [hg]; decide); first | exact aa | exact aa.1 | exact aa.2 | exact ae | exact ae.1 | exact ae.2 | omega | (have ac := hg; simp at ac; omega)) (by have aa := ap.resolve_left (by rw [hg]; decide); have ae := aq.resolve_left (by rw [hg]; decide); first | exact aa | exact aa.1 | exact aa.2 | exact ae | exact ae.1 | exact ae.2 | omega | (have ac := hg; simp at ac; omega))))) ?_
   refine d_qg ((((s3 : Int) != (s2 : Int)) && (decide ((l6.getD s3 0) < ((r2.getD s3 ([])).length : Int)))) && (decide ((l6.getD s2 0) < ((r2.getD s2 ([])).length : Int)))) rfl (gy_t rfl) (fun hg => (fun w' H => x_ld (p := vat ax 1 (Int.toNat (l6.getD s3 0))) (v := I ((r2.getD s3 ([])).getD (Int.toNat (l6.getD s3 0)) 0)) (gd_of (c := ((((s3 : Int) != (s2 : Int)) && (decide ((l6.getD s3 0) < ((r2.getD s3 ([])).length : Int)))) && (decide ((l6.getD s2 0) < ((r2.getD s2 ([])).length : Int))))) hg (vat ax 1 (Int.toNat (l6.getD s3 0)))) (ld_sc Sc3 (At.mono (Int_at aL (i := l6.getD s3 0) (by have aa := ap.resolve_left (by rw [hg]; decide); have ae := aq.resolve_left (by rw [hg]; decide); first | exact aa | exact aa.1 | exact aa.2 | exact ae | exact ae.1 | exact ae.2 | omega | (have ac := hg; simp at ac; omega)) (by have aa := ap.resolve_left (by rw [hg]; decide); have ae := aq.resolve_left (by rw [hg]; decide); first | exact aa | exact aa.1 | exact aa.2 | exact ae | exact ae.1 | exact ae.2 | omega | (have ac := hg; simp at ac; omega))) (Cells.sup_le (H.ol 1) (roLe _ (H.get (k := 2) rfl))))))) ?_
   refine d_qg ((((s3 : Int) != (s2 : Int)) && (decide ((l6.getD s3 0) < ((r2.getD s3 ([])).length : Int)))) && (decide ((l6.getD s2 0) < ((r2.getD s2 ([])).length : Int)))) rfl (gy_t rfl) (fun hg => (fun w' H => x_mv (v := ay) rfl)) ?_
   refine d_qg ((((s3 : Int) != (s2 : Int)) && (decide ((l6.getD s3 0) < ((r2.getD s3 ([])).length : Int)))) && (decide ((l6.getD s2 0) < ((r2.getD s2 ([])).length : Int)))) rfl (gy_t rfl) (fun hg => (fun w' H => x_mv (v := ab) rfl)) ?_
   refine d_qg ((((s3 : Int) != (s2 : Int)) && (decide ((l6.getD s3 0) < ((r2.getD s3 ([])).length : Int)))) && (decide ((l6.getD s2 0) < ((r2.getD s2 ([])).length : Int)))) rfl (gy_t rfl) (fun hg => (fun w' H => x_mv (v := I (s2 : Int)) rfl)) ?_
   obtain ⟨az, hM⟩ := M.e_grd hM
   replace az := M.imp_of az
   simp only [Bool.and_eq_true, decide_eq_true_eq] at az
   refine d_qg ((((s3 : Int) != (s2 : Int)) && (decide ((l6.getD s3 0) < ((r2.getD s3 ([])).length : Int)))) && (decide ((l6.getD s2 0) < ((r2.getD s2 ([])).length : Int)))) rfl (gy_t rfl) (fun hg => (fun w' H => x_ix (a := ab) (b := I (s2 : Int)) (v := vat ab 1 (Int.toNat (s2 : Int))) (gd_of (c := ((((s3 : Int) != (s2 : Int)) && (decide ((l6.getD s3 0) < ((r2.getD s3 ([])).length : Int)))) && (decide ((l6.getD s2 0) < ((r2.getD s2 ([])).length : Int))))) hg (ab)) (gd_of (c := ((((s3 : Int) != (s2 : Int)) && (decide ((l6.getD s3 0) < ((r2.getD s3 ([])).length : Int)))) && (decide ((l6.getD s2 0) < ((r2.getD s2 ([])).length : Int))))) hg (I (s2 : Int))) (Sl.ix (α := Int) T28.und T28.size (H.os 0) (by have aa := ap.resolve_left (by rw [hg]; decide); have ae := aq.resolve_left (by rw [hg]; decide); have ag := az.resolve_left (by rw [hg]; decide); first | exact aa | exact aa.1 | exact aa.2 | exact ae | exact ae.1 | exact ae.2 | exact ag | exact ag.1 | exact ag.2 | omega | (have ac := hg; simp at ac; omega)) (by have aa := ap.resolve_left (by rw [hg]; decide); have ae := aq.resolve_left (by rw [hg]; decide); have ag := az.resolve_left (by rw [hg]; decide); first | exact aa | exact aa.1 | exact aa.2 | exact ae | exact ae.1 | exact ae.2 | exact ag | exact ag.1 | exact ag.2 | omega | (have ac := hg; simp at ac; omega))))) ?_
   refine d_qg ((((s3 : Int) != (s2 : Int)) && (decide ((l6.getD s3 0) < ((r2.getD s3 ([])).length : Int)))) && (decide ((l6.getD s2 0) < ((r2.getD s2 ([])).length : Int)))) rfl (gy_t rfl) (fun hg => (fun w' H => x_ld (p := vat ab 1 (Int.toNat (s2 : Int))) (v := I (l6.getD s2 0)) (gd_of (c := ((((s3 : Int) != (s2 : Int)) && (decide ((l6.getD s3 0) < ((r2.getD s3 ([])).length : Int)))) && (decide ((l6.getD s2 0) < ((r2.getD s2 ([])).length : Int))))) hg (vat ab 1 (Int.toNat (s2 : Int)))) (ld_sc Sc3 (At.mono (Int_at (H.os 0) (i := (s2 : Int)) (by have aa := ap.resolve_left (by rw [hg]; decide); have ae := aq.resolve_left (by rw [hg]; decide); have ag := az.resolve_left (by rw [hg]; decide); first | exact aa | exact aa.1 | exact aa.2 | exact ae | exact ae.1 | exact ae.2 | exact ag | exact ag.1 | exact ag.2 | omega | (have ac := hg; simp at ac; omega)) (by have aa := ap.resolve_left (by rw [hg]; decide); have ae := aq.resolve_left (by rw [hg]; decide); have ag := az.resolve_left (by rw [hg]; decide); first | exact aa | exact aa.1 | exact aa.2 | exact ae | exact ae.1 | exact ae.2 | exact ag | exact ag.1 | exact ag.2 | omega | (have ac := hg; simp at ac; omega))) (H.ol 0))))) ?_
   obtain ⟨aJ, hM⟩ := M.e_grd hM
   replace aJ := M.imp_of aJ
   simp only [Bool.and_eq_true, decide_eq_true_eq] at aJ
   refine d_qg ((((s3 : Int) != (s2 : Int)) && (decide ((l6.getD s3 0) < ((r2.getD s3 ([])).length : Int)))) && (decide ((l6.getD s2 0) < ((r2.getD s2 ([])).length : Int)))) rfl (gy_t rfl) (fun hg => (fun w' H => x_ix (a := ay) (b := I (l6.getD s2 0)) (v := vat ay 1 (Int.toNat (l6.getD s2 0))) (gd_of (c := ((((s3 : Int) != (s2 : Int)) && (decide ((l6.getD s3 0) < ((r2.getD s3 ([])).length : Int)))) && (decide ((l6.getD s2 0) < ((r2.getD s2 ([])).length : Int))))) hg (ay)) (gd_of (c := ((((s3 : Int) != (s2 : Int)) && (decide ((l6.getD s3 0) < ((r2.getD s3 ([])).length : Int)))) && (decide ((l6.getD s2 0) < ((r2.getD s2 ([])).length : Int))))) hg (I (l6.getD s2 0))) (Sl.ix (α := Int) T28.und T28.size aM (by have aa := ap.resolve_left (by rw [hg]; decide); have ae := aq.resolve_left (by rw [hg]; decide); have ag := az.resolve_left (by rw [hg]; decide); have au := aJ.resolve_left (by rw [hg]; decide); first | exact aa | exact aa.1 | exact aa.2 | exact ae | exact ae.1 | exact ae.2 | exact ag | exact ag.1 | exact ag.2 | exact au | exact au.1 | exact au.2 | omega | (have ac := hg; simp at ac; omega)) (by have aa := ap.resolve_left (by rw [hg]; decide); have ae := aq.resolve_left (by rw [hg]; decide); have ag := az.resolve_left (by rw [hg]; decide); have au := aJ.resolve_left (by rw [hg]; decide); first | exact aa | exact aa.1 | exact aa.2 | exact ae | exact ae.1 | exact ae.2 | exact ag | exact ag.1 | exact ag.2 | exact au | exact au.1 | exact au.2 | omega | (have ac := hg; simp at ac; omega))))) ?_
   refine d_qg ((((s3 : Int) != (s2 : Int)) && (decide ((l6.getD s3 0) < ((r2.getD s3 ([])).length : Int)))) && (decide ((l6.getD s2 0) < ((r2.getD s2 ([])).length : Int)))) rfl (gy_t rfl) (fun hg => (fun w' H => x_ld (p := vat ay 1 (Int.toNat (l6.getD s2 0))) (v := I ((r2.getD s2 ([])).getD (Int.toNat (l6.getD s2 0)) 0)) (gd_of (c := ((((s3 : Int) != (s2 : Int)) && (decide ((l6.getD s3 0) < ((r2.getD s3 ([])).length : Int)))) && (decide ((l6.getD s2 0) < ((r2.getD s2 ([])).length : Int))))) hg (vat ay 1 (Int.toNat (l6.getD s2 0)))) (ld_sc Sc3 (At.mono (Int_at aM (i := l6.getD s2 0) (by have aa := ap.resolve_left (by rw [hg]; decide); have ae := aq.resolve_left (by rw [hg]; decide); have ag := az.resolve_left (by rw [hg]; decide); have au := aJ.resolve_left (by rw [hg]; decide); first | exact aa | exact aa.1 | exact aa.2 | exact ae | exact ae.1 | exact ae.2 | exact ag | exact ag.1 | exact ag.2 | exact au | exact au.1 | exact au.2 | omega | (have ac := hg; simp at ac; omega)) (by have aa := ap.resolve_left (by rw [hg]; decide); have ae := aq.resolve_left (by rw [hg]; decide); have ag := az.resolve_left (by rw [hg]; decide); have au := aJ.resolve_left (by rw [hg]; decide); first | exact aa | exact aa.1 | exact aa.2 | exact ae | exact ae.1 | exact ae.2 | exact ag | exact ag.1 | exact ag.2 | exact au | exact au.1 | exact au.2 | omega | (have ac := hg; simp at ac; omega))) (Cells.sup_le (H.ol 1) (roLe _ (H.get (k := 2) rfl))))))) ?_
   refine d_l rfl ?_
   obtain ⟨r3, bX, hM⟩ := M.e_bind hM
   refine t_gcall ((((s3 : Int) != (s2 : Int)) && (decide ((l6.getD s3 0) < ((r2.getD s3 ([])).length : Int)))) && (decide ((l6.getD s2 0) < ((r2.getD s2 ([])).length : Int)))) (gy_t rfl) cf51 (B r3) (fun _ => [Pq ao, I ((r2.getD s3 ([])).getD (Int.toNat (l6.getD s3 0)) 0), I ((r2.getD s2 ([])).getD (Int.toNat (l6.getD s2 0)) 0)]) (fun hg => lst3 (gd_of (c := ((((s3 : Int) != (s2 : Int)) && (decide ((l6.getD s3 0) < ((r2.getD s3 ([])).length : Int)))) && (decide ((l6.getD s2 0) < ((r2.getD s2 ([])).length : Int))))) hg (Pq ao)) (gd_of (c := ((((s3 : Int) != (s2 : Int)) && (decide ((l6.getD s3 0) < ((r2.getD s3 ([])).length : Int)))) && (decide ((l6.getD s2 0) < ((r2.getD s2 ([])).length : Int))))) hg (I ((r2.getD s3 ([])).getD (Int.toNat (l6.getD s3 0)) 0))) (gd_of (c := ((((s3 : Int) != (s2 : Int)) && (decide ((l6.getD s3 0) < ((r2.getD s3 ([])).length : Int)))) && (decide ((l6.getD s2 0) < ((r2.getD s2 ([])).length : Int))))) hg (I ((r2.getD s2 ([])).getD (Int.toNat (l6.getD s2 0)) 0)))) H (fun hg => (zau s_Sections s_Marks s_Reaches ((r2.getD s3 ([])).getD (Int.toNat (l6.getD s3 0)) 0) ((r2.getD s2 ([])).getD (Int.toNat (l6.getD s2 0)) 0) (aU.app _) aV (aW.app _) aX (aY.app _) aZ (Has.here (k := 3) rfl) (M.e_opt bX hg) _ (H.give (A := []) rfl)).mono fun v_ w_ ⟨y_, aN, bY, H_⟩ => by subst aN; exact ⟨bY, H.via H_⟩) ?_
   intro cL H
   refine s_nil ⟨(H.pk [0, 1, 2, 3, 4, 5]), ?_⟩
   refine d_q rfl (fun w' H => x_pand (b := ((((s3 : Int) != (s2 : Int)) && (decide ((l6.getD s3 0) < ((r2.getD s3 ([])).length : Int)))) && (decide ((l6.getD s2 0) < ((r2.getD s2 ([])).length : Int))))) (r := r3) rfl (fun hb => gd_of (c := ((((s3 : Int) != (s2 : Int)) && (decide ((l6.getD s3 0) < ((r2.getD s3 ([])).length : Int)))) && (decide ((l6.getD s2 0) < ((r2.getD s2 ([])).length : Int))))) (by first | exact hb | (rw [hb]; rfl) | simp_all) (B r3)) rfl) ?_
   refine d_nil ?_
   refine W.cond (((((s3 : Int) != (s2 : Int)) && (decide ((l6.getD s3 0) < ((r2.getD s3 ([])).length : Int)))) && (decide ((l6.getD s2 0) < ((r2.getD s2 ([])).length : Int)))) && r3) rfl (fun bf => ?_) (fun bf => ?_)
   ·replace hM := M.e_t hM bf
    refine W.seq ?_
    refine W.region rfl ?_
    refine zM ab rfl ?_
    refine zM (I (s3 : Int)) rfl ?_
    obtain ⟨bZ, hM⟩ := M.e_grd hM
    simp only [Bool.and_eq_true, decide_eq_true_eq] at bZ
    refine s_val (x_ix (a := ab) (b := I (s3 : Int)) (v := vat ab 1 (Int.toNat (s3 : Int))) rfl rfl (Sl.ix (α := Int) T28.und T28.size (H.os 0) (by omega) (by omega))) ?_
    refine s_val (x_ld (p := vat ab 1 (Int.toNat (s3 : Int))) (v := I (l6.getD s3 0)) rfl (ld_sc Sc3 (At.mono (Int_at (H.os 0) (i := (s3 : Int)) (by omega) (by omega)) (H.ol 0)))) ?_
    obtain ⟨b3, hM⟩ := M.e_grd hM
    simp only [Bool.and_eq_true, decide_eq_true_eq] at b3
    refine zR (l6.getD s3 0) 1 ((l6.getD s3 0) + 1) rfl rfl rfl (by omega) ?_
    refine s_val (x_ix (a := ab) (b := I (s3 : Int)) (v := vat ab 1 (Int.toNat (s3 : Int))) rfl rfl (Sl.ix (α := Int) T28.und T28.size (H.os 0) (by omega) (by omega))) ?_
    refine t_ost (k := 0) (i := (s3 : Int)) (l := l6) (l' := l6.set s3 ((l6.getD s3 0) + 1 : Int)) (val := I ((l6.getD s3 0) + 1)) (L' := [cOwn (α := Int) 3 ab (l6.set s3 ((l6.getD s3 0) + 1 : Int)), cOwn (α := Raw 0) 28 ai aF, cRo aG, cBlk ao [aj, ak, am, .map (some av)] 177, cMemI encSpt av (zaa s_Sections s_Marks s_Reaches), cBlk aC [aj, ak, am] 27]) H rfl Sz3 (by omega) (by omega) ((l6.getD s3 0) + 1 : Int) rfl rfl rfl rfl rfl ?_
    intro cM H
    refine s_nil ?_
    refine W.goto ?_
    have b4 := M.e_inr hM bc
    subst b4
    replace hM := bt
    try dsimp only at hM
    have b5 := M.e_inr hM ba
    subst b5
    replace hM := bq
    try dsimp only at hM
    exact ⟨rfl, bL, bM, l6.set s3 ((l6.getD s3 0) + 1 : Int), ab, _, upds_of _ _ ⟨rfl, rfl, rfl, trivial⟩, M.e_inl hM bp, H⟩
   replace hM := M.e_f hM bf
   refine W.skip ?_
   refine W.region rfl ?_
   refine zR (s2 : Int) 1 ((s2 : Int) + 1) rfl rfl rfl (by omega) ?_
   refine zM (I ((s2 : Int) + 1)) rfl ?_
   refine s_nil ?_
   exact ⟨bT, bU, s2 + 1, _, upds_of _ _ ⟨rfl, rfl, rfl, rfl, rfl, rfl, rfl, rfl, rfl, rfl, rfl, trivial⟩, M.e_inl hM bc, H⟩
  replace hM := M.e_f hM aP
  simp only [qy1, qy2, qy3, qy4, qy5, qy6, ne_eq, qy7] at aP
  refine W.exit ?_
  have b6 := M.e_inr hM bc
  subst b6
  replace hM := bt
  try dsimp only at hM
  refine W.region rfl ?_
  refine zR (s3 : Int) 1 ((s3 : Int) + 1) rfl rfl rfl (by omega) ?_
  refine zM (I ((s3 : Int) + 1)) rfl ?_
  refine s_nil ?_
  exact ⟨bO, bP, s3 + 1, _, upds_of _ _ ⟨rfl, rfl, rfl, rfl, rfl, rfl, trivial⟩, M.e_inl hM ba, H⟩
 replace hM := M.e_f hM aO
 simp only [qy1, qy2, qy3, qy4, qy5, qy6, ne_eq, qy7] at aO
 refine W.exit ?_
 have b7 := M.e_inr hM ba
 subst b7
 replace hM := bq
 try dsimp only at hM
 refine W.seq ?_
 refine W.region rfl ?_
 refine zA (.slice none 0 0) rfl ?_
 refine s_nil ?_
 refine W.seq ?_
 refine W.seq ?_
 refine W.region rfl ?_
 refine zM ai rfl ?_
 have cN := ((rowSl rfl (H.get (k := 1) rfl) (roLe _ (H.get (k := 2) rfl)) aw)).len_le
 refine s_val (x_lenS T38.und rfl (rowSl rfl (H.get (k := 1) rfl) (roLe _ (H.get (k := 2) rfl)) aw)) ?_
 refine zM (I 0) rfl ?_
 refine s_nil ?_
 refine W.block ?_
 replace H := H.nilOwn (α := Int) 3
 obtain ⟨b8, bg, b9⟩ := M.e_bind hM
 obtain ⟨a7, bg⟩ := M.e_iter bg
 refine W.loop (fun m σ W => ∃ (s4 : Nat) (l3 : List Int) (aA : Value) (ρ : Env), σ = upds ρ [(7, ab), (12, aA), (89, ai), (90, I (r2.length : Int)), (91, I (s4 : Int))] /\ M.iterN (zaC r2 l6) m (s4, l3) = some b8 /\ St w W [cOwn (α := Int) 3 aA l3, cOwn (α := Int) 3 ab l6, cOwn (α := Raw 0) 28 ai aF, cRo aG, cBlk ao [aj, ak, am, .map (some av)] 177, cMemI encSpt av (zaa s_Sections s_Marks s_Reaches), cBlk aC [aj, ak, am] 27] R) ?_ ?_
 ·exact ⟨_, 0, [], (.slice none 0 0), _, upds_of _ _ ⟨rfl, rfl, rfl, rfl, rfl, trivial⟩, bg, H⟩
 rintro cO σ cP ⟨s4, l3, aA, ρ, rfl, bv, H⟩
 obtain ⟨bw, bx, cQ, hM, bh⟩ := M.e_iterN bv
 simp only [zaC] at hM
 clear bv
 refine W.seq ?_
 refine W.region rfl ?_
 refine zC (s4 : Int) (r2.length : Int) (decide ((s4 : Int) < (r2.length : Int))) rfl rfl rfl ?_
 refine s_nil ?_
 refine W.seq ?_
 refine W.cond (decide ((s4 : Int) < (r2.length : Int))) rfl (fun aQ => ?_) (fun aQ => ?_)
 ·replace hM := M.e_t hM aQ
  simp only [qy1, qy2, qy3, qy4, qy5, qy6, ne_eq, qy7] at aQ
  refine W.skip ?_
  refine W.seq ?_
  refine W.block ?_
  refine W.seq ?_
  refine W.region rfl ?_
  refine zM (I (s4 : Int)) rfl ?_
  obtain ⟨cb, hM⟩ := M.e_grd hM
  simp only [Bool.and_eq_true, decide_eq_true_eq] at cb
  refine s_val (x_ix (a := ai) (b := I (s4 : Int)) (v := vat ai 1 (Int.toNat (s4 : Int))) rfl rfl (Sl.ix (α := List Int) T38.und T38.size (rowSl rfl (H.get (k := 2) rfl) (roLe _ (H.get (k := 3) rfl)) aw) (by omega) (by omega))) ?_
  obtain ⟨aE, cc, aK⟩ := List_at (rowSl rfl (H.get (k := 2) rfl) (roLe _ (H.get (k := 3) rfl)) aw) (i := (s4 : Int)) (by omega) (by omega)
  replace aK : Sl _ aE (r2.getD s4 ([])) := aK
  have cR := aK.len_le
  refine s_val (x_ld (p := vat ai 1 (Int.toNat (s4 : Int))) (v := aE) rfl (ld_sc Sc28 (At.mono (cc) (Cells.sup_le (H.ol 2) (roLe _ (H.get (k := 3) rfl)))))) ?_
  refine zA (I (s4 : Int)) rfl ?_
  refine zA aE rfl ?_
  refine s_nil ?_
  refine W.seq ?_
  refine W.region rfl ?_
  refine zM ab rfl ?_
  refine zM (I (s4 : Int)) rfl ?_
  obtain ⟨cd, hM⟩ := M.e_grd hM
  simp only [Bool.and_eq_true, decide_eq_true_eq] at cd
  refine s_val (x_ix (a := ab) (b := I (s4 : Int)) (v := vat ab 1 (Int.toNat (s4 : Int))) rfl rfl (Sl.ix (α := Int) T28.und T28.size (H.os 1) (by omega) (by omega))) ?_
  refine s_val (x_ld (p := vat ab 1 (Int.toNat (s4 : Int))) (v := I (l6.getD s4 0)) rfl (ld_sc Sc3 (At.mono (Int_at (H.os 1) (i := (s4 : Int)) (by omega) (by omega)) (H.ol 1)))) ?_
  refine zM aE rfl ?_
  have cS := (aK).len_le
  refine s_val (x_lenS T28.und rfl aK) ?_
  refine zC (l6.getD s4 0) ((r2.getD s4 ([])).length : Int) (decide ((l6.getD s4 0) < ((r2.getD s4 ([])).length : Int))) rfl rfl rfl ?_
  refine s_nil ?_
  refine W.cond (decide ((l6.getD s4 0) < ((r2.getD s4 ([])).length : Int))) rfl (fun aR => ?_) (fun aR => ?_)
  ·replace hM := M.e_t hM aR
   simp only [qy1, qy2, qy3, qy4, qy5, qy6, ne_eq, qy7] at aR
   refine W.region rfl ?_
   refine zM aA rfl ?_
   refine zM aE rfl ?_
   refine zM ab rfl ?_
   refine zM (I (s4 : Int)) rfl ?_
   refine s_val (x_ix (a := ab) (b := I (s4 : Int)) (v := vat ab 1 (Int.toNat (s4 : Int))) rfl rfl (Sl.ix (α := Int) T28.und T28.size (H.os 1) (by omega) (by omega))) ?_
   refine s_val (x_ld (p := vat ab 1 (Int.toNat (s4 : Int))) (v := I (l6.getD s4 0)) rfl (ld_sc Sc3 (At.mono (Int_at (H.os 1) (i := (s4 : Int)) (by omega) (by omega)) (H.ol 1)))) ?_
   obtain ⟨ce, hM⟩ := M.e_grd hM
   simp only [Bool.and_eq_true, decide_eq_true_eq] at ce
   refine s_val (x_ix (a := aE) (b := I (l6.getD s4 0)) (v := vat aE 1 (Int.toNat (l6.getD s4 0))) rfl rfl (Sl.ix (α := Int) T28.und T28.size aK (by omega) (by omega))) ?_
   refine s_val (x_ld (p := vat aE 1 (Int.toNat (l6.getD s4 0))) (v := I ((r2.getD s4 ([])).getD (Int.toNat (l6.getD s4 0)) 0)) rfl (ld_sc Sc3 (At.mono (Int_at aK (i := l6.getD s4 0) (by omega) (by omega)) (Cells.sup_le (H.ol 2) (roLe _ (H.get (k := 3) rfl)))))) ?_
   refine t_bs (α := Int) T28 [I ((r2.getD s4 ([])).getD (Int.toNat (l6.getD s4 0)) 0)] [((r2.getD s4 ([])).getD (Int.toNat (l6.getD s4 0)) 0 : Int)] H rfl (.cons rfl (Flat.rep_enc _ ((r2.getD s4 ([])).getD (Int.toNat (l6.getD s4 0)) 0 : Int)) <| .nil) rfl rfl rfl ?_
   intro cf cT H
   obtain ⟨cg, hM⟩ := M.e_grd hM
   simp only [Bool.and_eq_true, decide_eq_true_eq] at cg
   refine t_app (α := Int) (k := 1) (l := l3) (l2 := [((r2.getD s4 ([])).getD (Int.toNat (l6.getD s4 0)) 0 : Int)]) (l' := l3 ++ ([((r2.getD s4 ([])).getD (Int.toNat (l6.getD s4 0)) 0 : Int)])) (vy := cf) T28 rfl H rfl rfl rfl (H.os 0) (H.ol 0) (rfl) (by first | omega | (simp only [List.length_nil] at *; omega)) ?_
   intro bz cU H
   replace H := H.nf
   refine zA bz rfl ?_
   refine s_nil ?_
   refine W.region rfl ?_
   refine zR (s4 : Int) 1 ((s4 : Int) + 1) rfl rfl rfl (by omega) ?_
   refine zM (I ((s4 : Int) + 1)) rfl ?_
   refine s_nil ?_
   exact ⟨bw, bx, s4 + 1, l3 ++ ([((r2.getD s4 ([])).getD (Int.toNat (l6.getD s4 0)) 0 : Int)]), bz, _, upds_of _ _ ⟨rfl, rfl, rfl, rfl, rfl, trivial⟩, M.e_inl hM bh, (H.pk [1, 2, 3, 4, 5, 6, 7])⟩
  replace hM := M.e_f hM aR
  simp only [qy1, qy2, qy3, qy4, qy5, qy6, ne_eq, qy7] at aR
  refine W.skip ?_
  refine W.region rfl ?_
  refine zR (s4 : Int) 1 ((s4 : Int) + 1) rfl rfl rfl (by omega) ?_
  refine zM (I ((s4 : Int) + 1)) rfl ?_
  refine s_nil ?_
  exact ⟨bw, bx, s4 + 1, l3, aA, _, upds_of _ _ ⟨rfl, rfl, rfl, rfl, rfl, trivial⟩, M.e_inl hM bh, H⟩
 replace hM := M.e_f hM aQ
 simp only [qy1, qy2, qy3, qy4, qy5, qy6, ne_eq, qy7] at aQ
 refine W.exit ?_
 have cj := M.e_inr hM bh
 subst cj
 replace hM := b9
 try dsimp only at hM
 refine W.seq ?_
 refine W.region rfl ?_
 refine zM aA rfl ?_
 obtain ⟨ck, hM⟩ := M.e_grd hM
 simp only [Bool.and_eq_true, decide_eq_true_eq] at ck
 refine s_call cf52 [aA] rfl (sort_any (H.get (k := 0) rfl) (by omega)) ?_
 rintro _ cn ⟨rfl, bA, bB, bC⟩
 replace H : St w cn [cOwn (α := Int) 3 aA (isort l3), cOwn (α := Int) 3 ab l6, cOwn (α := Raw 0) 28 ai aF, cRo aG, cBlk ao [aj, ak, am, .map (some av)] 177, cMemI encSpt av (zaa s_Sections s_Marks s_Reaches), cBlk aC [aj, ak, am] 27] R := H.sorted (k := 0) rfl bA bB bC rfl
 clear bA bB bC
 refine s_nil ?_
 refine W.seq ?_
 refine W.region rfl ?_
 refine zM aA rfl ?_
 refine zA aA rfl ?_
 refine zA (I 0) rfl ?_
 refine s_nil ?_
 refine W.ret ?_
 have co := M.e_inr hM bp
 subst co
 replace hM := bK
 try dsimp only at hM
 have aN := M.e_pure hM
 exact ⟨_, resE_tmp2 rfl, ⟨(isort l3), 0, aA, aN, rfl, (H.pk [0])⟩⟩

def zbI (i : Int) (ab : List Sect) (aa : List Mrk) (ac : List Rch) : M Bool :=
  M.bind (zac i 0 ((aa.length : Int) - 1)) fun r2 =>
  M.pure r2
theorem zdm {R : List Chunk} {ac : Nat} {aa : Nat} {ag : Cells} {ai : Value} {aj : Cells} {ae : Value} {ak : Cells} {am : Value} {av : Nat} (i : Int) (ao : List Sect) (ab : List Mrk) (ap : List Rch) (aB : Reads R ag) (aC : Sl ag ai ao) (aD : Reads R aj) (aq : Sl aj ae ab) (aE : Reads R ak) (aF : Sl ak am ap) (aw : Has R (cBlk aa [ai, ae, am, .map (some av)] 177)) (ax : Has R (cBlk ac [Pq aa] 112)) {r : Bool} (hM : (zbI i ao ab ap).Ends r) (w : World) (H : St w w [] R) : Ret Tryz.prog 100 #[I i, Pq ac] w fun v w' => ∃ (y0 : Bool), y0 = r /\ v = B y0 /\ St w w' [] R := by
 refine ret_of_W Tryz.func100 rfl rfl rfl ?_
 refine W.seq ?_
 refine W.region rfl ?_
 refine zA (B false) rfl ?_
 refine s_nil ?_
 refine W.seq ?_
 refine W.region rfl ?_
 refine zM (I i) rfl ?_
 refine s_val (x_ld (p := Pq ac) (v := Pq aa) rfl (ldb_sc Sc112 (ax.blk H) rfl)) ?_
 refine s_val (x_nc (a := ⟨aa, 0, none⟩) rfl) ?_
 refine s_val (x_fa (a := Pq aa) (v := Pq aa) rfl (fa_blk (o := 0) Fd177_0 Sz27)) ?_
 refine s_val (x_fa (a := Pq aa) (v := Oq aa 1) rfl (fa_blk (o := 0) Fd27_1 Sz24)) ?_
 refine s_val (x_ld (p := Oq aa 1) (v := ae) rfl (ldb_sc Sc24 (aw.blk H) rfl)) ?_
 have aG := (aq).len_le
 refine s_val (x_lenS T24.und rfl aq) ?_
 refine zR (ab.length : Int) 1 ((ab.length : Int) - 1) rfl rfl rfl (by omega) ?_
 obtain ⟨aH, ay, hM⟩ := M.e_bind hM
 refine s_call cf70 [I i, I 0, I ((ab.length : Int) - 1)] rfl (zae i 0 ((ab.length : Int) - 1) ay _ (H.gt 0)) ?_
 rintro vq aI ⟨r2, az, hvq, au⟩
 subst az
 subst vq
 try dsimp only at hM
 replace H := H.bk au
 clear au
 refine zA (B r2) rfl ?_
 refine s_nil ?_
 refine W.ret ?_
 have aA := M.e_pure hM
 exact ⟨_, resE_tmp rfl, ⟨r2, aA, rfl, H⟩⟩

def zbf (j : Int) (aa : List Sect) (ab : List Mrk) (ac : List Rch) (ae : Int) : M Bool :=
  M.bind (zaf aa ab ac ae j) fun r2 =>
  M.bind (M.opt (!r2) (zaf aa ab ac j ae) false) fun r3 =>
  M.pure (r2 || r3)
theorem zcV {R : List Chunk} {ac : Nat} {ab : Nat} {am : Cells} {ao : Value} {ap : Cells} {aq : Value} {au : Cells} {av : Value} {aG : Nat} {ae : Nat} (j : Int) (ag : List Sect) (ai : List Mrk) (aj : List Rch) (aa : Int) (aw : Reads R am) (ax : Sl am ao ag) (ay : Reads R ap) (az : Sl ap aq ai) (aA : Reads R au) (aB : Sl au av aj) (aC : Has R (cBlk ab [ao, aq, av, .map (some aG)] 177)) (aD : Has R (cBlk ac [Pq ab] 112)) (aE : Has R (cBlk ae [I aa] 3)) {r : Bool} (hM : (zbf j ag ai aj aa).Ends r) (w : World) (H : St w w [] R) : Ret Tryz.prog 101 #[I j, Pq ac, Pq ae] w fun v w' => ∃ (y0 : Bool), y0 = r /\ v = B y0 /\ St w w' [] R := by
 refine ret_of_W Tryz.func101 rfl rfl rfl ?_
 refine W.seq ?_
 refine W.region rfl ?_
 refine zA (B false) rfl ?_
 refine s_nil ?_
 refine W.seq ?_
 refine W.region rfl ?_
 refine s_val (x_ld (p := Pq ac) (v := Pq ab) rfl (ldb_sc Sc112 (aD.blk H) rfl)) ?_
 refine s_val (x_ld (p := Pq ae) (v := I aa) rfl (ldb_sc Sc3 (aE.blk H) rfl)) ?_
 refine zM (I j) rfl ?_
 obtain ⟨aL, aH, hM⟩ := M.e_bind hM
 refine s_call cf51 [Pq ab, I aa, I j] rfl (zau ag ai aj aa j (aw.app _) ax (ay.app _) az (aA.app _) aB (aC.app _) aH _ (H.gt 0)) ?_
 rintro vq aM ⟨r2, aI, hvq, aF⟩
 subst aI
 subst vq
 try dsimp only at hM
 replace H := H.bk aF
 clear aF
 refine zM (B r2) rfl ?_
 refine g_val (!r2) (gy_f rfl) (fun hg => x_ld (p := Pq ac) (v := Pq ab) rfl (ldb_sc Sc112 (aD.blk H) rfl)) ?_
 refine g_val (!r2) (gy_f rfl) (fun hg => x_mv (v := I j) rfl) ?_
 refine g_val (!r2) (gy_f rfl) (fun hg => x_ld (p := Pq ae) (v := I aa) rfl (ldb_sc Sc3 (aE.blk H) rfl)) ?_
 obtain ⟨r3, aJ, hM⟩ := M.e_bind hM
 refine t_gcall (!r2) (gy_f rfl) cf51 (B r3) (fun _ => [Pq ab, I j, I aa]) (fun hg => lst3 (gd_of (c := !r2) hg (Pq ab)) (gd_of (c := !r2) hg (I j)) (gd_of (c := !r2) hg (I aa))) H (fun hg => (zau ag ai aj j aa (aw.app _) ax (ay.app _) az (aA.app _) aB (aC.app _) (M.e_opt aJ hg) _ (H.give (A := []) rfl)).mono fun v_ w_ ⟨y_, ak, aK, H_⟩ => by subst ak; exact ⟨aK, H.via H_⟩) ?_
 intro aN H
 refine s_val (x_por (b := r2) (r := r3) rfl rfl (fun hb => gd_of (c := !r2) (by first | exact hb | (rw [hb]; rfl) | simp_all) (B r3))) ?_
 refine zA (B (r2 || r3)) rfl ?_
 refine s_nil ?_
 refine W.ret ?_
 have ak := M.e_pure hM
 exact ⟨_, resE_tmp rfl, ⟨(r2 || r3), ak, rfl, H⟩⟩

def za6 (aa : List Sect) (ab : List Mrk) (ac : List Rch) (row : List Int) : ((List Bool) × Bool × Nat) -> M (((List Bool) × Bool × Nat) ⊕ (Bool × (List Bool))) := fun (ar, out, s) =>
  bif decide ((s : Int) < (row.length : Int)) then (
  M.grd (decide ((s : Int) < (row.length : Int))) <|
  M.grd (decide ((0 : Int) <= (row.getD s 0)) && decide ((row.getD s 0) < (16 : Int))) <|
  M.bind (M.opt out (zak (row.take s) (fun ae => zbf ae aa ab ac (row.getD s 0))) false) fun r3 =>
  M.pure (.inl (ar.set (Int.toNat (row.getD s 0)) true, (out && r3), s + 1)))
  else (
  M.pure (.inr (out, ar)))
def zbF (aa : List Sect) (ab : List Mrk) (ac : List Rch) (row : List Int) (met : List Bool) : M (Bool × (List Bool)) :=
  M.bind (M.opt (!((row.length : Int) == 0)) (zak row (fun ae => zbI ae aa ab ac)) false) fun r2 =>
  bif (((row.length : Int) == 0) || (!r2)) then (
  M.fail)
  else (
  M.bind (M.iter (za6 aa ab ac row) (met, true, 0)) fun (out2, ag) =>
  M.pure (out2, ag))
theorem zde {R : List Chunk} {ag : Nat} {aK : Cells} {aL : Value} {aM : Cells} {aN : Value} {aO : Cells} {aP : Value} {a6 : Nat} {aQ : Cells} {aa : Value} {ac : Nat} (ai : List Sect) (aj : List Mrk) (ak : List Rch) (row : List Int) (met : List Bool) (aR : Reads R aK) (aS : Sl aK aL ai) (aT : Reads R aM) (aU : Sl aM aN aj) (aV : Reads R aO) (aW : Sl aO aP ak) (aX : Has R (cBlk ag [aL, aN, aP, .map (some a6)] 177)) (ax : Reads R aQ) (ae : Sl aQ aa row) (a7 : met.length = 16) {r : (Bool × (List Bool))} (hM : (zbF ai aj ak row met).Ends r) (w : World) (H : St w w [cBlk ac (encB met) 121] R) : Ret Tryz.prog 54 #[Pq ag, aa, Pq ac] w fun v w' => ∃ (y0 : Bool) (y1 : List Bool), (y0, y1) = r /\ v = B y0 /\ St w w' [cBlk ac (encB y1) 121] R /\ y1.length = 16 := by
 refine ret_of_W Tryz.func54 rfl rfl rfl ?_
 refine W.seq ?_
 refine W.region rfl ?_
 refine t_box (v := Pq ag) (cs := [Pq ag]) H rfl rfl ?_
 intro ab bu H
 refine zA (B false) rfl ?_
 refine s_nil ?_
 refine W.seq ?_
 refine W.seq ?_
 refine W.region rfl ?_
 refine zM aa rfl ?_
 have bv := (ae).len_le
 refine s_val (x_lenS T28.und rfl ae) ?_
 refine zC (row.length : Int) 0 ((row.length : Int) == 0) rfl rfl rfl ?_
 refine zM (B ((row.length : Int) == 0)) rfl ?_
 refine g_val (!((row.length : Int) == 0)) (gy_f rfl) (fun hg => x_mv (v := aa) rfl) ?_
 refine g_val (!((row.length : Int) == 0)) (gy_f rfl) (fun hg => x_mf (fs := []) (cs := [Pq ab]) rfl rfl) ?_
 obtain ⟨r2, a8, hM⟩ := M.e_bind hM
 refine t_gcall (!((row.length : Int) == 0)) (gy_f rfl) cf99 (B r2) (fun _ => [aa, .func (.func 100) #[] #[Pq ab]]) (fun hg => lst2 (gd_of (c := !((row.length : Int) == 0)) hg (aa)) (gd_of (c := !((row.length : Int) == 0)) hg (.func (.func 100) #[] #[Pq ab]))) H (fun hg => (zbz row (fun am => zbI am ai aj ak) (ax.app _) ae ⟨100, [Pq ab], rfl, cf100, fun aq ba bb ay am bc az bf aA aB => by obtain rfl := Arg.int aA; exact (zdm am ai aj ak (Reads.app (aR.app _) _) aS (Reads.app (aT.app _) _) aU (Reads.app (aV.app _) _) aW (Has.app (aX.app _) _) (Has.app (Has.here (k := 0) rfl) _) aB aq (St.refl az)).mono fun ay aq ⟨bg, aC, aD, aE⟩ => by subst aC; exact ⟨aD, aE⟩⟩ (M.e_opt a8 hg) _ (H.give (A := []) rfl)).mono fun v_ w_ ⟨y_, au, aF, H_⟩ => by subst au; exact ⟨aF, H.via H_⟩) ?_
 intro bw H
 refine g_val (!((row.length : Int) == 0)) (gy_f rfl) (fun hg => x_not (b := r2) (gd_of (c := !((row.length : Int) == 0)) hg (B r2))) ?_
 refine s_val (x_por (b := (row.length : Int) == 0) (r := !r2) rfl rfl (fun hb => gd_of (c := !((row.length : Int) == 0)) (by first | exact hb | (rw [hb]; rfl) | simp_all) (B (!r2)))) ?_
 refine s_nil ?_
 refine W.cond (((row.length : Int) == 0) || (!r2)) rfl (fun aG => ?_) (fun aG => ?_)
 ·replace hM := M.e_t hM aG
  refine W.region rfl ?_
  exact (M.e_fail hM).elim
 replace hM := M.e_f hM aG
 refine W.skip ?_
 refine W.seq ?_
 refine W.region rfl ?_
 refine zA (B true) rfl ?_
 refine s_nil ?_
 refine W.seq ?_
 refine W.seq ?_
 refine W.region rfl ?_
 refine zM aa rfl ?_
 have bx := (ae).len_le
 refine s_val (x_lenS T28.und rfl ae) ?_
 refine zM (I 0) rfl ?_
 refine s_nil ?_
 refine W.block ?_
 obtain ⟨bh, aH, bi⟩ := M.e_bind hM
 obtain ⟨bz, aH⟩ := M.e_iter aH
 refine W.loop (fun m σ W => ∃ (ar : List Bool) (out : Bool) (s : Nat) (ρ : Env), σ = upds ρ [(1, aa), (2, Pq ac), (3, Pq ab), (7, B out), (21, aa), (22, I (row.length : Int)), (23, I (s : Int))] /\ M.iterN (za6 ai aj ak row) m (ar, out, s) = some bh /\ St w W [cBlk ab [Pq ag] 112, cBlk ac (encB ar) 121] R /\ ar.length = 16) ?_ ?_
 ·exact ⟨_, met, true, 0, _, upds_of _ _ ⟨rfl, rfl, rfl, rfl, rfl, rfl, rfl, trivial⟩, aH, H, a7⟩
 rintro bA σ bB ⟨ar, out, s, ρ, rfl, aY, H, aI⟩
 obtain ⟨bj, bm, bC, hM, aZ⟩ := M.e_iterN aY
 simp only [za6] at hM
 clear aY
 refine W.seq ?_
 refine W.region rfl ?_
 refine zC (s : Int) (row.length : Int) (decide ((s : Int) < (row.length : Int))) rfl rfl rfl ?_
 refine s_nil ?_
 refine W.seq ?_
 refine W.cond (decide ((s : Int) < (row.length : Int))) rfl (fun av => ?_) (fun av => ?_)
 ·replace hM := M.e_t hM av
  simp only [qy1, qy2, qy3, qy4, qy5, qy6, ne_eq, qy7] at av
  refine W.skip ?_
  refine W.seq ?_
  refine W.block ?_
  refine W.seq ?_
  refine W.region rfl ?_
  refine zM (I (s : Int)) rfl ?_
  obtain ⟨bn, hM⟩ := M.e_grd hM
  simp only [Bool.and_eq_true, decide_eq_true_eq] at bn
  refine s_val (x_ix (a := aa) (b := I (s : Int)) (v := vat aa 1 (Int.toNat (s : Int))) rfl rfl (Sl.ix (α := Int) T28.und T28.size ae (by omega) (by omega))) ?_
  refine s_val (x_ld (p := vat aa 1 (Int.toNat (s : Int))) (v := I (row.getD s 0)) rfl (ld_sc Sc3 (At.mono (Int_at ae (i := (s : Int)) (by omega) (by omega)) (ax.at H)))) ?_
  refine t_alloc (cs := [I 0]) H Al3 rfl ?_
  intro ao bD H
  refine zA (I (s : Int)) rfl ?_
  refine t_sw 0 0 [I (row.getD s 0)] (I (row.getD s 0)) H rfl rfl Sz3 rfl rfl rfl rfl ?_
  intro bE H
  refine s_nil ?_
  refine W.seq ?_
  refine W.draw (fun W => St w W [cBlk ao [I (row.getD s 0)] 3, cBlk ab [Pq ag] 112] R) [(0, true), (1, true), (2, true), (3, true), (4, false)] mixed (by decide +kernel) rfl ?_
  intro bF ap
  replace H := H.ext ap
  clear ap
  refine ⟨(H.pk [0, 1]), ?_⟩
  refine d_q rfl (fun w' H => x_mv (v := Pq ac) rfl) ?_
  refine d_q rfl (fun w' H => x_ld (p := Pq ao) (v := I (row.getD s 0)) rfl (ldb_sc Sc3 (H.bl 0) rfl)) ?_
  refine d_q rfl (fun w' H => x_nc (a := ⟨ac, 0, none⟩) rfl) ?_
  obtain ⟨bo, hM⟩ := M.e_grd hM
  simp only [Bool.and_eq_true, decide_eq_true_eq] at bo
  refine d_q rfl (fun w' H => x_ix (a := Pq ac) (b := I (row.getD s 0)) (v := .pointer (some ⟨ac, 0 + Int.toNat (row.getD s 0), none⟩)) rfl rfl (run_indexArr Tryz.underlying121 Sz4 (by omega) (by omega))) ?_
  refine d_l rfl ?_
  refine t_stArr (k := 2) (b := ac) (l := ar) (l' := ar.set (Int.toNat (row.getD s 0)) true) (i := row.getD s 0) (v := true) (L' := [cBlk ao [I (row.getD s 0)] 3, cBlk ab [Pq ag] 112, cBlk ac (encB (ar.set (Int.toNat (row.getD s 0)) true)) 121]) H rfl rfl rfl Sz4 (by omega) (by have bG := aI; omega) rfl rfl ?_
  intro bH H
  have bp : (ar.set (Int.toNat (row.getD s 0)) true).length = 16 := List.length_set.trans aI
  refine s_nil ⟨(H.pk [0, 1]), ?_⟩
  refine d_nil ?_
  refine W.region rfl ?_
  refine zM (B out) rfl ?_
  refine zM (B out) rfl ?_
  refine g_val out (gy_t rfl) (fun hg => x_mv (v := aa) rfl) ?_
  refine g_val out (gy_t rfl) (fun hg => x_mv (v := I (s : Int)) rfl) ?_
  obtain ⟨aw, bq, aJ⟩ := gd_ex (c := out) fun hg => sl_hi T28.und T28.size ae (j := (s : Int)) (by first | omega | (have ap := hg; simp at ap; omega)) (by first | omega | (have ap := hg; simp at ap; omega))
  replace aJ : out = true -> Sl _ aw (row.take s) := aJ
  refine g_val out (gy_t rfl) (fun hg => x_sl (v := aa) (u := aw) (lo' := none) (hi' := some (I (s : Int))) (mx' := none) (gd_of (c := out) hg (aa)) rfl (congrArg some (gd_of (c := out) hg (I (s : Int)))) rfl (bq hg _)) ?_
  refine g_val out (gy_t rfl) (fun hg => x_mf (fs := []) (cs := [Pq ab, Pq ao]) rfl rfl) ?_
  obtain ⟨r3, br, hM⟩ := M.e_bind hM
  refine t_gcall out (gy_t rfl) cf99 (B r3) (fun _ => [aw, .func (.func 101) #[] #[Pq ab, Pq ao]]) (fun hg => lst2 (gd_of (c := out) hg (aw)) (gd_of (c := out) hg (.func (.func 101) #[] #[Pq ab, Pq ao]))) H (fun hg => (zbz (row.take s) (fun am => zbf am ai aj ak (row.getD s 0)) (ax.app _) (aJ hg) ⟨101, [Pq ab, Pq ao], rfl, cf101, fun aq ba bb ay am bc az bf aA aB => by obtain rfl := Arg.int aA; exact (zcV am ai aj ak (row.getD s 0) (Reads.app (aR.app _) _) aS (Reads.app (aT.app _) _) aU (Reads.app (aV.app _) _) aW (Has.app (aX.app _) _) (Has.app (Has.here (k := 1) rfl) _) (Has.app (Has.here (k := 0) rfl) _) aB aq (St.refl az)).mono fun ay aq ⟨bg, aC, aD, aE⟩ => by subst aC; exact ⟨aD, aE⟩⟩ (M.e_opt br hg) _ (H.give (A := []) rfl)).mono fun v_ w_ ⟨y_, au, aF, H_⟩ => by subst au; exact ⟨aF, H.via H_⟩) ?_
  intro bI H
  refine s_val (x_pand (b := out) (r := r3) rfl (fun hb => gd_of (c := out) (by first | exact hb | (rw [hb]; rfl) | simp_all) (B r3)) rfl) ?_
  refine zA (B (out && r3)) rfl ?_
  refine s_nil ?_
  refine W.region rfl ?_
  refine zR (s : Int) 1 ((s : Int) + 1) rfl rfl rfl (by omega) ?_
  refine zM (I ((s : Int) + 1)) rfl ?_
  refine s_nil ?_
  exact ⟨bj, bm, ar.set (Int.toNat (row.getD s 0)) true, (out && r3), s + 1, _, upds_of _ _ ⟨rfl, rfl, rfl, rfl, rfl, rfl, rfl, trivial⟩, M.e_inl hM aZ, (H.pk [1, 2]), bp⟩
 replace hM := M.e_f hM av
 simp only [qy1, qy2, qy3, qy4, qy5, qy6, ne_eq, qy7] at av
 refine W.exit ?_
 have bt := M.e_inr hM aZ
 subst bt
 replace hM := bi
 try dsimp only at hM
 refine W.seq ?_
 refine W.region rfl ?_
 refine zM (B out) rfl ?_
 refine zA (B out) rfl ?_
 refine s_nil ?_
 refine W.ret ?_
 have au := M.e_pure hM
 exact ⟨_, resE_tmp rfl, ⟨out, ar, au, rfl, (H.pk [1]), aI⟩⟩

def za8 (s : List Bool) (f : Bool -> M Bool) : Nat -> M (Nat ⊕ (Int ⊕ Unit)) := fun s2 =>
  bif decide ((s2 : Int) < (s.length : Int)) then (
  M.grd (decide ((s2 : Int) < (s.length : Int))) <|
  M.bind (f (s.getD s2 false)) fun r2 =>
  bif r2 then (
  M.pure (.inr (.inl (s2 : Int))))
  else (
  M.pure (.inl (s2 + 1))))
  else (
  M.pure (.inr (.inr ())))
def zch (s : List Bool) (f : Bool -> M Bool) : M Int :=
  M.bind (M.iter (za8 s f) 0) fun x_ => match x_ with
  | (.inl s3) => (
  M.pure s3)
  | (.inr (_ : Unit)) => (
  M.pure (-1))
theorem zdb {R : List Chunk} {am : Cells} {aa : Value} {ac : Value} (s : List Bool) (f : Bool -> M Bool) (aq : Reads R am) (ae : Sl am aa s) (au : FnM Tryz.prog R ac f) {r : Int} (hM : (zch s f).Ends r) (w : World) (H : St w w [] R) : Ret Tryz.prog 134 #[aa, ac] w fun v w' => ∃ (y0 : Int), y0 = r /\ v = I y0 /\ St w w' [] R := by
 refine ret_of_W Tryz.func134 rfl rfl rfl ?_
 refine W.seq ?_
 refine W.region rfl ?_
 refine zA (I 0) rfl ?_
 refine s_nil ?_
 refine W.seq ?_
 refine W.seq ?_
 refine W.region rfl ?_
 refine zM aa rfl ?_
 have aC := (ae).len_le
 refine s_val (x_lenS T59.und rfl ae) ?_
 refine zM (I 0) rfl ?_
 refine s_nil ?_
 refine W.block ?_
 obtain ⟨av, ag, ao⟩ := M.e_bind hM
 obtain ⟨aD, ag⟩ := M.e_iter ag
 refine W.loop (fun m σ W => ∃ (s2 : Nat) (ρ : Env), σ = upds ρ [(0, aa), (1, ac), (7, I (s.length : Int)), (8, I (s2 : Int))] /\ M.iterN (za8 s f) m s2 = some av /\ St w W [] R) ?_ ?_
 ·exact ⟨_, 0, _, upds_of _ _ ⟨rfl, rfl, rfl, rfl, trivial⟩, ag, H⟩
 rintro aE σ aF ⟨s2, ρ, rfl, ap, H⟩
 obtain ⟨aw, ax, aG, hM, ai⟩ := M.e_iterN ap
 simp only [za8] at hM
 clear ap
 refine W.seq ?_
 refine W.region rfl ?_
 refine zC (s2 : Int) (s.length : Int) (decide ((s2 : Int) < (s.length : Int))) rfl rfl rfl ?_
 refine s_nil ?_
 refine W.seq ?_
 refine W.cond (decide ((s2 : Int) < (s.length : Int))) rfl (fun ab => ?_) (fun ab => ?_)
 ·replace hM := M.e_t hM ab
  simp only [qy1, qy2, qy3, qy4, qy5, qy6, ne_eq, qy7] at ab
  refine W.skip ?_
  refine W.seq ?_
  refine W.block ?_
  refine W.seq ?_
  refine W.region rfl ?_
  refine zM (I (s2 : Int)) rfl ?_
  refine zA (I (s2 : Int)) rfl ?_
  refine s_nil ?_
  refine W.seq ?_
  refine W.region rfl ?_
  refine zM ac rfl ?_
  refine zM aa rfl ?_
  refine zM (I (s2 : Int)) rfl ?_
  obtain ⟨ay, hM⟩ := M.e_grd hM
  simp only [Bool.and_eq_true, decide_eq_true_eq] at ay
  refine s_val (x_ix (a := aa) (b := I (s2 : Int)) (v := vat aa 1 (Int.toNat (s2 : Int))) rfl rfl (Sl.ix (α := Bool) T59.und T59.size ae (by omega) (by omega))) ?_
  refine s_val (x_ld (p := vat aa 1 (Int.toNat (s2 : Int))) (v := B (s.getD s2 false)) rfl (ld_sc Sc4 (At.mono (Bool_at ae (i := (s2 : Int)) (by omega) (by omega)) (aq.at H)))) ?_
  obtain ⟨r2, az, hM⟩ := M.e_bind hM
  refine t_callM H au rfl rfl (s.getD s2 false) Reads.none (show Arg (fun _ => none) (B (s.getD s2 false)) (s.getD s2 false) from ⟨[B (s.getD s2 false)], rfl, rfl⟩) az ?_
  intro aH H
  refine s_nil ?_
  refine W.cond r2 rfl (fun aj => ?_) (fun aj => ?_)
  ·replace hM := M.e_t hM aj
   refine W.seq ?_
   refine W.region rfl ?_
   refine zM (I (s2 : Int)) rfl ?_
   refine zA (I (s2 : Int)) rfl ?_
   refine s_nil ?_
   refine W.ret ?_
   have aA := M.e_inr hM ai
   subst aA
   replace hM := ao
   try dsimp only at hM
   have ak := M.e_pure hM
   exact ⟨_, resE_tmp rfl, ⟨(s2 : Int), ak, rfl, H⟩⟩
  replace hM := M.e_f hM aj
  refine W.skip ?_
  refine W.region rfl ?_
  refine zR (s2 : Int) 1 ((s2 : Int) + 1) rfl rfl rfl (by omega) ?_
  refine zM (I ((s2 : Int) + 1)) rfl ?_
  refine s_nil ?_
  exact ⟨aw, ax, s2 + 1, _, upds_of _ _ ⟨rfl, rfl, rfl, rfl, trivial⟩, M.e_inl hM ai, H⟩
 replace hM := M.e_f hM ab
 simp only [qy1, qy2, qy3, qy4, qy5, qy6, ne_eq, qy7] at ab
 refine W.exit ?_
 have aB := M.e_inr hM ai
 subst aB
 replace hM := ao
 try dsimp only at hM
 refine W.seq ?_
 refine W.region rfl ?_
 refine zA (I (-1)) rfl ?_
 refine s_nil ?_
 refine W.ret ?_
 have ak := M.e_pure hM
 exact ⟨_, resE_tmp rfl, ⟨(-1), ak, rfl, H⟩⟩

def zcb (s : List Bool) (f : Bool -> M Bool) : M Bool :=
  M.bind (zch s f) fun r2 =>
  M.pure (decide (0 <= r2))
theorem zcS {R : List Chunk} {ac : Cells} {aa : Value} {ab : Value} (s : List Bool) (f : Bool -> M Bool) (ag : Reads R ac) (ai : Sl ac aa s) (aj : FnM Tryz.prog R ab f) {r : Bool} (hM : (zcb s f).Ends r) (w : World) (H : St w w [] R) : Ret Tryz.prog 102 #[aa, ab] w fun v w' => ∃ (y0 : Bool), y0 = r /\ v = B y0 /\ St w w' [] R := by
 refine ret_of_W Tryz.func102 rfl rfl rfl ?_
 refine W.seq ?_
 refine W.region rfl ?_
 refine zA (B false) rfl ?_
 refine s_nil ?_
 refine W.seq ?_
 refine W.region rfl ?_
 refine zM aa rfl ?_
 refine zM ab rfl ?_
 obtain ⟨ap, ak, hM⟩ := M.e_bind hM
 refine s_call cf134 [aa, ab] rfl (zdb s f (ag.app _) ai (aj.app _) ak _ (H.gt 0)) ?_
 rintro vq aq ⟨r2, am, hvq, ae⟩
 subst am
 subst vq
 try dsimp only at hM
 replace H := H.bk ae
 clear ae
 refine zC r2 0 (decide (0 <= r2)) rfl rfl rfl ?_
 refine zA (B (decide (0 <= r2))) rfl ?_
 refine s_nil ?_
 refine W.ret ?_
 have ao := M.e_pure hM
 exact ⟨_, resE_tmp rfl, ⟨(decide (0 <= r2)), ao, rfl, H⟩⟩

def zby (x : Bool) (aa : Bool -> M Bool) : M Bool :=
  M.bind (aa x) fun r2 =>
  M.pure (!r2)
theorem zcT {R : List Chunk} {aa : Nat} {ab : Value} (x : Bool) (ac : Bool -> M Bool) (ae : FnM Tryz.prog R ab ac) (ag : Has R (cBlk aa [ab] 125)) {r : Bool} (hM : (zby x ac).Ends r) (w : World) (H : St w w [] R) : Ret Tryz.prog 103 #[B x, Pq aa] w fun v w' => ∃ (y0 : Bool), y0 = r /\ v = B y0 /\ St w w' [] R := by
 refine ret_of_W Tryz.func103 rfl rfl rfl ?_
 refine W.seq ?_
 refine W.region rfl ?_
 refine zA (B false) rfl ?_
 refine s_nil ?_
 refine W.seq ?_
 refine W.region rfl ?_
 refine s_val (x_ld (p := Pq aa) (v := ab) rfl (ldb_sc Sc125 (ag.blk H) rfl)) ?_
 refine zM (B x) rfl ?_
 obtain ⟨r2, ai, hM⟩ := M.e_bind hM
 refine t_callM H ae rfl rfl x Reads.none (show Arg (fun _ => none) (B x) x from ⟨[B x], rfl, rfl⟩) ai ?_
 intro ak H
 refine s_val (x_not (b := r2) rfl) ?_
 refine zA (B (!r2)) rfl ?_
 refine s_nil ?_
 refine W.ret ?_
 have aj := M.e_pure hM
 exact ⟨_, resE_tmp rfl, ⟨(!r2), aj, rfl, H⟩⟩

def zbv (l : List Bool) (so : Bool -> M Bool) : M Bool :=
  M.bind (zcb l (fun aa => zby aa so)) fun r2 =>
  M.pure (!r2)
theorem zcI {R : List Chunk} {ag : Cells} {aa : Value} {ab : Value} (l : List Bool) (so : Bool -> M Bool) (am : Reads R ag) (ao : Sl ag aa l) (ai : FnM Tryz.prog R ab so) {r : Bool} (hM : (zbv l so).Ends r) (w : World) (H : St w w [] R) : Ret Tryz.prog 55 #[aa, ab] w fun v w' => ∃ (y0 : Bool), y0 = r /\ v = B y0 /\ St w w' [] R := by
 refine ret_of_W Tryz.func55 rfl rfl rfl ?_
 refine W.seq ?_
 refine W.region rfl ?_
 refine t_box (v := ab) (cs := [ab]) H rfl (FnM.cells ai) ?_
 intro ac aC H
 refine zA (B false) rfl ?_
 refine s_nil ?_
 refine W.seq ?_
 refine W.region rfl ?_
 refine zM aa rfl ?_
 refine s_val (x_mf (fs := []) (cs := [Pq ac]) rfl rfl) ?_
 obtain ⟨aD, ap, hM⟩ := M.e_bind hM
 refine s_call cf102 [aa, .func (.func 103) #[] #[Pq ac]] rfl (zcS l (fun ae => zby ae so) (am.app _) ao ⟨103, [Pq ac], rfl, cf103, fun aj aE aF aq ae aG au aH av aw => by obtain ⟨_, rfl, rfl⟩ := av; exact (zcT ae so (FnM.app (ai.app _) _) (Has.app (Has.here (k := 0) rfl) _) aw aj (St.refl au)).mono fun aq aj ⟨aI, ax, ay, az⟩ => by subst ax; exact ⟨ay, az⟩⟩ ap _ (H.gt 1)) ?_
 rintro vq aJ ⟨r2, aA, hvq, ak⟩
 subst aA
 subst vq
 try dsimp only at hM
 replace H := H.bk ak
 clear ak
 refine s_val (x_not (b := r2) rfl) ?_
 refine zA (B (!r2)) rfl ?_
 refine s_nil ?_
 refine W.ret ?_
 have aB := M.e_pure hM
 exact ⟨_, resE_tmp rfl, ⟨(!r2), aB, rfl, (H.pk [])⟩⟩

def za2 (x : Bool) : M Bool :=
  M.pure x
theorem zcM {R : List Chunk}  (x : Bool)  {r : Bool} (hM : (za2 x).Ends r) (w : World) (H : St w w [] R) : Ret Tryz.prog 56 #[B x] w fun v w' => ∃ (y0 : Bool), y0 = r /\ v = B y0 /\ St w w' [] R := by
 refine ret_of_W Tryz.func56 rfl rfl rfl ?_
 refine W.seq ?_
 refine W.region rfl ?_
 refine zA (B false) rfl ?_
 refine s_nil ?_
 refine W.seq ?_
 refine W.region rfl ?_
 refine zM (B x) rfl ?_
 refine zA (B x) rfl ?_
 refine s_nil ?_
 refine W.ret ?_
 have aa := M.e_pure hM
 exact ⟨_, resE_tmp rfl, ⟨x, aa, rfl, H⟩⟩

def zaR (s_Sections : List Sect) (s_Marks : List Mrk) (s_Reaches : List Rch) (rows : List (List Int)) : (Bool × (List Bool) × Nat) -> M ((Bool × (List Bool) × Nat) ⊕ (Bool × (List Bool))) := fun (s2, ar, s3) =>
  bif decide ((s3 : Int) < (rows.length : Int)) then (
  M.grd (decide ((s3 : Int) < (rows.length : Int))) <|
  M.bind (zbF s_Sections s_Marks s_Reaches (rows.getD s3 ([])) ar) fun (r2, aa) =>
  bif !r2 then (
  M.pure (.inl (false, aa, s3 + 1)))
  else (
  M.pure (.inl (s2, aa, s3 + 1))))
  else (
  M.pure (.inr (s2, ar)))
def zas (s_Sections : List Sect) (s_Marks : List Mrk) (s_Reaches : List Rch) (many : Int) (rows : List (List Int)) : M (Bool × Int) :=
  M.bind (zal s_Sections s_Marks s_Reaches) fun x_ => match x_ with
  | (.inl r1) => (
  bif r1 != 0 then (
  M.pure (false, r1))
  else (
  M.fail))
  | (.inr aa) => (
  bif aa != 0 then (
  M.fail)
  else (
  bif decide (16 < (rows.length : Int)) then (
  M.pure (false, 3))
  else (
  M.bind (M.iter (zaR s_Sections s_Marks s_Reaches rows) (decide ((rows.length : Int) <= many), List.replicate 16 false, 0)) fun (s4, ab) =>
  M.grd ((!s4 || (decide ((0 : Int) <= (s_Marks.length : Int)) && decide ((s_Marks.length : Int) <= (16 : Int))))) <|
  M.bind (M.opt s4 (zbv (ab.take (Int.toNat (s_Marks.length : Int))) (fun ac => za2 ac)) false) fun r3 =>
  M.pure ((s4 && r3), 0))))
theorem zbq {R : List Chunk} {aJ : Cells} {ae : Value} {aK : Cells} {ab : Value} {aL : Cells} {ag : Value} {aM : Cells} {ak : Value} (s_Sections : List Sect) (s_Marks : List Mrk) (s_Reaches : List Rch) (many : Int) (rows : List (List Int)) (aN : Reads R aJ) (aO : Sl aJ ae s_Sections) (aP : Reads R aK) (aB : Sl aK ab s_Marks) (aQ : Reads R aL) (aR : Sl aL ag s_Reaches) (aS : Reads R aM) (ap : Sl aM ak rows) {r : (Bool × Int)} (hM : (zas s_Sections s_Marks s_Reaches many rows).Ends r) (w : World) (H : St w w [] R) : Ret Tryz.prog 12 #[.agg #[ae, ab, ag], I many, ak] w fun v w' => ∃ (y0 : Bool) (y1 : Int), (y0, y1) = r /\ v = .tuple #[B y0, I y1] /\ St w w' [] R := by
 refine ret_of_WB Tryz.func12 rfl rfl rfl ?_
 refine WB.seq ?_
 refine W.region rfl ?_
 refine t_box (v := .agg #[ae, ab, ag]) (cs := [ae, ab, ag]) H rfl rfl ?_
 intro aq bK H
 refine t_alloc (cs := [B false]) H Al4 rfl ?_
 intro aw bL H
 refine t_alloc (cs := [I 0]) H Al35 rfl ?_
 intro ai bM H
 refine s_nil ?_
 refine WB.seq ?_
 refine W.region rfl ?_
 refine s_val (x_ld (p := Pq aq) (v := .agg #[ae, ab, ag]) rfl (ldb_ag (ds := [ae, ab, ag]) Ag27 Sz27 (H.bl 2) rfl rfl)) ?_
 obtain ⟨bN, a7, hM⟩ := M.e_bind hM
 refine s_call cf49 [.agg #[ae, ab, ag]] rfl (zax s_Sections s_Marks s_Reaches (aN.app _) aO (aP.app _) aB (aQ.app _) aR a7 _ (H.gt 3)) ?_
 rintro vq bO (⟨r1, a8, hvq, au⟩ | ⟨ac, am, aT, ba, hvq, au⟩)
 ·subst a8
  subst vq
  try dsimp only at hM
  replace H := H.bk au
  clear au
  refine zM (.tuple #[.pointer none, I r1]) rfl ?_
  refine zX [.pointer none, I r1] (.pointer none) rfl rfl ?_
  refine zX [.pointer none, I r1] (I r1) rfl rfl ?_
  refine zA (.pointer none) rfl ?_
  refine t_sw 0 0 [I r1] (I r1) H rfl rfl Sz35 rfl rfl rfl rfl ?_
  intro bP H
  refine s_nil ?_
  refine WB.seq ?_
  refine W.block ?_
  refine W.seq ?_
  refine W.region rfl ?_
  refine s_val (x_ld (p := Pq ai) (v := I r1) rfl (ldb_sc Sc35 (H.bl 0) rfl)) ?_
  refine zC r1 0 (r1 != 0) rfl rfl rfl ?_
  refine zA (B (r1 != 0)) rfl ?_
  refine s_nil ?_
  refine W.cond (r1 != 0) rfl (fun aC => ?_) (fun aC => ?_)
  ·replace hM := M.e_t hM aC
   simp only [qy1, qy2, qy3, qy4, qy5, qy6, ne_eq, qy7] at aC
   refine W.seq ?_
   refine W.drawT (fun W => St w W [cBlk aq [ae, ab, ag] 27] R) (.l2 0 (.l 1 (.l 2 .nil)) 1 (.l 0 (.l 2 .nil))) mixed (by decide +kernel) rfl ?_
   intro bQ aj
   replace H := H.ext aj
   clear aj
   refine ⟨(H.pk [2]), ?_⟩
   refine t_l2 rfl rfl ?_ ?_
   ·skip
    refine s_val (x_ld (p := Pq ai) (v := I r1) rfl (ldb_sc Sc35 (H.bl 0) rfl)) ?_
    refine s_nil ⟨(H.pk [2]), ?_⟩
    refine t_l rfl ?_
    refine t_sw 1 0 [B false] (B false) H rfl rfl Sz4 rfl rfl rfl rfl ?_
    intro bR H
    refine s_nil ⟨(H.pk [2]), ?_⟩
    refine t_l rfl ?_
    refine t_sw 0 0 [I r1] (I r1) H rfl rfl Sz35 rfl rfl rfl rfl ?_
    intro bS H
    refine s_nil ⟨(H.pk [2]), ?_⟩
    refine t_nil ?_
    refine W.ret ?_
    have bb := (H.bl 1)
    have bc := (H.bl 0)
    have ao := M.e_pure hM
    exact ⟨_, (resE_ofn (vs := [B false, I r1]) rfl rfl (.cell (v := B false) rfl (run_loadVar_sc Sc4 bb rfl) <| .cell (v := I r1) rfl (run_loadVar_sc Sc35 bc rfl) <| .nil)), ⟨false, r1, ao, rfl, (H.pk [])⟩⟩
   skip
   refine t_sw 1 0 [B false] (B false) H rfl rfl Sz4 rfl rfl rfl rfl ?_
   intro bT H
   refine s_nil ⟨(H.pk [2]), ?_⟩
   refine t_l rfl ?_
   refine s_val (x_ld (p := Pq ai) (v := I r1) rfl (ldb_sc Sc35 (H.bl 0) rfl)) ?_
   refine s_nil ⟨(H.pk [2]), ?_⟩
   refine t_l rfl ?_
   refine t_sw 0 0 [I r1] (I r1) H rfl rfl Sz35 rfl rfl rfl rfl ?_
   intro bU H
   refine s_nil ⟨(H.pk [2]), ?_⟩
   refine t_nil ?_
   refine W.ret ?_
   have bf := (H.bl 1)
   have bg := (H.bl 0)
   have ao := M.e_pure hM
   exact ⟨_, (resE_ofn (vs := [B false, I r1]) rfl rfl (.cell (v := B false) rfl (run_loadVar_sc Sc4 bf rfl) <| .cell (v := I r1) rfl (run_loadVar_sc Sc35 bg rfl) <| .nil)), ⟨false, r1, ao, rfl, (H.pk [])⟩⟩
  replace hM := M.e_f hM aC
  exact (M.e_fail hM).elim
 subst ba
 subst vq
 try dsimp only at hM
 replace H := H.bk au
 clear au
 refine zM (.tuple #[Pq am, I ac]) rfl ?_
 refine zX [Pq am, I ac] (Pq am) rfl rfl ?_
 refine zX [Pq am, I ac] (I ac) rfl rfl ?_
 refine zA (Pq am) rfl ?_
 refine t_sw 2 0 [I ac] (I ac) H rfl rfl Sz35 rfl rfl rfl rfl ?_
 intro bV H
 refine s_nil ?_
 refine WB.seq ?_
 refine W.block ?_
 refine W.seq ?_
 refine W.region rfl ?_
 refine s_val (x_ld (p := Pq ai) (v := I ac) rfl (ldb_sc Sc35 (H.bl 2) rfl)) ?_
 refine zC ac 0 (ac != 0) rfl rfl rfl ?_
 refine zA (B (ac != 0)) rfl ?_
 refine s_nil ?_
 refine W.cond (ac != 0) rfl (fun aD => ?_) (fun aD => ?_)
 ·replace hM := M.e_t hM aD
  exact (M.e_fail hM).elim
 replace hM := M.e_f hM aD
 simp only [qy1, qy2, qy3, qy4, qy5, qy6, ne_eq, qy7] at aD
 refine W.seq ?_
 refine W.region rfl ?_
 refine zM ak rfl ?_
 have bW := (ap).len_le
 refine s_val (x_lenS T38.und rfl ap) ?_
 refine zC (rows.length : Int) 16 (decide (16 < (rows.length : Int))) rfl rfl rfl ?_
 refine zA (B (decide (16 < (rows.length : Int)))) rfl ?_
 refine s_nil ?_
 refine W.cond (decide (16 < (rows.length : Int))) rfl (fun ay => ?_) (fun ay => ?_)
 ·replace hM := M.e_t hM ay
  simp only [qy1, qy2, qy3, qy4, qy5, qy6, ne_eq, qy7] at ay
  refine W.seq ?_
  refine W.region rfl ?_
  refine t_sw 3 0 [B false] (B false) H rfl rfl Sz4 rfl rfl rfl rfl ?_
  intro bX H
  refine t_sw 2 0 [I 3] (I 3) H rfl rfl Sz35 rfl rfl rfl rfl ?_
  intro bY H
  refine s_nil ?_
  replace H := H.pk [2, 3]
  refine W.ret ?_
  have bh := (H.bl 1)
  have bi := (H.bl 0)
  have ao := M.e_pure hM
  exact ⟨_, (resE_ofn (vs := [B false, I 3]) rfl rfl (.cell (v := B false) rfl (run_loadVar_sc Sc4 bh rfl) <| .cell (v := I 3) rfl (run_loadVar_sc Sc35 bi rfl) <| .nil)), ⟨false, 3, ao, rfl, (H.pk [])⟩⟩
 replace hM := M.e_f hM ay
 simp only [qy1, qy2, qy3, qy4, qy5, qy6, ne_eq, qy7] at ay
 refine W.skip ?_
 refine WB.defer (d := 25) (v := .func (.func 53) #[] #[Pq aw, Pq ai]) (fv := .func 53) (cap := #[Pq aw, Pq ai]) (f := 53) (args := #[Pq aw, Pq ai]) rfl rfl rfl rfl rfl (fun _ => x_mf (fs := []) (cs := [Pq aw, Pq ai]) rfl rfl) (x_defer rfl) (x_invoke cf53) (fun w_ => catch_idle _ _ w_) ?_
 refine W.seq ?_
 refine W.region rfl ?_
 refine t_alloc (cs := encB (List.replicate 16 false)) H Al121 rfl ?_
 intro av bZ H
 have bj : (List.replicate 16 false).length = 16 := by simp
 refine s_nil ?_
 refine W.seq ?_
 refine W.region rfl ?_
 refine zM ak rfl ?_
 have b3 := (ap).len_le
 refine s_val (x_lenS T38.und rfl ap) ?_
 refine zM (I many) rfl ?_
 refine zC (rows.length : Int) many (decide ((rows.length : Int) <= many)) rfl rfl rfl ?_
 refine t_sw 4 0 [B (decide ((rows.length : Int) <= many))] (B (decide ((rows.length : Int) <= many))) H rfl rfl Sz4 rfl rfl rfl rfl ?_
 intro b4 H
 refine s_nil ?_
 refine W.seq ?_
 refine W.seq ?_
 refine W.region rfl ?_
 refine zM ak rfl ?_
 have b5 := (ap).len_le
 refine s_val (x_lenS T38.und rfl ap) ?_
 refine zM (I 0) rfl ?_
 refine s_nil ?_
 refine W.block ?_
 obtain ⟨bm, aF, bn⟩ := M.e_bind hM
 obtain ⟨b6, aF⟩ := M.e_iter aF
 refine W.loop (fun m σ W => ∃ (s2 : Bool) (ar : List Bool) (s3 : Nat) (ρ : Env), σ = upds ρ [(3, Pq aq), (6, Pq aw), (7, Pq ai), (8, Pq am), (9, Pq av), (30, ak), (31, I (rows.length : Int)), (32, I (s3 : Int))] /\ M.iterN (zaR s_Sections s_Marks s_Reaches rows) m (s2, ar, s3) = some bm /\ St w W [cBlk av (encB ar) 121, cBlk am [ae, ab, ag, .map (some aT)] 177, cMemI encSpt aT (zaa s_Sections s_Marks s_Reaches), cBlk ai [I ac] 35, cBlk aw [B s2] 4, cBlk aq [ae, ab, ag] 27] R /\ ar.length = 16) ?_ ?_
 ·exact ⟨_, decide ((rows.length : Int) <= many), List.replicate 16 false, 0, _, upds_of _ _ ⟨rfl, rfl, rfl, rfl, rfl, rfl, rfl, rfl, trivial⟩, aF, H, bj⟩
 rintro b7 σ b8 ⟨s2, ar, s3, ρ, rfl, aU, H, aV⟩
 obtain ⟨aW, aX, b9, hM, aG⟩ := M.e_iterN aU
 simp only [zaR] at hM
 clear aU
 refine W.seq ?_
 refine W.region rfl ?_
 refine zC (s3 : Int) (rows.length : Int) (decide ((s3 : Int) < (rows.length : Int))) rfl rfl rfl ?_
 refine s_nil ?_
 refine W.seq ?_
 refine W.cond (decide ((s3 : Int) < (rows.length : Int))) rfl (fun az => ?_) (fun az => ?_)
 ·replace hM := M.e_t hM az
  simp only [qy1, qy2, qy3, qy4, qy5, qy6, ne_eq, qy7] at az
  refine W.skip ?_
  refine W.seq ?_
  refine W.block ?_
  refine W.seq ?_
  refine W.region rfl ?_
  obtain ⟨bo, hM⟩ := M.e_grd hM
  simp only [Bool.and_eq_true, decide_eq_true_eq] at bo
  refine s_val (x_ix (a := ak) (b := I (s3 : Int)) (v := vat ak 1 (Int.toNat (s3 : Int))) rfl rfl (Sl.ix (α := List Int) T38.und T38.size ap (by omega) (by omega))) ?_
  obtain ⟨aA, bp, aE⟩ := List_at ap (i := (s3 : Int)) (by omega) (by omega)
  replace aE : Sl _ aA (rows.getD s3 ([])) := aE
  have cb := aE.len_le
  refine s_val (x_ld (p := vat ak 1 (Int.toNat (s3 : Int))) (v := aA) rfl (ld_sc Sc28 (At.mono (bp) (aS.at H)))) ?_
  refine zA aA rfl ?_
  refine s_nil ?_
  refine W.seq ?_
  refine W.region rfl ?_
  refine zM (Pq am) rfl ?_
  refine zM aA rfl ?_
  obtain ⟨cc, bq, hM⟩ := M.e_bind hM
  refine s_call cf54 [Pq am, aA, Pq av] rfl (zde s_Sections s_Marks s_Reaches (rows.getD s3 ([])) ar (aN.app _) aO (aP.app _) aB (aQ.app _) aR (Has.here (k := 0) rfl) (aS.app _) aE aV bq _ (H.gt 5)) ?_
  rintro vq cd ⟨r2, aY, br, hvq, au, aZ⟩
  subst br
  subst vq
  try dsimp only at hM
  replace H := H.bk au
  clear au
  refine s_val (x_not (b := r2) rfl) ?_
  refine s_nil ?_
  refine W.cond (!r2) rfl (fun aH => ?_) (fun aH => ?_)
  ·replace hM := M.e_t hM aH
   refine W.region rfl ?_
   refine t_sw 4 0 [B false] (B false) H rfl rfl Sz4 rfl rfl rfl rfl ?_
   intro ce H
   refine s_nil ?_
   refine W.region rfl ?_
   refine zR (s3 : Int) 1 ((s3 : Int) + 1) rfl rfl rfl (by omega) ?_
   refine zM (I ((s3 : Int) + 1)) rfl ?_
   refine s_nil ?_
   exact ⟨aW, aX, false, aY, s3 + 1, _, upds_of _ _ ⟨rfl, rfl, rfl, rfl, rfl, rfl, rfl, rfl, trivial⟩, M.e_inl hM aG, H, aZ⟩
  replace hM := M.e_f hM aH
  refine W.skip ?_
  refine W.region rfl ?_
  refine zR (s3 : Int) 1 ((s3 : Int) + 1) rfl rfl rfl (by omega) ?_
  refine zM (I ((s3 : Int) + 1)) rfl ?_
  refine s_nil ?_
  exact ⟨aW, aX, s2, aY, s3 + 1, _, upds_of _ _ ⟨rfl, rfl, rfl, rfl, rfl, rfl, rfl, rfl, trivial⟩, M.e_inl hM aG, H, aZ⟩
 replace hM := M.e_f hM az
 simp only [qy1, qy2, qy3, qy4, qy5, qy6, ne_eq, qy7] at az
 refine W.exit ?_
 have bt := M.e_inr hM aG
 subst bt
 replace hM := bn
 try dsimp only at hM
 replace H := H.pk [0, 3, 4, 5]
 refine W.seq ?_
 refine W.region rfl ?_
 refine s_val (x_ld (p := Pq aw) (v := B s2) rfl (ldb_sc Sc4 (H.bl 2) rfl)) ?_
 refine zM (B s2) rfl ?_
 refine g_val s2 (gy_t rfl) (fun hg => x_fa (a := Pq aq) (v := Oq aq 1) rfl (fa_blk (o := 0) Fd27_1 Sz24)) ?_
 refine g_val s2 (gy_t rfl) (fun hg => x_ld (p := Oq aq 1) (v := ab) (gd_of (c := s2) hg (Oq aq 1)) (ldb_sc Sc24 (H.bl 3) rfl)) ?_
 have cf := (aB).len_le
 refine g_val s2 (gy_t rfl) (fun hg => x_lenS T24.und (gd_of (c := s2) hg (ab)) aB) ?_
 obtain ⟨ax, hM⟩ := M.e_grd hM
 replace ax := M.imp_of ax
 simp only [Bool.and_eq_true, decide_eq_true_eq] at ax
 obtain ⟨bu, H, bv⟩ := St.freezeB H (k := 0) (n := 16) rfl (by have h_ := aV; omega) (by omega)
 replace H := H.nf
 have bw : s2 = true -> Sl bu.cells (.slice (some ⟨av, 0, none⟩) (Int.toNat (s_Marks.length : Int)) 16) (ar.take (Int.toNat (s_Marks.length : Int))) := fun hg => bv (s_Marks.length : Int) (by have aa := ax.resolve_left (by rw [hg]; decide); first | exact aa | exact aa.1 | exact aa.2 | omega | (have aj := hg; simp at aj; omega)) (by have aa := ax.resolve_left (by rw [hg]; decide); first | exact aa | exact aa.1 | exact aa.2 | omega | (have aj := hg; simp at aj; omega))
 refine g_val s2 (gy_t rfl) (fun hg => x_sl (v := Pq av) (u := (.slice (some ⟨av, 0, none⟩) (Int.toNat (s_Marks.length : Int)) 16)) (lo' := none) (hi' := some (I (s_Marks.length : Int))) (mx' := none) rfl rfl (congrArg some (gd_of (c := s2) hg (I (s_Marks.length : Int)))) rfl (run_sliceB Tryz.underlying121 Sz4 (by have aa := ax.resolve_left (by rw [hg]; decide); first | exact aa | exact aa.1 | exact aa.2 | omega | (have aj := hg; simp at aj; omega)) (by have aa := ax.resolve_left (by rw [hg]; decide); first | exact aa | exact aa.1 | exact aa.2 | omega | (have aj := hg; simp at aj; omega)))) ?_
 obtain ⟨r3, bx, hM⟩ := M.e_bind hM
 refine t_gcall s2 (gy_t rfl) cf55 (B r3) (fun _ => [(.slice (some ⟨av, 0, none⟩) (Int.toNat (s_Marks.length : Int)) 16), .func (.func 56) #[] #[]]) (fun hg => lst2 (gd_of (c := s2) hg ((.slice (some ⟨av, 0, none⟩) (Int.toNat (s_Marks.length : Int)) 16))) rfl) H (fun hg => (zcI (ar.take (Int.toNat (s_Marks.length : Int))) (fun aI => za2 aI) (Reads.of (k := 0) rfl roLe) (bw hg) ⟨56, [], rfl, cf56, fun a6 cg cj bz aI ck bA cn bB bC => by obtain ⟨_, rfl, rfl⟩ := bB; exact (zcM aI bC a6 (St.refl bA)).mono fun bz a6 ⟨co, bD, bE, bF⟩ => by subst bD; exact ⟨bE, bF⟩⟩ (M.e_opt bx hg) _ (H.give (A := []) rfl)).mono fun v_ w_ ⟨y_, ao, bG, H_⟩ => by subst ao; exact ⟨bG, H.via H_⟩) ?_
 intro cp H
 refine s_val (x_pand (b := s2) (r := r3) rfl (fun hb => gd_of (c := s2) (by first | exact hb | (rw [hb]; rfl) | simp_all) (B r3)) rfl) ?_
 refine t_sw 2 0 [B (s2 && r3)] (B (s2 && r3)) H rfl rfl Sz4 rfl rfl rfl rfl ?_
 intro cq H
 refine t_sw 1 0 [I 0] (I 0) H rfl rfl Sz35 rfl rfl rfl rfl ?_
 intro cr H
 refine s_nil ?_
 replace H := H.pk [1, 2]
 refine W.ret ?_
 intro ct bH
 replace H := bH _ _ _ H
 replace H := H.nf
 have bI := (H.bl 1)
 have bJ := (H.bl 0)
 have ao := M.e_pure hM
 exact ⟨_, (resE_ofn (vs := [B (s2 && r3), I 0]) rfl rfl (.cell (v := B (s2 && r3)) rfl (run_loadVar_sc Sc4 bI rfl) <| .cell (v := I 0) rfl (run_loadVar_sc Sc35 bJ rfl) <| .nil)), ⟨(s2 && r3), 0, ao, rfl, (H.pk [])⟩⟩

end Go.Proofs.YtlemgioaakecpaaGreat
end
