/- Part 5 of the texts on which the proof rests. Conditions: none. -/
import Derived.KernelRfl
import Derived.Test.YtcgalcbkkijkhaaZD4
set_option linter.unusedVariables false
set_option linter.unusedSimpArgs false
set_option linter.unusedSectionVars false
section
set_option maxRecDepth 100000
set_option maxHeartbeats 16000000
namespace Go.Proofs.Ytcgalcbkkijkhaa
open Go Go.Nm
def zam (s_bytes : List UInt8) (r2 : Int) (r3 : Int) : (Int × Int × Int × (List Yr) × (List Int)) -> M ((Int × Int × Int × (List Yr) × (List Int)) ⊕ (Int × Int × (List Yr) × (List Int) × (List Int) × (List Yr))) := fun (s2, s3, year, l, l2) =>
  bif decide (year <= (r2 + r3)) then (
  M.bind (zad s_bytes s2 s3 600) fun (r4, q13, q23) =>
  M.grd (decide ((l2.length + ([(r4 : Int)]).length) * 8 <= 140737488355328)) <|
  M.bind (zad s_bytes q13 q23 3) fun (r5, q14, q24) =>
  bif ((r5 == 0) && (decide ((l.length : Int) < 60))) then (
  M.bind (zad s_bytes q14 q24 40) fun (r6, q15, q25) =>
  M.grd (decide ((-9223372036854775808 : Int) <= (r4 - r6)) && decide ((r4 - r6) <= (9223372036854775807 : Int))) <|
  M.bind (zad s_bytes q15 q25 40) fun (r7, q16, q26) =>
  M.grd (decide ((-9223372036854775808 : Int) <= (r4 + r7)) && decide ((r4 + r7) <= (9223372036854775807 : Int))) <|
  M.grd (decide ((l.length + ([(⟨(year : Int), (max 0 (r4 - r6) : Int), (r4 + r7 : Int)⟩ : Yr)]).length) * 24 <= 140737488355328)) <|
  M.grd (decide ((-9223372036854775808 : Int) <= (year + 1)) && decide ((year + 1) <= (9223372036854775807 : Int))) <|
  M.pure (.inl (q16, q26, year + 1, l ++ ([(⟨(year : Int), (max 0 (r4 - r6) : Int), (r4 + r7 : Int)⟩ : Yr)]), l2 ++ ([(r4 : Int)]))))
  else (
  M.grd (decide ((-9223372036854775808 : Int) <= (year + 1)) && decide ((year + 1) <= (9223372036854775807 : Int))) <|
  M.pure (.inl (q14, q24, year + 1, l, l2 ++ ([(r4 : Int)])))))
  else (
  M.pure (.inr (s2, s3, l, l2, l2, l)))
def zaz (s_bytes : List UInt8) (r2 : Int) (r3 : Int) (l5 : List Int) (l6 : List Yr) : (Int × Int × Int × (List Old10)) -> M ((Int × Int × Int × (List Old10)) ⊕ ((List Old10) × (List Old10) × Int × Int)) := fun (s6, s7, n, l7) =>
  bif decide (0 < n) then (
  M.bind (za7 s_bytes s6 s7 l6 l7 r2 (r2 + r3) l5) fun (r0, r1, r22, r32, q18, q28) =>
  M.grd (decide ((l7.length + ([(⟨(r0 : Int), (r1 : Int), (r22 : Int), r32⟩ : Old10)]).length) * 48 <= 140737488355328)) <|
  M.grd (decide ((-9223372036854775808 : Int) <= (n - 1)) && decide ((n - 1) <= (9223372036854775807 : Int))) <|
  M.pure (.inl (q18, q28, n - 1, l7 ++ ([(⟨(r0 : Int), (r1 : Int), (r22 : Int), r32⟩ : Old10)]))))
  else (
  M.pure (.inr (l7, l7, s6, s7)))
def zaX (s_bytes : List UInt8) (s_used : Int) (s_mix : Int) (most : Int) : M ((List Yr) × (List Old10) × Int × Int × (List Int) × Int × Int) :=
  M.bind (zad s_bytes s_used s_mix 2000) fun (r2, q1, q2) =>
  M.bind (zad s_bytes q1 q2 most) fun (r3, q12, q22) =>
  M.grd (decide ((-9223372036854775808 : Int) <= (r2 + r3)) && decide ((r2 + r3) <= (9223372036854775807 : Int))) <|
  M.bind (M.iter (zam s_bytes r2 r3) (q12, q22, r2, [], [])) fun (s4, s5, l3, l4, l5, l6) =>
  M.bind (zad s_bytes s4 s5 4) fun (r8, q17, q27) =>
  M.bind (M.iter (zaz s_bytes r2 r3 l5 l6) (q17, q27, r8, [])) fun (l8, l9, s8, s9) =>
  M.pure (l6, l9, r2, (r2 + r3), l5, s8, s9)
theorem zcA {R : List Chunk} {b_s : Nat} {C_s_bytes : Cells} {v_s_bytes : Value} (s_bytes : List UInt8) (s_used : Int) (s_mix : Int) (most : Int) (hC_s_bytes : Reads R C_s_bytes) (hs_s_bytes : Sl C_s_bytes v_s_bytes s_bytes) {r : ((List Yr) × (List Old10) × Int × Int × (List Int) × Int × Int)} (hM : (zaX s_bytes s_used s_mix most).Ends r) (w : World) (H : St w w [cBlk b_s [v_s_bytes, I s_used, I s_mix] 101] R) : Ret Try.prog 11 #[.pointer (some ⟨b_s, 0, none⟩), I most] w fun v w' => ∃ (y0 : List Yr) (y1 : List Old10) (y2 : Int) (y3 : Int) (y4 : List Int) (y5 : Int) (y6 : Int) (u0 : Value) (u1 : Value) (rr2 : List (Raw 3)) (Bs3 : Base) (u4 : Value), (y0, y1, y2, y3, y4, y5, y6) = r /\ v = .tuple #[.agg #[u0, u1, I y2, I y3], u4] /\ St w w' [cOwn (α := Yr) 41 u0 y0, cOwn (α := Raw 3) 43 u1 rr2, cRo Bs3, cOwn (α := Int) 3 u4 y4, cBlk b_s [v_s_bytes, I y5, I y6] 101] R /\ RepR (α := Old10) Bs3.cells rr2 y1 := by
 refine ret_of_W Try.func11 rfl rfl rfl ?_
 refine W.seq ?_
 refine W.region rfl ?_
 refine t_alloc (cs := [.slice none 0 0, .slice none 0 0, I 0, I 0]) H Al26 rfl ?_
 intro b_1 w1z H
 refine s_val (x_as (v := .slice none 0 0) rfl) ?_
 refine s_nil ?_
 refine W.seq ?_
 refine W.region rfl ?_
 refine s_val (x_mv (v := .pointer (some ⟨b_s, 0, none⟩)) rfl) ?_
 obtain ⟨r3z, hx2z, hM⟩ := M.e_bind hM
 refine s_call cf14 [.pointer (some ⟨b_s, 0, none⟩), I 2000] rfl (zaa s_bytes s_used s_mix 2000 (hC_s_bytes.app _) hs_s_bytes hx2z _ (St.give (L := [cBlk b_s [v_s_bytes, I s_used, I s_mix] 101, cBlk b_1 [.slice none 0 0, .slice none 0 0, I 0, I 0] 26]) (A := [cBlk b_s [v_s_bytes, I s_used, I s_mix] 101]) (T := [cBlk b_1 [.slice none 0 0, .slice none 0 0, I 0, I 0] 26]) (H.pick [1, 0] (by decide) rfl) rfl)) ?_
 rintro vq w4z ⟨r2, q1, q2, hr5z, hvq, H2_⟩
 subst hr5z
 subst vq
 try dsimp only at hM
 replace H : St w w4z [cBlk b_s [v_s_bytes, I q1, I q2] 101, cBlk b_1 [.slice none 0 0, .slice none 0 0, I 0, I 0] 26] R := H.pick [1, 0] (by decide) rfl |>.back H2_ rfl
 clear H2_
 refine s_val (x_bld (ps := [(2, I r2)]) (zs := [.slice none 0 0, .slice none 0 0, I 0, I 0]) (L' := [.slice none 0 0, .slice none 0 0, I r2, I 0]) rfl Try.underlying26 Al26 rfl (Bd26 Try.underlying26) (.cons (cs := [I r2]) rfl rfl rfl rfl rfl <| .nil)) ?_
 refine t_alloc (cs := [.slice none 0 0, .slice none 0 0, I 0, I 0]) H Al26 rfl ?_
 intro b_2 w6z H
 refine t_st (k := 0) (b := b_2) (off := 0) (cs := [.slice none 0 0, .slice none 0 0, I 0, I 0]) (vs := [.slice none 0 0, .slice none 0 0, I r2, I 0]) (cs' := [.slice none 0 0, .slice none 0 0, I r2, I 0]) (v := .agg #[.slice none 0 0, .slice none 0 0, I r2, I 0]) (L' := [cBlk b_2 [.slice none 0 0, .slice none 0 0, I r2, I 0] 26, cBlk b_s [v_s_bytes, I q1, I q2] 101, cBlk b_1 [.slice none 0 0, .slice none 0 0, I 0, I 0] 26]) H rfl rfl rfl Sz26 rfl rfl rfl rfl rfl rfl ?_
 intro w7z H
 refine s_nil ?_
 refine W.seq ?_
 refine W.drawT (fun W => St w W [cBlk b_1 [.slice none 0 0, .slice none 0 0, I 0, I 0] 26] R) (.q 0 (.q 2 (.q 3 (.l2 1 (.l 4 (.q 5 (.q 6 (.l 7 .nil)))) 4 (.l 1 (.q 5 (.q 6 (.l 7 .nil)))))))) mixed (by decide +kernel) rfl ?_
 intro w8z hx_
 replace H : St w w8z [cBlk b_2 [.slice none 0 0, .slice none 0 0, I r2, I 0] 26, cBlk b_s [v_s_bytes, I q1, I q2] 101, cBlk b_1 [.slice none 0 0, .slice none 0 0, I 0, I 0] 26] R := H.ext hx_
 clear hx_
 refine ⟨(H.pick [2] (by decide) rfl), ?_⟩
 refine t_q rfl (fun w' H => x_fa (a := .pointer (some ⟨b_2, 0, none⟩)) (v := .pointer (some ⟨b_2, 2, none⟩)) rfl (fa_blk (o := 0) Fd26_2 Sz3)) ?_
 refine t_q rfl (fun w' H => x_mv (v := .pointer (some ⟨b_s, 0, none⟩)) rfl) ?_
 refine t_q rfl (fun w' H => x_mv (v := I most) rfl) ?_
 refine t_l2 rfl rfl ?_ ?_
 ·skip
  refine s_val (x_ld (p := .pointer (some ⟨b_2, 2, none⟩)) (v := I r2) rfl (ldb_sc Sc3 (H.blk (k := 0) rfl) rfl)) ?_
  refine s_nil ⟨(H.pick [2] (by decide) rfl), ?_⟩
  refine t_l rfl ?_
  obtain ⟨r16z, hx15z, hM⟩ := M.e_bind hM
  refine s_call cf14 [.pointer (some ⟨b_s, 0, none⟩), I most] rfl (zaa s_bytes q1 q2 most (hC_s_bytes.app _) hs_s_bytes hx15z _ (St.give (L := [cBlk b_s [v_s_bytes, I q1, I q2] 101, cBlk b_2 [.slice none 0 0, .slice none 0 0, I r2, I 0] 26, cBlk b_1 [.slice none 0 0, .slice none 0 0, I 0, I 0] 26]) (A := [cBlk b_s [v_s_bytes, I q1, I q2] 101]) (T := [cBlk b_2 [.slice none 0 0, .slice none 0 0, I r2, I 0] 26, cBlk b_1 [.slice none 0 0, .slice none 0 0, I 0, I 0] 26]) (H.pick [1, 0, 2] (by decide) rfl) rfl)) ?_
  rintro vq w17z ⟨r3, q12, q22, hr18z, hvq, H2_⟩
  subst hr18z
  subst vq
  try dsimp only at hM
  replace H : St w w17z [cBlk b_s [v_s_bytes, I q12, I q22] 101, cBlk b_2 [.slice none 0 0, .slice none 0 0, I r2, I 0] 26, cBlk b_1 [.slice none 0 0, .slice none 0 0, I 0, I 0] 26] R := H.pick [1, 0, 2] (by decide) rfl |>.back H2_ rfl
  clear H2_
  refine s_nil ⟨(H.pick [2] (by decide) rfl), ?_⟩
  obtain ⟨sd19z, hM⟩ := M.e_grd hM
  simp only [Bool.and_eq_true, decide_eq_true_eq] at sd19z
  refine t_q rfl (fun w' H => x_ari (a := r2) (b := r3) (r := r2 + r3) rfl rfl rfl (by omega)) ?_
  refine t_q rfl (fun w' H => x_fa (a := .pointer (some ⟨b_2, 0, none⟩)) (v := .pointer (some ⟨b_2, 3, none⟩)) rfl (fa_blk (o := 0) Fd26_3 Sz3)) ?_
  refine t_l rfl ?_
  refine t_st (k := 1) (b := b_2) (off := 3) (cs := [.slice none 0 0, .slice none 0 0, I r2, I 0]) (vs := [I (r2 + r3)]) (cs' := [.slice none 0 0, .slice none 0 0, I r2, I (r2 + r3)]) (v := I (r2 + r3)) (L' := [cBlk b_s [v_s_bytes, I q12, I q22] 101, cBlk b_2 [.slice none 0 0, .slice none 0 0, I r2, I (r2 + r3)] 26, cBlk b_1 [.slice none 0 0, .slice none 0 0, I 0, I 0] 26]) H rfl rfl rfl Sz3 rfl rfl rfl rfl rfl rfl ?_
  intro w20z H
  refine s_nil ⟨(H.pick [2] (by decide) rfl), ?_⟩
  refine t_nil ?_
  refine W.seq ?_
  refine W.region rfl ?_
  refine s_val (x_as (v := .slice none 0 0) rfl) ?_
  refine s_nil ?_
  refine W.seq ?_
  refine W.seq ?_
  refine W.region rfl ?_
  refine s_val (x_fa (a := .pointer (some ⟨b_2, 0, none⟩)) (v := .pointer (some ⟨b_2, 2, none⟩)) rfl (fa_blk (o := 0) Fd26_2 Sz3)) ?_
  refine s_val (x_ld (p := .pointer (some ⟨b_2, 2, none⟩)) (v := I r2) rfl (ldb_sc Sc3 (H.blk (k := 1) rfl) rfl)) ?_
  refine s_val (x_as (v := I r2) rfl) ?_
  refine s_nil ?_
  refine W.block ?_
  replace H : St w w20z [cOwn (α := Yr) 41 (.slice none 0 0) ([]), cBlk b_s [v_s_bytes, I q12, I q22] 101, cBlk b_2 [.slice none 0 0, .slice none 0 0, I r2, I (r2 + r3)] 26, cBlk b_1 [.slice none 0 0, .slice none 0 0, I 0, I 0] 26] R := H.nilOwn (α := Yr) 41
  replace H : St w w20z [cOwn (α := Int) 3 (.slice none 0 0) ([]), cOwn (α := Yr) 41 (.slice none 0 0) ([]), cBlk b_s [v_s_bytes, I q12, I q22] 101, cBlk b_2 [(.slice none 0 0), .slice none 0 0, I r2, I (r2 + r3)] 26, cBlk b_1 [.slice none 0 0, .slice none 0 0, I 0, I 0] 26] R := H.nilOwn (α := Int) 3
  obtain ⟨ex21z, hi22z, hk23z⟩ := M.e_bind hM
  obtain ⟨m0_, hi22z⟩ := M.e_iter hi22z
  refine W.loop (fun m σ W => ∃ (s2 : Int) (s3 : Int) (year : Int) (l : List Yr) (l2 : List Int) (v_l : Value) (v_l2 : Value) (ρ : Env), σ = upds ρ [(0, .pointer (some ⟨b_s, 0, none⟩)), (4, .pointer (some ⟨b_1, 0, none⟩)), (6, .pointer (some ⟨b_2, 0, none⟩)), (7, v_l2), (8, I year)] /\ M.iterN (zam s_bytes r2 r3) m (s2, s3, year, l, l2) = some ex21z /\ St w W [cOwn (α := Int) 3 v_l2 l2, cOwn (α := Yr) 41 v_l l, cBlk b_s [v_s_bytes, I s2, I s3] 101, cBlk b_2 [v_l, .slice none 0 0, I r2, I (r2 + r3)] 26, cBlk b_1 [.slice none 0 0, .slice none 0 0, I 0, I 0] 26] R) ?_ ?_
  ·exact ⟨_, q12, q22, r2, [], [], (.slice none 0 0), (.slice none 0 0), _, upds_of _ _ ⟨rfl, rfl, rfl, rfl, rfl, trivial⟩, hi22z, H⟩
  rintro m26z σ w24z ⟨s2, s3, year, l, l2, v_l, v_l2, ρ, rfl, hI25z, H⟩
  obtain ⟨m27z, lt28z, x29z, hM, hN30z⟩ := M.e_iterN hI25z
  simp only [zam] at hM
  clear hI25z
  refine W.seq ?_
  refine W.seq ?_
  refine W.region rfl ?_
  refine s_val (x_mv (v := I year) rfl) ?_
  refine s_val (x_fa (a := .pointer (some ⟨b_2, 0, none⟩)) (v := .pointer (some ⟨b_2, 3, none⟩)) rfl (fa_blk (o := 0) Fd26_3 Sz3)) ?_
  refine s_val (x_ld (p := .pointer (some ⟨b_2, 3, none⟩)) (v := I (r2 + r3)) rfl (ldb_sc Sc3 (H.blk (k := 3) rfl) rfl)) ?_
  refine s_val (x_cmp (kd := .i64) (a := year) (b := r2 + r3) (r := decide (year <= (r2 + r3))) rfl rfl rfl) ?_
  refine s_nil ?_
  refine W.cond (decide (year <= (r2 + r3))) rfl (fun c31z => ?_) (fun c31z => ?_)
  ·replace hM := M.e_t hM c31z
   simp only [decide_eq_true_eq, decide_eq_false_iff_not, beq_iff_eq, bne_iff_ne, beq_eq_false_iff_ne, bne_eq_false_iff_eq, ne_eq, Decidable.not_not] at c31z
   refine W.skip ?_
   refine W.seq ?_
   refine W.block ?_
   refine W.seq ?_
   refine W.region rfl ?_
   refine s_val (x_mv (v := .pointer (some ⟨b_s, 0, none⟩)) rfl) ?_
   obtain ⟨r33z, hx32z, hM⟩ := M.e_bind hM
   refine s_call cf14 [.pointer (some ⟨b_s, 0, none⟩), I 600] rfl (zaa s_bytes s2 s3 600 (hC_s_bytes.app _) hs_s_bytes hx32z _ (St.give (L := [cBlk b_s [v_s_bytes, I s2, I s3] 101, cOwn (α := Int) 3 v_l2 l2, cOwn (α := Yr) 41 v_l l, cBlk b_2 [v_l, .slice none 0 0, I r2, I (r2 + r3)] 26, cBlk b_1 [.slice none 0 0, .slice none 0 0, I 0, I 0] 26]) (A := [cBlk b_s [v_s_bytes, I s2, I s3] 101]) (T := [cOwn (α := Int) 3 v_l2 l2, cOwn (α := Yr) 41 v_l l, cBlk b_2 [v_l, .slice none 0 0, I r2, I (r2 + r3)] 26, cBlk b_1 [.slice none 0 0, .slice none 0 0, I 0, I 0] 26]) (H.pick [2, 0, 1, 3, 4] (by decide) rfl) rfl)) ?_
   rintro vq w34z ⟨r4, q13, q23, hr35z, hvq, H2_⟩
   subst hr35z
   subst vq
   try dsimp only at hM
   replace H : St w w34z [cBlk b_s [v_s_bytes, I q13, I q23] 101, cOwn (α := Int) 3 v_l2 l2, cOwn (α := Yr) 41 v_l l, cBlk b_2 [v_l, .slice none 0 0, I r2, I (r2 + r3)] 26, cBlk b_1 [.slice none 0 0, .slice none 0 0, I 0, I 0] 26] R := H.pick [2, 0, 1, 3, 4] (by decide) rfl |>.back H2_ rfl
   clear H2_
   refine s_val (x_as (v := I r4) rfl) ?_
   refine s_nil ?_
   refine W.seq ?_
   refine W.region rfl ?_
   refine s_val (x_mv (v := v_l2) rfl) ?_
   refine s_val (x_mv (v := I r4) rfl) ?_
   refine t_bs (α := Int) T27 [I r4] [(r4 : Int)] H rfl (.cons rfl (Flat.rep_enc _ (r4 : Int)) <| .nil) rfl rfl rfl ?_
   intro v36z w37z H
   obtain ⟨sd38z, hM⟩ := M.e_grd hM
   simp only [Bool.and_eq_true, decide_eq_true_eq] at sd38z
   refine t_app (α := Int) (k := 2) (l := l2) (l2 := [(r4 : Int)]) (l' := l2 ++ ([(r4 : Int)])) (vy := v36z) T27 rfl H rfl rfl rfl (ownSl (H.get (k := 0) rfl)) (ownLe _ (H.get (k := 0) rfl)) (rfl) (by first | omega | (simp only [List.length_nil] at *; omega)) ?_
   intro v39z w40z H
   replace H : St w w40z [cOwn (α := Int) 3 v36z ([(r4 : Int)]), cBlk b_s [v_s_bytes, I q13, I q23] 101, cOwn (α := Int) 3 v39z (l2 ++ ([(r4 : Int)])), cOwn (α := Yr) 41 v_l l, cBlk b_2 [v_l, .slice none 0 0, I r2, I (r2 + r3)] 26, cBlk b_1 [.slice none 0 0, .slice none 0 0, I 0, I 0] 26] R := H
   refine s_val (x_as (v := v39z) rfl) ?_
   refine s_nil ?_
   refine W.seq ?_
   refine W.region rfl ?_
   refine s_val (x_mv (v := .pointer (some ⟨b_s, 0, none⟩)) rfl) ?_
   obtain ⟨r42z, hx41z, hM⟩ := M.e_bind hM
   refine s_call cf14 [.pointer (some ⟨b_s, 0, none⟩), I 3] rfl (zaa s_bytes q13 q23 3 (hC_s_bytes.app _) hs_s_bytes hx41z _ (St.give (L := [cBlk b_s [v_s_bytes, I q13, I q23] 101, cOwn (α := Int) 3 v36z ([(r4 : Int)]), cOwn (α := Int) 3 v39z (l2 ++ ([(r4 : Int)])), cOwn (α := Yr) 41 v_l l, cBlk b_2 [v_l, .slice none 0 0, I r2, I (r2 + r3)] 26, cBlk b_1 [.slice none 0 0, .slice none 0 0, I 0, I 0] 26]) (A := [cBlk b_s [v_s_bytes, I q13, I q23] 101]) (T := [cOwn (α := Int) 3 v36z ([(r4 : Int)]), cOwn (α := Int) 3 v39z (l2 ++ ([(r4 : Int)])), cOwn (α := Yr) 41 v_l l, cBlk b_2 [v_l, .slice none 0 0, I r2, I (r2 + r3)] 26, cBlk b_1 [.slice none 0 0, .slice none 0 0, I 0, I 0] 26]) (H.pick [1, 0, 2, 3, 4, 5] (by decide) rfl) rfl)) ?_
   rintro vq w43z ⟨r5, q14, q24, hr44z, hvq, H2_⟩
   subst hr44z
   subst vq
   try dsimp only at hM
   replace H : St w w43z [cBlk b_s [v_s_bytes, I q14, I q24] 101, cOwn (α := Int) 3 v36z ([(r4 : Int)]), cOwn (α := Int) 3 v39z (l2 ++ ([(r4 : Int)])), cOwn (α := Yr) 41 v_l l, cBlk b_2 [v_l, .slice none 0 0, I r2, I (r2 + r3)] 26, cBlk b_1 [.slice none 0 0, .slice none 0 0, I 0, I 0] 26] R := H.pick [1, 0, 2, 3, 4, 5] (by decide) rfl |>.back H2_ rfl
   clear H2_
   refine s_val (x_cmp (kd := .i64) (a := r5) (b := 0) (r := r5 == 0) rfl rfl rfl) ?_
   refine s_val (x_mv (v := B (r5 == 0)) rfl) ?_
   refine g_val (r5 == 0) (gy_t rfl) (fun hg => x_fa (a := .pointer (some ⟨b_2, 0, none⟩)) (v := .pointer (some ⟨b_2, 0, none⟩)) rfl (fa_blk (o := 0) Fd26_0 Sz23)) ?_
   refine g_val (r5 == 0) (gy_t rfl) (fun hg => x_ld (p := .pointer (some ⟨b_2, 0, none⟩)) (v := v_l) (gd_of (c := r5 == 0) hg (.pointer (some ⟨b_2, 0, none⟩))) (ldb_sc Sc23 (H.blk (k := 4) rfl) rfl)) ?_
   refine g_val (r5 == 0) (gy_t rfl) (fun hg => x_lenS T23.und (gd_of (c := r5 == 0) hg (v_l)) (ownSl (H.get (k := 3) rfl))) ?_
   refine g_val (r5 == 0) (gy_t rfl) (fun hg => x_cmp (kd := .i64) (a := (l.length : Int)) (b := 60) (r := decide ((l.length : Int) < 60)) (gd_of (c := r5 == 0) hg (I (l.length : Int))) rfl rfl) ?_
   refine s_val (x_pand (b := r5 == 0) (r := decide ((l.length : Int) < 60)) rfl (fun hb => gd_of (c := r5 == 0) (by first | exact hb | (rw [hb]; rfl) | simp_all) (B (decide ((l.length : Int) < 60)))) rfl) ?_
   refine s_nil ?_
   refine W.cond ((r5 == 0) && (decide ((l.length : Int) < 60))) rfl (fun c46z => ?_) (fun c46z => ?_)
   ·replace hM := M.e_t hM c46z
    refine W.drawT (fun W => St w W [cOwn (α := Int) 3 v36z ([(r4 : Int)]), cOwn (α := Int) 3 v39z (l2 ++ ([(r4 : Int)])), cBlk b_1 [.slice none 0 0, .slice none 0 0, I 0, I 0] 26] R) (.q 0 (.q 2 (.q 3 (.q 4 (.q 8 (.q 9 (.l2 1 (.l 5 (.q 6 (.q 7 (.l 10 (.q 11 (.q 12 (.q 13 (.l 14 (.l 15 (.q 16 (.l 17 .nil))))))))))) 5 (.q 6 (.q 7 (.l2 1 (.l 10 (.q 11 (.q 12 (.q 13 (.l 14 (.l 15 (.q 16 (.l 17 .nil)))))))) 10 (.q 11 (.q 12 (.q 13 (.l2 1 (.l 14 (.l 15 (.q 16 (.l 17 .nil)))) 14 (.l 1 (.l 15 (.q 16 (.l 17 .nil)))))))))))))))))) mixed (by decide +kernel) rfl ?_
    intro w47z hx_
    replace H : St w w47z [cBlk b_s [v_s_bytes, I q14, I q24] 101, cOwn (α := Int) 3 v36z ([(r4 : Int)]), cOwn (α := Int) 3 v39z (l2 ++ ([(r4 : Int)])), cOwn (α := Yr) 41 v_l l, cBlk b_2 [v_l, .slice none 0 0, I r2, I (r2 + r3)] 26, cBlk b_1 [.slice none 0 0, .slice none 0 0, I 0, I 0] 26] R := H.ext hx_
    clear hx_
    refine ⟨(H.pick [1, 2, 5] (by decide) rfl), ?_⟩
    refine t_q rfl (fun w' H => x_fa (a := .pointer (some ⟨b_2, 0, none⟩)) (v := .pointer (some ⟨b_2, 0, none⟩)) rfl (fa_blk (o := 0) Fd26_0 Sz23)) ?_
    refine t_q rfl (fun w' H => x_mv (v := I year) rfl) ?_
    refine t_q rfl (fun w' H => x_mv (v := I r4) rfl) ?_
    refine t_q rfl (fun w' H => x_mv (v := .pointer (some ⟨b_s, 0, none⟩)) rfl) ?_
    refine t_q rfl (fun w' H => x_mv (v := I r4) rfl) ?_
    refine t_q rfl (fun w' H => x_mv (v := .pointer (some ⟨b_s, 0, none⟩)) rfl) ?_
    refine t_l2 rfl rfl ?_ ?_
    ·skip
     refine s_val (x_ld (p := .pointer (some ⟨b_2, 0, none⟩)) (v := v_l) rfl (ldb_sc Sc23 (H.blk (k := 4) rfl) rfl)) ?_
     have hvc_q64z := Sl.cells (ownSl (H.get (k := 3) rfl))
     have hvo_q64z := Sl.oc (ownSl (H.get (k := 3) rfl))
     refine s_nil ⟨(H.pick [1, 2, 5] (by decide) rfl), ?_⟩
     refine t_l rfl ?_
     obtain ⟨r66z, hx65z, hM⟩ := M.e_bind hM
     refine s_call cf14 [.pointer (some ⟨b_s, 0, none⟩), I 40] rfl (zaa s_bytes q14 q24 40 (hC_s_bytes.app _) hs_s_bytes hx65z _ (St.give (T := [cOwn (α := Int) 3 v36z ([(r4 : Int)]), cOwn (α := Int) 3 v39z (l2 ++ ([(r4 : Int)])), cOwn (α := Yr) 41 v_l l, cBlk b_2 [v_l, .slice none 0 0, I r2, I (r2 + r3)] 26, cBlk b_1 [.slice none 0 0, .slice none 0 0, I 0, I 0] 26]) H rfl)) ?_
     rintro vq w67z ⟨r6, q15, q25, hr68z, hvq, H2_⟩
     subst hr68z
     subst vq
     try dsimp only at hM
     replace H : St w w67z [cBlk b_s [v_s_bytes, I q15, I q25] 101, cOwn (α := Int) 3 v36z ([(r4 : Int)]), cOwn (α := Int) 3 v39z (l2 ++ ([(r4 : Int)])), cOwn (α := Yr) 41 v_l l, cBlk b_2 [v_l, .slice none 0 0, I r2, I (r2 + r3)] 26, cBlk b_1 [.slice none 0 0, .slice none 0 0, I 0, I 0] 26] R := H.back H2_ rfl
     clear H2_
     refine s_nil ⟨(H.pick [1, 2, 5] (by decide) rfl), ?_⟩
     obtain ⟨sd69z, hM⟩ := M.e_grd hM
     simp only [Bool.and_eq_true, decide_eq_true_eq] at sd69z
     refine t_q rfl (fun w' H => x_ari (a := r4) (b := r6) (r := r4 - r6) rfl rfl rfl (by omega)) ?_
     refine t_q rfl (fun w' H => x_max (kd := .i64) (a := 0) (b := r4 - r6) rfl rfl) ?_
     refine t_l rfl ?_
     obtain ⟨r71z, hx70z, hM⟩ := M.e_bind hM
     refine s_call cf14 [.pointer (some ⟨b_s, 0, none⟩), I 40] rfl (zaa s_bytes q15 q25 40 (hC_s_bytes.app _) hs_s_bytes hx70z _ (St.give (T := [cOwn (α := Int) 3 v36z ([(r4 : Int)]), cOwn (α := Int) 3 v39z (l2 ++ ([(r4 : Int)])), cOwn (α := Yr) 41 v_l l, cBlk b_2 [v_l, .slice none 0 0, I r2, I (r2 + r3)] 26, cBlk b_1 [.slice none 0 0, .slice none 0 0, I 0, I 0] 26]) H rfl)) ?_
     rintro vq w72z ⟨r7, q16, q26, hr73z, hvq, H2_⟩
     subst hr73z
     subst vq
     try dsimp only at hM
     replace H : St w w72z [cBlk b_s [v_s_bytes, I q16, I q26] 101, cOwn (α := Int) 3 v36z ([(r4 : Int)]), cOwn (α := Int) 3 v39z (l2 ++ ([(r4 : Int)])), cOwn (α := Yr) 41 v_l l, cBlk b_2 [v_l, .slice none 0 0, I r2, I (r2 + r3)] 26, cBlk b_1 [.slice none 0 0, .slice none 0 0, I 0, I 0] 26] R := H.back H2_ rfl
     clear H2_
     refine s_nil ⟨(H.pick [1, 2, 5] (by decide) rfl), ?_⟩
     obtain ⟨sd74z, hM⟩ := M.e_grd hM
     simp only [Bool.and_eq_true, decide_eq_true_eq] at sd74z
     refine t_q rfl (fun w' H => x_ari (a := r4) (b := r7) (r := r4 + r7) rfl rfl rfl (by omega)) ?_
     refine t_q rfl (fun w' H => x_bld (ps := [(0, I (max 0 (r4 - r6))), (1, I (r4 + r7))]) (zs := [I 0, I 0]) (L' := [I (max 0 (r4 - r6)), I (r4 + r7)]) rfl Try.underlying35 Al35 rfl (Bd35 Try.underlying35) (.cons (cs := [I (max 0 (r4 - r6))]) rfl rfl rfl rfl rfl <| .cons (cs := [I (r4 + r7)]) rfl rfl rfl rfl rfl <| .nil)) ?_
     refine t_q rfl (fun w' H => x_bld (ps := [(0, I year), (1, .agg #[I (max 0 (r4 - r6)), I (r4 + r7)])]) (zs := [I 0, I 0, I 0]) (L' := [I year, I (max 0 (r4 - r6)), I (r4 + r7)]) rfl Try.underlying41 Al41 rfl (Bd41 Try.underlying41) (.cons (cs := [I year]) rfl rfl rfl rfl rfl <| .cons (cs := [I (max 0 (r4 - r6)), I (r4 + r7)]) rfl rfl rfl rfl rfl <| .nil)) ?_
     refine t_l rfl ?_
     refine t_bs (α := Yr) T23 [.agg #[I year, I (max 0 (r4 - r6)), I (r4 + r7)]] [(⟨(year : Int), (max 0 (r4 - r6) : Int), (r4 + r7 : Int)⟩ : Yr)] H rfl (.cons rfl (Flat.rep_enc _ (⟨(year : Int), (max 0 (r4 - r6) : Int), (r4 + r7 : Int)⟩ : Yr)) <| .nil) rfl rfl rfl ?_
     intro v75z w76z H
     have hvc_q77z := Sl.cells (ownSl (H.get (k := 0) rfl))
     have hvo_q77z := Sl.oc (ownSl (H.get (k := 0) rfl))
     refine s_nil ⟨(H.pick [2, 3, 6] (by decide) rfl), ?_⟩
     refine t_l rfl ?_
     obtain ⟨sd78z, hM⟩ := M.e_grd hM
     simp only [Bool.and_eq_true, decide_eq_true_eq] at sd78z
     refine t_app (α := Yr) (k := 4) (l := l) (l2 := [(⟨(year : Int), (max 0 (r4 - r6) : Int), (r4 + r7 : Int)⟩ : Yr)]) (l' := l ++ ([(⟨(year : Int), (max 0 (r4 - r6) : Int), (r4 + r7 : Int)⟩ : Yr)])) (vy := v75z) T23 rfl H rfl rfl rfl (ownSl (H.get (k := 0) rfl)) (ownLe _ (H.get (k := 0) rfl)) (rfl) (by first | omega | (simp only [List.length_nil] at *; omega)) ?_
     intro v79z w80z H
     replace H : St w w80z [cOwn (α := Yr) 41 v75z ([(⟨(year : Int), (max 0 (r4 - r6) : Int), (r4 + r7 : Int)⟩ : Yr)]), cBlk b_s [v_s_bytes, I q16, I q26] 101, cOwn (α := Int) 3 v36z ([(r4 : Int)]), cOwn (α := Int) 3 v39z (l2 ++ ([(r4 : Int)])), cOwn (α := Yr) 41 v79z (l ++ ([(⟨(year : Int), (max 0 (r4 - r6) : Int), (r4 + r7 : Int)⟩ : Yr)])), cBlk b_2 [v_l, .slice none 0 0, I r2, I (r2 + r3)] 26, cBlk b_1 [.slice none 0 0, .slice none 0 0, I 0, I 0] 26] R := H
     have hvc_q81z := Sl.cells (ownSl (H.get (k := 4) rfl))
     have hvo_q81z := Sl.oc (ownSl (H.get (k := 4) rfl))
     refine s_nil ⟨(H.pick [2, 3, 6] (by decide) rfl), ?_⟩
     refine t_q rfl (fun w' H => x_fa (a := .pointer (some ⟨b_2, 0, none⟩)) (v := .pointer (some ⟨b_2, 0, none⟩)) rfl (fa_blk (o := 0) Fd26_0 Sz23)) ?_
     refine t_l rfl ?_
     refine t_st (k := 5) (b := b_2) (off := 0) (cs := [v_l, .slice none 0 0, I r2, I (r2 + r3)]) (vs := [v79z]) (cs' := [v79z, .slice none 0 0, I r2, I (r2 + r3)]) (v := v79z) (L' := [cOwn (α := Yr) 41 v75z ([(⟨(year : Int), (max 0 (r4 - r6) : Int), (r4 + r7 : Int)⟩ : Yr)]), cBlk b_s [v_s_bytes, I q16, I q26] 101, cOwn (α := Int) 3 v36z ([(r4 : Int)]), cOwn (α := Int) 3 v39z (l2 ++ ([(r4 : Int)])), cOwn (α := Yr) 41 v79z (l ++ ([(⟨(year : Int), (max 0 (r4 - r6) : Int), (r4 + r7 : Int)⟩ : Yr)])), cBlk b_2 [v79z, .slice none 0 0, I r2, I (r2 + r3)] 26, cBlk b_1 [.slice none 0 0, .slice none 0 0, I 0, I 0] 26]) H rfl rfl rfl Sz23 (Sl.cells (ownSl (H.get (k := 4) rfl))) rfl rfl (by simp only [List.all_cons, List.all_nil, Bool.true_and, Bool.and_true, Sl.oc (ownSl (H.get (k := 4) rfl))]; try rfl) rfl rfl ?_
     intro w82z H
     refine s_nil ⟨(H.pick [2, 3, 6] (by decide) rfl), ?_⟩
     refine t_nil ?_
     refine W.region rfl ?_
     refine s_val (x_mv (v := I year) rfl) ?_
     obtain ⟨sd83z, hM⟩ := M.e_grd hM
     simp only [Bool.and_eq_true, decide_eq_true_eq] at sd83z
     refine s_val (x_ari (a := year) (b := 1) (r := year + 1) rfl rfl rfl (by omega)) ?_
     refine s_val (x_as (v := I (year + 1)) rfl) ?_
     refine s_nil ?_
     exact ⟨m27z, lt28z, q16, q26, year + 1, l ++ ([(⟨(year : Int), (max 0 (r4 - r6) : Int), (r4 + r7 : Int)⟩ : Yr)]), l2 ++ ([(r4 : Int)]), v79z, v39z, _, upds_of _ _ ⟨rfl, rfl, rfl, rfl, rfl, trivial⟩, M.e_inl hM hN30z, (H.pick [3, 4, 1, 5, 6] (by decide) rfl)⟩
    skip
    obtain ⟨r85z, hx84z, hM⟩ := M.e_bind hM
    refine s_call cf14 [.pointer (some ⟨b_s, 0, none⟩), I 40] rfl (zaa s_bytes q14 q24 40 (hC_s_bytes.app _) hs_s_bytes hx84z _ (St.give (T := [cOwn (α := Int) 3 v36z ([(r4 : Int)]), cOwn (α := Int) 3 v39z (l2 ++ ([(r4 : Int)])), cOwn (α := Yr) 41 v_l l, cBlk b_2 [v_l, .slice none 0 0, I r2, I (r2 + r3)] 26, cBlk b_1 [.slice none 0 0, .slice none 0 0, I 0, I 0] 26]) H rfl)) ?_
    rintro vq w86z ⟨r6, q15, q25, hr87z, hvq, H2_⟩
    subst hr87z
    subst vq
    try dsimp only at hM
    replace H : St w w86z [cBlk b_s [v_s_bytes, I q15, I q25] 101, cOwn (α := Int) 3 v36z ([(r4 : Int)]), cOwn (α := Int) 3 v39z (l2 ++ ([(r4 : Int)])), cOwn (α := Yr) 41 v_l l, cBlk b_2 [v_l, .slice none 0 0, I r2, I (r2 + r3)] 26, cBlk b_1 [.slice none 0 0, .slice none 0 0, I 0, I 0] 26] R := H.back H2_ rfl
    clear H2_
    have hvc_q88z := Sl.cells (ownSl (H.get (k := 3) rfl))
    have hvo_q88z := Sl.oc (ownSl (H.get (k := 3) rfl))
    refine s_nil ⟨(H.pick [1, 2, 5] (by decide) rfl), ?_⟩
    obtain ⟨sd89z, hM⟩ := M.e_grd hM
    simp only [Bool.and_eq_true, decide_eq_true_eq] at sd89z
    refine t_q rfl (fun w' H => x_ari (a := r4) (b := r6) (r := r4 - r6) rfl rfl rfl (by omega)) ?_
    refine t_q rfl (fun w' H => x_max (kd := .i64) (a := 0) (b := r4 - r6) rfl rfl) ?_
    refine t_l2 rfl rfl ?_ ?_
    ·skip
     refine s_val (x_ld (p := .pointer (some ⟨b_2, 0, none⟩)) (v := v_l) rfl (ldb_sc Sc23 (H.blk (k := 4) rfl) rfl)) ?_
     refine s_nil ⟨(H.pick [1, 2, 5] (by decide) rfl), ?_⟩
     refine t_l rfl ?_
     obtain ⟨r102z, hx101z, hM⟩ := M.e_bind hM
     refine s_call cf14 [.pointer (some ⟨b_s, 0, none⟩), I 40] rfl (zaa s_bytes q15 q25 40 (hC_s_bytes.app _) hs_s_bytes hx101z _ (St.give (T := [cOwn (α := Int) 3 v36z ([(r4 : Int)]), cOwn (α := Int) 3 v39z (l2 ++ ([(r4 : Int)])), cOwn (α := Yr) 41 v_l l, cBlk b_2 [v_l, .slice none 0 0, I r2, I (r2 + r3)] 26, cBlk b_1 [.slice none 0 0, .slice none 0 0, I 0, I 0] 26]) H rfl)) ?_
     rintro vq w103z ⟨r7, q16, q26, hr104z, hvq, H2_⟩
     subst hr104z
     subst vq
     try dsimp only at hM
     replace H : St w w103z [cBlk b_s [v_s_bytes, I q16, I q26] 101, cOwn (α := Int) 3 v36z ([(r4 : Int)]), cOwn (α := Int) 3 v39z (l2 ++ ([(r4 : Int)])), cOwn (α := Yr) 41 v_l l, cBlk b_2 [v_l, .slice none 0 0, I r2, I (r2 + r3)] 26, cBlk b_1 [.slice none 0 0, .slice none 0 0, I 0, I 0] 26] R := H.back H2_ rfl
     clear H2_
     refine s_nil ⟨(H.pick [1, 2, 5] (by decide) rfl), ?_⟩
     obtain ⟨sd105z, hM⟩ := M.e_grd hM
     simp only [Bool.and_eq_true, decide_eq_true_eq] at sd105z
     refine t_q rfl (fun w' H => x_ari (a := r4) (b := r7) (r := r4 + r7) rfl rfl rfl (by omega)) ?_
     refine t_q rfl (fun w' H => x_bld (ps := [(0, I (max 0 (r4 - r6))), (1, I (r4 + r7))]) (zs := [I 0, I 0]) (L' := [I (max 0 (r4 - r6)), I (r4 + r7)]) rfl Try.underlying35 Al35 rfl (Bd35 Try.underlying35) (.cons (cs := [I (max 0 (r4 - r6))]) rfl rfl rfl rfl rfl <| .cons (cs := [I (r4 + r7)]) rfl rfl rfl rfl rfl <| .nil)) ?_
     refine t_q rfl (fun w' H => x_bld (ps := [(0, I year), (1, .agg #[I (max 0 (r4 - r6)), I (r4 + r7)])]) (zs := [I 0, I 0, I 0]) (L' := [I year, I (max 0 (r4 - r6)), I (r4 + r7)]) rfl Try.underlying41 Al41 rfl (Bd41 Try.underlying41) (.cons (cs := [I year]) rfl rfl rfl rfl rfl <| .cons (cs := [I (max 0 (r4 - r6)), I (r4 + r7)]) rfl rfl rfl rfl rfl <| .nil)) ?_
     refine t_l rfl ?_
     refine t_bs (α := Yr) T23 [.agg #[I year, I (max 0 (r4 - r6)), I (r4 + r7)]] [(⟨(year : Int), (max 0 (r4 - r6) : Int), (r4 + r7 : Int)⟩ : Yr)] H rfl (.cons rfl (Flat.rep_enc _ (⟨(year : Int), (max 0 (r4 - r6) : Int), (r4 + r7 : Int)⟩ : Yr)) <| .nil) rfl rfl rfl ?_
     intro v106z w107z H
     have hvc_q108z := Sl.cells (ownSl (H.get (k := 0) rfl))
     have hvo_q108z := Sl.oc (ownSl (H.get (k := 0) rfl))
     refine s_nil ⟨(H.pick [2, 3, 6] (by decide) rfl), ?_⟩
     refine t_l rfl ?_
     obtain ⟨sd109z, hM⟩ := M.e_grd hM
     simp only [Bool.and_eq_true, decide_eq_true_eq] at sd109z
     refine t_app (α := Yr) (k := 4) (l := l) (l2 := [(⟨(year : Int), (max 0 (r4 - r6) : Int), (r4 + r7 : Int)⟩ : Yr)]) (l' := l ++ ([(⟨(year : Int), (max 0 (r4 - r6) : Int), (r4 + r7 : Int)⟩ : Yr)])) (vy := v106z) T23 rfl H rfl rfl rfl (ownSl (H.get (k := 0) rfl)) (ownLe _ (H.get (k := 0) rfl)) (rfl) (by first | omega | (simp only [List.length_nil] at *; omega)) ?_
     intro v110z w111z H
     replace H : St w w111z [cOwn (α := Yr) 41 v106z ([(⟨(year : Int), (max 0 (r4 - r6) : Int), (r4 + r7 : Int)⟩ : Yr)]), cBlk b_s [v_s_bytes, I q16, I q26] 101, cOwn (α := Int) 3 v36z ([(r4 : Int)]), cOwn (α := Int) 3 v39z (l2 ++ ([(r4 : Int)])), cOwn (α := Yr) 41 v110z (l ++ ([(⟨(year : Int), (max 0 (r4 - r6) : Int), (r4 + r7 : Int)⟩ : Yr)])), cBlk b_2 [v_l, .slice none 0 0, I r2, I (r2 + r3)] 26, cBlk b_1 [.slice none 0 0, .slice none 0 0, I 0, I 0] 26] R := H
     have hvc_q112z := Sl.cells (ownSl (H.get (k := 4) rfl))
     have hvo_q112z := Sl.oc (ownSl (H.get (k := 4) rfl))
     refine s_nil ⟨(H.pick [2, 3, 6] (by decide) rfl), ?_⟩
     refine t_q rfl (fun w' H => x_fa (a := .pointer (some ⟨b_2, 0, none⟩)) (v := .pointer (some ⟨b_2, 0, none⟩)) rfl (fa_blk (o := 0) Fd26_0 Sz23)) ?_
     refine t_l rfl ?_
     refine t_st (k := 5) (b := b_2) (off := 0) (cs := [v_l, .slice none 0 0, I r2, I (r2 + r3)]) (vs := [v110z]) (cs' := [v110z, .slice none 0 0, I r2, I (r2 + r3)]) (v := v110z) (L' := [cOwn (α := Yr) 41 v106z ([(⟨(year : Int), (max 0 (r4 - r6) : Int), (r4 + r7 : Int)⟩ : Yr)]), cBlk b_s [v_s_bytes, I q16, I q26] 101, cOwn (α := Int) 3 v36z ([(r4 : Int)]), cOwn (α := Int) 3 v39z (l2 ++ ([(r4 : Int)])), cOwn (α := Yr) 41 v110z (l ++ ([(⟨(year : Int), (max 0 (r4 - r6) : Int), (r4 + r7 : Int)⟩ : Yr)])), cBlk b_2 [v110z, .slice none 0 0, I r2, I (r2 + r3)] 26, cBlk b_1 [.slice none 0 0, .slice none 0 0, I 0, I 0] 26]) H rfl rfl rfl Sz23 (Sl.cells (ownSl (H.get (k := 4) rfl))) rfl rfl (by simp only [List.all_cons, List.all_nil, Bool.true_and, Bool.and_true, Sl.oc (ownSl (H.get (k := 4) rfl))]; try rfl) rfl rfl ?_
     intro w113z H
     refine s_nil ⟨(H.pick [2, 3, 6] (by decide) rfl), ?_⟩
     refine t_nil ?_
     refine W.region rfl ?_
     refine s_val (x_mv (v := I year) rfl) ?_
     obtain ⟨sd114z, hM⟩ := M.e_grd hM
     simp only [Bool.and_eq_true, decide_eq_true_eq] at sd114z
     refine s_val (x_ari (a := year) (b := 1) (r := year + 1) rfl rfl rfl (by omega)) ?_
     refine s_val (x_as (v := I (year + 1)) rfl) ?_
     refine s_nil ?_
     exact ⟨m27z, lt28z, q16, q26, year + 1, l ++ ([(⟨(year : Int), (max 0 (r4 - r6) : Int), (r4 + r7 : Int)⟩ : Yr)]), l2 ++ ([(r4 : Int)]), v110z, v39z, _, upds_of _ _ ⟨rfl, rfl, rfl, rfl, rfl, trivial⟩, M.e_inl hM hN30z, (H.pick [3, 4, 1, 5, 6] (by decide) rfl)⟩
    skip
    obtain ⟨r116z, hx115z, hM⟩ := M.e_bind hM
    refine s_call cf14 [.pointer (some ⟨b_s, 0, none⟩), I 40] rfl (zaa s_bytes q15 q25 40 (hC_s_bytes.app _) hs_s_bytes hx115z _ (St.give (T := [cOwn (α := Int) 3 v36z ([(r4 : Int)]), cOwn (α := Int) 3 v39z (l2 ++ ([(r4 : Int)])), cOwn (α := Yr) 41 v_l l, cBlk b_2 [v_l, .slice none 0 0, I r2, I (r2 + r3)] 26, cBlk b_1 [.slice none 0 0, .slice none 0 0, I 0, I 0] 26]) H rfl)) ?_
    rintro vq w117z ⟨r7, q16, q26, hr118z, hvq, H2_⟩
    subst hr118z
    subst vq
    try dsimp only at hM
    replace H : St w w117z [cBlk b_s [v_s_bytes, I q16, I q26] 101, cOwn (α := Int) 3 v36z ([(r4 : Int)]), cOwn (α := Int) 3 v39z (l2 ++ ([(r4 : Int)])), cOwn (α := Yr) 41 v_l l, cBlk b_2 [v_l, .slice none 0 0, I r2, I (r2 + r3)] 26, cBlk b_1 [.slice none 0 0, .slice none 0 0, I 0, I 0] 26] R := H.back H2_ rfl
    clear H2_
    refine s_nil ⟨(H.pick [1, 2, 5] (by decide) rfl), ?_⟩
    obtain ⟨sd119z, hM⟩ := M.e_grd hM
    simp only [Bool.and_eq_true, decide_eq_true_eq] at sd119z
    refine t_q rfl (fun w' H => x_ari (a := r4) (b := r7) (r := r4 + r7) rfl rfl rfl (by omega)) ?_
    refine t_q rfl (fun w' H => x_bld (ps := [(0, I (max 0 (r4 - r6))), (1, I (r4 + r7))]) (zs := [I 0, I 0]) (L' := [I (max 0 (r4 - r6)), I (r4 + r7)]) rfl Try.underlying35 Al35 rfl (Bd35 Try.underlying35) (.cons (cs := [I (max 0 (r4 - r6))]) rfl rfl rfl rfl rfl <| .cons (cs := [I (r4 + r7)]) rfl rfl rfl rfl rfl <| .nil)) ?_
    refine t_q rfl (fun w' H => x_bld (ps := [(0, I year), (1, .agg #[I (max 0 (r4 - r6)), I (r4 + r7)])]) (zs := [I 0, I 0, I 0]) (L' := [I year, I (max 0 (r4 - r6)), I (r4 + r7)]) rfl Try.underlying41 Al41 rfl (Bd41 Try.underlying41) (.cons (cs := [I year]) rfl rfl rfl rfl rfl <| .cons (cs := [I (max 0 (r4 - r6)), I (r4 + r7)]) rfl rfl rfl rfl rfl <| .nil)) ?_
    obtain ⟨sd122z, hM⟩ := M.e_grd hM
    simp only [Bool.and_eq_true, decide_eq_true_eq] at sd122z
    refine t_l2 rfl rfl ?_ ?_
    ·skip
     refine s_val (x_ld (p := .pointer (some ⟨b_2, 0, none⟩)) (v := v_l) rfl (ldb_sc Sc23 (H.blk (k := 4) rfl) rfl)) ?_
     refine s_nil ⟨(H.pick [1, 2, 5] (by decide) rfl), ?_⟩
     refine t_l rfl ?_
     refine t_bs (α := Yr) T23 [.agg #[I year, I (max 0 (r4 - r6)), I (r4 + r7)]] [(⟨(year : Int), (max 0 (r4 - r6) : Int), (r4 + r7 : Int)⟩ : Yr)] H rfl (.cons rfl (Flat.rep_enc _ (⟨(year : Int), (max 0 (r4 - r6) : Int), (r4 + r7 : Int)⟩ : Yr)) <| .nil) rfl rfl rfl ?_
     intro v126z w127z H
     have hvc_q128z := Sl.cells (ownSl (H.get (k := 0) rfl))
     have hvo_q128z := Sl.oc (ownSl (H.get (k := 0) rfl))
     refine s_nil ⟨(H.pick [2, 3, 6] (by decide) rfl), ?_⟩
     refine t_l rfl ?_
     refine t_app (α := Yr) (k := 4) (l := l) (l2 := [(⟨(year : Int), (max 0 (r4 - r6) : Int), (r4 + r7 : Int)⟩ : Yr)]) (l' := l ++ ([(⟨(year : Int), (max 0 (r4 - r6) : Int), (r4 + r7 : Int)⟩ : Yr)])) (vy := v126z) T23 rfl H rfl rfl rfl (ownSl (H.get (k := 0) rfl)) (ownLe _ (H.get (k := 0) rfl)) (rfl) (by first | omega | (simp only [List.length_nil] at *; omega)) ?_
     intro v129z w130z H
     replace H : St w w130z [cOwn (α := Yr) 41 v126z ([(⟨(year : Int), (max 0 (r4 - r6) : Int), (r4 + r7 : Int)⟩ : Yr)]), cBlk b_s [v_s_bytes, I q16, I q26] 101, cOwn (α := Int) 3 v36z ([(r4 : Int)]), cOwn (α := Int) 3 v39z (l2 ++ ([(r4 : Int)])), cOwn (α := Yr) 41 v129z (l ++ ([(⟨(year : Int), (max 0 (r4 - r6) : Int), (r4 + r7 : Int)⟩ : Yr)])), cBlk b_2 [v_l, .slice none 0 0, I r2, I (r2 + r3)] 26, cBlk b_1 [.slice none 0 0, .slice none 0 0, I 0, I 0] 26] R := H
     have hvc_q131z := Sl.cells (ownSl (H.get (k := 4) rfl))
     have hvo_q131z := Sl.oc (ownSl (H.get (k := 4) rfl))
     refine s_nil ⟨(H.pick [2, 3, 6] (by decide) rfl), ?_⟩
     refine t_q rfl (fun w' H => x_fa (a := .pointer (some ⟨b_2, 0, none⟩)) (v := .pointer (some ⟨b_2, 0, none⟩)) rfl (fa_blk (o := 0) Fd26_0 Sz23)) ?_
     refine t_l rfl ?_
     refine t_st (k := 5) (b := b_2) (off := 0) (cs := [v_l, .slice none 0 0, I r2, I (r2 + r3)]) (vs := [v129z]) (cs' := [v129z, .slice none 0 0, I r2, I (r2 + r3)]) (v := v129z) (L' := [cOwn (α := Yr) 41 v126z ([(⟨(year : Int), (max 0 (r4 - r6) : Int), (r4 + r7 : Int)⟩ : Yr)]), cBlk b_s [v_s_bytes, I q16, I q26] 101, cOwn (α := Int) 3 v36z ([(r4 : Int)]), cOwn (α := Int) 3 v39z (l2 ++ ([(r4 : Int)])), cOwn (α := Yr) 41 v129z (l ++ ([(⟨(year : Int), (max 0 (r4 - r6) : Int), (r4 + r7 : Int)⟩ : Yr)])), cBlk b_2 [v129z, .slice none 0 0, I r2, I (r2 + r3)] 26, cBlk b_1 [.slice none 0 0, .slice none 0 0, I 0, I 0] 26]) H rfl rfl rfl Sz23 (Sl.cells (ownSl (H.get (k := 4) rfl))) rfl rfl (by simp only [List.all_cons, List.all_nil, Bool.true_and, Bool.and_true, Sl.oc (ownSl (H.get (k := 4) rfl))]; try rfl) rfl rfl ?_
     intro w132z H
     refine s_nil ⟨(H.pick [2, 3, 6] (by decide) rfl), ?_⟩
     refine t_nil ?_
     refine W.region rfl ?_
     refine s_val (x_mv (v := I year) rfl) ?_
     obtain ⟨sd133z, hM⟩ := M.e_grd hM
     simp only [Bool.and_eq_true, decide_eq_true_eq] at sd133z
     refine s_val (x_ari (a := year) (b := 1) (r := year + 1) rfl rfl rfl (by omega)) ?_
     refine s_val (x_as (v := I (year + 1)) rfl) ?_
     refine s_nil ?_
     exact ⟨m27z, lt28z, q16, q26, year + 1, l ++ ([(⟨(year : Int), (max 0 (r4 - r6) : Int), (r4 + r7 : Int)⟩ : Yr)]), l2 ++ ([(r4 : Int)]), v129z, v39z, _, upds_of _ _ ⟨rfl, rfl, rfl, rfl, rfl, trivial⟩, M.e_inl hM hN30z, (H.pick [3, 4, 1, 5, 6] (by decide) rfl)⟩
    skip
    refine t_bs (α := Yr) T23 [.agg #[I year, I (max 0 (r4 - r6)), I (r4 + r7)]] [(⟨(year : Int), (max 0 (r4 - r6) : Int), (r4 + r7 : Int)⟩ : Yr)] H rfl (.cons rfl (Flat.rep_enc _ (⟨(year : Int), (max 0 (r4 - r6) : Int), (r4 + r7 : Int)⟩ : Yr)) <| .nil) rfl rfl rfl ?_
    intro v134z w135z H
    have hvc_q136z := Sl.cells (ownSl (H.get (k := 0) rfl))
    have hvo_q136z := Sl.oc (ownSl (H.get (k := 0) rfl))
    refine s_nil ⟨(H.pick [2, 3, 6] (by decide) rfl), ?_⟩
    refine t_l rfl ?_
    refine s_val (x_ld (p := .pointer (some ⟨b_2, 0, none⟩)) (v := v_l) rfl (ldb_sc Sc23 (H.blk (k := 5) rfl) rfl)) ?_
    refine s_nil ⟨(H.pick [2, 3, 6] (by decide) rfl), ?_⟩
    refine t_l rfl ?_
    refine t_app (α := Yr) (k := 4) (l := l) (l2 := [(⟨(year : Int), (max 0 (r4 - r6) : Int), (r4 + r7 : Int)⟩ : Yr)]) (l' := l ++ ([(⟨(year : Int), (max 0 (r4 - r6) : Int), (r4 + r7 : Int)⟩ : Yr)])) (vy := v134z) T23 rfl H rfl rfl rfl (ownSl (H.get (k := 0) rfl)) (ownLe _ (H.get (k := 0) rfl)) (rfl) (by first | omega | (simp only [List.length_nil] at *; omega)) ?_
    intro v137z w138z H
    replace H : St w w138z [cOwn (α := Yr) 41 v134z ([(⟨(year : Int), (max 0 (r4 - r6) : Int), (r4 + r7 : Int)⟩ : Yr)]), cBlk b_s [v_s_bytes, I q16, I q26] 101, cOwn (α := Int) 3 v36z ([(r4 : Int)]), cOwn (α := Int) 3 v39z (l2 ++ ([(r4 : Int)])), cOwn (α := Yr) 41 v137z (l ++ ([(⟨(year : Int), (max 0 (r4 - r6) : Int), (r4 + r7 : Int)⟩ : Yr)])), cBlk b_2 [v_l, .slice none 0 0, I r2, I (r2 + r3)] 26, cBlk b_1 [.slice none 0 0, .slice none 0 0, I 0, I 0] 26] R := H
    have hvc_q139z := Sl.cells (ownSl (H.get (k := 4) rfl))
    have hvo_q139z := Sl.oc (ownSl (H.get (k := 4) rfl))
    refine s_nil ⟨(H.pick [2, 3, 6] (by decide) rfl), ?_⟩
    refine t_q rfl (fun w' H => x_fa (a := .pointer (some ⟨b_2, 0, none⟩)) (v := .pointer (some ⟨b_2, 0, none⟩)) rfl (fa_blk (o := 0) Fd26_0 Sz23)) ?_
    refine t_l rfl ?_
    refine t_st (k := 5) (b := b_2) (off := 0) (cs := [v_l, .slice none 0 0, I r2, I (r2 + r3)]) (vs := [v137z]) (cs' := [v137z, .slice none 0 0, I r2, I (r2 + r3)]) (v := v137z) (L' := [cOwn (α := Yr) 41 v134z ([(⟨(year : Int), (max 0 (r4 - r6) : Int), (r4 + r7 : Int)⟩ : Yr)]), cBlk b_s [v_s_bytes, I q16, I q26] 101, cOwn (α := Int) 3 v36z ([(r4 : Int)]), cOwn (α := Int) 3 v39z (l2 ++ ([(r4 : Int)])), cOwn (α := Yr) 41 v137z (l ++ ([(⟨(year : Int), (max 0 (r4 - r6) : Int), (r4 + r7 : Int)⟩ : Yr)])), cBlk b_2 [v137z, .slice none 0 0, I r2, I (r2 + r3)] 26, cBlk b_1 [.slice none 0 0, .slice none 0 0, I 0, I 0] 26]) H rfl rfl rfl Sz23 (Sl.cells (ownSl (H.get (k := 4) rfl))) rfl rfl (by simp only [List.all_cons, List.all_nil, Bool.true_and, Bool.and_true, Sl.oc (ownSl (H.get (k := 4) rfl))]; try rfl) rfl rfl ?_
    intro w140z H
    refine s_nil ⟨(H.pick [2, 3, 6] (by decide) rfl), ?_⟩
    refine t_nil ?_
    refine W.region rfl ?_
    refine s_val (x_mv (v := I year) rfl) ?_
    obtain ⟨sd141z, hM⟩ := M.e_grd hM
    simp only [Bool.and_eq_true, decide_eq_true_eq] at sd141z
    refine s_val (x_ari (a := year) (b := 1) (r := year + 1) rfl rfl rfl (by omega)) ?_
    refine s_val (x_as (v := I (year + 1)) rfl) ?_
    refine s_nil ?_
    exact ⟨m27z, lt28z, q16, q26, year + 1, l ++ ([(⟨(year : Int), (max 0 (r4 - r6) : Int), (r4 + r7 : Int)⟩ : Yr)]), l2 ++ ([(r4 : Int)]), v137z, v39z, _, upds_of _ _ ⟨rfl, rfl, rfl, rfl, rfl, trivial⟩, M.e_inl hM hN30z, (H.pick [3, 4, 1, 5, 6] (by decide) rfl)⟩
   replace hM := M.e_f hM c46z
   refine W.skip ?_
   refine W.region rfl ?_
   refine s_val (x_mv (v := I year) rfl) ?_
   obtain ⟨sd142z, hM⟩ := M.e_grd hM
   simp only [Bool.and_eq_true, decide_eq_true_eq] at sd142z
   refine s_val (x_ari (a := year) (b := 1) (r := year + 1) rfl rfl rfl (by omega)) ?_
   refine s_val (x_as (v := I (year + 1)) rfl) ?_
   refine s_nil ?_
   exact ⟨m27z, lt28z, q14, q24, year + 1, l, l2 ++ ([(r4 : Int)]), v_l, v39z, _, upds_of _ _ ⟨rfl, rfl, rfl, rfl, rfl, trivial⟩, M.e_inl hM hN30z, (H.pick [2, 3, 0, 4, 5] (by decide) rfl)⟩
  replace hM := M.e_f hM c31z
  simp only [decide_eq_true_eq, decide_eq_false_iff_not, beq_iff_eq, bne_iff_ne, beq_eq_false_iff_ne, bne_eq_false_iff_eq, ne_eq, Decidable.not_not] at c31z
  refine W.exit ?_
  have hX143z := M.e_inr hM hN30z
  subst hX143z
  replace hM := hk23z
  try dsimp only at hM
  refine W.seq ?_
  refine W.seq ?_
  refine W.region rfl ?_
  refine s_val (x_mv (v := .pointer (some ⟨b_s, 0, none⟩)) rfl) ?_
  obtain ⟨r145z, hx144z, hM⟩ := M.e_bind hM
  refine s_call cf14 [.pointer (some ⟨b_s, 0, none⟩), I 4] rfl (zaa s_bytes s2 s3 4 (hC_s_bytes.app _) hs_s_bytes hx144z _ (St.give (L := [cBlk b_s [v_s_bytes, I s2, I s3] 101, cOwn (α := Int) 3 v_l2 l2, cOwn (α := Yr) 41 v_l l, cBlk b_2 [v_l, .slice none 0 0, I r2, I (r2 + r3)] 26, cBlk b_1 [.slice none 0 0, .slice none 0 0, I 0, I 0] 26]) (A := [cBlk b_s [v_s_bytes, I s2, I s3] 101]) (T := [cOwn (α := Int) 3 v_l2 l2, cOwn (α := Yr) 41 v_l l, cBlk b_2 [v_l, .slice none 0 0, I r2, I (r2 + r3)] 26, cBlk b_1 [.slice none 0 0, .slice none 0 0, I 0, I 0] 26]) (H.pick [2, 0, 1, 3, 4] (by decide) rfl) rfl)) ?_
  rintro vq w146z ⟨r8, q17, q27, hr147z, hvq, H2_⟩
  subst hr147z
  subst vq
  try dsimp only at hM
  replace H : St w w146z [cBlk b_s [v_s_bytes, I q17, I q27] 101, cOwn (α := Int) 3 v_l2 l2, cOwn (α := Yr) 41 v_l l, cBlk b_2 [v_l, .slice none 0 0, I r2, I (r2 + r3)] 26, cBlk b_1 [.slice none 0 0, .slice none 0 0, I 0, I 0] 26] R := H.pick [2, 0, 1, 3, 4] (by decide) rfl |>.back H2_ rfl
  clear H2_
  refine s_val (x_as (v := I r8) rfl) ?_
  refine s_nil ?_
  refine W.block ?_
  obtain ⟨Bs_17, H⟩ := H.emptyE
  replace H : St w w146z [cOwn (α := Raw 3) 43 (.slice none 0 0) ([]), cRo Bs_17, cBlk b_s [v_s_bytes, I q17, I q27] 101, cOwn (α := Int) 3 v_l2 l2, cOwn (α := Yr) 41 v_l l, cBlk b_2 [v_l, .slice none 0 0, I r2, I (r2 + r3)] 26, cBlk b_1 [.slice none 0 0, .slice none 0 0, I 0, I 0] 26] R := H.nilOwn (α := Raw 3) 43
  have hr148z : RepR (α := Old10) (n := 3) Bs_17.cells [] [] := .nil
  obtain ⟨ex149z, hi150z, hk151z⟩ := M.e_bind hM
  obtain ⟨m0_, hi150z⟩ := M.e_iter hi150z
  refine W.loop (fun m σ W => ∃ (s6 : Int) (s7 : Int) (n : Int) (l7 : List Old10) (v_l7 : Value) (rw_l7 : List (Raw 3)) (B_l7 : Base) (ρ : Env), σ = upds ρ [(0, .pointer (some ⟨b_s, 0, none⟩)), (4, .pointer (some ⟨b_1, 0, none⟩)), (6, .pointer (some ⟨b_2, 0, none⟩)), (7, v_l2), (10, I n)] /\ M.iterN (zaz s_bytes r2 r3 l2 l) m (s6, s7, n, l7) = some ex149z /\ St w W [cOwn (α := Raw 3) 43 v_l7 rw_l7, cRo B_l7, cBlk b_s [v_s_bytes, I s6, I s7] 101, cOwn (α := Int) 3 v_l2 l2, cOwn (α := Yr) 41 v_l l, cBlk b_2 [v_l, v_l7, I r2, I (r2 + r3)] 26, cBlk b_1 [.slice none 0 0, .slice none 0 0, I 0, I 0] 26] R /\ RepR (α := Old10) B_l7.cells rw_l7 l7) ?_ ?_
  ·exact ⟨_, q17, q27, r8, [], (.slice none 0 0), [], Bs_17, _, upds_of _ _ ⟨rfl, rfl, rfl, rfl, rfl, trivial⟩, hi150z, H, hr148z⟩
  rintro m154z σ w152z ⟨s6, s7, n, l7, v_l7, rw_l7, B_l7, ρ, rfl, hI153z, H, hr_l7⟩
  obtain ⟨m155z, lt156z, x157z, hM, hN158z⟩ := M.e_iterN hI153z
  simp only [zaz] at hM
  clear hI153z
  refine W.seq ?_
  refine W.seq ?_
  refine W.region rfl ?_
  refine s_val (x_mv (v := I n) rfl) ?_
  refine s_val (x_cmp (kd := .i64) (a := n) (b := 0) (r := decide (0 < n)) rfl rfl rfl) ?_
  refine s_nil ?_
  refine W.cond (decide (0 < n)) rfl (fun c159z => ?_) (fun c159z => ?_)
  ·replace hM := M.e_t hM c159z
   simp only [decide_eq_true_eq, decide_eq_false_iff_not, beq_iff_eq, bne_iff_ne, beq_eq_false_iff_ne, bne_eq_false_iff_eq, ne_eq, Decidable.not_not] at c159z
   refine W.skip ?_
   refine W.seq ?_
   refine W.block ?_
   refine W.drawT (fun W => St w W [cRo B_l7, cOwn (α := Int) 3 v_l2 l2, cOwn (α := Yr) 41 v_l l, cBlk b_1 [.slice none 0 0, .slice none 0 0, I 0, I 0] 26] R) (.q 0 (.q 2 (.q 4 (.l2 1 (.l 3 (.l 5 (.l 6 (.l 7 (.q 8 (.l 9 .nil)))))) 3 (.l2 1 (.l 5 (.l 6 (.l 7 (.q 8 (.l 9 .nil))))) 5 (.l2 1 (.l 6 (.l 7 (.q 8 (.l 9 .nil)))) 6 (.l 1 (.l 7 (.q 8 (.l 9 .nil)))))))))) mixed (by decide +kernel) rfl ?_
   intro w160z hx_
   replace H : St w w160z [cOwn (α := Raw 3) 43 v_l7 rw_l7, cRo B_l7, cBlk b_s [v_s_bytes, I s6, I s7] 101, cOwn (α := Int) 3 v_l2 l2, cOwn (α := Yr) 41 v_l l, cBlk b_2 [v_l, v_l7, I r2, I (r2 + r3)] 26, cBlk b_1 [.slice none 0 0, .slice none 0 0, I 0, I 0] 26] R := H.ext hx_
   clear hx_
   refine ⟨(H.pick [1, 3, 4, 6] (by decide) rfl), ?_⟩
   refine t_q rfl (fun w' H => x_fa (a := .pointer (some ⟨b_2, 0, none⟩)) (v := .pointer (some ⟨b_2, 1, none⟩)) rfl (fa_blk (o := 0) Fd26_1 Sz24)) ?_
   refine t_q rfl (fun w' H => x_mv (v := .pointer (some ⟨b_s, 0, none⟩)) rfl) ?_
   refine t_q rfl (fun w' H => x_mv (v := v_l2) rfl) ?_
   refine t_l2 rfl rfl ?_ ?_
   ·skip
    refine s_val (x_ld (p := .pointer (some ⟨b_2, 1, none⟩)) (v := v_l7) rfl (ldb_sc Sc24 (H.blk (k := 5) rfl) rfl)) ?_
    have hvc_q181z := Sl.cells (ownSl (H.get (k := 0) rfl))
    have hvo_q181z := Sl.oc (ownSl (H.get (k := 0) rfl))
    refine s_nil ⟨(H.pick [1, 3, 4, 6] (by decide) rfl), ?_⟩
    refine t_l rfl ?_
    refine s_val (x_ld (p := .pointer (some ⟨b_2, 0, none⟩)) (v := .agg #[v_l, v_l7, I r2, I (r2 + r3)]) rfl (ldb_ag (ds := [v_l, v_l7, I r2, I (r2 + r3)]) Ag26 Sz26 (H.blk (k := 5) rfl) rfl rfl)) ?_
    refine s_nil ⟨(H.pick [1, 3, 4, 6] (by decide) rfl), ?_⟩
    refine t_l rfl ?_
    obtain ⟨r183z, hx182z, hM⟩ := M.e_bind hM
    refine s_call cf19 [.pointer (some ⟨b_s, 0, none⟩), .agg #[v_l, v_l7, I r2, I (r2 + r3)], v_l2] rfl (zaw s_bytes s6 s7 l l7 r2 (r2 + r3) l2 (hC_s_bytes.app _) hs_s_bytes (Reads.of (k := 3) rfl ownLe) (ownSl (H.get (k := 4) rfl)) (Reads.sup (Reads.of (k := 0) rfl ownLe) (Reads.of (k := 1) rfl roLe)) (rowSl rfl (H.get (k := 0) rfl) (roLe _ (H.get (k := 1) rfl)) hr_l7) (Reads.of (k := 2) rfl ownLe) (ownSl (H.get (k := 3) rfl)) hx182z _ (St.give (L := [cBlk b_s [v_s_bytes, I s6, I s7] 101, cOwn (α := Raw 3) 43 v_l7 rw_l7, cRo B_l7, cOwn (α := Int) 3 v_l2 l2, cOwn (α := Yr) 41 v_l l, cBlk b_2 [v_l, v_l7, I r2, I (r2 + r3)] 26, cBlk b_1 [.slice none 0 0, .slice none 0 0, I 0, I 0] 26]) (A := [cBlk b_s [v_s_bytes, I s6, I s7] 101]) (T := [cOwn (α := Raw 3) 43 v_l7 rw_l7, cRo B_l7, cOwn (α := Int) 3 v_l2 l2, cOwn (α := Yr) 41 v_l l, cBlk b_2 [v_l, v_l7, I r2, I (r2 + r3)] 26, cBlk b_1 [.slice none 0 0, .slice none 0 0, I 0, I 0] 26]) (H.pick [2, 0, 1, 3, 4, 5, 6] (by decide) rfl) rfl)) ?_
    rintro vq w184z ⟨r0, r1, r22, r32, q18, q28, u0_9, hr185z, hvq, H2_⟩
    subst hr185z
    subst vq
    try dsimp only at hM
    replace H : St w w184z [cOwn (α := Int) 3 u0_9 r32, cBlk b_s [v_s_bytes, I q18, I q28] 101, cOwn (α := Raw 3) 43 v_l7 rw_l7, cRo B_l7, cOwn (α := Int) 3 v_l2 l2, cOwn (α := Yr) 41 v_l l, cBlk b_2 [v_l, v_l7, I r2, I (r2 + r3)] 26, cBlk b_1 [.slice none 0 0, .slice none 0 0, I 0, I 0] 26] R := H.pick [2, 0, 1, 3, 4, 5, 6] (by decide) rfl |>.back H2_ rfl
    clear H2_
    have hvc_q186z := Sl.cells (ownSl (H.get (k := 0) rfl))
    have hvo_q186z := Sl.oc (ownSl (H.get (k := 0) rfl))
    refine s_nil ⟨(H.pick [3, 4, 5, 7] (by decide) rfl), ?_⟩
    refine t_l rfl ?_
    obtain ⟨Bs_10, H⟩ := H.emptyE
    obtain ⟨Bs_11, H, hs188z⟩ := H.freezeE (k := 1) rfl
    replace H : St w w184z [cRo Bs_10, cRo Bs_11, cBlk b_s [v_s_bytes, I q18, I q28] 101, cOwn (α := Raw 3) 43 v_l7 rw_l7, cRo B_l7, cOwn (α := Int) 3 v_l2 l2, cOwn (α := Yr) 41 v_l l, cBlk b_2 [v_l, v_l7, I r2, I (r2 + r3)] 26, cBlk b_1 [.slice none 0 0, .slice none 0 0, I 0, I 0] 26] R := H
    have hq187z := hs188z
    obtain ⟨Bs_12, H, le189z, le190z⟩ := H.joinE (i := 0) (j := 1) rfl rfl
    replace hq187z := hq187z.mono le190z
    obtain ⟨rw191z, hrw_rw191z⟩ : ∃ r : Raw 3, r.cs = [I r0, I r1, I r22, u0_9] := ⟨Raw.of [I r0, I r1, I r22, u0_9] rfl (by simp only [List.all_cons, List.all_nil, Bool.true_and, Bool.and_true, Sl.oc hq187z]; try rfl), rfl⟩
    have hr192z : RepR (α := Old10) Bs_12.cells [rw191z] [(⟨(r0 : Int), (r1 : Int), (r22 : Int), r32⟩ : Old10)] := .cons (by rw [hrw_rw191z]; exact ⟨_, rfl, hq187z⟩) <| .nil
    refine t_bs (α := Raw 3) T24 [.agg #[I r0, I r1, I r22, u0_9]] [rw191z] H rfl (.cons (by rw [show (Flat.enc rw191z : List Value) = rw191z.cs from rfl, hrw_rw191z]; rfl) (Flat.rep_enc _ _) <| .nil) rfl rfl rfl ?_
    intro v193z w194z H
    replace H : St w w194z [cOwn (α := Raw 3) 43 v193z ([rw191z]), cRo Bs_12, cRo Bs_10, cRo Bs_11, cBlk b_s [v_s_bytes, I q18, I q28] 101, cOwn (α := Raw 3) 43 v_l7 rw_l7, cRo B_l7, cOwn (α := Int) 3 v_l2 l2, cOwn (α := Yr) 41 v_l l, cBlk b_2 [v_l, v_l7, I r2, I (r2 + r3)] 26, cBlk b_1 [.slice none 0 0, .slice none 0 0, I 0, I 0] 26] R := H
    have hvc_q195z := Sl.cells (ownSl (H.get (k := 0) rfl))
    have hvo_q195z := Sl.oc (ownSl (H.get (k := 0) rfl))
    refine s_nil ⟨(H.pick [6, 7, 8, 10] (by decide) rfl), ?_⟩
    refine t_l rfl ?_
    obtain ⟨sd196z, hM⟩ := M.e_grd hM
    simp only [Bool.and_eq_true, decide_eq_true_eq] at sd196z
    have hr197z := hr192z
    obtain ⟨Bs_16, H, le198z, le199z⟩ := H.joinE (i := 6) (j := 1) rfl rfl
    replace hr_l7 := hr_l7.mono le198z
    replace hr197z := hr197z.mono le199z
    have hr202z := hr_l7.app hr197z
    refine t_app (α := Raw 3) (k := 6) (l := rw_l7) (l2 := [rw191z]) (l' := rw_l7 ++ ([rw191z])) (vy := v193z) T24 rfl H rfl rfl rfl (ownSl (H.get (k := 1) rfl)) (ownLe _ (H.get (k := 1) rfl)) (rfl) (by have a_ := hr_l7.len; have b_ := hr197z.len; (try simp only [List.length_nil] at *); first | omega | (rw [a_, b_]; omega)) ?_
    intro v200z w201z H
    replace H : St w w201z [cRo Bs_16, cOwn (α := Raw 3) 43 v193z ([rw191z]), cRo Bs_12, cRo Bs_10, cRo Bs_11, cBlk b_s [v_s_bytes, I q18, I q28] 101, cOwn (α := Raw 3) 43 v200z (rw_l7 ++ ([rw191z])), cRo B_l7, cOwn (α := Int) 3 v_l2 l2, cOwn (α := Yr) 41 v_l l, cBlk b_2 [v_l, v_l7, I r2, I (r2 + r3)] 26, cBlk b_1 [.slice none 0 0, .slice none 0 0, I 0, I 0] 26] R := H
    have hvc_q203z := Sl.cells (ownSl (H.get (k := 6) rfl))
    have hvo_q203z := Sl.oc (ownSl (H.get (k := 6) rfl))
    refine s_nil ⟨(H.pick [7, 8, 9, 11] (by decide) rfl), ?_⟩
    refine t_q rfl (fun w' H => x_fa (a := .pointer (some ⟨b_2, 0, none⟩)) (v := .pointer (some ⟨b_2, 1, none⟩)) rfl (fa_blk (o := 0) Fd26_1 Sz24)) ?_
    refine t_l rfl ?_
    refine t_st (k := 10) (b := b_2) (off := 1) (cs := [v_l, v_l7, I r2, I (r2 + r3)]) (vs := [v200z]) (cs' := [v_l, v200z, I r2, I (r2 + r3)]) (v := v200z) (L' := [cRo Bs_16, cOwn (α := Raw 3) 43 v193z ([rw191z]), cRo Bs_12, cRo Bs_10, cRo Bs_11, cBlk b_s [v_s_bytes, I q18, I q28] 101, cOwn (α := Raw 3) 43 v200z (rw_l7 ++ ([rw191z])), cRo B_l7, cOwn (α := Int) 3 v_l2 l2, cOwn (α := Yr) 41 v_l l, cBlk b_2 [v_l, v200z, I r2, I (r2 + r3)] 26, cBlk b_1 [.slice none 0 0, .slice none 0 0, I 0, I 0] 26]) H rfl rfl rfl Sz24 (Sl.cells (rowSl rfl (H.get (k := 6) rfl) (roLe _ (H.get (k := 0) rfl)) hr202z)) rfl rfl (by simp only [List.all_cons, List.all_nil, Bool.true_and, Bool.and_true, Sl.oc (rowSl rfl (H.get (k := 6) rfl) (roLe _ (H.get (k := 0) rfl)) hr202z)]; try rfl) rfl rfl ?_
    intro w204z H
    refine s_nil ⟨(H.pick [7, 8, 9, 11] (by decide) rfl), ?_⟩
    refine t_nil ?_
    refine W.region rfl ?_
    refine s_val (x_mv (v := I n) rfl) ?_
    obtain ⟨sd205z, hM⟩ := M.e_grd hM
    simp only [Bool.and_eq_true, decide_eq_true_eq] at sd205z
    refine s_val (x_ari (a := n) (b := 1) (r := n - 1) rfl rfl rfl (by omega)) ?_
    refine s_val (x_as (v := I (n - 1)) rfl) ?_
    refine s_nil ?_
    exact ⟨m155z, lt156z, q18, q28, n - 1, l7 ++ ([(⟨(r0 : Int), (r1 : Int), (r22 : Int), r32⟩ : Old10)]), v200z, rw_l7 ++ ([rw191z]), Bs_16, _, upds_of _ _ ⟨rfl, rfl, rfl, rfl, rfl, trivial⟩, M.e_inl hM hN158z, (H.pick [6, 0, 5, 8, 9, 10, 11] (by decide) rfl), hr202z⟩
   skip
   refine s_val (x_ld (p := .pointer (some ⟨b_2, 0, none⟩)) (v := .agg #[v_l, v_l7, I r2, I (r2 + r3)]) rfl (ldb_ag (ds := [v_l, v_l7, I r2, I (r2 + r3)]) Ag26 Sz26 (H.blk (k := 5) rfl) rfl rfl)) ?_
   have hvc_q206z := Sl.cells (ownSl (H.get (k := 0) rfl))
   have hvo_q206z := Sl.oc (ownSl (H.get (k := 0) rfl))
   refine s_nil ⟨(H.pick [1, 3, 4, 6] (by decide) rfl), ?_⟩
   refine t_l2 rfl rfl ?_ ?_
   ·skip
    refine s_val (x_ld (p := .pointer (some ⟨b_2, 1, none⟩)) (v := v_l7) rfl (ldb_sc Sc24 (H.blk (k := 5) rfl) rfl)) ?_
    refine s_nil ⟨(H.pick [1, 3, 4, 6] (by decide) rfl), ?_⟩
    refine t_l rfl ?_
    obtain ⟨r228z, hx227z, hM⟩ := M.e_bind hM
    refine s_call cf19 [.pointer (some ⟨b_s, 0, none⟩), .agg #[v_l, v_l7, I r2, I (r2 + r3)], v_l2] rfl (zaw s_bytes s6 s7 l l7 r2 (r2 + r3) l2 (hC_s_bytes.app _) hs_s_bytes (Reads.of (k := 3) rfl ownLe) (ownSl (H.get (k := 4) rfl)) (Reads.sup (Reads.of (k := 0) rfl ownLe) (Reads.of (k := 1) rfl roLe)) (rowSl rfl (H.get (k := 0) rfl) (roLe _ (H.get (k := 1) rfl)) hr_l7) (Reads.of (k := 2) rfl ownLe) (ownSl (H.get (k := 3) rfl)) hx227z _ (St.give (L := [cBlk b_s [v_s_bytes, I s6, I s7] 101, cOwn (α := Raw 3) 43 v_l7 rw_l7, cRo B_l7, cOwn (α := Int) 3 v_l2 l2, cOwn (α := Yr) 41 v_l l, cBlk b_2 [v_l, v_l7, I r2, I (r2 + r3)] 26, cBlk b_1 [.slice none 0 0, .slice none 0 0, I 0, I 0] 26]) (A := [cBlk b_s [v_s_bytes, I s6, I s7] 101]) (T := [cOwn (α := Raw 3) 43 v_l7 rw_l7, cRo B_l7, cOwn (α := Int) 3 v_l2 l2, cOwn (α := Yr) 41 v_l l, cBlk b_2 [v_l, v_l7, I r2, I (r2 + r3)] 26, cBlk b_1 [.slice none 0 0, .slice none 0 0, I 0, I 0] 26]) (H.pick [2, 0, 1, 3, 4, 5, 6] (by decide) rfl) rfl)) ?_
    rintro vq w229z ⟨r0, r1, r22, r32, q18, q28, u0_9, hr230z, hvq, H2_⟩
    subst hr230z
    subst vq
    try dsimp only at hM
    replace H : St w w229z [cOwn (α := Int) 3 u0_9 r32, cBlk b_s [v_s_bytes, I q18, I q28] 101, cOwn (α := Raw 3) 43 v_l7 rw_l7, cRo B_l7, cOwn (α := Int) 3 v_l2 l2, cOwn (α := Yr) 41 v_l l, cBlk b_2 [v_l, v_l7, I r2, I (r2 + r3)] 26, cBlk b_1 [.slice none 0 0, .slice none 0 0, I 0, I 0] 26] R := H.pick [2, 0, 1, 3, 4, 5, 6] (by decide) rfl |>.back H2_ rfl
    clear H2_
    have hvc_q231z := Sl.cells (ownSl (H.get (k := 0) rfl))
    have hvo_q231z := Sl.oc (ownSl (H.get (k := 0) rfl))
    refine s_nil ⟨(H.pick [3, 4, 5, 7] (by decide) rfl), ?_⟩
    refine t_l rfl ?_
    obtain ⟨Bs_10, H⟩ := H.emptyE
    obtain ⟨Bs_11, H, hs233z⟩ := H.freezeE (k := 1) rfl
    replace H : St w w229z [cRo Bs_10, cRo Bs_11, cBlk b_s [v_s_bytes, I q18, I q28] 101, cOwn (α := Raw 3) 43 v_l7 rw_l7, cRo B_l7, cOwn (α := Int) 3 v_l2 l2, cOwn (α := Yr) 41 v_l l, cBlk b_2 [v_l, v_l7, I r2, I (r2 + r3)] 26, cBlk b_1 [.slice none 0 0, .slice none 0 0, I 0, I 0] 26] R := H
    have hq232z := hs233z
    obtain ⟨Bs_12, H, le234z, le235z⟩ := H.joinE (i := 0) (j := 1) rfl rfl
    replace hq232z := hq232z.mono le235z
    obtain ⟨rw236z, hrw_rw236z⟩ : ∃ r : Raw 3, r.cs = [I r0, I r1, I r22, u0_9] := ⟨Raw.of [I r0, I r1, I r22, u0_9] rfl (by simp only [List.all_cons, List.all_nil, Bool.true_and, Bool.and_true, Sl.oc hq232z]; try rfl), rfl⟩
    have hr237z : RepR (α := Old10) Bs_12.cells [rw236z] [(⟨(r0 : Int), (r1 : Int), (r22 : Int), r32⟩ : Old10)] := .cons (by rw [hrw_rw236z]; exact ⟨_, rfl, hq232z⟩) <| .nil
    refine t_bs (α := Raw 3) T24 [.agg #[I r0, I r1, I r22, u0_9]] [rw236z] H rfl (.cons (by rw [show (Flat.enc rw236z : List Value) = rw236z.cs from rfl, hrw_rw236z]; rfl) (Flat.rep_enc _ _) <| .nil) rfl rfl rfl ?_
    intro v238z w239z H
    replace H : St w w239z [cOwn (α := Raw 3) 43 v238z ([rw236z]), cRo Bs_12, cRo Bs_10, cRo Bs_11, cBlk b_s [v_s_bytes, I q18, I q28] 101, cOwn (α := Raw 3) 43 v_l7 rw_l7, cRo B_l7, cOwn (α := Int) 3 v_l2 l2, cOwn (α := Yr) 41 v_l l, cBlk b_2 [v_l, v_l7, I r2, I (r2 + r3)] 26, cBlk b_1 [.slice none 0 0, .slice none 0 0, I 0, I 0] 26] R := H
    have hvc_q240z := Sl.cells (ownSl (H.get (k := 0) rfl))
    have hvo_q240z := Sl.oc (ownSl (H.get (k := 0) rfl))
    refine s_nil ⟨(H.pick [6, 7, 8, 10] (by decide) rfl), ?_⟩
    refine t_l rfl ?_
    obtain ⟨sd241z, hM⟩ := M.e_grd hM
    simp only [Bool.and_eq_true, decide_eq_true_eq] at sd241z
    have hr242z := hr237z
    obtain ⟨Bs_16, H, le243z, le244z⟩ := H.joinE (i := 6) (j := 1) rfl rfl
    replace hr_l7 := hr_l7.mono le243z
    replace hr242z := hr242z.mono le244z
    have hr247z := hr_l7.app hr242z
    refine t_app (α := Raw 3) (k := 6) (l := rw_l7) (l2 := [rw236z]) (l' := rw_l7 ++ ([rw236z])) (vy := v238z) T24 rfl H rfl rfl rfl (ownSl (H.get (k := 1) rfl)) (ownLe _ (H.get (k := 1) rfl)) (rfl) (by have a_ := hr_l7.len; have b_ := hr242z.len; (try simp only [List.length_nil] at *); first | omega | (rw [a_, b_]; omega)) ?_
    intro v245z w246z H
    replace H : St w w246z [cRo Bs_16, cOwn (α := Raw 3) 43 v238z ([rw236z]), cRo Bs_12, cRo Bs_10, cRo Bs_11, cBlk b_s [v_s_bytes, I q18, I q28] 101, cOwn (α := Raw 3) 43 v245z (rw_l7 ++ ([rw236z])), cRo B_l7, cOwn (α := Int) 3 v_l2 l2, cOwn (α := Yr) 41 v_l l, cBlk b_2 [v_l, v_l7, I r2, I (r2 + r3)] 26, cBlk b_1 [.slice none 0 0, .slice none 0 0, I 0, I 0] 26] R := H
    have hvc_q248z := Sl.cells (ownSl (H.get (k := 6) rfl))
    have hvo_q248z := Sl.oc (ownSl (H.get (k := 6) rfl))
    refine s_nil ⟨(H.pick [7, 8, 9, 11] (by decide) rfl), ?_⟩
    refine t_q rfl (fun w' H => x_fa (a := .pointer (some ⟨b_2, 0, none⟩)) (v := .pointer (some ⟨b_2, 1, none⟩)) rfl (fa_blk (o := 0) Fd26_1 Sz24)) ?_
    refine t_l rfl ?_
    refine t_st (k := 10) (b := b_2) (off := 1) (cs := [v_l, v_l7, I r2, I (r2 + r3)]) (vs := [v245z]) (cs' := [v_l, v245z, I r2, I (r2 + r3)]) (v := v245z) (L' := [cRo Bs_16, cOwn (α := Raw 3) 43 v238z ([rw236z]), cRo Bs_12, cRo Bs_10, cRo Bs_11, cBlk b_s [v_s_bytes, I q18, I q28] 101, cOwn (α := Raw 3) 43 v245z (rw_l7 ++ ([rw236z])), cRo B_l7, cOwn (α := Int) 3 v_l2 l2, cOwn (α := Yr) 41 v_l l, cBlk b_2 [v_l, v245z, I r2, I (r2 + r3)] 26, cBlk b_1 [.slice none 0 0, .slice none 0 0, I 0, I 0] 26]) H rfl rfl rfl Sz24 (Sl.cells (rowSl rfl (H.get (k := 6) rfl) (roLe _ (H.get (k := 0) rfl)) hr247z)) rfl rfl (by simp only [List.all_cons, List.all_nil, Bool.true_and, Bool.and_true, Sl.oc (rowSl rfl (H.get (k := 6) rfl) (roLe _ (H.get (k := 0) rfl)) hr247z)]; try rfl) rfl rfl ?_
    intro w249z H
    refine s_nil ⟨(H.pick [7, 8, 9, 11] (by decide) rfl), ?_⟩
    refine t_nil ?_
    refine W.region rfl ?_
    refine s_val (x_mv (v := I n) rfl) ?_
    obtain ⟨sd250z, hM⟩ := M.e_grd hM
    simp only [Bool.and_eq_true, decide_eq_true_eq] at sd250z
    refine s_val (x_ari (a := n) (b := 1) (r := n - 1) rfl rfl rfl (by omega)) ?_
    refine s_val (x_as (v := I (n - 1)) rfl) ?_
    refine s_nil ?_
    exact ⟨m155z, lt156z, q18, q28, n - 1, l7 ++ ([(⟨(r0 : Int), (r1 : Int), (r22 : Int), r32⟩ : Old10)]), v245z, rw_l7 ++ ([rw236z]), Bs_16, _, upds_of _ _ ⟨rfl, rfl, rfl, rfl, rfl, trivial⟩, M.e_inl hM hN158z, (H.pick [6, 0, 5, 8, 9, 10, 11] (by decide) rfl), hr247z⟩
   skip
   obtain ⟨r252z, hx251z, hM⟩ := M.e_bind hM
   refine s_call cf19 [.pointer (some ⟨b_s, 0, none⟩), .agg #[v_l, v_l7, I r2, I (r2 + r3)], v_l2] rfl (zaw s_bytes s6 s7 l l7 r2 (r2 + r3) l2 (hC_s_bytes.app _) hs_s_bytes (Reads.of (k := 3) rfl ownLe) (ownSl (H.get (k := 4) rfl)) (Reads.sup (Reads.of (k := 0) rfl ownLe) (Reads.of (k := 1) rfl roLe)) (rowSl rfl (H.get (k := 0) rfl) (roLe _ (H.get (k := 1) rfl)) hr_l7) (Reads.of (k := 2) rfl ownLe) (ownSl (H.get (k := 3) rfl)) hx251z _ (St.give (L := [cBlk b_s [v_s_bytes, I s6, I s7] 101, cOwn (α := Raw 3) 43 v_l7 rw_l7, cRo B_l7, cOwn (α := Int) 3 v_l2 l2, cOwn (α := Yr) 41 v_l l, cBlk b_2 [v_l, v_l7, I r2, I (r2 + r3)] 26, cBlk b_1 [.slice none 0 0, .slice none 0 0, I 0, I 0] 26]) (A := [cBlk b_s [v_s_bytes, I s6, I s7] 101]) (T := [cOwn (α := Raw 3) 43 v_l7 rw_l7, cRo B_l7, cOwn (α := Int) 3 v_l2 l2, cOwn (α := Yr) 41 v_l l, cBlk b_2 [v_l, v_l7, I r2, I (r2 + r3)] 26, cBlk b_1 [.slice none 0 0, .slice none 0 0, I 0, I 0] 26]) (H.pick [2, 0, 1, 3, 4, 5, 6] (by decide) rfl) rfl)) ?_
   rintro vq w253z ⟨r0, r1, r22, r32, q18, q28, u0_9, hr254z, hvq, H2_⟩
   subst hr254z
   subst vq
   try dsimp only at hM
   replace H : St w w253z [cOwn (α := Int) 3 u0_9 r32, cBlk b_s [v_s_bytes, I q18, I q28] 101, cOwn (α := Raw 3) 43 v_l7 rw_l7, cRo B_l7, cOwn (α := Int) 3 v_l2 l2, cOwn (α := Yr) 41 v_l l, cBlk b_2 [v_l, v_l7, I r2, I (r2 + r3)] 26, cBlk b_1 [.slice none 0 0, .slice none 0 0, I 0, I 0] 26] R := H.pick [2, 0, 1, 3, 4, 5, 6] (by decide) rfl |>.back H2_ rfl
   clear H2_
   have hvc_q255z := Sl.cells (ownSl (H.get (k := 0) rfl))
   have hvo_q255z := Sl.oc (ownSl (H.get (k := 0) rfl))
   refine s_nil ⟨(H.pick [3, 4, 5, 7] (by decide) rfl), ?_⟩
   obtain ⟨sd264z, hM⟩ := M.e_grd hM
   simp only [Bool.and_eq_true, decide_eq_true_eq] at sd264z
   refine t_l2 rfl rfl ?_ ?_
   ·skip
    refine s_val (x_ld (p := .pointer (some ⟨b_2, 1, none⟩)) (v := v_l7) rfl (ldb_sc Sc24 (H.blk (k := 6) rfl) rfl)) ?_
    refine s_nil ⟨(H.pick [3, 4, 5, 7] (by decide) rfl), ?_⟩
    refine t_l rfl ?_
    obtain ⟨Bs_10, H⟩ := H.emptyE
    obtain ⟨Bs_11, H, hs273z⟩ := H.freezeE (k := 1) rfl
    replace H : St w w253z [cRo Bs_10, cRo Bs_11, cBlk b_s [v_s_bytes, I q18, I q28] 101, cOwn (α := Raw 3) 43 v_l7 rw_l7, cRo B_l7, cOwn (α := Int) 3 v_l2 l2, cOwn (α := Yr) 41 v_l l, cBlk b_2 [v_l, v_l7, I r2, I (r2 + r3)] 26, cBlk b_1 [.slice none 0 0, .slice none 0 0, I 0, I 0] 26] R := H
    have hq272z := hs273z
    obtain ⟨Bs_12, H, le274z, le275z⟩ := H.joinE (i := 0) (j := 1) rfl rfl
    replace hq272z := hq272z.mono le275z
    obtain ⟨rw276z, hrw_rw276z⟩ : ∃ r : Raw 3, r.cs = [I r0, I r1, I r22, u0_9] := ⟨Raw.of [I r0, I r1, I r22, u0_9] rfl (by simp only [List.all_cons, List.all_nil, Bool.true_and, Bool.and_true, Sl.oc hq272z]; try rfl), rfl⟩
    have hr277z : RepR (α := Old10) Bs_12.cells [rw276z] [(⟨(r0 : Int), (r1 : Int), (r22 : Int), r32⟩ : Old10)] := .cons (by rw [hrw_rw276z]; exact ⟨_, rfl, hq272z⟩) <| .nil
    refine t_bs (α := Raw 3) T24 [.agg #[I r0, I r1, I r22, u0_9]] [rw276z] H rfl (.cons (by rw [show (Flat.enc rw276z : List Value) = rw276z.cs from rfl, hrw_rw276z]; rfl) (Flat.rep_enc _ _) <| .nil) rfl rfl rfl ?_
    intro v278z w279z H
    replace H : St w w279z [cOwn (α := Raw 3) 43 v278z ([rw276z]), cRo Bs_12, cRo Bs_10, cRo Bs_11, cBlk b_s [v_s_bytes, I q18, I q28] 101, cOwn (α := Raw 3) 43 v_l7 rw_l7, cRo B_l7, cOwn (α := Int) 3 v_l2 l2, cOwn (α := Yr) 41 v_l l, cBlk b_2 [v_l, v_l7, I r2, I (r2 + r3)] 26, cBlk b_1 [.slice none 0 0, .slice none 0 0, I 0, I 0] 26] R := H
    have hvc_q280z := Sl.cells (ownSl (H.get (k := 0) rfl))
    have hvo_q280z := Sl.oc (ownSl (H.get (k := 0) rfl))
    refine s_nil ⟨(H.pick [6, 7, 8, 10] (by decide) rfl), ?_⟩
    refine t_l rfl ?_
    have hr281z := hr277z
    obtain ⟨Bs_16, H, le282z, le283z⟩ := H.joinE (i := 6) (j := 1) rfl rfl
    replace hr_l7 := hr_l7.mono le282z
    replace hr281z := hr281z.mono le283z
    have hr286z := hr_l7.app hr281z
    refine t_app (α := Raw 3) (k := 6) (l := rw_l7) (l2 := [rw276z]) (l' := rw_l7 ++ ([rw276z])) (vy := v278z) T24 rfl H rfl rfl rfl (ownSl (H.get (k := 1) rfl)) (ownLe _ (H.get (k := 1) rfl)) (rfl) (by have a_ := hr_l7.len; have b_ := hr281z.len; (try simp only [List.length_nil] at *); first | omega | (rw [a_, b_]; omega)) ?_
    intro v284z w285z H
    replace H : St w w285z [cRo Bs_16, cOwn (α := Raw 3) 43 v278z ([rw276z]), cRo Bs_12, cRo Bs_10, cRo Bs_11, cBlk b_s [v_s_bytes, I q18, I q28] 101, cOwn (α := Raw 3) 43 v284z (rw_l7 ++ ([rw276z])), cRo B_l7, cOwn (α := Int) 3 v_l2 l2, cOwn (α := Yr) 41 v_l l, cBlk b_2 [v_l, v_l7, I r2, I (r2 + r3)] 26, cBlk b_1 [.slice none 0 0, .slice none 0 0, I 0, I 0] 26] R := H
    have hvc_q287z := Sl.cells (ownSl (H.get (k := 6) rfl))
    have hvo_q287z := Sl.oc (ownSl (H.get (k := 6) rfl))
    refine s_nil ⟨(H.pick [7, 8, 9, 11] (by decide) rfl), ?_⟩
    refine t_q rfl (fun w' H => x_fa (a := .pointer (some ⟨b_2, 0, none⟩)) (v := .pointer (some ⟨b_2, 1, none⟩)) rfl (fa_blk (o := 0) Fd26_1 Sz24)) ?_
    refine t_l rfl ?_
    refine t_st (k := 10) (b := b_2) (off := 1) (cs := [v_l, v_l7, I r2, I (r2 + r3)]) (vs := [v284z]) (cs' := [v_l, v284z, I r2, I (r2 + r3)]) (v := v284z) (L' := [cRo Bs_16, cOwn (α := Raw 3) 43 v278z ([rw276z]), cRo Bs_12, cRo Bs_10, cRo Bs_11, cBlk b_s [v_s_bytes, I q18, I q28] 101, cOwn (α := Raw 3) 43 v284z (rw_l7 ++ ([rw276z])), cRo B_l7, cOwn (α := Int) 3 v_l2 l2, cOwn (α := Yr) 41 v_l l, cBlk b_2 [v_l, v284z, I r2, I (r2 + r3)] 26, cBlk b_1 [.slice none 0 0, .slice none 0 0, I 0, I 0] 26]) H rfl rfl rfl Sz24 (Sl.cells (rowSl rfl (H.get (k := 6) rfl) (roLe _ (H.get (k := 0) rfl)) hr286z)) rfl rfl (by simp only [List.all_cons, List.all_nil, Bool.true_and, Bool.and_true, Sl.oc (rowSl rfl (H.get (k := 6) rfl) (roLe _ (H.get (k := 0) rfl)) hr286z)]; try rfl) rfl rfl ?_
    intro w288z H
    refine s_nil ⟨(H.pick [7, 8, 9, 11] (by decide) rfl), ?_⟩
    refine t_nil ?_
    refine W.region rfl ?_
    refine s_val (x_mv (v := I n) rfl) ?_
    obtain ⟨sd289z, hM⟩ := M.e_grd hM
    simp only [Bool.and_eq_true, decide_eq_true_eq] at sd289z
    refine s_val (x_ari (a := n) (b := 1) (r := n - 1) rfl rfl rfl (by omega)) ?_
    refine s_val (x_as (v := I (n - 1)) rfl) ?_
    refine s_nil ?_
    exact ⟨m155z, lt156z, q18, q28, n - 1, l7 ++ ([(⟨(r0 : Int), (r1 : Int), (r22 : Int), r32⟩ : Old10)]), v284z, rw_l7 ++ ([rw276z]), Bs_16, _, upds_of _ _ ⟨rfl, rfl, rfl, rfl, rfl, trivial⟩, M.e_inl hM hN158z, (H.pick [6, 0, 5, 8, 9, 10, 11] (by decide) rfl), hr286z⟩
   skip
   obtain ⟨Bs_10, H⟩ := H.emptyE
   obtain ⟨Bs_11, H, hs291z⟩ := H.freezeE (k := 1) rfl
   replace H : St w w253z [cRo Bs_10, cRo Bs_11, cBlk b_s [v_s_bytes, I q18, I q28] 101, cOwn (α := Raw 3) 43 v_l7 rw_l7, cRo B_l7, cOwn (α := Int) 3 v_l2 l2, cOwn (α := Yr) 41 v_l l, cBlk b_2 [v_l, v_l7, I r2, I (r2 + r3)] 26, cBlk b_1 [.slice none 0 0, .slice none 0 0, I 0, I 0] 26] R := H
   have hq290z := hs291z
   obtain ⟨Bs_12, H, le292z, le293z⟩ := H.joinE (i := 0) (j := 1) rfl rfl
   replace hq290z := hq290z.mono le293z
   obtain ⟨rw294z, hrw_rw294z⟩ : ∃ r : Raw 3, r.cs = [I r0, I r1, I r22, u0_9] := ⟨Raw.of [I r0, I r1, I r22, u0_9] rfl (by simp only [List.all_cons, List.all_nil, Bool.true_and, Bool.and_true, Sl.oc hq290z]; try rfl), rfl⟩
   have hr295z : RepR (α := Old10) Bs_12.cells [rw294z] [(⟨(r0 : Int), (r1 : Int), (r22 : Int), r32⟩ : Old10)] := .cons (by rw [hrw_rw294z]; exact ⟨_, rfl, hq290z⟩) <| .nil
   refine t_bs (α := Raw 3) T24 [.agg #[I r0, I r1, I r22, u0_9]] [rw294z] H rfl (.cons (by rw [show (Flat.enc rw294z : List Value) = rw294z.cs from rfl, hrw_rw294z]; rfl) (Flat.rep_enc _ _) <| .nil) rfl rfl rfl ?_
   intro v296z w297z H
   replace H : St w w297z [cOwn (α := Raw 3) 43 v296z ([rw294z]), cRo Bs_12, cRo Bs_10, cRo Bs_11, cBlk b_s [v_s_bytes, I q18, I q28] 101, cOwn (α := Raw 3) 43 v_l7 rw_l7, cRo B_l7, cOwn (α := Int) 3 v_l2 l2, cOwn (α := Yr) 41 v_l l, cBlk b_2 [v_l, v_l7, I r2, I (r2 + r3)] 26, cBlk b_1 [.slice none 0 0, .slice none 0 0, I 0, I 0] 26] R := H
   have hvc_q298z := Sl.cells (ownSl (H.get (k := 0) rfl))
   have hvo_q298z := Sl.oc (ownSl (H.get (k := 0) rfl))
   refine s_nil ⟨(H.pick [6, 7, 8, 10] (by decide) rfl), ?_⟩
   refine t_l rfl ?_
   refine s_val (x_ld (p := .pointer (some ⟨b_2, 1, none⟩)) (v := v_l7) rfl (ldb_sc Sc24 (H.blk (k := 9) rfl) rfl)) ?_
   refine s_nil ⟨(H.pick [6, 7, 8, 10] (by decide) rfl), ?_⟩
   refine t_l rfl ?_
   have hr299z := hr295z
   obtain ⟨Bs_16, H, le300z, le301z⟩ := H.joinE (i := 6) (j := 1) rfl rfl
   replace hr_l7 := hr_l7.mono le300z
   replace hr299z := hr299z.mono le301z
   have hr304z := hr_l7.app hr299z
   refine t_app (α := Raw 3) (k := 6) (l := rw_l7) (l2 := [rw294z]) (l' := rw_l7 ++ ([rw294z])) (vy := v296z) T24 rfl H rfl rfl rfl (ownSl (H.get (k := 1) rfl)) (ownLe _ (H.get (k := 1) rfl)) (rfl) (by have a_ := hr_l7.len; have b_ := hr299z.len; (try simp only [List.length_nil] at *); first | omega | (rw [a_, b_]; omega)) ?_
   intro v302z w303z H
   replace H : St w w303z [cRo Bs_16, cOwn (α := Raw 3) 43 v296z ([rw294z]), cRo Bs_12, cRo Bs_10, cRo Bs_11, cBlk b_s [v_s_bytes, I q18, I q28] 101, cOwn (α := Raw 3) 43 v302z (rw_l7 ++ ([rw294z])), cRo B_l7, cOwn (α := Int) 3 v_l2 l2, cOwn (α := Yr) 41 v_l l, cBlk b_2 [v_l, v_l7, I r2, I (r2 + r3)] 26, cBlk b_1 [.slice none 0 0, .slice none 0 0, I 0, I 0] 26] R := H
   have hvc_q305z := Sl.cells (ownSl (H.get (k := 6) rfl))
   have hvo_q305z := Sl.oc (ownSl (H.get (k := 6) rfl))
   refine s_nil ⟨(H.pick [7, 8, 9, 11] (by decide) rfl), ?_⟩
   refine t_q rfl (fun w' H => x_fa (a := .pointer (some ⟨b_2, 0, none⟩)) (v := .pointer (some ⟨b_2, 1, none⟩)) rfl (fa_blk (o := 0) Fd26_1 Sz24)) ?_
   refine t_l rfl ?_
   refine t_st (k := 10) (b := b_2) (off := 1) (cs := [v_l, v_l7, I r2, I (r2 + r3)]) (vs := [v302z]) (cs' := [v_l, v302z, I r2, I (r2 + r3)]) (v := v302z) (L' := [cRo Bs_16, cOwn (α := Raw 3) 43 v296z ([rw294z]), cRo Bs_12, cRo Bs_10, cRo Bs_11, cBlk b_s [v_s_bytes, I q18, I q28] 101, cOwn (α := Raw 3) 43 v302z (rw_l7 ++ ([rw294z])), cRo B_l7, cOwn (α := Int) 3 v_l2 l2, cOwn (α := Yr) 41 v_l l, cBlk b_2 [v_l, v302z, I r2, I (r2 + r3)] 26, cBlk b_1 [.slice none 0 0, .slice none 0 0, I 0, I 0] 26]) H rfl rfl rfl Sz24 (Sl.cells (rowSl rfl (H.get (k := 6) rfl) (roLe _ (H.get (k := 0) rfl)) hr304z)) rfl rfl (by simp only [List.all_cons, List.all_nil, Bool.true_and, Bool.and_true, Sl.oc (rowSl rfl (H.get (k := 6) rfl) (roLe _ (H.get (k := 0) rfl)) hr304z)]; try rfl) rfl rfl ?_
   intro w306z H
   refine s_nil ⟨(H.pick [7, 8, 9, 11] (by decide) rfl), ?_⟩
   refine t_nil ?_
   refine W.region rfl ?_
   refine s_val (x_mv (v := I n) rfl) ?_
   obtain ⟨sd307z, hM⟩ := M.e_grd hM
   simp only [Bool.and_eq_true, decide_eq_true_eq] at sd307z
   refine s_val (x_ari (a := n) (b := 1) (r := n - 1) rfl rfl rfl (by omega)) ?_
   refine s_val (x_as (v := I (n - 1)) rfl) ?_
   refine s_nil ?_
   exact ⟨m155z, lt156z, q18, q28, n - 1, l7 ++ ([(⟨(r0 : Int), (r1 : Int), (r22 : Int), r32⟩ : Old10)]), v302z, rw_l7 ++ ([rw294z]), Bs_16, _, upds_of _ _ ⟨rfl, rfl, rfl, rfl, rfl, trivial⟩, M.e_inl hM hN158z, (H.pick [6, 0, 5, 8, 9, 10, 11] (by decide) rfl), hr304z⟩
  replace hM := M.e_f hM c159z
  simp only [decide_eq_true_eq, decide_eq_false_iff_not, beq_iff_eq, bne_iff_ne, beq_eq_false_iff_ne, bne_eq_false_iff_eq, ne_eq, Decidable.not_not] at c159z
  refine W.exit ?_
  have hX308z := M.e_inr hM hN158z
  subst hX308z
  replace hM := hk151z
  try dsimp only at hM
  refine W.seq ?_
  refine W.region rfl ?_
  refine s_val (x_ld (p := .pointer (some ⟨b_2, 0, none⟩)) (v := .agg #[v_l, v_l7, I r2, I (r2 + r3)]) rfl (ldb_ag (ds := [v_l, v_l7, I r2, I (r2 + r3)]) Ag26 Sz26 (H.blk (k := 5) rfl) rfl rfl)) ?_
  refine s_val (x_mv (v := v_l2) rfl) ?_
  refine t_st (k := 6) (b := b_1) (off := 0) (cs := [.slice none 0 0, .slice none 0 0, I 0, I 0]) (vs := [v_l, v_l7, I r2, I (r2 + r3)]) (cs' := [v_l, v_l7, I r2, I (r2 + r3)]) (v := .agg #[v_l, v_l7, I r2, I (r2 + r3)]) (L' := [cOwn (α := Raw 3) 43 v_l7 rw_l7, cRo B_l7, cBlk b_s [v_s_bytes, I s6, I s7] 101, cOwn (α := Int) 3 v_l2 l2, cOwn (α := Yr) 41 v_l l, cBlk b_2 [v_l, v_l7, I r2, I (r2 + r3)] 26, cBlk b_1 [v_l, v_l7, I r2, I (r2 + r3)] 26]) H rfl rfl rfl Sz26 rfl rfl rfl (by simp only [List.all_cons, List.all_nil, Bool.true_and, Bool.and_true, Sl.oc (ownSl (H.get (k := 4) rfl)), Sl.oc (rowSl rfl (H.get (k := 0) rfl) (roLe _ (H.get (k := 1) rfl)) hr_l7)]; try rfl) rfl rfl ?_
  intro w309z H
  refine s_val (x_as (v := v_l2) rfl) ?_
  refine s_nil ?_
  refine W.ret ?_
  have hb310z := (H.blk (k := 6) rfl)
  have hr_ := M.e_pure hM
  exact ⟨_, (resE_ofn (vs := [.agg #[v_l, v_l7, I r2, I (r2 + r3)], v_l2]) rfl rfl (.cell (v := .agg #[v_l, v_l7, I r2, I (r2 + r3)]) rfl (run_loadVar_ag (ds := [v_l, v_l7, I r2, I (r2 + r3)]) Ag26 Sz26 hb310z rfl rfl) <| .tmp (v := v_l2) rfl <| .nil)), ⟨l, l7, r2, (r2 + r3), l2, s6, s7, v_l, v_l7, rw_l7, B_l7, v_l2, hr_, rfl, (H.pick [4, 0, 1, 3, 2] (by decide) rfl), hr_l7⟩⟩
 skip
 obtain ⟨r312z, hx311z, hM⟩ := M.e_bind hM
 refine s_call cf14 [.pointer (some ⟨b_s, 0, none⟩), I most] rfl (zaa s_bytes q1 q2 most (hC_s_bytes.app _) hs_s_bytes hx311z _ (St.give (L := [cBlk b_s [v_s_bytes, I q1, I q2] 101, cBlk b_2 [.slice none 0 0, .slice none 0 0, I r2, I 0] 26, cBlk b_1 [.slice none 0 0, .slice none 0 0, I 0, I 0] 26]) (A := [cBlk b_s [v_s_bytes, I q1, I q2] 101]) (T := [cBlk b_2 [.slice none 0 0, .slice none 0 0, I r2, I 0] 26, cBlk b_1 [.slice none 0 0, .slice none 0 0, I 0, I 0] 26]) (H.pick [1, 0, 2] (by decide) rfl) rfl)) ?_
 rintro vq w313z ⟨r3, q12, q22, hr314z, hvq, H2_⟩
 subst hr314z
 subst vq
 try dsimp only at hM
 replace H : St w w313z [cBlk b_s [v_s_bytes, I q12, I q22] 101, cBlk b_2 [.slice none 0 0, .slice none 0 0, I r2, I 0] 26, cBlk b_1 [.slice none 0 0, .slice none 0 0, I 0, I 0] 26] R := H.pick [1, 0, 2] (by decide) rfl |>.back H2_ rfl
 clear H2_
 refine s_nil ⟨(H.pick [2] (by decide) rfl), ?_⟩
 refine t_l rfl ?_
 refine s_val (x_ld (p := .pointer (some ⟨b_2, 2, none⟩)) (v := I r2) rfl (ldb_sc Sc3 (H.blk (k := 1) rfl) rfl)) ?_
 refine s_nil ⟨(H.pick [2] (by decide) rfl), ?_⟩
 obtain ⟨sd315z, hM⟩ := M.e_grd hM
 simp only [Bool.and_eq_true, decide_eq_true_eq] at sd315z
 refine t_q rfl (fun w' H => x_ari (a := r2) (b := r3) (r := r2 + r3) rfl rfl rfl (by omega)) ?_
 refine t_q rfl (fun w' H => x_fa (a := .pointer (some ⟨b_2, 0, none⟩)) (v := .pointer (some ⟨b_2, 3, none⟩)) rfl (fa_blk (o := 0) Fd26_3 Sz3)) ?_
 refine t_l rfl ?_
 refine t_st (k := 1) (b := b_2) (off := 3) (cs := [.slice none 0 0, .slice none 0 0, I r2, I 0]) (vs := [I (r2 + r3)]) (cs' := [.slice none 0 0, .slice none 0 0, I r2, I (r2 + r3)]) (v := I (r2 + r3)) (L' := [cBlk b_s [v_s_bytes, I q12, I q22] 101, cBlk b_2 [.slice none 0 0, .slice none 0 0, I r2, I (r2 + r3)] 26, cBlk b_1 [.slice none 0 0, .slice none 0 0, I 0, I 0] 26]) H rfl rfl rfl Sz3 rfl rfl rfl rfl rfl rfl ?_
 intro w316z H
 refine s_nil ⟨(H.pick [2] (by decide) rfl), ?_⟩
 refine t_nil ?_
 refine W.seq ?_
 refine W.region rfl ?_
 refine s_val (x_as (v := .slice none 0 0) rfl) ?_
 refine s_nil ?_
 refine W.seq ?_
 refine W.seq ?_
 refine W.region rfl ?_
 refine s_val (x_fa (a := .pointer (some ⟨b_2, 0, none⟩)) (v := .pointer (some ⟨b_2, 2, none⟩)) rfl (fa_blk (o := 0) Fd26_2 Sz3)) ?_
 refine s_val (x_ld (p := .pointer (some ⟨b_2, 2, none⟩)) (v := I r2) rfl (ldb_sc Sc3 (H.blk (k := 1) rfl) rfl)) ?_
 refine s_val (x_as (v := I r2) rfl) ?_
 refine s_nil ?_
 refine W.block ?_
 replace H : St w w316z [cOwn (α := Yr) 41 (.slice none 0 0) ([]), cBlk b_s [v_s_bytes, I q12, I q22] 101, cBlk b_2 [.slice none 0 0, .slice none 0 0, I r2, I (r2 + r3)] 26, cBlk b_1 [.slice none 0 0, .slice none 0 0, I 0, I 0] 26] R := H.nilOwn (α := Yr) 41
 replace H : St w w316z [cOwn (α := Int) 3 (.slice none 0 0) ([]), cOwn (α := Yr) 41 (.slice none 0 0) ([]), cBlk b_s [v_s_bytes, I q12, I q22] 101, cBlk b_2 [(.slice none 0 0), .slice none 0 0, I r2, I (r2 + r3)] 26, cBlk b_1 [.slice none 0 0, .slice none 0 0, I 0, I 0] 26] R := H.nilOwn (α := Int) 3
 obtain ⟨ex317z, hi318z, hk319z⟩ := M.e_bind hM
 obtain ⟨m0_, hi318z⟩ := M.e_iter hi318z
 refine W.loop (fun m σ W => ∃ (s2 : Int) (s3 : Int) (year : Int) (l : List Yr) (l2 : List Int) (v_l : Value) (v_l2 : Value) (ρ : Env), σ = upds ρ [(0, .pointer (some ⟨b_s, 0, none⟩)), (4, .pointer (some ⟨b_1, 0, none⟩)), (6, .pointer (some ⟨b_2, 0, none⟩)), (7, v_l2), (8, I year)] /\ M.iterN (zam s_bytes r2 r3) m (s2, s3, year, l, l2) = some ex317z /\ St w W [cOwn (α := Int) 3 v_l2 l2, cOwn (α := Yr) 41 v_l l, cBlk b_s [v_s_bytes, I s2, I s3] 101, cBlk b_2 [v_l, .slice none 0 0, I r2, I (r2 + r3)] 26, cBlk b_1 [.slice none 0 0, .slice none 0 0, I 0, I 0] 26] R) ?_ ?_
 ·exact ⟨_, q12, q22, r2, [], [], (.slice none 0 0), (.slice none 0 0), _, upds_of _ _ ⟨rfl, rfl, rfl, rfl, rfl, trivial⟩, hi318z, H⟩
 rintro m322z σ w320z ⟨s2, s3, year, l, l2, v_l, v_l2, ρ, rfl, hI321z, H⟩
 obtain ⟨m323z, lt324z, x325z, hM, hN326z⟩ := M.e_iterN hI321z
 simp only [zam] at hM
 clear hI321z
 refine W.seq ?_
 refine W.seq ?_
 refine W.region rfl ?_
 refine s_val (x_mv (v := I year) rfl) ?_
 refine s_val (x_fa (a := .pointer (some ⟨b_2, 0, none⟩)) (v := .pointer (some ⟨b_2, 3, none⟩)) rfl (fa_blk (o := 0) Fd26_3 Sz3)) ?_
 refine s_val (x_ld (p := .pointer (some ⟨b_2, 3, none⟩)) (v := I (r2 + r3)) rfl (ldb_sc Sc3 (H.blk (k := 3) rfl) rfl)) ?_
 refine s_val (x_cmp (kd := .i64) (a := year) (b := r2 + r3) (r := decide (year <= (r2 + r3))) rfl rfl rfl) ?_
 refine s_nil ?_
 refine W.cond (decide (year <= (r2 + r3))) rfl (fun c327z => ?_) (fun c327z => ?_)
 ·replace hM := M.e_t hM c327z
  simp only [decide_eq_true_eq, decide_eq_false_iff_not, beq_iff_eq, bne_iff_ne, beq_eq_false_iff_ne, bne_eq_false_iff_eq, ne_eq, Decidable.not_not] at c327z
  refine W.skip ?_
  refine W.seq ?_
  refine W.block ?_
  refine W.seq ?_
  refine W.region rfl ?_
  refine s_val (x_mv (v := .pointer (some ⟨b_s, 0, none⟩)) rfl) ?_
  obtain ⟨r329z, hx328z, hM⟩ := M.e_bind hM
  refine s_call cf14 [.pointer (some ⟨b_s, 0, none⟩), I 600] rfl (zaa s_bytes s2 s3 600 (hC_s_bytes.app _) hs_s_bytes hx328z _ (St.give (L := [cBlk b_s [v_s_bytes, I s2, I s3] 101, cOwn (α := Int) 3 v_l2 l2, cOwn (α := Yr) 41 v_l l, cBlk b_2 [v_l, .slice none 0 0, I r2, I (r2 + r3)] 26, cBlk b_1 [.slice none 0 0, .slice none 0 0, I 0, I 0] 26]) (A := [cBlk b_s [v_s_bytes, I s2, I s3] 101]) (T := [cOwn (α := Int) 3 v_l2 l2, cOwn (α := Yr) 41 v_l l, cBlk b_2 [v_l, .slice none 0 0, I r2, I (r2 + r3)] 26, cBlk b_1 [.slice none 0 0, .slice none 0 0, I 0, I 0] 26]) (H.pick [2, 0, 1, 3, 4] (by decide) rfl) rfl)) ?_
  rintro vq w330z ⟨r4, q13, q23, hr331z, hvq, H2_⟩
  subst hr331z
  subst vq
  try dsimp only at hM
  replace H : St w w330z [cBlk b_s [v_s_bytes, I q13, I q23] 101, cOwn (α := Int) 3 v_l2 l2, cOwn (α := Yr) 41 v_l l, cBlk b_2 [v_l, .slice none 0 0, I r2, I (r2 + r3)] 26, cBlk b_1 [.slice none 0 0, .slice none 0 0, I 0, I 0] 26] R := H.pick [2, 0, 1, 3, 4] (by decide) rfl |>.back H2_ rfl
  clear H2_
  refine s_val (x_as (v := I r4) rfl) ?_
  refine s_nil ?_
  refine W.seq ?_
  refine W.region rfl ?_
  refine s_val (x_mv (v := v_l2) rfl) ?_
  refine s_val (x_mv (v := I r4) rfl) ?_
  refine t_bs (α := Int) T27 [I r4] [(r4 : Int)] H rfl (.cons rfl (Flat.rep_enc _ (r4 : Int)) <| .nil) rfl rfl rfl ?_
  intro v332z w333z H
  obtain ⟨sd334z, hM⟩ := M.e_grd hM
  simp only [Bool.and_eq_true, decide_eq_true_eq] at sd334z
  refine t_app (α := Int) (k := 2) (l := l2) (l2 := [(r4 : Int)]) (l' := l2 ++ ([(r4 : Int)])) (vy := v332z) T27 rfl H rfl rfl rfl (ownSl (H.get (k := 0) rfl)) (ownLe _ (H.get (k := 0) rfl)) (rfl) (by first | omega | (simp only [List.length_nil] at *; omega)) ?_
  intro v335z w336z H
  replace H : St w w336z [cOwn (α := Int) 3 v332z ([(r4 : Int)]), cBlk b_s [v_s_bytes, I q13, I q23] 101, cOwn (α := Int) 3 v335z (l2 ++ ([(r4 : Int)])), cOwn (α := Yr) 41 v_l l, cBlk b_2 [v_l, .slice none 0 0, I r2, I (r2 + r3)] 26, cBlk b_1 [.slice none 0 0, .slice none 0 0, I 0, I 0] 26] R := H
  refine s_val (x_as (v := v335z) rfl) ?_
  refine s_nil ?_
  refine W.seq ?_
  refine W.region rfl ?_
  refine s_val (x_mv (v := .pointer (some ⟨b_s, 0, none⟩)) rfl) ?_
  obtain ⟨r338z, hx337z, hM⟩ := M.e_bind hM
  refine s_call cf14 [.pointer (some ⟨b_s, 0, none⟩), I 3] rfl (zaa s_bytes q13 q23 3 (hC_s_bytes.app _) hs_s_bytes hx337z _ (St.give (L := [cBlk b_s [v_s_bytes, I q13, I q23] 101, cOwn (α := Int) 3 v332z ([(r4 : Int)]), cOwn (α := Int) 3 v335z (l2 ++ ([(r4 : Int)])), cOwn (α := Yr) 41 v_l l, cBlk b_2 [v_l, .slice none 0 0, I r2, I (r2 + r3)] 26, cBlk b_1 [.slice none 0 0, .slice none 0 0, I 0, I 0] 26]) (A := [cBlk b_s [v_s_bytes, I q13, I q23] 101]) (T := [cOwn (α := Int) 3 v332z ([(r4 : Int)]), cOwn (α := Int) 3 v335z (l2 ++ ([(r4 : Int)])), cOwn (α := Yr) 41 v_l l, cBlk b_2 [v_l, .slice none 0 0, I r2, I (r2 + r3)] 26, cBlk b_1 [.slice none 0 0, .slice none 0 0, I 0, I 0] 26]) (H.pick [1, 0, 2, 3, 4, 5] (by decide) rfl) rfl)) ?_
  rintro vq w339z ⟨r5, q14, q24, hr340z, hvq, H2_⟩
  subst hr340z
  subst vq
  try dsimp only at hM
  replace H : St w w339z [cBlk b_s [v_s_bytes, I q14, I q24] 101, cOwn (α := Int) 3 v332z ([(r4 : Int)]), cOwn (α := Int) 3 v335z (l2 ++ ([(r4 : Int)])), cOwn (α := Yr) 41 v_l l, cBlk b_2 [v_l, .slice none 0 0, I r2, I (r2 + r3)] 26, cBlk b_1 [.slice none 0 0, .slice none 0 0, I 0, I 0] 26] R := H.pick [1, 0, 2, 3, 4, 5] (by decide) rfl |>.back H2_ rfl
  clear H2_
  refine s_val (x_cmp (kd := .i64) (a := r5) (b := 0) (r := r5 == 0) rfl rfl rfl) ?_
  refine s_val (x_mv (v := B (r5 == 0)) rfl) ?_
  refine g_val (r5 == 0) (gy_t rfl) (fun hg => x_fa (a := .pointer (some ⟨b_2, 0, none⟩)) (v := .pointer (some ⟨b_2, 0, none⟩)) rfl (fa_blk (o := 0) Fd26_0 Sz23)) ?_
  refine g_val (r5 == 0) (gy_t rfl) (fun hg => x_ld (p := .pointer (some ⟨b_2, 0, none⟩)) (v := v_l) (gd_of (c := r5 == 0) hg (.pointer (some ⟨b_2, 0, none⟩))) (ldb_sc Sc23 (H.blk (k := 4) rfl) rfl)) ?_
  refine g_val (r5 == 0) (gy_t rfl) (fun hg => x_lenS T23.und (gd_of (c := r5 == 0) hg (v_l)) (ownSl (H.get (k := 3) rfl))) ?_
  refine g_val (r5 == 0) (gy_t rfl) (fun hg => x_cmp (kd := .i64) (a := (l.length : Int)) (b := 60) (r := decide ((l.length : Int) < 60)) (gd_of (c := r5 == 0) hg (I (l.length : Int))) rfl rfl) ?_
  refine s_val (x_pand (b := r5 == 0) (r := decide ((l.length : Int) < 60)) rfl (fun hb => gd_of (c := r5 == 0) (by first | exact hb | (rw [hb]; rfl) | simp_all) (B (decide ((l.length : Int) < 60)))) rfl) ?_
  refine s_nil ?_
  refine W.cond ((r5 == 0) && (decide ((l.length : Int) < 60))) rfl (fun c342z => ?_) (fun c342z => ?_)
  ·replace hM := M.e_t hM c342z
   refine W.drawT (fun W => St w W [cOwn (α := Int) 3 v332z ([(r4 : Int)]), cOwn (α := Int) 3 v335z (l2 ++ ([(r4 : Int)])), cBlk b_1 [.slice none 0 0, .slice none 0 0, I 0, I 0] 26] R) (.q 0 (.q 2 (.q 3 (.q 4 (.q 8 (.q 9 (.l2 1 (.l 5 (.q 6 (.q 7 (.l 10 (.q 11 (.q 12 (.q 13 (.l 14 (.l 15 (.q 16 (.l 17 .nil))))))))))) 5 (.q 6 (.q 7 (.l2 1 (.l 10 (.q 11 (.q 12 (.q 13 (.l 14 (.l 15 (.q 16 (.l 17 .nil)))))))) 10 (.q 11 (.q 12 (.q 13 (.l2 1 (.l 14 (.l 15 (.q 16 (.l 17 .nil)))) 14 (.l 1 (.l 15 (.q 16 (.l 17 .nil)))))))))))))))))) mixed (by decide +kernel) rfl ?_
   intro w343z hx_
   replace H : St w w343z [cBlk b_s [v_s_bytes, I q14, I q24] 101, cOwn (α := Int) 3 v332z ([(r4 : Int)]), cOwn (α := Int) 3 v335z (l2 ++ ([(r4 : Int)])), cOwn (α := Yr) 41 v_l l, cBlk b_2 [v_l, .slice none 0 0, I r2, I (r2 + r3)] 26, cBlk b_1 [.slice none 0 0, .slice none 0 0, I 0, I 0] 26] R := H.ext hx_
   clear hx_
   refine ⟨(H.pick [1, 2, 5] (by decide) rfl), ?_⟩
   refine t_q rfl (fun w' H => x_fa (a := .pointer (some ⟨b_2, 0, none⟩)) (v := .pointer (some ⟨b_2, 0, none⟩)) rfl (fa_blk (o := 0) Fd26_0 Sz23)) ?_
   refine t_q rfl (fun w' H => x_mv (v := I year) rfl) ?_
   refine t_q rfl (fun w' H => x_mv (v := I r4) rfl) ?_
   refine t_q rfl (fun w' H => x_mv (v := .pointer (some ⟨b_s, 0, none⟩)) rfl) ?_
   refine t_q rfl (fun w' H => x_mv (v := I r4) rfl) ?_
   refine t_q rfl (fun w' H => x_mv (v := .pointer (some ⟨b_s, 0, none⟩)) rfl) ?_
   refine t_l2 rfl rfl ?_ ?_
   ·skip
    refine s_val (x_ld (p := .pointer (some ⟨b_2, 0, none⟩)) (v := v_l) rfl (ldb_sc Sc23 (H.blk (k := 4) rfl) rfl)) ?_
    have hvc_q360z := Sl.cells (ownSl (H.get (k := 3) rfl))
    have hvo_q360z := Sl.oc (ownSl (H.get (k := 3) rfl))
    refine s_nil ⟨(H.pick [1, 2, 5] (by decide) rfl), ?_⟩
    refine t_l rfl ?_
    obtain ⟨r362z, hx361z, hM⟩ := M.e_bind hM
    refine s_call cf14 [.pointer (some ⟨b_s, 0, none⟩), I 40] rfl (zaa s_bytes q14 q24 40 (hC_s_bytes.app _) hs_s_bytes hx361z _ (St.give (T := [cOwn (α := Int) 3 v332z ([(r4 : Int)]), cOwn (α := Int) 3 v335z (l2 ++ ([(r4 : Int)])), cOwn (α := Yr) 41 v_l l, cBlk b_2 [v_l, .slice none 0 0, I r2, I (r2 + r3)] 26, cBlk b_1 [.slice none 0 0, .slice none 0 0, I 0, I 0] 26]) H rfl)) ?_
    rintro vq w363z ⟨r6, q15, q25, hr364z, hvq, H2_⟩
    subst hr364z
    subst vq
    try dsimp only at hM
    replace H : St w w363z [cBlk b_s [v_s_bytes, I q15, I q25] 101, cOwn (α := Int) 3 v332z ([(r4 : Int)]), cOwn (α := Int) 3 v335z (l2 ++ ([(r4 : Int)])), cOwn (α := Yr) 41 v_l l, cBlk b_2 [v_l, .slice none 0 0, I r2, I (r2 + r3)] 26, cBlk b_1 [.slice none 0 0, .slice none 0 0, I 0, I 0] 26] R := H.back H2_ rfl
    clear H2_
    refine s_nil ⟨(H.pick [1, 2, 5] (by decide) rfl), ?_⟩
    obtain ⟨sd365z, hM⟩ := M.e_grd hM
    simp only [Bool.and_eq_true, decide_eq_true_eq] at sd365z
    refine t_q rfl (fun w' H => x_ari (a := r4) (b := r6) (r := r4 - r6) rfl rfl rfl (by omega)) ?_
    refine t_q rfl (fun w' H => x_max (kd := .i64) (a := 0) (b := r4 - r6) rfl rfl) ?_
    refine t_l rfl ?_
    obtain ⟨r367z, hx366z, hM⟩ := M.e_bind hM
    refine s_call cf14 [.pointer (some ⟨b_s, 0, none⟩), I 40] rfl (zaa s_bytes q15 q25 40 (hC_s_bytes.app _) hs_s_bytes hx366z _ (St.give (T := [cOwn (α := Int) 3 v332z ([(r4 : Int)]), cOwn (α := Int) 3 v335z (l2 ++ ([(r4 : Int)])), cOwn (α := Yr) 41 v_l l, cBlk b_2 [v_l, .slice none 0 0, I r2, I (r2 + r3)] 26, cBlk b_1 [.slice none 0 0, .slice none 0 0, I 0, I 0] 26]) H rfl)) ?_
    rintro vq w368z ⟨r7, q16, q26, hr369z, hvq, H2_⟩
    subst hr369z
    subst vq
    try dsimp only at hM
    replace H : St w w368z [cBlk b_s [v_s_bytes, I q16, I q26] 101, cOwn (α := Int) 3 v332z ([(r4 : Int)]), cOwn (α := Int) 3 v335z (l2 ++ ([(r4 : Int)])), cOwn (α := Yr) 41 v_l l, cBlk b_2 [v_l, .slice none 0 0, I r2, I (r2 + r3)] 26, cBlk b_1 [.slice none 0 0, .slice none 0 0, I 0, I 0] 26] R := H.back H2_ rfl
    clear H2_
    refine s_nil ⟨(H.pick [1, 2, 5] (by decide) rfl), ?_⟩
    obtain ⟨sd370z, hM⟩ := M.e_grd hM
    simp only [Bool.and_eq_true, decide_eq_true_eq] at sd370z
    refine t_q rfl (fun w' H => x_ari (a := r4) (b := r7) (r := r4 + r7) rfl rfl rfl (by omega)) ?_
    refine t_q rfl (fun w' H => x_bld (ps := [(0, I (max 0 (r4 - r6))), (1, I (r4 + r7))]) (zs := [I 0, I 0]) (L' := [I (max 0 (r4 - r6)), I (r4 + r7)]) rfl Try.underlying35 Al35 rfl (Bd35 Try.underlying35) (.cons (cs := [I (max 0 (r4 - r6))]) rfl rfl rfl rfl rfl <| .cons (cs := [I (r4 + r7)]) rfl rfl rfl rfl rfl <| .nil)) ?_
    refine t_q rfl (fun w' H => x_bld (ps := [(0, I year), (1, .agg #[I (max 0 (r4 - r6)), I (r4 + r7)])]) (zs := [I 0, I 0, I 0]) (L' := [I year, I (max 0 (r4 - r6)), I (r4 + r7)]) rfl Try.underlying41 Al41 rfl (Bd41 Try.underlying41) (.cons (cs := [I year]) rfl rfl rfl rfl rfl <| .cons (cs := [I (max 0 (r4 - r6)), I (r4 + r7)]) rfl rfl rfl rfl rfl <| .nil)) ?_
    refine t_l rfl ?_
    refine t_bs (α := Yr) T23 [.agg #[I year, I (max 0 (r4 - r6)), I (r4 + r7)]] [(⟨(year : Int), (max 0 (r4 - r6) : Int), (r4 + r7 : Int)⟩ : Yr)] H rfl (.cons rfl (Flat.rep_enc _ (⟨(year : Int), (max 0 (r4 - r6) : Int), (r4 + r7 : Int)⟩ : Yr)) <| .nil) rfl rfl rfl ?_
    intro v371z w372z H
    have hvc_q373z := Sl.cells (ownSl (H.get (k := 0) rfl))
    have hvo_q373z := Sl.oc (ownSl (H.get (k := 0) rfl))
    refine s_nil ⟨(H.pick [2, 3, 6] (by decide) rfl), ?_⟩
    refine t_l rfl ?_
    obtain ⟨sd374z, hM⟩ := M.e_grd hM
    simp only [Bool.and_eq_true, decide_eq_true_eq] at sd374z
    refine t_app (α := Yr) (k := 4) (l := l) (l2 := [(⟨(year : Int), (max 0 (r4 - r6) : Int), (r4 + r7 : Int)⟩ : Yr)]) (l' := l ++ ([(⟨(year : Int), (max 0 (r4 - r6) : Int), (r4 + r7 : Int)⟩ : Yr)])) (vy := v371z) T23 rfl H rfl rfl rfl (ownSl (H.get (k := 0) rfl)) (ownLe _ (H.get (k := 0) rfl)) (rfl) (by first | omega | (simp only [List.length_nil] at *; omega)) ?_
    intro v375z w376z H
    replace H : St w w376z [cOwn (α := Yr) 41 v371z ([(⟨(year : Int), (max 0 (r4 - r6) : Int), (r4 + r7 : Int)⟩ : Yr)]), cBlk b_s [v_s_bytes, I q16, I q26] 101, cOwn (α := Int) 3 v332z ([(r4 : Int)]), cOwn (α := Int) 3 v335z (l2 ++ ([(r4 : Int)])), cOwn (α := Yr) 41 v375z (l ++ ([(⟨(year : Int), (max 0 (r4 - r6) : Int), (r4 + r7 : Int)⟩ : Yr)])), cBlk b_2 [v_l, .slice none 0 0, I r2, I (r2 + r3)] 26, cBlk b_1 [.slice none 0 0, .slice none 0 0, I 0, I 0] 26] R := H
    have hvc_q377z := Sl.cells (ownSl (H.get (k := 4) rfl))
    have hvo_q377z := Sl.oc (ownSl (H.get (k := 4) rfl))
    refine s_nil ⟨(H.pick [2, 3, 6] (by decide) rfl), ?_⟩
    refine t_q rfl (fun w' H => x_fa (a := .pointer (some ⟨b_2, 0, none⟩)) (v := .pointer (some ⟨b_2, 0, none⟩)) rfl (fa_blk (o := 0) Fd26_0 Sz23)) ?_
    refine t_l rfl ?_
    refine t_st (k := 5) (b := b_2) (off := 0) (cs := [v_l, .slice none 0 0, I r2, I (r2 + r3)]) (vs := [v375z]) (cs' := [v375z, .slice none 0 0, I r2, I (r2 + r3)]) (v := v375z) (L' := [cOwn (α := Yr) 41 v371z ([(⟨(year : Int), (max 0 (r4 - r6) : Int), (r4 + r7 : Int)⟩ : Yr)]), cBlk b_s [v_s_bytes, I q16, I q26] 101, cOwn (α := Int) 3 v332z ([(r4 : Int)]), cOwn (α := Int) 3 v335z (l2 ++ ([(r4 : Int)])), cOwn (α := Yr) 41 v375z (l ++ ([(⟨(year : Int), (max 0 (r4 - r6) : Int), (r4 + r7 : Int)⟩ : Yr)])), cBlk b_2 [v375z, .slice none 0 0, I r2, I (r2 + r3)] 26, cBlk b_1 [.slice none 0 0, .slice none 0 0, I 0, I 0] 26]) H rfl rfl rfl Sz23 (Sl.cells (ownSl (H.get (k := 4) rfl))) rfl rfl (by simp only [List.all_cons, List.all_nil, Bool.true_and, Bool.and_true, Sl.oc (ownSl (H.get (k := 4) rfl))]; try rfl) rfl rfl ?_
    intro w378z H
    refine s_nil ⟨(H.pick [2, 3, 6] (by decide) rfl), ?_⟩
    refine t_nil ?_
    refine W.region rfl ?_
    refine s_val (x_mv (v := I year) rfl) ?_
    obtain ⟨sd379z, hM⟩ := M.e_grd hM
    simp only [Bool.and_eq_true, decide_eq_true_eq] at sd379z
    refine s_val (x_ari (a := year) (b := 1) (r := year + 1) rfl rfl rfl (by omega)) ?_
    refine s_val (x_as (v := I (year + 1)) rfl) ?_
    refine s_nil ?_
    exact ⟨m323z, lt324z, q16, q26, year + 1, l ++ ([(⟨(year : Int), (max 0 (r4 - r6) : Int), (r4 + r7 : Int)⟩ : Yr)]), l2 ++ ([(r4 : Int)]), v375z, v335z, _, upds_of _ _ ⟨rfl, rfl, rfl, rfl, rfl, trivial⟩, M.e_inl hM hN326z, (H.pick [3, 4, 1, 5, 6] (by decide) rfl)⟩
   skip
   obtain ⟨r381z, hx380z, hM⟩ := M.e_bind hM
   refine s_call cf14 [.pointer (some ⟨b_s, 0, none⟩), I 40] rfl (zaa s_bytes q14 q24 40 (hC_s_bytes.app _) hs_s_bytes hx380z _ (St.give (T := [cOwn (α := Int) 3 v332z ([(r4 : Int)]), cOwn (α := Int) 3 v335z (l2 ++ ([(r4 : Int)])), cOwn (α := Yr) 41 v_l l, cBlk b_2 [v_l, .slice none 0 0, I r2, I (r2 + r3)] 26, cBlk b_1 [.slice none 0 0, .slice none 0 0, I 0, I 0] 26]) H rfl)) ?_
   rintro vq w382z ⟨r6, q15, q25, hr383z, hvq, H2_⟩
   subst hr383z
   subst vq
   try dsimp only at hM
   replace H : St w w382z [cBlk b_s [v_s_bytes, I q15, I q25] 101, cOwn (α := Int) 3 v332z ([(r4 : Int)]), cOwn (α := Int) 3 v335z (l2 ++ ([(r4 : Int)])), cOwn (α := Yr) 41 v_l l, cBlk b_2 [v_l, .slice none 0 0, I r2, I (r2 + r3)] 26, cBlk b_1 [.slice none 0 0, .slice none 0 0, I 0, I 0] 26] R := H.back H2_ rfl
   clear H2_
   have hvc_q384z := Sl.cells (ownSl (H.get (k := 3) rfl))
   have hvo_q384z := Sl.oc (ownSl (H.get (k := 3) rfl))
   refine s_nil ⟨(H.pick [1, 2, 5] (by decide) rfl), ?_⟩
   obtain ⟨sd385z, hM⟩ := M.e_grd hM
   simp only [Bool.and_eq_true, decide_eq_true_eq] at sd385z
   refine t_q rfl (fun w' H => x_ari (a := r4) (b := r6) (r := r4 - r6) rfl rfl rfl (by omega)) ?_
   refine t_q rfl (fun w' H => x_max (kd := .i64) (a := 0) (b := r4 - r6) rfl rfl) ?_
   refine t_l2 rfl rfl ?_ ?_
   ·skip
    refine s_val (x_ld (p := .pointer (some ⟨b_2, 0, none⟩)) (v := v_l) rfl (ldb_sc Sc23 (H.blk (k := 4) rfl) rfl)) ?_
    refine s_nil ⟨(H.pick [1, 2, 5] (by decide) rfl), ?_⟩
    refine t_l rfl ?_
    obtain ⟨r398z, hx397z, hM⟩ := M.e_bind hM
    refine s_call cf14 [.pointer (some ⟨b_s, 0, none⟩), I 40] rfl (zaa s_bytes q15 q25 40 (hC_s_bytes.app _) hs_s_bytes hx397z _ (St.give (T := [cOwn (α := Int) 3 v332z ([(r4 : Int)]), cOwn (α := Int) 3 v335z (l2 ++ ([(r4 : Int)])), cOwn (α := Yr) 41 v_l l, cBlk b_2 [v_l, .slice none 0 0, I r2, I (r2 + r3)] 26, cBlk b_1 [.slice none 0 0, .slice none 0 0, I 0, I 0] 26]) H rfl)) ?_
    rintro vq w399z ⟨r7, q16, q26, hr400z, hvq, H2_⟩
    subst hr400z
    subst vq
    try dsimp only at hM
    replace H : St w w399z [cBlk b_s [v_s_bytes, I q16, I q26] 101, cOwn (α := Int) 3 v332z ([(r4 : Int)]), cOwn (α := Int) 3 v335z (l2 ++ ([(r4 : Int)])), cOwn (α := Yr) 41 v_l l, cBlk b_2 [v_l, .slice none 0 0, I r2, I (r2 + r3)] 26, cBlk b_1 [.slice none 0 0, .slice none 0 0, I 0, I 0] 26] R := H.back H2_ rfl
    clear H2_
    refine s_nil ⟨(H.pick [1, 2, 5] (by decide) rfl), ?_⟩
    obtain ⟨sd401z, hM⟩ := M.e_grd hM
    simp only [Bool.and_eq_true, decide_eq_true_eq] at sd401z
    refine t_q rfl (fun w' H => x_ari (a := r4) (b := r7) (r := r4 + r7) rfl rfl rfl (by omega)) ?_
    refine t_q rfl (fun w' H => x_bld (ps := [(0, I (max 0 (r4 - r6))), (1, I (r4 + r7))]) (zs := [I 0, I 0]) (L' := [I (max 0 (r4 - r6)), I (r4 + r7)]) rfl Try.underlying35 Al35 rfl (Bd35 Try.underlying35) (.cons (cs := [I (max 0 (r4 - r6))]) rfl rfl rfl rfl rfl <| .cons (cs := [I (r4 + r7)]) rfl rfl rfl rfl rfl <| .nil)) ?_
    refine t_q rfl (fun w' H => x_bld (ps := [(0, I year), (1, .agg #[I (max 0 (r4 - r6)), I (r4 + r7)])]) (zs := [I 0, I 0, I 0]) (L' := [I year, I (max 0 (r4 - r6)), I (r4 + r7)]) rfl Try.underlying41 Al41 rfl (Bd41 Try.underlying41) (.cons (cs := [I year]) rfl rfl rfl rfl rfl <| .cons (cs := [I (max 0 (r4 - r6)), I (r4 + r7)]) rfl rfl rfl rfl rfl <| .nil)) ?_
    refine t_l rfl ?_
    refine t_bs (α := Yr) T23 [.agg #[I year, I (max 0 (r4 - r6)), I (r4 + r7)]] [(⟨(year : Int), (max 0 (r4 - r6) : Int), (r4 + r7 : Int)⟩ : Yr)] H rfl (.cons rfl (Flat.rep_enc _ (⟨(year : Int), (max 0 (r4 - r6) : Int), (r4 + r7 : Int)⟩ : Yr)) <| .nil) rfl rfl rfl ?_
    intro v402z w403z H
    have hvc_q404z := Sl.cells (ownSl (H.get (k := 0) rfl))
    have hvo_q404z := Sl.oc (ownSl (H.get (k := 0) rfl))
    refine s_nil ⟨(H.pick [2, 3, 6] (by decide) rfl), ?_⟩
    refine t_l rfl ?_
    obtain ⟨sd405z, hM⟩ := M.e_grd hM
    simp only [Bool.and_eq_true, decide_eq_true_eq] at sd405z
    refine t_app (α := Yr) (k := 4) (l := l) (l2 := [(⟨(year : Int), (max 0 (r4 - r6) : Int), (r4 + r7 : Int)⟩ : Yr)]) (l' := l ++ ([(⟨(year : Int), (max 0 (r4 - r6) : Int), (r4 + r7 : Int)⟩ : Yr)])) (vy := v402z) T23 rfl H rfl rfl rfl (ownSl (H.get (k := 0) rfl)) (ownLe _ (H.get (k := 0) rfl)) (rfl) (by first | omega | (simp only [List.length_nil] at *; omega)) ?_
    intro v406z w407z H
    replace H : St w w407z [cOwn (α := Yr) 41 v402z ([(⟨(year : Int), (max 0 (r4 - r6) : Int), (r4 + r7 : Int)⟩ : Yr)]), cBlk b_s [v_s_bytes, I q16, I q26] 101, cOwn (α := Int) 3 v332z ([(r4 : Int)]), cOwn (α := Int) 3 v335z (l2 ++ ([(r4 : Int)])), cOwn (α := Yr) 41 v406z (l ++ ([(⟨(year : Int), (max 0 (r4 - r6) : Int), (r4 + r7 : Int)⟩ : Yr)])), cBlk b_2 [v_l, .slice none 0 0, I r2, I (r2 + r3)] 26, cBlk b_1 [.slice none 0 0, .slice none 0 0, I 0, I 0] 26] R := H
    have hvc_q408z := Sl.cells (ownSl (H.get (k := 4) rfl))
    have hvo_q408z := Sl.oc (ownSl (H.get (k := 4) rfl))
    refine s_nil ⟨(H.pick [2, 3, 6] (by decide) rfl), ?_⟩
    refine t_q rfl (fun w' H => x_fa (a := .pointer (some ⟨b_2, 0, none⟩)) (v := .pointer (some ⟨b_2, 0, none⟩)) rfl (fa_blk (o := 0) Fd26_0 Sz23)) ?_
    refine t_l rfl ?_
    refine t_st (k := 5) (b := b_2) (off := 0) (cs := [v_l, .slice none 0 0, I r2, I (r2 + r3)]) (vs := [v406z]) (cs' := [v406z, .slice none 0 0, I r2, I (r2 + r3)]) (v := v406z) (L' := [cOwn (α := Yr) 41 v402z ([(⟨(year : Int), (max 0 (r4 - r6) : Int), (r4 + r7 : Int)⟩ : Yr)]), cBlk b_s [v_s_bytes, I q16, I q26] 101, cOwn (α := Int) 3 v332z ([(r4 : Int)]), cOwn (α := Int) 3 v335z (l2 ++ ([(r4 : Int)])), cOwn (α := Yr) 41 v406z (l ++ ([(⟨(year : Int), (max 0 (r4 - r6) : Int), (r4 + r7 : Int)⟩ : Yr)])), cBlk b_2 [v406z, .slice none 0 0, I r2, I (r2 + r3)] 26, cBlk b_1 [.slice none 0 0, .slice none 0 0, I 0, I 0] 26]) H rfl rfl rfl Sz23 (Sl.cells (ownSl (H.get (k := 4) rfl))) rfl rfl (by simp only [List.all_cons, List.all_nil, Bool.true_and, Bool.and_true, Sl.oc (ownSl (H.get (k := 4) rfl))]; try rfl) rfl rfl ?_
    intro w409z H
    refine s_nil ⟨(H.pick [2, 3, 6] (by decide) rfl), ?_⟩
    refine t_nil ?_
    refine W.region rfl ?_
    refine s_val (x_mv (v := I year) rfl) ?_
    obtain ⟨sd410z, hM⟩ := M.e_grd hM
    simp only [Bool.and_eq_true, decide_eq_true_eq] at sd410z
    refine s_val (x_ari (a := year) (b := 1) (r := year + 1) rfl rfl rfl (by omega)) ?_
    refine s_val (x_as (v := I (year + 1)) rfl) ?_
    refine s_nil ?_
    exact ⟨m323z, lt324z, q16, q26, year + 1, l ++ ([(⟨(year : Int), (max 0 (r4 - r6) : Int), (r4 + r7 : Int)⟩ : Yr)]), l2 ++ ([(r4 : Int)]), v406z, v335z, _, upds_of _ _ ⟨rfl, rfl, rfl, rfl, rfl, trivial⟩, M.e_inl hM hN326z, (H.pick [3, 4, 1, 5, 6] (by decide) rfl)⟩
   skip
   obtain ⟨r412z, hx411z, hM⟩ := M.e_bind hM
   refine s_call cf14 [.pointer (some ⟨b_s, 0, none⟩), I 40] rfl (zaa s_bytes q15 q25 40 (hC_s_bytes.app _) hs_s_bytes hx411z _ (St.give (T := [cOwn (α := Int) 3 v332z ([(r4 : Int)]), cOwn (α := Int) 3 v335z (l2 ++ ([(r4 : Int)])), cOwn (α := Yr) 41 v_l l, cBlk b_2 [v_l, .slice none 0 0, I r2, I (r2 + r3)] 26, cBlk b_1 [.slice none 0 0, .slice none 0 0, I 0, I 0] 26]) H rfl)) ?_
   rintro vq w413z ⟨r7, q16, q26, hr414z, hvq, H2_⟩
   subst hr414z
   subst vq
   try dsimp only at hM
   replace H : St w w413z [cBlk b_s [v_s_bytes, I q16, I q26] 101, cOwn (α := Int) 3 v332z ([(r4 : Int)]), cOwn (α := Int) 3 v335z (l2 ++ ([(r4 : Int)])), cOwn (α := Yr) 41 v_l l, cBlk b_2 [v_l, .slice none 0 0, I r2, I (r2 + r3)] 26, cBlk b_1 [.slice none 0 0, .slice none 0 0, I 0, I 0] 26] R := H.back H2_ rfl
   clear H2_
   refine s_nil ⟨(H.pick [1, 2, 5] (by decide) rfl), ?_⟩
   obtain ⟨sd415z, hM⟩ := M.e_grd hM
   simp only [Bool.and_eq_true, decide_eq_true_eq] at sd415z
   refine t_q rfl (fun w' H => x_ari (a := r4) (b := r7) (r := r4 + r7) rfl rfl rfl (by omega)) ?_
   refine t_q rfl (fun w' H => x_bld (ps := [(0, I (max 0 (r4 - r6))), (1, I (r4 + r7))]) (zs := [I 0, I 0]) (L' := [I (max 0 (r4 - r6)), I (r4 + r7)]) rfl Try.underlying35 Al35 rfl (Bd35 Try.underlying35) (.cons (cs := [I (max 0 (r4 - r6))]) rfl rfl rfl rfl rfl <| .cons (cs := [I (r4 + r7)]) rfl rfl rfl rfl rfl <| .nil)) ?_
   refine t_q rfl (fun w' H => x_bld (ps := [(0, I year), (1, .agg #[I (max 0 (r4 - r6)), I (r4 + r7)])]) (zs := [I 0, I 0, I 0]) (L' := [I year, I (max 0 (r4 - r6)), I (r4 + r7)]) rfl Try.underlying41 Al41 rfl (Bd41 Try.underlying41) (.cons (cs := [I year]) rfl rfl rfl rfl rfl <| .cons (cs := [I (max 0 (r4 - r6)), I (r4 + r7)]) rfl rfl rfl rfl rfl <| .nil)) ?_
   obtain ⟨sd418z, hM⟩ := M.e_grd hM
   simp only [Bool.and_eq_true, decide_eq_true_eq] at sd418z
   refine t_l2 rfl rfl ?_ ?_
   ·skip
    refine s_val (x_ld (p := .pointer (some ⟨b_2, 0, none⟩)) (v := v_l) rfl (ldb_sc Sc23 (H.blk (k := 4) rfl) rfl)) ?_
    refine s_nil ⟨(H.pick [1, 2, 5] (by decide) rfl), ?_⟩
    refine t_l rfl ?_
    refine t_bs (α := Yr) T23 [.agg #[I year, I (max 0 (r4 - r6)), I (r4 + r7)]] [(⟨(year : Int), (max 0 (r4 - r6) : Int), (r4 + r7 : Int)⟩ : Yr)] H rfl (.cons rfl (Flat.rep_enc _ (⟨(year : Int), (max 0 (r4 - r6) : Int), (r4 + r7 : Int)⟩ : Yr)) <| .nil) rfl rfl rfl ?_
    intro v422z w423z H
    have hvc_q424z := Sl.cells (ownSl (H.get (k := 0) rfl))
    have hvo_q424z := Sl.oc (ownSl (H.get (k := 0) rfl))
    refine s_nil ⟨(H.pick [2, 3, 6] (by decide) rfl), ?_⟩
    refine t_l rfl ?_
    refine t_app (α := Yr) (k := 4) (l := l) (l2 := [(⟨(year : Int), (max 0 (r4 - r6) : Int), (r4 + r7 : Int)⟩ : Yr)]) (l' := l ++ ([(⟨(year : Int), (max 0 (r4 - r6) : Int), (r4 + r7 : Int)⟩ : Yr)])) (vy := v422z) T23 rfl H rfl rfl rfl (ownSl (H.get (k := 0) rfl)) (ownLe _ (H.get (k := 0) rfl)) (rfl) (by first | omega | (simp only [List.length_nil] at *; omega)) ?_
    intro v425z w426z H
    replace H : St w w426z [cOwn (α := Yr) 41 v422z ([(⟨(year : Int), (max 0 (r4 - r6) : Int), (r4 + r7 : Int)⟩ : Yr)]), cBlk b_s [v_s_bytes, I q16, I q26] 101, cOwn (α := Int) 3 v332z ([(r4 : Int)]), cOwn (α := Int) 3 v335z (l2 ++ ([(r4 : Int)])), cOwn (α := Yr) 41 v425z (l ++ ([(⟨(year : Int), (max 0 (r4 - r6) : Int), (r4 + r7 : Int)⟩ : Yr)])), cBlk b_2 [v_l, .slice none 0 0, I r2, I (r2 + r3)] 26, cBlk b_1 [.slice none 0 0, .slice none 0 0, I 0, I 0] 26] R := H
    have hvc_q427z := Sl.cells (ownSl (H.get (k := 4) rfl))
    have hvo_q427z := Sl.oc (ownSl (H.get (k := 4) rfl))
    refine s_nil ⟨(H.pick [2, 3, 6] (by decide) rfl), ?_⟩
    refine t_q rfl (fun w' H => x_fa (a := .pointer (some ⟨b_2, 0, none⟩)) (v := .pointer (some ⟨b_2, 0, none⟩)) rfl (fa_blk (o := 0) Fd26_0 Sz23)) ?_
    refine t_l rfl ?_
    refine t_st (k := 5) (b := b_2) (off := 0) (cs := [v_l, .slice none 0 0, I r2, I (r2 + r3)]) (vs := [v425z]) (cs' := [v425z, .slice none 0 0, I r2, I (r2 + r3)]) (v := v425z) (L' := [cOwn (α := Yr) 41 v422z ([(⟨(year : Int), (max 0 (r4 - r6) : Int), (r4 + r7 : Int)⟩ : Yr)]), cBlk b_s [v_s_bytes, I q16, I q26] 101, cOwn (α := Int) 3 v332z ([(r4 : Int)]), cOwn (α := Int) 3 v335z (l2 ++ ([(r4 : Int)])), cOwn (α := Yr) 41 v425z (l ++ ([(⟨(year : Int), (max 0 (r4 - r6) : Int), (r4 + r7 : Int)⟩ : Yr)])), cBlk b_2 [v425z, .slice none 0 0, I r2, I (r2 + r3)] 26, cBlk b_1 [.slice none 0 0, .slice none 0 0, I 0, I 0] 26]) H rfl rfl rfl Sz23 (Sl.cells (ownSl (H.get (k := 4) rfl))) rfl rfl (by simp only [List.all_cons, List.all_nil, Bool.true_and, Bool.and_true, Sl.oc (ownSl (H.get (k := 4) rfl))]; try rfl) rfl rfl ?_
    intro w428z H
    refine s_nil ⟨(H.pick [2, 3, 6] (by decide) rfl), ?_⟩
    refine t_nil ?_
    refine W.region rfl ?_
    refine s_val (x_mv (v := I year) rfl) ?_
    obtain ⟨sd429z, hM⟩ := M.e_grd hM
    simp only [Bool.and_eq_true, decide_eq_true_eq] at sd429z
    refine s_val (x_ari (a := year) (b := 1) (r := year + 1) rfl rfl rfl (by omega)) ?_
    refine s_val (x_as (v := I (year + 1)) rfl) ?_
    refine s_nil ?_
    exact ⟨m323z, lt324z, q16, q26, year + 1, l ++ ([(⟨(year : Int), (max 0 (r4 - r6) : Int), (r4 + r7 : Int)⟩ : Yr)]), l2 ++ ([(r4 : Int)]), v425z, v335z, _, upds_of _ _ ⟨rfl, rfl, rfl, rfl, rfl, trivial⟩, M.e_inl hM hN326z, (H.pick [3, 4, 1, 5, 6] (by decide) rfl)⟩
   skip
   refine t_bs (α := Yr) T23 [.agg #[I year, I (max 0 (r4 - r6)), I (r4 + r7)]] [(⟨(year : Int), (max 0 (r4 - r6) : Int), (r4 + r7 : Int)⟩ : Yr)] H rfl (.cons rfl (Flat.rep_enc _ (⟨(year : Int), (max 0 (r4 - r6) : Int), (r4 + r7 : Int)⟩ : Yr)) <| .nil) rfl rfl rfl ?_
   intro v430z w431z H
   have hvc_q432z := Sl.cells (ownSl (H.get (k := 0) rfl))
   have hvo_q432z := Sl.oc (ownSl (H.get (k := 0) rfl))
   refine s_nil ⟨(H.pick [2, 3, 6] (by decide) rfl), ?_⟩
   refine t_l rfl ?_
   refine s_val (x_ld (p := .pointer (some ⟨b_2, 0, none⟩)) (v := v_l) rfl (ldb_sc Sc23 (H.blk (k := 5) rfl) rfl)) ?_
   refine s_nil ⟨(H.pick [2, 3, 6] (by decide) rfl), ?_⟩
   refine t_l rfl ?_
   refine t_app (α := Yr) (k := 4) (l := l) (l2 := [(⟨(year : Int), (max 0 (r4 - r6) : Int), (r4 + r7 : Int)⟩ : Yr)]) (l' := l ++ ([(⟨(year : Int), (max 0 (r4 - r6) : Int), (r4 + r7 : Int)⟩ : Yr)])) (vy := v430z) T23 rfl H rfl rfl rfl (ownSl (H.get (k := 0) rfl)) (ownLe _ (H.get (k := 0) rfl)) (rfl) (by first | omega | (simp only [List.length_nil] at *; omega)) ?_
   intro v433z w434z H
   replace H : St w w434z [cOwn (α := Yr) 41 v430z ([(⟨(year : Int), (max 0 (r4 - r6) : Int), (r4 + r7 : Int)⟩ : Yr)]), cBlk b_s [v_s_bytes, I q16, I q26] 101, cOwn (α := Int) 3 v332z ([(r4 : Int)]), cOwn (α := Int) 3 v335z (l2 ++ ([(r4 : Int)])), cOwn (α := Yr) 41 v433z (l ++ ([(⟨(year : Int), (max 0 (r4 - r6) : Int), (r4 + r7 : Int)⟩ : Yr)])), cBlk b_2 [v_l, .slice none 0 0, I r2, I (r2 + r3)] 26, cBlk b_1 [.slice none 0 0, .slice none 0 0, I 0, I 0] 26] R := H
   have hvc_q435z := Sl.cells (ownSl (H.get (k := 4) rfl))
   have hvo_q435z := Sl.oc (ownSl (H.get (k := 4) rfl))
   refine s_nil ⟨(H.pick [2, 3, 6] (by decide) rfl), ?_⟩
   refine t_q rfl (fun w' H => x_fa (a := .pointer (some ⟨b_2, 0, none⟩)) (v := .pointer (some ⟨b_2, 0, none⟩)) rfl (fa_blk (o := 0) Fd26_0 Sz23)) ?_
   refine t_l rfl ?_
   refine t_st (k := 5) (b := b_2) (off := 0) (cs := [v_l, .slice none 0 0, I r2, I (r2 + r3)]) (vs := [v433z]) (cs' := [v433z, .slice none 0 0, I r2, I (r2 + r3)]) (v := v433z) (L' := [cOwn (α := Yr) 41 v430z ([(⟨(year : Int), (max 0 (r4 - r6) : Int), (r4 + r7 : Int)⟩ : Yr)]), cBlk b_s [v_s_bytes, I q16, I q26] 101, cOwn (α := Int) 3 v332z ([(r4 : Int)]), cOwn (α := Int) 3 v335z (l2 ++ ([(r4 : Int)])), cOwn (α := Yr) 41 v433z (l ++ ([(⟨(year : Int), (max 0 (r4 - r6) : Int), (r4 + r7 : Int)⟩ : Yr)])), cBlk b_2 [v433z, .slice none 0 0, I r2, I (r2 + r3)] 26, cBlk b_1 [.slice none 0 0, .slice none 0 0, I 0, I 0] 26]) H rfl rfl rfl Sz23 (Sl.cells (ownSl (H.get (k := 4) rfl))) rfl rfl (by simp only [List.all_cons, List.all_nil, Bool.true_and, Bool.and_true, Sl.oc (ownSl (H.get (k := 4) rfl))]; try rfl) rfl rfl ?_
   intro w436z H
   refine s_nil ⟨(H.pick [2, 3, 6] (by decide) rfl), ?_⟩
   refine t_nil ?_
   refine W.region rfl ?_
   refine s_val (x_mv (v := I year) rfl) ?_
   obtain ⟨sd437z, hM⟩ := M.e_grd hM
   simp only [Bool.and_eq_true, decide_eq_true_eq] at sd437z
   refine s_val (x_ari (a := year) (b := 1) (r := year + 1) rfl rfl rfl (by omega)) ?_
   refine s_val (x_as (v := I (year + 1)) rfl) ?_
   refine s_nil ?_
   exact ⟨m323z, lt324z, q16, q26, year + 1, l ++ ([(⟨(year : Int), (max 0 (r4 - r6) : Int), (r4 + r7 : Int)⟩ : Yr)]), l2 ++ ([(r4 : Int)]), v433z, v335z, _, upds_of _ _ ⟨rfl, rfl, rfl, rfl, rfl, trivial⟩, M.e_inl hM hN326z, (H.pick [3, 4, 1, 5, 6] (by decide) rfl)⟩
  replace hM := M.e_f hM c342z
  refine W.skip ?_
  refine W.region rfl ?_
  refine s_val (x_mv (v := I year) rfl) ?_
  obtain ⟨sd438z, hM⟩ := M.e_grd hM
  simp only [Bool.and_eq_true, decide_eq_true_eq] at sd438z
  refine s_val (x_ari (a := year) (b := 1) (r := year + 1) rfl rfl rfl (by omega)) ?_
  refine s_val (x_as (v := I (year + 1)) rfl) ?_
  refine s_nil ?_
  exact ⟨m323z, lt324z, q14, q24, year + 1, l, l2 ++ ([(r4 : Int)]), v_l, v335z, _, upds_of _ _ ⟨rfl, rfl, rfl, rfl, rfl, trivial⟩, M.e_inl hM hN326z, (H.pick [2, 3, 0, 4, 5] (by decide) rfl)⟩
 replace hM := M.e_f hM c327z
 simp only [decide_eq_true_eq, decide_eq_false_iff_not, beq_iff_eq, bne_iff_ne, beq_eq_false_iff_ne, bne_eq_false_iff_eq, ne_eq, Decidable.not_not] at c327z
 refine W.exit ?_
 have hX439z := M.e_inr hM hN326z
 subst hX439z
 replace hM := hk319z
 try dsimp only at hM
 refine W.seq ?_
 refine W.seq ?_
 refine W.region rfl ?_
 refine s_val (x_mv (v := .pointer (some ⟨b_s, 0, none⟩)) rfl) ?_
 obtain ⟨r441z, hx440z, hM⟩ := M.e_bind hM
 refine s_call cf14 [.pointer (some ⟨b_s, 0, none⟩), I 4] rfl (zaa s_bytes s2 s3 4 (hC_s_bytes.app _) hs_s_bytes hx440z _ (St.give (L := [cBlk b_s [v_s_bytes, I s2, I s3] 101, cOwn (α := Int) 3 v_l2 l2, cOwn (α := Yr) 41 v_l l, cBlk b_2 [v_l, .slice none 0 0, I r2, I (r2 + r3)] 26, cBlk b_1 [.slice none 0 0, .slice none 0 0, I 0, I 0] 26]) (A := [cBlk b_s [v_s_bytes, I s2, I s3] 101]) (T := [cOwn (α := Int) 3 v_l2 l2, cOwn (α := Yr) 41 v_l l, cBlk b_2 [v_l, .slice none 0 0, I r2, I (r2 + r3)] 26, cBlk b_1 [.slice none 0 0, .slice none 0 0, I 0, I 0] 26]) (H.pick [2, 0, 1, 3, 4] (by decide) rfl) rfl)) ?_
 rintro vq w442z ⟨r8, q17, q27, hr443z, hvq, H2_⟩
 subst hr443z
 subst vq
 try dsimp only at hM
 replace H : St w w442z [cBlk b_s [v_s_bytes, I q17, I q27] 101, cOwn (α := Int) 3 v_l2 l2, cOwn (α := Yr) 41 v_l l, cBlk b_2 [v_l, .slice none 0 0, I r2, I (r2 + r3)] 26, cBlk b_1 [.slice none 0 0, .slice none 0 0, I 0, I 0] 26] R := H.pick [2, 0, 1, 3, 4] (by decide) rfl |>.back H2_ rfl
 clear H2_
 refine s_val (x_as (v := I r8) rfl) ?_
 refine s_nil ?_
 refine W.block ?_
 obtain ⟨Bs_17, H⟩ := H.emptyE
 replace H : St w w442z [cOwn (α := Raw 3) 43 (.slice none 0 0) ([]), cRo Bs_17, cBlk b_s [v_s_bytes, I q17, I q27] 101, cOwn (α := Int) 3 v_l2 l2, cOwn (α := Yr) 41 v_l l, cBlk b_2 [v_l, .slice none 0 0, I r2, I (r2 + r3)] 26, cBlk b_1 [.slice none 0 0, .slice none 0 0, I 0, I 0] 26] R := H.nilOwn (α := Raw 3) 43
 have hr444z : RepR (α := Old10) (n := 3) Bs_17.cells [] [] := .nil
 obtain ⟨ex445z, hi446z, hk447z⟩ := M.e_bind hM
 obtain ⟨m0_, hi446z⟩ := M.e_iter hi446z
 refine W.loop (fun m σ W => ∃ (s6 : Int) (s7 : Int) (n : Int) (l7 : List Old10) (v_l7 : Value) (rw_l7 : List (Raw 3)) (B_l7 : Base) (ρ : Env), σ = upds ρ [(0, .pointer (some ⟨b_s, 0, none⟩)), (4, .pointer (some ⟨b_1, 0, none⟩)), (6, .pointer (some ⟨b_2, 0, none⟩)), (7, v_l2), (10, I n)] /\ M.iterN (zaz s_bytes r2 r3 l2 l) m (s6, s7, n, l7) = some ex445z /\ St w W [cOwn (α := Raw 3) 43 v_l7 rw_l7, cRo B_l7, cBlk b_s [v_s_bytes, I s6, I s7] 101, cOwn (α := Int) 3 v_l2 l2, cOwn (α := Yr) 41 v_l l, cBlk b_2 [v_l, v_l7, I r2, I (r2 + r3)] 26, cBlk b_1 [.slice none 0 0, .slice none 0 0, I 0, I 0] 26] R /\ RepR (α := Old10) B_l7.cells rw_l7 l7) ?_ ?_
 ·exact ⟨_, q17, q27, r8, [], (.slice none 0 0), [], Bs_17, _, upds_of _ _ ⟨rfl, rfl, rfl, rfl, rfl, trivial⟩, hi446z, H, hr444z⟩
 rintro m450z σ w448z ⟨s6, s7, n, l7, v_l7, rw_l7, B_l7, ρ, rfl, hI449z, H, hr_l7⟩
 obtain ⟨m451z, lt452z, x453z, hM, hN454z⟩ := M.e_iterN hI449z
 simp only [zaz] at hM
 clear hI449z
 refine W.seq ?_
 refine W.seq ?_
 refine W.region rfl ?_
 refine s_val (x_mv (v := I n) rfl) ?_
 refine s_val (x_cmp (kd := .i64) (a := n) (b := 0) (r := decide (0 < n)) rfl rfl rfl) ?_
 refine s_nil ?_
 refine W.cond (decide (0 < n)) rfl (fun c455z => ?_) (fun c455z => ?_)
 ·replace hM := M.e_t hM c455z
  simp only [decide_eq_true_eq, decide_eq_false_iff_not, beq_iff_eq, bne_iff_ne, beq_eq_false_iff_ne, bne_eq_false_iff_eq, ne_eq, Decidable.not_not] at c455z
  refine W.skip ?_
  refine W.seq ?_
  refine W.block ?_
  refine W.drawT (fun W => St w W [cRo B_l7, cOwn (α := Int) 3 v_l2 l2, cOwn (α := Yr) 41 v_l l, cBlk b_1 [.slice none 0 0, .slice none 0 0, I 0, I 0] 26] R) (.q 0 (.q 2 (.q 4 (.l2 1 (.l 3 (.l 5 (.l 6 (.l 7 (.q 8 (.l 9 .nil)))))) 3 (.l2 1 (.l 5 (.l 6 (.l 7 (.q 8 (.l 9 .nil))))) 5 (.l2 1 (.l 6 (.l 7 (.q 8 (.l 9 .nil)))) 6 (.l 1 (.l 7 (.q 8 (.l 9 .nil)))))))))) mixed (by decide +kernel) rfl ?_
  intro w456z hx_
  replace H : St w w456z [cOwn (α := Raw 3) 43 v_l7 rw_l7, cRo B_l7, cBlk b_s [v_s_bytes, I s6, I s7] 101, cOwn (α := Int) 3 v_l2 l2, cOwn (α := Yr) 41 v_l l, cBlk b_2 [v_l, v_l7, I r2, I (r2 + r3)] 26, cBlk b_1 [.slice none 0 0, .slice none 0 0, I 0, I 0] 26] R := H.ext hx_
  clear hx_
  refine ⟨(H.pick [1, 3, 4, 6] (by decide) rfl), ?_⟩
  refine t_q rfl (fun w' H => x_fa (a := .pointer (some ⟨b_2, 0, none⟩)) (v := .pointer (some ⟨b_2, 1, none⟩)) rfl (fa_blk (o := 0) Fd26_1 Sz24)) ?_
  refine t_q rfl (fun w' H => x_mv (v := .pointer (some ⟨b_s, 0, none⟩)) rfl) ?_
  refine t_q rfl (fun w' H => x_mv (v := v_l2) rfl) ?_
  refine t_l2 rfl rfl ?_ ?_
  ·skip
   refine s_val (x_ld (p := .pointer (some ⟨b_2, 1, none⟩)) (v := v_l7) rfl (ldb_sc Sc24 (H.blk (k := 5) rfl) rfl)) ?_
   have hvc_q477z := Sl.cells (ownSl (H.get (k := 0) rfl))
   have hvo_q477z := Sl.oc (ownSl (H.get (k := 0) rfl))
   refine s_nil ⟨(H.pick [1, 3, 4, 6] (by decide) rfl), ?_⟩
   refine t_l rfl ?_
   refine s_val (x_ld (p := .pointer (some ⟨b_2, 0, none⟩)) (v := .agg #[v_l, v_l7, I r2, I (r2 + r3)]) rfl (ldb_ag (ds := [v_l, v_l7, I r2, I (r2 + r3)]) Ag26 Sz26 (H.blk (k := 5) rfl) rfl rfl)) ?_
   refine s_nil ⟨(H.pick [1, 3, 4, 6] (by decide) rfl), ?_⟩
   refine t_l rfl ?_
   obtain ⟨r479z, hx478z, hM⟩ := M.e_bind hM
   refine s_call cf19 [.pointer (some ⟨b_s, 0, none⟩), .agg #[v_l, v_l7, I r2, I (r2 + r3)], v_l2] rfl (zaw s_bytes s6 s7 l l7 r2 (r2 + r3) l2 (hC_s_bytes.app _) hs_s_bytes (Reads.of (k := 3) rfl ownLe) (ownSl (H.get (k := 4) rfl)) (Reads.sup (Reads.of (k := 0) rfl ownLe) (Reads.of (k := 1) rfl roLe)) (rowSl rfl (H.get (k := 0) rfl) (roLe _ (H.get (k := 1) rfl)) hr_l7) (Reads.of (k := 2) rfl ownLe) (ownSl (H.get (k := 3) rfl)) hx478z _ (St.give (L := [cBlk b_s [v_s_bytes, I s6, I s7] 101, cOwn (α := Raw 3) 43 v_l7 rw_l7, cRo B_l7, cOwn (α := Int) 3 v_l2 l2, cOwn (α := Yr) 41 v_l l, cBlk b_2 [v_l, v_l7, I r2, I (r2 + r3)] 26, cBlk b_1 [.slice none 0 0, .slice none 0 0, I 0, I 0] 26]) (A := [cBlk b_s [v_s_bytes, I s6, I s7] 101]) (T := [cOwn (α := Raw 3) 43 v_l7 rw_l7, cRo B_l7, cOwn (α := Int) 3 v_l2 l2, cOwn (α := Yr) 41 v_l l, cBlk b_2 [v_l, v_l7, I r2, I (r2 + r3)] 26, cBlk b_1 [.slice none 0 0, .slice none 0 0, I 0, I 0] 26]) (H.pick [2, 0, 1, 3, 4, 5, 6] (by decide) rfl) rfl)) ?_
   rintro vq w480z ⟨r0, r1, r22, r32, q18, q28, u0_9, hr481z, hvq, H2_⟩
   subst hr481z
   subst vq
   try dsimp only at hM
   replace H : St w w480z [cOwn (α := Int) 3 u0_9 r32, cBlk b_s [v_s_bytes, I q18, I q28] 101, cOwn (α := Raw 3) 43 v_l7 rw_l7, cRo B_l7, cOwn (α := Int) 3 v_l2 l2, cOwn (α := Yr) 41 v_l l, cBlk b_2 [v_l, v_l7, I r2, I (r2 + r3)] 26, cBlk b_1 [.slice none 0 0, .slice none 0 0, I 0, I 0] 26] R := H.pick [2, 0, 1, 3, 4, 5, 6] (by decide) rfl |>.back H2_ rfl
   clear H2_
   have hvc_q482z := Sl.cells (ownSl (H.get (k := 0) rfl))
   have hvo_q482z := Sl.oc (ownSl (H.get (k := 0) rfl))
   refine s_nil ⟨(H.pick [3, 4, 5, 7] (by decide) rfl), ?_⟩
   refine t_l rfl ?_
   obtain ⟨Bs_10, H⟩ := H.emptyE
   obtain ⟨Bs_11, H, hs484z⟩ := H.freezeE (k := 1) rfl
   replace H : St w w480z [cRo Bs_10, cRo Bs_11, cBlk b_s [v_s_bytes, I q18, I q28] 101, cOwn (α := Raw 3) 43 v_l7 rw_l7, cRo B_l7, cOwn (α := Int) 3 v_l2 l2, cOwn (α := Yr) 41 v_l l, cBlk b_2 [v_l, v_l7, I r2, I (r2 + r3)] 26, cBlk b_1 [.slice none 0 0, .slice none 0 0, I 0, I 0] 26] R := H
   have hq483z := hs484z
   obtain ⟨Bs_12, H, le485z, le486z⟩ := H.joinE (i := 0) (j := 1) rfl rfl
   replace hq483z := hq483z.mono le486z
   obtain ⟨rw487z, hrw_rw487z⟩ : ∃ r : Raw 3, r.cs = [I r0, I r1, I r22, u0_9] := ⟨Raw.of [I r0, I r1, I r22, u0_9] rfl (by simp only [List.all_cons, List.all_nil, Bool.true_and, Bool.and_true, Sl.oc hq483z]; try rfl), rfl⟩
   have hr488z : RepR (α := Old10) Bs_12.cells [rw487z] [(⟨(r0 : Int), (r1 : Int), (r22 : Int), r32⟩ : Old10)] := .cons (by rw [hrw_rw487z]; exact ⟨_, rfl, hq483z⟩) <| .nil
   refine t_bs (α := Raw 3) T24 [.agg #[I r0, I r1, I r22, u0_9]] [rw487z] H rfl (.cons (by rw [show (Flat.enc rw487z : List Value) = rw487z.cs from rfl, hrw_rw487z]; rfl) (Flat.rep_enc _ _) <| .nil) rfl rfl rfl ?_
   intro v489z w490z H
   replace H : St w w490z [cOwn (α := Raw 3) 43 v489z ([rw487z]), cRo Bs_12, cRo Bs_10, cRo Bs_11, cBlk b_s [v_s_bytes, I q18, I q28] 101, cOwn (α := Raw 3) 43 v_l7 rw_l7, cRo B_l7, cOwn (α := Int) 3 v_l2 l2, cOwn (α := Yr) 41 v_l l, cBlk b_2 [v_l, v_l7, I r2, I (r2 + r3)] 26, cBlk b_1 [.slice none 0 0, .slice none 0 0, I 0, I 0] 26] R := H
   have hvc_q491z := Sl.cells (ownSl (H.get (k := 0) rfl))
   have hvo_q491z := Sl.oc (ownSl (H.get (k := 0) rfl))
   refine s_nil ⟨(H.pick [6, 7, 8, 10] (by decide) rfl), ?_⟩
   refine t_l rfl ?_
   obtain ⟨sd492z, hM⟩ := M.e_grd hM
   simp only [Bool.and_eq_true, decide_eq_true_eq] at sd492z
   have hr493z := hr488z
   obtain ⟨Bs_16, H, le494z, le495z⟩ := H.joinE (i := 6) (j := 1) rfl rfl
   replace hr_l7 := hr_l7.mono le494z
   replace hr493z := hr493z.mono le495z
   have hr498z := hr_l7.app hr493z
   refine t_app (α := Raw 3) (k := 6) (l := rw_l7) (l2 := [rw487z]) (l' := rw_l7 ++ ([rw487z])) (vy := v489z) T24 rfl H rfl rfl rfl (ownSl (H.get (k := 1) rfl)) (ownLe _ (H.get (k := 1) rfl)) (rfl) (by have a_ := hr_l7.len; have b_ := hr493z.len; (try simp only [List.length_nil] at *); first | omega | (rw [a_, b_]; omega)) ?_
   intro v496z w497z H
   replace H : St w w497z [cRo Bs_16, cOwn (α := Raw 3) 43 v489z ([rw487z]), cRo Bs_12, cRo Bs_10, cRo Bs_11, cBlk b_s [v_s_bytes, I q18, I q28] 101, cOwn (α := Raw 3) 43 v496z (rw_l7 ++ ([rw487z])), cRo B_l7, cOwn (α := Int) 3 v_l2 l2, cOwn (α := Yr) 41 v_l l, cBlk b_2 [v_l, v_l7, I r2, I (r2 + r3)] 26, cBlk b_1 [.slice none 0 0, .slice none 0 0, I 0, I 0] 26] R := H
   have hvc_q499z := Sl.cells (ownSl (H.get (k := 6) rfl))
   have hvo_q499z := Sl.oc (ownSl (H.get (k := 6) rfl))
   refine s_nil ⟨(H.pick [7, 8, 9, 11] (by decide) rfl), ?_⟩
   refine t_q rfl (fun w' H => x_fa (a := .pointer (some ⟨b_2, 0, none⟩)) (v := .pointer (some ⟨b_2, 1, none⟩)) rfl (fa_blk (o := 0) Fd26_1 Sz24)) ?_
   refine t_l rfl ?_
   refine t_st (k := 10) (b := b_2) (off := 1) (cs := [v_l, v_l7, I r2, I (r2 + r3)]) (vs := [v496z]) (cs' := [v_l, v496z, I r2, I (r2 + r3)]) (v := v496z) (L' := [cRo Bs_16, cOwn (α := Raw 3) 43 v489z ([rw487z]), cRo Bs_12, cRo Bs_10, cRo Bs_11, cBlk b_s [v_s_bytes, I q18, I q28] 101, cOwn (α := Raw 3) 43 v496z (rw_l7 ++ ([rw487z])), cRo B_l7, cOwn (α := Int) 3 v_l2 l2, cOwn (α := Yr) 41 v_l l, cBlk b_2 [v_l, v496z, I r2, I (r2 + r3)] 26, cBlk b_1 [.slice none 0 0, .slice none 0 0, I 0, I 0] 26]) H rfl rfl rfl Sz24 (Sl.cells (rowSl rfl (H.get (k := 6) rfl) (roLe _ (H.get (k := 0) rfl)) hr498z)) rfl rfl (by simp only [List.all_cons, List.all_nil, Bool.true_and, Bool.and_true, Sl.oc (rowSl rfl (H.get (k := 6) rfl) (roLe _ (H.get (k := 0) rfl)) hr498z)]; try rfl) rfl rfl ?_
   intro w500z H
   refine s_nil ⟨(H.pick [7, 8, 9, 11] (by decide) rfl), ?_⟩
   refine t_nil ?_
   refine W.region rfl ?_
   refine s_val (x_mv (v := I n) rfl) ?_
   obtain ⟨sd501z, hM⟩ := M.e_grd hM
   simp only [Bool.and_eq_true, decide_eq_true_eq] at sd501z
   refine s_val (x_ari (a := n) (b := 1) (r := n - 1) rfl rfl rfl (by omega)) ?_
   refine s_val (x_as (v := I (n - 1)) rfl) ?_
   refine s_nil ?_
   exact ⟨m451z, lt452z, q18, q28, n - 1, l7 ++ ([(⟨(r0 : Int), (r1 : Int), (r22 : Int), r32⟩ : Old10)]), v496z, rw_l7 ++ ([rw487z]), Bs_16, _, upds_of _ _ ⟨rfl, rfl, rfl, rfl, rfl, trivial⟩, M.e_inl hM hN454z, (H.pick [6, 0, 5, 8, 9, 10, 11] (by decide) rfl), hr498z⟩
  skip
  refine s_val (x_ld (p := .pointer (some ⟨b_2, 0, none⟩)) (v := .agg #[v_l, v_l7, I r2, I (r2 + r3)]) rfl (ldb_ag (ds := [v_l, v_l7, I r2, I (r2 + r3)]) Ag26 Sz26 (H.blk (k := 5) rfl) rfl rfl)) ?_
  have hvc_q502z := Sl.cells (ownSl (H.get (k := 0) rfl))
  have hvo_q502z := Sl.oc (ownSl (H.get (k := 0) rfl))
  refine s_nil ⟨(H.pick [1, 3, 4, 6] (by decide) rfl), ?_⟩
  refine t_l2 rfl rfl ?_ ?_
  ·skip
   refine s_val (x_ld (p := .pointer (some ⟨b_2, 1, none⟩)) (v := v_l7) rfl (ldb_sc Sc24 (H.blk (k := 5) rfl) rfl)) ?_
   refine s_nil ⟨(H.pick [1, 3, 4, 6] (by decide) rfl), ?_⟩
   refine t_l rfl ?_
   obtain ⟨r524z, hx523z, hM⟩ := M.e_bind hM
   refine s_call cf19 [.pointer (some ⟨b_s, 0, none⟩), .agg #[v_l, v_l7, I r2, I (r2 + r3)], v_l2] rfl (zaw s_bytes s6 s7 l l7 r2 (r2 + r3) l2 (hC_s_bytes.app _) hs_s_bytes (Reads.of (k := 3) rfl ownLe) (ownSl (H.get (k := 4) rfl)) (Reads.sup (Reads.of (k := 0) rfl ownLe) (Reads.of (k := 1) rfl roLe)) (rowSl rfl (H.get (k := 0) rfl) (roLe _ (H.get (k := 1) rfl)) hr_l7) (Reads.of (k := 2) rfl ownLe) (ownSl (H.get (k := 3) rfl)) hx523z _ (St.give (L := [cBlk b_s [v_s_bytes, I s6, I s7] 101, cOwn (α := Raw 3) 43 v_l7 rw_l7, cRo B_l7, cOwn (α := Int) 3 v_l2 l2, cOwn (α := Yr) 41 v_l l, cBlk b_2 [v_l, v_l7, I r2, I (r2 + r3)] 26, cBlk b_1 [.slice none 0 0, .slice none 0 0, I 0, I 0] 26]) (A := [cBlk b_s [v_s_bytes, I s6, I s7] 101]) (T := [cOwn (α := Raw 3) 43 v_l7 rw_l7, cRo B_l7, cOwn (α := Int) 3 v_l2 l2, cOwn (α := Yr) 41 v_l l, cBlk b_2 [v_l, v_l7, I r2, I (r2 + r3)] 26, cBlk b_1 [.slice none 0 0, .slice none 0 0, I 0, I 0] 26]) (H.pick [2, 0, 1, 3, 4, 5, 6] (by decide) rfl) rfl)) ?_
   rintro vq w525z ⟨r0, r1, r22, r32, q18, q28, u0_9, hr526z, hvq, H2_⟩
   subst hr526z
   subst vq
   try dsimp only at hM
   replace H : St w w525z [cOwn (α := Int) 3 u0_9 r32, cBlk b_s [v_s_bytes, I q18, I q28] 101, cOwn (α := Raw 3) 43 v_l7 rw_l7, cRo B_l7, cOwn (α := Int) 3 v_l2 l2, cOwn (α := Yr) 41 v_l l, cBlk b_2 [v_l, v_l7, I r2, I (r2 + r3)] 26, cBlk b_1 [.slice none 0 0, .slice none 0 0, I 0, I 0] 26] R := H.pick [2, 0, 1, 3, 4, 5, 6] (by decide) rfl |>.back H2_ rfl
   clear H2_
   have hvc_q527z := Sl.cells (ownSl (H.get (k := 0) rfl))
   have hvo_q527z := Sl.oc (ownSl (H.get (k := 0) rfl))
   refine s_nil ⟨(H.pick [3, 4, 5, 7] (by decide) rfl), ?_⟩
   refine t_l rfl ?_
   obtain ⟨Bs_10, H⟩ := H.emptyE
   obtain ⟨Bs_11, H, hs529z⟩ := H.freezeE (k := 1) rfl
   replace H : St w w525z [cRo Bs_10, cRo Bs_11, cBlk b_s [v_s_bytes, I q18, I q28] 101, cOwn (α := Raw 3) 43 v_l7 rw_l7, cRo B_l7, cOwn (α := Int) 3 v_l2 l2, cOwn (α := Yr) 41 v_l l, cBlk b_2 [v_l, v_l7, I r2, I (r2 + r3)] 26, cBlk b_1 [.slice none 0 0, .slice none 0 0, I 0, I 0] 26] R := H
   have hq528z := hs529z
   obtain ⟨Bs_12, H, le530z, le531z⟩ := H.joinE (i := 0) (j := 1) rfl rfl
   replace hq528z := hq528z.mono le531z
   obtain ⟨rw532z, hrw_rw532z⟩ : ∃ r : Raw 3, r.cs = [I r0, I r1, I r22, u0_9] := ⟨Raw.of [I r0, I r1, I r22, u0_9] rfl (by simp only [List.all_cons, List.all_nil, Bool.true_and, Bool.and_true, Sl.oc hq528z]; try rfl), rfl⟩
   have hr533z : RepR (α := Old10) Bs_12.cells [rw532z] [(⟨(r0 : Int), (r1 : Int), (r22 : Int), r32⟩ : Old10)] := .cons (by rw [hrw_rw532z]; exact ⟨_, rfl, hq528z⟩) <| .nil
   refine t_bs (α := Raw 3) T24 [.agg #[I r0, I r1, I r22, u0_9]] [rw532z] H rfl (.cons (by rw [show (Flat.enc rw532z : List Value) = rw532z.cs from rfl, hrw_rw532z]; rfl) (Flat.rep_enc _ _) <| .nil) rfl rfl rfl ?_
   intro v534z w535z H
   replace H : St w w535z [cOwn (α := Raw 3) 43 v534z ([rw532z]), cRo Bs_12, cRo Bs_10, cRo Bs_11, cBlk b_s [v_s_bytes, I q18, I q28] 101, cOwn (α := Raw 3) 43 v_l7 rw_l7, cRo B_l7, cOwn (α := Int) 3 v_l2 l2, cOwn (α := Yr) 41 v_l l, cBlk b_2 [v_l, v_l7, I r2, I (r2 + r3)] 26, cBlk b_1 [.slice none 0 0, .slice none 0 0, I 0, I 0] 26] R := H
   have hvc_q536z := Sl.cells (ownSl (H.get (k := 0) rfl))
   have hvo_q536z := Sl.oc (ownSl (H.get (k := 0) rfl))
   refine s_nil ⟨(H.pick [6, 7, 8, 10] (by decide) rfl), ?_⟩
   refine t_l rfl ?_
   obtain ⟨sd537z, hM⟩ := M.e_grd hM
   simp only [Bool.and_eq_true, decide_eq_true_eq] at sd537z
   have hr538z := hr533z
   obtain ⟨Bs_16, H, le539z, le540z⟩ := H.joinE (i := 6) (j := 1) rfl rfl
   replace hr_l7 := hr_l7.mono le539z
   replace hr538z := hr538z.mono le540z
   have hr543z := hr_l7.app hr538z
   refine t_app (α := Raw 3) (k := 6) (l := rw_l7) (l2 := [rw532z]) (l' := rw_l7 ++ ([rw532z])) (vy := v534z) T24 rfl H rfl rfl rfl (ownSl (H.get (k := 1) rfl)) (ownLe _ (H.get (k := 1) rfl)) (rfl) (by have a_ := hr_l7.len; have b_ := hr538z.len; (try simp only [List.length_nil] at *); first | omega | (rw [a_, b_]; omega)) ?_
   intro v541z w542z H
   replace H : St w w542z [cRo Bs_16, cOwn (α := Raw 3) 43 v534z ([rw532z]), cRo Bs_12, cRo Bs_10, cRo Bs_11, cBlk b_s [v_s_bytes, I q18, I q28] 101, cOwn (α := Raw 3) 43 v541z (rw_l7 ++ ([rw532z])), cRo B_l7, cOwn (α := Int) 3 v_l2 l2, cOwn (α := Yr) 41 v_l l, cBlk b_2 [v_l, v_l7, I r2, I (r2 + r3)] 26, cBlk b_1 [.slice none 0 0, .slice none 0 0, I 0, I 0] 26] R := H
   have hvc_q544z := Sl.cells (ownSl (H.get (k := 6) rfl))
   have hvo_q544z := Sl.oc (ownSl (H.get (k := 6) rfl))
   refine s_nil ⟨(H.pick [7, 8, 9, 11] (by decide) rfl), ?_⟩
   refine t_q rfl (fun w' H => x_fa (a := .pointer (some ⟨b_2, 0, none⟩)) (v := .pointer (some ⟨b_2, 1, none⟩)) rfl (fa_blk (o := 0) Fd26_1 Sz24)) ?_
   refine t_l rfl ?_
   refine t_st (k := 10) (b := b_2) (off := 1) (cs := [v_l, v_l7, I r2, I (r2 + r3)]) (vs := [v541z]) (cs' := [v_l, v541z, I r2, I (r2 + r3)]) (v := v541z) (L' := [cRo Bs_16, cOwn (α := Raw 3) 43 v534z ([rw532z]), cRo Bs_12, cRo Bs_10, cRo Bs_11, cBlk b_s [v_s_bytes, I q18, I q28] 101, cOwn (α := Raw 3) 43 v541z (rw_l7 ++ ([rw532z])), cRo B_l7, cOwn (α := Int) 3 v_l2 l2, cOwn (α := Yr) 41 v_l l, cBlk b_2 [v_l, v541z, I r2, I (r2 + r3)] 26, cBlk b_1 [.slice none 0 0, .slice none 0 0, I 0, I 0] 26]) H rfl rfl rfl Sz24 (Sl.cells (rowSl rfl (H.get (k := 6) rfl) (roLe _ (H.get (k := 0) rfl)) hr543z)) rfl rfl (by simp only [List.all_cons, List.all_nil, Bool.true_and, Bool.and_true, Sl.oc (rowSl rfl (H.get (k := 6) rfl) (roLe _ (H.get (k := 0) rfl)) hr543z)]; try rfl) rfl rfl ?_
   intro w545z H
   refine s_nil ⟨(H.pick [7, 8, 9, 11] (by decide) rfl), ?_⟩
   refine t_nil ?_
   refine W.region rfl ?_
   refine s_val (x_mv (v := I n) rfl) ?_
   obtain ⟨sd546z, hM⟩ := M.e_grd hM
   simp only [Bool.and_eq_true, decide_eq_true_eq] at sd546z
   refine s_val (x_ari (a := n) (b := 1) (r := n - 1) rfl rfl rfl (by omega)) ?_
   refine s_val (x_as (v := I (n - 1)) rfl) ?_
   refine s_nil ?_
   exact ⟨m451z, lt452z, q18, q28, n - 1, l7 ++ ([(⟨(r0 : Int), (r1 : Int), (r22 : Int), r32⟩ : Old10)]), v541z, rw_l7 ++ ([rw532z]), Bs_16, _, upds_of _ _ ⟨rfl, rfl, rfl, rfl, rfl, trivial⟩, M.e_inl hM hN454z, (H.pick [6, 0, 5, 8, 9, 10, 11] (by decide) rfl), hr543z⟩
  skip
  obtain ⟨r548z, hx547z, hM⟩ := M.e_bind hM
  refine s_call cf19 [.pointer (some ⟨b_s, 0, none⟩), .agg #[v_l, v_l7, I r2, I (r2 + r3)], v_l2] rfl (zaw s_bytes s6 s7 l l7 r2 (r2 + r3) l2 (hC_s_bytes.app _) hs_s_bytes (Reads.of (k := 3) rfl ownLe) (ownSl (H.get (k := 4) rfl)) (Reads.sup (Reads.of (k := 0) rfl ownLe) (Reads.of (k := 1) rfl roLe)) (rowSl rfl (H.get (k := 0) rfl) (roLe _ (H.get (k := 1) rfl)) hr_l7) (Reads.of (k := 2) rfl ownLe) (ownSl (H.get (k := 3) rfl)) hx547z _ (St.give (L := [cBlk b_s [v_s_bytes, I s6, I s7] 101, cOwn (α := Raw 3) 43 v_l7 rw_l7, cRo B_l7, cOwn (α := Int) 3 v_l2 l2, cOwn (α := Yr) 41 v_l l, cBlk b_2 [v_l, v_l7, I r2, I (r2 + r3)] 26, cBlk b_1 [.slice none 0 0, .slice none 0 0, I 0, I 0] 26]) (A := [cBlk b_s [v_s_bytes, I s6, I s7] 101]) (T := [cOwn (α := Raw 3) 43 v_l7 rw_l7, cRo B_l7, cOwn (α := Int) 3 v_l2 l2, cOwn (α := Yr) 41 v_l l, cBlk b_2 [v_l, v_l7, I r2, I (r2 + r3)] 26, cBlk b_1 [.slice none 0 0, .slice none 0 0, I 0, I 0] 26]) (H.pick [2, 0, 1, 3, 4, 5, 6] (by decide) rfl) rfl)) ?_
  rintro vq w549z ⟨r0, r1, r22, r32, q18, q28, u0_9, hr550z, hvq, H2_⟩
  subst hr550z
  subst vq
  try dsimp only at hM
  replace H : St w w549z [cOwn (α := Int) 3 u0_9 r32, cBlk b_s [v_s_bytes, I q18, I q28] 101, cOwn (α := Raw 3) 43 v_l7 rw_l7, cRo B_l7, cOwn (α := Int) 3 v_l2 l2, cOwn (α := Yr) 41 v_l l, cBlk b_2 [v_l, v_l7, I r2, I (r2 + r3)] 26, cBlk b_1 [.slice none 0 0, .slice none 0 0, I 0, I 0] 26] R := H.pick [2, 0, 1, 3, 4, 5, 6] (by decide) rfl |>.back H2_ rfl
  clear H2_
  have hvc_q551z := Sl.cells (ownSl (H.get (k := 0) rfl))
  have hvo_q551z := Sl.oc (ownSl (H.get (k := 0) rfl))
  refine s_nil ⟨(H.pick [3, 4, 5, 7] (by decide) rfl), ?_⟩
  obtain ⟨sd560z, hM⟩ := M.e_grd hM
  simp only [Bool.and_eq_true, decide_eq_true_eq] at sd560z
  refine t_l2 rfl rfl ?_ ?_
  ·skip
   refine s_val (x_ld (p := .pointer (some ⟨b_2, 1, none⟩)) (v := v_l7) rfl (ldb_sc Sc24 (H.blk (k := 6) rfl) rfl)) ?_
   refine s_nil ⟨(H.pick [3, 4, 5, 7] (by decide) rfl), ?_⟩
   refine t_l rfl ?_
   obtain ⟨Bs_10, H⟩ := H.emptyE
   obtain ⟨Bs_11, H, hs569z⟩ := H.freezeE (k := 1) rfl
   replace H : St w w549z [cRo Bs_10, cRo Bs_11, cBlk b_s [v_s_bytes, I q18, I q28] 101, cOwn (α := Raw 3) 43 v_l7 rw_l7, cRo B_l7, cOwn (α := Int) 3 v_l2 l2, cOwn (α := Yr) 41 v_l l, cBlk b_2 [v_l, v_l7, I r2, I (r2 + r3)] 26, cBlk b_1 [.slice none 0 0, .slice none 0 0, I 0, I 0] 26] R := H
   have hq568z := hs569z
   obtain ⟨Bs_12, H, le570z, le571z⟩ := H.joinE (i := 0) (j := 1) rfl rfl
   replace hq568z := hq568z.mono le571z
   obtain ⟨rw572z, hrw_rw572z⟩ : ∃ r : Raw 3, r.cs = [I r0, I r1, I r22, u0_9] := ⟨Raw.of [I r0, I r1, I r22, u0_9] rfl (by simp only [List.all_cons, List.all_nil, Bool.true_and, Bool.and_true, Sl.oc hq568z]; try rfl), rfl⟩
   have hr573z : RepR (α := Old10) Bs_12.cells [rw572z] [(⟨(r0 : Int), (r1 : Int), (r22 : Int), r32⟩ : Old10)] := .cons (by rw [hrw_rw572z]; exact ⟨_, rfl, hq568z⟩) <| .nil
   refine t_bs (α := Raw 3) T24 [.agg #[I r0, I r1, I r22, u0_9]] [rw572z] H rfl (.cons (by rw [show (Flat.enc rw572z : List Value) = rw572z.cs from rfl, hrw_rw572z]; rfl) (Flat.rep_enc _ _) <| .nil) rfl rfl rfl ?_
   intro v574z w575z H
   replace H : St w w575z [cOwn (α := Raw 3) 43 v574z ([rw572z]), cRo Bs_12, cRo Bs_10, cRo Bs_11, cBlk b_s [v_s_bytes, I q18, I q28] 101, cOwn (α := Raw 3) 43 v_l7 rw_l7, cRo B_l7, cOwn (α := Int) 3 v_l2 l2, cOwn (α := Yr) 41 v_l l, cBlk b_2 [v_l, v_l7, I r2, I (r2 + r3)] 26, cBlk b_1 [.slice none 0 0, .slice none 0 0, I 0, I 0] 26] R := H
   have hvc_q576z := Sl.cells (ownSl (H.get (k := 0) rfl))
   have hvo_q576z := Sl.oc (ownSl (H.get (k := 0) rfl))
   refine s_nil ⟨(H.pick [6, 7, 8, 10] (by decide) rfl), ?_⟩
   refine t_l rfl ?_
   have hr577z := hr573z
   obtain ⟨Bs_16, H, le578z, le579z⟩ := H.joinE (i := 6) (j := 1) rfl rfl
   replace hr_l7 := hr_l7.mono le578z
   replace hr577z := hr577z.mono le579z
   have hr582z := hr_l7.app hr577z
   refine t_app (α := Raw 3) (k := 6) (l := rw_l7) (l2 := [rw572z]) (l' := rw_l7 ++ ([rw572z])) (vy := v574z) T24 rfl H rfl rfl rfl (ownSl (H.get (k := 1) rfl)) (ownLe _ (H.get (k := 1) rfl)) (rfl) (by have a_ := hr_l7.len; have b_ := hr577z.len; (try simp only [List.length_nil] at *); first | omega | (rw [a_, b_]; omega)) ?_
   intro v580z w581z H
   replace H : St w w581z [cRo Bs_16, cOwn (α := Raw 3) 43 v574z ([rw572z]), cRo Bs_12, cRo Bs_10, cRo Bs_11, cBlk b_s [v_s_bytes, I q18, I q28] 101, cOwn (α := Raw 3) 43 v580z (rw_l7 ++ ([rw572z])), cRo B_l7, cOwn (α := Int) 3 v_l2 l2, cOwn (α := Yr) 41 v_l l, cBlk b_2 [v_l, v_l7, I r2, I (r2 + r3)] 26, cBlk b_1 [.slice none 0 0, .slice none 0 0, I 0, I 0] 26] R := H
   have hvc_q583z := Sl.cells (ownSl (H.get (k := 6) rfl))
   have hvo_q583z := Sl.oc (ownSl (H.get (k := 6) rfl))
   refine s_nil ⟨(H.pick [7, 8, 9, 11] (by decide) rfl), ?_⟩
   refine t_q rfl (fun w' H => x_fa (a := .pointer (some ⟨b_2, 0, none⟩)) (v := .pointer (some ⟨b_2, 1, none⟩)) rfl (fa_blk (o := 0) Fd26_1 Sz24)) ?_
   refine t_l rfl ?_
   refine t_st (k := 10) (b := b_2) (off := 1) (cs := [v_l, v_l7, I r2, I (r2 + r3)]) (vs := [v580z]) (cs' := [v_l, v580z, I r2, I (r2 + r3)]) (v := v580z) (L' := [cRo Bs_16, cOwn (α := Raw 3) 43 v574z ([rw572z]), cRo Bs_12, cRo Bs_10, cRo Bs_11, cBlk b_s [v_s_bytes, I q18, I q28] 101, cOwn (α := Raw 3) 43 v580z (rw_l7 ++ ([rw572z])), cRo B_l7, cOwn (α := Int) 3 v_l2 l2, cOwn (α := Yr) 41 v_l l, cBlk b_2 [v_l, v580z, I r2, I (r2 + r3)] 26, cBlk b_1 [.slice none 0 0, .slice none 0 0, I 0, I 0] 26]) H rfl rfl rfl Sz24 (Sl.cells (rowSl rfl (H.get (k := 6) rfl) (roLe _ (H.get (k := 0) rfl)) hr582z)) rfl rfl (by simp only [List.all_cons, List.all_nil, Bool.true_and, Bool.and_true, Sl.oc (rowSl rfl (H.get (k := 6) rfl) (roLe _ (H.get (k := 0) rfl)) hr582z)]; try rfl) rfl rfl ?_
   intro w584z H
   refine s_nil ⟨(H.pick [7, 8, 9, 11] (by decide) rfl), ?_⟩
   refine t_nil ?_
   refine W.region rfl ?_
   refine s_val (x_mv (v := I n) rfl) ?_
   obtain ⟨sd585z, hM⟩ := M.e_grd hM
   simp only [Bool.and_eq_true, decide_eq_true_eq] at sd585z
   refine s_val (x_ari (a := n) (b := 1) (r := n - 1) rfl rfl rfl (by omega)) ?_
   refine s_val (x_as (v := I (n - 1)) rfl) ?_
   refine s_nil ?_
   exact ⟨m451z, lt452z, q18, q28, n - 1, l7 ++ ([(⟨(r0 : Int), (r1 : Int), (r22 : Int), r32⟩ : Old10)]), v580z, rw_l7 ++ ([rw572z]), Bs_16, _, upds_of _ _ ⟨rfl, rfl, rfl, rfl, rfl, trivial⟩, M.e_inl hM hN454z, (H.pick [6, 0, 5, 8, 9, 10, 11] (by decide) rfl), hr582z⟩
  skip
  obtain ⟨Bs_10, H⟩ := H.emptyE
  obtain ⟨Bs_11, H, hs587z⟩ := H.freezeE (k := 1) rfl
  replace H : St w w549z [cRo Bs_10, cRo Bs_11, cBlk b_s [v_s_bytes, I q18, I q28] 101, cOwn (α := Raw 3) 43 v_l7 rw_l7, cRo B_l7, cOwn (α := Int) 3 v_l2 l2, cOwn (α := Yr) 41 v_l l, cBlk b_2 [v_l, v_l7, I r2, I (r2 + r3)] 26, cBlk b_1 [.slice none 0 0, .slice none 0 0, I 0, I 0] 26] R := H
  have hq586z := hs587z
  obtain ⟨Bs_12, H, le588z, le589z⟩ := H.joinE (i := 0) (j := 1) rfl rfl
  replace hq586z := hq586z.mono le589z
  obtain ⟨rw590z, hrw_rw590z⟩ : ∃ r : Raw 3, r.cs = [I r0, I r1, I r22, u0_9] := ⟨Raw.of [I r0, I r1, I r22, u0_9] rfl (by simp only [List.all_cons, List.all_nil, Bool.true_and, Bool.and_true, Sl.oc hq586z]; try rfl), rfl⟩
  have hr591z : RepR (α := Old10) Bs_12.cells [rw590z] [(⟨(r0 : Int), (r1 : Int), (r22 : Int), r32⟩ : Old10)] := .cons (by rw [hrw_rw590z]; exact ⟨_, rfl, hq586z⟩) <| .nil
  refine t_bs (α := Raw 3) T24 [.agg #[I r0, I r1, I r22, u0_9]] [rw590z] H rfl (.cons (by rw [show (Flat.enc rw590z : List Value) = rw590z.cs from rfl, hrw_rw590z]; rfl) (Flat.rep_enc _ _) <| .nil) rfl rfl rfl ?_
  intro v592z w593z H
  replace H : St w w593z [cOwn (α := Raw 3) 43 v592z ([rw590z]), cRo Bs_12, cRo Bs_10, cRo Bs_11, cBlk b_s [v_s_bytes, I q18, I q28] 101, cOwn (α := Raw 3) 43 v_l7 rw_l7, cRo B_l7, cOwn (α := Int) 3 v_l2 l2, cOwn (α := Yr) 41 v_l l, cBlk b_2 [v_l, v_l7, I r2, I (r2 + r3)] 26, cBlk b_1 [.slice none 0 0, .slice none 0 0, I 0, I 0] 26] R := H
  have hvc_q594z := Sl.cells (ownSl (H.get (k := 0) rfl))
  have hvo_q594z := Sl.oc (ownSl (H.get (k := 0) rfl))
  refine s_nil ⟨(H.pick [6, 7, 8, 10] (by decide) rfl), ?_⟩
  refine t_l rfl ?_
  refine s_val (x_ld (p := .pointer (some ⟨b_2, 1, none⟩)) (v := v_l7) rfl (ldb_sc Sc24 (H.blk (k := 9) rfl) rfl)) ?_
  refine s_nil ⟨(H.pick [6, 7, 8, 10] (by decide) rfl), ?_⟩
  refine t_l rfl ?_
  have hr595z := hr591z
  obtain ⟨Bs_16, H, le596z, le597z⟩ := H.joinE (i := 6) (j := 1) rfl rfl
  replace hr_l7 := hr_l7.mono le596z
  replace hr595z := hr595z.mono le597z
  have hr600z := hr_l7.app hr595z
  refine t_app (α := Raw 3) (k := 6) (l := rw_l7) (l2 := [rw590z]) (l' := rw_l7 ++ ([rw590z])) (vy := v592z) T24 rfl H rfl rfl rfl (ownSl (H.get (k := 1) rfl)) (ownLe _ (H.get (k := 1) rfl)) (rfl) (by have a_ := hr_l7.len; have b_ := hr595z.len; (try simp only [List.length_nil] at *); first | omega | (rw [a_, b_]; omega)) ?_
  intro v598z w599z H
  replace H : St w w599z [cRo Bs_16, cOwn (α := Raw 3) 43 v592z ([rw590z]), cRo Bs_12, cRo Bs_10, cRo Bs_11, cBlk b_s [v_s_bytes, I q18, I q28] 101, cOwn (α := Raw 3) 43 v598z (rw_l7 ++ ([rw590z])), cRo B_l7, cOwn (α := Int) 3 v_l2 l2, cOwn (α := Yr) 41 v_l l, cBlk b_2 [v_l, v_l7, I r2, I (r2 + r3)] 26, cBlk b_1 [.slice none 0 0, .slice none 0 0, I 0, I 0] 26] R := H
  have hvc_q601z := Sl.cells (ownSl (H.get (k := 6) rfl))
  have hvo_q601z := Sl.oc (ownSl (H.get (k := 6) rfl))
  refine s_nil ⟨(H.pick [7, 8, 9, 11] (by decide) rfl), ?_⟩
  refine t_q rfl (fun w' H => x_fa (a := .pointer (some ⟨b_2, 0, none⟩)) (v := .pointer (some ⟨b_2, 1, none⟩)) rfl (fa_blk (o := 0) Fd26_1 Sz24)) ?_
  refine t_l rfl ?_
  refine t_st (k := 10) (b := b_2) (off := 1) (cs := [v_l, v_l7, I r2, I (r2 + r3)]) (vs := [v598z]) (cs' := [v_l, v598z, I r2, I (r2 + r3)]) (v := v598z) (L' := [cRo Bs_16, cOwn (α := Raw 3) 43 v592z ([rw590z]), cRo Bs_12, cRo Bs_10, cRo Bs_11, cBlk b_s [v_s_bytes, I q18, I q28] 101, cOwn (α := Raw 3) 43 v598z (rw_l7 ++ ([rw590z])), cRo B_l7, cOwn (α := Int) 3 v_l2 l2, cOwn (α := Yr) 41 v_l l, cBlk b_2 [v_l, v598z, I r2, I (r2 + r3)] 26, cBlk b_1 [.slice none 0 0, .slice none 0 0, I 0, I 0] 26]) H rfl rfl rfl Sz24 (Sl.cells (rowSl rfl (H.get (k := 6) rfl) (roLe _ (H.get (k := 0) rfl)) hr600z)) rfl rfl (by simp only [List.all_cons, List.all_nil, Bool.true_and, Bool.and_true, Sl.oc (rowSl rfl (H.get (k := 6) rfl) (roLe _ (H.get (k := 0) rfl)) hr600z)]; try rfl) rfl rfl ?_
  intro w602z H
  refine s_nil ⟨(H.pick [7, 8, 9, 11] (by decide) rfl), ?_⟩
  refine t_nil ?_
  refine W.region rfl ?_
  refine s_val (x_mv (v := I n) rfl) ?_
  obtain ⟨sd603z, hM⟩ := M.e_grd hM
  simp only [Bool.and_eq_true, decide_eq_true_eq] at sd603z
  refine s_val (x_ari (a := n) (b := 1) (r := n - 1) rfl rfl rfl (by omega)) ?_
  refine s_val (x_as (v := I (n - 1)) rfl) ?_
  refine s_nil ?_
  exact ⟨m451z, lt452z, q18, q28, n - 1, l7 ++ ([(⟨(r0 : Int), (r1 : Int), (r22 : Int), r32⟩ : Old10)]), v598z, rw_l7 ++ ([rw590z]), Bs_16, _, upds_of _ _ ⟨rfl, rfl, rfl, rfl, rfl, trivial⟩, M.e_inl hM hN454z, (H.pick [6, 0, 5, 8, 9, 10, 11] (by decide) rfl), hr600z⟩
 replace hM := M.e_f hM c455z
 simp only [decide_eq_true_eq, decide_eq_false_iff_not, beq_iff_eq, bne_iff_ne, beq_eq_false_iff_ne, bne_eq_false_iff_eq, ne_eq, Decidable.not_not] at c455z
 refine W.exit ?_
 have hX604z := M.e_inr hM hN454z
 subst hX604z
 replace hM := hk447z
 try dsimp only at hM
 refine W.seq ?_
 refine W.region rfl ?_
 refine s_val (x_ld (p := .pointer (some ⟨b_2, 0, none⟩)) (v := .agg #[v_l, v_l7, I r2, I (r2 + r3)]) rfl (ldb_ag (ds := [v_l, v_l7, I r2, I (r2 + r3)]) Ag26 Sz26 (H.blk (k := 5) rfl) rfl rfl)) ?_
 refine s_val (x_mv (v := v_l2) rfl) ?_
 refine t_st (k := 6) (b := b_1) (off := 0) (cs := [.slice none 0 0, .slice none 0 0, I 0, I 0]) (vs := [v_l, v_l7, I r2, I (r2 + r3)]) (cs' := [v_l, v_l7, I r2, I (r2 + r3)]) (v := .agg #[v_l, v_l7, I r2, I (r2 + r3)]) (L' := [cOwn (α := Raw 3) 43 v_l7 rw_l7, cRo B_l7, cBlk b_s [v_s_bytes, I s6, I s7] 101, cOwn (α := Int) 3 v_l2 l2, cOwn (α := Yr) 41 v_l l, cBlk b_2 [v_l, v_l7, I r2, I (r2 + r3)] 26, cBlk b_1 [v_l, v_l7, I r2, I (r2 + r3)] 26]) H rfl rfl rfl Sz26 rfl rfl rfl (by simp only [List.all_cons, List.all_nil, Bool.true_and, Bool.and_true, Sl.oc (ownSl (H.get (k := 4) rfl)), Sl.oc (rowSl rfl (H.get (k := 0) rfl) (roLe _ (H.get (k := 1) rfl)) hr_l7)]; try rfl) rfl rfl ?_
 intro w605z H
 refine s_val (x_as (v := v_l2) rfl) ?_
 refine s_nil ?_
 refine W.ret ?_
 have hb606z := (H.blk (k := 6) rfl)
 have hr_ := M.e_pure hM
 exact ⟨_, (resE_ofn (vs := [.agg #[v_l, v_l7, I r2, I (r2 + r3)], v_l2]) rfl rfl (.cell (v := .agg #[v_l, v_l7, I r2, I (r2 + r3)]) rfl (run_loadVar_ag (ds := [v_l, v_l7, I r2, I (r2 + r3)]) Ag26 Sz26 hb606z rfl rfl) <| .tmp (v := v_l2) rfl <| .nil)), ⟨l, l7, r2, (r2 + r3), l2, s6, s7, v_l, v_l7, rw_l7, B_l7, v_l2, hr_, rfl, (H.pick [4, 0, 1, 3, 2] (by decide) rfl), hr_l7⟩⟩

end Go.Proofs.Ytcgalcbkkijkhaa
end
namespace Go.Nm
namespace M
variable {α β σ ρ : Type}
def Out (m : M α) (Q : α -> Prop) : Prop := ∃ r, m.Ends r /\ Q r
theorem o_of {m : M α} {a : α} {Q : α -> Prop} (h : m.Ends a) (q : Q a) : m.Out Q := ⟨a, h, q⟩
theorem o_pure {a : α} {Q : α -> Prop} (h : Q a) : (pure a).Out Q := ⟨a, i_pure, h⟩
theorem o_mono {m : M α} {P Q : α -> Prop} (h : m.Out P) (k : ∀ a, P a -> Q a) : m.Out Q := by
  obtain ⟨a, h1, h2⟩ := h
  exact ⟨a, h1, k a h2⟩
theorem o_bind {m : M α} {k : α -> M β} {P : α -> Prop} {Q : β -> Prop} (h : m.Out P) (h' : ∀ a, P a -> (k a).Out Q) : (bind m k).Out Q := by
  obtain ⟨a, h1, h2⟩ := h
  obtain ⟨b, h3, h4⟩ := h' a h2
  exact ⟨b, i_bind h1 h3, h4⟩
theorem o_bindE {m : M α} {k : α -> M β} {a : α} {Q : β -> Prop} (h : m.Ends a) (h' : (k a).Out Q) : (bind m k).Out Q := o_bind (o_of (Q := fun x => x = a) h rfl) (fun _ e => by subst e; exact h')
theorem o_grd {b : Bool} {k : M α} {Q : α -> Prop} (hb : b = true) (h : k.Out Q) : (grd b k).Out Q := by subst hb; exact h
theorem o_grdD {p : Prop} [Decidable p] {k : M α} {Q : α -> Prop} (hp : p) (h : k.Out Q) : (grd (decide p) k).Out Q := o_grd (decide_eq_true hp) h
theorem o_if {b : Bool} {x y : M α} {Q : α -> Prop} (h : b = true -> x.Out Q) (h' : b = false -> y.Out Q) : (bif b then x else y).Out Q := by
  cases b with
  | true => exact h rfl
  | false => exact h' rfl
theorem o_t {b : Bool} {x y : M α} {Q : α -> Prop} (hb : b = true) (h : x.Out Q) : (bif b then x else y).Out Q := by subst hb; exact h
theorem o_f {b : Bool} {x y : M α} {Q : α -> Prop} (hb : b = false) (h : y.Out Q) : (bif b then x else y).Out Q := by subst hb; exact h
/-- What a round leaves. -/
def Rd (J : Nat -> σ -> Prop) (Q : ρ -> Prop) (m : Nat) : σ ⊕ ρ -> Prop
  | .inl s => ∃ m', m' < m /\ J m' s
  | .inr r => Q r
theorem o_iter {body : σ -> M (σ ⊕ ρ)} {Q : ρ -> Prop} (J : Nat -> σ -> Prop) (round : ∀ m s, J m s -> (body s).Out (Rd J Q m)) : ∀ (m : Nat) (s : σ), J m s -> (iter body s).Out Q := by
  intro m
  induction m using Nat.strongRecOn with
  | _ m ih =>
    intro s hs
    obtain ⟨x, h1, h2⟩ := round m s hs
    cases x with
    | inl s' =>
      obtain ⟨m', hlt, hj⟩ := h2
      obtain ⟨r, h3, h4⟩ := ih m' hlt s' hj
      exact ⟨r, i_next h1 h3, h4⟩
    | inr r => exact ⟨r, i_stop h1, h2⟩
/-- A loop that counts from 0 to n. -/
theorem o_for {body : σ -> M (σ ⊕ ρ)} {Q : ρ -> Prop} (n : Nat) (J : Nat -> σ -> Prop) (round : ∀ i s, i < n -> J i s -> (body s).Out (fun x => match x with | .inl s' => J (i + 1) s' | .inr r => Q r))
    (last : ∀ s, J n s -> (body s).Out (fun x => match x with | .inl _ => False | .inr r => Q r)) {s : σ} (h : J 0 s) : (iter body s).Out Q := by
  refine o_iter (fun m s => ∃ i, i <= n /\ m = n - i /\ J i s) ?_ n s ⟨0, Nat.zero_le _, rfl, h⟩
  rintro m s ⟨i, hi, rfl, hj⟩
  by_cases e : i < n
  · refine o_mono (round i s e hj) ?_
    intro x hx
    cases x with
    | inl s' => exact ⟨n - (i + 1), by omega, i + 1, e, rfl, hx⟩
    | inr r => exact hx
  · obtain rfl : i = n := by omega
    refine o_mono (last s hj) ?_
    intro x hx
    cases x with
    | inl s' => exact hx.elim
    | inr r => exact hx
end M
theorem M.i_f {α : Type} {b : Bool} {x y : M α} {r : α} (hb : b = false) (h : y.Ends r) : (bif b then x else y).Ends r := by subst hb; exact h
theorem M.i_t {α : Type} {b : Bool} {x y : M α} {r : α} (hb : b = true) (h : x.Ends r) : (bif b then x else y).Ends r := by subst hb; exact h
theorem take_succ_D {α : Type} (l : List α) (i : Nat) (h : i < l.length) (d : α) : l.take i ++ [l.getD i d] = l.take (i + 1) := by
  rw [List.take_succ_eq_append_getElem h]
  simp [List.getD, h]
theorem gA2 {p q : Prop} [Decidable p] [Decidable q] (hp : p) (hq : q) : (decide p && decide q) = true := by rw [decide_eq_true hp, decide_eq_true hq]; rfl
end Go.Nm
namespace Go.Nm
structure SOk (c u x : Int) : Prop where
  u0 : 0 <= u
  u1 : u <= c
  x0 : 0 <= x
  x1 : x < 251
theorem SOk.mono {c d u x : Int} (h : SOk c u x) (hd : c <= d) : SOk d u x := ⟨h.u0, Int.le_trans h.u1 hd, h.x0, h.x1⟩
/-- What a stream gives: a number below n. -/
structure Nx (c n : Int) (y : Int × Int × Int) : Prop where
  ok : SOk c y.2.1 y.2.2
  lt : 1 <= n -> 0 <= y.1 /\ y.1 < n
  no : n < 1 -> y.1 = 0
end Go.Nm
namespace Go.Proofs.Ytcgalcbkkijkhaa
open Go Go.Nm
theorem next_out {b : List UInt8} {c u x n : Int} (h : SOk c u x) (hc : c <= 1000000000000) (hn : n <= 1000000) : (zad b u x n).Out (Nx (c + 1) n) := by
  obtain ⟨u0, u1, x0, x1⟩ := h
  unfold zad
  refine M.o_if (fun hb => ?_) (fun hb => ?_)
  · simp only [Bool.or_eq_true, decide_eq_true_eq, beq_iff_eq] at hb
    refine M.o_pure ⟨⟨u0, by dsimp only; omega, x0, x1⟩, fun h1 => ⟨Int.le_refl _, ?_⟩, fun _ => rfl⟩
    dsimp only
    omega
  · simp only [Bool.or_eq_false_iff, decide_eq_false_iff_not, beq_eq_false_iff_ne, ne_eq] at hb
    have hl : (0 : Int) < (b.length : Int) := by omega
    have m0 := Int.emod_nonneg u (show (b.length : Int) ≠ 0 by omega)
    have m1 := Int.emod_lt_of_pos u hl
    have d0 := Int.ediv_nonneg u0 (show (0 : Int) <= (b.length : Int) by omega)
    have d1 : u / (b.length : Int) <= u := Int.ediv_le_self _ u0
    have y1 : ((b.getD (Int.toNat (u % (b.length : Int))) 0).toNat : Int) < 256 := by
      have := UInt8.toNat_lt (b.getD (Int.toNat (u % (b.length : Int))) 0)
      omega
    have y0 : (0 : Int) <= ((b.getD (Int.toNat (u % (b.length : Int))) 0).toNat : Int) := Int.natCast_nonneg _
    generalize ((b.getD (Int.toNat (u % (b.length : Int))) 0).toNat : Int) = y at *
    generalize u % (b.length : Int) = m at *
    generalize u / (b.length : Int) = d at *
    have hn0 : 0 < n := by omega
    have fin : ∀ z : Int, 0 <= z -> 0 <= z % n /\ z % n < n := fun z hz => ⟨Int.emod_nonneg _ (by omega), Int.emod_lt_of_pos _ hn0⟩
    have pr : ∀ z w : Int, 0 <= z -> Nx (c + 1) n (z % n, u + 1, w % 251) := fun z w hz => ⟨⟨by dsimp only; omega, by dsimp only; omega, by dsimp only; omega, by dsimp only; omega⟩, fun _ => fin z hz, fun h => by omega⟩
    refine M.o_grd (by simp only [Bool.and_eq_true, decide_eq_true_eq]; omega) (M.o_grd (by simp only [Bool.and_eq_true, decide_eq_true_eq]; omega) (M.o_grd (by simp only [Bool.and_eq_true, decide_eq_true_eq]; omega) ?_))
    refine M.o_if (fun h1 => ?_) (fun h1 => ?_)
    · refine M.o_grd (by simp only [Bool.and_eq_true, decide_eq_true_eq]; omega) (M.o_grd (by simp only [Bool.and_eq_true, decide_eq_true_eq]; omega) (M.o_grd (by simp only [Bool.and_eq_true, decide_eq_true_eq]; omega) (M.o_grd (by simp only [Bool.and_eq_true, decide_eq_true_eq]; omega) (M.o_grd (by simp only [Bool.and_eq_true, decide_eq_true_eq]; omega) ?_))))
      refine M.o_grd (by simp only [Bool.and_eq_true, decide_eq_true_eq]; omega) (M.o_grd (by simp only [Bool.and_eq_true, decide_eq_true_eq]; omega) (M.o_grd (by simp only [Bool.and_eq_true, decide_eq_true_eq]; omega) (M.o_grd (by simp only [Bool.and_eq_true, decide_eq_true_eq]; omega) ?_)))
      refine M.o_if (fun h2 => ?_) (fun h2 => ?_)
      · refine M.o_grd (by simp only [Bool.and_eq_true, decide_eq_true_eq]; omega) (M.o_grd (by simp only [Bool.and_eq_true, decide_eq_true_eq]; omega) (M.o_grd (by simp only [Bool.and_eq_true, decide_eq_true_eq]; omega) (M.o_pure (pr _ _ (by omega)))))
      · refine M.o_grd (by simp only [Bool.and_eq_true, decide_eq_true_eq]; omega) (M.o_pure (pr _ _ (by omega)))
    · refine M.o_grd (by simp only [Bool.and_eq_true, decide_eq_true_eq]; omega) (M.o_grd (by simp only [Bool.and_eq_true, decide_eq_true_eq]; omega) (M.o_grd (by simp only [Bool.and_eq_true, decide_eq_true_eq]; omega) (M.o_grd (by simp only [Bool.and_eq_true, decide_eq_true_eq]; omega) (M.o_grd (by simp only [Bool.and_eq_true, decide_eq_true_eq]; omega) ?_))))
      refine M.o_if (fun h2 => ?_) (fun h2 => ?_)
      · refine M.o_grd (by simp only [Bool.and_eq_true, decide_eq_true_eq]; omega) (M.o_grd (by simp only [Bool.and_eq_true, decide_eq_true_eq]; omega) (M.o_grd (by simp only [Bool.and_eq_true, decide_eq_true_eq]; omega) (M.o_pure (pr _ _ (by omega)))))
      · refine M.o_grd (by simp only [Bool.and_eq_true, decide_eq_true_eq]; omega) (M.o_pure (pr _ _ (by omega)))
theorem within_out {b : List UInt8} {c u x lo hi : Int} (h : SOk c u x) (hc : c <= 1000000000000) (h0 : -1000 <= lo) (h1 : lo <= hi) (h2 : hi <= 10000) : (zap b u x lo hi).Out (fun y => SOk (c + 1) y.2.1 y.2.2 /\ lo <= y.1 /\ y.1 <= hi) := by
  unfold zap
  refine M.o_grd (gA2 (by omega) (by omega)) (M.o_grd (gA2 (by omega) (by omega)) (M.o_bind (next_out h hc (by omega)) ?_))
  rintro ⟨r, u', x'⟩ ⟨k, hl, _⟩
  have := hl (by omega)
  dsimp only at this k ⊢
  exact M.o_grd (gA2 (by omega) (by omega)) (M.o_pure ⟨k, by dsimp only; omega, by dsimp only; omega⟩)
end Go.Proofs.Ytcgalcbkkijkhaa
namespace Go.Nm
theorem SOk.zero : SOk 0 0 0 := ⟨Int.le_refl _, Int.le_refl _, Int.le_refl _, by decide⟩
end Go.Nm
namespace Go.Proofs.Ytcgalcbkkijkhaa
open Go Go.Nm
theorem pick_num {v n : Int} (h : 1 <= n /\ n <= 1000000) : (zan v n).Out (fun r => 0 <= r /\ r < n) := by
  unfold zan
  have h1 : Int.tmod v n < n := Int.tmod_lt_of_pos v (by omega)
  have h2 : -n < Int.tmod v n := by
    have := Int.tmod_lt_of_pos (-v) (show 0 < n by omega)
    rw [Int.neg_tmod] at this
    omega
  refine M.o_f (decide_eq_false (by omega)) (M.o_grdD (by omega) (M.o_if (fun hb => ?_) (fun hb => ?_)))
  · have := of_decide_eq_true hb
    exact M.o_grd (gA2 (by omega) (by omega)) (M.o_pure (by omega))
  · have := of_decide_eq_false hb
    exact M.o_pure (by omega)
end Go.Proofs.Ytcgalcbkkijkhaa
namespace Go.Nm
namespace Pk
/-- The first peak behind the flood of each one, and how many floods are over when a peak comes. -/
structure Fl (n : Nat) (nx kk : Nat -> Nat) : Prop where
  lt : ∀ i, i < n -> i < nx i
  le : ∀ i, i < n -> nx i <= n
  kle : ∀ m, kk m <= m
  iff : ∀ i m, i < n -> m <= n -> (i < kk m ↔ nx i <= m)
namespace Fl
variable {n : Nat} {nx kk : Nat -> Nat}
theorem kmono (F : Fl n nx kk) {a b : Nat} (h : a <= b) (hb : b <= n) : kk a <= kk b := by
  rcases Nat.lt_or_ge (kk b) (kk a) with hlt | hge
  · have h1 := F.kle a
    have h2 := (F.iff (kk b) a (by omega) (by omega)).1 hlt
    have h3 := (F.iff (kk b) b (by omega) (by omega)).2 (by omega)
    omega
  · exact hge
end Fl
/-- The greatest worth of the peaks ahead of one. -/
structure IsS (n : Nat) (v : Nat -> Int) (kk : Nat -> Nat) (S : Nat -> Int) : Prop where
  z : S 0 = 0
  s : ∀ i, i < n -> S (i + 1) = max (S i) (S (kk i) + v i)
/-- The greatest worth from a peak on. -/
structure IsB (n : Nat) (v : Nat -> Int) (nx : Nat -> Nat) (B : Nat -> Int) : Prop where
  z : B n = 0
  s : ∀ i, i < n -> B i = max (max 0 (B (i + 1))) (v i + B (nx i))
variable {n : Nat} {nx kk : Nat -> Nat} {v S B : Nat -> Int}
theorem IsS.mono (h : IsS n v kk S) : ∀ {a b : Nat}, a <= b -> b <= n -> S a <= S b := by
  intro a b hab
  induction hab with
  | refl => intro _; exact Int.le_refl _
  | @step m k ih =>
    intro hb
    have := ih (by omega)
    have e := h.s m (by omega)
    rw [Nat.succ_eq_add_one]
    omega
theorem IsB.anti (h : IsB n v nx B) : ∀ {a b : Nat}, a <= b -> b <= n -> B b <= B a := by
  intro a b hab
  induction hab with
  | refl => intro _; exact Int.le_refl _
  | @step m k ih =>
    intro hb
    have := ih (by omega)
    have e := h.s m (by omega)
    rw [Nat.succ_eq_add_one]
    omega
theorem IsB.pos (h : IsB n v nx B) {i : Nat} (hi : i <= n) : 0 <= B i := by
  have := h.anti hi (Nat.le_refl _)
  rw [h.z] at this
  exact this
theorem fwd (F : Fl n nx kk) (hS : IsS n v kk S) (hB : IsB n v nx B) : ∀ i, i <= n -> ∀ m, m <= n -> (∀ j, j < i -> nx j <= m) -> (i = 0 -> True) -> S i + B m <= B 0 := by
  intro i
  induction i using Nat.strongRecOn with
  | _ i ih =>
    intro hi m hm hj _
    cases i with
    | zero =>
      rw [hS.z]
      have := hB.anti (Nat.zero_le m) hm
      omega
    | succ i =>
      have e := hS.s i (by omega)
      have k1 := ih i (by omega) (by omega) m hm (fun j hj' => hj j (by omega)) (fun _ => trivial)
      have h1 := hj i (by omega)
      have b1 := hB.s i (by omega)
      have a1 := hB.anti h1 hm
      have kl := F.kle i
      have k2 := ih (kk i) (by omega) (by omega) i (by omega) (fun j hj' => (F.iff j i (by omega) (by omega)).1 hj') (fun _ => trivial)
      omega
theorem bwd (F : Fl n nx kk) (hS : IsS n v kk S) (hB : IsB n v nx B) : ∀ d i, i + d = n -> B i + S (kk i) <= S n := by
  intro d
  induction d using Nat.strongRecOn with
  | _ d ih =>
    intro i hi
    cases d with
    | zero =>
      obtain rfl : i = n := by omega
      rw [hB.z]
      have := hS.mono (F.kle i) (Nat.le_refl _)
      omega
    | succ d =>
      have e := hB.s i (by omega)
      have k1 := ih d (by omega) (i + 1) (by omega)
      have m1 := hS.mono (F.kmono (Nat.le_succ i) (by omega)) (Nat.le_trans (F.kle (i + 1)) (by omega))
      have l1 := F.lt i (by omega)
      have l2 := F.le i (by omega)
      have k2 := ih (n - nx i) (by omega) (nx i) (by omega)
      have q := (F.iff i (nx i) (by omega) l2).2 (Nat.le_refl _)
      have m2 := hS.mono q (Nat.le_trans (F.kle (nx i)) l2)
      have s1 := hS.s i (by omega)
      have m3 := hS.mono (Nat.le_trans (F.kle i) (show i <= n by omega)) (Nat.le_refl n)
      rw [Nat.succ_eq_add_one] at *
      omega
/-- Reckoned from either end it is the same. -/
theorem both (F : Fl n nx kk) (hS : IsS n v kk S) (hB : IsB n v nx B) : B 0 = S n := by
  have h1 := fwd F hS hB n (Nat.le_refl _) n (Nat.le_refl _) (fun j hj => F.le j hj) (fun _ => trivial)
  have h2 := bwd F hS hB n 0 (by omega)
  have h3 : kk 0 = 0 := by have := F.kle 0; omega
  rw [h3, hS.z] at h2
  rw [hB.z] at h1
  omega
/-- The sum of a function's values from a to b. -/
def sm (d : Nat -> Int) (a : Nat) : Nat -> Int
  | 0 => 0
  | k + 1 => sm d a k + d (a + k)
theorem sm_add (d : Nat -> Int) (a j k : Nat) : sm d a (j + k) = sm d a j + sm d (a + j) k := by
  induction k with
  | zero => simp [sm]
  | succ k ih => rw [← Nat.add_assoc]; simp only [sm]; rw [ih, Nat.add_assoc]; omega
end Pk
end Go.Nm
namespace Go.Nm
namespace Pk
def dayAt (l : List Pk) (i : Nat) : Int := (l.getD i default).day
def stAt (l : List Pk) (i : Nat) : Int := (l.getD i default).stage
/-- Days that rise. -/
def Up (l : List Pk) : Prop := ∀ i j, i < j -> j < l.length -> dayAt l i < dayAt l j
theorem Up.le {l : List Pk} (h : Up l) {i j : Nat} (hij : i <= j) (hj : j < l.length) : dayAt l i <= dayAt l j := by
  rcases Nat.lt_or_eq_of_le hij with e | e
  · have := h i j e hj
    omega
  · subst e; exact Int.le_refl _
theorem tw_lt {l : List Pk} {p : Pk -> Bool} : ∀ {j : Nat}, j < (l.takeWhile p).length ↔ j < l.length /\ ∀ k, k <= j -> p (l.getD k default) = true := by
  induction l with
  | nil => intro j; simp
  | cons a l ih =>
    intro j
    rw [List.takeWhile_cons]
    by_cases e : p a = true
    · rw [if_pos e]
      cases j with
      | zero => simp [e]
      | succ j =>
        simp only [List.length_cons, Nat.succ_lt_succ_iff, ih]
        refine and_congr_right fun _ => ⟨fun h k hk => ?_, fun h k hk => ?_⟩
        · cases k with
          | zero => simpa using e
          | succ k => simpa using h k (by omega)
        · simpa using h (k + 1) (by omega)
    · rw [if_neg e]
      simp only [List.length_nil, Nat.not_lt_zero, false_iff]
      intro h
      exact e (by simpa using h.2 0 (Nat.zero_le _))
theorem tw_le (l : List Pk) (p : Pk -> Bool) : (l.takeWhile p).length <= l.length := by
  induction l with
  | nil => simp
  | cons a l ih =>
    rw [List.takeWhile_cons]
    split
    · simpa using ih
    · simp
/-- The first peak whose day is not ahead of a day. -/
def fst (l : List Pk) (t : Int) : Nat := (l.takeWhile fun p => decide (p.day < t)).length
theorem fst_le (l : List Pk) (t : Int) : fst l t <= l.length := tw_le l _
theorem fst_lt {l : List Pk} (h : Up l) {t : Int} {j : Nat} (hj : j < l.length) : j < fst l t ↔ dayAt l j < t := by
  unfold fst
  rw [tw_lt]
  constructor
  · rintro ⟨_, k⟩
    simpa [dayAt] using k j (Nat.le_refl _)
  · intro e
    refine ⟨hj, fun k hk => ?_⟩
    have := h.le hk hj
    show decide (dayAt l k < t) = true
    exact decide_eq_true (by omega)
def nx (l : List Pk) (A : Int) (i : Nat) : Nat := fst l (dayAt l i + A)
def kk (l : List Pk) (A : Int) (m : Nat) : Nat := if m < l.length then fst l (dayAt l m - A + 1) else l.length
theorem fl {l : List Pk} (h : Up l) {A : Int} (hA : 1 <= A) : Fl l.length (nx l A) (kk l A) where
  lt i hi := (fst_lt h hi).2 (by omega)
  le i _ := fst_le _ _
  kle m := by
    unfold kk
    split
    · rename_i hm
      rcases Nat.lt_or_ge m (fst l (dayAt l m - A + 1)) with e | e
      · have := (fst_lt h hm).1 e
        omega
      · exact e
    · omega
  iff i m hi hm := by
    unfold kk nx
    split
    · rename_i hm
      rw [fst_lt h hi]
      have := fst_lt h (t := dayAt l i + A) hm
      omega
    · have := fst_le l (dayAt l i + A)
      omega
end Pk
end Go.Nm
namespace Go.Nm
namespace Pk
/-- The greatest worth of the peaks ahead of one. -/
def Sf (kk : Nat -> Nat) (v : Nat -> Int) : Nat -> Int
  | 0 => 0
  | i + 1 => max (Sf kk v i) (Sf kk v (min (kk i) i) + v i)
termination_by i => i
decreasing_by all_goals omega
theorem IsS.uniq {n : Nat} {nx kk : Nat -> Nat} {v S S' : Nat -> Int} (F : Fl n nx kk) (h : IsS n v kk S) (h' : IsS n v kk S') : ∀ i, i <= n -> S i = S' i := by
  intro i
  induction i using Nat.strongRecOn with
  | _ i ih =>
    intro hi
    cases i with
    | zero => rw [h.z, h'.z]
    | succ i =>
      have := F.kle i
      rw [h.s i (by omega), h'.s i (by omega), ih i (by omega) (by omega), ih (kk i) (by omega) (by omega)]
variable {n : Nat} {nx kk : Nat -> Nat} {v S : Nat -> Int}
/-- Dues behind so many peaks. -/
def Du (n : Nat) (kk : Nat -> Nat) (S : Nat -> Int) (i : Nat) (out : Nat -> Int) : Prop := ∀ m, m <= n -> sm out 0 m = S (min i (kk m))
theorem sm_range (d : Nat -> Int) {a b : Nat} (h : a <= b) : sm d a (b - a) = sm d 0 b - sm d 0 a := by
  have := sm_add d 0 a (b - a)
  rw [show a + (b - a) = b by omega, Nat.zero_add] at this
  omega
theorem sm_set (d : Nat -> Int) (p : Nat) (x : Int) (m : Nat) : sm (fun k => if k = p then d k + x else d k) 0 m = sm d 0 m + (if p < m then x else 0) := by
  induction m with
  | zero => simp [sm]
  | succ m ih =>
    simp only [sm, ih, Nat.zero_add]
    by_cases e : m = p
    · subst e; simp; omega
    · by_cases e' : p < m
      · rw [if_neg e, if_pos e', if_pos (by omega)]; omega
      · rw [if_neg e, if_neg e', if_neg (by omega)]; omega
theorem sm_zero (a m : Nat) : sm (fun _ => 0) a m = 0 := by
  induction m with
  | zero => rfl
  | succ m ih => simp [sm, ih]
theorem Du.z (hS : IsS n v kk S) : Du n kk S 0 (fun _ => 0) := by
  intro m _
  rw [Nat.zero_min, hS.z]
  exact sm_zero 0 m
/-- What a peak's days have when its turn comes. -/
theorem Du.has (F : Fl n nx kk) {i : Nat} {out : Nat -> Int} (h : Du n kk S i out) (hi : i < n) : sm out i (nx i - i) = S i - S (kk i) := by
  have l1 := F.lt i hi
  have l2 := F.le i hi
  have k1 := (F.iff i (nx i) hi l2).2 (Nat.le_refl _)
  have k2 := F.kle i
  rw [sm_range out (Nat.le_of_lt l1), h (nx i) l2, h i (by omega), Nat.min_eq_left (Nat.le_of_lt k1), Nat.min_eq_right k2]
theorem Du.step (F : Fl n nx kk) (hS : IsS n v kk S) {i : Nat} {out : Nat -> Int} (h : Du n kk S i out) (hi : i < n) {p : Nat} (hp : p + 1 = nx i) {x : Int} (hx : x = max 0 (v i - sm out i (nx i - i))) : Du n kk S (i + 1) (fun k => if k = p then out k + x else out k) := by
  intro m hm
  rw [sm_set, h m hm]
  rw [h.has F hi] at hx
  have e := hS.s i hi
  have q := F.iff i m hi hm
  by_cases c : i < kk m
  · have := q.1 c
    rw [if_pos (by omega), Nat.min_eq_left (by omega), Nat.min_eq_left (by omega)]
    omega
  · rw [if_neg (by omega), Nat.min_eq_right (by omega), Nat.min_eq_right (by omega)]
    omega
theorem kk_n (F : Fl n nx kk) : kk n = n := by
  have h1 := F.kle n
  rcases Nat.lt_or_ge (kk n) n with e | e
  · have := (F.iff (kk n) n e (Nat.le_refl _)).2 (F.le _ e)
    omega
  · omega
section
variable (F : Fl n nx kk) (hS : IsS n v kk S) {out : Nat -> Int} (h : Du n kk S n out)
include F h in
theorem Du.pre {m : Nat} (hm : m <= n) : sm out 0 m = S (kk m) := by
  rw [h m hm, Nat.min_eq_right (Nat.le_trans (F.kle m) hm)]
include F hS h
omit hS in theorem Du.sum : sm out 0 n = S n := by rw [h.pre F (Nat.le_refl _), kk_n F]
omit hS in theorem Du.at {p : Nat} (hp : p < n) : out p = S (kk (p + 1)) - S (kk p) := by
  have h1 := h.pre F (show p + 1 <= n from hp)
  have h2 := h.pre F (Nat.le_of_lt hp)
  simp only [sm, Nat.zero_add] at h1
  omega
theorem Du.most {c : Int} (hc : 0 <= c) (hv : ∀ i, i < n -> v i <= c) {p : Nat} (hp : p < n) : out p <= c := by
  rw [h.at F hp]
  have k : ∀ j, kk p <= j -> j <= kk (p + 1) -> S j <= S (kk p) + c := by
    intro j hj
    induction hj with
    | refl => intro _; omega
    | @step j hj ih =>
      intro hj2
      have := ih (by omega)
      have hb := F.kle (p + 1)
      have e := hS.s j (by omega)
      have q := (F.iff j (p + 1) (by omega) hp).1 (by omega)
      have := F.lt j (by omega)
      have m1 := hS.mono (F.kmono (show j <= p by omega) (by omega)) (Nat.le_trans (F.kle p) (by omega))
      have := hv j (by omega)
      rw [Nat.succ_eq_add_one]
      omega
  have := k (kk (p + 1)) (F.kmono (Nat.le_succ p) hp) (Nat.le_refl _)
  omega
end
end Pk
end Go.Nm
namespace Go.Nm
namespace Pk
/-- The first that is not 0. -/
def fe (f : Nat -> Int) : Nat -> Int
  | 0 => 0
  | n + 1 => if fe f n ≠ 0 then fe f n else f n
theorem fe_all {f : Nat -> Int} : ∀ {n : Nat}, fe f n = 0 ↔ ∀ i, i < n -> f i = 0
  | 0 => by simp [fe]
  | n + 1 => by
    have ih := fe_all (f := f) (n := n)
    unfold fe
    constructor
    · intro h i hi
      split at h
      · rename_i h1; exact absurd h h1
      · rename_i h1
        rcases Nat.lt_or_eq_of_le (Nat.le_of_lt_succ hi) with e | e
        · exact ih.1 (Classical.not_not.1 h1) i e
        · rw [e]; exact h
    · intro h
      have h1 := ih.2 fun i hi => h i (by omega)
      rw [if_neg (by rw [h1]; simp)]
      exact h n (by omega)
theorem fe_stop {f : Nat -> Int} {i : Nat} (h0 : fe f i = 0) (h : f i ≠ 0) : ∀ {n : Nat}, i < n -> fe f n = f i
  | 0, hn => by omega
  | n + 1, hn => by
    unfold fe
    rcases Nat.lt_or_eq_of_le (Nat.le_of_lt_succ hn) with e | e
    · have ih := fe_stop h0 h e
      rw [if_pos (by rw [ih]; exact h), ih]
    · subst e
      rw [if_neg (by rw [h0]; simp)]
def pkB (p : Pk) : Bool := (decide (0 <= p.day) && decide (p.day <= 4000)) && (decide (0 <= p.stage) && decide (p.stage <= 2000))
def errP (l : List Pk) (i : Nat) : Int := if pkB (l.getD i default) = false then 110 else if 0 < i /\ (l.getD i default).day <= (l.getD (i - 1) default).day then 9 else 0
def chkP (l : List Pk) : Int := if 40 < l.length then 3 else fe (errP l) l.length
/-- Peaks that are right. -/
structure Ok (l : List Pk) : Prop where
  few : l.length <= 40
  day : ∀ i, i < l.length -> 0 <= dayAt l i /\ dayAt l i <= 4000
  st : ∀ i, i < l.length -> 0 <= stAt l i /\ stAt l i <= 2000
  up : Up l
theorem chk_ok {l : List Pk} (h : chkP l = 0) : Ok l := by
  unfold chkP at h
  split at h
  · cases h
  · rename_i h40
    have k := fe_all.1 h
    have k1 : ∀ i, i < l.length -> pkB (l.getD i default) = true /\ (0 < i -> dayAt l (i - 1) < dayAt l i) := by
      intro i hi
      have := k i hi
      unfold errP at this
      split at this
      · cases this
      · rename_i h1
        split at this
        · cases this
        · rename_i h2
          refine ⟨by simpa using h1, fun h0 => ?_⟩
          unfold dayAt
          omega
    have k2 : ∀ i, i < l.length -> (0 <= dayAt l i /\ dayAt l i <= 4000) /\ (0 <= stAt l i /\ stAt l i <= 2000) := by
      intro i hi
      have := (k1 i hi).1
      simpa [pkB, dayAt, stAt] using this
    refine ⟨by omega, fun i hi => (k2 i hi).1, fun i hi => (k2 i hi).2, ?_⟩
    intro i j hij hj
    induction j with
    | zero => omega
    | succ j ih =>
      have h1 := (k1 (j + 1) hj).2 (by omega)
      simp only [Nat.add_sub_cancel] at h1
      rcases Nat.lt_or_eq_of_le (Nat.le_of_lt_succ hij) with e | e
      · have := ih e (by omega)
        omega
      · subst e; exact h1
def askP (l : List Pk) (A T : Int) : Int := if chkP l ≠ 0 then chkP l else if (1 <= A /\ A <= 60) /\ (0 <= T /\ T <= 2000) then 0 else 4
structure Asked (l : List Pk) (A T : Int) : Prop where
  ok : Ok l
  ap : 1 <= A /\ A <= 60
  th : 0 <= T /\ T <= 2000
end Pk
end Go.Nm
namespace Go.Proofs.Ytcgalcbkkijkhaa
open Go Go.Nm
theorem in_ends (x a b : Int) : (zab x a b).Ends (decide (a <= x) && decide (x <= b)) := M.i_pure
theorem gI2 {c : Bool} {p q : Prop} [Decidable p] [Decidable q] (h : c = true -> p /\ q) : (!c || (decide p && decide q)) = true := by
  cases c with
  | true => exact gA2 (h rfl).1 (h rfl).2
  | false => rfl
end Go.Proofs.Ytcgalcbkkijkhaa
namespace Go.Nm
namespace Pk
end Pk
end Go.Nm
namespace Go.Proofs.Ytcgalcbkkijkhaa
open Go Go.Nm
variable {l : List Pk} {A T : Int}
/-- What a peak has above the threshold. -/
def vP (l : List Pk) (T : Int) (i : Nat) : Int := Pk.stAt l i - T
end Go.Proofs.Ytcgalcbkkijkhaa
namespace Go.Nm
namespace Pk
def cA (c : List Int) (k : Nat) : Nat := Int.toNat (c.getD k 0)
/-- A choice: a strictly increasing list of peaks. -/
def Ris (n : Nat) (c : List Int) : Prop := ∀ k, k < c.length -> 0 <= c.getD k 0 /\ c.getD k 0 < n /\ (0 < k -> c.getD (k - 1) 0 < c.getD k 0)
/-- Of floods of their own, each above the threshold. -/
def Good (l : List Pk) (A T : Int) (c : List Int) : Prop := ∀ k, k < c.length -> T < stAt l (cA c k) /\ (0 < k -> A <= dayAt l (cA c k) - dayAt l (cA c (k - 1)))
def wS (l : List Pk) (T : Int) (c : List Int) : Nat -> Int
  | 0 => 0
  | k + 1 => wS l T c k + (stAt l (cA c k) - T)
theorem Ris.low {n : Nat} {c : List Int} (h : Ris n c) : ∀ k : Nat, k < c.length -> (k : Int) <= c.getD k 0
  | 0, hk => by have := (h 0 hk).1; omega
  | k + 1, hk => by
    have ih := h.low k (by omega)
    have := (h (k + 1) hk).2.2 (by omega)
    rw [Nat.add_sub_cancel] at this
    omega
theorem Ris.few {n : Nat} {c : List Int} (h : Ris n c) : c.length <= n := by
  rcases Nat.eq_zero_or_pos c.length with e | e
  · omega
  · have h1 := h.low (c.length - 1) (by omega)
    have h2 := h (c.length - 1) (by omega)
    omega
theorem Ris.mono {n : Nat} {c : List Int} (h : Ris n c) {j k : Nat} (hjk : j < k) (hk : k < c.length) : c.getD j 0 < c.getD k 0 := by
  induction k with
  | zero => omega
  | succ k ih =>
    have h1 := (h (k + 1) hk).2.2 (by omega)
    rw [Nat.add_sub_cancel] at h1
    rcases Nat.lt_or_eq_of_le (Nat.le_of_lt_succ hjk) with e | e
    · have := ih e (by omega)
      omega
    · rw [e]; exact h1
theorem Ris.at_ {n : Nat} {c : List Int} (h : Ris n c) {k : Nat} (hk : k < c.length) : cA c k < n := by
  have := h k hk
  unfold cA
  omega
/-- What is said of a worth. -/
structure WoE (l : List Pk) (A T : Int) (c : List Int) (y : Int × Int) : Prop where
  ask : askP l A T ≠ 0 -> y = (0, askP l A T)
  arg : askP l A T = 0 -> ¬ Ris l.length c -> y = (0, 2)
  bad : askP l A T = 0 -> Ris l.length c -> ¬ Good l A T c -> y = (0, 7)
  ok : askP l A T = 0 -> Ris l.length c -> Good l A T c -> y = (wS l T c c.length, 0)
theorem WoE.uniq {l : List Pk} {A T : Int} {c : List Int} {y y' : Int × Int} (h : WoE l A T c y) (h' : WoE l A T c y') : y = y' := by
  by_cases h0 : askP l A T = 0
  · by_cases h1 : Ris l.length c
    · by_cases h2 : Good l A T c
      · rw [h.ok h0 h1 h2, h'.ok h0 h1 h2]
      · rw [h.bad h0 h1 h2, h'.bad h0 h1 h2]
    · rw [h.arg h0 h1, h'.arg h0 h1]
  · rw [h.ask h0, h'.ask h0]
end Pk
end Go.Nm
namespace Go.Proofs.Ytcgalcbkkijkhaa
open Go Go.Nm
variable {l : List Pk} {A T : Int}
end Go.Proofs.Ytcgalcbkkijkhaa
namespace Go.Nm
namespace Pk
variable {l : List Pk} {A T : Int} {c : List Int}
theorem getD_app (c : List Int) (x : Int) (k : Nat) : (c ++ [x]).getD k 0 = if k < c.length then c.getD k 0 else if k = c.length then x else 0 := by
  simp only [List.getD_eq_getElem?_getD]
  by_cases h : k < c.length
  · rw [if_pos h, List.getElem?_append_left h]
  · rw [if_neg h, List.getElem?_append_right (by omega)]
    by_cases e : k = c.length
    · subst e; simp
    · rw [if_neg e, List.getElem?_eq_none (by simp; omega)]; rfl
theorem Ris.app {n : Nat} (h : Ris n c) {x : Nat} (hx : x < n) (hl : 0 < c.length -> cA c (c.length - 1) < x) : Ris n (c ++ [(x : Int)]) := by
  intro k hk
  rw [List.length_append, List.length_singleton] at hk
  rw [getD_app, getD_app]
  by_cases e : k < c.length
  · rw [if_pos e, if_pos (by omega)]
    exact h k e
  · obtain rfl : k = c.length := by omega
    rw [if_neg (by omega), if_pos rfl]
    refine ⟨by omega, by omega, fun h0 => ?_⟩
    rw [if_pos (by omega)]
    have h1 := hl h0
    have h2 := h (c.length - 1) (by omega)
    unfold cA at h1
    omega
theorem cA_app {k x : Nat} (h : k <= c.length) : cA (c ++ [(x : Int)]) k = if k < c.length then cA c k else x := by
  unfold cA
  rw [getD_app]
  by_cases e : k < c.length
  · rw [if_pos e, if_pos e]
  · rw [if_neg e, if_neg e, if_pos (by omega)]
    omega
theorem Good.app (h : Good l A T c) {x : Nat} (h1 : T < stAt l x) (h2 : 0 < c.length -> A <= dayAt l x - dayAt l (cA c (c.length - 1))) : Good l A T (c ++ [(x : Int)]) := by
  intro k hk
  rw [List.length_append, List.length_singleton] at hk
  rw [cA_app (by omega), cA_app (by omega)]
  by_cases e : k < c.length
  · rw [if_pos e, if_pos (by omega)]
    exact h k e
  · obtain rfl : k = c.length := by omega
    rw [if_neg (by omega)]
    refine ⟨h1, fun h0 => ?_⟩
    rw [if_pos (by omega)]
    exact h2 h0
end Pk
end Go.Nm
namespace Go.Proofs.Ytcgalcbkkijkhaa
open Go Go.Nm
variable {l : List Pk} {A T : Int}
/-- The greatest worth of a choice. -/
def mxP (l : List Pk) (A T : Int) : Int := Pk.Sf (Pk.kk l A) (vP l T) l.length
structure PiE (l : List Pk) (A T : Int) (y : List Int × Int × Int) : Prop where
  ask : Pk.askP l A T ≠ 0 -> y = ([], 0, Pk.askP l A T)
  ok : Pk.askP l A T = 0 -> y.2.2 = 0 /\ Pk.Ris l.length y.1 /\ Pk.Good l A T y.1 /\ Pk.wS l T y.1 y.1.length = mxP l A T /\ y.2.1 = mxP l A T
structure DuE (l : List Pk) (A T : Int) (y : List Int × Int) : Prop where
  ask : Pk.askP l A T ≠ 0 -> y = ([], Pk.askP l A T)
  ok : Pk.askP l A T = 0 -> y.2 = 0 /\ y.1.length = l.length /\ Pk.Du l.length (Pk.kk l A) (Pk.Sf (Pk.kk l A) (vP l T)) l.length (fun k => y.1.getD k 0)
end Go.Proofs.Ytcgalcbkkijkhaa
namespace Go.Proofs.Ytcgalcbkkijkhaa
open Go Go.Nm
theorem awake_ends : (zbt).Ends true := ⟨300, by kernel_rfl⟩
end Go.Proofs.Ytcgalcbkkijkhaa
namespace Go.Proofs.Ytcgalcbkkijkhaa
open Go Go.Nm
variable {l : List Pk} {A T : Int}
/-- Dues that prove something. -/
def Prv (l : List Pk) (A T : Int) (d : List Int) : Prop := ∀ i, i < l.length -> vP l T i <= Pk.sm (fun k => d.getD k 0) i (Pk.nx l A i - i)
def DuR (d : List Int) : Prop := ∀ i, i < d.length -> 0 <= d.getD i 0 /\ d.getD i 0 <= 2000
structure PrE (l : List Pk) (A T w : Int) (d : List Int) (y : Bool × Int) : Prop where
  ask : Pk.askP l A T ≠ 0 -> y = (false, Pk.askP l A T)
  len : Pk.askP l A T = 0 -> d.length ≠ l.length -> y = (false, 2)
  rng : Pk.askP l A T = 0 -> d.length = l.length -> ¬ DuR d -> y = (false, 4)
  ok : Pk.askP l A T = 0 -> d.length = l.length -> DuR d -> y.2 = 0 /\ (y.1 = true ↔ Prv l A T d /\ Pk.sm (fun k => d.getD k 0) 0 l.length <= w)
theorem PrE.uniq {w : Int} {d : List Int} {y y' : Bool × Int} (h : PrE l A T w d y) (h' : PrE l A T w d y') : y = y' := by
  by_cases h0 : Pk.askP l A T = 0
  · by_cases h1 : d.length = l.length
    · by_cases h2 : DuR d
      · obtain ⟨a1, a2⟩ := h.ok h0 h1 h2
        obtain ⟨b1, b2⟩ := h'.ok h0 h1 h2
        have e : y.1 = y'.1 := by
          cases c1 : y.1 <;> cases c2 : y'.1
          · rfl
          · rw [c1] at a2; rw [c2] at b2
            exact a2.2 (b2.1 rfl)
          · rw [c1] at a2; rw [c2] at b2
            exact (b2.2 (a2.1 rfl)).symm
          · rfl
        exact Prod.ext e (by rw [a1, b1])
      · rw [h.rng h0 h1 h2, h'.rng h0 h1 h2]
    · rw [h.len h0 h1, h'.len h0 h1]
  · rw [h.ask h0, h'.ask h0]
end Go.Proofs.Ytcgalcbkkijkhaa
namespace Go.Proofs.Ytcgalcbkkijkhaa
open Go Go.Nm
variable {l : List Pk} {A T : Int}
theorem copy_int {c : List Int} (h : c.length <= 1000000) : (za2 c).Ends c := M.i_grd (decide_eq_true (by simp only [List.length_nil]; omega)) M.i_pure
end Go.Proofs.Ytcgalcbkkijkhaa
namespace Go.Nm
namespace Bk
/-- What a recorded year says, where there is one. -/
def rec (ys : List Yr) (y : Int) : Span := match ys.find? (fun r => r.year == y) with
  | some r => ⟨r.lo, r.hi⟩
  | none => ⟨0, 2000⟩
/-- What an old note says besides. -/
def told (y : Int) (s : Span) (o : Old10) : Span := if o.src <= y /\ y <= o.dst then (if o.passed.contains y then ⟨max s.lo o.stage, s.hi⟩ else ⟨s.lo, min s.hi (o.stage - 1)⟩) else s
/-- The highest stages that a year can have: none if the least is above the greatest. -/
def kn (ys : List Yr) (os : List Old10) (y : Int) : Span := os.foldl (told y) (rec ys y)
/-- Whether a stage is one that a year can have, by what the notes say. -/
def can (ys : List Yr) (os : List Old10) (y x : Int) : Bool := (ys.all fun r => !(r.year == y && (decide (x < r.lo) || decide (x > r.hi)))) && (os.all fun o => !(decide (o.src <= y) && decide (y <= o.dst)) || (o.passed.contains y == decide (o.stage <= x)))
structure OkY (f l : Int) (ys : List Yr) : Prop where
  in_ : ∀ r ∈ ys, f <= r.year /\ r.year <= l /\ 0 <= r.lo /\ r.lo <= r.hi /\ r.hi <= 2000
  up : ys.Pairwise fun a b => a.year < b.year
structure OkO (f l : Int) (os : List Old10) : Prop where
  in_ : ∀ o ∈ os, f <= o.src /\ o.src <= o.dst /\ o.dst <= l /\ 1 <= o.stage /\ o.stage <= 2000
theorem rec_can {ys : List Yr} {f l y x : Int} (h : OkY f l ys) (h0 : 0 <= x) (h1 : x <= 2000) : (ys.all fun r => !(r.year == y && (decide (x < r.lo) || decide (x > r.hi)))) = true ↔ (rec ys y).lo <= x /\ x <= (rec ys y).hi := by
  have hu := h.up
  clear h
  unfold rec
  induction ys with
  | nil => simp; omega
  | cons r ys ih =>
    obtain ⟨h2, h3⟩ := List.pairwise_cons.1 hu
    rw [List.all_cons, List.find?_cons]
    by_cases e : r.year = y
    · subst e
      have k : (ys.all fun r' => !(r'.year == r.year && (decide (x < r'.lo) || decide (x > r'.hi)))) = true := by
        rw [List.all_eq_true]
        intro r' hr
        have := h2 r' hr
        have : (r'.year == r.year) = false := by rw [beq_eq_false_iff_ne]; omega
        rw [this]; rfl
      simp only [beq_self_eq_true, k, Bool.and_true, Bool.true_and, Bool.not_eq_true', Bool.or_eq_false_iff, decide_eq_false_iff_not]
      omega
    · have e' : (r.year == y) = false := by rw [beq_eq_false_iff_ne]; exact e
      simp only [e', Bool.false_and, Bool.not_false, Bool.true_and]
      exact ih hu.of_cons
theorem told_can (y x : Int) : ∀ (os : List Old10) (s : Span), ((s.lo <= x /\ x <= s.hi) /\ (os.all fun o => !(decide (o.src <= y) && decide (y <= o.dst)) || (o.passed.contains y == decide (o.stage <= x))) = true) ↔ (os.foldl (told y) s).lo <= x /\ x <= (os.foldl (told y) s).hi
  | [], s => by simp
  | o :: os, s => by
    rw [List.foldl_cons, ← told_can y x os (told y s o), List.all_cons, Bool.and_eq_true, ← and_assoc]
    refine and_congr_left fun _ => ?_
    unfold told
    by_cases h : o.src <= y /\ y <= o.dst
    · rw [if_pos h]
      simp only [h.1, h.2, decide_true, Bool.and_self, Bool.not_true, Bool.false_or, beq_iff_eq]
      by_cases c : o.passed.contains y = true
      · rw [if_pos c, c]
        by_cases d : o.stage <= x
        · simp only [d, decide_true, and_true]; omega
        · simp only [d, decide_false]; simp; omega
      · rw [if_neg c]
        rw [Bool.not_eq_true] at c
        rw [c]
        by_cases d : o.stage <= x
        · simp only [d, decide_true]; simp; omega
        · simp only [d, decide_false, and_true]; omega
    · rw [if_neg h]
      have : (!(decide (o.src <= y) && decide (y <= o.dst))) = true := by
        by_cases h1 : o.src <= y
        · by_cases h2 : y <= o.dst
          · exact absurd ⟨h1, h2⟩ h
          · simp [h2]
        · simp [h1]
      rw [this, Bool.true_or]
      simp
theorem can_iff {ys : List Yr} {os : List Old10} {f l y x : Int} (h : OkY f l ys) (h0 : 0 <= x) (h1 : x <= 2000) : can ys os y x = true ↔ (kn ys os y).lo <= x /\ x <= (kn ys os y).hi := by
  unfold can kn
  rw [Bool.and_eq_true, rec_can h h0 h1]
  exact told_can y x os (rec ys y)
theorem told_in {f l y : Int} {s : Span} : ∀ {os : List Old10}, (∀ o ∈ os, f <= o.src /\ o.src <= o.dst /\ o.dst <= l /\ 1 <= o.stage /\ o.stage <= 2000) -> 0 <= s.lo -> s.lo <= 2000 -> 0 <= s.hi -> s.hi <= 2000 →
    0 <= (os.foldl (told y) s).lo /\ (os.foldl (told y) s).lo <= 2000 /\ 0 <= (os.foldl (told y) s).hi /\ (os.foldl (told y) s).hi <= 2000
  | [], _, h1, h2, h3, h4 => ⟨h1, h2, h3, h4⟩
  | o :: os, h, h1, h2, h3, h4 => by
    have k := h o (by simp)
    rw [List.foldl_cons]
    have q : 0 <= (told y s o).lo /\ (told y s o).lo <= 2000 /\ 0 <= (told y s o).hi /\ (told y s o).hi <= 2000 := by
      unfold told
      split
      · split
        · dsimp only; omega
        · dsimp only; omega
      · exact ⟨h1, h2, h3, h4⟩
    exact told_in (fun o' ho => h o' (by simp [ho])) q.1 q.2.1 q.2.2.1 q.2.2.2
theorem rec_in {ys : List Yr} {f l : Int} (h : OkY f l ys) (y : Int) : 0 <= (rec ys y).lo /\ (rec ys y).lo <= 2000 /\ 0 <= (rec ys y).hi /\ (rec ys y).hi <= 2000 := by
  unfold rec
  cases e : ys.find? (fun r => r.year == y) with
  | none => dsimp only; omega
  | some r =>
    have := h.in_ r (List.mem_of_find?_eq_some e)
    dsimp only
    omega
theorem kn_in {ys : List Yr} {os : List Old10} {f l f' l' : Int} (h : OkY f l ys) (k : OkO f' l' os) (y : Int) : 0 <= (kn ys os y).lo /\ (kn ys os y).lo <= 2000 /\ 0 <= (kn ys os y).hi /\ (kn ys os y).hi <= 2000 := by
  obtain ⟨h1, h2, h3, h4⟩ := rec_in h y
  exact told_in k.in_ h1 h2 h3 h4
end Bk
end Go.Nm
namespace Go.Nm
/-- A loop that looks at one after the other, till one is not so. -/
theorem M.o_scan {ρ : Type} {body : Nat -> M (Nat ⊕ ρ)} {Q : ρ -> Prop} (n : Nat) (p : Nat -> Prop) (h : ∀ s, s < n -> (∀ k, k < s -> p k) -> (body s).Out (fun x => match x with | .inl s' => s' = s + 1 /\ p s | .inr r => Q r))
    (he : (∀ k, k < n -> p k) -> (body n).Out (fun x => match x with | .inl _ => False | .inr r => Q r)) : (M.iter body 0).Out Q := by
  refine M.o_for n (fun i (s : Nat) => s = i /\ ∀ k, k < i -> p k) ?_ ?_ ⟨rfl, fun k hk => by omega⟩
  · rintro i s hi ⟨rfl, hp⟩
    refine M.o_mono (h s hi hp) ?_
    intro x hx
    cases x with
    | inl s' =>
      refine ⟨hx.1, fun k hk => ?_⟩
      rcases Nat.lt_or_eq_of_le (Nat.le_of_lt_succ hk) with e | e
      · exact hp k e
      · subst e; exact hx.2
    | inr r => exact hx
  · rintro s ⟨rfl, hp⟩
    refine M.o_mono (he hp) ?_
    intro x hx
    cases x with
    | inl u => exact hx.elim
    | inr r => exact hx
theorem M.Out.ends {α : Type} {m : M α} {a : α} (h : m.Out (fun r => r = a)) : m.Ends a := by
  obtain ⟨r, h1, rfl⟩ := h
  exact h1
namespace Bk
def frB (f l : Int) : Bool := ((decide (0 <= f) && decide (f <= l)) && (decide (0 <= l) && decide (l <= 3000))) && decide (l - f < 1000)
def fewO (o : Old10) : Bool := decide ((o.passed.length : Int) <= 10)
def yrB (f l : Int) (r : Yr) : Bool := ((decide (f <= r.year) && decide (r.year <= l)) && (decide (0 <= r.lo) && decide (r.lo <= r.hi))) && (decide (0 <= r.hi) && decide (r.hi <= 2000))
def errY (f l : Int) (ys : List Yr) (i : Nat) : Int := if yrB f l (ys.getD i default) = false then 110 else if 0 < i /\ (ys.getD i default).year <= (ys.getD (i - 1) default).year then 9 else 0
/-- Strictly increasing, from a first to a last number. -/
def Rin (l : List Int) (a b : Int) : Prop := ∀ i, i < l.length -> (a <= l.getD i 0 /\ l.getD i 0 <= b) /\ (0 < i -> l.getD (i - 1) 0 < l.getD i 0)
instance (l : List Int) (a b : Int) : Decidable (Rin l a b) := inferInstanceAs (Decidable (∀ i, i < l.length -> _))
def oB (f l : Int) (o : Old10) : Bool := (((decide (f <= o.src) && decide (o.src <= o.dst)) && (decide (f <= o.dst) && decide (o.dst <= l))) && (decide (1 <= o.stage) && decide (o.stage <= 2000))) && decide (Rin o.passed o.src o.dst)
def chkB (ys : List Yr) (os : List Old10) (f l : Int) : Int :=
  if frB f l = false then 110 else if 60 < ys.length ∨ 8 < os.length ∨ os.all fewO = false then 3 else if Pk.fe (errY f l ys) ys.length ≠ 0 then Pk.fe (errY f l ys) ys.length else if os.all (oB f l) = false then 110 else 0
/-- Books that are right. -/
structure Ok (ys : List Yr) (os : List Old10) (f l : Int) : Prop where
  f0 : 0 <= f
  fl : f <= l
  l3 : l <= 3000
  ln : l - f < 1000
  y60 : ys.length <= 60
  o8 : os.length <= 8
  few : ∀ o ∈ os, o.passed.length <= 10
  y : OkY f l ys
  o : OkO f l os
  ris : ∀ o ∈ os, Rin o.passed o.src o.dst
theorem chk_ok {ys : List Yr} {os : List Old10} {f l : Int} (h : chkB ys os f l = 0) : Ok ys os f l := by
  unfold chkB at h
  split at h
  · cases h
  · rename_i h1
    rw [Bool.not_eq_false] at h1
    split at h
    · cases h
    · rename_i h2
      split at h
      · rename_i h3; exact absurd h h3
      · rename_i h3
        split at h
        · cases h
        · rename_i h4
          rw [Bool.not_eq_false] at h4
          have h1 : ((0 <= f /\ f <= l) /\ (0 <= l /\ l <= 3000)) /\ l - f < 1000 := by simpa [frB] using h1
          have hf : os.all fewO = true := by
            cases e : os.all fewO with
            | true => rfl
            | false => exact absurd (.inr (.inr e)) h2
          have k := Pk.fe_all.1 (Classical.not_not.1 h3)
          have k1 : ∀ i, i < ys.length -> yrB f l (ys.getD i default) = true /\ (0 < i -> (ys.getD (i - 1) default).year < (ys.getD i default).year) := by
            intro i hi
            have := k i hi
            unfold errY at this
            split at this
            · cases this
            · rename_i h1
              split at this
              · cases this
              · rename_i h2
                refine ⟨by simpa using h1, fun h0 => ?_⟩
                omega
          refine ⟨h1.1.1.1, h1.1.1.2, h1.1.2.2, h1.2, by omega, by omega, fun o ho => ?_, ⟨fun r hr => ?_, ?_⟩, ⟨fun o ho => ?_⟩, fun o ho => ?_⟩
          · have := List.all_eq_true.1 hf o ho
            unfold fewO at this
            have := of_decide_eq_true this
            omega
          · obtain ⟨i, hi, rfl⟩ := List.getElem_of_mem hr
            have := (k1 i hi).1
            rw [List.getD_eq_getElem?_getD, List.getElem?_eq_getElem hi, Option.getD_some] at this
            have : ((f <= ys[i].year /\ ys[i].year <= l) /\ (0 <= ys[i].lo /\ ys[i].lo <= ys[i].hi)) /\ (0 <= ys[i].hi /\ ys[i].hi <= 2000) := by simpa [yrB] using this
            omega
          · have hup : ∀ i j, i < j -> j < ys.length -> (ys.getD i default).year < (ys.getD j default).year := by
              intro i j hij hj
              induction j with
              | zero => omega
              | succ j ih =>
                have h1 := (k1 (j + 1) hj).2 (by omega)
                simp only [Nat.add_sub_cancel] at h1
                rcases Nat.lt_or_eq_of_le (Nat.le_of_lt_succ hij) with e | e
                · have := ih e (by omega)
                  omega
                · subst e; exact h1
            rw [List.pairwise_iff_getElem]
            intro i j hi hj hij
            have := hup i j hij hj
            rwa [List.getD_eq_getElem?_getD, List.getElem?_eq_getElem hi, Option.getD_some, List.getD_eq_getElem?_getD, List.getElem?_eq_getElem hj, Option.getD_some] at this
          · have := List.all_eq_true.1 h4 o ho
            have : (((f <= o.src /\ o.src <= o.dst) /\ (f <= o.dst /\ o.dst <= l)) /\ (1 <= o.stage /\ o.stage <= 2000)) /\ Rin o.passed o.src o.dst := by simpa [oB] using this
            omega
          · have := List.all_eq_true.1 h4 o ho
            have : (((f <= o.src /\ o.src <= o.dst) /\ (f <= o.dst /\ o.dst <= l)) /\ (1 <= o.stage /\ o.stage <= 2000)) /\ Rin o.passed o.src o.dst := by simpa [oB] using this
            exact this.2
end Bk
end Go.Nm
namespace Go.Proofs.Ytcgalcbkkijkhaa
open Go Go.Nm
theorem index_old {s : List Old10} {f : Old10 -> M Bool} {q : Old10 -> Bool} (hl : s.length <= 1000000) (h : ∀ x, x ∈ s -> (f x).Ends (q x)) : (zaU s f).Out (fun r => decide (0 <= r) = s.any q) := by
  unfold zaU
  refine M.o_bind (P := fun y => match y with | .inl i => 0 <= i /\ s.any q = true | .inr (_ : Unit) => s.any q = false) ?_ ?_
  · refine M.o_scan s.length (fun k => q (s.getD k default) = false) ?_ ?_
    · intro k hk hp
      simp only [zaC]
      have e : s.getD k default = s[k] := by rw [List.getD_eq_getElem?_getD, List.getElem?_eq_getElem hk, Option.getD_some]
      refine M.o_t (decide_eq_true (by omega)) (M.o_grdD (by omega) (M.o_bindE (h _ (by rw [e]; exact List.getElem_mem hk)) (M.o_if (fun hb => ?_) (fun hb => ?_))))
      · exact M.o_pure ⟨by omega, List.any_eq_true.2 ⟨_, by rw [e]; exact List.getElem_mem hk, hb⟩⟩
      · exact M.o_pure ⟨rfl, hb⟩
    · intro hp
      simp only [zaC]
      refine M.o_f (by simp) (M.o_pure ?_)
      rw [List.any_eq_false]
      intro x hx
      obtain ⟨i, hi, rfl⟩ := List.getElem_of_mem hx
      have := hp i hi
      rw [List.getD_eq_getElem?_getD, List.getElem?_eq_getElem hi, Option.getD_some] at this
      simp [this]
  · intro y hy
    cases y with
    | inl i => exact M.o_pure (by rw [hy.2]; exact decide_eq_true hy.1)
    | inr u => exact M.o_pure (by rw [hy]; decide)
theorem every_old {s : List Old10} {so : Old10 -> M Bool} {p : Old10 -> Bool} (hl : s.length <= 1000000) (h : ∀ x, x ∈ s -> (so x).Ends (p x)) : (zaI s so).Ends (s.all p) := by
  unfold zaI zbA
  obtain ⟨r, h1, h2⟩ := index_old (s := s) (f := fun x => zaD x so) (q := fun x => !(p x)) hl (fun x hx => by unfold zaD; exact M.i_bind (h x hx) M.i_pure)
  refine M.i_bind (M.i_bind h1 M.i_pure) ?_
  rw [h2, List.any_eq_not_all_not]
  simp only [Bool.not_not]
  exact M.i_pure
theorem rising_ends (l : List Int) (a b : Int) (hb : b <= 1000000) (ha : -1000000 <= a) : (zas l a b).Ends (decide (Bk.Rin l a b)) := by
  refine M.Out.ends ?_
  unfold zas
  refine M.o_bind (P := fun y => match y with | .inl (_ : Unit) => ¬ Bk.Rin l a b | .inr (_ : Unit) => Bk.Rin l a b) ?_ ?_
  · refine M.o_for l.length (fun i (s : Int × Nat) => s.2 = i /\ a <= s.1 /\ s.1 = (if i = 0 then a else l.getD (i - 1) 0 + 1) /\ ∀ k, k < i -> (a <= l.getD k 0 /\ l.getD k 0 <= b) /\ (0 < k -> l.getD (k - 1) 0 < l.getD k 0)) ?_ ?_ ⟨rfl, Int.le_refl _, rfl, fun k hk => by omega⟩
    · rintro i ⟨x, s⟩ hi ⟨e1, e2, e3, e4⟩
      dsimp only at e1 e2 e3
      subst e1
      simp only [zaM]
      refine M.o_t (decide_eq_true (by omega)) (M.o_grdD (by omega) (M.o_bindE (in_ends _ _ _) (M.o_if (fun hc => ?_) (fun hc => ?_))))
      · rw [Bool.not_eq_true', Bool.and_eq_false_iff, decide_eq_false_iff_not, decide_eq_false_iff_not] at hc
        refine M.o_pure fun hR => ?_
        have := hR s hi
        split at e3 <;> omega
      · rw [Bool.not_eq_false', Bool.and_eq_true, decide_eq_true_eq, decide_eq_true_eq] at hc
        refine M.o_grd (gA2 (by omega) (by omega)) (M.o_pure ⟨rfl, by dsimp only; omega, by rw [if_neg (by omega), Nat.add_sub_cancel], fun k hk => ?_⟩)
        rcases Nat.lt_or_eq_of_le (Nat.le_of_lt_succ hk) with e | e
        · exact e4 k e
        · subst e
          split at e3 <;> omega
    · rintro ⟨x, s⟩ ⟨e1, e2, e3, e4⟩
      dsimp only at e1 e2 e3
      subst e1
      simp only [zaM]
      exact M.o_f (by simp) (M.o_pure e4)
  · intro y hy
    cases y with
    | inl u => exact M.o_pure (decide_eq_false hy).symm
    | inr u => exact M.o_pure (decide_eq_true hy).symm
theorem yr_ends (ys : List Yr) (os : List Old10) (f l : Int) (r : Yr) : (za0 ys os f l r).Ends (Bk.yrB f l r) := by
  unfold za0 Bk.yrB
  generalize ha : (decide (f <= r.year) && decide (r.year <= l)) = A
  generalize hb : (decide (0 <= r.lo) && decide (r.lo <= r.hi)) = B
  generalize hc : (decide (0 <= r.hi) && decide (r.hi <= 2000)) = C
  have a1 := in_ends r.year f l
  have b1 := in_ends r.lo 0 r.hi
  have c1 := in_ends r.hi 0 2000
  rw [ha] at a1; rw [hb] at b1; rw [hc] at c1
  refine M.i_bind a1 (M.i_bind (a := A && B) (M.i_opt (fun h => by rw [h]; exact b1) (fun h => by rw [h]; rfl)) (M.i_bind (a := (A && (A && B)) && C) (M.i_opt (fun h => by rw [h]; exact c1) (fun h => by rw [h]; rfl)) ?_))
  cases A <;> cases B <;> cases C <;> exact M.i_pure
theorem old_ends {ys : List Yr} {os : List Old10} {f l : Int} (hl : l <= 3000) (hf : 0 <= f) (o : Old10) : (zaH o ys os f l).Ends (Bk.oB f l o) := by
  unfold zaH zbg Bk.oB
  generalize ha : (decide (f <= o.src) && decide (o.src <= o.dst)) = A
  generalize hb : (decide (f <= o.dst) && decide (o.dst <= l)) = B
  generalize hc : (decide (1 <= o.stage) && decide (o.stage <= 2000)) = C
  have a1 := in_ends o.src f o.dst
  have b1 := in_ends o.dst f l
  have c1 := in_ends o.stage 1 2000
  rw [ha] at a1; rw [hb] at b1; rw [hc] at c1
  have d1 : A = true -> B = true -> (zas o.passed o.src o.dst).Ends (decide (Bk.Rin o.passed o.src o.dst)) := by
    rintro rfl rfl
    rw [Bool.and_eq_true, decide_eq_true_eq, decide_eq_true_eq] at ha hb
    exact rising_ends _ _ _ (by omega) (by omega)
  generalize (decide (Bk.Rin o.passed o.src o.dst)) = E at d1
  refine M.i_bind (M.i_bind a1 (M.i_bind (a := A && B) (M.i_opt (fun h => by rw [h]; exact b1) (fun h => by rw [h]; rfl)) (M.i_bind (a := (A && (A && B)) && C) (M.i_opt (fun h => by rw [h]; exact c1) (fun h => by rw [h]; rfl)) (M.i_bind (a := (((A && (A && B)) && ((A && (A && B)) && C))) && E) (M.i_opt (fun h => ?_) (fun h => by rw [h]; rfl)) M.i_pure)))) ?_
  · rw [h]
    have : A = true /\ B = true := by cases A <;> cases B <;> simp_all
    exact d1 this.1 this.2
  · cases A <;> cases B <;> cases C <;> cases E <;> exact M.i_pure
theorem check_ends (ys : List Yr) (os : List Old10) (f l : Int) (hy : ys.length <= 1000000) (ho : os.length <= 1000000) : (zbd ys os f l).Ends (Bk.chkB ys os f l) := by
  unfold zbd Bk.chkB
  refine M.i_bind (in_ends _ _ _) (M.i_bind (a := (decide (0 <= f) && decide (f <= l)) && (decide (0 <= l) && decide (l <= 3000))) (M.i_opt (fun h => by rw [Bool.not_not] at h; rw [h]; exact in_ends _ _ _) (fun h => by rw [Bool.not_not] at h; rw [h]; rfl)) ?_)
  have e1 : ((!(decide (0 <= f) && decide (f <= l))) || !((decide (0 <= f) && decide (f <= l)) && (decide (0 <= l) && decide (l <= 3000)))) = !((decide (0 <= f) && decide (f <= l)) && (decide (0 <= l) && decide (l <= 3000))) := by
    cases (decide (0 <= f) && decide (f <= l)) <;> rfl
  rw [e1]
  refine M.i_grd (gI2 fun h => ?_) ?_
  · rw [Bool.not_not, Bool.and_eq_true, Bool.and_eq_true, Bool.and_eq_true, decide_eq_true_eq, decide_eq_true_eq, decide_eq_true_eq, decide_eq_true_eq] at h
    omega
  have e2 : ((!((decide (0 <= f) && decide (f <= l)) && (decide (0 <= l) && decide (l <= 3000)))) || decide (1000 <= l - f)) = !(Bk.frB f l) := by
    unfold Bk.frB
    rw [Bool.eq_iff_iff]
    simp only [Bool.or_eq_true, Bool.not_eq_true', Bool.and_eq_false_iff, decide_eq_true_eq, decide_eq_false_iff_not]
    omega
  rw [e2]
  refine M.i_if (fun h1 => ?_) (fun h1 => ?_)
  · rw [Bool.not_eq_true'] at h1
    rw [if_pos h1]
    exact M.i_pure
  · rw [Bool.not_eq_false'] at h1
    rw [if_neg (by rw [h1]; simp)]
    have hfl : 0 <= f /\ l <= 3000 := by
      have h1 : ((0 <= f /\ f <= l) /\ (0 <= l /\ l <= 3000)) /\ l - f < 1000 := by simpa [Bk.frB] using h1
      exact ⟨h1.1.1.1, h1.1.2.2⟩
    have few := every_old (s := os) (so := fun xqz => zbc xqz) (p := Bk.fewO) ho (fun o _ => M.i_pure)
    by_cases hm : 60 < ys.length ∨ 8 < os.length
    · have e3 : (decide (60 < (ys.length : Int)) || decide (8 < (os.length : Int))) = true := by
        rw [Bool.or_eq_true, decide_eq_true_eq, decide_eq_true_eq]; omega
      rw [e3, if_pos (hm.elim (fun h => .inl h) (fun h => .inr (.inl h)))]
      exact M.i_bind (a := false) (M.i_opt (fun h => by cases h) (fun _ => rfl)) (M.i_t rfl M.i_pure)
    · have e3 : (decide (60 < (ys.length : Int)) || decide (8 < (os.length : Int))) = false := by
        rw [Bool.or_eq_false_iff, decide_eq_false_iff_not, decide_eq_false_iff_not]; omega
      rw [e3]
      refine M.i_bind (M.i_opt (fun _ => few) (fun h => by cases h)) ?_
      cases hf : os.all Bk.fewO with
      | false =>
        rw [if_pos (.inr (.inr rfl))]
        exact M.i_t rfl M.i_pure
      | true =>
        rw [if_neg (fun h => h.elim (fun h => hm (.inl h)) (fun h => h.elim (fun h => hm (.inr h)) (fun h => by cases h)))]
        refine M.i_f rfl ?_
        have out : (M.iter (zax ys os f l) 0).Out (fun y => (match y with | .inl s => s ≠ 0 /\ s = Pk.fe (Bk.errY f l ys) ys.length | .inr (_ : Unit) => Pk.fe (Bk.errY f l ys) ys.length = 0)) := by
          refine M.o_for ys.length (fun i s => s = i /\ Pk.fe (Bk.errY f l ys) i = 0) ?_ ?_ ⟨rfl, rfl⟩
          · rintro i s hi ⟨rfl, h0⟩
            simp only [zax]
            refine M.o_t (decide_eq_true (by omega)) (M.o_grdD (by omega) (M.o_bindE (yr_ends _ _ _ _ _) (M.o_if (fun h1 => ?_) (fun h1 => ?_))))
            · have e : Bk.errY f l ys s = 110 := by unfold Bk.errY; rw [if_pos (by simpa using h1)]
              exact M.o_pure ⟨by decide, by rw [Pk.fe_stop h0 (by rw [e]; decide) hi, e]⟩
            · have h1 : Bk.yrB f l (ys.getD s default) = true := by simpa using h1
              refine M.o_grd (gI2 fun h => by have := of_decide_eq_true h; omega) (M.o_grd (gI2 fun h => by have := of_decide_eq_true h; omega) ?_)
              rw [show Int.toNat ((s : Int) - 1) = s - 1 by omega]
              refine M.o_if (fun h2 => ?_) (fun h2 => ?_)
              · rw [Bool.and_eq_true, decide_eq_true_eq, decide_eq_true_eq] at h2
                have e : Bk.errY f l ys s = 9 := by unfold Bk.errY; rw [if_neg (by rw [h1]; simp), if_pos ⟨by omega, h2.2⟩]
                exact M.o_pure ⟨by decide, by rw [Pk.fe_stop h0 (by rw [e]; decide) hi, e]⟩
              · refine M.o_pure ⟨rfl, ?_⟩
                have e : Bk.errY f l ys s = 0 := by
                  unfold Bk.errY
                  rw [if_neg (by rw [h1]; simp), if_neg]
                  intro hh
                  rw [Bool.and_eq_false_iff, decide_eq_false_iff_not, decide_eq_false_iff_not] at h2
                  omega
                show (if Pk.fe (Bk.errY f l ys) s ≠ 0 then _ else _) = _
                rw [if_neg (by rw [h0]; simp), e]
          · rintro s ⟨rfl, h0⟩
            simp only [zax]
            exact M.o_f (by simp) (M.o_pure h0)
        obtain ⟨y, g1, g2⟩ := out
        refine M.i_bind g1 ?_
        cases y with
        | inl s =>
          dsimp only at g2 ⊢
          rw [← g2.2, if_pos g2.1]; exact M.i_pure
        | inr u =>
          dsimp only at g2 ⊢
          rw [g2, if_neg (by simp)]
          refine M.i_bind (every_old ho fun o _ => old_ends hfl.2 hfl.1 o) ?_
          cases os.all (Bk.oB f l) with
          | true => exact M.i_f rfl M.i_pure
          | false => exact M.i_t rfl M.i_pure
end Go.Proofs.Ytcgalcbkkijkhaa
namespace Go.Nm
theorem lookM_map {κ ν : Type} [DecidableEq κ] (g : κ -> ν -> ν) : ∀ (m : List (κ × ν)) (k : κ), lookM (m.map fun p => (p.1, g p.1 p.2)) k = (lookM m k).map (g k)
  | [], k => rfl
  | p :: m, k => by
    rw [List.map_cons]
    unfold lookM
    by_cases h : p.1 = k
    · rw [if_pos h, if_pos h, h]; rfl
    · rw [if_neg h, if_neg h, lookM_map g m k]
namespace Bk
/-- The first year that can have none. -/
def First (ys : List Yr) (os : List Old10) (f l y : Int) : Prop := f <= y /\ y <= l /\ (kn ys os y).hi < (kn ys os y).lo /\ ∀ z, f <= z -> z < y -> (kn ys os z).lo <= (kn ys os z).hi
def Fine (ys : List Yr) (os : List Old10) (f l : Int) : Prop := ∀ z, f <= z -> z <= l -> (kn ys os z).lo <= (kn ys os z).hi
theorem First.uniq {ys : List Yr} {os : List Old10} {f l y z : Int} (h : First ys os f l y) (k : First ys os f l z) : y = z := by
  obtain ⟨h1, h2, h3, h4⟩ := h
  obtain ⟨k1, k2, k3, k4⟩ := k
  rcases Int.lt_trichotomy y z with e | e | e
  · have := k4 y h1 e; omega
  · exact e
  · have := h4 z k1 e; omega
theorem First.bad {ys : List Yr} {os : List Old10} {f l y : Int} (h : First ys os f l y) (k : Fine ys os f l) : False := by
  obtain ⟨h1, h2, h3, h4⟩ := h
  have := k y h1 h2
  omega
theorem rec_take {ys : List Yr} (hu : ys.Pairwise fun a b => a.year < b.year) {s : Nat} (hs : s < ys.length) (y : Int) : rec (ys.take (s + 1)) y = if y = (ys.getD s default).year then ⟨(ys.getD s default).lo, (ys.getD s default).hi⟩ else rec (ys.take s) y := by
  have e : ys.getD s default = ys[s] := by rw [List.getD_eq_getElem?_getD, List.getElem?_eq_getElem hs, Option.getD_some]
  rw [e]
  unfold rec
  rw [← List.take_append_getElem hs, List.find?_append]
  by_cases hy : y = ys[s].year
  · rw [if_pos hy]
    have : (ys.take s).find? (fun r => r.year == y) = none := by
      rw [List.find?_eq_none]
      intro r hr
      obtain ⟨i, hi, rfl⟩ := List.getElem_of_mem hr
      rw [List.length_take] at hi
      rw [List.getElem_take]
      have := List.pairwise_iff_getElem.1 hu i s (by omega) hs (by omega)
      rw [beq_iff_eq]
      omega
    rw [this]
    simp [hy]
  · rw [if_neg hy]
    have : (ys[s].year == y) = false := by rw [beq_eq_false_iff_ne]; exact fun h => hy h.symm
    simp only [List.find?_cons, this, List.find?_nil, Option.or_none]
end Bk
end Go.Nm
namespace Go.Proofs.Ytcgalcbkkijkhaa
open Go Go.Nm
variable {ys : List Yr} {os : List Old10} {f l : Int}
theorem index_in (s : List Int) (v : Int) : (zaY s v).Out (fun r => decide (0 <= r) = s.contains v) := by
  unfold zaY
  refine M.o_bind (P := fun y => match y with | .inl i => 0 <= i /\ s.contains v = true | .inr (_ : Unit) => s.contains v = false) ?_ ?_
  · refine M.o_scan s.length (fun k => s.getD k 0 ≠ v) ?_ ?_
    · intro k hk hp
      simp only [zaN]
      have e : s.getD k 0 = s[k] := by rw [List.getD_eq_getElem?_getD, List.getElem?_eq_getElem hk, Option.getD_some]
      refine M.o_t (decide_eq_true (by omega)) (M.o_grdD (by omega) (M.o_if (fun hb => ?_) (fun hb => ?_)))
      · refine M.o_pure ⟨by omega, ?_⟩
        rw [List.contains_iff_mem, (beq_iff_eq.1 hb), e]
        exact List.getElem_mem hk
      · exact M.o_pure ⟨rfl, fun h => (beq_eq_false_iff_ne.1 hb) h.symm⟩
    · intro hp
      simp only [zaN]
      refine M.o_f (by simp) (M.o_pure ?_)
      rw [← Bool.not_eq_true, List.contains_iff_mem]
      intro hx
      obtain ⟨i, hi, e⟩ := List.getElem_of_mem hx
      have := hp i hi
      rw [List.getD_eq_getElem?_getD, List.getElem?_eq_getElem hi, Option.getD_some] at this
      exact this e
  · intro y hy
    cases y with
    | inl i => exact M.o_pure (by rw [hy.2]; exact decide_eq_true hy.1)
    | inr u => exact M.o_pure (by rw [hy]; decide)
theorem contains_ends (s : List Int) (v : Int) : (za6 s v).Ends (s.contains v) := by
  unfold za6
  obtain ⟨r, h1, h2⟩ := index_in s v
  exact M.i_bind h1 (by rw [h2]; exact M.i_pure)
theorem told_ends (h : Bk.OkO f l os) (ky : Int) (vl : Span) : (zaO os ky vl).Ends (os.foldl (Bk.told ky) vl) := by
  refine M.Out.ends ?_
  unfold zaO
  refine M.o_bind (P := fun y => (⟨y.1, y.2⟩ : Span) = os.foldl (Bk.told ky) vl) ?_ (fun y e => M.o_pure e)
  refine M.o_for os.length (fun i (s : Nat × Int × Int) => s.1 = i /\ (⟨s.2.1, s.2.2⟩ : Span) = (os.take i).foldl (Bk.told ky) vl) ?_ ?_ ⟨rfl, rfl⟩
  · rintro i ⟨s, a, b⟩ hi ⟨e1, e2⟩
    dsimp only at e1 e2
    subst e1
    simp only [zaQ]
    have e : os.getD s default = os[s] := by rw [List.getD_eq_getElem?_getD, List.getElem?_eq_getElem hi, Option.getD_some]
    have ho := h.in_ os[s] (List.getElem_mem hi)
    have et : (os.take (s + 1)).foldl (Bk.told ky) vl = Bk.told ky ⟨a, b⟩ os[s] := by
      rw [← List.take_append_getElem hi, List.foldl_append, ← e2]; rfl
    rw [e]
    refine M.o_t (decide_eq_true (by omega)) (M.o_grdD (by omega) (M.o_bindE (in_ends _ _ _) (M.o_if (fun hb => ?_) (fun hb => ?_))))
    · rw [Bool.not_eq_true', Bool.and_eq_false_iff, decide_eq_false_iff_not, decide_eq_false_iff_not] at hb
      refine M.o_pure ⟨rfl, ?_⟩
      rw [et, Bk.told, if_neg (by omega)]
    · rw [Bool.not_eq_false', Bool.and_eq_true, decide_eq_true_eq, decide_eq_true_eq] at hb
      refine M.o_bindE (contains_ends _ _) (M.o_if (fun hc => ?_) (fun hc => ?_))
      · refine M.o_pure ⟨rfl, ?_⟩
        rw [et, Bk.told, if_pos hb, if_pos hc]
      · refine M.o_grd (gA2 (by omega) (by omega)) (M.o_pure ⟨rfl, ?_⟩)
        rw [et, Bk.told, if_pos hb, if_neg (by rw [hc]; simp)]
  · rintro ⟨s, a, b⟩ ⟨e1, e2⟩
    dsimp only at e1 e2
    subst e1
    simp only [zaQ]
    rw [List.take_length] at e2
    exact M.o_f (by simp) (M.o_pure e2)
/-- What a book at work knows of its years. -/
def Knows (ys : List Yr) (os : List Old10) (f l : Int) (m : List (Int × Span)) : Prop := ∀ y, f <= y -> y <= l -> (lookM m y).getD default = Bk.kn ys os y
theorem opened_bad (hy : ys.length <= 1000000) (ho : os.length <= 1000000) (h : Bk.chkB ys os f l ≠ 0) : (zay ys os f l).Ends (.inl (Bk.chkB ys os f l)) := by
  unfold zay
  exact M.i_bind (check_ends ys os f l hy ho) (M.i_t (bne_iff_ne.2 h) M.i_pure)
theorem opened_ok (hy : ys.length <= 1000000) (ho : os.length <= 1000000) (h0 : Bk.chkB ys os f l = 0) : ∃ m, (zay ys os f l).Ends (.inr (f, l, m, 0)) /\ Knows ys os f l m := by
  have h := Bk.chk_ok h0
  have hf0 := h.f0
  have hfl := h.fl
  have hl3 := h.l3
  obtain ⟨m1, g1, k1⟩ : (M.iter (zaA l) (([] : List (Int × Span)), f)).Out (fun m => ∀ y, f <= y -> y <= l -> lookM m y = some ⟨0, 2000⟩) := by
    refine M.o_for (Int.toNat (l + 1 - f)) (fun i (s : List (Int × Span) × Int) => s.2 = f + i /\ ∀ y, f <= y -> y < f + i -> lookM s.1 y = some ⟨0, 2000⟩) ?_ ?_ ⟨by simp, fun y h1 h2 => by simp at h2; omega⟩
    · rintro i ⟨m, y⟩ hi ⟨e1, e2⟩
      dsimp only at e1 e2
      subst e1
      simp only [zaA]
      refine M.o_t (decide_eq_true (by omega)) (M.o_grd (gA2 (by omega) (by omega)) (M.o_pure ⟨by dsimp only; omega, fun z h1 h2 => ?_⟩))
      rw [lookM_set]
      split
      · rfl
      · exact e2 z h1 (by omega)
    · rintro ⟨m, y⟩ ⟨e1, e2⟩
      dsimp only at e1 e2
      subst e1
      simp only [zaA]
      exact M.o_f (decide_eq_false (by omega)) (M.o_pure fun z h1 h2 => e2 z h1 (by omega))
  obtain ⟨m2, g2, k2⟩ : (M.iter (zar ys) (m1, 0)).Out (fun m => ∀ y, f <= y -> y <= l -> lookM m y = some (Bk.rec ys y)) := by
    refine M.o_for ys.length (fun i (s : List (Int × Span) × Nat) => s.2 = i /\ ∀ y, f <= y -> y <= l -> lookM s.1 y = some (Bk.rec (ys.take i) y)) ?_ ?_ ⟨rfl, k1⟩
    · rintro i ⟨m, s⟩ hi ⟨e1, e2⟩
      dsimp only at e1 e2
      subst e1
      simp only [zar]
      have e : ys.getD s default = ys[s] := by rw [List.getD_eq_getElem?_getD, List.getElem?_eq_getElem hi, Option.getD_some]
      have hr := h.y.in_ ys[s] (List.getElem_mem hi)
      rw [← e] at hr
      have et := Bk.rec_take h.y.up hi
      refine M.o_t (decide_eq_true (by omega)) (M.o_grdD (by omega) (M.o_if (fun hb => ?_) (fun hb => ?_)))
      · refine M.o_pure ⟨rfl, fun y h1 h2 => ?_⟩
        rw [lookM_set, et]
        split
        · rfl
        · exact e2 y h1 h2
      · rw [Bool.not_eq_false', decide_eq_true_eq] at hb
        refine M.o_pure ⟨rfl, fun y h1 h2 => ?_⟩
        rw [et]
        split
        · rename_i hy'
          have k := e2 _ hr.1 hr.2.1
          rw [k] at hb
          rw [hy', k]
          have h5 : (ys.getD s default).lo = (Bk.rec (ys.take s) (ys.getD s default).year).lo := congrArg Yr.lo hb
          have h6 : (ys.getD s default).hi = (Bk.rec (ys.take s) (ys.getD s default).year).hi := congrArg Yr.hi hb
          refine congrArg some ?_
          rw [h5, h6]
        · exact e2 y h1 h2
    · rintro ⟨m, s⟩ ⟨e1, e2⟩
      dsimp only at e1 e2
      subst e1
      simp only [zar]
      rw [List.take_length] at e2
      exact M.o_f (by simp) (M.o_pure e2)
  have g3 := M.mapL_ends (body := zaO os) (g := fun ky vl => os.foldl (Bk.told ky) vl) (m := m2) (fun p _ => told_ends h.o p.1 p.2)
  refine ⟨m2.map fun p => (p.1, os.foldl (Bk.told p.1) p.2), ?_, fun y h1 h2 => ?_⟩
  · unfold zay
    refine M.i_bind (check_ends ys os f l hy ho) ?_
    rw [h0]
    exact M.i_f rfl (M.i_bind g1 (M.i_bind g2 (M.i_bind g3 M.i_pure)))
  · have e := lookM_map (fun ky vl => os.foldl (Bk.told ky) vl) m2 y
    rw [e, k2 y h1 h2]
    rfl
/-- A round over the years of a book at work. -/
theorem years_out {S X : Type} {bd : S -> Int × Span -> M (S ⊕ X)} {Q : S ⊕ X -> Prop} {m : List (Int × Span)} {a b c d : Int} {s0 : S} (hd : d <= 3000) (ha : 0 <= a) (hab : a <= b + 1) (hb : b <= d) (hc : c <= a) (hm : Knows ys os c d m) (J : Int -> S -> Prop) (h0 : J a s0)
    (hr : ∀ y s, a <= y -> y <= b -> J y s -> (bd s (y, Bk.kn ys os y)).Out (fun x => match x with | .inl s' => J (y + 1) s' | .inr x => Q (.inr x))) (hl : ∀ s, J (b + 1) s -> Q (.inl s)) (yw : List Yr) (ow : List Old10) (cw dw : Int) :
    (zag (M.yl bd) (.inl s0) a b yw ow cw dw m).Out Q := by
  unfold zag
  refine M.o_bind (P := fun y => match y with | .inl t => Q t | .inr t => Q t) ?_ (fun y hy => by cases y with | inl t => exact M.o_pure hy | inr t => exact M.o_pure hy)
  refine M.o_for (Int.toNat (b + 1 - a)) (fun i (s : Int × (S ⊕ X)) => s.1 = a + i /\ ∃ s', s.2 = .inl s' /\ J (a + i) s') ?_ ?_ ⟨by simp, s0, rfl, by simpa using h0⟩
  · rintro i ⟨y, t⟩ hi ⟨e1, s', e2, hj⟩
    dsimp only at e1 e2
    subst e1 e2
    simp only [zaR]
    rw [hm (a + i) (by omega) (by omega)]
    refine M.o_t (decide_eq_true (by omega)) ?_
    obtain ⟨x, g1, g2⟩ := hr (a + i) s' (by omega) (by omega) hj
    cases x with
    | inl s2 =>
      refine M.o_bindE (a := (true, .inl s2)) (M.i_bind g1 M.i_pure) (M.o_f rfl (M.o_grd (gA2 (by omega) (by omega)) (M.o_pure ⟨by dsimp only; omega, s2, rfl, ?_⟩)))
      dsimp only at g2
      rw [show a + ((i + 1 : Nat) : Int) = a + i + 1 by omega]
      exact g2
    | inr x2 => exact M.o_bindE (a := (false, .inr x2)) (M.i_bind g1 M.i_pure) (M.o_t rfl (M.o_pure g2))
  · rintro ⟨y, t⟩ ⟨e1, s', e2, hj⟩
    dsimp only at e1 e2
    subst e1 e2
    simp only [zaR]
    refine M.o_f (decide_eq_false (by omega)) (M.o_pure ?_)
    refine hl s' ?_
    rwa [show a + (Int.toNat (b + 1 - a) : Int) = b + 1 by omega] at hj
theorem clash_out (h : Bk.Ok ys os f l) {m : List (Int × Span)} (hm : Knows ys os f l m) : (zaJ ys os f l m).Out (fun r => (r = (0, false) /\ Bk.Fine ys os f l) ∨ (r.2 = true /\ Bk.First ys os f l r.1)) := by
  have hf0 := h.f0
  have hfl := h.fl
  have hl3 := h.l3
  unfold zaJ zaf
  refine M.o_bindE M.i_pure (M.o_bind (P := fun x => match x with | .inl (_ : Unit) => Bk.Fine ys os f l | .inr y => Bk.First ys os f l y) ?_ ?_)
  · refine years_out hl3 hf0 (by omega) (Int.le_refl _) (Int.le_refl _) hm (fun y _ => ∀ z, f <= z -> z < y -> (Bk.kn ys os z).lo <= (Bk.kn ys os z).hi) (fun z h1 h2 => by omega) ?_ ?_ _ _ _ _
    · intro y s h1 h2 hj
      simp only [zal]
      refine M.o_if (fun hb => ?_) (fun hb => ?_)
      · exact M.o_pure ⟨h1, h2, of_decide_eq_true hb, hj⟩
      · have := of_decide_eq_false hb
        refine M.o_pure fun z h3 h4 => ?_
        by_cases e : z = y
        · subst e; omega
        · exact hj z h3 (by omega)
    · intro s hj z h1 h2
      exact hj z h1 (by omega)
  · intro y hy
    cases y with
    | inl u => exact M.o_pure (.inl ⟨rfl, hy⟩)
    | inr y => exact M.o_pure (.inr ⟨rfl, hy⟩)
end Go.Proofs.Ytcgalcbkkijkhaa
namespace Go.Nm
namespace Bk
/-- What the reference says of a year. -/
def sp (ys : List Yr) (os : List Old10) (y : Int) : Int × Int := if (kn ys os y).lo <= (kn ys os y).hi then ((kn ys os y).lo, (kn ys os y).hi) else (1, 0)
/-- The first year without a truth, or the error. -/
def ClE (ys : List Yr) (os : List Old10) (f l : Int) (r : Int × Int) : Prop := (chkB ys os f l ≠ 0 /\ r = (0, chkB ys os f l)) ∨ (chkB ys os f l = 0 /\ Fine ys os f l /\ r = (0, 5)) ∨ (chkB ys os f l = 0 /\ First ys os f l r.1 /\ r.2 = 0)
theorem ClE.uniq {ys : List Yr} {os : List Old10} {f l : Int} {r s : Int × Int} (h : ClE ys os f l r) (k : ClE ys os f l s) : r = s := by
  rcases h with ⟨h1, rfl⟩ | ⟨h1, h2, rfl⟩ | ⟨h1, h2, h3⟩
  · rcases k with ⟨k1, rfl⟩ | ⟨k1, _⟩ | ⟨k1, _⟩
    · rfl
    · exact absurd k1 h1
    · exact absurd k1 h1
  · rcases k with ⟨k1, rfl⟩ | ⟨k1, k2, rfl⟩ | ⟨k1, k2, k3⟩
    · exact absurd h1 k1
    · rfl
    · exact (k2.bad h2).elim
  · rcases k with ⟨k1, rfl⟩ | ⟨k1, k2, rfl⟩ | ⟨k1, k2, k3⟩
    · exact absurd h1 k1
    · exact (h2.bad k2).elim
    · exact Prod.ext (h2.uniq k2) (by rw [h3, k3])
/-- The highest stages of a year, or the error. -/
def HiE (ys : List Yr) (os : List Old10) (f l y : Int) (r : Int × Int × Int) : Prop := (chkB ys os f l ≠ 0 /\ r = (0, 0, chkB ys os f l)) ∨ (chkB ys os f l = 0 /\ ¬ (f <= y /\ y <= l) /\ r = (0, 0, 2)) ∨ (chkB ys os f l = 0 /\ (f <= y /\ y <= l) /\ ¬ Fine ys os f l /\ r = (0, 0, 6)) ∨
  (chkB ys os f l = 0 /\ (f <= y /\ y <= l) /\ Fine ys os f l /\ r = ((kn ys os y).lo, (kn ys os y).hi, 0))
theorem HiE.uniq {ys : List Yr} {os : List Old10} {f l y : Int} {r s : Int × Int × Int} (h : HiE ys os f l y r) (k : HiE ys os f l y s) : r = s := by
  rcases h with ⟨h1, rfl⟩ | ⟨h1, h2, rfl⟩ | ⟨h1, h2, h3, rfl⟩ | ⟨h1, h2, h3, rfl⟩ <;> rcases k with ⟨k1, rfl⟩ | ⟨k1, k2, rfl⟩ | ⟨k1, k2, k3, rfl⟩ | ⟨k1, k2, k3, rfl⟩ <;> first | rfl | contradiction
/-- A truth that can be. -/
def Can (ys : List Yr) (os : List Old10) (f : Int) (st : List Int) : Prop := ∀ i, i < st.length -> (kn ys os (f + i)).lo <= st.getD i 0 /\ st.getD i 0 <= (kn ys os (f + i)).hi
def All2 (st : List Int) : Prop := ∀ i, i < st.length -> 0 <= st.getD i 0 /\ st.getD i 0 <= 2000
def HoE (ys : List Yr) (os : List Old10) (f l : Int) (st : List Int) (r : Bool × Int) : Prop := (chkB ys os f l ≠ 0 /\ r = (false, chkB ys os f l)) ∨ (chkB ys os f l = 0 /\ (st.length : Int) ≠ l - f + 1 /\ r = (false, 2)) ∨ (chkB ys os f l = 0 /\ (st.length : Int) = l - f + 1 /\ ¬ All2 st /\ r = (false, 4)) ∨
  (chkB ys os f l = 0 /\ (st.length : Int) = l - f + 1 /\ All2 st /\ ¬ Can ys os f st /\ r = (false, 0)) ∨ (chkB ys os f l = 0 /\ (st.length : Int) = l - f + 1 /\ All2 st /\ Can ys os f st /\ r = (true, 0))
theorem HoE.uniq {ys : List Yr} {os : List Old10} {f l : Int} {st : List Int} {r s : Bool × Int} (h : HoE ys os f l st r) (k : HoE ys os f l st s) : r = s := by
  rcases h with ⟨h1, rfl⟩ | ⟨h1, h2, rfl⟩ | ⟨h1, h2, h3, rfl⟩ | ⟨h1, h2, h3, h4, rfl⟩ | ⟨h1, h2, h3, h4, rfl⟩ <;> rcases k with ⟨k1, rfl⟩ | ⟨k1, k2, rfl⟩ | ⟨k1, k2, k3, rfl⟩ | ⟨k1, k2, k3, k4, rfl⟩ | ⟨k1, k2, k3, k4, rfl⟩ <;> first | rfl | contradiction
end Bk
end Go.Nm
namespace Go.Proofs.Ytcgalcbkkijkhaa
open Go Go.Nm
variable {ys : List Yr} {os : List Old10} {f l : Int}
end Go.Proofs.Ytcgalcbkkijkhaa
namespace Go.Nm
theorem getD_app_lt {t : List Int} {x : Int} {k : Nat} (h : k < t.length) : (t ++ [x]).getD k 0 = t.getD k 0 := by
  rw [List.getD_eq_getElem?_getD, List.getElem?_append_left h, ← List.getD_eq_getElem?_getD]
theorem getD_app_eq {t : List Int} {x : Int} : (t ++ [x]).getD t.length 0 = x := by
  rw [List.getD_eq_getElem?_getD, List.getElem?_append_right (Nat.le_refl _), Nat.sub_self]; rfl
namespace Bk
theorem chk_of {ys : List Yr} {os : List Old10} {f l : Int} (h : Ok ys os f l) : chkB ys os f l = 0 := by
  have h1 := h.f0
  have h2 := h.fl
  have h3 := h.l3
  have h4 := h.ln
  have h5 := h.y60
  have h6 := h.o8
  have hfr : frB f l = true := by
    simp only [frB, Bool.and_eq_true, decide_eq_true_eq]
    omega
  have hfew : os.all fewO = true := by
    rw [List.all_eq_true]
    intro o ho
    have := h.few o ho
    exact decide_eq_true (by omega)
  have hb : os.all (oB f l) = true := by
    rw [List.all_eq_true]
    intro o ho
    have k1 := h.o.in_ o ho
    have k2 := h.ris o ho
    simp only [oB, Bool.and_eq_true, decide_eq_true_eq]
    exact ⟨⟨⟨⟨k1.1, k1.2.1⟩, by omega, k1.2.2.1⟩, k1.2.2.2.1, k1.2.2.2.2⟩, k2⟩
  have he : Pk.fe (errY f l ys) ys.length = 0 := by
    rw [Pk.fe_all]
    intro i hi
    have e : ys.getD i default = ys[i] := by rw [List.getD_eq_getElem?_getD, List.getElem?_eq_getElem hi, Option.getD_some]
    have k1 := h.y.in_ ys[i] (List.getElem_mem hi)
    unfold errY
    rw [if_neg, if_neg]
    · rintro ⟨h0, hle⟩
      have e2 : ys.getD (i - 1) default = ys[i - 1] := by rw [List.getD_eq_getElem?_getD, List.getElem?_eq_getElem (by omega), Option.getD_some]
      rw [e, e2] at hle
      have := List.pairwise_iff_getElem.1 h.y.up (i - 1) i (by omega) hi (by omega)
      omega
    · rw [e]
      have : yrB f l ys[i] = true := by
        simp only [yrB, Bool.and_eq_true, decide_eq_true_eq]
        omega
      rw [this]
      simp
  unfold chkB
  rw [if_neg (by rw [hfr]; simp), if_neg (by rw [hfew]; simp; omega), if_neg (by rw [he]; simp), if_neg (by rw [hb]; simp)]
/-- A truth of a book. -/
structure Tr (ys : List Yr) (os : List Old10) (f l : Int) (t : List Int) : Prop where
  ok : Ok ys os f l
  len : (t.length : Int) = l - f + 1
  all : All2 t
  can : Can ys os f t
theorem Tr.at_ {ys : List Yr} {os : List Old10} {f l : Int} {t : List Int} (h : Tr ys os f l t) {y : Int} (h1 : f <= y) (h2 : y <= l) : (kn ys os y).lo <= t.getD (Int.toNat (y - f)) 0 /\ t.getD (Int.toNat (y - f)) 0 <= (kn ys os y).hi := by
  have hl := h.len
  have k := h.can (Int.toNat (y - f)) (by omega)
  rwa [show f + ((Int.toNat (y - f) : Nat) : Int) = y by omega] at k
theorem Tr.fine {ys : List Yr} {os : List Old10} {f l : Int} {t : List Int} (h : Tr ys os f l t) : Fine ys os f l := fun z h1 h2 => by
  have := h.at_ h1 h2
  omega
/-- An old note that a truth bears out. -/
structure Nt (f l : Int) (t : List Int) (o : Old10) : Prop where
  a : f <= o.src
  b : o.src <= o.dst
  c : o.dst <= l
  s1 : 1 <= o.stage
  s2 : o.stage <= 2000
  few : o.passed.length <= 10
  up : o.passed.Pairwise (· < ·)
  mem : ∀ y, y ∈ o.passed ↔ (o.src <= y /\ y <= o.dst) /\ o.stage <= t.getD (Int.toNat (y - f)) 0
theorem Nt.rin {f l : Int} {t : List Int} {o : Old10} (h : Nt f l t o) : Rin o.passed o.src o.dst := by
  intro i hi
  have e : o.passed.getD i 0 = o.passed[i] := by rw [List.getD_eq_getElem?_getD, List.getElem?_eq_getElem hi, Option.getD_some]
  rw [e]
  refine ⟨((h.mem _).1 (List.getElem_mem hi)).1, fun h0 => ?_⟩
  have e2 : o.passed.getD (i - 1) 0 = o.passed[i - 1] := by rw [List.getD_eq_getElem?_getD, List.getElem?_eq_getElem (by omega), Option.getD_some]
  rw [e2]
  exact List.pairwise_iff_getElem.1 h.up (i - 1) i (by omega) hi (by omega)
/-- Recorded years that a truth bears out. -/
structure Yt (f l : Int) (t : List Int) (ys : List Yr) : Prop where
  in_ : ∀ r ∈ ys, (f <= r.year /\ r.year <= l /\ 0 <= r.lo /\ r.lo <= r.hi /\ r.hi <= 2000) /\ r.lo <= t.getD (Int.toNat (r.year - f)) 0 /\ t.getD (Int.toNat (r.year - f)) 0 <= r.hi
  up : ys.Pairwise fun a b => a.year < b.year
/-- What is borne out is a book with a truth. -/
theorem Tr.of {ys : List Yr} {os : List Old10} {f l : Int} {t : List Int} (h0 : 0 <= f) (h1 : f <= l) (h2 : l <= 3000) (h3 : l - f < 1000) (hy : ys.length <= 60) (ho : os.length <= 8) (hl : (t.length : Int) = l - f + 1) (ha : All2 t) (hY : Yt f l t ys) (hO : ∀ o ∈ os, Nt f l t o) : Tr ys os f l t := by
  have oky : OkY f l ys := ⟨fun r hr => (hY.in_ r hr).1, hY.up⟩
  refine ⟨⟨h0, h1, h2, h3, hy, ho, fun o h => (hO o h).few, oky, ⟨fun o h => ?_⟩, fun o h => (hO o h).rin⟩, hl, ha, fun i hi => ?_⟩
  · have k := hO o h
    exact ⟨k.a, k.b, k.c, k.s1, k.s2⟩
  · rw [← can_iff oky (ha i hi).1 (ha i hi).2]
    unfold Bk.can
    rw [Bool.and_eq_true, List.all_eq_true, List.all_eq_true]
    refine ⟨fun r hr => ?_, fun o hm => ?_⟩
    · have k := (hY.in_ r hr).2
      by_cases e : r.year = f + i
      · rw [e, show Int.toNat (f + (i : Int) - f) = i by omega] at k
        rw [decide_eq_false (by omega), decide_eq_false (by omega)]
        simp
      · rw [beq_eq_false_iff_ne.2 e]
        rfl
    · have k := hO o hm
      by_cases e : o.src <= f + i /\ f + i <= o.dst
      · have m := k.mem (f + i)
        rw [show Int.toNat (f + (i : Int) - f) = i by omega] at m
        rw [Bool.or_eq_true]
        right
        rw [beq_iff_eq, Bool.eq_iff_iff, List.contains_iff_mem, m, decide_eq_true_eq]
        exact ⟨fun h => h.2, fun h => ⟨e, h⟩⟩
      · rw [Bool.or_eq_true]
        left
        rw [Bool.not_eq_true', Bool.and_eq_false_iff, decide_eq_false_iff_not, decide_eq_false_iff_not]
        omega
/-- What is made. -/
structure Md (most : Int) (ys : List Yr) (os : List Old10) (f l : Int) (t : List Int) : Prop where
  f0 : 0 <= f
  f2 : f < 2000
  fl : f <= l
  near : l - f < most
  len : (t.length : Int) = l - f + 1
  t6 : ∀ i, i < t.length -> 0 <= t.getD i 0 /\ t.getD i 0 < 600
  y60 : ys.length <= 60
  o3 : os.length <= 3
  y : Yt f l t ys
  o : ∀ o ∈ os, Nt f l t o
theorem Md.tr {most : Int} {ys : List Yr} {os : List Old10} {f l : Int} {t : List Int} (h : Md most ys os f l t) (hm : most <= 1000) : Tr ys os f l t := by
  have h1 := h.f0
  have h2 := h.f2
  have h3 := h.fl
  have h4 := h.near
  have h5 := h.o3
  exact .of h1 h3 (by omega) (by omega) h.y60 (by omega) h.len (fun i hi => by have := h.t6 i hi; omega) h.y h.o
end Bk
end Go.Nm
namespace Go.Proofs.Ytcgalcbkkijkhaa
open Go Go.Nm
variable {ys : List Yr} {os : List Old10} {f l : Int} {t : List Int} {b : List UInt8}
theorem noted_years {a d s : Int} (h1 : f <= a) (h2 : a <= d) (h3 : d <= l) (hl : (t.length : Int) = l - f + 1) (hl1 : t.length <= 1000) (hf : 0 <= f /\ f <= 100000) : (M.iter (zav f t d s) (a, [])).Out (fun y => y.2.length <= 1000 /\ y.2.Pairwise (· < ·) /\ ∀ z, z ∈ y.2 ↔ (a <= z /\ z <= d) /\ s <= t.getD (Int.toNat (z - f)) 0) := by
  refine M.o_for (Int.toNat (d + 1 - a)) (fun i (x : Int × List Int) => x.1 = a + i /\ x.2.length <= i /\ x.2.Pairwise (· < ·) /\ ∀ z, z ∈ x.2 ↔ (a <= z /\ z < a + i) /\ s <= t.getD (Int.toNat (z - f)) 0) ?_ ?_ ⟨by simp, by simp, by simp, fun z => by simp; omega⟩
  · rintro i ⟨y, q⟩ hi ⟨e1, e2, e3, e4⟩
    dsimp only at e1 e2 e3 e4
    subst e1
    simp only [zav]
    refine M.o_t (decide_eq_true (by omega)) (M.o_grd (gA2 (by omega) (by omega)) (M.o_grd (gA2 (by omega) (by omega)) (M.o_if (fun hb => ?_) (fun hb => ?_))))
    · have hb := of_decide_eq_true hb
      refine M.o_grdD (by simp only [List.length_cons, List.length_nil]; omega) (M.o_grd (gA2 (by omega) (by omega)) (M.o_pure ⟨by dsimp only; omega, by dsimp only; rw [List.length_append, List.length_singleton]; omega, ?_, fun z => ?_⟩))
      · rw [List.pairwise_append]
        refine ⟨e3, by simp, fun u hu v hv => ?_⟩
        rw [List.mem_singleton] at hv
        have := ((e4 u).1 hu).1
        omega
      · dsimp only
        rw [List.mem_append, List.mem_singleton, e4]
        constructor
        · rintro (h | rfl)
          · exact ⟨by omega, h.2⟩
          · exact ⟨by omega, hb⟩
        · rintro ⟨h, h'⟩
          by_cases e : z = a + i
          · exact .inr e
          · exact .inl ⟨by omega, h'⟩
    · have hb := of_decide_eq_false hb
      refine M.o_grd (gA2 (by omega) (by omega)) (M.o_pure ⟨by dsimp only; omega, by dsimp only; omega, e3, fun z => ?_⟩)
      dsimp only
      rw [e4]
      constructor
      · rintro ⟨h, h'⟩
        exact ⟨by omega, h'⟩
      · rintro ⟨h, h'⟩
        by_cases e : z = a + i
        · subst e; exact absurd h' hb
        · exact ⟨by omega, h'⟩
  · rintro ⟨y, q⟩ ⟨e1, e2, e3, e4⟩
    dsimp only at e1 e2 e3 e4
    subst e1
    simp only [zav]
    refine M.o_f (decide_eq_false (by omega)) (M.o_pure ⟨by dsimp only; omega, e3, fun z => ?_⟩)
    dsimp only
    rw [e4]
    constructor
    · rintro ⟨h, h'⟩
      exact ⟨by omega, h'⟩
    · rintro ⟨h, h'⟩
      exact ⟨by omega, h'⟩
theorem noted_out {c u x : Int} (hk : SOk c u x) (hc : c <= 1000000) (hf : 0 <= f /\ f < 2000) (hfl : f <= l) (hln : l - f < 1000) (hl : (t.length : Int) = l - f + 1) (h6 : ∀ i, i < t.length -> 0 <= t.getD i 0 /\ t.getD i 0 < 600) :
    (za7 b u x ys os f l t).Out (fun y => Bk.Nt f l t ⟨y.1, y.2.1, y.2.2.1, y.2.2.2.1⟩ /\ SOk (c + 3) y.2.2.2.2.1 y.2.2.2.2.2) := by
  unfold za7
  refine M.o_bind (within_out hk (by omega) (by omega) (by omega) (by omega)) ?_
  rintro ⟨r2, u1, x1⟩ ⟨k1, g1, g1'⟩
  dsimp only at k1 g1 g1' ⊢
  refine M.o_bind (within_out k1 (by omega) (by omega) (by omega) (by omega)) ?_
  rintro ⟨r3, u2, x2⟩ ⟨k2, g2, g2'⟩
  dsimp only at k2 g2 g2' ⊢
  refine M.o_bind (within_out k2 (by omega) (by omega) (by omega) (by omega)) ?_
  rintro ⟨r4, u3, x3⟩ ⟨k3, g3, g3'⟩
  dsimp only at k3 g3 g3' ⊢
  refine M.o_bind (P := fun y => Bk.Nt f l t ⟨r2, r4, y.1, y.2.2⟩) ?_ ?_
  · refine M.o_iter (fun m (s : Int × Bool × List Int) => (1 <= s.1 /\ s.1 <= 2000) /\ ((s.2.1 = true /\ m = 1 + Int.toNat (2000 - s.1)) ∨ (s.2.1 = false /\ m = 0 /\ Bk.Nt f l t ⟨r2, r4, s.1, s.2.2⟩))) ?_ (1 + Int.toNat (2000 - r3)) _ ⟨⟨by omega, by omega⟩, .inl ⟨rfl, rfl⟩⟩
    rintro m ⟨s2, ag, l4⟩ ⟨⟨b1, b2⟩, hj⟩
    dsimp only at b1 b2 hj
    simp only [zba]
    rcases hj with ⟨rfl, rfl⟩ | ⟨rfl, rfl, hN⟩
    · refine M.o_t rfl (M.o_bind (noted_years (s := s2) g1 g3 g3' hl (by omega) (by omega)) ?_)
      rintro ⟨q1, q⟩ ⟨n1, n2, n3⟩
      dsimp only at n1 n2 n3 ⊢
      refine M.o_if (fun hb => ?_) (fun hb => ?_)
      · have hb := of_decide_eq_true hb
        have hs : s2 < 600 := by
          cases q with
          | nil => simp at hb
          | cons z q =>
            have h := (n3 z).1 (by simp)
            have := h6 (Int.toNat (z - f)) (by omega)
            omega
        refine M.o_grd (gA2 (by omega) (by omega)) (M.o_pure ⟨1 + Int.toNat (2000 - (s2 + 100)), by omega, ⟨by dsimp only; omega, by dsimp only; omega⟩, .inl ⟨rfl, ?_⟩⟩)
        dsimp only
        rw [show min 2000 (s2 + 100) = s2 + 100 by omega]
      · have hb := of_decide_eq_false hb
        exact M.o_pure ⟨0, by omega, ⟨b1, b2⟩, .inr ⟨rfl, rfl, ⟨g1, g3, g3', b1, b2, by dsimp only; omega, n2, n3⟩⟩⟩
    · exact M.o_f rfl (M.o_pure hN)
  · rintro ⟨s3, l5, l6⟩ hN
    exact M.o_pure ⟨hN, k3.mono (by omega)⟩
theorem made_out {c u x most : Int} (hk : SOk c u x) (hc : c <= 1000) (hm : 2 <= most /\ most <= 100) : (zaX b u x most).Out (fun y => Bk.Md most y.1 y.2.1 y.2.2.1 y.2.2.2.1 y.2.2.2.2.1 /\ SOk (c + 1000) y.2.2.2.2.2.1 y.2.2.2.2.2.2) := by
  unfold zaX
  refine M.o_bind (next_out hk (by omega) (by omega)) ?_
  rintro ⟨f, u1, x1⟩ ⟨k1, g1, _⟩
  have g1 := g1 (by omega)
  dsimp only at k1 g1 ⊢
  refine M.o_bind (next_out k1 (by omega) (by omega)) ?_
  rintro ⟨d, u2, x2⟩ ⟨k2, g2, _⟩
  have g2 := g2 (by omega)
  dsimp only at k2 g2 ⊢
  refine M.o_grd (gA2 (by omega) (by omega)) (M.o_bind (P := fun y => (y.2.2.2.2.1.length : Int) = d + 1 /\ (∀ i, i < y.2.2.2.2.1.length -> 0 <= y.2.2.2.2.1.getD i 0 /\ y.2.2.2.2.1.getD i 0 < 600) /\ y.2.2.2.2.2.length <= 60 /\ Bk.Yt f (f + d) y.2.2.2.2.1 y.2.2.2.2.2 /\ SOk (c + 2 + 4 * (d + 1)) y.1 y.2.1) ?_ ?_)
  · refine M.o_for (Int.toNat (d + 1)) (fun i (s : Int × Int × Int × List Yr × List Int) => s.2.2.1 = f + i /\ SOk (c + 2 + 4 * i) s.1 s.2.1 /\ s.2.2.2.2.length = i /\ (∀ k, k < i -> 0 <= s.2.2.2.2.getD k 0 /\ s.2.2.2.2.getD k 0 < 600) /\ s.2.2.2.1.length <= 60 /\ Bk.Yt f (f + i - 1) s.2.2.2.2 s.2.2.2.1) ?_ ?_ ⟨by simp, k2.mono (by omega), rfl, fun k hk => by omega, by simp, ⟨fun r hr => by simp at hr, .nil⟩⟩
    · rintro i ⟨s2, s3, y, q, t⟩ hi ⟨e1, e2, e3, e4, e5, e6⟩
      dsimp only at e1 e2 e3 e4 e5 e6
      subst e1
      simp only [zam]
      refine M.o_t (decide_eq_true (by omega)) (M.o_bind (next_out e2 (by omega) (by omega)) ?_)
      rintro ⟨r4, u4, x4⟩ ⟨k4, g4, _⟩
      have g4 := g4 (by omega)
      dsimp only at k4 g4 ⊢
      have ht : ∀ k, k < i + 1 -> 0 <= (t ++ [r4]).getD k 0 /\ (t ++ [r4]).getD k 0 < 600 := by
        intro k hk
        by_cases e : k < i
        · rw [getD_app_lt (by omega)]; exact e4 k e
        · obtain rfl : k = t.length := by omega
          rw [getD_app_eq]; exact g4
      have hY : Bk.Yt f (f + ((i + 1 : Nat) : Int) - 1) (t ++ [r4]) q := by
        refine ⟨fun r hr => ?_, e6.up⟩
        have h := e6.in_ r hr
        rw [getD_app_lt (by omega)]
        exact ⟨by omega, h.2⟩
      refine M.o_grdD (by simp only [List.length_cons, List.length_nil]; omega) (M.o_bind (next_out k4 (by omega) (by omega)) ?_)
      rintro ⟨r5, u5, x5⟩ ⟨k5, g5, _⟩
      dsimp only at k5 ⊢
      refine M.o_if (fun hb => ?_) (fun hb => ?_)
      · rw [Bool.and_eq_true, decide_eq_true_eq] at hb
        have hq := hb.2
        refine M.o_bind (next_out k5 (by omega) (by omega)) ?_
        rintro ⟨r6, u6, x6⟩ ⟨k6, g6, _⟩
        have g6 := g6 (by omega)
        dsimp only at k6 g6 ⊢
        refine M.o_grd (gA2 (by omega) (by omega)) (M.o_bind (next_out k6 (by omega) (by omega)) ?_)
        rintro ⟨r7, u7, x7⟩ ⟨k7, g7, _⟩
        have g7 := g7 (by omega)
        dsimp only at k7 g7 ⊢
        refine M.o_grd (gA2 (by omega) (by omega)) (M.o_grdD (by simp only [List.length_cons, List.length_nil]; omega) (M.o_grd (gA2 (by omega) (by omega)) (M.o_pure ⟨by dsimp only; omega, k7.mono (by omega), by dsimp only; rw [List.length_append, List.length_singleton, e3], ht, by dsimp only; rw [List.length_append, List.length_singleton]; omega, ⟨fun r hr => ?_, ?_⟩⟩)))
        · dsimp only at hr ⊢
          rcases List.mem_append.1 hr with hr | hr
          · exact hY.in_ r hr
          · rw [List.mem_singleton] at hr
            subst hr
            dsimp only
            rw [show Int.toNat (f + (i : Int) - f) = t.length by omega, getD_app_eq]
            omega
        · dsimp only
          rw [List.pairwise_append]
          refine ⟨e6.up, by simp, fun r hr s hs => ?_⟩
          rw [List.mem_singleton] at hs
          subst hs
          have := (e6.in_ r hr).1
          dsimp only
          omega
      · exact M.o_grd (gA2 (by omega) (by omega)) (M.o_pure ⟨by dsimp only; omega, k5.mono (by omega), by dsimp only; rw [List.length_append, List.length_singleton, e3], ht, e5, hY⟩)
    · rintro ⟨s2, s3, y, q, t⟩ ⟨e1, e2, e3, e4, e5, e6⟩
      dsimp only at e1 e2 e3 e4 e5 e6
      subst e1
      simp only [zam]
      refine M.o_f (decide_eq_false (by omega)) (M.o_pure ⟨by dsimp only; omega, fun k hk => e4 k (by dsimp only at hk; omega), e5, ?_, e2.mono (by omega)⟩)
      rwa [show f + ((Int.toNat (d + 1) : Nat) : Int) - 1 = f + d by omega] at e6
  · rintro ⟨s4, s5, l3, l4, t, q⟩ ⟨h1, h2, h3, h4, h5⟩
    dsimp only at h1 h2 h3 h4 h5 ⊢
    refine M.o_bind (next_out h5 (by omega) (by omega)) ?_
    rintro ⟨r8, u8, x8⟩ ⟨k8, g8, _⟩
    have g8 := g8 (by omega)
    dsimp only at k8 g8 ⊢
    refine M.o_bind (P := fun y => y.2.1.length <= 3 /\ (∀ o ∈ y.2.1, Bk.Nt f (f + d) t o) /\ SOk (c + 900) y.2.2.1 y.2.2.2) ?_ ?_
    · refine M.o_iter (fun m (s : Int × Int × Int × List Old10) => (m : Int) = s.2.2.1 /\ (s.2.2.2.length : Int) + s.2.2.1 <= 3 /\ (∀ o ∈ s.2.2.2, Bk.Nt f (f + d) t o) /\ SOk (c + 500 + 4 * (s.2.2.2.length : Int)) s.1 s.2.1) ?_ (Int.toNat r8) _ ⟨by dsimp only; omega, by simp; omega, fun o ho => by simp at ho, by simpa using k8.mono (by omega)⟩
      rintro m ⟨s6, s7, n, os⟩ ⟨e1, e2, e3, e4⟩
      dsimp only at e1 e2 e3 e4
      simp only [zaz]
      refine M.o_if (fun hb => ?_) (fun hb => ?_)
      · have hb := of_decide_eq_true hb
        refine M.o_bind (noted_out e4 (by omega) (by omega) (by omega) (by omega) (by omega) h2) ?_
        rintro ⟨r0, r1, r22, r32, q18, q28⟩ ⟨n1, n2⟩
        dsimp only at n1 n2 ⊢
        refine M.o_grdD (by simp only [List.length_cons, List.length_nil]; omega) (M.o_grd (gA2 (by omega) (by omega)) (M.o_pure ⟨m - 1, by omega, by dsimp only; omega, by dsimp only; rw [List.length_append, List.length_singleton]; omega, fun o ho => ?_, ?_⟩))
        · dsimp only at ho
          rcases List.mem_append.1 ho with ho | ho
          · exact e3 o ho
          · rw [List.mem_singleton] at ho
            subst ho
            exact n1
        · dsimp only
          rw [List.length_append, List.length_singleton]
          exact n2.mono (by omega)
      · have hb := of_decide_eq_false hb
        exact M.o_pure ⟨by dsimp only; omega, e3, e4.mono (by omega)⟩
    · rintro ⟨l8, os, s8, s9⟩ ⟨n1, n2, n3⟩
      dsimp only at n1 n2 n3 ⊢
      have hMd : Bk.Md most q os f (f + d) t := ⟨by omega, by omega, by omega, by omega, by omega, h2, h3, n1, h4, n2⟩
      exact M.o_pure ⟨hMd, n3.mono (by omega)⟩
end Go.Proofs.Ytcgalcbkkijkhaa
namespace Go.Proofs.Ytcgalcbkkijkhaa
open Go Go.Nm
variable {ys : List Yr} {os : List Old10} {f l : Int}
/-- A book that is not too long to be looked at. -/
structure Short (ys : List Yr) (os : List Old10) : Prop where
  y : ys.length <= 65
  o : os.length <= 10
  p : ∀ o ∈ os, o.passed.length <= 12
theorem copy_yr (h : ys.length <= 1000000) : (za1 ys).Ends ys := M.i_grd (decide_eq_true (by simp only [List.length_nil]; omega)) M.i_pure
theorem copyB_ends (h : Short ys os) : (zbo ys os f l).Ends (ys, os, f, l) := by
  have hy := h.y
  have ho := h.o
  unfold zbo
  refine M.i_bind (copy_yr (by omega)) (M.i_bind (a := (os, os)) ?_ M.i_pure)
  refine M.Out.ends ?_
  refine M.o_for os.length (fun i (s : Nat × List Old10) => s.1 = i /\ s.2 = os.take i) ?_ ?_ ⟨rfl, rfl⟩
  · rintro i ⟨s, q⟩ hi ⟨e1, e2⟩
    dsimp only at e1 e2
    subst e1
    subst e2
    simp only [zbh]
    have e : os.getD s default = os[s] := by rw [List.getD_eq_getElem?_getD, List.getElem?_eq_getElem hi, Option.getD_some]
    have hp := h.p os[s] (List.getElem_mem hi)
    rw [← e] at hp
    exact M.o_t (decide_eq_true (by omega)) (M.o_grdD (by omega) (M.o_bindE (copy_int (by omega)) (M.o_grdD (by simp [List.length_take]; omega) (M.o_pure ⟨rfl, take_succ_D os s hi default⟩))))
  · rintro ⟨s, q⟩ ⟨e1, e2⟩
    dsimp only at e1 e2
    subst e1
    simp only [zbh]
    exact M.o_f (by simp) (M.o_pure (by rw [e2, List.take_length]))
end Go.Proofs.Ytcgalcbkkijkhaa
section
set_option maxRecDepth 100000
set_option maxHeartbeats 16000000
namespace Go.Proofs.Ytcgalcbkkijkhaa
open Go Go.Nm
end Go.Proofs.Ytcgalcbkkijkhaa
end
section
set_option maxRecDepth 100000
set_option maxHeartbeats 16000000
namespace Go.Proofs.Ytcgalcbkkijkhaa
open Go Go.Nm
end Go.Proofs.Ytcgalcbkkijkhaa
end
namespace Go.Nm
namespace Bk
/-- What the years from one on can have. -/
def kl (ys : List Yr) (os : List Old10) (a : Int) (n : Nat) : List Span := (List.range n).map fun (i : Nat) => kn ys os (a + (i : Int))
theorem kl_succ (ys : List Yr) (os : List Old10) (a : Int) (n : Nat) : kl ys os a (n + 1) = kl ys os a n ++ [kn ys os (a + (n : Int))] := by
  unfold kl
  rw [List.range_succ, List.map_append]
  rfl
theorem kl_len (ys : List Yr) (os : List Old10) (a : Int) (n : Nat) : (kl ys os a n).length = n := by unfold kl; rw [List.length_map, List.length_range]
theorem kl_mem {ys : List Yr} {os : List Old10} {a : Int} {n : Nat} {s : Span} (h : s ∈ kl ys os a n) : ∃ i : Nat, i < n /\ s = kn ys os (a + (i : Int)) := by
  unfold kl at h
  obtain ⟨i, hi, rfl⟩ := List.mem_map.1 h
  exact ⟨i, List.mem_range.1 hi, rfl⟩
def In (f l fr to : Int) : Prop := f <= fr /\ fr <= to /\ to <= l
/-- The first error of a book, two years, a number, and that no truth can be. -/
def WrE (ys : List Yr) (os : List Old10) (f l fr to n a b e : Int) : Prop := (chkB ys os f l ≠ 0 /\ e = chkB ys os f l) ∨ (chkB ys os f l = 0 /\ ¬ In f l fr to /\ e = 2) ∨ (chkB ys os f l = 0 /\ In f l fr to /\ ¬ (a <= n /\ n <= b) /\ e = 4) ∨
  (chkB ys os f l = 0 /\ In f l fr to /\ (a <= n /\ n <= b) /\ ¬ Fine ys os f l /\ e = 6) ∨ (chkB ys os f l = 0 /\ In f l fr to /\ (a <= n /\ n <= b) /\ Fine ys os f l /\ e = 0)
theorem WrE.uniq {ys : List Yr} {os : List Old10} {f l fr to n a b e e' : Int} (h : WrE ys os f l fr to n a b e) (k : WrE ys os f l fr to n a b e') : e = e' := by
  rcases h with ⟨h1, rfl⟩ | ⟨h1, h2, rfl⟩ | ⟨h1, h2, h3, rfl⟩ | ⟨h1, h2, h3, h4, rfl⟩ | ⟨h1, h2, h3, h4, rfl⟩ <;> rcases k with ⟨k1, rfl⟩ | ⟨k1, k2, rfl⟩ | ⟨k1, k2, k3, rfl⟩ | ⟨k1, k2, k3, k4, rfl⟩ | ⟨k1, k2, k3, k4, rfl⟩ <;> first | rfl | contradiction
theorem WrE.ok {ys : List Yr} {os : List Old10} {f l fr to n a b : Int} (h : WrE ys os f l fr to n a b 0) : chkB ys os f l = 0 /\ In f l fr to /\ (a <= n /\ n <= b) /\ Fine ys os f l := by
  rcases h with ⟨h1, h2⟩ | ⟨h1, h2, h3⟩ | ⟨h1, h2, h3, h4⟩ | ⟨h1, h2, h3, h4, h5⟩ | ⟨h1, h2, h3, h4, h5⟩
  · exact absurd h2.symm h1
  · cases h3
  · cases h4
  · cases h5
  · exact ⟨h1, h2, h3, h4⟩
theorem WrE.last {ys : List Yr} {os : List Old10} {f l fr to n a b b' e : Int} (h : WrE ys os f l fr to n a b e) (hb : chkB ys os f l = 0 -> In f l fr to -> b = b') : WrE ys os f l fr to n a b' e := by
  rcases h with ⟨h1, h2⟩ | ⟨h1, h2, h3⟩ | ⟨h1, h2, h3, h4⟩ | ⟨h1, h2, h3, h4, h5⟩ | ⟨h1, h2, h3, h4, h5⟩
  · exact .inl ⟨h1, h2⟩
  · exact .inr (.inl ⟨h1, h2, h3⟩)
  · exact .inr (.inr (.inl ⟨h1, h2, by rw [← hb h1 h2]; exact h3, h4⟩))
  · exact .inr (.inr (.inr (.inl ⟨h1, h2, by rw [← hb h1 h2]; exact h3, h4, h5⟩)))
  · exact .inr (.inr (.inr (.inr ⟨h1, h2, by rw [← hb h1 h2]; exact h3, h4, h5⟩)))
def many (p : Span -> Bool) (ys : List Yr) (os : List Old10) (fr to : Int) : Int := ((kl ys os fr (Int.toNat (to + 1 - fr))).countP p : Nat)
def lop (x : Int) (s : Span) : Bool := decide (x <= s.lo)
def hip (x : Int) (s : Span) : Bool := decide (x <= s.hi)
def PaE (ys : List Yr) (os : List Old10) (f l fr to st : Int) (r : Int × Int × Int) : Prop := (r.2.2 ≠ 0 /\ WrE ys os f l fr to st 0 2000 r.2.2 /\ r.1 = 0 /\ r.2.1 = 0) ∨ (r.2.2 = 0 /\ WrE ys os f l fr to st 0 2000 0 /\ r.1 = many (lop st) ys os fr to /\ r.2.1 = many (hip st) ys os fr to)
theorem PaE.wr {ys : List Yr} {os : List Old10} {f l fr to st : Int} {r : Int × Int × Int} (h : PaE ys os f l fr to st r) : WrE ys os f l fr to st 0 2000 r.2.2 := by
  rcases h with ⟨h1, h2, h3⟩ | ⟨h1, h2, h3⟩
  · exact h2
  · rw [h1]; exact h2
theorem PaE.uniq {ys : List Yr} {os : List Old10} {f l fr to st : Int} {r s : Int × Int × Int} (h : PaE ys os f l fr to st r) (k : PaE ys os f l fr to st s) : r = s := by
  have e := h.wr.uniq k.wr
  obtain ⟨r1, r2, r3⟩ := r
  obtain ⟨s1, s2, s3⟩ := s
  dsimp only at e
  subst e
  rcases h with ⟨h1, h2, h3, h4⟩ | ⟨h1, h2, h3, h4⟩ <;> rcases k with ⟨k1, k2, k3, k4⟩ | ⟨k1, k2, k3, k4⟩ <;> dsimp only at h1 h3 h4 k1 k3 k4
  · rw [h3, h4, k3, k4]
  · exact absurd k1 h1
  · exact absurd h1 k1
  · rw [h3, h4, k3, k4]
/-- The highest number that so many have. -/
def Top (L : List Int) (t v : Int) : Prop := 0 <= v /\ v <= 2000 /\ t <= (L.countP (fun x => decide (v <= x)) : Nat) /\ ((L.countP (fun x => decide (v + 1 <= x)) : Nat) : Int) < t
theorem cnt_mono {L : List Int} {v w : Int} (h : v <= w) : L.countP (fun x => decide (w <= x)) <= L.countP (fun x => decide (v <= x)) := by
  refine List.countP_mono_left fun x _ hx => ?_
  have := of_decide_eq_true hx
  exact decide_eq_true (by omega)
theorem Top.uniq {L : List Int} {t v w : Int} (h : Top L t v) (k : Top L t w) : v = w := by
  obtain ⟨h1, h2, h3, h4⟩ := h
  obtain ⟨k1, k2, k3, k4⟩ := k
  rcases Int.lt_trichotomy v w with e | e | e
  · have := cnt_mono (L := L) (v := v + 1) (w := w) (by omega)
    omega
  · exact e
  · have := cnt_mono (L := L) (v := w + 1) (w := v) (by omega)
    omega
theorem top_sort {L : List Int} (hL : ∀ x ∈ L, 0 <= x /\ x <= 2000) {t : Nat} (h1 : 1 <= t) (h2 : t <= L.length) : Top L t ((isort L).getD (L.length - t) 0) := by
  have hp := isort_perm L
  have hlen : (isort L).length = L.length := hp.length_eq
  have ha := isort_asc L
  have hm : ∀ x ∈ isort L, 0 <= x /\ x <= 2000 := fun x hx => hL x (hp.mem_iff.1 hx)
  unfold Top
  rw [← hp.countP_eq, ← hp.countP_eq]
  generalize isort L = s at *
  have hk : L.length - t < s.length := by omega
  have e : s.getD (L.length - t) 0 = s[L.length - t] := by rw [List.getD_eq_getElem?_getD, List.getElem?_eq_getElem hk, Option.getD_some]
  rw [e]
  have hv := hm s[L.length - t] (List.getElem_mem hk)
  refine ⟨hv.1, hv.2, ?_, ?_⟩
  · have e1 : s.countP (fun x => decide (s[L.length - t] <= x)) = (s.take (L.length - t)).countP (fun x => decide (s[L.length - t] <= x)) + (s.drop (L.length - t)).countP (fun x => decide (s[L.length - t] <= x)) := by
      rw [← List.countP_append, List.take_append_drop]
    have e2 : (s.drop (L.length - t)).countP (fun x => decide (s[L.length - t] <= x)) = (s.drop (L.length - t)).length := by
      rw [List.countP_eq_length]
      intro x hx
      obtain ⟨i, hi, rfl⟩ := List.getElem_of_mem hx
      rw [List.length_drop] at hi
      rw [List.getElem_drop]
      refine decide_eq_true ?_
      by_cases h0 : i = 0
      · subst h0; exact Int.le_refl _
      · exact List.pairwise_iff_getElem.1 ha (L.length - t) (L.length - t + i) hk (by omega) (by omega)
    rw [List.length_drop] at e2
    omega
  · have e1 : s.countP (fun x => decide (s[L.length - t] + 1 <= x)) = (s.take (L.length - t + 1)).countP (fun x => decide (s[L.length - t] + 1 <= x)) + (s.drop (L.length - t + 1)).countP (fun x => decide (s[L.length - t] + 1 <= x)) := by
      rw [← List.countP_append, List.take_append_drop]
    have e2 : (s.take (L.length - t + 1)).countP (fun x => decide (s[L.length - t] + 1 <= x)) = 0 := by
      rw [List.countP_eq_zero]
      intro x hx
      obtain ⟨i, hi, rfl⟩ := List.getElem_of_mem hx
      rw [List.length_take] at hi
      rw [List.getElem_take, decide_eq_true_eq]
      by_cases h0 : i = L.length - t
      · subst h0; omega
      · have := List.pairwise_iff_getElem.1 ha i (L.length - t) (by omega) hk (by omega)
        omega
    have e3 := List.countP_le_length (p := fun x => decide (s[L.length - t] + 1 <= x)) (l := s.drop (L.length - t + 1))
    rw [List.length_drop] at e3
    omega
def ReE (ys : List Yr) (os : List Old10) (f l fr to t : Int) (r : Int × Int × Int) : Prop := (r.2.2 ≠ 0 /\ WrE ys os f l fr to t 1 (to - fr + 1) r.2.2 /\ r.1 = 0 /\ r.2.1 = 0) ∨
  (r.2.2 = 0 /\ WrE ys os f l fr to t 1 (to - fr + 1) 0 /\ Top ((kl ys os fr (Int.toNat (to + 1 - fr))).map Span.lo) t r.1 /\ Top ((kl ys os fr (Int.toNat (to + 1 - fr))).map Span.hi) t r.2.1)
theorem ReE.wr {ys : List Yr} {os : List Old10} {f l fr to t : Int} {r : Int × Int × Int} (h : ReE ys os f l fr to t r) : WrE ys os f l fr to t 1 (to - fr + 1) r.2.2 := by
  rcases h with ⟨h1, h2, h3⟩ | ⟨h1, h2, h3⟩
  · exact h2
  · rw [h1]; exact h2
theorem ReE.uniq {ys : List Yr} {os : List Old10} {f l fr to t : Int} {r s : Int × Int × Int} (h : ReE ys os f l fr to t r) (k : ReE ys os f l fr to t s) : r = s := by
  have e := h.wr.uniq k.wr
  obtain ⟨r1, r2, r3⟩ := r
  obtain ⟨s1, s2, s3⟩ := s
  dsimp only at e
  subst e
  rcases h with ⟨h1, h2, h3, h4⟩ | ⟨h1, h2, h3, h4⟩ <;> rcases k with ⟨k1, k2, k3, k4⟩ | ⟨k1, k2, k3, k4⟩ <;> dsimp only at h1 h3 h4 k1 k3 k4
  · rw [h3, h4, k3, k4]
  · exact absurd k1 h1
  · exact absurd h1 k1
  · rw [h3.uniq k3, h4.uniq k4]
end Bk
end Go.Nm
namespace Go.Proofs.Ytcgalcbkkijkhaa
open Go Go.Nm
variable {ys : List Yr} {os : List Old10} {f l : Int}
theorem between_out (hy : ys.length <= 1000000) (ho : os.length <= 1000000) (fr to n a b : Int) : (zaG ys os f l fr to n a b).Out (fun r => match r with | .inl e => e ≠ 0 /\ Bk.WrE ys os f l fr to n a b e | .inr (f', l', m, z) => f' = f /\ l' = l /\ z = 0 /\ Bk.WrE ys os f l fr to n a b 0 /\ Knows ys os f l m) := by
  unfold zaG
  by_cases h0 : Bk.chkB ys os f l = 0
  · have h := Bk.chk_ok h0
    obtain ⟨m, g1, hm⟩ := opened_ok hy ho h0
    refine M.o_bindE g1 (M.o_f rfl (M.o_bindE (in_ends _ _ _) (M.o_bindE (a := (decide (f <= fr) && decide (fr <= to)) && (decide (f <= to) && decide (to <= l))) (M.i_opt (fun h => by rw [Bool.not_not] at h; rw [h]; exact in_ends _ _ _) (fun h => by rw [Bool.not_not] at h; rw [h]; rfl)) (M.o_if (fun hb => ?_) (fun hb => ?_)))))
    · have hI : ¬ Bk.In f l fr to := by
        rintro ⟨i1, i2, i3⟩
        rw [decide_eq_true i1, decide_eq_true i2, decide_eq_true i3, decide_eq_true (show f <= to by omega)] at hb
        cases hb
      exact M.o_pure ⟨by decide, .inr (.inl ⟨h0, hI, rfl⟩)⟩
    · have hI : Bk.In f l fr to := by
        rw [Bool.or_eq_false_iff, Bool.not_eq_false', Bool.not_eq_false'] at hb
        have := hb.2
        rw [Bool.and_eq_true, Bool.and_eq_true, Bool.and_eq_true, decide_eq_true_eq, decide_eq_true_eq, decide_eq_true_eq, decide_eq_true_eq] at this
        exact ⟨this.1.1, this.1.2, this.2.2⟩
      refine M.o_bindE (in_ends _ _ _) (M.o_if (fun hb => ?_) (fun hb => ?_))
      · rw [Bool.not_eq_true', Bool.and_eq_false_iff, decide_eq_false_iff_not, decide_eq_false_iff_not] at hb
        exact M.o_pure ⟨by decide, .inr (.inr (.inl ⟨h0, hI, by omega, rfl⟩))⟩
      · rw [Bool.not_eq_false', Bool.and_eq_true, decide_eq_true_eq, decide_eq_true_eq] at hb
        refine M.o_bind (clash_out h hm) ?_
        rintro ⟨y', c⟩ (⟨e, hF⟩ | ⟨e, hF⟩)
        · rw [Prod.mk.injEq] at e
          obtain ⟨rfl, rfl⟩ := e
          exact M.o_f rfl (M.o_pure ⟨rfl, rfl, rfl, .inr (.inr (.inr (.inr ⟨h0, hI, hb, hF, rfl⟩))), hm⟩)
        · dsimp only at e hF
          subst e
          exact M.o_t rfl (M.o_pure ⟨by decide, .inr (.inr (.inr (.inl ⟨h0, hI, hb, fun hh => hF.bad hh, rfl⟩)))⟩)
  · exact M.o_bindE (opened_bad hy ho h0) (M.o_t (bne_iff_ne.2 h0) (M.o_pure ⟨h0, .inl ⟨h0, rfl⟩⟩))
theorem cnt_succ (p : Span -> Bool) (a : Int) (n : Nat) : ((Bk.kl ys os a (n + 1)).countP p : Int) = ((Bk.kl ys os a n).countP p : Int) + (if p (Bk.kn ys os (a + (n : Int))) = true then 1 else 0) := by
  rw [Bk.kl_succ, List.countP_append]
  simp only [List.countP_cons, List.countP_nil]
  split <;> simp
theorem cnt_le (p : Span -> Bool) (a : Int) (n : Nat) : (Bk.kl ys os a n).countP p <= n := by
  have := List.countP_le_length (p := p) (l := Bk.kl ys os a n)
  rwa [Bk.kl_len] at this
theorem of_passed (hy : ys.length <= 1000000) (ho : os.length <= 1000000) (fr to st : Int) : (zae ys os f l fr to st).Out (Bk.PaE ys os f l fr to st) := by
  unfold zae
  refine M.o_bind (between_out hy ho fr to st 0 2000) ?_
  rintro (e | ⟨f', l', m, z⟩) h
  · exact M.o_t (bne_iff_ne.2 h.1) (M.o_pure (.inl ⟨h.1, h.2, rfl, rfl⟩))
  · obtain ⟨rfl, rfl, rfl, hw, hm⟩ := h
    obtain ⟨h0, ⟨i1, i2, i3⟩, hn, hF⟩ := hw.ok
    have h := Bk.chk_ok h0
    have hf0 := h.f0
    have hl3 := h.l3
    have hln := h.ln
    unfold zaf
    refine M.o_f rfl (M.o_bindE M.i_pure (M.o_bind (P := fun x => match x with | .inl s => s = (Bk.many (Bk.lop st) ys os fr to, Bk.many (Bk.hip st) ys os fr to) | .inr (_ : Unit) => False) ?_ ?_))
    · refine years_out (s0 := ((0 : Int), (0 : Int))) hl3 (by omega) (by omega) i3 i1 hm (fun y s => ∃ n : Nat, y = fr + n /\ s = (((Bk.kl ys os fr n).countP (Bk.lop st) : Int), ((Bk.kl ys os fr n).countP (Bk.hip st) : Int))) ⟨0, by omega, rfl⟩ ?_ ?_ _ _ _ _
      · rintro y ⟨s, s2⟩ h1 h2 ⟨n, rfl, e⟩
        obtain ⟨rfl, rfl⟩ := Prod.mk.inj e
        have c1 := cnt_le (ys := ys) (os := os) (Bk.lop st) fr n
        have c2 := cnt_le (ys := ys) (os := os) (Bk.hip st) fr n
        have d1 := cnt_succ (ys := ys) (os := os) (Bk.lop st) fr n
        have d2 := cnt_succ (ys := ys) (os := os) (Bk.hip st) fr n
        simp only [zah]
        refine M.o_bindE M.i_pure (M.o_bindE M.i_pure (M.o_bindE M.i_pure (M.o_if (fun hb => ?_) (fun hb => ?_))))
        · have hb' : Bk.lop st (Bk.kn ys os (fr + (n : Int))) = true := hb
          rw [if_pos hb'] at d1
          refine M.o_grd (gA2 (by omega) (by omega)) (M.o_bindE M.i_pure (M.o_bindE M.i_pure (M.o_bindE M.i_pure (M.o_if (fun hc => ?_) (fun hc => ?_)))))
          · have hc' : Bk.hip st (Bk.kn ys os (fr + (n : Int))) = true := hc
            rw [if_pos hc'] at d2
            exact M.o_grd (gA2 (by omega) (by omega)) (M.o_pure ⟨n + 1, by omega, by rw [d1, d2]⟩)
          · have hc' : Bk.hip st (Bk.kn ys os (fr + (n : Int))) = false := hc
            rw [if_neg (by rw [hc']; simp)] at d2
            exact M.o_pure ⟨n + 1, by omega, by rw [d1, d2, Int.add_zero]⟩
        · have hb' : Bk.lop st (Bk.kn ys os (fr + (n : Int))) = false := hb
          rw [if_neg (by rw [hb']; simp)] at d1
          refine M.o_bindE M.i_pure (M.o_bindE M.i_pure (M.o_bindE M.i_pure (M.o_if (fun hc => ?_) (fun hc => ?_))))
          · have hc' : Bk.hip st (Bk.kn ys os (fr + (n : Int))) = true := hc
            rw [if_pos hc'] at d2
            exact M.o_grd (gA2 (by omega) (by omega)) (M.o_pure ⟨n + 1, by omega, by rw [d1, d2, Int.add_zero]⟩)
          · have hc' : Bk.hip st (Bk.kn ys os (fr + (n : Int))) = false := hc
            rw [if_neg (by rw [hc']; simp)] at d2
            exact M.o_pure ⟨n + 1, by omega, by rw [d1, d2, Int.add_zero, Int.add_zero]⟩
      · rintro s ⟨n, e, rfl⟩
        unfold Bk.many
        rw [show Int.toNat (to + 1 - fr) = n by omega]
    · intro x hx
      cases x with
      | inl s => subst hx; exact M.o_pure (.inr ⟨rfl, hw, rfl, rfl⟩)
      | inr u => exact hx.elim
end Go.Proofs.Ytcgalcbkkijkhaa
namespace Go.Proofs.Ytcgalcbkkijkhaa
open Go Go.Nm
variable {ys : List Yr} {os : List Old10} {f l : Int}
theorem told_list {m : List (Int × Span)} {c d fr to : Int} {bd : List Int -> Int × Span -> M (List Int ⊕ Unit)} (g : Span -> Int) (hb : ∀ q x s, q.length <= 100000 -> (bd q (x, s)).Ends (.inl (q ++ [g s]))) (hd : d <= 3000) (ha : 0 <= fr) (hab : fr <= to + 1) (hto : to <= d) (hc : c <= fr) (hm : Knows ys os c d m) (yw : List Yr) (ow : List Old10) (cw dw : Int) :
    (zag (M.yl bd) (.inl []) fr to yw ow cw dw m).Ends (.inl ((Bk.kl ys os fr (Int.toNat (to + 1 - fr))).map g)) := by
  refine M.Out.ends ?_
  refine years_out (s0 := ([] : List Int)) hd ha hab hto hc hm (fun y s => ∃ n : Nat, y = fr + n /\ s = (Bk.kl ys os fr n).map g) ⟨0, by omega, rfl⟩ ?_ ?_ _ _ _ _
  · rintro y s h1 h2 ⟨n, rfl, rfl⟩
    refine M.o_of (hb _ _ _ (by rw [List.length_map, Bk.kl_len]; omega)) ⟨n + 1, by omega, ?_⟩
    rw [Bk.kl_succ, List.map_append]
    rfl
  · rintro s ⟨n, e, rfl⟩
    rw [show Int.toNat (to + 1 - fr) = n by omega]
/-! ### Shares -/
/-! ### The highest stage that is passed so often -/
theorem wr64_id {a : Int} (h : -9223372036854775808 <= a /\ a <= 9223372036854775807) : wr64 a = a := wrap64 h
theorem reach_one (g : Span -> Int) (hg : ∀ s : Span, (0 <= s.lo /\ s.lo <= 2000 /\ 0 <= s.hi /\ s.hi <= 2000) -> 0 <= g s /\ g s <= 2000) {fr to t : Int} (h : Bk.Ok ys os f l) (hI : Bk.In f l fr to) (ht : 1 <= t /\ t <= to - fr + 1) {L : List Int} (hL : L = (Bk.kl ys os fr (Int.toNat (to + 1 - fr))).map g) :
    (M.grd (decide (L.length <= 1000000)) <| M.grd (decide ((-9223372036854775808 : Int) <= (((isort L).length : Int) - t)) && decide ((((isort L).length : Int) - t) <= (9223372036854775807 : Int))) <|
      M.grd (decide ((0 : Int) <= (((isort L).length : Int) - t)) && decide ((((isort L).length : Int) - t) < ((isort L).length : Int))) <| M.pure ((isort L).getD (Int.toNat (((isort L).length : Int) - t)) 0)).Out (Bk.Top L t) := by
  obtain ⟨i1, i2, i3⟩ := hI
  have hl3 := h.l3
  have hf0 := h.f0
  have hlen : L.length = Int.toNat (to + 1 - fr) := by rw [hL, List.length_map, Bk.kl_len]
  have hsl : (isort L).length = L.length := (isort_perm L).length_eq
  have hall : ∀ x ∈ L, 0 <= x /\ x <= 2000 := by
    intro x hx
    rw [hL] at hx
    obtain ⟨s, hs, rfl⟩ := List.mem_map.1 hx
    obtain ⟨i, hi, rfl⟩ := Bk.kl_mem hs
    exact hg _ (Bk.kn_in h.y h.o _)
  have k := Bk.top_sort hall (t := Int.toNat t) (by omega) (by omega)
  rw [hsl]
  refine M.o_grdD (by omega) (M.o_grd (gA2 (by omega) (by omega)) (M.o_grd (gA2 (by omega) (by omega)) (M.o_pure ?_)))
  rw [show Int.toNat ((L.length : Int) - t) = L.length - Int.toNat t by omega]
  rwa [show ((Int.toNat t : Nat) : Int) = t by omega] at k
theorem of_reaches (hy : ys.length <= 1000000) (ho : os.length <= 1000000) (fr to t : Int) : (zai ys os f l fr to t).Out (Bk.ReE ys os f l fr to t) := by
  unfold zai
  have hlast : Bk.chkB ys os f l = 0 -> Bk.In f l fr to -> wr64 (wr64 (to - fr) + 1) = to - fr + 1 := by
    rintro h0 ⟨i1, i2, i3⟩
    have h := Bk.chk_ok h0
    have hf0 := h.f0
    have hl3 := h.l3
    rw [wr64_id (a := to - fr) (by omega), wr64_id (by omega)]
  refine M.o_bind (between_out hy ho fr to t 1 (wr64 (wr64 (to - fr) + 1))) ?_
  rintro (e | ⟨f', l', m, z⟩) h
  · exact M.o_t (bne_iff_ne.2 h.1) (M.o_pure (.inl ⟨h.1, h.2.last hlast, rfl, rfl⟩))
  · obtain ⟨rfl, rfl, rfl, hw, hm⟩ := h
    have hw := hw.last hlast
    obtain ⟨h0, hI, hn, hF⟩ := hw.ok
    have h := Bk.chk_ok h0
    have hf0 := h.f0
    have hl3 := h.l3
    have hln := h.ln
    obtain ⟨i1, i2, i3⟩ := id hI
    have r1 : (zaE ys os f' l' m fr to t).Out (Bk.Top ((Bk.kl ys os fr (Int.toNat (to + 1 - fr))).map Span.lo) t) := by
      unfold zaE zaf
      refine M.o_bindE M.i_pure (M.o_bindE (told_list Span.lo (fun q x s hq => ?_) hl3 (by omega) (by omega) (by omega) (by omega) hm _ _ _ _) (reach_one Span.lo (fun s hs => by omega) h hI hn rfl))
      simp only [zak]
      exact M.i_bind M.i_pure (M.i_grd (decide_eq_true (by simp only [List.length_cons, List.length_nil]; omega)) M.i_pure)
    have r2 : (zaP ys os f' l' m fr to t).Out (Bk.Top ((Bk.kl ys os fr (Int.toNat (to + 1 - fr))).map Span.hi) t) := by
      unfold zaP zaf
      refine M.o_bindE M.i_pure (M.o_bindE (told_list Span.hi (fun q x s hq => ?_) hl3 (by omega) (by omega) (by omega) (by omega) hm _ _ _ _) (reach_one Span.hi (fun s hs => by omega) h hI hn rfl))
      simp only [zaj]
      exact M.i_bind M.i_pure (M.i_grd (decide_eq_true (by simp only [List.length_cons, List.length_nil]; omega)) M.i_pure)
    refine M.o_f rfl (M.o_bindE M.i_pure (M.o_bind r1 fun a ha => M.o_bindE M.i_pure (M.o_bind r2 fun b hb => M.o_pure (.inr ⟨rfl, hw, ha, hb⟩))))
end Go.Proofs.Ytcgalcbkkijkhaa
section
set_option maxRecDepth 100000
set_option maxHeartbeats 16000000
namespace Go.Proofs.Ytcgalcbkkijkhaa
open Go Go.Nm
end Go.Proofs.Ytcgalcbkkijkhaa
end
namespace Go.Nm
namespace Bk
end Bk
end Go.Nm
namespace Go.Proofs.Ytcgalcbkkijkhaa
open Go Go.Nm
variable {ys : List Yr} {os : List Old10} {f l : Int}
end Go.Proofs.Ytcgalcbkkijkhaa
namespace Go.Nm
namespace Bk
/-- What a truth has from one year on. -/
def vl (t : List Int) (f a : Int) (n : Nat) : List Int := (List.range n).map fun (i : Nat) => t.getD (Int.toNat (a + (i : Int) - f)) 0
theorem Top.le {A B : List Int} {t u v : Int} (hc : ∀ x, A.countP (fun y => decide (x <= y)) <= B.countP (fun y => decide (x <= y))) (hu : Top A t u) (hv : Top B t v) : u <= v := by
  obtain ⟨h1, h2, h3, h4⟩ := hu
  obtain ⟨k1, k2, k3, k4⟩ := hv
  refine Int.not_lt.1 fun e => ?_
  have := cnt_mono (L := B) (v := v + 1) (w := u) (by omega)
  have := hc u
  omega
/-- What is told of a book with a truth. -/
theorem Tr.wr {ys : List Yr} {os : List Old10} {f l : Int} {t : List Int} (h : Tr ys os f l t) {fr to n a b : Int} (hI : In f l fr to) (hn : a <= n /\ n <= b) : WrE ys os f l fr to n a b 0 := .inr (.inr (.inr (.inr ⟨chk_of h.ok, hI, hn, h.fine, rfl⟩)))
end Bk
end Go.Nm
namespace Go.Proofs.Ytcgalcbkkijkhaa
open Go Go.Nm
variable {ys : List Yr} {os : List Old10} {f l : Int} {t : List Int}
theorem tr_passed (h : Bk.Tr ys os f l t) {fr to st : Int} (hI : Bk.In f l fr to) (hs : 0 <= st /\ st <= 2000) : (zae ys os f l fr to st).Ends (Bk.many (Bk.lop st) ys os fr to, Bk.many (Bk.hip st) ys os fr to, 0) := by
  have h60 := h.ok.y60
  have h8 := h.ok.o8
  obtain ⟨r, g, e⟩ := of_passed (ys := ys) (os := os) (f := f) (l := l) (by omega) (by omega) fr to st
  have k : Bk.PaE ys os f l fr to st (Bk.many (Bk.lop st) ys os fr to, Bk.many (Bk.hip st) ys os fr to, 0) := .inr ⟨rfl, h.wr hI hs, rfl, rfl⟩
  rw [← e.uniq k]
  exact g
theorem tr_reaches (h : Bk.Tr ys os f l t) {fr to n : Int} (hI : Bk.In f l fr to) (hn : 1 <= n /\ n <= to - fr + 1) : ∃ u v, (zai ys os f l fr to n).Ends (u, v, 0) /\ Bk.Top ((Bk.kl ys os fr (Int.toNat (to + 1 - fr))).map Span.lo) n u /\ Bk.Top ((Bk.kl ys os fr (Int.toNat (to + 1 - fr))).map Span.hi) n v := by
  have h60 := h.ok.y60
  have h8 := h.ok.o8
  obtain ⟨⟨u, v, z⟩, g, e⟩ := of_reaches (ys := ys) (os := os) (f := f) (l := l) (by omega) (by omega) fr to n
  have hw : z = 0 := e.wr.uniq (h.wr hI hn)
  subst hw
  rcases e with ⟨h1, _⟩ | ⟨_, _, h3, h4⟩
  · exact absurd rfl h1
  · exact ⟨u, v, g, h3, h4⟩
end Go.Proofs.Ytcgalcbkkijkhaa
namespace Go.Nm
namespace Bk
/-- A recorded year, and a note, that are so many years later. -/
def laterY (d : Int) (r : Yr) : Yr := ⟨r.year + d, r.lo, r.hi⟩
def laterO (d : Int) (o : Old10) : Old10 := ⟨o.src + d, o.dst + d, o.stage, o.passed.map (· + d)⟩
theorem rec_later (d y : Int) : ∀ ys : List Yr, rec (ys.map (laterY d)) (y + d) = rec ys y
  | [] => rfl
  | r :: ys => by
    have ih := rec_later d y ys
    unfold rec at ih ⊢
    rw [List.map_cons, List.find?_cons, List.find?_cons]
    by_cases h : r.year = y
    · rw [show ((laterY d r).year == y + d) = true by rw [beq_iff_eq]; show r.year + d = y + d; omega, beq_iff_eq.2 h]
      rfl
    · rw [show ((laterY d r).year == y + d) = false by rw [beq_eq_false_iff_ne]; show ¬ r.year + d = y + d; omega, beq_eq_false_iff_ne.2 h]
      exact ih
theorem has_later (d y : Int) (l : List Int) : (l.map (· + d)).contains (y + d) = l.contains y := by
  rw [Bool.eq_iff_iff, List.contains_iff_mem, List.contains_iff_mem, List.mem_map]
  constructor
  · rintro ⟨x, hx, e⟩
    obtain rfl : x = y := by omega
    exact hx
  · intro h
    exact ⟨y, h, rfl⟩
theorem told_later (d y : Int) (s : Span) (o : Old10) : told (y + d) s (laterO d o) = told y s o := by
  unfold told
  have h1 : ((laterO d o).src <= y + d /\ y + d <= (laterO d o).dst) ↔ (o.src <= y /\ y <= o.dst) := by
    show (o.src + d <= y + d /\ y + d <= o.dst + d) ↔ _
    omega
  have h2 : (laterO d o).passed.contains (y + d) = o.passed.contains y := has_later d y o.passed
  simp only [h1, h2]
  rfl
theorem kn_later (d y : Int) (ys : List Yr) (os : List Old10) : kn (ys.map (laterY d)) (os.map (laterO d)) (y + d) = kn ys os y := by
  unfold kn
  rw [rec_later]
  induction os generalizing ys with
  | nil => rfl
  | cons o os _ =>
    rw [List.map_cons, List.foldl_cons, List.foldl_cons, told_later]
    generalize told y (rec ys y) o = s
    clear ys
    rename_i ih
    clear ih
    induction os generalizing s with
    | nil => rfl
    | cons o os ih => rw [List.map_cons, List.foldl_cons, List.foldl_cons, told_later]; exact ih _
theorem told_comm (y : Int) (s : Span) (a b : Old10) : told y (told y s a) b = told y (told y s b) a := by
  unfold told
  by_cases h1 : a.src <= y /\ y <= a.dst <;> by_cases h2 : b.src <= y /\ y <= b.dst <;> cases h3 : a.passed.contains y <;> cases h4 : b.passed.contains y <;> simp only [h1, h2, h3, h4, if_true, if_false, and_self, Bool.false_eq_true] <;> (try rfl) <;> (congr 1 <;> omega)
theorem kn_perm (ys : List Yr) {os os' : List Old10} (h : os.Perm os') (y : Int) : kn ys os y = kn ys os' y := by
  unfold kn
  generalize rec ys y = s
  induction h generalizing s with
  | nil => rfl
  | cons o _ ih => rw [List.foldl_cons, List.foldl_cons]; exact ih _
  | swap a b l => rw [List.foldl_cons, List.foldl_cons, List.foldl_cons, List.foldl_cons, told_comm]
  | trans _ _ ih1 ih2 => rw [ih1, ih2]
/-- What is told of two parts is together what is told of both. -/
theorem many_part (p : Span -> Bool) (ys : List Yr) (os : List Old10) {a m b : Int} (h1 : a <= m) (h2 : m <= b) : many p ys os a b = many p ys os a m + many p ys os (m + 1) b := by
  unfold many
  have e : Int.toNat (b + 1 - a) = Int.toNat (m + 1 - a) + Int.toNat (b + 1 - (m + 1)) := by omega
  have k : ∀ n k : Nat, kl ys os a (n + k) = kl ys os a n ++ kl ys os (a + (n : Int)) k := by
    intro n k
    induction k with
    | zero => simp [kl]
    | succ k ih =>
      rw [← Nat.add_assoc, kl_succ, ih, kl_succ, List.append_assoc]
      have : a + ((n + k : Nat) : Int) = a + (n : Int) + (k : Int) := by omega
      rw [this]
  rw [e, k, List.countP_append, show a + ((Int.toNat (m + 1 - a) : Nat) : Int) = m + 1 by omega]
  omega
end Bk
end Go.Nm
namespace Go.Nm
open Go
/-- A row of elements each of which leads to a row, all the call's own. -/
def dpL {α β : Type} [Flat α] [Flat β] (iv : β -> Value) (e1 e2 : TypeId) (v : Value) (us : List β) (T : List (List α)) : List Chunk := cOwn e1 v us :: (us.zip T).map fun p => cOwn e2 (iv p.1) p.2
def cDp {α β : Type} [Flat α] [Flat β] (iv : β -> Value) (e1 e2 : TypeId) (v : Value) (us : List β) (T : List (List α)) : Chunk := cAll (dpL iv e1 e2 v us T)
section
set_option linter.unusedSectionVars false
variable {α β : Type} [Flat α] [Flat β] [Inhabited β] {iv : β -> Value} {e1 e2 : TypeId} {v : Value} {us : List β} {T : List (List α)} {w0 w : World} {L L' R : List Chunk}
theorem St.nilDp (H : St w0 w L R) (e1 e2 : TypeId) : St w0 w (cDp (α := α) iv e1 e2 (.slice none 0 0) [] [] :: L) R :=
  H.push (.refl w) (show Sep w _ from ⟨OwnF.nil 0 e1 w, fun d hd => by simp at hd, trivial⟩) (fun b hb => by
    obtain ⟨c, hc, hd⟩ := hb
    simp only [dpL, List.zip_nil_left, List.map_nil, List.mem_singleton] at hc
    subst hc
    cases hd)
theorem dpOuter (h : (cDp iv e1 e2 v us T).ok w) : (cOwn e1 v us).ok w := (show Sep w (dpL iv e1 e2 v us T) from h).1
theorem dpGet (hl : us.length = T.length) {i : Nat} (hi : i < T.length) : (dpL iv e1 e2 v us T)[i + 1]? = some (cOwn e2 (iv (us.getD i default)) (T.getD i [])) := by
  have h1 : i < us.length := by omega
  simp only [dpL, List.getElem?_cons_succ, List.getElem?_map]
  rw [List.getElem?_zip_eq_some (z := (us.getD i default, T.getD i [])) |>.2 ⟨getD_some us h1 _, getD_some T hi _⟩]
  rfl
theorem dpRow (h : (cDp iv e1 e2 v us T).ok w) (hl : us.length = T.length) {i : Nat} (hi : i < T.length) : (cOwn e2 (iv (us.getD i default)) (T.getD i [])).ok w :=
  (show Sep w (dpL iv e1 e2 v us T) from h).get (List.mem_of_getElem? (dpGet hl hi))
theorem dpSet {i : Nat} (hl : us.length = T.length) (hi : i < T.length) (row : List α) : (dpL iv e1 e2 v us T).set (i + 1) (cOwn e2 (iv (us.getD i default)) row) = dpL iv e1 e2 v us (T.set i row) := by
  unfold dpL
  rw [List.set_cons_succ]
  congr 1
  apply List.ext_getElem?
  intro j
  rw [List.getElem?_set, List.getElem?_map]
  by_cases hj : i = j
  · subst hj
    have h1 : i < us.length := by omega
    rw [if_pos rfl, if_pos (by simp; omega), List.getElem?_map, (List.getElem?_zip_eq_some (z := (us.getD i default, row))).2 ⟨getD_some us h1 _, by simp [hi]⟩]
    rfl
  · rw [if_neg hj, List.getElem?_map]
    congr 1
    cases h1 : us[j]? with
    | none =>
      rw [List.getElem?_eq_none_iff] at h1
      rw [List.getElem?_eq_none_iff.2 (by simp; omega), List.getElem?_eq_none_iff.2 (by simp; omega)]
    | some u =>
      cases h2 : T[j]? with
      | none =>
        rw [List.getElem?_eq_none_iff] at h2
        rw [List.getElem?_eq_none_iff.2 (by simp; omega), List.getElem?_eq_none_iff.2 (by simp; omega)]
      | some r =>
        rw [(List.getElem?_zip_eq_some (z := (u, r))).2 ⟨h1, h2⟩, (List.getElem?_zip_eq_some (z := (u, r))).2 ⟨h1, by rw [List.getElem?_set_ne hj]; exact h2⟩]
variable {P : Program} {all rest : List Oper} {Q : Post} {σ : Env} {d : Nat} {ty : TypeId} {pos : String} {af : Array Edge}
/-- A store into a row. -/
theorem t_dpst {dst : Option Nat} {t k : Nat} {x y : Operand} {val : Value} (H : St w0 w L R) (hk : L[k]? = some (cDp iv e1 e2 v us T)) (hl : us.length = T.length) (hs : (P.info? t).map (·.size) = some (Elt.sz α)) {i : Nat} (hi : i < T.length) {j : Int} (h0 : 0 <= j) (h1 : j < (T.getD i []).length) (a : α)
    (hx : ev σ x = vat (iv (us.getD i default)) (Elt.sz α) j.toNat) (hy : ev σ y = val) (hv : val.cells = (Flat.enc a : List Value).toArray) {T' : List (List α)} (hT : T.set i ((T.getD i []).set j.toNat a) = T') (hL : L.set k (cDp iv e1 e2 v us T') = L')
    (kk : ∀ w', St w0 w' L' R -> SL P all Q rest (updo σ dst undef) w') : SL P all Q (⟨dst, .store t x y, ty, pos, af, none⟩ :: rest) σ w := by
  subst hT
  have hok := H.get hk
  have hrow := dpRow hok hl hi
  refine s_ost hrow hs h0 h1 a hx hy hv fun w' ho hg => kk w' ?_
  have hc := dpGet (iv := iv) (e1 := e1) (e2 := e2) (v := v) hl hi
  refine H.set (c' := cDp iv e1 e2 v us (T.set i ((T.getD i []).set j.toNat a))) hk rfl hg.keep (fun b hb hne => hg.blk b hb (fun hc' => hne ⟨_, List.mem_of_getElem? hc, hc'⟩)) (fun b hb => ?_) ?_ hL
  · rw [cDp, ← dpSet hl hi] at hb
    obtain ⟨c, hc', hd⟩ := hb
    rcases List.mem_or_eq_of_mem_set hc' with hc' | rfl
    · exact .inl ⟨c, hc', hd⟩
    · exact .inl ⟨_, List.mem_of_getElem? hc, hd⟩
  · show Sep w' (dpL iv e1 e2 v us (T.set i ((T.getD i []).set j.toNat a)))
    rw [← dpSet hl hi]
    exact Sep.set (c := cOwn e2 (iv (us.getD i default)) (T.getD i [])) (c' := cOwn e2 (iv (us.getD i default)) ((T.getD i []).set j.toNat a)) rfl hg.size (fun b hb hne => hg.blk b hb hne) (fun b hb => .inl hb) ho (i + 1) _ hok hc
/-- One row more. -/
theorem t_dpapp {t by' : Nat} {z : Value} {x y : Operand} (S : SlT P t e1 (Elt.sz β) by' z) (hb : Nat.blt 0 by' = true) {rv vy : Value} {row : List α} {sv : β} {C : Cells} (H : St w0 w (cDp iv e1 e2 v us T :: cOwn e2 rv row :: L) R) (hl : us.length = T.length) (hrv : iv sv = rv) (hx : ev σ x = v) (hy : ev σ y = vy)
    (hs : Sl C vy [sv]) (hle : C.Le w.cell?) (hn : (T.length + 1) * by' <= 140737488355328)
    (kk : ∀ v' w', St w0 w' (cDp iv e1 e2 v' (us ++ [sv]) (T ++ [row]) :: L) R -> SL P all Q rest (upd σ d v') w') :
    SL P all Q (⟨some d, .call ⟨.builtin .append, #[x, y], #[t, t]⟩, ty, pos, af, none⟩ :: rest) σ w := by
  have hok := H.get (k := 0) rfl
  refine s_app (α := β) S hx hy (dpOuter hok) hs hle (Nat.zero_le _) (by rw [hl]; exact hn) (by rw [hl]; exact len63 hb hn) fun v' w' ho hg hne => kk v' w' ?_
  have H1 : St w0 w' (cAll ((dpL iv e1 e2 v us T).set 0 (cOwn e1 v' (us ++ [sv]))) :: cOwn e2 rv row :: L) R := by
    refine H.set (k := 0) (c := cDp iv e1 e2 v us T) rfl rfl hg.keep (fun b hb hne' => hg.blk b hb (fun hc => hne' ⟨cOwn e1 v us, by simp [dpL], hc⟩)) (fun b hb => ?_) ?_ rfl
    · obtain ⟨c, hc, hd⟩ := hb
      simp only [dpL, List.set_cons_zero, List.mem_cons] at hc
      rcases hc with rfl | hc
      · by_cases h : b < w.heap.size
        · by_cases h2 : v.ownBlock = some b
          · exact .inl ⟨cOwn e1 v us, by simp [dpL], h2⟩
          · exact absurd hd (hne b h h2)
        · exact .inr (by omega)
      · exact .inl ⟨c, by simp only [dpL, List.mem_cons]; exact .inr hc, hd⟩
    · exact Sep.set (c := cOwn e1 v us) (c' := cOwn e1 v' (us ++ [sv])) rfl hg.size (fun b hb hne' => hg.blk b hb hne') (fun b hb => by
        by_cases h : b < w.heap.size
        · by_cases h2 : v.ownBlock = some b
          · exact .inl h2
          · exact absurd hb (hne b h h2)
        · exact .inr (by omega)) ho 0 _ hok rfl
  have H2 := St.merge rfl H1
  have e : (dpL iv e1 e2 v us T).set 0 (cOwn e1 v' (us ++ [sv])) ++ [cOwn e2 rv row] = dpL iv e1 e2 v' (us ++ [sv]) (T ++ [row]) := by
    simp only [dpL, List.set_cons_zero, List.cons_append]
    congr 1
    rw [List.zip_append (by omega)]
    simp [hrv]
  rw [e] at H2
  exact H2
/-- The inner rows. -/
def dpIn {α β : Type} [Flat α] [Flat β] (iv : β -> Value) (e2 : TypeId) (us : List β) (T : List (List α)) : List Chunk := (us.zip T).map fun p => cOwn e2 (iv p.1) p.2
theorem dpIn_same {us' : List β} (h : us.map iv = us'.map iv) : dpIn iv e2 us T = dpIn iv e2 us' T := by
  have k : ∀ (l : List β), dpIn iv e2 l T = ((l.map iv).zip T).map fun p => cOwn e2 p.1 p.2 := fun l => by
    unfold dpIn
    rw [List.zip_map_left, List.map_map]
    rfl
  rw [k, k, h]
end
end Go.Nm
