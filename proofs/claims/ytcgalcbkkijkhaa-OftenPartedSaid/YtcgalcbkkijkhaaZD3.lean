/- Part 3 of the texts on which the proof rests. Conditions: none. -/
import Derived.Test.YtcgalcbkkijkhaaZD2
set_option linter.unusedVariables false
set_option linter.unusedSimpArgs false
set_option linter.unusedSectionVars false
section
set_option maxRecDepth 100000
set_option maxHeartbeats 16000000
namespace Go.Proofs.Ytcgalcbkkijkhaa
open Go Go.Nm
def zaC (s : List Old10) (f : Old10 -> M Bool) : Nat -> M (Nat ⊕ (Int ⊕ Unit)) := fun s2 =>
  bif decide ((s2 : Int) < (s.length : Int)) then (
  M.grd (decide ((s2 : Int) < (s.length : Int))) <|
  M.bind (f (s.getD s2 default)) fun r2 =>
  bif r2 then (
  M.pure (.inr (.inl (s2 : Int))))
  else (
  M.pure (.inl (s2 + 1))))
  else (
  M.pure (.inr (.inr ())))
def zaU (s : List Old10) (f : Old10 -> M Bool) : M Int :=
  M.bind (M.iter (zaC s f) 0) fun x_ => match x_ with
  | (.inl s3) => (
  M.pure s3)
  | (.inr (_ : Unit)) => (
  M.pure (-1))
theorem zcn {R : List Chunk} {C_s : Cells} {v_s : Value} {v_f : Value} (s : List Old10) (f : Old10 -> M Bool) (hC_s : Reads R C_s) (hs_s : Sl C_s v_s s) (hf_f : FnM Try.prog R v_f f) {r : Int} (hM : (zaU s f).Ends r) (w : World) (H : St w w [] R) : Ret Try.prog 114 #[v_s, v_f] w fun v w' => ∃ (y0 : Int), y0 = r /\ v = I y0 /\ St w w' [] R := by
 refine ret_of_W Try.func114 rfl rfl rfl ?_
 refine W.seq ?_
 refine W.region rfl ?_
 refine s_val (x_as (v := I 0) rfl) ?_
 refine s_nil ?_
 refine W.seq ?_
 refine W.seq ?_
 refine W.region rfl ?_
 refine s_val (x_mv (v := v_s) rfl) ?_
 have hl1z := (hs_s).len_le
 refine s_val (x_lenS T24.und rfl hs_s) ?_
 refine s_val (x_mv (v := I 0) rfl) ?_
 refine s_nil ?_
 refine W.block ?_
 obtain ⟨ex2z, hi3z, hk4z⟩ := M.e_bind hM
 obtain ⟨m0_, hi3z⟩ := M.e_iter hi3z
 refine W.loop (fun m σ W => ∃ (s2 : Nat) (ρ : Env), σ = upds ρ [(0, v_s), (1, v_f), (7, I (s.length : Int)), (8, I (s2 : Int))] /\ M.iterN (zaC s f) m s2 = some ex2z /\ St w W [] R) ?_ ?_
 ·exact ⟨_, 0, _, upds_of _ _ ⟨rfl, rfl, rfl, rfl, trivial⟩, hi3z, H⟩
 rintro m7z σ w5z ⟨s2, ρ, rfl, hI6z, H⟩
 obtain ⟨m8z, lt9z, x10z, hM, hN11z⟩ := M.e_iterN hI6z
 simp only [zaC] at hM
 clear hI6z
 refine W.seq ?_
 refine W.region rfl ?_
 refine s_val (x_cmp (kd := .i64) (a := (s2 : Int)) (b := (s.length : Int)) (r := decide ((s2 : Int) < (s.length : Int))) rfl rfl rfl) ?_
 refine s_nil ?_
 refine W.seq ?_
 refine W.cond (decide ((s2 : Int) < (s.length : Int))) rfl (fun c12z => ?_) (fun c12z => ?_)
 ·replace hM := M.e_t hM c12z
  simp only [decide_eq_true_eq, decide_eq_false_iff_not, beq_iff_eq, bne_iff_ne, beq_eq_false_iff_ne, bne_eq_false_iff_eq, ne_eq, Decidable.not_not] at c12z
  refine W.skip ?_
  refine W.seq ?_
  refine W.block ?_
  refine W.seq ?_
  refine W.region rfl ?_
  refine s_val (x_mv (v := I (s2 : Int)) rfl) ?_
  refine s_val (x_as (v := I (s2 : Int)) rfl) ?_
  refine s_nil ?_
  refine W.seq ?_
  refine W.region rfl ?_
  refine s_val (x_mv (v := v_f) rfl) ?_
  refine s_val (x_mv (v := v_s) rfl) ?_
  refine s_val (x_mv (v := I (s2 : Int)) rfl) ?_
  obtain ⟨sd13z, hM⟩ := M.e_grd hM
  simp only [Bool.and_eq_true, decide_eq_true_eq] at sd13z
  refine s_val (x_ix (a := v_s) (b := I (s2 : Int)) (v := vat v_s 4 (Int.toNat (s2 : Int))) rfl rfl (Sl.ix (α := Old10) T24.und T24.size hs_s (by omega) (by omega))) ?_
  obtain ⟨u14z, ha16z, hs15z⟩ := Old10_atA hs_s (i := (s2 : Int)) (by omega) (by omega)
  replace hs15z : Sl _ u14z (s.getD s2 default).passed := hs15z
  have hl_hs15z := hs15z.len_le
  refine s_val (x_ld (p := vat v_s 4 (Int.toNat (s2 : Int))) (v := .agg #[I ((s.getD s2 default).src), I ((s.getD s2 default).dst), I ((s.getD s2 default).stage), u14z]) rfl (ld_ag Ag43 Sz43 (At.mono ha16z (hC_s.at H)))) ?_
  obtain ⟨r2, hx18z, hM⟩ := M.e_bind hM
  refine t_callM H hf_f rfl rfl (s.getD s2 default) (hC_s.app _) ⟨_, Old10_mk hs15z, rfl⟩ hx18z ?_
  intro w17z H
  refine s_nil ?_
  refine W.cond r2 rfl (fun c19z => ?_) (fun c19z => ?_)
  ·replace hM := M.e_t hM c19z
   refine W.seq ?_
   refine W.region rfl ?_
   refine s_val (x_mv (v := I (s2 : Int)) rfl) ?_
   refine s_val (x_as (v := I (s2 : Int)) rfl) ?_
   refine s_nil ?_
   refine W.ret ?_
   have hX20z := M.e_inr hM hN11z
   subst hX20z
   replace hM := hk4z
   try dsimp only at hM
   have hr_ := M.e_pure hM
   exact ⟨_, resE_tmp rfl, ⟨(s2 : Int), hr_, rfl, H⟩⟩
  replace hM := M.e_f hM c19z
  refine W.skip ?_
  refine W.region rfl ?_
  refine s_val (x_ari (a := (s2 : Int)) (b := 1) (r := (s2 : Int) + 1) rfl rfl rfl (by omega)) ?_
  refine s_val (x_mv (v := I ((s2 : Int) + 1)) rfl) ?_
  refine s_nil ?_
  exact ⟨m8z, lt9z, s2 + 1, _, upds_of _ _ ⟨rfl, rfl, rfl, rfl, trivial⟩, M.e_inl hM hN11z, H⟩
 replace hM := M.e_f hM c12z
 simp only [decide_eq_true_eq, decide_eq_false_iff_not, beq_iff_eq, bne_iff_ne, beq_eq_false_iff_ne, bne_eq_false_iff_eq, ne_eq, Decidable.not_not] at c12z
 refine W.exit ?_
 have hX21z := M.e_inr hM hN11z
 subst hX21z
 replace hM := hk4z
 try dsimp only at hM
 refine W.seq ?_
 refine W.region rfl ?_
 refine s_val (x_as (v := I (-1)) rfl) ?_
 refine s_nil ?_
 refine W.ret ?_
 have hr_ := M.e_pure hM
 exact ⟨_, resE_tmp rfl, ⟨(-1), hr_, rfl, H⟩⟩

def zbA (s : List Old10) (f : Old10 -> M Bool) : M Bool :=
  M.bind (zaU s f) fun r2 =>
  M.pure (decide (0 <= r2))
theorem zck {R : List Chunk} {C_s : Cells} {v_s : Value} {v_f : Value} (s : List Old10) (f : Old10 -> M Bool) (hC_s : Reads R C_s) (hs_s : Sl C_s v_s s) (hf_f : FnM Try.prog R v_f f) {r : Bool} (hM : (zbA s f).Ends r) (w : World) (H : St w w [] R) : Ret Try.prog 99 #[v_s, v_f] w fun v w' => ∃ (y0 : Bool), y0 = r /\ v = B y0 /\ St w w' [] R := by
 refine ret_of_W Try.func99 rfl rfl rfl ?_
 refine W.seq ?_
 refine W.region rfl ?_
 refine s_val (x_as (v := B false) rfl) ?_
 refine s_nil ?_
 refine W.seq ?_
 refine W.region rfl ?_
 refine s_val (x_mv (v := v_s) rfl) ?_
 refine s_val (x_mv (v := v_f) rfl) ?_
 obtain ⟨r2z, hx1z, hM⟩ := M.e_bind hM
 refine s_call cf114 [v_s, v_f] rfl (zcn s f (hC_s.app _) hs_s (hf_f.app _) hx1z _ (St.give (T := []) H rfl)) ?_
 rintro vq w3z ⟨r2, hr4z, hvq, H2_⟩
 subst hr4z
 subst vq
 try dsimp only at hM
 replace H : St w w3z [] R := H.back H2_ rfl
 clear H2_
 refine s_val (x_cmp (kd := .i64) (a := r2) (b := 0) (r := decide (0 <= r2)) rfl rfl rfl) ?_
 refine s_val (x_as (v := B (decide (0 <= r2))) rfl) ?_
 refine s_nil ?_
 refine W.ret ?_
 have hr_ := M.e_pure hM
 exact ⟨_, resE_tmp rfl, ⟨(decide (0 <= r2)), hr_, rfl, H⟩⟩

def zaD (x : Old10) (k02 : Old10 -> M Bool) : M Bool :=
  M.bind (k02 x) fun r2 =>
  M.pure (!r2)
theorem zcB {R : List Chunk} {C_x_passed : Cells} {v_x_passed : Value} {b_k0 : Nat} {v_k02 : Value} (x : Old10) (k02 : Old10 -> M Bool) (hC_x_passed : Reads R C_x_passed) (hs_x_passed : Sl C_x_passed v_x_passed x.passed) (hf_k02 : FnM Try.prog R v_k02 k02) (h_b_k0 : Has R (cBlk b_k0 [v_k02] 147)) {r : Bool} (hM : (zaD x k02).Ends r) (w : World) (H : St w w [] R) : Ret Try.prog 100 #[.agg #[I x.src, I x.dst, I x.stage, v_x_passed], .pointer (some ⟨b_k0, 0, none⟩)] w fun v w' => ∃ (y0 : Bool), y0 = r /\ v = B y0 /\ St w w' [] R := by
 refine ret_of_W Try.func100 rfl rfl rfl ?_
 refine W.seq ?_
 refine W.region rfl ?_
 refine t_box (v := .agg #[I x.src, I x.dst, I x.stage, v_x_passed]) (cs := [I x.src, I x.dst, I x.stage, v_x_passed]) H rfl rfl ?_
 intro b_1 w1z H
 refine s_val (x_as (v := B false) rfl) ?_
 refine s_nil ?_
 refine W.seq ?_
 refine W.region rfl ?_
 refine s_val (x_ld (p := .pointer (some ⟨b_k0, 0, none⟩)) (v := v_k02) rfl (ldb_sc Sc147 (h_b_k0.blk H) rfl)) ?_
 refine s_val (x_ld (p := .pointer (some ⟨b_1, 0, none⟩)) (v := .agg #[I x.src, I x.dst, I x.stage, v_x_passed]) rfl (ldb_ag (ds := [I x.src, I x.dst, I x.stage, v_x_passed]) Ag43 Sz43 (H.blk (k := 0) rfl) rfl rfl)) ?_
 obtain ⟨r2, hx3z, hM⟩ := M.e_bind hM
 refine t_callM H hf_k02 rfl rfl x (hC_x_passed.app _) ⟨_, Old10_mk hs_x_passed, rfl⟩ hx3z ?_
 intro w2z H
 refine s_val (x_not (b := r2) rfl) ?_
 refine s_val (x_as (v := B (!r2)) rfl) ?_
 refine s_nil ?_
 refine W.ret ?_
 have hr_ := M.e_pure hM
 exact ⟨_, resE_tmp rfl, ⟨(!r2), hr_, rfl, (H.pick [] (by decide) rfl)⟩⟩

def zaI (l : List Old10) (so : Old10 -> M Bool) : M Bool :=
  M.bind (zbA l (fun xqz => zaD xqz so)) fun r2 =>
  M.pure (!r2)
theorem zbW {R : List Chunk} {C_l : Cells} {v_l : Value} {v_so : Value} (l : List Old10) (so : Old10 -> M Bool) (hC_l : Reads R C_l) (hs_l : Sl C_l v_l l) (hf_so : FnM Try.prog R v_so so) {r : Bool} (hM : (zaI l so).Ends r) (w : World) (H : St w w [] R) : Ret Try.prog 87 #[v_l, v_so] w fun v w' => ∃ (y0 : Bool), y0 = r /\ v = B y0 /\ St w w' [] R := by
 refine ret_of_W Try.func87 rfl rfl rfl ?_
 refine W.seq ?_
 refine W.region rfl ?_
 refine t_box (v := v_so) (cs := [v_so]) H rfl (FnM.cells hf_so) ?_
 intro b_1 w1z H
 refine s_val (x_as (v := B false) rfl) ?_
 refine s_nil ?_
 refine W.seq ?_
 refine W.region rfl ?_
 refine s_val (x_mv (v := v_l) rfl) ?_
 refine s_val (x_mf (fs := []) (cs := [.pointer (some ⟨b_1, 0, none⟩)]) rfl rfl) ?_
 obtain ⟨r3z, hx2z, hM⟩ := M.e_bind hM
 refine s_call cf99 [v_l, .func (.func 100) #[] #[.pointer (some ⟨b_1, 0, none⟩)]] rfl (zck l (fun xqz => zaD xqz so) (hC_l.app _) hs_l ⟨100, [.pointer (some ⟨b_1, 0, none⟩)], rfl, cf100, fun wqz Lqz Cqz vqz xqz bqz hsqz hCqz hAqz hpqz => by obtain ⟨sv_, rfl, hs_x⟩ := Old10_arg hAqz; exact (zcB xqz so hCqz hs_x (FnM.app (hf_so.app _) _) (Has.app (Has.here (k := 0) rfl) _) hpqz wqz (St.refl hsqz)).mono fun vqz wqz ⟨yqz, hrqz, hvqz, Hqz⟩ => by subst hrqz; exact ⟨hvqz, Hqz⟩⟩ hx2z _ (St.give (T := [cBlk b_1 [v_so] 147]) H rfl)) ?_
 rintro vq w4z ⟨r2, hr5z, hvq, H2_⟩
 subst hr5z
 subst vq
 try dsimp only at hM
 replace H : St w w4z [cBlk b_1 [v_so] 147] R := H.back H2_ rfl
 clear H2_
 refine s_val (x_not (b := r2) rfl) ?_
 refine s_val (x_as (v := B (!r2)) rfl) ?_
 refine s_nil ?_
 refine W.ret ?_
 have hr_ := M.e_pure hM
 exact ⟨_, resE_tmp rfl, ⟨(!r2), hr_, rfl, (H.pick [] (by decide) rfl)⟩⟩

def zbc (o : Old10) : M Bool :=
  M.pure (decide ((o.passed.length : Int) <= 10))
theorem zci {R : List Chunk} {C_o_passed : Cells} {v_o_passed : Value} (o : Old10) (hC_o_passed : Reads R C_o_passed) (hs_o_passed : Sl C_o_passed v_o_passed o.passed) {r : Bool} (hM : (zbc o).Ends r) (w : World) (H : St w w [] R) : Ret Try.prog 86 #[.agg #[I o.src, I o.dst, I o.stage, v_o_passed]] w fun v w' => ∃ (y0 : Bool), y0 = r /\ v = B y0 /\ St w w' [] R := by
 refine ret_of_W Try.func86 rfl rfl rfl ?_
 refine W.seq ?_
 refine W.region rfl ?_
 refine t_box (v := .agg #[I o.src, I o.dst, I o.stage, v_o_passed]) (cs := [I o.src, I o.dst, I o.stage, v_o_passed]) H rfl rfl ?_
 intro b_1 w1z H
 refine s_val (x_as (v := B false) rfl) ?_
 refine s_nil ?_
 refine W.seq ?_
 refine W.region rfl ?_
 refine s_val (x_fa (a := .pointer (some ⟨b_1, 0, none⟩)) (v := .pointer (some ⟨b_1, 3, none⟩)) rfl (fa_blk (o := 0) Fd43_3 Sz27)) ?_
 refine s_val (x_ld (p := .pointer (some ⟨b_1, 3, none⟩)) (v := v_o_passed) rfl (ldb_sc Sc27 (H.blk (k := 0) rfl) rfl)) ?_
 have hl2z := (hs_o_passed).len_le
 refine s_val (x_lenS T27.und rfl hs_o_passed) ?_
 refine s_val (x_cmp (kd := .i64) (a := (o.passed.length : Int)) (b := 10) (r := decide ((o.passed.length : Int) <= 10)) rfl rfl rfl) ?_
 refine s_val (x_as (v := B (decide ((o.passed.length : Int) <= 10))) rfl) ?_
 refine s_nil ?_
 refine W.ret ?_
 have hr_ := M.e_pure hM
 exact ⟨_, resE_tmp rfl, ⟨(decide ((o.passed.length : Int) <= 10)), hr_, rfl, (H.pick [] (by decide) rfl)⟩⟩

def za0 (b_Years : List Yr) (b_Olds : List Old10) (b_First : Int) (b_Last : Int) (x2 : Yr) : M Bool :=
  M.bind (zab x2.year b_First b_Last) fun r2 =>
  M.bind (M.opt r2 (zab x2.lo 0 x2.hi) false) fun r3 =>
  M.bind (M.opt (r2 && r3) (zab x2.hi 0 2000) false) fun r4 =>
  M.pure ((r2 && r3) && r4)
theorem zco {R : List Chunk} {C_b_Years : Cells} {v_b_Years : Value} {C_b_Olds : Cells} {v_b_Olds : Value} (b_Years : List Yr) (b_Olds : List Old10) (b_First : Int) (b_Last : Int) (x2 : Yr) (hC_b_Years : Reads R C_b_Years) (hs_b_Years : Sl C_b_Years v_b_Years b_Years) (hC_b_Olds : Reads R C_b_Olds) (hs_b_Olds : Sl C_b_Olds v_b_Olds b_Olds) {r : Bool} (hM : (za0 b_Years b_Olds b_First b_Last x2).Ends r) (w : World) (H : St w w [] R) : Ret Try.prog 71 #[.agg #[v_b_Years, v_b_Olds, I b_First, I b_Last], .iface 41 (.agg #[I x2.year, I x2.lo, I x2.hi])] w fun v w' => ∃ (y0 : Bool), y0 = r /\ v = B y0 /\ St w w' [] R := by
 refine ret_of_W Try.func71 rfl rfl rfl ?_
 refine W.seq ?_
 refine W.region rfl ?_
 refine t_box (v := .agg #[v_b_Years, v_b_Olds, I b_First, I b_Last]) (cs := [v_b_Years, v_b_Olds, I b_First, I b_Last]) H rfl rfl ?_
 intro b_1 w1z H
 refine s_val (x_as (v := B false) rfl) ?_
 refine s_nil ?_
 refine W.seq ?_
 refine W.seq ?_
 refine W.region rfl ?_
 refine s_val (x_mv (v := .iface 41 (.agg #[I x2.year, I x2.lo, I x2.hi])) rfl) ?_
 refine s_nil ?_
 refine W.block ?_
 refine W.seq ?_
 refine W.region rfl ?_
 refine s_val (x_ta0 (z := .agg #[I 0, I 0]) Try.underlying72 (by intro m h_; cases h_) (by decide) Al72 rfl) ?_
 refine s_val (x_ext (vs := [.agg #[I 0, I 0], B false]) (v := B false) rfl rfl) ?_
 refine s_val (x_ext (vs := [.agg #[I 0, I 0], B false]) (v := .agg #[I 0, I 0]) rfl rfl) ?_
 refine s_nil ?_
 refine W.cond false rfl (fun c2z => ?_) (fun c2z => ?_)
 ·skip
  exact absurd c2z (by decide)
 skip
 refine W.seq ?_
 refine W.region rfl ?_
 refine s_val (x_ta1 (v := .agg #[I x2.year, I x2.lo, I x2.hi]) Try.underlying41 (by intro m h_; cases h_) rfl) ?_
 refine s_val (x_ext (vs := [.agg #[I x2.year, I x2.lo, I x2.hi], B true]) (v := B true) rfl rfl) ?_
 refine s_val (x_ext (vs := [.agg #[I x2.year, I x2.lo, I x2.hi], B true]) (v := .agg #[I x2.year, I x2.lo, I x2.hi]) rfl rfl) ?_
 refine s_nil ?_
 refine W.cond true rfl (fun c3z => ?_) (fun c3z => ?_)
 ·skip
  refine W.seq ?_
  refine W.region rfl ?_
  refine t_alloc (cs := [I 0, I 0, I 0]) H Al41 rfl ?_
  intro b_2 w4z H
  refine t_st (k := 0) (b := b_2) (off := 0) (cs := [I 0, I 0, I 0]) (vs := [I x2.year, I x2.lo, I x2.hi]) (cs' := [I x2.year, I x2.lo, I x2.hi]) (v := .agg #[I x2.year, I x2.lo, I x2.hi]) (L' := [cBlk b_2 [I x2.year, I x2.lo, I x2.hi] 41, cBlk b_1 [v_b_Years, v_b_Olds, I b_First, I b_Last] 26]) H rfl rfl rfl Sz41 rfl rfl rfl rfl rfl rfl ?_
  intro w5z H
  refine s_nil ?_
  refine W.seq ?_
  refine W.region rfl ?_
  refine s_val (x_fa (a := .pointer (some ⟨b_2, 0, none⟩)) (v := .pointer (some ⟨b_2, 0, none⟩)) rfl (fa_blk (o := 0) Fd41_0 Sz3)) ?_
  refine s_val (x_ld (p := .pointer (some ⟨b_2, 0, none⟩)) (v := I x2.year) rfl (ldb_sc Sc3 (H.blk (k := 0) rfl) rfl)) ?_
  refine s_val (x_fa (a := .pointer (some ⟨b_1, 0, none⟩)) (v := .pointer (some ⟨b_1, 2, none⟩)) rfl (fa_blk (o := 0) Fd26_2 Sz3)) ?_
  refine s_val (x_ld (p := .pointer (some ⟨b_1, 2, none⟩)) (v := I b_First) rfl (ldb_sc Sc3 (H.blk (k := 1) rfl) rfl)) ?_
  refine s_val (x_fa (a := .pointer (some ⟨b_1, 0, none⟩)) (v := .pointer (some ⟨b_1, 3, none⟩)) rfl (fa_blk (o := 0) Fd26_3 Sz3)) ?_
  refine s_val (x_ld (p := .pointer (some ⟨b_1, 3, none⟩)) (v := I b_Last) rfl (ldb_sc Sc3 (H.blk (k := 1) rfl) rfl)) ?_
  obtain ⟨r7z, hx6z, hM⟩ := M.e_bind hM
  refine s_call cf63 [I x2.year, I b_First, I b_Last] rfl (zac x2.year b_First b_Last hx6z _ (St.give (T := [cBlk b_2 [I x2.year, I x2.lo, I x2.hi] 41, cBlk b_1 [v_b_Years, v_b_Olds, I b_First, I b_Last] 26]) H rfl)) ?_
  rintro vq w8z ⟨r2, hr9z, hvq, H2_⟩
  subst hr9z
  subst vq
  try dsimp only at hM
  replace H : St w w8z [cBlk b_2 [I x2.year, I x2.lo, I x2.hi] 41, cBlk b_1 [v_b_Years, v_b_Olds, I b_First, I b_Last] 26] R := H.back H2_ rfl
  clear H2_
  refine s_val (x_mv (v := B r2) rfl) ?_
  refine g_val r2 (gy_t rfl) (fun hg => x_fa (a := .pointer (some ⟨b_2, 0, none⟩)) (v := .pointer (some ⟨b_2, 1, none⟩)) rfl (fa_blk (o := 0) Fd41_1 Sz35)) ?_
  refine g_val r2 (gy_t rfl) (fun hg => x_fa (a := .pointer (some ⟨b_2, 1, none⟩)) (v := .pointer (some ⟨b_2, 1, none⟩)) (gd_of (c := r2) hg (.pointer (some ⟨b_2, 1, none⟩))) (fa_blk (o := 1) Fd35_0 Sz3)) ?_
  refine g_val r2 (gy_t rfl) (fun hg => x_ld (p := .pointer (some ⟨b_2, 1, none⟩)) (v := I x2.lo) (gd_of (c := r2) hg (.pointer (some ⟨b_2, 1, none⟩))) (ldb_sc Sc3 (H.blk (k := 0) rfl) rfl)) ?_
  refine g_val r2 (gy_t rfl) (fun hg => x_fa (a := .pointer (some ⟨b_2, 0, none⟩)) (v := .pointer (some ⟨b_2, 1, none⟩)) rfl (fa_blk (o := 0) Fd41_1 Sz35)) ?_
  refine g_val r2 (gy_t rfl) (fun hg => x_fa (a := .pointer (some ⟨b_2, 1, none⟩)) (v := .pointer (some ⟨b_2, 2, none⟩)) (gd_of (c := r2) hg (.pointer (some ⟨b_2, 1, none⟩))) (fa_blk (o := 1) Fd35_1 Sz3)) ?_
  refine g_val r2 (gy_t rfl) (fun hg => x_ld (p := .pointer (some ⟨b_2, 2, none⟩)) (v := I x2.hi) (gd_of (c := r2) hg (.pointer (some ⟨b_2, 2, none⟩))) (ldb_sc Sc3 (H.blk (k := 0) rfl) rfl)) ?_
  obtain ⟨r3, hx10z, hM⟩ := M.e_bind hM
  refine t_gcall r2 (gy_t rfl) cf63 (B r3) (fun _ => [I x2.lo, I 0, I x2.hi]) (fun hg => lst3 (gd_of (c := r2) hg (I x2.lo)) rfl (gd_of (c := r2) hg (I x2.hi))) H (fun hg => (zac x2.lo 0 x2.hi (M.e_opt hx10z hg) _ (H.give (A := []) rfl)).mono fun v_ w_ ⟨y_, hr_, hv_, H_⟩ => by subst hr_; exact ⟨hv_, H.via H_⟩) ?_
  intro w11z H
  refine s_val (x_pand (b := r2) (r := r3) rfl (fun hb => gd_of (c := r2) (by first | exact hb | (rw [hb]; rfl) | simp_all) (B r3)) rfl) ?_
  refine s_val (x_mv (v := B (r2 && r3)) rfl) ?_
  refine g_val (r2 && r3) (gy_t rfl) (fun hg => x_fa (a := .pointer (some ⟨b_2, 0, none⟩)) (v := .pointer (some ⟨b_2, 1, none⟩)) rfl (fa_blk (o := 0) Fd41_1 Sz35)) ?_
  refine g_val (r2 && r3) (gy_t rfl) (fun hg => x_fa (a := .pointer (some ⟨b_2, 1, none⟩)) (v := .pointer (some ⟨b_2, 2, none⟩)) (gd_of (c := (r2 && r3)) hg (.pointer (some ⟨b_2, 1, none⟩))) (fa_blk (o := 1) Fd35_1 Sz3)) ?_
  refine g_val (r2 && r3) (gy_t rfl) (fun hg => x_ld (p := .pointer (some ⟨b_2, 2, none⟩)) (v := I x2.hi) (gd_of (c := (r2 && r3)) hg (.pointer (some ⟨b_2, 2, none⟩))) (ldb_sc Sc3 (H.blk (k := 0) rfl) rfl)) ?_
  obtain ⟨r4, hx12z, hM⟩ := M.e_bind hM
  refine t_gcall (r2 && r3) (gy_t rfl) cf63 (B r4) (fun _ => [I x2.hi, I 0, I 2000]) (fun hg => lst3 (gd_of (c := (r2 && r3)) hg (I x2.hi)) rfl rfl) H (fun hg => (zac x2.hi 0 2000 (M.e_opt hx12z hg) _ (H.give (A := []) rfl)).mono fun v_ w_ ⟨y_, hr_, hv_, H_⟩ => by subst hr_; exact ⟨hv_, H.via H_⟩) ?_
  intro w13z H
  refine s_val (x_pand (b := (r2 && r3)) (r := r4) rfl (fun hb => gd_of (c := (r2 && r3)) (by first | exact hb | (rw [hb]; rfl) | simp_all) (B r4)) rfl) ?_
  refine s_val (x_as (v := B ((r2 && r3) && r4)) rfl) ?_
  refine s_nil ?_
  refine W.ret ?_
  have hr_ := M.e_pure hM
  exact ⟨_, resE_tmp rfl, ⟨((r2 && r3) && r4), hr_, rfl, (H.pick [] (by decide) rfl)⟩⟩
 skip
 exact absurd c3z (by decide)

def zbg (b_Years : List Yr) (b_Olds : List Old10) (b_First : Int) (b_Last : Int) (x2 : Old10) : M Bool :=
  M.bind (zab x2.src b_First x2.dst) fun r2 =>
  M.bind (M.opt r2 (zab x2.dst b_First b_Last) false) fun r3 =>
  M.bind (M.opt (r2 && r3) (zab x2.stage 1 2000) false) fun r4 =>
  M.bind (M.opt ((r2 && r3) && r4) (zas x2.passed x2.src x2.dst) false) fun r5 =>
  M.pure (((r2 && r3) && r4) && r5)
theorem zcm {R : List Chunk} {C_b_Years : Cells} {v_b_Years : Value} {C_b_Olds : Cells} {v_b_Olds : Value} {C_x2_passed : Cells} {v_x2_passed : Value} (b_Years : List Yr) (b_Olds : List Old10) (b_First : Int) (b_Last : Int) (x2 : Old10) (hC_b_Years : Reads R C_b_Years) (hs_b_Years : Sl C_b_Years v_b_Years b_Years) (hC_b_Olds : Reads R C_b_Olds) (hs_b_Olds : Sl C_b_Olds v_b_Olds b_Olds) (hC_x2_passed : Reads R C_x2_passed) (hs_x2_passed : Sl C_x2_passed v_x2_passed x2.passed) {r : Bool} (hM : (zbg b_Years b_Olds b_First b_Last x2).Ends r) (w : World) (H : St w w [] R) : Ret Try.prog 71 #[.agg #[v_b_Years, v_b_Olds, I b_First, I b_Last], .iface 43 (.agg #[I x2.src, I x2.dst, I x2.stage, v_x2_passed])] w fun v w' => ∃ (y0 : Bool), y0 = r /\ v = B y0 /\ St w w' [] R := by
 refine ret_of_W Try.func71 rfl rfl rfl ?_
 refine W.seq ?_
 refine W.region rfl ?_
 refine t_box (v := .agg #[v_b_Years, v_b_Olds, I b_First, I b_Last]) (cs := [v_b_Years, v_b_Olds, I b_First, I b_Last]) H rfl rfl ?_
 intro b_1 w1z H
 refine s_val (x_as (v := B false) rfl) ?_
 refine s_nil ?_
 refine W.seq ?_
 refine W.seq ?_
 refine W.region rfl ?_
 refine s_val (x_mv (v := .iface 43 (.agg #[I x2.src, I x2.dst, I x2.stage, v_x2_passed])) rfl) ?_
 refine s_nil ?_
 refine W.block ?_
 refine W.seq ?_
 refine W.region rfl ?_
 refine s_val (x_ta0 (z := .agg #[I 0, I 0]) Try.underlying72 (by intro m h_; cases h_) (by decide) Al72 rfl) ?_
 refine s_val (x_ext (vs := [.agg #[I 0, I 0], B false]) (v := B false) rfl rfl) ?_
 refine s_val (x_ext (vs := [.agg #[I 0, I 0], B false]) (v := .agg #[I 0, I 0]) rfl rfl) ?_
 refine s_nil ?_
 refine W.cond false rfl (fun c2z => ?_) (fun c2z => ?_)
 ·skip
  exact absurd c2z (by decide)
 skip
 refine W.seq ?_
 refine W.region rfl ?_
 refine s_val (x_ta0 (z := .agg #[I 0, I 0, I 0]) Try.underlying41 (by intro m h_; cases h_) (by decide) Al41 rfl) ?_
 refine s_val (x_ext (vs := [.agg #[I 0, I 0, I 0], B false]) (v := B false) rfl rfl) ?_
 refine s_val (x_ext (vs := [.agg #[I 0, I 0, I 0], B false]) (v := .agg #[I 0, I 0, I 0]) rfl rfl) ?_
 refine s_nil ?_
 refine W.cond false rfl (fun c3z => ?_) (fun c3z => ?_)
 ·skip
  exact absurd c3z (by decide)
 skip
 refine W.seq ?_
 refine W.region rfl ?_
 refine s_val (x_ta1 (v := .agg #[I x2.src, I x2.dst, I x2.stage, v_x2_passed]) Try.underlying43 (by intro m h_; cases h_) rfl) ?_
 refine s_val (x_ext (vs := [.agg #[I x2.src, I x2.dst, I x2.stage, v_x2_passed], B true]) (v := B true) rfl rfl) ?_
 refine s_val (x_ext (vs := [.agg #[I x2.src, I x2.dst, I x2.stage, v_x2_passed], B true]) (v := .agg #[I x2.src, I x2.dst, I x2.stage, v_x2_passed]) rfl rfl) ?_
 refine s_nil ?_
 refine W.cond true rfl (fun c4z => ?_) (fun c4z => ?_)
 ·skip
  refine W.seq ?_
  refine W.region rfl ?_
  refine t_alloc (cs := [I 0, I 0, I 0, .slice none 0 0]) H Al43 rfl ?_
  intro b_2 w5z H
  refine t_st (k := 0) (b := b_2) (off := 0) (cs := [I 0, I 0, I 0, .slice none 0 0]) (vs := [I x2.src, I x2.dst, I x2.stage, v_x2_passed]) (cs' := [I x2.src, I x2.dst, I x2.stage, v_x2_passed]) (v := .agg #[I x2.src, I x2.dst, I x2.stage, v_x2_passed]) (L' := [cBlk b_2 [I x2.src, I x2.dst, I x2.stage, v_x2_passed] 43, cBlk b_1 [v_b_Years, v_b_Olds, I b_First, I b_Last] 26]) H rfl rfl rfl Sz43 rfl rfl rfl (by simp only [List.all_cons, List.all_nil, Bool.true_and, Bool.and_true, Sl.oc hs_x2_passed]; try rfl) rfl rfl ?_
  intro w6z H
  refine s_nil ?_
  refine W.seq ?_
  refine W.region rfl ?_
  refine s_val (x_fa (a := .pointer (some ⟨b_2, 0, none⟩)) (v := .pointer (some ⟨b_2, 0, none⟩)) rfl (fa_blk (o := 0) Fd43_0 Sz3)) ?_
  refine s_val (x_ld (p := .pointer (some ⟨b_2, 0, none⟩)) (v := I x2.src) rfl (ldb_sc Sc3 (H.blk (k := 0) rfl) rfl)) ?_
  refine s_val (x_fa (a := .pointer (some ⟨b_1, 0, none⟩)) (v := .pointer (some ⟨b_1, 2, none⟩)) rfl (fa_blk (o := 0) Fd26_2 Sz3)) ?_
  refine s_val (x_ld (p := .pointer (some ⟨b_1, 2, none⟩)) (v := I b_First) rfl (ldb_sc Sc3 (H.blk (k := 1) rfl) rfl)) ?_
  refine s_val (x_fa (a := .pointer (some ⟨b_2, 0, none⟩)) (v := .pointer (some ⟨b_2, 1, none⟩)) rfl (fa_blk (o := 0) Fd43_1 Sz3)) ?_
  refine s_val (x_ld (p := .pointer (some ⟨b_2, 1, none⟩)) (v := I x2.dst) rfl (ldb_sc Sc3 (H.blk (k := 0) rfl) rfl)) ?_
  obtain ⟨r8z, hx7z, hM⟩ := M.e_bind hM
  refine s_call cf63 [I x2.src, I b_First, I x2.dst] rfl (zac x2.src b_First x2.dst hx7z _ (St.give (T := [cBlk b_2 [I x2.src, I x2.dst, I x2.stage, v_x2_passed] 43, cBlk b_1 [v_b_Years, v_b_Olds, I b_First, I b_Last] 26]) H rfl)) ?_
  rintro vq w9z ⟨r2, hr10z, hvq, H2_⟩
  subst hr10z
  subst vq
  try dsimp only at hM
  replace H : St w w9z [cBlk b_2 [I x2.src, I x2.dst, I x2.stage, v_x2_passed] 43, cBlk b_1 [v_b_Years, v_b_Olds, I b_First, I b_Last] 26] R := H.back H2_ rfl
  clear H2_
  refine s_val (x_mv (v := B r2) rfl) ?_
  refine g_val r2 (gy_t rfl) (fun hg => x_fa (a := .pointer (some ⟨b_2, 0, none⟩)) (v := .pointer (some ⟨b_2, 1, none⟩)) rfl (fa_blk (o := 0) Fd43_1 Sz3)) ?_
  refine g_val r2 (gy_t rfl) (fun hg => x_ld (p := .pointer (some ⟨b_2, 1, none⟩)) (v := I x2.dst) (gd_of (c := r2) hg (.pointer (some ⟨b_2, 1, none⟩))) (ldb_sc Sc3 (H.blk (k := 0) rfl) rfl)) ?_
  refine g_val r2 (gy_t rfl) (fun hg => x_fa (a := .pointer (some ⟨b_1, 0, none⟩)) (v := .pointer (some ⟨b_1, 2, none⟩)) rfl (fa_blk (o := 0) Fd26_2 Sz3)) ?_
  refine g_val r2 (gy_t rfl) (fun hg => x_ld (p := .pointer (some ⟨b_1, 2, none⟩)) (v := I b_First) (gd_of (c := r2) hg (.pointer (some ⟨b_1, 2, none⟩))) (ldb_sc Sc3 (H.blk (k := 1) rfl) rfl)) ?_
  refine g_val r2 (gy_t rfl) (fun hg => x_fa (a := .pointer (some ⟨b_1, 0, none⟩)) (v := .pointer (some ⟨b_1, 3, none⟩)) rfl (fa_blk (o := 0) Fd26_3 Sz3)) ?_
  refine g_val r2 (gy_t rfl) (fun hg => x_ld (p := .pointer (some ⟨b_1, 3, none⟩)) (v := I b_Last) (gd_of (c := r2) hg (.pointer (some ⟨b_1, 3, none⟩))) (ldb_sc Sc3 (H.blk (k := 1) rfl) rfl)) ?_
  obtain ⟨r3, hx11z, hM⟩ := M.e_bind hM
  refine t_gcall r2 (gy_t rfl) cf63 (B r3) (fun _ => [I x2.dst, I b_First, I b_Last]) (fun hg => lst3 (gd_of (c := r2) hg (I x2.dst)) (gd_of (c := r2) hg (I b_First)) (gd_of (c := r2) hg (I b_Last))) H (fun hg => (zac x2.dst b_First b_Last (M.e_opt hx11z hg) _ (H.give (A := []) rfl)).mono fun v_ w_ ⟨y_, hr_, hv_, H_⟩ => by subst hr_; exact ⟨hv_, H.via H_⟩) ?_
  intro w12z H
  refine s_val (x_pand (b := r2) (r := r3) rfl (fun hb => gd_of (c := r2) (by first | exact hb | (rw [hb]; rfl) | simp_all) (B r3)) rfl) ?_
  refine s_val (x_mv (v := B (r2 && r3)) rfl) ?_
  refine g_val (r2 && r3) (gy_t rfl) (fun hg => x_fa (a := .pointer (some ⟨b_2, 0, none⟩)) (v := .pointer (some ⟨b_2, 2, none⟩)) rfl (fa_blk (o := 0) Fd43_2 Sz3)) ?_
  refine g_val (r2 && r3) (gy_t rfl) (fun hg => x_ld (p := .pointer (some ⟨b_2, 2, none⟩)) (v := I x2.stage) (gd_of (c := (r2 && r3)) hg (.pointer (some ⟨b_2, 2, none⟩))) (ldb_sc Sc3 (H.blk (k := 0) rfl) rfl)) ?_
  obtain ⟨r4, hx13z, hM⟩ := M.e_bind hM
  refine t_gcall (r2 && r3) (gy_t rfl) cf63 (B r4) (fun _ => [I x2.stage, I 1, I 2000]) (fun hg => lst3 (gd_of (c := (r2 && r3)) hg (I x2.stage)) rfl rfl) H (fun hg => (zac x2.stage 1 2000 (M.e_opt hx13z hg) _ (H.give (A := []) rfl)).mono fun v_ w_ ⟨y_, hr_, hv_, H_⟩ => by subst hr_; exact ⟨hv_, H.via H_⟩) ?_
  intro w14z H
  refine s_val (x_pand (b := (r2 && r3)) (r := r4) rfl (fun hb => gd_of (c := (r2 && r3)) (by first | exact hb | (rw [hb]; rfl) | simp_all) (B r4)) rfl) ?_
  refine s_val (x_mv (v := B ((r2 && r3) && r4)) rfl) ?_
  refine g_val ((r2 && r3) && r4) (gy_t rfl) (fun hg => x_fa (a := .pointer (some ⟨b_2, 0, none⟩)) (v := .pointer (some ⟨b_2, 3, none⟩)) rfl (fa_blk (o := 0) Fd43_3 Sz27)) ?_
  refine g_val ((r2 && r3) && r4) (gy_t rfl) (fun hg => x_ld (p := .pointer (some ⟨b_2, 3, none⟩)) (v := v_x2_passed) (gd_of (c := ((r2 && r3) && r4)) hg (.pointer (some ⟨b_2, 3, none⟩))) (ldb_sc Sc27 (H.blk (k := 0) rfl) rfl)) ?_
  refine g_val ((r2 && r3) && r4) (gy_t rfl) (fun hg => x_fa (a := .pointer (some ⟨b_2, 0, none⟩)) (v := .pointer (some ⟨b_2, 0, none⟩)) rfl (fa_blk (o := 0) Fd43_0 Sz3)) ?_
  refine g_val ((r2 && r3) && r4) (gy_t rfl) (fun hg => x_ld (p := .pointer (some ⟨b_2, 0, none⟩)) (v := I x2.src) (gd_of (c := ((r2 && r3) && r4)) hg (.pointer (some ⟨b_2, 0, none⟩))) (ldb_sc Sc3 (H.blk (k := 0) rfl) rfl)) ?_
  refine g_val ((r2 && r3) && r4) (gy_t rfl) (fun hg => x_fa (a := .pointer (some ⟨b_2, 0, none⟩)) (v := .pointer (some ⟨b_2, 1, none⟩)) rfl (fa_blk (o := 0) Fd43_1 Sz3)) ?_
  refine g_val ((r2 && r3) && r4) (gy_t rfl) (fun hg => x_ld (p := .pointer (some ⟨b_2, 1, none⟩)) (v := I x2.dst) (gd_of (c := ((r2 && r3) && r4)) hg (.pointer (some ⟨b_2, 1, none⟩))) (ldb_sc Sc3 (H.blk (k := 0) rfl) rfl)) ?_
  obtain ⟨r5, hx15z, hM⟩ := M.e_bind hM
  refine t_gcall ((r2 && r3) && r4) (gy_t rfl) cf73 (B r5) (fun _ => [v_x2_passed, I x2.src, I x2.dst]) (fun hg => lst3 (gd_of (c := ((r2 && r3) && r4)) hg (v_x2_passed)) (gd_of (c := ((r2 && r3) && r4)) hg (I x2.src)) (gd_of (c := ((r2 && r3) && r4)) hg (I x2.dst))) H (fun hg => (zbY x2.passed x2.src x2.dst (hC_x2_passed.app _) hs_x2_passed (M.e_opt hx15z hg) _ (H.give (A := []) rfl)).mono fun v_ w_ ⟨y_, hr_, hv_, H_⟩ => by subst hr_; exact ⟨hv_, H.via H_⟩) ?_
  intro w16z H
  refine s_val (x_pand (b := ((r2 && r3) && r4)) (r := r5) rfl (fun hb => gd_of (c := ((r2 && r3) && r4)) (by first | exact hb | (rw [hb]; rfl) | simp_all) (B r5)) rfl) ?_
  refine s_val (x_as (v := B (((r2 && r3) && r4) && r5)) rfl) ?_
  refine s_nil ?_
  refine W.ret ?_
  have hr_ := M.e_pure hM
  exact ⟨_, resE_tmp rfl, ⟨(((r2 && r3) && r4) && r5), hr_, rfl, (H.pick [] (by decide) rfl)⟩⟩
 skip
 exact absurd c4z (by decide)

def zaH (o : Old10) (k00 : List Yr) (k01 : List Old10) (k02 : Int) (k03 : Int) : M Bool :=
  M.bind (zbg k00 k01 k02 k03 o) fun r2 =>
  M.pure r2
theorem zcr {R : List Chunk} {C_o_passed : Cells} {v_o_passed : Value} {b_k0 : Nat} {C_k00 : Cells} {v_k00 : Value} {C_k01 : Cells} {v_k01 : Value} (o : Old10) (k00 : List Yr) (k01 : List Old10) (k02 : Int) (k03 : Int) (hC_o_passed : Reads R C_o_passed) (hs_o_passed : Sl C_o_passed v_o_passed o.passed) (hC_k00 : Reads R C_k00) (hs_k00 : Sl C_k00 v_k00 k00) (hC_k01 : Reads R C_k01) (hs_k01 : Sl C_k01 v_k01 k01) (h_b_k0 : Has R (cBlk b_k0 [v_k00, v_k01, I k02, I k03] 26)) {r : Bool} (hM : (zaH o k00 k01 k02 k03).Ends r) (w : World) (H : St w w [] R) : Ret Try.prog 88 #[.agg #[I o.src, I o.dst, I o.stage, v_o_passed], .pointer (some ⟨b_k0, 0, none⟩)] w fun v w' => ∃ (y0 : Bool), y0 = r /\ v = B y0 /\ St w w' [] R := by
 refine ret_of_W Try.func88 rfl rfl rfl ?_
 refine W.seq ?_
 refine W.region rfl ?_
 refine t_box (v := .agg #[I o.src, I o.dst, I o.stage, v_o_passed]) (cs := [I o.src, I o.dst, I o.stage, v_o_passed]) H rfl rfl ?_
 intro b_1 w1z H
 refine s_val (x_as (v := B false) rfl) ?_
 refine s_nil ?_
 refine W.seq ?_
 refine W.region rfl ?_
 refine s_val (x_ld (p := .pointer (some ⟨b_k0, 0, none⟩)) (v := .agg #[v_k00, v_k01, I k02, I k03]) rfl (ldb_ag (ds := [v_k00, v_k01, I k02, I k03]) Ag26 Sz26 (h_b_k0.blk H) rfl rfl)) ?_
 refine s_val (x_ld (p := .pointer (some ⟨b_1, 0, none⟩)) (v := .agg #[I o.src, I o.dst, I o.stage, v_o_passed]) rfl (ldb_ag (ds := [I o.src, I o.dst, I o.stage, v_o_passed]) Ag43 Sz43 (H.blk (k := 0) rfl) rfl rfl)) ?_
 refine s_val (x_mi (v := .agg #[I o.src, I o.dst, I o.stage, v_o_passed]) Try.underlying43 (by intro m h_; cases h_) rfl) ?_
 obtain ⟨r3z, hx2z, hM⟩ := M.e_bind hM
 refine s_call cf71 [.agg #[v_k00, v_k01, I k02, I k03], .iface 43 (.agg #[I o.src, I o.dst, I o.stage, v_o_passed])] rfl (zcm k00 k01 k02 k03 o (hC_k00.app _) hs_k00 (hC_k01.app _) hs_k01 (hC_o_passed.app _) hs_o_passed hx2z _ (St.give (T := [cBlk b_1 [I o.src, I o.dst, I o.stage, v_o_passed] 43]) H rfl)) ?_
 rintro vq w4z ⟨r2, hr5z, hvq, H2_⟩
 subst hr5z
 subst vq
 try dsimp only at hM
 replace H : St w w4z [cBlk b_1 [I o.src, I o.dst, I o.stage, v_o_passed] 43] R := H.back H2_ rfl
 clear H2_
 refine s_val (x_as (v := B r2) rfl) ?_
 refine s_nil ?_
 refine W.ret ?_
 have hr_ := M.e_pure hM
 exact ⟨_, resE_tmp rfl, ⟨r2, hr_, rfl, (H.pick [] (by decide) rfl)⟩⟩

def zax (b_Years : List Yr) (b_Olds : List Old10) (b_First : Int) (b_Last : Int) : Nat -> M (Nat ⊕ (Int ⊕ Unit)) := fun s =>
  bif decide ((s : Int) < (b_Years.length : Int)) then (
  M.grd (decide ((s : Int) < (b_Years.length : Int))) <|
  M.bind (za0 b_Years b_Olds b_First b_Last (b_Years.getD s default)) fun r5 =>
  bif !r5 then (
  M.pure (.inr (.inl 110)))
  else (
  M.grd ((!(decide (0 < (s : Int))) || (decide ((-9223372036854775808 : Int) <= ((s : Int) - 1)) && decide (((s : Int) - 1) <= (9223372036854775807 : Int))))) <|
  M.grd ((!(decide (0 < (s : Int))) || (decide ((0 : Int) <= ((s : Int) - 1)) && decide (((s : Int) - 1) < (b_Years.length : Int))))) <|
  bif ((decide (0 < (s : Int))) && (decide (((b_Years.getD s default).year) <= ((b_Years.getD (Int.toNat ((s : Int) - 1)) default).year)))) then (
  M.pure (.inr (.inl 9)))
  else (
  M.pure (.inl (s + 1)))))
  else (
  M.pure (.inr (.inr ())))
def zbd (b_Years : List Yr) (b_Olds : List Old10) (b_First : Int) (b_Last : Int) : M Int :=
  M.bind (zab b_First 0 b_Last) fun r2 =>
  M.bind (M.opt (!(!r2)) (zab b_Last 0 3000) false) fun r3 =>
  M.grd ((!(!((!r2) || (!r3))) || (decide ((-9223372036854775808 : Int) <= (b_Last - b_First)) && decide ((b_Last - b_First) <= (9223372036854775807 : Int))))) <|
  bif (((!r2) || (!r3)) || (decide (1000 <= (b_Last - b_First)))) then (
  M.pure 110)
  else (
  M.bind (M.opt (!((decide (60 < (b_Years.length : Int))) || (decide (8 < (b_Olds.length : Int))))) (zaI b_Olds (fun xqz => zbc xqz)) false) fun r4 =>
  bif (((decide (60 < (b_Years.length : Int))) || (decide (8 < (b_Olds.length : Int)))) || (!r4)) then (
  M.pure 3)
  else (
  M.bind (M.iter (zax b_Years b_Olds b_First b_Last) 0) fun x_ => match x_ with
  | (.inl s2) => (
  M.pure s2)
  | (.inr (_ : Unit)) => (
  M.bind (zaI b_Olds (fun xqz => zaH xqz b_Years b_Olds b_First b_Last)) fun r6 =>
  bif !r6 then (
  M.pure 110)
  else (
  M.pure 0))))
theorem zcq {R : List Chunk} {C_b_Years : Cells} {v_b_Years : Value} {C_b_Olds : Cells} {v_b_Olds : Value} (b_Years : List Yr) (b_Olds : List Old10) (b_First : Int) (b_Last : Int) (hC_b_Years : Reads R C_b_Years) (hs_b_Years : Sl C_b_Years v_b_Years b_Years) (hC_b_Olds : Reads R C_b_Olds) (hs_b_Olds : Sl C_b_Olds v_b_Olds b_Olds) {r : Int} (hM : (zbd b_Years b_Olds b_First b_Last).Ends r) (w : World) (H : St w w [] R) : Ret Try.prog 47 #[.agg #[v_b_Years, v_b_Olds, I b_First, I b_Last]] w fun v w' => ∃ (y0 : Int), y0 = r /\ v = I y0 /\ St w w' [] R := by
 refine ret_of_W Try.func47 rfl rfl rfl ?_
 refine W.seq ?_
 refine W.region rfl ?_
 refine t_box (v := .agg #[v_b_Years, v_b_Olds, I b_First, I b_Last]) (cs := [v_b_Years, v_b_Olds, I b_First, I b_Last]) H rfl rfl ?_
 intro b_1 w1z H
 refine s_val (x_as (v := I 0) rfl) ?_
 refine s_nil ?_
 refine W.seq ?_
 refine W.region rfl ?_
 refine s_val (x_as (v := .func (.func 86) #[] #[]) rfl) ?_
 refine s_nil ?_
 refine W.seq ?_
 refine W.block ?_
 refine W.seq ?_
 refine W.region rfl ?_
 refine s_val (x_fa (a := .pointer (some ⟨b_1, 0, none⟩)) (v := .pointer (some ⟨b_1, 2, none⟩)) rfl (fa_blk (o := 0) Fd26_2 Sz3)) ?_
 refine s_val (x_ld (p := .pointer (some ⟨b_1, 2, none⟩)) (v := I b_First) rfl (ldb_sc Sc3 (H.blk (k := 0) rfl) rfl)) ?_
 refine s_val (x_fa (a := .pointer (some ⟨b_1, 0, none⟩)) (v := .pointer (some ⟨b_1, 3, none⟩)) rfl (fa_blk (o := 0) Fd26_3 Sz3)) ?_
 refine s_val (x_ld (p := .pointer (some ⟨b_1, 3, none⟩)) (v := I b_Last) rfl (ldb_sc Sc3 (H.blk (k := 0) rfl) rfl)) ?_
 obtain ⟨r3z, hx2z, hM⟩ := M.e_bind hM
 refine s_call cf63 [I b_First, I 0, I b_Last] rfl (zac b_First 0 b_Last hx2z _ (St.give (T := [cBlk b_1 [v_b_Years, v_b_Olds, I b_First, I b_Last] 26]) H rfl)) ?_
 rintro vq w4z ⟨r2, hr5z, hvq, H2_⟩
 subst hr5z
 subst vq
 try dsimp only at hM
 replace H : St w w4z [cBlk b_1 [v_b_Years, v_b_Olds, I b_First, I b_Last] 26] R := H.back H2_ rfl
 clear H2_
 refine s_val (x_not (b := r2) rfl) ?_
 refine s_val (x_mv (v := B (!r2)) rfl) ?_
 refine g_val (!(!r2)) (gy_f rfl) (fun hg => x_fa (a := .pointer (some ⟨b_1, 0, none⟩)) (v := .pointer (some ⟨b_1, 3, none⟩)) rfl (fa_blk (o := 0) Fd26_3 Sz3)) ?_
 refine g_val (!(!r2)) (gy_f rfl) (fun hg => x_ld (p := .pointer (some ⟨b_1, 3, none⟩)) (v := I b_Last) (gd_of (c := !(!r2)) hg (.pointer (some ⟨b_1, 3, none⟩))) (ldb_sc Sc3 (H.blk (k := 0) rfl) rfl)) ?_
 obtain ⟨r3, hx6z, hM⟩ := M.e_bind hM
 refine t_gcall (!(!r2)) (gy_f rfl) cf63 (B r3) (fun _ => [I b_Last, I 0, I 3000]) (fun hg => lst3 (gd_of (c := !(!r2)) hg (I b_Last)) rfl rfl) H (fun hg => (zac b_Last 0 3000 (M.e_opt hx6z hg) _ (H.give (A := []) rfl)).mono fun v_ w_ ⟨y_, hr_, hv_, H_⟩ => by subst hr_; exact ⟨hv_, H.via H_⟩) ?_
 intro w7z H
 refine g_val (!(!r2)) (gy_f rfl) (fun hg => x_not (b := r3) (gd_of (c := !(!r2)) hg (B r3))) ?_
 refine s_val (x_por (b := !r2) (r := !r3) rfl rfl (fun hb => gd_of (c := !(!r2)) (by first | exact hb | (rw [hb]; rfl) | simp_all) (B (!r3)))) ?_
 refine s_val (x_mv (v := B ((!r2) || (!r3))) rfl) ?_
 refine g_val (!((!r2) || (!r3))) (gy_f rfl) (fun hg => x_fa (a := .pointer (some ⟨b_1, 0, none⟩)) (v := .pointer (some ⟨b_1, 3, none⟩)) rfl (fa_blk (o := 0) Fd26_3 Sz3)) ?_
 refine g_val (!((!r2) || (!r3))) (gy_f rfl) (fun hg => x_ld (p := .pointer (some ⟨b_1, 3, none⟩)) (v := I b_Last) (gd_of (c := !((!r2) || (!r3))) hg (.pointer (some ⟨b_1, 3, none⟩))) (ldb_sc Sc3 (H.blk (k := 0) rfl) rfl)) ?_
 refine g_val (!((!r2) || (!r3))) (gy_f rfl) (fun hg => x_fa (a := .pointer (some ⟨b_1, 0, none⟩)) (v := .pointer (some ⟨b_1, 2, none⟩)) rfl (fa_blk (o := 0) Fd26_2 Sz3)) ?_
 refine g_val (!((!r2) || (!r3))) (gy_f rfl) (fun hg => x_ld (p := .pointer (some ⟨b_1, 2, none⟩)) (v := I b_First) (gd_of (c := !((!r2) || (!r3))) hg (.pointer (some ⟨b_1, 2, none⟩))) (ldb_sc Sc3 (H.blk (k := 0) rfl) rfl)) ?_
 obtain ⟨sd8z, hM⟩ := M.e_grd hM
 replace sd8z := M.imp_of sd8z
 simp only [Bool.and_eq_true, decide_eq_true_eq] at sd8z
 refine g_val (!((!r2) || (!r3))) (gy_f rfl) (fun hg => x_ari (a := b_Last) (b := b_First) (r := b_Last - b_First) (gd_of (c := !((!r2) || (!r3))) hg (I b_Last)) (gd_of (c := !((!r2) || (!r3))) hg (I b_First)) rfl (by have h1_ := sd8z.resolve_left (by rw [hg]; decide); first | exact h1_ | exact h1_.1 | exact h1_.2 | omega | (have hx_ := hg; simp at hx_; omega))) ?_
 refine g_val (!((!r2) || (!r3))) (gy_f rfl) (fun hg => x_cmp (kd := .i64) (a := b_Last - b_First) (b := 1000) (r := decide (1000 <= (b_Last - b_First))) (gd_of (c := !((!r2) || (!r3))) hg (I (b_Last - b_First))) rfl rfl) ?_
 refine s_val (x_por (b := ((!r2) || (!r3))) (r := decide (1000 <= (b_Last - b_First))) rfl rfl (fun hb => gd_of (c := !((!r2) || (!r3))) (by first | exact hb | (rw [hb]; rfl) | simp_all) (B (decide (1000 <= (b_Last - b_First)))))) ?_
 refine s_val (x_as (v := B (((!r2) || (!r3)) || (decide (1000 <= (b_Last - b_First))))) rfl) ?_
 refine s_nil ?_
 refine W.cond (((!r2) || (!r3)) || (decide (1000 <= (b_Last - b_First)))) rfl (fun c9z => ?_) (fun c9z => ?_)
 ·replace hM := M.e_t hM c9z
  refine W.seq ?_
  refine W.region rfl ?_
  refine s_val (x_as (v := I 110) rfl) ?_
  refine s_nil ?_
  refine W.ret ?_
  have hr_ := M.e_pure hM
  exact ⟨_, resE_tmp rfl, ⟨110, hr_, rfl, (H.pick [] (by decide) rfl)⟩⟩
 replace hM := M.e_f hM c9z
 refine W.seq ?_
 refine W.region rfl ?_
 refine s_val (x_fa (a := .pointer (some ⟨b_1, 0, none⟩)) (v := .pointer (some ⟨b_1, 0, none⟩)) rfl (fa_blk (o := 0) Fd26_0 Sz23)) ?_
 refine s_val (x_ld (p := .pointer (some ⟨b_1, 0, none⟩)) (v := v_b_Years) rfl (ldb_sc Sc23 (H.blk (k := 0) rfl) rfl)) ?_
 have hl10z := (hs_b_Years).len_le
 refine s_val (x_lenS T23.und rfl hs_b_Years) ?_
 refine s_val (x_cmp (kd := .i64) (a := (b_Years.length : Int)) (b := 60) (r := decide (60 < (b_Years.length : Int))) rfl rfl rfl) ?_
 refine s_val (x_mv (v := B (decide (60 < (b_Years.length : Int)))) rfl) ?_
 refine g_val (!(decide (60 < (b_Years.length : Int)))) (gy_f rfl) (fun hg => x_fa (a := .pointer (some ⟨b_1, 0, none⟩)) (v := .pointer (some ⟨b_1, 1, none⟩)) rfl (fa_blk (o := 0) Fd26_1 Sz24)) ?_
 refine g_val (!(decide (60 < (b_Years.length : Int)))) (gy_f rfl) (fun hg => x_ld (p := .pointer (some ⟨b_1, 1, none⟩)) (v := v_b_Olds) (gd_of (c := !(decide (60 < (b_Years.length : Int)))) hg (.pointer (some ⟨b_1, 1, none⟩))) (ldb_sc Sc24 (H.blk (k := 0) rfl) rfl)) ?_
 refine g_val (!(decide (60 < (b_Years.length : Int)))) (gy_f rfl) (fun hg => x_lenS T24.und (gd_of (c := !(decide (60 < (b_Years.length : Int)))) hg (v_b_Olds)) hs_b_Olds) ?_
 refine g_val (!(decide (60 < (b_Years.length : Int)))) (gy_f rfl) (fun hg => x_cmp (kd := .i64) (a := (b_Olds.length : Int)) (b := 8) (r := decide (8 < (b_Olds.length : Int))) (gd_of (c := !(decide (60 < (b_Years.length : Int)))) hg (I (b_Olds.length : Int))) rfl rfl) ?_
 refine s_val (x_por (b := decide (60 < (b_Years.length : Int))) (r := decide (8 < (b_Olds.length : Int))) rfl rfl (fun hb => gd_of (c := !(decide (60 < (b_Years.length : Int)))) (by first | exact hb | (rw [hb]; rfl) | simp_all) (B (decide (8 < (b_Olds.length : Int)))))) ?_
 refine s_val (x_mv (v := B ((decide (60 < (b_Years.length : Int))) || (decide (8 < (b_Olds.length : Int))))) rfl) ?_
 refine g_val (!((decide (60 < (b_Years.length : Int))) || (decide (8 < (b_Olds.length : Int))))) (gy_f rfl) (fun hg => x_fa (a := .pointer (some ⟨b_1, 0, none⟩)) (v := .pointer (some ⟨b_1, 1, none⟩)) rfl (fa_blk (o := 0) Fd26_1 Sz24)) ?_
 refine g_val (!((decide (60 < (b_Years.length : Int))) || (decide (8 < (b_Olds.length : Int))))) (gy_f rfl) (fun hg => x_ld (p := .pointer (some ⟨b_1, 1, none⟩)) (v := v_b_Olds) (gd_of (c := !((decide (60 < (b_Years.length : Int))) || (decide (8 < (b_Olds.length : Int))))) hg (.pointer (some ⟨b_1, 1, none⟩))) (ldb_sc Sc24 (H.blk (k := 0) rfl) rfl)) ?_
 refine g_val (!((decide (60 < (b_Years.length : Int))) || (decide (8 < (b_Olds.length : Int))))) (gy_f rfl) (fun hg => x_mv (v := .func (.func 86) #[] #[]) rfl) ?_
 obtain ⟨r4, hx12z, hM⟩ := M.e_bind hM
 refine t_gcall (!((decide (60 < (b_Years.length : Int))) || (decide (8 < (b_Olds.length : Int))))) (gy_f rfl) cf87 (B r4) (fun _ => [v_b_Olds, .func (.func 86) #[] #[]]) (fun hg => lst2 (gd_of (c := !((decide (60 < (b_Years.length : Int))) || (decide (8 < (b_Olds.length : Int))))) hg (v_b_Olds)) (gd_of (c := !((decide (60 < (b_Years.length : Int))) || (decide (8 < (b_Olds.length : Int))))) hg (.func (.func 86) #[] #[]))) H (fun hg => (zbW b_Olds (fun xqz => zbc xqz) (hC_b_Olds.app _) hs_b_Olds ⟨86, [], rfl, cf86, fun wqz Lqz Cqz vqz xqz bqz hsqz hCqz hAqz hpqz => by obtain ⟨sv_, rfl, hs_x⟩ := Old10_arg hAqz; exact (zci xqz hCqz hs_x hpqz wqz (St.refl hsqz)).mono fun vqz wqz ⟨yqz, hrqz, hvqz, Hqz⟩ => by subst hrqz; exact ⟨hvqz, Hqz⟩⟩ (M.e_opt hx12z hg) _ (H.give (A := []) rfl)).mono fun v_ w_ ⟨y_, hr_, hv_, H_⟩ => by subst hr_; exact ⟨hv_, H.via H_⟩) ?_
 intro w13z H
 refine g_val (!((decide (60 < (b_Years.length : Int))) || (decide (8 < (b_Olds.length : Int))))) (gy_f rfl) (fun hg => x_not (b := r4) (gd_of (c := !((decide (60 < (b_Years.length : Int))) || (decide (8 < (b_Olds.length : Int))))) hg (B r4))) ?_
 refine s_val (x_por (b := ((decide (60 < (b_Years.length : Int))) || (decide (8 < (b_Olds.length : Int))))) (r := !r4) rfl rfl (fun hb => gd_of (c := !((decide (60 < (b_Years.length : Int))) || (decide (8 < (b_Olds.length : Int))))) (by first | exact hb | (rw [hb]; rfl) | simp_all) (B (!r4)))) ?_
 refine s_val (x_as (v := B (((decide (60 < (b_Years.length : Int))) || (decide (8 < (b_Olds.length : Int)))) || (!r4))) rfl) ?_
 refine s_nil ?_
 refine W.cond (((decide (60 < (b_Years.length : Int))) || (decide (8 < (b_Olds.length : Int)))) || (!r4)) rfl (fun c14z => ?_) (fun c14z => ?_)
 ·replace hM := M.e_t hM c14z
  refine W.seq ?_
  refine W.region rfl ?_
  refine s_val (x_as (v := I 3) rfl) ?_
  refine s_nil ?_
  refine W.ret ?_
  have hr_ := M.e_pure hM
  exact ⟨_, resE_tmp rfl, ⟨3, hr_, rfl, (H.pick [] (by decide) rfl)⟩⟩
 replace hM := M.e_f hM c14z
 refine W.skip ?_
 refine W.seq ?_
 refine W.seq ?_
 refine W.region rfl ?_
 refine s_val (x_fa (a := .pointer (some ⟨b_1, 0, none⟩)) (v := .pointer (some ⟨b_1, 0, none⟩)) rfl (fa_blk (o := 0) Fd26_0 Sz23)) ?_
 refine s_val (x_ld (p := .pointer (some ⟨b_1, 0, none⟩)) (v := v_b_Years) rfl (ldb_sc Sc23 (H.blk (k := 0) rfl) rfl)) ?_
 have hl15z := (hs_b_Years).len_le
 refine s_val (x_lenS T23.und rfl hs_b_Years) ?_
 refine s_val (x_mv (v := I 0) rfl) ?_
 refine s_nil ?_
 refine W.block ?_
 obtain ⟨ex16z, hi17z, hk18z⟩ := M.e_bind hM
 obtain ⟨m0_, hi17z⟩ := M.e_iter hi17z
 refine W.loop (fun m σ W => ∃ (s : Nat) (ρ : Env), σ = upds ρ [(1, .pointer (some ⟨b_1, 0, none⟩)), (46, v_b_Years), (47, I (b_Years.length : Int)), (48, I (s : Int))] /\ M.iterN (zax b_Years b_Olds b_First b_Last) m s = some ex16z /\ St w W [cBlk b_1 [v_b_Years, v_b_Olds, I b_First, I b_Last] 26] R) ?_ ?_
 ·exact ⟨_, 0, _, upds_of _ _ ⟨rfl, rfl, rfl, rfl, trivial⟩, hi17z, H⟩
 rintro m21z σ w19z ⟨s, ρ, rfl, hI20z, H⟩
 obtain ⟨m22z, lt23z, x24z, hM, hN25z⟩ := M.e_iterN hI20z
 simp only [zax] at hM
 clear hI20z
 refine W.seq ?_
 refine W.region rfl ?_
 refine s_val (x_cmp (kd := .i64) (a := (s : Int)) (b := (b_Years.length : Int)) (r := decide ((s : Int) < (b_Years.length : Int))) rfl rfl rfl) ?_
 refine s_nil ?_
 refine W.seq ?_
 refine W.cond (decide ((s : Int) < (b_Years.length : Int))) rfl (fun c26z => ?_) (fun c26z => ?_)
 ·replace hM := M.e_t hM c26z
  simp only [decide_eq_true_eq, decide_eq_false_iff_not, beq_iff_eq, bne_iff_ne, beq_eq_false_iff_ne, bne_eq_false_iff_eq, ne_eq, Decidable.not_not] at c26z
  refine W.skip ?_
  refine W.seq ?_
  refine W.block ?_
  refine W.seq ?_
  refine W.region rfl ?_
  refine s_val (x_mv (v := I (s : Int)) rfl) ?_
  obtain ⟨sd27z, hM⟩ := M.e_grd hM
  simp only [Bool.and_eq_true, decide_eq_true_eq] at sd27z
  refine s_val (x_ix (a := v_b_Years) (b := I (s : Int)) (v := vat v_b_Years 3 (Int.toNat (s : Int))) rfl rfl (Sl.ix (α := Yr) T23.und T23.size hs_b_Years (by omega) (by omega))) ?_
  refine s_val (x_ld (p := vat v_b_Years 3 (Int.toNat (s : Int))) (v := .agg #[I ((b_Years.getD s default).year), I ((b_Years.getD s default).lo), I ((b_Years.getD s default).hi)]) rfl (ld_ag Ag41 Sz41 (At.mono (Yr_atA hs_b_Years (i := (s : Int)) (by omega) (by omega)) (hC_b_Years.at H)))) ?_
  refine t_alloc (cs := [I 0, I 0, I 0]) H Al41 rfl ?_
  intro b_2 w28z H
  refine s_val (x_as (v := I (s : Int)) rfl) ?_
  refine t_st (k := 0) (b := b_2) (off := 0) (cs := [I 0, I 0, I 0]) (vs := [I ((b_Years.getD s default).year), I ((b_Years.getD s default).lo), I ((b_Years.getD s default).hi)]) (cs' := [I ((b_Years.getD s default).year), I ((b_Years.getD s default).lo), I ((b_Years.getD s default).hi)]) (v := .agg #[I ((b_Years.getD s default).year), I ((b_Years.getD s default).lo), I ((b_Years.getD s default).hi)]) (L' := [cBlk b_2 [I ((b_Years.getD s default).year), I ((b_Years.getD s default).lo), I ((b_Years.getD s default).hi)] 41, cBlk b_1 [v_b_Years, v_b_Olds, I b_First, I b_Last] 26]) H rfl rfl rfl Sz41 rfl rfl rfl rfl rfl rfl ?_
  intro w29z H
  refine s_nil ?_
  refine W.block ?_
  refine W.seq ?_
  refine W.region rfl ?_
  refine s_val (x_ld (p := .pointer (some ⟨b_1, 0, none⟩)) (v := .agg #[v_b_Years, v_b_Olds, I b_First, I b_Last]) rfl (ldb_ag (ds := [v_b_Years, v_b_Olds, I b_First, I b_Last]) Ag26 Sz26 (H.blk (k := 1) rfl) rfl rfl)) ?_
  refine s_val (x_ld (p := .pointer (some ⟨b_2, 0, none⟩)) (v := .agg #[I ((b_Years.getD s default).year), I ((b_Years.getD s default).lo), I ((b_Years.getD s default).hi)]) rfl (ldb_ag (ds := [I ((b_Years.getD s default).year), I ((b_Years.getD s default).lo), I ((b_Years.getD s default).hi)]) Ag41 Sz41 (H.blk (k := 0) rfl) rfl rfl)) ?_
  refine s_val (x_mi (v := .agg #[I ((b_Years.getD s default).year), I ((b_Years.getD s default).lo), I ((b_Years.getD s default).hi)]) Try.underlying41 (by intro m h_; cases h_) rfl) ?_
  obtain ⟨r31z, hx30z, hM⟩ := M.e_bind hM
  refine s_call cf71 [.agg #[v_b_Years, v_b_Olds, I b_First, I b_Last], .iface 41 (.agg #[I ((b_Years.getD s default).year), I ((b_Years.getD s default).lo), I ((b_Years.getD s default).hi)])] rfl (zco b_Years b_Olds b_First b_Last (b_Years.getD s default) (hC_b_Years.app _) hs_b_Years (hC_b_Olds.app _) hs_b_Olds hx30z _ (St.give (T := [cBlk b_2 [I ((b_Years.getD s default).year), I ((b_Years.getD s default).lo), I ((b_Years.getD s default).hi)] 41, cBlk b_1 [v_b_Years, v_b_Olds, I b_First, I b_Last] 26]) H rfl)) ?_
  rintro vq w32z ⟨r5, hr33z, hvq, H2_⟩
  subst hr33z
  subst vq
  try dsimp only at hM
  replace H : St w w32z [cBlk b_2 [I ((b_Years.getD s default).year), I ((b_Years.getD s default).lo), I ((b_Years.getD s default).hi)] 41, cBlk b_1 [v_b_Years, v_b_Olds, I b_First, I b_Last] 26] R := H.back H2_ rfl
  clear H2_
  refine s_val (x_not (b := r5) rfl) ?_
  refine s_val (x_as (v := B (!r5)) rfl) ?_
  refine s_nil ?_
  refine W.cond (!r5) rfl (fun c34z => ?_) (fun c34z => ?_)
  ·replace hM := M.e_t hM c34z
   refine W.seq ?_
   refine W.region rfl ?_
   refine s_val (x_as (v := I 110) rfl) ?_
   refine s_nil ?_
   refine W.ret ?_
   have hX35z := M.e_inr hM hN25z
   subst hX35z
   replace hM := hk18z
   try dsimp only at hM
   have hr_ := M.e_pure hM
   exact ⟨_, resE_tmp rfl, ⟨110, hr_, rfl, (H.pick [] (by decide) rfl)⟩⟩
  replace hM := M.e_f hM c34z
  refine W.seq ?_
  refine W.draw (fun W => St w W [cBlk b_2 [I ((b_Years.getD s default).year), I ((b_Years.getD s default).lo), I ((b_Years.getD s default).hi)] 41, cBlk b_1 [v_b_Years, v_b_Olds, I b_First, I b_Last] 26] R) [(0, true), (1, true), (2, true), (3, true), (4, true), (5, true), (6, true), (7, true), (8, true), (9, true), (10, true), (11, true), (12, true), (13, true), (14, true)] mixed (by decide +kernel) rfl ?_
  intro w36z hx_
  replace H : St w w36z [cBlk b_2 [I ((b_Years.getD s default).year), I ((b_Years.getD s default).lo), I ((b_Years.getD s default).hi)] 41, cBlk b_1 [v_b_Years, v_b_Olds, I b_First, I b_Last] 26] R := H.ext hx_
  clear hx_
  refine ⟨(H.pick [0, 1] (by decide) rfl), ?_⟩
  refine d_q rfl (fun w' H => x_mv (v := I (s : Int)) rfl) ?_
  refine d_q rfl (fun w' H => x_cmp (kd := .i64) (a := (s : Int)) (b := 0) (r := decide (0 < (s : Int))) rfl rfl rfl) ?_
  refine d_q rfl (fun w' H => x_mv (v := B (decide (0 < (s : Int)))) rfl) ?_
  refine d_qg (decide (0 < (s : Int))) rfl (gy_t rfl) (fun hg => (fun w' H => x_fa (a := .pointer (some ⟨b_2, 0, none⟩)) (v := .pointer (some ⟨b_2, 0, none⟩)) rfl (fa_blk (o := 0) Fd41_0 Sz3))) ?_
  refine d_qg (decide (0 < (s : Int))) rfl (gy_t rfl) (fun hg => (fun w' H => x_ld (p := .pointer (some ⟨b_2, 0, none⟩)) (v := I ((b_Years.getD s default).year)) (gd_of (c := decide (0 < (s : Int))) hg (.pointer (some ⟨b_2, 0, none⟩))) (ldb_sc Sc3 (H.blk (k := 0) rfl) rfl))) ?_
  refine d_qg (decide (0 < (s : Int))) rfl (gy_t rfl) (fun hg => (fun w' H => x_fa (a := .pointer (some ⟨b_1, 0, none⟩)) (v := .pointer (some ⟨b_1, 0, none⟩)) rfl (fa_blk (o := 0) Fd26_0 Sz23))) ?_
  refine d_qg (decide (0 < (s : Int))) rfl (gy_t rfl) (fun hg => (fun w' H => x_ld (p := .pointer (some ⟨b_1, 0, none⟩)) (v := v_b_Years) (gd_of (c := decide (0 < (s : Int))) hg (.pointer (some ⟨b_1, 0, none⟩))) (ldb_sc Sc23 (H.blk (k := 1) rfl) rfl))) ?_
  refine d_qg (decide (0 < (s : Int))) rfl (gy_t rfl) (fun hg => (fun w' H => x_mv (v := I (s : Int)) rfl)) ?_
  obtain ⟨sd37z, hM⟩ := M.e_grd hM
  replace sd37z := M.imp_of sd37z
  simp only [Bool.and_eq_true, decide_eq_true_eq] at sd37z
  refine d_qg (decide (0 < (s : Int))) rfl (gy_t rfl) (fun hg => (fun w' H => x_ari (a := (s : Int)) (b := 1) (r := (s : Int) - 1) (gd_of (c := decide (0 < (s : Int))) hg (I (s : Int))) rfl rfl (by have h1_ := sd37z.resolve_left (by rw [hg]; decide); first | exact h1_ | exact h1_.1 | exact h1_.2 | omega | (have hx_ := hg; simp at hx_; omega)))) ?_
  obtain ⟨sd38z, hM⟩ := M.e_grd hM
  replace sd38z := M.imp_of sd38z
  simp only [Bool.and_eq_true, decide_eq_true_eq] at sd38z
  refine d_qg (decide (0 < (s : Int))) rfl (gy_t rfl) (fun hg => (fun w' H => x_ix (a := v_b_Years) (b := I ((s : Int) - 1)) (v := vat v_b_Years 3 (Int.toNat ((s : Int) - 1))) (gd_of (c := decide (0 < (s : Int))) hg (v_b_Years)) (gd_of (c := decide (0 < (s : Int))) hg (I ((s : Int) - 1))) (Sl.ix (α := Yr) T23.und T23.size hs_b_Years (by have h1_ := sd37z.resolve_left (by rw [hg]; decide); have h2_ := sd38z.resolve_left (by rw [hg]; decide); first | exact h1_ | exact h1_.1 | exact h1_.2 | exact h2_ | exact h2_.1 | exact h2_.2 | omega | (have hx_ := hg; simp at hx_; omega)) (by have h1_ := sd37z.resolve_left (by rw [hg]; decide); have h2_ := sd38z.resolve_left (by rw [hg]; decide); first | exact h1_ | exact h1_.1 | exact h1_.2 | exact h2_ | exact h2_.1 | exact h2_.2 | omega | (have hx_ := hg; simp at hx_; omega))))) ?_
  refine d_qg (decide (0 < (s : Int))) rfl (gy_t rfl) (fun hg => (fun w' H => x_fa (a := vat v_b_Years 3 (Int.toNat ((s : Int) - 1))) (v := fat (vat v_b_Years 3 (Int.toNat ((s : Int) - 1))) 0) (gd_of (c := decide (0 < (s : Int))) hg (vat v_b_Years 3 (Int.toNat ((s : Int) - 1)))) (fa_pl Fd41_0 Sz3 (Sl.pl (i := (s : Int) - 1) hs_b_Years (by have h1_ := sd37z.resolve_left (by rw [hg]; decide); have h2_ := sd38z.resolve_left (by rw [hg]; decide); first | exact h1_ | exact h1_.1 | exact h1_.2 | exact h2_ | exact h2_.1 | exact h2_.2 | omega | (have hx_ := hg; simp at hx_; omega)) (by have h1_ := sd37z.resolve_left (by rw [hg]; decide); have h2_ := sd38z.resolve_left (by rw [hg]; decide); first | exact h1_ | exact h1_.1 | exact h1_.2 | exact h2_ | exact h2_.1 | exact h2_.2 | omega | (have hx_ := hg; simp at hx_; omega)))))) ?_
  refine d_qg (decide (0 < (s : Int))) rfl (gy_t rfl) (fun hg => (fun w' H => x_ld (p := fat (vat v_b_Years 3 (Int.toNat ((s : Int) - 1))) 0) (v := I ((b_Years.getD (Int.toNat ((s : Int) - 1)) default).year)) (gd_of (c := decide (0 < (s : Int))) hg (fat (vat v_b_Years 3 (Int.toNat ((s : Int) - 1))) 0)) (ld_sc Sc3 (At.mono (Yr_at0 hs_b_Years (i := (s : Int) - 1) (by have h1_ := sd37z.resolve_left (by rw [hg]; decide); have h2_ := sd38z.resolve_left (by rw [hg]; decide); first | exact h1_ | exact h1_.1 | exact h1_.2 | exact h2_ | exact h2_.1 | exact h2_.2 | omega | (have hx_ := hg; simp at hx_; omega)) (by have h1_ := sd37z.resolve_left (by rw [hg]; decide); have h2_ := sd38z.resolve_left (by rw [hg]; decide); first | exact h1_ | exact h1_.1 | exact h1_.2 | exact h2_ | exact h2_.1 | exact h2_.2 | omega | (have hx_ := hg; simp at hx_; omega))) (hC_b_Years.at H))))) ?_
  refine d_qg (decide (0 < (s : Int))) rfl (gy_t rfl) (fun hg => (fun w' H => x_cmp (kd := .i64) (a := (b_Years.getD s default).year) (b := (b_Years.getD (Int.toNat ((s : Int) - 1)) default).year) (r := decide (((b_Years.getD s default).year) <= ((b_Years.getD (Int.toNat ((s : Int) - 1)) default).year))) (gd_of (c := decide (0 < (s : Int))) hg (I ((b_Years.getD s default).year))) (gd_of (c := decide (0 < (s : Int))) hg (I ((b_Years.getD (Int.toNat ((s : Int) - 1)) default).year))) rfl)) ?_
  refine d_q rfl (fun w' H => x_pand (b := decide (0 < (s : Int))) (r := decide (((b_Years.getD s default).year) <= ((b_Years.getD (Int.toNat ((s : Int) - 1)) default).year))) rfl (fun hb => gd_of (c := decide (0 < (s : Int))) (by first | exact hb | (rw [hb]; rfl) | simp_all) (B (decide (((b_Years.getD s default).year) <= ((b_Years.getD (Int.toNat ((s : Int) - 1)) default).year))))) rfl) ?_
  refine d_q rfl (fun w' H => x_as (v := B ((decide (0 < (s : Int))) && (decide (((b_Years.getD s default).year) <= ((b_Years.getD (Int.toNat ((s : Int) - 1)) default).year))))) rfl) ?_
  refine d_nil ?_
  refine W.cond ((decide (0 < (s : Int))) && (decide (((b_Years.getD s default).year) <= ((b_Years.getD (Int.toNat ((s : Int) - 1)) default).year)))) rfl (fun c39z => ?_) (fun c39z => ?_)
  ·replace hM := M.e_t hM c39z
   refine W.seq ?_
   refine W.region rfl ?_
   refine s_val (x_as (v := I 9) rfl) ?_
   refine s_nil ?_
   refine W.ret ?_
   have hX40z := M.e_inr hM hN25z
   subst hX40z
   replace hM := hk18z
   try dsimp only at hM
   have hr_ := M.e_pure hM
   exact ⟨_, resE_tmp rfl, ⟨9, hr_, rfl, (H.pick [] (by decide) rfl)⟩⟩
  replace hM := M.e_f hM c39z
  refine W.skip ?_
  refine W.region rfl ?_
  refine s_val (x_ari (a := (s : Int)) (b := 1) (r := (s : Int) + 1) rfl rfl rfl (by omega)) ?_
  refine s_val (x_mv (v := I ((s : Int) + 1)) rfl) ?_
  refine s_nil ?_
  exact ⟨m22z, lt23z, s + 1, _, upds_of _ _ ⟨rfl, rfl, rfl, rfl, trivial⟩, M.e_inl hM hN25z, (H.pick [1] (by decide) rfl)⟩
 replace hM := M.e_f hM c26z
 simp only [decide_eq_true_eq, decide_eq_false_iff_not, beq_iff_eq, bne_iff_ne, beq_eq_false_iff_ne, bne_eq_false_iff_eq, ne_eq, Decidable.not_not] at c26z
 refine W.exit ?_
 have hX41z := M.e_inr hM hN25z
 subst hX41z
 replace hM := hk18z
 try dsimp only at hM
 refine W.seq ?_
 refine W.seq ?_
 refine W.region rfl ?_
 refine s_val (x_fa (a := .pointer (some ⟨b_1, 0, none⟩)) (v := .pointer (some ⟨b_1, 1, none⟩)) rfl (fa_blk (o := 0) Fd26_1 Sz24)) ?_
 refine s_val (x_ld (p := .pointer (some ⟨b_1, 1, none⟩)) (v := v_b_Olds) rfl (ldb_sc Sc24 (H.blk (k := 0) rfl) rfl)) ?_
 refine s_val (x_mf (fs := []) (cs := [.pointer (some ⟨b_1, 0, none⟩)]) rfl rfl) ?_
 obtain ⟨r43z, hx42z, hM⟩ := M.e_bind hM
 refine s_call cf87 [v_b_Olds, .func (.func 88) #[] #[.pointer (some ⟨b_1, 0, none⟩)]] rfl (zbW b_Olds (fun xqz => zaH xqz b_Years b_Olds b_First b_Last) (hC_b_Olds.app _) hs_b_Olds ⟨88, [.pointer (some ⟨b_1, 0, none⟩)], rfl, cf88, fun wqz Lqz Cqz vqz xqz bqz hsqz hCqz hAqz hpqz => by obtain ⟨sv_, rfl, hs_x⟩ := Old10_arg hAqz; exact (zcr xqz b_Years b_Olds b_First b_Last hCqz hs_x (Reads.app (hC_b_Years.app _) _) hs_b_Years (Reads.app (hC_b_Olds.app _) _) hs_b_Olds (Has.app (Has.here (k := 0) rfl) _) hpqz wqz (St.refl hsqz)).mono fun vqz wqz ⟨yqz, hrqz, hvqz, Hqz⟩ => by subst hrqz; exact ⟨hvqz, Hqz⟩⟩ hx42z _ (St.give (T := [cBlk b_1 [v_b_Years, v_b_Olds, I b_First, I b_Last] 26]) H rfl)) ?_
 rintro vq w44z ⟨r6, hr45z, hvq, H2_⟩
 subst hr45z
 subst vq
 try dsimp only at hM
 replace H : St w w44z [cBlk b_1 [v_b_Years, v_b_Olds, I b_First, I b_Last] 26] R := H.back H2_ rfl
 clear H2_
 refine s_val (x_not (b := r6) rfl) ?_
 refine s_nil ?_
 refine W.cond (!r6) rfl (fun c46z => ?_) (fun c46z => ?_)
 ·replace hM := M.e_t hM c46z
  refine W.seq ?_
  refine W.region rfl ?_
  refine s_val (x_as (v := I 110) rfl) ?_
  refine s_nil ?_
  refine W.ret ?_
  have hr_ := M.e_pure hM
  exact ⟨_, resE_tmp rfl, ⟨110, hr_, rfl, (H.pick [] (by decide) rfl)⟩⟩
 replace hM := M.e_f hM c46z
 refine W.skip ?_
 refine W.seq ?_
 refine W.region rfl ?_
 refine s_val (x_as (v := I 0) rfl) ?_
 refine s_nil ?_
 refine W.ret ?_
 have hr_ := M.e_pure hM
 exact ⟨_, resE_tmp rfl, ⟨0, hr_, rfl, (H.pick [] (by decide) rfl)⟩⟩

def zaN (s : List Int) (v : Int) : Nat -> M (Nat ⊕ (Int ⊕ Unit)) := fun s2 =>
  bif decide ((s2 : Int) < (s.length : Int)) then (
  M.grd (decide ((s2 : Int) < (s.length : Int))) <|
  bif v == (s.getD s2 0) then (
  M.pure (.inr (.inl (s2 : Int))))
  else (
  M.pure (.inl (s2 + 1))))
  else (
  M.pure (.inr (.inr ())))
def zaY (s : List Int) (v : Int) : M Int :=
  M.bind (M.iter (zaN s v) 0) fun x_ => match x_ with
  | (.inl s3) => (
  M.pure s3)
  | (.inr (_ : Unit)) => (
  M.pure (-1))
theorem zcw {R : List Chunk} {C_s : Cells} {v_s : Value} (s : List Int) (v : Int) (hC_s : Reads R C_s) (hs_s : Sl C_s v_s s) {r : Int} (hM : (zaY s v).Ends r) (w : World) (H : St w w [] R) : Ret Try.prog 112 #[v_s, I v] w fun v w' => ∃ (y0 : Int), y0 = r /\ v = I y0 /\ St w w' [] R := by
 refine ret_of_W Try.func112 rfl rfl rfl ?_
 refine W.seq ?_
 refine W.region rfl ?_
 refine s_val (x_as (v := I 0) rfl) ?_
 refine s_nil ?_
 refine W.seq ?_
 refine W.seq ?_
 refine W.region rfl ?_
 refine s_val (x_mv (v := v_s) rfl) ?_
 have hl1z := (hs_s).len_le
 refine s_val (x_lenS T27.und rfl hs_s) ?_
 refine s_val (x_mv (v := I 0) rfl) ?_
 refine s_nil ?_
 refine W.block ?_
 obtain ⟨ex2z, hi3z, hk4z⟩ := M.e_bind hM
 obtain ⟨m0_, hi3z⟩ := M.e_iter hi3z
 refine W.loop (fun m σ W => ∃ (s2 : Nat) (ρ : Env), σ = upds ρ [(0, v_s), (1, I v), (7, I (s.length : Int)), (8, I (s2 : Int))] /\ M.iterN (zaN s v) m s2 = some ex2z /\ St w W [] R) ?_ ?_
 ·exact ⟨_, 0, _, upds_of _ _ ⟨rfl, rfl, rfl, rfl, trivial⟩, hi3z, H⟩
 rintro m7z σ w5z ⟨s2, ρ, rfl, hI6z, H⟩
 obtain ⟨m8z, lt9z, x10z, hM, hN11z⟩ := M.e_iterN hI6z
 simp only [zaN] at hM
 clear hI6z
 refine W.seq ?_
 refine W.region rfl ?_
 refine s_val (x_cmp (kd := .i64) (a := (s2 : Int)) (b := (s.length : Int)) (r := decide ((s2 : Int) < (s.length : Int))) rfl rfl rfl) ?_
 refine s_nil ?_
 refine W.seq ?_
 refine W.cond (decide ((s2 : Int) < (s.length : Int))) rfl (fun c12z => ?_) (fun c12z => ?_)
 ·replace hM := M.e_t hM c12z
  simp only [decide_eq_true_eq, decide_eq_false_iff_not, beq_iff_eq, bne_iff_ne, beq_eq_false_iff_ne, bne_eq_false_iff_eq, ne_eq, Decidable.not_not] at c12z
  refine W.skip ?_
  refine W.seq ?_
  refine W.block ?_
  refine W.seq ?_
  refine W.region rfl ?_
  refine s_val (x_mv (v := I (s2 : Int)) rfl) ?_
  refine s_val (x_as (v := I (s2 : Int)) rfl) ?_
  refine s_nil ?_
  refine W.seq ?_
  refine W.region rfl ?_
  refine s_val (x_mv (v := I v) rfl) ?_
  refine s_val (x_mv (v := v_s) rfl) ?_
  refine s_val (x_mv (v := I (s2 : Int)) rfl) ?_
  obtain ⟨sd13z, hM⟩ := M.e_grd hM
  simp only [Bool.and_eq_true, decide_eq_true_eq] at sd13z
  refine s_val (x_ix (a := v_s) (b := I (s2 : Int)) (v := vat v_s 1 (Int.toNat (s2 : Int))) rfl rfl (Sl.ix (α := Int) T27.und T27.size hs_s (by omega) (by omega))) ?_
  refine s_val (x_ld (p := vat v_s 1 (Int.toNat (s2 : Int))) (v := I (s.getD s2 0)) rfl (ld_sc Sc3 (At.mono (Int_at hs_s (i := (s2 : Int)) (by omega) (by omega)) (hC_s.at H)))) ?_
  refine s_val (x_cmp (kd := .i64) (a := v) (b := s.getD s2 0) (r := v == (s.getD s2 0)) rfl rfl rfl) ?_
  refine s_nil ?_
  refine W.cond (v == (s.getD s2 0)) rfl (fun c14z => ?_) (fun c14z => ?_)
  ·replace hM := M.e_t hM c14z
   simp only [decide_eq_true_eq, decide_eq_false_iff_not, beq_iff_eq, bne_iff_ne, beq_eq_false_iff_ne, bne_eq_false_iff_eq, ne_eq, Decidable.not_not] at c14z
   refine W.seq ?_
   refine W.region rfl ?_
   refine s_val (x_mv (v := I (s2 : Int)) rfl) ?_
   refine s_val (x_as (v := I (s2 : Int)) rfl) ?_
   refine s_nil ?_
   refine W.ret ?_
   have hX15z := M.e_inr hM hN11z
   subst hX15z
   replace hM := hk4z
   try dsimp only at hM
   have hr_ := M.e_pure hM
   exact ⟨_, resE_tmp rfl, ⟨(s2 : Int), hr_, rfl, H⟩⟩
  replace hM := M.e_f hM c14z
  simp only [decide_eq_true_eq, decide_eq_false_iff_not, beq_iff_eq, bne_iff_ne, beq_eq_false_iff_ne, bne_eq_false_iff_eq, ne_eq, Decidable.not_not] at c14z
  refine W.skip ?_
  refine W.region rfl ?_
  refine s_val (x_ari (a := (s2 : Int)) (b := 1) (r := (s2 : Int) + 1) rfl rfl rfl (by omega)) ?_
  refine s_val (x_mv (v := I ((s2 : Int) + 1)) rfl) ?_
  refine s_nil ?_
  exact ⟨m8z, lt9z, s2 + 1, _, upds_of _ _ ⟨rfl, rfl, rfl, rfl, trivial⟩, M.e_inl hM hN11z, H⟩
 replace hM := M.e_f hM c12z
 simp only [decide_eq_true_eq, decide_eq_false_iff_not, beq_iff_eq, bne_iff_ne, beq_eq_false_iff_ne, bne_eq_false_iff_eq, ne_eq, Decidable.not_not] at c12z
 refine W.exit ?_
 have hX16z := M.e_inr hM hN11z
 subst hX16z
 replace hM := hk4z
 try dsimp only at hM
 refine W.seq ?_
 refine W.region rfl ?_
 refine s_val (x_as (v := I (-1)) rfl) ?_
 refine s_nil ?_
 refine W.ret ?_
 have hr_ := M.e_pure hM
 exact ⟨_, resE_tmp rfl, ⟨(-1), hr_, rfl, H⟩⟩

def za6 (s : List Int) (v : Int) : M Bool :=
  M.bind (zaY s v) fun r2 =>
  M.pure (decide (0 <= r2))
theorem zcD {R : List Chunk} {C_s : Cells} {v_s : Value} (s : List Int) (v : Int) (hC_s : Reads R C_s) (hs_s : Sl C_s v_s s) {r : Bool} (hM : (za6 s v).Ends r) (w : World) (H : St w w [] R) : Ret Try.prog 95 #[v_s, I v] w fun v w' => ∃ (y0 : Bool), y0 = r /\ v = B y0 /\ St w w' [] R := by
 refine ret_of_W Try.func95 rfl rfl rfl ?_
 refine W.seq ?_
 refine W.region rfl ?_
 refine s_val (x_as (v := B false) rfl) ?_
 refine s_nil ?_
 refine W.seq ?_
 refine W.region rfl ?_
 refine s_val (x_mv (v := v_s) rfl) ?_
 refine s_val (x_mv (v := I v) rfl) ?_
 obtain ⟨r2z, hx1z, hM⟩ := M.e_bind hM
 refine s_call cf112 [v_s, I v] rfl (zcw s v (hC_s.app _) hs_s hx1z _ (St.give (T := []) H rfl)) ?_
 rintro vq w3z ⟨r2, hr4z, hvq, H2_⟩
 subst hr4z
 subst vq
 try dsimp only at hM
 replace H : St w w3z [] R := H.back H2_ rfl
 clear H2_
 refine s_val (x_cmp (kd := .i64) (a := r2) (b := 0) (r := decide (0 <= r2)) rfl rfl rfl) ?_
 refine s_val (x_as (v := B (decide (0 <= r2))) rfl) ?_
 refine s_nil ?_
 refine W.ret ?_
 have hr_ := M.e_pure hM
 exact ⟨_, resE_tmp rfl, ⟨(decide (0 <= r2)), hr_, rfl, H⟩⟩

def zaA (b_Last : Int) : ((List (Int × Span)) × Int) -> M (((List (Int × Span)) × Int) ⊕ (List (Int × Span))) := fun (mp, year) =>
  bif decide (year <= b_Last) then (
  M.grd (decide ((-9223372036854775808 : Int) <= (year + 1)) && decide ((year + 1) <= (9223372036854775807 : Int))) <|
  M.pure (.inl (setM mp (year : Int) (⟨(0 : Int), (2000 : Int)⟩ : Span), year + 1)))
  else (
  M.pure (.inr mp))
def zar (b_Years : List Yr) : ((List (Int × Span)) × Nat) -> M (((List (Int × Span)) × Nat) ⊕ (List (Int × Span))) := fun (mp3, s) =>
  bif decide ((s : Int) < (b_Years.length : Int)) then (
  M.grd (decide ((s : Int) < (b_Years.length : Int))) <|
  bif !(decide ((b_Years.getD s default) = (⟨((b_Years.getD s default).year : Int), (((lookM mp3 ((b_Years.getD s default).year : Int)).getD default).lo : Int), (((lookM mp3 ((b_Years.getD s default).year : Int)).getD default).hi : Int)⟩ : Yr))) then (
  M.pure (.inl (setM mp3 ((b_Years.getD s default).year : Int) (⟨((b_Years.getD s default).lo : Int), ((b_Years.getD s default).hi : Int)⟩ : Span), s + 1)))
  else (
  M.pure (.inl (mp3, s + 1))))
  else (
  M.pure (.inr mp3))
def zaQ (b_Olds : List Old10) (ky : Int) : (Nat × Int × Int) -> M ((Nat × Int × Int) ⊕ (Int × Int)) := fun (s2, s3, s4) =>
  bif decide ((s2 : Int) < (b_Olds.length : Int)) then (
  M.grd (decide ((s2 : Int) < (b_Olds.length : Int))) <|
  M.bind (zab ky ((b_Olds.getD s2 default).src) ((b_Olds.getD s2 default).dst)) fun r3 =>
  bif !r3 then (
  M.pure (.inl (s2 + 1, s3, s4)))
  else (
  M.bind (za6 ((b_Olds.getD s2 default).passed) ky) fun r4 =>
  bif r4 then (
  M.pure (.inl (s2 + 1, max s3 ((b_Olds.getD s2 default).stage), s4)))
  else (
  M.grd (decide ((-9223372036854775808 : Int) <= (((b_Olds.getD s2 default).stage) - 1)) && decide ((((b_Olds.getD s2 default).stage) - 1) <= (9223372036854775807 : Int))) <|
  M.pure (.inl (s2 + 1, s3, min s4 (((b_Olds.getD s2 default).stage) - 1))))))
  else (
  M.pure (.inr (s3, s4)))
def zaO (b_Olds : List Old10) (ky : Int) (vl : Span) : M Span :=
  M.bind (M.iter (zaQ b_Olds ky) (0, (vl).lo, (vl).hi)) fun (s5, s6) =>
  M.pure (⟨(s5 : Int), (s6 : Int)⟩ : Span)
def zay (b_Years : List Yr) (b_Olds : List Old10) (b_First : Int) (b_Last : Int) : M (Int ⊕ (Int × Int × (List (Int × Span)) × Int)) :=
  M.bind (zbd b_Years b_Olds b_First b_Last) fun r2 =>
  bif r2 != 0 then (
  M.pure (.inl r2))
  else (
  M.bind (M.iter (zaA b_Last) (([] : List (Int × Span)), b_First)) fun mp2 =>
  M.bind (M.iter (zar b_Years) (mp2, 0)) fun mp4 =>
  M.bind (M.mapL (zaO b_Olds) mp4) fun mq =>
  M.pure (.inr (b_First, b_Last, mq, 0)))
theorem zcC {R : List Chunk} {C_b_Years : Cells} {v_b_Years : Value} {C_b_Olds : Cells} {v_b_Olds : Value} (b_Years : List Yr) (b_Olds : List Old10) (b_First : Int) (b_Last : Int) (hC_b_Years : Reads R C_b_Years) (hs_b_Years : Sl C_b_Years v_b_Years b_Years) (hC_b_Olds : Reads R C_b_Olds) (hs_b_Olds : Sl C_b_Olds v_b_Olds b_Olds) {r : (Int ⊕ (Int × Int × (List (Int × Span)) × Int))} (hM : (zay b_Years b_Olds b_First b_Last).Ends r) (w : World) (H : St w w [] R) : Ret Try.prog 62 #[.agg #[v_b_Years, v_b_Olds, I b_First, I b_Last]] w fun v w' => (∃ (y0 : Int), (.inl y0) = r /\ v = .tuple #[.pointer none, I y0] /\ St w w' [] R) ∨ (∃ (y0 : Int) (y1 : Int) (y2 : List (Int × Span)) (y3 : Int) (nb0 : Nat) (nb1 : Nat), (.inr (y0, y1, y2, y3)) = r /\ v = .tuple #[.pointer (some ⟨nb0, 0, none⟩), I y3] /\ St w w' [cBlk nb0 [v_b_Years, v_b_Olds, I y0, I y1, .map (some nb1)] 126, cMl I encSp nb1 y2] R) := by
 refine ret_of_W Try.func62 rfl rfl rfl ?_
 refine W.seq ?_
 refine W.region rfl ?_
 refine t_box (v := .agg #[v_b_Years, v_b_Olds, I b_First, I b_Last]) (cs := [v_b_Years, v_b_Olds, I b_First, I b_Last]) H rfl rfl ?_
 intro b_1 w1z H
 refine s_val (x_as (v := .pointer none) rfl) ?_
 refine s_val (x_as (v := I 0) rfl) ?_
 refine s_nil ?_
 refine W.seq ?_
 refine W.seq ?_
 refine W.region rfl ?_
 refine s_val (x_ld (p := .pointer (some ⟨b_1, 0, none⟩)) (v := .agg #[v_b_Years, v_b_Olds, I b_First, I b_Last]) rfl (ldb_ag (ds := [v_b_Years, v_b_Olds, I b_First, I b_Last]) Ag26 Sz26 (H.blk (k := 0) rfl) rfl rfl)) ?_
 obtain ⟨r3z, hx2z, hM⟩ := M.e_bind hM
 refine s_call cf47 [.agg #[v_b_Years, v_b_Olds, I b_First, I b_Last]] rfl (zcq b_Years b_Olds b_First b_Last (hC_b_Years.app _) hs_b_Years (hC_b_Olds.app _) hs_b_Olds hx2z _ (St.give (T := [cBlk b_1 [v_b_Years, v_b_Olds, I b_First, I b_Last] 26]) H rfl)) ?_
 rintro vq w4z ⟨r2, hr5z, hvq, H2_⟩
 subst hr5z
 subst vq
 try dsimp only at hM
 replace H : St w w4z [cBlk b_1 [v_b_Years, v_b_Olds, I b_First, I b_Last] 26] R := H.back H2_ rfl
 clear H2_
 refine s_val (x_as (v := I r2) rfl) ?_
 refine s_nil ?_
 refine W.seq ?_
 refine W.region rfl ?_
 refine s_val (x_mv (v := I r2) rfl) ?_
 refine s_val (x_cmp (kd := .i64) (a := r2) (b := 0) (r := r2 != 0) rfl rfl rfl) ?_
 refine s_nil ?_
 refine W.cond (r2 != 0) rfl (fun c6z => ?_) (fun c6z => ?_)
 ·replace hM := M.e_t hM c6z
  simp only [decide_eq_true_eq, decide_eq_false_iff_not, beq_iff_eq, bne_iff_ne, beq_eq_false_iff_ne, bne_eq_false_iff_eq, ne_eq, Decidable.not_not] at c6z
  refine W.seq ?_
  refine W.region rfl ?_
  refine s_val (x_mv (v := I r2) rfl) ?_
  refine s_val (x_as (v := .pointer none) rfl) ?_
  refine s_val (x_as (v := I r2) rfl) ?_
  refine s_nil ?_
  refine W.ret ?_
  have hr_ := M.e_pure hM
  exact ⟨_, resE_tmp2 rfl, .inl (⟨r2, hr_, rfl, (H.pick [] (by decide) rfl)⟩)⟩
 replace hM := M.e_f hM c6z
 simp only [decide_eq_true_eq, decide_eq_false_iff_not, beq_iff_eq, bne_iff_ne, beq_eq_false_iff_ne, bne_eq_false_iff_eq, ne_eq, Decidable.not_not] at c6z
 refine W.skip ?_
 refine W.seq ?_
 refine W.region rfl ?_
 refine s_val (x_ld (p := .pointer (some ⟨b_1, 0, none⟩)) (v := .agg #[v_b_Years, v_b_Olds, I b_First, I b_Last]) rfl (ldb_ag (ds := [v_b_Years, v_b_Olds, I b_First, I b_Last]) Ag26 Sz26 (H.blk (k := 0) rfl) rfl rfl)) ?_
 refine t_mkMl (κ := Int) (ν := Span) I encSp H ?_
 intro b_2 w7z H
 refine s_val (x_bld (ps := [(0, .agg #[v_b_Years, v_b_Olds, I b_First, I b_Last]), (1, .map (some b_2))]) (zs := [.slice none 0 0, .slice none 0 0, I 0, I 0, .map none]) (L' := [v_b_Years, v_b_Olds, I b_First, I b_Last, .map (some b_2)]) rfl Try.underlying126 Al126 rfl (Bd126 Try.underlying126) (.cons (cs := [v_b_Years, v_b_Olds, I b_First, I b_Last]) rfl rfl rfl rfl rfl <| .cons (cs := [.map (some b_2)]) rfl rfl rfl rfl rfl <| .nil)) ?_
 refine t_box (v := .agg #[v_b_Years, v_b_Olds, I b_First, I b_Last, .map (some b_2)]) (cs := [v_b_Years, v_b_Olds, I b_First, I b_Last, .map (some b_2)]) H rfl rfl ?_
 intro b_3 w8z H
 refine s_val (x_as (v := .pointer (some ⟨b_3, 0, none⟩)) rfl) ?_
 refine s_nil ?_
 refine W.seq ?_
 refine W.seq ?_
 refine W.region rfl ?_
 refine s_val (x_fa (a := .pointer (some ⟨b_1, 0, none⟩)) (v := .pointer (some ⟨b_1, 2, none⟩)) rfl (fa_blk (o := 0) Fd26_2 Sz3)) ?_
 refine s_val (x_ld (p := .pointer (some ⟨b_1, 2, none⟩)) (v := I b_First) rfl (ldb_sc Sc3 (H.blk (k := 2) rfl) rfl)) ?_
 refine s_val (x_as (v := I b_First) rfl) ?_
 refine s_nil ?_
 refine W.block ?_
 obtain ⟨ex9z, hi10z, hk11z⟩ := M.e_bind hM
 obtain ⟨m0_, hi10z⟩ := M.e_iter hi10z
 refine W.loop (fun m σ W => ∃ (mp : List (Int × Span)) (year : Int) (ρ : Env), σ = upds ρ [(1, .pointer (some ⟨b_1, 0, none⟩)), (5, .pointer (some ⟨b_3, 0, none⟩)), (6, I year)] /\ M.iterN (zaA b_Last) m (mp, year) = some ex9z /\ St w W [cBlk b_3 [v_b_Years, v_b_Olds, I b_First, I b_Last, .map (some b_2)] 126, cMl I encSp b_2 mp, cBlk b_1 [v_b_Years, v_b_Olds, I b_First, I b_Last] 26] R) ?_ ?_
 ·exact ⟨_, ([] : List (Int × Span)), b_First, _, upds_of _ _ ⟨rfl, rfl, rfl, trivial⟩, hi10z, H⟩
 rintro m14z σ w12z ⟨mp, year, ρ, rfl, hI13z, H⟩
 obtain ⟨m15z, lt16z, x17z, hM, hN18z⟩ := M.e_iterN hI13z
 simp only [zaA] at hM
 clear hI13z
 refine W.seq ?_
 refine W.seq ?_
 refine W.region rfl ?_
 refine s_val (x_mv (v := I year) rfl) ?_
 refine s_val (x_fa (a := .pointer (some ⟨b_1, 0, none⟩)) (v := .pointer (some ⟨b_1, 3, none⟩)) rfl (fa_blk (o := 0) Fd26_3 Sz3)) ?_
 refine s_val (x_ld (p := .pointer (some ⟨b_1, 3, none⟩)) (v := I b_Last) rfl (ldb_sc Sc3 (H.blk (k := 2) rfl) rfl)) ?_
 refine s_val (x_cmp (kd := .i64) (a := year) (b := b_Last) (r := decide (year <= b_Last)) rfl rfl rfl) ?_
 refine s_nil ?_
 refine W.cond (decide (year <= b_Last)) rfl (fun c19z => ?_) (fun c19z => ?_)
 ·replace hM := M.e_t hM c19z
  simp only [decide_eq_true_eq, decide_eq_false_iff_not, beq_iff_eq, bne_iff_ne, beq_eq_false_iff_ne, bne_eq_false_iff_eq, ne_eq, Decidable.not_not] at c19z
  refine W.skip ?_
  refine W.seq ?_
  refine W.block ?_
  refine W.region rfl ?_
  refine s_val (x_mv (v := .pointer (some ⟨b_3, 0, none⟩)) rfl) ?_
  refine s_val (x_nc (a := ⟨b_3, 0, none⟩) rfl) ?_
  refine s_val (x_fa (a := .pointer (some ⟨b_3, 0, none⟩)) (v := .pointer (some ⟨b_3, 4, none⟩)) rfl (fa_blk (o := 0) Fd126_1 Sz124)) ?_
  refine s_val (x_ld (p := .pointer (some ⟨b_3, 4, none⟩)) (v := .map (some b_2)) rfl (ldb_sc Sc124 (H.blk (k := 0) rfl) rfl)) ?_
  refine s_val (x_mv (v := I year) rfl) ?_
  refine s_val (x_bld (ps := [(1, I 2000)]) (zs := [I 0, I 0]) (L' := [I 0, I 2000]) rfl Try.underlying35 Al35 rfl (Bd35 Try.underlying35) (.cons (cs := [I 2000]) rfl rfl rfl rfl rfl <| .nil)) ?_
  refine t_putMl (i := 1) (kenc := I) (venc := encSp) (m := mp) (k := (year : Int)) (v := (⟨(0 : Int), (2000 : Int)⟩ : Span)) (L' := [cBlk b_3 [v_b_Years, v_b_Olds, I b_First, I b_Last, .map (some b_2)] 126, cMl I encSp b_2 (setM mp (year : Int) (⟨(0 : Int), (2000 : Int)⟩ : Span)), cBlk b_1 [v_b_Years, v_b_Olds, I b_First, I b_Last] 26]) keyIntSp Try.underlying124 H rfl rfl rfl rfl rfl ?_
  intro w20z H
  refine s_nil ?_
  refine W.region rfl ?_
  refine s_val (x_mv (v := I year) rfl) ?_
  obtain ⟨sd21z, hM⟩ := M.e_grd hM
  simp only [Bool.and_eq_true, decide_eq_true_eq] at sd21z
  refine s_val (x_ari (a := year) (b := 1) (r := year + 1) rfl rfl rfl (by omega)) ?_
  refine s_val (x_as (v := I (year + 1)) rfl) ?_
  refine s_nil ?_
  exact ⟨m15z, lt16z, setM mp (year : Int) (⟨(0 : Int), (2000 : Int)⟩ : Span), year + 1, _, upds_of _ _ ⟨rfl, rfl, rfl, trivial⟩, M.e_inl hM hN18z, H⟩
 replace hM := M.e_f hM c19z
 simp only [decide_eq_true_eq, decide_eq_false_iff_not, beq_iff_eq, bne_iff_ne, beq_eq_false_iff_ne, bne_eq_false_iff_eq, ne_eq, Decidable.not_not] at c19z
 refine W.exit ?_
 have hX22z := M.e_inr hM hN18z
 subst hX22z
 replace hM := hk11z
 try dsimp only at hM
 refine W.seq ?_
 refine W.seq ?_
 refine W.region rfl ?_
 refine s_val (x_fa (a := .pointer (some ⟨b_1, 0, none⟩)) (v := .pointer (some ⟨b_1, 0, none⟩)) rfl (fa_blk (o := 0) Fd26_0 Sz23)) ?_
 refine s_val (x_ld (p := .pointer (some ⟨b_1, 0, none⟩)) (v := v_b_Years) rfl (ldb_sc Sc23 (H.blk (k := 2) rfl) rfl)) ?_
 have hl23z := (hs_b_Years).len_le
 refine s_val (x_lenS T23.und rfl hs_b_Years) ?_
 refine s_val (x_mv (v := I 0) rfl) ?_
 refine s_nil ?_
 refine W.block ?_
 obtain ⟨ex24z, hi25z, hk26z⟩ := M.e_bind hM
 obtain ⟨m0_, hi25z⟩ := M.e_iter hi25z
 refine W.loop (fun m σ W => ∃ (mp3 : List (Int × Span)) (s : Nat) (ρ : Env), σ = upds ρ [(1, .pointer (some ⟨b_1, 0, none⟩)), (5, .pointer (some ⟨b_3, 0, none⟩)), (38, v_b_Years), (39, I (b_Years.length : Int)), (40, I (s : Int))] /\ M.iterN (zar b_Years) m (mp3, s) = some ex24z /\ St w W [cBlk b_3 [v_b_Years, v_b_Olds, I b_First, I b_Last, .map (some b_2)] 126, cMl I encSp b_2 mp3, cBlk b_1 [v_b_Years, v_b_Olds, I b_First, I b_Last] 26] R) ?_ ?_
 ·exact ⟨_, mp, 0, _, upds_of _ _ ⟨rfl, rfl, rfl, rfl, rfl, trivial⟩, hi25z, H⟩
 rintro m29z σ w27z ⟨mp3, s, ρ, rfl, hI28z, H⟩
 obtain ⟨m30z, lt31z, x32z, hM, hN33z⟩ := M.e_iterN hI28z
 simp only [zar] at hM
 clear hI28z
 refine W.seq ?_
 refine W.region rfl ?_
 refine s_val (x_cmp (kd := .i64) (a := (s : Int)) (b := (b_Years.length : Int)) (r := decide ((s : Int) < (b_Years.length : Int))) rfl rfl rfl) ?_
 refine s_nil ?_
 refine W.seq ?_
 refine W.cond (decide ((s : Int) < (b_Years.length : Int))) rfl (fun c34z => ?_) (fun c34z => ?_)
 ·replace hM := M.e_t hM c34z
  simp only [decide_eq_true_eq, decide_eq_false_iff_not, beq_iff_eq, bne_iff_ne, beq_eq_false_iff_ne, bne_eq_false_iff_eq, ne_eq, Decidable.not_not] at c34z
  refine W.skip ?_
  refine W.seq ?_
  refine W.block ?_
  refine W.seq ?_
  refine W.region rfl ?_
  obtain ⟨sd35z, hM⟩ := M.e_grd hM
  simp only [Bool.and_eq_true, decide_eq_true_eq] at sd35z
  refine s_val (x_ix (a := v_b_Years) (b := I (s : Int)) (v := vat v_b_Years 3 (Int.toNat (s : Int))) rfl rfl (Sl.ix (α := Yr) T23.und T23.size hs_b_Years (by omega) (by omega))) ?_
  refine s_val (x_ld (p := vat v_b_Years 3 (Int.toNat (s : Int))) (v := .agg #[I ((b_Years.getD s default).year), I ((b_Years.getD s default).lo), I ((b_Years.getD s default).hi)]) rfl (ld_ag Ag41 Sz41 (At.mono (Yr_atA hs_b_Years (i := (s : Int)) (by omega) (by omega)) (hC_b_Years.at H)))) ?_
  refine t_alloc (cs := [I 0, I 0, I 0]) H Al41 rfl ?_
  intro b_4 w36z H
  refine t_st (k := 0) (b := b_4) (off := 0) (cs := [I 0, I 0, I 0]) (vs := [I ((b_Years.getD s default).year), I ((b_Years.getD s default).lo), I ((b_Years.getD s default).hi)]) (cs' := [I ((b_Years.getD s default).year), I ((b_Years.getD s default).lo), I ((b_Years.getD s default).hi)]) (v := .agg #[I ((b_Years.getD s default).year), I ((b_Years.getD s default).lo), I ((b_Years.getD s default).hi)]) (L' := [cBlk b_4 [I ((b_Years.getD s default).year), I ((b_Years.getD s default).lo), I ((b_Years.getD s default).hi)] 41, cBlk b_3 [v_b_Years, v_b_Olds, I b_First, I b_Last, .map (some b_2)] 126, cMl I encSp b_2 mp3, cBlk b_1 [v_b_Years, v_b_Olds, I b_First, I b_Last] 26]) H rfl rfl rfl Sz41 rfl rfl rfl rfl rfl rfl ?_
  intro w37z H
  refine s_nil ?_
  refine W.seq ?_
  refine W.draw (fun W => St w W [cBlk b_4 [I ((b_Years.getD s default).year), I ((b_Years.getD s default).lo), I ((b_Years.getD s default).hi)] 41, cBlk b_3 [v_b_Years, v_b_Olds, I b_First, I b_Last, .map (some b_2)] 126, cMl I encSp b_2 mp3, cBlk b_1 [v_b_Years, v_b_Olds, I b_First, I b_Last] 26] R) [(0, true), (1, true), (2, true), (3, true), (4, true), (5, true), (6, true), (7, true), (8, true), (9, true), (10, false), (11, false)] mixed (by decide +kernel) rfl ?_
  intro w38z hx_
  replace H : St w w38z [cBlk b_4 [I ((b_Years.getD s default).year), I ((b_Years.getD s default).lo), I ((b_Years.getD s default).hi)] 41, cBlk b_3 [v_b_Years, v_b_Olds, I b_First, I b_Last, .map (some b_2)] 126, cMl I encSp b_2 mp3, cBlk b_1 [v_b_Years, v_b_Olds, I b_First, I b_Last] 26] R := H.ext hx_
  clear hx_
  refine ⟨(H.pick [0, 1, 2, 3] (by decide) rfl), ?_⟩
  refine d_q rfl (fun w' H => x_fa (a := .pointer (some ⟨b_4, 0, none⟩)) (v := .pointer (some ⟨b_4, 0, none⟩)) rfl (fa_blk (o := 0) Fd41_0 Sz3)) ?_
  refine d_q rfl (fun w' H => x_ld (p := .pointer (some ⟨b_4, 0, none⟩)) (v := I ((b_Years.getD s default).year)) rfl (ldb_sc Sc3 (H.blk (k := 0) rfl) rfl)) ?_
  refine d_q rfl (fun w' H => x_mv (v := .pointer (some ⟨b_3, 0, none⟩)) rfl) ?_
  refine d_q rfl (fun w' H => x_nc (a := ⟨b_3, 0, none⟩) rfl) ?_
  refine d_q rfl (fun w' H => x_fa (a := .pointer (some ⟨b_3, 0, none⟩)) (v := .pointer (some ⟨b_3, 4, none⟩)) rfl (fa_blk (o := 0) Fd126_1 Sz124)) ?_
  refine d_q rfl (fun w' H => x_ld (p := .pointer (some ⟨b_3, 4, none⟩)) (v := .map (some b_2)) rfl (ldb_sc Sc124 (H.blk (k := 1) rfl) rfl)) ?_
  refine d_q rfl (fun w' H => x_fa (a := .pointer (some ⟨b_4, 0, none⟩)) (v := .pointer (some ⟨b_4, 0, none⟩)) rfl (fa_blk (o := 0) Fd41_0 Sz3)) ?_
  refine d_q rfl (fun w' H => x_ld (p := .pointer (some ⟨b_4, 0, none⟩)) (v := I ((b_Years.getD s default).year)) rfl (ldb_sc Sc3 (H.blk (k := 0) rfl) rfl)) ?_
  refine d_q rfl (fun w' H => q_look (kenc := I) (venc := encSp) (f := lookM mp3) (k := ((b_Years.getD s default).year : Int)) (v := .agg #[I (((lookM mp3 ((b_Years.getD s default).year : Int)).getD default).lo), I (((lookM mp3 ((b_Years.getD s default).year : Int)).getD default).hi)]) keyIntSp Try.underlying124 Al35 rfl rfl (mlMap (H.get (k := 2) rfl)) false (by rw [if_neg (by decide), span_val])) ?_
  refine d_q rfl (fun w' H => x_bld (ps := [(0, I ((b_Years.getD s default).year)), (1, .agg #[I (((lookM mp3 ((b_Years.getD s default).year : Int)).getD default).lo), I (((lookM mp3 ((b_Years.getD s default).year : Int)).getD default).hi)])]) (zs := [I 0, I 0, I 0]) (L' := [I ((b_Years.getD s default).year), I (((lookM mp3 ((b_Years.getD s default).year : Int)).getD default).lo), I (((lookM mp3 ((b_Years.getD s default).year : Int)).getD default).hi)]) rfl Try.underlying41 Al41 rfl (Bd41 Try.underlying41) (.cons (cs := [I ((b_Years.getD s default).year)]) rfl rfl rfl rfl rfl <| .cons (cs := [I (((lookM mp3 ((b_Years.getD s default).year : Int)).getD default).lo), I (((lookM mp3 ((b_Years.getD s default).year : Int)).getD default).hi)]) rfl rfl rfl rfl rfl <| .nil)) ?_
  refine d_l rfl ?_
  refine t_alloc (cs := [I 0, I 0, I 0]) H Al41 rfl ?_
  intro b_5 w39z H
  refine s_nil ⟨(H.pick [1, 2, 3, 4] (by decide) rfl), ?_⟩
  refine d_l rfl ?_
  refine t_st (k := 0) (b := b_5) (off := 0) (cs := [I 0, I 0, I 0]) (vs := [I ((b_Years.getD s default).year), I (((lookM mp3 ((b_Years.getD s default).year : Int)).getD default).lo), I (((lookM mp3 ((b_Years.getD s default).year : Int)).getD default).hi)]) (cs' := [I ((b_Years.getD s default).year), I (((lookM mp3 ((b_Years.getD s default).year : Int)).getD default).lo), I (((lookM mp3 ((b_Years.getD s default).year : Int)).getD default).hi)]) (v := .agg #[I ((b_Years.getD s default).year), I (((lookM mp3 ((b_Years.getD s default).year : Int)).getD default).lo), I (((lookM mp3 ((b_Years.getD s default).year : Int)).getD default).hi)]) (L' := [cBlk b_5 [I ((b_Years.getD s default).year), I (((lookM mp3 ((b_Years.getD s default).year : Int)).getD default).lo), I (((lookM mp3 ((b_Years.getD s default).year : Int)).getD default).hi)] 41, cBlk b_4 [I ((b_Years.getD s default).year), I ((b_Years.getD s default).lo), I ((b_Years.getD s default).hi)] 41, cBlk b_3 [v_b_Years, v_b_Olds, I b_First, I b_Last, .map (some b_2)] 126, cMl I encSp b_2 mp3, cBlk b_1 [v_b_Years, v_b_Olds, I b_First, I b_Last] 26]) H rfl rfl rfl Sz41 rfl rfl rfl rfl rfl rfl ?_
  intro w40z H
  refine s_nil ⟨(H.pick [1, 2, 3, 4] (by decide) rfl), ?_⟩
  refine d_nil ?_
  refine W.seq ?_
  refine W.region rfl ?_
  refine s_val (x_ld (p := .pointer (some ⟨b_4, 0, none⟩)) (v := .agg #[I ((b_Years.getD s default).year), I ((b_Years.getD s default).lo), I ((b_Years.getD s default).hi)]) rfl (ldb_ag (ds := [I ((b_Years.getD s default).year), I ((b_Years.getD s default).lo), I ((b_Years.getD s default).hi)]) Ag41 Sz41 (H.blk (k := 1) rfl) rfl rfl)) ?_
  refine s_val (x_ld (p := .pointer (some ⟨b_5, 0, none⟩)) (v := .agg #[I ((b_Years.getD s default).year), I (((lookM mp3 ((b_Years.getD s default).year : Int)).getD default).lo), I (((lookM mp3 ((b_Years.getD s default).year : Int)).getD default).hi)]) rfl (ldb_ag (ds := [I ((b_Years.getD s default).year), I (((lookM mp3 ((b_Years.getD s default).year : Int)).getD default).lo), I (((lookM mp3 ((b_Years.getD s default).year : Int)).getD default).hi)]) Ag41 Sz41 (H.blk (k := 0) rfl) rfl rfl)) ?_
  refine s_val (x_neS (eqT41 (b_Years.getD s default) (⟨((b_Years.getD s default).year : Int), (((lookM mp3 ((b_Years.getD s default).year : Int)).getD default).lo : Int), (((lookM mp3 ((b_Years.getD s default).year : Int)).getD default).hi : Int)⟩ : Yr) _) gdT41 rfl rfl) ?_
  refine s_nil ?_
  refine W.cond (!(decide ((b_Years.getD s default) = (⟨((b_Years.getD s default).year : Int), (((lookM mp3 ((b_Years.getD s default).year : Int)).getD default).lo : Int), (((lookM mp3 ((b_Years.getD s default).year : Int)).getD default).hi : Int)⟩ : Yr)))) rfl (fun c41z => ?_) (fun c41z => ?_)
  ·replace hM := M.e_t hM c41z
   refine W.draw (fun W => St w W [cBlk b_5 [I ((b_Years.getD s default).year), I (((lookM mp3 ((b_Years.getD s default).year : Int)).getD default).lo), I (((lookM mp3 ((b_Years.getD s default).year : Int)).getD default).hi)] 41, cBlk b_4 [I ((b_Years.getD s default).year), I ((b_Years.getD s default).lo), I ((b_Years.getD s default).hi)] 41, cBlk b_3 [v_b_Years, v_b_Olds, I b_First, I b_Last, .map (some b_2)] 126, cBlk b_1 [v_b_Years, v_b_Olds, I b_First, I b_Last] 26] R) [(0, true), (1, true), (2, true), (3, true), (4, true), (5, true), (6, true), (7, true), (8, false)] mixed (by decide +kernel) rfl ?_
   intro w42z hx_
   replace H : St w w42z [cBlk b_5 [I ((b_Years.getD s default).year), I (((lookM mp3 ((b_Years.getD s default).year : Int)).getD default).lo), I (((lookM mp3 ((b_Years.getD s default).year : Int)).getD default).hi)] 41, cBlk b_4 [I ((b_Years.getD s default).year), I ((b_Years.getD s default).lo), I ((b_Years.getD s default).hi)] 41, cBlk b_3 [v_b_Years, v_b_Olds, I b_First, I b_Last, .map (some b_2)] 126, cMl I encSp b_2 mp3, cBlk b_1 [v_b_Years, v_b_Olds, I b_First, I b_Last] 26] R := H.ext hx_
   clear hx_
   refine ⟨(H.pick [0, 1, 2, 4] (by decide) rfl), ?_⟩
   refine d_q rfl (fun w' H => x_mv (v := .pointer (some ⟨b_3, 0, none⟩)) rfl) ?_
   refine d_q rfl (fun w' H => x_nc (a := ⟨b_3, 0, none⟩) rfl) ?_
   refine d_q rfl (fun w' H => x_fa (a := .pointer (some ⟨b_3, 0, none⟩)) (v := .pointer (some ⟨b_3, 4, none⟩)) rfl (fa_blk (o := 0) Fd126_1 Sz124)) ?_
   refine d_q rfl (fun w' H => x_ld (p := .pointer (some ⟨b_3, 4, none⟩)) (v := .map (some b_2)) rfl (ldb_sc Sc124 (H.blk (k := 2) rfl) rfl)) ?_
   refine d_q rfl (fun w' H => x_fa (a := .pointer (some ⟨b_4, 0, none⟩)) (v := .pointer (some ⟨b_4, 0, none⟩)) rfl (fa_blk (o := 0) Fd41_0 Sz3)) ?_
   refine d_q rfl (fun w' H => x_ld (p := .pointer (some ⟨b_4, 0, none⟩)) (v := I ((b_Years.getD s default).year)) rfl (ldb_sc Sc3 (H.blk (k := 1) rfl) rfl)) ?_
   refine d_q rfl (fun w' H => x_fa (a := .pointer (some ⟨b_4, 0, none⟩)) (v := .pointer (some ⟨b_4, 1, none⟩)) rfl (fa_blk (o := 0) Fd41_1 Sz35)) ?_
   refine d_q rfl (fun w' H => x_ld (p := .pointer (some ⟨b_4, 1, none⟩)) (v := .agg #[I ((b_Years.getD s default).lo), I ((b_Years.getD s default).hi)]) rfl (ldb_ag (ds := [I ((b_Years.getD s default).lo), I ((b_Years.getD s default).hi)]) Ag35 Sz35 (H.blk (k := 1) rfl) rfl rfl)) ?_
   refine d_l rfl ?_
   refine t_putMl (i := 3) (kenc := I) (venc := encSp) (m := mp3) (k := ((b_Years.getD s default).year : Int)) (v := (⟨((b_Years.getD s default).lo : Int), ((b_Years.getD s default).hi : Int)⟩ : Span)) (L' := [cBlk b_5 [I ((b_Years.getD s default).year), I (((lookM mp3 ((b_Years.getD s default).year : Int)).getD default).lo), I (((lookM mp3 ((b_Years.getD s default).year : Int)).getD default).hi)] 41, cBlk b_4 [I ((b_Years.getD s default).year), I ((b_Years.getD s default).lo), I ((b_Years.getD s default).hi)] 41, cBlk b_3 [v_b_Years, v_b_Olds, I b_First, I b_Last, .map (some b_2)] 126, cMl I encSp b_2 (setM mp3 ((b_Years.getD s default).year : Int) (⟨((b_Years.getD s default).lo : Int), ((b_Years.getD s default).hi : Int)⟩ : Span)), cBlk b_1 [v_b_Years, v_b_Olds, I b_First, I b_Last] 26]) keyIntSp Try.underlying124 H rfl rfl rfl rfl rfl ?_
   intro w43z H
   refine s_nil ⟨(H.pick [0, 1, 2, 4] (by decide) rfl), ?_⟩
   refine d_nil ?_
   refine W.region rfl ?_
   refine s_val (x_ari (a := (s : Int)) (b := 1) (r := (s : Int) + 1) rfl rfl rfl (by omega)) ?_
   refine s_val (x_mv (v := I ((s : Int) + 1)) rfl) ?_
   refine s_nil ?_
   exact ⟨m30z, lt31z, setM mp3 ((b_Years.getD s default).year : Int) (⟨((b_Years.getD s default).lo : Int), ((b_Years.getD s default).hi : Int)⟩ : Span), s + 1, _, upds_of _ _ ⟨rfl, rfl, rfl, rfl, rfl, trivial⟩, M.e_inl hM hN33z, (H.pick [2, 3, 4] (by decide) rfl)⟩
  replace hM := M.e_f hM c41z
  refine W.skip ?_
  refine W.region rfl ?_
  refine s_val (x_ari (a := (s : Int)) (b := 1) (r := (s : Int) + 1) rfl rfl rfl (by omega)) ?_
  refine s_val (x_mv (v := I ((s : Int) + 1)) rfl) ?_
  refine s_nil ?_
  exact ⟨m30z, lt31z, mp3, s + 1, _, upds_of _ _ ⟨rfl, rfl, rfl, rfl, rfl, trivial⟩, M.e_inl hM hN33z, (H.pick [2, 3, 4] (by decide) rfl)⟩
 replace hM := M.e_f hM c34z
 simp only [decide_eq_true_eq, decide_eq_false_iff_not, beq_iff_eq, bne_iff_ne, beq_eq_false_iff_ne, bne_eq_false_iff_eq, ne_eq, Decidable.not_not] at c34z
 refine W.exit ?_
 have hX44z := M.e_inr hM hN33z
 subst hX44z
 replace hM := hk26z
 try dsimp only at hM
 refine W.seq ?_
 refine W.seq ?_
 refine W.region rfl ?_
 refine s_val (x_mv (v := .pointer (some ⟨b_3, 0, none⟩)) rfl) ?_
 refine s_val (x_nc (a := ⟨b_3, 0, none⟩) rfl) ?_
 refine s_val (x_fa (a := .pointer (some ⟨b_3, 0, none⟩)) (v := .pointer (some ⟨b_3, 4, none⟩)) rfl (fa_blk (o := 0) Fd126_1 Sz124)) ?_
 refine s_val (x_ld (p := .pointer (some ⟨b_3, 4, none⟩)) (v := .map (some b_2)) rfl (ldb_sc Sc124 (H.blk (k := 0) rfl) rfl)) ?_
 refine t_range (i := 1) (kenc := I) (venc := encSp) Try.underlying124 H rfl rfl ?_
 intro r_6 w45z H
 replace H : St w w45z [cBlk b_3 [v_b_Years, v_b_Olds, I b_First, I b_Last, .map (some b_2)] 126, cIt I encSp b_2 r_6 mp3 (List.replicate mp3.length true) none, cBlk b_1 [v_b_Years, v_b_Olds, I b_First, I b_Last] 26] R := H
 refine s_nil ?_
 refine W.block ?_
 obtain ⟨mq, hx46z, hM⟩ := M.e_bind hM
 refine W.loop (fun c_ σ W => ∃ (m1_ : List (Int × Span)) (lf_ : List Bool) (la_ : Option Nat) (ρ : Env), σ = upds ρ [(1, .pointer (some ⟨b_1, 0, none⟩)), (5, .pointer (some ⟨b_3, 0, none⟩)), (70, .pointer (some ⟨r_6, 0, none⟩))] /\ c_ = lf_.count true /\ ItR mp3 mq m1_ lf_ /\ St w W [cBlk b_3 [v_b_Years, v_b_Olds, I b_First, I b_Last, .map (some b_2)] 126, cIt I encSp b_2 r_6 m1_ lf_ la_, cBlk b_1 [v_b_Years, v_b_Olds, I b_First, I b_Last] 26] R) ?_ ?_
 ·exact ⟨_, _, _, _, _, upds_of _ _ ⟨rfl, rfl, rfl, trivial⟩, rfl, ItR.init hx46z, H⟩
 rintro c_ σ w47z ⟨m1_, lf_, la_, ρ, rfl, rfl, hI48z, H⟩
 refine W.seq ?_
 refine W.region rfl ?_
 refine t_next (i := 1) H rfl rfl (fun hz_ => ?_) (fun j_ ky vl w3_ hl_ hm_ H => ?_)
 ·refine s_val (x_ext (vs := [B false]) (v := B false) rfl rfl) ?_
  refine s_nil ?_
  refine W.seq ?_
  refine W.cond false rfl (fun h_ => absurd h_ (by decide)) (fun _ => ?_)
  refine W.exit ?_
  obtain rfl := hI48z.fin hz_
  replace H : St w w47z [cBlk b_3 [v_b_Years, v_b_Olds, I b_First, I b_Last, .map (some b_2)] 126, cMl I encSp b_2 m1_, cBlk b_1 [v_b_Years, v_b_Olds, I b_First, I b_Last] 26] R := H.itEnd (i := 1) rfl rfl
  refine W.seq ?_
  refine W.region rfl ?_
  refine s_val (x_mv (v := .pointer (some ⟨b_3, 0, none⟩)) rfl) ?_
  refine s_val (x_as (v := .pointer (some ⟨b_3, 0, none⟩)) rfl) ?_
  refine s_val (x_as (v := I 0) rfl) ?_
  refine s_nil ?_
  refine W.ret ?_
  have hr_ := M.e_pure hM
  exact ⟨_, resE_tmp2 rfl, .inr (⟨b_First, b_Last, m1_, 0, b_3, b_2, hr_, rfl, (H.pick [0, 1] (by decide) rfl)⟩)⟩
 refine s_val (x_ext (vs := [B true, I ky, encSp vl]) (v := B true) rfl rfl) ?_
 refine s_nil ?_
 refine W.seq ?_
 refine W.cond true rfl (fun _ => ?_) (fun h_ => absurd h_ (by decide))
 refine W.skip ?_
 obtain ⟨v2_, hM, hv2_⟩ := hI48z.at_ hx46z hl_ hm_
 simp only [zaO] at hM
 replace H : St w w3_ [cBlk b_3 [v_b_Years, v_b_Olds, I b_First, I b_Last, .map (some b_2)] 126, cIt I encSp b_2 r_6 m1_ (lf_.set j_ false) (some j_), cBlk b_1 [v_b_Years, v_b_Olds, I b_First, I b_Last] 26] R := H
 refine W.block ?_
 refine W.seq ?_
 refine W.region rfl ?_
 refine s_val (x_entry (v := vl) (H.get (k := 1) rfl) hm_ rfl) ?_
 refine s_val (x_ext (vs := [I ky, .agg #[I ((vl).lo), I ((vl).hi)]]) (v := I ky) rfl rfl) ?_
 refine s_val (x_ext (vs := [I ky, .agg #[I ((vl).lo), I ((vl).hi)]]) (v := .agg #[I ((vl).lo), I ((vl).hi)]) rfl rfl) ?_
 refine t_alloc (cs := [I 0, I 0]) H Al35 rfl ?_
 intro b_7 w49z H
 refine s_val (x_as (v := I ky) rfl) ?_
 refine t_st (k := 0) (b := b_7) (off := 0) (cs := [I 0, I 0]) (vs := [I ((vl).lo), I ((vl).hi)]) (cs' := [I ((vl).lo), I ((vl).hi)]) (v := .agg #[I ((vl).lo), I ((vl).hi)]) (L' := [cBlk b_7 [I ((vl).lo), I ((vl).hi)] 35, cBlk b_3 [v_b_Years, v_b_Olds, I b_First, I b_Last, .map (some b_2)] 126, cIt I encSp b_2 r_6 m1_ (lf_.set j_ false) (some j_), cBlk b_1 [v_b_Years, v_b_Olds, I b_First, I b_Last] 26]) H rfl rfl rfl Sz35 rfl rfl rfl rfl rfl rfl ?_
 intro w50z H
 refine s_nil ?_
 refine W.seq ?_
 refine W.seq ?_
 refine W.region rfl ?_
 refine s_val (x_fa (a := .pointer (some ⟨b_1, 0, none⟩)) (v := .pointer (some ⟨b_1, 1, none⟩)) rfl (fa_blk (o := 0) Fd26_1 Sz24)) ?_
 refine s_val (x_ld (p := .pointer (some ⟨b_1, 1, none⟩)) (v := v_b_Olds) rfl (ldb_sc Sc24 (H.blk (k := 3) rfl) rfl)) ?_
 have hl51z := (hs_b_Olds).len_le
 refine s_val (x_lenS T24.und rfl hs_b_Olds) ?_
 refine s_val (x_mv (v := I 0) rfl) ?_
 refine s_nil ?_
 refine W.block ?_
 obtain ⟨ex52z, hi53z, hk54z⟩ := M.e_bind hM
 obtain ⟨m0_, hi53z⟩ := M.e_iter hi53z
 refine W.loop (fun m σ W => ∃ (s2 : Nat) (s3 : Int) (s4 : Int) (ρ : Env), σ = upds ρ [(1, .pointer (some ⟨b_1, 0, none⟩)), (5, .pointer (some ⟨b_3, 0, none⟩)), (10, I ky), (11, .pointer (some ⟨b_7, 0, none⟩)), (70, .pointer (some ⟨r_6, 0, none⟩)), (77, v_b_Olds), (78, I (b_Olds.length : Int)), (79, I (s2 : Int))] /\ M.iterN (zaQ b_Olds ky) m (s2, s3, s4) = some ex52z /\ St w W [cBlk b_7 [I s3, I s4] 35, cBlk b_3 [v_b_Years, v_b_Olds, I b_First, I b_Last, .map (some b_2)] 126, cIt I encSp b_2 r_6 m1_ (lf_.set j_ false) (some j_), cBlk b_1 [v_b_Years, v_b_Olds, I b_First, I b_Last] 26] R) ?_ ?_
 ·exact ⟨_, 0, (vl).lo, (vl).hi, _, upds_of _ _ ⟨rfl, rfl, rfl, rfl, rfl, rfl, rfl, rfl, trivial⟩, hi53z, H⟩
 rintro m57z σ w55z ⟨s2, s3, s4, ρ, rfl, hI56z, H⟩
 obtain ⟨m58z, lt59z, x60z, hM, hN61z⟩ := M.e_iterN hI56z
 simp only [zaQ] at hM
 clear hI56z
 refine W.seq ?_
 refine W.region rfl ?_
 refine s_val (x_cmp (kd := .i64) (a := (s2 : Int)) (b := (b_Olds.length : Int)) (r := decide ((s2 : Int) < (b_Olds.length : Int))) rfl rfl rfl) ?_
 refine s_nil ?_
 refine W.seq ?_
 refine W.cond (decide ((s2 : Int) < (b_Olds.length : Int))) rfl (fun c62z => ?_) (fun c62z => ?_)
 ·replace hM := M.e_t hM c62z
  simp only [decide_eq_true_eq, decide_eq_false_iff_not, beq_iff_eq, bne_iff_ne, beq_eq_false_iff_ne, bne_eq_false_iff_eq, ne_eq, Decidable.not_not] at c62z
  refine W.skip ?_
  refine W.seq ?_
  refine W.block ?_
  refine W.seq ?_
  refine W.region rfl ?_
  obtain ⟨sd63z, hM⟩ := M.e_grd hM
  simp only [Bool.and_eq_true, decide_eq_true_eq] at sd63z
  refine s_val (x_ix (a := v_b_Olds) (b := I (s2 : Int)) (v := vat v_b_Olds 4 (Int.toNat (s2 : Int))) rfl rfl (Sl.ix (α := Old10) T24.und T24.size hs_b_Olds (by omega) (by omega))) ?_
  obtain ⟨u64z, ha66z, hs65z⟩ := Old10_atA hs_b_Olds (i := (s2 : Int)) (by omega) (by omega)
  replace hs65z : Sl _ u64z (b_Olds.getD s2 default).passed := hs65z
  have hl_hs65z := hs65z.len_le
  refine s_val (x_ld (p := vat v_b_Olds 4 (Int.toNat (s2 : Int))) (v := .agg #[I ((b_Olds.getD s2 default).src), I ((b_Olds.getD s2 default).dst), I ((b_Olds.getD s2 default).stage), u64z]) rfl (ld_ag Ag43 Sz43 (At.mono ha66z (hC_b_Olds.at H)))) ?_
  refine t_alloc (cs := [I 0, I 0, I 0, .slice none 0 0]) H Al43 rfl ?_
  intro b_8 w67z H
  refine t_st (k := 0) (b := b_8) (off := 0) (cs := [I 0, I 0, I 0, .slice none 0 0]) (vs := [I ((b_Olds.getD s2 default).src), I ((b_Olds.getD s2 default).dst), I ((b_Olds.getD s2 default).stage), u64z]) (cs' := [I ((b_Olds.getD s2 default).src), I ((b_Olds.getD s2 default).dst), I ((b_Olds.getD s2 default).stage), u64z]) (v := .agg #[I ((b_Olds.getD s2 default).src), I ((b_Olds.getD s2 default).dst), I ((b_Olds.getD s2 default).stage), u64z]) (L' := [cBlk b_8 [I ((b_Olds.getD s2 default).src), I ((b_Olds.getD s2 default).dst), I ((b_Olds.getD s2 default).stage), u64z] 43, cBlk b_7 [I s3, I s4] 35, cBlk b_3 [v_b_Years, v_b_Olds, I b_First, I b_Last, .map (some b_2)] 126, cIt I encSp b_2 r_6 m1_ (lf_.set j_ false) (some j_), cBlk b_1 [v_b_Years, v_b_Olds, I b_First, I b_Last] 26]) H rfl rfl rfl Sz43 rfl rfl rfl (by simp only [List.all_cons, List.all_nil, Bool.true_and, Bool.and_true, Sl.oc hs65z]; try rfl) rfl rfl ?_
  intro w68z H
  refine s_nil ?_
  refine W.block ?_
  refine W.seq ?_
  refine W.region rfl ?_
  refine s_val (x_mv (v := I ky) rfl) ?_
  refine s_val (x_fa (a := .pointer (some ⟨b_8, 0, none⟩)) (v := .pointer (some ⟨b_8, 0, none⟩)) rfl (fa_blk (o := 0) Fd43_0 Sz3)) ?_
  refine s_val (x_ld (p := .pointer (some ⟨b_8, 0, none⟩)) (v := I ((b_Olds.getD s2 default).src)) rfl (ldb_sc Sc3 (H.blk (k := 0) rfl) rfl)) ?_
  refine s_val (x_fa (a := .pointer (some ⟨b_8, 0, none⟩)) (v := .pointer (some ⟨b_8, 1, none⟩)) rfl (fa_blk (o := 0) Fd43_1 Sz3)) ?_
  refine s_val (x_ld (p := .pointer (some ⟨b_8, 1, none⟩)) (v := I ((b_Olds.getD s2 default).dst)) rfl (ldb_sc Sc3 (H.blk (k := 0) rfl) rfl)) ?_
  obtain ⟨r70z, hx69z, hM⟩ := M.e_bind hM
  refine s_call cf63 [I ky, I ((b_Olds.getD s2 default).src), I ((b_Olds.getD s2 default).dst)] rfl (zac ky ((b_Olds.getD s2 default).src) ((b_Olds.getD s2 default).dst) hx69z _ (St.give (T := [cBlk b_8 [I ((b_Olds.getD s2 default).src), I ((b_Olds.getD s2 default).dst), I ((b_Olds.getD s2 default).stage), u64z] 43, cBlk b_7 [I s3, I s4] 35, cBlk b_3 [v_b_Years, v_b_Olds, I b_First, I b_Last, .map (some b_2)] 126, cIt I encSp b_2 r_6 m1_ (lf_.set j_ false) (some j_), cBlk b_1 [v_b_Years, v_b_Olds, I b_First, I b_Last] 26]) H rfl)) ?_
  rintro vq w71z ⟨r3, hr72z, hvq, H2_⟩
  subst hr72z
  subst vq
  try dsimp only at hM
  replace H : St w w71z [cBlk b_8 [I ((b_Olds.getD s2 default).src), I ((b_Olds.getD s2 default).dst), I ((b_Olds.getD s2 default).stage), u64z] 43, cBlk b_7 [I s3, I s4] 35, cBlk b_3 [v_b_Years, v_b_Olds, I b_First, I b_Last, .map (some b_2)] 126, cIt I encSp b_2 r_6 m1_ (lf_.set j_ false) (some j_), cBlk b_1 [v_b_Years, v_b_Olds, I b_First, I b_Last] 26] R := H.back H2_ rfl
  clear H2_
  refine s_val (x_not (b := r3) rfl) ?_
  refine s_val (x_as (v := B (!r3)) rfl) ?_
  refine s_nil ?_
  refine W.cond (!r3) rfl (fun c73z => ?_) (fun c73z => ?_)
  ·replace hM := M.e_t hM c73z
   refine W.exit ?_
   refine W.region rfl ?_
   refine s_val (x_ari (a := (s2 : Int)) (b := 1) (r := (s2 : Int) + 1) rfl rfl rfl (by omega)) ?_
   refine s_val (x_mv (v := I ((s2 : Int) + 1)) rfl) ?_
   refine s_nil ?_
   exact ⟨m58z, lt59z, s2 + 1, s3, s4, _, upds_of _ _ ⟨rfl, rfl, rfl, rfl, rfl, rfl, rfl, rfl, trivial⟩, M.e_inl hM hN61z, (H.pick [1, 2, 3, 4] (by decide) rfl)⟩
  replace hM := M.e_f hM c73z
  refine W.seq ?_
  refine W.region rfl ?_
  refine s_val (x_fa (a := .pointer (some ⟨b_8, 0, none⟩)) (v := .pointer (some ⟨b_8, 3, none⟩)) rfl (fa_blk (o := 0) Fd43_3 Sz27)) ?_
  refine s_val (x_ld (p := .pointer (some ⟨b_8, 3, none⟩)) (v := u64z) rfl (ldb_sc Sc27 (H.blk (k := 0) rfl) rfl)) ?_
  refine s_val (x_mv (v := I ky) rfl) ?_
  obtain ⟨r75z, hx74z, hM⟩ := M.e_bind hM
  refine s_call cf95 [u64z, I ky] rfl (zcD ((b_Olds.getD s2 default).passed) ky (hC_b_Olds.app _) hs65z hx74z _ (St.give (T := [cBlk b_8 [I ((b_Olds.getD s2 default).src), I ((b_Olds.getD s2 default).dst), I ((b_Olds.getD s2 default).stage), u64z] 43, cBlk b_7 [I s3, I s4] 35, cBlk b_3 [v_b_Years, v_b_Olds, I b_First, I b_Last, .map (some b_2)] 126, cIt I encSp b_2 r_6 m1_ (lf_.set j_ false) (some j_), cBlk b_1 [v_b_Years, v_b_Olds, I b_First, I b_Last] 26]) H rfl)) ?_
  rintro vq w76z ⟨r4, hr77z, hvq, H2_⟩
  subst hr77z
  subst vq
  try dsimp only at hM
  replace H : St w w76z [cBlk b_8 [I ((b_Olds.getD s2 default).src), I ((b_Olds.getD s2 default).dst), I ((b_Olds.getD s2 default).stage), u64z] 43, cBlk b_7 [I s3, I s4] 35, cBlk b_3 [v_b_Years, v_b_Olds, I b_First, I b_Last, .map (some b_2)] 126, cIt I encSp b_2 r_6 m1_ (lf_.set j_ false) (some j_), cBlk b_1 [v_b_Years, v_b_Olds, I b_First, I b_Last] 26] R := H.back H2_ rfl
  clear H2_
  refine s_val (x_as (v := B r4) rfl) ?_
  refine s_nil ?_
  refine W.cond r4 rfl (fun c78z => ?_) (fun c78z => ?_)
  ·replace hM := M.e_t hM c78z
   refine W.region rfl ?_
   refine s_val (x_fa (a := .pointer (some ⟨b_7, 0, none⟩)) (v := .pointer (some ⟨b_7, 0, none⟩)) rfl (fa_blk (o := 0) Fd35_0 Sz3)) ?_
   refine s_val (x_ld (p := .pointer (some ⟨b_7, 0, none⟩)) (v := I s3) rfl (ldb_sc Sc3 (H.blk (k := 1) rfl) rfl)) ?_
   refine s_val (x_fa (a := .pointer (some ⟨b_8, 0, none⟩)) (v := .pointer (some ⟨b_8, 2, none⟩)) rfl (fa_blk (o := 0) Fd43_2 Sz3)) ?_
   refine s_val (x_ld (p := .pointer (some ⟨b_8, 2, none⟩)) (v := I ((b_Olds.getD s2 default).stage)) rfl (ldb_sc Sc3 (H.blk (k := 0) rfl) rfl)) ?_
   refine s_val (x_max (kd := .i64) (a := s3) (b := (b_Olds.getD s2 default).stage) rfl rfl) ?_
   refine s_val (x_fa (a := .pointer (some ⟨b_7, 0, none⟩)) (v := .pointer (some ⟨b_7, 0, none⟩)) rfl (fa_blk (o := 0) Fd35_0 Sz3)) ?_
   refine t_st (k := 1) (b := b_7) (off := 0) (cs := [I s3, I s4]) (vs := [I (max s3 ((b_Olds.getD s2 default).stage))]) (cs' := [I (max s3 ((b_Olds.getD s2 default).stage)), I s4]) (v := I (max s3 ((b_Olds.getD s2 default).stage))) (L' := [cBlk b_8 [I ((b_Olds.getD s2 default).src), I ((b_Olds.getD s2 default).dst), I ((b_Olds.getD s2 default).stage), u64z] 43, cBlk b_7 [I (max s3 ((b_Olds.getD s2 default).stage)), I s4] 35, cBlk b_3 [v_b_Years, v_b_Olds, I b_First, I b_Last, .map (some b_2)] 126, cIt I encSp b_2 r_6 m1_ (lf_.set j_ false) (some j_), cBlk b_1 [v_b_Years, v_b_Olds, I b_First, I b_Last] 26]) H rfl rfl rfl Sz3 rfl rfl rfl rfl rfl rfl ?_
   intro w79z H
   refine s_nil ?_
   refine W.region rfl ?_
   refine s_val (x_ari (a := (s2 : Int)) (b := 1) (r := (s2 : Int) + 1) rfl rfl rfl (by omega)) ?_
   refine s_val (x_mv (v := I ((s2 : Int) + 1)) rfl) ?_
   refine s_nil ?_
   exact ⟨m58z, lt59z, s2 + 1, max s3 ((b_Olds.getD s2 default).stage), s4, _, upds_of _ _ ⟨rfl, rfl, rfl, rfl, rfl, rfl, rfl, rfl, trivial⟩, M.e_inl hM hN61z, (H.pick [1, 2, 3, 4] (by decide) rfl)⟩
  replace hM := M.e_f hM c78z
  refine W.region rfl ?_
  refine s_val (x_fa (a := .pointer (some ⟨b_7, 0, none⟩)) (v := .pointer (some ⟨b_7, 1, none⟩)) rfl (fa_blk (o := 0) Fd35_1 Sz3)) ?_
  refine s_val (x_ld (p := .pointer (some ⟨b_7, 1, none⟩)) (v := I s4) rfl (ldb_sc Sc3 (H.blk (k := 1) rfl) rfl)) ?_
  refine s_val (x_fa (a := .pointer (some ⟨b_8, 0, none⟩)) (v := .pointer (some ⟨b_8, 2, none⟩)) rfl (fa_blk (o := 0) Fd43_2 Sz3)) ?_
  refine s_val (x_ld (p := .pointer (some ⟨b_8, 2, none⟩)) (v := I ((b_Olds.getD s2 default).stage)) rfl (ldb_sc Sc3 (H.blk (k := 0) rfl) rfl)) ?_
  obtain ⟨sd80z, hM⟩ := M.e_grd hM
  simp only [Bool.and_eq_true, decide_eq_true_eq] at sd80z
  refine s_val (x_ari (a := (b_Olds.getD s2 default).stage) (b := 1) (r := ((b_Olds.getD s2 default).stage) - 1) rfl rfl rfl (by omega)) ?_
  refine s_val (x_min (kd := .i64) (a := s4) (b := ((b_Olds.getD s2 default).stage) - 1) rfl rfl) ?_
  refine s_val (x_fa (a := .pointer (some ⟨b_7, 0, none⟩)) (v := .pointer (some ⟨b_7, 1, none⟩)) rfl (fa_blk (o := 0) Fd35_1 Sz3)) ?_
  refine t_st (k := 1) (b := b_7) (off := 1) (cs := [I s3, I s4]) (vs := [I (min s4 (((b_Olds.getD s2 default).stage) - 1))]) (cs' := [I s3, I (min s4 (((b_Olds.getD s2 default).stage) - 1))]) (v := I (min s4 (((b_Olds.getD s2 default).stage) - 1))) (L' := [cBlk b_8 [I ((b_Olds.getD s2 default).src), I ((b_Olds.getD s2 default).dst), I ((b_Olds.getD s2 default).stage), u64z] 43, cBlk b_7 [I s3, I (min s4 (((b_Olds.getD s2 default).stage) - 1))] 35, cBlk b_3 [v_b_Years, v_b_Olds, I b_First, I b_Last, .map (some b_2)] 126, cIt I encSp b_2 r_6 m1_ (lf_.set j_ false) (some j_), cBlk b_1 [v_b_Years, v_b_Olds, I b_First, I b_Last] 26]) H rfl rfl rfl Sz3 rfl rfl rfl rfl rfl rfl ?_
  intro w81z H
  refine s_nil ?_
  refine W.region rfl ?_
  refine s_val (x_ari (a := (s2 : Int)) (b := 1) (r := (s2 : Int) + 1) rfl rfl rfl (by omega)) ?_
  refine s_val (x_mv (v := I ((s2 : Int) + 1)) rfl) ?_
  refine s_nil ?_
  exact ⟨m58z, lt59z, s2 + 1, s3, min s4 (((b_Olds.getD s2 default).stage) - 1), _, upds_of _ _ ⟨rfl, rfl, rfl, rfl, rfl, rfl, rfl, rfl, trivial⟩, M.e_inl hM hN61z, (H.pick [1, 2, 3, 4] (by decide) rfl)⟩
 replace hM := M.e_f hM c62z
 simp only [decide_eq_true_eq, decide_eq_false_iff_not, beq_iff_eq, bne_iff_ne, beq_eq_false_iff_ne, bne_eq_false_iff_eq, ne_eq, Decidable.not_not] at c62z
 refine W.exit ?_
 have hX82z := M.e_inr hM hN61z
 subst hX82z
 replace hM := hk54z
 try dsimp only at hM
 refine W.draw (fun W => St w W [cBlk b_7 [I s3, I s4] 35, cBlk b_3 [v_b_Years, v_b_Olds, I b_First, I b_Last, .map (some b_2)] 126, cBlk b_1 [v_b_Years, v_b_Olds, I b_First, I b_Last] 26] R) [(0, true), (1, true), (2, true), (3, true), (4, true), (5, true), (6, false)] mixed (by decide +kernel) rfl ?_
 intro w83z hx_
 replace H : St w w83z [cBlk b_7 [I s3, I s4] 35, cBlk b_3 [v_b_Years, v_b_Olds, I b_First, I b_Last, .map (some b_2)] 126, cIt I encSp b_2 r_6 m1_ (lf_.set j_ false) (some j_), cBlk b_1 [v_b_Years, v_b_Olds, I b_First, I b_Last] 26] R := H.ext hx_
 clear hx_
 refine ⟨(H.pick [0, 1, 3] (by decide) rfl), ?_⟩
 refine d_q rfl (fun w' H => x_mv (v := .pointer (some ⟨b_3, 0, none⟩)) rfl) ?_
 refine d_q rfl (fun w' H => x_nc (a := ⟨b_3, 0, none⟩) rfl) ?_
 refine d_q rfl (fun w' H => x_fa (a := .pointer (some ⟨b_3, 0, none⟩)) (v := .pointer (some ⟨b_3, 4, none⟩)) rfl (fa_blk (o := 0) Fd126_1 Sz124)) ?_
 refine d_q rfl (fun w' H => x_ld (p := .pointer (some ⟨b_3, 4, none⟩)) (v := .map (some b_2)) rfl (ldb_sc Sc124 (H.blk (k := 1) rfl) rfl)) ?_
 refine d_q rfl (fun w' H => x_mv (v := I ky) rfl) ?_
 refine d_q rfl (fun w' H => x_ld (p := .pointer (some ⟨b_7, 0, none⟩)) (v := .agg #[I s3, I s4]) rfl (ldb_ag (ds := [I s3, I s4]) Ag35 Sz35 (H.blk (k := 0) rfl) rfl rfl)) ?_
 refine d_l rfl ?_
 refine t_putIt (i := 2) (j := j_) (kenc := I) (venc := encSp) (m := m1_) (k := ky) (v := (⟨(s3 : Int), (s4 : Int)⟩ : Span)) (L' := [cBlk b_7 [I s3, I s4] 35, cBlk b_3 [v_b_Years, v_b_Olds, I b_First, I b_Last, .map (some b_2)] 126, cIt I encSp b_2 r_6 (m1_.set j_ (ky, (⟨(s3 : Int), (s4 : Int)⟩ : Span))) (lf_.set j_ false) (some j_), cBlk b_1 [v_b_Years, v_b_Olds, I b_First, I b_Last] 26]) keyIntSp Try.underlying124 H rfl rfl hm_ rfl rfl rfl ?_
 intro w84z H
 refine s_nil ⟨(H.pick [0, 1, 3] (by decide) rfl), ?_⟩
 refine d_nil ?_
 have hX_ := M.e_pure hM
 subst hX_
 exact ⟨_, ItR.less hl_, _, _, _, _, upds_of _ _ ⟨rfl, rfl, rfl, trivial⟩, rfl, hI48z.step hl_ hm_ hv2_, (H.pick [1, 2, 3] (by decide) rfl)⟩

def zaf (w__Book_Years : List Yr) (w__Book_Olds : List Old10) (w__Book_First : Int) (w__Book_Last : Int) (w__known : List (Int × Span)) (from_ : Int) (to_ : Int) : M (Int × Int) :=
  M.pure (from_, to_)
theorem zbb {R : List Chunk} {b_w_ : Nat} {C_w__Book_Years : Cells} {v_w__Book_Years : Value} {C_w__Book_Olds : Cells} {v_w__Book_Olds : Value} {b_w__known : Nat} (w__Book_Years : List Yr) (w__Book_Olds : List Old10) (w__Book_First : Int) (w__Book_Last : Int) (w__known : List (Int × Span)) (from_ : Int) (to_ : Int) (hC_w__Book_Years : Reads R C_w__Book_Years) (hs_w__Book_Years : Sl C_w__Book_Years v_w__Book_Years w__Book_Years) (hC_w__Book_Olds : Reads R C_w__Book_Olds) (hs_w__Book_Olds : Sl C_w__Book_Olds v_w__Book_Olds w__Book_Olds) (h_b_w__known : Has R (cMl I encSp b_w__known w__known)) (h_b_w_ : Has R (cBlk b_w_ [v_w__Book_Years, v_w__Book_Olds, I w__Book_First, I w__Book_Last, .map (some b_w__known)] 126)) {r : (Int × Int)} (hM : (zaf w__Book_Years w__Book_Olds w__Book_First w__Book_Last w__known from_ to_).Ends r) (w : World) (H : St w w [] R) : Ret Try.prog 54 #[.pointer (some ⟨b_w_, 0, none⟩), I from_, I to_] w fun v w' => ∃ (y0 : Int) (y1 : Int) (nb0 : Nat) (nb1 : Nat) (nb2 : Nat), (y0, y1) = r /\ v = .func (.func 90) #[] #[.pointer (some ⟨nb0, 0, none⟩), .pointer (some ⟨nb1, 0, none⟩), .pointer (some ⟨nb2, 0, none⟩)] /\ St w w' [cBlk nb0 [I y0] 3, cBlk nb1 [I y1] 3, cBlk nb2 [.pointer (some ⟨b_w_, 0, none⟩)] 102] R := by
 refine ret_of_W Try.func54 rfl rfl rfl ?_
 refine W.seq ?_
 refine W.region rfl ?_
 refine t_box (v := .pointer (some ⟨b_w_, 0, none⟩)) (cs := [.pointer (some ⟨b_w_, 0, none⟩)]) H rfl rfl ?_
 intro b_1 w1z H
 refine t_box (v := I from_) (cs := [I from_]) H rfl rfl ?_
 intro b_2 w2z H
 refine t_box (v := I to_) (cs := [I to_]) H rfl rfl ?_
 intro b_3 w3z H
 refine s_val (x_as (v := .nilFunc) rfl) ?_
 refine s_nil ?_
 refine W.seq ?_
 refine W.region rfl ?_
 refine s_val (x_mf (fs := []) (cs := [.pointer (some ⟨b_2, 0, none⟩), .pointer (some ⟨b_3, 0, none⟩), .pointer (some ⟨b_1, 0, none⟩)]) rfl rfl) ?_
 refine s_val (x_as (v := .func (.func 90) #[] #[.pointer (some ⟨b_2, 0, none⟩), .pointer (some ⟨b_3, 0, none⟩), .pointer (some ⟨b_1, 0, none⟩)]) rfl) ?_
 refine s_nil ?_
 refine W.ret ?_
 have hr_ := M.e_pure hM
 exact ⟨_, resE_tmp rfl, ⟨from_, to_, b_2, b_3, b_1, hr_, rfl, (H.pick [1, 0, 2] (by decide) rfl)⟩⟩

def zaR {T_ : Type} (yield_ : T_ -> (Int × Span) -> M (Bool × T_)) (k12 : Int) (k224 : List (Int × Span)) : (Int × T_) -> M ((Int × T_) ⊕ (T_ ⊕ T_)) := fun (year, t2) =>
  bif decide (year <= k12) then (
  M.bind (yield_ t2 (year, ((lookM k224 (year : Int)).getD default))) fun (go, t) =>
  bif !go then (
  M.pure (.inr (.inl t)))
  else (
  M.grd (decide ((-9223372036854775808 : Int) <= (year + 1)) && decide ((year + 1) <= (9223372036854775807 : Int))) <|
  M.pure (.inl (year + 1, t))))
  else (
  M.pure (.inr (.inr t2)))
def zag {T_ : Type} (yield_ : T_ -> (Int × Span) -> M (Bool × T_)) (t_ : T_) (k02 : Int) (k12 : Int) (k220 : List Yr) (k221 : List Old10) (k222 : Int) (k223 : Int) (k224 : List (Int × Span)) : M T_ :=
  M.bind (M.iter (zaR yield_ k12 k224) (k02, t_)) fun x_ => match x_ with
  | (.inl t3) => (
  M.pure t3)
  | (.inr t4) => (
  M.pure t4)
theorem zbf {R : List Chunk} {T_ : Type} {Y_ : T_ -> List Chunk -> Prop} {v_yield_ : Value} {Ls_ : List Chunk} {b_k0 : Nat} {b_k1 : Nat} {b_k2 : Nat} {b_k22 : Nat} {C_k220 : Cells} {v_k220 : Value} {C_k221 : Cells} {v_k221 : Value} {b_k224 : Nat} (yield_ : T_ -> (Int × Span) -> M (Bool × T_)) (t_ : T_) (k02 : Int) (k12 : Int) (k220 : List Yr) (k221 : List Old10) (k222 : Int) (k223 : Int) (k224 : List (Int × Span)) (hf_yield_ : YieldC Try.prog R arISpan Y_ v_yield_ yield_) (hY_ : Y_ t_ Ls_) (h_b_k0 : Has R (cBlk b_k0 [I k02] 3)) (h_b_k1 : Has R (cBlk b_k1 [I k12] 3)) (hC_k220 : Reads R C_k220) (hs_k220 : Sl C_k220 v_k220 k220) (hC_k221 : Reads R C_k221) (hs_k221 : Sl C_k221 v_k221 k221) (h_b_k224 : Has R (cMl I encSp b_k224 k224)) (h_b_k22 : Has R (cBlk b_k22 [v_k220, v_k221, I k222, I k223, .map (some b_k224)] 126)) (h_b_k2 : Has R (cBlk b_k2 [.pointer (some ⟨b_k22, 0, none⟩)] 102)) {r : T_} (hM : (zag yield_ t_ k02 k12 k220 k221 k222 k223 k224).Ends r) (w : World) (H : St w w [cAll Ls_] R) : Ret Try.prog 90 #[v_yield_, .pointer (some ⟨b_k0, 0, none⟩), .pointer (some ⟨b_k1, 0, none⟩), .pointer (some ⟨b_k2, 0, none⟩)] w fun v w' => ∃ (y0 : T_) (Ls0 : List Chunk), y0 = r /\ v = .tuple #[] /\ St w w' [cAll Ls0] R /\ Y_ y0 Ls0 := by
 refine ret_of_W Try.func90 rfl rfl rfl ?_
 refine W.seq ?_
 refine W.region rfl ?_
 refine s_val (x_ld (p := .pointer (some ⟨b_k0, 0, none⟩)) (v := I k02) rfl (ldb_sc Sc3 (h_b_k0.blk H) rfl)) ?_
 refine s_val (x_as (v := I k02) rfl) ?_
 refine s_nil ?_
 refine W.block ?_
 obtain ⟨ex1z, hi2z, hk3z⟩ := M.e_bind hM
 obtain ⟨m0_, hi2z⟩ := M.e_iter hi2z
 refine W.loop (fun m σ W => ∃ (year : Int) (t2 : T_) (Ls_t2 : List Chunk) (ρ : Env), σ = upds ρ [(0, v_yield_), (2, .pointer (some ⟨b_k1, 0, none⟩)), (3, .pointer (some ⟨b_k2, 0, none⟩)), (5, I year)] /\ M.iterN (zaR yield_ k12 k224) m (year, t2) = some ex1z /\ St w W [cAll Ls_t2] R /\ Y_ t2 Ls_t2) ?_ ?_
 ·exact ⟨_, k02, t_, Ls_, _, upds_of _ _ ⟨rfl, rfl, rfl, rfl, trivial⟩, hi2z, H, hY_⟩
 rintro m6z σ w4z ⟨year, t2, Ls_t2, ρ, rfl, hI5z, H, hY_t2⟩
 obtain ⟨m7z, lt8z, x9z, hM, hN10z⟩ := M.e_iterN hI5z
 simp only [zaR] at hM
 clear hI5z
 refine W.seq ?_
 refine W.seq ?_
 refine W.region rfl ?_
 refine s_val (x_mv (v := I year) rfl) ?_
 refine s_val (x_ld (p := .pointer (some ⟨b_k1, 0, none⟩)) (v := I k12) rfl (ldb_sc Sc3 (h_b_k1.blk H) rfl)) ?_
 refine s_val (x_cmp (kd := .i64) (a := year) (b := k12) (r := decide (year <= k12)) rfl rfl rfl) ?_
 refine s_nil ?_
 refine W.cond (decide (year <= k12)) rfl (fun c11z => ?_) (fun c11z => ?_)
 ·replace hM := M.e_t hM c11z
  simp only [decide_eq_true_eq, decide_eq_false_iff_not, beq_iff_eq, bne_iff_ne, beq_eq_false_iff_ne, bne_eq_false_iff_eq, ne_eq, Decidable.not_not] at c11z
  refine W.skip ?_
  refine W.seq ?_
  refine W.block ?_
  refine W.seq ?_
  refine W.region rfl ?_
  refine s_val (x_mv (v := v_yield_) rfl) ?_
  refine s_val (x_mv (v := I year) rfl) ?_
  refine s_val (x_ld (p := .pointer (some ⟨b_k2, 0, none⟩)) (v := .pointer (some ⟨b_k22, 0, none⟩)) rfl (ldb_sc Sc102 (h_b_k2.blk H) rfl)) ?_
  refine s_val (x_nc (a := ⟨b_k22, 0, none⟩) rfl) ?_
  refine s_val (x_fa (a := .pointer (some ⟨b_k22, 0, none⟩)) (v := .pointer (some ⟨b_k22, 4, none⟩)) rfl (fa_blk (o := 0) Fd126_1 Sz124)) ?_
  refine s_val (x_ld (p := .pointer (some ⟨b_k22, 4, none⟩)) (v := .map (some b_k224)) rfl (ldb_sc Sc124 (h_b_k22.blk H) rfl)) ?_
  refine s_val (x_mv (v := I year) rfl) ?_
  refine s_val (q_look (kenc := I) (venc := encSp) (f := lookM k224) (k := (year : Int)) (v := .agg #[I (((lookM k224 (year : Int)).getD default).lo), I (((lookM k224 (year : Int)).getD default).hi)]) keyIntSp Try.underlying124 Al35 rfl rfl (mlMap (h_b_k224.at H)) false (by rw [if_neg (by decide), span_val])) ?_
  obtain ⟨⟨go, t⟩, hx12z, hM⟩ := M.e_bind hM
  try dsimp only at hM
  refine t_yield (L := []) H hf_yield_ hY_t2 rfl [I year, .agg #[I (((lookM k224 (year : Int)).getD default).lo), I (((lookM k224 (year : Int)).getD default).hi)]] rfl (year, ((lookM k224 (year : Int)).getD default)) Reads.none rfl hx12z ?_
  intro Ls13z w15z hY14z H
  replace H : St w w15z [cAll Ls13z] R := H
  refine s_val (x_not (b := go) rfl) ?_
  refine s_nil ?_
  refine W.cond (!go) rfl (fun c16z => ?_) (fun c16z => ?_)
  ·replace hM := M.e_t hM c16z
   refine W.ret ?_
   have hX17z := M.e_inr hM hN10z
   subst hX17z
   replace hM := hk3z
   try dsimp only at hM
   have hr_ := M.e_pure hM
   exact ⟨_, resE_tmp0 rfl, ⟨t, Ls13z, hr_, rfl, H, hY14z⟩⟩
  replace hM := M.e_f hM c16z
  refine W.skip ?_
  refine W.region rfl ?_
  refine s_val (x_mv (v := I year) rfl) ?_
  obtain ⟨sd18z, hM⟩ := M.e_grd hM
  simp only [Bool.and_eq_true, decide_eq_true_eq] at sd18z
  refine s_val (x_ari (a := year) (b := 1) (r := year + 1) rfl rfl rfl (by omega)) ?_
  refine s_val (x_as (v := I (year + 1)) rfl) ?_
  refine s_nil ?_
  exact ⟨m7z, lt8z, year + 1, t, Ls13z, _, upds_of _ _ ⟨rfl, rfl, rfl, rfl, trivial⟩, M.e_inl hM hN10z, H, hY14z⟩
 replace hM := M.e_f hM c11z
 simp only [decide_eq_true_eq, decide_eq_false_iff_not, beq_iff_eq, bne_iff_ne, beq_eq_false_iff_ne, bne_eq_false_iff_eq, ne_eq, Decidable.not_not] at c11z
 refine W.exit ?_
 have hX19z := M.e_inr hM hN10z
 subst hX19z
 replace hM := hk3z
 try dsimp only at hM
 have hr_ := M.e_pure hM
 exact ⟨_, resE_tmp0 rfl, ⟨t2, Ls_t2, hr_, rfl, H, hY_t2⟩⟩
def zal : Unit -> (Int × Span) -> M (Unit ⊕ Int) := fun (_ : Unit) (x, x2) =>
  bif decide (x2.hi < x2.lo) then (
  M.pure (.inr x))
  else (
  M.pure (.inl ()))
def zaJ (w__Book_Years : List Yr) (w__Book_Olds : List Old10) (w__Book_First : Int) (w__Book_Last : Int) (w__known : List (Int × Span)) : M (Int × Bool) :=
  M.bind (zaf w__Book_Years w__Book_Olds w__Book_First w__Book_Last w__known w__Book_First w__Book_Last) fun (r00, r10) =>
  M.bind (zag (M.yl zal) (.inl ()) r00 r10 w__Book_Years w__Book_Olds w__Book_First w__Book_Last w__known) fun x_ => match x_ with
  | .inl _ => (
  M.pure (0, false))
  | .inr s => (
  M.pure (s, true))
theorem zcd {R : List Chunk} {b_w_ : Nat} {C_w__Book_Years : Cells} {v_w__Book_Years : Value} {C_w__Book_Olds : Cells} {v_w__Book_Olds : Value} {b_w__known : Nat} (w__Book_Years : List Yr) (w__Book_Olds : List Old10) (w__Book_First : Int) (w__Book_Last : Int) (w__known : List (Int × Span)) (hC_w__Book_Years : Reads R C_w__Book_Years) (hs_w__Book_Years : Sl C_w__Book_Years v_w__Book_Years w__Book_Years) (hC_w__Book_Olds : Reads R C_w__Book_Olds) (hs_w__Book_Olds : Sl C_w__Book_Olds v_w__Book_Olds w__Book_Olds) (h_b_w__known : Has R (cMl I encSp b_w__known w__known)) (h_b_w_ : Has R (cBlk b_w_ [v_w__Book_Years, v_w__Book_Olds, I w__Book_First, I w__Book_Last, .map (some b_w__known)] 126)) {r : (Int × Bool)} (hM : (zaJ w__Book_Years w__Book_Olds w__Book_First w__Book_Last w__known).Ends r) (w : World) (H : St w w [] R) : Ret Try.prog 64 #[.pointer (some ⟨b_w_, 0, none⟩)] w fun v w' => ∃ (y0 : Int) (y1 : Bool), (y0, y1) = r /\ v = .tuple #[I y0, B y1] /\ St w w' [] R := by
 refine ret_of_WD Try.func64 rfl rfl rfl ?_
 replace H : St w w [cMk ([])] R := H.mk0
 have hl_w__Book_Years := hs_w__Book_Years.len_le
 have hl_w__Book_Olds := hs_w__Book_Olds.len_le
 unfold zaJ at hM
 refine WD.seq ?_
 refine WD.of ?_
 refine W.region rfl ?_
 refine s_val (x_as (v := I 0) rfl) ?_
 refine s_val (x_as (v := B false) rfl) ?_
 refine s_nil ?_
 refine WD.scope ?_
 refine WD.seq ?_
 refine WD.of ?_
 refine W.region rfl ?_
 refine t_alloc (cs := [I 0]) H Al3 rfl ?_
 intro b_1 w1z H
 refine t_alloc (cs := [B false]) H Al4 rfl ?_
 intro b_2 w2z H
 refine t_st (k := 1) (b := b_1) (off := 0) (cs := [I 0]) (vs := [I 0]) (cs' := [I 0]) (v := I 0) (L' := [cBlk b_2 [B false] 4, cBlk b_1 [I 0] 3, cMk ([])]) H rfl rfl rfl Sz3 rfl rfl rfl rfl rfl rfl ?_
 intro w3z H
 refine t_st (k := 0) (b := b_2) (off := 0) (cs := [B false]) (vs := [B false]) (cs' := [B false]) (v := B false) (L' := [cBlk b_2 [B false] 4, cBlk b_1 [I 0] 3, cMk ([])]) H rfl rfl rfl Sz4 rfl rfl rfl rfl rfl rfl ?_
 intro w4z H
 refine s_nil ?_
 refine WD.seq ?_
 refine WD.of ?_
 refine W.label ?_
 refine WD.seq ?_
 refine WD.seq ?_
 refine WD.of ?_
 refine W.draw (fun W => St w W [cBlk b_2 [B false] 4, cBlk b_1 [I 0] 3, cMk ([])] R) [(0, true), (1, true), (2, true), (3, true), (4, true), (5, true), (6, true), (7, true), (8, true), (9, true), (10, true), (11, false)] mixed (by decide +kernel) rfl ?_
 intro w5z hx_
 replace H : St w w5z [cBlk b_2 [B false] 4, cBlk b_1 [I 0] 3, cMk ([])] R := H.ext hx_
 clear hx_
 refine ⟨(H.pick [0, 1, 2] (by decide) rfl), ?_⟩
 refine d_q rfl (fun w' H => x_mv (v := .pointer (some ⟨b_w_, 0, none⟩)) rfl) ?_
 refine d_q rfl (fun w' H => x_mv (v := .pointer (some ⟨b_w_, 0, none⟩)) rfl) ?_
 refine d_q rfl (fun w' H => x_nc (a := ⟨b_w_, 0, none⟩) rfl) ?_
 refine d_q rfl (fun w' H => x_fa (a := .pointer (some ⟨b_w_, 0, none⟩)) (v := .pointer (some ⟨b_w_, 0, none⟩)) rfl (fa_blk (o := 0) Fd126_0 Sz26)) ?_
 refine d_q rfl (fun w' H => x_fa (a := .pointer (some ⟨b_w_, 0, none⟩)) (v := .pointer (some ⟨b_w_, 2, none⟩)) rfl (fa_blk (o := 0) Fd26_2 Sz3)) ?_
 refine d_q rfl (fun w' H => x_ld (p := .pointer (some ⟨b_w_, 2, none⟩)) (v := I w__Book_First) rfl (ldb_sc Sc3 (h_b_w_.blk H) rfl)) ?_
 refine d_q rfl (fun w' H => x_mv (v := .pointer (some ⟨b_w_, 0, none⟩)) rfl) ?_
 refine d_q rfl (fun w' H => x_nc (a := ⟨b_w_, 0, none⟩) rfl) ?_
 refine d_q rfl (fun w' H => x_fa (a := .pointer (some ⟨b_w_, 0, none⟩)) (v := .pointer (some ⟨b_w_, 0, none⟩)) rfl (fa_blk (o := 0) Fd126_0 Sz26)) ?_
 refine d_q rfl (fun w' H => x_fa (a := .pointer (some ⟨b_w_, 0, none⟩)) (v := .pointer (some ⟨b_w_, 3, none⟩)) rfl (fa_blk (o := 0) Fd26_3 Sz3)) ?_
 refine d_q rfl (fun w' H => x_ld (p := .pointer (some ⟨b_w_, 3, none⟩)) (v := I w__Book_Last) rfl (ldb_sc Sc3 (h_b_w_.blk H) rfl)) ?_
 refine d_l rfl ?_
 obtain ⟨r7z, hx6z, hM⟩ := M.e_bind hM
 refine s_call cf54 [.pointer (some ⟨b_w_, 0, none⟩), I w__Book_First, I w__Book_Last] rfl (zbb w__Book_Years w__Book_Olds w__Book_First w__Book_Last w__known w__Book_First w__Book_Last (hC_w__Book_Years.app _) hs_w__Book_Years (hC_w__Book_Olds.app _) hs_w__Book_Olds (h_b_w__known.app _) (h_b_w_.app _) hx6z _ (St.give (T := [cBlk b_2 [B false] 4, cBlk b_1 [I 0] 3, cMk ([])]) H rfl)) ?_
 rintro vq w8z ⟨r00, r10, nb0_3, nb1_4, nb2_5, hr9z, hvq, H2_⟩
 subst hr9z
 subst vq
 try dsimp only at hM
 replace H : St w w8z [cBlk nb0_3 [I r00] 3, cBlk nb1_4 [I r10] 3, cBlk nb2_5 [.pointer (some ⟨b_w_, 0, none⟩)] 102, cBlk b_2 [B false] 4, cBlk b_1 [I 0] 3, cMk ([])] R := H.back H2_ rfl
 clear H2_
 refine s_nil ⟨(H.pick [3, 4, 5] (by decide) rfl), ?_⟩
 refine d_nil ?_
 refine WD.block ?_
 obtain ⟨t10z, hx11z, hM⟩ := M.e_bind hM
 refine WD.range (L := [cBlk b_2 [B false] 4, cBlk b_1 [I 0] 3, cBlk nb0_3 [I r00] 3, cBlk nb1_4 [I r10] 3, cBlk nb2_5 [.pointer (some ⟨b_w_, 0, none⟩)] 102]) [.pointer (some ⟨nb0_3, 0, none⟩), .pointer (some ⟨nb1_4, 0, none⟩), .pointer (some ⟨nb2_5, 0, none⟩)] (H.pick [5, 3, 4, 0, 1, 2] (by decide) rfl) rfl cf90 ?_
 intro l12z D13z r14z w15z hr16z H
 have hYC : YieldC Try.prog ([cMk (D13z :: ([])), cBlk nb0_3 [I r00] 3, cBlk nb1_4 [I r10] 3, cBlk nb2_5 [.pointer (some ⟨b_w_, 0, none⟩)] 102] ++ R) arISpan (yJ l12z r14z (fun _ Ls_ => Ls_ = [cBlk b_2 [B false] 4, cBlk b_1 [I 0] 3]) (fun s Ls_ => Ls_ = [cBlk b_2 [B true] 4, cBlk b_1 [I s] 3]) (fun _ => .exit 0)) (.func (.yield l12z) #[] #[]) (M.yl zal) := by
  refine YieldC.mk2 hr16z (fun _ Ls_ => Ls_ = [cBlk b_2 [B false] 4, cBlk b_1 [I 0] 3]) (fun s Ls_ => Ls_ = [cBlk b_2 [B true] 4, cBlk b_1 [I s] 3]) (fun _ => .exit 0) zal (by rintro _ _ h_; obtain ⟨rfl⟩ := h_; rfl) (by rintro s _ h_; (obtain ⟨rfl⟩ := h_; rfl)) rfl (arISpan_len rfl) ?_
  intro C_ vs_ x_ hA_
  obtain ⟨x, x2⟩ := x_
  obtain rfl := hA_
  intro w R hR_ Ls_ s_ r hY_ hM H
  skip
  obtain ⟨rfl⟩ := hY_
  replace H : St w w [cBlk b_2 [B false] 4, cBlk b_1 [I 0] 3, cMk (D13z :: ([])), cBlk nb0_3 [I r00] 3, cBlk nb1_4 [I r10] 3, cBlk nb2_5 [.pointer (some ⟨b_w_, 0, none⟩)] 102] R := H
  refine W.seq ?_
  refine W.region rfl ?_
  refine s_val (x_as (v := I x) rfl) ?_
  refine s_nil ?_
  refine W.region rfl ?_
  refine t_alloc (cs := [I 0, I 0]) H Al35 rfl ?_
  intro b_6 w17z H
  refine t_st (k := 0) (b := b_6) (off := 0) (cs := [I 0, I 0]) (vs := [I x2.lo, I x2.hi]) (cs' := [I x2.lo, I x2.hi]) (v := .agg #[I x2.lo, I x2.hi]) (L' := [cBlk b_6 [I x2.lo, I x2.hi] 35, cBlk b_2 [B false] 4, cBlk b_1 [I 0] 3, cMk (D13z :: ([])), cBlk nb0_3 [I r00] 3, cBlk nb1_4 [I r10] 3, cBlk nb2_5 [.pointer (some ⟨b_w_, 0, none⟩)] 102]) H rfl rfl rfl Sz35 rfl rfl rfl rfl rfl rfl ?_
  intro w18z H
  refine s_nil ?_
  refine ⟨rfl, [cBlk b_6 [I x2.lo, I x2.hi] 35], H.pick [0, 1, 2, 3, 4, 5, 6] (by decide) rfl, ?_⟩
  clear H hR_
  intro w R hR_ H
  replace hC_w__Book_Years := hC_w__Book_Years.sub hR_
  replace hC_w__Book_Olds := hC_w__Book_Olds.sub hR_
  replace h_b_w__known := h_b_w__known.sub hR_
  replace h_b_w_ := h_b_w_.sub hR_
  replace hM : (zal () (x, x2)).Ends r := hM
  simp only [zal] at hM
  replace H : St w w [cBlk b_6 [I x2.lo, I x2.hi] 35, cBlk b_2 [B false] 4, cBlk b_1 [I 0] 3, cMk (D13z :: ([])), cBlk nb0_3 [I r00] 3, cBlk nb1_4 [I r10] 3, cBlk nb2_5 [.pointer (some ⟨b_w_, 0, none⟩)] 102] R := H
  refine W.block ?_
  refine W.seq ?_
  refine W.region rfl ?_
  refine s_val (x_fa (a := .pointer (some ⟨b_6, 0, none⟩)) (v := .pointer (some ⟨b_6, 0, none⟩)) rfl (fa_blk (o := 0) Fd35_0 Sz3)) ?_
  refine s_val (x_ld (p := .pointer (some ⟨b_6, 0, none⟩)) (v := I x2.lo) rfl (ldb_sc Sc3 (H.blk (k := 0) rfl) rfl)) ?_
  refine s_val (x_fa (a := .pointer (some ⟨b_6, 0, none⟩)) (v := .pointer (some ⟨b_6, 1, none⟩)) rfl (fa_blk (o := 0) Fd35_1 Sz3)) ?_
  refine s_val (x_ld (p := .pointer (some ⟨b_6, 1, none⟩)) (v := I x2.hi) rfl (ldb_sc Sc3 (H.blk (k := 0) rfl) rfl)) ?_
  refine s_val (x_cmp (kd := .i64) (a := x2.lo) (b := x2.hi) (r := decide (x2.hi < x2.lo)) rfl rfl rfl) ?_
  refine s_nil ?_
  refine W.cond (decide (x2.hi < x2.lo)) rfl (fun c19z => ?_) (fun c19z => ?_)
  ·replace hM := M.e_t hM c19z
   simp only [decide_eq_true_eq, decide_eq_false_iff_not, beq_iff_eq, bne_iff_ne, beq_eq_false_iff_ne, bne_eq_false_iff_eq, ne_eq, Decidable.not_not] at c19z
   refine W.seq ?_
   refine W.region rfl ?_
   refine s_val (x_mv (v := I x) rfl) ?_
   refine t_st (k := 2) (b := b_1) (off := 0) (cs := [I 0]) (vs := [I x]) (cs' := [I x]) (v := I x) (L' := [cBlk b_6 [I x2.lo, I x2.hi] 35, cBlk b_2 [B false] 4, cBlk b_1 [I x] 3, cMk (D13z :: ([])), cBlk nb0_3 [I r00] 3, cBlk nb1_4 [I r10] 3, cBlk nb2_5 [.pointer (some ⟨b_w_, 0, none⟩)] 102]) H rfl rfl rfl Sz3 rfl rfl rfl rfl rfl rfl ?_
   intro w20z H
   refine t_st (k := 1) (b := b_2) (off := 0) (cs := [B false]) (vs := [B true]) (cs' := [B true]) (v := B true) (L' := [cBlk b_6 [I x2.lo, I x2.hi] 35, cBlk b_2 [B true] 4, cBlk b_1 [I x] 3, cMk (D13z :: ([])), cBlk nb0_3 [I r00] 3, cBlk nb1_4 [I r10] 3, cBlk nb2_5 [.pointer (some ⟨b_w_, 0, none⟩)] 102]) H rfl rfl rfl Sz4 rfl rfl rfl rfl rfl rfl ?_
   intro w21z H
   refine s_nil ?_
   refine W.exit ?_
   exact ⟨x, [cBlk b_2 [B true] 4, cBlk b_1 [I x] 3], (M.e_pure hM).symm, rfl, H.pick [1, 2, 3, 4, 5, 6] (by decide) rfl, rfl⟩
  replace hM := M.e_f hM c19z
  simp only [decide_eq_true_eq, decide_eq_false_iff_not, beq_iff_eq, bne_iff_ne, beq_eq_false_iff_ne, bne_eq_false_iff_eq, ne_eq, Decidable.not_not] at c19z
  refine W.skip ?_
  exact ⟨(), [cBlk b_2 [B false] 4, cBlk b_1 [I 0] 3], (M.e_pure hM).symm, rfl, H.pick [1, 2, 3, 4, 5, 6] (by decide) rfl⟩
 replace H : St w w15z (cAll (cObj l12z (.loop r14z) :: [cBlk b_2 [B false] 4, cBlk b_1 [I 0] 3]) :: [cMk (D13z :: ([])), cBlk nb0_3 [I r00] 3, cBlk nb1_4 [I r10] 3, cBlk nb2_5 [.pointer (some ⟨b_w_, 0, none⟩)] 102]) R := St.bundleB (A := cObj l12z (.loop r14z) :: [cBlk b_2 [B false] 4, cBlk b_1 [I 0] 3]) (T := [cMk (D13z :: ([])), cBlk nb0_3 [I r00] 3, cBlk nb1_4 [I r10] 3, cBlk nb2_5 [.pointer (some ⟨b_w_, 0, none⟩)] 102]) rfl (H.pick [0, 2, 3, 1, 4, 5, 6] (by decide) rfl)
 refine (zbf (M.yl zal) (.inl ()) r00 r10 w__Book_Years w__Book_Olds w__Book_First w__Book_Last w__known hYC ⟨_, rfl, rfl⟩ (Has.here (k := 1) rfl) (Has.here (k := 2) rfl) (hC_w__Book_Years.app _) hs_w__Book_Years (hC_w__Book_Olds.app _) hs_w__Book_Olds (h_b_w__known.app _) (h_b_w_.app _) (Has.here (k := 3) rfl) hx11z _ (St.give (A := [cAll (cObj l12z (.loop r14z) :: [cBlk b_2 [B false] 4, cBlk b_1 [I 0] 3])]) (T := [cMk (D13z :: ([])), cBlk nb0_3 [I r00] 3, cBlk nb1_4 [I r10] 3, cBlk nb2_5 [.pointer (some ⟨b_w_, 0, none⟩)] 102]) H rfl)).mono ?_
 rintro vq w22z ⟨t26z, Ls24z, hq27z, hvq, H2_, hY25z⟩
 subst hq27z
 replace H := H.back H2_ rfl
 clear H2_ hYC
 rcases t26z with _ | s
 ·try dsimp only at hM
  obtain ⟨_, rfl, rfl⟩ := hY25z
  refine ⟨_, [cBlk b_2 [B false] 4, cBlk b_1 [I 0] 3, cBlk nb0_3 [I r00] 3, cBlk nb1_4 [I r10] 3, cBlk nb2_5 [.pointer (some ⟨b_w_, 0, none⟩)] 102], H.unbundle.pick [0, 3, 1, 2, 4, 5, 6] (by decide) rfl, hr16z.nb, ?_⟩
  intro w23z H
  rw [hr16z.pd]
  replace H : St w w23z [cMk (D13z :: ([])), cBlk b_2 [B false] 4, cBlk b_1 [I 0] 3, cBlk nb0_3 [I r00] 3, cBlk nb1_4 [I r10] 3, cBlk nb2_5 [.pointer (some ⟨b_w_, 0, none⟩)] 102] R := H
  try simp only []
  refine WD.seq ?_
  refine WD.of ?_
  refine W.draw (fun W => St w W [cMk (D13z :: ([])), cBlk b_2 [B false] 4, cBlk b_1 [I 0] 3, cBlk nb0_3 [I r00] 3, cBlk nb1_4 [I r10] 3, cBlk nb2_5 [.pointer (some ⟨b_w_, 0, none⟩)] 102] R) [(0, true), (1, true), (2, true), (3, true)] mixed (by decide +kernel) rfl ?_
  intro w28z hx_
  replace H : St w w28z [cMk (D13z :: ([])), cBlk b_2 [B false] 4, cBlk b_1 [I 0] 3, cBlk nb0_3 [I r00] 3, cBlk nb1_4 [I r10] 3, cBlk nb2_5 [.pointer (some ⟨b_w_, 0, none⟩)] 102] R := H.ext hx_
  clear hx_
  refine ⟨(H.pick [0, 1, 2, 3, 4, 5] (by decide) rfl), ?_⟩
  refine d_q rfl (fun w' H => x_ld (p := .pointer (some ⟨b_1, 0, none⟩)) (v := I 0) rfl (ldb_sc Sc3 (H.blk (k := 2) rfl) rfl)) ?_
  refine d_q rfl (fun w' H => x_ld (p := .pointer (some ⟨b_2, 0, none⟩)) (v := B false) rfl (ldb_sc Sc4 (H.blk (k := 1) rfl) rfl)) ?_
  refine d_q rfl (fun w' H => x_as (v := I 0) rfl) ?_
  refine d_q rfl (fun w' H => x_as (v := B false) rfl) ?_
  refine d_nil ?_
  refine WD.of ?_
  refine W.ret ?_
  refine bodyD_r (H.pick [0, 1, 2, 3, 4, 5] (by decide) rfl) ?_
  intro w29z H
  replace H : St w w29z [cBlk b_2 [B false] 4, cBlk b_1 [I 0] 3, cBlk nb0_3 [I r00] 3, cBlk nb1_4 [I r10] 3, cBlk nb2_5 [.pointer (some ⟨b_w_, 0, none⟩)] 102] R := H
  have hr_ := M.e_pure hM
  exact ⟨_, resE_tmp2 rfl, ⟨0, false, hr_, rfl, (H.pick [] (by decide) rfl)⟩⟩
 try dsimp only at hM
 obtain ⟨_, rfl, rfl⟩ := hY25z
 refine ⟨_, [cBlk b_2 [B true] 4, cBlk b_1 [I s] 3, cBlk nb0_3 [I r00] 3, cBlk nb1_4 [I r10] 3, cBlk nb2_5 [.pointer (some ⟨b_w_, 0, none⟩)] 102], H.unbundle.pick [0, 3, 1, 2, 4, 5, 6] (by decide) rfl, nofun, ?_⟩
 intro w23z H
 show WD _ _ _ (.exit 0) _ _ _
 refine WD.of ?_
 refine W.exit ?_
 replace H : St w w23z [cMk (D13z :: ([])), cBlk b_2 [B true] 4, cBlk b_1 [I s] 3, cBlk nb0_3 [I r00] 3, cBlk nb1_4 [I r10] 3, cBlk nb2_5 [.pointer (some ⟨b_w_, 0, none⟩)] 102] R := H
 refine WD.seq ?_
 refine WD.of ?_
 refine W.draw (fun W => St w W [cMk (D13z :: ([])), cBlk b_2 [B true] 4, cBlk b_1 [I s] 3, cBlk nb0_3 [I r00] 3, cBlk nb1_4 [I r10] 3, cBlk nb2_5 [.pointer (some ⟨b_w_, 0, none⟩)] 102] R) [(0, true), (1, true), (2, true), (3, true)] mixed (by decide +kernel) rfl ?_
 intro w30z hx_
 replace H : St w w30z [cMk (D13z :: ([])), cBlk b_2 [B true] 4, cBlk b_1 [I s] 3, cBlk nb0_3 [I r00] 3, cBlk nb1_4 [I r10] 3, cBlk nb2_5 [.pointer (some ⟨b_w_, 0, none⟩)] 102] R := H.ext hx_
 clear hx_
 refine ⟨(H.pick [0, 1, 2, 3, 4, 5] (by decide) rfl), ?_⟩
 refine d_q rfl (fun w' H => x_ld (p := .pointer (some ⟨b_1, 0, none⟩)) (v := I s) rfl (ldb_sc Sc3 (H.blk (k := 2) rfl) rfl)) ?_
 refine d_q rfl (fun w' H => x_ld (p := .pointer (some ⟨b_2, 0, none⟩)) (v := B true) rfl (ldb_sc Sc4 (H.blk (k := 1) rfl) rfl)) ?_
 refine d_q rfl (fun w' H => x_as (v := I s) rfl) ?_
 refine d_q rfl (fun w' H => x_as (v := B true) rfl) ?_
 refine d_nil ?_
 refine WD.of ?_
 refine W.ret ?_
 refine bodyD_r (H.pick [0, 1, 2, 3, 4, 5] (by decide) rfl) ?_
 intro w31z H
 replace H : St w w31z [cBlk b_2 [B true] 4, cBlk b_1 [I s] 3, cBlk nb0_3 [I r00] 3, cBlk nb1_4 [I r10] 3, cBlk nb2_5 [.pointer (some ⟨b_w_, 0, none⟩)] 102] R := H
 have hr_ := M.e_pure hM
 exact ⟨_, resE_tmp2 rfl, ⟨s, true, hr_, rfl, (H.pick [] (by decide) rfl)⟩⟩

def zaG (b_Years : List Yr) (b_Olds : List Old10) (b_First : Int) (b_Last : Int) (from_ : Int) (to_ : Int) (n : Int) (first : Int) (last : Int) : M (Int ⊕ (Int × Int × (List (Int × Span)) × Int)) :=
  M.bind (zay b_Years b_Olds b_First b_Last) fun x_ => match x_ with
  | (.inl r1) => (
  bif r1 != 0 then (
  M.pure (.inl r1))
  else (
  M.fail))
  | (.inr (r02, r03, r04, r12)) => (
  bif r12 != 0 then (
  M.fail)
  else (
  M.bind (zab from_ b_First to_) fun r2 =>
  M.bind (M.opt (!(!r2)) (zab to_ b_First b_Last) false) fun r3 =>
  bif ((!r2) || (!r3)) then (
  M.pure (.inl 2))
  else (
  M.bind (zab n first last) fun r4 =>
  bif !r4 then (
  M.pure (.inl 4))
  else (
  M.bind (zaJ b_Years b_Olds r02 r03 r04) fun (r0, r13) =>
  bif r13 then (
  M.pure (.inl 6))
  else (
  M.pure (.inr (r02, r03, r04, 0)))))))
theorem zb5 {R : List Chunk} {C_b_Years : Cells} {v_b_Years : Value} {C_b_Olds : Cells} {v_b_Olds : Value} (b_Years : List Yr) (b_Olds : List Old10) (b_First : Int) (b_Last : Int) (from_ : Int) (to_ : Int) (n : Int) (first : Int) (last : Int) (hC_b_Years : Reads R C_b_Years) (hs_b_Years : Sl C_b_Years v_b_Years b_Years) (hC_b_Olds : Reads R C_b_Olds) (hs_b_Olds : Sl C_b_Olds v_b_Olds b_Olds) {r : (Int ⊕ (Int × Int × (List (Int × Span)) × Int))} (hM : (zaG b_Years b_Olds b_First b_Last from_ to_ n first last).Ends r) (w : World) (H : St w w [] R) : Ret Try.prog 52 #[.agg #[v_b_Years, v_b_Olds, I b_First, I b_Last], I from_, I to_, I n, I first, I last] w fun v w' => (∃ (y0 : Int), (.inl y0) = r /\ v = .tuple #[.pointer none, I y0] /\ St w w' [] R) ∨ (∃ (y0 : Int) (y1 : Int) (y2 : List (Int × Span)) (y3 : Int) (nb0 : Nat) (nb1 : Nat), (.inr (y0, y1, y2, y3)) = r /\ v = .tuple #[.pointer (some ⟨nb0, 0, none⟩), I y3] /\ St w w' [cBlk nb0 [v_b_Years, v_b_Olds, I y0, I y1, .map (some nb1)] 126, cMl I encSp nb1 y2] R) := by
 refine ret_of_W Try.func52 rfl rfl rfl ?_
 refine W.seq ?_
 refine W.region rfl ?_
 refine t_box (v := .agg #[v_b_Years, v_b_Olds, I b_First, I b_Last]) (cs := [v_b_Years, v_b_Olds, I b_First, I b_Last]) H rfl rfl ?_
 intro b_1 w1z H
 refine s_val (x_as (v := .pointer none) rfl) ?_
 refine s_val (x_as (v := I 0) rfl) ?_
 refine s_nil ?_
 refine W.seq ?_
 refine W.region rfl ?_
 refine s_val (x_ld (p := .pointer (some ⟨b_1, 0, none⟩)) (v := .agg #[v_b_Years, v_b_Olds, I b_First, I b_Last]) rfl (ldb_ag (ds := [v_b_Years, v_b_Olds, I b_First, I b_Last]) Ag26 Sz26 (H.blk (k := 0) rfl) rfl rfl)) ?_
 obtain ⟨r3z, hx2z, hM⟩ := M.e_bind hM
 refine s_call cf62 [.agg #[v_b_Years, v_b_Olds, I b_First, I b_Last]] rfl (zcC b_Years b_Olds b_First b_Last (hC_b_Years.app _) hs_b_Years (hC_b_Olds.app _) hs_b_Olds hx2z _ (St.give (T := [cBlk b_1 [v_b_Years, v_b_Olds, I b_First, I b_Last] 26]) H rfl)) ?_
 rintro vq w4z (⟨r1, hr5z, hvq, H2_⟩ | ⟨r02, r03, r04, r12, nb0_2, nb1_3, hr6z, hvq, H2_⟩)
 ·subst hr5z
  subst vq
  try dsimp only at hM
  replace H : St w w4z [cBlk b_1 [v_b_Years, v_b_Olds, I b_First, I b_Last] 26] R := H.back H2_ rfl
  clear H2_
  refine s_val (x_mv (v := .tuple #[.pointer none, I r1]) rfl) ?_
  refine s_val (x_ext (vs := [.pointer none, I r1]) (v := .pointer none) rfl rfl) ?_
  refine s_val (x_ext (vs := [.pointer none, I r1]) (v := I r1) rfl rfl) ?_
  refine s_val (x_as (v := .pointer none) rfl) ?_
  refine s_val (x_as (v := I r1) rfl) ?_
  refine s_nil ?_
  refine W.seq ?_
  refine W.block ?_
  refine W.seq ?_
  refine W.region rfl ?_
  refine s_val (x_mv (v := I r1) rfl) ?_
  refine s_val (x_cmp (kd := .i64) (a := r1) (b := 0) (r := r1 != 0) rfl rfl rfl) ?_
  refine s_val (x_as (v := B (r1 != 0)) rfl) ?_
  refine s_nil ?_
  refine W.cond (r1 != 0) rfl (fun c7z => ?_) (fun c7z => ?_)
  ·replace hM := M.e_t hM c7z
   simp only [decide_eq_true_eq, decide_eq_false_iff_not, beq_iff_eq, bne_iff_ne, beq_eq_false_iff_ne, bne_eq_false_iff_eq, ne_eq, Decidable.not_not] at c7z
   refine W.seq ?_
   refine W.region rfl ?_
   refine s_val (x_mv (v := I r1) rfl) ?_
   refine s_val (x_as (v := .pointer none) rfl) ?_
   refine s_val (x_as (v := I r1) rfl) ?_
   refine s_nil ?_
   refine W.ret ?_
   have hr_ := M.e_pure hM
   exact ⟨_, resE_tmp2 rfl, .inl (⟨r1, hr_, rfl, (H.pick [] (by decide) rfl)⟩)⟩
  replace hM := M.e_f hM c7z
  exact (M.e_fail hM).elim
 subst hr6z
 subst vq
 try dsimp only at hM
 replace H : St w w4z [cBlk nb0_2 [v_b_Years, v_b_Olds, I r02, I r03, .map (some nb1_3)] 126, cMl I encSp nb1_3 r04, cBlk b_1 [v_b_Years, v_b_Olds, I b_First, I b_Last] 26] R := H.back H2_ rfl
 clear H2_
 refine s_val (x_mv (v := .tuple #[.pointer (some ⟨nb0_2, 0, none⟩), I r12]) rfl) ?_
 refine s_val (x_ext (vs := [.pointer (some ⟨nb0_2, 0, none⟩), I r12]) (v := .pointer (some ⟨nb0_2, 0, none⟩)) rfl rfl) ?_
 refine s_val (x_ext (vs := [.pointer (some ⟨nb0_2, 0, none⟩), I r12]) (v := I r12) rfl rfl) ?_
 refine s_val (x_as (v := .pointer (some ⟨nb0_2, 0, none⟩)) rfl) ?_
 refine s_val (x_as (v := I r12) rfl) ?_
 refine s_nil ?_
 refine W.seq ?_
 refine W.block ?_
 refine W.seq ?_
 refine W.region rfl ?_
 refine s_val (x_mv (v := I r12) rfl) ?_
 refine s_val (x_cmp (kd := .i64) (a := r12) (b := 0) (r := r12 != 0) rfl rfl rfl) ?_
 refine s_val (x_as (v := B (r12 != 0)) rfl) ?_
 refine s_nil ?_
 refine W.cond (r12 != 0) rfl (fun c8z => ?_) (fun c8z => ?_)
 ·replace hM := M.e_t hM c8z
  exact (M.e_fail hM).elim
 replace hM := M.e_f hM c8z
 simp only [decide_eq_true_eq, decide_eq_false_iff_not, beq_iff_eq, bne_iff_ne, beq_eq_false_iff_ne, bne_eq_false_iff_eq, ne_eq, Decidable.not_not] at c8z
 refine W.seq ?_
 refine W.region rfl ?_
 refine s_val (x_mv (v := I from_) rfl) ?_
 refine s_val (x_fa (a := .pointer (some ⟨b_1, 0, none⟩)) (v := .pointer (some ⟨b_1, 2, none⟩)) rfl (fa_blk (o := 0) Fd26_2 Sz3)) ?_
 refine s_val (x_ld (p := .pointer (some ⟨b_1, 2, none⟩)) (v := I b_First) rfl (ldb_sc Sc3 (H.blk (k := 2) rfl) rfl)) ?_
 refine s_val (x_mv (v := I to_) rfl) ?_
 obtain ⟨r10z, hx9z, hM⟩ := M.e_bind hM
 refine s_call cf63 [I from_, I b_First, I to_] rfl (zac from_ b_First to_ hx9z _ (St.give (T := [cBlk nb0_2 [v_b_Years, v_b_Olds, I r02, I r03, .map (some nb1_3)] 126, cMl I encSp nb1_3 r04, cBlk b_1 [v_b_Years, v_b_Olds, I b_First, I b_Last] 26]) H rfl)) ?_
 rintro vq w11z ⟨r2, hr12z, hvq, H2_⟩
 subst hr12z
 subst vq
 try dsimp only at hM
 replace H : St w w11z [cBlk nb0_2 [v_b_Years, v_b_Olds, I r02, I r03, .map (some nb1_3)] 126, cMl I encSp nb1_3 r04, cBlk b_1 [v_b_Years, v_b_Olds, I b_First, I b_Last] 26] R := H.back H2_ rfl
 clear H2_
 refine s_val (x_not (b := r2) rfl) ?_
 refine s_val (x_mv (v := B (!r2)) rfl) ?_
 refine g_val (!(!r2)) (gy_f rfl) (fun hg => x_mv (v := I to_) rfl) ?_
 refine g_val (!(!r2)) (gy_f rfl) (fun hg => x_fa (a := .pointer (some ⟨b_1, 0, none⟩)) (v := .pointer (some ⟨b_1, 2, none⟩)) rfl (fa_blk (o := 0) Fd26_2 Sz3)) ?_
 refine g_val (!(!r2)) (gy_f rfl) (fun hg => x_ld (p := .pointer (some ⟨b_1, 2, none⟩)) (v := I b_First) (gd_of (c := !(!r2)) hg (.pointer (some ⟨b_1, 2, none⟩))) (ldb_sc Sc3 (H.blk (k := 2) rfl) rfl)) ?_
 refine g_val (!(!r2)) (gy_f rfl) (fun hg => x_fa (a := .pointer (some ⟨b_1, 0, none⟩)) (v := .pointer (some ⟨b_1, 3, none⟩)) rfl (fa_blk (o := 0) Fd26_3 Sz3)) ?_
 refine g_val (!(!r2)) (gy_f rfl) (fun hg => x_ld (p := .pointer (some ⟨b_1, 3, none⟩)) (v := I b_Last) (gd_of (c := !(!r2)) hg (.pointer (some ⟨b_1, 3, none⟩))) (ldb_sc Sc3 (H.blk (k := 2) rfl) rfl)) ?_
 obtain ⟨r3, hx13z, hM⟩ := M.e_bind hM
 refine t_gcall (!(!r2)) (gy_f rfl) cf63 (B r3) (fun _ => [I to_, I b_First, I b_Last]) (fun hg => lst3 (gd_of (c := !(!r2)) hg (I to_)) (gd_of (c := !(!r2)) hg (I b_First)) (gd_of (c := !(!r2)) hg (I b_Last))) H (fun hg => (zac to_ b_First b_Last (M.e_opt hx13z hg) _ (H.give (A := []) rfl)).mono fun v_ w_ ⟨y_, hr_, hv_, H_⟩ => by subst hr_; exact ⟨hv_, H.via H_⟩) ?_
 intro w14z H
 refine g_val (!(!r2)) (gy_f rfl) (fun hg => x_not (b := r3) (gd_of (c := !(!r2)) hg (B r3))) ?_
 refine s_val (x_por (b := !r2) (r := !r3) rfl rfl (fun hb => gd_of (c := !(!r2)) (by first | exact hb | (rw [hb]; rfl) | simp_all) (B (!r3)))) ?_
 refine s_val (x_as (v := B ((!r2) || (!r3))) rfl) ?_
 refine s_nil ?_
 refine W.cond ((!r2) || (!r3)) rfl (fun c15z => ?_) (fun c15z => ?_)
 ·replace hM := M.e_t hM c15z
  refine W.seq ?_
  refine W.region rfl ?_
  refine s_val (x_as (v := .pointer none) rfl) ?_
  refine s_val (x_as (v := I 2) rfl) ?_
  refine s_nil ?_
  refine W.ret ?_
  have hr_ := M.e_pure hM
  exact ⟨_, resE_tmp2 rfl, .inl (⟨2, hr_, rfl, (H.pick [] (by decide) rfl)⟩)⟩
 replace hM := M.e_f hM c15z
 refine W.seq ?_
 refine W.region rfl ?_
 refine s_val (x_mv (v := I n) rfl) ?_
 refine s_val (x_mv (v := I first) rfl) ?_
 refine s_val (x_mv (v := I last) rfl) ?_
 obtain ⟨r17z, hx16z, hM⟩ := M.e_bind hM
 refine s_call cf63 [I n, I first, I last] rfl (zac n first last hx16z _ (St.give (T := [cBlk nb0_2 [v_b_Years, v_b_Olds, I r02, I r03, .map (some nb1_3)] 126, cMl I encSp nb1_3 r04, cBlk b_1 [v_b_Years, v_b_Olds, I b_First, I b_Last] 26]) H rfl)) ?_
 rintro vq w18z ⟨r4, hr19z, hvq, H2_⟩
 subst hr19z
 subst vq
 try dsimp only at hM
 replace H : St w w18z [cBlk nb0_2 [v_b_Years, v_b_Olds, I r02, I r03, .map (some nb1_3)] 126, cMl I encSp nb1_3 r04, cBlk b_1 [v_b_Years, v_b_Olds, I b_First, I b_Last] 26] R := H.back H2_ rfl
 clear H2_
 refine s_val (x_not (b := r4) rfl) ?_
 refine s_val (x_as (v := B (!r4)) rfl) ?_
 refine s_nil ?_
 refine W.cond (!r4) rfl (fun c20z => ?_) (fun c20z => ?_)
 ·replace hM := M.e_t hM c20z
  refine W.seq ?_
  refine W.region rfl ?_
  refine s_val (x_as (v := .pointer none) rfl) ?_
  refine s_val (x_as (v := I 4) rfl) ?_
  refine s_nil ?_
  refine W.ret ?_
  have hr_ := M.e_pure hM
  exact ⟨_, resE_tmp2 rfl, .inl (⟨4, hr_, rfl, (H.pick [] (by decide) rfl)⟩)⟩
 replace hM := M.e_f hM c20z
 refine W.skip ?_
 refine W.seq ?_
 refine W.seq ?_
 refine W.region rfl ?_
 refine s_val (x_mv (v := .pointer (some ⟨nb0_2, 0, none⟩)) rfl) ?_
 obtain ⟨r22z, hx21z, hM⟩ := M.e_bind hM
 refine s_call cf64 [.pointer (some ⟨nb0_2, 0, none⟩)] rfl (zcd b_Years b_Olds r02 r03 r04 (hC_b_Years.app _) hs_b_Years (hC_b_Olds.app _) hs_b_Olds (Has.here (k := 1) rfl) (Has.here (k := 0) rfl) hx21z _ (St.give (T := [cBlk nb0_2 [v_b_Years, v_b_Olds, I r02, I r03, .map (some nb1_3)] 126, cMl I encSp nb1_3 r04, cBlk b_1 [v_b_Years, v_b_Olds, I b_First, I b_Last] 26]) H rfl)) ?_
 rintro vq w23z ⟨r0, r13, hr24z, hvq, H2_⟩
 subst hr24z
 subst vq
 try dsimp only at hM
 replace H : St w w23z [cBlk nb0_2 [v_b_Years, v_b_Olds, I r02, I r03, .map (some nb1_3)] 126, cMl I encSp nb1_3 r04, cBlk b_1 [v_b_Years, v_b_Olds, I b_First, I b_Last] 26] R := H.back H2_ rfl
 clear H2_
 refine s_val (x_mv (v := .tuple #[I r0, B r13]) rfl) ?_
 refine s_val (x_ext (vs := [I r0, B r13]) (v := I r0) rfl rfl) ?_
 refine s_val (x_ext (vs := [I r0, B r13]) (v := B r13) rfl rfl) ?_
 refine s_val (x_as (v := I r0) rfl) ?_
 refine s_val (x_as (v := B r13) rfl) ?_
 refine s_nil ?_
 refine W.seq ?_
 refine W.region rfl ?_
 refine s_val (x_mv (v := B r13) rfl) ?_
 refine s_nil ?_
 refine W.cond r13 rfl (fun c25z => ?_) (fun c25z => ?_)
 ·replace hM := M.e_t hM c25z
  refine W.seq ?_
  refine W.region rfl ?_
  refine s_val (x_as (v := .pointer none) rfl) ?_
  refine s_val (x_as (v := I 6) rfl) ?_
  refine s_nil ?_
  refine W.ret ?_
  have hr_ := M.e_pure hM
  exact ⟨_, resE_tmp2 rfl, .inl (⟨6, hr_, rfl, (H.pick [] (by decide) rfl)⟩)⟩
 replace hM := M.e_f hM c25z
 refine W.skip ?_
 refine W.seq ?_
 refine W.region rfl ?_
 refine s_val (x_mv (v := .pointer (some ⟨nb0_2, 0, none⟩)) rfl) ?_
 refine s_val (x_as (v := .pointer (some ⟨nb0_2, 0, none⟩)) rfl) ?_
 refine s_val (x_as (v := I 0) rfl) ?_
 refine s_nil ?_
 refine W.ret ?_
 have hr_ := M.e_pure hM
 exact ⟨_, resE_tmp2 rfl, .inr (⟨r02, r03, r04, 0, nb0_2, nb1_3, hr_, rfl, (H.pick [0, 1] (by decide) rfl)⟩)⟩

def zbB : M Unit :=
  M.pure ()
theorem zb9 {R : List Chunk}    {r : Unit} (hM : (zbB).Ends r) (w : World) (H : St w w [] R) : Ret Try.prog 55 #[] w fun v w' => () = r /\ v = .agg #[.func (.func 91) #[] #[]] /\ St w w' [] R := by
 refine ret_of_W Try.func55 rfl rfl rfl ?_
 refine W.seq ?_
 refine W.region rfl ?_
 refine t_alloc (cs := [.nilFunc]) H Al113 rfl ?_
 intro b_1 w1z H
 refine s_nil ?_
 refine W.seq ?_
 refine W.region rfl ?_
 refine s_val (x_bld (ps := [(0, .func (.func 91) #[] #[])]) (zs := [.nilFunc]) (L' := [.func (.func 91) #[] #[]]) rfl Try.underlying113 Al113 rfl (Bd113 Try.underlying113) (.cons (cs := [.func (.func 91) #[] #[]]) rfl rfl rfl rfl rfl <| .nil)) ?_
 refine t_st (k := 0) (b := b_1) (off := 0) (cs := [.nilFunc]) (vs := [.func (.func 91) #[] #[]]) (cs' := [.func (.func 91) #[] #[]]) (v := .agg #[.func (.func 91) #[] #[]]) (L' := [cBlk b_1 [.func (.func 91) #[] #[]] 113]) H rfl rfl rfl Sz113 rfl rfl rfl rfl rfl rfl ?_
 intro w2z H
 refine s_nil ?_
 refine W.ret ?_
 have hb3z := (H.blk (k := 0) rfl)
 have hr_ := M.e_pure hM
 exact ⟨_, (resE_of1 (v := .agg #[.func (.func 91) #[] #[]]) rfl (.cell (v := .agg #[.func (.func 91) #[] #[]]) rfl (run_loadVar_ag (ds := [.func (.func 91) #[] #[]]) Ag113 Sz113 hb3z rfl rfl) <| .nil)), ⟨hr_, rfl, (H.pick [] (by decide) rfl)⟩⟩

def zbM (s : Span) : M Int :=
  M.pure s.lo
theorem zbn {R : List Chunk}  (s : Span)  {r : Int} (hM : (zbM s).Ends r) (w : World) (H : St w w [] R) : Ret Try.prog 91 #[.agg #[I s.lo, I s.hi]] w fun v w' => ∃ (y0 : Int), y0 = r /\ v = I y0 /\ St w w' [] R := by
 refine ret_of_W Try.func91 rfl rfl rfl ?_
 refine W.seq ?_
 refine W.region rfl ?_
 refine t_box (v := .agg #[I s.lo, I s.hi]) (cs := [I s.lo, I s.hi]) H rfl rfl ?_
 intro b_1 w1z H
 refine s_val (x_as (v := I 0) rfl) ?_
 refine s_nil ?_
 refine W.seq ?_
 refine W.region rfl ?_
 refine s_val (x_fa (a := .pointer (some ⟨b_1, 0, none⟩)) (v := .pointer (some ⟨b_1, 0, none⟩)) rfl (fa_blk (o := 0) Fd35_0 Sz3)) ?_
 refine s_val (x_ld (p := .pointer (some ⟨b_1, 0, none⟩)) (v := I s.lo) rfl (ldb_sc Sc3 (H.blk (k := 0) rfl) rfl)) ?_
 refine s_val (x_as (v := I s.lo) rfl) ?_
 refine s_nil ?_
 refine W.ret ?_
 have hr_ := M.e_pure hM
 exact ⟨_, resE_tmp rfl, ⟨s.lo, hr_, rfl, (H.pick [] (by decide) rfl)⟩⟩

def za9 (x_stage : Int) (stage : Int) : M Bool :=
  M.pure (decide (x_stage <= stage))
theorem zbE {R : List Chunk}  (x_stage : Int) (stage : Int)  {r : Bool} (hM : (za9 x_stage stage).Ends r) (w : World) (H : St w w [] R) : Ret Try.prog 53 #[.agg #[I x_stage], I stage] w fun v w' => ∃ (y0 : Bool), y0 = r /\ v = B y0 /\ St w w' [] R := by
 refine ret_of_W Try.func53 rfl rfl rfl ?_
 refine W.seq ?_
 refine W.region rfl ?_
 refine t_box (v := .agg #[I x_stage]) (cs := [I x_stage]) H rfl rfl ?_
 intro b_1 w1z H
 refine s_val (x_as (v := B false) rfl) ?_
 refine s_nil ?_
 refine W.seq ?_
 refine W.region rfl ?_
 refine s_val (x_mv (v := I stage) rfl) ?_
 refine s_val (x_fa (a := .pointer (some ⟨b_1, 0, none⟩)) (v := .pointer (some ⟨b_1, 0, none⟩)) rfl (fa_blk (o := 0) Fd107_0 Sz3)) ?_
 refine s_val (x_ld (p := .pointer (some ⟨b_1, 0, none⟩)) (v := I x_stage) rfl (ldb_sc Sc3 (H.blk (k := 0) rfl) rfl)) ?_
 refine s_val (x_cmp (kd := .i64) (a := stage) (b := x_stage) (r := decide (x_stage <= stage)) rfl rfl rfl) ?_
 refine s_val (x_as (v := B (decide (x_stage <= stage))) rfl) ?_
 refine s_nil ?_
 refine W.ret ?_
 have hr_ := M.e_pure hM
 exact ⟨_, resE_tmp rfl, ⟨(decide (x_stage <= stage)), hr_, rfl, (H.pick [] (by decide) rfl)⟩⟩

def za8 : M Unit :=
  M.pure ()
theorem zbI {R : List Chunk}    {r : Unit} (hM : (za8).Ends r) (w : World) (H : St w w [] R) : Ret Try.prog 56 #[] w fun v w' => () = r /\ v = .agg #[.func (.func 92) #[] #[]] /\ St w w' [] R := by
 refine ret_of_W Try.func56 rfl rfl rfl ?_
 refine W.seq ?_
 refine W.region rfl ?_
 refine t_alloc (cs := [.nilFunc]) H Al113 rfl ?_
 intro b_1 w1z H
 refine s_nil ?_
 refine W.seq ?_
 refine W.region rfl ?_
 refine s_val (x_bld (ps := [(0, .func (.func 92) #[] #[])]) (zs := [.nilFunc]) (L' := [.func (.func 92) #[] #[]]) rfl Try.underlying113 Al113 rfl (Bd113 Try.underlying113) (.cons (cs := [.func (.func 92) #[] #[]]) rfl rfl rfl rfl rfl <| .nil)) ?_
 refine t_st (k := 0) (b := b_1) (off := 0) (cs := [.nilFunc]) (vs := [.func (.func 92) #[] #[]]) (cs' := [.func (.func 92) #[] #[]]) (v := .agg #[.func (.func 92) #[] #[]]) (L' := [cBlk b_1 [.func (.func 92) #[] #[]] 113]) H rfl rfl rfl Sz113 rfl rfl rfl rfl rfl rfl ?_
 intro w2z H
 refine s_nil ?_
 refine W.ret ?_
 have hb3z := (H.blk (k := 0) rfl)
 have hr_ := M.e_pure hM
 exact ⟨_, (resE_of1 (v := .agg #[.func (.func 92) #[] #[]]) rfl (.cell (v := .agg #[.func (.func 92) #[] #[]]) rfl (run_loadVar_ag (ds := [.func (.func 92) #[] #[]]) Ag113 Sz113 hb3z rfl rfl) <| .nil)), ⟨hr_, rfl, (H.pick [] (by decide) rfl)⟩⟩

def zaV (s : Span) : M Int :=
  M.pure s.hi
theorem za3 {R : List Chunk}  (s : Span)  {r : Int} (hM : (zaV s).Ends r) (w : World) (H : St w w [] R) : Ret Try.prog 92 #[.agg #[I s.lo, I s.hi]] w fun v w' => ∃ (y0 : Int), y0 = r /\ v = I y0 /\ St w w' [] R := by
 refine ret_of_W Try.func92 rfl rfl rfl ?_
 refine W.seq ?_
 refine W.region rfl ?_
 refine t_box (v := .agg #[I s.lo, I s.hi]) (cs := [I s.lo, I s.hi]) H rfl rfl ?_
 intro b_1 w1z H
 refine s_val (x_as (v := I 0) rfl) ?_
 refine s_nil ?_
 refine W.seq ?_
 refine W.region rfl ?_
 refine s_val (x_fa (a := .pointer (some ⟨b_1, 0, none⟩)) (v := .pointer (some ⟨b_1, 1, none⟩)) rfl (fa_blk (o := 0) Fd35_1 Sz3)) ?_
 refine s_val (x_ld (p := .pointer (some ⟨b_1, 1, none⟩)) (v := I s.hi) rfl (ldb_sc Sc3 (H.blk (k := 0) rfl) rfl)) ?_
 refine s_val (x_as (v := I s.hi) rfl) ?_
 refine s_nil ?_
 refine W.ret ?_
 have hr_ := M.e_pure hM
 exact ⟨_, resE_tmp rfl, ⟨s.hi, hr_, rfl, (H.pick [] (by decide) rfl)⟩⟩

end Go.Proofs.Ytcgalcbkkijkhaa
end
