/- Part 6 of the texts on which the proof rests. Conditions: none. -/
import Derived.Test.YtbaehghammbjdaaGreatZB5
set_option linter.unusedVariables false
set_option linter.unusedSimpArgs false
set_option linter.unusedSectionVars false
section
set_option maxRecDepth 100000
set_option maxHeartbeats 16000000
namespace Go.Proofs.YtbaehghammbjdaaGreat
open Go Go.Nm
def zbc (thresholds : List Int) : Nat -> M (Nat ⊕ (Unit ⊕ Unit)) := fun i =>
  bif decide ((i : Int) < (thresholds.length : Int)) then (
  M.grd (decide ((i : Int) < (thresholds.length : Int))) <|
  M.bind (zaf (thresholds.getD i 0) 0 2001) fun r2 =>
  bif r2 then (
  M.pure (.inr (.inl ())))
  else (
  M.pure (.inl (i + 1))))
  else (
  M.pure (.inr (.inr ())))
def za6 (watches : List Int) (thresholds : List Int) (aa : Int) (ab : Int) : (Bool × Nat) -> M ((Bool × Nat) ⊕ Bool) := fun (warned, k) =>
  bif decide ((k : Int) < (watches.length : Int)) then (
  M.grd ((!(!warned) || (decide ((k : Int) < (watches.length : Int))))) <|
  M.grd ((!((!warned) && ((watches.getD k 0) == aa)) || (decide ((k : Int) < (thresholds.length : Int))))) <|
  M.pure (.inl ((warned || (((watches.getD k 0) == aa) && (decide ((thresholds.getD k 0) <= ab)))), k + 1)))
  else (
  M.pure (.inr warned))
def zbt (ac : List Int) (ae : List Span) (ag : List Int) (ah : List Town) (ai : Int) (aj : Int) (aa : List Flood) (watches : List Int) (thresholds : List Int) : (Nat × (List Int) × (List Int)) -> M ((Nat × (List Int) × (List Int)) ⊕ ((List Int) × (List Int) × (List Int) × (List Int))) := fun (i2, l, l2) =>
  bif decide ((i2 : Int) < (aa.length : Int)) then (
  M.grd (decide ((i2 : Int) < (aa.length : Int))) <|
  M.bind (zaw ac ae ag ah ai aj aa watches (aa.getD i2 default)) fun (ak, am, ab) =>
  M.bind (M.iter (za6 watches thresholds ak am) (false, 0)) fun warned2 =>
  bif (ab && (!warned2)) then (
  M.grd (decide ((l.length + ([(i2 : Int)]).length) * 8 <= 140737488355328)) <|
  bif ((!ab) && warned2) then (
  M.grd (decide ((l2.length + ([(i2 : Int)]).length) * 8 <= 140737488355328)) <|
  M.pure (.inl (i2 + 1, l ++ ([(i2 : Int)]), l2 ++ ([(i2 : Int)]))))
  else (
  M.pure (.inl (i2 + 1, l ++ ([(i2 : Int)]), l2))))
  else (
  bif ((!ab) && warned2) then (
  M.grd (decide ((l2.length + ([(i2 : Int)]).length) * 8 <= 140737488355328)) <|
  M.pure (.inl (i2 + 1, l, l2 ++ ([(i2 : Int)]))))
  else (
  M.pure (.inl (i2 + 1, l, l2)))))
  else (
  M.pure (.inr (l, l2, l2, l)))
def zaF (aa : List Int) (ab : List Span) (ac : List Int) (ae : List Town) (ag : Int) (ah : Int) (ai : List Flood) (watches : List Int) (thresholds : List Int) : M ((List Int) × (List Int) × Int) :=
  M.bind (zaq aa ab ac ae ag ah ai watches) fun (r0, r1) =>
  bif r1 != 0 then (
  M.pure (([]), ([]), r1))
  else (
  bif (thresholds.length : Int) != (watches.length : Int) then (
  M.pure (([]), ([]), 2))
  else (
  M.bind (M.iter (zbc thresholds) 0) fun x_ => match x_ with
  | (.inl (_ : Unit)) => (
  M.pure (([]), ([]), 4))
  | (.inr (_ : Unit)) => (
  M.bind (M.iter (zbt aa ab ac ae ag ah ai watches thresholds) (0, [], [])) fun (l3, l4, l5, l6) =>
  M.pure (l6, l5, 0))))
theorem zdL {R : List Chunk} {bh : Cells} {aq : Value} {bi : Cells} {au : Value} {bj : Cells} {av : Value} {bm : Cells} {aw : Value} {bn : Cells} {ae : Value} {bo : Cells} {ai : Value} {bp : Cells} {aj : Value} (aI : List Int) (aJ : List Span) (aK : List Int) (aL : List Town) (ak : Int) (am : Int) (ay : List Flood) (watches : List Int) (thresholds : List Int) (bq : Reads R bh) (br : Sl bh aq aI) (bt : Reads R bi) (bu : Sl bi au aJ) (bv : Reads R bj) (bw : Sl bj av aK) (bx : Reads R bm) (bz : Sl bm aw aL) (aS : Reads R bn) (aH : Sl bn ae ay) (aW : Reads R bo) (aC : Sl bo ai watches) (bA : Reads R bp) (aD : Sl bp aj thresholds) {r : ((List Int) × (List Int) × Int)} (hM : (zaF aI aJ aK aL ak am ay watches thresholds).Ends r) (w : World) (H : St w w [] R) : Ret Tryz.prog 17 #[.agg #[aq, au, av, aw, I ak, I am, ae], ai, aj] w fun v w' => ∃ (y0 : List Int) (y1 : List Int) (y2 : Int) (u0 : Value) (u1 : Value), (y0, y1, y2) = r /\ v = .tuple #[u0, u1, I y2] /\ St w w' [cOwn (α := Int) 3 u0 y0, cOwn (α := Int) 3 u1 y1] R := by
 refine ret_of_W Tryz.func17 rfl rfl rfl ?_
 refine W.seq ?_
 refine W.region rfl ?_
 refine t_box (v := .agg #[aq, au, av, aw, I ak, I am, ae]) (cs := [aq, au, av, aw, I ak, I am, ae]) H rfl rfl ?_
 intro ao cf H
 refine zA (.slice none 0 0) rfl ?_
 refine zA (.slice none 0 0) rfl ?_
 refine zA (I 0) rfl ?_
 refine s_nil ?_
 refine W.seq ?_
 refine W.seq ?_
 refine W.region rfl ?_
 refine s_val (x_ld (p := Pq ao) (v := .agg #[aq, au, av, aw, I ak, I am, ae]) rfl (ldb_ag (ds := [aq, au, av, aw, I ak, I am, ae]) Ag37 Sz37 (H.bl 0) rfl rfl)) ?_
 refine zM ai rfl ?_
 obtain ⟨cg, bJ, hM⟩ := M.e_bind hM
 refine s_call cf35 [.agg #[aq, au, av, aw, I ak, I am, ae], ai] rfl (zck aI aJ aK aL ak am ay watches (bq.app _) br (bt.app _) bu (bv.app _) bw (bx.app _) bz (aS.app _) aH (aW.app _) aC bJ _ (H.gt 1)) ?_
 rintro vq ci ⟨r0, r1, aB, bK, hvq, aE⟩
 subst bK
 subst vq
 try dsimp only at hM
 replace H := H.bk aE
 clear aE
 refine zM (.tuple #[aB, I r1]) rfl ?_
 refine zX [aB, I r1] aB rfl rfl ?_
 refine zX [aB, I r1] (I r1) rfl rfl ?_
 refine zA aB rfl ?_
 refine zA (I r1) rfl ?_
 refine s_nil ?_
 refine W.seq ?_
 refine W.region rfl ?_
 refine zM (I r1) rfl ?_
 refine zC r1 0 (r1 != 0) rfl rfl rfl ?_
 refine s_nil ?_
 refine W.cond (r1 != 0) rfl (fun aM => ?_) (fun aM => ?_)
 ·replace hM := M.e_t hM aM
  simp only [qy1, qy2, qy3, qy4, qy5, qy6, ne_eq, qy7] at aM
  refine W.seq ?_
  refine W.region rfl ?_
  refine zM (I r1) rfl ?_
  refine zA (.slice none 0 0) rfl ?_
  refine zA (.slice none 0 0) rfl ?_
  refine zA (I r1) rfl ?_
  refine s_nil ?_
  replace H := H.pk []
  refine W.ret ?_
  have aF := M.e_pure hM
  replace H := H.nilOwn (α := Int) 3
  replace H := H.nilOwn (α := Int) 3
  exact ⟨_, resE_tmp3 rfl, ⟨([]), ([]), r1, (.slice none 0 0), (.slice none 0 0), aF, rfl, (H.pk [1, 0])⟩⟩
 replace hM := M.e_f hM aM
 simp only [qy1, qy2, qy3, qy4, qy5, qy6, ne_eq, qy7] at aM
 refine W.skip ?_
 refine W.seq ?_
 refine W.seq ?_
 refine W.region rfl ?_
 refine zM aj rfl ?_
 have cj := (aD).len_le
 refine s_val (x_lenS T22.und rfl aD) ?_
 refine zM ai rfl ?_
 have ck := (aC).len_le
 refine s_val (x_lenS T22.und rfl aC) ?_
 refine zC (thresholds.length : Int) (watches.length : Int) ((thresholds.length : Int) != (watches.length : Int)) rfl rfl rfl ?_
 refine s_nil ?_
 refine W.cond ((thresholds.length : Int) != (watches.length : Int)) rfl (fun aN => ?_) (fun aN => ?_)
 ·replace hM := M.e_t hM aN
  simp only [qy1, qy2, qy3, qy4, qy5, qy6, ne_eq, qy7] at aN
  refine W.seq ?_
  refine W.region rfl ?_
  refine zA (.slice none 0 0) rfl ?_
  refine zA (.slice none 0 0) rfl ?_
  refine zA (I 2) rfl ?_
  refine s_nil ?_
  replace H := H.pk []
  refine W.ret ?_
  have aF := M.e_pure hM
  replace H := H.nilOwn (α := Int) 3
  replace H := H.nilOwn (α := Int) 3
  exact ⟨_, resE_tmp3 rfl, ⟨([]), ([]), 2, (.slice none 0 0), (.slice none 0 0), aF, rfl, (H.pk [1, 0])⟩⟩
 replace hM := M.e_f hM aN
 simp only [qy1, qy2, qy3, qy4, qy5, qy6, ne_eq, qy7] at aN
 refine W.skip ?_
 refine W.seq ?_
 refine W.seq ?_
 refine W.region rfl ?_
 refine zA (I 0) rfl ?_
 refine s_nil ?_
 refine W.block ?_
 obtain ⟨bL, aX, bB⟩ := M.e_bind hM
 obtain ⟨bC, aX⟩ := M.e_iter aX
 refine W.loop (fun m σ W => ∃ (i : Nat) (ρ : Env), σ = upds ρ [(1, ai), (2, aj), (3, Pq ao), (11, I (i : Int))] /\ M.iterN (zbc thresholds) m i = some bL /\ St w W [cOwn (α := Dem) 70 aB r0, cBlk ao [aq, au, av, aw, I ak, I am, ae] 37] R) ?_ ?_
 ·exact ⟨_, 0, _, upds_of _ _ ⟨rfl, rfl, rfl, rfl, trivial⟩, aX, H⟩
 rintro cl σ cm ⟨i, ρ, rfl, bD, H⟩
 obtain ⟨bM, bN, cn, hM, aY⟩ := M.e_iterN bD
 simp only [zbc] at hM
 clear bD
 refine W.seq ?_
 refine W.seq ?_
 refine W.region rfl ?_
 refine zM (I (i : Int)) rfl ?_
 refine zM aj rfl ?_
 have co := (aD).len_le
 refine s_val (x_lenS T22.und rfl aD) ?_
 refine zC (i : Int) (thresholds.length : Int) (decide ((i : Int) < (thresholds.length : Int))) rfl rfl rfl ?_
 refine s_nil ?_
 refine W.cond (decide ((i : Int) < (thresholds.length : Int))) rfl (fun aO => ?_) (fun aO => ?_)
 ·replace hM := M.e_t hM aO
  simp only [qy1, qy2, qy3, qy4, qy5, qy6, ne_eq, qy7] at aO
  refine W.skip ?_
  refine W.seq ?_
  refine W.block ?_
  refine W.seq ?_
  refine W.region rfl ?_
  refine zM aj rfl ?_
  refine zM (I (i : Int)) rfl ?_
  obtain ⟨bO, hM⟩ := M.e_grd hM
  simp only [Bool.and_eq_true, decide_eq_true_eq] at bO
  refine s_val (x_ix (a := aj) (b := I (i : Int)) (v := vat aj 1 (Int.toNat (i : Int))) rfl rfl (Sl.ix (α := Int) T22.und T22.size aD (by omega) (by omega))) ?_
  refine s_val (x_ld (p := vat aj 1 (Int.toNat (i : Int))) (v := I (thresholds.getD i 0)) rfl (ld_sc Sc3 (At.mono (Int_at aD (i := (i : Int)) (by omega) (by omega)) (bA.at H)))) ?_
  obtain ⟨cp, bP, hM⟩ := M.e_bind hM
  refine s_call cf49 [I (thresholds.getD i 0), I 0, I 2001] rfl (zal (thresholds.getD i 0) 0 2001 bP _ (H.gt 2)) ?_
  rintro vq cq ⟨r2, bQ, hvq, aE⟩
  subst bQ
  subst vq
  try dsimp only at hM
  replace H := H.bk aE
  clear aE
  refine s_nil ?_
  refine W.cond r2 rfl (fun aZ => ?_) (fun aZ => ?_)
  ·replace hM := M.e_t hM aZ
   refine W.seq ?_
   refine W.region rfl ?_
   refine zA (.slice none 0 0) rfl ?_
   refine zA (.slice none 0 0) rfl ?_
   refine zA (I 4) rfl ?_
   refine s_nil ?_
   refine W.ret ?_
   have bR := M.e_inr hM aY
   subst bR
   replace hM := bB
   try dsimp only at hM
   have aF := M.e_pure hM
   replace H := H.nilOwn (α := Int) 3
   replace H := H.nilOwn (α := Int) 3
   exact ⟨_, resE_tmp3 rfl, ⟨([]), ([]), 4, (.slice none 0 0), (.slice none 0 0), aF, rfl, (H.pk [1, 0])⟩⟩
  replace hM := M.e_f hM aZ
  refine W.skip ?_
  refine W.region rfl ?_
  refine zM (I (i : Int)) rfl ?_
  refine zR (i : Int) 1 ((i : Int) + 1) rfl rfl rfl (by omega) ?_
  refine zA (I ((i : Int) + 1)) rfl ?_
  refine s_nil ?_
  exact ⟨bM, bN, i + 1, _, upds_of _ _ ⟨rfl, rfl, rfl, rfl, trivial⟩, M.e_inl hM aY, H⟩
 replace hM := M.e_f hM aO
 simp only [qy1, qy2, qy3, qy4, qy5, qy6, ne_eq, qy7] at aO
 refine W.exit ?_
 have bS := M.e_inr hM aY
 subst bS
 replace hM := bB
 try dsimp only at hM
 refine W.seq ?_
 refine W.region rfl ?_
 refine zA (.slice none 0 0) rfl ?_
 refine zA (.slice none 0 0) rfl ?_
 refine s_nil ?_
 refine W.seq ?_
 refine W.seq ?_
 refine W.region rfl ?_
 refine zA (I 0) rfl ?_
 refine s_nil ?_
 refine W.block ?_
 replace H := H.nilOwn (α := Int) 3
 replace H := H.nilOwn (α := Int) 3
 obtain ⟨bT, a6, bU⟩ := M.e_bind hM
 obtain ⟨bC, a6⟩ := M.e_iter a6
 refine W.loop (fun m σ W => ∃ (i2 : Nat) (l : List Int) (l2 : List Int) (az : Value) (ax : Value) (ρ : Env), σ = upds ρ [(1, ai), (2, aj), (3, Pq ao), (12, az), (13, ax), (14, I (i2 : Int))] /\ M.iterN (zbt aI aJ aK aL ak am ay watches thresholds) m (i2, l, l2) = some bT /\ St w W [cOwn (α := Int) 3 ax l2, cOwn (α := Int) 3 az l, cOwn (α := Dem) 70 aB r0, cBlk ao [aq, au, av, aw, I ak, I am, ae] 37] R) ?_ ?_
 ·exact ⟨_, 0, [], [], (.slice none 0 0), (.slice none 0 0), _, upds_of _ _ ⟨rfl, rfl, rfl, rfl, rfl, rfl, trivial⟩, a6, H⟩
 rintro cr σ cu ⟨i2, l, l2, az, ax, ρ, rfl, bE, H⟩
 obtain ⟨aT, aU, cv, hM, aP⟩ := M.e_iterN bE
 simp only [zbt] at hM
 clear bE
 refine W.seq ?_
 refine W.seq ?_
 refine W.region rfl ?_
 refine zM (I (i2 : Int)) rfl ?_
 refine s_val (x_fa (a := Pq ao) (v := Oq ao 6) rfl (fa_blk (o := 0) Fd37_5 Sz35)) ?_
 refine s_val (x_ld (p := Oq ao 6) (v := ae) rfl (ldb_sc Sc35 (H.bl 3) rfl)) ?_
 have cw := (aH).len_le
 refine s_val (x_lenS T35.und rfl aH) ?_
 refine zC (i2 : Int) (ay.length : Int) (decide ((i2 : Int) < (ay.length : Int))) rfl rfl rfl ?_
 refine s_nil ?_
 refine W.cond (decide ((i2 : Int) < (ay.length : Int))) rfl (fun aQ => ?_) (fun aQ => ?_)
 ·replace hM := M.e_t hM aQ
  simp only [qy1, qy2, qy3, qy4, qy5, qy6, ne_eq, qy7] at aQ
  refine W.skip ?_
  refine W.seq ?_
  refine W.block ?_
  refine W.seq ?_
  refine W.draw (fun W => St w W [cOwn (α := Int) 3 ax l2, cOwn (α := Int) 3 az l, cOwn (α := Dem) 70 aB r0, cBlk ao [aq, au, av, aw, I ak, I am, ae] 37] R) [(0, true), (1, true), (2, true), (3, true), (4, true), (5, true), (6, true), (7, false), (8, true), (9, true), (10, true), (11, true), (12, true), (13, true), (14, true)] mixed (by decide +kernel) rfl ?_
  intro cx ag
  replace H := H.ext ag
  clear ag
  refine ⟨(H.pk [0, 1, 2, 3]), ?_⟩
  refine d_q rfl (fun w' H => x_ld (p := Pq ao) (v := .agg #[aq, au, av, aw, I ak, I am, ae]) rfl (ldb_ag (ds := [aq, au, av, aw, I ak, I am, ae]) Ag37 Sz37 (H.bl 3) rfl rfl)) ?_
  refine d_q rfl (fun w' H => x_mv (v := ai) rfl) ?_
  refine d_q rfl (fun w' H => x_fa (a := Pq ao) (v := Oq ao 6) rfl (fa_blk (o := 0) Fd37_5 Sz35)) ?_
  refine d_q rfl (fun w' H => x_ld (p := Oq ao 6) (v := ae) rfl (ldb_sc Sc35 (H.bl 3) rfl)) ?_
  refine d_q rfl (fun w' H => x_mv (v := I (i2 : Int)) rfl) ?_
  obtain ⟨bV, hM⟩ := M.e_grd hM
  simp only [Bool.and_eq_true, decide_eq_true_eq] at bV
  refine d_q rfl (fun w' H => x_ix (a := ae) (b := I (i2 : Int)) (v := vat ae 2 (Int.toNat (i2 : Int))) rfl rfl (Sl.ix (α := Flood) T35.und T35.size aH (by omega) (by omega))) ?_
  obtain ⟨a7, bW, aV⟩ := Flood_atA aH (i := (i2 : Int)) (by omega) (by omega)
  replace aV : Sl _ a7 (ay.getD i2 default).stages := aV
  have cy := aV.len_le
  refine d_q rfl (fun w' H => x_ld (p := vat ae 2 (Int.toNat (i2 : Int))) (v := .agg #[I ((ay.getD i2 default).spring), a7]) rfl (ld_ag Ag93 Sz93 (At.mono bW (aS.at H)))) ?_
  refine d_l rfl ?_
  obtain ⟨cz, bX, hM⟩ := M.e_bind hM
  refine s_call cf50 [.agg #[aq, au, av, aw, I ak, I am, ae], ai, .agg #[I ((ay.getD i2 default).spring), a7]] rfl (zcG aI aJ aK aL ak am ay watches (ay.getD i2 default) (bq.app _) br (bt.app _) bu (bv.app _) bw (bx.app _) bz (aS.app _) aH (aW.app _) aC (aS.app _) aV bX _ (H.gt 4)) ?_
  rintro vq cA ⟨aa, ah, ac, bY, hvq, aE⟩
  subst bY
  subst vq
  try dsimp only at hM
  replace H := H.bk aE
  clear aE
  refine s_nil ⟨(H.pk [0, 1, 2, 3]), ?_⟩
  refine d_q rfl (fun w' H => x_mv (v := .tuple #[I aa, I ah, B ac]) rfl) ?_
  refine d_q rfl (fun w' H => x_ext (vs := [I aa, I ah, B ac]) (v := I aa) rfl rfl) ?_
  refine d_q rfl (fun w' H => x_ext (vs := [I aa, I ah, B ac]) (v := I ah) rfl rfl) ?_
  refine d_q rfl (fun w' H => x_ext (vs := [I aa, I ah, B ac]) (v := B ac) rfl rfl) ?_
  refine d_q rfl (fun w' H => x_as (v := I aa) rfl) ?_
  refine d_q rfl (fun w' H => x_as (v := I ah) rfl) ?_
  refine d_q rfl (fun w' H => x_as (v := B ac) rfl) ?_
  refine d_nil ?_
  refine W.seq ?_
  refine W.region rfl ?_
  refine zA (B false) rfl ?_
  refine s_nil ?_
  refine W.seq ?_
  refine W.seq ?_
  refine W.region rfl ?_
  refine zA (I 0) rfl ?_
  refine s_nil ?_
  refine W.block ?_
  obtain ⟨bZ, a8, b3⟩ := M.e_bind hM
  obtain ⟨bC, a8⟩ := M.e_iter a8
  refine W.loop (fun m σ W => ∃ (warned : Bool) (k : Nat) (ρ : Env), σ = upds ρ [(1, ai), (2, aj), (3, Pq ao), (12, az), (13, ax), (14, I (i2 : Int)), (15, I aa), (16, I ah), (17, B ac), (18, B warned), (19, I (k : Int))] /\ M.iterN (za6 watches thresholds aa ah) m (warned, k) = some bZ /\ St w W [cOwn (α := Int) 3 ax l2, cOwn (α := Int) 3 az l, cOwn (α := Dem) 70 aB r0, cBlk ao [aq, au, av, aw, I ak, I am, ae] 37] R) ?_ ?_
  ·exact ⟨_, false, 0, _, upds_of _ _ ⟨rfl, rfl, rfl, rfl, rfl, rfl, rfl, rfl, rfl, rfl, rfl, trivial⟩, a8, H⟩
  rintro cB σ cC ⟨warned, k, ρ, rfl, bF, H⟩
  obtain ⟨b4, b5, cD, hM, bG⟩ := M.e_iterN bF
  simp only [za6] at hM
  clear bF
  refine W.seq ?_
  refine W.seq ?_
  refine W.region rfl ?_
  refine zM (I (k : Int)) rfl ?_
  refine zM ai rfl ?_
  have cE := (aC).len_le
  refine s_val (x_lenS T22.und rfl aC) ?_
  refine zC (k : Int) (watches.length : Int) (decide ((k : Int) < (watches.length : Int))) rfl rfl rfl ?_
  refine s_nil ?_
  refine W.cond (decide ((k : Int) < (watches.length : Int))) rfl (fun aR => ?_) (fun aR => ?_)
  ·replace hM := M.e_t hM aR
   simp only [qy1, qy2, qy3, qy4, qy5, qy6, ne_eq, qy7] at aR
   refine W.skip ?_
   refine W.seq ?_
   refine W.block ?_
   refine W.region rfl ?_
   refine zM (B warned) rfl ?_
   refine zM (B warned) rfl ?_
   refine g_val (!warned) (gy_f rfl) (fun hg => x_mv (v := ai) rfl) ?_
   refine g_val (!warned) (gy_f rfl) (fun hg => x_mv (v := I (k : Int)) rfl) ?_
   obtain ⟨aA, hM⟩ := M.e_grd hM
   replace aA := M.imp_of aA
   simp only [Bool.and_eq_true, decide_eq_true_eq] at aA
   refine g_val (!warned) (gy_f rfl) (fun hg => x_ix (a := ai) (b := I (k : Int)) (v := vat ai 1 (Int.toNat (k : Int))) (gd_of (c := !warned) hg (ai)) (gd_of (c := !warned) hg (I (k : Int))) (Sl.ix (α := Int) T22.und T22.size aC (by have ab := aA.resolve_left (by rw [hg]; decide); first | exact ab | exact ab.1 | exact ab.2 | omega | (have ag := hg; simp at ag; omega)) (by have ab := aA.resolve_left (by rw [hg]; decide); first | exact ab | exact ab.1 | exact ab.2 | omega | (have ag := hg; simp at ag; omega)))) ?_
   refine g_val (!warned) (gy_f rfl) (fun hg => x_ld (p := vat ai 1 (Int.toNat (k : Int))) (v := I (watches.getD k 0)) (gd_of (c := !warned) hg (vat ai 1 (Int.toNat (k : Int)))) (ld_sc Sc3 (At.mono (Int_at aC (i := (k : Int)) (by have ab := aA.resolve_left (by rw [hg]; decide); first | exact ab | exact ab.1 | exact ab.2 | omega | (have ag := hg; simp at ag; omega)) (by have ab := aA.resolve_left (by rw [hg]; decide); first | exact ab | exact ab.1 | exact ab.2 | omega | (have ag := hg; simp at ag; omega))) (aW.at H)))) ?_
   refine g_val (!warned) (gy_f rfl) (fun hg => x_mv (v := I aa) rfl) ?_
   refine g_val (!warned) (gy_f rfl) (fun hg => x_cmp (kd := .i64) (a := watches.getD k 0) (b := aa) (r := (watches.getD k 0) == aa) (gd_of (c := !warned) hg (I (watches.getD k 0))) (gd_of (c := !warned) hg (I aa)) rfl) ?_
   refine g_val (!warned) (gy_f rfl) (fun hg => x_mv (v := B ((watches.getD k 0) == aa)) (gd_of (c := !warned) hg (B ((watches.getD k 0) == aa)))) ?_
   refine g_val ((!warned) && ((watches.getD k 0) == aa)) (gy_gt rfl rfl) (fun hg => x_mv (v := I ah) rfl) ?_
   refine g_val ((!warned) && ((watches.getD k 0) == aa)) (gy_gt rfl rfl) (fun hg => x_mv (v := aj) rfl) ?_
   refine g_val ((!warned) && ((watches.getD k 0) == aa)) (gy_gt rfl rfl) (fun hg => x_mv (v := I (k : Int)) rfl) ?_
   obtain ⟨aG, hM⟩ := M.e_grd hM
   replace aG := M.imp_of aG
   simp only [Bool.and_eq_true, decide_eq_true_eq] at aG
   refine g_val ((!warned) && ((watches.getD k 0) == aa)) (gy_gt rfl rfl) (fun hg => x_ix (a := aj) (b := I (k : Int)) (v := vat aj 1 (Int.toNat (k : Int))) (gd_of (c := ((!warned) && ((watches.getD k 0) == aa))) hg (aj)) (gd_of (c := ((!warned) && ((watches.getD k 0) == aa))) hg (I (k : Int))) (Sl.ix (α := Int) T22.und T22.size aD (by have ab := aG.resolve_left (by rw [hg]; decide); have ap := aA.resolve_left (by rw [(Eq.mp (Bool.and_eq_true _ _) hg).1]; decide); first | exact ab | exact ab.1 | exact ab.2 | exact ap | exact ap.1 | exact ap.2 | omega | (have ag := hg; simp at ag; omega)) (by have ab := aG.resolve_left (by rw [hg]; decide); have ap := aA.resolve_left (by rw [(Eq.mp (Bool.and_eq_true _ _) hg).1]; decide); first | exact ab | exact ab.1 | exact ab.2 | exact ap | exact ap.1 | exact ap.2 | omega | (have ag := hg; simp at ag; omega)))) ?_
   refine g_val ((!warned) && ((watches.getD k 0) == aa)) (gy_gt rfl rfl) (fun hg => x_ld (p := vat aj 1 (Int.toNat (k : Int))) (v := I (thresholds.getD k 0)) (gd_of (c := ((!warned) && ((watches.getD k 0) == aa))) hg (vat aj 1 (Int.toNat (k : Int)))) (ld_sc Sc3 (At.mono (Int_at aD (i := (k : Int)) (by have ab := aG.resolve_left (by rw [hg]; decide); have ap := aA.resolve_left (by rw [(Eq.mp (Bool.and_eq_true _ _) hg).1]; decide); first | exact ab | exact ab.1 | exact ab.2 | exact ap | exact ap.1 | exact ap.2 | omega | (have ag := hg; simp at ag; omega)) (by have ab := aG.resolve_left (by rw [hg]; decide); have ap := aA.resolve_left (by rw [(Eq.mp (Bool.and_eq_true _ _) hg).1]; decide); first | exact ab | exact ab.1 | exact ab.2 | exact ap | exact ap.1 | exact ap.2 | omega | (have ag := hg; simp at ag; omega))) (bA.at H)))) ?_
   refine g_val ((!warned) && ((watches.getD k 0) == aa)) (gy_gt rfl rfl) (fun hg => x_cmp (kd := .i64) (a := ah) (b := thresholds.getD k 0) (r := decide ((thresholds.getD k 0) <= ah)) (gd_of (c := ((!warned) && ((watches.getD k 0) == aa))) hg (I ah)) (gd_of (c := ((!warned) && ((watches.getD k 0) == aa))) hg (I (thresholds.getD k 0))) rfl) ?_
   refine g_val (!warned) (gy_f rfl) (fun hg => x_pand (b := (watches.getD k 0) == aa) (r := decide ((thresholds.getD k 0) <= ah)) (gd_of (c := !warned) hg (B ((watches.getD k 0) == aa))) (fun hb => gd_of (c := ((!warned) && ((watches.getD k 0) == aa))) (by first | exact hb | (rw [hb]; rfl) | simp_all) (B (decide ((thresholds.getD k 0) <= ah)))) rfl) ?_
   refine s_val (x_por (b := warned) (r := (((watches.getD k 0) == aa) && (decide ((thresholds.getD k 0) <= ah)))) rfl rfl (fun hb => gd_of (c := !warned) (by first | exact hb | (rw [hb]; rfl) | simp_all) (B (((watches.getD k 0) == aa) && (decide ((thresholds.getD k 0) <= ah)))))) ?_
   refine zA (B (warned || (((watches.getD k 0) == aa) && (decide ((thresholds.getD k 0) <= ah))))) rfl ?_
   refine s_nil ?_
   refine W.region rfl ?_
   refine zM (I (k : Int)) rfl ?_
   refine zR (k : Int) 1 ((k : Int) + 1) rfl rfl rfl (by omega) ?_
   refine zA (I ((k : Int) + 1)) rfl ?_
   refine s_nil ?_
   exact ⟨b4, b5, (warned || (((watches.getD k 0) == aa) && (decide ((thresholds.getD k 0) <= ah)))), k + 1, _, upds_of _ _ ⟨rfl, rfl, rfl, rfl, rfl, rfl, rfl, rfl, rfl, rfl, rfl, trivial⟩, M.e_inl hM bG, H⟩
  replace hM := M.e_f hM aR
  simp only [qy1, qy2, qy3, qy4, qy5, qy6, ne_eq, qy7] at aR
  refine W.exit ?_
  have b6 := M.e_inr hM bG
  subst b6
  replace hM := b3
  try dsimp only at hM
  refine W.seq ?_
  refine W.seq ?_
  refine W.region rfl ?_
  refine zM (B ac) rfl ?_
  refine zM (B ac) rfl ?_
  refine g_val ac (gy_t rfl) (fun hg => x_mv (v := B warned) rfl) ?_
  refine g_val ac (gy_t rfl) (fun hg => x_not (b := warned) (gd_of (c := ac) hg (B warned))) ?_
  refine s_val (x_pand (b := ac) (r := !warned) rfl (fun hb => gd_of (c := ac) (by first | exact hb | (rw [hb]; rfl) | simp_all) (B (!warned))) rfl) ?_
  refine s_nil ?_
  refine W.cond (ac && (!warned)) rfl (fun ba => ?_) (fun ba => ?_)
  ·replace hM := M.e_t hM ba
   refine W.region rfl ?_
   refine zM az rfl ?_
   refine zM (I (i2 : Int)) rfl ?_
   refine t_bs (α := Int) T22 [I (i2 : Int)] [(i2 : Int)] H rfl (.cons rfl (Flat.rep_enc _ (i2 : Int)) <| .nil) rfl rfl rfl ?_
   intro b7 cF H
   obtain ⟨b8, hM⟩ := M.e_grd hM
   simp only [Bool.and_eq_true, decide_eq_true_eq] at b8
   refine t_app (α := Int) (k := 2) (l := l) (l2 := [(i2 : Int)]) (l' := l ++ ([(i2 : Int)])) (vy := b7) T22 rfl H rfl rfl rfl (H.os 0) (H.ol 0) (rfl) (by first | omega | (simp only [List.length_nil] at *; omega)) ?_
   intro bc cG H
   replace H := H.nf
   refine zA bc rfl ?_
   refine s_nil ?_
   refine W.seq ?_
   refine W.region rfl ?_
   refine zM (B ac) rfl ?_
   refine s_val (x_not (b := ac) rfl) ?_
   refine zM (B (!ac)) rfl ?_
   refine g_val (!ac) (gy_t rfl) (fun hg => x_mv (v := B warned) rfl) ?_
   refine s_val (x_pand (b := !ac) (r := warned) rfl (fun hb => gd_of (c := !ac) (by first | exact hb | (rw [hb]; rfl) | simp_all) (B warned)) rfl) ?_
   refine s_nil ?_
   refine W.cond ((!ac) && warned) rfl (fun bf => ?_) (fun bf => ?_)
   ·replace hM := M.e_t hM bf
    refine W.region rfl ?_
    refine zM ax rfl ?_
    refine zM (I (i2 : Int)) rfl ?_
    refine t_bs (α := Int) T22 [I (i2 : Int)] [(i2 : Int)] H rfl (.cons rfl (Flat.rep_enc _ (i2 : Int)) <| .nil) rfl rfl rfl ?_
    intro b9 cH H
    obtain ⟨ca, hM⟩ := M.e_grd hM
    simp only [Bool.and_eq_true, decide_eq_true_eq] at ca
    refine t_app (α := Int) (k := 2) (l := l2) (l2 := [(i2 : Int)]) (l' := l2 ++ ([(i2 : Int)])) (vy := b9) T22 rfl H rfl rfl rfl (H.os 0) (H.ol 0) (rfl) (by first | omega | (simp only [List.length_nil] at *; omega)) ?_
    intro bH cI H
    replace H := H.nf
    refine zA bH rfl ?_
    refine s_nil ?_
    replace H := H.pk [2, 3, 4, 5]
    refine W.region rfl ?_
    refine zM (I (i2 : Int)) rfl ?_
    refine zR (i2 : Int) 1 ((i2 : Int) + 1) rfl rfl rfl (by omega) ?_
    refine zA (I ((i2 : Int) + 1)) rfl ?_
    refine s_nil ?_
    exact ⟨aT, aU, i2 + 1, l ++ ([(i2 : Int)]), l2 ++ ([(i2 : Int)]), bc, bH, _, upds_of _ _ ⟨rfl, rfl, rfl, rfl, rfl, rfl, trivial⟩, M.e_inl hM aP, H⟩
   replace hM := M.e_f hM bf
   refine W.skip ?_
   refine W.region rfl ?_
   refine zM (I (i2 : Int)) rfl ?_
   refine zR (i2 : Int) 1 ((i2 : Int) + 1) rfl rfl rfl (by omega) ?_
   refine zA (I ((i2 : Int) + 1)) rfl ?_
   refine s_nil ?_
   exact ⟨aT, aU, i2 + 1, l ++ ([(i2 : Int)]), l2, bc, ax, _, upds_of _ _ ⟨rfl, rfl, rfl, rfl, rfl, rfl, trivial⟩, M.e_inl hM aP, (H.pk [1, 2, 3, 4])⟩
  replace hM := M.e_f hM ba
  refine W.skip ?_
  refine W.seq ?_
  refine W.region rfl ?_
  refine zM (B ac) rfl ?_
  refine s_val (x_not (b := ac) rfl) ?_
  refine zM (B (!ac)) rfl ?_
  refine g_val (!ac) (gy_t rfl) (fun hg => x_mv (v := B warned) rfl) ?_
  refine s_val (x_pand (b := !ac) (r := warned) rfl (fun hb => gd_of (c := !ac) (by first | exact hb | (rw [hb]; rfl) | simp_all) (B warned)) rfl) ?_
  refine s_nil ?_
  refine W.cond ((!ac) && warned) rfl (fun bg => ?_) (fun bg => ?_)
  ·replace hM := M.e_t hM bg
   refine W.region rfl ?_
   refine zM ax rfl ?_
   refine zM (I (i2 : Int)) rfl ?_
   refine t_bs (α := Int) T22 [I (i2 : Int)] [(i2 : Int)] H rfl (.cons rfl (Flat.rep_enc _ (i2 : Int)) <| .nil) rfl rfl rfl ?_
   intro cb cJ H
   obtain ⟨cc, hM⟩ := M.e_grd hM
   simp only [Bool.and_eq_true, decide_eq_true_eq] at cc
   refine t_app (α := Int) (k := 1) (l := l2) (l2 := [(i2 : Int)]) (l' := l2 ++ ([(i2 : Int)])) (vy := cb) T22 rfl H rfl rfl rfl (H.os 0) (H.ol 0) (rfl) (by first | omega | (simp only [List.length_nil] at *; omega)) ?_
   intro bI cK H
   replace H := H.nf
   refine zA bI rfl ?_
   refine s_nil ?_
   refine W.region rfl ?_
   refine zM (I (i2 : Int)) rfl ?_
   refine zR (i2 : Int) 1 ((i2 : Int) + 1) rfl rfl rfl (by omega) ?_
   refine zA (I ((i2 : Int) + 1)) rfl ?_
   refine s_nil ?_
   exact ⟨aT, aU, i2 + 1, l, l2 ++ ([(i2 : Int)]), az, bI, _, upds_of _ _ ⟨rfl, rfl, rfl, rfl, rfl, rfl, trivial⟩, M.e_inl hM aP, (H.pk [1, 2, 3, 4])⟩
  replace hM := M.e_f hM bg
  refine W.skip ?_
  refine W.region rfl ?_
  refine zM (I (i2 : Int)) rfl ?_
  refine zR (i2 : Int) 1 ((i2 : Int) + 1) rfl rfl rfl (by omega) ?_
  refine zA (I ((i2 : Int) + 1)) rfl ?_
  refine s_nil ?_
  exact ⟨aT, aU, i2 + 1, l, l2, az, ax, _, upds_of _ _ ⟨rfl, rfl, rfl, rfl, rfl, rfl, trivial⟩, M.e_inl hM aP, H⟩
 replace hM := M.e_f hM aQ
 simp only [qy1, qy2, qy3, qy4, qy5, qy6, ne_eq, qy7] at aQ
 refine W.exit ?_
 have ce := M.e_inr hM aP
 subst ce
 replace hM := bU
 try dsimp only at hM
 replace H := H.pk [0, 1]
 refine W.seq ?_
 refine W.region rfl ?_
 refine zM az rfl ?_
 refine zM ax rfl ?_
 refine zA az rfl ?_
 refine zA ax rfl ?_
 refine zA (I 0) rfl ?_
 refine s_nil ?_
 refine W.ret ?_
 have aF := M.e_pure hM
 exact ⟨_, resE_tmp3 rfl, ⟨l, l2, 0, az, ax, aF, rfl, (H.pk [1, 0])⟩⟩

def zcm (ag : List Int) (ah : List Span) (ai : List Int) (aj : List Town) (ak : Int) (am : Int) (ao : List Flood) (watches : List Int) (flood : Int) (thresholds : List Int) : M Bool :=
  M.bind (zbV ag ah ai aj ak am ao) fun r2 =>
  bif ((r2 || (decide (15 < (watches.length : Int)))) || (decide (15 < (thresholds.length : Int)))) then (
  M.bind (zbU) fun r3 =>
  M.pure r3)
  else (
  M.bind (zb3 ag ah ai aj ak am ao) fun (r0, r1, ap, aq, r4, r5, r6) =>
  M.bind (zav watches) fun r7 =>
  M.bind (zav thresholds) fun r8 =>
  M.bind (zb2 ag ah ai aj ak am ao) fun (av, aw, ax, ay, az, aA, aB) =>
  M.bind (zaK r0 r1 ap aq r4 r5 r6 r7 flood) fun (aG, aH, aI) =>
  M.bind (zba av aw ax ay az aA aB watches flood) fun (aJ, aK, aL) =>
  bif (((aI != aL) || (aG != aJ)) || (aH != aK)) then (
  M.pure false)
  else (
  M.bind (zaQ r0 r1 ap aq r4 r5 r6 r7) fun (aM, aN, aC) =>
  M.bind (zbu av aw ax ay az aA aB watches) fun (aO, aP, aD) =>
  M.bind (M.opt (!(aC != aD)) (zab aM aO) false) fun r9 =>
  M.bind (M.opt (!((aC != aD) || (!r9))) (zab aN aP) false) fun aQ =>
  bif (((aC != aD) || (!r9)) || (!aQ)) then (
  M.pure false)
  else (
  M.bind (zah r0 r1 ap aq r4 r5 r6 r7 r8) fun (aR, aS, aa) =>
  M.bind (zaF av aw ax ay az aA aB watches thresholds) fun (aT, aU, ab) =>
  M.bind (M.opt (aa == ab) (zab aR aT) false) fun ac =>
  M.bind (M.opt ((aa == ab) && ac) (zab aS aU) false) fun ae =>
  M.bind (M.opt (((aa == ab) && ac) && ae) (zb8 r0 r1 ap aq r4 r5 r6 ag ah ai aj ak am ao) false) fun au =>
  M.bind (M.opt ((((aa == ab) && ac) && ae) && au) (zab r7 watches) false) fun aE =>
  M.bind (M.opt (((((aa == ab) && ac) && ae) && au) && aE) (zab r8 thresholds) false) fun aF =>
  M.bind (M.opt ((((((aa == ab) && ac) && ae) && au) && aE) && aF) (zbU) false) fun aV =>
  M.pure (((((((aa == ab) && ac) && ae) && au) && aE) && aF) && aV))))
theorem zdI {R : List Chunk} {bS : Cells} {aw : Value} {bT : Cells} {ax : Value} {bU : Cells} {ay : Value} {bV : Cells} {az : Value} {bW : Cells} {aA : Value} {bX : Cells} {aC : Value} {bY : Cells} {aN : Value} (bf : List Int) (bg : List Span) (bh : List Int) (bi : List Town) (ap : Int) (aq : Int) (bj : List Flood) (watches : List Int) (flood : Int) (thresholds : List Int) (bt : Reads R bS) (bu : Sl bS aw bf) (bv : Reads R bT) (bw : Sl bT ax bg) (bx : Reads R bU) (bz : Sl bU ay bh) (bA : Reads R bV) (bB : Sl bV az bi) (aO : Reads R bW) (bC : Sl bW aA bj) (bo : Reads R bX) (bc : Sl bX aC watches) (bI : Reads R bY) (bp : Sl bY aN thresholds) {r : Bool} (hM : (zcm bf bg bh bi ap aq bj watches flood thresholds).Ends r) (w : World) (H : St w w [] R) : Ret Tryz.prog 3 #[.agg #[aw, ax, ay, az, I ap, I aq, aA], aC, I flood, aN] w fun v w' => ∃ (y0 : Bool), y0 = r /\ v = B y0 /\ St w w' [] R := by
 refine ret_of_W Tryz.func3 rfl rfl rfl ?_
 refine W.seq ?_
 refine W.region rfl ?_
 refine t_box (v := .agg #[aw, ax, ay, az, I ap, I aq, aA]) (cs := [aw, ax, ay, az, I ap, I aq, aA]) H rfl rfl ?_
 intro bD cK H
 refine zA (B false) rfl ?_
 refine s_nil ?_
 refine W.seq ?_
 refine W.seq ?_
 refine W.region rfl ?_
 refine s_val (x_ld (p := Pq bD) (v := .agg #[aw, ax, ay, az, I ap, I aq, aA]) rfl (ldb_ag (ds := [aw, ax, ay, az, I ap, I aq, aA]) Ag29 Sz29 (H.bl 0) rfl rfl)) ?_
 obtain ⟨cL, bZ, hM⟩ := M.e_bind hM
 refine s_call cf6 [.agg #[aw, ax, ay, az, I ap, I aq, aA]] rfl (zdQ bf bg bh bi ap aq bj (bt.app _) bu (bv.app _) bw (bx.app _) bz (bA.app _) bB (aO.app _) bC bZ _ (H.gt 1)) ?_
 rintro vq cM ⟨r2, b3, hvq, ae⟩
 subst b3
 subst vq
 try dsimp only at hM
 replace H := H.bk ae
 clear ae
 refine zM (B r2) rfl ?_
 refine g_val (!r2) (gy_f rfl) (fun hg => x_mv (v := aC) rfl) ?_
 have cN := (bc).len_le
 refine g_val (!r2) (gy_f rfl) (fun hg => x_lenS T22.und (gd_of (c := !r2) hg (aC)) bc) ?_
 refine g_val (!r2) (gy_f rfl) (fun hg => x_cmp (kd := .i64) (a := (watches.length : Int)) (b := 15) (r := decide (15 < (watches.length : Int))) (gd_of (c := !r2) hg (I (watches.length : Int))) rfl rfl) ?_
 refine s_val (x_por (b := r2) (r := decide (15 < (watches.length : Int))) rfl rfl (fun hb => gd_of (c := !r2) (by first | exact hb | (rw [hb]; rfl) | simp_all) (B (decide (15 < (watches.length : Int)))))) ?_
 refine zM (B (r2 || (decide (15 < (watches.length : Int))))) rfl ?_
 refine g_val (!(r2 || (decide (15 < (watches.length : Int))))) (gy_f rfl) (fun hg => x_mv (v := aN) rfl) ?_
 have cO := (bp).len_le
 refine g_val (!(r2 || (decide (15 < (watches.length : Int))))) (gy_f rfl) (fun hg => x_lenS T22.und (gd_of (c := !(r2 || (decide (15 < (watches.length : Int))))) hg (aN)) bp) ?_
 refine g_val (!(r2 || (decide (15 < (watches.length : Int))))) (gy_f rfl) (fun hg => x_cmp (kd := .i64) (a := (thresholds.length : Int)) (b := 15) (r := decide (15 < (thresholds.length : Int))) (gd_of (c := !(r2 || (decide (15 < (watches.length : Int))))) hg (I (thresholds.length : Int))) rfl rfl) ?_
 refine s_val (x_por (b := (r2 || (decide (15 < (watches.length : Int))))) (r := decide (15 < (thresholds.length : Int))) rfl rfl (fun hb => gd_of (c := !(r2 || (decide (15 < (watches.length : Int))))) (by first | exact hb | (rw [hb]; rfl) | simp_all) (B (decide (15 < (thresholds.length : Int)))))) ?_
 refine s_nil ?_
 refine W.cond ((r2 || (decide (15 < (watches.length : Int)))) || (decide (15 < (thresholds.length : Int)))) rfl (fun bJ => ?_) (fun bJ => ?_)
 ·replace hM := M.e_t hM bJ
  refine W.seq ?_
  refine W.region rfl ?_
  obtain ⟨cP, b4, hM⟩ := M.e_bind hM
  refine s_call cf7 [] rfl (zc4 b4 _ (H.gt 1)) ?_
  rintro vq cQ ⟨r3, b5, hvq, ae⟩
  subst b5
  subst vq
  try dsimp only at hM
  replace H := H.bk ae
  clear ae
  refine zA (B r3) rfl ?_
  refine s_nil ?_
  refine W.ret ?_
  have ao := M.e_pure hM
  exact ⟨_, resE_tmp rfl, ⟨r3, ao, rfl, (H.pk [])⟩⟩
 replace hM := M.e_f hM bJ
 refine W.skip ?_
 refine W.seq ?_
 refine W.region rfl ?_
 refine s_val (x_ld (p := Pq bD) (v := .agg #[aw, ax, ay, az, I ap, I aq, aA]) rfl (ldb_ag (ds := [aw, ax, ay, az, I ap, I aq, aA]) Ag29 Sz29 (H.bl 0) rfl rfl)) ?_
 obtain ⟨cR, b6, hM⟩ := M.e_bind hM
 refine s_call cf8 [.agg #[aw, ax, ay, az, I ap, I aq, aA]] rfl (zdp bf bg bh bi ap aq bj (bt.app _) bu (bv.app _) bw (bx.app _) bz (bA.app _) bB (aO.app _) bC b6 _ (H.gt 1)) ?_
 rintro vq cS ⟨r0, r1, bE, bF, r4, r5, r6, aD, aE, aF, aG, aH, cT, cU, b7, hvq, ae, bq⟩
 subst b7
 subst vq
 try dsimp only at hM
 replace H := H.bk ae
 clear ae
 refine zM aC rfl ?_
 obtain ⟨cV, b8, hM⟩ := M.e_bind hM
 refine s_call cf9 [aC] rfl (zae watches (bo.app _) bc b8 _ (H.gt 7)) ?_
 rintro vq cW ⟨r7, aU, b9, hvq, ae⟩
 subst b9
 subst vq
 try dsimp only at hM
 replace H := H.bk ae
 clear ae
 refine zM aN rfl ?_
 obtain ⟨cX, ca, hM⟩ := M.e_bind hM
 refine s_call cf9 [aN] rfl (zae thresholds (bI.app _) bp ca _ (H.gt 8)) ?_
 rintro vq cY ⟨r8, bm, cb, hvq, ae⟩
 subst cb
 subst vq
 try dsimp only at hM
 replace H := H.bk ae
 clear ae
 refine t_alloc (cs := [.slice none 0 0, .slice none 0 0, .slice none 0 0, .slice none 0 0, I 0, I 0, .slice none 0 0]) H Al29 rfl ?_
 intro bG cZ H
 refine t_sw 0 0 [aD, aE, aF, aG, I r4, I r5, aH] (.agg #[aD, aE, aF, aG, I r4, I r5, aH]) H rfl rfl Sz29 rfl rfl rfl (by simp only [List.all_cons, List.all_nil, Bool.true_and, Bool.and_true, Sl.oc (H.os 3), Sl.oc (H.os 4), Sl.oc (H.os 5), Sl.oc (H.os 6), Sl.oc (rowSl rfl (H.get (k := 7) rfl) (roLe _ (H.get (k := 8) rfl)) bq)]; try rfl) ?_
 intro c6 H
 refine zA aU rfl ?_
 refine zA bm rfl ?_
 refine s_nil ?_
 refine W.seq ?_
 refine W.region rfl ?_
 refine s_val (x_ld (p := Pq bD) (v := .agg #[aw, ax, ay, az, I ap, I aq, aA]) rfl (ldb_ag (ds := [aw, ax, ay, az, I ap, I aq, aA]) Ag29 Sz29 (H.bl 9) rfl rfl)) ?_
 obtain ⟨c7, cc, hM⟩ := M.e_bind hM
 refine s_call cf10 [.agg #[aw, ax, ay, az, I ap, I aq, aA]] rfl (zdu bf bg bh bi ap aq bj (bt.app _) bu (bv.app _) bw (bx.app _) bz (bA.app _) bB (aO.app _) bC cc _ (H.gt 10)) ?_
 rintro vq c8 ⟨bK, bL, bM, bN, aJ, aK, bO, aP, aQ, aR, aS, aT, c9, da, ce, hvq, ae, bH⟩
 subst ce
 subst vq
 try dsimp only at hM
 replace H := H.bk ae
 clear ae
 refine t_alloc (cs := [.slice none 0 0, .slice none 0 0, .slice none 0 0, .slice none 0 0, I 0, I 0, .slice none 0 0]) H Al37 rfl ?_
 intro bP db H
 refine t_sw 0 0 [aP, aQ, aR, aS, I aJ, I aK, aT] (.agg #[aP, aQ, aR, aS, I aJ, I aK, aT]) H rfl rfl Sz37 rfl rfl rfl (by simp only [List.all_cons, List.all_nil, Bool.true_and, Bool.and_true, Sl.oc (H.os 1), Sl.oc (H.os 2), Sl.oc (H.os 3), Sl.oc (H.os 4), Sl.oc (rowSl rfl (H.get (k := 5) rfl) (Cells.sup_le (aO.at H) (roLe _ (H.get (k := 6) rfl))) bH)]; try rfl) ?_
 intro dc H
 refine s_nil ?_
 refine W.seq ?_
 refine W.region rfl ?_
 refine s_val (x_ld (p := Pq bG) (v := .agg #[aD, aE, aF, aG, I r4, I r5, aH]) rfl (ldb_ag (ds := [aD, aE, aF, aG, I r4, I r5, aH]) Ag29 Sz29 (H.bl 7) rfl rfl)) ?_
 refine zM aU rfl ?_
 refine zM (I flood) rfl ?_
 obtain ⟨dd, cf, hM⟩ := M.e_bind hM
 refine s_call cf11 [.agg #[aD, aE, aF, aG, I r4, I r5, aH], aU, I flood] rfl (zdf r0 r1 bE bF r4 r5 r6 r7 flood (rdo 10) (H.os 10) (rdo 11) (H.os 11) (rdo 12) (H.os 12) (rdo 13) (H.os 13) (Reads.sup (rdo 14) (Reads.of (k := 15) rfl roLe)) (rowSl rfl (H.get (k := 14) rfl) (roLe _ (H.get (k := 15) rfl)) bq) (rdo 9) (H.os 9) cf _ (H.gt 17)) ?_
 rintro vq de ⟨au, aL, aj, cg, hvq, ae⟩
 subst cg
 subst vq
 try dsimp only at hM
 replace H := H.bk ae
 clear ae
 refine zM (.tuple #[I au, B aL, I aj]) rfl ?_
 refine zX [I au, B aL, I aj] (I au) rfl rfl ?_
 refine zX [I au, B aL, I aj] (B aL) rfl rfl ?_
 refine zX [I au, B aL, I aj] (I aj) rfl rfl ?_
 refine zA (I au) rfl ?_
 refine zA (B aL) rfl ?_
 refine zA (I aj) rfl ?_
 refine s_nil ?_
 refine W.seq ?_
 refine W.region rfl ?_
 refine s_val (x_ld (p := Pq bP) (v := .agg #[aP, aQ, aR, aS, I aJ, I aK, aT]) rfl (ldb_ag (ds := [aP, aQ, aR, aS, I aJ, I aK, aT]) Ag37 Sz37 (H.bl 0) rfl rfl)) ?_
 refine zM aC rfl ?_
 refine zM (I flood) rfl ?_
 obtain ⟨dg, ci, hM⟩ := M.e_bind hM
 refine s_call cf12 [.agg #[aP, aQ, aR, aS, I aJ, I aK, aT], aC, I flood] rfl (zdm bK bL bM bN aJ aK bO watches flood (rdo 1) (H.os 1) (rdo 2) (H.os 2) (rdo 3) (H.os 3) (rdo 4) (H.os 4) (Reads.sup (rdo 5) (Reads.sup (aO.app _) (Reads.of (k := 6) rfl roLe))) (rowSl rfl (H.get (k := 5) rfl) (Cells.sup_le (aO.at H) (roLe _ (H.get (k := 6) rfl))) bH) (bo.app _) bc ci _ (H.gt 17)) ?_
 rintro vq di ⟨av, aM, ak, cj, hvq, ae⟩
 subst cj
 subst vq
 try dsimp only at hM
 replace H := H.bk ae
 clear ae
 refine zM (.tuple #[I av, B aM, I ak]) rfl ?_
 refine zX [I av, B aM, I ak] (I av) rfl rfl ?_
 refine zX [I av, B aM, I ak] (B aM) rfl rfl ?_
 refine zX [I av, B aM, I ak] (I ak) rfl rfl ?_
 refine zA (I av) rfl ?_
 refine zA (B aM) rfl ?_
 refine zA (I ak) rfl ?_
 refine s_nil ?_
 refine W.seq ?_
 refine W.seq ?_
 refine W.region rfl ?_
 refine zM (I aj) rfl ?_
 refine zM (I ak) rfl ?_
 refine zC aj ak (aj != ak) rfl rfl rfl ?_
 refine zM (B (aj != ak)) rfl ?_
 refine g_val (!(aj != ak)) (gy_f rfl) (fun hg => x_mv (v := I au) rfl) ?_
 refine g_val (!(aj != ak)) (gy_f rfl) (fun hg => x_mv (v := I av) rfl) ?_
 refine g_val (!(aj != ak)) (gy_f rfl) (fun hg => x_cmp (kd := .i64) (a := au) (b := av) (r := au != av) (gd_of (c := !(aj != ak)) hg (I au)) (gd_of (c := !(aj != ak)) hg (I av)) rfl) ?_
 refine s_val (x_por (b := aj != ak) (r := au != av) rfl rfl (fun hb => gd_of (c := !(aj != ak)) (by first | exact hb | (rw [hb]; rfl) | simp_all) (B (au != av)))) ?_
 refine zM (B ((aj != ak) || (au != av))) rfl ?_
 refine g_val (!((aj != ak) || (au != av))) (gy_f rfl) (fun hg => x_mv (v := B aL) rfl) ?_
 refine g_val (!((aj != ak) || (au != av))) (gy_f rfl) (fun hg => x_mv (v := B aM) rfl) ?_
 refine g_val (!((aj != ak) || (au != av))) (gy_f rfl) (fun hg => x_eqb (a := aL) (b := aM) (r := (aL != aM)) (gd_of (c := !((aj != ak) || (au != av))) hg (B aL)) (gd_of (c := !((aj != ak) || (au != av))) hg (B aM)) Tryz.underlying4 rfl) ?_
 refine s_val (x_por (b := ((aj != ak) || (au != av))) (r := (aL != aM)) rfl rfl (fun hb => gd_of (c := !((aj != ak) || (au != av))) (by first | exact hb | (rw [hb]; rfl) | simp_all) (B (aL != aM)))) ?_
 refine s_nil ?_
 refine W.cond (((aj != ak) || (au != av)) || (aL != aM)) rfl (fun bQ => ?_) (fun bQ => ?_)
 ·replace hM := M.e_t hM bQ
  refine W.seq ?_
  refine W.region rfl ?_
  refine zA (B false) rfl ?_
  refine s_nil ?_
  replace H := H.pk []
  refine W.ret ?_
  have ao := M.e_pure hM
  exact ⟨_, resE_tmp rfl, ⟨false, ao, rfl, H⟩⟩
 replace hM := M.e_f hM bQ
 refine W.skip ?_
 refine W.seq ?_
 refine W.region rfl ?_
 refine s_val (x_ld (p := Pq bG) (v := .agg #[aD, aE, aF, aG, I r4, I r5, aH]) rfl (ldb_ag (ds := [aD, aE, aF, aG, I r4, I r5, aH]) Ag29 Sz29 (H.bl 7) rfl rfl)) ?_
 refine zM aU rfl ?_
 obtain ⟨dj, ck, hM⟩ := M.e_bind hM
 refine s_call cf13 [.agg #[aD, aE, aF, aG, I r4, I r5, aH], aU] rfl (zcD r0 r1 bE bF r4 r5 r6 r7 (rdo 10) (H.os 10) (rdo 11) (H.os 11) (rdo 12) (H.os 12) (rdo 13) (H.os 13) (Reads.sup (rdo 14) (Reads.of (k := 15) rfl roLe)) (rowSl rfl (H.get (k := 14) rfl) (roLe _ (H.get (k := 15) rfl)) bq) (rdo 9) (H.os 9) ck _ (H.gt 17)) ?_
 rintro vq dk ⟨cl, cm, ah, aV, aW, cn, hvq, ae⟩
 subst cn
 subst vq
 try dsimp only at hM
 replace H := H.bk ae
 clear ae
 refine zM (.tuple #[aV, aW, I ah]) rfl ?_
 refine zX [aV, aW, I ah] aV rfl rfl ?_
 refine zX [aV, aW, I ah] aW rfl rfl ?_
 refine zX [aV, aW, I ah] (I ah) rfl rfl ?_
 refine zA aV rfl ?_
 refine zA aW rfl ?_
 refine zA (I ah) rfl ?_
 refine s_nil ?_
 refine W.seq ?_
 refine W.region rfl ?_
 refine s_val (x_ld (p := Pq bP) (v := .agg #[aP, aQ, aR, aS, I aJ, I aK, aT]) rfl (ldb_ag (ds := [aP, aQ, aR, aS, I aJ, I aK, aT]) Ag37 Sz37 (H.bl 2) rfl rfl)) ?_
 refine zM aC rfl ?_
 obtain ⟨dm, co, hM⟩ := M.e_bind hM
 refine s_call cf14 [.agg #[aP, aQ, aR, aS, I aJ, I aK, aT], aC] rfl (zdi bK bL bM bN aJ aK bO watches (rdo 3) (H.os 3) (rdo 4) (H.os 4) (rdo 5) (H.os 5) (rdo 6) (H.os 6) (Reads.sup (rdo 7) (Reads.sup (aO.app _) (Reads.of (k := 8) rfl roLe))) (rowSl rfl (H.get (k := 7) rfl) (Cells.sup_le (aO.at H) (roLe _ (H.get (k := 8) rfl))) bH) (bo.app _) bc co _ (H.gt 19)) ?_
 rintro vq dp ⟨cp, cq, ai, aX, aY, cr, hvq, ae⟩
 subst cr
 subst vq
 try dsimp only at hM
 replace H := H.bk ae
 clear ae
 refine zM (.tuple #[aX, aY, I ai]) rfl ?_
 refine zX [aX, aY, I ai] aX rfl rfl ?_
 refine zX [aX, aY, I ai] aY rfl rfl ?_
 refine zX [aX, aY, I ai] (I ai) rfl rfl ?_
 refine zA aX rfl ?_
 refine zA aY rfl ?_
 refine zA (I ai) rfl ?_
 refine s_nil ?_
 refine W.seq ?_
 refine W.seq ?_
 refine W.region rfl ?_
 refine zM (I ah) rfl ?_
 refine zM (I ai) rfl ?_
 refine zC ah ai (ah != ai) rfl rfl rfl ?_
 refine zM (B (ah != ai)) rfl ?_
 refine g_val (!(ah != ai)) (gy_f rfl) (fun hg => x_mv (v := aV) rfl) ?_
 refine g_val (!(ah != ai)) (gy_f rfl) (fun hg => x_mv (v := aX) rfl) ?_
 obtain ⟨r9, cu, hM⟩ := M.e_bind hM
 refine t_gcall (!(ah != ai)) (gy_f rfl) cf15 (B r9) (fun _ => [aV, aX]) (fun hg => lst2 (gd_of (c := !(ah != ai)) hg (aV)) (gd_of (c := !(ah != ai)) hg (aX))) H (fun hg => (zac cl cp (rdo 2) (H.os 2) (rdo 0) (H.os 0) (M.e_opt cu hg) _ (H.give (A := []) rfl)).mono fun v_ w_ ⟨y_, ao, aI, H_⟩ => by subst ao; exact ⟨aI, H.via H_⟩) ?_
 intro dq H
 refine g_val (!(ah != ai)) (gy_f rfl) (fun hg => x_not (b := r9) (gd_of (c := !(ah != ai)) hg (B r9))) ?_
 refine s_val (x_por (b := ah != ai) (r := !r9) rfl rfl (fun hb => gd_of (c := !(ah != ai)) (by first | exact hb | (rw [hb]; rfl) | simp_all) (B (!r9)))) ?_
 refine zM (B ((ah != ai) || (!r9))) rfl ?_
 refine g_val (!((ah != ai) || (!r9))) (gy_f rfl) (fun hg => x_mv (v := aW) rfl) ?_
 refine g_val (!((ah != ai) || (!r9))) (gy_f rfl) (fun hg => x_mv (v := aY) rfl) ?_
 obtain ⟨bn, cv, hM⟩ := M.e_bind hM
 refine t_gcall (!((ah != ai) || (!r9))) (gy_f rfl) cf15 (B bn) (fun _ => [aW, aY]) (fun hg => lst2 (gd_of (c := !((ah != ai) || (!r9))) hg (aW)) (gd_of (c := !((ah != ai) || (!r9))) hg (aY))) H (fun hg => (zac cm cq (rdo 3) (H.os 3) (rdo 1) (H.os 1) (M.e_opt cv hg) _ (H.give (A := []) rfl)).mono fun v_ w_ ⟨y_, ao, aI, H_⟩ => by subst ao; exact ⟨aI, H.via H_⟩) ?_
 intro dr H
 refine g_val (!((ah != ai) || (!r9))) (gy_f rfl) (fun hg => x_not (b := bn) (gd_of (c := !((ah != ai) || (!r9))) hg (B bn))) ?_
 refine s_val (x_por (b := ((ah != ai) || (!r9))) (r := !bn) rfl rfl (fun hb => gd_of (c := !((ah != ai) || (!r9))) (by first | exact hb | (rw [hb]; rfl) | simp_all) (B (!bn)))) ?_
 refine s_nil ?_
 replace H := H.pk [4, 5, 6, 7, 8, 9, 10, 11, 12, 13, 14, 15, 16, 17, 18, 19, 20]
 refine W.cond (((ah != ai) || (!r9)) || (!bn)) rfl (fun bR => ?_) (fun bR => ?_)
 ·replace hM := M.e_t hM bR
  refine W.seq ?_
  refine W.region rfl ?_
  refine zA (B false) rfl ?_
  refine s_nil ?_
  replace H := H.pk []
  refine W.ret ?_
  have ao := M.e_pure hM
  exact ⟨_, resE_tmp rfl, ⟨false, ao, rfl, H⟩⟩
 replace hM := M.e_f hM bR
 refine W.skip ?_
 refine W.seq ?_
 refine W.region rfl ?_
 refine s_val (x_ld (p := Pq bG) (v := .agg #[aD, aE, aF, aG, I r4, I r5, aH]) rfl (ldb_ag (ds := [aD, aE, aF, aG, I r4, I r5, aH]) Ag29 Sz29 (H.bl 7) rfl rfl)) ?_
 refine zM aU rfl ?_
 refine zM bm rfl ?_
 obtain ⟨dt, cw, hM⟩ := M.e_bind hM
 refine s_call cf16 [.agg #[aD, aE, aF, aG, I r4, I r5, aH], aU, bm] rfl (zaG r0 r1 bE bF r4 r5 r6 r7 r8 (rdo 10) (H.os 10) (rdo 11) (H.os 11) (rdo 12) (H.os 12) (rdo 13) (H.os 13) (Reads.sup (rdo 14) (Reads.of (k := 15) rfl roLe)) (rowSl rfl (H.get (k := 14) rfl) (roLe _ (H.get (k := 15) rfl)) bq) (rdo 9) (H.os 9) (rdo 8) (H.os 8) cw _ (H.gt 17)) ?_
 rintro vq du ⟨cx, cy, aa, aZ, a6, cz, hvq, ae⟩
 subst cz
 subst vq
 try dsimp only at hM
 replace H := H.bk ae
 clear ae
 refine zM (.tuple #[aZ, a6, I aa]) rfl ?_
 refine zX [aZ, a6, I aa] aZ rfl rfl ?_
 refine zX [aZ, a6, I aa] a6 rfl rfl ?_
 refine zX [aZ, a6, I aa] (I aa) rfl rfl ?_
 refine zA aZ rfl ?_
 refine zA a6 rfl ?_
 refine zA (I aa) rfl ?_
 refine s_nil ?_
 refine W.seq ?_
 refine W.region rfl ?_
 refine s_val (x_ld (p := Pq bP) (v := .agg #[aP, aQ, aR, aS, I aJ, I aK, aT]) rfl (ldb_ag (ds := [aP, aQ, aR, aS, I aJ, I aK, aT]) Ag37 Sz37 (H.bl 2) rfl rfl)) ?_
 refine zM aC rfl ?_
 refine zM aN rfl ?_
 obtain ⟨dv, cA, hM⟩ := M.e_bind hM
 refine s_call cf17 [.agg #[aP, aQ, aR, aS, I aJ, I aK, aT], aC, aN] rfl (zdL bK bL bM bN aJ aK bO watches thresholds (rdo 3) (H.os 3) (rdo 4) (H.os 4) (rdo 5) (H.os 5) (rdo 6) (H.os 6) (Reads.sup (rdo 7) (Reads.sup (aO.app _) (Reads.of (k := 8) rfl roLe))) (rowSl rfl (H.get (k := 7) rfl) (Cells.sup_le (aO.at H) (roLe _ (H.get (k := 8) rfl))) bH) (bo.app _) bc (bI.app _) bp cA _ (H.gt 19)) ?_
 rintro vq dw ⟨cB, cC, ab, a7, a8, cD, hvq, ae⟩
 subst cD
 subst vq
 try dsimp only at hM
 replace H := H.bk ae
 clear ae
 refine zM (.tuple #[a7, a8, I ab]) rfl ?_
 refine zX [a7, a8, I ab] a7 rfl rfl ?_
 refine zX [a7, a8, I ab] a8 rfl rfl ?_
 refine zX [a7, a8, I ab] (I ab) rfl rfl ?_
 refine zA a7 rfl ?_
 refine zA a8 rfl ?_
 refine zA (I ab) rfl ?_
 refine s_nil ?_
 replace H := H.pk [0, 1, 2, 3, 11, 12, 13, 14, 15, 16, 17, 18, 19, 20]
 refine W.seq ?_
 refine W.region rfl ?_
 refine zM (I aa) rfl ?_
 refine zM (I ab) rfl ?_
 refine zC aa ab (aa == ab) rfl rfl rfl ?_
 refine zM (B (aa == ab)) rfl ?_
 refine g_val (aa == ab) (gy_t rfl) (fun hg => x_mv (v := aZ) rfl) ?_
 refine g_val (aa == ab) (gy_t rfl) (fun hg => x_mv (v := a7) rfl) ?_
 obtain ⟨ac, cE, hM⟩ := M.e_bind hM
 refine t_gcall (aa == ab) (gy_t rfl) cf15 (B ac) (fun _ => [aZ, a7]) (fun hg => lst2 (gd_of (c := aa == ab) hg (aZ)) (gd_of (c := aa == ab) hg (a7))) H (fun hg => (zac cx cB (rdo 2) (H.os 2) (rdo 0) (H.os 0) (M.e_opt cE hg) _ (H.give (A := []) rfl)).mono fun v_ w_ ⟨y_, ao, aI, H_⟩ => by subst ao; exact ⟨aI, H.via H_⟩) ?_
 intro dx H
 refine s_val (x_pand (b := aa == ab) (r := ac) rfl (fun hb => gd_of (c := aa == ab) (by first | exact hb | (rw [hb]; rfl) | simp_all) (B ac)) rfl) ?_
 refine zM (B ((aa == ab) && ac)) rfl ?_
 refine g_val ((aa == ab) && ac) (gy_t rfl) (fun hg => x_mv (v := a6) rfl) ?_
 refine g_val ((aa == ab) && ac) (gy_t rfl) (fun hg => x_mv (v := a8) rfl) ?_
 obtain ⟨ag, cF, hM⟩ := M.e_bind hM
 refine t_gcall ((aa == ab) && ac) (gy_t rfl) cf15 (B ag) (fun _ => [a6, a8]) (fun hg => lst2 (gd_of (c := ((aa == ab) && ac)) hg (a6)) (gd_of (c := ((aa == ab) && ac)) hg (a8))) H (fun hg => (zac cy cC (rdo 3) (H.os 3) (rdo 1) (H.os 1) (M.e_opt cF hg) _ (H.give (A := []) rfl)).mono fun v_ w_ ⟨y_, ao, aI, H_⟩ => by subst ao; exact ⟨aI, H.via H_⟩) ?_
 intro dy H
 refine s_val (x_pand (b := ((aa == ab) && ac)) (r := ag) rfl (fun hb => gd_of (c := ((aa == ab) && ac)) (by first | exact hb | (rw [hb]; rfl) | simp_all) (B ag)) rfl) ?_
 refine zM (B (((aa == ab) && ac) && ag)) rfl ?_
 refine g_val (((aa == ab) && ac) && ag) (gy_t rfl) (fun hg => x_ld (p := Pq bG) (v := .agg #[aD, aE, aF, aG, I r4, I r5, aH]) rfl (ldb_ag (ds := [aD, aE, aF, aG, I r4, I r5, aH]) Ag29 Sz29 (H.bl 4) rfl rfl)) ?_
 refine g_val (((aa == ab) && ac) && ag) (gy_t rfl) (fun hg => x_ld (p := Pq bD) (v := .agg #[aw, ax, ay, az, I ap, I aq, aA]) rfl (ldb_ag (ds := [aw, ax, ay, az, I ap, I aq, aA]) Ag29 Sz29 (H.bl 13) rfl rfl)) ?_
 obtain ⟨am, cG, hM⟩ := M.e_bind hM
 refine t_gcall (((aa == ab) && ac) && ag) (gy_t rfl) cf18 (B am) (fun _ => [.agg #[aD, aE, aF, aG, I r4, I r5, aH], .agg #[aw, ax, ay, az, I ap, I aq, aA]]) (fun hg => lst2 (gd_of (c := (((aa == ab) && ac) && ag)) hg (.agg #[aD, aE, aF, aG, I r4, I r5, aH])) (gd_of (c := (((aa == ab) && ac) && ag)) hg (.agg #[aw, ax, ay, az, I ap, I aq, aA]))) H (fun hg => (zdk r0 r1 bE bF r4 r5 r6 bf bg bh bi ap aq bj (rdo 7) (H.os 7) (rdo 8) (H.os 8) (rdo 9) (H.os 9) (rdo 10) (H.os 10) (Reads.sup (rdo 11) (Reads.of (k := 12) rfl roLe)) (rowSl rfl (H.get (k := 11) rfl) (roLe _ (H.get (k := 12) rfl)) bq) (bt.app _) bu (bv.app _) bw (bx.app _) bz (bA.app _) bB (aO.app _) bC (M.e_opt cG hg) _ (H.give (A := []) rfl)).mono fun v_ w_ ⟨y_, ao, aI, H_⟩ => by subst ao; exact ⟨aI, H.via H_⟩) ?_
 intro dz H
 refine s_val (x_pand (b := (((aa == ab) && ac) && ag)) (r := am) rfl (fun hb => gd_of (c := (((aa == ab) && ac) && ag)) (by first | exact hb | (rw [hb]; rfl) | simp_all) (B am)) rfl) ?_
 refine zM (B ((((aa == ab) && ac) && ag) && am)) rfl ?_
 refine g_val ((((aa == ab) && ac) && ag) && am) (gy_t rfl) (fun hg => x_mv (v := aU) rfl) ?_
 refine g_val ((((aa == ab) && ac) && ag) && am) (gy_t rfl) (fun hg => x_mv (v := aC) rfl) ?_
 obtain ⟨aB, cH, hM⟩ := M.e_bind hM
 refine t_gcall ((((aa == ab) && ac) && ag) && am) (gy_t rfl) cf15 (B aB) (fun _ => [aU, aC]) (fun hg => lst2 (gd_of (c := ((((aa == ab) && ac) && ag) && am)) hg (aU)) (gd_of (c := ((((aa == ab) && ac) && ag) && am)) hg (aC))) H (fun hg => (zac r7 watches (rdo 6) (H.os 6) (bo.app _) bc (M.e_opt cH hg) _ (H.give (A := []) rfl)).mono fun v_ w_ ⟨y_, ao, aI, H_⟩ => by subst ao; exact ⟨aI, H.via H_⟩) ?_
 intro dA H
 refine s_val (x_pand (b := ((((aa == ab) && ac) && ag) && am)) (r := aB) rfl (fun hb => gd_of (c := ((((aa == ab) && ac) && ag) && am)) (by first | exact hb | (rw [hb]; rfl) | simp_all) (B aB)) rfl) ?_
 refine zM (B (((((aa == ab) && ac) && ag) && am) && aB)) rfl ?_
 refine g_val (((((aa == ab) && ac) && ag) && am) && aB) (gy_t rfl) (fun hg => x_mv (v := bm) rfl) ?_
 refine g_val (((((aa == ab) && ac) && ag) && am) && aB) (gy_t rfl) (fun hg => x_mv (v := aN) rfl) ?_
 obtain ⟨ba, cI, hM⟩ := M.e_bind hM
 refine t_gcall (((((aa == ab) && ac) && ag) && am) && aB) (gy_t rfl) cf15 (B ba) (fun _ => [bm, aN]) (fun hg => lst2 (gd_of (c := (((((aa == ab) && ac) && ag) && am) && aB)) hg (bm)) (gd_of (c := (((((aa == ab) && ac) && ag) && am) && aB)) hg (aN))) H (fun hg => (zac r8 thresholds (rdo 5) (H.os 5) (bI.app _) bp (M.e_opt cI hg) _ (H.give (A := []) rfl)).mono fun v_ w_ ⟨y_, ao, aI, H_⟩ => by subst ao; exact ⟨aI, H.via H_⟩) ?_
 intro dB H
 refine s_val (x_pand (b := (((((aa == ab) && ac) && ag) && am) && aB)) (r := ba) rfl (fun hb => gd_of (c := (((((aa == ab) && ac) && ag) && am) && aB)) (by first | exact hb | (rw [hb]; rfl) | simp_all) (B ba)) rfl) ?_
 refine zM (B ((((((aa == ab) && ac) && ag) && am) && aB) && ba)) rfl ?_
 obtain ⟨br, cJ, hM⟩ := M.e_bind hM
 refine t_gcall ((((((aa == ab) && ac) && ag) && am) && aB) && ba) (gy_t rfl) cf7 (B br) (fun _ => []) (fun _ => rfl) H (fun hg => (zc4 (M.e_opt cJ hg) _ (H.give (A := []) rfl)).mono fun v_ w_ ⟨y_, ao, aI, H_⟩ => by subst ao; exact ⟨aI, H.via H_⟩) ?_
 intro dC H
 refine s_val (x_pand (b := ((((((aa == ab) && ac) && ag) && am) && aB) && ba)) (r := br) rfl (fun hb => gd_of (c := ((((((aa == ab) && ac) && ag) && am) && aB) && ba)) (by first | exact hb | (rw [hb]; rfl) | simp_all) (B br)) rfl) ?_
 refine zA (B (((((((aa == ab) && ac) && ag) && am) && aB) && ba) && br)) rfl ?_
 refine s_nil ?_
 replace H := H.pk []
 refine W.ret ?_
 have ao := M.e_pure hM
 exact ⟨_, resE_tmp rfl, ⟨(((((((aa == ab) && ac) && ag) && am) && aB) && ba) && br), ao, rfl, H⟩⟩

end Go.Proofs.YtbaehghammbjdaaGreat
end
namespace Go.Nm
namespace Wn
/-- Who is the first one along a path, and its stage. -/
def Fst (p st ws : List Int) (a b : Nat) (who stage : Int) : Prop :=
  ((∀ i, a <= i -> i < b -> p.getD i 0 ∉ ws) /\ who = -1 /\ stage = 0) ∨ ∃ i, a <= i /\ i < b /\ p.getD i 0 ∈ ws /\ (∀ j, a <= j -> j < i -> p.getD j 0 ∉ ws) /\ who = p.getD i 0 /\ stage = st.getD i 0
def al (p st : List Int) (i : Nat) (t : Town) : Bool := (t.station == p.getD i 0) && decide (t.alarm <= st.getD i 0)
def Dng (p st : List Int) (tw : List Town) (a b : Nat) : Prop := ∃ i, a <= i /\ i < b /\ tw.any (al p st i) = true
variable {p st ws : List Int} {tw : List Town} {a b : Nat}
theorem Fst.uniq {w s w' s' : Int} (h : Fst p st ws a b w s) (h' : Fst p st ws a b w' s') : w = w' /\ s = s' := by
  rcases h with ⟨h1, h2, h3⟩ | ⟨i, h1, h2, h3, h4, h5, h6⟩ <;> rcases h' with ⟨k1, k2, k3⟩ | ⟨j, k1, k2, k3, k4, k5, k6⟩
  · omega
  · exact absurd k3 (h1 j k1 k2)
  · exact absurd h3 (k1 i h1 h2)
  · have : i = j := by
      rcases Nat.lt_trichotomy i j with g | g | g
      · exact absurd h3 (k4 i h1 g)
      · exact g
      · exact absurd k3 (h4 j k1 g)
    subst this
    omega
theorem Fst.nil : Fst p st ws a a (-1) 0 := .inl ⟨fun i h1 h2 => by omega, rfl, rfl⟩
theorem Fst.pred {w s : Int} (h : Fst p st ws (a + 1) b w s) (hab : a < b) : Fst p st ws a b (if p.getD a 0 ∈ ws then p.getD a 0 else w) (if p.getD a 0 ∈ ws then st.getD a 0 else s) := by
  by_cases e : p.getD a 0 ∈ ws
  · rw [if_pos e, if_pos e]
    exact .inr ⟨a, Nat.le_refl _, hab, e, fun j h1 h2 => by omega, rfl, rfl⟩
  · rw [if_neg e, if_neg e]
    rcases h with ⟨h1, h2, h3⟩ | ⟨i, h1, h2, h3, h4, h5, h6⟩
    · refine .inl ⟨fun i g1 g2 => ?_, h2, h3⟩
      rcases Nat.lt_or_eq_of_le g1 with g | g
      · exact h1 i g g2
      · subst g
        exact e
    · refine .inr ⟨i, by omega, h2, h3, fun j g1 g2 => ?_, h5, h6⟩
      rcases Nat.lt_or_eq_of_le g1 with g | g
      · exact h4 j g g2
      · subst g
        exact e
theorem Fst.skip {w s : Int} (h : Fst p st ws a b w s) (h' : w ≠ -1 ∨ p.getD b 0 ∉ ws) : Fst p st ws a (b + 1) w s := by
  rcases h with ⟨h1, h2, h3⟩ | ⟨i, h1, h2, h3, h4, h5, h6⟩
  · refine .inl ⟨fun i g1 g2 => ?_, h2, h3⟩
    rcases Nat.lt_or_eq_of_le (Nat.le_of_lt_succ g2) with g | g
    · exact h1 i g1 g
    · subst g
      rcases h' with h' | h'
      · exact absurd h2 h'
      · exact h'
  · exact .inr ⟨i, h1, by omega, h3, h4, h5, h6⟩
theorem Fst.hit {s : Int} (h : Fst p st ws a b (-1) s) (hw : ∀ x ∈ ws, 0 <= x) (h' : p.getD b 0 ∈ ws) (hab : a <= b) : Fst p st ws a (b + 1) (p.getD b 0) (st.getD b 0) := by
  rcases h with ⟨h1, h2, h3⟩ | ⟨i, h1, h2, h3, h4, h5, h6⟩
  · exact .inr ⟨b, hab, Nat.lt_succ_self _, h', fun j g1 g2 => h1 j g1 g2, rfl, rfl⟩
  · have := hw _ h3
    omega
theorem Dng.nil : ¬ Dng p st tw a a := fun ⟨i, h1, h2, _⟩ => by omega
theorem Dng.succ (hab : a <= b) : Dng p st tw a (b + 1) ↔ Dng p st tw a b ∨ tw.any (al p st b) = true := by
  constructor
  · rintro ⟨i, h1, h2, h3⟩
    rcases Nat.lt_or_eq_of_le (Nat.le_of_lt_succ h2) with g | g
    · exact .inl ⟨i, h1, g, h3⟩
    · subst g
      exact .inr h3
  · rintro (⟨i, h1, h2, h3⟩ | h)
    · exact ⟨i, h1, by omega, h3⟩
    · exact ⟨b, hab, by omega, h⟩
theorem Dng.pred (hab : a < b) : Dng p st tw a b ↔ Dng p st tw (a + 1) b ∨ tw.any (al p st a) = true := by
  constructor
  · rintro ⟨i, h1, h2, h3⟩
    rcases Nat.lt_or_eq_of_le h1 with g | g
    · exact .inl ⟨i, g, h2, h3⟩
    · subst g
      exact .inr h3
  · rintro (⟨i, h1, h2, h3⟩ | h)
    · exact ⟨i, by omega, h2, h3⟩
    · exact ⟨a, Nat.le_refl _, hab, h⟩
/-- What is reported. -/
structure Told (p st ws : List Int) (tw : List Town) (r : Int × Int × Bool) : Prop where
  f : Fst p st ws 0 p.length r.1 r.2.1
  d : r.2.2 = true ↔ Dng p st tw 0 p.length
theorem Told.uniq {r r' : Int × Int × Bool} (h : Told p st ws tw r) (h' : Told p st ws tw r') : r = r' := by
  obtain ⟨a, b, c⟩ := r
  obtain ⟨a', b', c'⟩ := r'
  have h1 := h.f.uniq h'.f
  have h2 : c = c' := by
    rw [Bool.eq_iff_iff]
    exact h.d.trans h'.d.symm
  dsimp only at h1
  rw [h1.1, h1.2, h2]
end Wn
end Go.Nm
namespace Go.Proofs.YtbaehghammbjdaaGreat
open Go Go.Nm
variable {dn : List Int} {tr : List Span} {sp : List Int} {tw : List Town} {dl dh : Int} {fl : List Flood} {ws : List Int}
theorem contains_any (l : List Town) (f : Town -> M Bool) (p : Town -> Bool) (h : ∀ t ∈ l, (f t).Ends (p t)) : (zar l f).Ends (l.any p) := by
  refine M.Out.ends ?_
  unfold zar zbM
  refine M.o_bind (P := fun r => decide (0 <= r) = l.any p) (M.o_bind (P := fun r => match r with | .inl r => (0 : Int) <= r /\ l.any p = true | .inr (_ : Unit) => l.any p = false) ?_ ?_) (fun r h => M.o_pure h)
  · refine M.o_for l.length (fun i (k : Nat) => k = i /\ ∀ j, j < i -> p (l.getD j default) = false) ?_ ?_ ⟨rfl, fun j hj => by omega⟩
    · rintro _ i hi ⟨rfl, hp⟩
      simp only [zat]
      have hm : l.getD i default ∈ l := by rw [getD_el l hi]; exact List.getElem_mem hi
      refine M.o_t (decide_eq_true (by omega)) (M.o_grdD (by omega) (M.o_bindE (h _ hm) (M.o_if (fun hb => M.o_pure ⟨by omega, ?_⟩) (fun hb => M.o_pure ⟨rfl, fun j hj => ?_⟩))))
      · rw [List.any_eq_true]
        exact ⟨_, hm, hb⟩
      · rcases Nat.lt_or_eq_of_le (Nat.le_of_lt_succ hj) with e | e
        · exact hp j e
        · subst e
          exact hb
    · rintro _ ⟨rfl, hp⟩
      simp only [zat]
      refine M.o_f (decide_eq_false (by omega)) (M.o_pure ?_)
      rw [List.any_eq_false]
      intro x hx
      obtain ⟨i, hi, e⟩ := mem_getD hx default
      rw [← e, hp i hi]
      exact Bool.false_ne_true
  · rintro (r | r) h
    · exact M.o_pure (by rw [h.2, decide_eq_true h.1])
    · exact M.o_pure (by dsimp only at h; rw [h]; rfl)
theorem posted_iff (R : Wn.Rv dn tr sp tw dl dh fl) (hu : ws.Pairwise (· < ·)) (hb : ∀ x ∈ ws, 0 <= x /\ x < (dn.length : Int)) :
    (zam dn tr sp tw dl dh fl ws).Out (fun y => ∃ ar : List Bool, y = .inr (dl, dh, ar, 0) /\ ∀ j : Nat, ar.getD j false = true ↔ (j : Int) ∈ ws) := by
  have h12 := R.n12
  unfold zam
  refine M.o_bindE (opened_ends R) ?_
  dsimp only
  refine M.o_bindE (M.i_opt (fun _ => rising_true (by omega) hu hb) (fun h => by cases h)) (M.o_f rfl ?_)
  unfold zaZ
  refine M.o_f rfl (M.o_bind (P := fun ar : List Bool => ∀ j : Nat, ar.getD j false = true ↔ (j : Int) ∈ ws) ?_ fun ar h => M.o_pure ⟨ar, rfl, h⟩)
  refine M.o_for ws.length (fun i (t : List Bool × Nat) => t.2 = i /\ t.1.length = 12 /\ ∀ j : Nat, t.1.getD j false = true ↔ (j : Int) ∈ ws.take i) ?_ ?_ ⟨rfl, by simp, fun j => ?_⟩
  · rintro _ ⟨ar, i⟩ hi ⟨rfl, h0, h⟩
    dsimp only at hi h0 h
    simp only [zbo]
    have hm : ws.getD i 0 ∈ ws := by rw [getD_el ws hi]; exact List.getElem_mem hi
    have hx := hb _ hm
    refine M.o_t (decide_eq_true (by omega)) (M.o_grdD (by omega) (M.o_grd (gA2 (by omega) (by omega)) (M.o_pure ⟨rfl, by dsimp only; rw [List.length_set, h0], fun j => ?_⟩)))
    dsimp only
    rw [List.take_succ_eq_append_getElem hi, List.mem_append, List.mem_singleton, ← getD_el ws hi 0, gset _ _ _ _ _ (by omega)]
    by_cases e : j = Int.toNat (ws.getD i 0)
    · rw [if_pos e]
      exact ⟨fun _ => .inr (by omega), fun _ => rfl⟩
    · rw [if_neg e, h j]
      exact ⟨fun g => .inl g, fun g => by
        rcases g with g | g
        · exact g
        · omega⟩
  · rintro ⟨ar, i⟩ ⟨e, _, h⟩
    dsimp only at e h
    subst e
    rw [List.take_length] at h
    simp only [zbo]
    exact M.o_f (decide_eq_false (by omega)) (M.o_pure h)
  · dsimp only
    rw [List.getD_eq_getElem?_getD, List.getElem?_replicate]
    constructor
    · intro hj
      split at hj <;> cases hj
    · intro hj
      simp at hj
theorem reported_told (R : Wn.Rv dn tr sp tw dl dh fl) (hw : ∀ x ∈ ws, 0 <= x) {ar : List Bool} (hp : ∀ j : Nat, ar.getD j false = true ↔ (j : Int) ∈ ws) {f : Flood} (hf : f ∈ fl) : (zak dn tr sp tw dl dh fl f ar).Out (Wn.Told (Wn.P dn f.spring) f.stages ws tw) := by
  unfold zak
  have h1 : (zap dn tr sp tw dl dh fl f.spring).Ends (f.spring, dl, dh) := M.i_pure
  obtain ⟨k1, k2, k3⟩ := R.fok f hf
  have hs := R.si _ k1
  have hst : Wn.Stn dn f.spring := .inr hs
  have h12 := R.n12
  refine M.o_bindE h1 ?_
  dsimp only
  refine M.o_bind (path_out (Q := fun x => match x with | .inl t => Wn.Told (Wn.P dn f.spring) f.stages ws tw t | .inr (_ : Unit) => False) R.nx R.n12 hst
    (fun k (t : Int × Int × Bool) => Wn.Fst (Wn.P dn f.spring) f.stages ws 0 k t.1 t.2.1 /\ (t.2.2 = true ↔ Wn.Dng (Wn.P dn f.spring) f.stages tw 0 k)) ⟨.nil, fun h => (by cases h), fun h => absurd h Wn.Dng.nil⟩ ?_ (fun t ht => ⟨ht.1, ht.2⟩) _ _ _ _ _ _) ?_
  · rintro k hk ⟨a, b, c⟩ ⟨t1, t2⟩
    dsimp only at t1 t2
    have hm := Wn.P_mem R.nx _ hst _ (List.getElem_mem hk)
    rw [← getD_el (Wn.P dn f.spring) hk 0] at hm ⊢
    have hc : (zar tw (fun xqz => zaS xqz ((Wn.P dn f.spring).getD k 0) f.spring f.stages (k : Int))).Ends (tw.any (Wn.al (Wn.P dn f.spring) f.stages k)) := by
      refine contains_any _ _ _ fun t _ => ?_
      unfold zaS
      exact M.i_grd (gOr2 (by omega) (by omega)) M.i_pure
    have hd := Wn.Dng.succ (p := Wn.P dn f.spring) (st := f.stages) (tw := tw) (Nat.zero_le k)
    have hq := hp (Int.toNat ((Wn.P dn f.spring).getD k 0))
    rw [Int.toNat_of_nonneg hm.2.1] at hq
    simp only [zaP]
    refine M.o_grd (gA2 (by omega) (by omega)) (M.o_if (fun hb => ?_) (fun hb => ?_))
    · rw [Bool.and_eq_true, beq_iff_eq] at hb
      obtain ⟨hb1, rfl⟩ := hb
      have hF := t1.hit hw (hq.1 hb1) (Nat.zero_le _)
      refine M.o_grd (gA2 (by omega) (by omega)) (M.o_bindE hc (M.o_if (fun hr => M.o_pure ⟨hF, ?_⟩) (fun hr => M.o_pure ⟨hF, ?_⟩)))
      · exact ⟨fun _ => hd.2 (.inr hr), fun _ => rfl⟩
      · dsimp only
        rw [hd, hr, ← t2]
        simp
    · have hF : Wn.Fst (Wn.P dn f.spring) f.stages ws 0 (k + 1) a b := by
        refine t1.skip ?_
        by_cases e : a = -1
        · right
          subst e
          intro g
          rw [hq.2 g] at hb
          cases hb
        · exact .inl e
      refine M.o_bindE hc (M.o_if (fun hr => M.o_pure ⟨hF, ?_⟩) (fun hr => M.o_pure ⟨hF, ?_⟩))
      · exact ⟨fun _ => hd.2 (.inr hr), fun _ => rfl⟩
      · dsimp only
        rw [hd, hr, ← t2]
        simp
  · rintro ⟨x, q⟩ hq
    cases x with
    | inl t => exact M.o_pure hq
    | inr u => exact hq.elim
theorem rep_b2 {p : List Int} {f : Flood} {i : Nat} (hi : i < p.length) (hs : i < f.stages.length) (w s : Int) :
    (M.iter (za4 ws f p (i : Int)) (w, s, 0)).Ends (if p.getD i 0 ∈ ws then p.getD i 0 else w, if p.getD i 0 ∈ ws then f.stages.getD i 0 else s) := by
  refine M.Out.ends ?_
  refine M.o_for ws.length (fun k (t : Int × Int × Nat) => t = (if p.getD i 0 ∈ ws.take k then p.getD i 0 else w, if p.getD i 0 ∈ ws.take k then f.stages.getD i 0 else s, k)) ?_ ?_ (by simp)
  · rintro k _ hk rfl
    simp only [za4, Int.toNat_natCast]
    refine M.o_t (decide_eq_true (by omega)) (M.o_grdD (by omega) (M.o_grd (gA2 (by omega) (by omega)) ?_))
    have hm : p.getD i 0 ∈ ws.take (k + 1) ↔ p.getD i 0 ∈ ws.take k ∨ ws.getD k 0 = p.getD i 0 := by
      rw [List.take_succ_eq_append_getElem hk, List.mem_append, List.mem_singleton, ← getD_el ws hk 0]
      exact or_congr Iff.rfl ⟨Eq.symm, Eq.symm⟩
    refine M.o_if (fun hb => M.o_grd (gA2 (by omega) (by omega)) (M.o_pure ?_)) (fun hb => M.o_pure ?_)
    · have h := hm.2 (.inr (beq_iff_eq.1 hb))
      dsimp only
      rw [if_pos h, if_pos h]
    · have h : p.getD i 0 ∈ ws.take (k + 1) ↔ p.getD i 0 ∈ ws.take k := ⟨fun g => (hm.1 g).resolve_right (beq_eq_false_iff_ne.1 hb), fun g => hm.2 (.inl g)⟩
      dsimp only
      simp only [h]
  · rintro _ rfl
    simp only [za4]
    refine M.o_f (decide_eq_false (by omega)) (M.o_pure ?_)
    rw [List.take_length]
theorem rep_b3 {p : List Int} {f : Flood} {i : Nat} (hi : i < p.length) (hs : i < f.stages.length) (d : Bool) :
    (M.iter (zaY tw f p (i : Int)) (d, 0)).Ends (d || tw.any (Wn.al p f.stages i)) := by
  refine M.Out.ends ?_
  refine M.o_for tw.length (fun k (t : Bool × Nat) => t = (d || (tw.take k).any (Wn.al p f.stages i), k)) ?_ ?_ (by simp)
  · rintro k _ hk rfl
    simp only [zaY, Int.toNat_natCast]
    refine M.o_t (decide_eq_true (by omega)) (M.o_grd (gOr (by omega)) (M.o_grd (gOr2 (by omega) (by omega)) (M.o_grd (gOr (by omega)) (M.o_grd (gOr2 (by omega) (by omega)) (M.o_pure ?_)))))
    dsimp only
    rw [List.take_succ_eq_append_getElem hk, List.any_append, ← getD_el tw hk default]
    simp only [List.any_cons, List.any_nil, Bool.or_false, Bool.or_assoc, Wn.al]
  · rintro _ rfl
    simp only [zaY]
    refine M.o_f (decide_eq_false (by omega)) (M.o_pure ?_)
    rw [List.take_length]
theorem reporter_told (R : Wn.Rv dn tr sp tw dl dh fl) {f : Flood} (hf : f ∈ fl) : (zaw dn tr sp tw dl dh fl ws f).Out (Wn.Told (Wn.P dn f.spring) f.stages ws tw) := by
  unfold zaw
  obtain ⟨k1, k2, k3⟩ := R.fok f hf
  have hs := R.si _ k1
  have h12 := R.n12
  have hsh := Wn.P_short R.nx (.inr hs : Wn.Stn dn f.spring)
  refine M.o_bindE (refpath_ends R.nx R.n12 (.inr hs) _ _ _ _ _ _) ?_
  generalize Wn.P dn f.spring = p at k2 hsh ⊢
  refine M.o_bind (P := Wn.Told p f.stages ws tw) ?_ (fun y hy => M.o_pure hy)
  refine M.o_for p.length (fun m (t : Int × Int × Bool × Int) => t.2.2.2 = (p.length : Int) - 1 - m /\ Wn.Fst p f.stages ws (p.length - m) p.length t.1 t.2.1 /\ (t.2.2.1 = true ↔ Wn.Dng p f.stages tw (p.length - m) p.length)) ?_ ?_ ⟨by dsimp only; omega, .nil, fun h => (by cases h), fun h => absurd h Wn.Dng.nil⟩
  · rintro m ⟨a, b, c, i⟩ hm ⟨e, t1, t2⟩
    dsimp only at e t1 t2
    obtain ⟨q, hq⟩ : ∃ q, p.length - m = q + 1 := ⟨p.length - m - 1, by omega⟩
    obtain rfl : i = (q : Int) := by omega
    rw [hq] at t1 t2
    rw [show p.length - (m + 1) = q by omega]
    simp only [zbI]
    refine M.o_t (decide_eq_true (by omega)) (M.o_bindE (rep_b2 (by omega) (by omega) a b) (M.o_bindE (rep_b3 (by omega) (by omega) c) (M.o_grd (gA2 (by omega) (by omega)) (M.o_pure ⟨by dsimp only; omega, t1.pred (by omega), ?_⟩))))
    dsimp only
    rw [Wn.Dng.pred (by omega), ← t2, Bool.or_eq_true]
  · rintro ⟨a, b, c, i⟩ ⟨e, t1, t2⟩
    dsimp only at e t1 t2
    rw [Nat.sub_self] at t1 t2
    simp only [zbI]
    exact M.o_f (decide_eq_false (by omega)) (M.o_pure ⟨t1, t2⟩)
/-- Watches, and what is reported of each flood by both. -/
theorem both_is (R : Wn.Rv dn tr sp tw dl dh fl) (hu : ws.Pairwise (· < ·)) (hb : ∀ x ∈ ws, 0 <= x /\ x < (dn.length : Int)) :
    ∃ ar rp ix, Jd dn tr sp tw dl dh fl ws ar rp ix /\ ∀ i, i < fl.length -> (zaw dn tr sp tw dl dh fl ws (fl.getD i default)).Ends (rp i) := by
  obtain ⟨_, h1, ar, rfl, h2⟩ := posted_iff R hu hb
  have h3 : ∀ i, ∃ r, i < fl.length -> (zak dn tr sp tw dl dh fl (fl.getD i default) ar).Ends r /\ Wn.Rp ws r /\ (zaw dn tr sp tw dl dh fl ws (fl.getD i default)).Ends r := by
    intro i
    by_cases hi : i < fl.length
    · have hm : fl.getD i default ∈ fl := by rw [getD_el fl hi]; exact List.getElem_mem hi
      obtain ⟨r, k1, k2⟩ := reported_told R (fun x hx => (hb x hx).1) h2 hm
      obtain ⟨r', k3, k4⟩ := reporter_told (ws := ws) R hm
      obtain ⟨f1, f2, f3⟩ := R.fok _ hm
      refine ⟨r, fun _ => ⟨k1, ?_, by rw [k2.uniq k4]; exact k3⟩⟩
      rcases k2.f with ⟨_, g1, g2⟩ | ⟨j, _, g0, g1, _, g2, g3⟩
      · exact ⟨.inl g1, by omega, by omega⟩
      · refine ⟨.inr (by rw [g2]; exact g1), ?_⟩
        rw [g3, getD_el _ (by omega)]
        exact f3 _ (List.getElem_mem _)
    · exact ⟨default, fun h => absurd h hi⟩
  have h4 := fun v => index_out ws v
  exact ⟨ar, fun i => (h3 i).choose, fun v => (h4 v).choose, ⟨R, hu, hb, h1, fun i hi => ((h3 i).choose_spec hi).1, fun i hi => ((h3 i).choose_spec hi).2.1, fun v => (h4 v).choose_spec.1, fun v => (h4 v).choose_spec.2⟩, fun i hi => ((h3 i).choose_spec hi).2.2⟩
end Go.Proofs.YtbaehghammbjdaaGreat
namespace Go.Proofs.YtbaehghammbjdaaGreat
open Go Go.Nm
variable {dn : List Int} {tr : List Span} {sp : List Int} {tw : List Town} {dl dh : Int} {fl : List Flood}
theorem same_int (l : List Int) : (zab l l).Ends true := by
  unfold zab
  refine M.i_f (by simp) (M.i_bind (a := (.inr () : Unit ⊕ Unit)) ?_ M.i_pure)
  refine M.i_for (fun i => i) l.length (fun i hi => ?_) ?_
  · simp only [zbq]
    exact M.i_t (decide_eq_true (by omega)) (M.i_grd (decide_eq_true (by omega)) (M.i_grd (decide_eq_true (by omega)) (M.i_f (by simp) M.i_pure)))
  · simp only [zbq]
    exact M.i_f (by simp) M.i_pure
theorem same_span (l : List Span) : (zbO l l).Ends true := by
  unfold zbO
  refine M.i_f (by simp) (M.i_bind (a := (.inr () : Unit ⊕ Unit)) ?_ M.i_pure)
  refine M.i_for (fun i => i) l.length (fun i hi => ?_) ?_
  · simp only [zbH]
    exact M.i_t (decide_eq_true (by omega)) (M.i_grd (decide_eq_true (by omega)) (M.i_grd (decide_eq_true (by omega)) (M.i_f (by simp) M.i_pure)))
  · simp only [zbH]
    exact M.i_f (by simp) M.i_pure
theorem same_town (l : List Town) : (zb9 l l).Ends true := by
  unfold zb9
  refine M.i_f (by simp) (M.i_bind (a := (.inr () : Unit ⊕ Unit)) ?_ M.i_pure)
  refine M.i_for (fun i => i) l.length (fun i hi => ?_) ?_
  · simp only [zbl]
    exact M.i_t (decide_eq_true (by omega)) (M.i_grd (decide_eq_true (by omega)) (M.i_grd (decide_eq_true (by omega)) (M.i_f (by simp) M.i_pure)))
  · simp only [zbl]
    exact M.i_f (by simp) M.i_pure
theorem opened_err {e : Int} (h : (zaE dn tr sp tw dl dh fl).Ends e) (he : e ≠ 0) : (zau dn tr sp tw dl dh fl).Ends (.inl e) := by
  unfold zau
  exact M.i_bind h (M.i_t (bne_iff_ne.2 he) M.i_pure)
theorem sm_take (f : Int -> Int) (p : List Int) {i : Nat} (hi : i < p.length) : Wn.sm f (p.take (i + 1)) = Wn.sm f (p.take i) + f p[i] := by
  rw [List.take_succ_eq_append_getElem hi, Wn.sm_app]
  unfold Wn.sm
  simp
theorem sm_small (R : Wn.Rv dn tr sp tw dl dh fl) {s : Int} (hs : Wn.Stn dn s) (q : List Int) (hq : ∀ x ∈ q, x ∈ Wn.P dn s) (hl : q.length <= (Wn.P dn s).length) : (0 <= Wn.sm (Wn.lo tr) q /\ Wn.sm (Wn.lo tr) q <= 12000) /\ 0 <= Wn.sm (Wn.hi tr) q /\ Wn.sm (Wn.hi tr) q <= 12000 := by
  have hsh := Wn.P_short R.nx hs
  have h12 := R.n12
  have hb : ∀ w ∈ q, (0 <= Wn.lo tr w /\ Wn.lo tr w <= 1000) /\ 0 <= Wn.hi tr w /\ Wn.hi tr w <= 1000 := fun w hw => by
    have h1 := Wn.P_mem R.nx s hs w (hq w hw)
    have h2 := R.hr (Int.toNat w) (by have := R.tl; omega)
    unfold Wn.lo Wn.hi
    omega
  have b1 := Wn.sm_bound (Wn.lo tr) _ fun w hw => (hb w hw).1
  have b2 := Wn.sm_bound (Wn.hi tr) _ fun w hw => (hb w hw).2
  omega
theorem takes_ends (R : Wn.Rv dn tr sp tw dl dh fl) {s : Int} (hs : 0 <= s /\ s < (dn.length : Int)) (y : Int) :
    (za9 dn tr sp tw dl dh fl s y).Ends (if y ∈ Wn.P dn s then (Wn.sm (Wn.lo tr) (Wn.upto (Wn.P dn s) y), Wn.sm (Wn.hi tr) (Wn.upto (Wn.P dn s) y), true) else (0, 0, false)) := by
  refine M.Out.ends ?_
  unfold za9
  have hst : Wn.Stn dn s := .inr hs
  have htl := R.tl
  refine M.o_bind (P := fun x => match x with | .inl (_ : Int × Int) => y ∉ Wn.P dn s | .inr z => y ∈ Wn.P dn s /\ z.1 = Wn.sm (Wn.lo tr) (Wn.upto (Wn.P dn s) y) /\ z.2 = Wn.sm (Wn.hi tr) (Wn.upto (Wn.P dn s) y)) ?_ ?_
  · refine M.o_for (Wn.P dn s).length (fun i (t : Int × Int × Int) => ∃ hi : i < (Wn.P dn s).length, t.1 = (Wn.P dn s)[i] /\ t.2.1 = Wn.sm (Wn.lo tr) ((Wn.P dn s).take i) /\ t.2.2 = Wn.sm (Wn.hi tr) ((Wn.P dn s).take i) /\ y ∉ (Wn.P dn s).take i) ?_ ?_ ?_
    · rintro i ⟨c, a, b⟩ hi ⟨_, e1, e2, e3, hn⟩
      dsimp only at e1 e2 e3
      have hm := Wn.P_mem R.nx s hst _ (List.getElem_mem hi)
      have hd := Wn.P_drop R.nx s hst i hi
      rw [← e1] at hm hd
      have hc := Wn.P_cons R.nx hm.2.1 hm.2.2
      rw [hd, List.drop_eq_getElem_cons hi, ← e1] at hc
      have hc := (List.cons.inj hc).2
      have hx := R.nx.next hm.2.1 hm.2.2
      have bb := sm_small R hst ((Wn.P dn s).take i) (fun x hx => List.mem_of_mem_take hx) (by rw [List.length_take]; omega)
      have rr := R.hr (Int.toNat c) (by omega)
      have t1 := sm_take (Wn.lo tr) (Wn.P dn s) hi
      have t2 := sm_take (Wn.hi tr) (Wn.P dn s) hi
      rw [← e1, ← e2] at t1
      rw [← e1, ← e3] at t2
      unfold Wn.lo at t1
      unfold Wn.hi at t2
      simp only [zb0]
      refine M.o_if (fun hb => ?_) (fun hb => M.o_pure ?_)
      · have hb : c ≠ y := bne_iff_ne.1 hb
        have hn' : y ∉ (Wn.P dn s).take (i + 1) := by
          rw [List.take_succ_eq_append_getElem hi, List.mem_append, List.mem_singleton, ← e1]
          rintro (h | h)
          · exact hn h
          · exact hb h.symm
        refine M.o_grd (gA2 hm.2.1 (by omega)) (M.o_grd (gA2 (by omega) (by omega)) (M.o_grd (gA2 (by omega) (by omega)) (M.o_grd (gA2 hm.2.1 hm.2.2) (M.o_if (fun hz => M.o_pure ?_) (fun hz => M.o_pure ?_)))))
        · have hz : dn.getD (Int.toNat c) 0 = -1 := beq_iff_eq.1 hz
          rw [hz, Wn.P_none] at hc
          intro h
          rw [← List.take_append_drop (i + 1) (Wn.P dn s), hc, List.append_nil] at h
          exact hn' h
        · have hz : dn.getD (Int.toNat c) 0 ≠ -1 := beq_eq_false_iff_ne.1 hz
          rw [Wn.P_cons (s := dn.getD (Int.toNat c) 0) R.nx (by omega) (by omega)] at hc
          have hl : i + 1 < (Wn.P dn s).length := by
            rcases Nat.lt_or_ge (i + 1) (Wn.P dn s).length with h | h
            · exact h
            · rw [List.drop_eq_nil_of_le h] at hc
              cases hc
          rw [List.drop_eq_getElem_cons hl] at hc
          exact ⟨hl, (List.cons.inj hc).1.symm, t1.symm, t2.symm, hn'⟩
      · have hb : c = y := by simpa using hb
        have hu : Wn.upto (Wn.P dn s) y = (Wn.P dn s).take i := Wn.upto_take (by rw [List.getElem?_eq_getElem hi, ← e1, hb]) fun z hz e => hn (by rw [← e]; exact hz)
        dsimp only
        rw [hu]
        exact ⟨by rw [← hb, e1]; exact List.getElem_mem hi, e2, e3⟩
    · rintro _ ⟨hi, _⟩
      omega
    · have e := Wn.P_cons R.nx hs.1 hs.2
      have hl : 0 < (Wn.P dn s).length := by rw [e]; simp
      exact ⟨hl, by simp [e], by simp [Wn.sm], by simp [Wn.sm], by simp⟩
  · rintro (z | z) h
    · dsimp only at h
      rw [if_neg h]
      exact M.o_pure rfl
    · dsimp only at h
      rw [if_pos h.1, ← h.2.1, ← h.2.2]
      exact M.o_pure rfl
/-- Lists that are looked at. -/
structure Fit (dn : List Int) (tr : List Span) (sp : List Int) (tw : List Town) (fl : List Flood) : Prop where
  a : dn.length <= 15
  b : tr.length <= 15
  c : sp.length <= 10
  d : tw.length <= 10
  e : fl.length <= 22
  f : ∀ i, i < fl.length -> (fl.getD i default).stages.length <= 15
theorem big_out : (zbV dn tr sp tw dl dh fl).Out (fun b => b = false -> Fit dn tr sp tw fl) := by
  unfold zbV
  refine M.o_if (fun _ => M.o_pure (fun h => (by cases h))) (fun hb => ?_)
  simp only [Bool.or_eq_false_iff, Bool.and_eq_false_iff, decide_eq_false_iff_not] at hb
  refine M.o_bind (P := fun x => match x with | .inl (_ : Unit) => True | .inr (_ : Unit) => ∀ i, i < fl.length -> (fl.getD i default).stages.length <= 15) ?_ ?_
  · refine M.o_for fl.length (fun i (k : Nat) => k = i /\ ∀ j, j < i -> (fl.getD j default).stages.length <= 15) ?_ ?_ ⟨rfl, fun j hj => by omega⟩
    · rintro _ i hi ⟨rfl, hp⟩
      simp only [zbr]
      refine M.o_t (decide_eq_true (by omega)) (M.o_grdD (by omega) (M.o_if (fun _ => M.o_pure trivial) (fun h => M.o_pure ⟨rfl, fun j hj => ?_⟩)))
      rcases Nat.lt_or_eq_of_le (Nat.le_of_lt_succ hj) with e | e
      · exact hp j e
      · subst e
        have := of_decide_eq_false h
        omega
    · rintro _ ⟨rfl, hp⟩
      simp only [zbr]
      exact M.o_f (decide_eq_false (by omega)) (M.o_pure hp)
  · rintro (u | u) h
    · exact M.o_pure (fun h => (by cases h))
    · exact M.o_pure (fun _ => ⟨by omega, by omega, by omega, by omega, by omega, h⟩)
theorem copy_int {l : List Int} (h : l.length <= 1000) : (zav l).Ends l := M.i_grd (decide_eq_true (by simp; omega)) M.i_pure
theorem copy_span {l : List Span} (h : l.length <= 1000) : (zbZ l).Ends l := M.i_grd (decide_eq_true (by simp; omega)) M.i_pure
theorem copy_town {l : List Town} (h : l.length <= 1000) : (zcq l).Ends l := M.i_grd (decide_eq_true (by simp; omega)) M.i_pure
theorem copy_ends (F : Fit dn tr sp tw fl) : (zb3 dn tr sp tw dl dh fl).Ends (dn, tr, sp, tw, dl, dh, fl) := by
  obtain ⟨fa, fb, fc, fd, fe, ff⟩ := F
  unfold zb3 zb4
  refine M.i_bind (copy_int (by omega)) (M.i_bind (copy_span (by omega)) (M.i_bind (copy_int (by omega)) (M.i_bind (copy_town (by omega)) (M.i_bind (a := (fl, fl)) ?_ M.i_pure))))
  refine M.Out.ends (M.o_for fl.length (fun i (t : Nat × List Flood) => t = (i, fl.take i)) ?_ ?_ (by simp))
  · rintro i _ hi rfl
    simp only [zbC]
    refine M.o_t (decide_eq_true (by omega)) (M.o_grdD (by omega) (M.o_bindE (copy_int (by have := ff i hi; omega)) (M.o_grdD (by simp; omega) (M.o_pure ?_))))
    rw [← take_succ_D fl i hi default]
  · rintro _ rfl
    simp only [zbC]
    refine M.o_f (decide_eq_false (by omega)) (M.o_pure ?_)
    rw [List.take_length]
theorem river_ends (F : Fit dn tr sp tw fl) : (zb2 dn tr sp tw dl dh fl).Ends (dn, tr, sp, tw, dl, dh, fl) := by
  obtain ⟨fa, fb, fc, fd, fe, ff⟩ := F
  unfold zb2 zca
  refine M.i_bind (copy_int (by omega)) (M.i_bind (copy_span (by omega)) (M.i_bind (copy_int (by omega)) (M.i_bind (a := (tw, tw)) ?_ (M.i_bind (a := (fl, fl)) ?_ M.i_pure))))
  · refine M.Out.ends (M.o_for tw.length (fun i (t : Nat × List Town) => t = (i, tw.take i)) ?_ ?_ (by simp))
    · rintro i _ hi rfl
      simp only [zbp]
      refine M.o_t (decide_eq_true (by omega)) (M.o_grdD (by omega) (M.o_grdD (by simp; omega) (M.o_pure ?_)))
      rw [← take_succ_D tw i hi default]
    · rintro _ rfl
      simp only [zbp]
      refine M.o_f (decide_eq_false (by omega)) (M.o_pure ?_)
      rw [List.take_length]
  · refine M.Out.ends (M.o_for fl.length (fun i (t : Nat × List Flood) => t = (i, fl.take i)) ?_ ?_ (by simp))
    · rintro i _ hi rfl
      simp only [zbf]
      refine M.o_t (decide_eq_true (by omega)) (M.o_grdD (by omega) (M.o_grdD (by simp; omega) (M.o_pure ?_)))
      rw [← take_succ_D fl i hi default]
    · rintro _ rfl
      simp only [zbf]
      refine M.o_f (decide_eq_false (by omega)) (M.o_pure ?_)
      rw [List.take_length]
theorem same_river : (zb8 dn tr sp tw dl dh fl dn tr sp tw dl dh fl).Ends true := by
  unfold zb8
  refine M.i_bind (same_int _) (M.i_bind (M.i_optA (same_span _)) (M.i_bind (M.i_optA (same_int _)) (M.i_bind (M.i_optA (same_town _)) (M.i_f (by simp) (M.i_bind (a := (.inr () : Unit ⊕ Unit)) ?_ M.i_pure)))))
  refine M.i_for (fun i => i) fl.length (fun i hi => ?_) ?_
  · simp only [zbn]
    exact M.i_t (decide_eq_true (by omega)) (M.i_grd (decide_eq_true (by omega)) (M.i_grd (decide_eq_true (by omega)) (M.i_bind (M.i_optA (same_int _)) (M.i_f (by simp) M.i_pure))))
  · simp only [zbn]
    exact M.i_f (decide_eq_false (by omega)) M.i_pure
end Go.Proofs.YtbaehghammbjdaaGreat
namespace Go.Nm
namespace Wn
/-- The least stage of floods, and the first flood of that stage. -/
def Th2 (a m : Nat) (st : Nat -> Int) (q : Nat -> Bool) (least flood : Int) : Prop :=
  (flood = -1 /\ least = 2001 /\ ∀ i, a <= i -> i < m -> q i = false) ∨ (∃ i, a <= i /\ i < m /\ q i = true /\ flood = i /\ least = st i /\ (∀ j, a <= j -> j < m -> q j = true -> st i <= st j) /\ ∀ j, a <= j -> j < i -> q j = true -> st i < st j)
theorem Th2.uniq {a m : Nat} {st : Nat -> Int} {q : Nat -> Bool} {l f l' f' : Int} (h : Th2 a m st q l f) (h' : Th2 a m st q l' f') : l = l' /\ f = f' := by
  rcases h with ⟨h1, h2, h3⟩ | ⟨i, h1, h2, h3, h4, h5, h6, h7⟩ <;> rcases h' with ⟨k1, k2, k3⟩ | ⟨j, k1, k2, k3, k4, k5, k6, k7⟩
  · omega
  · rw [h3 j k1 k2] at k3; cases k3
  · rw [k3 i h1 h2] at h3; cases h3
  · have : i = j := by
      rcases Nat.lt_trichotomy i j with g | g | g
      · have := k7 i h1 g h3
        have := h6 j k1 k2 k3
        omega
      · exact g
      · have := h7 j k1 g k3
        have := k6 i h1 h2 h3
        omega
    subst this
    omega
theorem ch_up {m : Nat} {q : Nat -> Bool} : (ch m q).Pairwise (· < ·) := by
  induction m with
  | zero => exact List.Pairwise.nil
  | succ m ih =>
    rw [ch_succ]
    split
    · rw [List.pairwise_append]
      refine ⟨ih, List.pairwise_singleton _ _, fun x hx y hy => ?_⟩
      obtain ⟨i, hi, _, rfl⟩ := mem_ch.1 hx
      rw [List.mem_singleton] at hy
      omega
    · exact ih
end Wn
end Go.Nm
namespace Go.Proofs.YtbaehghammbjdaaGreat
open Go Go.Nm
variable {dn : List Int} {tr : List Span} {sp : List Int} {tw : List Town} {dl dh : Int} {fl : List Flood} {ws : List Int} {ar : List Bool} {rp : Nat -> Int × Int × Bool} {ix : Int -> Int}
theorem Jd.no (J : Jd dn tr sp tw dl dh fl ws ar rp ix) (th : List Int) {i : Nat} (h : (rp i).1 = -1) : Wd rp ix th i = false := by
  unfold Wd
  rcases J.ix1 (rp i).1 with ⟨e, _⟩ | ⟨k, _, hk, e⟩
  · rw [e]; rfl
  · have := J.bd (ws.getD k 0) (by rw [getD_el ws hk]; exact List.getElem_mem hk)
    omega
theorem Jd.at (J : Jd dn tr sp tw dl dh fl ws ar rp ix) (th : List Int) {i k : Nat} (hk : k < ws.length) (h : (rp i).1 = ws.getD k 0) : Wd rp ix th i = decide (th.getD k 0 <= (rp i).2.1) := by
  unfold Wd
  rcases J.ix1 (rp i).1 with ⟨_, e⟩ | ⟨j, h1, h2, h3⟩
  · exact absurd (by rw [h, getD_el ws hk]; exact List.getElem_mem hk) e
  · have : j = k := by
      rw [h, getD_el ws h2, getD_el ws hk] at h3
      rcases Nat.lt_trichotomy j k with g | g | g
      · have := List.pairwise_iff_getElem.1 J.up j k h2 hk g
        omega
      · exact g
      · have := List.pairwise_iff_getElem.1 J.up k j hk h2 g
        omega
    subst this
    rw [h1, decide_eq_true (show (0 : Int) <= (j : Int) by omega), Bool.true_and]
    rfl
theorem reports_ends (J : Jd dn tr sp tw dl dh fl ws ar rp ix) {i : Nat} (hi : i < fl.length) : (zaK dn tr sp tw dl dh fl ws (i : Int)).Ends ((rp i).1, (rp i).2.2, 0) := by
  unfold zaK
  refine M.i_bind J.post (M.i_bind (M.i_opt (fun _ => in_true (by omega) (by omega)) (fun h => by cases h)) (M.i_f rfl (M.i_f rfl (M.i_grd (gA2 (by omega) (by omega)) (M.i_bind (J.rep i hi) M.i_pure)))))
theorem demands_out (R : Wn.Rv dn tr sp tw dl dh fl) : (zbW dn tr sp tw dl dh fl).Out (fun l => l.length <= 64 /\ ∀ d ∈ l, (0 <= d.spring /\ d.spring < (dn.length : Int)) /\ 0 <= d.town /\ d.town < (tw.length : Int)) := by
  have t8 := R.t8
  have s8 := R.s8
  unfold zbW
  refine M.o_bind (P := fun y => y.2.length <= 64 /\ ∀ d ∈ y.2, (0 <= d.spring /\ d.spring < (dn.length : Int)) /\ 0 <= d.town /\ d.town < (tw.length : Int)) ?_ (fun y hy => M.o_pure hy)
  refine M.o_for sp.length (fun i (t : Nat × List Dem) => t.1 = i /\ t.2.length <= 8 * i /\ ∀ d ∈ t.2, (0 <= d.spring /\ d.spring < (dn.length : Int)) /\ 0 <= d.town /\ d.town < (tw.length : Int)) ?_ ?_ ⟨rfl, by simp, fun d hd => by cases hd⟩
  · rintro _ ⟨i, l⟩ hi ⟨rfl, h1, h2⟩
    dsimp only at hi h1 h2
    simp only [zbD]
    have hsp := R.si (sp.getD i 0) (by rw [getD_el sp hi]; exact List.getElem_mem hi)
    refine M.o_t (decide_eq_true (by omega)) (M.o_bind (P := fun y => y.2.length <= 8 * i + 8 /\ ∀ d ∈ y.2, (0 <= d.spring /\ d.spring < (dn.length : Int)) /\ 0 <= d.town /\ d.town < (tw.length : Int)) ?_ (fun y hy => M.o_pure ⟨rfl, by dsimp only; omega, hy.2⟩))
    refine M.o_for tw.length (fun k (t : Nat × List Dem) => t.1 = k /\ t.2.length <= 8 * i + k /\ ∀ d ∈ t.2, (0 <= d.spring /\ d.spring < (dn.length : Int)) /\ 0 <= d.town /\ d.town < (tw.length : Int)) ?_ ?_ ⟨rfl, h1, h2⟩
    · rintro _ ⟨k, l4⟩ hk ⟨rfl, g1, g2⟩
      dsimp only at hk g1 g2
      simp only [zbv]
      refine M.o_t (decide_eq_true (by omega)) (M.o_grdD (by omega) (M.o_grdD (by omega) (M.o_bindE (takes_ends R hsp _) (M.o_if (fun _ => M.o_grdD (by simp; omega) (M.o_pure ⟨rfl, by dsimp only; simp; omega, fun d hd => ?_⟩)) (fun _ => M.o_pure ⟨rfl, by dsimp only; omega, g2⟩)))))
      rw [List.mem_append, List.mem_singleton] at hd
      rcases hd with hd | rfl
      · exact g2 d hd
      · exact ⟨hsp, by dsimp only; omega, by dsimp only; omega⟩
    · rintro ⟨k, l4⟩ ⟨e, g1, g2⟩
      dsimp only at e g1 g2
      subst e
      simp only [zbv]
      exact M.o_f (decide_eq_false (by omega)) (M.o_pure ⟨by dsimp only; omega, g2⟩)
  · rintro ⟨i, l⟩ ⟨e, h1, h2⟩
    dsimp only at e h1 h2
    subst e
    simp only [zbD]
    exact M.o_f (decide_eq_false (by omega)) (M.o_pure ⟨by dsimp only; omega, h2⟩)
theorem meets_out (R : Wn.Rv dn tr sp tw dl dh fl) {s : Int} (hs : 0 <= s /\ s < (dn.length : Int)) {d : Dem} (hd : (0 <= d.spring /\ d.spring < (dn.length : Int)) /\ 0 <= d.town /\ d.town < (tw.length : Int)) :
    (zbT dn tr sp tw dl dh fl s d).Out (fun _ => True) := by
  have d0 := R.d0
  have d1 := R.d1
  have d2 := R.d2
  unfold zbT
  refine M.o_bindE (takes_ends R hd.1 _) (M.o_if (fun _ => M.o_pure trivial) (fun _ => M.o_grd (gA2 hd.2.1 hd.2.2) ?_))
  have A := takes_ends R hs (tw.getD (Int.toNat d.town) default).station
  by_cases hy : (tw.getD (Int.toNat d.town) default).station ∈ Wn.P dn s
  · rw [if_pos hy] at A
    have bb := sm_small R (.inr hs) (Wn.upto (Wn.P dn s) (tw.getD (Int.toNat d.town) default).station) (fun x hx => (Wn.upto_mem hx).1) (List.takeWhile_sublist _).length_le
    refine M.o_bindE A ?_
    dsimp only
    exact M.o_grd (gOr2 (by omega) (by omega)) (M.o_pure trivial)
  · rw [if_neg hy] at A
    refine M.o_bindE A ?_
    dsimp only
    exact M.o_grd rfl (M.o_pure trivial)
theorem late_out (R : Wn.Rv dn tr sp tw dl dh fl) (hb : ∀ x ∈ ws, 0 <= x /\ x < (dn.length : Int)) : (zb7 dn tr sp tw dl dh fl ws).Out (fun _ => True) := by
  unfold zb7
  refine M.o_bind (demands_out R) fun l hl => ?_
  refine M.o_bind (P := fun _ => True) ?_ (fun _ _ => M.o_pure trivial)
  refine M.o_for l.length (fun i (t : Nat × List Dem) => t.1 = i /\ t.2.length <= i) ?_ ?_ ⟨rfl, Nat.le_refl _⟩
  · rintro _ ⟨i, l2⟩ hi ⟨rfl, h1⟩
    dsimp only at hi h1
    simp only [zbE]
    refine M.o_t (decide_eq_true (by omega)) (M.o_bind (P := fun _ => True) ?_ (fun r _ => M.o_if (fun _ => M.o_grdD (by omega) (M.o_grdD (by simp; omega) (M.o_pure ⟨rfl, by dsimp only; simp; omega⟩))) (fun _ => M.o_pure ⟨rfl, by dsimp only; omega⟩)))
    refine M.o_for ws.length (fun k (t : Bool × Nat) => t.2 = k) ?_ ?_ rfl
    · rintro _ ⟨b, k⟩ hk rfl
      dsimp only at hk
      simp only [zbx]
      refine M.o_t (decide_eq_true (by omega)) (M.o_grd (gOr (by omega)) (M.o_grd (gOr (by omega)) (M.o_bind (P := fun _ => True) (M.o_opt (fun _ => meets_out R (hb _ ?_) (hl.2 _ ?_)) (fun _ => trivial)) (fun _ _ => M.o_pure rfl))))
      · rw [getD_el ws hk]; exact List.getElem_mem hk
      · rw [getD_el l hi]; exact List.getElem_mem hi
    · rintro ⟨b, k⟩ e
      dsimp only at e
      subst e
      simp only [zbx]
      exact M.o_f (decide_eq_false (by omega)) (M.o_pure trivial)
  · rintro ⟨i, l2⟩ ⟨e, h1⟩
    dsimp only at e h1
    subst e
    simp only [zbE]
    exact M.o_f (decide_eq_false (by omega)) (M.o_pure trivial)
/-- Either both say that something is wrong, or all is right. -/
theorem asked (dn : List Int) (tr : List Span) (sp : List Int) (tw : List Town) (dl dh : Int) (fl : List Flood) {ws : List Int} (hl : ws.length <= 15) :
    (∃ e, e ≠ 0 /\ (zam dn tr sp tw dl dh fl ws).Ends (.inl (List.replicate 12 false, e)) /\ (zaq dn tr sp tw dl dh fl ws).Ends ([], e)) ∨
      (Wn.Rv dn tr sp tw dl dh fl /\ Wn.Up ws dn.length /\ ∃ l, (zaq dn tr sp tw dl dh fl ws).Ends (l, 0)) := by
  obtain ⟨e, h1, h2, h3⟩ := checks dn tr sp tw dl dh fl
  by_cases he : e = 0
  · subst he
    have R := h3 rfl
    have h12 := R.n12
    obtain ⟨r, r1, r2⟩ := rising_out (l := ws) (n := (dn.length : Int)) (by omega)
    obtain ⟨u, u1, u2⟩ := unlisted_out (l := ws) (n := (dn.length : Int)) (by omega) (by omega)
    by_cases U : Wn.Up ws (dn.length : Int)
    · right
      have hu : u = false := by
        rw [← Bool.not_eq_true, u2]
        exact fun h => h U
      subst hu
      obtain ⟨l, k1, _⟩ := late_out R U.si
      refine ⟨R, U, l, ?_⟩
      unfold zaq
      exact M.i_bind h2 (M.i_f rfl (M.i_bind u1 (M.i_f rfl (M.i_bind k1 M.i_pure))))
    · left
      have hr : r = false := by rw [← Bool.not_eq_true, r2]; exact U
      have hu : u = true := u2.2 U
      subst hr hu
      refine ⟨2, by decide, ?_, ?_⟩
      · unfold zam
        refine M.i_bind (opened_ends R) ?_
        dsimp only
        refine M.i_bind (M.i_optA r1) (M.i_t rfl ?_)
        unfold zaZ
        exact M.i_t rfl M.i_pure
      · unfold zaq
        exact M.i_bind h2 (M.i_f rfl (M.i_bind u1 (M.i_t rfl M.i_pure)))
  · left
    refine ⟨e, he, ?_, ?_⟩
    · unfold zam
      refine M.i_bind (opened_err h1 he) ?_
      dsimp only
      have e0 : (e == 0) = false := beq_eq_false_iff_ne.2 he
      rw [e0]
      refine M.i_bind (M.i_opt (fun h => (by cases h)) (fun _ => rfl)) (M.i_f rfl ?_)
      unfold zbs
      exact M.i_t (bne_iff_ne.2 he) M.i_pure
    · unfold zaq
      exact M.i_bind h2 (M.i_t (bne_iff_ne.2 he) M.i_pure)
theorem reports_same (hl : ws.length <= 15) (i : Int) : ∃ y, (zaK dn tr sp tw dl dh fl ws i).Ends y /\ (zba dn tr sp tw dl dh fl ws i).Ends y := by
  rcases asked dn tr sp tw dl dh fl hl with ⟨e, he, h1, h2⟩ | ⟨R, U, l, h2⟩
  · have e0 : (e == 0) = false := beq_eq_false_iff_ne.2 he
    refine ⟨(0, false, e), ?_, ?_⟩
    · unfold zaK
      refine M.i_bind h1 ?_
      dsimp only
      rw [e0]
      exact M.i_bind (M.i_opt (fun h => (by cases h)) (fun _ => rfl)) (M.i_f rfl (M.i_t (bne_iff_ne.2 he) M.i_pure))
    · unfold zba
      exact M.i_bind h2 (M.i_t (bne_iff_ne.2 he) M.i_pure)
  · obtain ⟨ar, rp, ix, J, hR⟩ := both_is R U.sr U.si
    by_cases hi : 0 <= i /\ i < (fl.length : Int)
    · obtain ⟨k, rfl⟩ := Int.eq_ofNat_of_zero_le hi.1
      refine ⟨_, reports_ends J (by omega), ?_⟩
      unfold zba
      exact M.i_bind h2 (M.i_f rfl (M.i_bind (outside_ends _ _ _) (M.i_f (by rw [decide_eq_false (by omega), decide_eq_false (by omega)]; rfl) (M.i_grd (gA2 (by omega) (by omega)) (M.i_bind (hR k (by omega)) M.i_pure)))))
    · refine ⟨(0, false, 2), ?_, ?_⟩
      · unfold zaK
        refine M.i_bind J.post ?_
        dsimp only
        refine M.i_bind (M.i_optA (in_ends _ _ _)) (M.i_t ?_ M.i_pure)
        simp only [beq_self_eq_true, Bool.true_and, Bool.not_eq_true', Bool.and_eq_false_iff, decide_eq_false_iff_not]
        omega
      · unfold zba
        refine M.i_bind h2 (M.i_f rfl (M.i_bind (outside_ends _ _ _) (M.i_t ?_ M.i_pure)))
        simp only [Bool.or_eq_true, decide_eq_true_eq]
        omega
theorem own_thr (J : Jd dn tr sp tw dl dh fl ws ar rp ix) (q : Nat -> Bool) :
    (M.iter (zaC dn tr sp tw fl dl dh ar (Wn.ch fl.length q)) (2001, -1, 0)).Out (fun y => Wn.Th2 0 fl.length (fun i => (rp i).2.1) q y.1 y.2) := by
  refine M.o_for (Wn.ch fl.length q).length (fun i (t : Int × Int × Nat) => t.2.2 = i /\ ((i = 0 /\ t.1 = 2001 /\ t.2.1 = -1) ∨ ∃ c, c < i /\ ∃ j : Nat, (Wn.ch fl.length q).getD c 0 = j /\ j < fl.length /\ q j = true /\ t.2.1 = j /\ t.1 = (rp j).2.1 /\ (∀ k, k < i -> ∀ j' : Nat, (Wn.ch fl.length q).getD k 0 = j' -> (rp j).2.1 <= (rp j').2.1) /\ ∀ k, k < c -> ∀ j' : Nat, (Wn.ch fl.length q).getD k 0 = j' -> (rp j).2.1 < (rp j').2.1)) ?_ ?_ ⟨rfl, .inl ⟨rfl, rfl, rfl⟩⟩
  · rintro _ ⟨a, b, i⟩ hi ⟨rfl, h⟩
    dsimp only at hi h
    have hm : (Wn.ch fl.length q).getD i 0 ∈ Wn.ch fl.length q := by rw [getD_el _ hi]; exact List.getElem_mem hi
    obtain ⟨e, he, hq, hx⟩ := Wn.mem_ch.1 hm
    have hs := (J.ok e he).s
    have hr := J.rep e he
    simp only [zaC]
    rw [hx]
    refine M.o_t (decide_eq_true (by omega)) (M.o_grdD (by omega) (M.o_grd (gA2 (by omega) (by omega)) (M.o_bindE hr ?_)))
    refine M.o_if (fun hb => M.o_pure ⟨rfl, .inr ⟨i, Nat.lt_succ_self _, e, hx, he, hq, rfl, rfl, fun k hk j' hj => ?_, fun k hk j' hj => ?_⟩⟩) (fun hb => M.o_pure ⟨rfl, ?_⟩)
    · have hb : (rp e).2.1 < a := of_decide_eq_true hb
      rcases Nat.lt_or_eq_of_le (Nat.le_of_lt_succ hk) with g | g
      · rcases h with ⟨h1, _⟩ | ⟨c, _, j, _, _, _, _, h2, h3, _⟩
        · omega
        · have := h3 k g j' hj
          omega
      · subst g
        rw [hx] at hj
        obtain rfl : e = j' := by omega
        exact Int.le_refl _
    · have hb : (rp e).2.1 < a := of_decide_eq_true hb
      rcases h with ⟨h1, _⟩ | ⟨c, _, j, _, _, _, _, h2, h3, _⟩
      · omega
      · have := h3 k hk j' hj
        omega
    · have hb : ¬ (rp e).2.1 < a := of_decide_eq_false hb
      rcases h with ⟨h1, h2, _⟩ | ⟨c, hc, j, h0, h1, h2, h3, h4, h5, h6⟩
      · omega
      · refine .inr ⟨c, by omega, j, h0, h1, h2, h3, h4, fun k hk j' hj => ?_, h6⟩
        rcases Nat.lt_or_eq_of_le (Nat.le_of_lt_succ hk) with g | g
        · exact h5 k g j' hj
        · subst g
          rw [hx] at hj
          obtain rfl : e = j' := by omega
          omega
  · rintro ⟨a, b, i⟩ ⟨e, h⟩
    dsimp only at e h
    subst e
    simp only [zaC]
    refine M.o_f (decide_eq_false (by omega)) (M.o_pure ?_)
    rcases h with ⟨h1, h2, h3⟩ | ⟨c, hc, j, h0, h1, h2, h3, h4, h5, h6⟩
    · refine .inl ⟨h3, h2, fun i _ hi => ?_⟩
      cases e : q i with
      | false => rfl
      | true =>
        have : (i : Int) ∈ Wn.ch fl.length q := Wn.mem_ch.2 ⟨i, hi, e, rfl⟩
        rw [List.eq_nil_of_length_eq_zero h1] at this
        cases this
    · refine .inr ⟨j, Nat.zero_le _, h1, h2, h3, h4, fun j' _ hj' hq => ?_, fun j' _ hj' hq => ?_⟩
      · obtain ⟨k, hk, e⟩ := mem_getD (Wn.mem_ch.2 ⟨j', hj', hq, rfl⟩) 0
        exact h5 k hk j' e
      · obtain ⟨k, hk, e⟩ := mem_getD (show (j' : Int) ∈ Wn.ch fl.length q from Wn.mem_ch.2 ⟨j', by omega, hq, rfl⟩) 0
        refine h6 k ?_ j' e
        rcases Nat.lt_or_ge k c with g | g
        · exact g
        · exfalso
          rw [getD_el _ hk] at e
          rw [getD_el _ hc] at h0
          rcases Nat.lt_or_eq_of_le g with g | g
          · have := List.pairwise_iff_getElem.1 (Wn.ch_up (m := fl.length) (q := q)) c k hc hk g
            omega
          · subst g
            omega
theorem ref_thr (J : Jd dn tr sp tw dl dh fl ws ar rp ix) (hR : ∀ i, i < fl.length -> (zaw dn tr sp tw dl dh fl ws (fl.getD i default)).Ends (rp i)) {k : Nat} (hk : k < ws.length) :
    (M.iter (zaA dn tr sp tw dl dh fl ws k) (2001, -1, (fl.length : Int) - 1)).Out (fun y => Wn.Th2 0 fl.length (fun i => (rp i).2.1) (fun i => (rp i).2.2 && ((rp i).1 == ws.getD k 0)) y.1 y.2) := by
  have f20 := J.R.f20
  refine M.o_for fl.length (fun m (t : Int × Int × Int) => t.2.2 = (fl.length : Int) - 1 - m /\ Wn.Th2 (fl.length - m) fl.length (fun i => (rp i).2.1) (fun i => (rp i).2.2 && ((rp i).1 == ws.getD k 0)) t.1 t.2.1) ?_ ?_ ⟨by dsimp only; omega, .inl ⟨rfl, rfl, fun i h1 h2 => by omega⟩⟩
  · rintro m ⟨a, b, i⟩ hm ⟨e, hT⟩
    dsimp only at e hT
    obtain ⟨p, hp⟩ : ∃ p, fl.length - m = p + 1 := ⟨fl.length - m - 1, by omega⟩
    obtain rfl : i = (p : Int) := by omega
    rw [hp] at hT
    rw [show fl.length - (m + 1) = p by omega]
    have hs := (J.ok p (by omega)).s
    have hr := hR p (by omega)
    simp only [zaA, Int.toNat_natCast]
    refine M.o_t (decide_eq_true (by omega)) (M.o_grd (gA2 (by omega) (by omega)) (M.o_bindE hr ?_))
    refine M.o_grd (gOr (by omega)) (M.o_if (fun hb => M.o_grd (gA2 (by omega) (by omega)) (M.o_pure ⟨by dsimp only; omega, ?_⟩)) (fun hb => M.o_grd (gA2 (by omega) (by omega)) (M.o_pure ⟨by dsimp only; omega, ?_⟩)))
    · rw [Bool.and_eq_true, decide_eq_true_eq] at hb
      obtain ⟨hb1, hb2⟩ := hb
      have hb2 : (rp p).2.1 <= a := hb2
      refine .inr ⟨p, Nat.le_refl _, by omega, hb1, rfl, rfl, fun j h1 h2 hq => ?_, fun j h1 h2 _ => by omega⟩
      rcases Nat.lt_or_eq_of_le h1 with g | g
      · rcases hT with ⟨_, _, h3⟩ | ⟨c, _, _, _, _, h5, h6, _⟩
        · rw [h3 j g h2] at hq; cases hq
        · have := h6 j g h2 hq
          dsimp only at h5 this ⊢
          omega
      · subst g
        exact Int.le_refl _
    · have hb : ((rp p).2.2 && ((rp p).1 == ws.getD k 0)) = true -> ¬ (rp p).2.1 <= a := fun h1 h2 => by
        have : decide ((rp p).2.1 <= a) = true := decide_eq_true h2
        rw [Bool.and_eq_false_iff] at hb
        rcases hb with hb | hb
        · exact absurd (hb.symm.trans h1) (by decide)
        · exact absurd (hb.symm.trans this) (by decide)
      rcases hT with ⟨h1, h2, h3⟩ | ⟨c, h1, h2, h3, h4, h5, h6, h7⟩
      · refine .inl ⟨h1, h2, fun j g1 g2 => ?_⟩
        rcases Nat.lt_or_eq_of_le g1 with g | g
        · exact h3 j g g2
        · subst g
          rw [← Bool.not_eq_true]
          intro hq
          have := hb hq
          omega
      · refine .inr ⟨c, by omega, h2, h3, h4, h5, fun j g1 g2 hq => ?_, fun j g1 g2 hq => ?_⟩
        · rcases Nat.lt_or_eq_of_le g1 with g | g
          · exact h6 j g g2 hq
          · subst g
            have := hb hq
            dsimp only at h5 ⊢
            omega
        · rcases Nat.lt_or_eq_of_le g1 with g | g
          · exact h7 j g g2 hq
          · subst g
            have := hb hq
            dsimp only at h5 ⊢
            omega
  · rintro ⟨a, b, i⟩ ⟨e, hT⟩
    dsimp only at e hT
    rw [Nat.sub_self] at hT
    simp only [zaA]
    exact M.o_f (decide_eq_false (by omega)) (M.o_pure hT)
theorem map_succ {α : Type} (f : Nat -> α) (i : Nat) : (List.range (i + 1)).map f = (List.range i).map f ++ [f i] := by rw [List.range_succ, List.map_append]; rfl
theorem thresholds_same (hl : ws.length <= 15) : ∃ y, (zaQ dn tr sp tw dl dh fl ws).Ends y /\ (zbu dn tr sp tw dl dh fl ws).Ends y := by
  rcases asked dn tr sp tw dl dh fl hl with ⟨e, he, h1, h2⟩ | ⟨R, U, l, h2⟩
  · refine ⟨([], [], e), ?_, ?_⟩
    · unfold zaQ
      exact M.i_bind h1 (M.i_t (bne_iff_ne.2 he) M.i_pure)
    · unfold zbu
      exact M.i_bind h2 (M.i_t (bne_iff_ne.2 he) M.i_pure)
  · obtain ⟨ar, rp, ix, J, hR⟩ := both_is R U.sr U.si
    have key : ∀ k, ∃ y : Int × Int, k < ws.length -> (M.iter (zaC dn tr sp tw fl dl dh ar (Wn.ch fl.length fun i => (rp i).2.2 && ((rp i).1 == ws.getD k 0))) (2001, -1, 0)).Ends y /\ (M.iter (zaA dn tr sp tw dl dh fl ws k) (2001, -1, (fl.length : Int) - 1)).Ends y := by
      intro k
      by_cases hk : k < ws.length
      · obtain ⟨y, y1, y2⟩ := own_thr J fun i => (rp i).2.2 && ((rp i).1 == ws.getD k 0)
        obtain ⟨z, z1, z2⟩ := ref_thr J hR hk
        have := y2.uniq z2
        have : y = z := by
          obtain ⟨a, b⟩ := y
          obtain ⟨c, d⟩ := z
          dsimp only at this
          rw [this.1, this.2]
        exact ⟨y, fun _ => ⟨y1, this ▸ z1⟩⟩
      · exact ⟨default, fun h => absurd h hk⟩
    obtain ⟨th, hth⟩ : ∃ th : Nat -> Int × Int, ∀ k, k < ws.length -> (M.iter (zaC dn tr sp tw fl dl dh ar (Wn.ch fl.length fun i => (rp i).2.2 && ((rp i).1 == ws.getD k 0))) (2001, -1, 0)).Ends (th k) /\ (M.iter (zaA dn tr sp tw dl dh fl ws k) (2001, -1, (fl.length : Int) - 1)).Ends (th k) := ⟨fun k => (key k).choose, fun k hk => (key k).choose_spec hk⟩
    refine ⟨((List.range ws.length).map fun k => (th k).1, (List.range ws.length).map fun k => (th k).2, 0), ?_, ?_⟩
    · unfold zaQ
      refine M.i_bind J.post (M.i_f rfl (M.i_bind (a := ((List.range ws.length).map fun k => (th k).1, (List.range ws.length).map fun k => (th k).2, (List.range ws.length).map fun k => (th k).2, (List.range ws.length).map fun k => (th k).1)) ?_ M.i_pure))
      refine M.i_for (fun i => (i, (List.range i).map fun k => (th k).1, (List.range i).map fun k => (th k).2)) ws.length (fun i hi => ?_) ?_
      · simp only [zbh]
        refine M.i_t (decide_eq_true (by omega)) (M.i_grd (decide_eq_true (by omega)) (M.i_bind (chosen52_ends J _) (M.i_bind (hth i hi).1 (M.i_grd (decide_eq_true (by simp; omega)) (M.i_grd (decide_eq_true (by simp; omega)) ?_)))))
        rw [map_succ, map_succ]
        exact M.i_pure
      · simp only [zbh]
        exact M.i_f (decide_eq_false (by omega)) M.i_pure
    · unfold zbu
      refine M.i_bind h2 (M.i_f rfl (M.i_bind (a := ((List.range ws.length).map fun k => (th k).1, (List.range ws.length).map fun k => (th k).2, (List.range ws.length).map fun k => (th k).1, (List.range ws.length).map fun k => (th k).2)) ?_ M.i_pure))
      refine M.i_for (fun i => (i, (List.range i).map fun k => (th k).1, (List.range i).map fun k => (th k).2)) ws.length (fun i hi => ?_) ?_
      · simp only [zbi]
        refine M.i_t (decide_eq_true (by omega)) (M.i_bind (hth i hi).2 (M.i_grd (decide_eq_true (by simp; omega)) (M.i_grd (decide_eq_true (by simp; omega)) ?_)))
        rw [map_succ, map_succ]
        exact M.i_pure
      · simp only [zbi]
        exact M.i_f (decide_eq_false (by omega)) M.i_pure
theorem judge_b0 (th : List Int) : (M.iter (zbc th) 0).Ends (if th.all (fun n => decide (0 <= n) && decide (n <= 2001)) = true then .inr () else .inl ()) := by
  refine M.Out.ends ?_
  refine M.o_for th.length (fun k (t : Nat) => t = k /\ ∀ j, j < k -> 0 <= th.getD j 0 /\ th.getD j 0 <= 2001) ?_ ?_ ⟨rfl, fun j hj => by omega⟩
  · rintro _ k hk ⟨rfl, hp⟩
    simp only [zbc]
    refine M.o_t (decide_eq_true (by omega)) (M.o_grdD (by omega) (M.o_bindE (outside_ends _ _ _) (M.o_if (fun hb => M.o_pure ?_) (fun hb => M.o_pure ⟨rfl, fun j hj => ?_⟩))))
    · rw [if_neg]
      intro h
      have := List.all_eq_true.1 h (th.getD k 0) (by rw [getD_el _ hk]; exact List.getElem_mem hk)
      simp only [Bool.or_eq_true, Bool.and_eq_true, decide_eq_true_eq] at hb this
      omega
    · simp only [Bool.or_eq_false_iff, decide_eq_false_iff_not] at hb
      rcases Nat.lt_or_eq_of_le (Nat.le_of_lt_succ hj) with e | e
      · exact hp j e
      · subst e
        omega
  · rintro _ ⟨rfl, hp⟩
    simp only [zbc]
    refine M.o_f (decide_eq_false (by omega)) (M.o_pure ?_)
    rw [if_pos]
    rw [List.all_eq_true]
    intro x hx
    obtain ⟨j, hj, e⟩ := mem_getD hx 0
    have := hp j hj
    rw [← e]
    exact gA2 this.1 this.2
theorem judge_b3 (J : Jd dn tr sp tw dl dh fl ws ar rp ix) {th : List Int} (hl : th.length = ws.length) {i : Nat} (hi : i < fl.length) : (M.iter (za6 ws th (rp i).1 (rp i).2.1) (false, 0)).Ends (Wd rp ix th i) := by
  have e : (List.range ws.length).any (fun k => (ws.getD k 0 == (rp i).1) && decide (th.getD k 0 <= (rp i).2.1)) = Wd rp ix th i := by
    rw [Bool.eq_iff_iff, List.any_eq_true]
    rcases (J.ok i hi).w with h | h
    · rw [J.no th h]
      refine ⟨fun ⟨k, hk, hq⟩ => ?_, fun h => (by cases h)⟩
      rw [Bool.and_eq_true, beq_iff_eq] at hq
      have hk := List.mem_range.1 hk
      have := J.bd (ws.getD k 0) (by rw [getD_el ws hk]; exact List.getElem_mem hk)
      omega
    · obtain ⟨k, hk, e⟩ := mem_getD h 0
      rw [J.at th hk e.symm]
      constructor
      · rintro ⟨j, hj, hq⟩
        rw [Bool.and_eq_true, beq_iff_eq] at hq
        have hj := List.mem_range.1 hj
        rw [← J.at th hj hq.1.symm, J.at th hk e.symm] at hq
        exact hq.2
      · intro h
        exact ⟨k, List.mem_range.2 hk, by rw [e, h]; simp⟩
  rw [← e]
  refine M.Out.ends ?_
  refine M.o_for ws.length (fun k (t : Bool × Nat) => t = ((List.range k).any (fun k => (ws.getD k 0 == (rp i).1) && decide (th.getD k 0 <= (rp i).2.1)), k)) ?_ ?_ (by simp)
  · rintro k _ hk rfl
    simp only [za6]
    refine M.o_t (decide_eq_true (by omega)) (M.o_grd (gOr (by omega)) (M.o_grd (gOr (by omega)) (M.o_pure ?_)))
    dsimp only
    rw [List.range_succ, List.any_append]
    simp only [List.any_cons, List.any_nil, Bool.or_false]
  · rintro _ rfl
    simp only [za6]
    exact M.o_f (decide_eq_false (by omega)) (M.o_pure rfl)
theorem judge_same (hl : ws.length <= 15) (th : List Int) : ∃ y, (zah dn tr sp tw dl dh fl ws th).Ends y /\ (zaF dn tr sp tw dl dh fl ws th).Ends y := by
  rcases asked dn tr sp tw dl dh fl hl with ⟨e, he, h1, h2⟩ | ⟨R, U, l, h2⟩
  · refine ⟨([], [], e), ?_, ?_⟩
    · unfold zah
      exact M.i_bind h1 (M.i_t (bne_iff_ne.2 he) M.i_pure)
    · unfold zaF
      exact M.i_bind h2 (M.i_t (bne_iff_ne.2 he) M.i_pure)
  · obtain ⟨ar, rp, ix, J, hR⟩ := both_is R U.sr U.si
    by_cases hn : th.length = ws.length
    case neg =>
      have hb : ((th.length : Int) != (ws.length : Int)) = true := bne_iff_ne.2 (by omega)
      refine ⟨([], [], 2), ?_, ?_⟩
      · unfold zah
        exact M.i_bind J.post (M.i_f rfl (M.i_t hb M.i_pure))
      · unfold zaF
        exact M.i_bind h2 (M.i_f rfl (M.i_t hb M.i_pure))
    have hb : ((th.length : Int) != (ws.length : Int)) = false := by rw [hn]; simp
    have j0 := judge_b0 th
    have e0 := every_ints th (fun xqz => zbb xqz) (fun n => decide (0 <= n) && decide (n <= 2001)) fun t _ => by
      unfold zbb
      exact M.i_bind (in_ends _ _ _) M.i_pure
    by_cases hv : th.all (fun n => decide (0 <= n) && decide (n <= 2001)) = true
    case neg =>
      rw [if_neg hv] at j0
      have hv : th.all (fun n => decide (0 <= n) && decide (n <= 2001)) = false := by simpa using hv
      rw [hv] at e0
      refine ⟨([], [], 4), ?_, ?_⟩
      · unfold zah
        exact M.i_bind J.post (M.i_f rfl (M.i_f hb (M.i_bind e0 (M.i_t rfl M.i_pure))))
      · unfold zaF
        exact M.i_bind h2 (M.i_f rfl (M.i_f hb (M.i_bind j0 M.i_pure)))
    rw [if_pos hv] at j0
    have hv' : ∀ x ∈ th, 0 <= x /\ x <= 2001 := fun x hx => by
      have := List.all_eq_true.1 hv x hx
      simpa using this
    refine ⟨_, judge_ends J hn hv', ?_⟩
    unfold zaF
    have f20 := R.f20
    refine M.i_bind h2 (M.i_f rfl (M.i_f hb (M.i_bind j0 (M.i_bind (a := (Wn.ch fl.length fun i => (rp i).2.2 && !Wd rp ix th i, Wn.ch fl.length fun i => !(rp i).2.2 && Wd rp ix th i, Wn.ch fl.length fun i => !(rp i).2.2 && Wd rp ix th i, Wn.ch fl.length fun i => (rp i).2.2 && !Wd rp ix th i)) ?_ M.i_pure))))
    refine M.i_for (fun i => (i, Wn.ch i fun i => (rp i).2.2 && !Wd rp ix th i, Wn.ch i fun i => !(rp i).2.2 && Wd rp ix th i)) fl.length (fun i hi => ?_) ?_
    · simp only [zbt]
      have c1 := Wn.ch_le (m := i) (q := fun i => (rp i).2.2 && !Wd rp ix th i)
      have c2 := Wn.ch_le (m := i) (q := fun i => !(rp i).2.2 && Wd rp ix th i)
      refine M.i_t (decide_eq_true (by omega)) (M.i_grd (decide_eq_true (by omega)) (M.i_bind (hR i hi) (M.i_bind (judge_b3 J hn hi) ?_)))
      rw [Wn.ch_succ, Wn.ch_succ]
      cases h1 : (rp i).2.2 <;> cases h2 : Wd rp ix th i
      · exact M.i_f rfl (M.i_f rfl M.i_pure)
      · exact M.i_f rfl (M.i_t rfl (M.i_grd (decide_eq_true (by simp; omega)) M.i_pure))
      · exact M.i_t rfl (M.i_grd (decide_eq_true (by simp; omega)) (M.i_f rfl M.i_pure))
      · exact M.i_f rfl (M.i_f rfl M.i_pure)
    · simp only [zbt]
      exact M.i_f (decide_eq_false (by omega)) M.i_pure
theorem zdh (dn : List Int) (tr : List Span) (sp : List Int) (tw : List Town) (dl dh : Int) (fl : List Flood) (ws : List Int) (i : Int) (th : List Int) : (zcm dn tr sp tw dl dh fl ws i th).Ends true := by
  refine M.Out.ends ?_
  unfold zcm
  refine M.o_bind big_out fun x hF => ?_
  refine M.o_if (fun _ => M.o_bindE awake_ends (M.o_pure rfl)) (fun hb => ?_)
  simp only [Bool.or_eq_false_iff, decide_eq_false_iff_not] at hb
  have F := hF hb.1.1
  refine M.o_bindE (copy_ends F) ?_
  dsimp only
  refine M.o_bindE (copy_int (by omega)) (M.o_bindE (copy_int (by omega)) (M.o_bindE (river_ends F) ?_))
  dsimp only
  obtain ⟨⟨y1, y2, y3⟩, p1, p2⟩ := reports_same (dn := dn) (tr := tr) (sp := sp) (tw := tw) (dl := dl) (dh := dh) (fl := fl) (ws := ws) (by omega) i
  obtain ⟨⟨z1, z2, z3⟩, t1, t2⟩ := thresholds_same (dn := dn) (tr := tr) (sp := sp) (tw := tw) (dl := dl) (dh := dh) (fl := fl) (ws := ws) (by omega)
  obtain ⟨⟨v1, v2, v3⟩, u1, u2⟩ := judge_same (dn := dn) (tr := tr) (sp := sp) (tw := tw) (dl := dl) (dh := dh) (fl := fl) (ws := ws) (by omega) th
  refine M.o_bindE p1 ?_
  dsimp only
  refine M.o_bindE p2 ?_
  dsimp only
  refine M.o_f (by simp) (M.o_bindE t1 ?_)
  dsimp only
  refine M.o_bindE t2 ?_
  dsimp only
  refine M.o_bindE (M.i_optA (same_int _)) (M.o_bindE (M.i_optA (same_int _)) (M.o_f (by simp) (M.o_bindE u1 ?_)))
  dsimp only
  refine M.o_bindE u2 ?_
  dsimp only
  exact M.o_bindE (M.i_optA (same_int _)) (M.o_bindE (M.i_optA (same_int _)) (M.o_bindE (M.i_optA same_river) (M.o_bindE (M.i_optA (same_int _)) (M.o_bindE (M.i_optA (same_int _)) (M.o_bindE (M.i_optA awake_ends) (M.o_pure (by simp)))))))
end Go.Proofs.YtbaehghammbjdaaGreat
