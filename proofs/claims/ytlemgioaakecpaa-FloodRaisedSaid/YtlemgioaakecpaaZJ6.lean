/- Part 6 of the texts on which the proof rests. Conditions: none. -/
import Derived.Test.YtlemgioaakecpaaZJ5
set_option linter.unusedVariables false
set_option linter.unusedSimpArgs false
set_option linter.unusedSectionVars false
section
set_option maxRecDepth 100000
set_option maxHeartbeats 16000000
namespace Go.Proofs.Ytlemgioaakecpaa
open Go Go.Nm
def zam (r3 : Int) (i : Nat) : ((List Sect) × Nat) -> M (((List Sect) × Nat) ⊕ ((List Sect) × (List Sect))) := fun (l, k) =>
  M.grd (decide ((i : Int) < (l.length : Int))) <|
  bif decide ((k : Int) < (((l.getD i default).rows).length : Int)) then (
  M.grd (decide ((k : Int) < (((l.getD i default).rows).length : Int))) <|
  M.grd (decide ((-9223372036854775808 : Int) <= (((((l.getD i default).rows).getD k default).stage) + r3)) && decide ((((((l.getD i default).rows).getD k default).stage) + r3) <= (9223372036854775807 : Int))) <|
  M.pure (.inl (l.set i { (l.getD i default) with rows := (l.getD i default).rows.set k ({ ((l.getD i default).rows.getD k default) with stage := ((((l.getD i default).rows).getD k default).stage) + r3 }) }, k + 1)))
  else (
  M.pure (.inr (l, l)))
def zap (r3 : Int) (r4 : Int) : ((List Sect) × Nat) -> M (((List Sect) × Nat) ⊕ ((List Sect) × (List Sect))) := fun (l4, i) =>
  bif decide ((i : Int) < (l4.length : Int)) then (
  M.grd (decide ((i : Int) < (l4.length : Int))) <|
  M.grd (decide ((-9223372036854775808 : Int) <= (((l4.getD i default).place) + r4)) && decide ((((l4.getD i default).place) + r4) <= (9223372036854775807 : Int))) <|
  M.bind (M.iter (zam r3 i) (l4.set i ({ (l4.getD i default) with place := ((l4.getD i default).place) + r4 }), 0)) fun (l2, l3) =>
  M.pure (.inl (l3, i + 1)))
  else (
  M.pure (.inr (l4, l4)))
def zao (r3 : Int) (r4 : Int) : ((List Mrk) × Nat) -> M (((List Mrk) × Nat) ⊕ ((List Mrk) × (List Mrk))) := fun (l7, i2) =>
  bif decide ((i2 : Int) < (l7.length : Int)) then (
  M.grd (decide ((i2 : Int) < (l7.length : Int))) <|
  M.grd (decide ((-9223372036854775808 : Int) <= (((l7.getD i2 default).place) + r4)) && decide ((((l7.getD i2 default).place) + r4) <= (9223372036854775807 : Int))) <|
  M.grd (decide ((-9223372036854775808 : Int) <= (((l7.getD i2 default).lo) + r3)) && decide ((((l7.getD i2 default).lo) + r3) <= (9223372036854775807 : Int))) <|
  M.grd (decide ((-9223372036854775808 : Int) <= (((l7.getD i2 default).hi) + r3)) && decide ((((l7.getD i2 default).hi) + r3) <= (9223372036854775807 : Int))) <|
  M.pure (.inl ((l7.set i2 ({ (l7.getD i2 default) with place := ((l7.getD i2 default).place) + r4 })).set i2 ({ ((l7.set i2 ({ (l7.getD i2 default) with place := ((l7.getD i2 default).place) + r4 })).getD i2 default) with lo := ((l7.getD i2 default).lo) + r3, hi := ((l7.getD i2 default).hi) + r3 }), i2 + 1)))
  else (
  M.pure (.inr (l7, l7)))
def za9 (order : List UInt8) : (Int × Int × (List Mrk) × Int) -> M ((Int × Int × (List Mrk) × Int) ⊕ ((List Mrk) × (List Mrk) × Int × Int)) := fun (s, s2, aa, i3) =>
  bif decide (0 < i3) then (
  M.grd (decide ((-9223372036854775808 : Int) <= (i3 + 1)) && decide ((i3 + 1) <= (9223372036854775807 : Int))) <|
  M.bind (zad order s s2 (i3 + 1)) fun (r5, ab, ac) =>
  M.grd (decide ((0 : Int) <= r5) && decide (r5 < (aa.length : Int))) <|
  M.grd (decide ((0 : Int) <= i3) && decide (i3 < (aa.length : Int))) <|
  M.grd (decide ((0 : Int) <= r5) && decide (r5 < ((aa.set (Int.toNat i3) (aa.getD (Int.toNat r5) default)).length : Int))) <|
  M.grd (decide ((-9223372036854775808 : Int) <= (i3 - 1)) && decide ((i3 - 1) <= (9223372036854775807 : Int))) <|
  M.pure (.inl (ab, ac, (aa.set (Int.toNat i3) (aa.getD (Int.toNat r5) default)).set (Int.toNat r5) (aa.getD (Int.toNat i3) default), i3 - 1)))
  else (
  M.pure (.inr (aa, aa, s, s2)))
def zax (aa : List Rch) (ab : List Span) (i4 : Nat) : (Bool × Nat) -> M ((Bool × Nat) ⊕ Bool) := fun (bounded, s5) =>
  bif decide ((s5 : Int) < (([((aa.getD i4 default).up : Int), ((aa.getD i4 default).down : Int)]).length : Int)) then (
  M.grd (decide ((s5 : Int) < (([((aa.getD i4 default).up : Int), ((aa.getD i4 default).down : Int)]).length : Int))) <|
  M.grd ((!bounded || (decide ((0 : Int) <= (([((aa.getD i4 default).up : Int), ((aa.getD i4 default).down : Int)]).getD s5 0)) && decide ((([((aa.getD i4 default).up : Int), ((aa.getD i4 default).down : Int)]).getD s5 0) < (ab.length : Int))))) <|
  M.grd ((!(bounded && (decide (0 < ((ab.getD (Int.toNat (([((aa.getD i4 default).up : Int), ((aa.getD i4 default).down : Int)]).getD s5 0)) default).lo)))) || (decide ((0 : Int) <= (([((aa.getD i4 default).up : Int), ((aa.getD i4 default).down : Int)]).getD s5 0)) && decide ((([((aa.getD i4 default).up : Int), ((aa.getD i4 default).down : Int)]).getD s5 0) < (ab.length : Int))))) <|
  M.pure (.inl (((bounded && (decide (0 < ((ab.getD (Int.toNat (([((aa.getD i4 default).up : Int), ((aa.getD i4 default).down : Int)]).getD s5 0)) default).lo)))) && (decide (((ab.getD (Int.toNat (([((aa.getD i4 default).up : Int), ((aa.getD i4 default).down : Int)]).getD s5 0)) default).hi) < 2000))), s5 + 1)))
  else (
  M.pure (.inr bounded))
def zbc (ab : List Sect) (ac : List Mrk) (aa : List Rch) (ae : List Rch) (l6 : List Sect) (ag : List Mrk) (ai : List Int) (aj : List Int) (ak : List Span) : Nat -> M (Nat ⊕ (Unit ⊕ Unit)) := fun i4 =>
  bif decide ((i4 : Int) < (aa.length : Int)) then (
  M.grd (decide ((i4 : Int) < (aa.length : Int))) <|
  M.bind (M.iter (zax aa ak i4) (true, 0)) fun bounded2 =>
  bif !bounded2 then (
  M.pure (.inl (i4 + 1)))
  else (
  M.bind (zav ab ac aa ai (i4 : Int)) fun (am, ao, ap) =>
  M.bind (zav l6 ag ae aj (i4 : Int)) fun (aq, au, av) =>
  bif (((ap != 0) || (av != 0)) || (!(decide ((⟨(am : Int), (ao : Int)⟩ : Span) = (⟨(aq : Int), (au : Int)⟩ : Span))))) then (
  M.pure (.inr (.inl ())))
  else (
  M.pure (.inl (i4 + 1)))))
  else (
  M.pure (.inr (.inr ())))
def zcd (numbers : List UInt8) (order : List UInt8) (rise : Int) (far : Int) : M Bool :=
  M.bind (zbg numbers) fun (r1, r2) =>
  M.bind (zbp numbers r1 r2 8 true) fun (aa, ab, ac, ay, az, q1, q2) =>
  M.bind (zbg order) fun (am, ao) =>
  M.bind (zaP rise 500) fun r3 =>
  M.bind (zaP far 1000) fun r4 =>
  M.bind (zbw aa ab ac) fun (r0, ap, ag) =>
  M.bind (M.iter (zap r3 r4) (r0, 0)) fun (l5, l6) =>
  M.bind (M.iter (zao r3 r4) (ap, 0)) fun (l8, l9) =>
  M.bind (M.iter (za9 order) (am, ao, l9, (l9.length : Int) - 1)) fun (aA, ai, s3, s4) =>
  M.bind (zaF aa ab ac) fun (ae, aq) =>
  M.bind (zaF l6 ai ag) fun (aj, au) =>
  bif (((aq != 0) || (au != 0)) || ((ae.length : Int) != (aj.length : Int))) then (
  M.pure false)
  else (
  bif decide ((ae.length : Int) < (ab.length : Int)) then (
  M.bind (zbz) fun r6 =>
  M.pure r6)
  else (
  M.bind (zay aa ab ac ae) fun (ak, av) =>
  M.bind (zay l6 ai ag aj) fun (aw, ax) =>
  bif ((((av != 0) || (ax != 0)) || ((ak.length : Int) != (aa.length : Int))) || ((aw.length : Int) != (ak.length : Int))) then (
  M.pure false)
  else (
  M.bind (M.iter (zbc aa ab ac ag l6 ai ae aj ak) 0) fun x_ => match x_ with
  | (.inl (_ : Unit)) => (
  M.pure false)
  | (.inr (_ : Unit)) => (
  M.bind (zbz) fun r7 =>
  M.pure r7))))
theorem zc1 {R : List Chunk} {bP : Cells} {bB : Value} {bQ : Cells} {aE : Value} (numbers : List UInt8) (order : List UInt8) (rise : Int) (far : Int) (bR : Reads R bP) (bS : Sl bP bB numbers) (bT : Reads R bQ) (bU : Sl bQ aE order) {r : Bool} (hM : (zcd numbers order rise far).Ends r) (w : World) (H : St w w [] R) : Ret Try.prog 3 #[bB, aE, I rise, I far] w fun v w' => ∃ (y0 : Bool), y0 = r /\ v = B y0 /\ St w w' [] R := by
 refine ret_of_W Try.func3 rfl rfl rfl ?_
 refine W.seq ?_
 refine W.region rfl ?_
 refine zA (B false) rfl ?_
 refine s_nil ?_
 refine W.seq ?_
 refine W.region rfl ?_
 refine zM bB rfl ?_
 obtain ⟨dY, cg, hM⟩ := M.e_bind hM
 refine s_call cf6 [bB] rfl (zcF numbers (bR.app _) bS cg _ (H.gt 0)) ?_
 rintro vq dZ ⟨r1, r2, cj, ck, hvq, au⟩
 subst ck
 subst vq
 try dsimp only at hM
 replace H := H.bk au
 clear au
 obtain ⟨d4, cn, hM⟩ := M.e_bind hM
 refine s_call cf5 [Pq cj, I 8, B true] rfl (zc4 numbers r1 r2 8 true (bR.app _) bS cn _ (H.gt 0)) ?_
 rintro vq d5 ⟨aJ, ay, ab, d6, d7, q1, q2, ag, aF, aG, ai, ae, bh, bi, co, hvq, au, bj⟩
 subst co
 subst vq
 try dsimp only at hM
 replace H := H.bk au
 clear au
 refine zM (.tuple #[.agg #[ag, ai, ae], .agg #[bh, bi]]) rfl ?_
 refine zX [.agg #[ag, ai, ae], .agg #[bh, bi]] (.agg #[ag, ai, ae]) rfl rfl ?_
 refine zX [.agg #[ag, ai, ae], .agg #[bh, bi]] (.agg #[bh, bi]) rfl rfl ?_
 refine t_alloc (cs := [.slice none 0 0, .slice none 0 0, .slice none 0 0]) H Al27 rfl ?_
 intro ap d8 H
 refine t_alloc (cs := [.slice none 0 0, .slice none 0 0]) H Al30 rfl ?_
 intro d9 ef H
 refine t_sw 1 0 [ag, ai, ae] (.agg #[ag, ai, ae]) H rfl rfl Sz27 rfl rfl rfl (by simp only [List.all_cons, List.all_nil, Bool.true_and, Bool.and_true, Sl.oc (rowSl rfl (H.get (k := 2) rfl) (roLe _ (H.get (k := 3) rfl)) bj), Sl.oc (H.os 4), Sl.oc (H.os 5)]; try rfl) ?_
 intro eg H
 refine t_sw 0 0 [bh, bi] (.agg #[bh, bi]) H rfl rfl Sz30 rfl rfl rfl (by simp only [List.all_cons, List.all_nil, Bool.true_and, Bool.and_true, Sl.oc (H.os 6), Sl.oc (H.os 7)]; try rfl) ?_
 intro ei H
 refine s_nil ?_
 replace H := H.pk [1, 2, 3, 4, 5]
 refine W.seq ?_
 refine W.region rfl ?_
 refine zM aE rfl ?_
 obtain ⟨ej, cp, hM⟩ := M.e_bind hM
 refine s_call cf6 [aE] rfl (zcF order (bT.app _) bU cp _ (H.gt 5)) ?_
 rintro vq ek ⟨a8, ba, aB, cq, hvq, au⟩
 subst cq
 subst vq
 try dsimp only at hM
 replace H := H.bk au
 clear au
 refine zA (Pq aB) rfl ?_
 refine s_nil ?_
 refine W.seq ?_
 refine W.region rfl ?_
 refine zM (I rise) rfl ?_
 obtain ⟨em, cr, hM⟩ := M.e_bind hM
 refine s_call cf7 [I rise, I 500] rfl (zcw rise 500 cr _ (H.gt 6)) ?_
 rintro vq eo ⟨r3, ct, hvq, au⟩
 subst ct
 subst vq
 try dsimp only at hM
 replace H := H.bk au
 clear au
 refine zM (I far) rfl ?_
 obtain ⟨ep, cu, hM⟩ := M.e_bind hM
 refine s_call cf7 [I far, I 1000] rfl (zcw far 1000 cu _ (H.gt 6)) ?_
 rintro vq eq ⟨r4, cv, hvq, au⟩
 subst cv
 subst vq
 try dsimp only at hM
 replace H := H.bk au
 clear au
 refine zA (I r3) rfl ?_
 refine zA (I r4) rfl ?_
 refine s_nil ?_
 refine W.seq ?_
 refine W.region rfl ?_
 refine s_val (x_ld (p := Pq ap) (v := .agg #[ag, ai, ae]) rfl (ldb_ag (ds := [ag, ai, ae]) Ag27 Sz27 (H.bl 1) rfl rfl)) ?_
 obtain ⟨er, cw, hM⟩ := M.e_bind hM
 refine s_call cf8 [.agg #[ag, ai, ae]] rfl (zdp aJ ay ab (Reads.sup (rdo 2) (Reads.of (k := 3) rfl roLe)) (rowSl rfl (H.get (k := 2) rfl) (roLe _ (H.get (k := 3) rfl)) bj) (rdo 4) (H.os 4) (rdo 5) (H.os 5) cw _ (H.gt 6)) ?_
 rintro vq ew ⟨r0, bC, aC, bE, cx, cy, aY, am, cz, hvq, au, cA⟩
 subst cz
 subst vq
 try dsimp only at hM
 replace H := H.bk au
 clear au
 refine t_alloc (cs := [.slice none 0 0, .slice none 0 0, .slice none 0 0]) H Al27 rfl ?_
 intro aj ey H
 refine t_sw 0 0 [bE, aY, am] (.agg #[bE, aY, am]) H rfl rfl Sz27 rfl rfl rfl (by simp only [List.all_cons, List.all_nil, Bool.true_and, Bool.and_true, Sl.oc (deSl (H.get (k := 1) rfl)), Sl.oc (H.os 3), Sl.oc (H.os 4)]; try rfl) ?_
 intro ez H
 refine s_nil ?_
 refine W.seq ?_
 refine W.seq ?_
 refine W.region rfl ?_
 refine zA (I 0) rfl ?_
 refine s_nil ?_
 refine W.block ?_
 obtain ⟨cB, bF, cC⟩ := M.e_bind hM
 obtain ⟨bp, bF⟩ := M.e_iter bF
 refine W.loop (fun m σ W => ∃ (l4 : List Sect) (i : Nat) (ak : Value) (aH : List (Raw 1)) (B_l4 : Base) (ρ : Env), σ = upds ρ [(9, Pq ap), (11, Pq aB), (12, I r3), (13, I r4), (14, Pq aj), (15, I (i : Int))] /\ M.iterN (zap r3 r4) m (l4, i) = some cB /\ St w W [cBlk aj [ak, aY, am] 27, cDO 39 41 ak aH l4, cRo B_l4, cOwn (α := Mrk) 46 aY bC, cOwn (α := Rch) 56 am aC, cBlk aB [aE, I a8, I ba] 68, cBlk ap [ag, ai, ae] 27, cOwn (α := Raw 1) 39 ag aF, cRo aG, cOwn (α := Mrk) 46 ai ay, cOwn (α := Rch) 56 ae ab] R /\ aH.length = l4.length) ?_ ?_
 ·exact ⟨_, r0, 0, bE, cx, cy, _, upds_of _ _ ⟨rfl, rfl, rfl, rfl, rfl, rfl, trivial⟩, bF, H, cA⟩
 rintro eA σ eB ⟨l4, i, ak, aH, B_l4, ρ, rfl, bV, H, eC⟩
 obtain ⟨cD, cE, eD, hM, bW⟩ := M.e_iterN bV
 simp only [zap] at hM
 clear bV
 refine W.seq ?_
 refine W.seq ?_
 refine W.region rfl ?_
 refine zM (I (i : Int)) rfl ?_
 refine s_val (x_fa (a := Pq aj) (v := Pq aj) rfl (fa_blk (o := 0) Fd27_0 Sz23)) ?_
 refine s_val (x_ld (p := Pq aj) (v := ak) rfl (ldb_sc Sc23 (H.bl 0) rfl)) ?_
 have eE := ((deSl (H.get (k := 1) rfl))).len_le
 refine s_val (x_lenS T23.und rfl (deSl (H.get (k := 1) rfl))) ?_
 refine zC (i : Int) (l4.length : Int) (decide ((i : Int) < (l4.length : Int))) rfl rfl rfl ?_
 refine s_nil ?_
 refine W.cond (decide ((i : Int) < (l4.length : Int))) rfl (fun bq => ?_) (fun bq => ?_)
 ·replace hM := M.e_t hM bq
  simp only [qy1, qy2, qy3, qy4, qy5, qy6, ne_eq, qy7] at bq
  refine W.skip ?_
  refine W.seq ?_
  refine W.block ?_
  refine W.seq ?_
  refine W.region rfl ?_
  refine s_val (x_fa (a := Pq aj) (v := Pq aj) rfl (fa_blk (o := 0) Fd27_0 Sz23)) ?_
  refine s_val (x_ld (p := Pq aj) (v := ak) rfl (ldb_sc Sc23 (H.bl 0) rfl)) ?_
  refine zM (I (i : Int)) rfl ?_
  obtain ⟨cF, hM⟩ := M.e_grd hM
  simp only [Bool.and_eq_true, decide_eq_true_eq] at cF
  refine s_val (x_ix (a := ak) (b := I (i : Int)) (v := vat ak 2 (Int.toNat (i : Int))) rfl rfl (Sl.ix (α := Sect) T23.und T23.size (deSl (H.get (k := 1) rfl)) (by omega) (by omega))) ?_
  refine s_val (x_fa (a := vat ak 2 (Int.toNat (i : Int))) (v := fat (vat ak 2 (Int.toNat (i : Int))) 0) rfl (fa_pl Fd39_0 Sz3 (Sl.pl (i := (i : Int)) (deSl (H.get (k := 1) rfl)) (by omega) (by omega)))) ?_
  refine s_val (x_ld (p := fat (vat ak 2 (Int.toNat (i : Int))) 0) (v := I ((l4.getD i default).place)) rfl (ld_sc Sc3 (At.mono (Sect_at0 (deSl (H.get (k := 1) rfl)) (i := (i : Int)) (by omega) (by omega)) (deLe _ (H.get (k := 1) rfl))))) ?_
  refine zM (I r4) rfl ?_
  obtain ⟨cG, hM⟩ := M.e_grd hM
  simp only [Bool.and_eq_true, decide_eq_true_eq] at cG
  refine zR ((l4.getD i default).place) r4 (((l4.getD i default).place) + r4) rfl rfl rfl (by omega) ?_
  refine s_val (x_ix (a := ak) (b := I (i : Int)) (v := vat ak 2 (Int.toNat (i : Int))) rfl rfl (Sl.ix (α := Sect) T23.und T23.size (deSl (H.get (k := 1) rfl)) (by omega) (by omega))) ?_
  refine s_val (x_fa (a := vat ak 2 (Int.toNat (i : Int))) (v := fat (vat ak 2 (Int.toNat (i : Int))) 0) rfl (fa_pl Fd39_0 Sz3 (Sl.pl (i := (i : Int)) (deSl (H.get (k := 1) rfl)) (by omega) (by omega)))) ?_
  refine t_dofs (k := 1) (i := (i : Int)) (dl := l4) (off := 0) (o' := { (l4.getD i default) with place := ((l4.getD i default).place) + r4 }) H rfl Sz3 (by omega) (by omega) rfl rfl (by decide) rfl rfl rfl ?_
  intro eF cH cI H
  replace H := H.nf
  refine s_nil ?_
  refine W.seq ?_
  refine W.region rfl ?_
  refine zA (I 0) rfl ?_
  refine s_nil ?_
  refine W.block ?_
  obtain ⟨cJ, bG, cK⟩ := M.e_bind hM
  obtain ⟨bp, bG⟩ := M.e_iter bG
  refine W.loop (fun m σ W => ∃ (l : List Sect) (k : Nat) (aM : Value) (bc : List (Raw 1)) (B_l : Base) (ρ : Env), σ = upds ρ [(9, Pq ap), (11, Pq aB), (12, I r3), (13, I r4), (14, Pq aj), (15, I (i : Int)), (16, I (k : Int))] /\ M.iterN (zam r3 i) m (l, k) = some cJ /\ St w W [cBlk aj [aM, aY, am] 27, cDO 39 41 aM bc l, cRo B_l, cOwn (α := Mrk) 46 aY bC, cOwn (α := Rch) 56 am aC, cBlk aB [aE, I a8, I ba] 68, cBlk ap [ag, ai, ae] 27, cOwn (α := Raw 1) 39 ag aF, cRo aG, cOwn (α := Mrk) 46 ai ay, cOwn (α := Rch) 56 ae ab] R /\ bc.length = l.length) ?_ ?_
  ·exact ⟨_, l4.set i ({ (l4.getD i default) with place := ((l4.getD i default).place) + r4 }), 0, ak, cH, B_l4, _, upds_of _ _ ⟨rfl, rfl, rfl, rfl, rfl, rfl, rfl, trivial⟩, bG, H, cI⟩
  rintro eG σ eH ⟨l, k, aM, bc, B_l, ρ, rfl, bX, H, bY⟩
  obtain ⟨cL, cM, eI, hM, bZ⟩ := M.e_iterN bX
  simp only [zam] at hM
  clear bX
  refine W.seq ?_
  refine W.seq ?_
  refine W.region rfl ?_
  refine zM (I (k : Int)) rfl ?_
  refine s_val (x_fa (a := Pq aj) (v := Pq aj) rfl (fa_blk (o := 0) Fd27_0 Sz23)) ?_
  refine s_val (x_ld (p := Pq aj) (v := aM) rfl (ldb_sc Sc23 (H.bl 0) rfl)) ?_
  refine zM (I (i : Int)) rfl ?_
  obtain ⟨cN, hM⟩ := M.e_grd hM
  simp only [Bool.and_eq_true, decide_eq_true_eq] at cN
  refine s_val (x_ix (a := aM) (b := I (i : Int)) (v := vat aM 2 (Int.toNat (i : Int))) rfl rfl (Sl.ix (α := Sect) T23.und T23.size (deSl (H.get (k := 1) rfl)) (by omega) (by omega))) ?_
  refine s_val (x_fa (a := vat aM 2 (Int.toNat (i : Int))) (v := fat (vat aM 2 (Int.toNat (i : Int))) 1) rfl (fa_pl Fd39_1 Sz37 (Sl.pl (i := (i : Int)) (deSl (H.get (k := 1) rfl)) (by omega) (by omega)))) ?_
  obtain ⟨b3, cO, br⟩ := Sect_at1 (deSl (H.get (k := 1) rfl)) (i := (i : Int)) (by omega) (by omega)
  replace br : Sl _ b3 (l.getD i default).rows := br
  have eJ := br.len_le
  refine s_val (x_ld (p := fat (vat aM 2 (Int.toNat (i : Int))) 1) (v := b3) rfl (ld_sc Sc37 (At.mono (cO) (deLe _ (H.get (k := 1) rfl))))) ?_
  have eK := (br).len_le
  refine s_val (x_lenS T37.und rfl br) ?_
  refine zC (k : Int) (((l.getD i default).rows).length : Int) (decide ((k : Int) < (((l.getD i default).rows).length : Int))) rfl rfl rfl ?_
  refine s_nil ?_
  refine W.cond (decide ((k : Int) < (((l.getD i default).rows).length : Int))) rfl (fun bt => ?_) (fun bt => ?_)
  ·replace hM := M.e_t hM bt
   simp only [qy1, qy2, qy3, qy4, qy5, qy6, ne_eq, qy7] at bt
   refine W.skip ?_
   refine W.seq ?_
   refine W.block ?_
   refine W.region rfl ?_
   refine s_val (x_fa (a := Pq aj) (v := Pq aj) rfl (fa_blk (o := 0) Fd27_0 Sz23)) ?_
   refine s_val (x_ld (p := Pq aj) (v := aM) rfl (ldb_sc Sc23 (H.bl 0) rfl)) ?_
   refine zM (I (i : Int)) rfl ?_
   refine s_val (x_ix (a := aM) (b := I (i : Int)) (v := vat aM 2 (Int.toNat (i : Int))) rfl rfl (Sl.ix (α := Sect) T23.und T23.size (deSl (H.get (k := 1) rfl)) (by omega) (by omega))) ?_
   refine s_val (x_fa (a := vat aM 2 (Int.toNat (i : Int))) (v := fat (vat aM 2 (Int.toNat (i : Int))) 1) rfl (fa_pl Fd39_1 Sz37 (Sl.pl (i := (i : Int)) (deSl (H.get (k := 1) rfl)) (by omega) (by omega)))) ?_
   obtain ⟨aX, b4, bb⟩ := Sect_at1 (deSl (H.get (k := 1) rfl)) (i := (i : Int)) (by omega) (by omega)
   replace bb : Sl _ aX (l.getD i default).rows := bb
   have eL := bb.len_le
   refine s_val (x_ld (p := fat (vat aM 2 (Int.toNat (i : Int))) 1) (v := aX) rfl (ld_sc Sc37 (At.mono (b4) (deLe _ (H.get (k := 1) rfl))))) ?_
   refine zM (I (k : Int)) rfl ?_
   obtain ⟨cP, hM⟩ := M.e_grd hM
   simp only [Bool.and_eq_true, decide_eq_true_eq] at cP
   refine s_val (x_ix (a := aX) (b := I (k : Int)) (v := vat aX 2 (Int.toNat (k : Int))) rfl rfl (Sl.ix (α := FRow) T37.und T37.size bb (by omega) (by omega))) ?_
   refine s_val (x_fa (a := vat aX 2 (Int.toNat (k : Int))) (v := fat (vat aX 2 (Int.toNat (k : Int))) 0) rfl (fa_pl Fd41_0 Sz3 (Sl.pl (i := (k : Int)) bb (by omega) (by omega)))) ?_
   refine s_val (x_ld (p := fat (vat aX 2 (Int.toNat (k : Int))) 0) (v := I ((((l.getD i default).rows).getD k default).stage)) rfl (ld_sc Sc3 (At.mono (FRow_at0 bb (i := (k : Int)) (by omega) (by omega)) (deLe _ (H.get (k := 1) rfl))))) ?_
   refine zM (I r3) rfl ?_
   obtain ⟨cQ, hM⟩ := M.e_grd hM
   simp only [Bool.and_eq_true, decide_eq_true_eq] at cQ
   refine zR ((((l.getD i default).rows).getD k default).stage) r3 (((((l.getD i default).rows).getD k default).stage) + r3) rfl rfl rfl (by omega) ?_
   refine s_val (x_ix (a := aX) (b := I (k : Int)) (v := vat aX 2 (Int.toNat (k : Int))) rfl rfl (Sl.ix (α := FRow) T37.und T37.size bb (by omega) (by omega))) ?_
   refine s_val (x_fa (a := vat aX 2 (Int.toNat (k : Int))) (v := fat (vat aX 2 (Int.toNat (k : Int))) 0) rfl (fa_pl Fd41_0 Sz3 (Sl.pl (i := (k : Int)) bb (by omega) (by omega)))) ?_
   refine t_dost (k := 1) (off := 0) (i := (i : Int)) (j := (k : Int)) (dl := l) (dl' := l.set i { (l.getD i default) with rows := (l.getD i default).rows.set k ({ ((l.getD i default).rows.getD k default) with stage := ((((l.getD i default).rows).getD k default).stage) + r3 }) }) (L' := [cBlk aj [aM, aY, am] 27, cDO 39 41 aM bc (l.set i { (l.getD i default) with rows := (l.getD i default).rows.set k ({ ((l.getD i default).rows.getD k default) with stage := ((((l.getD i default).rows).getD k default).stage) + r3 }) }), cRo B_l, cOwn (α := Mrk) 46 aY bC, cOwn (α := Rch) 56 am aC, cBlk aB [aE, I a8, I ba] 68, cBlk ap [ag, ai, ae] 27, cOwn (α := Raw 1) 39 ag aF, cRo aG, cOwn (α := Mrk) 46 ai ay, cOwn (α := Rch) 56 ae ab]) H rfl Sz3 (by omega) (by omega) (deLe _ (H.get (k := 1) rfl)) b4 (by omega) (by first | omega | (simp only [Int.toNat_natCast]; omega)) ({ ((l.getD i default).rows.getD k default) with stage := ((((l.getD i default).rows).getD k default).stage) + r3 }) rfl rfl (by decide) rfl rfl rfl rfl rfl ?_
   intro eM H
   have cR : (bc).length = (l.set i { (l.getD i default) with rows := (l.getD i default).rows.set k ({ ((l.getD i default).rows.getD k default) with stage := ((((l.getD i default).rows).getD k default).stage) + r3 }) }).length := bY.trans (List.length_set).symm
   refine s_nil ?_
   refine W.region rfl ?_
   refine zM (I (k : Int)) rfl ?_
   refine zR (k : Int) 1 ((k : Int) + 1) rfl rfl rfl (by omega) ?_
   refine zA (I ((k : Int) + 1)) rfl ?_
   refine s_nil ?_
   exact ⟨cL, cM, l.set i { (l.getD i default) with rows := (l.getD i default).rows.set k ({ ((l.getD i default).rows.getD k default) with stage := ((((l.getD i default).rows).getD k default).stage) + r3 }) }, k + 1, aM, bc, B_l, _, upds_of _ _ ⟨rfl, rfl, rfl, rfl, rfl, rfl, rfl, trivial⟩, M.e_inl hM bZ, H, cR⟩
  replace hM := M.e_f hM bt
  simp only [qy1, qy2, qy3, qy4, qy5, qy6, ne_eq, qy7] at bt
  refine W.exit ?_
  have cS := M.e_inr hM bZ
  subst cS
  replace hM := cK
  try dsimp only at hM
  refine W.region rfl ?_
  refine zM (I (i : Int)) rfl ?_
  refine zR (i : Int) 1 ((i : Int) + 1) rfl rfl rfl (by omega) ?_
  refine zA (I ((i : Int) + 1)) rfl ?_
  refine s_nil ?_
  exact ⟨cD, cE, l, i + 1, aM, bc, B_l, _, upds_of _ _ ⟨rfl, rfl, rfl, rfl, rfl, rfl, trivial⟩, M.e_inl hM bW, H, bY⟩
 replace hM := M.e_f hM bq
 simp only [qy1, qy2, qy3, qy4, qy5, qy6, ne_eq, qy7] at bq
 refine W.exit ?_
 have cT := M.e_inr hM bW
 subst cT
 replace hM := cC
 try dsimp only at hM
 refine W.seq ?_
 refine W.seq ?_
 refine W.region rfl ?_
 refine zA (I 0) rfl ?_
 refine s_nil ?_
 refine W.block ?_
 obtain ⟨cU, bH, cV⟩ := M.e_bind hM
 obtain ⟨bp, bH⟩ := M.e_iter bH
 refine W.loop (fun m σ W => ∃ (l7 : List Mrk) (i2 : Nat) (av : Value) (ρ : Env), σ = upds ρ [(9, Pq ap), (11, Pq aB), (12, I r3), (13, I r4), (14, Pq aj), (17, I (i2 : Int))] /\ M.iterN (zao r3 r4) m (l7, i2) = some cU /\ St w W [cBlk aj [ak, av, am] 27, cDO 39 41 ak aH l4, cRo B_l4, cOwn (α := Mrk) 46 av l7, cOwn (α := Rch) 56 am aC, cBlk aB [aE, I a8, I ba] 68, cBlk ap [ag, ai, ae] 27, cOwn (α := Raw 1) 39 ag aF, cRo aG, cOwn (α := Mrk) 46 ai ay, cOwn (α := Rch) 56 ae ab] R) ?_ ?_
 ·exact ⟨_, bC, 0, aY, _, upds_of _ _ ⟨rfl, rfl, rfl, rfl, rfl, rfl, trivial⟩, bH, H⟩
 rintro eN σ eO ⟨l7, i2, av, ρ, rfl, b5, H⟩
 obtain ⟨cW, cX, eP, hM, b6⟩ := M.e_iterN b5
 simp only [zao] at hM
 clear b5
 refine W.seq ?_
 refine W.seq ?_
 refine W.region rfl ?_
 refine zM (I (i2 : Int)) rfl ?_
 refine s_val (x_fa (a := Pq aj) (v := Oq aj 1) rfl (fa_blk (o := 0) Fd27_1 Sz24)) ?_
 refine s_val (x_ld (p := Oq aj 1) (v := av) rfl (ldb_sc Sc24 (H.bl 0) rfl)) ?_
 have eQ := ((H.os 3)).len_le
 refine s_val (x_lenS T24.und rfl (H.os 3)) ?_
 refine zC (i2 : Int) (l7.length : Int) (decide ((i2 : Int) < (l7.length : Int))) rfl rfl rfl ?_
 refine s_nil ?_
 refine W.cond (decide ((i2 : Int) < (l7.length : Int))) rfl (fun bu => ?_) (fun bu => ?_)
 ·replace hM := M.e_t hM bu
  simp only [qy1, qy2, qy3, qy4, qy5, qy6, ne_eq, qy7] at bu
  refine W.skip ?_
  refine W.seq ?_
  refine W.block ?_
  refine W.seq ?_
  refine W.region rfl ?_
  refine s_val (x_fa (a := Pq aj) (v := Oq aj 1) rfl (fa_blk (o := 0) Fd27_1 Sz24)) ?_
  refine s_val (x_ld (p := Oq aj 1) (v := av) rfl (ldb_sc Sc24 (H.bl 0) rfl)) ?_
  refine zM (I (i2 : Int)) rfl ?_
  obtain ⟨cY, hM⟩ := M.e_grd hM
  simp only [Bool.and_eq_true, decide_eq_true_eq] at cY
  refine s_val (x_ix (a := av) (b := I (i2 : Int)) (v := vat av 3 (Int.toNat (i2 : Int))) rfl rfl (Sl.ix (α := Mrk) T24.und T24.size (H.os 3) (by omega) (by omega))) ?_
  refine zA (vat av 3 (Int.toNat (i2 : Int))) rfl ?_
  refine s_nil ?_
  refine W.drawTU (fun W => St w W [cBlk aj [ak, av, am] 27, cDO 39 41 ak aH l4, cRo B_l4, cOwn (α := Mrk) 46 av l7, cOwn (α := Rch) 56 am aC, cBlk aB [aE, I a8, I ba] 68, cBlk ap [ag, ai, ae] 27, cOwn (α := Raw 1) 39 ag aF, cRo aG, cOwn (α := Mrk) 46 ai ay, cOwn (α := Rch) 56 ae ab] R) (.q 0 (.q 1 (.q 2 (.q 3 (.q 4 (.q 5 (.q 6 (.q 7 (.q 8 (.q 9 (.q 10 (.q 11 (.q 12 (.q 13 (.q 14 (.q 15 (.q 16 (.q 17 (.q 18 (.q 19 (.q 20 (.q 21 (.q 22 (.q 23 (.q 24 .nil))))))))))))))))))))))))) 25 [25, 26, 27, 28] [1, 13, 14, 20, 21, 22] mixed (by decide +kernel) rfl ?_
  intro eR az
  replace H := H.ext az
  clear az
  refine ⟨(H.pk [0, 1, 2, 3, 4, 5, 6, 7, 8, 9, 10]), ?_⟩
  refine tu_q rfl rfl (fun w' H => x_mv (v := vat av 3 (Int.toNat (i2 : Int))) rfl) ?_
  refine tu_f rfl (fun w' => x_mv (v := vat av 3 (Int.toNat (i2 : Int))) rfl) ?_
  refine tu_q rfl rfl (fun w' H => x_mv (v := vat av 3 (Int.toNat (i2 : Int))) rfl) ?_
  refine tu_q rfl rfl (fun w' H => x_ncE (p := vat av 3 (Int.toNat (i2 : Int))) rfl (Sl.pl (i := (i2 : Int)) (H.os 3) (by omega) (by omega))) ?_
  refine tu_q rfl rfl (fun w' H => x_fa (a := vat av 3 (Int.toNat (i2 : Int))) (v := fat (vat av 3 (Int.toNat (i2 : Int))) 0) rfl (fa_pl Fd46_0 Sz3 (Sl.pl (i := (i2 : Int)) (H.os 3) (by omega) (by omega)))) ?_
  refine tu_q rfl rfl (fun w' H => x_ld (p := fat (vat av 3 (Int.toNat (i2 : Int))) 0) (v := I ((l7.getD i2 default).place)) rfl (ld_sc Sc3 (At.mono (Mrk_at0 (H.os 3) (i := (i2 : Int)) (by omega) (by omega)) (H.ol 3)))) ?_
  refine tu_q rfl rfl (fun w' H => x_mv (v := I r4) rfl) ?_
  obtain ⟨cZ, hM⟩ := M.e_grd hM
  simp only [Bool.and_eq_true, decide_eq_true_eq] at cZ
  refine tu_q rfl rfl (fun w' H => x_ari (a := (l7.getD i2 default).place) (b := r4) (r := ((l7.getD i2 default).place) + r4) rfl rfl rfl (by omega)) ?_
  refine tu_q rfl rfl (fun w' H => x_mv (v := vat av 3 (Int.toNat (i2 : Int))) rfl) ?_
  refine tu_q rfl rfl (fun w' H => x_ncE (p := vat av 3 (Int.toNat (i2 : Int))) rfl (Sl.pl (i := (i2 : Int)) (H.os 3) (by omega) (by omega))) ?_
  refine tu_q rfl rfl (fun w' H => x_fa (a := vat av 3 (Int.toNat (i2 : Int))) (v := fat (vat av 3 (Int.toNat (i2 : Int))) 1) rfl (fa_pl Fd46_1 Sz44 (Sl.pl (i := (i2 : Int)) (H.os 3) (by omega) (by omega)))) ?_
  refine tu_q rfl rfl (fun w' H => x_fa (a := fat (vat av 3 (Int.toNat (i2 : Int))) 1) (v := fat (vat av 3 (Int.toNat (i2 : Int))) 1) rfl (fa_pl2 (a := 1) (c := 1) Fd44_0 Sz3 (Sl.pl (i := (i2 : Int)) (H.os 3) (by omega) (by omega)) rfl)) ?_
  refine tu_q rfl rfl (fun w' H => x_ld (p := fat (vat av 3 (Int.toNat (i2 : Int))) 1) (v := I ((l7.getD i2 default).lo)) rfl (ld_sc Sc3 (At.mono (Mrk_at1 (H.os 3) (i := (i2 : Int)) (by omega) (by omega)) (H.ol 3)))) ?_
  refine tu_f rfl (fun w' => x_mv (v := I r3) rfl) ?_
  obtain ⟨c8, hM⟩ := M.e_grd hM
  simp only [Bool.and_eq_true, decide_eq_true_eq] at c8
  refine tu_f rfl (fun w' => x_ari (a := (l7.getD i2 default).lo) (b := r3) (r := ((l7.getD i2 default).lo) + r3) rfl rfl rfl (by omega)) ?_
  refine tu_q rfl rfl (fun w' H => x_mv (v := vat av 3 (Int.toNat (i2 : Int))) rfl) ?_
  refine tu_q rfl rfl (fun w' H => x_ncE (p := vat av 3 (Int.toNat (i2 : Int))) rfl (Sl.pl (i := (i2 : Int)) (H.os 3) (by omega) (by omega))) ?_
  refine tu_q rfl rfl (fun w' H => x_fa (a := vat av 3 (Int.toNat (i2 : Int))) (v := fat (vat av 3 (Int.toNat (i2 : Int))) 1) rfl (fa_pl Fd46_1 Sz44 (Sl.pl (i := (i2 : Int)) (H.os 3) (by omega) (by omega)))) ?_
  refine tu_q rfl rfl (fun w' H => x_fa (a := fat (vat av 3 (Int.toNat (i2 : Int))) 1) (v := fat (vat av 3 (Int.toNat (i2 : Int))) 2) rfl (fa_pl2 (a := 1) (c := 2) Fd44_1 Sz3 (Sl.pl (i := (i2 : Int)) (H.os 3) (by omega) (by omega)) rfl)) ?_
  refine tu_q rfl rfl (fun w' H => x_ld (p := fat (vat av 3 (Int.toNat (i2 : Int))) 2) (v := I ((l7.getD i2 default).hi)) rfl (ld_sc Sc3 (At.mono (Mrk_at2 (H.os 3) (i := (i2 : Int)) (by omega) (by omega)) (H.ol 3)))) ?_
  refine tu_f rfl (fun w' => x_mv (v := I r3) rfl) ?_
  obtain ⟨c9, hM⟩ := M.e_grd hM
  simp only [Bool.and_eq_true, decide_eq_true_eq] at c9
  refine tu_f rfl (fun w' => x_ari (a := (l7.getD i2 default).hi) (b := r3) (r := ((l7.getD i2 default).hi) + r3) rfl rfl rfl (by omega)) ?_
  refine tu_f rfl (fun w' => x_bld (ps := [(0, I (((l7.getD i2 default).lo) + r3)), (1, I (((l7.getD i2 default).hi) + r3))]) (zs := [I 0, I 0]) (L' := [I (((l7.getD i2 default).lo) + r3), I (((l7.getD i2 default).hi) + r3)]) rfl Try.underlying44 Al44 rfl (Bd44 Try.underlying44) (.cons (cs := [I (((l7.getD i2 default).lo) + r3)]) rfl rfl rfl rfl rfl <| .cons (cs := [I (((l7.getD i2 default).hi) + r3)]) rfl rfl rfl rfl rfl <| .nil)) ?_
  refine tu_q rfl rfl (fun w' H => x_ncE (p := vat av 3 (Int.toNat (i2 : Int))) rfl (Sl.pl (i := (i2 : Int)) (H.os 3) (by omega) (by omega))) ?_
  refine tu_q rfl rfl (fun w' H => x_fa (a := vat av 3 (Int.toNat (i2 : Int))) (v := fat (vat av 3 (Int.toNat (i2 : Int))) 0) rfl (fa_pl Fd46_0 Sz3 (Sl.pl (i := (i2 : Int)) (H.os 3) (by omega) (by omega)))) ?_
  refine tu_nil ?_
  refine sr_l rfl ?_
  refine t_fst (α := Mrk) (k := 3) (i := (i2 : Int)) (off := 0) (l := l7) (l' := l7.set i2 ({ (l7.getD i2 default) with place := ((l7.getD i2 default).place) + r4 })) (val := I (((l7.getD i2 default).place) + r4)) (L' := [cBlk aj [ak, av, am] 27, cDO 39 41 ak aH l4, cRo B_l4, cOwn (α := Mrk) 46 av (l7.set i2 ({ (l7.getD i2 default) with place := ((l7.getD i2 default).place) + r4 })), cOwn (α := Rch) 56 am aC, cBlk aB [aE, I a8, I ba] 68, cBlk ap [ag, ai, ae] 27, cOwn (α := Raw 1) 39 ag aF, cRo aG, cOwn (α := Mrk) 46 ai ay, cOwn (α := Rch) 56 ae ab]) H rfl Sz3 (by omega) (by omega) (l7.getD i2 default) ({ (l7.getD i2 default) with place := ((l7.getD i2 default).place) + r4 }) (getD_some _ (by omega) _) rfl rfl [I (((l7.getD i2 default).place) + r4)] rfl rfl rfl rfl rfl rfl rfl ?_
  intro eS H
  have eT : (l7.set i2 ({ (l7.getD i2 default) with place := ((l7.getD i2 default).place) + r4 })).length = (l7).length := List.length_set
  refine s_nil ⟨trivial, ?_⟩
  refine sr_l rfl ?_
  refine s_val (x_ncE (p := vat av 3 (Int.toNat (i2 : Int))) rfl (Sl.pl (i := (i2 : Int)) (H.os 3) (by omega) (by omega))) ?_
  refine s_nil ⟨trivial, ?_⟩
  refine sr_l rfl ?_
  refine s_val (x_fa (a := vat av 3 (Int.toNat (i2 : Int))) (v := fat (vat av 3 (Int.toNat (i2 : Int))) 1) rfl (fa_pl Fd46_1 Sz44 (Sl.pl (i := (i2 : Int)) (H.os 3) (by omega) (by omega)))) ?_
  refine s_nil ⟨trivial, ?_⟩
  refine sr_l rfl ?_
  refine t_fst (α := Mrk) (k := 3) (i := (i2 : Int)) (off := 1) (l := l7.set i2 ({ (l7.getD i2 default) with place := ((l7.getD i2 default).place) + r4 })) (l' := (l7.set i2 ({ (l7.getD i2 default) with place := ((l7.getD i2 default).place) + r4 })).set i2 ({ ((l7.set i2 ({ (l7.getD i2 default) with place := ((l7.getD i2 default).place) + r4 })).getD i2 default) with lo := ((l7.getD i2 default).lo) + r3, hi := ((l7.getD i2 default).hi) + r3 })) (val := .agg #[I (((l7.getD i2 default).lo) + r3), I (((l7.getD i2 default).hi) + r3)]) (L' := [cBlk aj [ak, av, am] 27, cDO 39 41 ak aH l4, cRo B_l4, cOwn (α := Mrk) 46 av ((l7.set i2 ({ (l7.getD i2 default) with place := ((l7.getD i2 default).place) + r4 })).set i2 ({ ((l7.set i2 ({ (l7.getD i2 default) with place := ((l7.getD i2 default).place) + r4 })).getD i2 default) with lo := ((l7.getD i2 default).lo) + r3, hi := ((l7.getD i2 default).hi) + r3 })), cOwn (α := Rch) 56 am aC, cBlk aB [aE, I a8, I ba] 68, cBlk ap [ag, ai, ae] 27, cOwn (α := Raw 1) 39 ag aF, cRo aG, cOwn (α := Mrk) 46 ai ay, cOwn (α := Rch) 56 ae ab]) H rfl Sz44 (by omega) (by omega) ((l7.set i2 ({ (l7.getD i2 default) with place := ((l7.getD i2 default).place) + r4 })).getD i2 default) ({ ((l7.set i2 ({ (l7.getD i2 default) with place := ((l7.getD i2 default).place) + r4 })).getD i2 default) with lo := ((l7.getD i2 default).lo) + r3, hi := ((l7.getD i2 default).hi) + r3 }) (getD_some _ (by omega) _) rfl rfl [I (((l7.getD i2 default).lo) + r3), I (((l7.getD i2 default).hi) + r3)] rfl rfl rfl rfl rfl rfl rfl ?_
  intro eU H
  have eV : ((l7.set i2 ({ (l7.getD i2 default) with place := ((l7.getD i2 default).place) + r4 })).set i2 ({ ((l7.set i2 ({ (l7.getD i2 default) with place := ((l7.getD i2 default).place) + r4 })).getD i2 default) with lo := ((l7.getD i2 default).lo) + r3, hi := ((l7.getD i2 default).hi) + r3 })).length = (l7.set i2 ({ (l7.getD i2 default) with place := ((l7.getD i2 default).place) + r4 })).length := List.length_set
  refine s_nil ⟨trivial, ?_⟩
  refine sr_nil ?_
  refine W.region rfl ?_
  refine zM (I (i2 : Int)) rfl ?_
  refine zR (i2 : Int) 1 ((i2 : Int) + 1) rfl rfl rfl (by omega) ?_
  refine zA (I ((i2 : Int) + 1)) rfl ?_
  refine s_nil ?_
  exact ⟨cW, cX, (l7.set i2 ({ (l7.getD i2 default) with place := ((l7.getD i2 default).place) + r4 })).set i2 ({ ((l7.set i2 ({ (l7.getD i2 default) with place := ((l7.getD i2 default).place) + r4 })).getD i2 default) with lo := ((l7.getD i2 default).lo) + r3, hi := ((l7.getD i2 default).hi) + r3 }), i2 + 1, av, _, upds_of _ _ ⟨rfl, rfl, rfl, rfl, rfl, rfl, trivial⟩, M.e_inl hM b6, H⟩
 replace hM := M.e_f hM bu
 simp only [qy1, qy2, qy3, qy4, qy5, qy6, ne_eq, qy7] at bu
 refine W.exit ?_
 have da := M.e_inr hM b6
 subst da
 replace hM := cV
 try dsimp only at hM
 refine W.seq ?_
 refine W.seq ?_
 refine W.region rfl ?_
 refine s_val (x_fa (a := Pq aj) (v := Oq aj 1) rfl (fa_blk (o := 0) Fd27_1 Sz24)) ?_
 refine s_val (x_ld (p := Oq aj 1) (v := av) rfl (ldb_sc Sc24 (H.bl 0) rfl)) ?_
 have eW := ((H.os 3)).len_le
 refine s_val (x_lenS T24.und rfl (H.os 3)) ?_
 refine zR (l7.length : Int) 1 ((l7.length : Int) - 1) rfl rfl rfl (by omega) ?_
 refine zA (I ((l7.length : Int) - 1)) rfl ?_
 refine s_nil ?_
 refine W.block ?_
 obtain ⟨db, bI, dc⟩ := M.e_bind hM
 obtain ⟨bp, bI⟩ := M.e_iter bI
 refine W.loop (fun m σ W => ∃ (s : Int) (s2 : Int) (aa : List Mrk) (i3 : Int) (ac : Value) (ρ : Env), σ = upds ρ [(9, Pq ap), (11, Pq aB), (14, Pq aj), (19, I i3)] /\ M.iterN (za9 order) m (s, s2, aa, i3) = some db /\ St w W [cBlk aj [ak, ac, am] 27, cDO 39 41 ak aH l4, cRo B_l4, cOwn (α := Mrk) 46 ac aa, cOwn (α := Rch) 56 am aC, cBlk aB [aE, I s, I s2] 68, cBlk ap [ag, ai, ae] 27, cOwn (α := Raw 1) 39 ag aF, cRo aG, cOwn (α := Mrk) 46 ai ay, cOwn (α := Rch) 56 ae ab] R) ?_ ?_
 ·exact ⟨_, a8, ba, l7, (l7.length : Int) - 1, av, _, upds_of _ _ ⟨rfl, rfl, rfl, rfl, trivial⟩, bI, H⟩
 rintro eX σ eY ⟨s, s2, aa, i3, ac, ρ, rfl, b7, H⟩
 obtain ⟨bm, bn, eZ, hM, bf⟩ := M.e_iterN b7
 simp only [za9] at hM
 clear b7
 refine W.seq ?_
 refine W.seq ?_
 refine W.region rfl ?_
 refine zM (I i3) rfl ?_
 refine zC i3 0 (decide (0 < i3)) rfl rfl rfl ?_
 refine s_nil ?_
 refine W.cond (decide (0 < i3)) rfl (fun bv => ?_) (fun bv => ?_)
 ·replace hM := M.e_t hM bv
  simp only [qy1, qy2, qy3, qy4, qy5, qy6, ne_eq, qy7] at bv
  refine W.skip ?_
  refine W.seq ?_
  refine W.block ?_
  refine W.seq ?_
  refine W.region rfl ?_
  refine zM (Pq aB) rfl ?_
  refine zM (I i3) rfl ?_
  obtain ⟨dd, hM⟩ := M.e_grd hM
  simp only [Bool.and_eq_true, decide_eq_true_eq] at dd
  refine zR i3 1 (i3 + 1) rfl rfl rfl (by omega) ?_
  obtain ⟨e9, de, hM⟩ := M.e_bind hM
  refine s_call cf9 [Pq aB, I (i3 + 1)] rfl (zae order s s2 (i3 + 1) (bT.app _) bU de _ ((H.pk [5, 0, 1, 2, 3, 4, 6, 7, 8, 9, 10]).gt 10)) ?_
  rintro vq fa ⟨r5, aN, aO, dg, hvq, au⟩
  subst dg
  subst vq
  try dsimp only at hM
  replace H := H.pk [5, 0, 1, 2, 3, 4, 6, 7, 8, 9, 10] |>.bk au
  clear au
  refine zA (I r5) rfl ?_
  refine s_nil ?_
  refine W.drawTS (fun W => St w W [cBlk aB [aE, I aN, I aO] 68, cBlk aj [ak, ac, am] 27, cDO 39 41 ak aH l4, cRo B_l4, cOwn (α := Rch) 56 am aC, cBlk ap [ag, ai, ae] 27, cOwn (α := Raw 1) 39 ag aF, cRo aG, cOwn (α := Mrk) 46 ai ay, cOwn (α := Rch) 56 ae ab] R) (.q 0 (.q 1 (.q 2 (.q 3 (.q 4 (.q 5 (.q 6 (.q 7 (.q 8 (.q 11 (.q 12 (.q 13 (.l2 9 (.l2 10 (.l 14 (.l 15 (.l 16 (.l 17 (.l 18 .nil))))) 14 (.l2 10 (.l 15 (.l 16 (.l 17 (.l 18 .nil)))) 15 (.l 10 (.l 16 (.l 17 (.l 18 .nil)))))) 14 (.l2 9 (.l2 10 (.l 15 (.l 16 (.l 17 (.l 18 .nil)))) 15 (.l 10 (.l 16 (.l 17 (.l 18 .nil))))) 15 (.l 9 (.l 10 (.l 16 (.l 17 (.l 18 .nil))))))))))))))))))) 19 [19] mixed (by decide +kernel) rfl ?_
  intro fb az
  replace H := H.ext az
  clear az
  refine ⟨(H.pk [0, 1, 2, 3, 5, 6, 7, 8, 9, 10]), ?_⟩
  refine ts_q rfl (fun w' H => x_fa (a := Pq aj) (v := Oq aj 1) rfl (fa_blk (o := 0) Fd27_1 Sz24)) ?_
  refine ts_q rfl (fun w' H => x_ld (p := Oq aj 1) (v := ac) rfl (ldb_sc Sc24 (H.bl 1) rfl)) ?_
  refine ts_q rfl (fun w' H => x_mv (v := I i3) rfl) ?_
  refine ts_q rfl (fun w' H => x_fa (a := Pq aj) (v := Oq aj 1) rfl (fa_blk (o := 0) Fd27_1 Sz24)) ?_
  refine ts_q rfl (fun w' H => x_ld (p := Oq aj 1) (v := ac) rfl (ldb_sc Sc24 (H.bl 1) rfl)) ?_
  refine ts_q rfl (fun w' H => x_mv (v := I r5) rfl) ?_
  refine ts_q rfl (fun w' H => x_fa (a := Pq aj) (v := Oq aj 1) rfl (fa_blk (o := 0) Fd27_1 Sz24)) ?_
  refine ts_q rfl (fun w' H => x_ld (p := Oq aj 1) (v := ac) rfl (ldb_sc Sc24 (H.bl 1) rfl)) ?_
  refine ts_q rfl (fun w' H => x_mv (v := I r5) rfl) ?_
  refine ts_q rfl (fun w' H => x_fa (a := Pq aj) (v := Oq aj 1) rfl (fa_blk (o := 0) Fd27_1 Sz24)) ?_
  refine ts_q rfl (fun w' H => x_ld (p := Oq aj 1) (v := ac) rfl (ldb_sc Sc24 (H.bl 1) rfl)) ?_
  refine ts_q rfl (fun w' H => x_mv (v := I i3) rfl) ?_
  obtain ⟨dh, hM⟩ := M.e_grd hM
  simp only [Bool.and_eq_true, decide_eq_true_eq] at dh
  obtain ⟨di, hM⟩ := M.e_grd hM
  simp only [Bool.and_eq_true, decide_eq_true_eq] at di
  obtain ⟨dj, hM⟩ := M.e_grd hM
  simp only [Bool.and_eq_true, decide_eq_true_eq] at dj
  refine ts_l2 rfl rfl ?_ ?_
  ·skip
   refine s_val (x_ix (a := ac) (b := I r5) (v := vat ac 3 (Int.toNat r5)) rfl rfl (Sl.ix (α := Mrk) T24.und T24.size (H.os 4) (by omega) (by omega))) ?_
   have fd := Sl.cells (H.os 4)
   have fe := Sl.oc (H.os 4)
   have ff := ownSl (H.get (k := 4) rfl)
   refine s_nil ⟨(H.pk [0, 1, 2, 3, 5, 6, 7, 8, 9, 10]), ?_⟩
   refine ts_l2 rfl rfl ?_ ?_
   ·skip
    refine s_val (x_ld (p := vat ac 3 (Int.toNat r5)) (v := .agg #[I ((aa.getD (Int.toNat r5) default).place), I ((aa.getD (Int.toNat r5) default).lo), I ((aa.getD (Int.toNat r5) default).hi)]) rfl (ld_ag Ag46 Sz46 (At.mono (Mrk_atA (H.os 4) (i := r5) (by omega) (by omega)) (H.ol 4)))) ?_
    refine s_nil ⟨(H.pk [0, 1, 2, 3, 5, 6, 7, 8, 9, 10]), ?_⟩
    refine ts_l rfl ?_
    refine s_val (x_ix (a := ac) (b := I i3) (v := vat ac 3 (Int.toNat i3)) rfl rfl (Sl.ix (α := Mrk) T24.und T24.size (H.os 4) (by omega) (by omega))) ?_
    refine s_nil ⟨(H.pk [0, 1, 2, 3, 5, 6, 7, 8, 9, 10]), ?_⟩
    refine ts_l rfl ?_
    refine s_val (x_ld (p := vat ac 3 (Int.toNat i3)) (v := .agg #[I ((aa.getD (Int.toNat i3) default).place), I ((aa.getD (Int.toNat i3) default).lo), I ((aa.getD (Int.toNat i3) default).hi)]) rfl (ld_ag Ag46 Sz46 (At.mono (Mrk_atA (H.os 4) (i := i3) (by omega) (by omega)) (H.ol 4)))) ?_
    refine s_nil ⟨(H.pk [0, 1, 2, 3, 5, 6, 7, 8, 9, 10]), ?_⟩
    refine ts_l rfl ?_
    refine s_val (x_ix (a := ac) (b := I i3) (v := vat ac 3 (Int.toNat i3)) rfl rfl (Sl.ix (α := Mrk) T24.und T24.size (H.os 4) (by omega) (by omega))) ?_
    refine s_nil ⟨(H.pk [0, 1, 2, 3, 5, 6, 7, 8, 9, 10]), ?_⟩
    refine ts_l rfl ?_
    refine t_ost (k := 4) (i := i3) (l := aa) (l' := aa.set (Int.toNat i3) (aa.getD (Int.toNat r5) default)) (val := .agg #[I ((aa.getD (Int.toNat r5) default).place), I ((aa.getD (Int.toNat r5) default).lo), I ((aa.getD (Int.toNat r5) default).hi)]) (L' := [cBlk aB [aE, I aN, I aO] 68, cBlk aj [ak, ac, am] 27, cDO 39 41 ak aH l4, cRo B_l4, cOwn (α := Mrk) 46 ac (aa.set (Int.toNat i3) (aa.getD (Int.toNat r5) default)), cOwn (α := Rch) 56 am aC, cBlk ap [ag, ai, ae] 27, cOwn (α := Raw 1) 39 ag aF, cRo aG, cOwn (α := Mrk) 46 ai ay, cOwn (α := Rch) 56 ae ab]) H rfl Sz46 (by omega) (by omega) (aa.getD (Int.toNat r5) default) rfl rfl rfl rfl rfl ?_
    intro fg H
    refine s_nil ⟨(H.pk [0, 1, 2, 3, 5, 6, 7, 8, 9, 10]), ?_⟩
    refine ts_l rfl ?_
    refine s_val (x_ix (a := ac) (b := I r5) (v := vat ac 3 (Int.toNat r5)) rfl rfl (Sl.ix (α := Mrk) T24.und T24.size (H.os 4) (by omega) (by omega))) ?_
    refine s_nil ⟨(H.pk [0, 1, 2, 3, 5, 6, 7, 8, 9, 10]), ?_⟩
    refine ts_nil ?_
    refine sr_l rfl ?_
    refine t_ost (k := 4) (i := r5) (l := aa.set (Int.toNat i3) (aa.getD (Int.toNat r5) default)) (l' := (aa.set (Int.toNat i3) (aa.getD (Int.toNat r5) default)).set (Int.toNat r5) (aa.getD (Int.toNat i3) default)) (val := .agg #[I ((aa.getD (Int.toNat i3) default).place), I ((aa.getD (Int.toNat i3) default).lo), I ((aa.getD (Int.toNat i3) default).hi)]) (L' := [cBlk aB [aE, I aN, I aO] 68, cBlk aj [ak, ac, am] 27, cDO 39 41 ak aH l4, cRo B_l4, cOwn (α := Mrk) 46 ac ((aa.set (Int.toNat i3) (aa.getD (Int.toNat r5) default)).set (Int.toNat r5) (aa.getD (Int.toNat i3) default)), cOwn (α := Rch) 56 am aC, cBlk ap [ag, ai, ae] 27, cOwn (α := Raw 1) 39 ag aF, cRo aG, cOwn (α := Mrk) 46 ai ay, cOwn (α := Rch) 56 ae ab]) H rfl Sz46 (by omega) (by omega) (aa.getD (Int.toNat i3) default) rfl rfl rfl rfl rfl ?_
    intro fh H
    refine s_nil ⟨trivial, ?_⟩
    refine sr_nil ?_
    refine W.region rfl ?_
    refine zM (I i3) rfl ?_
    obtain ⟨dk, hM⟩ := M.e_grd hM
    simp only [Bool.and_eq_true, decide_eq_true_eq] at dk
    refine zR i3 1 (i3 - 1) rfl rfl rfl (by omega) ?_
    refine zA (I (i3 - 1)) rfl ?_
    refine s_nil ?_
    exact ⟨bm, bn, aN, aO, (aa.set (Int.toNat i3) (aa.getD (Int.toNat r5) default)).set (Int.toNat r5) (aa.getD (Int.toNat i3) default), i3 - 1, ac, _, upds_of _ _ ⟨rfl, rfl, rfl, rfl, trivial⟩, M.e_inl hM bf, (H.pk [1, 2, 3, 4, 5, 0, 6, 7, 8, 9, 10])⟩
   skip
   refine s_val (x_ix (a := ac) (b := I i3) (v := vat ac 3 (Int.toNat i3)) rfl rfl (Sl.ix (α := Mrk) T24.und T24.size (H.os 4) (by omega) (by omega))) ?_
   refine s_nil ⟨(H.pk [0, 1, 2, 3, 5, 6, 7, 8, 9, 10]), ?_⟩
   refine ts_l2 rfl rfl ?_ ?_
   ·skip
    refine s_val (x_ld (p := vat ac 3 (Int.toNat r5)) (v := .agg #[I ((aa.getD (Int.toNat r5) default).place), I ((aa.getD (Int.toNat r5) default).lo), I ((aa.getD (Int.toNat r5) default).hi)]) rfl (ld_ag Ag46 Sz46 (At.mono (Mrk_atA (H.os 4) (i := r5) (by omega) (by omega)) (H.ol 4)))) ?_
    refine s_nil ⟨(H.pk [0, 1, 2, 3, 5, 6, 7, 8, 9, 10]), ?_⟩
    refine ts_l rfl ?_
    refine s_val (x_ld (p := vat ac 3 (Int.toNat i3)) (v := .agg #[I ((aa.getD (Int.toNat i3) default).place), I ((aa.getD (Int.toNat i3) default).lo), I ((aa.getD (Int.toNat i3) default).hi)]) rfl (ld_ag Ag46 Sz46 (At.mono (Mrk_atA (H.os 4) (i := i3) (by omega) (by omega)) (H.ol 4)))) ?_
    refine s_nil ⟨(H.pk [0, 1, 2, 3, 5, 6, 7, 8, 9, 10]), ?_⟩
    refine ts_l rfl ?_
    refine s_val (x_ix (a := ac) (b := I i3) (v := vat ac 3 (Int.toNat i3)) rfl rfl (Sl.ix (α := Mrk) T24.und T24.size (H.os 4) (by omega) (by omega))) ?_
    refine s_nil ⟨(H.pk [0, 1, 2, 3, 5, 6, 7, 8, 9, 10]), ?_⟩
    refine ts_l rfl ?_
    refine t_ost (k := 4) (i := i3) (l := aa) (l' := aa.set (Int.toNat i3) (aa.getD (Int.toNat r5) default)) (val := .agg #[I ((aa.getD (Int.toNat r5) default).place), I ((aa.getD (Int.toNat r5) default).lo), I ((aa.getD (Int.toNat r5) default).hi)]) (L' := [cBlk aB [aE, I aN, I aO] 68, cBlk aj [ak, ac, am] 27, cDO 39 41 ak aH l4, cRo B_l4, cOwn (α := Mrk) 46 ac (aa.set (Int.toNat i3) (aa.getD (Int.toNat r5) default)), cOwn (α := Rch) 56 am aC, cBlk ap [ag, ai, ae] 27, cOwn (α := Raw 1) 39 ag aF, cRo aG, cOwn (α := Mrk) 46 ai ay, cOwn (α := Rch) 56 ae ab]) H rfl Sz46 (by omega) (by omega) (aa.getD (Int.toNat r5) default) rfl rfl rfl rfl rfl ?_
    intro fj H
    refine s_nil ⟨(H.pk [0, 1, 2, 3, 5, 6, 7, 8, 9, 10]), ?_⟩
    refine ts_l rfl ?_
    refine s_val (x_ix (a := ac) (b := I r5) (v := vat ac 3 (Int.toNat r5)) rfl rfl (Sl.ix (α := Mrk) T24.und T24.size (H.os 4) (by omega) (by omega))) ?_
    refine s_nil ⟨(H.pk [0, 1, 2, 3, 5, 6, 7, 8, 9, 10]), ?_⟩
    refine ts_nil ?_
    refine sr_l rfl ?_
    refine t_ost (k := 4) (i := r5) (l := aa.set (Int.toNat i3) (aa.getD (Int.toNat r5) default)) (l' := (aa.set (Int.toNat i3) (aa.getD (Int.toNat r5) default)).set (Int.toNat r5) (aa.getD (Int.toNat i3) default)) (val := .agg #[I ((aa.getD (Int.toNat i3) default).place), I ((aa.getD (Int.toNat i3) default).lo), I ((aa.getD (Int.toNat i3) default).hi)]) (L' := [cBlk aB [aE, I aN, I aO] 68, cBlk aj [ak, ac, am] 27, cDO 39 41 ak aH l4, cRo B_l4, cOwn (α := Mrk) 46 ac ((aa.set (Int.toNat i3) (aa.getD (Int.toNat r5) default)).set (Int.toNat r5) (aa.getD (Int.toNat i3) default)), cOwn (α := Rch) 56 am aC, cBlk ap [ag, ai, ae] 27, cOwn (α := Raw 1) 39 ag aF, cRo aG, cOwn (α := Mrk) 46 ai ay, cOwn (α := Rch) 56 ae ab]) H rfl Sz46 (by omega) (by omega) (aa.getD (Int.toNat i3) default) rfl rfl rfl rfl rfl ?_
    intro fm H
    refine s_nil ⟨trivial, ?_⟩
    refine sr_nil ?_
    refine W.region rfl ?_
    refine zM (I i3) rfl ?_
    obtain ⟨dm, hM⟩ := M.e_grd hM
    simp only [Bool.and_eq_true, decide_eq_true_eq] at dm
    refine zR i3 1 (i3 - 1) rfl rfl rfl (by omega) ?_
    refine zA (I (i3 - 1)) rfl ?_
    refine s_nil ?_
    exact ⟨bm, bn, aN, aO, (aa.set (Int.toNat i3) (aa.getD (Int.toNat r5) default)).set (Int.toNat r5) (aa.getD (Int.toNat i3) default), i3 - 1, ac, _, upds_of _ _ ⟨rfl, rfl, rfl, rfl, trivial⟩, M.e_inl hM bf, (H.pk [1, 2, 3, 4, 5, 0, 6, 7, 8, 9, 10])⟩
   skip
   refine s_val (x_ld (p := vat ac 3 (Int.toNat i3)) (v := .agg #[I ((aa.getD (Int.toNat i3) default).place), I ((aa.getD (Int.toNat i3) default).lo), I ((aa.getD (Int.toNat i3) default).hi)]) rfl (ld_ag Ag46 Sz46 (At.mono (Mrk_atA (H.os 4) (i := i3) (by omega) (by omega)) (H.ol 4)))) ?_
   refine s_nil ⟨(H.pk [0, 1, 2, 3, 5, 6, 7, 8, 9, 10]), ?_⟩
   refine ts_l rfl ?_
   refine s_val (x_ld (p := vat ac 3 (Int.toNat r5)) (v := .agg #[I ((aa.getD (Int.toNat r5) default).place), I ((aa.getD (Int.toNat r5) default).lo), I ((aa.getD (Int.toNat r5) default).hi)]) rfl (ld_ag Ag46 Sz46 (At.mono (Mrk_atA (H.os 4) (i := r5) (by omega) (by omega)) (H.ol 4)))) ?_
   refine s_nil ⟨(H.pk [0, 1, 2, 3, 5, 6, 7, 8, 9, 10]), ?_⟩
   refine ts_l rfl ?_
   refine s_val (x_ix (a := ac) (b := I i3) (v := vat ac 3 (Int.toNat i3)) rfl rfl (Sl.ix (α := Mrk) T24.und T24.size (H.os 4) (by omega) (by omega))) ?_
   refine s_nil ⟨(H.pk [0, 1, 2, 3, 5, 6, 7, 8, 9, 10]), ?_⟩
   refine ts_l rfl ?_
   refine t_ost (k := 4) (i := i3) (l := aa) (l' := aa.set (Int.toNat i3) (aa.getD (Int.toNat r5) default)) (val := .agg #[I ((aa.getD (Int.toNat r5) default).place), I ((aa.getD (Int.toNat r5) default).lo), I ((aa.getD (Int.toNat r5) default).hi)]) (L' := [cBlk aB [aE, I aN, I aO] 68, cBlk aj [ak, ac, am] 27, cDO 39 41 ak aH l4, cRo B_l4, cOwn (α := Mrk) 46 ac (aa.set (Int.toNat i3) (aa.getD (Int.toNat r5) default)), cOwn (α := Rch) 56 am aC, cBlk ap [ag, ai, ae] 27, cOwn (α := Raw 1) 39 ag aF, cRo aG, cOwn (α := Mrk) 46 ai ay, cOwn (α := Rch) 56 ae ab]) H rfl Sz46 (by omega) (by omega) (aa.getD (Int.toNat r5) default) rfl rfl rfl rfl rfl ?_
   intro fo H
   refine s_nil ⟨(H.pk [0, 1, 2, 3, 5, 6, 7, 8, 9, 10]), ?_⟩
   refine ts_l rfl ?_
   refine s_val (x_ix (a := ac) (b := I r5) (v := vat ac 3 (Int.toNat r5)) rfl rfl (Sl.ix (α := Mrk) T24.und T24.size (H.os 4) (by omega) (by omega))) ?_
   refine s_nil ⟨(H.pk [0, 1, 2, 3, 5, 6, 7, 8, 9, 10]), ?_⟩
   refine ts_nil ?_
   refine sr_l rfl ?_
   refine t_ost (k := 4) (i := r5) (l := aa.set (Int.toNat i3) (aa.getD (Int.toNat r5) default)) (l' := (aa.set (Int.toNat i3) (aa.getD (Int.toNat r5) default)).set (Int.toNat r5) (aa.getD (Int.toNat i3) default)) (val := .agg #[I ((aa.getD (Int.toNat i3) default).place), I ((aa.getD (Int.toNat i3) default).lo), I ((aa.getD (Int.toNat i3) default).hi)]) (L' := [cBlk aB [aE, I aN, I aO] 68, cBlk aj [ak, ac, am] 27, cDO 39 41 ak aH l4, cRo B_l4, cOwn (α := Mrk) 46 ac ((aa.set (Int.toNat i3) (aa.getD (Int.toNat r5) default)).set (Int.toNat r5) (aa.getD (Int.toNat i3) default)), cOwn (α := Rch) 56 am aC, cBlk ap [ag, ai, ae] 27, cOwn (α := Raw 1) 39 ag aF, cRo aG, cOwn (α := Mrk) 46 ai ay, cOwn (α := Rch) 56 ae ab]) H rfl Sz46 (by omega) (by omega) (aa.getD (Int.toNat i3) default) rfl rfl rfl rfl rfl ?_
   intro fp H
   refine s_nil ⟨trivial, ?_⟩
   refine sr_nil ?_
   refine W.region rfl ?_
   refine zM (I i3) rfl ?_
   obtain ⟨dp, hM⟩ := M.e_grd hM
   simp only [Bool.and_eq_true, decide_eq_true_eq] at dp
   refine zR i3 1 (i3 - 1) rfl rfl rfl (by omega) ?_
   refine zA (I (i3 - 1)) rfl ?_
   refine s_nil ?_
   exact ⟨bm, bn, aN, aO, (aa.set (Int.toNat i3) (aa.getD (Int.toNat r5) default)).set (Int.toNat r5) (aa.getD (Int.toNat i3) default), i3 - 1, ac, _, upds_of _ _ ⟨rfl, rfl, rfl, rfl, trivial⟩, M.e_inl hM bf, (H.pk [1, 2, 3, 4, 5, 0, 6, 7, 8, 9, 10])⟩
  skip
  refine s_val (x_ix (a := ac) (b := I i3) (v := vat ac 3 (Int.toNat i3)) rfl rfl (Sl.ix (α := Mrk) T24.und T24.size (H.os 4) (by omega) (by omega))) ?_
  have fq := Sl.cells (H.os 4)
  have fu := Sl.oc (H.os 4)
  have fw := ownSl (H.get (k := 4) rfl)
  refine s_nil ⟨(H.pk [0, 1, 2, 3, 5, 6, 7, 8, 9, 10]), ?_⟩
  refine ts_l2 rfl rfl ?_ ?_
  ·skip
   refine s_val (x_ix (a := ac) (b := I r5) (v := vat ac 3 (Int.toNat r5)) rfl rfl (Sl.ix (α := Mrk) T24.und T24.size (H.os 4) (by omega) (by omega))) ?_
   refine s_nil ⟨(H.pk [0, 1, 2, 3, 5, 6, 7, 8, 9, 10]), ?_⟩
   refine ts_l2 rfl rfl ?_ ?_
   ·skip
    refine s_val (x_ld (p := vat ac 3 (Int.toNat r5)) (v := .agg #[I ((aa.getD (Int.toNat r5) default).place), I ((aa.getD (Int.toNat r5) default).lo), I ((aa.getD (Int.toNat r5) default).hi)]) rfl (ld_ag Ag46 Sz46 (At.mono (Mrk_atA (H.os 4) (i := r5) (by omega) (by omega)) (H.ol 4)))) ?_
    refine s_nil ⟨(H.pk [0, 1, 2, 3, 5, 6, 7, 8, 9, 10]), ?_⟩
    refine ts_l rfl ?_
    refine s_val (x_ld (p := vat ac 3 (Int.toNat i3)) (v := .agg #[I ((aa.getD (Int.toNat i3) default).place), I ((aa.getD (Int.toNat i3) default).lo), I ((aa.getD (Int.toNat i3) default).hi)]) rfl (ld_ag Ag46 Sz46 (At.mono (Mrk_atA (H.os 4) (i := i3) (by omega) (by omega)) (H.ol 4)))) ?_
    refine s_nil ⟨(H.pk [0, 1, 2, 3, 5, 6, 7, 8, 9, 10]), ?_⟩
    refine ts_l rfl ?_
    refine s_val (x_ix (a := ac) (b := I i3) (v := vat ac 3 (Int.toNat i3)) rfl rfl (Sl.ix (α := Mrk) T24.und T24.size (H.os 4) (by omega) (by omega))) ?_
    refine s_nil ⟨(H.pk [0, 1, 2, 3, 5, 6, 7, 8, 9, 10]), ?_⟩
    refine ts_l rfl ?_
    refine t_ost (k := 4) (i := i3) (l := aa) (l' := aa.set (Int.toNat i3) (aa.getD (Int.toNat r5) default)) (val := .agg #[I ((aa.getD (Int.toNat r5) default).place), I ((aa.getD (Int.toNat r5) default).lo), I ((aa.getD (Int.toNat r5) default).hi)]) (L' := [cBlk aB [aE, I aN, I aO] 68, cBlk aj [ak, ac, am] 27, cDO 39 41 ak aH l4, cRo B_l4, cOwn (α := Mrk) 46 ac (aa.set (Int.toNat i3) (aa.getD (Int.toNat r5) default)), cOwn (α := Rch) 56 am aC, cBlk ap [ag, ai, ae] 27, cOwn (α := Raw 1) 39 ag aF, cRo aG, cOwn (α := Mrk) 46 ai ay, cOwn (α := Rch) 56 ae ab]) H rfl Sz46 (by omega) (by omega) (aa.getD (Int.toNat r5) default) rfl rfl rfl rfl rfl ?_
    intro fx H
    refine s_nil ⟨(H.pk [0, 1, 2, 3, 5, 6, 7, 8, 9, 10]), ?_⟩
    refine ts_l rfl ?_
    refine s_val (x_ix (a := ac) (b := I r5) (v := vat ac 3 (Int.toNat r5)) rfl rfl (Sl.ix (α := Mrk) T24.und T24.size (H.os 4) (by omega) (by omega))) ?_
    refine s_nil ⟨(H.pk [0, 1, 2, 3, 5, 6, 7, 8, 9, 10]), ?_⟩
    refine ts_nil ?_
    refine sr_l rfl ?_
    refine t_ost (k := 4) (i := r5) (l := aa.set (Int.toNat i3) (aa.getD (Int.toNat r5) default)) (l' := (aa.set (Int.toNat i3) (aa.getD (Int.toNat r5) default)).set (Int.toNat r5) (aa.getD (Int.toNat i3) default)) (val := .agg #[I ((aa.getD (Int.toNat i3) default).place), I ((aa.getD (Int.toNat i3) default).lo), I ((aa.getD (Int.toNat i3) default).hi)]) (L' := [cBlk aB [aE, I aN, I aO] 68, cBlk aj [ak, ac, am] 27, cDO 39 41 ak aH l4, cRo B_l4, cOwn (α := Mrk) 46 ac ((aa.set (Int.toNat i3) (aa.getD (Int.toNat r5) default)).set (Int.toNat r5) (aa.getD (Int.toNat i3) default)), cOwn (α := Rch) 56 am aC, cBlk ap [ag, ai, ae] 27, cOwn (α := Raw 1) 39 ag aF, cRo aG, cOwn (α := Mrk) 46 ai ay, cOwn (α := Rch) 56 ae ab]) H rfl Sz46 (by omega) (by omega) (aa.getD (Int.toNat i3) default) rfl rfl rfl rfl rfl ?_
    intro fy H
    refine s_nil ⟨trivial, ?_⟩
    refine sr_nil ?_
    refine W.region rfl ?_
    refine zM (I i3) rfl ?_
    obtain ⟨dq, hM⟩ := M.e_grd hM
    simp only [Bool.and_eq_true, decide_eq_true_eq] at dq
    refine zR i3 1 (i3 - 1) rfl rfl rfl (by omega) ?_
    refine zA (I (i3 - 1)) rfl ?_
    refine s_nil ?_
    exact ⟨bm, bn, aN, aO, (aa.set (Int.toNat i3) (aa.getD (Int.toNat r5) default)).set (Int.toNat r5) (aa.getD (Int.toNat i3) default), i3 - 1, ac, _, upds_of _ _ ⟨rfl, rfl, rfl, rfl, trivial⟩, M.e_inl hM bf, (H.pk [1, 2, 3, 4, 5, 0, 6, 7, 8, 9, 10])⟩
   skip
   refine s_val (x_ld (p := vat ac 3 (Int.toNat i3)) (v := .agg #[I ((aa.getD (Int.toNat i3) default).place), I ((aa.getD (Int.toNat i3) default).lo), I ((aa.getD (Int.toNat i3) default).hi)]) rfl (ld_ag Ag46 Sz46 (At.mono (Mrk_atA (H.os 4) (i := i3) (by omega) (by omega)) (H.ol 4)))) ?_
   refine s_nil ⟨(H.pk [0, 1, 2, 3, 5, 6, 7, 8, 9, 10]), ?_⟩
   refine ts_l rfl ?_
   refine s_val (x_ld (p := vat ac 3 (Int.toNat r5)) (v := .agg #[I ((aa.getD (Int.toNat r5) default).place), I ((aa.getD (Int.toNat r5) default).lo), I ((aa.getD (Int.toNat r5) default).hi)]) rfl (ld_ag Ag46 Sz46 (At.mono (Mrk_atA (H.os 4) (i := r5) (by omega) (by omega)) (H.ol 4)))) ?_
   refine s_nil ⟨(H.pk [0, 1, 2, 3, 5, 6, 7, 8, 9, 10]), ?_⟩
   refine ts_l rfl ?_
   refine s_val (x_ix (a := ac) (b := I i3) (v := vat ac 3 (Int.toNat i3)) rfl rfl (Sl.ix (α := Mrk) T24.und T24.size (H.os 4) (by omega) (by omega))) ?_
   refine s_nil ⟨(H.pk [0, 1, 2, 3, 5, 6, 7, 8, 9, 10]), ?_⟩
   refine ts_l rfl ?_
   refine t_ost (k := 4) (i := i3) (l := aa) (l' := aa.set (Int.toNat i3) (aa.getD (Int.toNat r5) default)) (val := .agg #[I ((aa.getD (Int.toNat r5) default).place), I ((aa.getD (Int.toNat r5) default).lo), I ((aa.getD (Int.toNat r5) default).hi)]) (L' := [cBlk aB [aE, I aN, I aO] 68, cBlk aj [ak, ac, am] 27, cDO 39 41 ak aH l4, cRo B_l4, cOwn (α := Mrk) 46 ac (aa.set (Int.toNat i3) (aa.getD (Int.toNat r5) default)), cOwn (α := Rch) 56 am aC, cBlk ap [ag, ai, ae] 27, cOwn (α := Raw 1) 39 ag aF, cRo aG, cOwn (α := Mrk) 46 ai ay, cOwn (α := Rch) 56 ae ab]) H rfl Sz46 (by omega) (by omega) (aa.getD (Int.toNat r5) default) rfl rfl rfl rfl rfl ?_
   intro fA H
   refine s_nil ⟨(H.pk [0, 1, 2, 3, 5, 6, 7, 8, 9, 10]), ?_⟩
   refine ts_l rfl ?_
   refine s_val (x_ix (a := ac) (b := I r5) (v := vat ac 3 (Int.toNat r5)) rfl rfl (Sl.ix (α := Mrk) T24.und T24.size (H.os 4) (by omega) (by omega))) ?_
   refine s_nil ⟨(H.pk [0, 1, 2, 3, 5, 6, 7, 8, 9, 10]), ?_⟩
   refine ts_nil ?_
   refine sr_l rfl ?_
   refine t_ost (k := 4) (i := r5) (l := aa.set (Int.toNat i3) (aa.getD (Int.toNat r5) default)) (l' := (aa.set (Int.toNat i3) (aa.getD (Int.toNat r5) default)).set (Int.toNat r5) (aa.getD (Int.toNat i3) default)) (val := .agg #[I ((aa.getD (Int.toNat i3) default).place), I ((aa.getD (Int.toNat i3) default).lo), I ((aa.getD (Int.toNat i3) default).hi)]) (L' := [cBlk aB [aE, I aN, I aO] 68, cBlk aj [ak, ac, am] 27, cDO 39 41 ak aH l4, cRo B_l4, cOwn (α := Mrk) 46 ac ((aa.set (Int.toNat i3) (aa.getD (Int.toNat r5) default)).set (Int.toNat r5) (aa.getD (Int.toNat i3) default)), cOwn (α := Rch) 56 am aC, cBlk ap [ag, ai, ae] 27, cOwn (α := Raw 1) 39 ag aF, cRo aG, cOwn (α := Mrk) 46 ai ay, cOwn (α := Rch) 56 ae ab]) H rfl Sz46 (by omega) (by omega) (aa.getD (Int.toNat i3) default) rfl rfl rfl rfl rfl ?_
   intro fB H
   refine s_nil ⟨trivial, ?_⟩
   refine sr_nil ?_
   refine W.region rfl ?_
   refine zM (I i3) rfl ?_
   obtain ⟨dr, hM⟩ := M.e_grd hM
   simp only [Bool.and_eq_true, decide_eq_true_eq] at dr
   refine zR i3 1 (i3 - 1) rfl rfl rfl (by omega) ?_
   refine zA (I (i3 - 1)) rfl ?_
   refine s_nil ?_
   exact ⟨bm, bn, aN, aO, (aa.set (Int.toNat i3) (aa.getD (Int.toNat r5) default)).set (Int.toNat r5) (aa.getD (Int.toNat i3) default), i3 - 1, ac, _, upds_of _ _ ⟨rfl, rfl, rfl, rfl, trivial⟩, M.e_inl hM bf, (H.pk [1, 2, 3, 4, 5, 0, 6, 7, 8, 9, 10])⟩
  skip
  refine s_val (x_ld (p := vat ac 3 (Int.toNat i3)) (v := .agg #[I ((aa.getD (Int.toNat i3) default).place), I ((aa.getD (Int.toNat i3) default).lo), I ((aa.getD (Int.toNat i3) default).hi)]) rfl (ld_ag Ag46 Sz46 (At.mono (Mrk_atA (H.os 4) (i := i3) (by omega) (by omega)) (H.ol 4)))) ?_
  refine s_nil ⟨(H.pk [0, 1, 2, 3, 5, 6, 7, 8, 9, 10]), ?_⟩
  refine ts_l rfl ?_
  refine s_val (x_ix (a := ac) (b := I r5) (v := vat ac 3 (Int.toNat r5)) rfl rfl (Sl.ix (α := Mrk) T24.und T24.size (H.os 4) (by omega) (by omega))) ?_
  refine s_nil ⟨(H.pk [0, 1, 2, 3, 5, 6, 7, 8, 9, 10]), ?_⟩
  refine ts_l rfl ?_
  refine s_val (x_ld (p := vat ac 3 (Int.toNat r5)) (v := .agg #[I ((aa.getD (Int.toNat r5) default).place), I ((aa.getD (Int.toNat r5) default).lo), I ((aa.getD (Int.toNat r5) default).hi)]) rfl (ld_ag Ag46 Sz46 (At.mono (Mrk_atA (H.os 4) (i := r5) (by omega) (by omega)) (H.ol 4)))) ?_
  refine s_nil ⟨(H.pk [0, 1, 2, 3, 5, 6, 7, 8, 9, 10]), ?_⟩
  refine ts_l rfl ?_
  refine s_val (x_ix (a := ac) (b := I i3) (v := vat ac 3 (Int.toNat i3)) rfl rfl (Sl.ix (α := Mrk) T24.und T24.size (H.os 4) (by omega) (by omega))) ?_
  refine s_nil ⟨(H.pk [0, 1, 2, 3, 5, 6, 7, 8, 9, 10]), ?_⟩
  refine ts_l rfl ?_
  refine t_ost (k := 4) (i := i3) (l := aa) (l' := aa.set (Int.toNat i3) (aa.getD (Int.toNat r5) default)) (val := .agg #[I ((aa.getD (Int.toNat r5) default).place), I ((aa.getD (Int.toNat r5) default).lo), I ((aa.getD (Int.toNat r5) default).hi)]) (L' := [cBlk aB [aE, I aN, I aO] 68, cBlk aj [ak, ac, am] 27, cDO 39 41 ak aH l4, cRo B_l4, cOwn (α := Mrk) 46 ac (aa.set (Int.toNat i3) (aa.getD (Int.toNat r5) default)), cOwn (α := Rch) 56 am aC, cBlk ap [ag, ai, ae] 27, cOwn (α := Raw 1) 39 ag aF, cRo aG, cOwn (α := Mrk) 46 ai ay, cOwn (α := Rch) 56 ae ab]) H rfl Sz46 (by omega) (by omega) (aa.getD (Int.toNat r5) default) rfl rfl rfl rfl rfl ?_
  intro fC H
  refine s_nil ⟨(H.pk [0, 1, 2, 3, 5, 6, 7, 8, 9, 10]), ?_⟩
  refine ts_l rfl ?_
  refine s_val (x_ix (a := ac) (b := I r5) (v := vat ac 3 (Int.toNat r5)) rfl rfl (Sl.ix (α := Mrk) T24.und T24.size (H.os 4) (by omega) (by omega))) ?_
  refine s_nil ⟨(H.pk [0, 1, 2, 3, 5, 6, 7, 8, 9, 10]), ?_⟩
  refine ts_nil ?_
  refine sr_l rfl ?_
  refine t_ost (k := 4) (i := r5) (l := aa.set (Int.toNat i3) (aa.getD (Int.toNat r5) default)) (l' := (aa.set (Int.toNat i3) (aa.getD (Int.toNat r5) default)).set (Int.toNat r5) (aa.getD (Int.toNat i3) default)) (val := .agg #[I ((aa.getD (Int.toNat i3) default).place), I ((aa.getD (Int.toNat i3) default).lo), I ((aa.getD (Int.toNat i3) default).hi)]) (L' := [cBlk aB [aE, I aN, I aO] 68, cBlk aj [ak, ac, am] 27, cDO 39 41 ak aH l4, cRo B_l4, cOwn (α := Mrk) 46 ac ((aa.set (Int.toNat i3) (aa.getD (Int.toNat r5) default)).set (Int.toNat r5) (aa.getD (Int.toNat i3) default)), cOwn (α := Rch) 56 am aC, cBlk ap [ag, ai, ae] 27, cOwn (α := Raw 1) 39 ag aF, cRo aG, cOwn (α := Mrk) 46 ai ay, cOwn (α := Rch) 56 ae ab]) H rfl Sz46 (by omega) (by omega) (aa.getD (Int.toNat i3) default) rfl rfl rfl rfl rfl ?_
  intro fD H
  refine s_nil ⟨trivial, ?_⟩
  refine sr_nil ?_
  refine W.region rfl ?_
  refine zM (I i3) rfl ?_
  obtain ⟨dt, hM⟩ := M.e_grd hM
  simp only [Bool.and_eq_true, decide_eq_true_eq] at dt
  refine zR i3 1 (i3 - 1) rfl rfl rfl (by omega) ?_
  refine zA (I (i3 - 1)) rfl ?_
  refine s_nil ?_
  exact ⟨bm, bn, aN, aO, (aa.set (Int.toNat i3) (aa.getD (Int.toNat r5) default)).set (Int.toNat r5) (aa.getD (Int.toNat i3) default), i3 - 1, ac, _, upds_of _ _ ⟨rfl, rfl, rfl, rfl, trivial⟩, M.e_inl hM bf, (H.pk [1, 2, 3, 4, 5, 0, 6, 7, 8, 9, 10])⟩
 replace hM := M.e_f hM bv
 simp only [qy1, qy2, qy3, qy4, qy5, qy6, ne_eq, qy7] at bv
 refine W.exit ?_
 have dv := M.e_inr hM bf
 subst dv
 replace hM := dc
 try dsimp only at hM
 refine W.seq ?_
 refine W.region rfl ?_
 refine s_val (x_ld (p := Pq ap) (v := .agg #[ag, ai, ae]) rfl (ldb_ag (ds := [ag, ai, ae]) Ag27 Sz27 (H.bl 6) rfl rfl)) ?_
 obtain ⟨fE, dw, hM⟩ := M.e_bind hM
 refine s_call cf10 [.agg #[ag, ai, ae]] rfl (zbY aJ ay ab (Reads.sup (rdo 7) (Reads.of (k := 8) rfl roLe)) (rowSl rfl (H.get (k := 7) rfl) (roLe _ (H.get (k := 8) rfl)) bj) (rdo 9) (H.os 9) (rdo 10) (H.os 10) dw _ (H.gt 11)) ?_
 rintro vq fF ⟨aR, aD, aP, dx, hvq, au⟩
 subst dx
 subst vq
 try dsimp only at hM
 replace H := H.bk au
 clear au
 refine zM (.tuple #[aP, I aD]) rfl ?_
 refine zX [aP, I aD] aP rfl rfl ?_
 refine zX [aP, I aD] (I aD) rfl rfl ?_
 refine zA aP rfl ?_
 refine zA (I aD) rfl ?_
 refine s_nil ?_
 refine W.seq ?_
 refine W.region rfl ?_
 refine s_val (x_ld (p := Pq aj) (v := .agg #[ak, ac, am]) rfl (ldb_ag (ds := [ak, ac, am]) Ag27 Sz27 (H.bl 1) rfl rfl)) ?_
 obtain ⟨fG, dy, hM⟩ := M.e_bind hM
 refine s_call cf10 [.agg #[ak, ac, am]] rfl (zbY l4 aa aC (Reads.of (k := 2) rfl deLe) (deSl (H.get (k := 2) rfl)) (rdo 4) (H.os 4) (rdo 5) (H.os 5) dy _ (H.gt 12)) ?_
 rintro vq fH ⟨aW, aI, aQ, dz, hvq, au⟩
 subst dz
 subst vq
 try dsimp only at hM
 replace H := H.bk au
 clear au
 refine zM (.tuple #[aQ, I aI]) rfl ?_
 refine zX [aQ, I aI] aQ rfl rfl ?_
 refine zX [aQ, I aI] (I aI) rfl rfl ?_
 refine zA aQ rfl ?_
 refine zA (I aI) rfl ?_
 refine s_nil ?_
 refine W.seq ?_
 refine W.seq ?_
 refine W.region rfl ?_
 refine zM (I aD) rfl ?_
 refine zC aD 0 (aD != 0) rfl rfl rfl ?_
 refine zM (B (aD != 0)) rfl ?_
 refine g_val (!(aD != 0)) (gy_f rfl) (fun hg => x_mv (v := I aI) rfl) ?_
 refine g_val (!(aD != 0)) (gy_f rfl) (fun hg => x_cmp (kd := .i64) (a := aI) (b := 0) (r := aI != 0) (gd_of (c := !(aD != 0)) hg (I aI)) rfl rfl) ?_
 refine s_val (x_por (b := aD != 0) (r := aI != 0) rfl rfl (fun hb => gd_of (c := !(aD != 0)) (by first | exact hb | (rw [hb]; rfl) | simp_all) (B (aI != 0)))) ?_
 refine zM (B ((aD != 0) || (aI != 0))) rfl ?_
 refine g_val (!((aD != 0) || (aI != 0))) (gy_f rfl) (fun hg => x_mv (v := aP) rfl) ?_
 refine g_val (!((aD != 0) || (aI != 0))) (gy_f rfl) (fun hg => x_lenS T28.und (gd_of (c := !((aD != 0) || (aI != 0))) hg (aP)) (H.os 1)) ?_
 refine g_val (!((aD != 0) || (aI != 0))) (gy_f rfl) (fun hg => x_mv (v := aQ) rfl) ?_
 refine g_val (!((aD != 0) || (aI != 0))) (gy_f rfl) (fun hg => x_lenS T28.und (gd_of (c := !((aD != 0) || (aI != 0))) hg (aQ)) (H.os 0)) ?_
 refine g_val (!((aD != 0) || (aI != 0))) (gy_f rfl) (fun hg => x_cmp (kd := .i64) (a := (aR.length : Int)) (b := (aW.length : Int)) (r := (aR.length : Int) != (aW.length : Int)) (gd_of (c := !((aD != 0) || (aI != 0))) hg (I (aR.length : Int))) (gd_of (c := !((aD != 0) || (aI != 0))) hg (I (aW.length : Int))) rfl) ?_
 refine s_val (x_por (b := ((aD != 0) || (aI != 0))) (r := (aR.length : Int) != (aW.length : Int)) rfl rfl (fun hb => gd_of (c := !((aD != 0) || (aI != 0))) (by first | exact hb | (rw [hb]; rfl) | simp_all) (B ((aR.length : Int) != (aW.length : Int))))) ?_
 refine s_nil ?_
 refine W.cond (((aD != 0) || (aI != 0)) || ((aR.length : Int) != (aW.length : Int))) rfl (fun bJ => ?_) (fun bJ => ?_)
 ·replace hM := M.e_t hM bJ
  refine W.seq ?_
  refine W.region rfl ?_
  refine zA (B false) rfl ?_
  refine s_nil ?_
  replace H := H.pk []
  refine W.ret ?_
  have aZ := M.e_pure hM
  exact ⟨_, resE_tmp rfl, ⟨false, aZ, rfl, H⟩⟩
 replace hM := M.e_f hM bJ
 refine W.skip ?_
 refine W.seq ?_
 refine W.seq ?_
 refine W.region rfl ?_
 refine zM aP rfl ?_
 have fI := ((H.os 1)).len_le
 refine s_val (x_lenS T28.und rfl (H.os 1)) ?_
 refine s_val (x_fa (a := Pq ap) (v := Oq ap 1) rfl (fa_blk (o := 0) Fd27_1 Sz24)) ?_
 refine s_val (x_ld (p := Oq ap 1) (v := ai) rfl (ldb_sc Sc24 (H.bl 8) rfl)) ?_
 have fJ := ((H.os 11)).len_le
 refine s_val (x_lenS T24.und rfl (H.os 11)) ?_
 refine zC (aR.length : Int) (ay.length : Int) (decide ((aR.length : Int) < (ay.length : Int))) rfl rfl rfl ?_
 refine s_nil ?_
 refine W.cond (decide ((aR.length : Int) < (ay.length : Int))) rfl (fun bw => ?_) (fun bw => ?_)
 ·replace hM := M.e_t hM bw
  simp only [qy1, qy2, qy3, qy4, qy5, qy6, ne_eq, qy7] at bw
  refine W.seq ?_
  refine W.region rfl ?_
  obtain ⟨fK, dA, hM⟩ := M.e_bind hM
  refine s_call cf11 [] rfl (zcj dA _ (H.gt 13)) ?_
  rintro vq fL ⟨r6, dB, hvq, au⟩
  subst dB
  subst vq
  try dsimp only at hM
  replace H := H.bk au
  clear au
  refine zA (B r6) rfl ?_
  refine s_nil ?_
  replace H := H.pk []
  refine W.ret ?_
  have aZ := M.e_pure hM
  exact ⟨_, resE_tmp rfl, ⟨r6, aZ, rfl, H⟩⟩
 replace hM := M.e_f hM bw
 simp only [qy1, qy2, qy3, qy4, qy5, qy6, ne_eq, qy7] at bw
 refine W.skip ?_
 refine W.seq ?_
 refine W.region rfl ?_
 refine s_val (x_ld (p := Pq ap) (v := .agg #[ag, ai, ae]) rfl (ldb_ag (ds := [ag, ai, ae]) Ag27 Sz27 (H.bl 8) rfl rfl)) ?_
 refine zM aP rfl ?_
 obtain ⟨fM, dC, hM⟩ := M.e_bind hM
 refine s_call cf12 [.agg #[ag, ai, ae], aP] rfl (zbT aJ ay ab aR (Reads.sup (rdo 9) (Reads.of (k := 10) rfl roLe)) (rowSl rfl (H.get (k := 9) rfl) (roLe _ (H.get (k := 10) rfl)) bj) (rdo 11) (H.os 11) (rdo 12) (H.os 12) (rdo 1) (H.os 1) dC _ (H.gt 13)) ?_
 rintro vq fN ⟨ao, aw, aA, dD, hvq, au⟩
 subst dD
 subst vq
 try dsimp only at hM
 replace H := H.bk au
 clear au
 refine zM (.tuple #[aA, I aw]) rfl ?_
 refine zX [aA, I aw] aA rfl rfl ?_
 refine zX [aA, I aw] (I aw) rfl rfl ?_
 refine zA aA rfl ?_
 refine zA (I aw) rfl ?_
 refine s_nil ?_
 refine W.seq ?_
 refine W.region rfl ?_
 refine s_val (x_ld (p := Pq aj) (v := .agg #[ak, ac, am]) rfl (ldb_ag (ds := [ak, ac, am]) Ag27 Sz27 (H.bl 3) rfl rfl)) ?_
 refine zM aQ rfl ?_
 obtain ⟨fO, dE, hM⟩ := M.e_bind hM
 refine s_call cf12 [.agg #[ak, ac, am], aQ] rfl (zbT l4 aa aC aW (Reads.of (k := 4) rfl deLe) (deSl (H.get (k := 4) rfl)) (rdo 6) (H.os 6) (rdo 7) (H.os 7) (rdo 1) (H.os 1) dE _ (H.gt 14)) ?_
 rintro vq fP ⟨bo, ax, bg, dF, hvq, au⟩
 subst dF
 subst vq
 try dsimp only at hM
 replace H := H.bk au
 clear au
 refine zM (.tuple #[bg, I ax]) rfl ?_
 refine zX [bg, I ax] bg rfl rfl ?_
 refine zX [bg, I ax] (I ax) rfl rfl ?_
 refine zA bg rfl ?_
 refine zA (I ax) rfl ?_
 refine s_nil ?_
 refine W.seq ?_
 refine W.seq ?_
 refine W.region rfl ?_
 refine zM (I aw) rfl ?_
 refine zC aw 0 (aw != 0) rfl rfl rfl ?_
 refine zM (B (aw != 0)) rfl ?_
 refine g_val (!(aw != 0)) (gy_f rfl) (fun hg => x_mv (v := I ax) rfl) ?_
 refine g_val (!(aw != 0)) (gy_f rfl) (fun hg => x_cmp (kd := .i64) (a := ax) (b := 0) (r := ax != 0) (gd_of (c := !(aw != 0)) hg (I ax)) rfl rfl) ?_
 refine s_val (x_por (b := aw != 0) (r := ax != 0) rfl rfl (fun hb => gd_of (c := !(aw != 0)) (by first | exact hb | (rw [hb]; rfl) | simp_all) (B (ax != 0)))) ?_
 refine zM (B ((aw != 0) || (ax != 0))) rfl ?_
 refine g_val (!((aw != 0) || (ax != 0))) (gy_f rfl) (fun hg => x_mv (v := aA) rfl) ?_
 refine g_val (!((aw != 0) || (ax != 0))) (gy_f rfl) (fun hg => x_lenS T52.und (gd_of (c := !((aw != 0) || (ax != 0))) hg (aA)) (H.os 1)) ?_
 refine g_val (!((aw != 0) || (ax != 0))) (gy_f rfl) (fun hg => x_fa (a := Pq ap) (v := Pq ap) rfl (fa_blk (o := 0) Fd27_0 Sz23)) ?_
 refine g_val (!((aw != 0) || (ax != 0))) (gy_f rfl) (fun hg => x_ld (p := Pq ap) (v := ag) (gd_of (c := !((aw != 0) || (ax != 0))) hg (Pq ap)) (ldb_sc Sc23 (H.bl 10) rfl)) ?_
 refine g_val (!((aw != 0) || (ax != 0))) (gy_f rfl) (fun hg => x_lenS T23.und (gd_of (c := !((aw != 0) || (ax != 0))) hg (ag)) (rowSl rfl (H.get (k := 11) rfl) (roLe _ (H.get (k := 12) rfl)) bj)) ?_
 refine g_val (!((aw != 0) || (ax != 0))) (gy_f rfl) (fun hg => x_cmp (kd := .i64) (a := (ao.length : Int)) (b := (aJ.length : Int)) (r := (ao.length : Int) != (aJ.length : Int)) (gd_of (c := !((aw != 0) || (ax != 0))) hg (I (ao.length : Int))) (gd_of (c := !((aw != 0) || (ax != 0))) hg (I (aJ.length : Int))) rfl) ?_
 refine s_val (x_por (b := ((aw != 0) || (ax != 0))) (r := (ao.length : Int) != (aJ.length : Int)) rfl rfl (fun hb => gd_of (c := !((aw != 0) || (ax != 0))) (by first | exact hb | (rw [hb]; rfl) | simp_all) (B ((ao.length : Int) != (aJ.length : Int))))) ?_
 refine zM (B (((aw != 0) || (ax != 0)) || ((ao.length : Int) != (aJ.length : Int)))) rfl ?_
 refine g_val (!(((aw != 0) || (ax != 0)) || ((ao.length : Int) != (aJ.length : Int)))) (gy_f rfl) (fun hg => x_mv (v := bg) rfl) ?_
 refine g_val (!(((aw != 0) || (ax != 0)) || ((ao.length : Int) != (aJ.length : Int)))) (gy_f rfl) (fun hg => x_lenS T52.und (gd_of (c := !(((aw != 0) || (ax != 0)) || ((ao.length : Int) != (aJ.length : Int)))) hg (bg)) (H.os 0)) ?_
 refine g_val (!(((aw != 0) || (ax != 0)) || ((ao.length : Int) != (aJ.length : Int)))) (gy_f rfl) (fun hg => x_mv (v := aA) rfl) ?_
 refine g_val (!(((aw != 0) || (ax != 0)) || ((ao.length : Int) != (aJ.length : Int)))) (gy_f rfl) (fun hg => x_lenS T52.und (gd_of (c := !(((aw != 0) || (ax != 0)) || ((ao.length : Int) != (aJ.length : Int)))) hg (aA)) (H.os 1)) ?_
 refine g_val (!(((aw != 0) || (ax != 0)) || ((ao.length : Int) != (aJ.length : Int)))) (gy_f rfl) (fun hg => x_cmp (kd := .i64) (a := (bo.length : Int)) (b := (ao.length : Int)) (r := (bo.length : Int) != (ao.length : Int)) (gd_of (c := !(((aw != 0) || (ax != 0)) || ((ao.length : Int) != (aJ.length : Int)))) hg (I (bo.length : Int))) (gd_of (c := !(((aw != 0) || (ax != 0)) || ((ao.length : Int) != (aJ.length : Int)))) hg (I (ao.length : Int))) rfl) ?_
 refine s_val (x_por (b := (((aw != 0) || (ax != 0)) || ((ao.length : Int) != (aJ.length : Int)))) (r := (bo.length : Int) != (ao.length : Int)) rfl rfl (fun hb => gd_of (c := !(((aw != 0) || (ax != 0)) || ((ao.length : Int) != (aJ.length : Int)))) (by first | exact hb | (rw [hb]; rfl) | simp_all) (B ((bo.length : Int) != (ao.length : Int))))) ?_
 refine s_nil ?_
 replace H := H.pk [1, 2, 3, 4, 5, 6, 7, 8, 10, 11, 12, 13, 14]
 refine W.cond ((((aw != 0) || (ax != 0)) || ((ao.length : Int) != (aJ.length : Int))) || ((bo.length : Int) != (ao.length : Int))) rfl (fun bK => ?_) (fun bK => ?_)
 ·replace hM := M.e_t hM bK
  refine W.seq ?_
  refine W.region rfl ?_
  refine zA (B false) rfl ?_
  refine s_nil ?_
  replace H := H.pk []
  refine W.ret ?_
  have aZ := M.e_pure hM
  exact ⟨_, resE_tmp rfl, ⟨false, aZ, rfl, H⟩⟩
 replace hM := M.e_f hM bK
 refine W.skip ?_
 refine W.seq ?_
 refine W.seq ?_
 refine W.region rfl ?_
 refine zA (I 0) rfl ?_
 refine s_nil ?_
 refine W.block ?_
 obtain ⟨dG, bL, b8⟩ := M.e_bind hM
 obtain ⟨bp, bL⟩ := M.e_iter bL
 refine W.loop (fun m σ W => ∃ (i4 : Nat) (ρ : Env), σ = upds ρ [(9, Pq ap), (14, Pq aj), (21, aP), (23, aQ), (25, aA), (27, I (i4 : Int))] /\ M.iterN (zbc aJ ay ab aC l4 aa aR aW ao) m i4 = some dG /\ St w W [cOwn (α := Span) 44 aA ao, cOwn (α := Int) 3 aQ aW, cOwn (α := Int) 3 aP aR, cBlk aj [ak, ac, am] 27, cDO 39 41 ak aH l4, cRo B_l4, cOwn (α := Mrk) 46 ac aa, cOwn (α := Rch) 56 am aC, cBlk ap [ag, ai, ae] 27, cOwn (α := Raw 1) 39 ag aF, cRo aG, cOwn (α := Mrk) 46 ai ay, cOwn (α := Rch) 56 ae ab] R) ?_ ?_
 ·exact ⟨_, 0, _, upds_of _ _ ⟨rfl, rfl, rfl, rfl, rfl, rfl, trivial⟩, bL, H⟩
 rintro fQ σ fR ⟨i4, ρ, rfl, b9, H⟩
 obtain ⟨cb, cc, fS, hM, bD⟩ := M.e_iterN b9
 simp only [zbc] at hM
 clear b9
 refine W.seq ?_
 refine W.seq ?_
 refine W.region rfl ?_
 refine zM (I (i4 : Int)) rfl ?_
 refine s_val (x_fa (a := Pq ap) (v := Oq ap 2) rfl (fa_blk (o := 0) Fd27_2 Sz25)) ?_
 refine s_val (x_ld (p := Oq ap 2) (v := ae) rfl (ldb_sc Sc25 (H.bl 8) rfl)) ?_
 have fT := ((H.os 12)).len_le
 refine s_val (x_lenS T25.und rfl (H.os 12)) ?_
 refine zC (i4 : Int) (ab.length : Int) (decide ((i4 : Int) < (ab.length : Int))) rfl rfl rfl ?_
 refine s_nil ?_
 refine W.cond (decide ((i4 : Int) < (ab.length : Int))) rfl (fun bx => ?_) (fun bx => ?_)
 ·replace hM := M.e_t hM bx
  simp only [qy1, qy2, qy3, qy4, qy5, qy6, ne_eq, qy7] at bx
  refine W.skip ?_
  refine W.seq ?_
  refine W.block ?_
  refine W.seq ?_
  refine W.region rfl ?_
  refine zA (B true) rfl ?_
  refine s_nil ?_
  refine W.seq ?_
  refine W.seq ?_
  refine W.draw (fun W => St w W [cOwn (α := Span) 44 aA ao, cOwn (α := Int) 3 aQ aW, cOwn (α := Int) 3 aP aR, cBlk aj [ak, ac, am] 27, cDO 39 41 ak aH l4, cRo B_l4, cOwn (α := Mrk) 46 ac aa, cOwn (α := Rch) 56 am aC, cBlk ap [ag, ai, ae] 27, cOwn (α := Raw 1) 39 ag aF, cRo aG, cOwn (α := Mrk) 46 ai ay, cOwn (α := Rch) 56 ae ab] R) [(0, true), (1, true), (2, true), (3, true), (4, true), (5, true), (6, true), (7, true), (8, true), (9, true), (10, true), (11, true), (14, true), (12, false), (13, true)] mixed (by decide +kernel) rfl ?_
  intro fU az
  replace H := H.ext az
  clear az
  refine ⟨(H.pk [0, 1, 2, 3, 4, 5, 6, 7, 8, 9, 10, 11, 12]), ?_⟩
  refine d_q rfl (fun w' H => x_fa (a := Pq ap) (v := Oq ap 2) rfl (fa_blk (o := 0) Fd27_2 Sz25)) ?_
  refine d_q rfl (fun w' H => x_ld (p := Oq ap 2) (v := ae) rfl (ldb_sc Sc25 (H.bl 8) rfl)) ?_
  refine d_q rfl (fun w' H => x_mv (v := I (i4 : Int)) rfl) ?_
  obtain ⟨dH, hM⟩ := M.e_grd hM
  simp only [Bool.and_eq_true, decide_eq_true_eq] at dH
  refine d_q rfl (fun w' H => x_ix (a := ae) (b := I (i4 : Int)) (v := vat ae 5 (Int.toNat (i4 : Int))) rfl rfl (Sl.ix (α := Rch) T25.und T25.size (H.os 12) (by omega) (by omega))) ?_
  refine d_q rfl (fun w' H => x_fa (a := vat ae 5 (Int.toNat (i4 : Int))) (v := fat (vat ae 5 (Int.toNat (i4 : Int))) 0) rfl (fa_pl Fd56_0 Sz3 (Sl.pl (i := (i4 : Int)) (H.os 12) (by omega) (by omega)))) ?_
  refine d_q rfl (fun w' H => x_ld (p := fat (vat ae 5 (Int.toNat (i4 : Int))) 0) (v := I ((ab.getD i4 default).up)) rfl (ld_sc Sc3 (At.mono (Rch_at0 (H.os 12) (i := (i4 : Int)) (by omega) (by omega)) (H.ol 12)))) ?_
  refine d_q rfl (fun w' H => x_fa (a := Pq ap) (v := Oq ap 2) rfl (fa_blk (o := 0) Fd27_2 Sz25)) ?_
  refine d_q rfl (fun w' H => x_ld (p := Oq ap 2) (v := ae) rfl (ldb_sc Sc25 (H.bl 8) rfl)) ?_
  refine d_q rfl (fun w' H => x_mv (v := I (i4 : Int)) rfl) ?_
  refine d_q rfl (fun w' H => x_ix (a := ae) (b := I (i4 : Int)) (v := vat ae 5 (Int.toNat (i4 : Int))) rfl rfl (Sl.ix (α := Rch) T25.und T25.size (H.os 12) (by omega) (by omega))) ?_
  refine d_q rfl (fun w' H => x_fa (a := vat ae 5 (Int.toNat (i4 : Int))) (v := fat (vat ae 5 (Int.toNat (i4 : Int))) 1) rfl (fa_pl Fd56_1 Sz3 (Sl.pl (i := (i4 : Int)) (H.os 12) (by omega) (by omega)))) ?_
  refine d_q rfl (fun w' H => x_ld (p := fat (vat ae 5 (Int.toNat (i4 : Int))) 1) (v := I ((ab.getD i4 default).down)) rfl (ld_sc Sc3 (At.mono (Rch_at1 (H.os 12) (i := (i4 : Int)) (by omega) (by omega)) (H.ol 12)))) ?_
  refine d_q rfl (fun w' H => x_mv (v := I 0) rfl) ?_
  refine d_l rfl ?_
  refine t_bs (α := Int) T28 [I ((ab.getD i4 default).up), I ((ab.getD i4 default).down)] [((ab.getD i4 default).up : Int), ((ab.getD i4 default).down : Int)] H rfl (.cons rfl (Flat.rep_enc _ ((ab.getD i4 default).up : Int)) <| .cons rfl (Flat.rep_enc _ ((ab.getD i4 default).down : Int)) <| .nil) rfl rfl rfl ?_
  intro bz fV H
  have fW := Sl.cells (H.os 0)
  have fX := Sl.oc (H.os 0)
  have cd := ownSl (H.get (k := 0) rfl)
  refine s_nil ⟨(H.pk [1, 2, 3, 4, 5, 6, 7, 8, 9, 10, 11, 12, 13]), ?_⟩
  have fY := (cd).len_le
  refine d_q rfl (fun w' H => x_lenS T28.und rfl cd) ?_
  refine d_nil ?_
  refine W.block ?_
  obtain ⟨dI, bM, dJ⟩ := M.e_bind hM
  obtain ⟨bp, bM⟩ := M.e_iter bM
  refine W.loop (fun m σ W => ∃ (bounded : Bool) (s5 : Nat) (ρ : Env), σ = upds ρ [(9, Pq ap), (14, Pq aj), (21, aP), (23, aQ), (25, aA), (27, I (i4 : Int)), (28, B bounded), (241, bz), (242, I (([((ab.getD i4 default).up : Int), ((ab.getD i4 default).down : Int)]).length : Int)), (243, I (s5 : Int))] /\ M.iterN (zax ab ao i4) m (bounded, s5) = some dI /\ St w W [cOwn (α := Int) 3 bz ([((ab.getD i4 default).up : Int), ((ab.getD i4 default).down : Int)]), cOwn (α := Span) 44 aA ao, cOwn (α := Int) 3 aQ aW, cOwn (α := Int) 3 aP aR, cBlk aj [ak, ac, am] 27, cDO 39 41 ak aH l4, cRo B_l4, cOwn (α := Mrk) 46 ac aa, cOwn (α := Rch) 56 am aC, cBlk ap [ag, ai, ae] 27, cOwn (α := Raw 1) 39 ag aF, cRo aG, cOwn (α := Mrk) 46 ai ay, cOwn (α := Rch) 56 ae ab] R) ?_ ?_
  ·exact ⟨_, true, 0, _, upds_of _ _ ⟨rfl, rfl, rfl, rfl, rfl, rfl, rfl, rfl, rfl, rfl, trivial⟩, bM, H⟩
  rintro fZ σ f0 ⟨bounded, s5, ρ, rfl, ce, H⟩
  obtain ⟨dK, dL, f4, hM, cf⟩ := M.e_iterN ce
  simp only [zax] at hM
  clear ce
  refine W.seq ?_
  refine W.region rfl ?_
  refine zC (s5 : Int) (([((ab.getD i4 default).up : Int), ((ab.getD i4 default).down : Int)]).length : Int) (decide ((s5 : Int) < (([((ab.getD i4 default).up : Int), ((ab.getD i4 default).down : Int)]).length : Int))) rfl rfl rfl ?_
  refine s_nil ?_
  refine W.seq ?_
  refine W.cond (decide ((s5 : Int) < (([((ab.getD i4 default).up : Int), ((ab.getD i4 default).down : Int)]).length : Int))) rfl (fun bA => ?_) (fun bA => ?_)
  ·replace hM := M.e_t hM bA
   simp only [qy1, qy2, qy3, qy4, qy5, qy6, ne_eq, qy7] at bA
   refine W.skip ?_
   refine W.seq ?_
   refine W.block ?_
   refine W.seq ?_
   refine W.region rfl ?_
   obtain ⟨dM, hM⟩ := M.e_grd hM
   simp only [Bool.and_eq_true, decide_eq_true_eq] at dM
   refine s_val (x_ix (a := bz) (b := I (s5 : Int)) (v := vat bz 1 (Int.toNat (s5 : Int))) rfl rfl (Sl.ix (α := Int) T28.und T28.size (H.os 0) (by omega) (by omega))) ?_
   refine s_val (x_ld (p := vat bz 1 (Int.toNat (s5 : Int))) (v := I (([((ab.getD i4 default).up : Int), ((ab.getD i4 default).down : Int)]).getD s5 0)) rfl (ld_sc Sc3 (At.mono (Int_at (H.os 0) (i := (s5 : Int)) (by omega) (by omega)) (H.ol 0)))) ?_
   refine zA (I (([((ab.getD i4 default).up : Int), ((ab.getD i4 default).down : Int)]).getD s5 0)) rfl ?_
   refine s_nil ?_
   refine W.region rfl ?_
   refine zM (B bounded) rfl ?_
   refine zM (B bounded) rfl ?_
   refine g_val bounded (gy_t rfl) (fun hg => x_mv (v := aA) rfl) ?_
   refine g_val bounded (gy_t rfl) (fun hg => x_mv (v := I (([((ab.getD i4 default).up : Int), ((ab.getD i4 default).down : Int)]).getD s5 0)) rfl) ?_
   obtain ⟨a6, hM⟩ := M.e_grd hM
   replace a6 := M.imp_of a6
   simp only [Bool.and_eq_true, decide_eq_true_eq] at a6
   refine g_val bounded (gy_t rfl) (fun hg => x_ix (a := aA) (b := I (([((ab.getD i4 default).up : Int), ((ab.getD i4 default).down : Int)]).getD s5 0)) (v := vat aA 2 (Int.toNat (([((ab.getD i4 default).up : Int), ((ab.getD i4 default).down : Int)]).getD s5 0))) (gd_of (c := bounded) hg (aA)) (gd_of (c := bounded) hg (I (([((ab.getD i4 default).up : Int), ((ab.getD i4 default).down : Int)]).getD s5 0))) (Sl.ix (α := Span) T52.und T52.size (H.os 1) (by have aq := a6.resolve_left (by rw [hg]; decide); first | exact aq | exact aq.1 | exact aq.2 | omega | (have az := hg; simp at az; omega)) (by have aq := a6.resolve_left (by rw [hg]; decide); first | exact aq | exact aq.1 | exact aq.2 | omega | (have az := hg; simp at az; omega)))) ?_
   refine g_val bounded (gy_t rfl) (fun hg => x_fa (a := vat aA 2 (Int.toNat (([((ab.getD i4 default).up : Int), ((ab.getD i4 default).down : Int)]).getD s5 0))) (v := fat (vat aA 2 (Int.toNat (([((ab.getD i4 default).up : Int), ((ab.getD i4 default).down : Int)]).getD s5 0))) 0) (gd_of (c := bounded) hg (vat aA 2 (Int.toNat (([((ab.getD i4 default).up : Int), ((ab.getD i4 default).down : Int)]).getD s5 0)))) (fa_pl Fd44_0 Sz3 (Sl.pl (i := ([((ab.getD i4 default).up : Int), ((ab.getD i4 default).down : Int)]).getD s5 0) (H.os 1) (by have aq := a6.resolve_left (by rw [hg]; decide); first | exact aq | exact aq.1 | exact aq.2 | omega | (have az := hg; simp at az; omega)) (by have aq := a6.resolve_left (by rw [hg]; decide); first | exact aq | exact aq.1 | exact aq.2 | omega | (have az := hg; simp at az; omega))))) ?_
   refine g_val bounded (gy_t rfl) (fun hg => x_ld (p := fat (vat aA 2 (Int.toNat (([((ab.getD i4 default).up : Int), ((ab.getD i4 default).down : Int)]).getD s5 0))) 0) (v := I ((ao.getD (Int.toNat (([((ab.getD i4 default).up : Int), ((ab.getD i4 default).down : Int)]).getD s5 0)) default).lo)) (gd_of (c := bounded) hg (fat (vat aA 2 (Int.toNat (([((ab.getD i4 default).up : Int), ((ab.getD i4 default).down : Int)]).getD s5 0))) 0)) (ld_sc Sc3 (At.mono (Span_at0 (H.os 1) (i := ([((ab.getD i4 default).up : Int), ((ab.getD i4 default).down : Int)]).getD s5 0) (by have aq := a6.resolve_left (by rw [hg]; decide); first | exact aq | exact aq.1 | exact aq.2 | omega | (have az := hg; simp at az; omega)) (by have aq := a6.resolve_left (by rw [hg]; decide); first | exact aq | exact aq.1 | exact aq.2 | omega | (have az := hg; simp at az; omega))) (H.ol 1)))) ?_
   refine g_val bounded (gy_t rfl) (fun hg => x_cmp (kd := .i64) (a := (ao.getD (Int.toNat (([((ab.getD i4 default).up : Int), ((ab.getD i4 default).down : Int)]).getD s5 0)) default).lo) (b := 0) (r := decide (0 < ((ao.getD (Int.toNat (([((ab.getD i4 default).up : Int), ((ab.getD i4 default).down : Int)]).getD s5 0)) default).lo))) (gd_of (c := bounded) hg (I ((ao.getD (Int.toNat (([((ab.getD i4 default).up : Int), ((ab.getD i4 default).down : Int)]).getD s5 0)) default).lo))) rfl rfl) ?_
   refine s_val (x_pand (b := bounded) (r := decide (0 < ((ao.getD (Int.toNat (([((ab.getD i4 default).up : Int), ((ab.getD i4 default).down : Int)]).getD s5 0)) default).lo))) rfl (fun hb => gd_of (c := bounded) (by first | exact hb | (rw [hb]; rfl) | simp_all) (B (decide (0 < ((ao.getD (Int.toNat (([((ab.getD i4 default).up : Int), ((ab.getD i4 default).down : Int)]).getD s5 0)) default).lo))))) rfl) ?_
   refine zM (B (bounded && (decide (0 < ((ao.getD (Int.toNat (([((ab.getD i4 default).up : Int), ((ab.getD i4 default).down : Int)]).getD s5 0)) default).lo))))) rfl ?_
   refine g_val (bounded && (decide (0 < ((ao.getD (Int.toNat (([((ab.getD i4 default).up : Int), ((ab.getD i4 default).down : Int)]).getD s5 0)) default).lo)))) (gy_t rfl) (fun hg => x_mv (v := aA) rfl) ?_
   refine g_val (bounded && (decide (0 < ((ao.getD (Int.toNat (([((ab.getD i4 default).up : Int), ((ab.getD i4 default).down : Int)]).getD s5 0)) default).lo)))) (gy_t rfl) (fun hg => x_mv (v := I (([((ab.getD i4 default).up : Int), ((ab.getD i4 default).down : Int)]).getD s5 0)) rfl) ?_
   obtain ⟨a7, hM⟩ := M.e_grd hM
   replace a7 := M.imp_of a7
   simp only [Bool.and_eq_true, decide_eq_true_eq] at a7
   refine g_val (bounded && (decide (0 < ((ao.getD (Int.toNat (([((ab.getD i4 default).up : Int), ((ab.getD i4 default).down : Int)]).getD s5 0)) default).lo)))) (gy_t rfl) (fun hg => x_ix (a := aA) (b := I (([((ab.getD i4 default).up : Int), ((ab.getD i4 default).down : Int)]).getD s5 0)) (v := vat aA 2 (Int.toNat (([((ab.getD i4 default).up : Int), ((ab.getD i4 default).down : Int)]).getD s5 0))) (gd_of (c := (bounded && (decide (0 < ((ao.getD (Int.toNat (([((ab.getD i4 default).up : Int), ((ab.getD i4 default).down : Int)]).getD s5 0)) default).lo))))) hg (aA)) (gd_of (c := (bounded && (decide (0 < ((ao.getD (Int.toNat (([((ab.getD i4 default).up : Int), ((ab.getD i4 default).down : Int)]).getD s5 0)) default).lo))))) hg (I (([((ab.getD i4 default).up : Int), ((ab.getD i4 default).down : Int)]).getD s5 0))) (Sl.ix (α := Span) T52.und T52.size (H.os 1) (by have aq := a7.resolve_left (by rw [hg]; decide); first | exact aq | exact aq.1 | exact aq.2 | omega | (have az := hg; simp at az; omega)) (by have aq := a7.resolve_left (by rw [hg]; decide); first | exact aq | exact aq.1 | exact aq.2 | omega | (have az := hg; simp at az; omega)))) ?_
   refine g_val (bounded && (decide (0 < ((ao.getD (Int.toNat (([((ab.getD i4 default).up : Int), ((ab.getD i4 default).down : Int)]).getD s5 0)) default).lo)))) (gy_t rfl) (fun hg => x_fa (a := vat aA 2 (Int.toNat (([((ab.getD i4 default).up : Int), ((ab.getD i4 default).down : Int)]).getD s5 0))) (v := fat (vat aA 2 (Int.toNat (([((ab.getD i4 default).up : Int), ((ab.getD i4 default).down : Int)]).getD s5 0))) 1) (gd_of (c := (bounded && (decide (0 < ((ao.getD (Int.toNat (([((ab.getD i4 default).up : Int), ((ab.getD i4 default).down : Int)]).getD s5 0)) default).lo))))) hg (vat aA 2 (Int.toNat (([((ab.getD i4 default).up : Int), ((ab.getD i4 default).down : Int)]).getD s5 0)))) (fa_pl Fd44_1 Sz3 (Sl.pl (i := ([((ab.getD i4 default).up : Int), ((ab.getD i4 default).down : Int)]).getD s5 0) (H.os 1) (by have aq := a7.resolve_left (by rw [hg]; decide); first | exact aq | exact aq.1 | exact aq.2 | omega | (have az := hg; simp at az; omega)) (by have aq := a7.resolve_left (by rw [hg]; decide); first | exact aq | exact aq.1 | exact aq.2 | omega | (have az := hg; simp at az; omega))))) ?_
   refine g_val (bounded && (decide (0 < ((ao.getD (Int.toNat (([((ab.getD i4 default).up : Int), ((ab.getD i4 default).down : Int)]).getD s5 0)) default).lo)))) (gy_t rfl) (fun hg => x_ld (p := fat (vat aA 2 (Int.toNat (([((ab.getD i4 default).up : Int), ((ab.getD i4 default).down : Int)]).getD s5 0))) 1) (v := I ((ao.getD (Int.toNat (([((ab.getD i4 default).up : Int), ((ab.getD i4 default).down : Int)]).getD s5 0)) default).hi)) (gd_of (c := (bounded && (decide (0 < ((ao.getD (Int.toNat (([((ab.getD i4 default).up : Int), ((ab.getD i4 default).down : Int)]).getD s5 0)) default).lo))))) hg (fat (vat aA 2 (Int.toNat (([((ab.getD i4 default).up : Int), ((ab.getD i4 default).down : Int)]).getD s5 0))) 1)) (ld_sc Sc3 (At.mono (Span_at1 (H.os 1) (i := ([((ab.getD i4 default).up : Int), ((ab.getD i4 default).down : Int)]).getD s5 0) (by have aq := a7.resolve_left (by rw [hg]; decide); first | exact aq | exact aq.1 | exact aq.2 | omega | (have az := hg; simp at az; omega)) (by have aq := a7.resolve_left (by rw [hg]; decide); first | exact aq | exact aq.1 | exact aq.2 | omega | (have az := hg; simp at az; omega))) (H.ol 1)))) ?_
   refine g_val (bounded && (decide (0 < ((ao.getD (Int.toNat (([((ab.getD i4 default).up : Int), ((ab.getD i4 default).down : Int)]).getD s5 0)) default).lo)))) (gy_t rfl) (fun hg => x_cmp (kd := .i64) (a := (ao.getD (Int.toNat (([((ab.getD i4 default).up : Int), ((ab.getD i4 default).down : Int)]).getD s5 0)) default).hi) (b := 2000) (r := decide (((ao.getD (Int.toNat (([((ab.getD i4 default).up : Int), ((ab.getD i4 default).down : Int)]).getD s5 0)) default).hi) < 2000)) (gd_of (c := (bounded && (decide (0 < ((ao.getD (Int.toNat (([((ab.getD i4 default).up : Int), ((ab.getD i4 default).down : Int)]).getD s5 0)) default).lo))))) hg (I ((ao.getD (Int.toNat (([((ab.getD i4 default).up : Int), ((ab.getD i4 default).down : Int)]).getD s5 0)) default).hi))) rfl rfl) ?_
   refine s_val (x_pand (b := (bounded && (decide (0 < ((ao.getD (Int.toNat (([((ab.getD i4 default).up : Int), ((ab.getD i4 default).down : Int)]).getD s5 0)) default).lo))))) (r := decide (((ao.getD (Int.toNat (([((ab.getD i4 default).up : Int), ((ab.getD i4 default).down : Int)]).getD s5 0)) default).hi) < 2000)) rfl (fun hb => gd_of (c := (bounded && (decide (0 < ((ao.getD (Int.toNat (([((ab.getD i4 default).up : Int), ((ab.getD i4 default).down : Int)]).getD s5 0)) default).lo))))) (by first | exact hb | (rw [hb]; rfl) | simp_all) (B (decide (((ao.getD (Int.toNat (([((ab.getD i4 default).up : Int), ((ab.getD i4 default).down : Int)]).getD s5 0)) default).hi) < 2000)))) rfl) ?_
   refine zA (B ((bounded && (decide (0 < ((ao.getD (Int.toNat (([((ab.getD i4 default).up : Int), ((ab.getD i4 default).down : Int)]).getD s5 0)) default).lo)))) && (decide (((ao.getD (Int.toNat (([((ab.getD i4 default).up : Int), ((ab.getD i4 default).down : Int)]).getD s5 0)) default).hi) < 2000)))) rfl ?_
   refine s_nil ?_
   refine W.region rfl ?_
   refine zR (s5 : Int) 1 ((s5 : Int) + 1) rfl rfl rfl (by omega) ?_
   refine zM (I ((s5 : Int) + 1)) rfl ?_
   refine s_nil ?_
   exact ⟨dK, dL, ((bounded && (decide (0 < ((ao.getD (Int.toNat (([((ab.getD i4 default).up : Int), ((ab.getD i4 default).down : Int)]).getD s5 0)) default).lo)))) && (decide (((ao.getD (Int.toNat (([((ab.getD i4 default).up : Int), ((ab.getD i4 default).down : Int)]).getD s5 0)) default).hi) < 2000))), s5 + 1, _, upds_of _ _ ⟨rfl, rfl, rfl, rfl, rfl, rfl, rfl, rfl, rfl, rfl, trivial⟩, M.e_inl hM cf, H⟩
  replace hM := M.e_f hM bA
  simp only [qy1, qy2, qy3, qy4, qy5, qy6, ne_eq, qy7] at bA
  refine W.exit ?_
  have dN := M.e_inr hM cf
  subst dN
  replace hM := dJ
  try dsimp only at hM
  refine W.seq ?_
  refine W.seq ?_
  refine W.region rfl ?_
  refine zM (B bounded) rfl ?_
  refine s_val (x_not (b := bounded) rfl) ?_
  refine s_nil ?_
  refine W.cond (!bounded) rfl (fun bN => ?_) (fun bN => ?_)
  ·replace hM := M.e_t hM bN
   refine W.exit ?_
   refine W.region rfl ?_
   refine zM (I (i4 : Int)) rfl ?_
   refine zR (i4 : Int) 1 ((i4 : Int) + 1) rfl rfl rfl (by omega) ?_
   refine zA (I ((i4 : Int) + 1)) rfl ?_
   refine s_nil ?_
   exact ⟨cb, cc, i4 + 1, _, upds_of _ _ ⟨rfl, rfl, rfl, rfl, rfl, rfl, trivial⟩, M.e_inl hM bD, (H.pk [1, 2, 3, 4, 5, 6, 7, 8, 9, 10, 11, 12, 13])⟩
  replace hM := M.e_f hM bN
  refine W.skip ?_
  refine W.seq ?_
  refine W.region rfl ?_
  refine s_val (x_ld (p := Pq ap) (v := .agg #[ag, ai, ae]) rfl (ldb_ag (ds := [ag, ai, ae]) Ag27 Sz27 (H.bl 9) rfl rfl)) ?_
  refine zM aP rfl ?_
  refine zM (I (i4 : Int)) rfl ?_
  obtain ⟨f6, dO, hM⟩ := M.e_bind hM
  refine s_call cf13 [.agg #[ag, ai, ae], aP, I (i4 : Int)] rfl (zbM aJ ay ab aR (i4 : Int) (Reads.sup (rdo 10) (Reads.of (k := 11) rfl roLe)) (rowSl rfl (H.get (k := 10) rfl) (roLe _ (H.get (k := 11) rfl)) bj) (rdo 12) (H.os 12) (rdo 13) (H.os 13) (rdo 3) (H.os 3) dO _ (H.gt 14)) ?_
  rintro vq f9 ⟨aS, aT, aK, dP, hvq, au⟩
  subst dP
  subst vq
  try dsimp only at hM
  replace H := H.bk au
  clear au
  refine zM (.tuple #[.agg #[I aS, I aT], I aK]) rfl ?_
  refine zX [.agg #[I aS, I aT], I aK] (.agg #[I aS, I aT]) rfl rfl ?_
  refine zX [.agg #[I aS, I aT], I aK] (I aK) rfl rfl ?_
  refine t_alloc (cs := [I 0, I 0]) H Al44 rfl ?_
  intro dQ ga H
  refine t_sw 0 0 [I aS, I aT] (.agg #[I aS, I aT]) H rfl rfl Sz44 rfl rfl rfl rfl ?_
  intro gc H
  refine zA (I aK) rfl ?_
  refine s_nil ?_
  refine W.seq ?_
  refine W.region rfl ?_
  refine s_val (x_ld (p := Pq aj) (v := .agg #[ak, ac, am]) rfl (ldb_ag (ds := [ak, ac, am]) Ag27 Sz27 (H.bl 5) rfl rfl)) ?_
  refine zM aQ rfl ?_
  refine zM (I (i4 : Int)) rfl ?_
  obtain ⟨gf, dR, hM⟩ := M.e_bind hM
  refine s_call cf13 [.agg #[ak, ac, am], aQ, I (i4 : Int)] rfl (zbM l4 aa aC aW (i4 : Int) (Reads.of (k := 6) rfl deLe) (deSl (H.get (k := 6) rfl)) (rdo 8) (H.os 8) (rdo 9) (H.os 9) (rdo 3) (H.os 3) dR _ (H.gt 15)) ?_
  rintro vq gg ⟨aU, aV, aL, dS, hvq, au⟩
  subst dS
  subst vq
  try dsimp only at hM
  replace H := H.bk au
  clear au
  refine zM (.tuple #[.agg #[I aU, I aV], I aL]) rfl ?_
  refine zX [.agg #[I aU, I aV], I aL] (.agg #[I aU, I aV]) rfl rfl ?_
  refine zX [.agg #[I aU, I aV], I aL] (I aL) rfl rfl ?_
  refine t_alloc (cs := [I 0, I 0]) H Al44 rfl ?_
  intro dT gh H
  refine t_sw 0 0 [I aU, I aV] (.agg #[I aU, I aV]) H rfl rfl Sz44 rfl rfl rfl rfl ?_
  intro gi H
  refine zA (I aL) rfl ?_
  refine s_nil ?_
  refine W.seq ?_
  refine W.region rfl ?_
  refine zM (I aK) rfl ?_
  refine zC aK 0 (aK != 0) rfl rfl rfl ?_
  refine zM (B (aK != 0)) rfl ?_
  refine g_val (!(aK != 0)) (gy_f rfl) (fun hg => x_mv (v := I aL) rfl) ?_
  refine g_val (!(aK != 0)) (gy_f rfl) (fun hg => x_cmp (kd := .i64) (a := aL) (b := 0) (r := aL != 0) (gd_of (c := !(aK != 0)) hg (I aL)) rfl rfl) ?_
  refine s_val (x_por (b := aK != 0) (r := aL != 0) rfl rfl (fun hb => gd_of (c := !(aK != 0)) (by first | exact hb | (rw [hb]; rfl) | simp_all) (B (aL != 0)))) ?_
  refine zM (B ((aK != 0) || (aL != 0))) rfl ?_
  refine g_val (!((aK != 0) || (aL != 0))) (gy_f rfl) (fun hg => x_ld (p := Pq dQ) (v := .agg #[I aS, I aT]) rfl (ldb_ag (ds := [I aS, I aT]) Ag44 Sz44 (H.bl 1) rfl rfl)) ?_
  refine g_val (!((aK != 0) || (aL != 0))) (gy_f rfl) (fun hg => x_ld (p := Pq dT) (v := .agg #[I aU, I aV]) rfl (ldb_ag (ds := [I aU, I aV]) Ag44 Sz44 (H.bl 0) rfl rfl)) ?_
  refine g_val (!((aK != 0) || (aL != 0))) (gy_f rfl) (fun hg => x_neS (eqT44 (⟨(aS : Int), (aT : Int)⟩ : Span) (⟨(aU : Int), (aV : Int)⟩ : Span) _) gdT44 (gd_of (c := !((aK != 0) || (aL != 0))) hg (.agg #[I aS, I aT])) (gd_of (c := !((aK != 0) || (aL != 0))) hg (.agg #[I aU, I aV]))) ?_
  refine s_val (x_por (b := ((aK != 0) || (aL != 0))) (r := !(decide ((⟨(aS : Int), (aT : Int)⟩ : Span) = (⟨(aU : Int), (aV : Int)⟩ : Span)))) rfl rfl (fun hb => gd_of (c := !((aK != 0) || (aL != 0))) (by first | exact hb | (rw [hb]; rfl) | simp_all) (B (!(decide ((⟨(aS : Int), (aT : Int)⟩ : Span) = (⟨(aU : Int), (aV : Int)⟩ : Span))))))) ?_
  refine s_nil ?_
  replace H := H.pk [3, 4, 5, 6, 7, 8, 9, 10, 11, 12, 13, 14, 15]
  refine W.cond (((aK != 0) || (aL != 0)) || (!(decide ((⟨(aS : Int), (aT : Int)⟩ : Span) = (⟨(aU : Int), (aV : Int)⟩ : Span))))) rfl (fun bO => ?_) (fun bO => ?_)
  ·replace hM := M.e_t hM bO
   refine W.seq ?_
   refine W.region rfl ?_
   refine zA (B false) rfl ?_
   refine s_nil ?_
   refine W.ret ?_
   have dU := M.e_inr hM bD
   subst dU
   replace hM := b8
   try dsimp only at hM
   have aZ := M.e_pure hM
   exact ⟨_, resE_tmp rfl, ⟨false, aZ, rfl, (H.pk [])⟩⟩
  replace hM := M.e_f hM bO
  refine W.skip ?_
  refine W.region rfl ?_
  refine zM (I (i4 : Int)) rfl ?_
  refine zR (i4 : Int) 1 ((i4 : Int) + 1) rfl rfl rfl (by omega) ?_
  refine zA (I ((i4 : Int) + 1)) rfl ?_
  refine s_nil ?_
  exact ⟨cb, cc, i4 + 1, _, upds_of _ _ ⟨rfl, rfl, rfl, rfl, rfl, rfl, trivial⟩, M.e_inl hM bD, H⟩
 replace hM := M.e_f hM bx
 simp only [qy1, qy2, qy3, qy4, qy5, qy6, ne_eq, qy7] at bx
 refine W.exit ?_
 have dV := M.e_inr hM bD
 subst dV
 replace hM := b8
 try dsimp only at hM
 replace H := H.pk []
 refine W.seq ?_
 refine W.region rfl ?_
 obtain ⟨gj, dW, hM⟩ := M.e_bind hM
 refine s_call cf11 [] rfl (zcj dW _ (H.gt 0)) ?_
 rintro vq gk ⟨r7, dX, hvq, au⟩
 subst dX
 subst vq
 try dsimp only at hM
 replace H := H.bk au
 clear au
 refine zA (B r7) rfl ?_
 refine s_nil ?_
 refine W.ret ?_
 have aZ := M.e_pure hM
 exact ⟨_, resE_tmp rfl, ⟨r7, aZ, rfl, H⟩⟩

end Go.Proofs.Ytlemgioaakecpaa
end
namespace Go.Nm
namespace Fl
def ints (n : Nat) : List Int := (List.range n).map fun i : Nat => (i : Int)
theorem ints_mem {n : Nat} {k : Int} : k ∈ ints n ↔ 0 <= k /\ k < n := by
  unfold ints
  rw [List.mem_map]
  constructor
  · rintro ⟨i, hi, rfl⟩
    have := List.mem_range.1 hi
    omega
  · rintro ⟨h0, h1⟩
    exact ⟨Int.toNat k, List.mem_range.2 (by omega), by omega⟩
/-- The first k elements turned. -/
def mf {α : Type} (f : α -> α) (k : Nat) (l : List α) : List α := (l.take k).map f ++ l.drop k
theorem mf_zero {α : Type} (f : α -> α) (l : List α) : mf f 0 l = l := by simp [mf]
theorem mf_all {α : Type} (f : α -> α) (l : List α) : mf f l.length l = l.map f := by simp [mf]
theorem mf_len {α : Type} (f : α -> α) (k : Nat) (l : List α) : (mf f k l).length = l.length := by simp [mf]; omega
theorem mf_get {α : Type} (f : α -> α) {k : Nat} {l : List α} (h : k < l.length) (d : α) : (mf f k l).getD k d = l.getD k d := by
  unfold mf
  simp only [List.getD]
  rw [List.getElem?_append_right (by simp; omega)]
  simp
  rw [show min k l.length = k by omega, Nat.sub_self, Nat.add_zero]
theorem mf_step {α : Type} (f : α -> α) {k : Nat} {l : List α} (h : k < l.length) (d : α) : (mf f k l).set k (f (l.getD k d)) = mf f (k + 1) l := by
  unfold mf
  rw [List.set_append_right _ _ (by simp; omega), ← take_succ_D l k h d, List.map_append, List.append_assoc]
  congr 1
  rw [List.length_map, List.length_take, show min k l.length = k by omega, Nat.sub_self, List.drop_eq_getElem_cons h, List.set_cons_zero, getD_el l h]
  rfl
section
variable {S : List Sect} {M M1 : List Mrk} {R : List Rch} {r : Rch}
theorem ints_mk {M : List Mrk} {k : Int} (h : k ∈ ints M.length) : M.getD (Int.toNat k) default ∈ M := by
  have := ints_mem.1 h
  have hl : Int.toNat k < M.length := by omega
  rw [getD_el M hl]
  exact List.getElem_mem hl
theorem mk_ints {M : List Mrk} {m : Mrk} (h : m ∈ M) : ∃ k, k ∈ ints M.length /\ M.getD (Int.toNat k) default = m := by
  obtain ⟨i, hi, rfl⟩ := mem_getD h default
  exact ⟨(i : Int), ints_mem.2 ⟨by omega, by omega⟩, by rw [Int.toNat_natCast]⟩
theorem aLo_ge {p : Int} {m : Mrk} (h : m ∈ M) (hp : p <= m.place) : m.lo <= stLo M (ints M.length) p := by
  obtain ⟨k, hk, rfl⟩ := mk_ints h
  exact stLo_ge hk hp
theorem aLo_ex {p : Int} : stLo M (ints M.length) p = 0 ∨ ∃ m ∈ M, p <= m.place /\ stLo M (ints M.length) p = m.lo := by
  rcases stLo_ex (M := M) (p := p) (ints M.length) with e | ⟨k, hk, h1, h2⟩
  · exact .inl e
  · exact .inr ⟨_, ints_mk hk, h1, h2⟩
theorem aHi_le {p : Int} {m : Mrk} (h : m ∈ M) (hp : m.place <= p) : stHi M (ints M.length) p <= m.hi := by
  obtain ⟨k, hk, rfl⟩ := mk_ints h
  exact stHi_ge hk hp
theorem aHi_ex {p : Int} : stHi M (ints M.length) p = 2000 ∨ ∃ m ∈ M, m.place <= p /\ stHi M (ints M.length) p = m.hi := by
  rcases stHi_ex (M := M) (p := p) (ints M.length) with e | ⟨k, hk, h1, h2⟩
  · exact .inl e
  · exact .inr ⟨_, ints_mk hk, h1, h2⟩
/-- All marks, if so many are chosen as there are. -/
theorem all_ints {l : List Int} (h : Inc M l) (hn : l.length = M.length) : l = ints M.length := by
  have nd : (l.map Int.toNat).Nodup := by
    unfold List.Nodup
    rw [List.pairwise_map]
    refine List.Pairwise.imp_of_mem ?_ h.1
    intro a b ha hb hab e
    have := h.2 a ha
    have := h.2 b hb
    omega
  have lt : ∀ x ∈ l.map Int.toNat, x < M.length := fun x hx => by
    obtain ⟨a, ha, rfl⟩ := List.mem_map.1 hx
    have := h.2 a ha
    omega
  have sub : ∀ x, x < M.length -> x ∈ l.map Int.toNat := fun x hx => Classical.byContradiction fun hc => by
    have := sub_len (x :: l.map Int.toNat) (List.range M.length) (List.nodup_cons.2 ⟨hc, nd⟩) (fun y hy => by
      rcases List.mem_cons.1 hy with rfl | hy
      · exact List.mem_range.2 hx
      · exact List.mem_range.2 (lt y hy))
    rw [List.length_cons, List.length_map, List.length_range] at this
    omega
  refine asc_uniq (List.Pairwise.imp (fun q => by omega) h.1) ?_ ?_
  · unfold ints
    rw [List.pairwise_map]
    exact List.Pairwise.imp (fun q => by omega) List.pairwise_lt_range
  · have e : l = (l.map Int.toNat).map fun i : Nat => (i : Int) := by
      rw [List.map_map]
      have : ∀ a ∈ l, ((fun i : Nat => (i : Int)) ∘ Int.toNat) a = a := fun a ha => by
        have := h.2 a ha
        show ((Int.toNat a : Nat) : Int) = a
        omega
      rw [List.map_congr_left this, List.map_id']
    rw [e]
    unfold ints
    refine List.Perm.map _ ?_
    refine (List.perm_ext_iff_of_nodup nd List.nodup_range).2 fun x => ?_
    rw [List.mem_range]
    exact ⟨lt x, sub x⟩
/-- Marks in another order: where each one is. -/
theorem perm_ix {α : Type} (d : α) {l l' : List α} (p : l.Perm l') : ∃ g : Nat -> Nat, (∀ i, i < l.length -> g i < l'.length /\ l'.getD (g i) d = l.getD i d) /\ ∀ i j, i < l.length -> j < l.length -> g i = g j -> i = j := by
  induction p with
  | nil => exact ⟨id, fun i hi => by simp at hi, fun i j hi => by simp at hi⟩
  | @cons x l l' p ih =>
    obtain ⟨g, h1, h2⟩ := ih
    refine ⟨fun i => match i with | 0 => 0 | i + 1 => g i + 1, fun i hi => ?_, fun i j hi hj e => ?_⟩
    · match i with
      | 0 => simp
      | i + 1 =>
        have := h1 i (by simpa using hi)
        exact ⟨by simp; exact this.1, by simpa using this.2⟩
    · match i, j with
      | 0, 0 => rfl
      | 0, j + 1 => simp at e
      | i + 1, 0 => simp at e
      | i + 1, j + 1 =>
        have := h2 i j (by simpa using hi) (by simpa using hj) (by simpa using e)
        omega
  | swap x y l =>
    refine ⟨fun i => match i with | 0 => 1 | 1 => 0 | i + 2 => i + 2, fun i hi => ?_, fun i j hi hj e => ?_⟩
    · match i with
      | 0 => simp
      | 1 => simp
      | i + 2 => exact ⟨by simpa using hi, by simp⟩
    · match i, j with
      | 0, 0 => rfl
      | 0, 1 => simp at e
      | 0, j + 2 => simp at e
      | 1, 0 => simp at e
      | 1, 1 => rfl
      | 1, j + 2 => simp at e
      | i + 2, 0 => simp at e
      | i + 2, 1 => simp at e
      | i + 2, j + 2 => simpa using e
  | @trans a b c p q ih1 ih2 =>
    obtain ⟨g, h1, h2⟩ := ih1
    obtain ⟨g', h3, h4⟩ := ih2
    refine ⟨fun i => g' (g i), fun i hi => ?_, fun i j hi hj e => ?_⟩
    · have a1 := h1 i hi
      have a2 := h3 _ a1.1
      exact ⟨a2.1, by rw [a2.2, a1.2]⟩
    · exact h2 i j hi hj (h4 _ _ (h1 i hi).1 (h1 j hj).1 e)
/-- As many as rows hold, if marks go over into others so that contradictions stay. -/
theorem best_le {L L' : List (List Nat)} {l l' : List Int} (h : Best M L l) (hr : RowsOk M1 L') (h' : Best M1 L' l') {g : Nat -> Nat} (hg : ∀ i, i < M.length -> g i < M1.length) (hi : ∀ i j, i < M.length -> j < M.length -> g i = g j -> i = j) (ha : ∀ i j, i < M.length -> j < M.length -> ah M1 (g i) (g j) -> ah M i j) : l.length <= l'.length := by
  have := few (M := M1) (X := l.map fun k => g (Int.toNat k)) (L := L') ?_ ?_ ?_ hr.cov (fun r hr' => pw_any (hr.pw r hr'))
  · rw [List.length_map] at this
    rw [h'.n]
    exact this
  · unfold List.Nodup
    rw [List.pairwise_map]
    refine List.Pairwise.imp_of_mem ?_ h.inc.1
    intro a b ha' hb hab e
    have q1 := h.inc.2 a ha'
    have q2 := h.inc.2 b hb
    have := hi _ _ (by omega) (by omega) e
    omega
  · intro v hv
    obtain ⟨a, ha', rfl⟩ := List.mem_map.1 hv
    have q1 := h.inc.2 a ha'
    exact hg _ (by omega)
  · intro u hu v hv q
    obtain ⟨a, ha', rfl⟩ := List.mem_map.1 hu
    obtain ⟨b, hb, rfl⟩ := List.mem_map.1 hv
    have q1 := h.inc.2 a ha'
    have q2 := h.inc.2 b hb
    exact h.tog a ha' b hb (ha _ _ (by omega) (by omega) q)
end
/-! ### Stages and places that are higher by so much -/
section
variable (up on : Int)
def shR (e : FRow) : FRow := { e with stage := e.stage + up }
def shS (x : Sect) : Sect := { place := x.place + on, rows := x.rows.map (shR up) }
def shM (m : Mrk) : Mrk := { place := m.place + on, lo := m.lo + up, hi := m.hi + up }
end
section
variable {up on : Int} {S : List Sect} {M M1 : List Mrk} {R : List Rch} {r : Rch}
theorem shR_stage (e : FRow) : (shR up e).stage = e.stage + up := rfl
theorem shR_carry (e : FRow) : (shR up e).carry = e.carry := rfl
theorem go_sh : ∀ (l : List FRow) (a : FRow) (s : Int), go (shR up a) (l.map (shR up)) (s + up) = go a l s
  | [], a, s => rfl
  | b :: l, a, s => by
    show (if s + up < b.stage + up then ip (shR up a) (shR up b) (s + up) else go (shR up b) (l.map (shR up)) (s + up)) = if s < b.stage then ip a b s else go b l s
    have e : ip (shR up a) (shR up b) (s + up) = ip a b s := by
      unfold ip
      rw [shR_carry, shR_carry, shR_stage, shR_stage, show s + up - (a.stage + up) = s - a.stage by omega, show b.stage + up - (a.stage + up) = b.stage - a.stage by omega]
    by_cases h : s < b.stage
    · rw [if_pos (by omega), if_pos h, e]
    · rw [if_neg (by omega), if_neg h, go_sh l b s]
theorem car_sh (l : List FRow) (s : Int) : car (l.map (shR up)) (s + up) = car l s := by
  cases l with
  | nil => rfl
  | cons a l =>
    show (if s + up < a.stage + up then 0 else go (shR up a) (l.map (shR up)) (s + up)) = if s < a.stage then 0 else go a l s
    by_cases h : s < a.stage
    · rw [if_pos (by omega), if_pos h]
    · rw [if_neg (by omega), if_neg h, go_sh]
theorem rows_sh (hu : 0 <= up /\ up <= 500) : ∀ l : List FRow, Rows l -> (∀ e ∈ l, e.stage <= 860) -> Rows (l.map (shR up))
  | [], _, _ => trivial
  | [a], h, he => by
    obtain ⟨h1, h2, h3, h4⟩ := h
    have := he a (by simp)
    exact ⟨by rw [shR_stage]; omega, by rw [shR_stage]; omega, h3, h4⟩
  | a :: b :: l, h, he => by
    obtain ⟨h1, h2, h3, h4, h5⟩ := h
    have ih := rows_sh hu (b :: l) h5 (fun e q => he e (by simp [List.mem_cons.1 q]))
    exact ⟨by rw [shR_stage]; omega, by rw [shR_stage, shR_stage]; omega, h3, h4, ih⟩
theorem shS_get {i : Nat} (hi : i < S.length) : (S.map (shS up on)).getD i default = shS up on (S.getD i default) := by
  rw [getD_el _ (by rw [List.length_map]; exact hi), getD_el S hi, List.getElem_map]
theorem fl_sh (hr : Rok S r) (c : Cas) : fl (S.map (shS up on)) r ⟨c.up + up, c.down + up, c.roughup, c.roughdown⟩ = fl S r c := by
  unfold fl
  rw [shS_get hr.iu, shS_get hr.id]
  show rt _ = rt _
  dsimp only [shS]
  rw [car_sh, car_sh, show c.up + up - (c.down + up) = c.up - c.down by omega, show (S.getD (Int.toNat r.down) default).place + on - ((S.getD (Int.toNat r.up) default).place + on) = (S.getD (Int.toNat r.down) default).place - (S.getD (Int.toNat r.up) default).place by omega]
/-- The marks of a site that is raised. -/
def Rz (up on : Int) (M M1 : List Mrk) : Prop := ∀ m, m ∈ M1 ↔ ∃ x ∈ M, m = shM up on x
theorem lo_sh (h : Rz up on M M1) (hu : 0 <= up) {p : Int} (h0 : 0 < stLo M (ints M.length) p) : stLo M1 (ints M1.length) (p + on) = stLo M (ints M.length) p + up := by
  have ge : stLo M (ints M.length) p + up <= stLo M1 (ints M1.length) (p + on) := by
    rcases aLo_ex (M := M) (p := p) with e | ⟨m, hm, q, e⟩
    · omega
    · have := aLo_ge (p := p + on) ((h _).2 ⟨m, hm, rfl⟩) (by show p + on <= m.place + on; omega)
      rw [e]
      exact this
  rcases aLo_ex (M := M1) (p := p + on) with e | ⟨m, hm, q, e⟩
  · omega
  · obtain ⟨x, hx, rfl⟩ := (h m).1 hm
    have q : p + on <= x.place + on := q
    have e : stLo M1 (ints M1.length) (p + on) = x.lo + up := e
    have := aLo_ge hx (p := p) (by omega)
    omega
theorem hi_sh (h : Rz up on M M1) (hm1 : ∀ m ∈ M1, m.hi <= 2000) {p : Int} (h0 : stHi M (ints M.length) p < 2000) : stHi M1 (ints M1.length) (p + on) = stHi M (ints M.length) p + up := by
  rcases aHi_ex (M := M) (p := p) with e | ⟨m, hm, q, e⟩
  · omega
  · have q1 : shM up on m ∈ M1 := (h _).2 ⟨m, hm, rfl⟩
    have le : stHi M1 (ints M1.length) (p + on) <= m.hi + up := aHi_le (p := p + on) q1 (by show m.place + on <= p + on; omega)
    have b : m.hi + up <= 2000 := hm1 _ q1
    rcases aHi_ex (M := M1) (p := p + on) with e' | ⟨y, hy, q', e'⟩
    · omega
    · obtain ⟨x, hx, rfl⟩ := (h y).1 hy
      have q' : x.place + on <= p + on := q'
      have e' : stHi M1 (ints M1.length) (p + on) = x.hi + up := e'
      have := aHi_le hx (p := p) (by omega)
      omega
/-- The peaks of a site that is raised are the same. -/
theorem peak_sh (h : Rz up on M M1) (hu : 0 <= up) (hm1 : ∀ m ∈ M1, m.hi <= 2000) (hr : Rok S r)
    (u0 : 0 < stLo M (ints M.length) (pu S r)) (u1 : stHi M (ints M.length) (pu S r) < 2000) (d0 : 0 < stLo M (ints M.length) (pd S r)) (d1 : stHi M (ints M.length) (pd S r) < 2000)
    {c1 c2 c3 c4 : Cas} {a b a1 b1 : Int} (ha : IsLow S M (ints M.length) r c1 a) (hb : IsHigh S M (ints M.length) r c2 b) (ha1 : IsLow (S.map (shS up on)) M1 (ints M1.length) r c3 a1) (hb1 : IsHigh (S.map (shS up on)) M1 (ints M1.length) r c4 b1) : a = a1 /\ b = b1 := by
  have eu : pu (S.map (shS up on)) r = pu S r + on := by unfold pu; rw [shS_get hr.iu]; rfl
  have ed : pd (S.map (shS up on)) r = pd S r + on := by unfold pd; rw [shS_get hr.id]; rfl
  have l1 := lo_sh h hu u0
  have l2 := lo_sh h hu d0
  have k1 := hi_sh h hm1 u1
  have k2 := hi_sh h hm1 d1
  have dn : ∀ x, Dn (S.map (shS up on)) M1 (ints M1.length) r (x + up) ↔ Dn S M (ints M.length) r x := fun x => by
    unfold Dn
    rw [eu, ed, l2, k1, k2]
    constructor <;> rintro ⟨q1, q2⟩ <;> constructor <;> omega
  have dn' : ∀ y, Dn (S.map (shS up on)) M1 (ints M1.length) r y -> Dn S M (ints M.length) r (y - up) := fun y hy => (dn _).1 (by rw [show y - up + up = y by omega]; exact hy)
  have lc' : ∀ x, lc (S.map (shS up on)) M1 (ints M1.length) r (x + up) = ⟨(lc S M (ints M.length) r x).up + up, (lc S M (ints M.length) r x).down + up, (lc S M (ints M.length) r x).roughup, (lc S M (ints M.length) r x).roughdown⟩ := fun x => by
    unfold lc
    rw [eu, l1]
    dsimp only
    rw [show max (stLo M (ints M.length) (pu S r) + up) (x + up) = max (stLo M (ints M.length) (pu S r)) x + up by omega]
  have hc' : ∀ x, hc (S.map (shS up on)) M1 (ints M1.length) r (x + up) = ⟨(hc S M (ints M.length) r x).up + up, (hc S M (ints M.length) r x).down + up, (hc S M (ints M.length) r x).roughup, (hc S M (ints M.length) r x).roughdown⟩ := fun x => by
    unfold hc
    rw [eu, k1]
  obtain ⟨x, hx, e1, e2, m1⟩ := ha
  obtain ⟨y, hy, e3, e4, m2⟩ := ha1
  obtain ⟨z, hz, e5, e6, m3⟩ := hb
  obtain ⟨w, hw, e7, e8, m4⟩ := hb1
  have q1 := m1 _ (dn' y hy)
  have q2 := m2 _ ((dn x).2 hx)
  have q3 := m3 _ (dn' w hw)
  have q4 := m4 _ ((dn z).2 hz)
  rw [lc', fl_sh hr, ← e1, ← e2] at q2
  rw [hc', fl_sh hr, ← e5, ← e6] at q4
  rw [e3, show y = y - up + up by omega, lc', fl_sh hr] at e4
  rw [e7, show w = w - up + up by omega, hc', fl_sh hr] at e8
  omega
theorem site_sh {K : Nat} (hL : Site S M R) (hst : ∀ j, j < S.length -> ∀ e ∈ (S.getD j default).rows, e.stage <= 860) (hpl : ∀ j, j < S.length -> (S.getD j default).place <= 2000) (hms : ∀ m ∈ M, m.place <= 2000 /\ m.hi <= 430) (hu : 0 <= up /\ up < 500) (ho : 0 <= on /\ on < 1000) (h : Rz up on M M1) (hn : M1.length = M.length) : Site (S.map (shS up on)) M1 R := by
  refine ⟨⟨by rw [List.length_map]; exact hL.s.n, fun i hi => ?_, fun i hi => ?_, fun i j hij hj => ?_⟩, by rw [hn]; exact hL.m, hL.r, fun m hm => ?_, fun x hx => ?_⟩
  · rw [List.length_map] at hi
    rw [shS_get hi]
    have := hL.s.rows i hi
    exact ⟨rows_sh (by omega) _ this.1 (hst i hi), by show 2 <= ((S.getD i default).rows.map _).length /\ ((S.getD i default).rows.map _).length <= 8; rw [List.length_map]; exact this.2⟩
  · rw [List.length_map] at hi
    rw [shS_get hi]
    have := hL.s.place i hi
    have := hpl i hi
    show 0 <= (S.getD i default).place + on /\ (S.getD i default).place + on <= 10000
    omega
  · rw [List.length_map] at hj
    rw [shS_get hj, shS_get (by omega)]
    have := hL.s.up i j hij hj
    show (S.getD i default).place + on < (S.getD j default).place + on
    omega
  · obtain ⟨x, hx, rfl⟩ := (h m).1 hm
    have q := hL.mks x hx
    have q0 := q.p0
    have q1 := q.l0
    have q2 := q.lh
    have := hms x hx
    exact ⟨by show 0 <= x.place + on; omega, by show x.place + on <= 10000; omega, by show 0 <= x.lo + up; omega, by show x.lo + up <= x.hi + up; omega, by show x.hi + up <= 2000; omega⟩
  · have q := hL.rks x hx
    exact ⟨q.u0, q.ud, by rw [List.length_map]; exact q.d1, q.l1, q.lh, q.h4⟩
end
theorem swap_perm {α : Type} (l : List α) {i k : Nat} (d : α) (hi : i < l.length) (hk : k < l.length) : ((l.set i (l.getD k d)).set k (l.getD i d)).Perm l := by
  have := Array.swap_perm (xs := l.toArray) (i := i) (j := k) (by simpa using hi) (by simpa using hk)
  have h2 := this.toList
  rw [getD_el l hi, getD_el l hk]
  simpa [Array.swap] using h2
end Fl
end Go.Nm
namespace Go.Proofs.Ytlemgioaakecpaa
open Go Go.Nm
section
variable {S : List Sect} {M' : List Mrk} {R' : List Rch} {r : Rch} {up on : Int}
theorem copy_row (l : List FRow) (h : l.length <= 1000) : (zbv l).Ends l := by
  unfold zbv
  exact M.i_grd (decide_eq_true (by simp; omega)) M.i_pure
theorem copy_ends (h : Fl.Site S M' R') : (zbw S M' R').Ends (S, M', R') := by
  have h1 := h.m
  have h2 := h.r
  have h3 := h.s.n
  unfold zbw zca zb5
  refine M.i_bind (M.i_grd (decide_eq_true (by simp; omega)) M.i_pure) (M.i_bind (M.i_grd (decide_eq_true (by simp; omega)) M.i_pure) (M.i_bind (a := (S, S)) ?_ M.i_pure))
  refine M.i_for (fun i => (i, S.take i)) S.length (fun i hi => ?_) ?_
  · simp only [zaj]
    refine M.i_t (decide_eq_true (by omega)) (M.i_grd (decide_eq_true (by omega)) (M.i_bind (copy_row _ (by have := (h.s.rows i hi).2.2; omega)) (M.i_grd (decide_eq_true (by simp; omega)) ?_)))
    rw [← take_succ_D S i hi default]
    exact M.i_pure
  · simp only [zaj]
    rw [List.take_length]
    exact M.i_f (decide_eq_false (by omega)) M.i_pure
theorem rise_rows (hu : 0 <= up /\ up <= 500) {L : List Sect} {i : Nat} (hi : i < L.length) (he : ∀ k, k < (L.getD i default).rows.length -> 0 <= ((L.getD i default).rows.getD k default).stage /\ ((L.getD i default).rows.getD k default).stage <= 2000) :
    (M.iter (zam up i) (L, 0)).Ends (L.set i { (L.getD i default) with rows := (L.getD i default).rows.map (Fl.shR up) }, L.set i { (L.getD i default) with rows := (L.getD i default).rows.map (Fl.shR up) }) := by
  have e0 : L = L.set i { (L.getD i default) with rows := Fl.mf (Fl.shR up) 0 (L.getD i default).rows } := by
    rw [Fl.mf_zero]
    refine List.ext_getElem? fun j => ?_
    by_cases e : i = j
    · subst e
      rw [List.getElem?_set_self hi, getD_el L hi, List.getElem?_eq_getElem hi]
    · rw [List.getElem?_set_ne e]
  have g : ∀ x : Sect, (L.set i x).getD i default = x := fun x => by rw [gset L i i x default hi, if_pos rfl]
  rw [← Fl.mf_all]
  have key := M.i_for (body := zam up i) (fun k => (L.set i { (L.getD i default) with rows := Fl.mf (Fl.shR up) k (L.getD i default).rows }, k)) (L.getD i default).rows.length (fun k hk => ?_) (r := (L.set i { (L.getD i default) with rows := Fl.mf (Fl.shR up) (L.getD i default).rows.length (L.getD i default).rows }, L.set i { (L.getD i default) with rows := Fl.mf (Fl.shR up) (L.getD i default).rows.length (L.getD i default).rows })) ?_
  · have key' : (M.iter (zam up i) (L.set i { (L.getD i default) with rows := Fl.mf (Fl.shR up) 0 (L.getD i default).rows }, 0)).Ends _ := key
    rwa [← e0] at key'
  · have hh := he k hk
    simp only [zam, g, List.length_set, Fl.mf_len, Fl.mf_get _ hk]
    refine M.i_grd (decide_eq_true (by omega)) (M.i_t (decide_eq_true (by omega)) (M.i_grd (decide_eq_true (by omega)) (M.i_grd (gA2 (by omega) (by omega)) ?_)))
    have e := Fl.mf_step (Fl.shR up) hk default
    rw [List.set_set, ← e]
    exact M.i_pure
  · simp only [zam, g, List.length_set, Fl.mf_len]
    exact M.i_grd (decide_eq_true (by omega)) (M.i_f (decide_eq_false (by omega)) M.i_pure)
theorem rise_sects (hu : 0 <= up /\ up <= 500) (ho : 0 <= on /\ on <= 1000) (h : Fl.Secs S) (hst : ∀ j, j < S.length -> ∀ e ∈ (S.getD j default).rows, e.stage <= 860) :
    (M.iter (zap up on) (S, 0)).Ends (S.map (Fl.shS up on), S.map (Fl.shS up on)) := by
  rw [← Fl.mf_all]
  have key := M.i_for (body := zap up on) (fun i => (Fl.mf (Fl.shS up on) i S, i)) S.length (fun i hi => ?_) (r := (Fl.mf (Fl.shS up on) S.length S, Fl.mf (Fl.shS up on) S.length S)) ?_
  · have key' : (M.iter (zap up on) (Fl.mf (Fl.shS up on) 0 S, 0)).Ends _ := key
    rwa [Fl.mf_zero] at key'
  · have hp := h.place i hi
    have g : ∀ x : Sect, ((Fl.mf (Fl.shS up on) i S).set i x).getD i default = x := fun x => by rw [gset _ i i x default (by rw [Fl.mf_len]; exact hi), if_pos rfl]
    simp only [zap, Fl.mf_len, Fl.mf_get _ hi]
    refine M.i_t (decide_eq_true (by omega)) (M.i_grd (decide_eq_true (by omega)) (M.i_grd (gA2 (by omega) (by omega)) (M.i_bind (rise_rows hu (by rw [List.length_set, Fl.mf_len]; exact hi) ?_) ?_)))
    · intro k hk
      rw [g] at hk ⊢
      dsimp only at hk ⊢
      have q := (h.rows i hi).1.el k hk
      omega
    · rw [g, List.set_set]
      dsimp only
      have e := Fl.mf_step (Fl.shS up on) hi default
      rw [← e]
      exact M.i_pure
  · simp only [zap, Fl.mf_len]
    exact M.i_f (decide_eq_false (by omega)) M.i_pure
theorem rise_marks (hu : 0 <= up /\ up <= 500) (ho : 0 <= on /\ on <= 1000) (h : ∀ x ∈ M', Fl.Mok x) :
    (M.iter (zao up on) (M', 0)).Ends (M'.map (Fl.shM up on), M'.map (Fl.shM up on)) := by
  rw [← Fl.mf_all]
  have key := M.i_for (body := zao up on) (fun i => (Fl.mf (Fl.shM up on) i M', i)) M'.length (fun i hi => ?_) (r := (Fl.mf (Fl.shM up on) M'.length M', Fl.mf (Fl.shM up on) M'.length M')) ?_
  · have key' : (M.iter (zao up on) (Fl.mf (Fl.shM up on) 0 M', 0)).Ends _ := key
    rwa [Fl.mf_zero] at key'
  · have hm : Fl.Mok (M'.getD i default) := by rw [getD_el M' hi]; exact h _ (List.getElem_mem hi)
    have q0 := hm.p0
    have q1 := hm.p1
    have q2 := hm.l0
    have q3 := hm.lh
    have q4 := hm.h2
    have g : ∀ x : Mrk, ((Fl.mf (Fl.shM up on) i M').set i x).getD i default = x := fun x => by rw [gset _ i i x default (by rw [Fl.mf_len]; exact hi), if_pos rfl]
    simp only [zao, Fl.mf_len, Fl.mf_get _ hi, g, List.set_set]
    refine M.i_t (decide_eq_true (by omega)) (M.i_grd (decide_eq_true (by omega)) (M.i_grd (gA2 (by omega) (by omega)) (M.i_grd (gA2 (by omega) (by omega)) (M.i_grd (gA2 (by omega) (by omega)) ?_))))
    have e := Fl.mf_step (Fl.shM up on) hi default
    rw [← e]
    exact M.i_pure
  · simp only [zao, Fl.mf_len]
    exact M.i_f (decide_eq_false (by omega)) M.i_pure
theorem mix_out {b : List UInt8} {M0 : List Mrk} (hn : 1 <= M0.length /\ M0.length <= 20) :
    (M.iter (za9 b) (0, 0, M0, (M0.length : Int) - 1)).Out (fun z => z.2.1.Perm M0) := by
  refine M.o_iter (fun m (s : Int × Int × List Mrk × Int) => m = s.2.2.2.toNat /\ 0 <= s.2.2.2 /\ s.2.2.2 < M0.length /\ SOk (100 - s.2.2.2) s.1 s.2.1 /\ s.2.2.1.Perm M0) ?_ _ (0, 0, M0, (M0.length : Int) - 1) ⟨rfl, by dsimp only; omega, by dsimp only; omega, SOk.zero.mono (by dsimp only; omega), List.Perm.refl _⟩
  rintro m ⟨u, x, l, i⟩ ⟨rfl, i0, i1, hS, hp⟩
  dsimp only at i0 i1 hS hp ⊢
  have hl := hp.length_eq
  simp only [za9]
  refine M.o_if (fun hb => ?_) (fun hb => ?_)
  · have hb := of_decide_eq_true hb
    refine M.o_grd (gA2 (by omega) (by omega)) (M.o_bind (next_out hS (by omega) (by omega)) ?_)
    rintro ⟨k, u1, x1⟩ ⟨k1, g1, _⟩
    have g1 := g1 (by omega)
    dsimp only at k1 g1 ⊢
    have hi : Int.toNat i < l.length := by omega
    have hk : Int.toNat k < l.length := by omega
    refine M.o_grd (gA2 (by omega) (by omega)) (M.o_grd (gA2 (by omega) (by omega)) (M.o_grd (gA2 (by omega) (by rw [List.length_set]; omega)) (M.o_grd (gA2 (by omega) (by omega)) (M.o_pure ⟨(i - 1).toNat, by omega, rfl, by dsimp only; omega, by dsimp only; omega, k1.mono (by dsimp only; omega), ?_⟩))))
    exact (Fl.swap_perm l default hi hk).trans hp
  · exact M.o_pure hp
theorem bound_out (hr : Fl.Rok S r) {i : Nat} (hi : R'.getD i default = r) {sp : List Span} (hs : sp.length = S.length) :
    (M.iter (zax R' sp i) (true, 0)).Out (fun z => z = true -> (0 < (sp.getD (Int.toNat r.up) default).lo /\ (sp.getD (Int.toNat r.up) default).hi < 2000) /\ 0 < (sp.getD (Int.toNat r.down) default).lo /\ (sp.getD (Int.toNat r.down) default).hi < 2000) := by
  have h1 := hr.u0
  have h2 := hr.ud
  have h3 := hr.d1
  refine M.o_for 2 (fun j (s : Bool × Nat) => s.2 = j /\ (s.1 = true -> (1 <= j -> 0 < (sp.getD (Int.toNat r.up) default).lo /\ (sp.getD (Int.toNat r.up) default).hi < 2000) /\ (2 <= j -> 0 < (sp.getD (Int.toNat r.down) default).lo /\ (sp.getD (Int.toNat r.down) default).hi < 2000))) ?_ ?_ (s := (true, 0)) ⟨rfl, fun _ => ⟨fun q => by omega, fun q => by omega⟩⟩
  · rintro _ ⟨b, j⟩ hj ⟨rfl, h⟩
    dsimp only at hj h ⊢
    simp only [zax, hi]
    rcases (show j = 0 ∨ j = 1 by omega) with rfl | rfl
    · refine M.o_t rfl (M.o_grd rfl (M.o_grd (gOr2 (p := 0 <= r.up) (q := r.up < (sp.length : Int)) (by omega) (by omega)) (M.o_grd (gOr2 (p := 0 <= r.up) (q := r.up < (sp.length : Int)) (by omega) (by omega)) (M.o_pure ⟨rfl, fun q => ?_⟩))))
      have q : ((b && decide (0 < (sp.getD (Int.toNat r.up) default).lo)) && decide ((sp.getD (Int.toNat r.up) default).hi < 2000)) = true := q
      rw [Bool.and_eq_true, Bool.and_eq_true, decide_eq_true_eq, decide_eq_true_eq] at q
      exact ⟨fun _ => ⟨q.1.2, q.2⟩, fun k => by omega⟩
    · refine M.o_t rfl (M.o_grd rfl (M.o_grd (gOr2 (p := 0 <= r.down) (q := r.down < (sp.length : Int)) (by omega) (by omega)) (M.o_grd (gOr2 (p := 0 <= r.down) (q := r.down < (sp.length : Int)) (by omega) (by omega)) (M.o_pure ⟨rfl, fun q => ?_⟩))))
      have q : ((b && decide (0 < (sp.getD (Int.toNat r.down) default).lo)) && decide ((sp.getD (Int.toNat r.down) default).hi < 2000)) = true := q
      rw [Bool.and_eq_true, Bool.and_eq_true, decide_eq_true_eq, decide_eq_true_eq] at q
      exact ⟨fun _ => (h q.1.1).1 (by omega), fun _ => ⟨q.1.2, q.2⟩⟩
  · rintro ⟨b, _⟩ ⟨rfl, h⟩
    dsimp only at h ⊢
    simp only [zax]
    exact M.o_f rfl (M.o_pure fun q => ⟨(h q).1 (by omega), (h q).2 (by omega)⟩)
theorem perm_getD {α β : Type} (f : α -> β) (l : List α) (d : β) (d' : α) {i : Nat} (hi : i < l.length) : (l.map f).getD i d = f (l.getD i d') := by
  rw [getD_el _ (by rw [List.length_map]; exact hi), getD_el l hi, List.getElem_map]
end
theorem zcN (numbers order : List UInt8) (rise far : Int) : (zcd numbers order rise far).Ends true := by
  refine M.Out.ends ?_
  unfold zcd
  refine M.o_bindE (by unfold zbg; exact M.i_pure) (M.o_bind (Made_lim (K := 8) (lies := true) (by omega)) ?_)
  rintro ⟨S, M', R', t, ro, u, x⟩ h
  dsimp only at h ⊢
  have site := h.site
  have hm := site.m
  have hr := site.r
  refine M.o_bindE (by unfold zbg; exact M.i_pure) (M.o_bind (pick_num (by omega)) ?_)
  rintro up ⟨up0, up1⟩
  refine M.o_bind (pick_num (by omega)) ?_
  rintro on ⟨on0, on1⟩
  refine M.o_bindE (copy_ends site) (M.o_bindE (rise_sects (by omega) (by omega) site.s h.st) (M.o_bindE (rise_marks (by omega) (by omega) site.mks) ?_))
  have hml : (M'.map (Fl.shM up on)).length = M'.length := List.length_map _
  refine M.o_bind (mix_out (by rw [hml]; omega)) ?_
  rintro ⟨_, M1, _, _⟩ hp
  dsimp only at hp ⊢
  have hn : M1.length = M'.length := by rw [hp.length_eq, hml]
  have rz : Fl.Rz up on M' M1 := fun m => by
    rw [hp.mem_iff, List.mem_map]
    constructor
    · rintro ⟨x, hx, rfl⟩; exact ⟨x, hx, rfl⟩
    · rintro ⟨x, hx, rfl⟩; exact ⟨x, hx, rfl⟩
  have site1 := Fl.site_sh (K := 8) site h.st h.pl h.ms ⟨up0, up1⟩ ⟨on0, on1⟩ rz hn
  refine M.o_bind (Most_best site) ?_
  rintro ⟨a, _⟩ ⟨rfl, L, _, hL, ha⟩
  dsimp only at ha ⊢
  refine M.o_bind (Most_best site1) ?_
  rintro ⟨b, _⟩ ⟨rfl, L1, _, hL1, hb⟩
  dsimp only at hb ⊢
  have gete : ∀ (g : Nat -> Nat) i, i < M'.length -> M1.getD (g i) default = (M'.map (Fl.shM up on)).getD i default -> M1.getD (g i) default = Fl.shM up on (M'.getD i default) := fun g i hi e => by
    rw [e]; exact perm_getD _ _ _ _ hi
  have ahe : ∀ {c d e f : Nat}, M1.getD c default = Fl.shM up on (M'.getD e default) -> M1.getD d default = Fl.shM up on (M'.getD f default) -> (Fl.ah M1 c d ↔ Fl.ah M' e f) := fun {c d e f} q1 q2 => by
    unfold Fl.ah
    rw [q1, q2]
    show ((M'.getD e default).place + on <= (M'.getD f default).place + on /\ (M'.getD e default).hi + up < (M'.getD f default).lo + up) ↔ _
    omega
  have hab : a.length = b.length := by
    obtain ⟨g, g1, g2⟩ := Fl.perm_ix default hp.symm
    obtain ⟨f, f1, f2⟩ := Fl.perm_ix default hp
    rw [hml] at g1 g2
    have k1 := Fl.best_le ha hL1 hb (g := g) (fun i hi => (g1 i hi).1) g2 (fun i j hi hj q => (ahe (gete g i hi (g1 i hi).2) (gete g j hj (g1 j hj).2)).1 q)
    have f3 : ∀ i, i < M1.length -> f i < M'.length /\ M1.getD i default = Fl.shM up on (M'.getD (f i) default) := fun i hi => by
      have q := f1 i hi
      rw [hml] at q
      exact ⟨q.1, by rw [← q.2]; exact perm_getD _ _ _ _ q.1⟩
    have k2 := Fl.best_le hb hL ha (g := f) (fun i hi => (f3 i hi).1) f2 (fun i j hi hj q => (ahe (f3 i hi).2 (f3 j hj).2).2 q)
    omega
  refine M.o_f (by rw [hab]; simp) (M.o_if (fun hlt => M.o_bindE awake_ends (M.o_pure rfl)) (fun hlt => ?_))
  have hlt := of_decide_eq_false hlt
  have hale : a.length = M'.length := by
    have := hL.len
    have := ha.n
    omega
  obtain rfl := Fl.all_ints ha.inc hale
  obtain rfl := Fl.all_ints hb.inc (by omega)
  refine M.o_bindE (Surface_ends site ha.inc ha.tog) (M.o_bindE (Surface_ends site1 hb.inc hb.tog) (M.o_f ?_ ?_))
  · rw [Fl.surf_len, Fl.surf_len, List.length_map]
    simp
  refine M.o_bind (P := fun z => z = .inr ()) ?_ ?_
  · refine M.o_for R'.length (fun i (s : Nat) => s = i) ?_ ?_ rfl
    · rintro _ i hi rfl
      have e : Int.toNat ((i : Nat) : Int) = i := Int.toNat_natCast i
      have rk : Fl.Rok S (R'.getD i default) := by rw [getD_el R' hi]; exact site.rks _ (List.getElem_mem hi)
      simp only [zbc]
      refine M.o_t (decide_eq_true (by omega)) (M.o_grd (decide_eq_true (by omega)) (M.o_bind (bound_out rk rfl (Fl.surf_len S M' (Fl.ints M'.length))) ?_))
      intro bd hbd
      refine M.o_if (fun _ => M.o_pure rfl) (fun q => ?_)
      rw [Bool.not_eq_false'] at q
      have hbd := hbd q
      rw [Fl.surf_at rk.iu, Fl.surf_at rk.id] at hbd
      dsimp only at hbd
      refine M.o_bind (Peak_out site ha.inc ha.tog (by omega) (by omega)) ?_
      rintro ⟨p0, p1, _⟩ ⟨rfl, ⟨c1, k1⟩, c2, k2⟩
      refine M.o_bind (Peak_out site1 hb.inc hb.tog (by omega) (by omega)) ?_
      rintro ⟨q0, q1, _⟩ ⟨rfl, ⟨c3, k3⟩, c4, k4⟩
      rw [e] at k1 k2 k3 k4
      dsimp only at k1 k2 k3 k4 ⊢
      have same := Fl.peak_sh rz up0 (fun m hmm => (site1.mks m hmm).h2) rk hbd.1.1 hbd.1.2 hbd.2.1 hbd.2.2 k1 k2 k3 k4
      refine M.o_f ?_ (M.o_pure rfl)
      rw [same.1, same.2]
      simp
    · rintro _ rfl
      simp only [zbc]
      exact M.o_f (decide_eq_false (by omega)) (M.o_pure rfl)
  · rintro _ rfl
    exact M.o_bindE awake_ends (M.o_pure rfl)
end Go.Proofs.Ytlemgioaakecpaa
