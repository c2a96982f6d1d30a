/- Part 5 of the texts on which the proof rests. Conditions: none. -/
import Derived.KernelRfl
import Derived.Test.YtlemgioaakecpaaZG4
set_option linter.unusedVariables false
set_option linter.unusedSimpArgs false
set_option linter.unusedSectionVars false
section
set_option maxRecDepth 100000
set_option maxHeartbeats 16000000
namespace Go.Proofs.Ytlemgioaakecpaa
open Go Go.Nm
def zaG (s_bytes : List UInt8) : (Int × Int × Int × Int × Int × (List FRow)) -> M ((Int × Int × Int × Int × Int × (List FRow)) ⊕ (Int × Int × (List FRow) × (List FRow))) := fun (s2, s3, s4, carry, k, l) =>
  bif decide (0 < k) then (
  M.grd (decide ((l.length + ([(⟨(s4 : Int), (carry : Int)⟩ : FRow)]).length) * 16 <= 140737488355328)) <|
  M.bind (zag s_bytes s2 s3 1 200) fun (r8, aa, ab) =>
  M.grd (decide ((-9223372036854775808 : Int) <= (s4 + r8)) && decide ((s4 + r8) <= (9223372036854775807 : Int))) <|
  M.bind (zad s_bytes aa ab 2000) fun (r9, ac, ae) =>
  M.grd (decide ((-9223372036854775808 : Int) <= (carry + r9)) && decide ((carry + r9) <= (9223372036854775807 : Int))) <|
  M.grd (decide ((-9223372036854775808 : Int) <= (k - 1)) && decide ((k - 1) <= (9223372036854775807 : Int))) <|
  M.pure (.inl (ac, ae, s4 + r8, carry + r9, k - 1, l ++ ([(⟨(s4 : Int), (carry : Int)⟩ : FRow)]))))
  else (
  M.pure (.inr (s2, s3, l, l)))
def zaJ (s_bytes : List UInt8) (marks : Int) (lies : Bool) (place : Int) (stage : Int) : (Int × Int × Int × (List Mrk)) -> M ((Int × Int × Int × (List Mrk)) ⊕ (Int × Int × (List Mrk) × (List Mrk))) := fun (ai, aj, k2, l7) =>
  bif ((decide (0 < k2)) && (decide ((l7.length : Int) < marks))) then (
  M.bind (zad s_bytes ai aj 2) fun (aa, ap, aq) =>
  M.bind (zad s_bytes ap aq 20) fun (ab, au, av) =>
  M.grd (decide ((-9223372036854775808 : Int) <= (aa * ab)) && decide ((aa * ab) <= (9223372036854775807 : Int))) <|
  M.grd (decide ((-9223372036854775808 : Int) <= (place + (aa * ab))) && decide ((place + (aa * ab)) <= (9223372036854775807 : Int))) <|
  M.bind (zad s_bytes au av 9) fun (ac, aw, ax) =>
  M.grd (decide ((-9223372036854775808 : Int) <= (stage - ac)) && decide ((stage - ac) <= (9223372036854775807 : Int))) <|
  M.bind (zad s_bytes aw ax 9) fun (ae, ak, al) =>
  M.grd (decide ((-9223372036854775808 : Int) <= (stage + ae)) && decide ((stage + ae) <= (9223372036854775807 : Int))) <|
  bif lies then (
  M.bind (zad s_bytes ak al 3) fun (ay, am, ao) =>
  bif (lies && (ay == 0)) then (
  M.bind (zag s_bytes am ao 50 420) fun (ag, az, aA) =>
  M.bind (zad s_bytes az aA 9) fun (ah, aB, aC) =>
  M.grd (decide ((-9223372036854775808 : Int) <= (ag + ah)) && decide ((ag + ah) <= (9223372036854775807 : Int))) <|
  M.grd (decide ((l7.length + ([(⟨(place + (aa * ab) : Int), (ag : Int), (ag + ah : Int)⟩ : Mrk)]).length) * 24 <= 140737488355328)) <|
  M.grd (decide ((-9223372036854775808 : Int) <= (k2 - 1)) && decide ((k2 - 1) <= (9223372036854775807 : Int))) <|
  M.pure (.inl (aB, aC, k2 - 1, l7 ++ ([(⟨(place + (aa * ab) : Int), (ag : Int), (ag + ah : Int)⟩ : Mrk)]))))
  else (
  M.grd (decide ((l7.length + ([(⟨(place + (aa * ab) : Int), (max 0 (stage - ac) : Int), (stage + ae : Int)⟩ : Mrk)]).length) * 24 <= 140737488355328)) <|
  M.grd (decide ((-9223372036854775808 : Int) <= (k2 - 1)) && decide ((k2 - 1) <= (9223372036854775807 : Int))) <|
  M.pure (.inl (am, ao, k2 - 1, l7 ++ ([(⟨(place + (aa * ab) : Int), (max 0 (stage - ac) : Int), (stage + ae : Int)⟩ : Mrk)])))))
  else (
  M.grd (decide ((l7.length + ([(⟨(place + (aa * ab) : Int), (max 0 (stage - ac) : Int), (stage + ae : Int)⟩ : Mrk)]).length) * 24 <= 140737488355328)) <|
  M.grd (decide ((-9223372036854775808 : Int) <= (k2 - 1)) && decide ((k2 - 1) <= (9223372036854775807 : Int))) <|
  M.pure (.inl (ak, al, k2 - 1, l7 ++ ([(⟨(place + (aa * ab) : Int), (max 0 (stage - ac) : Int), (stage + ae : Int)⟩ : Mrk)])))))
  else (
  M.pure (.inr (ai, aj, l7, l7)))
def zbB (s_bytes : List UInt8) (marks : Int) (lies : Bool) (place : Int) (stage : Int) (n : Int) (l9 : List Sect) (ac : List Mrk) (ae : List Int) (ag : List Int) (l3 : List FRow) (ah : Int) (ai : Int) (aj : Int) : M ((Int × Int × Int × Int × Int × (List Sect) × (List Mrk) × (List Int) × (List Int)) ⊕ (Int × Int × (List Sect) × (List Mrk) × (List Int) × (List Int) × (List Int) × (List Int) × (List Mrk) × (List Sect))) :=
  M.bind (zad s_bytes ai aj 3) fun (ak, al, am) =>
  M.bind (M.iter (zaJ s_bytes marks lies place stage) (al, am, ak, ac)) fun (ao, ap, l5, l8) =>
  M.bind (zag s_bytes ao ap 21 200) fun (aa, aq, au) =>
  M.grd (decide ((-9223372036854775808 : Int) <= (place + aa)) && decide ((place + aa) <= (9223372036854775807 : Int))) <|
  M.bind (zad s_bytes aq au 20) fun (ab, av, aw) =>
  M.grd (decide ((-9223372036854775808 : Int) <= (stage - ab)) && decide ((stage - ab) <= (9223372036854775807 : Int))) <|
  M.grd (decide ((-9223372036854775808 : Int) <= (n - 1)) && decide ((n - 1) <= (9223372036854775807 : Int))) <|
  M.pure (.inl (av, aw, place + aa, stage - ab, n - 1, l9 ++ ([(⟨(place : Int), l3⟩ : Sect)]), l8, ae ++ ([(stage : Int)]), ag ++ ([(ah : Int)])))
def zaH (s_bytes : List UInt8) (marks : Int) (lies : Bool) : (Int × Int × Int × Int × Int × (List Sect) × (List Mrk) × (List Int) × (List Int)) -> M ((Int × Int × Int × Int × Int × (List Sect) × (List Mrk) × (List Int) × (List Int)) ⊕ (Int × Int × (List Sect) × (List Mrk) × (List Int) × (List Int) × (List Int) × (List Int) × (List Mrk) × (List Sect))) := fun (ae, ag, place, stage, n, l9, ac, aa, ab) =>
  bif decide (0 < n) then (
  M.bind (zad s_bytes ae ag 60) fun (r5, ai, aj) =>
  M.bind (zad s_bytes ai aj 50) fun (r6, ak, al) =>
  M.bind (zag s_bytes ak al 2 4) fun (r7, am, ao) =>
  M.bind (M.iter (zaG s_bytes) (am, ao, r5, r6, r7, [])) fun (s5, s6, l2, l3) =>
  M.grd (decide ((l9.length + ([(⟨(place : Int), l3⟩ : Sect)]).length) * 32 <= 140737488355328)) <|
  M.grd (decide ((aa.length + ([(stage : Int)]).length) * 8 <= 140737488355328)) <|
  M.bind (zag s_bytes s5 s6 30 90) fun (ah, ap, aq) =>
  M.grd (decide ((ab.length + ([(ah : Int)]).length) * 8 <= 140737488355328)) <|
  zbB s_bytes marks lies place stage n l9 ac aa ab l3 ah ap aq)
  else (
  M.pure (.inr (ae, ag, l9, ac, aa, ab, ab, aa, ac, l9)))
def zaQ (s_bytes : List UInt8) (ab : List Int) (ae : List Sect) : (Int × Int × Int × (List Rch)) -> M ((Int × Int × Int × (List Rch)) ⊕ ((List Rch) × (List Rch) × Int × Int)) := fun (aj, ak, n2, ag) =>
  bif decide (0 < n2) then (
  M.bind (zad s_bytes aj ak ((ae.length : Int) - 1)) fun (aa, am, ao) =>
  M.bind (zad s_bytes am ao 4) fun (al, ap, aq) =>
  M.grd (decide ((-9223372036854775808 : Int) <= (((ae.length : Int) - 1) - aa)) && decide ((((ae.length : Int) - 1) - aa) <= (9223372036854775807 : Int))) <|
  M.bind (zag s_bytes ap aq 1 (((ae.length : Int) - 1) - aa)) fun (ac, au, av) =>
  M.grd (decide ((-9223372036854775808 : Int) <= (aa + ac)) && decide ((aa + ac) <= (9223372036854775807 : Int))) <|
  M.grd (decide ((0 : Int) <= aa) && decide (aa < (ab.length : Int))) <|
  M.grd (decide ((0 : Int) <= (aa + ac)) && decide ((aa + ac) < (ab.length : Int))) <|
  M.bind (zad s_bytes au av 8) fun (ah, aw, ax) =>
  M.grd (decide ((-9223372036854775808 : Int) <= ((min (ab.getD (Int.toNat aa) 0) (ab.getD (Int.toNat (aa + ac)) 0)) - ah)) && decide (((min (ab.getD (Int.toNat aa) 0) (ab.getD (Int.toNat (aa + ac)) 0)) - ah) <= (9223372036854775807 : Int))) <|
  M.bind (zad s_bytes aw ax 8) fun (ai, ay, az) =>
  M.grd (decide ((-9223372036854775808 : Int) <= ((max (ab.getD (Int.toNat aa) 0) (ab.getD (Int.toNat (aa + ac)) 0)) + ai)) && decide (((max (ab.getD (Int.toNat aa) 0) (ab.getD (Int.toNat (aa + ac)) 0)) + ai) <= (9223372036854775807 : Int))) <|
  M.grd (decide ((ag.length + ([(⟨(aa : Int), (aa + ac : Int), ((min (ab.getD (Int.toNat aa) 0) (ab.getD (Int.toNat (aa + ac)) 0)) - ah : Int), ((max (ab.getD (Int.toNat aa) 0) (ab.getD (Int.toNat (aa + ac)) 0)) + ai : Int), (al == 0)⟩ : Rch)]).length) * 40 <= 140737488355328)) <|
  M.grd (decide ((-9223372036854775808 : Int) <= (n2 - 1)) && decide ((n2 - 1) <= (9223372036854775807 : Int))) <|
  M.pure (.inl (ay, az, n2 - 1, ag ++ ([(⟨(aa : Int), (aa + ac : Int), ((min (ab.getD (Int.toNat aa) 0) (ab.getD (Int.toNat (aa + ac)) 0)) - ah : Int), ((max (ab.getD (Int.toNat aa) 0) (ab.getD (Int.toNat (aa + ac)) 0)) + ai : Int), (al == 0)⟩ : Rch)]))))
  else (
  M.pure (.inr (ag, ag, aj, ak)))
def zaD (s_bytes : List UInt8) (ac : Int) (ae : Int) (aa : List Int) (ag : List Int) (ab : List Sect) (ah : List Mrk) : M ((List Sect) × (List Mrk) × (List Rch) × (List Int) × (List Int) × Int × Int) :=
  M.bind (zag s_bytes ac ae 1 4) fun (ai, aj, ak) =>
  M.bind (M.iter (zaQ s_bytes aa ab) (aj, ak, ai, [])) fun (ap, al, am, ao) =>
  M.pure (ab, ah, al, ag, aa, am, ao)
def zbn (s_bytes : List UInt8) (s_used : Int) (s_mix : Int) (marks : Int) (lies : Bool) : M ((List Sect) × (List Mrk) × (List Rch) × (List Int) × (List Int) × Int × Int) :=
  M.bind (zad s_bytes s_used s_mix 50) fun (r2, q1, q2) =>
  M.bind (zag s_bytes q1 q2 100 400) fun (r3, ai, aj) =>
  M.bind (zag s_bytes ai aj 2 5) fun (r4, ak, al) =>
  M.bind (M.iter (zaH s_bytes marks lies) (ak, al, r2, r3, r4, [], [], [], [])) fun (ae, ag, am, ao, ap, aq, ah, aa, ac, ab) =>
  bif (ac.length : Int) == 0 then (
  M.grd (decide (0 < (ab.length : Int))) <|
  M.grd (decide (0 < (aa.length : Int))) <|
  M.grd (decide ((-9223372036854775808 : Int) <= ((aa.getD 0 0) - 5)) && decide (((aa.getD 0 0) - 5) <= (9223372036854775807 : Int))) <|
  M.grd (decide ((-9223372036854775808 : Int) <= ((aa.getD 0 0) + 5)) && decide (((aa.getD 0 0) + 5) <= (9223372036854775807 : Int))) <|
  M.grd (decide ((ac.length + ([(⟨((ab.getD 0 default).place : Int), ((aa.getD 0 0) - 5 : Int), ((aa.getD 0 0) + 5 : Int)⟩ : Mrk)]).length) * 24 <= 140737488355328)) <|
  zaD s_bytes ae ag ah aa ab (ac ++ ([(⟨((ab.getD 0 default).place : Int), ((aa.getD 0 0) - 5 : Int), ((aa.getD 0 0) + 5 : Int)⟩ : Mrk)])))
  else (
  zaD s_bytes ae ag ah aa ab ac)
theorem zc3 {R : List Chunk} {ae : Nat} {cb : Cells} {aO : Value} (s_bytes : List UInt8) (s_used : Int) (s_mix : Int) (marks : Int) (lies : Bool) (au : Reads R cb) (av : Sl cb aO s_bytes) {r : ((List Sect) × (List Mrk) × (List Rch) × (List Int) × (List Int) × Int × Int)} (hM : (zbn s_bytes s_used s_mix marks lies).Ends r) (w : World) (H : St w w [cBlk ae [aO, I s_used, I s_mix] 68] R) : Ret Try.prog 5 #[Pq ae, I marks, B lies] w fun v w' => ∃ (y0 : List Sect) (y1 : List Mrk) (y2 : List Rch) (y3 : List Int) (y4 : List Int) (y5 : Int) (y6 : Int) (u0 : Value) (rr1 : List (Raw 1)) (cc : Base) (u3 : Value) (u4 : Value) (u5 : Value) (u6 : Value), (y0, y1, y2, y3, y4, y5, y6) = r /\ v = .tuple #[.agg #[u0, u3, u4], .agg #[u5, u6]] /\ St w w' [cOwn (α := Raw 1) 39 u0 rr1, cRo cc, cOwn (α := Mrk) 46 u3 y1, cOwn (α := Rch) 56 u4 y2, cOwn (α := Int) 3 u5 y3, cOwn (α := Int) 3 u6 y4, cBlk ae [aO, I y5, I y6] 68] R /\ RepR (α := Sect) cc.cells rr1 y0 := by
 refine ret_of_W Try.func5 rfl rfl rfl ?_
 refine W.seq ?_
 refine W.region rfl ?_
 refine t_alloc (cs := [.slice none 0 0, .slice none 0 0, .slice none 0 0]) H Al27 rfl ?_
 intro aE gq H
 refine t_alloc (cs := [.slice none 0 0, .slice none 0 0]) H Al30 rfl ?_
 intro aF gr H
 refine s_nil ?_
 refine W.seq ?_
 refine W.region rfl ?_
 refine t_alloc (cs := [.slice none 0 0, .slice none 0 0, .slice none 0 0]) H Al27 rfl ?_
 intro ag gu H
 refine s_nil ?_
 refine W.seq ?_
 refine W.region rfl ?_
 refine t_alloc (cs := [.slice none 0 0, .slice none 0 0]) H Al30 rfl ?_
 intro aj gv H
 refine s_nil ?_
 refine W.seq ?_
 refine W.region rfl ?_
 refine zM (Pq ae) rfl ?_
 obtain ⟨gw, cM, hM⟩ := M.e_bind hM
 refine s_call cf9 [Pq ae, I 50] rfl (zae s_bytes s_used s_mix 50 (au.app _) av cM _ ((H.pk [4, 0, 1, 2, 3]).gt 4)) ?_
 rintro vq gx ⟨r2, q1, q2, cN, hvq, ac⟩
 subst cN
 subst vq
 try dsimp only at hM
 replace H := H.pk [4, 0, 1, 2, 3] |>.bk ac
 clear ac
 refine zM (Pq ae) rfl ?_
 obtain ⟨gy, cO, hM⟩ := M.e_bind hM
 refine s_call cf17 [Pq ae, I 100, I 400] rfl (zah s_bytes q1 q2 100 400 (au.app _) av cO _ (H.gt 4)) ?_
 rintro vq gz ⟨r3, cP, cQ, cR, hvq, ac⟩
 subst cR
 subst vq
 try dsimp only at hM
 replace H := H.bk ac
 clear ac
 refine zA (I r2) rfl ?_
 refine zA (I r3) rfl ?_
 refine s_nil ?_
 refine W.seq ?_
 refine W.seq ?_
 refine W.region rfl ?_
 refine zM (Pq ae) rfl ?_
 obtain ⟨gA, cS, hM⟩ := M.e_bind hM
 refine s_call cf17 [Pq ae, I 2, I 5] rfl (zah s_bytes cP cQ 2 5 (au.app _) av cS _ (H.gt 4)) ?_
 rintro vq gB ⟨r4, cT, cU, cV, hvq, ac⟩
 subst cV
 subst vq
 try dsimp only at hM
 replace H := H.bk ac
 clear ac
 refine zA (I r4) rfl ?_
 refine s_nil ?_
 refine W.block ?_
 obtain ⟨ce, H⟩ := H.emptyE
 replace H := H.nilOwn (α := Raw 1) 39
 have cW : RepR (α := Sect) (n := 1) ce.cells [] [] := .nil
 replace H := H.nilOwn (α := Mrk) 46
 replace H := H.nilOwn (α := Int) 3
 replace H := H.nilOwn (α := Int) 3
 obtain ⟨cX, bF, cY⟩ := M.e_bind hM
 obtain ⟨bG, bF⟩ := M.e_iter bF
 refine W.loop (fun m σ W => ∃ (aY : Int) (aZ : Int) (place : Int) (stage : Int) (n : Int) (l9 : List Sect) (aI : List Mrk) (ai : List Int) (ab : List Int) (ak : Value) (aM : Value) (al : Value) (am : Value) (aA : List (Raw 1)) (B_l9 : Base) (ρ : Env), σ = upds ρ [(0, Pq ae), (1, I marks), (2, B lies), (6, Pq aE), (7, Pq aF), (8, Pq ag), (9, Pq aj), (10, I place), (11, I stage), (12, I n)] /\ M.iterN (zaH s_bytes marks lies) m (aY, aZ, place, stage, n, l9, aI, ai, ab) = some cX /\ St w W [cOwn (α := Int) 3 am ab, cOwn (α := Int) 3 al ai, cOwn (α := Mrk) 46 aM aI, cOwn (α := Raw 1) 39 ak aA, cRo B_l9, cBlk ae [aO, I aY, I aZ] 68, cBlk aj [al, am] 30, cBlk ag [ak, aM, .slice none 0 0] 27, cBlk aF [.slice none 0 0, .slice none 0 0] 30, cBlk aE [.slice none 0 0, .slice none 0 0, .slice none 0 0] 27] R /\ RepR (α := Sect) B_l9.cells aA l9) ?_ ?_
 ·exact ⟨_, cT, cU, r2, r3, r4, [], [], [], [], (.slice none 0 0), (.slice none 0 0), (.slice none 0 0), (.slice none 0 0), [], ce, _, upds_of _ _ ⟨rfl, rfl, rfl, rfl, rfl, rfl, rfl, rfl, rfl, rfl, trivial⟩, bF, H, cW⟩
 rintro gC σ gD ⟨aY, aZ, place, stage, n, l9, aI, ai, ab, ak, aM, al, am, aA, B_l9, ρ, rfl, cf, H, az⟩
 obtain ⟨cZ, c8, c9, hM, cg⟩ := M.e_iterN cf
 simp only [zaH] at hM
 clear cf
 refine W.seq ?_
 refine W.seq ?_
 refine W.region rfl ?_
 refine zM (I n) rfl ?_
 refine zC n 0 (decide (0 < n)) rfl rfl rfl ?_
 refine s_nil ?_
 refine W.cond (decide (0 < n)) rfl (fun bj => ?_) (fun bj => ?_)
 ·replace hM := M.e_t hM bj
  simp only [qy1, qy2, qy3, qy4, qy5, qy6, ne_eq, qy7] at bj
  refine W.skip ?_
  refine W.seq ?_
  refine W.block ?_
  refine W.seq ?_
  refine W.region rfl ?_
  refine zM (I place) rfl ?_
  refine s_val (x_bld (ps := [(0, I place)]) (zs := [I 0, .slice none 0 0]) (L' := [I place, .slice none 0 0]) rfl Try.underlying39 Al39 rfl (Bd39 Try.underlying39) (.cons (cs := [I place]) rfl rfl rfl rfl rfl <| .nil)) ?_
  refine t_alloc (cs := [I 0, .slice none 0 0]) H Al39 rfl ?_
  intro aT gE H
  refine t_sw 0 0 [I place, .slice none 0 0] (.agg #[I place, .slice none 0 0]) H rfl rfl Sz39 rfl rfl rfl rfl ?_
  intro gF H
  refine s_nil ?_
  refine W.seq ?_
  refine W.region rfl ?_
  refine zM (Pq ae) rfl ?_
  obtain ⟨gG, da, hM⟩ := M.e_bind hM
  refine s_call cf9 [Pq ae, I 60] rfl (zae s_bytes aY aZ 60 (au.app _) av da _ ((H.pk [6, 0, 1, 2, 3, 4, 5, 7, 8, 9, 10]).gt 10)) ?_
  rintro vq gH ⟨r5, db, dc, dd, hvq, ac⟩
  subst dd
  subst vq
  try dsimp only at hM
  replace H := H.pk [6, 0, 1, 2, 3, 4, 5, 7, 8, 9, 10] |>.bk ac
  clear ac
  refine zM (Pq ae) rfl ?_
  obtain ⟨gI, de, hM⟩ := M.e_bind hM
  refine s_call cf9 [Pq ae, I 50] rfl (zae s_bytes db dc 50 (au.app _) av de _ (H.gt 10)) ?_
  rintro vq gJ ⟨r6, dg, dh, di, hvq, ac⟩
  subst di
  subst vq
  try dsimp only at hM
  replace H := H.bk ac
  clear ac
  refine zA (I r5) rfl ?_
  refine zA (I r6) rfl ?_
  refine s_nil ?_
  refine W.seq ?_
  refine W.seq ?_
  refine W.region rfl ?_
  refine zM (Pq ae) rfl ?_
  obtain ⟨gK, dj, hM⟩ := M.e_bind hM
  refine s_call cf17 [Pq ae, I 2, I 4] rfl (zah s_bytes dg dh 2 4 (au.app _) av dj _ (H.gt 10)) ?_
  rintro vq gL ⟨r7, dk, dm, dp, hvq, ac⟩
  subst dp
  subst vq
  try dsimp only at hM
  replace H := H.bk ac
  clear ac
  refine zA (I r7) rfl ?_
  refine s_nil ?_
  refine W.block ?_
  replace H := H.nilOwn (α := FRow) 41
  obtain ⟨dq, bH, dr⟩ := M.e_bind hM
  obtain ⟨bG, bH⟩ := M.e_iter bH
  refine W.loop (fun m σ W => ∃ (s2 : Int) (s3 : Int) (s4 : Int) (carry : Int) (k : Int) (l : List FRow) (aN : Value) (ρ : Env), σ = upds ρ [(0, Pq ae), (1, I marks), (2, B lies), (6, Pq aE), (7, Pq aF), (8, Pq ag), (9, Pq aj), (10, I place), (11, I stage), (12, I n), (13, Pq aT), (14, I s4), (15, I carry), (16, I k)] /\ M.iterN (zaG s_bytes) m (s2, s3, s4, carry, k, l) = some dq /\ St w W [cOwn (α := FRow) 41 aN l, cBlk ae [aO, I s2, I s3] 68, cBlk aT [I place, aN] 39, cOwn (α := Int) 3 am ab, cOwn (α := Int) 3 al ai, cOwn (α := Mrk) 46 aM aI, cOwn (α := Raw 1) 39 ak aA, cRo B_l9, cBlk aj [al, am] 30, cBlk ag [ak, aM, .slice none 0 0] 27, cBlk aF [.slice none 0 0, .slice none 0 0] 30, cBlk aE [.slice none 0 0, .slice none 0 0, .slice none 0 0] 27] R) ?_ ?_
  ·exact ⟨_, dk, dm, r5, r6, r7, [], (.slice none 0 0), _, upds_of _ _ ⟨rfl, rfl, rfl, rfl, rfl, rfl, rfl, rfl, rfl, rfl, rfl, rfl, rfl, rfl, trivial⟩, bH, H⟩
  rintro gM σ gN ⟨s2, s3, s4, carry, k, l, aN, ρ, rfl, ch, H⟩
  obtain ⟨dt, dv, gO, hM, ci⟩ := M.e_iterN ch
  simp only [zaG] at hM
  clear ch
  refine W.seq ?_
  refine W.seq ?_
  refine W.region rfl ?_
  refine zM (I k) rfl ?_
  refine zC k 0 (decide (0 < k)) rfl rfl rfl ?_
  refine s_nil ?_
  refine W.cond (decide (0 < k)) rfl (fun bm => ?_) (fun bm => ?_)
  ·replace hM := M.e_t hM bm
   simp only [qy1, qy2, qy3, qy4, qy5, qy6, ne_eq, qy7] at bm
   refine W.skip ?_
   refine W.seq ?_
   refine W.block ?_
   refine W.seq ?_
   refine W.region rfl ?_
   refine s_val (x_fa (a := Pq aT) (v := Oq aT 1) rfl (fa_blk (o := 0) Fd39_1 Sz37)) ?_
   refine s_val (x_ld (p := Oq aT 1) (v := aN) rfl (ldb_sc Sc37 (H.bl 2) rfl)) ?_
   refine zM (I s4) rfl ?_
   refine zM (I carry) rfl ?_
   refine s_val (x_bld (ps := [(0, I s4), (1, I carry)]) (zs := [I 0, I 0]) (L' := [I s4, I carry]) rfl Try.underlying41 Al41 rfl (Bd41 Try.underlying41) (.cons (cs := [I s4]) rfl rfl rfl rfl rfl <| .cons (cs := [I carry]) rfl rfl rfl rfl rfl <| .nil)) ?_
   refine t_bs (α := FRow) T37 [.agg #[I s4, I carry]] [(⟨(s4 : Int), (carry : Int)⟩ : FRow)] H rfl (.cons rfl (Flat.rep_enc _ (⟨(s4 : Int), (carry : Int)⟩ : FRow)) <| .nil) rfl rfl rfl ?_
   intro dw gP H
   obtain ⟨dx, hM⟩ := M.e_grd hM
   simp only [Bool.and_eq_true, decide_eq_true_eq] at dx
   refine t_app (α := FRow) (k := 1) (l := l) (l2 := [(⟨(s4 : Int), (carry : Int)⟩ : FRow)]) (l' := l ++ ([(⟨(s4 : Int), (carry : Int)⟩ : FRow)])) (vy := dw) T37 rfl H rfl rfl rfl (H.os 0) (H.ol 0) (rfl) (by first | omega | (simp only [List.length_nil] at *; omega)) ?_
   intro bI gQ H
   replace H := H.nf
   refine s_val (x_fa (a := Pq aT) (v := Oq aT 1) rfl (fa_blk (o := 0) Fd39_1 Sz37)) ?_
   refine t_sw 3 1 [bI] bI H rfl rfl Sz37 (Sl.cells (H.os 1)) rfl rfl (by simp only [List.all_cons, List.all_nil, Bool.true_and, Bool.and_true, Sl.oc (H.os 1)]; try rfl) ?_
   intro gR H
   refine s_nil ?_
   refine W.region rfl ?_
   refine zM (I s4) rfl ?_
   refine zM (Pq ae) rfl ?_
   obtain ⟨gS, dy, hM⟩ := M.e_bind hM
   refine s_call cf17 [Pq ae, I 1, I 200] rfl (zah s_bytes s2 s3 1 200 (au.app _) av dy _ ((H.pk [2, 0, 1, 3, 4, 5, 6, 7, 8, 9, 10, 11, 12]).gt 12)) ?_
   rintro vq gT ⟨r8, dz, dA, dB, hvq, ac⟩
   subst dB
   subst vq
   try dsimp only at hM
   replace H := H.pk [2, 0, 1, 3, 4, 5, 6, 7, 8, 9, 10, 11, 12] |>.bk ac
   clear ac
   obtain ⟨dC, hM⟩ := M.e_grd hM
   simp only [Bool.and_eq_true, decide_eq_true_eq] at dC
   refine zR s4 r8 (s4 + r8) rfl rfl rfl (by omega) ?_
   refine zM (I carry) rfl ?_
   refine zM (Pq ae) rfl ?_
   obtain ⟨gU, dD, hM⟩ := M.e_bind hM
   refine s_call cf9 [Pq ae, I 2000] rfl (zae s_bytes dz dA 2000 (au.app _) av dD _ (H.gt 12)) ?_
   rintro vq gV ⟨r9, dE, dF, dG, hvq, ac⟩
   subst dG
   subst vq
   try dsimp only at hM
   replace H := H.bk ac
   clear ac
   obtain ⟨dH, hM⟩ := M.e_grd hM
   simp only [Bool.and_eq_true, decide_eq_true_eq] at dH
   refine zR carry r9 (carry + r9) rfl rfl rfl (by omega) ?_
   refine zA (I (s4 + r8)) rfl ?_
   refine zA (I (carry + r9)) rfl ?_
   refine s_nil ?_
   refine W.region rfl ?_
   refine zM (I k) rfl ?_
   obtain ⟨dI, hM⟩ := M.e_grd hM
   simp only [Bool.and_eq_true, decide_eq_true_eq] at dI
   refine zR k 1 (k - 1) rfl rfl rfl (by omega) ?_
   refine zA (I (k - 1)) rfl ?_
   refine s_nil ?_
   exact ⟨dt, dv, dE, dF, s4 + r8, carry + r9, k - 1, l ++ ([(⟨(s4 : Int), (carry : Int)⟩ : FRow)]), bI, _, upds_of _ _ ⟨rfl, rfl, rfl, rfl, rfl, rfl, rfl, rfl, rfl, rfl, rfl, rfl, rfl, rfl, trivial⟩, M.e_inl hM ci, (H.pk [2, 0, 3, 4, 5, 6, 7, 8, 9, 10, 11, 12])⟩
  replace hM := M.e_f hM bm
  simp only [qy1, qy2, qy3, qy4, qy5, qy6, ne_eq, qy7] at bm
  refine W.exit ?_
  have dJ := M.e_inr hM ci
  subst dJ
  replace hM := dr
  try dsimp only at hM
  refine W.seqJ (fun σ W => ∃ (aq : Int) (aU : Int) (aV : Int) (cj : Value) (ck : Value) (aP : Base) (cn : Value) (bJ : List (Raw 1)) (aW : Base) (bc : Base) (bf : Base) (a6 : Value) (a7 : Value) (a8 : Value) (bg : List (Raw 1)) (ρ : Env), σ = upds ρ [(0, Pq ae), (1, I marks), (2, B lies), (6, Pq aE), (7, Pq aF), (8, Pq ag), (9, Pq aj), (10, I place), (11, I stage), (12, I n)] /\ (zbB s_bytes marks lies place stage n l9 aI ai ab l aq aU aV).Ends c9 /\ St w W [cOwn (α := Int) 3 cj ([(aq : Int)]), cBlk ae [aO, I aU, I aV] 68, cOwn (α := Int) 3 ck ([(stage : Int)]), cRo aP, cOwn (α := Raw 1) 39 cn bJ, cRo aW, cRo bc, cRo bf, cBlk aT [I place, aN] 39, cOwn (α := Int) 3 a6 (ab ++ ([(aq : Int)])), cOwn (α := Int) 3 a7 (ai ++ ([(stage : Int)])), cOwn (α := Mrk) 46 aM aI, cOwn (α := Raw 1) 39 a8 bg, cRo B_l9, cBlk aj [a7, a6] 30, cBlk ag [a8, aM, .slice none 0 0] 27, cBlk aF [.slice none 0 0, .slice none 0 0] 30, cBlk aE [.slice none 0 0, .slice none 0 0, .slice none 0 0] 27] R /\ RepR (α := Sect) aW.cells bJ ([(⟨(place : Int), l⟩ : Sect)]) /\ RepR (α := Sect) aP.cells bg (l9 ++ ([(⟨(place : Int), l⟩ : Sect)]))) ?_ ?_
  ·skip
   refine W.drawTS (fun W => St w W [cBlk aT [I place, aN] 39, cOwn (α := Mrk) 46 aM aI, cRo B_l9, cBlk aj [al, am] 30, cBlk ag [ak, aM, .slice none 0 0] 27, cBlk aF [.slice none 0 0, .slice none 0 0] 30, cBlk aE [.slice none 0 0, .slice none 0 0, .slice none 0 0] 27] R) (.q 0 (.q 1 (.q 2 (.q 5 (.q 6 (.q 7 (.q 10 (.q 11 (.q 12 (.l2 3 (.l2 4 (.q 16 (.l 8 (.l 9 (.l 13 (.l 14 (.l 15 .nil)))))) 8 (.l 4 (.q 16 (.l 9 (.l 13 (.l 14 (.l 15 .nil))))))) 8 (.l 3 (.l 4 (.q 16 (.l 9 (.l 13 (.l 14 (.l 15 .nil))))))))))))))))) 17 [17, 18, 19, 20, 21] mixed (by decide +kernel) rfl ?_
   intro gW aG
   replace H := H.ext aG
   clear aG
   refine ⟨(H.pk [2, 5, 7, 8, 9, 10, 11]), ?_⟩
   refine ts_q rfl (fun w' H => x_fa (a := Pq ag) (v := Pq ag) rfl (fa_blk (o := 0) Fd27_0 Sz23)) ?_
   refine ts_q rfl (fun w' H => x_ld (p := Pq ag) (v := ak) rfl (ldb_sc Sc23 (H.bl 4) rfl)) ?_
   refine ts_q rfl (fun w' H => x_ld (p := Pq aT) (v := .agg #[I place, aN]) rfl (ldb_ag (ds := [I place, aN]) Ag39 Sz39 (H.bl 0) rfl rfl)) ?_
   refine ts_q rfl (fun w' H => x_fa (a := Pq aj) (v := Pq aj) rfl (fa_blk (o := 0) Fd30_0 Sz28)) ?_
   refine ts_q rfl (fun w' H => x_ld (p := Pq aj) (v := al) rfl (ldb_sc Sc28 (H.bl 3) rfl)) ?_
   refine ts_q rfl (fun w' H => x_mv (v := I stage) rfl) ?_
   refine ts_q rfl (fun w' H => x_fa (a := Pq aj) (v := Oq aj 1) rfl (fa_blk (o := 0) Fd30_1 Sz28)) ?_
   refine ts_q rfl (fun w' H => x_ld (p := Oq aj 1) (v := am) rfl (ldb_sc Sc28 (H.bl 3) rfl)) ?_
   refine ts_q rfl (fun w' H => x_mv (v := Pq ae) rfl) ?_
   refine ts_l2 rfl rfl ?_ ?_
   ·skip
    obtain ⟨bc, H⟩ := H.emptyE
    obtain ⟨bf, H, dK⟩ := H.freezeE (k := 1) rfl
    replace H := H.nf
    have bu := dK
    obtain ⟨aW, H, gX, dL⟩ := H.joinE (i := 0) (j := 1) rfl rfl
    replace bu := bu.mono dL
    obtain ⟨aQ, co⟩ : ∃ r : Raw 1, r.cs = [I place, aN] := ⟨Raw.of [I place, aN] rfl (by simp only [List.all_cons, List.all_nil, Bool.true_and, Bool.and_true, Sl.oc bu]; try rfl), rfl⟩
    have bv : RepR (α := Sect) aW.cells [aQ] [(⟨(place : Int), l⟩ : Sect)] := .cons (by rw [co]; exact ⟨_, rfl, bu⟩) <| .nil
    refine t_bs (α := Raw 1) T23 [.agg #[I place, aN]] [aQ] H rfl (.cons (by rw [show (Flat.enc aQ : List Value) = aQ.cs from rfl, co]; rfl) (Flat.rep_enc _ _) <| .nil) rfl rfl rfl ?_
    intro bw gY H
    replace H := H.nf
    have gZ := Sl.cells (H.os 0)
    have g0 := Sl.oc (H.os 0)
    have hG := Sl.cells (H.os 6)
    have hO := Sl.oc (H.os 6)
    have hZ := Sl.cells (H.os 7)
    have h9 := Sl.oc (H.os 7)
    have ia := Sl.cells (H.os 9)
    have ib := Sl.oc (H.os 9)
    refine s_nil ⟨(H.pk [5, 8, 10, 11, 12, 13, 14]), ?_⟩
    refine ts_l2 rfl rfl ?_ ?_
    ·skip
     obtain ⟨dM, hM⟩ := M.e_grd hM
     simp only [Bool.and_eq_true, decide_eq_true_eq] at dM
     have bx := bv
     obtain ⟨aP, H, dN, dO⟩ := H.joinE (i := 10) (j := 1) rfl rfl
     replace az := az.mono dN
     replace bx := bx.mono dO
     have bK := az.app bx
     refine t_app (α := Raw 1) (k := 10) (l := aA) (l2 := [aQ]) (l' := aA ++ ([aQ])) (vy := bw) T23 rfl H rfl rfl rfl (H.os 1) (H.ol 1) (rfl) (by have a_ := az.len; have b_ := bx.len; (try simp only [List.length_nil] at *); first | omega | (rw [a_, b_]; omega)) ?_
     intro bL ic H
     replace H := H.nf
     have ie := Sl.cells (H.os 10)
     have ig := Sl.oc (H.os 10)
     refine s_nil ⟨(H.pk [6, 9, 11, 12, 13, 14, 15]), ?_⟩
     refine ts_q rfl (fun w' H => x_fa (a := Pq ag) (v := Pq ag) rfl (fa_blk (o := 0) Fd27_0 Sz23)) ?_
     refine ts_l rfl ?_
     refine t_bs (α := Int) T28 [I stage] [(stage : Int)] H rfl (.cons rfl (Flat.rep_enc _ (stage : Int)) <| .nil) rfl rfl rfl ?_
     intro cp ii H
     have ij := Sl.cells (H.os 0)
     have ik := Sl.oc (H.os 0)
     refine s_nil ⟨(H.pk [7, 10, 12, 13, 14, 15, 16]), ?_⟩
     refine ts_l rfl ?_
     obtain ⟨dP, hM⟩ := M.e_grd hM
     simp only [Bool.and_eq_true, decide_eq_true_eq] at dP
     refine t_app (α := Int) (k := 9) (l := ai) (l2 := [(stage : Int)]) (l' := ai ++ ([(stage : Int)])) (vy := cp) T28 rfl H rfl rfl rfl (H.os 0) (H.ol 0) (rfl) (by first | omega | (simp only [List.length_nil] at *; omega)) ?_
     intro bM il H
     replace H := H.nf
     have im := Sl.cells (H.os 9)
     have io := Sl.oc (H.os 9)
     refine s_nil ⟨(H.pk [7, 10, 12, 13, 14, 15, 16]), ?_⟩
     refine ts_l rfl ?_
     obtain ⟨iq, dQ, hM⟩ := M.e_bind hM
     refine s_call cf17 [Pq ae, I 30, I 90] rfl (zah s_bytes s2 s3 30 90 (au.app _) av dQ _ ((H.pk [6, 0, 1, 2, 3, 4, 5, 7, 8, 9, 10, 11, 12, 13, 14, 15, 16]).gt 16)) ?_
     rintro vq ir ⟨aq, aU, aV, dR, hvq, ac⟩
     subst dR
     subst vq
     try dsimp only at hM
     replace H := H.pk [6, 0, 1, 2, 3, 4, 5, 7, 8, 9, 10, 11, 12, 13, 14, 15, 16] |>.bk ac
     clear ac
     refine s_nil ⟨(H.pk [7, 10, 12, 13, 14, 15, 16]), ?_⟩
     refine ts_l rfl ?_
     refine t_bs (α := Int) T28 [I aq] [(aq : Int)] H rfl (.cons rfl (Flat.rep_enc _ (aq : Int)) <| .nil) rfl rfl rfl ?_
     intro cq iw H
     have iy := Sl.cells (H.os 0)
     have iz := Sl.oc (H.os 0)
     refine s_nil ⟨(H.pk [8, 11, 13, 14, 15, 16, 17]), ?_⟩
     refine ts_l rfl ?_
     obtain ⟨dS, hM⟩ := M.e_grd hM
     simp only [Bool.and_eq_true, decide_eq_true_eq] at dS
     refine t_app (α := Int) (k := 9) (l := ab) (l2 := [(aq : Int)]) (l' := ab ++ ([(aq : Int)])) (vy := cq) T28 rfl H rfl rfl rfl (H.os 0) (H.ol 0) (rfl) (by first | omega | (simp only [List.length_nil] at *; omega)) ?_
     intro bN iA H
     replace H := H.nf
     have iB := Sl.cells (H.os 9)
     have iC := Sl.oc (H.os 9)
     refine s_nil ⟨(H.pk [8, 11, 13, 14, 15, 16, 17]), ?_⟩
     refine ts_nil ?_
     refine sr_l rfl ?_
     refine t_sw 15 0 [bL] bL H rfl rfl Sz23 (Sl.cells (rowSl rfl (H.get (k := 12) rfl) (roLe _ (H.get (k := 3) rfl)) bK)) rfl rfl (by simp only [List.all_cons, List.all_nil, Bool.true_and, Bool.and_true, Sl.oc (rowSl rfl (H.get (k := 12) rfl) (roLe _ (H.get (k := 3) rfl)) bK)]; try rfl) ?_
     intro iD H
     refine s_nil ⟨trivial, ?_⟩
     refine sr_l rfl ?_
     refine s_val (x_fa (a := Pq aj) (v := Pq aj) rfl (fa_blk (o := 0) Fd30_0 Sz28)) ?_
     refine s_nil ⟨trivial, ?_⟩
     refine sr_l rfl ?_
     refine t_sw 14 0 [bM] bM H rfl rfl Sz28 (Sl.cells (H.os 10)) rfl rfl (by simp only [List.all_cons, List.all_nil, Bool.true_and, Bool.and_true, Sl.oc (H.os 10)]; try rfl) ?_
     intro iE H
     refine s_nil ⟨trivial, ?_⟩
     refine sr_l rfl ?_
     refine s_val (x_fa (a := Pq aj) (v := Oq aj 1) rfl (fa_blk (o := 0) Fd30_1 Sz28)) ?_
     refine s_nil ⟨trivial, ?_⟩
     refine sr_l rfl ?_
     refine t_sw 14 1 [bN] bN H rfl rfl Sz28 (Sl.cells (H.os 9)) rfl rfl (by simp only [List.all_cons, List.all_nil, Bool.true_and, Bool.and_true, Sl.oc (H.os 9)]; try rfl) ?_
     intro iF H
     refine s_nil ⟨trivial, ?_⟩
     refine sr_nil ?_
     exact ⟨aq, aU, aV, cq, cp, aP, bw, [aQ], aW, bc, bf, bN, bM, bL, aA ++ ([aQ]), _, upds_of _ _ ⟨rfl, rfl, rfl, rfl, rfl, rfl, rfl, rfl, rfl, rfl, trivial⟩, hM, H, bv, bK⟩
    skip
    refine t_bs (α := Int) T28 [I stage] [(stage : Int)] H rfl (.cons rfl (Flat.rep_enc _ (stage : Int)) <| .nil) rfl rfl rfl ?_
    intro cr iG H
    have iH := Sl.cells (H.os 0)
    have iI := Sl.oc (H.os 0)
    refine s_nil ⟨(H.pk [6, 9, 11, 12, 13, 14, 15]), ?_⟩
    refine ts_l rfl ?_
    obtain ⟨dT, hM⟩ := M.e_grd hM
    simp only [Bool.and_eq_true, decide_eq_true_eq] at dT
    have bz := bv
    obtain ⟨aP, H, dU, dV⟩ := H.joinE (i := 11) (j := 2) rfl rfl
    replace az := az.mono dU
    replace bz := bz.mono dV
    have bO := az.app bz
    refine t_app (α := Raw 1) (k := 11) (l := aA) (l2 := [aQ]) (l' := aA ++ ([aQ])) (vy := bw) T23 rfl H rfl rfl rfl (H.os 2) (H.ol 2) (rfl) (by have a_ := az.len; have b_ := bz.len; (try simp only [List.length_nil] at *); first | omega | (rw [a_, b_]; omega)) ?_
    intro bP iJ H
    replace H := H.nf
    have iK := Sl.cells (H.os 11)
    have iL := Sl.oc (H.os 11)
    refine s_nil ⟨(H.pk [7, 10, 12, 13, 14, 15, 16]), ?_⟩
    refine ts_q rfl (fun w' H => x_fa (a := Pq ag) (v := Pq ag) rfl (fa_blk (o := 0) Fd27_0 Sz23)) ?_
    refine ts_l rfl ?_
    obtain ⟨dW, hM⟩ := M.e_grd hM
    simp only [Bool.and_eq_true, decide_eq_true_eq] at dW
    refine t_app (α := Int) (k := 9) (l := ai) (l2 := [(stage : Int)]) (l' := ai ++ ([(stage : Int)])) (vy := cr) T28 rfl H rfl rfl rfl (H.os 1) (H.ol 1) (rfl) (by first | omega | (simp only [List.length_nil] at *; omega)) ?_
    intro bQ iM H
    replace H := H.nf
    have iN := Sl.cells (H.os 9)
    have iO := Sl.oc (H.os 9)
    refine s_nil ⟨(H.pk [7, 10, 12, 13, 14, 15, 16]), ?_⟩
    refine ts_l rfl ?_
    obtain ⟨iP, dX, hM⟩ := M.e_bind hM
    refine s_call cf17 [Pq ae, I 30, I 90] rfl (zah s_bytes s2 s3 30 90 (au.app _) av dX _ ((H.pk [6, 0, 1, 2, 3, 4, 5, 7, 8, 9, 10, 11, 12, 13, 14, 15, 16]).gt 16)) ?_
    rintro vq iQ ⟨aq, aU, aV, dY, hvq, ac⟩
    subst dY
    subst vq
    try dsimp only at hM
    replace H := H.pk [6, 0, 1, 2, 3, 4, 5, 7, 8, 9, 10, 11, 12, 13, 14, 15, 16] |>.bk ac
    clear ac
    refine s_nil ⟨(H.pk [7, 10, 12, 13, 14, 15, 16]), ?_⟩
    refine ts_l rfl ?_
    refine t_bs (α := Int) T28 [I aq] [(aq : Int)] H rfl (.cons rfl (Flat.rep_enc _ (aq : Int)) <| .nil) rfl rfl rfl ?_
    intro ct iR H
    have iS := Sl.cells (H.os 0)
    have iT := Sl.oc (H.os 0)
    refine s_nil ⟨(H.pk [8, 11, 13, 14, 15, 16, 17]), ?_⟩
    refine ts_l rfl ?_
    obtain ⟨dZ, hM⟩ := M.e_grd hM
    simp only [Bool.and_eq_true, decide_eq_true_eq] at dZ
    refine t_app (α := Int) (k := 9) (l := ab) (l2 := [(aq : Int)]) (l' := ab ++ ([(aq : Int)])) (vy := ct) T28 rfl H rfl rfl rfl (H.os 0) (H.ol 0) (rfl) (by first | omega | (simp only [List.length_nil] at *; omega)) ?_
    intro bR iU H
    replace H := H.nf
    have iV := Sl.cells (H.os 9)
    have iW := Sl.oc (H.os 9)
    refine s_nil ⟨(H.pk [8, 11, 13, 14, 15, 16, 17]), ?_⟩
    refine ts_nil ?_
    refine sr_l rfl ?_
    refine t_sw 15 0 [bP] bP H rfl rfl Sz23 (Sl.cells (rowSl rfl (H.get (k := 12) rfl) (roLe _ (H.get (k := 2) rfl)) bO)) rfl rfl (by simp only [List.all_cons, List.all_nil, Bool.true_and, Bool.and_true, Sl.oc (rowSl rfl (H.get (k := 12) rfl) (roLe _ (H.get (k := 2) rfl)) bO)]; try rfl) ?_
    intro iX H
    refine s_nil ⟨trivial, ?_⟩
    refine sr_l rfl ?_
    refine s_val (x_fa (a := Pq aj) (v := Pq aj) rfl (fa_blk (o := 0) Fd30_0 Sz28)) ?_
    refine s_nil ⟨trivial, ?_⟩
    refine sr_l rfl ?_
    refine t_sw 14 0 [bQ] bQ H rfl rfl Sz28 (Sl.cells (H.os 10)) rfl rfl (by simp only [List.all_cons, List.all_nil, Bool.true_and, Bool.and_true, Sl.oc (H.os 10)]; try rfl) ?_
    intro iY H
    refine s_nil ⟨trivial, ?_⟩
    refine sr_l rfl ?_
    refine s_val (x_fa (a := Pq aj) (v := Oq aj 1) rfl (fa_blk (o := 0) Fd30_1 Sz28)) ?_
    refine s_nil ⟨trivial, ?_⟩
    refine sr_l rfl ?_
    refine t_sw 14 1 [bR] bR H rfl rfl Sz28 (Sl.cells (H.os 9)) rfl rfl (by simp only [List.all_cons, List.all_nil, Bool.true_and, Bool.and_true, Sl.oc (H.os 9)]; try rfl) ?_
    intro iZ H
    refine s_nil ⟨trivial, ?_⟩
    refine sr_nil ?_
    exact ⟨aq, aU, aV, ct, cr, aP, bw, [aQ], aW, bc, bf, bR, bQ, bP, aA ++ ([aQ]), _, upds_of _ _ ⟨rfl, rfl, rfl, rfl, rfl, rfl, rfl, rfl, rfl, rfl, trivial⟩, hM, (H.pk [0, 1, 3, 2, 4, 5, 6, 7, 8, 9, 10, 11, 12, 13, 14, 15, 16, 17]), bv, bO⟩
   skip
   refine t_bs (α := Int) T28 [I stage] [(stage : Int)] H rfl (.cons rfl (Flat.rep_enc _ (stage : Int)) <| .nil) rfl rfl rfl ?_
   intro cv i0 H
   have i6 := Sl.cells (H.os 0)
   have i7 := Sl.oc (H.os 0)
   have i8 := Sl.cells (H.os 1)
   have i9 := Sl.oc (H.os 1)
   have ja := Sl.cells (H.os 4)
   have jb := Sl.oc (H.os 4)
   have jc := Sl.cells (H.os 5)
   have jd := Sl.oc (H.os 5)
   have je := Sl.cells (H.os 7)
   have jf := Sl.oc (H.os 7)
   refine s_nil ⟨(H.pk [3, 6, 8, 9, 10, 11, 12]), ?_⟩
   refine ts_l rfl ?_
   obtain ⟨bc, H⟩ := H.emptyE
   obtain ⟨bf, H, d4⟩ := H.freezeE (k := 2) rfl
   replace H := H.nf
   have bA := d4
   obtain ⟨aW, H, jg, d5⟩ := H.joinE (i := 0) (j := 2) rfl rfl
   replace bA := bA.mono d5
   obtain ⟨ba, cw⟩ : ∃ r : Raw 1, r.cs = [I place, aN] := ⟨Raw.of [I place, aN] rfl (by simp only [List.all_cons, List.all_nil, Bool.true_and, Bool.and_true, Sl.oc bA]; try rfl), rfl⟩
   have cx : RepR (α := Sect) aW.cells [ba] [(⟨(place : Int), l⟩ : Sect)] := .cons (by rw [cw]; exact ⟨_, rfl, bA⟩) <| .nil
   refine t_bs (α := Raw 1) T23 [.agg #[I place, aN]] [ba] H rfl (.cons (by rw [show (Flat.enc ba : List Value) = ba.cs from rfl, cw]; rfl) (Flat.rep_enc _ _) <| .nil) rfl rfl rfl ?_
   intro cy jh H
   replace H := H.nf
   have ji := Sl.cells (H.os 0)
   have jj := Sl.oc (H.os 0)
   refine s_nil ⟨(H.pk [6, 9, 11, 12, 13, 14, 15]), ?_⟩
   refine ts_l rfl ?_
   obtain ⟨d6, hM⟩ := M.e_grd hM
   simp only [Bool.and_eq_true, decide_eq_true_eq] at d6
   have bB := cx
   obtain ⟨aP, H, d7, d8⟩ := H.joinE (i := 11) (j := 1) rfl rfl
   replace az := az.mono d7
   replace bB := bB.mono d8
   have bS := az.app bB
   refine t_app (α := Raw 1) (k := 11) (l := aA) (l2 := [ba]) (l' := aA ++ ([ba])) (vy := cy) T23 rfl H rfl rfl rfl (H.os 1) (H.ol 1) (rfl) (by have a_ := az.len; have b_ := bB.len; (try simp only [List.length_nil] at *); first | omega | (rw [a_, b_]; omega)) ?_
   intro bT jk H
   replace H := H.nf
   have jl := Sl.cells (H.os 11)
   have jm := Sl.oc (H.os 11)
   refine s_nil ⟨(H.pk [7, 10, 12, 13, 14, 15, 16]), ?_⟩
   refine ts_q rfl (fun w' H => x_fa (a := Pq ag) (v := Pq ag) rfl (fa_blk (o := 0) Fd27_0 Sz23)) ?_
   refine ts_l rfl ?_
   obtain ⟨d9, hM⟩ := M.e_grd hM
   simp only [Bool.and_eq_true, decide_eq_true_eq] at d9
   refine t_app (α := Int) (k := 9) (l := ai) (l2 := [(stage : Int)]) (l' := ai ++ ([(stage : Int)])) (vy := cv) T28 rfl H rfl rfl rfl (H.os 4) (H.ol 4) (rfl) (by first | omega | (simp only [List.length_nil] at *; omega)) ?_
   intro bU jn H
   replace H := H.nf
   have jo := Sl.cells (H.os 9)
   have jp := Sl.oc (H.os 9)
   refine s_nil ⟨(H.pk [7, 10, 12, 13, 14, 15, 16]), ?_⟩
   refine ts_l rfl ?_
   obtain ⟨jq, ed, hM⟩ := M.e_bind hM
   refine s_call cf17 [Pq ae, I 30, I 90] rfl (zah s_bytes s2 s3 30 90 (au.app _) av ed _ ((H.pk [6, 0, 1, 2, 3, 4, 5, 7, 8, 9, 10, 11, 12, 13, 14, 15, 16]).gt 16)) ?_
   rintro vq jr ⟨aq, aU, aV, ee, hvq, ac⟩
   subst ee
   subst vq
   try dsimp only at hM
   replace H := H.pk [6, 0, 1, 2, 3, 4, 5, 7, 8, 9, 10, 11, 12, 13, 14, 15, 16] |>.bk ac
   clear ac
   refine s_nil ⟨(H.pk [7, 10, 12, 13, 14, 15, 16]), ?_⟩
   refine ts_l rfl ?_
   refine t_bs (α := Int) T28 [I aq] [(aq : Int)] H rfl (.cons rfl (Flat.rep_enc _ (aq : Int)) <| .nil) rfl rfl rfl ?_
   intro cz js H
   have jt := Sl.cells (H.os 0)
   have ju := Sl.oc (H.os 0)
   refine s_nil ⟨(H.pk [8, 11, 13, 14, 15, 16, 17]), ?_⟩
   refine ts_l rfl ?_
   obtain ⟨ef, hM⟩ := M.e_grd hM
   simp only [Bool.and_eq_true, decide_eq_true_eq] at ef
   refine t_app (α := Int) (k := 9) (l := ab) (l2 := [(aq : Int)]) (l' := ab ++ ([(aq : Int)])) (vy := cz) T28 rfl H rfl rfl rfl (H.os 0) (H.ol 0) (rfl) (by first | omega | (simp only [List.length_nil] at *; omega)) ?_
   intro bV jv H
   replace H := H.nf
   have jw := Sl.cells (H.os 9)
   have jx := Sl.oc (H.os 9)
   refine s_nil ⟨(H.pk [8, 11, 13, 14, 15, 16, 17]), ?_⟩
   refine ts_nil ?_
   refine sr_l rfl ?_
   refine t_sw 15 0 [bT] bT H rfl rfl Sz23 (Sl.cells (rowSl rfl (H.get (k := 12) rfl) (roLe _ (H.get (k := 2) rfl)) bS)) rfl rfl (by simp only [List.all_cons, List.all_nil, Bool.true_and, Bool.and_true, Sl.oc (rowSl rfl (H.get (k := 12) rfl) (roLe _ (H.get (k := 2) rfl)) bS)]; try rfl) ?_
   intro jy H
   refine s_nil ⟨trivial, ?_⟩
   refine sr_l rfl ?_
   refine s_val (x_fa (a := Pq aj) (v := Pq aj) rfl (fa_blk (o := 0) Fd30_0 Sz28)) ?_
   refine s_nil ⟨trivial, ?_⟩
   refine sr_l rfl ?_
   refine t_sw 14 0 [bU] bU H rfl rfl Sz28 (Sl.cells (H.os 10)) rfl rfl (by simp only [List.all_cons, List.all_nil, Bool.true_and, Bool.and_true, Sl.oc (H.os 10)]; try rfl) ?_
   intro jz H
   refine s_nil ⟨trivial, ?_⟩
   refine sr_l rfl ?_
   refine s_val (x_fa (a := Pq aj) (v := Oq aj 1) rfl (fa_blk (o := 0) Fd30_1 Sz28)) ?_
   refine s_nil ⟨trivial, ?_⟩
   refine sr_l rfl ?_
   refine t_sw 14 1 [bV] bV H rfl rfl Sz28 (Sl.cells (H.os 9)) rfl rfl (by simp only [List.all_cons, List.all_nil, Bool.true_and, Bool.and_true, Sl.oc (H.os 9)]; try rfl) ?_
   intro jA H
   refine s_nil ⟨trivial, ?_⟩
   refine sr_nil ?_
   exact ⟨aq, aU, aV, cz, cv, aP, cy, [ba], aW, bc, bf, bV, bU, bT, aA ++ ([ba]), _, upds_of _ _ ⟨rfl, rfl, rfl, rfl, rfl, rfl, rfl, rfl, rfl, rfl, trivial⟩, hM, (H.pk [0, 1, 6, 2, 3, 4, 5, 7, 8, 9, 10, 11, 12, 13, 14, 15, 16, 17]), cx, bS⟩
  rintro _ jB ⟨aq, aU, aV, cj, ck, aP, cn, bJ, aW, bc, bf, a6, a7, a8, bg, ρ, rfl, hM, H, jC, eg⟩
  unfold zbB at hM
  refine W.seq ?_
  refine W.seq ?_
  refine W.region rfl ?_
  refine zM (Pq ae) rfl ?_
  obtain ⟨jD, ei, hM⟩ := M.e_bind hM
  refine s_call cf9 [Pq ae, I 3] rfl (zae s_bytes aU aV 3 (au.app _) av ei _ ((H.pk [1, 0, 2, 3, 4, 5, 6, 7, 8, 9, 10, 11, 12, 13, 14, 15, 16, 17]).gt 17)) ?_
  rintro vq jE ⟨cA, ej, ek, em, hvq, ac⟩
  subst em
  subst vq
  try dsimp only at hM
  replace H := H.pk [1, 0, 2, 3, 4, 5, 6, 7, 8, 9, 10, 11, 12, 13, 14, 15, 16, 17] |>.bk ac
  clear ac
  refine zA (I cA) rfl ?_
  refine s_nil ?_
  replace H := H.pk [0, 3, 9, 10, 11, 12, 13, 14, 15, 16, 17]
  refine W.block ?_
  obtain ⟨en, bW, eo⟩ := M.e_bind hM
  obtain ⟨bG, bW⟩ := M.e_iter bW
  refine W.loop (fun m σ W => ∃ (bn : Int) (bo : Int) (k2 : Int) (l7 : List Mrk) (aS : Value) (ρ : Env), σ = upds ρ [(0, Pq ae), (1, I marks), (2, B lies), (6, Pq aE), (7, Pq aF), (8, Pq ag), (9, Pq aj), (10, I place), (11, I stage), (12, I n), (17, I k2)] /\ M.iterN (zaJ s_bytes marks lies place stage) m (bn, bo, k2, l7) = some en /\ St w W [cBlk ae [aO, I bn, I bo] 68, cRo aP, cOwn (α := Int) 3 a6 (ab ++ ([(aq : Int)])), cOwn (α := Int) 3 a7 (ai ++ ([(stage : Int)])), cOwn (α := Mrk) 46 aS l7, cOwn (α := Raw 1) 39 a8 bg, cRo B_l9, cBlk aj [a7, a6] 30, cBlk ag [a8, aS, .slice none 0 0] 27, cBlk aF [.slice none 0 0, .slice none 0 0] 30, cBlk aE [.slice none 0 0, .slice none 0 0, .slice none 0 0] 27] R) ?_ ?_
  ·exact ⟨_, ej, ek, cA, aI, aM, _, upds_of _ _ ⟨rfl, rfl, rfl, rfl, rfl, rfl, rfl, rfl, rfl, rfl, rfl, trivial⟩, bW, H⟩
  rintro jF σ jG ⟨bn, bo, k2, l7, aS, ρ, rfl, cB, H⟩
  obtain ⟨bX, bY, jH, hM, bC⟩ := M.e_iterN cB
  simp only [zaJ] at hM
  clear cB
  refine W.seq ?_
  refine W.seq ?_
  refine W.region rfl ?_
  refine zM (I k2) rfl ?_
  refine zC k2 0 (decide (0 < k2)) rfl rfl rfl ?_
  refine zM (B (decide (0 < k2))) rfl ?_
  refine g_val (decide (0 < k2)) (gy_t rfl) (fun hg => x_fa (a := Pq ag) (v := Oq ag 1) rfl (fa_blk (o := 0) Fd27_1 Sz24)) ?_
  refine g_val (decide (0 < k2)) (gy_t rfl) (fun hg => x_ld (p := Oq ag 1) (v := aS) (gd_of (c := decide (0 < k2)) hg (Oq ag 1)) (ldb_sc Sc24 (H.bl 8) rfl)) ?_
  refine g_val (decide (0 < k2)) (gy_t rfl) (fun hg => x_lenS T24.und (gd_of (c := decide (0 < k2)) hg (aS)) (H.os 4)) ?_
  refine g_val (decide (0 < k2)) (gy_t rfl) (fun hg => x_mv (v := I marks) rfl) ?_
  refine g_val (decide (0 < k2)) (gy_t rfl) (fun hg => x_cmp (kd := .i64) (a := (l7.length : Int)) (b := marks) (r := decide ((l7.length : Int) < marks)) (gd_of (c := decide (0 < k2)) hg (I (l7.length : Int))) (gd_of (c := decide (0 < k2)) hg (I marks)) rfl) ?_
  refine s_val (x_pand (b := decide (0 < k2)) (r := decide ((l7.length : Int) < marks)) rfl (fun hb => gd_of (c := decide (0 < k2)) (by first | exact hb | (rw [hb]; rfl) | simp_all) (B (decide ((l7.length : Int) < marks)))) rfl) ?_
  refine s_nil ?_
  refine W.cond ((decide (0 < k2)) && (decide ((l7.length : Int) < marks))) rfl (fun bZ => ?_) (fun bZ => ?_)
  ·replace hM := M.e_t hM bZ
   refine W.skip ?_
   refine W.seq ?_
   refine W.block ?_
   refine W.seq ?_
   refine W.region rfl ?_
   refine zM (I place) rfl ?_
   refine zM (Pq ae) rfl ?_
   obtain ⟨jI, ep, hM⟩ := M.e_bind hM
   refine s_call cf9 [Pq ae, I 2] rfl (zae s_bytes bn bo 2 (au.app _) av ep _ (H.gt 10)) ?_
   rintro vq jJ ⟨ao, eq, er, eu, hvq, ac⟩
   subst eu
   subst vq
   try dsimp only at hM
   replace H := H.bk ac
   clear ac
   refine zM (Pq ae) rfl ?_
   obtain ⟨jK, ew, hM⟩ := M.e_bind hM
   refine s_call cf9 [Pq ae, I 20] rfl (zae s_bytes eq er 20 (au.app _) av ew _ (H.gt 10)) ?_
   rintro vq jL ⟨ap, ey, ez, eA, hvq, ac⟩
   subst eA
   subst vq
   try dsimp only at hM
   replace H := H.bk ac
   clear ac
   obtain ⟨eB, hM⟩ := M.e_grd hM
   simp only [Bool.and_eq_true, decide_eq_true_eq] at eB
   refine zR ao ap (ao * ap) rfl rfl rfl (by omega) ?_
   obtain ⟨eC, hM⟩ := M.e_grd hM
   simp only [Bool.and_eq_true, decide_eq_true_eq] at eC
   refine zR place (ao * ap) (place + (ao * ap)) rfl rfl rfl (by omega) ?_
   refine zM (I stage) rfl ?_
   refine zM (Pq ae) rfl ?_
   obtain ⟨jM, eD, hM⟩ := M.e_bind hM
   refine s_call cf9 [Pq ae, I 9] rfl (zae s_bytes ey ez 9 (au.app _) av eD _ (H.gt 10)) ?_
   rintro vq jN ⟨aw, eE, eF, eG, hvq, ac⟩
   subst eG
   subst vq
   try dsimp only at hM
   replace H := H.bk ac
   clear ac
   obtain ⟨eH, hM⟩ := M.e_grd hM
   simp only [Bool.and_eq_true, decide_eq_true_eq] at eH
   refine zR stage aw (stage - aw) rfl rfl rfl (by omega) ?_
   refine s_val (x_max (kd := .i64) (a := 0) (b := stage - aw) rfl rfl) ?_
   refine zM (I stage) rfl ?_
   refine zM (Pq ae) rfl ?_
   obtain ⟨jO, eI, hM⟩ := M.e_bind hM
   refine s_call cf9 [Pq ae, I 9] rfl (zae s_bytes eE eF 9 (au.app _) av eI _ (H.gt 10)) ?_
   rintro vq jP ⟨ay, cC, cD, eJ, hvq, ac⟩
   subst eJ
   subst vq
   try dsimp only at hM
   replace H := H.bk ac
   clear ac
   obtain ⟨eK, hM⟩ := M.e_grd hM
   simp only [Bool.and_eq_true, decide_eq_true_eq] at eK
   refine zR stage ay (stage + ay) rfl rfl rfl (by omega) ?_
   refine s_val (x_bld (ps := [(0, I (max 0 (stage - aw))), (1, I (stage + ay))]) (zs := [I 0, I 0]) (L' := [I (max 0 (stage - aw)), I (stage + ay)]) rfl Try.underlying44 Al44 rfl (Bd44 Try.underlying44) (.cons (cs := [I (max 0 (stage - aw))]) rfl rfl rfl rfl rfl <| .cons (cs := [I (stage + ay)]) rfl rfl rfl rfl rfl <| .nil)) ?_
   refine s_val (x_bld (ps := [(0, I (place + (ao * ap))), (1, .agg #[I (max 0 (stage - aw)), I (stage + ay)])]) (zs := [I 0, I 0, I 0]) (L' := [I (place + (ao * ap)), I (max 0 (stage - aw)), I (stage + ay)]) rfl Try.underlying46 Al46 rfl (Bd46 Try.underlying46) (.cons (cs := [I (place + (ao * ap))]) rfl rfl rfl rfl rfl <| .cons (cs := [I (max 0 (stage - aw)), I (stage + ay)]) rfl rfl rfl rfl rfl <| .nil)) ?_
   refine t_alloc (cs := [I 0, I 0, I 0]) H Al46 rfl ?_
   intro aJ jQ H
   refine t_sw 0 0 [I (place + (ao * ap)), I (max 0 (stage - aw)), I (stage + ay)] (.agg #[I (place + (ao * ap)), I (max 0 (stage - aw)), I (stage + ay)]) H rfl rfl Sz46 rfl rfl rfl rfl ?_
   intro jR H
   refine s_nil ?_
   refine W.seq ?_
   refine W.seq ?_
   refine W.region rfl ?_
   refine zM (B lies) rfl ?_
   refine zM (B lies) rfl ?_
   refine g_val lies (gy_t rfl) (fun hg => x_mv (v := Pq ae) rfl) ?_
   refine g_splitV lies (I 0) (gy_t rfl) (fun bp => ?_) (fun bp => ?_)
   ·replace hM := M.e_t hM bp
    obtain ⟨jS, eL, hM⟩ := M.e_bind hM
    refine s_call cf9 [Pq ae, I 3] (lst2 (gd_of (c := lies) bp (Pq ae)) rfl) (zae s_bytes cC cD 3 (au.app _) av eL _ ((H.pk [1, 0, 2, 3, 4, 5, 6, 7, 8, 9, 10, 11]).gt 11)) ?_
    rintro vq jT ⟨bq, cE, cF, eM, hvq, ac⟩
    subst eM
    subst vq
    try dsimp only at hM
    replace H := H.pk [1, 0, 2, 3, 4, 5, 6, 7, 8, 9, 10, 11] |>.bk ac
    clear ac
    refine g_val lies (gy_t rfl) (fun hg => x_cmp (kd := .i64) (a := bq) (b := 0) (r := bq == 0) rfl rfl rfl) ?_
    refine s_val (x_pand (b := lies) (r := bq == 0) rfl (fun hb => gd_of (c := lies) (by first | exact hb | (rw [hb]; rfl) | simp_all) (B (bq == 0))) rfl) ?_
    refine s_nil ?_
    refine W.cond (lies && (bq == 0)) rfl (fun b3 => ?_) (fun b3 => ?_)
    ·replace hM := M.e_t hM b3
     refine W.seq ?_
     refine W.region rfl ?_
     refine zM (Pq ae) rfl ?_
     obtain ⟨jU, eN, hM⟩ := M.e_bind hM
     refine s_call cf17 [Pq ae, I 50, I 420] rfl (zah s_bytes cE cF 50 420 (au.app _) av eN _ (H.gt 11)) ?_
     rintro vq jV ⟨ax, eO, eP, eQ, hvq, ac⟩
     subst eQ
     subst vq
     try dsimp only at hM
     replace H := H.bk ac
     clear ac
     refine s_val (x_bld (ps := [(0, I ax)]) (zs := [I 0, I 0]) (L' := [I ax, I 0]) rfl Try.underlying44 Al44 rfl (Bd44 Try.underlying44) (.cons (cs := [I ax]) rfl rfl rfl rfl rfl <| .nil)) ?_
     refine s_val (x_fa (a := Pq aJ) (v := Oq aJ 1) rfl (fa_blk (o := 0) Fd46_1 Sz44)) ?_
     refine t_sw 1 1 [I ax, I 0] (.agg #[I ax, I 0]) H rfl rfl Sz44 rfl rfl rfl rfl ?_
     intro jW H
     refine s_nil ?_
     refine W.drawTS (fun W => St w W [cBlk aJ [I (place + (ao * ap)), I ax, I 0] 46, cRo aP, cOwn (α := Int) 3 a6 (ab ++ ([(aq : Int)])), cOwn (α := Int) 3 a7 (ai ++ ([(stage : Int)])), cOwn (α := Mrk) 46 aS l7, cOwn (α := Raw 1) 39 a8 bg, cRo B_l9, cBlk aj [a7, a6] 30, cBlk ag [a8, aS, .slice none 0 0] 27, cBlk aF [.slice none 0 0, .slice none 0 0] 30, cBlk aE [.slice none 0 0, .slice none 0 0, .slice none 0 0] 27] R) (.q 0 (.q 1 (.q 2 (.q 3 (.l 4 (.q 5 (.q 6 (.q 7 .nil)))))))) 8 [8] mixed (by decide +kernel) rfl ?_
     intro jX aG
     replace H := H.ext aG
     clear aG
     refine ⟨(H.pk [1, 2, 3, 4, 5, 6, 7, 8, 9, 10, 11]), ?_⟩
     refine ts_q rfl (fun w' H => x_fa (a := Pq aJ) (v := Oq aJ 1) rfl (fa_blk (o := 0) Fd46_1 Sz44)) ?_
     refine ts_q rfl (fun w' H => x_fa (a := Oq aJ 1) (v := Oq aJ 1) rfl (fa_blk (o := 1) Fd44_0 Sz3)) ?_
     refine ts_q rfl (fun w' H => x_ld (p := Oq aJ 1) (v := I ax) rfl (ldb_sc Sc3 (H.bl 0) rfl)) ?_
     refine ts_q rfl (fun w' H => x_mv (v := Pq ae) rfl) ?_
     refine ts_l rfl ?_
     obtain ⟨jY, eR, hM⟩ := M.e_bind hM
     refine s_call cf9 [Pq ae, I 9] rfl (zae s_bytes eO eP 9 (au.app _) av eR _ (H.gt 11)) ?_
     rintro vq jZ ⟨aR, eS, eT, eU, hvq, ac⟩
     subst eU
     subst vq
     try dsimp only at hM
     replace H := H.bk ac
     clear ac
     refine s_nil ⟨(H.pk [1, 2, 3, 4, 5, 6, 7, 8, 9, 10, 11]), ?_⟩
     obtain ⟨eV, hM⟩ := M.e_grd hM
     simp only [Bool.and_eq_true, decide_eq_true_eq] at eV
     refine ts_q rfl (fun w' H => x_ari (a := ax) (b := aR) (r := ax + aR) rfl rfl rfl (by omega)) ?_
     refine ts_q rfl (fun w' H => x_fa (a := Pq aJ) (v := Oq aJ 1) rfl (fa_blk (o := 0) Fd46_1 Sz44)) ?_
     refine ts_q rfl (fun w' H => x_fa (a := Oq aJ 1) (v := Oq aJ 2) rfl (fa_blk (o := 1) Fd44_1 Sz3)) ?_
     refine ts_nil ?_
     refine sr_l rfl ?_
     refine t_sw 1 2 [I (ax + aR)] (I (ax + aR)) H rfl rfl Sz3 rfl rfl rfl rfl ?_
     intro j0 H
     refine s_nil ⟨trivial, ?_⟩
     refine sr_nil ?_
     refine W.region rfl ?_
     refine s_val (x_fa (a := Pq ag) (v := Oq ag 1) rfl (fa_blk (o := 0) Fd27_1 Sz24)) ?_
     refine s_val (x_ld (p := Oq ag 1) (v := aS) rfl (ldb_sc Sc24 (H.bl 9) rfl)) ?_
     refine s_val (x_ld (p := Pq aJ) (v := .agg #[I (place + (ao * ap)), I ax, I (ax + aR)]) rfl (ldb_ag (ds := [I (place + (ao * ap)), I ax, I (ax + aR)]) Ag46 Sz46 (H.bl 1) rfl rfl)) ?_
     refine t_bs (α := Mrk) T24 [.agg #[I (place + (ao * ap)), I ax, I (ax + aR)]] [(⟨(place + (ao * ap) : Int), (ax : Int), (ax + aR : Int)⟩ : Mrk)] H rfl (.cons rfl (Flat.rep_enc _ (⟨(place + (ao * ap) : Int), (ax : Int), (ax + aR : Int)⟩ : Mrk)) <| .nil) rfl rfl rfl ?_
     intro eW j6 H
     obtain ⟨eX, hM⟩ := M.e_grd hM
     simp only [Bool.and_eq_true, decide_eq_true_eq] at eX
     refine t_app (α := Mrk) (k := 6) (l := l7) (l2 := [(⟨(place + (ao * ap) : Int), (ax : Int), (ax + aR : Int)⟩ : Mrk)]) (l' := l7 ++ ([(⟨(place + (ao * ap) : Int), (ax : Int), (ax + aR : Int)⟩ : Mrk)])) (vy := eW) T24 rfl H rfl rfl rfl (H.os 0) (H.ol 0) (rfl) (by first | omega | (simp only [List.length_nil] at *; omega)) ?_
     intro b4 j7 H
     replace H := H.nf
     refine s_val (x_fa (a := Pq ag) (v := Oq ag 1) rfl (fa_blk (o := 0) Fd27_1 Sz24)) ?_
     refine t_sw 10 1 [b4] b4 H rfl rfl Sz24 (Sl.cells (H.os 6)) rfl rfl (by simp only [List.all_cons, List.all_nil, Bool.true_and, Bool.and_true, Sl.oc (H.os 6)]; try rfl) ?_
     intro j8 H
     refine s_nil ?_
     replace H := H.pk [1, 3, 4, 5, 6, 7, 8, 9, 10, 11, 12]
     refine W.region rfl ?_
     refine zM (I k2) rfl ?_
     obtain ⟨eY, hM⟩ := M.e_grd hM
     simp only [Bool.and_eq_true, decide_eq_true_eq] at eY
     refine zR k2 1 (k2 - 1) rfl rfl rfl (by omega) ?_
     refine zA (I (k2 - 1)) rfl ?_
     refine s_nil ?_
     exact ⟨bX, bY, eS, eT, k2 - 1, l7 ++ ([(⟨(place + (ao * ap) : Int), (ax : Int), (ax + aR : Int)⟩ : Mrk)]), b4, _, upds_of _ _ ⟨rfl, rfl, rfl, rfl, rfl, rfl, rfl, rfl, rfl, rfl, rfl, trivial⟩, M.e_inl hM bC, H⟩
    replace hM := M.e_f hM b3
    refine W.skip ?_
    refine W.region rfl ?_
    refine s_val (x_fa (a := Pq ag) (v := Oq ag 1) rfl (fa_blk (o := 0) Fd27_1 Sz24)) ?_
    refine s_val (x_ld (p := Oq ag 1) (v := aS) rfl (ldb_sc Sc24 (H.bl 9) rfl)) ?_
    refine s_val (x_ld (p := Pq aJ) (v := .agg #[I (place + (ao * ap)), I (max 0 (stage - aw)), I (stage + ay)]) rfl (ldb_ag (ds := [I (place + (ao * ap)), I (max 0 (stage - aw)), I (stage + ay)]) Ag46 Sz46 (H.bl 1) rfl rfl)) ?_
    refine t_bs (α := Mrk) T24 [.agg #[I (place + (ao * ap)), I (max 0 (stage - aw)), I (stage + ay)]] [(⟨(place + (ao * ap) : Int), (max 0 (stage - aw) : Int), (stage + ay : Int)⟩ : Mrk)] H rfl (.cons rfl (Flat.rep_enc _ (⟨(place + (ao * ap) : Int), (max 0 (stage - aw) : Int), (stage + ay : Int)⟩ : Mrk)) <| .nil) rfl rfl rfl ?_
    intro eZ j9 H
    obtain ⟨e6, hM⟩ := M.e_grd hM
    simp only [Bool.and_eq_true, decide_eq_true_eq] at e6
    refine t_app (α := Mrk) (k := 6) (l := l7) (l2 := [(⟨(place + (ao * ap) : Int), (max 0 (stage - aw) : Int), (stage + ay : Int)⟩ : Mrk)]) (l' := l7 ++ ([(⟨(place + (ao * ap) : Int), (max 0 (stage - aw) : Int), (stage + ay : Int)⟩ : Mrk)])) (vy := eZ) T24 rfl H rfl rfl rfl (H.os 0) (H.ol 0) (rfl) (by first | omega | (simp only [List.length_nil] at *; omega)) ?_
    intro b5 ka H
    replace H := H.nf
    refine s_val (x_fa (a := Pq ag) (v := Oq ag 1) rfl (fa_blk (o := 0) Fd27_1 Sz24)) ?_
    refine t_sw 10 1 [b5] b5 H rfl rfl Sz24 (Sl.cells (H.os 6)) rfl rfl (by simp only [List.all_cons, List.all_nil, Bool.true_and, Bool.and_true, Sl.oc (H.os 6)]; try rfl) ?_
    intro kb H
    refine s_nil ?_
    replace H := H.pk [1, 3, 4, 5, 6, 7, 8, 9, 10, 11, 12]
    refine W.region rfl ?_
    refine zM (I k2) rfl ?_
    obtain ⟨e7, hM⟩ := M.e_grd hM
    simp only [Bool.and_eq_true, decide_eq_true_eq] at e7
    refine zR k2 1 (k2 - 1) rfl rfl rfl (by omega) ?_
    refine zA (I (k2 - 1)) rfl ?_
    refine s_nil ?_
    exact ⟨bX, bY, cE, cF, k2 - 1, l7 ++ ([(⟨(place + (ao * ap) : Int), (max 0 (stage - aw) : Int), (stage + ay : Int)⟩ : Mrk)]), b5, _, upds_of _ _ ⟨rfl, rfl, rfl, rfl, rfl, rfl, rfl, rfl, rfl, rfl, rfl, trivial⟩, M.e_inl hM bC, H⟩
   replace hM := M.e_f hM bp
   refine g_val (v := B false) lies (gy_t rfl) (fun hg => Bool.noConfusion (bp.symm.trans hg)) ?_
   refine s_val (x_pand0 (b := lies) rfl (fun hb => gd_of (c := lies) (by first | exact hb | (rw [hb]; rfl) | simp_all) (B false)) rfl) ?_
   refine s_nil ?_
   refine W.cond false rfl (fun cG => ?_) (fun cG => ?_)
   ·skip
    exact absurd cG (by decide)
   skip
   refine W.skip ?_
   refine W.region rfl ?_
   refine s_val (x_fa (a := Pq ag) (v := Oq ag 1) rfl (fa_blk (o := 0) Fd27_1 Sz24)) ?_
   refine s_val (x_ld (p := Oq ag 1) (v := aS) rfl (ldb_sc Sc24 (H.bl 9) rfl)) ?_
   refine s_val (x_ld (p := Pq aJ) (v := .agg #[I (place + (ao * ap)), I (max 0 (stage - aw)), I (stage + ay)]) rfl (ldb_ag (ds := [I (place + (ao * ap)), I (max 0 (stage - aw)), I (stage + ay)]) Ag46 Sz46 (H.bl 0) rfl rfl)) ?_
   refine t_bs (α := Mrk) T24 [.agg #[I (place + (ao * ap)), I (max 0 (stage - aw)), I (stage + ay)]] [(⟨(place + (ao * ap) : Int), (max 0 (stage - aw) : Int), (stage + ay : Int)⟩ : Mrk)] H rfl (.cons rfl (Flat.rep_enc _ (⟨(place + (ao * ap) : Int), (max 0 (stage - aw) : Int), (stage + ay : Int)⟩ : Mrk)) <| .nil) rfl rfl rfl ?_
   intro e8 ke H
   obtain ⟨e9, hM⟩ := M.e_grd hM
   simp only [Bool.and_eq_true, decide_eq_true_eq] at e9
   refine t_app (α := Mrk) (k := 6) (l := l7) (l2 := [(⟨(place + (ao * ap) : Int), (max 0 (stage - aw) : Int), (stage + ay : Int)⟩ : Mrk)]) (l' := l7 ++ ([(⟨(place + (ao * ap) : Int), (max 0 (stage - aw) : Int), (stage + ay : Int)⟩ : Mrk)])) (vy := e8) T24 rfl H rfl rfl rfl (H.os 0) (H.ol 0) (rfl) (by first | omega | (simp only [List.length_nil] at *; omega)) ?_
   intro b6 kg H
   replace H := H.nf
   refine s_val (x_fa (a := Pq ag) (v := Oq ag 1) rfl (fa_blk (o := 0) Fd27_1 Sz24)) ?_
   refine t_sw 10 1 [b6] b6 H rfl rfl Sz24 (Sl.cells (H.os 6)) rfl rfl (by simp only [List.all_cons, List.all_nil, Bool.true_and, Bool.and_true, Sl.oc (H.os 6)]; try rfl) ?_
   intro kh H
   refine s_nil ?_
   replace H := H.pk [2, 3, 4, 5, 6, 7, 8, 9, 10, 11, 12]
   refine W.region rfl ?_
   refine zM (I k2) rfl ?_
   obtain ⟨fa, hM⟩ := M.e_grd hM
   simp only [Bool.and_eq_true, decide_eq_true_eq] at fa
   refine zR k2 1 (k2 - 1) rfl rfl rfl (by omega) ?_
   refine zA (I (k2 - 1)) rfl ?_
   refine s_nil ?_
   exact ⟨bX, bY, cC, cD, k2 - 1, l7 ++ ([(⟨(place + (ao * ap) : Int), (max 0 (stage - aw) : Int), (stage + ay : Int)⟩ : Mrk)]), b6, _, upds_of _ _ ⟨rfl, rfl, rfl, rfl, rfl, rfl, rfl, rfl, rfl, rfl, rfl, trivial⟩, M.e_inl hM bC, H⟩
  replace hM := M.e_f hM bZ
  refine W.exit ?_
  have fb := M.e_inr hM bC
  subst fb
  replace hM := eo
  try dsimp only at hM
  refine W.region rfl ?_
  refine zM (I place) rfl ?_
  refine zM (Pq ae) rfl ?_
  obtain ⟨ki, fd, hM⟩ := M.e_bind hM
  refine s_call cf17 [Pq ae, I 21, I 200] rfl (zah s_bytes bn bo 21 200 (au.app _) av fd _ (H.gt 10)) ?_
  rintro vq kj ⟨bD, ff, fg, fh, hvq, ac⟩
  subst fh
  subst vq
  try dsimp only at hM
  replace H := H.bk ac
  clear ac
  obtain ⟨fi, hM⟩ := M.e_grd hM
  simp only [Bool.and_eq_true, decide_eq_true_eq] at fi
  refine zR place bD (place + bD) rfl rfl rfl (by omega) ?_
  refine zM (I stage) rfl ?_
  refine zM (Pq ae) rfl ?_
  obtain ⟨km, fj, hM⟩ := M.e_bind hM
  refine s_call cf9 [Pq ae, I 20] rfl (zae s_bytes ff fg 20 (au.app _) av fj _ (H.gt 10)) ?_
  rintro vq kn ⟨bE, fk, fm, fo, hvq, ac⟩
  subst fo
  subst vq
  try dsimp only at hM
  replace H := H.bk ac
  clear ac
  obtain ⟨fp, hM⟩ := M.e_grd hM
  simp only [Bool.and_eq_true, decide_eq_true_eq] at fp
  refine zR stage bE (stage - bE) rfl rfl rfl (by omega) ?_
  refine zA (I (place + bD)) rfl ?_
  refine zA (I (stage - bE)) rfl ?_
  refine s_nil ?_
  refine W.region rfl ?_
  refine zM (I n) rfl ?_
  obtain ⟨fq, hM⟩ := M.e_grd hM
  simp only [Bool.and_eq_true, decide_eq_true_eq] at fq
  refine zR n 1 (n - 1) rfl rfl rfl (by omega) ?_
  refine zA (I (n - 1)) rfl ?_
  refine s_nil ?_
  exact ⟨cZ, c8, fk, fm, place + bD, stage - bE, n - 1, l9 ++ ([(⟨(place : Int), l⟩ : Sect)]), l7, ai ++ ([(stage : Int)]), ab ++ ([(aq : Int)]), a8, aS, a7, a6, bg, aP, _, upds_of _ _ ⟨rfl, rfl, rfl, rfl, rfl, rfl, rfl, rfl, rfl, rfl, trivial⟩, M.e_inl hM cg, (H.pk [2, 3, 4, 5, 1, 0, 7, 8, 9, 10]), eg⟩
 replace hM := M.e_f hM bj
 simp only [qy1, qy2, qy3, qy4, qy5, qy6, ne_eq, qy7] at bj
 refine W.exit ?_
 have fu := M.e_inr hM cg
 subst fu
 replace hM := cY
 try dsimp only at hM
 refine W.seqJ (fun σ W => ∃ (bb : List Mrk) (aB : Value) (ρ : Env), σ = upds ρ [(0, Pq ae), (6, Pq aE), (7, Pq aF), (8, Pq ag), (9, Pq aj)] /\ (zaD s_bytes aY aZ ab ai l9 bb).Ends r /\ St w W [cOwn (α := Int) 3 am ab, cOwn (α := Int) 3 al ai, cOwn (α := Mrk) 46 aB bb, cOwn (α := Raw 1) 39 ak aA, cRo B_l9, cBlk ae [aO, I aY, I aZ] 68, cBlk aj [al, am] 30, cBlk ag [ak, aB, .slice none 0 0] 27, cBlk aF [.slice none 0 0, .slice none 0 0] 30, cBlk aE [.slice none 0 0, .slice none 0 0, .slice none 0 0] 27] R) ?_ ?_
 ·skip
  refine W.seq ?_
  refine W.region rfl ?_
  refine s_val (x_fa (a := Pq ag) (v := Oq ag 1) rfl (fa_blk (o := 0) Fd27_1 Sz24)) ?_
  refine s_val (x_ld (p := Oq ag 1) (v := aM) rfl (ldb_sc Sc24 (H.bl 7) rfl)) ?_
  have ko := ((H.os 2)).len_le
  refine s_val (x_lenS T24.und rfl (H.os 2)) ?_
  refine zC (aI.length : Int) 0 ((aI.length : Int) == 0) rfl rfl rfl ?_
  refine s_nil ?_
  refine W.cond ((aI.length : Int) == 0) rfl (fun br => ?_) (fun br => ?_)
  ·replace hM := M.e_t hM br
   simp only [qy1, qy2, qy3, qy4, qy5, qy6, ne_eq, qy7] at br
   refine W.drawTS (fun W => St w W [cOwn (α := Int) 3 am ab, cOwn (α := Int) 3 al ai, cOwn (α := Raw 1) 39 ak aA, cRo B_l9, cBlk ae [aO, I aY, I aZ] 68, cBlk aj [al, am] 30, cBlk ag [ak, aM, .slice none 0 0] 27, cBlk aF [.slice none 0 0, .slice none 0 0] 30, cBlk aE [.slice none 0 0, .slice none 0 0, .slice none 0 0] 27] R) (.q 0 (.q 1 (.q 2 (.q 3 (.q 4 (.q 5 (.q 6 (.q 7 (.q 8 (.q 9 (.q 10 (.q 11 (.q 12 (.q 13 (.q 14 (.q 15 (.q 16 (.q 17 (.q 18 (.l 19 (.l 20 (.q 21 .nil)))))))))))))))))))))) 22 [22] mixed (by decide +kernel) rfl ?_
   intro kq aG
   replace H := H.ext aG
   clear aG
   refine ⟨(H.pk [0, 1, 3, 4, 5, 6, 7, 8, 9]), ?_⟩
   refine ts_q rfl (fun w' H => x_fa (a := Pq ag) (v := Oq ag 1) rfl (fa_blk (o := 0) Fd27_1 Sz24)) ?_
   refine ts_q rfl (fun w' H => x_ld (p := Oq ag 1) (v := aM) rfl (ldb_sc Sc24 (H.bl 6) rfl)) ?_
   refine ts_q rfl (fun w' H => x_fa (a := Pq ag) (v := Pq ag) rfl (fa_blk (o := 0) Fd27_0 Sz23)) ?_
   refine ts_q rfl (fun w' H => x_ld (p := Pq ag) (v := ak) rfl (ldb_sc Sc23 (H.bl 6) rfl)) ?_
   obtain ⟨fw, hM⟩ := M.e_grd hM
   simp only [Bool.and_eq_true, decide_eq_true_eq] at fw
   refine ts_q rfl (fun w' H => x_ix (a := ak) (b := I 0) (v := vat ak 2 (Int.toNat 0)) rfl rfl (Sl.ix (α := Sect) T23.und T23.size (rowSl rfl (H.get (k := 2) rfl) (roLe _ (H.get (k := 3) rfl)) az) (by omega) (by omega))) ?_
   refine ts_q rfl (fun w' H => x_fa (a := vat ak 2 (Int.toNat 0)) (v := fat (vat ak 2 (Int.toNat 0)) 0) rfl (fa_pl Fd39_0 Sz3 (Sl.pl (i := 0) (rowSl rfl (H.get (k := 2) rfl) (roLe _ (H.get (k := 3) rfl)) az) (by omega) (by omega)))) ?_
   refine ts_q rfl (fun w' H => x_ld (p := fat (vat ak 2 (Int.toNat 0)) 0) (v := I ((l9.getD 0 default).place)) rfl (ld_sc Sc3 (At.mono (Sect_at0 (rowSl rfl (H.get (k := 2) rfl) (roLe _ (H.get (k := 3) rfl)) az) (i := 0) (by omega) (by omega)) (Cells.sup_le (H.ol 2) (roLe _ (H.get (k := 3) rfl)))))) ?_
   refine ts_q rfl (fun w' H => x_fa (a := Pq aj) (v := Pq aj) rfl (fa_blk (o := 0) Fd30_0 Sz28)) ?_
   refine ts_q rfl (fun w' H => x_ld (p := Pq aj) (v := al) rfl (ldb_sc Sc28 (H.bl 5) rfl)) ?_
   obtain ⟨fx, hM⟩ := M.e_grd hM
   simp only [Bool.and_eq_true, decide_eq_true_eq] at fx
   refine ts_q rfl (fun w' H => x_ix (a := al) (b := I 0) (v := vat al 1 (Int.toNat 0)) rfl rfl (Sl.ix (α := Int) T28.und T28.size (H.os 1) (by omega) (by omega))) ?_
   refine ts_q rfl (fun w' H => x_ld (p := vat al 1 (Int.toNat 0)) (v := I (ai.getD 0 0)) rfl (ld_sc Sc3 (At.mono (Int_at (H.os 1) (i := 0) (by omega) (by omega)) (H.ol 1)))) ?_
   obtain ⟨fy, hM⟩ := M.e_grd hM
   simp only [Bool.and_eq_true, decide_eq_true_eq] at fy
   refine ts_q rfl (fun w' H => x_ari (a := ai.getD 0 0) (b := 5) (r := (ai.getD 0 0) - 5) rfl rfl rfl (by omega)) ?_
   refine ts_q rfl (fun w' H => x_fa (a := Pq aj) (v := Pq aj) rfl (fa_blk (o := 0) Fd30_0 Sz28)) ?_
   refine ts_q rfl (fun w' H => x_ld (p := Pq aj) (v := al) rfl (ldb_sc Sc28 (H.bl 5) rfl)) ?_
   refine ts_q rfl (fun w' H => x_ix (a := al) (b := I 0) (v := vat al 1 (Int.toNat 0)) rfl rfl (Sl.ix (α := Int) T28.und T28.size (H.os 1) (by omega) (by omega))) ?_
   refine ts_q rfl (fun w' H => x_ld (p := vat al 1 (Int.toNat 0)) (v := I (ai.getD 0 0)) rfl (ld_sc Sc3 (At.mono (Int_at (H.os 1) (i := 0) (by omega) (by omega)) (H.ol 1)))) ?_
   obtain ⟨fA, hM⟩ := M.e_grd hM
   simp only [Bool.and_eq_true, decide_eq_true_eq] at fA
   refine ts_q rfl (fun w' H => x_ari (a := ai.getD 0 0) (b := 5) (r := (ai.getD 0 0) + 5) rfl rfl rfl (by omega)) ?_
   refine ts_q rfl (fun w' H => x_bld (ps := [(0, I ((ai.getD 0 0) - 5)), (1, I ((ai.getD 0 0) + 5))]) (zs := [I 0, I 0]) (L' := [I ((ai.getD 0 0) - 5), I ((ai.getD 0 0) + 5)]) rfl Try.underlying44 Al44 rfl (Bd44 Try.underlying44) (.cons (cs := [I ((ai.getD 0 0) - 5)]) rfl rfl rfl rfl rfl <| .cons (cs := [I ((ai.getD 0 0) + 5)]) rfl rfl rfl rfl rfl <| .nil)) ?_
   refine ts_q rfl (fun w' H => x_bld (ps := [(0, I ((l9.getD 0 default).place)), (1, .agg #[I ((ai.getD 0 0) - 5), I ((ai.getD 0 0) + 5)])]) (zs := [I 0, I 0, I 0]) (L' := [I ((l9.getD 0 default).place), I ((ai.getD 0 0) - 5), I ((ai.getD 0 0) + 5)]) rfl Try.underlying46 Al46 rfl (Bd46 Try.underlying46) (.cons (cs := [I ((l9.getD 0 default).place)]) rfl rfl rfl rfl rfl <| .cons (cs := [I ((ai.getD 0 0) - 5), I ((ai.getD 0 0) + 5)]) rfl rfl rfl rfl rfl <| .nil)) ?_
   refine ts_l rfl ?_
   refine t_bs (α := Mrk) T24 [.agg #[I ((l9.getD 0 default).place), I ((ai.getD 0 0) - 5), I ((ai.getD 0 0) + 5)]] [(⟨((l9.getD 0 default).place : Int), ((ai.getD 0 0) - 5 : Int), ((ai.getD 0 0) + 5 : Int)⟩ : Mrk)] H rfl (.cons rfl (Flat.rep_enc _ (⟨((l9.getD 0 default).place : Int), ((ai.getD 0 0) - 5 : Int), ((ai.getD 0 0) + 5 : Int)⟩ : Mrk)) <| .nil) rfl rfl rfl ?_
   intro fB kr H
   have ku := Sl.cells (H.os 0)
   have kv := Sl.oc (H.os 0)
   have kw := Sl.cells (H.os 3)
   have kx := Sl.oc (H.os 3)
   refine s_nil ⟨(H.pk [1, 2, 4, 5, 6, 7, 8, 9, 10]), ?_⟩
   refine ts_l rfl ?_
   obtain ⟨fC, hM⟩ := M.e_grd hM
   simp only [Bool.and_eq_true, decide_eq_true_eq] at fC
   refine t_app (α := Mrk) (k := 3) (l := aI) (l2 := [(⟨((l9.getD 0 default).place : Int), ((ai.getD 0 0) - 5 : Int), ((ai.getD 0 0) + 5 : Int)⟩ : Mrk)]) (l' := aI ++ ([(⟨((l9.getD 0 default).place : Int), ((ai.getD 0 0) - 5 : Int), ((ai.getD 0 0) + 5 : Int)⟩ : Mrk)])) (vy := fB) T24 rfl H rfl rfl rfl (H.os 0) (H.ol 0) (rfl) (by first | omega | (simp only [List.length_nil] at *; omega)) ?_
   intro b7 ky H
   replace H := H.nf
   have kz := Sl.cells (H.os 3)
   have kA := Sl.oc (H.os 3)
   refine s_nil ⟨(H.pk [1, 2, 4, 5, 6, 7, 8, 9, 10]), ?_⟩
   refine ts_q rfl (fun w' H => x_fa (a := Pq ag) (v := Oq ag 1) rfl (fa_blk (o := 0) Fd27_1 Sz24)) ?_
   refine ts_nil ?_
   refine sr_l rfl ?_
   refine t_sw 8 1 [b7] b7 H rfl rfl Sz24 (Sl.cells (H.os 3)) rfl rfl (by simp only [List.all_cons, List.all_nil, Bool.true_and, Bool.and_true, Sl.oc (H.os 3)]; try rfl) ?_
   intro kB H
   refine s_nil ⟨trivial, ?_⟩
   refine sr_nil ?_
   exact ⟨aI ++ ([(⟨((l9.getD 0 default).place : Int), ((ai.getD 0 0) - 5 : Int), ((ai.getD 0 0) + 5 : Int)⟩ : Mrk)]), b7, _, upds_of _ _ ⟨rfl, rfl, rfl, rfl, rfl, trivial⟩, hM, (H.pk [1, 2, 3, 4, 5, 6, 7, 8, 9, 10])⟩
  replace hM := M.e_f hM br
  simp only [qy1, qy2, qy3, qy4, qy5, qy6, ne_eq, qy7] at br
  refine W.skip ?_
  exact ⟨aI, aM, _, upds_of _ _ ⟨rfl, rfl, rfl, rfl, rfl, trivial⟩, hM, H⟩
 rintro _ kC ⟨bb, aB, ρ, rfl, hM, H⟩
 unfold zaD at hM
 refine W.seq ?_
 refine W.seq ?_
 refine W.region rfl ?_
 refine zM (Pq ae) rfl ?_
 obtain ⟨kD, fD, hM⟩ := M.e_bind hM
 refine s_call cf17 [Pq ae, I 1, I 4] rfl (zah s_bytes aY aZ 1 4 (au.app _) av fD _ ((H.pk [5, 0, 1, 2, 3, 4, 6, 7, 8, 9]).gt 9)) ?_
 rintro vq kE ⟨cH, fE, fF, fG, hvq, ac⟩
 subst fG
 subst vq
 try dsimp only at hM
 replace H := H.pk [5, 0, 1, 2, 3, 4, 6, 7, 8, 9] |>.bk ac
 clear ac
 refine zA (I cH) rfl ?_
 refine s_nil ?_
 refine W.block ?_
 replace H := H.nilOwn (α := Rch) 56
 obtain ⟨fH, b8, fI⟩ := M.e_bind hM
 obtain ⟨bG, b8⟩ := M.e_iter b8
 refine W.loop (fun m σ W => ∃ (bh : Int) (bi : Int) (n2 : Int) (aX : List Rch) (aD : Value) (ρ : Env), σ = upds ρ [(0, Pq ae), (6, Pq aE), (7, Pq aF), (8, Pq ag), (9, Pq aj), (19, I n2)] /\ M.iterN (zaQ s_bytes ab l9) m (bh, bi, n2, aX) = some fH /\ St w W [cOwn (α := Rch) 56 aD aX, cBlk ae [aO, I bh, I bi] 68, cOwn (α := Int) 3 am ab, cOwn (α := Int) 3 al ai, cOwn (α := Mrk) 46 aB bb, cOwn (α := Raw 1) 39 ak aA, cRo B_l9, cBlk aj [al, am] 30, cBlk ag [ak, aB, aD] 27, cBlk aF [.slice none 0 0, .slice none 0 0] 30, cBlk aE [.slice none 0 0, .slice none 0 0, .slice none 0 0] 27] R) ?_ ?_
 ·exact ⟨_, fE, fF, cH, [], (.slice none 0 0), _, upds_of _ _ ⟨rfl, rfl, rfl, rfl, rfl, rfl, trivial⟩, b8, H⟩
 rintro kF σ kG ⟨bh, bi, n2, aX, aD, ρ, rfl, cI, H⟩
 obtain ⟨fJ, fK, kH, hM, cJ⟩ := M.e_iterN cI
 simp only [zaQ] at hM
 clear cI
 refine W.seq ?_
 refine W.seq ?_
 refine W.region rfl ?_
 refine zM (I n2) rfl ?_
 refine zC n2 0 (decide (0 < n2)) rfl rfl rfl ?_
 refine s_nil ?_
 refine W.cond (decide (0 < n2)) rfl (fun bt => ?_) (fun bt => ?_)
 ·replace hM := M.e_t hM bt
  simp only [qy1, qy2, qy3, qy4, qy5, qy6, ne_eq, qy7] at bt
  refine W.skip ?_
  refine W.seq ?_
  refine W.block ?_
  refine W.seq ?_
  refine W.region rfl ?_
  refine zM (Pq ae) rfl ?_
  refine s_val (x_fa (a := Pq ag) (v := Pq ag) rfl (fa_blk (o := 0) Fd27_0 Sz23)) ?_
  refine s_val (x_ld (p := Pq ag) (v := ak) rfl (ldb_sc Sc23 (H.bl 8) rfl)) ?_
  have kI := ((rowSl rfl (H.get (k := 5) rfl) (roLe _ (H.get (k := 6) rfl)) az)).len_le
  refine s_val (x_lenS T23.und rfl (rowSl rfl (H.get (k := 5) rfl) (roLe _ (H.get (k := 6) rfl)) az)) ?_
  refine zR (l9.length : Int) 1 ((l9.length : Int) - 1) rfl rfl rfl (by omega) ?_
  obtain ⟨kJ, fL, hM⟩ := M.e_bind hM
  refine s_call cf9 [Pq ae, I ((l9.length : Int) - 1)] rfl (zae s_bytes bh bi ((l9.length : Int) - 1) (au.app _) av fL _ ((H.pk [1, 0, 2, 3, 4, 5, 6, 7, 8, 9, 10]).gt 10)) ?_
  rintro vq kK ⟨aa, fM, fN, fO, hvq, ac⟩
  subst fO
  subst vq
  try dsimp only at hM
  replace H := H.pk [1, 0, 2, 3, 4, 5, 6, 7, 8, 9, 10] |>.bk ac
  clear ac
  refine zM (Pq ae) rfl ?_
  obtain ⟨kL, fP, hM⟩ := M.e_bind hM
  refine s_call cf9 [Pq ae, I 4] rfl (zae s_bytes fM fN 4 (au.app _) av fP _ (H.gt 10)) ?_
  rintro vq kM ⟨aH, fQ, fR, fS, hvq, ac⟩
  subst fS
  subst vq
  try dsimp only at hM
  replace H := H.bk ac
  clear ac
  refine zC aH 0 (aH == 0) rfl rfl rfl ?_
  refine s_val (x_bld (ps := [(0, I aa), (3, B (aH == 0))]) (zs := [I 0, I 0, I 0, I 0, B false]) (L' := [I aa, I 0, I 0, I 0, B (aH == 0)]) rfl Try.underlying56 Al56 rfl (Bd56 Try.underlying56) (.cons (cs := [I aa]) rfl rfl rfl rfl rfl <| .cons (cs := [B (aH == 0)]) rfl rfl rfl rfl rfl <| .nil)) ?_
  refine t_alloc (cs := [I 0, I 0, I 0, I 0, B false]) H Al56 rfl ?_
  intro aC kN H
  refine t_sw 0 0 [I aa, I 0, I 0, I 0, B (aH == 0)] (.agg #[I aa, I 0, I 0, I 0, B (aH == 0)]) H rfl rfl Sz56 rfl rfl rfl rfl ?_
  intro kO H
  refine s_nil ?_
  refine W.seq ?_
  refine W.drawTS (fun W => St w W [cBlk aC [I aa, I 0, I 0, I 0, B (aH == 0)] 56, cOwn (α := Rch) 56 aD aX, cOwn (α := Int) 3 am ab, cOwn (α := Int) 3 al ai, cOwn (α := Mrk) 46 aB bb, cOwn (α := Raw 1) 39 ak aA, cRo B_l9, cBlk aj [al, am] 30, cBlk ag [ak, aB, aD] 27, cBlk aF [.slice none 0 0, .slice none 0 0] 30, cBlk aE [.slice none 0 0, .slice none 0 0, .slice none 0 0] 27] R) (.q 0 (.q 1 (.q 2 (.q 3 (.q 4 (.q 5 (.q 6 (.q 7 (.q 8 (.q 9 (.l 10 (.q 11 (.q 12 .nil))))))))))))) 13 [13] mixed (by decide +kernel) rfl ?_
  intro kP aG
  replace H := H.ext aG
  clear aG
  refine ⟨(H.pk [0, 2, 3, 4, 5, 6, 7, 8, 9, 10, 11]), ?_⟩
  refine ts_q rfl (fun w' H => x_fa (a := Pq aC) (v := Pq aC) rfl (fa_blk (o := 0) Fd56_0 Sz3)) ?_
  refine ts_q rfl (fun w' H => x_ld (p := Pq aC) (v := I aa) rfl (ldb_sc Sc3 (H.bl 0) rfl)) ?_
  refine ts_q rfl (fun w' H => x_mv (v := Pq ae) rfl) ?_
  refine ts_q rfl (fun w' H => x_fa (a := Pq ag) (v := Pq ag) rfl (fa_blk (o := 0) Fd27_0 Sz23)) ?_
  refine ts_q rfl (fun w' H => x_ld (p := Pq ag) (v := ak) rfl (ldb_sc Sc23 (H.bl 8) rfl)) ?_
  have kQ := ((rowSl rfl (H.get (k := 6) rfl) (roLe _ (H.get (k := 7) rfl)) az)).len_le
  refine ts_q rfl (fun w' H => x_lenS T23.und rfl (rowSl rfl (H.get (k := 5) rfl) (roLe _ (H.get (k := 6) rfl)) az)) ?_
  refine ts_q rfl (fun w' H => x_ari (a := (l9.length : Int)) (b := 1) (r := (l9.length : Int) - 1) rfl rfl rfl (by omega)) ?_
  refine ts_q rfl (fun w' H => x_fa (a := Pq aC) (v := Pq aC) rfl (fa_blk (o := 0) Fd56_0 Sz3)) ?_
  refine ts_q rfl (fun w' H => x_ld (p := Pq aC) (v := I aa) rfl (ldb_sc Sc3 (H.bl 0) rfl)) ?_
  obtain ⟨fT, hM⟩ := M.e_grd hM
  simp only [Bool.and_eq_true, decide_eq_true_eq] at fT
  refine ts_q rfl (fun w' H => x_ari (a := (l9.length : Int) - 1) (b := aa) (r := ((l9.length : Int) - 1) - aa) rfl rfl rfl (by omega)) ?_
  refine ts_l rfl ?_
  obtain ⟨kR, fU, hM⟩ := M.e_bind hM
  refine s_call cf17 [Pq ae, I 1, I (((l9.length : Int) - 1) - aa)] rfl (zah s_bytes fQ fR 1 (((l9.length : Int) - 1) - aa) (au.app _) av fU _ ((H.pk [1, 0, 2, 3, 4, 5, 6, 7, 8, 9, 10, 11]).gt 11)) ?_
  rintro vq kS ⟨ah, cK, cL, fV, hvq, ac⟩
  subst fV
  subst vq
  try dsimp only at hM
  replace H := H.pk [1, 0, 2, 3, 4, 5, 6, 7, 8, 9, 10, 11] |>.bk ac
  clear ac
  refine s_nil ⟨(H.pk [1, 2, 3, 4, 5, 6, 7, 8, 9, 10, 11]), ?_⟩
  obtain ⟨fW, hM⟩ := M.e_grd hM
  simp only [Bool.and_eq_true, decide_eq_true_eq] at fW
  refine ts_q rfl (fun w' H => x_ari (a := aa) (b := ah) (r := aa + ah) rfl rfl rfl (by omega)) ?_
  refine ts_q rfl (fun w' H => x_fa (a := Pq aC) (v := Oq aC 1) rfl (fa_blk (o := 0) Fd56_1 Sz3)) ?_
  refine ts_nil ?_
  refine sr_l rfl ?_
  refine t_sw 1 1 [I (aa + ah)] (I (aa + ah)) H rfl rfl Sz3 rfl rfl rfl rfl ?_
  intro kT H
  refine s_nil ⟨trivial, ?_⟩
  refine sr_nil ?_
  refine W.seq ?_
  refine W.draw (fun W => St w W [cBlk ae [aO, I cK, I cL] 68, cBlk aC [I aa, I (aa + ah), I 0, I 0, B (aH == 0)] 56, cOwn (α := Rch) 56 aD aX, cOwn (α := Int) 3 am ab, cOwn (α := Int) 3 al ai, cOwn (α := Mrk) 46 aB bb, cOwn (α := Raw 1) 39 ak aA, cRo B_l9, cBlk aj [al, am] 30, cBlk ag [ak, aB, aD] 27, cBlk aF [.slice none 0 0, .slice none 0 0] 30, cBlk aE [.slice none 0 0, .slice none 0 0, .slice none 0 0] 27] R) [(0, true), (1, true), (2, true), (3, true), (4, true), (5, true), (6, true), (7, true), (8, true), (9, true), (10, true), (11, true), (12, true), (13, true)] mixed (by decide +kernel) rfl ?_
  intro kU aG
  replace H := H.ext aG
  clear aG
  refine ⟨(H.pk [0, 1, 2, 3, 4, 5, 6, 7, 8, 9, 10, 11]), ?_⟩
  refine d_q rfl (fun w' H => x_fa (a := Pq aj) (v := Oq aj 1) rfl (fa_blk (o := 0) Fd30_1 Sz28)) ?_
  refine d_q rfl (fun w' H => x_ld (p := Oq aj 1) (v := am) rfl (ldb_sc Sc28 (H.bl 8) rfl)) ?_
  refine d_q rfl (fun w' H => x_fa (a := Pq aC) (v := Pq aC) rfl (fa_blk (o := 0) Fd56_0 Sz3)) ?_
  refine d_q rfl (fun w' H => x_ld (p := Pq aC) (v := I aa) rfl (ldb_sc Sc3 (H.bl 1) rfl)) ?_
  obtain ⟨fX, hM⟩ := M.e_grd hM
  simp only [Bool.and_eq_true, decide_eq_true_eq] at fX
  refine d_q rfl (fun w' H => x_ix (a := am) (b := I aa) (v := vat am 1 (Int.toNat aa)) rfl rfl (Sl.ix (α := Int) T28.und T28.size (H.os 3) (by omega) (by omega))) ?_
  refine d_q rfl (fun w' H => x_ld (p := vat am 1 (Int.toNat aa)) (v := I (ab.getD (Int.toNat aa) 0)) rfl (ld_sc Sc3 (At.mono (Int_at (H.os 3) (i := aa) (by omega) (by omega)) (H.ol 3)))) ?_
  refine d_q rfl (fun w' H => x_fa (a := Pq aj) (v := Oq aj 1) rfl (fa_blk (o := 0) Fd30_1 Sz28)) ?_
  refine d_q rfl (fun w' H => x_ld (p := Oq aj 1) (v := am) rfl (ldb_sc Sc28 (H.bl 8) rfl)) ?_
  refine d_q rfl (fun w' H => x_fa (a := Pq aC) (v := Oq aC 1) rfl (fa_blk (o := 0) Fd56_1 Sz3)) ?_
  refine d_q rfl (fun w' H => x_ld (p := Oq aC 1) (v := I (aa + ah)) rfl (ldb_sc Sc3 (H.bl 1) rfl)) ?_
  obtain ⟨fY, hM⟩ := M.e_grd hM
  simp only [Bool.and_eq_true, decide_eq_true_eq] at fY
  refine d_q rfl (fun w' H => x_ix (a := am) (b := I (aa + ah)) (v := vat am 1 (Int.toNat (aa + ah))) rfl rfl (Sl.ix (α := Int) T28.und T28.size (H.os 3) (by omega) (by omega))) ?_
  refine d_q rfl (fun w' H => x_ld (p := vat am 1 (Int.toNat (aa + ah))) (v := I (ab.getD (Int.toNat (aa + ah)) 0)) rfl (ld_sc Sc3 (At.mono (Int_at (H.os 3) (i := aa + ah) (by omega) (by omega)) (H.ol 3)))) ?_
  refine d_q rfl (fun w' H => x_as (v := I (ab.getD (Int.toNat aa) 0)) rfl) ?_
  refine d_q rfl (fun w' H => x_as (v := I (ab.getD (Int.toNat (aa + ah)) 0)) rfl) ?_
  refine d_nil ?_
  refine W.seq ?_
  refine W.region rfl ?_
  refine zM (I (ab.getD (Int.toNat aa) 0)) rfl ?_
  refine zM (I (ab.getD (Int.toNat (aa + ah)) 0)) rfl ?_
  refine s_val (x_min (kd := .i64) (a := ab.getD (Int.toNat aa) 0) (b := ab.getD (Int.toNat (aa + ah)) 0) rfl rfl) ?_
  refine zM (Pq ae) rfl ?_
  obtain ⟨kV, fZ, hM⟩ := M.e_bind hM
  refine s_call cf9 [Pq ae, I 8] rfl (zae s_bytes cK cL 8 (au.app _) av fZ _ (H.gt 11)) ?_
  rintro vq kW ⟨aK, f2, f3, f6, hvq, ac⟩
  subst f6
  subst vq
  try dsimp only at hM
  replace H := H.bk ac
  clear ac
  obtain ⟨f9, hM⟩ := M.e_grd hM
  simp only [Bool.and_eq_true, decide_eq_true_eq] at f9
  refine zR (min (ab.getD (Int.toNat aa) 0) (ab.getD (Int.toNat (aa + ah)) 0)) aK ((min (ab.getD (Int.toNat aa) 0) (ab.getD (Int.toNat (aa + ah)) 0)) - aK) rfl rfl rfl (by omega) ?_
  refine zM (I (ab.getD (Int.toNat aa) 0)) rfl ?_
  refine zM (I (ab.getD (Int.toNat (aa + ah)) 0)) rfl ?_
  refine s_val (x_max (kd := .i64) (a := ab.getD (Int.toNat aa) 0) (b := ab.getD (Int.toNat (aa + ah)) 0) rfl rfl) ?_
  refine zM (Pq ae) rfl ?_
  obtain ⟨kX, ga, hM⟩ := M.e_bind hM
  refine s_call cf9 [Pq ae, I 8] rfl (zae s_bytes f2 f3 8 (au.app _) av ga _ (H.gt 11)) ?_
  rintro vq kY ⟨aL, gc, gf, gg, hvq, ac⟩
  subst gg
  subst vq
  try dsimp only at hM
  replace H := H.bk ac
  clear ac
  obtain ⟨gh, hM⟩ := M.e_grd hM
  simp only [Bool.and_eq_true, decide_eq_true_eq] at gh
  refine zR (max (ab.getD (Int.toNat aa) 0) (ab.getD (Int.toNat (aa + ah)) 0)) aL ((max (ab.getD (Int.toNat aa) 0) (ab.getD (Int.toNat (aa + ah)) 0)) + aL) rfl rfl rfl (by omega) ?_
  refine s_val (x_bld (ps := [(0, I ((min (ab.getD (Int.toNat aa) 0) (ab.getD (Int.toNat (aa + ah)) 0)) - aK)), (1, I ((max (ab.getD (Int.toNat aa) 0) (ab.getD (Int.toNat (aa + ah)) 0)) + aL))]) (zs := [I 0, I 0]) (L' := [I ((min (ab.getD (Int.toNat aa) 0) (ab.getD (Int.toNat (aa + ah)) 0)) - aK), I ((max (ab.getD (Int.toNat aa) 0) (ab.getD (Int.toNat (aa + ah)) 0)) + aL)]) rfl Try.underlying44 Al44 rfl (Bd44 Try.underlying44) (.cons (cs := [I ((min (ab.getD (Int.toNat aa) 0) (ab.getD (Int.toNat (aa + ah)) 0)) - aK)]) rfl rfl rfl rfl rfl <| .cons (cs := [I ((max (ab.getD (Int.toNat aa) 0) (ab.getD (Int.toNat (aa + ah)) 0)) + aL)]) rfl rfl rfl rfl rfl <| .nil)) ?_
  refine s_val (x_fa (a := Pq aC) (v := Oq aC 2) rfl (fa_blk (o := 0) Fd56_2 Sz44)) ?_
  refine t_sw 1 2 [I ((min (ab.getD (Int.toNat aa) 0) (ab.getD (Int.toNat (aa + ah)) 0)) - aK), I ((max (ab.getD (Int.toNat aa) 0) (ab.getD (Int.toNat (aa + ah)) 0)) + aL)] (.agg #[I ((min (ab.getD (Int.toNat aa) 0) (ab.getD (Int.toNat (aa + ah)) 0)) - aK), I ((max (ab.getD (Int.toNat aa) 0) (ab.getD (Int.toNat (aa + ah)) 0)) + aL)]) H rfl rfl Sz44 rfl rfl rfl rfl ?_
  intro kZ H
  refine s_nil ?_
  refine W.region rfl ?_
  refine s_val (x_fa (a := Pq ag) (v := Oq ag 2) rfl (fa_blk (o := 0) Fd27_2 Sz25)) ?_
  refine s_val (x_ld (p := Oq ag 2) (v := aD) rfl (ldb_sc Sc25 (H.bl 9) rfl)) ?_
  refine s_val (x_ld (p := Pq aC) (v := .agg #[I aa, I (aa + ah), I ((min (ab.getD (Int.toNat aa) 0) (ab.getD (Int.toNat (aa + ah)) 0)) - aK), I ((max (ab.getD (Int.toNat aa) 0) (ab.getD (Int.toNat (aa + ah)) 0)) + aL), B (aH == 0)]) rfl (ldb_ag (ds := [I aa, I (aa + ah), I ((min (ab.getD (Int.toNat aa) 0) (ab.getD (Int.toNat (aa + ah)) 0)) - aK), I ((max (ab.getD (Int.toNat aa) 0) (ab.getD (Int.toNat (aa + ah)) 0)) + aL), B (aH == 0)]) Ag56 Sz56 (H.bl 1) rfl rfl)) ?_
  refine t_bs (α := Rch) T25 [.agg #[I aa, I (aa + ah), I ((min (ab.getD (Int.toNat aa) 0) (ab.getD (Int.toNat (aa + ah)) 0)) - aK), I ((max (ab.getD (Int.toNat aa) 0) (ab.getD (Int.toNat (aa + ah)) 0)) + aL), B (aH == 0)]] [(⟨(aa : Int), (aa + ah : Int), ((min (ab.getD (Int.toNat aa) 0) (ab.getD (Int.toNat (aa + ah)) 0)) - aK : Int), ((max (ab.getD (Int.toNat aa) 0) (ab.getD (Int.toNat (aa + ah)) 0)) + aL : Int), (aH == 0)⟩ : Rch)] H rfl (.cons rfl (Flat.rep_enc _ (⟨(aa : Int), (aa + ah : Int), ((min (ab.getD (Int.toNat aa) 0) (ab.getD (Int.toNat (aa + ah)) 0)) - aK : Int), ((max (ab.getD (Int.toNat aa) 0) (ab.getD (Int.toNat (aa + ah)) 0)) + aL : Int), (aH == 0)⟩ : Rch)) <| .nil) rfl rfl rfl ?_
  intro gi ld H
  obtain ⟨gj, hM⟩ := M.e_grd hM
  simp only [Bool.and_eq_true, decide_eq_true_eq] at gj
  refine t_app (α := Rch) (k := 3) (l := aX) (l2 := [(⟨(aa : Int), (aa + ah : Int), ((min (ab.getD (Int.toNat aa) 0) (ab.getD (Int.toNat (aa + ah)) 0)) - aK : Int), ((max (ab.getD (Int.toNat aa) 0) (ab.getD (Int.toNat (aa + ah)) 0)) + aL : Int), (aH == 0)⟩ : Rch)]) (l' := aX ++ ([(⟨(aa : Int), (aa + ah : Int), ((min (ab.getD (Int.toNat aa) 0) (ab.getD (Int.toNat (aa + ah)) 0)) - aK : Int), ((max (ab.getD (Int.toNat aa) 0) (ab.getD (Int.toNat (aa + ah)) 0)) + aL : Int), (aH == 0)⟩ : Rch)])) (vy := gi) T25 rfl H rfl rfl rfl (H.os 0) (H.ol 0) (rfl) (by first | omega | (simp only [List.length_nil] at *; omega)) ?_
  intro b9 lf H
  replace H := H.nf
  refine s_val (x_fa (a := Pq ag) (v := Oq ag 2) rfl (fa_blk (o := 0) Fd27_2 Sz25)) ?_
  refine t_sw 10 2 [b9] b9 H rfl rfl Sz25 (Sl.cells (H.os 3)) rfl rfl (by simp only [List.all_cons, List.all_nil, Bool.true_and, Bool.and_true, Sl.oc (H.os 3)]; try rfl) ?_
  intro lg H
  refine s_nil ?_
  replace H := H.pk [1, 3, 4, 5, 6, 7, 8, 9, 10, 11, 12]
  refine W.region rfl ?_
  refine zM (I n2) rfl ?_
  obtain ⟨gk, hM⟩ := M.e_grd hM
  simp only [Bool.and_eq_true, decide_eq_true_eq] at gk
  refine zR n2 1 (n2 - 1) rfl rfl rfl (by omega) ?_
  refine zA (I (n2 - 1)) rfl ?_
  refine s_nil ?_
  exact ⟨fJ, fK, gc, gf, n2 - 1, aX ++ ([(⟨(aa : Int), (aa + ah : Int), ((min (ab.getD (Int.toNat aa) 0) (ab.getD (Int.toNat (aa + ah)) 0)) - aK : Int), ((max (ab.getD (Int.toNat aa) 0) (ab.getD (Int.toNat (aa + ah)) 0)) + aL : Int), (aH == 0)⟩ : Rch)]), b9, _, upds_of _ _ ⟨rfl, rfl, rfl, rfl, rfl, rfl, trivial⟩, M.e_inl hM cJ, (H.pk [1, 0, 2, 3, 4, 5, 6, 7, 8, 9, 10])⟩
 replace hM := M.e_f hM bt
 simp only [qy1, qy2, qy3, qy4, qy5, qy6, ne_eq, qy7] at bt
 refine W.exit ?_
 have gl := M.e_inr hM cJ
 subst gl
 replace hM := fI
 try dsimp only at hM
 refine W.seq ?_
 refine W.draw (fun W => St w W [cOwn (α := Rch) 56 aD aX, cBlk ae [aO, I bh, I bi] 68, cOwn (α := Int) 3 am ab, cOwn (α := Int) 3 al ai, cOwn (α := Mrk) 46 aB bb, cOwn (α := Raw 1) 39 ak aA, cRo B_l9, cBlk aj [al, am] 30, cBlk ag [ak, aB, aD] 27] R) [(0, true), (1, true), (2, false), (3, false)] mixed (by decide +kernel) rfl ?_
 intro li aG
 replace H := H.ext aG
 clear aG
 refine ⟨(H.pk [0, 1, 2, 3, 4, 5, 6, 7, 8]), ?_⟩
 refine d_q rfl (fun w' H => x_ld (p := Pq ag) (v := .agg #[ak, aB, aD]) rfl (ldb_ag (ds := [ak, aB, aD]) Ag27 Sz27 (H.bl 8) rfl rfl)) ?_
 refine d_q rfl (fun w' H => x_ld (p := Pq aj) (v := .agg #[al, am]) rfl (ldb_ag (ds := [al, am]) Ag30 Sz30 (H.bl 7) rfl rfl)) ?_
 refine d_l rfl ?_
 refine t_sw 10 0 [ak, aB, aD] (.agg #[ak, aB, aD]) H rfl rfl Sz27 rfl rfl rfl (by simp only [List.all_cons, List.all_nil, Bool.true_and, Bool.and_true, Sl.oc (rowSl rfl (H.get (k := 5) rfl) (roLe _ (H.get (k := 6) rfl)) az), Sl.oc (H.os 4), Sl.oc (H.os 0)]; try rfl) ?_
 intro lj H
 refine s_nil ⟨(H.pk [0, 1, 2, 3, 4, 5, 6, 7, 8]), ?_⟩
 refine d_l rfl ?_
 refine t_sw 9 0 [al, am] (.agg #[al, am]) H rfl rfl Sz30 rfl rfl rfl (by simp only [List.all_cons, List.all_nil, Bool.true_and, Bool.and_true, Sl.oc (H.os 3), Sl.oc (H.os 2)]; try rfl) ?_
 intro lk H
 refine s_nil ⟨(H.pk [0, 1, 2, 3, 4, 5, 6, 7, 8]), ?_⟩
 refine d_nil ?_
 replace H := H.pk [0, 1, 2, 3, 4, 5, 6, 9, 10]
 refine W.ret ?_
 have gm := (H.bl 8)
 have gn := (H.bl 7)
 have gp := M.e_pure hM
 exact ⟨_, (resE_ofn (vs := [.agg #[ak, aB, aD], .agg #[al, am]]) rfl rfl (.cell (v := .agg #[ak, aB, aD]) rfl (run_loadVar_ag (ds := [ak, aB, aD]) Ag27 Sz27 gm rfl rfl) <| .cell (v := .agg #[al, am]) rfl (run_loadVar_ag (ds := [al, am]) Ag30 Sz30 gn rfl rfl) <| .nil)), ⟨l9, bb, aX, ai, ab, bh, bi, ak, aA, B_l9, aB, aD, al, am, gp, rfl, (H.pk [5, 6, 4, 0, 3, 2, 1]), az⟩⟩

end Go.Proofs.Ytlemgioaakecpaa
end
section
set_option maxRecDepth 100000
set_option maxHeartbeats 16000000
namespace Go.Proofs.Ytlemgioaakecpaa
open Go Go.Nm
def zbs (place : Int) (lo : Int) (hi : Int) : M (Int × Int × Int) :=
  M.pure (place, lo, hi)
theorem zb7 {R : List Chunk}  (place : Int) (lo : Int) (hi : Int)  {r : (Int × Int × Int)} (hM : (zbs place lo hi).Ends r) (w : World) (H : St w w [] R) : Ret Try.prog 26 #[I place, I lo, I hi] w fun v w' => ∃ (y0 : Int) (y1 : Int) (y2 : Int), (y0, y1, y2) = r /\ v = .agg #[I y0, I y1, I y2] /\ St w w' [] R := by
 refine ret_of_W Try.func26 rfl rfl rfl ?_
 refine W.seq ?_
 refine W.region rfl ?_
 refine t_alloc (cs := [I 0, I 0, I 0]) H Al46 rfl ?_
 intro ac ae H
 refine s_nil ?_
 refine W.seq ?_
 refine W.region rfl ?_
 refine zM (I place) rfl ?_
 refine zM (I lo) rfl ?_
 refine zM (I hi) rfl ?_
 refine s_val (x_bld (ps := [(0, I lo), (1, I hi)]) (zs := [I 0, I 0]) (L' := [I lo, I hi]) rfl Try.underlying44 Al44 rfl (Bd44 Try.underlying44) (.cons (cs := [I lo]) rfl rfl rfl rfl rfl <| .cons (cs := [I hi]) rfl rfl rfl rfl rfl <| .nil)) ?_
 refine s_val (x_bld (ps := [(0, I place), (1, .agg #[I lo, I hi])]) (zs := [I 0, I 0, I 0]) (L' := [I place, I lo, I hi]) rfl Try.underlying46 Al46 rfl (Bd46 Try.underlying46) (.cons (cs := [I place]) rfl rfl rfl rfl rfl <| .cons (cs := [I lo, I hi]) rfl rfl rfl rfl rfl <| .nil)) ?_
 refine t_sw 0 0 [I place, I lo, I hi] (.agg #[I place, I lo, I hi]) H rfl rfl Sz46 rfl rfl rfl rfl ?_
 intro ag H
 refine s_nil ?_
 refine W.ret ?_
 have aa := (H.bl 0)
 have ab := M.e_pure hM
 exact ⟨_, (resE_of1 (v := .agg #[I place, I lo, I hi]) rfl (.cell (v := .agg #[I place, I lo, I hi]) rfl (run_loadVar_ag (ds := [I place, I lo, I hi]) Ag46 Sz46 aa rfl rfl) <| .nil)), ⟨place, lo, hi, ab, rfl, (H.pk [])⟩⟩

def zaS (marks : List Mrk) : M ((List Sect) × (List Mrk) × (List Rch)) :=
  M.bind (zbs 0 150 160) fun (r0, r1, r2) =>
  M.bind (zbs 100 100 110) fun (aa, ab, ac) =>
  M.grd (decide ((([(⟨(r0 : Int), (r1 : Int), (r2 : Int)⟩ : Mrk), (⟨(aa : Int), (ab : Int), (ac : Int)⟩ : Mrk)]).length + marks.length) * 24 <= 140737488355328)) <|
  M.pure (([(⟨(0 : Int), ([(⟨(0 : Int), (0 : Int)⟩ : FRow), (⟨(200 : Int), (2000 : Int)⟩ : FRow)])⟩ : Sect), (⟨(100 : Int), ([(⟨(0 : Int), (0 : Int)⟩ : FRow), (⟨(200 : Int), (2000 : Int)⟩ : FRow)])⟩ : Sect)]), (([(⟨(r0 : Int), (r1 : Int), (r2 : Int)⟩ : Mrk), (⟨(aa : Int), (ab : Int), (ac : Int)⟩ : Mrk)]) ++ marks), ([(⟨(0 : Int), (1 : Int), (50 : Int), (100 : Int), false⟩ : Rch)]))
theorem zby {R : List Chunk} {aq : Cells} {ao : Value} (marks : List Mrk) (ay : Reads R aq) (az : Sl aq ao marks) {r : ((List Sect) × (List Mrk) × (List Rch))} (hM : (zaS marks).Ends r) (w : World) (H : St w w [] R) : Ret Try.prog 25 #[ao] w fun v w' => ∃ (y0 : List Sect) (y1 : List Mrk) (y2 : List Rch) (u0 : Value) (rr1 : List (Raw 1)) (au : Base) (u3 : Value) (u4 : Value), (y0, y1, y2) = r /\ v = .agg #[u0, u3, u4] /\ St w w' [cOwn (α := Raw 1) 39 u0 rr1, cRo au, cOwn (α := Mrk) 46 u3 y1, cOwn (α := Rch) 56 u4 y2] R /\ RepR (α := Sect) au.cells rr1 y0 := by
 refine ret_of_W Try.func25 rfl rfl rfl ?_
 refine W.seq ?_
 refine W.region rfl ?_
 refine t_alloc (cs := [.slice none 0 0, .slice none 0 0, .slice none 0 0]) H Al27 rfl ?_
 intro aJ aK H
 refine s_nil ?_
 refine W.seq ?_
 refine W.region rfl ?_
 refine s_val (x_bld (ps := []) (zs := [I 0, I 0]) (L' := [I 0, I 0]) rfl Try.underlying41 Al41 rfl (Bd41 Try.underlying41) (.nil)) ?_
 refine s_val (x_bld (ps := [(0, I 200), (1, I 2000)]) (zs := [I 0, I 0]) (L' := [I 200, I 2000]) rfl Try.underlying41 Al41 rfl (Bd41 Try.underlying41) (.cons (cs := [I 200]) rfl rfl rfl rfl rfl <| .cons (cs := [I 2000]) rfl rfl rfl rfl rfl <| .nil)) ?_
 refine t_bs (α := FRow) T37 [.agg #[I 0, I 0], .agg #[I 200, I 2000]] [(⟨(0 : Int), (0 : Int)⟩ : FRow), (⟨(200 : Int), (2000 : Int)⟩ : FRow)] H rfl (.cons rfl (Flat.rep_enc _ (⟨(0 : Int), (0 : Int)⟩ : FRow)) <| .cons rfl (Flat.rep_enc _ (⟨(200 : Int), (2000 : Int)⟩ : FRow)) <| .nil) rfl rfl rfl ?_
 intro aa aL H
 refine zA aa rfl ?_
 refine s_nil ?_
 refine W.seq ?_
 refine W.region rfl ?_
 refine zM aa rfl ?_
 refine s_val (x_bld (ps := [(1, aa)]) (zs := [I 0, .slice none 0 0]) (L' := [I 0, aa]) rfl Try.underlying39 Al39 rfl (Bd39 Try.underlying39) (.cons (cs := [aa]) (Sl.cells (H.os 0)) rfl rfl rfl rfl <| .nil)) ?_
 refine zM aa rfl ?_
 refine s_val (x_bld (ps := [(0, I 100), (1, aa)]) (zs := [I 0, .slice none 0 0]) (L' := [I 100, aa]) rfl Try.underlying39 Al39 rfl (Bd39 Try.underlying39) (.cons (cs := [I 100]) rfl rfl rfl rfl rfl <| .cons (cs := [aa]) (Sl.cells (H.os 0)) rfl rfl rfl rfl <| .nil)) ?_
 obtain ⟨aM, H⟩ := H.emptyE
 obtain ⟨aN, H, aA⟩ := H.freezeE (k := 1) rfl
 replace H := H.nf
 have ag := aA
 obtain ⟨av, H, aO, aB⟩ := H.joinE (i := 0) (j := 1) rfl rfl
 replace ag := ag.mono aB
 obtain ⟨ak, aw⟩ : ∃ r : Raw 1, r.cs = [I 0, aa] := ⟨Raw.of [I 0, aa] rfl (by simp only [List.all_cons, List.all_nil, Bool.true_and, Bool.and_true, Sl.oc ag]; try rfl), rfl⟩
 obtain ⟨al, ax⟩ : ∃ r : Raw 1, r.cs = [I 100, aa] := ⟨Raw.of [I 100, aa] rfl (by simp only [List.all_cons, List.all_nil, Bool.true_and, Bool.and_true, Sl.oc ag]; try rfl), rfl⟩
 have ap : RepR (α := Sect) av.cells [ak, al] [(⟨(0 : Int), ([(⟨(0 : Int), (0 : Int)⟩ : FRow), (⟨(200 : Int), (2000 : Int)⟩ : FRow)])⟩ : Sect), (⟨(100 : Int), ([(⟨(0 : Int), (0 : Int)⟩ : FRow), (⟨(200 : Int), (2000 : Int)⟩ : FRow)])⟩ : Sect)] := .cons (by rw [aw]; exact ⟨_, rfl, ag⟩) <| .cons (by rw [ax]; exact ⟨_, rfl, ag⟩) <| .nil
 refine t_bs (α := Raw 1) T23 [.agg #[I 0, aa], .agg #[I 100, aa]] [ak, al] H rfl (.cons (by rw [show (Flat.enc ak : List Value) = ak.cs from rfl, aw]; rfl) (Flat.rep_enc _ _) <| .cons (by rw [show (Flat.enc al : List Value) = al.cs from rfl, ax]; rfl) (Flat.rep_enc _ _) <| .nil) rfl rfl rfl ?_
 intro ab aP H
 replace H := H.nf
 obtain ⟨aQ, aC, hM⟩ := M.e_bind hM
 refine s_call cf26 [I 0, I 150, I 160] rfl (zb7 0 150 160 aC _ (H.gt 5)) ?_
 rintro vq aR ⟨r0, r1, r2, aD, hvq, am⟩
 subst aD
 subst vq
 try dsimp only at hM
 replace H := H.bk am
 clear am
 obtain ⟨aS, aE, hM⟩ := M.e_bind hM
 refine s_call cf26 [I 100, I 100, I 110] rfl (zb7 100 100 110 aE _ (H.gt 5)) ?_
 rintro vq aT ⟨ah, ai, aj, aF, hvq, am⟩
 subst aF
 subst vq
 try dsimp only at hM
 replace H := H.bk am
 clear am
 refine t_bs (α := Mrk) T24 [.agg #[I r0, I r1, I r2], .agg #[I ah, I ai, I aj]] [(⟨(r0 : Int), (r1 : Int), (r2 : Int)⟩ : Mrk), (⟨(ah : Int), (ai : Int), (aj : Int)⟩ : Mrk)] H rfl (.cons rfl (Flat.rep_enc _ (⟨(r0 : Int), (r1 : Int), (r2 : Int)⟩ : Mrk)) <| .cons rfl (Flat.rep_enc _ (⟨(ah : Int), (ai : Int), (aj : Int)⟩ : Mrk)) <| .nil) rfl rfl rfl ?_
 intro aU aV H
 refine zM ao rfl ?_
 obtain ⟨aG, hM⟩ := M.e_grd hM
 simp only [Bool.and_eq_true, decide_eq_true_eq] at aG
 refine t_app (α := Mrk) (k := 0) (l := [(⟨(r0 : Int), (r1 : Int), (r2 : Int)⟩ : Mrk), (⟨(ah : Int), (ai : Int), (aj : Int)⟩ : Mrk)]) (l2 := marks) (l' := ([(⟨(r0 : Int), (r1 : Int), (r2 : Int)⟩ : Mrk), (⟨(ah : Int), (ai : Int), (aj : Int)⟩ : Mrk)]) ++ marks) (vy := ao) T24 rfl H rfl rfl rfl az (ay.at H) (rfl) (by first | omega | (simp only [List.length_nil] at *; omega)) ?_
 intro ac aW H
 replace H := H.nf
 refine s_val (x_bld (ps := [(0, I 50), (1, I 100)]) (zs := [I 0, I 0]) (L' := [I 50, I 100]) rfl Try.underlying44 Al44 rfl (Bd44 Try.underlying44) (.cons (cs := [I 50]) rfl rfl rfl rfl rfl <| .cons (cs := [I 100]) rfl rfl rfl rfl rfl <| .nil)) ?_
 refine s_val (x_bld (ps := [(1, I 1), (2, .agg #[I 50, I 100])]) (zs := [I 0, I 0, I 0, I 0, B false]) (L' := [I 0, I 1, I 50, I 100, B false]) rfl Try.underlying56 Al56 rfl (Bd56 Try.underlying56) (.cons (cs := [I 1]) rfl rfl rfl rfl rfl <| .cons (cs := [I 50, I 100]) rfl rfl rfl rfl rfl <| .nil)) ?_
 refine t_bs (α := Rch) T25 [.agg #[I 0, I 1, I 50, I 100, B false]] [(⟨(0 : Int), (1 : Int), (50 : Int), (100 : Int), false⟩ : Rch)] H rfl (.cons rfl (Flat.rep_enc _ (⟨(0 : Int), (1 : Int), (50 : Int), (100 : Int), false⟩ : Rch)) <| .nil) rfl rfl rfl ?_
 intro ae aX H
 refine s_val (x_bld (ps := [(0, ab), (1, ac), (2, ae)]) (zs := [.slice none 0 0, .slice none 0 0, .slice none 0 0]) (L' := [ab, ac, ae]) rfl Try.underlying27 Al27 rfl (Bd27 Try.underlying27) (.cons (cs := [ab]) (Sl.cells (rowSl rfl (H.get (k := 2) rfl) (roLe _ (H.get (k := 3) rfl)) ap)) rfl rfl rfl rfl <| .cons (cs := [ac]) (Sl.cells (H.os 1)) rfl rfl rfl rfl <| .cons (cs := [ae]) (Sl.cells (H.os 0)) rfl rfl rfl rfl <| .nil)) ?_
 refine t_sw 6 0 [ab, ac, ae] (.agg #[ab, ac, ae]) H rfl rfl Sz27 rfl rfl rfl (by simp only [List.all_cons, List.all_nil, Bool.true_and, Bool.and_true, Sl.oc (rowSl rfl (H.get (k := 2) rfl) (roLe _ (H.get (k := 3) rfl)) ap), Sl.oc (H.os 1), Sl.oc (H.os 0)]; try rfl) ?_
 intro aY H
 refine s_nil ?_
 replace H := H.pk [0, 1, 2, 3, 6]
 refine W.ret ?_
 have aH := (H.bl 4)
 have aI := M.e_pure hM
 exact ⟨_, (resE_of1 (v := .agg #[ab, ac, ae]) rfl (.cell (v := .agg #[ab, ac, ae]) rfl (run_loadVar_ag (ds := [ab, ac, ae]) Ag27 Sz27 aH rfl rfl) <| .nil)), ⟨([(⟨(0 : Int), ([(⟨(0 : Int), (0 : Int)⟩ : FRow), (⟨(200 : Int), (2000 : Int)⟩ : FRow)])⟩ : Sect), (⟨(100 : Int), ([(⟨(0 : Int), (0 : Int)⟩ : FRow), (⟨(200 : Int), (2000 : Int)⟩ : FRow)])⟩ : Sect)]), (([(⟨(r0 : Int), (r1 : Int), (r2 : Int)⟩ : Mrk), (⟨(ah : Int), (ai : Int), (aj : Int)⟩ : Mrk)]) ++ marks), ([(⟨(0 : Int), (1 : Int), (50 : Int), (100 : Int), false⟩ : Rch)]), ab, [ak, al], av, ac, ae, aI, rfl, (H.pk [2, 3, 1, 0]), ap⟩⟩

def zb9 : M Bool :=
  M.bind (zaS ([] : List Mrk)) fun (r0, r1, r2) =>
  M.bind (zaA r0 r1 r2 ([(0 : Int), (1 : Int)]) 0) fun (ah, ai, aj) =>
  M.bind (zaS ([] : List Mrk)) fun (az, aA, aB) =>
  M.bind (zak az aA aB 0 (⟨(160 : Int), (110 : Int), (50 : Int), (50 : Int)⟩ : Cas)) fun (ak, al) =>
  M.bind (zaS ([] : List Mrk)) fun (aC, aD, ag) =>
  M.grd (decide (0 < (ag.length : Int))) <|
  M.bind (zaA aC aD (ag.set 0 ({ (ag.getD 0 default) with narrow := true })) ([(0 : Int), (1 : Int)]) 0) fun (aH, am, ao) =>
  M.bind (zbs 50 170 180) fun (aE, aF, aG) =>
  M.bind (zaS ([(⟨(aE : Int), (aF : Int), (aG : Int)⟩ : Mrk)])) fun (aa, ab, ac) =>
  M.bind (zcl aa ab ac 0 2) fun (ap, aq) =>
  M.bind (zaP aa ab ac) fun (au, av) =>
  M.bind (zco aa ab ac 2 ([[(0 : Int), (2 : Int)], [(1 : Int)]])) fun (aw, ax) =>
  M.bind (zba aa ab ac ([(1 : Int), (2 : Int)])) fun (ae, ay) =>
  M.grd ((!((((((((((((((aj == 0) && (al == 0)) && (ao == 0)) && (aq == 0)) && (av == 0)) && (ax == 0)) && (ay == 0)) && (decide ((⟨(ah : Int), (ai : Int)⟩ : Span) = (⟨(812 : Int), (1959 : Int)⟩ : Span)))) && (ak == 1876)) && (am == 1557)) && ap) && ((au.length : Int) == 2)) && aw) && ((ae.length : Int) == 2)) || (decide (0 < (ae.length : Int))))) <|
  M.pure (((((((((((((((aj == 0) && (al == 0)) && (ao == 0)) && (aq == 0)) && (av == 0)) && (ax == 0)) && (ay == 0)) && (decide ((⟨(ah : Int), (ai : Int)⟩ : Span) = (⟨(812 : Int), (1959 : Int)⟩ : Span)))) && (ak == 1876)) && (am == 1557)) && ap) && ((au.length : Int) == 2)) && aw) && ((ae.length : Int) == 2)) && (decide ((ae.getD 0 default) = (⟨(170 : Int), (2000 : Int)⟩ : Span))))
theorem zcY {R : List Chunk}    {r : Bool} (hM : (zb9).Ends r) (w : World) (H : St w w [] R) : Ret Try.prog 11 #[] w fun v w' => ∃ (y0 : Bool), y0 = r /\ v = B y0 /\ St w w' [] R := by
 refine ret_of_W Try.func11 rfl rfl rfl ?_
 refine W.seq ?_
 refine W.region rfl ?_
 refine zA (B false) rfl ?_
 refine s_nil ?_
 refine W.seq ?_
 refine W.region rfl ?_
 refine t_bs (α := Int) T28 [I 0, I 1] [(0 : Int), (1 : Int)] H rfl (.cons rfl (Flat.rep_enc _ (0 : Int)) <| .cons rfl (Flat.rep_enc _ (1 : Int)) <| .nil) rfl rfl rfl ?_
 intro aJ b9 H
 refine zA aJ rfl ?_
 refine s_nil ?_
 refine W.seq ?_
 refine W.region rfl ?_
 obtain ⟨cb, bc, hM⟩ := M.e_bind hM
 refine s_call cf25 [.slice none 0 0] rfl (zby ([] : List Mrk) Reads.none (Sl.nil (fun _ => none)) bc _ (H.gt 1)) ?_
 rintro vq cc ⟨r0, r1, r2, bf, ce, cf, bg, bh, bi, hvq, ap, bj⟩
 subst bi
 subst vq
 try dsimp only at hM
 replace H := H.bk ap
 clear ap
 refine zM aJ rfl ?_
 obtain ⟨cg, bm, hM⟩ := M.e_bind hM
 refine s_call cf13 [.agg #[bf, bg, bh], aJ, I 0] rfl (zb2 r0 r1 r2 ([(0 : Int), (1 : Int)]) 0 (Reads.sup (rdo 0) (Reads.of (k := 1) rfl roLe)) (rowSl rfl (H.get (k := 0) rfl) (roLe _ (H.get (k := 1) rfl)) bj) (rdo 2) (H.os 2) (rdo 3) (H.os 3) (rdo 4) (H.os 4) bm _ (H.gt 5)) ?_
 rintro vq ch ⟨aj, ak, aa, bn, hvq, ap⟩
 subst bn
 subst vq
 try dsimp only at hM
 replace H := H.bk ap
 clear ap
 refine zM (.tuple #[.agg #[I aj, I ak], I aa]) rfl ?_
 refine zX [.agg #[I aj, I ak], I aa] (.agg #[I aj, I ak]) rfl rfl ?_
 refine zX [.agg #[I aj, I ak], I aa] (I aa) rfl rfl ?_
 refine t_alloc (cs := [I 0, I 0]) H Al44 rfl ?_
 intro a6 ci H
 refine t_sw 0 0 [I aj, I ak] (.agg #[I aj, I ak]) H rfl rfl Sz44 rfl rfl rfl rfl ?_
 intro cj H
 refine zA (I aa) rfl ?_
 refine s_nil ?_
 replace H := H.pk [0, 5]
 refine W.seq ?_
 refine W.region rfl ?_
 obtain ⟨ck, bo, hM⟩ := M.e_bind hM
 refine s_call cf25 [.slice none 0 0] rfl (zby ([] : List Mrk) Reads.none (Sl.nil (fun _ => none)) bo _ (H.gt 2)) ?_
 rintro vq cn ⟨bp, bq, br, bt, co, cp, bu, bv, bw, hvq, ap, bx⟩
 subst bw
 subst vq
 try dsimp only at hM
 replace H := H.bk ap
 clear ap
 refine s_val (x_bld (ps := [(0, I 160), (1, I 110), (2, I 50), (3, I 50)]) (zs := [I 0, I 0, I 0, I 0]) (L' := [I 160, I 110, I 50, I 50]) rfl Try.underlying64 Al64 rfl (Bd64 Try.underlying64) (.cons (cs := [I 160]) rfl rfl rfl rfl rfl <| .cons (cs := [I 110]) rfl rfl rfl rfl rfl <| .cons (cs := [I 50]) rfl rfl rfl rfl rfl <| .cons (cs := [I 50]) rfl rfl rfl rfl rfl <| .nil)) ?_
 obtain ⟨cq, bz, hM⟩ := M.e_bind hM
 refine s_call cf15 [.agg #[bt, bu, bv], I 0, .agg #[I 160, I 110, I 50, I 50]] rfl (zbI bp bq br 0 (⟨(160 : Int), (110 : Int), (50 : Int), (50 : Int)⟩ : Cas) (Reads.sup (rdo 0) (Reads.of (k := 1) rfl roLe)) (rowSl rfl (H.get (k := 0) rfl) (roLe _ (H.get (k := 1) rfl)) bx) (rdo 2) (H.os 2) (rdo 3) (H.os 3) bz _ (H.gt 6)) ?_
 rintro vq cr ⟨al, ab, bA, hvq, ap⟩
 subst bA
 subst vq
 try dsimp only at hM
 replace H := H.bk ap
 clear ap
 refine zM (.tuple #[I al, I ab]) rfl ?_
 refine zX [I al, I ab] (I al) rfl rfl ?_
 refine zX [I al, I ab] (I ab) rfl rfl ?_
 refine zA (I al) rfl ?_
 refine zA (I ab) rfl ?_
 refine s_nil ?_
 replace H := H.pk [4, 5]
 refine W.seq ?_
 refine W.region rfl ?_
 obtain ⟨ct, bB, hM⟩ := M.e_bind hM
 refine s_call cf25 [.slice none 0 0] rfl (zby ([] : List Mrk) Reads.none (Sl.nil (fun _ => none)) bB _ (H.gt 2)) ?_
 rintro vq cv ⟨bC, a7, aB, aD, bD, bE, aE, aC, bF, hvq, ap, a8⟩
 subst bF
 subst vq
 try dsimp only at hM
 replace H := H.bk ap
 clear ap
 refine t_alloc (cs := [.slice none 0 0, .slice none 0 0, .slice none 0 0]) H Al27 rfl ?_
 intro aL cw H
 refine t_sw 0 0 [aD, aE, aC] (.agg #[aD, aE, aC]) H rfl rfl Sz27 rfl rfl rfl (by simp only [List.all_cons, List.all_nil, Bool.true_and, Bool.and_true, Sl.oc (rowSl rfl (H.get (k := 1) rfl) (roLe _ (H.get (k := 2) rfl)) a8), Sl.oc (H.os 3), Sl.oc (H.os 4)]; try rfl) ?_
 intro cx H
 refine s_nil ?_
 refine W.seq ?_
 refine W.region rfl ?_
 refine s_val (x_fa (a := Pq aL) (v := Oq aL 2) rfl (fa_blk (o := 0) Fd27_2 Sz25)) ?_
 refine s_val (x_ld (p := Oq aL 2) (v := aC) rfl (ldb_sc Sc25 (H.bl 0) rfl)) ?_
 obtain ⟨bG, hM⟩ := M.e_grd hM
 simp only [Bool.and_eq_true, decide_eq_true_eq] at bG
 refine s_val (x_ix (a := aC) (b := I 0) (v := vat aC 5 (Int.toNat 0)) rfl rfl (Sl.ix (α := Rch) T25.und T25.size (H.os 4) (by omega) (by omega))) ?_
 refine s_val (x_fa (a := vat aC 5 (Int.toNat 0)) (v := fat (vat aC 5 (Int.toNat 0)) 4) rfl (fa_pl Fd56_3 Sz4 (Sl.pl (i := 0) (H.os 4) (by omega) (by omega)))) ?_
 refine t_fst (α := Rch) (k := 4) (i := 0) (off := 4) (l := aB) (l' := aB.set 0 ({ (aB.getD 0 default) with narrow := true })) (val := B true) (L' := [cBlk aL [aD, aE, aC] 27, cOwn (α := Raw 1) 39 aD bD, cRo bE, cOwn (α := Mrk) 46 aE a7, cOwn (α := Rch) 56 aC (aB.set 0 ({ (aB.getD 0 default) with narrow := true })), cBlk a6 [I aj, I ak] 44, cOwn (α := Int) 3 aJ ([(0 : Int), (1 : Int)])]) H rfl Sz4 (by omega) (by omega) (aB.getD 0 default) ({ (aB.getD 0 default) with narrow := true }) (getD_some _ (by omega) _) rfl rfl [B true] rfl rfl rfl rfl rfl rfl rfl ?_
 intro cy H
 have cz : (aB.set 0 ({ (aB.getD 0 default) with narrow := true })).length = (aB).length := List.length_set
 refine s_nil ?_
 refine W.seq ?_
 refine W.region rfl ?_
 refine s_val (x_ld (p := Pq aL) (v := .agg #[aD, aE, aC]) rfl (ldb_ag (ds := [aD, aE, aC]) Ag27 Sz27 (H.bl 0) rfl rfl)) ?_
 refine zM aJ rfl ?_
 obtain ⟨cA, bH, hM⟩ := M.e_bind hM
 refine s_call cf13 [.agg #[aD, aE, aC], aJ, I 0] rfl (zb2 bC a7 (aB.set 0 ({ (aB.getD 0 default) with narrow := true })) ([(0 : Int), (1 : Int)]) 0 (Reads.sup (rdo 1) (Reads.of (k := 2) rfl roLe)) (rowSl rfl (H.get (k := 1) rfl) (roLe _ (H.get (k := 2) rfl)) a8) (rdo 3) (H.os 3) (rdo 4) (H.os 4) (rdo 6) (H.os 6) bH _ (H.gt 7)) ?_
 rintro vq cB ⟨aK, am, ac, bI, hvq, ap⟩
 subst bI
 subst vq
 try dsimp only at hM
 replace H := H.bk ap
 clear ap
 refine zM (.tuple #[.agg #[I aK, I am], I ac]) rfl ?_
 refine zX [.agg #[I aK, I am], I ac] (.agg #[I aK, I am]) rfl rfl ?_
 refine zX [.agg #[I aK, I am], I ac] (I ac) rfl rfl ?_
 refine t_alloc (cs := [I 0, I 0]) H Al44 rfl ?_
 intro aO cC H
 refine t_sw 0 0 [I aK, I am] (.agg #[I aK, I am]) H rfl rfl Sz44 rfl rfl rfl rfl ?_
 intro cD H
 refine zA (I ac) rfl ?_
 refine s_nil ?_
 replace H := H.pk [0, 6]
 refine W.seq ?_
 refine W.region rfl ?_
 obtain ⟨cE, bJ, hM⟩ := M.e_bind hM
 refine s_call cf26 [I 50, I 170, I 180] rfl (zb7 50 170 180 bJ _ (H.gt 2)) ?_
 rintro vq cF ⟨aP, aQ, aR, bK, hvq, ap⟩
 subst bK
 subst vq
 try dsimp only at hM
 replace H := H.bk ap
 clear ap
 refine t_bs (α := Mrk) T24 [.agg #[I aP, I aQ, I aR]] [(⟨(aP : Int), (aQ : Int), (aR : Int)⟩ : Mrk)] H rfl (.cons rfl (Flat.rep_enc _ (⟨(aP : Int), (aQ : Int), (aR : Int)⟩ : Mrk)) <| .nil) rfl rfl rfl ?_
 intro bL cG H
 obtain ⟨cH, bM, hM⟩ := M.e_bind hM
 refine s_call cf25 [bL] rfl (zby ([(⟨(aP : Int), (aQ : Int), (aR : Int)⟩ : Mrk)]) (rdo 0) (H.os 0) bM _ (H.gt 3)) ?_
 rintro vq cI ⟨aS, aT, aU, ax, cJ, cK, ay, az, bN, hvq, ap, aM⟩
 subst bN
 subst vq
 try dsimp only at hM
 replace H := H.bk ap
 clear ap
 refine t_alloc (cs := [.slice none 0 0, .slice none 0 0, .slice none 0 0]) H Al27 rfl ?_
 intro aV cL H
 refine t_sw 0 0 [ax, ay, az] (.agg #[ax, ay, az]) H rfl rfl Sz27 rfl rfl rfl (by simp only [List.all_cons, List.all_nil, Bool.true_and, Bool.and_true, Sl.oc (rowSl rfl (H.get (k := 1) rfl) (roLe _ (H.get (k := 2) rfl)) aM), Sl.oc (H.os 3), Sl.oc (H.os 4)]; try rfl) ?_
 intro cM H
 refine s_nil ?_
 refine W.seq ?_
 refine W.region rfl ?_
 refine s_val (x_ld (p := Pq aV) (v := .agg #[ax, ay, az]) rfl (ldb_ag (ds := [ax, ay, az]) Ag27 Sz27 (H.bl 0) rfl rfl)) ?_
 obtain ⟨cN, bO, hM⟩ := M.e_bind hM
 refine s_call cf27 [.agg #[ax, ay, az], I 0, I 2] rfl (zcV aS aT aU 0 2 (Reads.sup (rdo 1) (Reads.of (k := 2) rfl roLe)) (rowSl rfl (H.get (k := 1) rfl) (roLe _ (H.get (k := 2) rfl)) aM) (rdo 3) (H.os 3) (rdo 4) (H.os 4) bO _ (H.gt 8)) ?_
 rintro vq cO ⟨ao, ae, bP, hvq, ap⟩
 subst bP
 subst vq
 try dsimp only at hM
 replace H := H.bk ap
 clear ap
 refine zM (.tuple #[B ao, I ae]) rfl ?_
 refine zX [B ao, I ae] (B ao) rfl rfl ?_
 refine zX [B ao, I ae] (I ae) rfl rfl ?_
 refine zA (B ao) rfl ?_
 refine zA (I ae) rfl ?_
 refine s_nil ?_
 refine W.seq ?_
 refine W.region rfl ?_
 refine s_val (x_ld (p := Pq aV) (v := .agg #[ax, ay, az]) rfl (ldb_ag (ds := [ax, ay, az]) Ag27 Sz27 (H.bl 0) rfl rfl)) ?_
 obtain ⟨cP, bQ, hM⟩ := M.e_bind hM
 refine s_call cf10 [.agg #[ax, ay, az]] rfl (zcm aS aT aU (Reads.sup (rdo 1) (Reads.of (k := 2) rfl roLe)) (rowSl rfl (H.get (k := 1) rfl) (roLe _ (H.get (k := 2) rfl)) aM) (rdo 3) (H.os 3) (rdo 4) (H.os 4) bQ _ (H.gt 8)) ?_
 rintro vq cQ ⟨aq, ag, aF, bR, hvq, ap⟩
 subst bR
 subst vq
 try dsimp only at hM
 replace H := H.bk ap
 clear ap
 refine zM (.tuple #[aF, I ag]) rfl ?_
 refine zX [aF, I ag] aF rfl rfl ?_
 refine zX [aF, I ag] (I ag) rfl rfl ?_
 refine zA aF rfl ?_
 refine zA (I ag) rfl ?_
 refine s_nil ?_
 refine W.seq ?_
 refine W.region rfl ?_
 refine s_val (x_ld (p := Pq aV) (v := .agg #[ax, ay, az]) rfl (ldb_ag (ds := [ax, ay, az]) Ag27 Sz27 (H.bl 1) rfl rfl)) ?_
 refine t_bs (α := Int) T28 [I 0, I 2] [(0 : Int), (2 : Int)] H rfl (.cons rfl (Flat.rep_enc _ (0 : Int)) <| .cons rfl (Flat.rep_enc _ (2 : Int)) <| .nil) rfl rfl rfl ?_
 intro aY cR H
 refine t_bs (α := Int) T28 [I 1] [(1 : Int)] H rfl (.cons rfl (Flat.rep_enc _ (1 : Int)) <| .nil) rfl rfl rfl ?_
 intro aZ cS H
 obtain ⟨cT, H⟩ := H.emptyE
 obtain ⟨cU, H, bS⟩ := H.freezeE (k := 2) rfl
 replace H := H.nf
 have aG := bS
 obtain ⟨cV, H, cW, bT⟩ := H.joinE (i := 0) (j := 2) rfl rfl
 replace aG := aG.mono bT
 obtain ⟨cX, H, bU⟩ := H.freezeE (k := 2) rfl
 replace H := H.nf
 have aN := bU
 obtain ⟨bV, H, bW, bX⟩ := H.joinE (i := 0) (j := 2) rfl rfl
 replace aG := aG.mono bW
 replace aN := aN.mono bX
 obtain ⟨aW, ba⟩ : ∃ r : Raw 0, r.cs = [aY] := ⟨Raw.of [aY] rfl (by simp only [List.all_cons, List.all_nil, Bool.true_and, Bool.and_true, Sl.oc aG]; try rfl), rfl⟩
 obtain ⟨aX, bb⟩ : ∃ r : Raw 0, r.cs = [aZ] := ⟨Raw.of [aZ] rfl (by simp only [List.all_cons, List.all_nil, Bool.true_and, Bool.and_true, Sl.oc aN]; try rfl), rfl⟩
 have bY : RepR (α := List Int) bV.cells [aW, aX] [[(0 : Int), (2 : Int)], [(1 : Int)]] := .cons (by rw [ba]; exact ⟨_, rfl, aG⟩) <| .cons (by rw [bb]; exact ⟨_, rfl, aN⟩) <| .nil
 refine t_bs (α := Raw 0) T75 [aY, aZ] [aW, aX] H rfl (.cons (by rw [show (Flat.enc aW : List Value) = aW.cs from rfl, ba]; exact Sl.cells aG) (Flat.rep_enc _ _) <| .cons (by rw [show (Flat.enc aX : List Value) = aX.cs from rfl, bb]; exact Sl.cells aN) (Flat.rep_enc _ _) <| .nil) rfl rfl rfl ?_
 intro bZ cY H
 replace H := H.nf
 obtain ⟨cZ, b3, hM⟩ := M.e_bind hM
 refine s_call cf28 [.agg #[ax, ay, az], I 2, bZ] rfl (zcA aS aT aU 2 ([[(0 : Int), (2 : Int)], [(1 : Int)]]) (Reads.sup (rdo 8) (Reads.of (k := 9) rfl roLe)) (rowSl rfl (H.get (k := 8) rfl) (roLe _ (H.get (k := 9) rfl)) aM) (rdo 10) (H.os 10) (rdo 11) (H.os 11) (Reads.sup (rdo 0) (Reads.of (k := 1) rfl roLe)) (rowSl rfl (H.get (k := 0) rfl) (roLe _ (H.get (k := 1) rfl)) bY) b3 _ (H.gt 15)) ?_
 rintro vq c8 ⟨au, ah, b4, hvq, ap⟩
 subst b4
 subst vq
 try dsimp only at hM
 replace H := H.bk ap
 clear ap
 refine zM (.tuple #[B au, I ah]) rfl ?_
 refine zX [B au, I ah] (B au) rfl rfl ?_
 refine zX [B au, I ah] (I ah) rfl rfl ?_
 refine zA (B au) rfl ?_
 refine zA (I ah) rfl ?_
 refine s_nil ?_
 replace H := H.pk [6, 7, 8, 9, 10, 11, 13, 14]
 refine W.seq ?_
 refine W.region rfl ?_
 refine s_val (x_ld (p := Pq aV) (v := .agg #[ax, ay, az]) rfl (ldb_ag (ds := [ax, ay, az]) Ag27 Sz27 (H.bl 1) rfl rfl)) ?_
 refine t_bs (α := Int) T28 [I 1, I 2] [(1 : Int), (2 : Int)] H rfl (.cons rfl (Flat.rep_enc _ (1 : Int)) <| .cons rfl (Flat.rep_enc _ (2 : Int)) <| .nil) rfl rfl rfl ?_
 intro b5 c9 H
 obtain ⟨da, b6, hM⟩ := M.e_bind hM
 refine s_call cf12 [.agg #[ax, ay, az], b5] rfl (zcr aS aT aU ([(1 : Int), (2 : Int)]) (Reads.sup (rdo 3) (Reads.of (k := 4) rfl roLe)) (rowSl rfl (H.get (k := 3) rfl) (roLe _ (H.get (k := 4) rfl)) aM) (rdo 5) (H.os 5) (rdo 6) (H.os 6) (rdo 0) (H.os 0) b6 _ (H.gt 9)) ?_
 rintro vq db ⟨av, ai, aA, b7, hvq, ap⟩
 subst b7
 subst vq
 try dsimp only at hM
 replace H := H.bk ap
 clear ap
 refine zM (.tuple #[aA, I ai]) rfl ?_
 refine zX [aA, I ai] aA rfl rfl ?_
 refine zX [aA, I ai] (I ai) rfl rfl ?_
 refine zA aA rfl ?_
 refine zA (I ai) rfl ?_
 refine s_nil ?_
 replace H := H.pk [0, 2, 8, 9]
 refine W.seq ?_
 refine W.region rfl ?_
 refine zM (I aa) rfl ?_
 refine zC aa 0 (aa == 0) rfl rfl rfl ?_
 refine zM (B (aa == 0)) rfl ?_
 refine g_val (aa == 0) (gy_t rfl) (fun hg => x_mv (v := I ab) rfl) ?_
 refine g_val (aa == 0) (gy_t rfl) (fun hg => x_cmp (kd := .i64) (a := ab) (b := 0) (r := ab == 0) (gd_of (c := aa == 0) hg (I ab)) rfl rfl) ?_
 refine s_val (x_pand (b := aa == 0) (r := ab == 0) rfl (fun hb => gd_of (c := aa == 0) (by first | exact hb | (rw [hb]; rfl) | simp_all) (B (ab == 0))) rfl) ?_
 refine zM (B ((aa == 0) && (ab == 0))) rfl ?_
 refine g_val ((aa == 0) && (ab == 0)) (gy_t rfl) (fun hg => x_mv (v := I ac) rfl) ?_
 refine g_val ((aa == 0) && (ab == 0)) (gy_t rfl) (fun hg => x_cmp (kd := .i64) (a := ac) (b := 0) (r := ac == 0) (gd_of (c := ((aa == 0) && (ab == 0))) hg (I ac)) rfl rfl) ?_
 refine s_val (x_pand (b := ((aa == 0) && (ab == 0))) (r := ac == 0) rfl (fun hb => gd_of (c := ((aa == 0) && (ab == 0))) (by first | exact hb | (rw [hb]; rfl) | simp_all) (B (ac == 0))) rfl) ?_
 refine zM (B (((aa == 0) && (ab == 0)) && (ac == 0))) rfl ?_
 refine g_val (((aa == 0) && (ab == 0)) && (ac == 0)) (gy_t rfl) (fun hg => x_mv (v := I ae) rfl) ?_
 refine g_val (((aa == 0) && (ab == 0)) && (ac == 0)) (gy_t rfl) (fun hg => x_cmp (kd := .i64) (a := ae) (b := 0) (r := ae == 0) (gd_of (c := (((aa == 0) && (ab == 0)) && (ac == 0))) hg (I ae)) rfl rfl) ?_
 refine s_val (x_pand (b := (((aa == 0) && (ab == 0)) && (ac == 0))) (r := ae == 0) rfl (fun hb => gd_of (c := (((aa == 0) && (ab == 0)) && (ac == 0))) (by first | exact hb | (rw [hb]; rfl) | simp_all) (B (ae == 0))) rfl) ?_
 refine zM (B ((((aa == 0) && (ab == 0)) && (ac == 0)) && (ae == 0))) rfl ?_
 refine g_val ((((aa == 0) && (ab == 0)) && (ac == 0)) && (ae == 0)) (gy_t rfl) (fun hg => x_mv (v := I ag) rfl) ?_
 refine g_val ((((aa == 0) && (ab == 0)) && (ac == 0)) && (ae == 0)) (gy_t rfl) (fun hg => x_cmp (kd := .i64) (a := ag) (b := 0) (r := ag == 0) (gd_of (c := ((((aa == 0) && (ab == 0)) && (ac == 0)) && (ae == 0))) hg (I ag)) rfl rfl) ?_
 refine s_val (x_pand (b := ((((aa == 0) && (ab == 0)) && (ac == 0)) && (ae == 0))) (r := ag == 0) rfl (fun hb => gd_of (c := ((((aa == 0) && (ab == 0)) && (ac == 0)) && (ae == 0))) (by first | exact hb | (rw [hb]; rfl) | simp_all) (B (ag == 0))) rfl) ?_
 refine zM (B (((((aa == 0) && (ab == 0)) && (ac == 0)) && (ae == 0)) && (ag == 0))) rfl ?_
 refine g_val (((((aa == 0) && (ab == 0)) && (ac == 0)) && (ae == 0)) && (ag == 0)) (gy_t rfl) (fun hg => x_mv (v := I ah) rfl) ?_
 refine g_val (((((aa == 0) && (ab == 0)) && (ac == 0)) && (ae == 0)) && (ag == 0)) (gy_t rfl) (fun hg => x_cmp (kd := .i64) (a := ah) (b := 0) (r := ah == 0) (gd_of (c := (((((aa == 0) && (ab == 0)) && (ac == 0)) && (ae == 0)) && (ag == 0))) hg (I ah)) rfl rfl) ?_
 refine s_val (x_pand (b := (((((aa == 0) && (ab == 0)) && (ac == 0)) && (ae == 0)) && (ag == 0))) (r := ah == 0) rfl (fun hb => gd_of (c := (((((aa == 0) && (ab == 0)) && (ac == 0)) && (ae == 0)) && (ag == 0))) (by first | exact hb | (rw [hb]; rfl) | simp_all) (B (ah == 0))) rfl) ?_
 refine zM (B ((((((aa == 0) && (ab == 0)) && (ac == 0)) && (ae == 0)) && (ag == 0)) && (ah == 0))) rfl ?_
 refine g_val ((((((aa == 0) && (ab == 0)) && (ac == 0)) && (ae == 0)) && (ag == 0)) && (ah == 0)) (gy_t rfl) (fun hg => x_mv (v := I ai) rfl) ?_
 refine g_val ((((((aa == 0) && (ab == 0)) && (ac == 0)) && (ae == 0)) && (ag == 0)) && (ah == 0)) (gy_t rfl) (fun hg => x_cmp (kd := .i64) (a := ai) (b := 0) (r := ai == 0) (gd_of (c := ((((((aa == 0) && (ab == 0)) && (ac == 0)) && (ae == 0)) && (ag == 0)) && (ah == 0))) hg (I ai)) rfl rfl) ?_
 refine s_val (x_pand (b := ((((((aa == 0) && (ab == 0)) && (ac == 0)) && (ae == 0)) && (ag == 0)) && (ah == 0))) (r := ai == 0) rfl (fun hb => gd_of (c := ((((((aa == 0) && (ab == 0)) && (ac == 0)) && (ae == 0)) && (ag == 0)) && (ah == 0))) (by first | exact hb | (rw [hb]; rfl) | simp_all) (B (ai == 0))) rfl) ?_
 refine zM (B (((((((aa == 0) && (ab == 0)) && (ac == 0)) && (ae == 0)) && (ag == 0)) && (ah == 0)) && (ai == 0))) rfl ?_
 refine g_val (((((((aa == 0) && (ab == 0)) && (ac == 0)) && (ae == 0)) && (ag == 0)) && (ah == 0)) && (ai == 0)) (gy_t rfl) (fun hg => x_ld (p := Pq a6) (v := .agg #[I aj, I ak]) rfl (ldb_ag (ds := [I aj, I ak]) Ag44 Sz44 (H.bl 3) rfl rfl)) ?_
 refine g_val (((((((aa == 0) && (ab == 0)) && (ac == 0)) && (ae == 0)) && (ag == 0)) && (ah == 0)) && (ai == 0)) (gy_t rfl) (fun hg => x_bld (ps := [(0, I 812), (1, I 1959)]) (zs := [I 0, I 0]) (L' := [I 812, I 1959]) rfl Try.underlying44 Al44 rfl (Bd44 Try.underlying44) (.cons (cs := [I 812]) rfl rfl rfl rfl rfl <| .cons (cs := [I 1959]) rfl rfl rfl rfl rfl <| .nil)) ?_
 refine g_val (((((((aa == 0) && (ab == 0)) && (ac == 0)) && (ae == 0)) && (ag == 0)) && (ah == 0)) && (ai == 0)) (gy_t rfl) (fun hg => x_eqS (eqT44 (⟨(aj : Int), (ak : Int)⟩ : Span) (⟨(812 : Int), (1959 : Int)⟩ : Span) _) gdT44 (gd_of (c := (((((((aa == 0) && (ab == 0)) && (ac == 0)) && (ae == 0)) && (ag == 0)) && (ah == 0)) && (ai == 0))) hg (.agg #[I aj, I ak])) (gd_of (c := (((((((aa == 0) && (ab == 0)) && (ac == 0)) && (ae == 0)) && (ag == 0)) && (ah == 0)) && (ai == 0))) hg (.agg #[I 812, I 1959]))) ?_
 refine s_val (x_pand (b := (((((((aa == 0) && (ab == 0)) && (ac == 0)) && (ae == 0)) && (ag == 0)) && (ah == 0)) && (ai == 0))) (r := decide ((⟨(aj : Int), (ak : Int)⟩ : Span) = (⟨(812 : Int), (1959 : Int)⟩ : Span))) rfl (fun hb => gd_of (c := (((((((aa == 0) && (ab == 0)) && (ac == 0)) && (ae == 0)) && (ag == 0)) && (ah == 0)) && (ai == 0))) (by first | exact hb | (rw [hb]; rfl) | simp_all) (B (decide ((⟨(aj : Int), (ak : Int)⟩ : Span) = (⟨(812 : Int), (1959 : Int)⟩ : Span))))) rfl) ?_
 refine zM (B ((((((((aa == 0) && (ab == 0)) && (ac == 0)) && (ae == 0)) && (ag == 0)) && (ah == 0)) && (ai == 0)) && (decide ((⟨(aj : Int), (ak : Int)⟩ : Span) = (⟨(812 : Int), (1959 : Int)⟩ : Span))))) rfl ?_
 refine g_val ((((((((aa == 0) && (ab == 0)) && (ac == 0)) && (ae == 0)) && (ag == 0)) && (ah == 0)) && (ai == 0)) && (decide ((⟨(aj : Int), (ak : Int)⟩ : Span) = (⟨(812 : Int), (1959 : Int)⟩ : Span)))) (gy_t rfl) (fun hg => x_mv (v := I al) rfl) ?_
 refine g_val ((((((((aa == 0) && (ab == 0)) && (ac == 0)) && (ae == 0)) && (ag == 0)) && (ah == 0)) && (ai == 0)) && (decide ((⟨(aj : Int), (ak : Int)⟩ : Span) = (⟨(812 : Int), (1959 : Int)⟩ : Span)))) (gy_t rfl) (fun hg => x_cmp (kd := .i64) (a := al) (b := 1876) (r := al == 1876) (gd_of (c := ((((((((aa == 0) && (ab == 0)) && (ac == 0)) && (ae == 0)) && (ag == 0)) && (ah == 0)) && (ai == 0)) && (decide ((⟨(aj : Int), (ak : Int)⟩ : Span) = (⟨(812 : Int), (1959 : Int)⟩ : Span))))) hg (I al)) rfl rfl) ?_
 refine s_val (x_pand (b := ((((((((aa == 0) && (ab == 0)) && (ac == 0)) && (ae == 0)) && (ag == 0)) && (ah == 0)) && (ai == 0)) && (decide ((⟨(aj : Int), (ak : Int)⟩ : Span) = (⟨(812 : Int), (1959 : Int)⟩ : Span))))) (r := al == 1876) rfl (fun hb => gd_of (c := ((((((((aa == 0) && (ab == 0)) && (ac == 0)) && (ae == 0)) && (ag == 0)) && (ah == 0)) && (ai == 0)) && (decide ((⟨(aj : Int), (ak : Int)⟩ : Span) = (⟨(812 : Int), (1959 : Int)⟩ : Span))))) (by first | exact hb | (rw [hb]; rfl) | simp_all) (B (al == 1876))) rfl) ?_
 refine zM (B (((((((((aa == 0) && (ab == 0)) && (ac == 0)) && (ae == 0)) && (ag == 0)) && (ah == 0)) && (ai == 0)) && (decide ((⟨(aj : Int), (ak : Int)⟩ : Span) = (⟨(812 : Int), (1959 : Int)⟩ : Span)))) && (al == 1876))) rfl ?_
 refine g_val (((((((((aa == 0) && (ab == 0)) && (ac == 0)) && (ae == 0)) && (ag == 0)) && (ah == 0)) && (ai == 0)) && (decide ((⟨(aj : Int), (ak : Int)⟩ : Span) = (⟨(812 : Int), (1959 : Int)⟩ : Span)))) && (al == 1876)) (gy_t rfl) (fun hg => x_fa (a := Pq aO) (v := Oq aO 1) rfl (fa_blk (o := 0) Fd44_1 Sz3)) ?_
 refine g_val (((((((((aa == 0) && (ab == 0)) && (ac == 0)) && (ae == 0)) && (ag == 0)) && (ah == 0)) && (ai == 0)) && (decide ((⟨(aj : Int), (ak : Int)⟩ : Span) = (⟨(812 : Int), (1959 : Int)⟩ : Span)))) && (al == 1876)) (gy_t rfl) (fun hg => x_ld (p := Oq aO 1) (v := I am) (gd_of (c := (((((((((aa == 0) && (ab == 0)) && (ac == 0)) && (ae == 0)) && (ag == 0)) && (ah == 0)) && (ai == 0)) && (decide ((⟨(aj : Int), (ak : Int)⟩ : Span) = (⟨(812 : Int), (1959 : Int)⟩ : Span)))) && (al == 1876))) hg (Oq aO 1)) (ldb_sc Sc3 (H.bl 2) rfl)) ?_
 refine g_val (((((((((aa == 0) && (ab == 0)) && (ac == 0)) && (ae == 0)) && (ag == 0)) && (ah == 0)) && (ai == 0)) && (decide ((⟨(aj : Int), (ak : Int)⟩ : Span) = (⟨(812 : Int), (1959 : Int)⟩ : Span)))) && (al == 1876)) (gy_t rfl) (fun hg => x_cmp (kd := .i64) (a := am) (b := 1557) (r := am == 1557) (gd_of (c := (((((((((aa == 0) && (ab == 0)) && (ac == 0)) && (ae == 0)) && (ag == 0)) && (ah == 0)) && (ai == 0)) && (decide ((⟨(aj : Int), (ak : Int)⟩ : Span) = (⟨(812 : Int), (1959 : Int)⟩ : Span)))) && (al == 1876))) hg (I am)) rfl rfl) ?_
 refine s_val (x_pand (b := (((((((((aa == 0) && (ab == 0)) && (ac == 0)) && (ae == 0)) && (ag == 0)) && (ah == 0)) && (ai == 0)) && (decide ((⟨(aj : Int), (ak : Int)⟩ : Span) = (⟨(812 : Int), (1959 : Int)⟩ : Span)))) && (al == 1876))) (r := am == 1557) rfl (fun hb => gd_of (c := (((((((((aa == 0) && (ab == 0)) && (ac == 0)) && (ae == 0)) && (ag == 0)) && (ah == 0)) && (ai == 0)) && (decide ((⟨(aj : Int), (ak : Int)⟩ : Span) = (⟨(812 : Int), (1959 : Int)⟩ : Span)))) && (al == 1876))) (by first | exact hb | (rw [hb]; rfl) | simp_all) (B (am == 1557))) rfl) ?_
 refine zM (B ((((((((((aa == 0) && (ab == 0)) && (ac == 0)) && (ae == 0)) && (ag == 0)) && (ah == 0)) && (ai == 0)) && (decide ((⟨(aj : Int), (ak : Int)⟩ : Span) = (⟨(812 : Int), (1959 : Int)⟩ : Span)))) && (al == 1876)) && (am == 1557))) rfl ?_
 refine g_val ((((((((((aa == 0) && (ab == 0)) && (ac == 0)) && (ae == 0)) && (ag == 0)) && (ah == 0)) && (ai == 0)) && (decide ((⟨(aj : Int), (ak : Int)⟩ : Span) = (⟨(812 : Int), (1959 : Int)⟩ : Span)))) && (al == 1876)) && (am == 1557)) (gy_t rfl) (fun hg => x_mv (v := B ao) rfl) ?_
 refine s_val (x_pand (b := ((((((((((aa == 0) && (ab == 0)) && (ac == 0)) && (ae == 0)) && (ag == 0)) && (ah == 0)) && (ai == 0)) && (decide ((⟨(aj : Int), (ak : Int)⟩ : Span) = (⟨(812 : Int), (1959 : Int)⟩ : Span)))) && (al == 1876)) && (am == 1557))) (r := ao) rfl (fun hb => gd_of (c := ((((((((((aa == 0) && (ab == 0)) && (ac == 0)) && (ae == 0)) && (ag == 0)) && (ah == 0)) && (ai == 0)) && (decide ((⟨(aj : Int), (ak : Int)⟩ : Span) = (⟨(812 : Int), (1959 : Int)⟩ : Span)))) && (al == 1876)) && (am == 1557))) (by first | exact hb | (rw [hb]; rfl) | simp_all) (B ao)) rfl) ?_
 refine zM (B (((((((((((aa == 0) && (ab == 0)) && (ac == 0)) && (ae == 0)) && (ag == 0)) && (ah == 0)) && (ai == 0)) && (decide ((⟨(aj : Int), (ak : Int)⟩ : Span) = (⟨(812 : Int), (1959 : Int)⟩ : Span)))) && (al == 1876)) && (am == 1557)) && ao)) rfl ?_
 refine g_val (((((((((((aa == 0) && (ab == 0)) && (ac == 0)) && (ae == 0)) && (ag == 0)) && (ah == 0)) && (ai == 0)) && (decide ((⟨(aj : Int), (ak : Int)⟩ : Span) = (⟨(812 : Int), (1959 : Int)⟩ : Span)))) && (al == 1876)) && (am == 1557)) && ao) (gy_t rfl) (fun hg => x_mv (v := aF) rfl) ?_
 refine g_val (((((((((((aa == 0) && (ab == 0)) && (ac == 0)) && (ae == 0)) && (ag == 0)) && (ah == 0)) && (ai == 0)) && (decide ((⟨(aj : Int), (ak : Int)⟩ : Span) = (⟨(812 : Int), (1959 : Int)⟩ : Span)))) && (al == 1876)) && (am == 1557)) && ao) (gy_t rfl) (fun hg => x_lenS T28.und (gd_of (c := (((((((((((aa == 0) && (ab == 0)) && (ac == 0)) && (ae == 0)) && (ag == 0)) && (ah == 0)) && (ai == 0)) && (decide ((⟨(aj : Int), (ak : Int)⟩ : Span) = (⟨(812 : Int), (1959 : Int)⟩ : Span)))) && (al == 1876)) && (am == 1557)) && ao)) hg (aF)) (H.os 1)) ?_
 refine g_val (((((((((((aa == 0) && (ab == 0)) && (ac == 0)) && (ae == 0)) && (ag == 0)) && (ah == 0)) && (ai == 0)) && (decide ((⟨(aj : Int), (ak : Int)⟩ : Span) = (⟨(812 : Int), (1959 : Int)⟩ : Span)))) && (al == 1876)) && (am == 1557)) && ao) (gy_t rfl) (fun hg => x_cmp (kd := .i64) (a := (aq.length : Int)) (b := 2) (r := (aq.length : Int) == 2) (gd_of (c := (((((((((((aa == 0) && (ab == 0)) && (ac == 0)) && (ae == 0)) && (ag == 0)) && (ah == 0)) && (ai == 0)) && (decide ((⟨(aj : Int), (ak : Int)⟩ : Span) = (⟨(812 : Int), (1959 : Int)⟩ : Span)))) && (al == 1876)) && (am == 1557)) && ao)) hg (I (aq.length : Int))) rfl rfl) ?_
 refine s_val (x_pand (b := (((((((((((aa == 0) && (ab == 0)) && (ac == 0)) && (ae == 0)) && (ag == 0)) && (ah == 0)) && (ai == 0)) && (decide ((⟨(aj : Int), (ak : Int)⟩ : Span) = (⟨(812 : Int), (1959 : Int)⟩ : Span)))) && (al == 1876)) && (am == 1557)) && ao)) (r := (aq.length : Int) == 2) rfl (fun hb => gd_of (c := (((((((((((aa == 0) && (ab == 0)) && (ac == 0)) && (ae == 0)) && (ag == 0)) && (ah == 0)) && (ai == 0)) && (decide ((⟨(aj : Int), (ak : Int)⟩ : Span) = (⟨(812 : Int), (1959 : Int)⟩ : Span)))) && (al == 1876)) && (am == 1557)) && ao)) (by first | exact hb | (rw [hb]; rfl) | simp_all) (B ((aq.length : Int) == 2))) rfl) ?_
 refine zM (B ((((((((((((aa == 0) && (ab == 0)) && (ac == 0)) && (ae == 0)) && (ag == 0)) && (ah == 0)) && (ai == 0)) && (decide ((⟨(aj : Int), (ak : Int)⟩ : Span) = (⟨(812 : Int), (1959 : Int)⟩ : Span)))) && (al == 1876)) && (am == 1557)) && ao) && ((aq.length : Int) == 2))) rfl ?_
 refine g_val ((((((((((((aa == 0) && (ab == 0)) && (ac == 0)) && (ae == 0)) && (ag == 0)) && (ah == 0)) && (ai == 0)) && (decide ((⟨(aj : Int), (ak : Int)⟩ : Span) = (⟨(812 : Int), (1959 : Int)⟩ : Span)))) && (al == 1876)) && (am == 1557)) && ao) && ((aq.length : Int) == 2)) (gy_t rfl) (fun hg => x_mv (v := B au) rfl) ?_
 refine s_val (x_pand (b := ((((((((((((aa == 0) && (ab == 0)) && (ac == 0)) && (ae == 0)) && (ag == 0)) && (ah == 0)) && (ai == 0)) && (decide ((⟨(aj : Int), (ak : Int)⟩ : Span) = (⟨(812 : Int), (1959 : Int)⟩ : Span)))) && (al == 1876)) && (am == 1557)) && ao) && ((aq.length : Int) == 2))) (r := au) rfl (fun hb => gd_of (c := ((((((((((((aa == 0) && (ab == 0)) && (ac == 0)) && (ae == 0)) && (ag == 0)) && (ah == 0)) && (ai == 0)) && (decide ((⟨(aj : Int), (ak : Int)⟩ : Span) = (⟨(812 : Int), (1959 : Int)⟩ : Span)))) && (al == 1876)) && (am == 1557)) && ao) && ((aq.length : Int) == 2))) (by first | exact hb | (rw [hb]; rfl) | simp_all) (B au)) rfl) ?_
 refine zM (B (((((((((((((aa == 0) && (ab == 0)) && (ac == 0)) && (ae == 0)) && (ag == 0)) && (ah == 0)) && (ai == 0)) && (decide ((⟨(aj : Int), (ak : Int)⟩ : Span) = (⟨(812 : Int), (1959 : Int)⟩ : Span)))) && (al == 1876)) && (am == 1557)) && ao) && ((aq.length : Int) == 2)) && au)) rfl ?_
 refine g_val (((((((((((((aa == 0) && (ab == 0)) && (ac == 0)) && (ae == 0)) && (ag == 0)) && (ah == 0)) && (ai == 0)) && (decide ((⟨(aj : Int), (ak : Int)⟩ : Span) = (⟨(812 : Int), (1959 : Int)⟩ : Span)))) && (al == 1876)) && (am == 1557)) && ao) && ((aq.length : Int) == 2)) && au) (gy_t rfl) (fun hg => x_mv (v := aA) rfl) ?_
 refine g_val (((((((((((((aa == 0) && (ab == 0)) && (ac == 0)) && (ae == 0)) && (ag == 0)) && (ah == 0)) && (ai == 0)) && (decide ((⟨(aj : Int), (ak : Int)⟩ : Span) = (⟨(812 : Int), (1959 : Int)⟩ : Span)))) && (al == 1876)) && (am == 1557)) && ao) && ((aq.length : Int) == 2)) && au) (gy_t rfl) (fun hg => x_lenS T52.und (gd_of (c := (((((((((((((aa == 0) && (ab == 0)) && (ac == 0)) && (ae == 0)) && (ag == 0)) && (ah == 0)) && (ai == 0)) && (decide ((⟨(aj : Int), (ak : Int)⟩ : Span) = (⟨(812 : Int), (1959 : Int)⟩ : Span)))) && (al == 1876)) && (am == 1557)) && ao) && ((aq.length : Int) == 2)) && au)) hg (aA)) (H.os 0)) ?_
 refine g_val (((((((((((((aa == 0) && (ab == 0)) && (ac == 0)) && (ae == 0)) && (ag == 0)) && (ah == 0)) && (ai == 0)) && (decide ((⟨(aj : Int), (ak : Int)⟩ : Span) = (⟨(812 : Int), (1959 : Int)⟩ : Span)))) && (al == 1876)) && (am == 1557)) && ao) && ((aq.length : Int) == 2)) && au) (gy_t rfl) (fun hg => x_cmp (kd := .i64) (a := (av.length : Int)) (b := 2) (r := (av.length : Int) == 2) (gd_of (c := (((((((((((((aa == 0) && (ab == 0)) && (ac == 0)) && (ae == 0)) && (ag == 0)) && (ah == 0)) && (ai == 0)) && (decide ((⟨(aj : Int), (ak : Int)⟩ : Span) = (⟨(812 : Int), (1959 : Int)⟩ : Span)))) && (al == 1876)) && (am == 1557)) && ao) && ((aq.length : Int) == 2)) && au)) hg (I (av.length : Int))) rfl rfl) ?_
 refine s_val (x_pand (b := (((((((((((((aa == 0) && (ab == 0)) && (ac == 0)) && (ae == 0)) && (ag == 0)) && (ah == 0)) && (ai == 0)) && (decide ((⟨(aj : Int), (ak : Int)⟩ : Span) = (⟨(812 : Int), (1959 : Int)⟩ : Span)))) && (al == 1876)) && (am == 1557)) && ao) && ((aq.length : Int) == 2)) && au)) (r := (av.length : Int) == 2) rfl (fun hb => gd_of (c := (((((((((((((aa == 0) && (ab == 0)) && (ac == 0)) && (ae == 0)) && (ag == 0)) && (ah == 0)) && (ai == 0)) && (decide ((⟨(aj : Int), (ak : Int)⟩ : Span) = (⟨(812 : Int), (1959 : Int)⟩ : Span)))) && (al == 1876)) && (am == 1557)) && ao) && ((aq.length : Int) == 2)) && au)) (by first | exact hb | (rw [hb]; rfl) | simp_all) (B ((av.length : Int) == 2))) rfl) ?_
 refine zM (B ((((((((((((((aa == 0) && (ab == 0)) && (ac == 0)) && (ae == 0)) && (ag == 0)) && (ah == 0)) && (ai == 0)) && (decide ((⟨(aj : Int), (ak : Int)⟩ : Span) = (⟨(812 : Int), (1959 : Int)⟩ : Span)))) && (al == 1876)) && (am == 1557)) && ao) && ((aq.length : Int) == 2)) && au) && ((av.length : Int) == 2))) rfl ?_
 refine g_val ((((((((((((((aa == 0) && (ab == 0)) && (ac == 0)) && (ae == 0)) && (ag == 0)) && (ah == 0)) && (ai == 0)) && (decide ((⟨(aj : Int), (ak : Int)⟩ : Span) = (⟨(812 : Int), (1959 : Int)⟩ : Span)))) && (al == 1876)) && (am == 1557)) && ao) && ((aq.length : Int) == 2)) && au) && ((av.length : Int) == 2)) (gy_t rfl) (fun hg => x_mv (v := aA) rfl) ?_
 obtain ⟨aH, hM⟩ := M.e_grd hM
 replace aH := M.imp_of aH
 simp only [Bool.and_eq_true, decide_eq_true_eq] at aH
 refine g_val ((((((((((((((aa == 0) && (ab == 0)) && (ac == 0)) && (ae == 0)) && (ag == 0)) && (ah == 0)) && (ai == 0)) && (decide ((⟨(aj : Int), (ak : Int)⟩ : Span) = (⟨(812 : Int), (1959 : Int)⟩ : Span)))) && (al == 1876)) && (am == 1557)) && ao) && ((aq.length : Int) == 2)) && au) && ((av.length : Int) == 2)) (gy_t rfl) (fun hg => x_ix (a := aA) (b := I 0) (v := vat aA 2 (Int.toNat 0)) (gd_of (c := ((((((((((((((aa == 0) && (ab == 0)) && (ac == 0)) && (ae == 0)) && (ag == 0)) && (ah == 0)) && (ai == 0)) && (decide ((⟨(aj : Int), (ak : Int)⟩ : Span) = (⟨(812 : Int), (1959 : Int)⟩ : Span)))) && (al == 1876)) && (am == 1557)) && ao) && ((aq.length : Int) == 2)) && au) && ((av.length : Int) == 2))) hg (aA)) rfl (Sl.ix (α := Span) T52.und T52.size (H.os 0) (by have aw := aH.resolve_left (by rw [hg]; decide); first | exact aw | exact aw.1 | exact aw.2 | omega | (have aI := hg; simp at aI; omega)) (by have aw := aH.resolve_left (by rw [hg]; decide); first | exact aw | exact aw.1 | exact aw.2 | omega | (have aI := hg; simp at aI; omega)))) ?_
 refine g_val ((((((((((((((aa == 0) && (ab == 0)) && (ac == 0)) && (ae == 0)) && (ag == 0)) && (ah == 0)) && (ai == 0)) && (decide ((⟨(aj : Int), (ak : Int)⟩ : Span) = (⟨(812 : Int), (1959 : Int)⟩ : Span)))) && (al == 1876)) && (am == 1557)) && ao) && ((aq.length : Int) == 2)) && au) && ((av.length : Int) == 2)) (gy_t rfl) (fun hg => x_ld (p := vat aA 2 (Int.toNat 0)) (v := .agg #[I ((av.getD 0 default).lo), I ((av.getD 0 default).hi)]) (gd_of (c := ((((((((((((((aa == 0) && (ab == 0)) && (ac == 0)) && (ae == 0)) && (ag == 0)) && (ah == 0)) && (ai == 0)) && (decide ((⟨(aj : Int), (ak : Int)⟩ : Span) = (⟨(812 : Int), (1959 : Int)⟩ : Span)))) && (al == 1876)) && (am == 1557)) && ao) && ((aq.length : Int) == 2)) && au) && ((av.length : Int) == 2))) hg (vat aA 2 (Int.toNat 0))) (ld_ag Ag44 Sz44 (At.mono (Span_atA (H.os 0) (i := 0) (by have aw := aH.resolve_left (by rw [hg]; decide); first | exact aw | exact aw.1 | exact aw.2 | omega | (have aI := hg; simp at aI; omega)) (by have aw := aH.resolve_left (by rw [hg]; decide); first | exact aw | exact aw.1 | exact aw.2 | omega | (have aI := hg; simp at aI; omega))) (H.ol 0)))) ?_
 refine g_val ((((((((((((((aa == 0) && (ab == 0)) && (ac == 0)) && (ae == 0)) && (ag == 0)) && (ah == 0)) && (ai == 0)) && (decide ((⟨(aj : Int), (ak : Int)⟩ : Span) = (⟨(812 : Int), (1959 : Int)⟩ : Span)))) && (al == 1876)) && (am == 1557)) && ao) && ((aq.length : Int) == 2)) && au) && ((av.length : Int) == 2)) (gy_t rfl) (fun hg => x_bld (ps := [(0, I 170), (1, I 2000)]) (zs := [I 0, I 0]) (L' := [I 170, I 2000]) rfl Try.underlying44 Al44 rfl (Bd44 Try.underlying44) (.cons (cs := [I 170]) rfl rfl rfl rfl rfl <| .cons (cs := [I 2000]) rfl rfl rfl rfl rfl <| .nil)) ?_
 refine g_val ((((((((((((((aa == 0) && (ab == 0)) && (ac == 0)) && (ae == 0)) && (ag == 0)) && (ah == 0)) && (ai == 0)) && (decide ((⟨(aj : Int), (ak : Int)⟩ : Span) = (⟨(812 : Int), (1959 : Int)⟩ : Span)))) && (al == 1876)) && (am == 1557)) && ao) && ((aq.length : Int) == 2)) && au) && ((av.length : Int) == 2)) (gy_t rfl) (fun hg => x_eqS (eqT44 (av.getD 0 default) (⟨(170 : Int), (2000 : Int)⟩ : Span) _) gdT44 (gd_of (c := ((((((((((((((aa == 0) && (ab == 0)) && (ac == 0)) && (ae == 0)) && (ag == 0)) && (ah == 0)) && (ai == 0)) && (decide ((⟨(aj : Int), (ak : Int)⟩ : Span) = (⟨(812 : Int), (1959 : Int)⟩ : Span)))) && (al == 1876)) && (am == 1557)) && ao) && ((aq.length : Int) == 2)) && au) && ((av.length : Int) == 2))) hg (.agg #[I ((av.getD 0 default).lo), I ((av.getD 0 default).hi)])) (gd_of (c := ((((((((((((((aa == 0) && (ab == 0)) && (ac == 0)) && (ae == 0)) && (ag == 0)) && (ah == 0)) && (ai == 0)) && (decide ((⟨(aj : Int), (ak : Int)⟩ : Span) = (⟨(812 : Int), (1959 : Int)⟩ : Span)))) && (al == 1876)) && (am == 1557)) && ao) && ((aq.length : Int) == 2)) && au) && ((av.length : Int) == 2))) hg (.agg #[I 170, I 2000]))) ?_
 refine s_val (x_pand (b := ((((((((((((((aa == 0) && (ab == 0)) && (ac == 0)) && (ae == 0)) && (ag == 0)) && (ah == 0)) && (ai == 0)) && (decide ((⟨(aj : Int), (ak : Int)⟩ : Span) = (⟨(812 : Int), (1959 : Int)⟩ : Span)))) && (al == 1876)) && (am == 1557)) && ao) && ((aq.length : Int) == 2)) && au) && ((av.length : Int) == 2))) (r := decide ((av.getD 0 default) = (⟨(170 : Int), (2000 : Int)⟩ : Span))) rfl (fun hb => gd_of (c := ((((((((((((((aa == 0) && (ab == 0)) && (ac == 0)) && (ae == 0)) && (ag == 0)) && (ah == 0)) && (ai == 0)) && (decide ((⟨(aj : Int), (ak : Int)⟩ : Span) = (⟨(812 : Int), (1959 : Int)⟩ : Span)))) && (al == 1876)) && (am == 1557)) && ao) && ((aq.length : Int) == 2)) && au) && ((av.length : Int) == 2))) (by first | exact hb | (rw [hb]; rfl) | simp_all) (B (decide ((av.getD 0 default) = (⟨(170 : Int), (2000 : Int)⟩ : Span))))) rfl) ?_
 refine zA (B (((((((((((((((aa == 0) && (ab == 0)) && (ac == 0)) && (ae == 0)) && (ag == 0)) && (ah == 0)) && (ai == 0)) && (decide ((⟨(aj : Int), (ak : Int)⟩ : Span) = (⟨(812 : Int), (1959 : Int)⟩ : Span)))) && (al == 1876)) && (am == 1557)) && ao) && ((aq.length : Int) == 2)) && au) && ((av.length : Int) == 2)) && (decide ((av.getD 0 default) = (⟨(170 : Int), (2000 : Int)⟩ : Span))))) rfl ?_
 refine s_nil ?_
 replace H := H.pk []
 refine W.ret ?_
 have b8 := M.e_pure hM
 exact ⟨_, resE_tmp rfl, ⟨(((((((((((((((aa == 0) && (ab == 0)) && (ac == 0)) && (ae == 0)) && (ag == 0)) && (ah == 0)) && (ai == 0)) && (decide ((⟨(aj : Int), (ak : Int)⟩ : Span) = (⟨(812 : Int), (1959 : Int)⟩ : Span)))) && (al == 1876)) && (am == 1557)) && ao) && ((aq.length : Int) == 2)) && au) && ((av.length : Int) == 2)) && (decide ((av.getD 0 default) = (⟨(170 : Int), (2000 : Int)⟩ : Span)))), b8, rfl, H⟩⟩

end Go.Proofs.Ytlemgioaakecpaa
end
namespace Go.Proofs.Ytlemgioaakecpaa
open Go Go.Nm
set_option maxRecDepth 100000 in
theorem awake_ends : zb9.Ends true := ⟨400, by kernel_rfl⟩
end Go.Proofs.Ytlemgioaakecpaa
section
set_option maxRecDepth 100000
set_option maxHeartbeats 16000000
namespace Go.Proofs.Ytlemgioaakecpaa
open Go Go.Nm
def za7 (s_Marks : List Mrk) : (Nat × (List Int)) -> M ((Nat × (List Int)) ⊕ ((List Int) × (List Int))) := fun (i, l) =>
  bif decide ((i : Int) < (s_Marks.length : Int)) then (
  M.grd (decide ((l.length + ([(i : Int)]).length) * 8 <= 140737488355328)) <|
  M.pure (.inl (i + 1, l ++ ([(i : Int)]))))
  else (
  M.pure (.inr (l, l)))
def zbC (s_Sections : List Sect) (s_Marks : List Mrk) (s_Reaches : List Rch) : M (List Int) :=
  M.bind (M.iter (za7 s_Marks) (0, [])) fun (l2, l3) =>
  M.pure l3
theorem zde {R : List Chunk} {aj : Cells} {ac : Value} {ak : Cells} {ab : Value} {al : Cells} {ae : Value} (s_Sections : List Sect) (s_Marks : List Mrk) (s_Reaches : List Rch) (aC : Reads R aj) (aD : Sl aj ac s_Sections) (aE : Reads R ak) (am : Sl ak ab s_Marks) (aF : Reads R al) (aG : Sl al ae s_Reaches) {r : (List Int)} (hM : (zbC s_Sections s_Marks s_Reaches).Ends r) (w : World) (H : St w w [] R) : Ret Try.prog 14 #[.agg #[ac, ab, ae]] w fun v w' => ∃ (y0 : List Int) (u0 : Value), y0 = r /\ v = u0 /\ St w w' [cOwn (α := Int) 3 u0 y0] R := by
 refine ret_of_W Try.func14 rfl rfl rfl ?_
 refine W.seq ?_
 refine W.region rfl ?_
 refine t_box (v := .agg #[ac, ab, ae]) (cs := [ac, ab, ae]) H rfl rfl ?_
 intro ag aH H
 refine zA (.slice none 0 0) rfl ?_
 refine s_nil ?_
 refine W.seq ?_
 refine W.region rfl ?_
 refine zA (.slice none 0 0) rfl ?_
 refine s_nil ?_
 refine W.seq ?_
 refine W.seq ?_
 refine W.region rfl ?_
 refine zA (I 0) rfl ?_
 refine s_nil ?_
 refine W.block ?_
 replace H := H.nilOwn (α := Int) 3
 obtain ⟨au, ai, av⟩ := M.e_bind hM
 obtain ⟨aI, ai⟩ := M.e_iter ai
 refine W.loop (fun m σ W => ∃ (i : Nat) (l : List Int) (aa : Value) (ρ : Env), σ = upds ρ [(1, Pq ag), (3, aa), (4, I (i : Int))] /\ M.iterN (za7 s_Marks) m (i, l) = some au /\ St w W [cOwn (α := Int) 3 aa l, cBlk ag [ac, ab, ae] 27] R) ?_ ?_
 ·exact ⟨_, 0, [], (.slice none 0 0), _, upds_of _ _ ⟨rfl, rfl, rfl, trivial⟩, ai, H⟩
 rintro aJ σ aK ⟨i, l, aa, ρ, rfl, ao, H⟩
 obtain ⟨aw, ax, aL, hM, ap⟩ := M.e_iterN ao
 simp only [za7] at hM
 clear ao
 refine W.seq ?_
 refine W.seq ?_
 refine W.region rfl ?_
 refine zM (I (i : Int)) rfl ?_
 refine s_val (x_fa (a := Pq ag) (v := Oq ag 1) rfl (fa_blk (o := 0) Fd27_1 Sz24)) ?_
 refine s_val (x_ld (p := Oq ag 1) (v := ab) rfl (ldb_sc Sc24 (H.bl 1) rfl)) ?_
 have aM := (am).len_le
 refine s_val (x_lenS T24.und rfl am) ?_
 refine zC (i : Int) (s_Marks.length : Int) (decide ((i : Int) < (s_Marks.length : Int))) rfl rfl rfl ?_
 refine s_nil ?_
 refine W.cond (decide ((i : Int) < (s_Marks.length : Int))) rfl (fun ah => ?_) (fun ah => ?_)
 ·replace hM := M.e_t hM ah
  simp only [qy1, qy2, qy3, qy4, qy5, qy6, ne_eq, qy7] at ah
  refine W.skip ?_
  refine W.seq ?_
  refine W.block ?_
  refine W.region rfl ?_
  refine zM aa rfl ?_
  refine zM (I (i : Int)) rfl ?_
  refine t_bs (α := Int) T28 [I (i : Int)] [(i : Int)] H rfl (.cons rfl (Flat.rep_enc _ (i : Int)) <| .nil) rfl rfl rfl ?_
  intro ay aN H
  obtain ⟨az, hM⟩ := M.e_grd hM
  simp only [Bool.and_eq_true, decide_eq_true_eq] at az
  refine t_app (α := Int) (k := 1) (l := l) (l2 := [(i : Int)]) (l' := l ++ ([(i : Int)])) (vy := ay) T28 rfl H rfl rfl rfl (H.os 0) (H.ol 0) (rfl) (by first | omega | (simp only [List.length_nil] at *; omega)) ?_
  intro aq aO H
  replace H := H.nf
  refine zA aq rfl ?_
  refine s_nil ?_
  refine W.region rfl ?_
  refine zM (I (i : Int)) rfl ?_
  refine zR (i : Int) 1 ((i : Int) + 1) rfl rfl rfl (by omega) ?_
  refine zA (I ((i : Int) + 1)) rfl ?_
  refine s_nil ?_
  exact ⟨aw, ax, i + 1, l ++ ([(i : Int)]), aq, _, upds_of _ _ ⟨rfl, rfl, rfl, trivial⟩, M.e_inl hM ap, (H.pk [1, 2])⟩
 replace hM := M.e_f hM ah
 simp only [qy1, qy2, qy3, qy4, qy5, qy6, ne_eq, qy7] at ah
 refine W.exit ?_
 have aA := M.e_inr hM ap
 subst aA
 replace hM := av
 try dsimp only at hM
 refine W.seq ?_
 refine W.region rfl ?_
 refine zM aa rfl ?_
 refine zA aa rfl ?_
 refine s_nil ?_
 refine W.ret ?_
 have aB := M.e_pure hM
 exact ⟨_, resE_tmp rfl, ⟨l, aa, aB, rfl, (H.pk [0])⟩⟩

def zau (aa : List Int) (ab : List Span) : Nat -> M (Nat ⊕ (Unit ⊕ Unit)) := fun i =>
  bif decide ((i : Int) < (ab.length : Int)) then (
  M.grd (decide ((i : Int) < (aa.length : Int))) <|
  bif ((decide ((aa.getD i 0) < ((ab.getD i default).lo))) || (decide (((ab.getD i default).hi) < (aa.getD i 0)))) then (
  M.pure (.inr (.inl ())))
  else (
  M.pure (.inl (i + 1))))
  else (
  M.pure (.inr (.inr ())))
def zaz (ae : List Sect) (ag : List Mrk) (aa : List Rch) (ac : List Int) (ab : List Int) (r3 : List Int) : Nat -> M (Nat ⊕ (Unit ⊕ Unit)) := fun i2 =>
  bif decide ((i2 : Int) < (aa.length : Int)) then (
  M.grd (decide ((i2 : Int) < (aa.length : Int))) <|
  M.grd (decide ((0 : Int) <= ((aa.getD i2 default).up)) && decide (((aa.getD i2 default).up) < (ac.length : Int))) <|
  M.grd (decide ((0 : Int) <= ((aa.getD i2 default).down)) && decide (((aa.getD i2 default).down) < (ac.length : Int))) <|
  M.grd (decide ((0 : Int) <= ((aa.getD i2 default).up)) && decide (((aa.getD i2 default).up) < (ab.length : Int))) <|
  M.grd (decide ((0 : Int) <= ((aa.getD i2 default).down)) && decide (((aa.getD i2 default).down) < (ab.length : Int))) <|
  M.bind (zak ae ag aa (i2 : Int) (⟨(ac.getD (Int.toNat ((aa.getD i2 default).up)) 0 : Int), (ac.getD (Int.toNat ((aa.getD i2 default).down)) 0 : Int), (ab.getD (Int.toNat ((aa.getD i2 default).up)) 0 : Int), (ab.getD (Int.toNat ((aa.getD i2 default).down)) 0 : Int)⟩ : Cas)) fun (ah, ao) =>
  M.bind (zaA ae ag aa r3 (i2 : Int)) fun (ai, ap, aq) =>
  bif (((((ao != 0) || (aq != 0)) || (decide (ah < ai))) || (decide (ap < ah))) || (decide (ai < 0))) then (
  M.pure (.inr (.inl ())))
  else (
  M.bind (zak ae ag aa (i2 : Int) (⟨(ac.getD (Int.toNat ((aa.getD i2 default).up)) 0 : Int), (ac.getD (Int.toNat ((aa.getD i2 default).down)) 0 : Int), (max (ab.getD (Int.toNat ((aa.getD i2 default).up)) 0) (ab.getD (Int.toNat ((aa.getD i2 default).down)) 0) : Int), (max (ab.getD (Int.toNat ((aa.getD i2 default).up)) 0) (ab.getD (Int.toNat ((aa.getD i2 default).down)) 0) : Int)⟩ : Cas)) fun (aj, au) =>
  M.bind (zak ae ag aa (i2 : Int) (⟨(ac.getD (Int.toNat ((aa.getD i2 default).up)) 0 : Int), (ac.getD (Int.toNat ((aa.getD i2 default).down)) 0 : Int), (min (ab.getD (Int.toNat ((aa.getD i2 default).up)) 0) (ab.getD (Int.toNat ((aa.getD i2 default).down)) 0) : Int), (min (ab.getD (Int.toNat ((aa.getD i2 default).up)) 0) (ab.getD (Int.toNat ((aa.getD i2 default).down)) 0) : Int)⟩ : Cas)) fun (ak, av) =>
  M.bind (zaN ae ag aa r3 (i2 : Int) (⟨(aj : Int), (ak : Int)⟩ : Span)) fun (al, am, aw) =>
  bif (((((((((au != 0) || (av != 0)) || (aw != 0)) || (decide (ah < aj))) || (decide (ak < ah))) || (decide ((min (ab.getD (Int.toNat ((aa.getD i2 default).up)) 0) (ab.getD (Int.toNat ((aa.getD i2 default).down)) 0)) < al))) || (decide (am < (max (ab.getD (Int.toNat ((aa.getD i2 default).up)) 0) (ab.getD (Int.toNat ((aa.getD i2 default).down)) 0))))) || (decide (al < ((aa.getD i2 default).lo)))) || (decide (((aa.getD i2 default).hi) < am))) then (
  M.pure (.inr (.inl ())))
  else (
  M.pure (.inl (i2 + 1)))))
  else (
  M.pure (.inr (.inr ())))
def zce (numbers : List UInt8) : M Bool :=
  M.bind (zbQ numbers) fun (r1, r2) =>
  M.bind (zbn numbers r1 r2 8 false) fun (aa, ab, ac, ae, ah, q1, q2) =>
  M.bind (zbC aa ab ac) fun r3 =>
  M.bind (zaP aa ab ac) fun (r0, ai) =>
  M.bind (zba aa ab ac r3) fun (ag, aj) =>
  bif ((((ai != 0) || (aj != 0)) || ((r0.length : Int) != (r3.length : Int))) || ((ag.length : Int) != (aa.length : Int))) then (
  M.pure false)
  else (
  M.bind (M.iter (zau ae ag) 0) fun x_ => match x_ with
  | (.inl (_ : Unit)) => (
  M.pure false)
  | (.inr (_ : Unit)) => (
  M.bind (M.iter (zaz aa ab ac ae ah r3) 0) fun x_ => match x_ with
  | (.inl (_ : Unit)) => (
  M.pure false)
  | (.inr (_ : Unit)) => (
  M.bind (zb9) fun r4 =>
  M.pure r4)))
theorem zcG {R : List Chunk} {bc : Cells} {aV : Value} (numbers : List UInt8) (bf : Reads R bc) (bg : Sl bc aV numbers) {r : Bool} (hM : (zce numbers).Ends r) (w : World) (H : St w w [] R) : Ret Try.prog 4 #[aV] w fun v w' => ∃ (y0 : Bool), y0 = r /\ v = B y0 /\ St w w' [] R := by
 refine ret_of_W Try.func4 rfl rfl rfl ?_
 refine W.seq ?_
 refine W.region rfl ?_
 refine zA (B false) rfl ?_
 refine s_nil ?_
 refine W.seq ?_
 refine W.region rfl ?_
 refine zM aV rfl ?_
 obtain ⟨b6, bm, hM⟩ := M.e_bind hM
 refine s_call cf6 [aV] rfl (zcB numbers (bf.app _) bg bm _ (H.gt 0)) ?_
 rintro vq b7 ⟨r1, r2, bn, bo, hvq, aF⟩
 subst bo
 subst vq
 try dsimp only at hM
 replace H := H.bk aF
 clear aF
 obtain ⟨b8, bp, hM⟩ := M.e_bind hM
 refine s_call cf5 [Pq bn, I 8, B false] rfl (zc3 numbers r1 r2 8 false (bf.app _) bg bp _ (H.gt 0)) ?_
 rintro vq b9 ⟨aM, aK, aa, ah, ab, q1, q2, aw, aQ, aR, ax, au, am, ay, bq, hvq, aF, aO⟩
 subst bq
 subst vq
 try dsimp only at hM
 replace H := H.bk aF
 clear aF
 refine zM (.tuple #[.agg #[aw, ax, au], .agg #[am, ay]]) rfl ?_
 refine zX [.agg #[aw, ax, au], .agg #[am, ay]] (.agg #[aw, ax, au]) rfl rfl ?_
 refine zX [.agg #[aw, ax, au], .agg #[am, ay]] (.agg #[am, ay]) rfl rfl ?_
 refine t_alloc (cs := [.slice none 0 0, .slice none 0 0, .slice none 0 0]) H Al27 rfl ?_
 intro aH cb H
 refine t_alloc (cs := [.slice none 0 0, .slice none 0 0]) H Al30 rfl ?_
 intro ap cc H
 refine t_sw 1 0 [aw, ax, au] (.agg #[aw, ax, au]) H rfl rfl Sz27 rfl rfl rfl (by simp only [List.all_cons, List.all_nil, Bool.true_and, Bool.and_true, Sl.oc (rowSl rfl (H.get (k := 2) rfl) (roLe _ (H.get (k := 3) rfl)) aO), Sl.oc (H.os 4), Sl.oc (H.os 5)]; try rfl) ?_
 intro ce H
 refine t_sw 0 0 [am, ay] (.agg #[am, ay]) H rfl rfl Sz30 rfl rfl rfl (by simp only [List.all_cons, List.all_nil, Bool.true_and, Bool.and_true, Sl.oc (H.os 6), Sl.oc (H.os 7)]; try rfl) ?_
 intro cf H
 refine s_nil ?_
 refine W.seq ?_
 refine W.region rfl ?_
 refine s_val (x_ld (p := Pq aH) (v := .agg #[aw, ax, au]) rfl (ldb_ag (ds := [aw, ax, au]) Ag27 Sz27 (H.bl 1) rfl rfl)) ?_
 obtain ⟨cg, br, hM⟩ := M.e_bind hM
 refine s_call cf14 [.agg #[aw, ax, au]] rfl (zde aM aK aa (Reads.sup (rdo 2) (Reads.of (k := 3) rfl roLe)) (rowSl rfl (H.get (k := 2) rfl) (roLe _ (H.get (k := 3) rfl)) aO) (rdo 4) (H.os 4) (rdo 5) (H.os 5) br _ (H.gt 9)) ?_
 rintro vq ch ⟨r3, aJ, bt, hvq, aF⟩
 subst bt
 subst vq
 try dsimp only at hM
 replace H := H.bk aF
 clear aF
 refine zA aJ rfl ?_
 refine s_nil ?_
 refine W.seq ?_
 refine W.region rfl ?_
 refine s_val (x_ld (p := Pq aH) (v := .agg #[aw, ax, au]) rfl (ldb_ag (ds := [aw, ax, au]) Ag27 Sz27 (H.bl 2) rfl rfl)) ?_
 obtain ⟨ci, bu, hM⟩ := M.e_bind hM
 refine s_call cf10 [.agg #[aw, ax, au]] rfl (zcm aM aK aa (Reads.sup (rdo 3) (Reads.of (k := 4) rfl roLe)) (rowSl rfl (H.get (k := 3) rfl) (roLe _ (H.get (k := 4) rfl)) aO) (rdo 5) (H.os 5) (rdo 6) (H.os 6) bu _ (H.gt 10)) ?_
 rintro vq cj ⟨r0, aA, aS, bv, hvq, aF⟩
 subst bv
 subst vq
 try dsimp only at hM
 replace H := H.bk aF
 clear aF
 refine zM (.tuple #[aS, I aA]) rfl ?_
 refine zX [aS, I aA] aS rfl rfl ?_
 refine zX [aS, I aA] (I aA) rfl rfl ?_
 refine zA aS rfl ?_
 refine zA (I aA) rfl ?_
 refine s_nil ?_
 refine W.seq ?_
 refine W.region rfl ?_
 refine s_val (x_ld (p := Pq aH) (v := .agg #[aw, ax, au]) rfl (ldb_ag (ds := [aw, ax, au]) Ag27 Sz27 (H.bl 3) rfl rfl)) ?_
 refine zM aJ rfl ?_
 obtain ⟨ck, bw, hM⟩ := M.e_bind hM
 refine s_call cf12 [.agg #[aw, ax, au], aJ] rfl (zcr aM aK aa r3 (Reads.sup (rdo 4) (Reads.of (k := 5) rfl roLe)) (rowSl rfl (H.get (k := 4) rfl) (roLe _ (H.get (k := 5) rfl)) aO) (rdo 6) (H.os 6) (rdo 7) (H.os 7) (rdo 1) (H.os 1) bw _ (H.gt 11)) ?_
 rintro vq cn ⟨aq, aD, aG, bx, hvq, aF⟩
 subst bx
 subst vq
 try dsimp only at hM
 replace H := H.bk aF
 clear aF
 refine zM (.tuple #[aG, I aD]) rfl ?_
 refine zX [aG, I aD] aG rfl rfl ?_
 refine zX [aG, I aD] (I aD) rfl rfl ?_
 refine zA aG rfl ?_
 refine zA (I aD) rfl ?_
 refine s_nil ?_
 refine W.seq ?_
 refine W.seq ?_
 refine W.region rfl ?_
 refine zM (I aA) rfl ?_
 refine zC aA 0 (aA != 0) rfl rfl rfl ?_
 refine zM (B (aA != 0)) rfl ?_
 refine g_val (!(aA != 0)) (gy_f rfl) (fun hg => x_mv (v := I aD) rfl) ?_
 refine g_val (!(aA != 0)) (gy_f rfl) (fun hg => x_cmp (kd := .i64) (a := aD) (b := 0) (r := aD != 0) (gd_of (c := !(aA != 0)) hg (I aD)) rfl rfl) ?_
 refine s_val (x_por (b := aA != 0) (r := aD != 0) rfl rfl (fun hb => gd_of (c := !(aA != 0)) (by first | exact hb | (rw [hb]; rfl) | simp_all) (B (aD != 0)))) ?_
 refine zM (B ((aA != 0) || (aD != 0))) rfl ?_
 refine g_val (!((aA != 0) || (aD != 0))) (gy_f rfl) (fun hg => x_mv (v := aS) rfl) ?_
 refine g_val (!((aA != 0) || (aD != 0))) (gy_f rfl) (fun hg => x_lenS T28.und (gd_of (c := !((aA != 0) || (aD != 0))) hg (aS)) (H.os 1)) ?_
 refine g_val (!((aA != 0) || (aD != 0))) (gy_f rfl) (fun hg => x_mv (v := aJ) rfl) ?_
 refine g_val (!((aA != 0) || (aD != 0))) (gy_f rfl) (fun hg => x_lenS T28.und (gd_of (c := !((aA != 0) || (aD != 0))) hg (aJ)) (H.os 2)) ?_
 refine g_val (!((aA != 0) || (aD != 0))) (gy_f rfl) (fun hg => x_cmp (kd := .i64) (a := (r0.length : Int)) (b := (r3.length : Int)) (r := (r0.length : Int) != (r3.length : Int)) (gd_of (c := !((aA != 0) || (aD != 0))) hg (I (r0.length : Int))) (gd_of (c := !((aA != 0) || (aD != 0))) hg (I (r3.length : Int))) rfl) ?_
 refine s_val (x_por (b := ((aA != 0) || (aD != 0))) (r := (r0.length : Int) != (r3.length : Int)) rfl rfl (fun hb => gd_of (c := !((aA != 0) || (aD != 0))) (by first | exact hb | (rw [hb]; rfl) | simp_all) (B ((r0.length : Int) != (r3.length : Int))))) ?_
 refine zM (B (((aA != 0) || (aD != 0)) || ((r0.length : Int) != (r3.length : Int)))) rfl ?_
 refine g_val (!(((aA != 0) || (aD != 0)) || ((r0.length : Int) != (r3.length : Int)))) (gy_f rfl) (fun hg => x_mv (v := aG) rfl) ?_
 refine g_val (!(((aA != 0) || (aD != 0)) || ((r0.length : Int) != (r3.length : Int)))) (gy_f rfl) (fun hg => x_lenS T52.und (gd_of (c := !(((aA != 0) || (aD != 0)) || ((r0.length : Int) != (r3.length : Int)))) hg (aG)) (H.os 0)) ?_
 refine g_val (!(((aA != 0) || (aD != 0)) || ((r0.length : Int) != (r3.length : Int)))) (gy_f rfl) (fun hg => x_fa (a := Pq aH) (v := Pq aH) rfl (fa_blk (o := 0) Fd27_0 Sz23)) ?_
 refine g_val (!(((aA != 0) || (aD != 0)) || ((r0.length : Int) != (r3.length : Int)))) (gy_f rfl) (fun hg => x_ld (p := Pq aH) (v := aw) (gd_of (c := !(((aA != 0) || (aD != 0)) || ((r0.length : Int) != (r3.length : Int)))) hg (Pq aH)) (ldb_sc Sc23 (H.bl 4) rfl)) ?_
 refine g_val (!(((aA != 0) || (aD != 0)) || ((r0.length : Int) != (r3.length : Int)))) (gy_f rfl) (fun hg => x_lenS T23.und (gd_of (c := !(((aA != 0) || (aD != 0)) || ((r0.length : Int) != (r3.length : Int)))) hg (aw)) (rowSl rfl (H.get (k := 5) rfl) (roLe _ (H.get (k := 6) rfl)) aO)) ?_
 refine g_val (!(((aA != 0) || (aD != 0)) || ((r0.length : Int) != (r3.length : Int)))) (gy_f rfl) (fun hg => x_cmp (kd := .i64) (a := (aq.length : Int)) (b := (aM.length : Int)) (r := (aq.length : Int) != (aM.length : Int)) (gd_of (c := !(((aA != 0) || (aD != 0)) || ((r0.length : Int) != (r3.length : Int)))) hg (I (aq.length : Int))) (gd_of (c := !(((aA != 0) || (aD != 0)) || ((r0.length : Int) != (r3.length : Int)))) hg (I (aM.length : Int))) rfl) ?_
 refine s_val (x_por (b := (((aA != 0) || (aD != 0)) || ((r0.length : Int) != (r3.length : Int)))) (r := (aq.length : Int) != (aM.length : Int)) rfl rfl (fun hb => gd_of (c := !(((aA != 0) || (aD != 0)) || ((r0.length : Int) != (r3.length : Int)))) (by first | exact hb | (rw [hb]; rfl) | simp_all) (B ((aq.length : Int) != (aM.length : Int))))) ?_
 refine s_nil ?_
 replace H := H.pk [0, 2, 3, 4, 5, 6, 7, 8, 9, 10]
 refine W.cond ((((aA != 0) || (aD != 0)) || ((r0.length : Int) != (r3.length : Int))) || ((aq.length : Int) != (aM.length : Int))) rfl (fun aX => ?_) (fun aX => ?_)
 ·replace hM := M.e_t hM aX
  refine W.seq ?_
  refine W.region rfl ?_
  refine zA (B false) rfl ?_
  refine s_nil ?_
  replace H := H.pk []
  refine W.ret ?_
  have aP := M.e_pure hM
  exact ⟨_, resE_tmp rfl, ⟨false, aP, rfl, H⟩⟩
 replace hM := M.e_f hM aX
 refine W.skip ?_
 refine W.seq ?_
 refine W.seq ?_
 refine W.region rfl ?_
 refine zA (I 0) rfl ?_
 refine s_nil ?_
 refine W.block ?_
 obtain ⟨bz, aY, bh⟩ := M.e_bind hM
 obtain ⟨bA, aY⟩ := M.e_iter aY
 refine W.loop (fun m σ W => ∃ (i : Nat) (ρ : Env), σ = upds ρ [(3, Pq aH), (4, Pq ap), (5, aJ), (8, aG), (10, I (i : Int))] /\ M.iterN (zau ah aq) m i = some bz /\ St w W [cOwn (α := Span) 44 aG aq, cOwn (α := Int) 3 aJ r3, cBlk ap [am, ay] 30, cBlk aH [aw, ax, au] 27, cOwn (α := Raw 1) 39 aw aQ, cRo aR, cOwn (α := Mrk) 46 ax aK, cOwn (α := Rch) 56 au aa, cOwn (α := Int) 3 am ah, cOwn (α := Int) 3 ay ab] R) ?_ ?_
 ·exact ⟨_, 0, _, upds_of _ _ ⟨rfl, rfl, rfl, rfl, rfl, trivial⟩, aY, H⟩
 rintro co σ cp ⟨i, ρ, rfl, bi, H⟩
 obtain ⟨bB, bC, cq, hM, aZ⟩ := M.e_iterN bi
 simp only [zau] at hM
 clear bi
 refine W.seq ?_
 refine W.seq ?_
 refine W.region rfl ?_
 refine zM (I (i : Int)) rfl ?_
 refine zM aG rfl ?_
 have cr := ((H.os 0)).len_le
 refine s_val (x_lenS T52.und rfl (H.os 0)) ?_
 refine zC (i : Int) (aq.length : Int) (decide ((i : Int) < (aq.length : Int))) rfl rfl rfl ?_
 refine s_nil ?_
 refine W.cond (decide ((i : Int) < (aq.length : Int))) rfl (fun aT => ?_) (fun aT => ?_)
 ·replace hM := M.e_t hM aT
  simp only [qy1, qy2, qy3, qy4, qy5, qy6, ne_eq, qy7] at aT
  refine W.skip ?_
  refine W.seq ?_
  refine W.block ?_
  refine W.seq ?_
  refine W.draw (fun W => St w W [cOwn (α := Span) 44 aG aq, cOwn (α := Int) 3 aJ r3, cBlk ap [am, ay] 30, cBlk aH [aw, ax, au] 27, cOwn (α := Raw 1) 39 aw aQ, cRo aR, cOwn (α := Mrk) 46 ax aK, cOwn (α := Rch) 56 au aa, cOwn (α := Int) 3 am ah, cOwn (α := Int) 3 ay ab] R) [(0, true), (1, true), (2, true), (3, true), (4, true), (5, true), (6, true), (7, true), (8, true), (9, true), (10, true), (11, true), (12, true), (13, true), (14, true), (15, true), (16, true), (17, true), (18, true), (19, true), (20, true), (21, true), (22, true), (23, true)] mixed (by decide +kernel) rfl ?_
  intro ct aE
  replace H := H.ext aE
  clear aE
  refine ⟨(H.pk [0, 1, 2, 3, 4, 5, 6, 7, 8, 9]), ?_⟩
  refine d_q rfl (fun w' H => x_fa (a := Pq ap) (v := Pq ap) rfl (fa_blk (o := 0) Fd30_0 Sz28)) ?_
  refine d_q rfl (fun w' H => x_ld (p := Pq ap) (v := am) rfl (ldb_sc Sc28 (H.bl 2) rfl)) ?_
  refine d_q rfl (fun w' H => x_mv (v := I (i : Int)) rfl) ?_
  obtain ⟨bD, hM⟩ := M.e_grd hM
  simp only [Bool.and_eq_true, decide_eq_true_eq] at bD
  refine d_q rfl (fun w' H => x_ix (a := am) (b := I (i : Int)) (v := vat am 1 (Int.toNat (i : Int))) rfl rfl (Sl.ix (α := Int) T28.und T28.size (H.os 8) (by omega) (by omega))) ?_
  refine d_q rfl (fun w' H => x_ld (p := vat am 1 (Int.toNat (i : Int))) (v := I (ah.getD i 0)) rfl (ld_sc Sc3 (At.mono (Int_at (H.os 8) (i := (i : Int)) (by omega) (by omega)) (H.ol 8)))) ?_
  refine d_q rfl (fun w' H => x_mv (v := aG) rfl) ?_
  refine d_q rfl (fun w' H => x_mv (v := I (i : Int)) rfl) ?_
  refine d_q rfl (fun w' H => x_ix (a := aG) (b := I (i : Int)) (v := vat aG 2 (Int.toNat (i : Int))) rfl rfl (Sl.ix (α := Span) T52.und T52.size (H.os 0) (by omega) (by omega))) ?_
  refine d_q rfl (fun w' H => x_fa (a := vat aG 2 (Int.toNat (i : Int))) (v := fat (vat aG 2 (Int.toNat (i : Int))) 0) rfl (fa_pl Fd44_0 Sz3 (Sl.pl (i := (i : Int)) (H.os 0) (by omega) (by omega)))) ?_
  refine d_q rfl (fun w' H => x_ld (p := fat (vat aG 2 (Int.toNat (i : Int))) 0) (v := I ((aq.getD i default).lo)) rfl (ld_sc Sc3 (At.mono (Span_at0 (H.os 0) (i := (i : Int)) (by omega) (by omega)) (H.ol 0)))) ?_
  refine d_q rfl (fun w' H => x_cmp (kd := .i64) (a := ah.getD i 0) (b := (aq.getD i default).lo) (r := decide ((ah.getD i 0) < ((aq.getD i default).lo))) rfl rfl rfl) ?_
  refine d_q rfl (fun w' H => x_mv (v := B (decide ((ah.getD i 0) < ((aq.getD i default).lo)))) rfl) ?_
  refine d_qg (!(decide ((ah.getD i 0) < ((aq.getD i default).lo)))) rfl (gy_f rfl) (fun hg => (fun w' H => x_fa (a := Pq ap) (v := Pq ap) rfl (fa_blk (o := 0) Fd30_0 Sz28))) ?_
  refine d_qg (!(decide ((ah.getD i 0) < ((aq.getD i default).lo)))) rfl (gy_f rfl) (fun hg => (fun w' H => x_ld (p := Pq ap) (v := am) (gd_of (c := !(decide ((ah.getD i 0) < ((aq.getD i default).lo)))) hg (Pq ap)) (ldb_sc Sc28 (H.bl 2) rfl))) ?_
  refine d_qg (!(decide ((ah.getD i 0) < ((aq.getD i default).lo)))) rfl (gy_f rfl) (fun hg => (fun w' H => x_mv (v := I (i : Int)) rfl)) ?_
  refine d_qg (!(decide ((ah.getD i 0) < ((aq.getD i default).lo)))) rfl (gy_f rfl) (fun hg => (fun w' H => x_ix (a := am) (b := I (i : Int)) (v := vat am 1 (Int.toNat (i : Int))) (gd_of (c := !(decide ((ah.getD i 0) < ((aq.getD i default).lo)))) hg (am)) (gd_of (c := !(decide ((ah.getD i 0) < ((aq.getD i default).lo)))) hg (I (i : Int))) (Sl.ix (α := Int) T28.und T28.size (H.os 8) (by first | omega | (have aE := hg; simp at aE; omega)) (by first | omega | (have aE := hg; simp at aE; omega))))) ?_
  refine d_qg (!(decide ((ah.getD i 0) < ((aq.getD i default).lo)))) rfl (gy_f rfl) (fun hg => (fun w' H => x_ld (p := vat am 1 (Int.toNat (i : Int))) (v := I (ah.getD i 0)) (gd_of (c := !(decide ((ah.getD i 0) < ((aq.getD i default).lo)))) hg (vat am 1 (Int.toNat (i : Int)))) (ld_sc Sc3 (At.mono (Int_at (H.os 8) (i := (i : Int)) (by first | omega | (have aE := hg; simp at aE; omega)) (by first | omega | (have aE := hg; simp at aE; omega))) (H.ol 8))))) ?_
  refine d_qg (!(decide ((ah.getD i 0) < ((aq.getD i default).lo)))) rfl (gy_f rfl) (fun hg => (fun w' H => x_mv (v := aG) rfl)) ?_
  refine d_qg (!(decide ((ah.getD i 0) < ((aq.getD i default).lo)))) rfl (gy_f rfl) (fun hg => (fun w' H => x_mv (v := I (i : Int)) rfl)) ?_
  refine d_qg (!(decide ((ah.getD i 0) < ((aq.getD i default).lo)))) rfl (gy_f rfl) (fun hg => (fun w' H => x_ix (a := aG) (b := I (i : Int)) (v := vat aG 2 (Int.toNat (i : Int))) (gd_of (c := !(decide ((ah.getD i 0) < ((aq.getD i default).lo)))) hg (aG)) (gd_of (c := !(decide ((ah.getD i 0) < ((aq.getD i default).lo)))) hg (I (i : Int))) (Sl.ix (α := Span) T52.und T52.size (H.os 0) (by first | omega | (have aE := hg; simp at aE; omega)) (by first | omega | (have aE := hg; simp at aE; omega))))) ?_
  refine d_qg (!(decide ((ah.getD i 0) < ((aq.getD i default).lo)))) rfl (gy_f rfl) (fun hg => (fun w' H => x_fa (a := vat aG 2 (Int.toNat (i : Int))) (v := fat (vat aG 2 (Int.toNat (i : Int))) 1) (gd_of (c := !(decide ((ah.getD i 0) < ((aq.getD i default).lo)))) hg (vat aG 2 (Int.toNat (i : Int)))) (fa_pl Fd44_1 Sz3 (Sl.pl (i := (i : Int)) (H.os 0) (by first | omega | (have aE := hg; simp at aE; omega)) (by first | omega | (have aE := hg; simp at aE; omega)))))) ?_
  refine d_qg (!(decide ((ah.getD i 0) < ((aq.getD i default).lo)))) rfl (gy_f rfl) (fun hg => (fun w' H => x_ld (p := fat (vat aG 2 (Int.toNat (i : Int))) 1) (v := I ((aq.getD i default).hi)) (gd_of (c := !(decide ((ah.getD i 0) < ((aq.getD i default).lo)))) hg (fat (vat aG 2 (Int.toNat (i : Int))) 1)) (ld_sc Sc3 (At.mono (Span_at1 (H.os 0) (i := (i : Int)) (by first | omega | (have aE := hg; simp at aE; omega)) (by first | omega | (have aE := hg; simp at aE; omega))) (H.ol 0))))) ?_
  refine d_qg (!(decide ((ah.getD i 0) < ((aq.getD i default).lo)))) rfl (gy_f rfl) (fun hg => (fun w' H => x_cmp (kd := .i64) (a := ah.getD i 0) (b := (aq.getD i default).hi) (r := decide (((aq.getD i default).hi) < (ah.getD i 0))) (gd_of (c := !(decide ((ah.getD i 0) < ((aq.getD i default).lo)))) hg (I (ah.getD i 0))) (gd_of (c := !(decide ((ah.getD i 0) < ((aq.getD i default).lo)))) hg (I ((aq.getD i default).hi))) rfl)) ?_
  refine d_q rfl (fun w' H => x_por (b := decide ((ah.getD i 0) < ((aq.getD i default).lo))) (r := decide (((aq.getD i default).hi) < (ah.getD i 0))) rfl rfl (fun hb => gd_of (c := !(decide ((ah.getD i 0) < ((aq.getD i default).lo)))) (by first | exact hb | (rw [hb]; rfl) | simp_all) (B (decide (((aq.getD i default).hi) < (ah.getD i 0)))))) ?_
  refine d_nil ?_
  refine W.cond ((decide ((ah.getD i 0) < ((aq.getD i default).lo))) || (decide (((aq.getD i default).hi) < (ah.getD i 0)))) rfl (fun a6 => ?_) (fun a6 => ?_)
  ·replace hM := M.e_t hM a6
   refine W.seq ?_
   refine W.region rfl ?_
   refine zA (B false) rfl ?_
   refine s_nil ?_
   refine W.ret ?_
   have bE := M.e_inr hM aZ
   subst bE
   replace hM := bh
   try dsimp only at hM
   have aP := M.e_pure hM
   exact ⟨_, resE_tmp rfl, ⟨false, aP, rfl, (H.pk [])⟩⟩
  replace hM := M.e_f hM a6
  refine W.skip ?_
  refine W.region rfl ?_
  refine zM (I (i : Int)) rfl ?_
  refine zR (i : Int) 1 ((i : Int) + 1) rfl rfl rfl (by omega) ?_
  refine zA (I ((i : Int) + 1)) rfl ?_
  refine s_nil ?_
  exact ⟨bB, bC, i + 1, _, upds_of _ _ ⟨rfl, rfl, rfl, rfl, rfl, trivial⟩, M.e_inl hM aZ, H⟩
 replace hM := M.e_f hM aT
 simp only [qy1, qy2, qy3, qy4, qy5, qy6, ne_eq, qy7] at aT
 refine W.exit ?_
 have bF := M.e_inr hM aZ
 subst bF
 replace hM := bh
 try dsimp only at hM
 refine W.seq ?_
 refine W.seq ?_
 refine W.region rfl ?_
 refine zA (I 0) rfl ?_
 refine s_nil ?_
 refine W.block ?_
 obtain ⟨bG, a7, a8⟩ := M.e_bind hM
 obtain ⟨bA, a7⟩ := M.e_iter a7
 refine W.loop (fun m σ W => ∃ (i2 : Nat) (ρ : Env), σ = upds ρ [(3, Pq aH), (4, Pq ap), (5, aJ), (11, I (i2 : Int))] /\ M.iterN (zaz aM aK aa ah ab r3) m i2 = some bG /\ St w W [cOwn (α := Span) 44 aG aq, cOwn (α := Int) 3 aJ r3, cBlk ap [am, ay] 30, cBlk aH [aw, ax, au] 27, cOwn (α := Raw 1) 39 aw aQ, cRo aR, cOwn (α := Mrk) 46 ax aK, cOwn (α := Rch) 56 au aa, cOwn (α := Int) 3 am ah, cOwn (α := Int) 3 ay ab] R) ?_ ?_
 ·exact ⟨_, 0, _, upds_of _ _ ⟨rfl, rfl, rfl, rfl, trivial⟩, a7, H⟩
 rintro cv σ cw ⟨i2, ρ, rfl, bj, H⟩
 obtain ⟨bH, bI, cx, hM, aW⟩ := M.e_iterN bj
 simp only [zaz] at hM
 clear bj
 refine W.seq ?_
 refine W.seq ?_
 refine W.region rfl ?_
 refine zM (I (i2 : Int)) rfl ?_
 refine s_val (x_fa (a := Pq aH) (v := Oq aH 2) rfl (fa_blk (o := 0) Fd27_2 Sz25)) ?_
 refine s_val (x_ld (p := Oq aH 2) (v := au) rfl (ldb_sc Sc25 (H.bl 3) rfl)) ?_
 have cy := ((H.os 7)).len_le
 refine s_val (x_lenS T25.und rfl (H.os 7)) ?_
 refine zC (i2 : Int) (aa.length : Int) (decide ((i2 : Int) < (aa.length : Int))) rfl rfl rfl ?_
 refine s_nil ?_
 refine W.cond (decide ((i2 : Int) < (aa.length : Int))) rfl (fun aU => ?_) (fun aU => ?_)
 ·replace hM := M.e_t hM aU
  simp only [qy1, qy2, qy3, qy4, qy5, qy6, ne_eq, qy7] at aU
  refine W.skip ?_
  refine W.seq ?_
  refine W.block ?_
  refine W.seq ?_
  refine W.region rfl ?_
  refine s_val (x_fa (a := Pq aH) (v := Oq aH 2) rfl (fa_blk (o := 0) Fd27_2 Sz25)) ?_
  refine s_val (x_ld (p := Oq aH 2) (v := au) rfl (ldb_sc Sc25 (H.bl 3) rfl)) ?_
  refine zM (I (i2 : Int)) rfl ?_
  obtain ⟨bJ, hM⟩ := M.e_grd hM
  simp only [Bool.and_eq_true, decide_eq_true_eq] at bJ
  refine s_val (x_ix (a := au) (b := I (i2 : Int)) (v := vat au 5 (Int.toNat (i2 : Int))) rfl rfl (Sl.ix (α := Rch) T25.und T25.size (H.os 7) (by omega) (by omega))) ?_
  refine s_val (x_ld (p := vat au 5 (Int.toNat (i2 : Int))) (v := .agg #[I ((aa.getD i2 default).up), I ((aa.getD i2 default).down), I ((aa.getD i2 default).lo), I ((aa.getD i2 default).hi), B ((aa.getD i2 default).narrow)]) rfl (ld_ag Ag56 Sz56 (At.mono (Rch_atA (H.os 7) (i := (i2 : Int)) (by omega) (by omega)) (H.ol 7)))) ?_
  refine t_alloc (cs := [I 0, I 0, I 0, I 0, B false]) H Al56 rfl ?_
  intro ao cz H
  refine t_sw 0 0 [I ((aa.getD i2 default).up), I ((aa.getD i2 default).down), I ((aa.getD i2 default).lo), I ((aa.getD i2 default).hi), B ((aa.getD i2 default).narrow)] (.agg #[I ((aa.getD i2 default).up), I ((aa.getD i2 default).down), I ((aa.getD i2 default).lo), I ((aa.getD i2 default).hi), B ((aa.getD i2 default).narrow)]) H rfl rfl Sz56 rfl rfl rfl rfl ?_
  intro cA H
  refine s_nil ?_
  refine W.seq ?_
  refine W.draw (fun W => St w W [cBlk ao [I ((aa.getD i2 default).up), I ((aa.getD i2 default).down), I ((aa.getD i2 default).lo), I ((aa.getD i2 default).hi), B ((aa.getD i2 default).narrow)] 56, cOwn (α := Span) 44 aG aq, cOwn (α := Int) 3 aJ r3, cBlk ap [am, ay] 30, cBlk aH [aw, ax, au] 27, cOwn (α := Raw 1) 39 aw aQ, cRo aR, cOwn (α := Mrk) 46 ax aK, cOwn (α := Rch) 56 au aa, cOwn (α := Int) 3 am ah, cOwn (α := Int) 3 ay ab] R) [(0, true), (1, true), (2, true), (3, true), (4, true), (5, true), (6, true), (7, true), (8, true), (9, true), (10, true), (11, true), (12, true), (13, true), (14, true), (15, true), (16, true), (17, true), (18, true), (19, true), (20, true), (21, true), (22, true), (23, true), (24, true), (25, true), (26, true), (27, false), (28, true), (29, true), (30, true), (31, true), (32, true)] mixed (by decide +kernel) rfl ?_
  intro cB aE
  replace H := H.ext aE
  clear aE
  refine ⟨(H.pk [0, 1, 2, 3, 4, 5, 6, 7, 8, 9, 10]), ?_⟩
  refine d_q rfl (fun w' H => x_ld (p := Pq aH) (v := .agg #[aw, ax, au]) rfl (ldb_ag (ds := [aw, ax, au]) Ag27 Sz27 (H.bl 4) rfl rfl)) ?_
  refine d_q rfl (fun w' H => x_mv (v := I (i2 : Int)) rfl) ?_
  refine d_q rfl (fun w' H => x_fa (a := Pq ap) (v := Pq ap) rfl (fa_blk (o := 0) Fd30_0 Sz28)) ?_
  refine d_q rfl (fun w' H => x_ld (p := Pq ap) (v := am) rfl (ldb_sc Sc28 (H.bl 3) rfl)) ?_
  refine d_q rfl (fun w' H => x_fa (a := Pq ao) (v := Pq ao) rfl (fa_blk (o := 0) Fd56_0 Sz3)) ?_
  refine d_q rfl (fun w' H => x_ld (p := Pq ao) (v := I ((aa.getD i2 default).up)) rfl (ldb_sc Sc3 (H.bl 0) rfl)) ?_
  obtain ⟨bK, hM⟩ := M.e_grd hM
  simp only [Bool.and_eq_true, decide_eq_true_eq] at bK
  refine d_q rfl (fun w' H => x_ix (a := am) (b := I ((aa.getD i2 default).up)) (v := vat am 1 (Int.toNat ((aa.getD i2 default).up))) rfl rfl (Sl.ix (α := Int) T28.und T28.size (H.os 9) (by omega) (by omega))) ?_
  refine d_q rfl (fun w' H => x_ld (p := vat am 1 (Int.toNat ((aa.getD i2 default).up))) (v := I (ah.getD (Int.toNat ((aa.getD i2 default).up)) 0)) rfl (ld_sc Sc3 (At.mono (Int_at (H.os 9) (i := (aa.getD i2 default).up) (by omega) (by omega)) (H.ol 9)))) ?_
  refine d_q rfl (fun w' H => x_fa (a := Pq ap) (v := Pq ap) rfl (fa_blk (o := 0) Fd30_0 Sz28)) ?_
  refine d_q rfl (fun w' H => x_ld (p := Pq ap) (v := am) rfl (ldb_sc Sc28 (H.bl 3) rfl)) ?_
  refine d_q rfl (fun w' H => x_fa (a := Pq ao) (v := Oq ao 1) rfl (fa_blk (o := 0) Fd56_1 Sz3)) ?_
  refine d_q rfl (fun w' H => x_ld (p := Oq ao 1) (v := I ((aa.getD i2 default).down)) rfl (ldb_sc Sc3 (H.bl 0) rfl)) ?_
  obtain ⟨bL, hM⟩ := M.e_grd hM
  simp only [Bool.and_eq_true, decide_eq_true_eq] at bL
  refine d_q rfl (fun w' H => x_ix (a := am) (b := I ((aa.getD i2 default).down)) (v := vat am 1 (Int.toNat ((aa.getD i2 default).down))) rfl rfl (Sl.ix (α := Int) T28.und T28.size (H.os 9) (by omega) (by omega))) ?_
  refine d_q rfl (fun w' H => x_ld (p := vat am 1 (Int.toNat ((aa.getD i2 default).down))) (v := I (ah.getD (Int.toNat ((aa.getD i2 default).down)) 0)) rfl (ld_sc Sc3 (At.mono (Int_at (H.os 9) (i := (aa.getD i2 default).down) (by omega) (by omega)) (H.ol 9)))) ?_
  refine d_q rfl (fun w' H => x_fa (a := Pq ap) (v := Oq ap 1) rfl (fa_blk (o := 0) Fd30_1 Sz28)) ?_
  refine d_q rfl (fun w' H => x_ld (p := Oq ap 1) (v := ay) rfl (ldb_sc Sc28 (H.bl 3) rfl)) ?_
  refine d_q rfl (fun w' H => x_fa (a := Pq ao) (v := Pq ao) rfl (fa_blk (o := 0) Fd56_0 Sz3)) ?_
  refine d_q rfl (fun w' H => x_ld (p := Pq ao) (v := I ((aa.getD i2 default).up)) rfl (ldb_sc Sc3 (H.bl 0) rfl)) ?_
  obtain ⟨bM, hM⟩ := M.e_grd hM
  simp only [Bool.and_eq_true, decide_eq_true_eq] at bM
  refine d_q rfl (fun w' H => x_ix (a := ay) (b := I ((aa.getD i2 default).up)) (v := vat ay 1 (Int.toNat ((aa.getD i2 default).up))) rfl rfl (Sl.ix (α := Int) T28.und T28.size (H.os 10) (by omega) (by omega))) ?_
  refine d_q rfl (fun w' H => x_ld (p := vat ay 1 (Int.toNat ((aa.getD i2 default).up))) (v := I (ab.getD (Int.toNat ((aa.getD i2 default).up)) 0)) rfl (ld_sc Sc3 (At.mono (Int_at (H.os 10) (i := (aa.getD i2 default).up) (by omega) (by omega)) (H.ol 10)))) ?_
  refine d_q rfl (fun w' H => x_fa (a := Pq ap) (v := Oq ap 1) rfl (fa_blk (o := 0) Fd30_1 Sz28)) ?_
  refine d_q rfl (fun w' H => x_ld (p := Oq ap 1) (v := ay) rfl (ldb_sc Sc28 (H.bl 3) rfl)) ?_
  refine d_q rfl (fun w' H => x_fa (a := Pq ao) (v := Oq ao 1) rfl (fa_blk (o := 0) Fd56_1 Sz3)) ?_
  refine d_q rfl (fun w' H => x_ld (p := Oq ao 1) (v := I ((aa.getD i2 default).down)) rfl (ldb_sc Sc3 (H.bl 0) rfl)) ?_
  obtain ⟨bN, hM⟩ := M.e_grd hM
  simp only [Bool.and_eq_true, decide_eq_true_eq] at bN
  refine d_q rfl (fun w' H => x_ix (a := ay) (b := I ((aa.getD i2 default).down)) (v := vat ay 1 (Int.toNat ((aa.getD i2 default).down))) rfl rfl (Sl.ix (α := Int) T28.und T28.size (H.os 10) (by omega) (by omega))) ?_
  refine d_q rfl (fun w' H => x_ld (p := vat ay 1 (Int.toNat ((aa.getD i2 default).down))) (v := I (ab.getD (Int.toNat ((aa.getD i2 default).down)) 0)) rfl (ld_sc Sc3 (At.mono (Int_at (H.os 10) (i := (aa.getD i2 default).down) (by omega) (by omega)) (H.ol 10)))) ?_
  refine d_q rfl (fun w' H => x_bld (ps := [(0, I (ah.getD (Int.toNat ((aa.getD i2 default).up)) 0)), (1, I (ah.getD (Int.toNat ((aa.getD i2 default).down)) 0)), (2, I (ab.getD (Int.toNat ((aa.getD i2 default).up)) 0)), (3, I (ab.getD (Int.toNat ((aa.getD i2 default).down)) 0))]) (zs := [I 0, I 0, I 0, I 0]) (L' := [I (ah.getD (Int.toNat ((aa.getD i2 default).up)) 0), I (ah.getD (Int.toNat ((aa.getD i2 default).down)) 0), I (ab.getD (Int.toNat ((aa.getD i2 default).up)) 0), I (ab.getD (Int.toNat ((aa.getD i2 default).down)) 0)]) rfl Try.underlying64 Al64 rfl (Bd64 Try.underlying64) (.cons (cs := [I (ah.getD (Int.toNat ((aa.getD i2 default).up)) 0)]) rfl rfl rfl rfl rfl <| .cons (cs := [I (ah.getD (Int.toNat ((aa.getD i2 default).down)) 0)]) rfl rfl rfl rfl rfl <| .cons (cs := [I (ab.getD (Int.toNat ((aa.getD i2 default).up)) 0)]) rfl rfl rfl rfl rfl <| .cons (cs := [I (ab.getD (Int.toNat ((aa.getD i2 default).down)) 0)]) rfl rfl rfl rfl rfl <| .nil)) ?_
  refine d_l rfl ?_
  obtain ⟨cC, bO, hM⟩ := M.e_bind hM
  refine s_call cf15 [.agg #[aw, ax, au], I (i2 : Int), .agg #[I (ah.getD (Int.toNat ((aa.getD i2 default).up)) 0), I (ah.getD (Int.toNat ((aa.getD i2 default).down)) 0), I (ab.getD (Int.toNat ((aa.getD i2 default).up)) 0), I (ab.getD (Int.toNat ((aa.getD i2 default).down)) 0)]] rfl (zbI aM aK aa (i2 : Int) (⟨(ah.getD (Int.toNat ((aa.getD i2 default).up)) 0 : Int), (ah.getD (Int.toNat ((aa.getD i2 default).down)) 0 : Int), (ab.getD (Int.toNat ((aa.getD i2 default).up)) 0 : Int), (ab.getD (Int.toNat ((aa.getD i2 default).down)) 0 : Int)⟩ : Cas) (Reads.sup (rdo 5) (Reads.of (k := 6) rfl roLe)) (rowSl rfl (H.get (k := 5) rfl) (roLe _ (H.get (k := 6) rfl)) aO) (rdo 7) (H.os 7) (rdo 8) (H.os 8) bO _ (H.gt 11)) ?_
  rintro vq cD ⟨ac, az, bP, hvq, aF⟩
  subst bP
  subst vq
  try dsimp only at hM
  replace H := H.bk aF
  clear aF
  refine s_nil ⟨(H.pk [0, 1, 2, 3, 4, 5, 6, 7, 8, 9, 10]), ?_⟩
  refine d_q rfl (fun w' H => x_mv (v := .tuple #[I ac, I az]) rfl) ?_
  refine d_q rfl (fun w' H => x_ext (vs := [I ac, I az]) (v := I ac) rfl rfl) ?_
  refine d_q rfl (fun w' H => x_ext (vs := [I ac, I az]) (v := I az) rfl rfl) ?_
  refine d_q rfl (fun w' H => x_as (v := I ac) rfl) ?_
  refine d_q rfl (fun w' H => x_as (v := I az) rfl) ?_
  refine d_nil ?_
  refine W.seq ?_
  refine W.region rfl ?_
  refine s_val (x_ld (p := Pq aH) (v := .agg #[aw, ax, au]) rfl (ldb_ag (ds := [aw, ax, au]) Ag27 Sz27 (H.bl 4) rfl rfl)) ?_
  refine zM aJ rfl ?_
  refine zM (I (i2 : Int)) rfl ?_
  obtain ⟨cE, bQ, hM⟩ := M.e_bind hM
  refine s_call cf13 [.agg #[aw, ax, au], aJ, I (i2 : Int)] rfl (zb2 aM aK aa r3 (i2 : Int) (Reads.sup (rdo 5) (Reads.of (k := 6) rfl roLe)) (rowSl rfl (H.get (k := 5) rfl) (roLe _ (H.get (k := 6) rfl)) aO) (rdo 7) (H.os 7) (rdo 8) (H.os 8) (rdo 2) (H.os 2) bQ _ (H.gt 11)) ?_
  rintro vq cF ⟨aB, aI, aC, bR, hvq, aF⟩
  subst bR
  subst vq
  try dsimp only at hM
  replace H := H.bk aF
  clear aF
  refine zM (.tuple #[.agg #[I aB, I aI], I aC]) rfl ?_
  refine zX [.agg #[I aB, I aI], I aC] (.agg #[I aB, I aI]) rfl rfl ?_
  refine zX [.agg #[I aB, I aI], I aC] (I aC) rfl rfl ?_
  refine t_alloc (cs := [I 0, I 0]) H Al44 rfl ?_
  intro aN cG H
  refine t_sw 0 0 [I aB, I aI] (.agg #[I aB, I aI]) H rfl rfl Sz44 rfl rfl rfl rfl ?_
  intro cH H
  refine zA (I aC) rfl ?_
  refine s_nil ?_
  refine W.seq ?_
  refine W.seq ?_
  refine W.region rfl ?_
  refine zM (I az) rfl ?_
  refine zC az 0 (az != 0) rfl rfl rfl ?_
  refine zM (B (az != 0)) rfl ?_
  refine g_val (!(az != 0)) (gy_f rfl) (fun hg => x_mv (v := I aC) rfl) ?_
  refine g_val (!(az != 0)) (gy_f rfl) (fun hg => x_cmp (kd := .i64) (a := aC) (b := 0) (r := aC != 0) (gd_of (c := !(az != 0)) hg (I aC)) rfl rfl) ?_
  refine s_val (x_por (b := az != 0) (r := aC != 0) rfl rfl (fun hb => gd_of (c := !(az != 0)) (by first | exact hb | (rw [hb]; rfl) | simp_all) (B (aC != 0)))) ?_
  refine zM (B ((az != 0) || (aC != 0))) rfl ?_
  refine g_val (!((az != 0) || (aC != 0))) (gy_f rfl) (fun hg => x_mv (v := I ac) rfl) ?_
  refine g_val (!((az != 0) || (aC != 0))) (gy_f rfl) (fun hg => x_fa (a := Pq aN) (v := Pq aN) rfl (fa_blk (o := 0) Fd44_0 Sz3)) ?_
  refine g_val (!((az != 0) || (aC != 0))) (gy_f rfl) (fun hg => x_ld (p := Pq aN) (v := I aB) (gd_of (c := !((az != 0) || (aC != 0))) hg (Pq aN)) (ldb_sc Sc3 (H.bl 0) rfl)) ?_
  refine g_val (!((az != 0) || (aC != 0))) (gy_f rfl) (fun hg => x_cmp (kd := .i64) (a := ac) (b := aB) (r := decide (ac < aB)) (gd_of (c := !((az != 0) || (aC != 0))) hg (I ac)) (gd_of (c := !((az != 0) || (aC != 0))) hg (I aB)) rfl) ?_
  refine s_val (x_por (b := ((az != 0) || (aC != 0))) (r := decide (ac < aB)) rfl rfl (fun hb => gd_of (c := !((az != 0) || (aC != 0))) (by first | exact hb | (rw [hb]; rfl) | simp_all) (B (decide (ac < aB))))) ?_
  refine zM (B (((az != 0) || (aC != 0)) || (decide (ac < aB)))) rfl ?_
  refine g_val (!(((az != 0) || (aC != 0)) || (decide (ac < aB)))) (gy_f rfl) (fun hg => x_mv (v := I ac) rfl) ?_
  refine g_val (!(((az != 0) || (aC != 0)) || (decide (ac < aB)))) (gy_f rfl) (fun hg => x_fa (a := Pq aN) (v := Oq aN 1) rfl (fa_blk (o := 0) Fd44_1 Sz3)) ?_
  refine g_val (!(((az != 0) || (aC != 0)) || (decide (ac < aB)))) (gy_f rfl) (fun hg => x_ld (p := Oq aN 1) (v := I aI) (gd_of (c := !(((az != 0) || (aC != 0)) || (decide (ac < aB)))) hg (Oq aN 1)) (ldb_sc Sc3 (H.bl 0) rfl)) ?_
  refine g_val (!(((az != 0) || (aC != 0)) || (decide (ac < aB)))) (gy_f rfl) (fun hg => x_cmp (kd := .i64) (a := ac) (b := aI) (r := decide (aI < ac)) (gd_of (c := !(((az != 0) || (aC != 0)) || (decide (ac < aB)))) hg (I ac)) (gd_of (c := !(((az != 0) || (aC != 0)) || (decide (ac < aB)))) hg (I aI)) rfl) ?_
  refine s_val (x_por (b := (((az != 0) || (aC != 0)) || (decide (ac < aB)))) (r := decide (aI < ac)) rfl rfl (fun hb => gd_of (c := !(((az != 0) || (aC != 0)) || (decide (ac < aB)))) (by first | exact hb | (rw [hb]; rfl) | simp_all) (B (decide (aI < ac))))) ?_
  refine zM (B ((((az != 0) || (aC != 0)) || (decide (ac < aB))) || (decide (aI < ac)))) rfl ?_
  refine g_val (!((((az != 0) || (aC != 0)) || (decide (ac < aB))) || (decide (aI < ac)))) (gy_f rfl) (fun hg => x_fa (a := Pq aN) (v := Pq aN) rfl (fa_blk (o := 0) Fd44_0 Sz3)) ?_
  refine g_val (!((((az != 0) || (aC != 0)) || (decide (ac < aB))) || (decide (aI < ac)))) (gy_f rfl) (fun hg => x_ld (p := Pq aN) (v := I aB) (gd_of (c := !((((az != 0) || (aC != 0)) || (decide (ac < aB))) || (decide (aI < ac)))) hg (Pq aN)) (ldb_sc Sc3 (H.bl 0) rfl)) ?_
  refine g_val (!((((az != 0) || (aC != 0)) || (decide (ac < aB))) || (decide (aI < ac)))) (gy_f rfl) (fun hg => x_cmp (kd := .i64) (a := aB) (b := 0) (r := decide (aB < 0)) (gd_of (c := !((((az != 0) || (aC != 0)) || (decide (ac < aB))) || (decide (aI < ac)))) hg (I aB)) rfl rfl) ?_
  refine s_val (x_por (b := ((((az != 0) || (aC != 0)) || (decide (ac < aB))) || (decide (aI < ac)))) (r := decide (aB < 0)) rfl rfl (fun hb => gd_of (c := !((((az != 0) || (aC != 0)) || (decide (ac < aB))) || (decide (aI < ac)))) (by first | exact hb | (rw [hb]; rfl) | simp_all) (B (decide (aB < 0))))) ?_
  refine s_nil ?_
  refine W.cond (((((az != 0) || (aC != 0)) || (decide (ac < aB))) || (decide (aI < ac))) || (decide (aB < 0))) rfl (fun ba => ?_) (fun ba => ?_)
  ·replace hM := M.e_t hM ba
   refine W.seq ?_
   refine W.region rfl ?_
   refine zA (B false) rfl ?_
   refine s_nil ?_
   replace H := H.pk [2, 3, 4, 5, 6, 7, 8, 9, 10, 11]
   refine W.ret ?_
   have bS := M.e_inr hM aW
   subst bS
   replace hM := a8
   try dsimp only at hM
   have aP := M.e_pure hM
   exact ⟨_, resE_tmp rfl, ⟨false, aP, rfl, (H.pk [])⟩⟩
  replace hM := M.e_f hM ba
  refine W.skip ?_
  refine W.seq ?_
  refine W.draw (fun W => St w W [cBlk aN [I aB, I aI] 44, cBlk ao [I ((aa.getD i2 default).up), I ((aa.getD i2 default).down), I ((aa.getD i2 default).lo), I ((aa.getD i2 default).hi), B ((aa.getD i2 default).narrow)] 56, cOwn (α := Span) 44 aG aq, cOwn (α := Int) 3 aJ r3, cBlk ap [am, ay] 30, cBlk aH [aw, ax, au] 27, cOwn (α := Raw 1) 39 aw aQ, cRo aR, cOwn (α := Mrk) 46 ax aK, cOwn (α := Rch) 56 au aa, cOwn (α := Int) 3 am ah, cOwn (α := Int) 3 ay ab] R) [(0, true), (1, true), (2, true), (3, true), (4, true), (5, true), (6, true), (7, true), (8, true), (9, true), (10, true), (11, true), (12, true), (13, true), (14, true), (15, true), (16, true), (17, true), (18, true), (19, true), (20, true), (21, true), (22, true), (23, true), (24, true), (25, true), (26, true), (27, true)] mixed (by decide +kernel) rfl ?_
  intro cI aE
  replace H := H.ext aE
  clear aE
  refine ⟨(H.pk [0, 1, 2, 3, 4, 5, 6, 7, 8, 9, 10, 11]), ?_⟩
  refine d_q rfl (fun w' H => x_fa (a := Pq ap) (v := Oq ap 1) rfl (fa_blk (o := 0) Fd30_1 Sz28)) ?_
  refine d_q rfl (fun w' H => x_ld (p := Oq ap 1) (v := ay) rfl (ldb_sc Sc28 (H.bl 4) rfl)) ?_
  refine d_q rfl (fun w' H => x_fa (a := Pq ao) (v := Pq ao) rfl (fa_blk (o := 0) Fd56_0 Sz3)) ?_
  refine d_q rfl (fun w' H => x_ld (p := Pq ao) (v := I ((aa.getD i2 default).up)) rfl (ldb_sc Sc3 (H.bl 1) rfl)) ?_
  refine d_q rfl (fun w' H => x_ix (a := ay) (b := I ((aa.getD i2 default).up)) (v := vat ay 1 (Int.toNat ((aa.getD i2 default).up))) rfl rfl (Sl.ix (α := Int) T28.und T28.size (H.os 11) (by omega) (by omega))) ?_
  refine d_q rfl (fun w' H => x_ld (p := vat ay 1 (Int.toNat ((aa.getD i2 default).up))) (v := I (ab.getD (Int.toNat ((aa.getD i2 default).up)) 0)) rfl (ld_sc Sc3 (At.mono (Int_at (H.os 11) (i := (aa.getD i2 default).up) (by omega) (by omega)) (H.ol 11)))) ?_
  refine d_q rfl (fun w' H => x_fa (a := Pq ap) (v := Oq ap 1) rfl (fa_blk (o := 0) Fd30_1 Sz28)) ?_
  refine d_q rfl (fun w' H => x_ld (p := Oq ap 1) (v := ay) rfl (ldb_sc Sc28 (H.bl 4) rfl)) ?_
  refine d_q rfl (fun w' H => x_fa (a := Pq ao) (v := Oq ao 1) rfl (fa_blk (o := 0) Fd56_1 Sz3)) ?_
  refine d_q rfl (fun w' H => x_ld (p := Oq ao 1) (v := I ((aa.getD i2 default).down)) rfl (ldb_sc Sc3 (H.bl 1) rfl)) ?_
  refine d_q rfl (fun w' H => x_ix (a := ay) (b := I ((aa.getD i2 default).down)) (v := vat ay 1 (Int.toNat ((aa.getD i2 default).down))) rfl rfl (Sl.ix (α := Int) T28.und T28.size (H.os 11) (by omega) (by omega))) ?_
  refine d_q rfl (fun w' H => x_ld (p := vat ay 1 (Int.toNat ((aa.getD i2 default).down))) (v := I (ab.getD (Int.toNat ((aa.getD i2 default).down)) 0)) rfl (ld_sc Sc3 (At.mono (Int_at (H.os 11) (i := (aa.getD i2 default).down) (by omega) (by omega)) (H.ol 11)))) ?_
  refine d_q rfl (fun w' H => x_min (kd := .i64) (a := ab.getD (Int.toNat ((aa.getD i2 default).up)) 0) (b := ab.getD (Int.toNat ((aa.getD i2 default).down)) 0) rfl rfl) ?_
  refine d_q rfl (fun w' H => x_fa (a := Pq ap) (v := Oq ap 1) rfl (fa_blk (o := 0) Fd30_1 Sz28)) ?_
  refine d_q rfl (fun w' H => x_ld (p := Oq ap 1) (v := ay) rfl (ldb_sc Sc28 (H.bl 4) rfl)) ?_
  refine d_q rfl (fun w' H => x_fa (a := Pq ao) (v := Pq ao) rfl (fa_blk (o := 0) Fd56_0 Sz3)) ?_
  refine d_q rfl (fun w' H => x_ld (p := Pq ao) (v := I ((aa.getD i2 default).up)) rfl (ldb_sc Sc3 (H.bl 1) rfl)) ?_
  refine d_q rfl (fun w' H => x_ix (a := ay) (b := I ((aa.getD i2 default).up)) (v := vat ay 1 (Int.toNat ((aa.getD i2 default).up))) rfl rfl (Sl.ix (α := Int) T28.und T28.size (H.os 11) (by omega) (by omega))) ?_
  refine d_q rfl (fun w' H => x_ld (p := vat ay 1 (Int.toNat ((aa.getD i2 default).up))) (v := I (ab.getD (Int.toNat ((aa.getD i2 default).up)) 0)) rfl (ld_sc Sc3 (At.mono (Int_at (H.os 11) (i := (aa.getD i2 default).up) (by omega) (by omega)) (H.ol 11)))) ?_
  refine d_q rfl (fun w' H => x_fa (a := Pq ap) (v := Oq ap 1) rfl (fa_blk (o := 0) Fd30_1 Sz28)) ?_
  refine d_q rfl (fun w' H => x_ld (p := Oq ap 1) (v := ay) rfl (ldb_sc Sc28 (H.bl 4) rfl)) ?_
  refine d_q rfl (fun w' H => x_fa (a := Pq ao) (v := Oq ao 1) rfl (fa_blk (o := 0) Fd56_1 Sz3)) ?_
  refine d_q rfl (fun w' H => x_ld (p := Oq ao 1) (v := I ((aa.getD i2 default).down)) rfl (ldb_sc Sc3 (H.bl 1) rfl)) ?_
  refine d_q rfl (fun w' H => x_ix (a := ay) (b := I ((aa.getD i2 default).down)) (v := vat ay 1 (Int.toNat ((aa.getD i2 default).down))) rfl rfl (Sl.ix (α := Int) T28.und T28.size (H.os 11) (by omega) (by omega))) ?_
  refine d_q rfl (fun w' H => x_ld (p := vat ay 1 (Int.toNat ((aa.getD i2 default).down))) (v := I (ab.getD (Int.toNat ((aa.getD i2 default).down)) 0)) rfl (ld_sc Sc3 (At.mono (Int_at (H.os 11) (i := (aa.getD i2 default).down) (by omega) (by omega)) (H.ol 11)))) ?_
  refine d_q rfl (fun w' H => x_max (kd := .i64) (a := ab.getD (Int.toNat ((aa.getD i2 default).up)) 0) (b := ab.getD (Int.toNat ((aa.getD i2 default).down)) 0) rfl rfl) ?_
  refine d_q rfl (fun w' H => x_as (v := I (min (ab.getD (Int.toNat ((aa.getD i2 default).up)) 0) (ab.getD (Int.toNat ((aa.getD i2 default).down)) 0))) rfl) ?_
  refine d_q rfl (fun w' H => x_as (v := I (max (ab.getD (Int.toNat ((aa.getD i2 default).up)) 0) (ab.getD (Int.toNat ((aa.getD i2 default).down)) 0))) rfl) ?_
  refine d_nil ?_
  refine W.seq ?_
  refine W.draw (fun W => St w W [cBlk aN [I aB, I aI] 44, cBlk ao [I ((aa.getD i2 default).up), I ((aa.getD i2 default).down), I ((aa.getD i2 default).lo), I ((aa.getD i2 default).hi), B ((aa.getD i2 default).narrow)] 56, cOwn (α := Span) 44 aG aq, cOwn (α := Int) 3 aJ r3, cBlk ap [am, ay] 30, cBlk aH [aw, ax, au] 27, cOwn (α := Raw 1) 39 aw aQ, cRo aR, cOwn (α := Mrk) 46 ax aK, cOwn (α := Rch) 56 au aa, cOwn (α := Int) 3 am ah, cOwn (α := Int) 3 ay ab] R) [(0, true), (1, true), (2, true), (3, true), (4, true), (5, true), (6, true), (7, true), (8, true), (9, true), (10, true), (11, true), (12, true), (13, true), (14, true), (15, true), (16, true), (17, false), (18, true), (19, true), (20, true), (21, true), (22, true)] mixed (by decide +kernel) rfl ?_
  intro cJ aE
  replace H := H.ext aE
  clear aE
  refine ⟨(H.pk [0, 1, 2, 3, 4, 5, 6, 7, 8, 9, 10, 11]), ?_⟩
  refine d_q rfl (fun w' H => x_ld (p := Pq aH) (v := .agg #[aw, ax, au]) rfl (ldb_ag (ds := [aw, ax, au]) Ag27 Sz27 (H.bl 5) rfl rfl)) ?_
  refine d_q rfl (fun w' H => x_mv (v := I (i2 : Int)) rfl) ?_
  refine d_q rfl (fun w' H => x_fa (a := Pq ap) (v := Pq ap) rfl (fa_blk (o := 0) Fd30_0 Sz28)) ?_
  refine d_q rfl (fun w' H => x_ld (p := Pq ap) (v := am) rfl (ldb_sc Sc28 (H.bl 4) rfl)) ?_
  refine d_q rfl (fun w' H => x_fa (a := Pq ao) (v := Pq ao) rfl (fa_blk (o := 0) Fd56_0 Sz3)) ?_
  refine d_q rfl (fun w' H => x_ld (p := Pq ao) (v := I ((aa.getD i2 default).up)) rfl (ldb_sc Sc3 (H.bl 1) rfl)) ?_
  refine d_q rfl (fun w' H => x_ix (a := am) (b := I ((aa.getD i2 default).up)) (v := vat am 1 (Int.toNat ((aa.getD i2 default).up))) rfl rfl (Sl.ix (α := Int) T28.und T28.size (H.os 10) (by omega) (by omega))) ?_
  refine d_q rfl (fun w' H => x_ld (p := vat am 1 (Int.toNat ((aa.getD i2 default).up))) (v := I (ah.getD (Int.toNat ((aa.getD i2 default).up)) 0)) rfl (ld_sc Sc3 (At.mono (Int_at (H.os 10) (i := (aa.getD i2 default).up) (by omega) (by omega)) (H.ol 10)))) ?_
  refine d_q rfl (fun w' H => x_fa (a := Pq ap) (v := Pq ap) rfl (fa_blk (o := 0) Fd30_0 Sz28)) ?_
  refine d_q rfl (fun w' H => x_ld (p := Pq ap) (v := am) rfl (ldb_sc Sc28 (H.bl 4) rfl)) ?_
  refine d_q rfl (fun w' H => x_fa (a := Pq ao) (v := Oq ao 1) rfl (fa_blk (o := 0) Fd56_1 Sz3)) ?_
  refine d_q rfl (fun w' H => x_ld (p := Oq ao 1) (v := I ((aa.getD i2 default).down)) rfl (ldb_sc Sc3 (H.bl 1) rfl)) ?_
  refine d_q rfl (fun w' H => x_ix (a := am) (b := I ((aa.getD i2 default).down)) (v := vat am 1 (Int.toNat ((aa.getD i2 default).down))) rfl rfl (Sl.ix (α := Int) T28.und T28.size (H.os 10) (by omega) (by omega))) ?_
  refine d_q rfl (fun w' H => x_ld (p := vat am 1 (Int.toNat ((aa.getD i2 default).down))) (v := I (ah.getD (Int.toNat ((aa.getD i2 default).down)) 0)) rfl (ld_sc Sc3 (At.mono (Int_at (H.os 10) (i := (aa.getD i2 default).down) (by omega) (by omega)) (H.ol 10)))) ?_
  refine d_q rfl (fun w' H => x_mv (v := I (max (ab.getD (Int.toNat ((aa.getD i2 default).up)) 0) (ab.getD (Int.toNat ((aa.getD i2 default).down)) 0))) rfl) ?_
  refine d_q rfl (fun w' H => x_mv (v := I (max (ab.getD (Int.toNat ((aa.getD i2 default).up)) 0) (ab.getD (Int.toNat ((aa.getD i2 default).down)) 0))) rfl) ?_
  refine d_q rfl (fun w' H => x_bld (ps := [(0, I (ah.getD (Int.toNat ((aa.getD i2 default).up)) 0)), (1, I (ah.getD (Int.toNat ((aa.getD i2 default).down)) 0)), (2, I (max (ab.getD (Int.toNat ((aa.getD i2 default).up)) 0) (ab.getD (Int.toNat ((aa.getD i2 default).down)) 0))), (3, I (max (ab.getD (Int.toNat ((aa.getD i2 default).up)) 0) (ab.getD (Int.toNat ((aa.getD i2 default).down)) 0)))]) (zs := [I 0, I 0, I 0, I 0]) (L' := [I (ah.getD (Int.toNat ((aa.getD i2 default).up)) 0), I (ah.getD (Int.toNat ((aa.getD i2 default).down)) 0), I (max (ab.getD (Int.toNat ((aa.getD i2 default).up)) 0) (ab.getD (Int.toNat ((aa.getD i2 default).down)) 0)), I (max (ab.getD (Int.toNat ((aa.getD i2 default).up)) 0) (ab.getD (Int.toNat ((aa.getD i2 default).down)) 0))]) rfl Try.underlying64 Al64 rfl (Bd64 Try.underlying64) (.cons (cs := [I (ah.getD (Int.toNat ((aa.getD i2 default).up)) 0)]) rfl rfl rfl rfl rfl <| .cons (cs := [I (ah.getD (Int.toNat ((aa.getD i2 default).down)) 0)]) rfl rfl rfl rfl rfl <| .cons (cs := [I (max (ab.getD (Int.toNat ((aa.getD i2 default).up)) 0) (ab.getD (Int.toNat ((aa.getD i2 default).down)) 0))]) rfl rfl rfl rfl rfl <| .cons (cs := [I (max (ab.getD (Int.toNat ((aa.getD i2 default).up)) 0) (ab.getD (Int.toNat ((aa.getD i2 default).down)) 0))]) rfl rfl rfl rfl rfl <| .nil)) ?_
  refine d_l rfl ?_
  obtain ⟨cK, bT, hM⟩ := M.e_bind hM
  refine s_call cf15 [.agg #[aw, ax, au], I (i2 : Int), .agg #[I (ah.getD (Int.toNat ((aa.getD i2 default).up)) 0), I (ah.getD (Int.toNat ((aa.getD i2 default).down)) 0), I (max (ab.getD (Int.toNat ((aa.getD i2 default).up)) 0) (ab.getD (Int.toNat ((aa.getD i2 default).down)) 0)), I (max (ab.getD (Int.toNat ((aa.getD i2 default).up)) 0) (ab.getD (Int.toNat ((aa.getD i2 default).down)) 0))]] rfl (zbI aM aK aa (i2 : Int) (⟨(ah.getD (Int.toNat ((aa.getD i2 default).up)) 0 : Int), (ah.getD (Int.toNat ((aa.getD i2 default).down)) 0 : Int), (max (ab.getD (Int.toNat ((aa.getD i2 default).up)) 0) (ab.getD (Int.toNat ((aa.getD i2 default).down)) 0) : Int), (max (ab.getD (Int.toNat ((aa.getD i2 default).up)) 0) (ab.getD (Int.toNat ((aa.getD i2 default).down)) 0) : Int)⟩ : Cas) (Reads.sup (rdo 6) (Reads.of (k := 7) rfl roLe)) (rowSl rfl (H.get (k := 6) rfl) (roLe _ (H.get (k := 7) rfl)) aO) (rdo 8) (H.os 8) (rdo 9) (H.os 9) bT _ (H.gt 12)) ?_
  rintro vq cL ⟨aj, ae, bU, hvq, aF⟩
  subst bU
  subst vq
  try dsimp only at hM
  replace H := H.bk aF
  clear aF
  refine s_nil ⟨(H.pk [0, 1, 2, 3, 4, 5, 6, 7, 8, 9, 10, 11]), ?_⟩
  refine d_q rfl (fun w' H => x_mv (v := .tuple #[I aj, I ae]) rfl) ?_
  refine d_q rfl (fun w' H => x_ext (vs := [I aj, I ae]) (v := I aj) rfl rfl) ?_
  refine d_q rfl (fun w' H => x_ext (vs := [I aj, I ae]) (v := I ae) rfl rfl) ?_
  refine d_q rfl (fun w' H => x_as (v := I aj) rfl) ?_
  refine d_q rfl (fun w' H => x_as (v := I ae) rfl) ?_
  refine d_nil ?_
  refine W.seq ?_
  refine W.draw (fun W => St w W [cBlk aN [I aB, I aI] 44, cBlk ao [I ((aa.getD i2 default).up), I ((aa.getD i2 default).down), I ((aa.getD i2 default).lo), I ((aa.getD i2 default).hi), B ((aa.getD i2 default).narrow)] 56, cOwn (α := Span) 44 aG aq, cOwn (α := Int) 3 aJ r3, cBlk ap [am, ay] 30, cBlk aH [aw, ax, au] 27, cOwn (α := Raw 1) 39 aw aQ, cRo aR, cOwn (α := Mrk) 46 ax aK, cOwn (α := Rch) 56 au aa, cOwn (α := Int) 3 am ah, cOwn (α := Int) 3 ay ab] R) [(0, true), (1, true), (2, true), (3, true), (4, true), (5, true), (6, true), (7, true), (8, true), (9, true), (10, true), (11, true), (12, true), (13, true), (14, true), (15, true), (16, true), (17, false), (18, true), (19, true), (20, true), (21, true), (22, true)] mixed (by decide +kernel) rfl ?_
  intro cM aE
  replace H := H.ext aE
  clear aE
  refine ⟨(H.pk [0, 1, 2, 3, 4, 5, 6, 7, 8, 9, 10, 11]), ?_⟩
  refine d_q rfl (fun w' H => x_ld (p := Pq aH) (v := .agg #[aw, ax, au]) rfl (ldb_ag (ds := [aw, ax, au]) Ag27 Sz27 (H.bl 5) rfl rfl)) ?_
  refine d_q rfl (fun w' H => x_mv (v := I (i2 : Int)) rfl) ?_
  refine d_q rfl (fun w' H => x_fa (a := Pq ap) (v := Pq ap) rfl (fa_blk (o := 0) Fd30_0 Sz28)) ?_
  refine d_q rfl (fun w' H => x_ld (p := Pq ap) (v := am) rfl (ldb_sc Sc28 (H.bl 4) rfl)) ?_
  refine d_q rfl (fun w' H => x_fa (a := Pq ao) (v := Pq ao) rfl (fa_blk (o := 0) Fd56_0 Sz3)) ?_
  refine d_q rfl (fun w' H => x_ld (p := Pq ao) (v := I ((aa.getD i2 default).up)) rfl (ldb_sc Sc3 (H.bl 1) rfl)) ?_
  refine d_q rfl (fun w' H => x_ix (a := am) (b := I ((aa.getD i2 default).up)) (v := vat am 1 (Int.toNat ((aa.getD i2 default).up))) rfl rfl (Sl.ix (α := Int) T28.und T28.size (H.os 10) (by omega) (by omega))) ?_
  refine d_q rfl (fun w' H => x_ld (p := vat am 1 (Int.toNat ((aa.getD i2 default).up))) (v := I (ah.getD (Int.toNat ((aa.getD i2 default).up)) 0)) rfl (ld_sc Sc3 (At.mono (Int_at (H.os 10) (i := (aa.getD i2 default).up) (by omega) (by omega)) (H.ol 10)))) ?_
  refine d_q rfl (fun w' H => x_fa (a := Pq ap) (v := Pq ap) rfl (fa_blk (o := 0) Fd30_0 Sz28)) ?_
  refine d_q rfl (fun w' H => x_ld (p := Pq ap) (v := am) rfl (ldb_sc Sc28 (H.bl 4) rfl)) ?_
  refine d_q rfl (fun w' H => x_fa (a := Pq ao) (v := Oq ao 1) rfl (fa_blk (o := 0) Fd56_1 Sz3)) ?_
  refine d_q rfl (fun w' H => x_ld (p := Oq ao 1) (v := I ((aa.getD i2 default).down)) rfl (ldb_sc Sc3 (H.bl 1) rfl)) ?_
  refine d_q rfl (fun w' H => x_ix (a := am) (b := I ((aa.getD i2 default).down)) (v := vat am 1 (Int.toNat ((aa.getD i2 default).down))) rfl rfl (Sl.ix (α := Int) T28.und T28.size (H.os 10) (by omega) (by omega))) ?_
  refine d_q rfl (fun w' H => x_ld (p := vat am 1 (Int.toNat ((aa.getD i2 default).down))) (v := I (ah.getD (Int.toNat ((aa.getD i2 default).down)) 0)) rfl (ld_sc Sc3 (At.mono (Int_at (H.os 10) (i := (aa.getD i2 default).down) (by omega) (by omega)) (H.ol 10)))) ?_
  refine d_q rfl (fun w' H => x_mv (v := I (min (ab.getD (Int.toNat ((aa.getD i2 default).up)) 0) (ab.getD (Int.toNat ((aa.getD i2 default).down)) 0))) rfl) ?_
  refine d_q rfl (fun w' H => x_mv (v := I (min (ab.getD (Int.toNat ((aa.getD i2 default).up)) 0) (ab.getD (Int.toNat ((aa.getD i2 default).down)) 0))) rfl) ?_
  refine d_q rfl (fun w' H => x_bld (ps := [(0, I (ah.getD (Int.toNat ((aa.getD i2 default).up)) 0)), (1, I (ah.getD (Int.toNat ((aa.getD i2 default).down)) 0)), (2, I (min (ab.getD (Int.toNat ((aa.getD i2 default).up)) 0) (ab.getD (Int.toNat ((aa.getD i2 default).down)) 0))), (3, I (min (ab.getD (Int.toNat ((aa.getD i2 default).up)) 0) (ab.getD (Int.toNat ((aa.getD i2 default).down)) 0)))]) (zs := [I 0, I 0, I 0, I 0]) (L' := [I (ah.getD (Int.toNat ((aa.getD i2 default).up)) 0), I (ah.getD (Int.toNat ((aa.getD i2 default).down)) 0), I (min (ab.getD (Int.toNat ((aa.getD i2 default).up)) 0) (ab.getD (Int.toNat ((aa.getD i2 default).down)) 0)), I (min (ab.getD (Int.toNat ((aa.getD i2 default).up)) 0) (ab.getD (Int.toNat ((aa.getD i2 default).down)) 0))]) rfl Try.underlying64 Al64 rfl (Bd64 Try.underlying64) (.cons (cs := [I (ah.getD (Int.toNat ((aa.getD i2 default).up)) 0)]) rfl rfl rfl rfl rfl <| .cons (cs := [I (ah.getD (Int.toNat ((aa.getD i2 default).down)) 0)]) rfl rfl rfl rfl rfl <| .cons (cs := [I (min (ab.getD (Int.toNat ((aa.getD i2 default).up)) 0) (ab.getD (Int.toNat ((aa.getD i2 default).down)) 0))]) rfl rfl rfl rfl rfl <| .cons (cs := [I (min (ab.getD (Int.toNat ((aa.getD i2 default).up)) 0) (ab.getD (Int.toNat ((aa.getD i2 default).down)) 0))]) rfl rfl rfl rfl rfl <| .nil)) ?_
  refine d_l rfl ?_
  obtain ⟨cN, bV, hM⟩ := M.e_bind hM
  refine s_call cf15 [.agg #[aw, ax, au], I (i2 : Int), .agg #[I (ah.getD (Int.toNat ((aa.getD i2 default).up)) 0), I (ah.getD (Int.toNat ((aa.getD i2 default).down)) 0), I (min (ab.getD (Int.toNat ((aa.getD i2 default).up)) 0) (ab.getD (Int.toNat ((aa.getD i2 default).down)) 0)), I (min (ab.getD (Int.toNat ((aa.getD i2 default).up)) 0) (ab.getD (Int.toNat ((aa.getD i2 default).down)) 0))]] rfl (zbI aM aK aa (i2 : Int) (⟨(ah.getD (Int.toNat ((aa.getD i2 default).up)) 0 : Int), (ah.getD (Int.toNat ((aa.getD i2 default).down)) 0 : Int), (min (ab.getD (Int.toNat ((aa.getD i2 default).up)) 0) (ab.getD (Int.toNat ((aa.getD i2 default).down)) 0) : Int), (min (ab.getD (Int.toNat ((aa.getD i2 default).up)) 0) (ab.getD (Int.toNat ((aa.getD i2 default).down)) 0) : Int)⟩ : Cas) (Reads.sup (rdo 6) (Reads.of (k := 7) rfl roLe)) (rowSl rfl (H.get (k := 6) rfl) (roLe _ (H.get (k := 7) rfl)) aO) (rdo 8) (H.os 8) (rdo 9) (H.os 9) bV _ (H.gt 12)) ?_
  rintro vq cO ⟨al, ag, bW, hvq, aF⟩
  subst bW
  subst vq
  try dsimp only at hM
  replace H := H.bk aF
  clear aF
  refine s_nil ⟨(H.pk [0, 1, 2, 3, 4, 5, 6, 7, 8, 9, 10, 11]), ?_⟩
  refine d_q rfl (fun w' H => x_mv (v := .tuple #[I al, I ag]) rfl) ?_
  refine d_q rfl (fun w' H => x_ext (vs := [I al, I ag]) (v := I al) rfl rfl) ?_
  refine d_q rfl (fun w' H => x_ext (vs := [I al, I ag]) (v := I ag) rfl rfl) ?_
  refine d_q rfl (fun w' H => x_as (v := I al) rfl) ?_
  refine d_q rfl (fun w' H => x_as (v := I ag) rfl) ?_
  refine d_nil ?_
  refine W.seq ?_
  refine W.region rfl ?_
  refine s_val (x_ld (p := Pq aH) (v := .agg #[aw, ax, au]) rfl (ldb_ag (ds := [aw, ax, au]) Ag27 Sz27 (H.bl 5) rfl rfl)) ?_
  refine zM aJ rfl ?_
  refine zM (I (i2 : Int)) rfl ?_
  refine zM (I aj) rfl ?_
  refine zM (I al) rfl ?_
  refine s_val (x_bld (ps := [(0, I aj), (1, I al)]) (zs := [I 0, I 0]) (L' := [I aj, I al]) rfl Try.underlying44 Al44 rfl (Bd44 Try.underlying44) (.cons (cs := [I aj]) rfl rfl rfl rfl rfl <| .cons (cs := [I al]) rfl rfl rfl rfl rfl <| .nil)) ?_
  obtain ⟨cP, bX, hM⟩ := M.e_bind hM
  refine s_call cf16 [.agg #[aw, ax, au], aJ, I (i2 : Int), .agg #[I aj, I al]] rfl (zcI aM aK aa r3 (i2 : Int) (⟨(aj : Int), (al : Int)⟩ : Span) (Reads.sup (rdo 6) (Reads.of (k := 7) rfl roLe)) (rowSl rfl (H.get (k := 6) rfl) (roLe _ (H.get (k := 7) rfl)) aO) (rdo 8) (H.os 8) (rdo 9) (H.os 9) (rdo 3) (H.os 3) bX _ (H.gt 12)) ?_
  rintro vq cQ ⟨ak, av, ai, bY, hvq, aF⟩
  subst bY
  subst vq
  try dsimp only at hM
  replace H := H.bk aF
  clear aF
  refine zM (.tuple #[.agg #[I ak, I av], I ai]) rfl ?_
  refine zX [.agg #[I ak, I av], I ai] (.agg #[I ak, I av]) rfl rfl ?_
  refine zX [.agg #[I ak, I av], I ai] (I ai) rfl rfl ?_
  refine t_alloc (cs := [I 0, I 0]) H Al44 rfl ?_
  intro aL cR H
  refine t_sw 0 0 [I ak, I av] (.agg #[I ak, I av]) H rfl rfl Sz44 rfl rfl rfl rfl ?_
  intro cS H
  refine zA (I ai) rfl ?_
  refine s_nil ?_
  refine W.seq ?_
  refine W.region rfl ?_
  refine zM (I ae) rfl ?_
  refine zC ae 0 (ae != 0) rfl rfl rfl ?_
  refine zM (B (ae != 0)) rfl ?_
  refine g_val (!(ae != 0)) (gy_f rfl) (fun hg => x_mv (v := I ag) rfl) ?_
  refine g_val (!(ae != 0)) (gy_f rfl) (fun hg => x_cmp (kd := .i64) (a := ag) (b := 0) (r := ag != 0) (gd_of (c := !(ae != 0)) hg (I ag)) rfl rfl) ?_
  refine s_val (x_por (b := ae != 0) (r := ag != 0) rfl rfl (fun hb => gd_of (c := !(ae != 0)) (by first | exact hb | (rw [hb]; rfl) | simp_all) (B (ag != 0)))) ?_
  refine zM (B ((ae != 0) || (ag != 0))) rfl ?_
  refine g_val (!((ae != 0) || (ag != 0))) (gy_f rfl) (fun hg => x_mv (v := I ai) rfl) ?_
  refine g_val (!((ae != 0) || (ag != 0))) (gy_f rfl) (fun hg => x_cmp (kd := .i64) (a := ai) (b := 0) (r := ai != 0) (gd_of (c := !((ae != 0) || (ag != 0))) hg (I ai)) rfl rfl) ?_
  refine s_val (x_por (b := ((ae != 0) || (ag != 0))) (r := ai != 0) rfl rfl (fun hb => gd_of (c := !((ae != 0) || (ag != 0))) (by first | exact hb | (rw [hb]; rfl) | simp_all) (B (ai != 0)))) ?_
  refine zM (B (((ae != 0) || (ag != 0)) || (ai != 0))) rfl ?_
  refine g_val (!(((ae != 0) || (ag != 0)) || (ai != 0))) (gy_f rfl) (fun hg => x_mv (v := I aj) rfl) ?_
  refine g_val (!(((ae != 0) || (ag != 0)) || (ai != 0))) (gy_f rfl) (fun hg => x_mv (v := I ac) rfl) ?_
  refine g_val (!(((ae != 0) || (ag != 0)) || (ai != 0))) (gy_f rfl) (fun hg => x_cmp (kd := .i64) (a := aj) (b := ac) (r := decide (ac < aj)) (gd_of (c := !(((ae != 0) || (ag != 0)) || (ai != 0))) hg (I aj)) (gd_of (c := !(((ae != 0) || (ag != 0)) || (ai != 0))) hg (I ac)) rfl) ?_
  refine s_val (x_por (b := (((ae != 0) || (ag != 0)) || (ai != 0))) (r := decide (ac < aj)) rfl rfl (fun hb => gd_of (c := !(((ae != 0) || (ag != 0)) || (ai != 0))) (by first | exact hb | (rw [hb]; rfl) | simp_all) (B (decide (ac < aj))))) ?_
  refine zM (B ((((ae != 0) || (ag != 0)) || (ai != 0)) || (decide (ac < aj)))) rfl ?_
  refine g_val (!((((ae != 0) || (ag != 0)) || (ai != 0)) || (decide (ac < aj)))) (gy_f rfl) (fun hg => x_mv (v := I al) rfl) ?_
  refine g_val (!((((ae != 0) || (ag != 0)) || (ai != 0)) || (decide (ac < aj)))) (gy_f rfl) (fun hg => x_mv (v := I ac) rfl) ?_
  refine g_val (!((((ae != 0) || (ag != 0)) || (ai != 0)) || (decide (ac < aj)))) (gy_f rfl) (fun hg => x_cmp (kd := .i64) (a := al) (b := ac) (r := decide (al < ac)) (gd_of (c := !((((ae != 0) || (ag != 0)) || (ai != 0)) || (decide (ac < aj)))) hg (I al)) (gd_of (c := !((((ae != 0) || (ag != 0)) || (ai != 0)) || (decide (ac < aj)))) hg (I ac)) rfl) ?_
  refine s_val (x_por (b := ((((ae != 0) || (ag != 0)) || (ai != 0)) || (decide (ac < aj)))) (r := decide (al < ac)) rfl rfl (fun hb => gd_of (c := !((((ae != 0) || (ag != 0)) || (ai != 0)) || (decide (ac < aj)))) (by first | exact hb | (rw [hb]; rfl) | simp_all) (B (decide (al < ac))))) ?_
  refine zM (B (((((ae != 0) || (ag != 0)) || (ai != 0)) || (decide (ac < aj))) || (decide (al < ac)))) rfl ?_
  refine g_val (!(((((ae != 0) || (ag != 0)) || (ai != 0)) || (decide (ac < aj))) || (decide (al < ac)))) (gy_f rfl) (fun hg => x_fa (a := Pq aL) (v := Pq aL) rfl (fa_blk (o := 0) Fd44_0 Sz3)) ?_
  refine g_val (!(((((ae != 0) || (ag != 0)) || (ai != 0)) || (decide (ac < aj))) || (decide (al < ac)))) (gy_f rfl) (fun hg => x_ld (p := Pq aL) (v := I ak) (gd_of (c := !(((((ae != 0) || (ag != 0)) || (ai != 0)) || (decide (ac < aj))) || (decide (al < ac)))) hg (Pq aL)) (ldb_sc Sc3 (H.bl 0) rfl)) ?_
  refine g_val (!(((((ae != 0) || (ag != 0)) || (ai != 0)) || (decide (ac < aj))) || (decide (al < ac)))) (gy_f rfl) (fun hg => x_mv (v := I (min (ab.getD (Int.toNat ((aa.getD i2 default).up)) 0) (ab.getD (Int.toNat ((aa.getD i2 default).down)) 0))) rfl) ?_
  refine g_val (!(((((ae != 0) || (ag != 0)) || (ai != 0)) || (decide (ac < aj))) || (decide (al < ac)))) (gy_f rfl) (fun hg => x_cmp (kd := .i64) (a := ak) (b := min (ab.getD (Int.toNat ((aa.getD i2 default).up)) 0) (ab.getD (Int.toNat ((aa.getD i2 default).down)) 0)) (r := decide ((min (ab.getD (Int.toNat ((aa.getD i2 default).up)) 0) (ab.getD (Int.toNat ((aa.getD i2 default).down)) 0)) < ak)) (gd_of (c := !(((((ae != 0) || (ag != 0)) || (ai != 0)) || (decide (ac < aj))) || (decide (al < ac)))) hg (I ak)) (gd_of (c := !(((((ae != 0) || (ag != 0)) || (ai != 0)) || (decide (ac < aj))) || (decide (al < ac)))) hg (I (min (ab.getD (Int.toNat ((aa.getD i2 default).up)) 0) (ab.getD (Int.toNat ((aa.getD i2 default).down)) 0)))) rfl) ?_
  refine s_val (x_por (b := (((((ae != 0) || (ag != 0)) || (ai != 0)) || (decide (ac < aj))) || (decide (al < ac)))) (r := decide ((min (ab.getD (Int.toNat ((aa.getD i2 default).up)) 0) (ab.getD (Int.toNat ((aa.getD i2 default).down)) 0)) < ak)) rfl rfl (fun hb => gd_of (c := !(((((ae != 0) || (ag != 0)) || (ai != 0)) || (decide (ac < aj))) || (decide (al < ac)))) (by first | exact hb | (rw [hb]; rfl) | simp_all) (B (decide ((min (ab.getD (Int.toNat ((aa.getD i2 default).up)) 0) (ab.getD (Int.toNat ((aa.getD i2 default).down)) 0)) < ak))))) ?_
  refine zM (B ((((((ae != 0) || (ag != 0)) || (ai != 0)) || (decide (ac < aj))) || (decide (al < ac))) || (decide ((min (ab.getD (Int.toNat ((aa.getD i2 default).up)) 0) (ab.getD (Int.toNat ((aa.getD i2 default).down)) 0)) < ak)))) rfl ?_
  refine g_val (!((((((ae != 0) || (ag != 0)) || (ai != 0)) || (decide (ac < aj))) || (decide (al < ac))) || (decide ((min (ab.getD (Int.toNat ((aa.getD i2 default).up)) 0) (ab.getD (Int.toNat ((aa.getD i2 default).down)) 0)) < ak)))) (gy_f rfl) (fun hg => x_fa (a := Pq aL) (v := Oq aL 1) rfl (fa_blk (o := 0) Fd44_1 Sz3)) ?_
  refine g_val (!((((((ae != 0) || (ag != 0)) || (ai != 0)) || (decide (ac < aj))) || (decide (al < ac))) || (decide ((min (ab.getD (Int.toNat ((aa.getD i2 default).up)) 0) (ab.getD (Int.toNat ((aa.getD i2 default).down)) 0)) < ak)))) (gy_f rfl) (fun hg => x_ld (p := Oq aL 1) (v := I av) (gd_of (c := !((((((ae != 0) || (ag != 0)) || (ai != 0)) || (decide (ac < aj))) || (decide (al < ac))) || (decide ((min (ab.getD (Int.toNat ((aa.getD i2 default).up)) 0) (ab.getD (Int.toNat ((aa.getD i2 default).down)) 0)) < ak)))) hg (Oq aL 1)) (ldb_sc Sc3 (H.bl 0) rfl)) ?_
  refine g_val (!((((((ae != 0) || (ag != 0)) || (ai != 0)) || (decide (ac < aj))) || (decide (al < ac))) || (decide ((min (ab.getD (Int.toNat ((aa.getD i2 default).up)) 0) (ab.getD (Int.toNat ((aa.getD i2 default).down)) 0)) < ak)))) (gy_f rfl) (fun hg => x_mv (v := I (max (ab.getD (Int.toNat ((aa.getD i2 default).up)) 0) (ab.getD (Int.toNat ((aa.getD i2 default).down)) 0))) rfl) ?_
  refine g_val (!((((((ae != 0) || (ag != 0)) || (ai != 0)) || (decide (ac < aj))) || (decide (al < ac))) || (decide ((min (ab.getD (Int.toNat ((aa.getD i2 default).up)) 0) (ab.getD (Int.toNat ((aa.getD i2 default).down)) 0)) < ak)))) (gy_f rfl) (fun hg => x_cmp (kd := .i64) (a := av) (b := max (ab.getD (Int.toNat ((aa.getD i2 default).up)) 0) (ab.getD (Int.toNat ((aa.getD i2 default).down)) 0)) (r := decide (av < (max (ab.getD (Int.toNat ((aa.getD i2 default).up)) 0) (ab.getD (Int.toNat ((aa.getD i2 default).down)) 0)))) (gd_of (c := !((((((ae != 0) || (ag != 0)) || (ai != 0)) || (decide (ac < aj))) || (decide (al < ac))) || (decide ((min (ab.getD (Int.toNat ((aa.getD i2 default).up)) 0) (ab.getD (Int.toNat ((aa.getD i2 default).down)) 0)) < ak)))) hg (I av)) (gd_of (c := !((((((ae != 0) || (ag != 0)) || (ai != 0)) || (decide (ac < aj))) || (decide (al < ac))) || (decide ((min (ab.getD (Int.toNat ((aa.getD i2 default).up)) 0) (ab.getD (Int.toNat ((aa.getD i2 default).down)) 0)) < ak)))) hg (I (max (ab.getD (Int.toNat ((aa.getD i2 default).up)) 0) (ab.getD (Int.toNat ((aa.getD i2 default).down)) 0)))) rfl) ?_
  refine s_val (x_por (b := ((((((ae != 0) || (ag != 0)) || (ai != 0)) || (decide (ac < aj))) || (decide (al < ac))) || (decide ((min (ab.getD (Int.toNat ((aa.getD i2 default).up)) 0) (ab.getD (Int.toNat ((aa.getD i2 default).down)) 0)) < ak)))) (r := decide (av < (max (ab.getD (Int.toNat ((aa.getD i2 default).up)) 0) (ab.getD (Int.toNat ((aa.getD i2 default).down)) 0)))) rfl rfl (fun hb => gd_of (c := !((((((ae != 0) || (ag != 0)) || (ai != 0)) || (decide (ac < aj))) || (decide (al < ac))) || (decide ((min (ab.getD (Int.toNat ((aa.getD i2 default).up)) 0) (ab.getD (Int.toNat ((aa.getD i2 default).down)) 0)) < ak)))) (by first | exact hb | (rw [hb]; rfl) | simp_all) (B (decide (av < (max (ab.getD (Int.toNat ((aa.getD i2 default).up)) 0) (ab.getD (Int.toNat ((aa.getD i2 default).down)) 0))))))) ?_
  refine zM (B (((((((ae != 0) || (ag != 0)) || (ai != 0)) || (decide (ac < aj))) || (decide (al < ac))) || (decide ((min (ab.getD (Int.toNat ((aa.getD i2 default).up)) 0) (ab.getD (Int.toNat ((aa.getD i2 default).down)) 0)) < ak))) || (decide (av < (max (ab.getD (Int.toNat ((aa.getD i2 default).up)) 0) (ab.getD (Int.toNat ((aa.getD i2 default).down)) 0)))))) rfl ?_
  refine g_val (!(((((((ae != 0) || (ag != 0)) || (ai != 0)) || (decide (ac < aj))) || (decide (al < ac))) || (decide ((min (ab.getD (Int.toNat ((aa.getD i2 default).up)) 0) (ab.getD (Int.toNat ((aa.getD i2 default).down)) 0)) < ak))) || (decide (av < (max (ab.getD (Int.toNat ((aa.getD i2 default).up)) 0) (ab.getD (Int.toNat ((aa.getD i2 default).down)) 0)))))) (gy_f rfl) (fun hg => x_fa (a := Pq aL) (v := Pq aL) rfl (fa_blk (o := 0) Fd44_0 Sz3)) ?_
  refine g_val (!(((((((ae != 0) || (ag != 0)) || (ai != 0)) || (decide (ac < aj))) || (decide (al < ac))) || (decide ((min (ab.getD (Int.toNat ((aa.getD i2 default).up)) 0) (ab.getD (Int.toNat ((aa.getD i2 default).down)) 0)) < ak))) || (decide (av < (max (ab.getD (Int.toNat ((aa.getD i2 default).up)) 0) (ab.getD (Int.toNat ((aa.getD i2 default).down)) 0)))))) (gy_f rfl) (fun hg => x_ld (p := Pq aL) (v := I ak) (gd_of (c := !(((((((ae != 0) || (ag != 0)) || (ai != 0)) || (decide (ac < aj))) || (decide (al < ac))) || (decide ((min (ab.getD (Int.toNat ((aa.getD i2 default).up)) 0) (ab.getD (Int.toNat ((aa.getD i2 default).down)) 0)) < ak))) || (decide (av < (max (ab.getD (Int.toNat ((aa.getD i2 default).up)) 0) (ab.getD (Int.toNat ((aa.getD i2 default).down)) 0)))))) hg (Pq aL)) (ldb_sc Sc3 (H.bl 0) rfl)) ?_
  refine g_val (!(((((((ae != 0) || (ag != 0)) || (ai != 0)) || (decide (ac < aj))) || (decide (al < ac))) || (decide ((min (ab.getD (Int.toNat ((aa.getD i2 default).up)) 0) (ab.getD (Int.toNat ((aa.getD i2 default).down)) 0)) < ak))) || (decide (av < (max (ab.getD (Int.toNat ((aa.getD i2 default).up)) 0) (ab.getD (Int.toNat ((aa.getD i2 default).down)) 0)))))) (gy_f rfl) (fun hg => x_fa (a := Pq ao) (v := Oq ao 2) rfl (fa_blk (o := 0) Fd56_2 Sz44)) ?_
  refine g_val (!(((((((ae != 0) || (ag != 0)) || (ai != 0)) || (decide (ac < aj))) || (decide (al < ac))) || (decide ((min (ab.getD (Int.toNat ((aa.getD i2 default).up)) 0) (ab.getD (Int.toNat ((aa.getD i2 default).down)) 0)) < ak))) || (decide (av < (max (ab.getD (Int.toNat ((aa.getD i2 default).up)) 0) (ab.getD (Int.toNat ((aa.getD i2 default).down)) 0)))))) (gy_f rfl) (fun hg => x_fa (a := Oq ao 2) (v := Oq ao 2) (gd_of (c := !(((((((ae != 0) || (ag != 0)) || (ai != 0)) || (decide (ac < aj))) || (decide (al < ac))) || (decide ((min (ab.getD (Int.toNat ((aa.getD i2 default).up)) 0) (ab.getD (Int.toNat ((aa.getD i2 default).down)) 0)) < ak))) || (decide (av < (max (ab.getD (Int.toNat ((aa.getD i2 default).up)) 0) (ab.getD (Int.toNat ((aa.getD i2 default).down)) 0)))))) hg (Oq ao 2)) (fa_blk (o := 2) Fd44_0 Sz3)) ?_
  refine g_val (!(((((((ae != 0) || (ag != 0)) || (ai != 0)) || (decide (ac < aj))) || (decide (al < ac))) || (decide ((min (ab.getD (Int.toNat ((aa.getD i2 default).up)) 0) (ab.getD (Int.toNat ((aa.getD i2 default).down)) 0)) < ak))) || (decide (av < (max (ab.getD (Int.toNat ((aa.getD i2 default).up)) 0) (ab.getD (Int.toNat ((aa.getD i2 default).down)) 0)))))) (gy_f rfl) (fun hg => x_ld (p := Oq ao 2) (v := I ((aa.getD i2 default).lo)) (gd_of (c := !(((((((ae != 0) || (ag != 0)) || (ai != 0)) || (decide (ac < aj))) || (decide (al < ac))) || (decide ((min (ab.getD (Int.toNat ((aa.getD i2 default).up)) 0) (ab.getD (Int.toNat ((aa.getD i2 default).down)) 0)) < ak))) || (decide (av < (max (ab.getD (Int.toNat ((aa.getD i2 default).up)) 0) (ab.getD (Int.toNat ((aa.getD i2 default).down)) 0)))))) hg (Oq ao 2)) (ldb_sc Sc3 (H.bl 2) rfl)) ?_
  refine g_val (!(((((((ae != 0) || (ag != 0)) || (ai != 0)) || (decide (ac < aj))) || (decide (al < ac))) || (decide ((min (ab.getD (Int.toNat ((aa.getD i2 default).up)) 0) (ab.getD (Int.toNat ((aa.getD i2 default).down)) 0)) < ak))) || (decide (av < (max (ab.getD (Int.toNat ((aa.getD i2 default).up)) 0) (ab.getD (Int.toNat ((aa.getD i2 default).down)) 0)))))) (gy_f rfl) (fun hg => x_cmp (kd := .i64) (a := ak) (b := (aa.getD i2 default).lo) (r := decide (ak < ((aa.getD i2 default).lo))) (gd_of (c := !(((((((ae != 0) || (ag != 0)) || (ai != 0)) || (decide (ac < aj))) || (decide (al < ac))) || (decide ((min (ab.getD (Int.toNat ((aa.getD i2 default).up)) 0) (ab.getD (Int.toNat ((aa.getD i2 default).down)) 0)) < ak))) || (decide (av < (max (ab.getD (Int.toNat ((aa.getD i2 default).up)) 0) (ab.getD (Int.toNat ((aa.getD i2 default).down)) 0)))))) hg (I ak)) (gd_of (c := !(((((((ae != 0) || (ag != 0)) || (ai != 0)) || (decide (ac < aj))) || (decide (al < ac))) || (decide ((min (ab.getD (Int.toNat ((aa.getD i2 default).up)) 0) (ab.getD (Int.toNat ((aa.getD i2 default).down)) 0)) < ak))) || (decide (av < (max (ab.getD (Int.toNat ((aa.getD i2 default).up)) 0) (ab.getD (Int.toNat ((aa.getD i2 default).down)) 0)))))) hg (I ((aa.getD i2 default).lo))) rfl) ?_
  refine s_val (x_por (b := (((((((ae != 0) || (ag != 0)) || (ai != 0)) || (decide (ac < aj))) || (decide (al < ac))) || (decide ((min (ab.getD (Int.toNat ((aa.getD i2 default).up)) 0) (ab.getD (Int.toNat ((aa.getD i2 default).down)) 0)) < ak))) || (decide (av < (max (ab.getD (Int.toNat ((aa.getD i2 default).up)) 0) (ab.getD (Int.toNat ((aa.getD i2 default).down)) 0)))))) (r := decide (ak < ((aa.getD i2 default).lo))) rfl rfl (fun hb => gd_of (c := !(((((((ae != 0) || (ag != 0)) || (ai != 0)) || (decide (ac < aj))) || (decide (al < ac))) || (decide ((min (ab.getD (Int.toNat ((aa.getD i2 default).up)) 0) (ab.getD (Int.toNat ((aa.getD i2 default).down)) 0)) < ak))) || (decide (av < (max (ab.getD (Int.toNat ((aa.getD i2 default).up)) 0) (ab.getD (Int.toNat ((aa.getD i2 default).down)) 0)))))) (by first | exact hb | (rw [hb]; rfl) | simp_all) (B (decide (ak < ((aa.getD i2 default).lo)))))) ?_
  refine zM (B ((((((((ae != 0) || (ag != 0)) || (ai != 0)) || (decide (ac < aj))) || (decide (al < ac))) || (decide ((min (ab.getD (Int.toNat ((aa.getD i2 default).up)) 0) (ab.getD (Int.toNat ((aa.getD i2 default).down)) 0)) < ak))) || (decide (av < (max (ab.getD (Int.toNat ((aa.getD i2 default).up)) 0) (ab.getD (Int.toNat ((aa.getD i2 default).down)) 0))))) || (decide (ak < ((aa.getD i2 default).lo))))) rfl ?_
  refine g_val (!((((((((ae != 0) || (ag != 0)) || (ai != 0)) || (decide (ac < aj))) || (decide (al < ac))) || (decide ((min (ab.getD (Int.toNat ((aa.getD i2 default).up)) 0) (ab.getD (Int.toNat ((aa.getD i2 default).down)) 0)) < ak))) || (decide (av < (max (ab.getD (Int.toNat ((aa.getD i2 default).up)) 0) (ab.getD (Int.toNat ((aa.getD i2 default).down)) 0))))) || (decide (ak < ((aa.getD i2 default).lo))))) (gy_f rfl) (fun hg => x_fa (a := Pq aL) (v := Oq aL 1) rfl (fa_blk (o := 0) Fd44_1 Sz3)) ?_
  refine g_val (!((((((((ae != 0) || (ag != 0)) || (ai != 0)) || (decide (ac < aj))) || (decide (al < ac))) || (decide ((min (ab.getD (Int.toNat ((aa.getD i2 default).up)) 0) (ab.getD (Int.toNat ((aa.getD i2 default).down)) 0)) < ak))) || (decide (av < (max (ab.getD (Int.toNat ((aa.getD i2 default).up)) 0) (ab.getD (Int.toNat ((aa.getD i2 default).down)) 0))))) || (decide (ak < ((aa.getD i2 default).lo))))) (gy_f rfl) (fun hg => x_ld (p := Oq aL 1) (v := I av) (gd_of (c := !((((((((ae != 0) || (ag != 0)) || (ai != 0)) || (decide (ac < aj))) || (decide (al < ac))) || (decide ((min (ab.getD (Int.toNat ((aa.getD i2 default).up)) 0) (ab.getD (Int.toNat ((aa.getD i2 default).down)) 0)) < ak))) || (decide (av < (max (ab.getD (Int.toNat ((aa.getD i2 default).up)) 0) (ab.getD (Int.toNat ((aa.getD i2 default).down)) 0))))) || (decide (ak < ((aa.getD i2 default).lo))))) hg (Oq aL 1)) (ldb_sc Sc3 (H.bl 0) rfl)) ?_
  refine g_val (!((((((((ae != 0) || (ag != 0)) || (ai != 0)) || (decide (ac < aj))) || (decide (al < ac))) || (decide ((min (ab.getD (Int.toNat ((aa.getD i2 default).up)) 0) (ab.getD (Int.toNat ((aa.getD i2 default).down)) 0)) < ak))) || (decide (av < (max (ab.getD (Int.toNat ((aa.getD i2 default).up)) 0) (ab.getD (Int.toNat ((aa.getD i2 default).down)) 0))))) || (decide (ak < ((aa.getD i2 default).lo))))) (gy_f rfl) (fun hg => x_fa (a := Pq ao) (v := Oq ao 2) rfl (fa_blk (o := 0) Fd56_2 Sz44)) ?_
  refine g_val (!((((((((ae != 0) || (ag != 0)) || (ai != 0)) || (decide (ac < aj))) || (decide (al < ac))) || (decide ((min (ab.getD (Int.toNat ((aa.getD i2 default).up)) 0) (ab.getD (Int.toNat ((aa.getD i2 default).down)) 0)) < ak))) || (decide (av < (max (ab.getD (Int.toNat ((aa.getD i2 default).up)) 0) (ab.getD (Int.toNat ((aa.getD i2 default).down)) 0))))) || (decide (ak < ((aa.getD i2 default).lo))))) (gy_f rfl) (fun hg => x_fa (a := Oq ao 2) (v := Oq ao 3) (gd_of (c := !((((((((ae != 0) || (ag != 0)) || (ai != 0)) || (decide (ac < aj))) || (decide (al < ac))) || (decide ((min (ab.getD (Int.toNat ((aa.getD i2 default).up)) 0) (ab.getD (Int.toNat ((aa.getD i2 default).down)) 0)) < ak))) || (decide (av < (max (ab.getD (Int.toNat ((aa.getD i2 default).up)) 0) (ab.getD (Int.toNat ((aa.getD i2 default).down)) 0))))) || (decide (ak < ((aa.getD i2 default).lo))))) hg (Oq ao 2)) (fa_blk (o := 2) Fd44_1 Sz3)) ?_
  refine g_val (!((((((((ae != 0) || (ag != 0)) || (ai != 0)) || (decide (ac < aj))) || (decide (al < ac))) || (decide ((min (ab.getD (Int.toNat ((aa.getD i2 default).up)) 0) (ab.getD (Int.toNat ((aa.getD i2 default).down)) 0)) < ak))) || (decide (av < (max (ab.getD (Int.toNat ((aa.getD i2 default).up)) 0) (ab.getD (Int.toNat ((aa.getD i2 default).down)) 0))))) || (decide (ak < ((aa.getD i2 default).lo))))) (gy_f rfl) (fun hg => x_ld (p := Oq ao 3) (v := I ((aa.getD i2 default).hi)) (gd_of (c := !((((((((ae != 0) || (ag != 0)) || (ai != 0)) || (decide (ac < aj))) || (decide (al < ac))) || (decide ((min (ab.getD (Int.toNat ((aa.getD i2 default).up)) 0) (ab.getD (Int.toNat ((aa.getD i2 default).down)) 0)) < ak))) || (decide (av < (max (ab.getD (Int.toNat ((aa.getD i2 default).up)) 0) (ab.getD (Int.toNat ((aa.getD i2 default).down)) 0))))) || (decide (ak < ((aa.getD i2 default).lo))))) hg (Oq ao 3)) (ldb_sc Sc3 (H.bl 2) rfl)) ?_
  refine g_val (!((((((((ae != 0) || (ag != 0)) || (ai != 0)) || (decide (ac < aj))) || (decide (al < ac))) || (decide ((min (ab.getD (Int.toNat ((aa.getD i2 default).up)) 0) (ab.getD (Int.toNat ((aa.getD i2 default).down)) 0)) < ak))) || (decide (av < (max (ab.getD (Int.toNat ((aa.getD i2 default).up)) 0) (ab.getD (Int.toNat ((aa.getD i2 default).down)) 0))))) || (decide (ak < ((aa.getD i2 default).lo))))) (gy_f rfl) (fun hg => x_cmp (kd := .i64) (a := av) (b := (aa.getD i2 default).hi) (r := decide (((aa.getD i2 default).hi) < av)) (gd_of (c := !((((((((ae != 0) || (ag != 0)) || (ai != 0)) || (decide (ac < aj))) || (decide (al < ac))) || (decide ((min (ab.getD (Int.toNat ((aa.getD i2 default).up)) 0) (ab.getD (Int.toNat ((aa.getD i2 default).down)) 0)) < ak))) || (decide (av < (max (ab.getD (Int.toNat ((aa.getD i2 default).up)) 0) (ab.getD (Int.toNat ((aa.getD i2 default).down)) 0))))) || (decide (ak < ((aa.getD i2 default).lo))))) hg (I av)) (gd_of (c := !((((((((ae != 0) || (ag != 0)) || (ai != 0)) || (decide (ac < aj))) || (decide (al < ac))) || (decide ((min (ab.getD (Int.toNat ((aa.getD i2 default).up)) 0) (ab.getD (Int.toNat ((aa.getD i2 default).down)) 0)) < ak))) || (decide (av < (max (ab.getD (Int.toNat ((aa.getD i2 default).up)) 0) (ab.getD (Int.toNat ((aa.getD i2 default).down)) 0))))) || (decide (ak < ((aa.getD i2 default).lo))))) hg (I ((aa.getD i2 default).hi))) rfl) ?_
  refine s_val (x_por (b := ((((((((ae != 0) || (ag != 0)) || (ai != 0)) || (decide (ac < aj))) || (decide (al < ac))) || (decide ((min (ab.getD (Int.toNat ((aa.getD i2 default).up)) 0) (ab.getD (Int.toNat ((aa.getD i2 default).down)) 0)) < ak))) || (decide (av < (max (ab.getD (Int.toNat ((aa.getD i2 default).up)) 0) (ab.getD (Int.toNat ((aa.getD i2 default).down)) 0))))) || (decide (ak < ((aa.getD i2 default).lo))))) (r := decide (((aa.getD i2 default).hi) < av)) rfl rfl (fun hb => gd_of (c := !((((((((ae != 0) || (ag != 0)) || (ai != 0)) || (decide (ac < aj))) || (decide (al < ac))) || (decide ((min (ab.getD (Int.toNat ((aa.getD i2 default).up)) 0) (ab.getD (Int.toNat ((aa.getD i2 default).down)) 0)) < ak))) || (decide (av < (max (ab.getD (Int.toNat ((aa.getD i2 default).up)) 0) (ab.getD (Int.toNat ((aa.getD i2 default).down)) 0))))) || (decide (ak < ((aa.getD i2 default).lo))))) (by first | exact hb | (rw [hb]; rfl) | simp_all) (B (decide (((aa.getD i2 default).hi) < av))))) ?_
  refine s_nil ?_
  refine W.cond (((((((((ae != 0) || (ag != 0)) || (ai != 0)) || (decide (ac < aj))) || (decide (al < ac))) || (decide ((min (ab.getD (Int.toNat ((aa.getD i2 default).up)) 0) (ab.getD (Int.toNat ((aa.getD i2 default).down)) 0)) < ak))) || (decide (av < (max (ab.getD (Int.toNat ((aa.getD i2 default).up)) 0) (ab.getD (Int.toNat ((aa.getD i2 default).down)) 0))))) || (decide (ak < ((aa.getD i2 default).lo)))) || (decide (((aa.getD i2 default).hi) < av))) rfl (fun bb => ?_) (fun bb => ?_)
  ·replace hM := M.e_t hM bb
   refine W.seq ?_
   refine W.region rfl ?_
   refine zA (B false) rfl ?_
   refine s_nil ?_
   replace H := H.pk [3, 4, 5, 6, 7, 8, 9, 10, 11, 12]
   refine W.ret ?_
   have bZ := M.e_inr hM aW
   subst bZ
   replace hM := a8
   try dsimp only at hM
   have aP := M.e_pure hM
   exact ⟨_, resE_tmp rfl, ⟨false, aP, rfl, (H.pk [])⟩⟩
  replace hM := M.e_f hM bb
  refine W.skip ?_
  refine W.region rfl ?_
  refine zM (I (i2 : Int)) rfl ?_
  refine zR (i2 : Int) 1 ((i2 : Int) + 1) rfl rfl rfl (by omega) ?_
  refine zA (I ((i2 : Int) + 1)) rfl ?_
  refine s_nil ?_
  exact ⟨bH, bI, i2 + 1, _, upds_of _ _ ⟨rfl, rfl, rfl, rfl, trivial⟩, M.e_inl hM aW, (H.pk [3, 4, 5, 6, 7, 8, 9, 10, 11, 12])⟩
 replace hM := M.e_f hM aU
 simp only [qy1, qy2, qy3, qy4, qy5, qy6, ne_eq, qy7] at aU
 refine W.exit ?_
 have b3 := M.e_inr hM aW
 subst b3
 replace hM := a8
 try dsimp only at hM
 replace H := H.pk []
 refine W.seq ?_
 refine W.region rfl ?_
 obtain ⟨cT, b4, hM⟩ := M.e_bind hM
 refine s_call cf11 [] rfl (zcY b4 _ (H.gt 0)) ?_
 rintro vq cU ⟨r4, b5, hvq, aF⟩
 subst b5
 subst vq
 try dsimp only at hM
 replace H := H.bk aF
 clear aF
 refine zA (B r4) rfl ?_
 refine s_nil ?_
 refine W.ret ?_
 have aP := M.e_pure hM
 exact ⟨_, resE_tmp rfl, ⟨r4, aP, rfl, H⟩⟩

end Go.Proofs.Ytlemgioaakecpaa
end
namespace Go.Nm
namespace Fl
section
variable {S : List Sect} {M : List Mrk} {R : List Rch} {t ro ms : List Int} {r : Rch}
theorem pk (hS : Secs S) (hr : Rok S r) (hk : ∀ x ∈ M, Mok x) (hx : Ixs M ms) (ht : Tog M ms) {c c1 c2 : Cas} {a b : Int} (ha : IsLow S M ms r c1 a) (hb : IsHigh S M ms r c2 b) (hc : Cok c)
    (hd : Dn S M ms r c.down) (h0 : stLo M ms (pu S r) <= c.up) (h1 : c.up <= stHi M ms (pu S r)) (k1 : r.lo <= c.roughup) (k2 : c.roughup <= r.hi) (k3 : r.lo <= c.roughdown) (k4 : c.roughdown <= r.hi) :
    0 <= a /\ a <= fl S r c /\ fl S r c <= b := by
  obtain ⟨x, _, _, e1, m1⟩ := ha
  obtain ⟨y, _, _, e2, m2⟩ := hb
  have q1 := m1 _ hd
  have q2 := m2 _ hd
  have du := hc.du
  refine ⟨by rw [e1]; exact fl_nn _, Int.le_trans q1 (fl_mono hS hr (lc_ok hr hk hx ht hd) hc rfl ?_ k2 k4), Int.le_trans (fl_mono hS hr hc (hc_ok hr hd) rfl h1 k1 k3) q2⟩
  show max (stLo M ms (pu S r)) c.down <= c.up
  omega
theorem Truth.rok (h : Truth S M R t ro) {i : Nat} (hi : i < R.length) : Rok S (R.getD i default) := by
  rw [getD_el R hi]
  exact h.site.rks _ (List.getElem_mem hi)
theorem ints_ix (M : List Mrk) : Ixs M (ints M.length) := fun k hk => by
  unfold ints at hk
  obtain ⟨i, hi, rfl⟩ := List.mem_map.1 hk
  have := List.mem_range.1 hi
  omega
theorem ints_inc (M : List Mrk) : Inc M (ints M.length) := by
  refine ⟨?_, ints_ix M⟩
  unfold ints
  rw [List.pairwise_map]
  exact List.Pairwise.imp (fun h => by omega) List.pairwise_lt_range
end
end Fl
end Go.Nm
namespace Go.Proofs.Ytlemgioaakecpaa
open Go Go.Nm
section
variable {S : List Sect} {M' : List Mrk} {R' : List Rch} {t ro : List Int}
theorem every_ends (hn : M'.length <= 16) : (zbC S M' R').Ends (Fl.ints M'.length) := by
  unfold zbC
  refine M.i_bind (a := (Fl.ints M'.length, Fl.ints M'.length)) ?_ M.i_pure
  refine M.i_for (fun i => (i, Fl.ints i)) M'.length (fun i hi => ?_) ?_
  · simp only [za7]
    refine M.i_t (decide_eq_true (by omega)) (M.i_grd (decide_eq_true (by rw [Fl.ints_len]; simp; omega)) ?_)
    rw [Fl.ints_succ]
    exact M.i_pure
  · simp only [za7]
    exact M.i_f (decide_eq_false (by omega)) M.i_pure
theorem b0_ends (h : Fl.Truth S M' R' t ro) : (M.iter (zau t (Fl.surf S M' (Fl.ints M'.length))) 0).Ends (.inr ()) := by
  refine M.i_for (fun i => i) S.length (fun i hi => ?_) ?_
  · have k := h.bet (Fl.ints_ix M') hi
    simp only [zau, Fl.surf_len, Fl.surf_at hi]
    exact M.i_t (decide_eq_true (by omega)) (M.i_grd (decide_eq_true (by rw [h.tl]; omega)) (M.i_f (by rw [Bool.or_eq_false_iff]; exact ⟨decide_eq_false (by omega), decide_eq_false (by omega)⟩) M.i_pure))
  · simp only [zau, Fl.surf_len]
    exact M.i_f (decide_eq_false (by omega)) M.i_pure
theorem b1_ends (h : Fl.Truth S M' R' t ro) : (M.iter (zaz S M' R' t ro (Fl.ints M'.length)) 0).Ends (.inr ()) := by
  have ix := Fl.ints_ix M'
  have inc := Fl.ints_inc M'
  have tog := h.tog ix
  have hk := h.site.mks
  refine M.Out.ends (M.o_for R'.length (fun i (s : Nat) => s = i) ?_ ?_ rfl)
  · rintro _ i hi rfl
    have hr := h.rok hi
    have hrt := h.rt (R'.getD i default) (by rw [getD_el R' hi]; exact List.getElem_mem hi)
    have e : Int.toNat ((i : Nat) : Int) = i := Int.toNat_natCast i
    have cu := h.bet ix hr.iu
    have cd := h.bet ix hr.id
    have tu := h.tr _ hr.iu
    have tdn := h.tr _ hr.id
    have u0 := hr.u0
    have ud := hr.ud
    have d1 := hr.d1
    have tt := h.td (Int.toNat (R'.getD i default).up) (Int.toNat (R'.getD i default).down) (by omega) hr.id
    have ru := h.ro0 _ hr.iu
    have rd := h.ro0 _ hr.id
    have dn : Fl.Dn S M' (Fl.ints M'.length) (R'.getD i default) (t.getD (Int.toNat (R'.getD i default).down) 0) := ⟨cd.1, by have := cd.2; have := cu.2; unfold Fl.pd Fl.pu; omega⟩
    have ok : ∀ p q : Int, 1 <= p -> p <= 400 -> 1 <= q -> q <= 400 -> Fl.Cok ⟨t.getD (Int.toNat (R'.getD i default).up) 0, t.getD (Int.toNat (R'.getD i default).down) 0, p, q⟩ := fun p q h1 h2 h3 h4 => ⟨tdn.1, tt, tu.2, h1, h3, h2, h4⟩
    have fe : ∀ p q : Int, (R'.getD i default).lo <= p -> p <= (R'.getD i default).hi -> (R'.getD i default).lo <= q -> q <= (R'.getD i default).hi -> (zak S M' R' (i : Int) ⟨t.getD (Int.toNat (R'.getD i default).up) 0, t.getD (Int.toNat (R'.getD i default).down) 0, p, q⟩).Ends (Fl.fl S (R'.getD i default) ⟨t.getD (Int.toNat (R'.getD i default).up) 0, t.getD (Int.toNat (R'.getD i default).down) 0, p, q⟩, 0) := fun p q h1 h2 h3 h4 => by
      have l1 := hr.l1
      have h4' := hr.h4
      have := Flow_ends (i := (i : Int)) h.site (by omega) (by omega) (ok p q (by omega) (by omega) (by omega) (by omega)) (by rw [e]; exact h1) (by rw [e]; exact h2) (by rw [e]; exact h3) (by rw [e]; exact h4)
      rwa [e] at this
    simp only [zaz]
    refine M.o_t (decide_eq_true (by omega)) (M.o_grd (decide_eq_true (by omega)) (M.o_grd (gA2 (by omega) (by rw [h.tl]; omega)) (M.o_grd (gA2 (by omega) (by rw [h.tl]; omega)) (M.o_grd (gA2 (by omega) (by rw [h.rl]; omega)) (M.o_grd (gA2 (by omega) (by rw [h.rl]; omega)) (M.o_bindE (fe _ _ hrt.1 hrt.2.2.1 hrt.2.1 hrt.2.2.2) (M.o_bind (Peak_out h.site inc tog (i := (i : Int)) (by omega) (by omega)) ?_)))))))
    rintro ⟨a, b, _⟩ ⟨rfl, ⟨c1, ha⟩, c2, hb⟩
    rw [e] at ha hb
    dsimp only at ha hb ⊢
    generalize hru : ro.getD (Int.toNat (R'.getD i default).up) 0 = p at hrt ru ⊢
    generalize hrd : ro.getD (Int.toNat (R'.getD i default).down) 0 = q at hrt rd ⊢
    have kp := Fl.pk h.site.s hr hk ix tog ha hb (ok p q ru.1 ru.2 rd.1 rd.2) dn cu.1 cu.2 hrt.1 hrt.2.2.1 hrt.2.1 hrt.2.2.2
    refine M.o_f (by simp only [Bool.or_eq_false_iff]; exact ⟨⟨⟨⟨rfl, rfl⟩, decide_eq_false (by omega)⟩, decide_eq_false (by omega)⟩, decide_eq_false (by omega)⟩) ?_
    refine M.o_bindE (fe _ _ (by omega) (by omega) (by omega) (by omega)) (M.o_bindE (fe _ _ (by omega) (by omega) (by omega) (by omega)) ?_)
    have m1 : Fl.fl S (R'.getD i default) ⟨t.getD (Int.toNat (R'.getD i default).up) 0, t.getD (Int.toNat (R'.getD i default).down) 0, max p q, max p q⟩ <= Fl.fl S (R'.getD i default) ⟨t.getD (Int.toNat (R'.getD i default).up) 0, t.getD (Int.toNat (R'.getD i default).down) 0, p, q⟩ :=
      Fl.fl_mono h.site.s hr (ok _ _ (by omega) (by omega) (by omega) (by omega)) (ok _ _ ru.1 ru.2 rd.1 rd.2) rfl (Int.le_refl _) (show p <= max p q by omega) (show q <= max p q by omega)
    have m2 : Fl.fl S (R'.getD i default) ⟨t.getD (Int.toNat (R'.getD i default).up) 0, t.getD (Int.toNat (R'.getD i default).down) 0, p, q⟩ <= Fl.fl S (R'.getD i default) ⟨t.getD (Int.toNat (R'.getD i default).up) 0, t.getD (Int.toNat (R'.getD i default).down) 0, min p q, min p q⟩ :=
      Fl.fl_mono h.site.s hr (ok _ _ ru.1 ru.2 rd.1 rd.2) (ok _ _ (by omega) (by omega) (by omega) (by omega)) rfl (Int.le_refl _) (show min p q <= p by omega) (show min p q <= q by omega)
    have hit : ∀ n, n = max p q ∨ n = min p q -> Fl.Hit S M' (Fl.ints M'.length) (R'.getD i default) ⟨Fl.fl S (R'.getD i default) ⟨t.getD (Int.toNat (R'.getD i default).up) 0, t.getD (Int.toNat (R'.getD i default).down) 0, max p q, max p q⟩, Fl.fl S (R'.getD i default) ⟨t.getD (Int.toNat (R'.getD i default).up) 0, t.getD (Int.toNat (R'.getD i default).down) 0, min p q, min p q⟩⟩ n := fun n hn c c' a b h1 h2 => by
      have k := Fl.pk h.site.s (hr.rx (n := n) (by omega) (by omega)) hk ix tog h1 h2 (ok n n (by omega) (by omega) (by omega) (by omega)) dn cu.1 cu.2 (Int.le_refl _) (Int.le_refl _) (Int.le_refl _) (Int.le_refl _)
      have k1 : a <= Fl.fl S (R'.getD i default) ⟨t.getD (Int.toNat (R'.getD i default).up) 0, t.getD (Int.toNat (R'.getD i default).down) 0, n, n⟩ := k.2.1
      have k2 : Fl.fl S (R'.getD i default) ⟨t.getD (Int.toNat (R'.getD i default).up) 0, t.getD (Int.toNat (R'.getD i default).down) 0, n, n⟩ <= b := k.2.2
      dsimp only
      rcases hn with rfl | rfl
      · omega
      · omega
    have low0 := Fl.fl_nn (S := S) (r := R'.getD i default) ⟨t.getD (Int.toNat (R'.getD i default).up) 0, t.getD (Int.toNat (R'.getD i default).down) 0, max p q, max p q⟩
    refine M.o_bind (Calibrate_out h.site inc tog (i := (i : Int)) (by omega) (by omega) low0 (by dsimp only; omega) ⟨max p q, by rw [e]; omega, by rw [e]; omega, by rw [e]; exact hit _ (.inl rfl)⟩) ?_
    rintro ⟨x, y, _⟩ ⟨rfl, k1, k2, k3⟩
    rw [e] at k1 k2 k3
    have q1 := k3 _ (by omega) (by omega) (hit _ (.inl rfl))
    have q2 := k3 _ (by omega) (by omega) (hit _ (.inr rfl))
    dsimp only at k1 k2 q1 q2 ⊢
    refine M.o_f (by simp only [Bool.or_eq_false_iff]; exact ⟨⟨⟨⟨⟨⟨⟨⟨rfl, rfl⟩, rfl⟩, decide_eq_false (by omega)⟩, decide_eq_false (by omega)⟩, decide_eq_false (by omega)⟩, decide_eq_false (by omega)⟩, decide_eq_false (by omega)⟩, decide_eq_false (by omega)⟩) (M.o_pure rfl)
  · rintro _ rfl
    simp only [zaz]
    exact M.o_f (decide_eq_false (by omega)) (M.o_pure rfl)
end
end Go.Proofs.Ytlemgioaakecpaa
namespace Go.Nm
structure SOk (c u x : Int) : Prop where
  u0 : 0 <= u
  u1 : u <= c
  x0 : 0 <= x
  x1 : x < 251
theorem SOk.mono {c d u x : Int} (h : SOk c u x) (hd : c <= d) : SOk d u x := ⟨h.u0, Int.le_trans h.u1 hd, h.x0, h.x1⟩
/-- What a stream gives: a number below n. -/
structure Nx (c n : Int) (y : Int × Int × Int) : Prop where
  ok : SOk c y.2.1 y.2.2
  lt : 1 <= n -> 0 <= y.1 /\ y.1 < n
  no : n < 1 -> y.1 = 0
end Go.Nm
namespace Go.Proofs.Ytlemgioaakecpaa
open Go Go.Nm
theorem next_out {b : List UInt8} {c u x n : Int} (h : SOk c u x) (hc : c <= 1000000000000) (hn : n <= 1000000) : (zad b u x n).Out (Nx (c + 1) n) := by
  obtain ⟨u0, u1, x0, x1⟩ := h
  unfold zad
  refine M.o_if (fun hb => ?_) (fun hb => ?_)
  · simp only [Bool.or_eq_true, decide_eq_true_eq, beq_iff_eq] at hb
    refine M.o_pure ⟨⟨u0, by dsimp only; omega, x0, x1⟩, fun h1 => ⟨Int.le_refl _, ?_⟩, fun _ => rfl⟩
    dsimp only
    omega
  · simp only [Bool.or_eq_false_iff, decide_eq_false_iff_not, beq_eq_false_iff_ne, ne_eq] at hb
    have hl : (0 : Int) < (b.length : Int) := by omega
    have m0 := Int.emod_nonneg u (show (b.length : Int) ≠ 0 by omega)
    have m1 := Int.emod_lt_of_pos u hl
    have d0 := Int.ediv_nonneg u0 (show (0 : Int) <= (b.length : Int) by omega)
    have d1 : u / (b.length : Int) <= u := Int.ediv_le_self _ u0
    have y1 : ((b.getD (Int.toNat (u % (b.length : Int))) 0).toNat : Int) < 256 := by
      have := UInt8.toNat_lt (b.getD (Int.toNat (u % (b.length : Int))) 0)
      omega
    have y0 : (0 : Int) <= ((b.getD (Int.toNat (u % (b.length : Int))) 0).toNat : Int) := Int.natCast_nonneg _
    generalize ((b.getD (Int.toNat (u % (b.length : Int))) 0).toNat : Int) = y at *
    generalize u % (b.length : Int) = m at *
    generalize u / (b.length : Int) = d at *
    have hn0 : 0 < n := by omega
    have fin : ∀ z : Int, 0 <= z -> 0 <= z % n /\ z % n < n := fun z hz => ⟨Int.emod_nonneg _ (by omega), Int.emod_lt_of_pos _ hn0⟩
    have pr : ∀ z w : Int, 0 <= z -> Nx (c + 1) n (z % n, u + 1, w % 251) := fun z w hz => ⟨⟨by dsimp only; omega, by dsimp only; omega, by dsimp only; omega, by dsimp only; omega⟩, fun _ => fin z hz, fun h => by omega⟩
    refine M.o_grd (by simp only [Bool.and_eq_true, decide_eq_true_eq]; omega) (M.o_grd (by simp only [Bool.and_eq_true, decide_eq_true_eq]; omega) (M.o_grd (by simp only [Bool.and_eq_true, decide_eq_true_eq]; omega) ?_))
    refine M.o_if (fun h1 => ?_) (fun h1 => ?_)
    · refine M.o_grd (by simp only [Bool.and_eq_true, decide_eq_true_eq]; omega) (M.o_grd (by simp only [Bool.and_eq_true, decide_eq_true_eq]; omega) (M.o_grd (by simp only [Bool.and_eq_true, decide_eq_true_eq]; omega) (M.o_grd (by simp only [Bool.and_eq_true, decide_eq_true_eq]; omega) (M.o_grd (by simp only [Bool.and_eq_true, decide_eq_true_eq]; omega) ?_))))
      refine M.o_grd (by simp only [Bool.and_eq_true, decide_eq_true_eq]; omega) (M.o_grd (by simp only [Bool.and_eq_true, decide_eq_true_eq]; omega) (M.o_grd (by simp only [Bool.and_eq_true, decide_eq_true_eq]; omega) (M.o_grd (by simp only [Bool.and_eq_true, decide_eq_true_eq]; omega) ?_)))
      refine M.o_if (fun h2 => ?_) (fun h2 => ?_)
      · refine M.o_grd (by simp only [Bool.and_eq_true, decide_eq_true_eq]; omega) (M.o_grd (by simp only [Bool.and_eq_true, decide_eq_true_eq]; omega) (M.o_grd (by simp only [Bool.and_eq_true, decide_eq_true_eq]; omega) (M.o_pure (pr _ _ (by omega)))))
      · refine M.o_grd (by simp only [Bool.and_eq_true, decide_eq_true_eq]; omega) (M.o_pure (pr _ _ (by omega)))
    · refine M.o_grd (by simp only [Bool.and_eq_true, decide_eq_true_eq]; omega) (M.o_grd (by simp only [Bool.and_eq_true, decide_eq_true_eq]; omega) (M.o_grd (by simp only [Bool.and_eq_true, decide_eq_true_eq]; omega) (M.o_grd (by simp only [Bool.and_eq_true, decide_eq_true_eq]; omega) (M.o_grd (by simp only [Bool.and_eq_true, decide_eq_true_eq]; omega) ?_))))
      refine M.o_if (fun h2 => ?_) (fun h2 => ?_)
      · refine M.o_grd (by simp only [Bool.and_eq_true, decide_eq_true_eq]; omega) (M.o_grd (by simp only [Bool.and_eq_true, decide_eq_true_eq]; omega) (M.o_grd (by simp only [Bool.and_eq_true, decide_eq_true_eq]; omega) (M.o_pure (pr _ _ (by omega)))))
      · refine M.o_grd (by simp only [Bool.and_eq_true, decide_eq_true_eq]; omega) (M.o_pure (pr _ _ (by omega)))
theorem within_out {b : List UInt8} {c u x lo hi : Int} (h : SOk c u x) (hc : c <= 1000000000000) (h0 : -1000 <= lo) (h1 : lo <= hi) (h2 : hi <= 10000) : (zag b u x lo hi).Out (fun y => SOk (c + 1) y.2.1 y.2.2 /\ lo <= y.1 /\ y.1 <= hi) := by
  unfold zag
  refine M.o_grd (gA2 (by omega) (by omega)) (M.o_grd (gA2 (by omega) (by omega)) (M.o_bind (next_out h hc (by omega)) ?_))
  rintro ⟨r, u', x'⟩ ⟨k, hl, _⟩
  have := hl (by omega)
  dsimp only at this k ⊢
  exact M.o_grd (gA2 (by omega) (by omega)) (M.o_pure ⟨k, by dsimp only; omega, by dsimp only; omega⟩)
end Go.Proofs.Ytlemgioaakecpaa
namespace Go.Nm
theorem SOk.zero : SOk 0 0 0 := ⟨Int.le_refl _, Int.le_refl _, Int.le_refl _, by decide⟩
end Go.Nm
namespace Go.Proofs.Ytlemgioaakecpaa
open Go Go.Nm
end Go.Proofs.Ytlemgioaakecpaa
namespace Go.Nm
namespace Fl
theorem getD_app {α : Type} {l : List α} {x d : α} {j : Nat} (h : j < l.length) : (l ++ [x]).getD j d = l.getD j d := by
  simp [List.getD, List.getElem?_append_left h]
theorem getD_appE {α : Type} {l : List α} {x d : α} {j : Nat} (h : l.length = j) : (l ++ [x]).getD j d = x := by
  subst h
  simp [List.getD]
/-- A mark about what was. -/
def Mt (S : List Sect) (t : List Int) (m : Mrk) : Prop := Mok m /\ ∃ j, j < S.length /\ (S.getD j default).place <= m.place /\ m.place <= (S.getD j default).place + 19 /\ m.lo <= t.getD j 0 /\ t.getD j 0 <= m.hi
/-- What is made so far. -/
structure Mi (S : List Sect) (M : List Mrk) (t ro : List Int) (place stage : Int) : Prop where
  tl : t.length = S.length
  rl : ro.length = S.length
  rows : ∀ j, j < S.length -> Rows (S.getD j default).rows /\ 2 <= (S.getD j default).rows.length /\ (S.getD j default).rows.length <= 8
  pl : ∀ j, j < S.length -> 0 <= (S.getD j default).place /\ (S.getD j default).place + 21 <= place
  gap : ∀ i j, i < j -> j < S.length -> (S.getD i default).place + 21 <= (S.getD j default).place
  tr : ∀ j, j < S.length -> stage <= t.getD j 0 /\ t.getD j 0 <= 400
  td : ∀ i j, i <= j -> j < S.length -> t.getD j 0 <= t.getD i 0
  mt : ∀ m ∈ M, Mt S t m
  m8 : M.length <= 8
  ro0 : ∀ j, j < S.length -> 30 <= ro.getD j 0 /\ ro.getD j 0 <= 90
  p0 : 0 <= place
  p1 : place <= 50 + 200 * S.length
  s0 : 100 <= stage + 19 * S.length
  s1 : stage <= 400
theorem Mt.app {S : List Sect} {t : List Int} {m : Mrk} {s : Sect} {v : Int} (hl : t.length = S.length) (h : Mt S t m) : Mt (S ++ [s]) (t ++ [v]) m := by
  obtain ⟨h0, j, h1, h2⟩ := h
  refine ⟨h0, j, by simp; omega, ?_⟩
  rw [getD_app h1, getD_app (by omega)]
  exact h2
theorem Mi.step {S : List Sect} {M M' : List Mrk} {t ro : List Int} {place stage p q r : Int} {rows : List FRow} (h : Mi S M t ro place stage) (hr : Rows rows) (h2 : 2 <= rows.length) (h8 : rows.length <= 8) (hm : ∀ m ∈ M', Mt (S ++ [⟨place, rows⟩]) (t ++ [stage]) m) (m8 : M'.length <= 8)
    (hp : 21 <= p /\ p <= 200) (hq : 0 <= q /\ q <= 19) (hro : 30 <= r /\ r <= 90) : Mi (S ++ [⟨place, rows⟩]) M' (t ++ [stage]) (ro ++ [r]) (place + p) (stage - q) := by
  have e1 := h.tl
  have e2 := h.rl
  have p0 := h.p0
  have p1 := h.p1
  have s0 := h.s0
  have s1 := h.s1
  have split : ∀ j, j < (S ++ [(⟨place, rows⟩ : Sect)]).length -> j < S.length ∨ j = S.length := fun j hj => by simp at hj; omega
  refine ⟨by simp [e1], by simp [e2], fun j hj => ?_, fun j hj => ?_, fun i j hij hj => ?_, fun j hj => ?_, fun i j hij hj => ?_, hm, m8, fun j hj => ?_, by omega, by simp; omega, by simp; omega, by omega⟩
  · rcases split j hj with e | rfl
    · rw [getD_app e]; exact h.rows j e
    · rw [getD_appE rfl]; exact ⟨hr, h2, h8⟩
  · rcases split j hj with e | rfl
    · rw [getD_app e]; have := h.pl j e; omega
    · rw [getD_appE rfl]; dsimp only; omega
  · rcases split j hj with e | rfl
    · rw [getD_app e, getD_app (by omega)]; exact h.gap i j hij e
    · rw [getD_appE rfl, getD_app hij]; exact (h.pl i hij).2
  · rcases split j hj with e | rfl
    · rw [getD_app (by omega)]; have := h.tr j e; omega
    · rw [getD_appE e1]; omega
  · rcases split j hj with e | rfl
    · rw [getD_app (by omega), getD_app (by omega)]; exact h.td i j hij e
    · rw [getD_appE e1]
      rcases Nat.lt_or_eq_of_le hij with e | rfl
      · rw [getD_app (by omega)]; exact (h.tr i e).1
      · rw [getD_appE e1]; exact Int.le_refl _
  · rcases split j hj with e | rfl
    · rw [getD_app (by omega)]; exact h.ro0 j e
    · rw [getD_appE e2]; exact hro
end Fl
end Go.Nm
namespace Go.Proofs.Ytlemgioaakecpaa
open Go Go.Nm
theorem b6_out {b : List UInt8} {c u x a0 c0 K : Int} (hS : SOk c u x) (hc : c <= 100000) (ha : 0 <= a0 /\ a0 <= 60) (hc0 : 0 <= c0 /\ c0 <= 50) (hK : 2 <= K /\ K <= 4) :
    (M.iter (zaG b) (u, x, a0, c0, K, [])).Out (fun z => SOk (c + 10) z.1 z.2.1 /\ Fl.Rows z.2.2.2 /\ 2 <= z.2.2.2.length /\ z.2.2.2.length <= 8) := by
  refine M.o_iter (fun m (s : Int × Int × Int × Int × Int × List FRow) => m = s.2.2.2.2.1.toNat /\ 0 <= s.2.2.2.2.1 /\ s.2.2.2.2.1 + s.2.2.2.2.2.length = K /\ SOk (c + 2 * s.2.2.2.2.2.length) s.1 s.2.1 /\ Fl.Rows s.2.2.2.2.2 /\ (∀ e ∈ s.2.2.2.2.2, e.stage < s.2.2.1 /\ e.carry <= s.2.2.2.1) /\ 0 <= s.2.2.1 /\ s.2.2.1 <= 60 + 200 * s.2.2.2.2.2.length /\ 0 <= s.2.2.2.1 /\ s.2.2.2.1 <= 50 + 2000 * s.2.2.2.2.2.length) ?_ _ (u, x, a0, c0, K, []) ⟨rfl, by dsimp only; omega, by simp, by simpa using hS, trivial, fun e he => (List.not_mem_nil he).elim, ha.1, by simp; omega, hc0.1, by simp; omega⟩
  rintro m ⟨u, x, a, ca, k, l⟩ ⟨rfl, k0, kl, hS, hr, he, a1, a2, c1, c2⟩
  dsimp only at k0 kl hS hr he a1 a2 c1 c2 ⊢
  simp only [zaG]
  refine M.o_if (fun hb => ?_) (fun hb => ?_)
  · have hb := of_decide_eq_true hb
    refine M.o_grd (decide_eq_true (by simp; omega)) (M.o_bind (within_out hS (by omega) (by omega) (by omega) (by omega)) ?_)
    rintro ⟨r8, u8, x8⟩ ⟨k8, g8, g8'⟩
    dsimp only at k8 g8 g8' ⊢
    refine M.o_grd (gA2 (by omega) (by omega)) (M.o_bind (next_out k8 (by omega) (by omega)) ?_)
    rintro ⟨r9, u9, x9⟩ ⟨k9, g9, _⟩
    have g9 := g9 (by omega)
    dsimp only at k9 g9 ⊢
    refine M.o_grd (gA2 (by omega) (by omega)) (M.o_grd (gA2 (by omega) (by omega)) (M.o_pure ⟨(k - 1).toNat, by omega, rfl, by dsimp only; omega, by simp; omega, k9.mono (by simp; omega), hr.snoc he a1 (by dsimp only; omega) c1 (by dsimp only; omega), fun e h => ?_, by dsimp only; omega, by simp; omega, by dsimp only; omega, by simp; omega⟩))
    rcases List.mem_append.1 h with h | h
    · have := he e h
      dsimp only
      omega
    · rw [List.mem_singleton] at h
      subst h
      dsimp only
      omega
  · have hb := of_decide_eq_false hb
    exact M.o_pure ⟨hS.mono (by omega), hr, by dsimp only; omega, by dsimp only; omega⟩
theorem b7_out {b : List UInt8} {c u x place stage k : Int} (P : Mrk -> Prop) (hP : ∀ d e f : Int, 0 <= d -> d <= 19 -> 0 <= e -> e <= 8 -> 0 <= f -> f <= 8 -> P ⟨place + d, max 0 (stage - e), stage + f⟩) (hS : SOk c u x) (hc : c <= 100000) (hk : 0 <= k /\ k <= 2) (hp : 0 <= place /\ place <= 10000) (hs : 0 <= stage /\ stage <= 1000) {l : List Mrk} (hl : l.length <= 8) (h0 : ∀ m ∈ l, P m) :
    (M.iter (zaJ b 8 false place stage) (u, x, k, l)).Out (fun z => SOk (c + 8) z.1 z.2.1 /\ (∀ m ∈ z.2.2.2, P m) /\ z.2.2.2.length <= 8) := by
  refine M.o_iter (fun m (s : Int × Int × Int × List Mrk) => m = s.2.2.1.toNat /\ 0 <= s.2.2.1 /\ s.2.2.1 <= 2 /\ SOk (c + 4 * (2 - s.2.2.1)) s.1 s.2.1 /\ (∀ m ∈ s.2.2.2, P m) /\ s.2.2.2.length <= 8) ?_ _ (u, x, k, l) ⟨rfl, hk.1, hk.2, hS.mono (by dsimp only; omega), h0, hl⟩
  rintro m ⟨u, x, k, l⟩ ⟨rfl, k0, k2, hS, hm, h8⟩
  dsimp only at k0 k2 hS hm h8 ⊢
  simp only [zaJ]
  refine M.o_if (fun hb => ?_) (fun hb => ?_)
  · rw [Bool.and_eq_true, decide_eq_true_eq, decide_eq_true_eq] at hb
    refine M.o_bind (next_out hS (by omega) (by omega)) ?_
    rintro ⟨r1, u1, x1⟩ ⟨k1, g1, _⟩
    have g1 := g1 (by omega)
    dsimp only at k1 g1 ⊢
    refine M.o_bind (next_out k1 (by omega) (by omega)) ?_
    rintro ⟨r2, u2, x2⟩ ⟨kk2, g2, _⟩
    have g2 := g2 (by omega)
    dsimp only at kk2 g2 ⊢
    have hd : 0 <= r1 * r2 /\ r1 * r2 <= 19 := by
      rcases (by omega : r1 = 0 ∨ r1 = 1) with rfl | rfl
      · simp
      · simp; omega
    generalize r1 * r2 = d at hd ⊢
    refine M.o_grd (gA2 (by omega) (by omega)) (M.o_grd (gA2 (by omega) (by omega)) (M.o_bind (next_out kk2 (by omega) (by omega)) ?_))
    rintro ⟨r3, u3, x3⟩ ⟨k3, g3, _⟩
    have g3 := g3 (by omega)
    dsimp only at k3 g3 ⊢
    refine M.o_grd (gA2 (by omega) (by omega)) (M.o_bind (next_out k3 (by omega) (by omega)) ?_)
    rintro ⟨r4, u4, x4⟩ ⟨k4, g4, _⟩
    have g4 := g4 (by omega)
    dsimp only at k4 g4 ⊢
    refine M.o_grd (gA2 (by omega) (by omega)) (M.o_f rfl (M.o_grd (decide_eq_true (by simp; omega)) (M.o_grd (gA2 (by omega) (by omega)) (M.o_pure ⟨(k - 1).toNat, by omega, rfl, by dsimp only; omega, by dsimp only; omega, k4.mono (by dsimp only; omega), fun m h => ?_, by simp; omega⟩))))
    rcases List.mem_append.1 h with h | h
    · exact hm m h
    · rw [List.mem_singleton] at h
      subst h
      exact hP _ _ _ hd.1 hd.2 (by omega) (by omega) (by omega) (by omega)
  · exact M.o_pure ⟨hS.mono (by omega), hm, h8⟩
end Go.Proofs.Ytlemgioaakecpaa
namespace Go.Proofs.Ytlemgioaakecpaa
open Go Go.Nm
theorem b9_out {b : List UInt8} {u x p s N : Int} (hS : SOk 3 u x) (hp : 0 <= p /\ p <= 50) (hs : 100 <= s /\ s <= 400) (hN : 2 <= N /\ N <= 5) :
    (M.iter (zaH b 8 false) (u, x, p, s, N, [], [], [], [])).Out (fun z => ∃ S M t ro place stage, z = (z.1, z.2.1, S, M, t, ro, ro, t, M, S) /\ SOk 1000 z.1 z.2.1 /\ Fl.Mi S M t ro place stage /\ 2 <= S.length /\ S.length <= 5) := by
  refine M.o_iter (fun m (z : Int × Int × Int × Int × Int × List Sect × List Mrk × List Int × List Int) => m = z.2.2.2.2.1.toNat /\ 0 <= z.2.2.2.2.1 /\ z.2.2.2.2.1 + z.2.2.2.2.2.1.length = N /\ SOk (3 + 100 * z.2.2.2.2.2.1.length) z.1 z.2.1 /\ Fl.Mi z.2.2.2.2.2.1 z.2.2.2.2.2.2.1 z.2.2.2.2.2.2.2.1 z.2.2.2.2.2.2.2.2 z.2.2.1 z.2.2.2.1) ?_ _ (u, x, p, s, N, [], [], [], []) ⟨rfl, by dsimp only; omega, by simp, by simpa using hS, ?_⟩
  · rintro m ⟨u, x, place, stage, n, S, M1, t, ro⟩ ⟨rfl, n0, nl, hS, h⟩
    dsimp only at n0 nl hS h ⊢
    simp only [zaH]
    have e1 := h.tl
    have e2 := h.rl
    have p0 := h.p0
    have p1 := h.p1
    have s0 := h.s0
    have s1 := h.s1
    refine M.o_if (fun hb => ?_) (fun hb => ?_)
    · have hb := of_decide_eq_true hb
      refine M.o_bind (next_out hS (by omega) (by omega)) ?_
      rintro ⟨r5, u5, x5⟩ ⟨k5, g5, _⟩
      have g5 := g5 (by omega)
      dsimp only at k5 g5 ⊢
      refine M.o_bind (next_out k5 (by omega) (by omega)) ?_
      rintro ⟨r6, u6, x6⟩ ⟨k6, g6, _⟩
      have g6 := g6 (by omega)
      dsimp only at k6 g6 ⊢
      refine M.o_bind (within_out k6 (by omega) (by omega) (by omega) (by omega)) ?_
      rintro ⟨r7, u7, x7⟩ ⟨k7, g7, g7'⟩
      dsimp only at k7 g7 g7' ⊢
      refine M.o_bind (b6_out k7 (by omega) (by omega) (by omega) ⟨g7, g7'⟩) ?_
      rintro ⟨u8, x8, l2, rows⟩ ⟨k8, hr, hr2, hr8⟩
      dsimp only at k8 hr hr2 hr8 ⊢
      refine M.o_grd (decide_eq_true (by simp; omega)) (M.o_grd (decide_eq_true (by simp; omega)) (M.o_bind (within_out k8 (by omega) (by omega) (by omega) (by omega)) ?_))
      rintro ⟨r10, u10, x10⟩ ⟨k10, g10, g10'⟩
      dsimp only at k10 g10 g10' ⊢
      refine M.o_grd (decide_eq_true (by simp; omega)) ?_
      unfold zbB
      refine M.o_bind (next_out k10 (by omega) (by omega)) ?_
      rintro ⟨r11, u11, x11⟩ ⟨k11, g11, _⟩
      have g11 := g11 (by omega)
      dsimp only at k11 g11 ⊢
      refine M.o_bind (b7_out (Fl.Mt (S ++ [⟨place, rows⟩]) (t ++ [stage])) (fun d e f d0 d1 e0 e1' f0 f1 => ?_) k11 (by omega) (by omega) (by omega) (by omega) h.m8 (fun m hm => (h.mt m hm).app e1)) ?_
      · refine ⟨⟨by dsimp only; omega, by dsimp only; omega, by dsimp only; omega, by dsimp only; omega, by dsimp only; omega⟩, S.length, by simp, ?_⟩
        rw [Fl.getD_appE rfl, Fl.getD_appE e1]
        dsimp only
        omega
      rintro ⟨u12, x12, l5, M2⟩ ⟨k12, hm2, m8⟩
      dsimp only at k12 hm2 m8 ⊢
      refine M.o_bind (within_out k12 (by omega) (by omega) (by omega) (by omega)) ?_
      rintro ⟨r19, u19, x19⟩ ⟨k19, g19, g19'⟩
      dsimp only at k19 g19 g19' ⊢
      refine M.o_grd (gA2 (by omega) (by omega)) (M.o_bind (next_out k19 (by omega) (by omega)) ?_)
      rintro ⟨r20, u20, x20⟩ ⟨k20, g20, _⟩
      have g20 := g20 (by omega)
      dsimp only at k20 g20 ⊢
      exact M.o_grd (gA2 (by omega) (by omega)) (M.o_grd (gA2 (by omega) (by omega)) (M.o_pure ⟨(n - 1).toNat, by omega, rfl, by dsimp only; omega, by simp; omega, k20.mono (by simp; omega), h.step hr hr2 hr8 hm2 m8 ⟨g19, g19'⟩ (by omega) ⟨g10, g10'⟩⟩))
    · have hb := of_decide_eq_false hb
      exact M.o_pure ⟨S, M1, t, ro, place, stage, rfl, hS.mono (by omega), h, by omega, by omega⟩
  · refine ⟨rfl, rfl, fun j hj => ?_, fun j hj => ?_, fun i j _ hj => ?_, fun j hj => ?_, fun i j _ hj => ?_, fun m hm => (List.not_mem_nil hm).elim, by simp, fun j hj => ?_, hp.1, by simp; omega, by simp; omega, hs.2⟩ <;> simp at hj
theorem b10_out {b : List UInt8} {u x N : Int} {S : List Sect} {ro : List Int} (hS : SOk 2000 u x) (hn : 2 <= S.length /\ S.length <= 5) (hl : ro.length = S.length) (hro : ∀ j, j < S.length -> 30 <= ro.getD j 0 /\ ro.getD j 0 <= 90) (hN : 1 <= N /\ N <= 4) :
    (M.iter (zaQ b ro S) (u, x, N, [])).Out (fun z => z.1 = z.2.1 /\ 1 <= z.1.length /\ z.1.length <= 4 /\ ∀ r ∈ z.1, Fl.Rok S r /\ r.lo <= ro.getD (Int.toNat r.up) 0 /\ r.lo <= ro.getD (Int.toNat r.down) 0 /\ ro.getD (Int.toNat r.up) 0 <= r.hi /\ ro.getD (Int.toNat r.down) 0 <= r.hi) := by
  refine M.o_iter (fun m (s : Int × Int × Int × List Rch) => m = s.2.2.1.toNat /\ 0 <= s.2.2.1 /\ s.2.2.1 + s.2.2.2.length = N /\ SOk (2000 + 10 * s.2.2.2.length) s.1 s.2.1 /\ ∀ r ∈ s.2.2.2, Fl.Rok S r /\ r.lo <= ro.getD (Int.toNat r.up) 0 /\ r.lo <= ro.getD (Int.toNat r.down) 0 /\ ro.getD (Int.toNat r.up) 0 <= r.hi /\ ro.getD (Int.toNat r.down) 0 <= r.hi) ?_ _ (u, x, N, []) ⟨rfl, by dsimp only; omega, by simp, by simpa using hS, fun r hr => (List.not_mem_nil hr).elim⟩
  rintro m ⟨u, x, n, l⟩ ⟨rfl, n0, nl, hS, hr⟩
  dsimp only at n0 nl hS hr ⊢
  simp only [zaQ]
  refine M.o_if (fun hb => ?_) (fun hb => ?_)
  · have hb := of_decide_eq_true hb
    refine M.o_bind (next_out hS (by omega) (by omega)) ?_
    rintro ⟨a, u1, x1⟩ ⟨k1, g1, _⟩
    have g1 := g1 (by omega)
    dsimp only at k1 g1 ⊢
    refine M.o_bind (next_out k1 (by omega) (by omega)) ?_
    rintro ⟨w, u2, x2⟩ ⟨k2, g2, _⟩
    dsimp only at k2 ⊢
    refine M.o_grd (gA2 (by omega) (by omega)) (M.o_bind (within_out k2 (by omega) (by omega) (by omega) (by omega)) ?_)
    rintro ⟨d, u3, x3⟩ ⟨k3, g3, g3'⟩
    dsimp only at k3 g3 g3' ⊢
    have ra := hro (Int.toNat a) (by omega)
    have rb := hro (Int.toNat (a + d)) (by omega)
    refine M.o_grd (gA2 (by omega) (by omega)) (M.o_grd (gA2 (by omega) (by omega)) (M.o_grd (gA2 (by omega) (by omega)) (M.o_bind (next_out k3 (by omega) (by omega)) ?_)))
    rintro ⟨e, u4, x4⟩ ⟨k4, g4, _⟩
    have g4 := g4 (by omega)
    dsimp only at k4 g4 ⊢
    refine M.o_grd (gA2 (by omega) (by omega)) (M.o_bind (next_out k4 (by omega) (by omega)) ?_)
    rintro ⟨f, u5, x5⟩ ⟨k5, g5, _⟩
    have g5 := g5 (by omega)
    dsimp only at k5 g5 ⊢
    refine M.o_grd (gA2 (by omega) (by omega)) (M.o_grd (decide_eq_true (by simp; omega)) (M.o_grd (gA2 (by omega) (by omega)) (M.o_pure ⟨(n - 1).toNat, by omega, rfl, by dsimp only; omega, by simp; omega, k5.mono (by simp; omega), fun r h => ?_⟩)))
    rcases List.mem_append.1 h with h | h
    · exact hr r h
    · rw [List.mem_singleton] at h
      subst h
      dsimp only
      exact ⟨⟨by dsimp only; omega, by dsimp only; omega, by dsimp only; omega, by dsimp only; omega, by dsimp only; omega, by dsimp only; omega⟩, by omega, by omega, by omega, by omega⟩
  · have hb := of_decide_eq_false hb
    exact M.o_pure ⟨rfl, by dsimp only; omega, by dsimp only; omega, hr⟩
theorem truth_of {S : List Sect} {M' : List Mrk} {R : List Rch} {t ro : List Int} {place stage : Int} (h : Fl.Mi S M' t ro place stage) (hn : 2 <= S.length /\ S.length <= 5) (hm : 1 <= M'.length) (hr : 1 <= R.length /\ R.length <= 4)
    (hR : ∀ r ∈ R, Fl.Rok S r /\ r.lo <= ro.getD (Int.toNat r.up) 0 /\ r.lo <= ro.getD (Int.toNat r.down) 0 /\ ro.getD (Int.toNat r.up) 0 <= r.hi /\ ro.getD (Int.toNat r.down) 0 <= r.hi) : Fl.Truth S M' R t ro := by
  have p1 := h.p1
  have s0 := h.s0
  have m8 := h.m8
  refine ⟨⟨⟨by omega, h.rows, fun i hi => ?_, fun i j hij hj => ?_⟩, by omega, by omega, fun m hm => (h.mt m hm).1, fun r hr => (hR r hr).1⟩, h.m8, h.tl, h.rl, fun i hi => ?_, h.td, h.gap, fun m hm => (h.mt m hm).2, fun i hi => ?_, fun r hr => (hR r hr).2⟩
  · have := h.pl i hi; omega
  · have := h.gap i j hij hj; omega
  · have := h.tr i hi; omega
  · have := h.ro0 i hi; omega
theorem j11_out {b : List UInt8} {u x : Int} {S : List Sect} {M' : List Mrk} {t ro : List Int} {place stage : Int} (h : Fl.Mi S M' t ro place stage) (hn : 2 <= S.length /\ S.length <= 5) (hm : 1 <= M'.length) (hS : SOk 1000 u x) :
    (zaD b u x ro t S M').Out (fun z => Fl.Truth z.1 z.2.1 z.2.2.1 z.2.2.2.1 z.2.2.2.2.1) := by
  unfold zaD
  refine M.o_bind (within_out hS (by omega) (by omega) (by omega) (by omega)) ?_
  rintro ⟨r, u1, x1⟩ ⟨k1, g1, g1'⟩
  dsimp only at k1 g1 g1' ⊢
  refine M.o_bind (b10_out (k1.mono (by omega)) hn h.rl h.ro0 ⟨g1, g1'⟩) ?_
  rintro ⟨l, l', u2, x2⟩ ⟨e, h1, h2, h3⟩
  dsimp only at e h1 h2 h3 ⊢
  subst e
  exact M.o_pure (truth_of h hn hm ⟨h1, h2⟩ h3)
theorem Made_out {b : List UInt8} : (zbn b 0 0 8 false).Out (fun z => Fl.Truth z.1 z.2.1 z.2.2.1 z.2.2.2.1 z.2.2.2.2.1) := by
  unfold zbn
  refine M.o_bind (next_out SOk.zero (by omega) (by omega)) ?_
  rintro ⟨r2, u1, x1⟩ ⟨k1, g1, _⟩
  have g1 := g1 (by omega)
  dsimp only at k1 g1 ⊢
  refine M.o_bind (within_out k1 (by omega) (by omega) (by omega) (by omega)) ?_
  rintro ⟨r3, u2, x2⟩ ⟨k2, g2, g2'⟩
  dsimp only at k2 g2 g2' ⊢
  refine M.o_bind (within_out k2 (by omega) (by omega) (by omega) (by omega)) ?_
  rintro ⟨r4, u3, x3⟩ ⟨k3, g3, g3'⟩
  dsimp only at k3 g3 g3' ⊢
  refine M.o_bind (b9_out (k3.mono (by omega)) (by omega) ⟨g2, g2'⟩ ⟨g3, g3'⟩) ?_
  rintro ⟨u4, x4, z⟩ ⟨S, M', t, ro, place, stage, e, k4, h, n2, n5⟩
  obtain rfl := (Prod.mk.inj (Prod.mk.inj e).2).2
  dsimp only at k4 ⊢
  have p1 := h.p1
  have s0 := h.s0
  refine M.o_if (fun hb => ?_) (fun hb => ?_)
  · rw [beq_iff_eq] at hb
    have hz : M'.length = 0 := by omega
    have t0 := h.tr 0 (by omega)
    have p0 := h.pl 0 (by omega)
    have tl := h.tl
    refine M.o_grd (decide_eq_true (by omega)) (M.o_grd (decide_eq_true (by omega)) (M.o_grd (gA2 (by omega) (by omega)) (M.o_grd (gA2 (by omega) (by omega)) (M.o_grd (decide_eq_true (by simp; omega)) (j11_out (place := place) (stage := stage) ?_ ⟨n2, n5⟩ (by simp) k4)))))
    have hm : Fl.Mt S t ⟨(S.getD 0 default).place, t.getD 0 0 - 5, t.getD 0 0 + 5⟩ := ⟨⟨by dsimp only; omega, by dsimp only; omega, by dsimp only; omega, by dsimp only; omega, by dsimp only; omega⟩, 0, by omega, by dsimp only; omega⟩
    exact ⟨h.tl, h.rl, h.rows, h.pl, h.gap, h.tr, h.td, fun m hmm => by
      rcases List.mem_append.1 hmm with hmm | hmm
      · exact h.mt m hmm
      · rw [List.mem_singleton] at hmm
        subst hmm
        exact hm, by simp; omega, h.ro0, h.p0, h.p1, h.s0, h.s1⟩
  · rw [beq_eq_false_iff_ne] at hb
    exact j11_out h ⟨n2, n5⟩ (by omega) k4
end Go.Proofs.Ytlemgioaakecpaa
namespace Go.Proofs.Ytlemgioaakecpaa
open Go Go.Nm
theorem zc8 (numbers : List UInt8) : (zce numbers).Ends true := by
  refine M.Out.ends ?_
  unfold zce
  refine M.o_bindE (by unfold zbQ; exact M.i_pure) (M.o_bind Made_out ?_)
  rintro ⟨S, M', R', t, ro, u, x⟩ h
  dsimp only at h ⊢
  have hm := h.site.m
  refine M.o_bindE (every_ends hm.2) (M.o_bind (Most_out h.site fun a b a0 a1 b0 b1 => ?_) ?_)
  · have := ahead_ends (S := S) (R' := R') ⟨a0, a1⟩ ⟨b0, b1⟩
    have la : Int.toNat a < M'.length := by omega
    have lb : Int.toNat b < M'.length := by omega
    rwa [show (decide ((M'.getD (Int.toNat a) default).place <= (M'.getD (Int.toNat b) default).place) && decide ((M'.getD (Int.toNat a) default).hi < (M'.getD (Int.toNat b) default).lo)) = false by
      rw [Bool.and_eq_false_iff, decide_eq_false_iff_not, decide_eq_false_iff_not, getD_el M' la, getD_el M' lb]
      have := h.no (List.getElem_mem la) (List.getElem_mem lb)
      omega] at this
  · rintro ⟨l, e⟩ ⟨rfl, hl⟩
    dsimp only at hl ⊢
    refine M.o_bindE (Surface_ends h.site (Fl.ints_inc M') (h.tog (Fl.ints_ix M'))) (M.o_f ?_ (M.o_bindE (b0_ends h) (M.o_bindE (b1_ends h) (M.o_bindE awake_ends (M.o_pure rfl)))))
    rw [hl, Fl.ints_len, Fl.surf_len]
    simp
end Go.Proofs.Ytlemgioaakecpaa
