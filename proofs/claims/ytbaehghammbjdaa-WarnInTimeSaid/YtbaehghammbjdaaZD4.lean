/- Part 4 of the texts on which the proof rests. Conditions: none. -/
import Derived.KernelRfl
import Derived.Test.YtbaehghammbjdaaZD3
set_option linter.unusedVariables false
set_option linter.unusedSimpArgs false
set_option linter.unusedSectionVars false
section
set_option maxRecDepth 100000
set_option maxHeartbeats 16000000
namespace Go.Proofs.Ytbaehghammbjdaa
open Go Go.Nm
def za4 (ar : List Bool) (r4 : List Int) : Nat -> M (Nat ⊕ (Unit ⊕ Unit)) := fun s =>
  bif decide ((s : Int) < (r4.length : Int)) then (
  M.grd (decide ((s : Int) < (r4.length : Int))) <|
  M.grd (decide ((0 : Int) <= (r4.getD s 0)) && decide ((r4.getD s 0) < (12 : Int))) <|
  bif ar.getD (Int.toNat (r4.getD s 0)) false then (
  M.pure (.inr (.inl ())))
  else (
  M.pure (.inl (s + 1))))
  else (
  M.pure (.inr (.inr ())))
def zaO (aa : List Int) (ab : List Span) (ac : List Int) (ae : List Town) (ah : Int) (ai : Int) (aj : List Flood) (l_x : List Dem) : (Nat × (List Bool) × (List Int) × (List Dem)) -> M ((Nat × (List Bool) × (List Int) × (List Dem)) ⊕ ((List Int) × (List Dem) × (List Int) × (List Dem) × (List Bool))) := fun (s2, ar, l, l2) =>
  bif decide ((s2 : Int) < (l_x.length : Int)) then (
  M.grd (decide ((s2 : Int) < (l_x.length : Int))) <|
  M.bind (zaa aa ab ac ae ah ai aj (l_x.getD s2 default)) fun r4 =>
  M.bind (M.iter (za4 ar r4) 0) fun x_ => match x_ with
  | (.inl (_ : Unit)) => (
  M.pure (.inl (s2 + 1, ar, l, l2)))
  | (.inr (_ : Unit)) => (
  M.grd (decide ((0 : Int) <= ((r4.length : Int) - 1)) && decide (((r4.length : Int) - 1) < (r4.length : Int))) <|
  M.grd (decide ((0 : Int) <= (r4.getD (Int.toNat ((r4.length : Int) - 1)) 0)) && decide ((r4.getD (Int.toNat ((r4.length : Int) - 1)) 0) < (12 : Int))) <|
  M.grd (decide ((l.length + ([(r4.getD (Int.toNat ((r4.length : Int) - 1)) 0 : Int)]).length) * 8 <= 140737488355328)) <|
  M.grd (decide ((l2.length + ([(l_x.getD s2 default)]).length) * 16 <= 140737488355328)) <|
  M.pure (.inl (s2 + 1, ar.set (Int.toNat (r4.getD (Int.toNat ((r4.length : Int) - 1)) 0)) true, l ++ ([(r4.getD (Int.toNat ((r4.length : Int) - 1)) 0 : Int)]), l2 ++ ([(l_x.getD s2 default)])))))
  else (
  M.pure (.inr (l, l2, l, l2, ar)))
def zaX (aa : List Int) (ab : List Span) (ac : List Int) (ae : List Town) (ah : Int) (ai : Int) (aj : List Flood) : M ((List Int) × (List Dem) × Bool) :=
  M.bind (zah aa ab ac ae ah ai aj) fun r2 =>
  M.bind (zch r2 aa ab ac ae ah ai aj) fun r3 =>
  bif !r3 then (
  M.pure (([]), ([]), false))
  else (
  M.bind (zcg r2 aa ab ac ae ah ai aj aa ab ac ae ah ai aj) fun l_x =>
  M.bind (M.iter (zaO aa ab ac ae ah ai aj l_x) (0, List.replicate 12 false, [], [])) fun (l3, l4, l5, l6, ak) =>
  M.grd (decide (l5.length <= 1000000)) <|
  M.pure ((isort l5), l6, true))
theorem zdj {R : List Chunk} {aa : Nat} {a8 : Cells} {ba : Value} {bb : Cells} {bc : Value} {bf : Cells} {bg : Value} {bh : Cells} {bi : Value} {bj : Cells} {bm : Value} {ax : Nat} {bE : Base} (ab : List Int) (ac : List Span) (ae : List Int) (ah : List Town) (ai : Int) (aj : Int) (ak : List Flood) (aB : Reads R a8) (aC : Sl a8 ba ab) (aD : Reads R bb) (aE : Sl bb bc ac) (aF : Reads R bf) (aG : Sl bf bg ae) (aH : Reads R bh) (aI : Sl bh bi ah) (aJ : Reads R bj) (aK : Sl bj bm ak) (aL : Has R (cBlk aa [ba, bc, bg, bi, I ai, I aj, bm, .map (some ax)] 86)) {r : ((List Int) × (List Dem) × Bool)} (hM : (zaX ab ac ae ah ai aj ak).Ends r) (w : World) (H : St w w [cMem encDm ax bE (zaa ab ac ae ah ai aj ak)] R) : Ret Try.prog 50 #[Pq aa] w fun v w' => ∃ (y0 : List Int) (y1 : List Dem) (y2 : Bool) (u0 : Value) (u1 : Value) (bF : Base), (y0, y1, y2) = r /\ v = .tuple #[u0, u1, B y2] /\ St w w' [cOwn (α := Int) 3 u0 y0, cOwn (α := Dem) 62 u1 y1, cMem encDm ax bF (zaa ab ac ae ah ai aj ak)] R := by
 refine ret_of_W Try.func50 rfl rfl rfl ?_
 refine W.seq ?_
 refine W.region rfl ?_
 refine t_box (v := Pq aa) (cs := [Pq aa]) H rfl rfl ?_
 intro aM ck H
 refine zA (.slice none 0 0) rfl ?_
 refine zA (.slice none 0 0) rfl ?_
 refine zA (B false) rfl ?_
 refine s_nil ?_
 refine W.scope ?_
 refine W.seq ?_
 refine W.region rfl ?_
 refine s_val (x_ld (p := Pq aM) (v := Pq aa) rfl (ldb_sc Sc72 (H.bl 0) rfl)) ?_
 obtain ⟨cl, bG, hM⟩ := M.e_bind hM
 refine s_call cf51 [Pq aa] rfl (zbP ab ac ae ah ai aj ak (aB.app _) aC (aD.app _) aE (aF.app _) aG (aH.app _) aI (aJ.app _) aK (aL.app _) bG _ (H.gt 2)) ?_
 rintro vq cm ⟨r2, al, bH, hvq, aw⟩
 subst bH
 subst vq
 try dsimp only at hM
 replace H := H.bk aw
 clear aw
 refine zA al rfl ?_
 refine s_nil ?_
 refine W.seq ?_
 refine W.region rfl ?_
 refine s_val (x_ld (p := Pq aM) (v := Pq aa) rfl (ldb_sc Sc72 (H.bl 1) rfl)) ?_
 refine s_val (x_mf (fs := [Pq aa]) (cs := []) rfl rfl) ?_
 refine t_alloc (cs := [.nilFunc]) H Al106 rfl ?_
 intro ao cn H
 refine t_sw 0 0 [.func (.func 54) #[Pq aa] #[]] (.func (.func 54) #[Pq aa] #[]) H rfl rfl Sz106 rfl rfl rfl rfl ?_
 intro co H
 refine s_nil ?_
 refine W.seq ?_
 refine W.seq ?_
 refine W.region rfl ?_
 refine zM al rfl ?_
 refine s_val (x_mf (fs := []) (cs := [Pq ao]) rfl rfl) ?_
 obtain ⟨cp, bI, hM⟩ := M.e_bind hM
 refine s_call cf60 [al, .func (.func 68) #[] #[Pq ao]] rfl (zc8 r2 ab ac ae ah ai aj ak (rdo 1) (H.os 1) (aB.app _) aC (aD.app _) aE (aF.app _) aG (aH.app _) aI (aJ.app _) aK (aL.app _) (Has.here (k := 0) rfl) bI _ ((H.pk [3, 0, 1, 2]).gt 3)) ?_
 rintro vq cq ⟨r3, bJ, bK, hvq, aw⟩
 subst bK
 subst vq
 try dsimp only at hM
 replace H := H.pk [3, 0, 1, 2] |>.bk aw
 clear aw
 refine s_val (x_not (b := r3) rfl) ?_
 refine s_nil ?_
 refine W.cond (!r3) rfl (fun aT => ?_) (fun aT => ?_)
 ·replace hM := M.e_t hM aT
  refine W.seq ?_
  refine W.region rfl ?_
  refine zA (.slice none 0 0) rfl ?_
  refine zA (.slice none 0 0) rfl ?_
  refine zA (B false) rfl ?_
  refine s_nil ?_
  replace H := H.pk [0]
  refine W.ret ?_
  have aU := M.e_pure hM
  replace H := H.nilOwn (α := Int) 3
  replace H := H.nilOwn (α := Dem) 62
  exact ⟨_, resE_tmp3 rfl, ⟨([]), ([]), false, (.slice none 0 0), (.slice none 0 0), bJ, aU, rfl, (H.pk [1, 0, 2])⟩⟩
 replace hM := M.e_f hM aT
 refine W.skip ?_
 refine W.seq ?_
 refine W.region rfl ?_
 refine s_val (x_mf (fs := []) (cs := [Pq ao, Pq aM]) rfl rfl) ?_
 refine t_alloc (cs := [.nilFunc]) H Al114 rfl ?_
 intro bn ct H
 refine t_sw 0 0 [.func (.func 69) #[] #[Pq ao, Pq aM]] (.func (.func 69) #[] #[Pq ao, Pq aM]) H rfl rfl Sz114 rfl rfl rfl rfl ?_
 intro cu H
 refine s_nil ?_
 refine W.seq ?_
 refine W.region rfl ?_
 refine zM al rfl ?_
 refine s_val (x_mf (fs := []) (cs := [Pq bn]) rfl rfl) ?_
 obtain ⟨cw, bL, hM⟩ := M.e_bind hM
 refine s_call cf70 [al, .func (.func 71) #[] #[Pq bn]] rfl (zdC r2 ab ac ae ah ai aj ak ab ac ae ah ai aj ak (aB.app _) aC (aD.app _) aE (aF.app _) aG (aH.app _) aI (aJ.app _) aK (aL.app _) (Has.here (k := 1) rfl) (aB.app _) aC (aD.app _) aE (aF.app _) aG (aH.app _) aI (aJ.app _) aK (aL.app _) (Has.here (k := 2) rfl) (Has.here (k := 0) rfl) bL _ ((H.pk [3, 1, 0, 2, 4]).gt 3)) ?_
 rintro vq cx ⟨l_x, bM, bN, hvq, aw⟩
 subst bN
 subst vq
 try dsimp only at hM
 replace H := H.pk [3, 1, 0, 2, 4] |>.bk aw
 clear aw
 refine s_nil ?_
 replace H := H.pk [0, 1, 3]
 refine W.seq ?_
 refine W.region rfl ?_
 refine t_alloc (cs := encB (List.replicate 12 false)) H Al74 rfl ?_
 intro aq cy H
 have bO : (List.replicate 12 false).length = 12 := by simp
 refine s_nil ?_
 refine W.seq ?_
 refine W.region rfl ?_
 refine zA (.slice none 0 0) rfl ?_
 refine s_nil ?_
 refine W.seq ?_
 refine W.region rfl ?_
 refine zA (.slice none 0 0) rfl ?_
 refine s_nil ?_
 refine W.seq ?_
 refine W.label ?_
 refine W.seq ?_
 refine W.seq ?_
 refine W.region rfl ?_
 refine zM al rfl ?_
 have cz := ((H.os 1)).len_le
 refine s_val (x_lenS T57.und rfl (H.os 1)) ?_
 refine zM (I 0) rfl ?_
 refine s_nil ?_
 refine W.block ?_
 replace H := H.nilOwn (α := Dem) 62
 replace H := H.nilOwn (α := Int) 3
 obtain ⟨bP, aV, bQ⟩ := M.e_bind hM
 obtain ⟨bR, aV⟩ := M.e_iter aV
 refine W.loop (fun m σ W => ∃ (s2 : Nat) (ar : List Bool) (l : List Int) (l2 : List Dem) (am : Value) (au : Value) (B_mem : Base) (ρ : Env), σ = upds ρ [(6, Pq ao), (8, Pq aq), (9, am), (10, au), (29, al), (30, I (l_x.length : Int)), (31, I (s2 : Int))] /\ M.iterN (zaO ab ac ae ah ai aj ak l_x) m (s2, ar, l, l2) = some bP /\ St w W [cOwn (α := Int) 3 am l, cOwn (α := Dem) 62 au l2, cBlk aq (encB ar) 74, cOwn (α := Dem) 62 al l_x, cMem encDm ax B_mem (zaa ab ac ae ah ai aj ak), cBlk ao [.func (.func 54) #[Pq aa] #[]] 106] R /\ ar.length = 12) ?_ ?_
 ·exact ⟨_, 0, List.replicate 12 false, [], [], (.slice none 0 0), (.slice none 0 0), bM, _, upds_of _ _ ⟨rfl, rfl, rfl, rfl, rfl, rfl, rfl, trivial⟩, aV, H, bO⟩
 rintro cA σ cB ⟨s2, ar, l, l2, am, au, B_mem, ρ, rfl, bo, H, aQ⟩
 obtain ⟨aR, aS, cC, hM, aN⟩ := M.e_iterN bo
 simp only [zaO] at hM
 clear bo
 refine W.seq ?_
 refine W.region rfl ?_
 refine zC (s2 : Int) (l_x.length : Int) (decide ((s2 : Int) < (l_x.length : Int))) rfl rfl rfl ?_
 refine s_nil ?_
 refine W.seq ?_
 refine W.cond (decide ((s2 : Int) < (l_x.length : Int))) rfl (fun aO => ?_) (fun aO => ?_)
 ·replace hM := M.e_t hM aO
  simp only [qy1, qy2, qy3, qy4, qy5, qy6, ne_eq, qy7] at aO
  refine W.skip ?_
  refine W.seq ?_
  refine W.block ?_
  refine W.seq ?_
  refine W.region rfl ?_
  obtain ⟨bS, hM⟩ := M.e_grd hM
  simp only [Bool.and_eq_true, decide_eq_true_eq] at bS
  refine s_val (x_ix (a := al) (b := I (s2 : Int)) (v := vat al 2 (Int.toNat (s2 : Int))) rfl rfl (Sl.ix (α := Dem) T57.und T57.size (H.os 3) (by omega) (by omega))) ?_
  refine s_val (x_ld (p := vat al 2 (Int.toNat (s2 : Int))) (v := .agg #[I ((l_x.getD s2 default).spring), I ((l_x.getD s2 default).town)]) rfl (ld_ag Ag62 Sz62 (At.mono (Dem_atA (H.os 3) (i := (s2 : Int)) (by omega) (by omega)) (H.ol 3)))) ?_
  refine t_alloc (cs := [I 0, I 0]) H Al62 rfl ?_
  intro aA cD H
  refine t_sw 0 0 [I ((l_x.getD s2 default).spring), I ((l_x.getD s2 default).town)] (.agg #[I ((l_x.getD s2 default).spring), I ((l_x.getD s2 default).town)]) H rfl rfl Sz62 rfl rfl rfl rfl ?_
  intro cE H
  refine s_nil ?_
  refine W.seq ?_
  refine W.region rfl ?_
  refine s_val (x_ld (p := Pq ao) (v := .func (.func 54) #[Pq aa] #[]) rfl (ldb_sc Sc106 (H.bl 6) rfl)) ?_
  refine s_val (x_ld (p := Pq aA) (v := .agg #[I ((l_x.getD s2 default).spring), I ((l_x.getD s2 default).town)]) rfl (ldb_ag (ds := [I ((l_x.getD s2 default).spring), I ((l_x.getD s2 default).town)]) Ag62 Sz62 (H.bl 0) rfl rfl)) ?_
  obtain ⟨cF, bT, hM⟩ := M.e_bind hM
  refine s_callm (f := 54) (fs := [Pq aa]) rfl cf54 [.agg #[I ((l_x.getD s2 default).spring), I ((l_x.getD s2 default).town)]] rfl (zbG ab ac ae ah ai aj ak (l_x.getD s2 default) (aB.app _) aC (aD.app _) aE (aF.app _) aG (aH.app _) aI (aJ.app _) aK (aL.app _) bT _ ((H.pk [5, 0, 1, 2, 3, 4, 6]).gt 6)) ?_
  rintro vq cG ⟨r4, av, az, bU, hvq, aw, ay⟩
  subst bU
  subst vq
  try dsimp only at hM
  replace H := H.pk [5, 0, 1, 2, 3, 4, 6] |>.bk aw
  clear aw
  refine zA av rfl ?_
  refine s_nil ?_
  refine W.seq ?_
  refine W.seq ?_
  refine W.region rfl ?_
  refine zM av rfl ?_
  have cH := (ay).len_le
  refine s_val (x_lenS T23.und rfl ay) ?_
  refine zM (I 0) rfl ?_
  refine s_nil ?_
  refine W.block ?_
  obtain ⟨bV, aW, bp⟩ := M.e_bind hM
  obtain ⟨bR, aW⟩ := M.e_iter aW
  refine W.loop (fun m σ W => ∃ (s : Nat) (ρ : Env), σ = upds ρ [(6, Pq ao), (8, Pq aq), (9, am), (10, au), (12, Pq aA), (13, av), (29, al), (30, I (l_x.length : Int)), (31, I (s2 : Int)), (38, av), (39, I (r4.length : Int)), (40, I (s : Int))] /\ M.iterN (za4 ar r4) m s = some bV /\ St w W [cMem encDm ax az (zaa ab ac ae ah ai aj ak), cBlk aA [I ((l_x.getD s2 default).spring), I ((l_x.getD s2 default).town)] 62, cOwn (α := Int) 3 am l, cOwn (α := Dem) 62 au l2, cBlk aq (encB ar) 74, cOwn (α := Dem) 62 al l_x, cBlk ao [.func (.func 54) #[Pq aa] #[]] 106] R) ?_ ?_
  ·exact ⟨_, 0, _, upds_of _ _ ⟨rfl, rfl, rfl, rfl, rfl, rfl, rfl, rfl, rfl, rfl, rfl, rfl, trivial⟩, aW, H⟩
  rintro cI σ cJ ⟨s, ρ, rfl, bq, H⟩
  obtain ⟨bW, bX, cK, hM, aX⟩ := M.e_iterN bq
  simp only [za4] at hM
  clear bq
  refine W.seq ?_
  refine W.region rfl ?_
  refine zC (s : Int) (r4.length : Int) (decide ((s : Int) < (r4.length : Int))) rfl rfl rfl ?_
  refine s_nil ?_
  refine W.seq ?_
  refine W.cond (decide ((s : Int) < (r4.length : Int))) rfl (fun aP => ?_) (fun aP => ?_)
  ·replace hM := M.e_t hM aP
   simp only [qy1, qy2, qy3, qy4, qy5, qy6, ne_eq, qy7] at aP
   refine W.skip ?_
   refine W.seq ?_
   refine W.block ?_
   refine W.seq ?_
   refine W.region rfl ?_
   obtain ⟨bY, hM⟩ := M.e_grd hM
   simp only [Bool.and_eq_true, decide_eq_true_eq] at bY
   refine s_val (x_ix (a := av) (b := I (s : Int)) (v := vat av 1 (Int.toNat (s : Int))) rfl rfl (Sl.ix (α := Int) T23.und T23.size ay (by omega) (by omega))) ?_
   refine s_val (x_ld (p := vat av 1 (Int.toNat (s : Int))) (v := I (r4.getD s 0)) rfl (ld_sc Sc3 (At.mono (Int_at ay (i := (s : Int)) (by omega) (by omega)) (memLe _ (H.get (k := 0) rfl))))) ?_
   refine zA (I (r4.getD s 0)) rfl ?_
   refine s_nil ?_
   refine W.seq ?_
   refine W.region rfl ?_
   refine zM (I (r4.getD s 0)) rfl ?_
   obtain ⟨bZ, hM⟩ := M.e_grd hM
   simp only [Bool.and_eq_true, decide_eq_true_eq] at bZ
   refine s_val (x_ix (a := Pq aq) (b := I (r4.getD s 0)) (v := .pointer (some ⟨aq, 0 + Int.toNat (r4.getD s 0), none⟩)) rfl rfl (run_indexArr Try.underlying74 Sz4 (by omega) (by omega))) ?_
   refine s_val (x_ld (p := .pointer (some ⟨aq, 0 + Int.toNat (r4.getD s 0), none⟩)) (v := B (ar.getD (Int.toNat (r4.getD s 0)) false)) rfl (ldArr Sc4 (H.bl 4) (by omega) (by have b4 := aQ; omega))) ?_
   refine s_nil ?_
   refine W.cond (ar.getD (Int.toNat (r4.getD s 0)) false) rfl (fun aY => ?_) (fun aY => ?_)
   ·replace hM := M.e_t hM aY
    refine W.exit ?_
    have b5 := M.e_inr hM aX
    subst b5
    replace hM := bp
    try dsimp only at hM
    refine W.region rfl ?_
    refine zR (s2 : Int) 1 ((s2 : Int) + 1) rfl rfl rfl (by omega) ?_
    refine zM (I ((s2 : Int) + 1)) rfl ?_
    refine s_nil ?_
    exact ⟨aR, aS, s2 + 1, ar, l, l2, am, au, az, _, upds_of _ _ ⟨rfl, rfl, rfl, rfl, rfl, rfl, rfl, trivial⟩, M.e_inl hM aN, (H.pk [2, 3, 4, 5, 0, 6]), aQ⟩
   replace hM := M.e_f hM aY
   refine W.skip ?_
   refine W.region rfl ?_
   refine zR (s : Int) 1 ((s : Int) + 1) rfl rfl rfl (by omega) ?_
   refine zM (I ((s : Int) + 1)) rfl ?_
   refine s_nil ?_
   exact ⟨bW, bX, s + 1, _, upds_of _ _ ⟨rfl, rfl, rfl, rfl, rfl, rfl, rfl, rfl, rfl, rfl, rfl, rfl, trivial⟩, M.e_inl hM aX, H⟩
  replace hM := M.e_f hM aP
  simp only [qy1, qy2, qy3, qy4, qy5, qy6, ne_eq, qy7] at aP
  refine W.exit ?_
  have b6 := M.e_inr hM aX
  subst b6
  replace hM := bp
  try dsimp only at hM
  refine W.seq ?_
  refine W.region rfl ?_
  refine zM av rfl ?_
  refine zM av rfl ?_
  have cL := (ay).len_le
  refine s_val (x_lenS T23.und rfl ay) ?_
  refine zR (r4.length : Int) 1 ((r4.length : Int) - 1) rfl rfl rfl (by omega) ?_
  obtain ⟨b7, hM⟩ := M.e_grd hM
  simp only [Bool.and_eq_true, decide_eq_true_eq] at b7
  refine s_val (x_ix (a := av) (b := I ((r4.length : Int) - 1)) (v := vat av 1 (Int.toNat ((r4.length : Int) - 1))) rfl rfl (Sl.ix (α := Int) T23.und T23.size ay (by omega) (by omega))) ?_
  refine s_val (x_ld (p := vat av 1 (Int.toNat ((r4.length : Int) - 1))) (v := I (r4.getD (Int.toNat ((r4.length : Int) - 1)) 0)) rfl (ld_sc Sc3 (At.mono (Int_at ay (i := (r4.length : Int) - 1) (by omega) (by omega)) (memLe _ (H.get (k := 0) rfl))))) ?_
  refine zA (I (r4.getD (Int.toNat ((r4.length : Int) - 1)) 0)) rfl ?_
  refine s_nil ?_
  refine W.seq ?_
  refine W.region rfl ?_
  refine zM (I (r4.getD (Int.toNat ((r4.length : Int) - 1)) 0)) rfl ?_
  obtain ⟨b8, hM⟩ := M.e_grd hM
  simp only [Bool.and_eq_true, decide_eq_true_eq] at b8
  refine s_val (x_ix (a := Pq aq) (b := I (r4.getD (Int.toNat ((r4.length : Int) - 1)) 0)) (v := .pointer (some ⟨aq, 0 + Int.toNat (r4.getD (Int.toNat ((r4.length : Int) - 1)) 0), none⟩)) rfl rfl (run_indexArr Try.underlying74 Sz4 (by omega) (by omega))) ?_
  refine t_stArr (k := 4) (b := aq) (l := ar) (l' := ar.set (Int.toNat (r4.getD (Int.toNat ((r4.length : Int) - 1)) 0)) true) (i := r4.getD (Int.toNat ((r4.length : Int) - 1)) 0) (v := true) (L' := [cMem encDm ax az (zaa ab ac ae ah ai aj ak), cBlk aA [I ((l_x.getD s2 default).spring), I ((l_x.getD s2 default).town)] 62, cOwn (α := Int) 3 am l, cOwn (α := Dem) 62 au l2, cBlk aq (encB (ar.set (Int.toNat (r4.getD (Int.toNat ((r4.length : Int) - 1)) 0)) true)) 74, cOwn (α := Dem) 62 al l_x, cBlk ao [.func (.func 54) #[Pq aa] #[]] 106]) H rfl rfl rfl Sz4 (by omega) (by have b4 := aQ; omega) rfl rfl ?_
  intro cM H
  have aZ : (ar.set (Int.toNat (r4.getD (Int.toNat ((r4.length : Int) - 1)) 0)) true).length = 12 := List.length_set.trans aQ
  refine s_nil ?_
  refine W.drawT (fun W => St w W [cMem encDm ax az (zaa ab ac ae ah ai aj ak), cBlk aA [I ((l_x.getD s2 default).spring), I ((l_x.getD s2 default).town)] 62, cBlk aq (encB (ar.set (Int.toNat (r4.getD (Int.toNat ((r4.length : Int) - 1)) 0)) true)) 74, cOwn (α := Dem) 62 al l_x, cBlk ao [.func (.func 54) #[Pq aa] #[]] 106] R) (.q 0 (.q 1 (.q 4 (.q 5 (.l2 2 (.l2 3 (.l 6 (.l 7 (.q 8 (.q 9 .nil)))) 6 (.l 3 (.l 7 (.q 8 (.q 9 .nil))))) 6 (.l 2 (.l 3 (.l 7 (.q 8 (.q 9 .nil)))))))))) mixed (by decide +kernel) rfl ?_
  intro cN br
  replace H := H.ext br
  clear br
  refine ⟨(H.pk [0, 1, 4, 5, 6]), ?_⟩
  refine t_q rfl (fun w' H => x_mv (v := am) rfl) ?_
  refine t_q rfl (fun w' H => x_mv (v := I (r4.getD (Int.toNat ((r4.length : Int) - 1)) 0)) rfl) ?_
  refine t_q rfl (fun w' H => x_mv (v := au) rfl) ?_
  refine t_q rfl (fun w' H => x_ld (p := Pq aA) (v := .agg #[I ((l_x.getD s2 default).spring), I ((l_x.getD s2 default).town)]) rfl (ldb_ag (ds := [I ((l_x.getD s2 default).spring), I ((l_x.getD s2 default).town)]) Ag62 Sz62 (H.bl 1) rfl rfl)) ?_
  obtain ⟨b9, hM⟩ := M.e_grd hM
  simp only [Bool.and_eq_true, decide_eq_true_eq] at b9
  obtain ⟨ca, hM⟩ := M.e_grd hM
  simp only [Bool.and_eq_true, decide_eq_true_eq] at ca
  refine t_l2 rfl rfl ?_ ?_
  ·skip
   refine t_bs (α := Int) T23 [I (r4.getD (Int.toNat ((r4.length : Int) - 1)) 0)] [(r4.getD (Int.toNat ((r4.length : Int) - 1)) 0 : Int)] H rfl (.cons rfl (Flat.rep_enc _ (r4.getD (Int.toNat ((r4.length : Int) - 1)) 0 : Int)) <| .nil) rfl rfl rfl ?_
   intro bt cO H
   have cP := Sl.cells (H.os 0)
   have cQ := Sl.oc (H.os 0)
   have cR := Sl.cells (H.os 3)
   have cS := Sl.oc (H.os 3)
   have cT := Sl.cells (H.os 4)
   have cU := Sl.oc (H.os 4)
   refine s_nil ⟨(H.pk [1, 2, 5, 6, 7]), ?_⟩
   refine t_l2 rfl rfl ?_ ?_
   ·skip
    refine t_app (α := Int) (k := 3) (l := l) (l2 := [(r4.getD (Int.toNat ((r4.length : Int) - 1)) 0 : Int)]) (l' := l ++ ([(r4.getD (Int.toNat ((r4.length : Int) - 1)) 0 : Int)])) (vy := bt) T23 rfl H rfl rfl rfl (H.os 0) (H.ol 0) (rfl) (by first | omega | (simp only [List.length_nil] at *; omega)) ?_
    intro bu cV H
    replace H := H.nf
    have cW := Sl.cells (H.os 3)
    have cX := Sl.oc (H.os 3)
    refine s_nil ⟨(H.pk [1, 2, 5, 6, 7]), ?_⟩
    refine t_l rfl ?_
    refine t_bs (α := Dem) T57 [.agg #[I ((l_x.getD s2 default).spring), I ((l_x.getD s2 default).town)]] [(l_x.getD s2 default)] H rfl (.cons rfl (Flat.rep_enc _ (l_x.getD s2 default)) <| .nil) rfl rfl rfl ?_
    intro cb cY H
    have cZ := Sl.cells (H.os 0)
    have c0 := Sl.oc (H.os 0)
    refine s_nil ⟨(H.pk [2, 3, 6, 7, 8]), ?_⟩
    refine t_l rfl ?_
    refine t_app (α := Dem) (k := 5) (l := l2) (l2 := [(l_x.getD s2 default)]) (l' := l2 ++ ([(l_x.getD s2 default)])) (vy := cb) T57 rfl H rfl rfl rfl (H.os 0) (H.ol 0) (rfl) (by first | omega | (simp only [List.length_nil] at *; omega)) ?_
    intro bv c6 H
    replace H := H.nf
    have c7 := Sl.cells (H.os 5)
    have c8 := Sl.oc (H.os 5)
    refine s_nil ⟨(H.pk [2, 3, 6, 7, 8]), ?_⟩
    refine t_q rfl (fun w' H => x_as (v := bu) rfl) ?_
    refine t_q rfl (fun w' H => x_as (v := bv) rfl) ?_
    refine t_nil ?_
    replace H := H.pk [2, 4, 5, 6, 7, 8]
    refine W.region rfl ?_
    refine zR (s2 : Int) 1 ((s2 : Int) + 1) rfl rfl rfl (by omega) ?_
    refine zM (I ((s2 : Int) + 1)) rfl ?_
    refine s_nil ?_
    exact ⟨aR, aS, s2 + 1, ar.set (Int.toNat (r4.getD (Int.toNat ((r4.length : Int) - 1)) 0)) true, l ++ ([(r4.getD (Int.toNat ((r4.length : Int) - 1)) 0 : Int)]), l2 ++ ([(l_x.getD s2 default)]), bu, bv, az, _, upds_of _ _ ⟨rfl, rfl, rfl, rfl, rfl, rfl, rfl, trivial⟩, M.e_inl hM aN, (H.pk [1, 2, 3, 4, 0, 5]), aZ⟩
   skip
   refine t_bs (α := Dem) T57 [.agg #[I ((l_x.getD s2 default).spring), I ((l_x.getD s2 default).town)]] [(l_x.getD s2 default)] H rfl (.cons rfl (Flat.rep_enc _ (l_x.getD s2 default)) <| .nil) rfl rfl rfl ?_
   intro cc c9 H
   have da := Sl.cells (H.os 0)
   have db := Sl.oc (H.os 0)
   refine s_nil ⟨(H.pk [2, 3, 6, 7, 8]), ?_⟩
   refine t_l rfl ?_
   refine t_app (α := Int) (k := 4) (l := l) (l2 := [(r4.getD (Int.toNat ((r4.length : Int) - 1)) 0 : Int)]) (l' := l ++ ([(r4.getD (Int.toNat ((r4.length : Int) - 1)) 0 : Int)])) (vy := bt) T23 rfl H rfl rfl rfl (H.os 1) (H.ol 1) (rfl) (by first | omega | (simp only [List.length_nil] at *; omega)) ?_
   intro bw dc H
   replace H := H.nf
   have dd := Sl.cells (H.os 4)
   have de := Sl.oc (H.os 4)
   refine s_nil ⟨(H.pk [2, 3, 6, 7, 8]), ?_⟩
   refine t_l rfl ?_
   refine t_app (α := Dem) (k := 5) (l := l2) (l2 := [(l_x.getD s2 default)]) (l' := l2 ++ ([(l_x.getD s2 default)])) (vy := cc) T57 rfl H rfl rfl rfl (H.os 0) (H.ol 0) (rfl) (by first | omega | (simp only [List.length_nil] at *; omega)) ?_
   intro bx dg H
   replace H := H.nf
   have di := Sl.cells (H.os 5)
   have dk := Sl.oc (H.os 5)
   refine s_nil ⟨(H.pk [2, 3, 6, 7, 8]), ?_⟩
   refine t_q rfl (fun w' H => x_as (v := bw) rfl) ?_
   refine t_q rfl (fun w' H => x_as (v := bx) rfl) ?_
   refine t_nil ?_
   replace H := H.pk [2, 4, 5, 6, 7, 8]
   refine W.region rfl ?_
   refine zR (s2 : Int) 1 ((s2 : Int) + 1) rfl rfl rfl (by omega) ?_
   refine zM (I ((s2 : Int) + 1)) rfl ?_
   refine s_nil ?_
   exact ⟨aR, aS, s2 + 1, ar.set (Int.toNat (r4.getD (Int.toNat ((r4.length : Int) - 1)) 0)) true, l ++ ([(r4.getD (Int.toNat ((r4.length : Int) - 1)) 0 : Int)]), l2 ++ ([(l_x.getD s2 default)]), bw, bx, az, _, upds_of _ _ ⟨rfl, rfl, rfl, rfl, rfl, rfl, rfl, trivial⟩, M.e_inl hM aN, (H.pk [1, 2, 3, 4, 0, 5]), aZ⟩
  skip
  refine t_bs (α := Dem) T57 [.agg #[I ((l_x.getD s2 default).spring), I ((l_x.getD s2 default).town)]] [(l_x.getD s2 default)] H rfl (.cons rfl (Flat.rep_enc _ (l_x.getD s2 default)) <| .nil) rfl rfl rfl ?_
  intro cd dm H
  have dq := Sl.cells (H.os 0)
  have dr := Sl.oc (H.os 0)
  have dt := Sl.cells (H.os 3)
  have du := Sl.oc (H.os 3)
  have dv := Sl.cells (H.os 4)
  have dw := Sl.oc (H.os 4)
  refine s_nil ⟨(H.pk [1, 2, 5, 6, 7]), ?_⟩
  refine t_l rfl ?_
  refine t_bs (α := Int) T23 [I (r4.getD (Int.toNat ((r4.length : Int) - 1)) 0)] [(r4.getD (Int.toNat ((r4.length : Int) - 1)) 0 : Int)] H rfl (.cons rfl (Flat.rep_enc _ (r4.getD (Int.toNat ((r4.length : Int) - 1)) 0 : Int)) <| .nil) rfl rfl rfl ?_
  intro ce dx H
  have dy := Sl.cells (H.os 0)
  have dz := Sl.oc (H.os 0)
  refine s_nil ⟨(H.pk [2, 3, 6, 7, 8]), ?_⟩
  refine t_l rfl ?_
  refine t_app (α := Int) (k := 4) (l := l) (l2 := [(r4.getD (Int.toNat ((r4.length : Int) - 1)) 0 : Int)]) (l' := l ++ ([(r4.getD (Int.toNat ((r4.length : Int) - 1)) 0 : Int)])) (vy := ce) T23 rfl H rfl rfl rfl (H.os 0) (H.ol 0) (rfl) (by first | omega | (simp only [List.length_nil] at *; omega)) ?_
  intro bz dA H
  replace H := H.nf
  have dB := Sl.cells (H.os 4)
  have dC := Sl.oc (H.os 4)
  refine s_nil ⟨(H.pk [2, 3, 6, 7, 8]), ?_⟩
  refine t_l rfl ?_
  refine t_app (α := Dem) (k := 5) (l := l2) (l2 := [(l_x.getD s2 default)]) (l' := l2 ++ ([(l_x.getD s2 default)])) (vy := cd) T57 rfl H rfl rfl rfl (H.os 1) (H.ol 1) (rfl) (by first | omega | (simp only [List.length_nil] at *; omega)) ?_
  intro bA dD H
  replace H := H.nf
  have dE := Sl.cells (H.os 5)
  have dF := Sl.oc (H.os 5)
  refine s_nil ⟨(H.pk [2, 3, 6, 7, 8]), ?_⟩
  refine t_q rfl (fun w' H => x_as (v := bz) rfl) ?_
  refine t_q rfl (fun w' H => x_as (v := bA) rfl) ?_
  refine t_nil ?_
  replace H := H.pk [2, 4, 5, 6, 7, 8]
  refine W.region rfl ?_
  refine zR (s2 : Int) 1 ((s2 : Int) + 1) rfl rfl rfl (by omega) ?_
  refine zM (I ((s2 : Int) + 1)) rfl ?_
  refine s_nil ?_
  exact ⟨aR, aS, s2 + 1, ar.set (Int.toNat (r4.getD (Int.toNat ((r4.length : Int) - 1)) 0)) true, l ++ ([(r4.getD (Int.toNat ((r4.length : Int) - 1)) 0 : Int)]), l2 ++ ([(l_x.getD s2 default)]), bz, bA, az, _, upds_of _ _ ⟨rfl, rfl, rfl, rfl, rfl, rfl, rfl, trivial⟩, M.e_inl hM aN, (H.pk [1, 2, 3, 4, 0, 5]), aZ⟩
 replace hM := M.e_f hM aO
 simp only [qy1, qy2, qy3, qy4, qy5, qy6, ne_eq, qy7] at aO
 refine W.exit ?_
 have cf := M.e_inr hM aN
 subst cf
 replace hM := bQ
 try dsimp only at hM
 replace H := H.pk [0, 1, 4]
 refine W.seq ?_
 refine W.region rfl ?_
 refine zM am rfl ?_
 obtain ⟨cg, hM⟩ := M.e_grd hM
 simp only [Bool.and_eq_true, decide_eq_true_eq] at cg
 refine s_call cf73 [am] rfl (sort_any (H.get (k := 0) rfl) (by omega)) ?_
 rintro _ ch ⟨rfl, bB, bC, bD⟩
 replace H : St w ch [cOwn (α := Int) 3 am (isort l), cOwn (α := Dem) 62 au l2, cMem encDm ax B_mem (zaa ab ac ae ah ai aj ak)] R := H.sorted (k := 0) rfl bB bC bD rfl
 clear bB bC bD
 refine s_nil ?_
 refine W.seq ?_
 refine W.region rfl ?_
 refine zM am rfl ?_
 refine zM au rfl ?_
 refine zA am rfl ?_
 refine zA au rfl ?_
 refine zA (B true) rfl ?_
 refine s_nil ?_
 refine W.ret ?_
 have aU := M.e_pure hM
 exact ⟨_, resE_tmp3 rfl, ⟨(isort l), l2, true, am, au, B_mem, aU, rfl, H⟩⟩

def zaI (aa : List Int) (ab : List Span) (ac : List Int) (ae : List Town) (ai : Int) (aj : Int) (ah : List Flood) : M ((List Int) × Int) :=
  M.bind (zao aa ab ac ae ai aj ah) fun x_ => match x_ with
  | (.inl r1) => (
  bif r1 != 0 then (
  M.pure (([]), r1))
  else (
  M.fail))
  | (.inr (ak, al, am)) => (
  bif am != 0 then (
  M.fail)
  else (
  M.bind (zaX aa ab ac ae ak al ah) fun (r0, ao, r2) =>
  bif !r2 then (
  M.pure (([]), 6))
  else (
  M.pure (r0, 0))))
theorem zbV {R : List Chunk} {aD : Cells} {ai : Value} {aE : Cells} {aj : Value} {aF : Cells} {ak : Value} {aG : Cells} {al : Value} {aH : Cells} {am : Value} (av : List Int) (aw : List Span) (ax : List Int) (ay : List Town) (ac : Int) (ae : Int) (az : List Flood) (aI : Reads R aD) (aJ : Sl aD ai av) (aK : Reads R aE) (aL : Sl aE aj aw) (aM : Reads R aF) (aN : Sl aF ak ax) (aO : Reads R aG) (aP : Sl aG al ay) (aQ : Reads R aH) (aR : Sl aH am az) {r : ((List Int) × Int)} (hM : (zaI av aw ax ay ac ae az).Ends r) (w : World) (H : St w w [] R) : Ret Try.prog 22 #[.agg #[ai, aj, ak, al, I ac, I ae, am]] w fun v w' => ∃ (y0 : List Int) (y1 : Int) (u0 : Value), (y0, y1) = r /\ v = .tuple #[u0, I y1] /\ St w w' [cOwn (α := Int) 3 u0 y0] R := by
 refine ret_of_W Try.func22 rfl rfl rfl ?_
 refine W.seq ?_
 refine W.region rfl ?_
 refine t_box (v := .agg #[ai, aj, ak, al, I ac, I ae, am]) (cs := [ai, aj, ak, al, I ac, I ae, am]) H rfl rfl ?_
 intro aS a8 H
 refine zA (.slice none 0 0) rfl ?_
 refine zA (I 0) rfl ?_
 refine s_nil ?_
 refine W.seq ?_
 refine W.region rfl ?_
 refine s_val (x_ld (p := Pq aS) (v := .agg #[ai, aj, ak, al, I ac, I ae, am]) rfl (ldb_ag (ds := [ai, aj, ak, al, I ac, I ae, am]) Ag30 Sz30 (H.bl 0) rfl rfl)) ?_
 obtain ⟨ba, aT, hM⟩ := M.e_bind hM
 refine s_call cf44 [.agg #[ai, aj, ak, al, I ac, I ae, am]] rfl (za2 av aw ax ay ac ae az (aI.app _) aJ (aK.app _) aL (aM.app _) aN (aO.app _) aP (aQ.app _) aR aT _ (H.gt 1)) ?_
 rintro vq bb (⟨r1, aU, hvq, ah⟩ | ⟨aV, aW, aa, ao, bc, bf, aX, hvq, ah⟩)
 ·subst aU
  subst vq
  try dsimp only at hM
  replace H := H.bk ah
  clear ah
  refine zM (.tuple #[.pointer none, I r1]) rfl ?_
  refine zX [.pointer none, I r1] (.pointer none) rfl rfl ?_
  refine zX [.pointer none, I r1] (I r1) rfl rfl ?_
  refine zA (.pointer none) rfl ?_
  refine zA (I r1) rfl ?_
  refine s_nil ?_
  refine W.seq ?_
  refine W.seq ?_
  refine W.region rfl ?_
  refine zM (I r1) rfl ?_
  refine zC r1 0 (r1 != 0) rfl rfl rfl ?_
  refine s_nil ?_
  refine W.cond (r1 != 0) rfl (fun aA => ?_) (fun aA => ?_)
  ·replace hM := M.e_t hM aA
   simp only [qy1, qy2, qy3, qy4, qy5, qy6, ne_eq, qy7] at aA
   refine W.seq ?_
   refine W.region rfl ?_
   refine zM (I r1) rfl ?_
   refine zA (.slice none 0 0) rfl ?_
   refine zA (I r1) rfl ?_
   refine s_nil ?_
   refine W.ret ?_
   have au := M.e_pure hM
   replace H := H.nilOwn (α := Int) 3
   exact ⟨_, resE_tmp2 rfl, ⟨([]), r1, (.slice none 0 0), au, rfl, (H.pk [0])⟩⟩
  replace hM := M.e_f hM aA
  exact (M.e_fail hM).elim
 subst aX
 subst vq
 try dsimp only at hM
 replace H := H.bk ah
 clear ah
 refine zM (.tuple #[Pq ao, I aa]) rfl ?_
 refine zX [Pq ao, I aa] (Pq ao) rfl rfl ?_
 refine zX [Pq ao, I aa] (I aa) rfl rfl ?_
 refine zA (Pq ao) rfl ?_
 refine zA (I aa) rfl ?_
 refine s_nil ?_
 refine W.seq ?_
 refine W.seq ?_
 refine W.region rfl ?_
 refine zM (I aa) rfl ?_
 refine zC aa 0 (aa != 0) rfl rfl rfl ?_
 refine s_nil ?_
 refine W.cond (aa != 0) rfl (fun aB => ?_) (fun aB => ?_)
 ·replace hM := M.e_t hM aB
  exact (M.e_fail hM).elim
 replace hM := M.e_f hM aB
 simp only [qy1, qy2, qy3, qy4, qy5, qy6, ne_eq, qy7] at aB
 refine W.skip ?_
 refine W.seq ?_
 refine W.region rfl ?_
 refine zM (Pq ao) rfl ?_
 obtain ⟨bg, aY, hM⟩ := M.e_bind hM
 refine s_call cf50 [Pq ao] rfl (zdj av aw ax ay aV aW az (aI.app _) aJ (aK.app _) aL (aM.app _) aN (aO.app _) aP (aQ.app _) aR (Has.here (k := 0) rfl) aY _ ((H.pk [1, 0, 2]).gt 2)) ?_
 rintro vq bh ⟨r0, bi, r2, ab, aq, bj, aZ, hvq, ah⟩
 subst aZ
 subst vq
 try dsimp only at hM
 replace H := H.pk [1, 0, 2] |>.bk ah
 clear ah
 refine zM (.tuple #[ab, aq, B r2]) rfl ?_
 refine zX [ab, aq, B r2] ab rfl rfl ?_
 refine zX [ab, aq, B r2] aq rfl rfl ?_
 refine zX [ab, aq, B r2] (B r2) rfl rfl ?_
 refine zA ab rfl ?_
 refine zA aq rfl ?_
 refine zA (B r2) rfl ?_
 refine s_nil ?_
 replace H := H.pk [0]
 refine W.seq ?_
 refine W.seq ?_
 refine W.region rfl ?_
 refine zM (B r2) rfl ?_
 refine s_val (x_not (b := r2) rfl) ?_
 refine s_nil ?_
 refine W.cond (!r2) rfl (fun aC => ?_) (fun aC => ?_)
 ·replace hM := M.e_t hM aC
  refine W.seq ?_
  refine W.region rfl ?_
  refine zA (.slice none 0 0) rfl ?_
  refine zA (I 6) rfl ?_
  refine s_nil ?_
  refine W.ret ?_
  have au := M.e_pure hM
  replace H := H.nilOwn (α := Int) 3
  exact ⟨_, resE_tmp2 rfl, ⟨([]), 6, (.slice none 0 0), au, rfl, (H.pk [0])⟩⟩
 replace hM := M.e_f hM aC
 refine W.skip ?_
 refine W.seq ?_
 refine W.region rfl ?_
 refine zM ab rfl ?_
 refine zA ab rfl ?_
 refine zA (I 0) rfl ?_
 refine s_nil ?_
 refine W.ret ?_
 have au := M.e_pure hM
 exact ⟨_, resE_tmp2 rfl, ⟨r0, 0, ab, au, rfl, H⟩⟩

def zbm (aa : List Int) (ab : List Span) (ac : List Int) (ae : List Town) (ah : Int) (ai : Int) (aj : List Flood) (n : Int) : M Bool :=
  M.bind (zac n 0 ((aa.length : Int) - 1)) fun r2 =>
  M.pure r2
theorem zcW {R : List Chunk} {aa : Nat} {ae : Cells} {ac : Value} {ah : Cells} {ai : Value} {aj : Cells} {ak : Value} {al : Cells} {am : Value} {ao : Cells} {aq : Value} {aC : Nat} (ab : List Int) (au : List Span) (av : List Int) (aw : List Town) (ax : Int) (ay : Int) (az : List Flood) (n : Int) (aH : Reads R ae) (aA : Sl ae ac ab) (aI : Reads R ah) (aJ : Sl ah ai au) (aK : Reads R aj) (aL : Sl aj ak av) (aM : Reads R al) (aN : Sl al am aw) (aO : Reads R ao) (aP : Sl ao aq az) (aD : Has R (cBlk aa [ac, ai, ak, am, I ax, I ay, aq, .map (some aC)] 86)) {r : Bool} (hM : (zbm ab au av aw ax ay az n).Ends r) (w : World) (H : St w w [] R) : Ret Try.prog 45 #[Pq aa, I n] w fun v w' => ∃ (y0 : Bool), y0 = r /\ v = B y0 /\ St w w' [] R := by
 refine ret_of_W Try.func45 rfl rfl rfl ?_
 refine W.seq ?_
 refine W.region rfl ?_
 refine zA (B false) rfl ?_
 refine s_nil ?_
 refine W.seq ?_
 refine W.region rfl ?_
 refine zM (I n) rfl ?_
 refine zM (Pq aa) rfl ?_
 refine s_val (x_nc (a := ⟨aa, 0, none⟩) rfl) ?_
 refine s_val (x_fa (a := Pq aa) (v := Pq aa) rfl (fa_blk (o := 0) Fd86_0 Sz30)) ?_
 refine s_val (x_fa (a := Pq aa) (v := Pq aa) rfl (fa_blk (o := 0) Fd30_0 Sz23)) ?_
 refine s_val (x_ld (p := Pq aa) (v := ac) rfl (ldb_sc Sc23 (aD.blk H) rfl)) ?_
 have aQ := (aA).len_le
 refine s_val (x_lenS T23.und rfl aA) ?_
 refine zR (ab.length : Int) 1 ((ab.length : Int) - 1) rfl rfl rfl (by omega) ?_
 obtain ⟨aR, aE, hM⟩ := M.e_bind hM
 refine s_call cf37 [I n, I 0, I ((ab.length : Int) - 1)] rfl (zag n 0 ((ab.length : Int) - 1) aE _ (H.gt 0)) ?_
 rintro vq aS ⟨r2, aF, hvq, aB⟩
 subst aF
 subst vq
 try dsimp only at hM
 replace H := H.bk aB
 clear aB
 refine zA (B r2) rfl ?_
 refine s_nil ?_
 refine W.ret ?_
 have aG := M.e_pure hM
 exact ⟨_, resE_tmp rfl, ⟨r2, aG, rfl, H⟩⟩

def zbH (ae : List Int) (ah : List Span) (ai : List Int) (aa : List Town) (ab : Int) (ac : Int) (aj : List Flood) (watch : Int) (town : Int) : M (Int × Int × Int) :=
  M.bind (zao ae ah ai aa ab ac aj) fun x_ => match x_ with
  | (.inl r1) => (
  bif r1 != 0 then (
  M.pure (0, 0, r1))
  else (
  M.fail))
  | (.inr (ak, al, am)) => (
  bif am != 0 then (
  M.fail)
  else (
  M.bind (zbm ae ah ai aa ak al aj watch) fun r2 =>
  M.bind (M.opt (!(!r2)) (zac town 0 ((aa.length : Int) - 1)) false) fun r3 =>
  bif ((!r2) || (!r3)) then (
  M.pure (0, 0, 2))
  else (
  M.grd (decide ((0 : Int) <= town) && decide (town < (aa.length : Int))) <|
  M.bind (zaF ae ah ai aa ak al aj watch ((aa.getD (Int.toNat town) default).station)) fun (ao, aq, au) =>
  bif !au then (
  M.pure (0, 0, 5))
  else (
  M.grd (decide (-9223372036854775807 <= ac) && decide (ac <= 9223372036854775807)) <|
  M.grd (decide (-9223372036854775807 <= ab) && decide (ab <= 9223372036854775807)) <|
  M.bind (zbE ([(⟨(ao : Int), (aq : Int)⟩ : Span), (⟨(-ac : Int), (-ab : Int)⟩ : Span)])) fun (r0, av) =>
  M.pure (r0, av, 0)))))
theorem zcS {R : List Chunk} {aR : Cells} {av : Value} {aS : Cells} {aw : Value} {aT : Cells} {ax : Value} {aU : Cells} {ae : Value} {aV : Cells} {ay : Value} (aA : List Int) (aB : List Span) (aC : List Int) (ah : List Town) (ab : Int) (ac : Int) (aD : List Flood) (watch : Int) (town : Int) (aH : Reads R aR) (aI : Sl aR av aA) (aJ : Reads R aS) (aK : Sl aS aw aB) (aL : Reads R aT) (aM : Sl aT ax aC) (aE : Reads R aU) (aq : Sl aU ae ah) (aN : Reads R aV) (aO : Sl aV ay aD) {r : (Int × Int × Int)} (hM : (zbH aA aB aC ah ab ac aD watch town).Ends r) (w : World) (H : St w w [] R) : Ret Try.prog 28 #[.agg #[av, aw, ax, ae, I ab, I ac, ay], I watch, I town] w fun v w' => ∃ (y0 : Int) (y1 : Int) (y2 : Int), (y0, y1, y2) = r /\ v = .tuple #[.agg #[I y0, I y1], I y2] /\ St w w' [] R := by
 refine ret_of_W Try.func28 rfl rfl rfl ?_
 refine W.seq ?_
 refine W.region rfl ?_
 refine t_box (v := .agg #[av, aw, ax, ae, I ab, I ac, ay]) (cs := [av, aw, ax, ae, I ab, I ac, ay]) H rfl rfl ?_
 intro aa bx H
 refine t_alloc (cs := [I 0, I 0]) H Al27 rfl ?_
 intro bz bA H
 refine zA (I 0) rfl ?_
 refine s_nil ?_
 refine W.seq ?_
 refine W.region rfl ?_
 refine s_val (x_ld (p := Pq aa) (v := .agg #[av, aw, ax, ae, I ab, I ac, ay]) rfl (ldb_ag (ds := [av, aw, ax, ae, I ab, I ac, ay]) Ag30 Sz30 (H.bl 1) rfl rfl)) ?_
 obtain ⟨bB, aY, hM⟩ := M.e_bind hM
 refine s_call cf44 [.agg #[av, aw, ax, ae, I ab, I ac, ay]] rfl (za2 aA aB aC ah ab ac aD (aH.app _) aI (aJ.app _) aK (aL.app _) aM (aE.app _) aq (aN.app _) aO aY _ (H.gt 2)) ?_
 rintro vq bC (⟨r1, aZ, hvq, ai⟩ | ⟨aW, aX, al, am, bD, bE, a8, hvq, ai⟩)
 ·subst aZ
  subst vq
  try dsimp only at hM
  replace H := H.bk ai
  clear ai
  refine zM (.tuple #[.pointer none, I r1]) rfl ?_
  refine zX [.pointer none, I r1] (.pointer none) rfl rfl ?_
  refine zX [.pointer none, I r1] (I r1) rfl rfl ?_
  refine zA (.pointer none) rfl ?_
  refine zA (I r1) rfl ?_
  refine s_nil ?_
  refine W.seq ?_
  refine W.block ?_
  refine W.seq ?_
  refine W.region rfl ?_
  refine zM (I r1) rfl ?_
  refine zC r1 0 (r1 != 0) rfl rfl rfl ?_
  refine zA (B (r1 != 0)) rfl ?_
  refine s_nil ?_
  refine W.cond (r1 != 0) rfl (fun aF => ?_) (fun aF => ?_)
  ·replace hM := M.e_t hM aF
   simp only [qy1, qy2, qy3, qy4, qy5, qy6, ne_eq, qy7] at aF
   refine W.seq ?_
   refine W.region rfl ?_
   refine s_val (x_bld (ps := []) (zs := [I 0, I 0]) (L' := [I 0, I 0]) rfl Try.underlying27 Al27 rfl (Bd27 Try.underlying27) (.nil)) ?_
   refine zM (I r1) rfl ?_
   refine t_sw 0 0 [I 0, I 0] (.agg #[I 0, I 0]) H rfl rfl Sz27 rfl rfl rfl rfl ?_
   intro bF H
   refine zA (I r1) rfl ?_
   refine s_nil ?_
   refine W.ret ?_
   have ba := (H.bl 0)
   have ao := M.e_pure hM
   exact ⟨_, (resE_ofn (vs := [.agg #[I 0, I 0], I r1]) rfl rfl (.cell (v := .agg #[I 0, I 0]) rfl (run_loadVar_ag (ds := [I 0, I 0]) Ag27 Sz27 ba rfl rfl) <| .tmp (v := I r1) rfl <| .nil)), ⟨0, 0, r1, ao, rfl, (H.pk [])⟩⟩
  replace hM := M.e_f hM aF
  exact (M.e_fail hM).elim
 subst a8
 subst vq
 try dsimp only at hM
 replace H := H.bk ai
 clear ai
 refine zM (.tuple #[Pq am, I al]) rfl ?_
 refine zX [Pq am, I al] (Pq am) rfl rfl ?_
 refine zX [Pq am, I al] (I al) rfl rfl ?_
 refine zA (Pq am) rfl ?_
 refine zA (I al) rfl ?_
 refine s_nil ?_
 refine W.seq ?_
 refine W.block ?_
 refine W.seq ?_
 refine W.region rfl ?_
 refine zM (I al) rfl ?_
 refine zC al 0 (al != 0) rfl rfl rfl ?_
 refine zA (B (al != 0)) rfl ?_
 refine s_nil ?_
 refine W.cond (al != 0) rfl (fun aG => ?_) (fun aG => ?_)
 ·replace hM := M.e_t hM aG
  exact (M.e_fail hM).elim
 replace hM := M.e_f hM aG
 simp only [qy1, qy2, qy3, qy4, qy5, qy6, ne_eq, qy7] at aG
 refine W.seq ?_
 refine W.region rfl ?_
 refine zM (Pq am) rfl ?_
 refine zM (I watch) rfl ?_
 obtain ⟨bG, bb, hM⟩ := M.e_bind hM
 refine s_call cf45 [Pq am, I watch] rfl (zcW aA aB aC ah aW aX aD watch (aH.app _) aI (aJ.app _) aK (aL.app _) aM (aE.app _) aq (aN.app _) aO (Has.here (k := 0) rfl) bb _ (H.gt 4)) ?_
 rintro vq bH ⟨r2, bc, hvq, ai⟩
 subst bc
 subst vq
 try dsimp only at hM
 replace H := H.bk ai
 clear ai
 refine s_val (x_not (b := r2) rfl) ?_
 refine zM (B (!r2)) rfl ?_
 refine g_val (!(!r2)) (gy_f rfl) (fun hg => x_mv (v := I town) rfl) ?_
 refine g_val (!(!r2)) (gy_f rfl) (fun hg => x_fa (a := Pq aa) (v := Oq aa 3) rfl (fa_blk (o := 0) Fd30_3 Sz25)) ?_
 refine g_val (!(!r2)) (gy_f rfl) (fun hg => x_ld (p := Oq aa 3) (v := ae) (gd_of (c := !(!r2)) hg (Oq aa 3)) (ldb_sc Sc25 (H.bl 3) rfl)) ?_
 have bI := (aq).len_le
 refine g_val (!(!r2)) (gy_f rfl) (fun hg => x_lenS T25.und (gd_of (c := !(!r2)) hg (ae)) aq) ?_
 refine g_val (!(!r2)) (gy_f rfl) (fun hg => x_ari (a := (ah.length : Int)) (b := 1) (r := (ah.length : Int) - 1) (gd_of (c := !(!r2)) hg (I (ah.length : Int))) rfl rfl (by first | omega | (have bf := hg; simp at bf; omega))) ?_
 obtain ⟨r3, bg, hM⟩ := M.e_bind hM
 refine t_gcall (!(!r2)) (gy_f rfl) cf37 (B r3) (fun _ => [I town, I 0, I ((ah.length : Int) - 1)]) (fun hg => lst3 (gd_of (c := !(!r2)) hg (I town)) rfl (gd_of (c := !(!r2)) hg (I ((ah.length : Int) - 1)))) H (fun hg => (zag town 0 ((ah.length : Int) - 1) (M.e_opt bg hg) _ (H.give (A := []) rfl)).mono fun v_ w_ ⟨y_, ao, bh, H_⟩ => by subst ao; exact ⟨bh, H.via H_⟩) ?_
 intro bJ H
 refine g_val (!(!r2)) (gy_f rfl) (fun hg => x_not (b := r3) (gd_of (c := !(!r2)) hg (B r3))) ?_
 refine s_val (x_por (b := !r2) (r := !r3) rfl rfl (fun hb => gd_of (c := !(!r2)) (by first | exact hb | (rw [hb]; rfl) | simp_all) (B (!r3)))) ?_
 refine zA (B ((!r2) || (!r3))) rfl ?_
 refine s_nil ?_
 refine W.cond ((!r2) || (!r3)) rfl (fun aP => ?_) (fun aP => ?_)
 ·replace hM := M.e_t hM aP
  refine W.seq ?_
  refine W.region rfl ?_
  refine s_val (x_bld (ps := []) (zs := [I 0, I 0]) (L' := [I 0, I 0]) rfl Try.underlying27 Al27 rfl (Bd27 Try.underlying27) (.nil)) ?_
  refine t_sw 2 0 [I 0, I 0] (.agg #[I 0, I 0]) H rfl rfl Sz27 rfl rfl rfl rfl ?_
  intro bK H
  refine zA (I 2) rfl ?_
  refine s_nil ?_
  replace H := H.pk [2]
  refine W.ret ?_
  have bi := (H.bl 0)
  have ao := M.e_pure hM
  exact ⟨_, (resE_ofn (vs := [.agg #[I 0, I 0], I 2]) rfl rfl (.cell (v := .agg #[I 0, I 0]) rfl (run_loadVar_ag (ds := [I 0, I 0]) Ag27 Sz27 bi rfl rfl) <| .tmp (v := I 2) rfl <| .nil)), ⟨0, 0, 2, ao, rfl, (H.pk [])⟩⟩
 replace hM := M.e_f hM aP
 refine W.skip ?_
 refine W.seq ?_
 refine W.region rfl ?_
 refine zM (Pq am) rfl ?_
 refine zM (I watch) rfl ?_
 refine s_val (x_fa (a := Pq aa) (v := Oq aa 3) rfl (fa_blk (o := 0) Fd30_3 Sz25)) ?_
 refine s_val (x_ld (p := Oq aa 3) (v := ae) rfl (ldb_sc Sc25 (H.bl 3) rfl)) ?_
 refine zM (I town) rfl ?_
 obtain ⟨bj, hM⟩ := M.e_grd hM
 simp only [Bool.and_eq_true, decide_eq_true_eq] at bj
 refine s_val (x_ix (a := ae) (b := I town) (v := vat ae 3 (Int.toNat town)) rfl rfl (Sl.ix (α := Town) T25.und T25.size aq (by omega) (by omega))) ?_
 refine s_val (x_fa (a := vat ae 3 (Int.toNat town)) (v := fat (vat ae 3 (Int.toNat town)) 0) rfl (fa_pl Fd54_0 Sz3 (Sl.pl (i := town) aq (by omega) (by omega)))) ?_
 refine s_val (x_ld (p := fat (vat ae 3 (Int.toNat town)) 0) (v := I ((ah.getD (Int.toNat town) default).station)) rfl (ld_sc Sc3 (At.mono (Town_at0 aq (i := town) (by omega) (by omega)) (aE.at H)))) ?_
 obtain ⟨bL, bm, hM⟩ := M.e_bind hM
 refine s_call cf47 [Pq am, I watch, I ((ah.getD (Int.toNat town) default).station)] rfl (zco aA aB aC ah aW aX aD watch ((ah.getD (Int.toNat town) default).station) (aH.app _) aI (aJ.app _) aK (aL.app _) aM (aE.app _) aq (aN.app _) aO (Has.here (k := 0) rfl) bm _ (H.gt 4)) ?_
 rintro vq bM ⟨aj, ak, au, bn, hvq, ai⟩
 subst bn
 subst vq
 try dsimp only at hM
 replace H := H.bk ai
 clear ai
 refine zM (.tuple #[.agg #[I aj, I ak], B au]) rfl ?_
 refine zX [.agg #[I aj, I ak], B au] (.agg #[I aj, I ak]) rfl rfl ?_
 refine zX [.agg #[I aj, I ak], B au] (B au) rfl rfl ?_
 refine t_alloc (cs := [I 0, I 0]) H Al27 rfl ?_
 intro bo bN H
 refine t_sw 0 0 [I aj, I ak] (.agg #[I aj, I ak]) H rfl rfl Sz27 rfl rfl rfl rfl ?_
 intro bO H
 refine zA (B au) rfl ?_
 refine s_nil ?_
 replace H := H.pk [0, 3, 4]
 refine W.seq ?_
 refine W.seq ?_
 refine W.region rfl ?_
 refine zM (B au) rfl ?_
 refine s_val (x_not (b := au) rfl) ?_
 refine s_nil ?_
 refine W.cond (!au) rfl (fun aQ => ?_) (fun aQ => ?_)
 ·replace hM := M.e_t hM aQ
  refine W.seq ?_
  refine W.region rfl ?_
  refine s_val (x_bld (ps := []) (zs := [I 0, I 0]) (L' := [I 0, I 0]) rfl Try.underlying27 Al27 rfl (Bd27 Try.underlying27) (.nil)) ?_
  refine t_sw 1 0 [I 0, I 0] (.agg #[I 0, I 0]) H rfl rfl Sz27 rfl rfl rfl rfl ?_
  intro bP H
  refine zA (I 5) rfl ?_
  refine s_nil ?_
  replace H := H.pk [1]
  refine W.ret ?_
  have bp := (H.bl 0)
  have ao := M.e_pure hM
  exact ⟨_, (resE_ofn (vs := [.agg #[I 0, I 0], I 5]) rfl rfl (.cell (v := .agg #[I 0, I 0]) rfl (run_loadVar_ag (ds := [I 0, I 0]) Ag27 Sz27 bp rfl rfl) <| .tmp (v := I 5) rfl <| .nil)), ⟨0, 0, 5, ao, rfl, (H.pk [])⟩⟩
 replace hM := M.e_f hM aQ
 refine W.skip ?_
 refine W.seq ?_
 refine W.region rfl ?_
 refine s_val (x_ld (p := Pq bo) (v := .agg #[I aj, I ak]) rfl (ldb_ag (ds := [I aj, I ak]) Ag27 Sz27 (H.bl 0) rfl rfl)) ?_
 refine s_val (x_fa (a := Pq aa) (v := Oq aa 4) rfl (fa_blk (o := 0) Fd30_4 Sz27)) ?_
 refine s_val (x_fa (a := Oq aa 4) (v := Oq aa 5) rfl (fa_blk (o := 4) Fd27_1 Sz3)) ?_
 refine s_val (x_ld (p := Oq aa 5) (v := I ac) rfl (ldb_sc Sc3 (H.bl 2) rfl)) ?_
 obtain ⟨bq, hM⟩ := M.e_grd hM
 simp only [Bool.and_eq_true, decide_eq_true_eq] at bq
 refine s_val (x_neg (a := ac) rfl (by omega)) ?_
 refine s_val (x_fa (a := Pq aa) (v := Oq aa 4) rfl (fa_blk (o := 0) Fd30_4 Sz27)) ?_
 refine s_val (x_fa (a := Oq aa 4) (v := Oq aa 4) rfl (fa_blk (o := 4) Fd27_0 Sz3)) ?_
 refine s_val (x_ld (p := Oq aa 4) (v := I ab) rfl (ldb_sc Sc3 (H.bl 2) rfl)) ?_
 obtain ⟨br, hM⟩ := M.e_grd hM
 simp only [Bool.and_eq_true, decide_eq_true_eq] at br
 refine s_val (x_neg (a := ab) rfl (by omega)) ?_
 refine s_val (x_bld (ps := [(0, I (-ac)), (1, I (-ab))]) (zs := [I 0, I 0]) (L' := [I (-ac), I (-ab)]) rfl Try.underlying27 Al27 rfl (Bd27 Try.underlying27) (.cons (cs := [I (-ac)]) rfl rfl rfl rfl rfl <| .cons (cs := [I (-ab)]) rfl rfl rfl rfl rfl <| .nil)) ?_
 refine t_bs (α := Span) T24 [.agg #[I aj, I ak], .agg #[I (-ac), I (-ab)]] [(⟨(aj : Int), (ak : Int)⟩ : Span), (⟨(-ac : Int), (-ab : Int)⟩ : Span)] H rfl (.cons rfl (Flat.rep_enc _ (⟨(aj : Int), (ak : Int)⟩ : Span)) <| .cons rfl (Flat.rep_enc _ (⟨(-ac : Int), (-ab : Int)⟩ : Span)) <| .nil) rfl rfl rfl ?_
 intro bt bQ H
 obtain ⟨bR, bu, hM⟩ := M.e_bind hM
 refine s_call cf59 [bt] rfl (zc1 ([(⟨(aj : Int), (ak : Int)⟩ : Span), (⟨(-ac : Int), (-ab : Int)⟩ : Span)]) (rdo 0) (H.os 0) bu _ (H.gt 4)) ?_
 rintro vq bS ⟨r0, az, bv, hvq, ai⟩
 subst bv
 subst vq
 try dsimp only at hM
 replace H := H.bk ai
 clear ai
 refine t_sw 2 0 [I r0, I az] (.agg #[I r0, I az]) H rfl rfl Sz27 rfl rfl rfl rfl ?_
 intro bT H
 refine zA (I 0) rfl ?_
 refine s_nil ?_
 replace H := H.pk [2]
 refine W.ret ?_
 have bw := (H.bl 0)
 have ao := M.e_pure hM
 exact ⟨_, (resE_ofn (vs := [.agg #[I r0, I az], I 0]) rfl rfl (.cell (v := .agg #[I r0, I az]) rfl (run_loadVar_ag (ds := [I r0, I az]) Ag27 Sz27 bw rfl rfl) <| .tmp (v := I 0) rfl <| .nil)), ⟨r0, az, 0, ao, rfl, (H.pk [])⟩⟩

def zcD (a : List Int) (b : List Int) : Nat -> M (Nat ⊕ (Unit ⊕ Unit)) := fun i =>
  bif decide ((i : Int) < (a.length : Int)) then (
  M.grd (decide ((i : Int) < (a.length : Int))) <|
  M.grd (decide ((i : Int) < (b.length : Int))) <|
  bif (a.getD i 0) != (b.getD i 0) then (
  M.pure (.inr (.inl ())))
  else (
  M.pure (.inl (i + 1))))
  else (
  M.pure (.inr (.inr ())))
def zak (a : List Int) (b : List Int) : M Bool :=
  bif (a.length : Int) != (b.length : Int) then (
  M.pure false)
  else (
  M.bind (M.iter (zcD a b) 0) fun x_ => match x_ with
  | (.inl (_ : Unit)) => (
  M.pure false)
  | (.inr (_ : Unit)) => (
  M.pure true))
theorem zam {R : List Chunk} {ao : Cells} {aa : Value} {aq : Cells} {ab : Value} (a : List Int) (b : List Int) (ax : Reads R ao) (ac : Sl ao aa a) (ay : Reads R aq) (ak : Sl aq ab b) {r : Bool} (hM : (zak a b).Ends r) (w : World) (H : St w w [] R) : Ret Try.prog 18 #[aa, ab] w fun v w' => ∃ (y0 : Bool), y0 = r /\ v = B y0 /\ St w w' [] R := by
 refine ret_of_W Try.func18 rfl rfl rfl ?_
 refine W.seq ?_
 refine W.region rfl ?_
 refine zA (B false) rfl ?_
 refine s_nil ?_
 refine W.seq ?_
 refine W.seq ?_
 refine W.region rfl ?_
 refine zM aa rfl ?_
 have aG := (ac).len_le
 refine s_val (x_lenS T23.und rfl ac) ?_
 refine zM ab rfl ?_
 have aH := (ak).len_le
 refine s_val (x_lenS T23.und rfl ak) ?_
 refine zC (a.length : Int) (b.length : Int) ((a.length : Int) != (b.length : Int)) rfl rfl rfl ?_
 refine s_nil ?_
 refine W.cond ((a.length : Int) != (b.length : Int)) rfl (fun ae => ?_) (fun ae => ?_)
 ·replace hM := M.e_t hM ae
  simp only [qy1, qy2, qy3, qy4, qy5, qy6, ne_eq, qy7] at ae
  refine W.seq ?_
  refine W.region rfl ?_
  refine zA (B false) rfl ?_
  refine s_nil ?_
  refine W.ret ?_
  have ah := M.e_pure hM
  exact ⟨_, resE_tmp rfl, ⟨false, ah, rfl, H⟩⟩
 replace hM := M.e_f hM ae
 simp only [qy1, qy2, qy3, qy4, qy5, qy6, ne_eq, qy7] at ae
 refine W.skip ?_
 refine W.seq ?_
 refine W.seq ?_
 refine W.region rfl ?_
 refine zA (I 0) rfl ?_
 refine s_nil ?_
 refine W.block ?_
 obtain ⟨az, al, au⟩ := M.e_bind hM
 obtain ⟨aI, al⟩ := M.e_iter al
 refine W.loop (fun m σ W => ∃ (i : Nat) (ρ : Env), σ = upds ρ [(0, aa), (1, ab), (5, I (i : Int))] /\ M.iterN (zcD a b) m i = some az /\ St w W [] R) ?_ ?_
 ·exact ⟨_, 0, _, upds_of _ _ ⟨rfl, rfl, rfl, trivial⟩, al, H⟩
 rintro aJ σ aK ⟨i, ρ, rfl, av, H⟩
 obtain ⟨aA, aB, aL, hM, am⟩ := M.e_iterN av
 simp only [zcD] at hM
 clear av
 refine W.seq ?_
 refine W.seq ?_
 refine W.region rfl ?_
 refine zM (I (i : Int)) rfl ?_
 refine zM aa rfl ?_
 have aM := (ac).len_le
 refine s_val (x_lenS T23.und rfl ac) ?_
 refine zC (i : Int) (a.length : Int) (decide ((i : Int) < (a.length : Int))) rfl rfl rfl ?_
 refine s_nil ?_
 refine W.cond (decide ((i : Int) < (a.length : Int))) rfl (fun ai => ?_) (fun ai => ?_)
 ·replace hM := M.e_t hM ai
  simp only [qy1, qy2, qy3, qy4, qy5, qy6, ne_eq, qy7] at ai
  refine W.skip ?_
  refine W.seq ?_
  refine W.block ?_
  refine W.seq ?_
  refine W.draw (fun W => St w W [] R) [(0, true), (1, true), (2, true), (3, true), (4, true), (5, true), (6, true), (7, true), (8, true)] mixed (by decide +kernel) rfl ?_
  intro aN aw
  replace H := H.ext aw
  clear aw
  refine ⟨(H.pk []), ?_⟩
  refine d_q rfl (fun w' H => x_mv (v := aa) rfl) ?_
  refine d_q rfl (fun w' H => x_mv (v := I (i : Int)) rfl) ?_
  obtain ⟨aC, hM⟩ := M.e_grd hM
  simp only [Bool.and_eq_true, decide_eq_true_eq] at aC
  refine d_q rfl (fun w' H => x_ix (a := aa) (b := I (i : Int)) (v := vat aa 1 (Int.toNat (i : Int))) rfl rfl (Sl.ix (α := Int) T23.und T23.size ac (by omega) (by omega))) ?_
  refine d_q rfl (fun w' H => x_ld (p := vat aa 1 (Int.toNat (i : Int))) (v := I (a.getD i 0)) rfl (ld_sc Sc3 (At.mono (Int_at ac (i := (i : Int)) (by omega) (by omega)) (ax.at H)))) ?_
  refine d_q rfl (fun w' H => x_mv (v := ab) rfl) ?_
  refine d_q rfl (fun w' H => x_mv (v := I (i : Int)) rfl) ?_
  obtain ⟨aD, hM⟩ := M.e_grd hM
  simp only [Bool.and_eq_true, decide_eq_true_eq] at aD
  refine d_q rfl (fun w' H => x_ix (a := ab) (b := I (i : Int)) (v := vat ab 1 (Int.toNat (i : Int))) rfl rfl (Sl.ix (α := Int) T23.und T23.size ak (by omega) (by omega))) ?_
  refine d_q rfl (fun w' H => x_ld (p := vat ab 1 (Int.toNat (i : Int))) (v := I (b.getD i 0)) rfl (ld_sc Sc3 (At.mono (Int_at ak (i := (i : Int)) (by omega) (by omega)) (ay.at H)))) ?_
  refine d_q rfl (fun w' H => x_cmp (kd := .i64) (a := a.getD i 0) (b := b.getD i 0) (r := (a.getD i 0) != (b.getD i 0)) rfl rfl rfl) ?_
  refine d_nil ?_
  refine W.cond ((a.getD i 0) != (b.getD i 0)) rfl (fun aj => ?_) (fun aj => ?_)
  ·replace hM := M.e_t hM aj
   simp only [qy1, qy2, qy3, qy4, qy5, qy6, ne_eq, qy7] at aj
   refine W.seq ?_
   refine W.region rfl ?_
   refine zA (B false) rfl ?_
   refine s_nil ?_
   refine W.ret ?_
   have aE := M.e_inr hM am
   subst aE
   replace hM := au
   try dsimp only at hM
   have ah := M.e_pure hM
   exact ⟨_, resE_tmp rfl, ⟨false, ah, rfl, H⟩⟩
  replace hM := M.e_f hM aj
  simp only [qy1, qy2, qy3, qy4, qy5, qy6, ne_eq, qy7] at aj
  refine W.skip ?_
  refine W.region rfl ?_
  refine zM (I (i : Int)) rfl ?_
  refine zR (i : Int) 1 ((i : Int) + 1) rfl rfl rfl (by omega) ?_
  refine zA (I ((i : Int) + 1)) rfl ?_
  refine s_nil ?_
  exact ⟨aA, aB, i + 1, _, upds_of _ _ ⟨rfl, rfl, rfl, trivial⟩, M.e_inl hM am, H⟩
 replace hM := M.e_f hM ai
 simp only [qy1, qy2, qy3, qy4, qy5, qy6, ne_eq, qy7] at ai
 refine W.exit ?_
 have aF := M.e_inr hM am
 subst aF
 replace hM := au
 try dsimp only at hM
 refine W.seq ?_
 refine W.region rfl ?_
 refine zA (B true) rfl ?_
 refine s_nil ?_
 refine W.ret ?_
 have ah := M.e_pure hM
 exact ⟨_, resE_tmp rfl, ⟨true, ah, rfl, H⟩⟩

def zcs (watches : List Int) : ((List Bool) × Nat) -> M (((List Bool) × Nat) ⊕ (List Bool)) := fun (ar, s) =>
  bif decide ((s : Int) < (watches.length : Int)) then (
  M.grd (decide ((s : Int) < (watches.length : Int))) <|
  M.grd (decide ((0 : Int) <= (watches.getD s 0)) && decide ((watches.getD s 0) < (12 : Int))) <|
  M.pure (.inl (ar.set (Int.toNat (watches.getD s 0)) true, s + 1)))
  else (
  M.pure (.inr ar))
def zb9 (ab : Int) (ac : Int) (watches : List Int) (e : Int) : M (((List Bool) × Int) ⊕ (Int × Int × (List Bool) × Int)) :=
  bif e != 0 then (
  M.pure (.inl ((List.replicate 12 false), e)))
  else (
  M.bind (M.iter (zcs watches) (List.replicate 12 false, 0)) fun aa =>
  M.pure (.inl (aa, 0)))
def zbA (watches : List Int) : ((List Bool) × Nat) -> M (((List Bool) × Nat) ⊕ (List Bool)) := fun (ar, s) =>
  bif decide ((s : Int) < (watches.length : Int)) then (
  M.grd (decide ((s : Int) < (watches.length : Int))) <|
  M.grd (decide ((0 : Int) <= (watches.getD s 0)) && decide ((watches.getD s 0) < (12 : Int))) <|
  M.pure (.inl (ar.set (Int.toNat (watches.getD s 0)) true, s + 1)))
  else (
  M.pure (.inr ar))
def zbg (ae : List Int) (ah : List Span) (ai : List Int) (aj : List Town) (ak : Int) (al : Int) (am : List Flood) (watches : List Int) (aa : Int) (ab : Int) (e2 : Int) : M (((List Bool) × Int) ⊕ (Int × Int × (List Bool) × Int)) :=
  bif e2 != 0 then (
  M.pure (.inl ((List.replicate 12 false), e2)))
  else (
  M.bind (M.iter (zbA watches) (List.replicate 12 false, 0)) fun ac =>
  M.pure (.inr (aa, ab, ac, 0)))
def zap (aa : List Int) (ae : List Span) (ah : List Int) (ai : List Town) (ab : Int) (ac : Int) (aj : List Flood) (watches : List Int) : M (((List Bool) × Int) ⊕ (Int × Int × (List Bool) × Int)) :=
  M.bind (zao aa ae ah ai ab ac aj) fun x_ => match x_ with
  | (.inl r1) => (
  M.bind (M.opt (r1 == 0) (za7 watches (aa.length : Int)) false) fun r2 =>
  bif ((r1 == 0) && (!r2)) then (
  zb9 ab ac watches 2)
  else (
  zb9 ab ac watches r1))
  | (.inr (al, am, ak)) => (
  M.bind (M.opt (ak == 0) (za7 watches (aa.length : Int)) false) fun r2 =>
  bif ((ak == 0) && (!r2)) then (
  zbg aa ae ah ai ab ac aj watches al am 2)
  else (
  zbg aa ae ah ai ab ac aj watches al am ak))
theorem zb1 {R : List Chunk} {aW : Cells} {aa : Value} {aX : Cells} {ab : Value} {aY : Cells} {ac : Value} {aZ : Cells} {ae : Value} {a8 : Cells} {ah : Value} {ba : Cells} {ao : Value} (au : List Int) (aA : List Span) (aB : List Int) (aC : List Town) (aj : Int) (ak : Int) (aD : List Flood) (watches : List Int) (bj : Reads R aW) (aJ : Sl aW aa au) (bm : Reads R aX) (bn : Sl aX ab aA) (bo : Reads R aY) (bp : Sl aY ac aB) (bq : Reads R aZ) (br : Sl aZ ae aC) (bt : Reads R a8) (bu : Sl a8 ah aD) (aP : Reads R ba) (aG : Sl ba ao watches) {r : (((List Bool) × Int) ⊕ (Int × Int × (List Bool) × Int))} (hM : (zap au aA aB aC aj ak aD watches).Ends r) (w : World) (H : St w w [] R) : Ret Try.prog 31 #[.agg #[aa, ab, ac, ae, I aj, I ak, ah], ao] w fun v w' => (∃ (y0 : List Bool) (y1 : Int), (.inl (y0, y1)) = r /\ v = .tuple #[.pointer none, .agg (encB y0).toArray, I y1] /\ St w w' [] R /\ y0.length = 12) ∨ (∃ (y0 : Int) (y1 : Int) (y2 : List Bool) (y3 : Int) (bb : Nat) (bc : Nat) (bv : Base), (.inr (y0, y1, y2, y3)) = r /\ v = .tuple #[Pq bb, .agg (encB y2).toArray, I y3] /\ St w w' [cBlk bb [aa, ab, ac, ae, I y0, I y1, ah, .map (some bc)] 86, cMem encDm bc bv (zaa au aA aB aC y0 y1 aD)] R /\ y2.length = 12) := by
 refine ret_of_W Try.func31 rfl rfl rfl ?_
 refine W.seq ?_
 refine W.region rfl ?_
 refine t_box (v := .agg #[aa, ab, ac, ae, I aj, I ak, ah]) (cs := [aa, ab, ac, ae, I aj, I ak, ah]) H rfl rfl ?_
 intro am bY H
 refine zA (.pointer none) rfl ?_
 refine t_alloc (cs := encB (List.replicate 12 false)) H Al74 rfl ?_
 intro av bZ H
 have aQ : (List.replicate 12 false).length = 12 := by simp
 refine zA (I 0) rfl ?_
 refine s_nil ?_
 refine W.seq ?_
 refine W.region rfl ?_
 refine t_alloc (cs := encB (List.replicate 12 false)) H Al74 rfl ?_
 intro ai b4 H
 have aH : (List.replicate 12 false).length = 12 := by simp
 refine s_nil ?_
 refine W.seq ?_
 refine W.region rfl ?_
 refine s_val (x_ld (p := Pq am) (v := .agg #[aa, ab, ac, ae, I aj, I ak, ah]) rfl (ldb_ag (ds := [aa, ab, ac, ae, I aj, I ak, ah]) Ag30 Sz30 (H.bl 2) rfl rfl)) ?_
 obtain ⟨b5, bw, hM⟩ := M.e_bind hM
 refine s_call cf44 [.agg #[aa, ab, ac, ae, I aj, I ak, ah]] rfl (za2 au aA aB aC aj ak aD (bj.app _) aJ (bm.app _) bn (bo.app _) bp (bq.app _) br (bt.app _) bu bw _ (H.gt 3)) ?_
 rintro vq b6 (⟨r1, bx, hvq, aK⟩ | ⟨aw, ax, al, aq, ay, aI, bz, hvq, aK⟩)
 ·subst bx
  subst vq
  try dsimp only at hM
  replace H := H.bk aK
  clear aK
  refine zM (.tuple #[.pointer none, I r1]) rfl ?_
  refine zX [.pointer none, I r1] (.pointer none) rfl rfl ?_
  refine zX [.pointer none, I r1] (I r1) rfl rfl ?_
  refine zA (.pointer none) rfl ?_
  refine zA (I r1) rfl ?_
  refine s_nil ?_
  refine W.seqJ (fun σ W => ∃ (e : Int) (ρ : Env), σ = upds ρ [(1, ao), (5, Pq av), (7, Pq ai), (8, .pointer none), (9, I e)] /\ (zb9 aj ak watches e).Ends r /\ St w W [cBlk ai (encB (List.replicate 12 false)) 74, cBlk av (encB (List.replicate 12 false)) 74, cBlk am [aa, ab, ac, ae, I aj, I ak, ah] 30] R) ?_ ?_
  ·skip
   refine W.seq ?_
   refine W.region rfl ?_
   refine zM (I r1) rfl ?_
   refine zC r1 0 (r1 == 0) rfl rfl rfl ?_
   refine zM (B (r1 == 0)) rfl ?_
   refine g_val (r1 == 0) (gy_t rfl) (fun hg => x_mv (v := ao) rfl) ?_
   refine g_val (r1 == 0) (gy_t rfl) (fun hg => x_fa (a := Pq am) (v := Pq am) rfl (fa_blk (o := 0) Fd30_0 Sz23)) ?_
   refine g_val (r1 == 0) (gy_t rfl) (fun hg => x_ld (p := Pq am) (v := aa) (gd_of (c := r1 == 0) hg (Pq am)) (ldb_sc Sc23 (H.bl 2) rfl)) ?_
   have b7 := (aJ).len_le
   refine g_val (r1 == 0) (gy_t rfl) (fun hg => x_lenS T23.und (gd_of (c := r1 == 0) hg (aa)) aJ) ?_
   obtain ⟨r2, bA, hM⟩ := M.e_bind hM
   refine t_gcall (r1 == 0) (gy_t rfl) cf62 (B r2) (fun _ => [ao, I (au.length : Int)]) (fun hg => lst2 (gd_of (c := r1 == 0) hg (ao)) (gd_of (c := r1 == 0) hg (I (au.length : Int)))) H (fun hg => (zcF watches (au.length : Int) (aP.app _) aG (M.e_opt bA hg) _ (H.give (A := []) rfl)).mono fun v_ w_ ⟨y_, aE, aR, H_⟩ => by subst aE; exact ⟨aR, H.via H_⟩) ?_
   intro b8 H
   refine g_val (r1 == 0) (gy_t rfl) (fun hg => x_not (b := r2) (gd_of (c := r1 == 0) hg (B r2))) ?_
   refine s_val (x_pand (b := r1 == 0) (r := !r2) rfl (fun hb => gd_of (c := r1 == 0) (by first | exact hb | (rw [hb]; rfl) | simp_all) (B (!r2))) rfl) ?_
   refine s_nil ?_
   refine W.cond ((r1 == 0) && (!r2)) rfl (fun aS => ?_) (fun aS => ?_)
   ·replace hM := M.e_t hM aS
    refine W.region rfl ?_
    refine zA (I 2) rfl ?_
    refine s_nil ?_
    exact ⟨2, _, upds_of _ _ ⟨rfl, rfl, rfl, rfl, rfl, trivial⟩, hM, H⟩
   replace hM := M.e_f hM aS
   refine W.skip ?_
   exact ⟨r1, _, upds_of _ _ ⟨rfl, rfl, rfl, rfl, rfl, trivial⟩, hM, H⟩
  rintro _ b9 ⟨e, ρ, rfl, hM, H⟩
  unfold zb9 at hM
  refine W.seq ?_
  refine W.seq ?_
  refine W.region rfl ?_
  refine zM (I e) rfl ?_
  refine zC e 0 (e != 0) rfl rfl rfl ?_
  refine s_nil ?_
  refine W.cond (e != 0) rfl (fun aL => ?_) (fun aL => ?_)
  ·replace hM := M.e_t hM aL
   simp only [qy1, qy2, qy3, qy4, qy5, qy6, ne_eq, qy7] at aL
   refine W.seq ?_
   refine W.draw (fun W => St w W [cBlk ai (encB (List.replicate 12 false)) 74, cBlk am [aa, ab, ac, ae, I aj, I ak, ah] 30] R) [(0, true), (1, true), (2, true), (3, false), (4, true)] mixed (by decide +kernel) rfl ?_
   intro ca aF
   replace H := H.ext aF
   clear aF
   refine ⟨(H.pk [0, 2]), ?_⟩
   refine d_q rfl (fun w' H => x_ld (p := Pq ai) (v := .agg (encB (List.replicate 12 false)).toArray) rfl (ldArrA Ag74 Sz74 aH (H.bl 0))) ?_
   refine d_q rfl (fun w' H => x_mv (v := I e) rfl) ?_
   refine d_q rfl (fun w' H => x_as (v := .pointer none) rfl) ?_
   refine d_l rfl ?_
   refine t_stArrA (k := 1) (b := av) (l := List.replicate 12 false) (l' := List.replicate 12 false) (L' := [cBlk ai (encB (List.replicate 12 false)) 74, cBlk av (encB (List.replicate 12 false)) 74, cBlk am [aa, ab, ac, ae, I aj, I ak, ah] 30]) H rfl rfl rfl Sz74 aQ aH rfl ?_
   intro cb H
   refine s_nil ⟨(H.pk [0, 2]), ?_⟩
   refine d_q rfl (fun w' H => x_as (v := I e) rfl) ?_
   refine d_nil ?_
   replace H := H.pk [1]
   refine W.ret ?_
   have bB := (H.bl 0)
   have aE := M.e_pure hM
   exact ⟨_, (resE_ofn (vs := [.pointer none, .agg (encB (List.replicate 12 false)).toArray, I e]) rfl rfl (.tmp (v := .pointer none) rfl <| .cell (v := .agg (encB (List.replicate 12 false)).toArray) rfl (run_loadVar_arr Ag74 Sz74 aH bB) <| .tmp (v := I e) rfl <| .nil)), .inl (⟨(List.replicate 12 false), e, aE, rfl, (H.pk []), aH⟩)⟩
  replace hM := M.e_f hM aL
  simp only [qy1, qy2, qy3, qy4, qy5, qy6, ne_eq, qy7] at aL
  refine W.skip ?_
  refine W.seq ?_
  refine W.seq ?_
  refine W.region rfl ?_
  refine zM ao rfl ?_
  have cc := (aG).len_le
  refine s_val (x_lenS T23.und rfl aG) ?_
  refine zM (I 0) rfl ?_
  refine s_nil ?_
  refine W.block ?_
  obtain ⟨bC, aT, bD⟩ := M.e_bind hM
  obtain ⟨bE, aT⟩ := M.e_iter aT
  refine W.loop (fun m σ W => ∃ (ar : List Bool) (s : Nat) (ρ : Env), σ = upds ρ [(5, Pq av), (7, Pq ai), (8, .pointer none), (31, ao), (32, I (watches.length : Int)), (33, I (s : Int))] /\ M.iterN (zcs watches) m (ar, s) = some bC /\ St w W [cBlk ai (encB ar) 74, cBlk av (encB (List.replicate 12 false)) 74, cBlk am [aa, ab, ac, ae, I aj, I ak, ah] 30] R /\ ar.length = 12) ?_ ?_
  ·exact ⟨_, List.replicate 12 false, 0, _, upds_of _ _ ⟨rfl, rfl, rfl, rfl, rfl, rfl, trivial⟩, aT, H, aH⟩
  rintro cd σ ce ⟨ar, s, ρ, rfl, bf, H, az⟩
  obtain ⟨bF, bG, cf, hM, bg⟩ := M.e_iterN bf
  simp only [zcs] at hM
  clear bf
  refine W.seq ?_
  refine W.region rfl ?_
  refine zC (s : Int) (watches.length : Int) (decide ((s : Int) < (watches.length : Int))) rfl rfl rfl ?_
  refine s_nil ?_
  refine W.seq ?_
  refine W.cond (decide ((s : Int) < (watches.length : Int))) rfl (fun aM => ?_) (fun aM => ?_)
  ·replace hM := M.e_t hM aM
   simp only [qy1, qy2, qy3, qy4, qy5, qy6, ne_eq, qy7] at aM
   refine W.skip ?_
   refine W.seq ?_
   refine W.block ?_
   refine W.seq ?_
   refine W.region rfl ?_
   obtain ⟨bH, hM⟩ := M.e_grd hM
   simp only [Bool.and_eq_true, decide_eq_true_eq] at bH
   refine s_val (x_ix (a := ao) (b := I (s : Int)) (v := vat ao 1 (Int.toNat (s : Int))) rfl rfl (Sl.ix (α := Int) T23.und T23.size aG (by omega) (by omega))) ?_
   refine s_val (x_ld (p := vat ao 1 (Int.toNat (s : Int))) (v := I (watches.getD s 0)) rfl (ld_sc Sc3 (At.mono (Int_at aG (i := (s : Int)) (by omega) (by omega)) (aP.at H)))) ?_
   refine zA (I (watches.getD s 0)) rfl ?_
   refine s_nil ?_
   refine W.region rfl ?_
   refine zM (I (watches.getD s 0)) rfl ?_
   obtain ⟨bI, hM⟩ := M.e_grd hM
   simp only [Bool.and_eq_true, decide_eq_true_eq] at bI
   refine s_val (x_ix (a := Pq ai) (b := I (watches.getD s 0)) (v := .pointer (some ⟨ai, 0 + Int.toNat (watches.getD s 0), none⟩)) rfl rfl (run_indexArr Try.underlying74 Sz4 (by omega) (by omega))) ?_
   refine t_stArr (k := 0) (b := ai) (l := ar) (l' := ar.set (Int.toNat (watches.getD s 0)) true) (i := watches.getD s 0) (v := true) (L' := [cBlk ai (encB (ar.set (Int.toNat (watches.getD s 0)) true)) 74, cBlk av (encB (List.replicate 12 false)) 74, cBlk am [aa, ab, ac, ae, I aj, I ak, ah] 30]) H rfl rfl rfl Sz4 (by omega) (by have bJ := az; omega) rfl rfl ?_
   intro cg H
   have bK : (ar.set (Int.toNat (watches.getD s 0)) true).length = 12 := List.length_set.trans az
   refine s_nil ?_
   refine W.region rfl ?_
   refine zR (s : Int) 1 ((s : Int) + 1) rfl rfl rfl (by omega) ?_
   refine zM (I ((s : Int) + 1)) rfl ?_
   refine s_nil ?_
   exact ⟨bF, bG, ar.set (Int.toNat (watches.getD s 0)) true, s + 1, _, upds_of _ _ ⟨rfl, rfl, rfl, rfl, rfl, rfl, trivial⟩, M.e_inl hM bg, H, bK⟩
  replace hM := M.e_f hM aM
  simp only [qy1, qy2, qy3, qy4, qy5, qy6, ne_eq, qy7] at aM
  refine W.exit ?_
  have bL := M.e_inr hM bg
  subst bL
  replace hM := bD
  try dsimp only at hM
  refine W.seq ?_
  refine W.draw (fun W => St w W [cBlk ai (encB ar) 74, cBlk am [aa, ab, ac, ae, I aj, I ak, ah] 30] R) [(0, true), (1, true), (2, true), (3, false), (4, true)] mixed (by decide +kernel) rfl ?_
  intro ch aF
  replace H := H.ext aF
  clear aF
  refine ⟨(H.pk [0, 2]), ?_⟩
  refine d_q rfl (fun w' H => x_mv (v := .pointer none) rfl) ?_
  refine d_q rfl (fun w' H => x_ld (p := Pq ai) (v := .agg (encB ar).toArray) rfl (ldArrA Ag74 Sz74 az (H.bl 0))) ?_
  refine d_q rfl (fun w' H => x_as (v := .pointer none) rfl) ?_
  refine d_l rfl ?_
  refine t_stArrA (k := 1) (b := av) (l := List.replicate 12 false) (l' := ar) (L' := [cBlk ai (encB ar) 74, cBlk av (encB ar) 74, cBlk am [aa, ab, ac, ae, I aj, I ak, ah] 30]) H rfl rfl rfl Sz74 aQ az rfl ?_
  intro ck H
  refine s_nil ⟨(H.pk [0, 2]), ?_⟩
  refine d_q rfl (fun w' H => x_as (v := I 0) rfl) ?_
  refine d_nil ?_
  replace H := H.pk [1]
  refine W.ret ?_
  have bM := (H.bl 0)
  have aE := M.e_pure hM
  exact ⟨_, (resE_ofn (vs := [.pointer none, .agg (encB ar).toArray, I 0]) rfl rfl (.tmp (v := .pointer none) rfl <| .cell (v := .agg (encB ar).toArray) rfl (run_loadVar_arr Ag74 Sz74 az bM) <| .tmp (v := I 0) rfl <| .nil)), .inl (⟨ar, 0, aE, rfl, (H.pk []), az⟩)⟩
 subst bz
 subst vq
 try dsimp only at hM
 replace H := H.bk aK
 clear aK
 refine zM (.tuple #[Pq aq, I al]) rfl ?_
 refine zX [Pq aq, I al] (Pq aq) rfl rfl ?_
 refine zX [Pq aq, I al] (I al) rfl rfl ?_
 refine zA (Pq aq) rfl ?_
 refine zA (I al) rfl ?_
 refine s_nil ?_
 refine W.seqJ (fun σ W => ∃ (e2 : Int) (ρ : Env), σ = upds ρ [(1, ao), (5, Pq av), (7, Pq ai), (8, Pq aq), (9, I e2)] /\ (zbg au aA aB aC aj ak aD watches aw ax e2).Ends r /\ St w W [cBlk aq [aa, ab, ac, ae, I aw, I ax, ah, .map (some ay)] 86, cMem encDm ay aI (zaa au aA aB aC aw ax aD), cBlk ai (encB (List.replicate 12 false)) 74, cBlk av (encB (List.replicate 12 false)) 74, cBlk am [aa, ab, ac, ae, I aj, I ak, ah] 30] R) ?_ ?_
 ·skip
  refine W.seq ?_
  refine W.region rfl ?_
  refine zM (I al) rfl ?_
  refine zC al 0 (al == 0) rfl rfl rfl ?_
  refine zM (B (al == 0)) rfl ?_
  refine g_val (al == 0) (gy_t rfl) (fun hg => x_mv (v := ao) rfl) ?_
  refine g_val (al == 0) (gy_t rfl) (fun hg => x_fa (a := Pq am) (v := Pq am) rfl (fa_blk (o := 0) Fd30_0 Sz23)) ?_
  refine g_val (al == 0) (gy_t rfl) (fun hg => x_ld (p := Pq am) (v := aa) (gd_of (c := al == 0) hg (Pq am)) (ldb_sc Sc23 (H.bl 4) rfl)) ?_
  have cl := (aJ).len_le
  refine g_val (al == 0) (gy_t rfl) (fun hg => x_lenS T23.und (gd_of (c := al == 0) hg (aa)) aJ) ?_
  obtain ⟨r2, bN, hM⟩ := M.e_bind hM
  refine t_gcall (al == 0) (gy_t rfl) cf62 (B r2) (fun _ => [ao, I (au.length : Int)]) (fun hg => lst2 (gd_of (c := al == 0) hg (ao)) (gd_of (c := al == 0) hg (I (au.length : Int)))) H (fun hg => (zcF watches (au.length : Int) (aP.app _) aG (M.e_opt bN hg) _ (H.give (A := []) rfl)).mono fun v_ w_ ⟨y_, aE, aR, H_⟩ => by subst aE; exact ⟨aR, H.via H_⟩) ?_
  intro cm H
  refine g_val (al == 0) (gy_t rfl) (fun hg => x_not (b := r2) (gd_of (c := al == 0) hg (B r2))) ?_
  refine s_val (x_pand (b := al == 0) (r := !r2) rfl (fun hb => gd_of (c := al == 0) (by first | exact hb | (rw [hb]; rfl) | simp_all) (B (!r2))) rfl) ?_
  refine s_nil ?_
  refine W.cond ((al == 0) && (!r2)) rfl (fun aU => ?_) (fun aU => ?_)
  ·replace hM := M.e_t hM aU
   refine W.region rfl ?_
   refine zA (I 2) rfl ?_
   refine s_nil ?_
   exact ⟨2, _, upds_of _ _ ⟨rfl, rfl, rfl, rfl, rfl, trivial⟩, hM, H⟩
  replace hM := M.e_f hM aU
  refine W.skip ?_
  exact ⟨al, _, upds_of _ _ ⟨rfl, rfl, rfl, rfl, rfl, trivial⟩, hM, H⟩
 rintro _ cn ⟨e2, ρ, rfl, hM, H⟩
 unfold zbg at hM
 refine W.seq ?_
 refine W.seq ?_
 refine W.region rfl ?_
 refine zM (I e2) rfl ?_
 refine zC e2 0 (e2 != 0) rfl rfl rfl ?_
 refine s_nil ?_
 refine W.cond (e2 != 0) rfl (fun aN => ?_) (fun aN => ?_)
 ·replace hM := M.e_t hM aN
  simp only [qy1, qy2, qy3, qy4, qy5, qy6, ne_eq, qy7] at aN
  refine W.seq ?_
  refine W.draw (fun W => St w W [cBlk aq [aa, ab, ac, ae, I aw, I ax, ah, .map (some ay)] 86, cMem encDm ay aI (zaa au aA aB aC aw ax aD), cBlk ai (encB (List.replicate 12 false)) 74, cBlk am [aa, ab, ac, ae, I aj, I ak, ah] 30] R) [(0, true), (1, true), (2, true), (3, false), (4, true)] mixed (by decide +kernel) rfl ?_
  intro co aF
  replace H := H.ext aF
  clear aF
  refine ⟨(H.pk [0, 1, 2, 4]), ?_⟩
  refine d_q rfl (fun w' H => x_ld (p := Pq ai) (v := .agg (encB (List.replicate 12 false)).toArray) rfl (ldArrA Ag74 Sz74 aH (H.bl 2))) ?_
  refine d_q rfl (fun w' H => x_mv (v := I e2) rfl) ?_
  refine d_q rfl (fun w' H => x_as (v := .pointer none) rfl) ?_
  refine d_l rfl ?_
  refine t_stArrA (k := 3) (b := av) (l := List.replicate 12 false) (l' := List.replicate 12 false) (L' := [cBlk aq [aa, ab, ac, ae, I aw, I ax, ah, .map (some ay)] 86, cMem encDm ay aI (zaa au aA aB aC aw ax aD), cBlk ai (encB (List.replicate 12 false)) 74, cBlk av (encB (List.replicate 12 false)) 74, cBlk am [aa, ab, ac, ae, I aj, I ak, ah] 30]) H rfl rfl rfl Sz74 aQ aH rfl ?_
  intro cp H
  refine s_nil ⟨(H.pk [0, 1, 2, 4]), ?_⟩
  refine d_q rfl (fun w' H => x_as (v := I e2) rfl) ?_
  refine d_nil ?_
  replace H := H.pk [3]
  refine W.ret ?_
  have bO := (H.bl 0)
  have aE := M.e_pure hM
  exact ⟨_, (resE_ofn (vs := [.pointer none, .agg (encB (List.replicate 12 false)).toArray, I e2]) rfl rfl (.tmp (v := .pointer none) rfl <| .cell (v := .agg (encB (List.replicate 12 false)).toArray) rfl (run_loadVar_arr Ag74 Sz74 aH bO) <| .tmp (v := I e2) rfl <| .nil)), .inl (⟨(List.replicate 12 false), e2, aE, rfl, (H.pk []), aH⟩)⟩
 replace hM := M.e_f hM aN
 simp only [qy1, qy2, qy3, qy4, qy5, qy6, ne_eq, qy7] at aN
 refine W.skip ?_
 refine W.seq ?_
 refine W.seq ?_
 refine W.region rfl ?_
 refine zM ao rfl ?_
 have cq := (aG).len_le
 refine s_val (x_lenS T23.und rfl aG) ?_
 refine zM (I 0) rfl ?_
 refine s_nil ?_
 refine W.block ?_
 obtain ⟨bP, aV, bQ⟩ := M.e_bind hM
 obtain ⟨bE, aV⟩ := M.e_iter aV
 refine W.loop (fun m σ W => ∃ (ar : List Bool) (s : Nat) (ρ : Env), σ = upds ρ [(5, Pq av), (7, Pq ai), (8, Pq aq), (31, ao), (32, I (watches.length : Int)), (33, I (s : Int))] /\ M.iterN (zbA watches) m (ar, s) = some bP /\ St w W [cBlk aq [aa, ab, ac, ae, I aw, I ax, ah, .map (some ay)] 86, cMem encDm ay aI (zaa au aA aB aC aw ax aD), cBlk ai (encB ar) 74, cBlk av (encB (List.replicate 12 false)) 74, cBlk am [aa, ab, ac, ae, I aj, I ak, ah] 30] R /\ ar.length = 12) ?_ ?_
 ·exact ⟨_, List.replicate 12 false, 0, _, upds_of _ _ ⟨rfl, rfl, rfl, rfl, rfl, rfl, trivial⟩, aV, H, aH⟩
 rintro ct σ cu ⟨ar, s, ρ, rfl, bh, H, az⟩
 obtain ⟨bR, bS, cw, hM, bi⟩ := M.e_iterN bh
 simp only [zbA] at hM
 clear bh
 refine W.seq ?_
 refine W.region rfl ?_
 refine zC (s : Int) (watches.length : Int) (decide ((s : Int) < (watches.length : Int))) rfl rfl rfl ?_
 refine s_nil ?_
 refine W.seq ?_
 refine W.cond (decide ((s : Int) < (watches.length : Int))) rfl (fun aO => ?_) (fun aO => ?_)
 ·replace hM := M.e_t hM aO
  simp only [qy1, qy2, qy3, qy4, qy5, qy6, ne_eq, qy7] at aO
  refine W.skip ?_
  refine W.seq ?_
  refine W.block ?_
  refine W.seq ?_
  refine W.region rfl ?_
  obtain ⟨bT, hM⟩ := M.e_grd hM
  simp only [Bool.and_eq_true, decide_eq_true_eq] at bT
  refine s_val (x_ix (a := ao) (b := I (s : Int)) (v := vat ao 1 (Int.toNat (s : Int))) rfl rfl (Sl.ix (α := Int) T23.und T23.size aG (by omega) (by omega))) ?_
  refine s_val (x_ld (p := vat ao 1 (Int.toNat (s : Int))) (v := I (watches.getD s 0)) rfl (ld_sc Sc3 (At.mono (Int_at aG (i := (s : Int)) (by omega) (by omega)) (aP.at H)))) ?_
  refine zA (I (watches.getD s 0)) rfl ?_
  refine s_nil ?_
  refine W.region rfl ?_
  refine zM (I (watches.getD s 0)) rfl ?_
  obtain ⟨bU, hM⟩ := M.e_grd hM
  simp only [Bool.and_eq_true, decide_eq_true_eq] at bU
  refine s_val (x_ix (a := Pq ai) (b := I (watches.getD s 0)) (v := .pointer (some ⟨ai, 0 + Int.toNat (watches.getD s 0), none⟩)) rfl rfl (run_indexArr Try.underlying74 Sz4 (by omega) (by omega))) ?_
  refine t_stArr (k := 2) (b := ai) (l := ar) (l' := ar.set (Int.toNat (watches.getD s 0)) true) (i := watches.getD s 0) (v := true) (L' := [cBlk aq [aa, ab, ac, ae, I aw, I ax, ah, .map (some ay)] 86, cMem encDm ay aI (zaa au aA aB aC aw ax aD), cBlk ai (encB (ar.set (Int.toNat (watches.getD s 0)) true)) 74, cBlk av (encB (List.replicate 12 false)) 74, cBlk am [aa, ab, ac, ae, I aj, I ak, ah] 30]) H rfl rfl rfl Sz4 (by omega) (by have bJ := az; omega) rfl rfl ?_
  intro cx H
  have bV : (ar.set (Int.toNat (watches.getD s 0)) true).length = 12 := List.length_set.trans az
  refine s_nil ?_
  refine W.region rfl ?_
  refine zR (s : Int) 1 ((s : Int) + 1) rfl rfl rfl (by omega) ?_
  refine zM (I ((s : Int) + 1)) rfl ?_
  refine s_nil ?_
  exact ⟨bR, bS, ar.set (Int.toNat (watches.getD s 0)) true, s + 1, _, upds_of _ _ ⟨rfl, rfl, rfl, rfl, rfl, rfl, trivial⟩, M.e_inl hM bi, H, bV⟩
 replace hM := M.e_f hM aO
 simp only [qy1, qy2, qy3, qy4, qy5, qy6, ne_eq, qy7] at aO
 refine W.exit ?_
 have bW := M.e_inr hM bi
 subst bW
 replace hM := bQ
 try dsimp only at hM
 refine W.seq ?_
 refine W.draw (fun W => St w W [cBlk aq [aa, ab, ac, ae, I aw, I ax, ah, .map (some ay)] 86, cMem encDm ay aI (zaa au aA aB aC aw ax aD), cBlk ai (encB ar) 74, cBlk am [aa, ab, ac, ae, I aj, I ak, ah] 30] R) [(0, true), (1, true), (2, true), (3, false), (4, true)] mixed (by decide +kernel) rfl ?_
 intro cy aF
 replace H := H.ext aF
 clear aF
 refine ⟨(H.pk [0, 1, 2, 4]), ?_⟩
 refine d_q rfl (fun w' H => x_mv (v := Pq aq) rfl) ?_
 refine d_q rfl (fun w' H => x_ld (p := Pq ai) (v := .agg (encB ar).toArray) rfl (ldArrA Ag74 Sz74 az (H.bl 2))) ?_
 refine d_q rfl (fun w' H => x_as (v := Pq aq) rfl) ?_
 refine d_l rfl ?_
 refine t_stArrA (k := 3) (b := av) (l := List.replicate 12 false) (l' := ar) (L' := [cBlk aq [aa, ab, ac, ae, I aw, I ax, ah, .map (some ay)] 86, cMem encDm ay aI (zaa au aA aB aC aw ax aD), cBlk ai (encB ar) 74, cBlk av (encB ar) 74, cBlk am [aa, ab, ac, ae, I aj, I ak, ah] 30]) H rfl rfl rfl Sz74 aQ az rfl ?_
 intro cz H
 refine s_nil ⟨(H.pk [0, 1, 2, 4]), ?_⟩
 refine d_q rfl (fun w' H => x_as (v := I 0) rfl) ?_
 refine d_nil ?_
 replace H := H.pk [0, 1, 3]
 refine W.ret ?_
 have bX := (H.bl 2)
 have aE := M.e_pure hM
 exact ⟨_, (resE_ofn (vs := [Pq aq, .agg (encB ar).toArray, I 0]) rfl rfl (.tmp (v := Pq aq) rfl <| .cell (v := .agg (encB ar).toArray) rfl (run_loadVar_arr Ag74 Sz74 az bX) <| .tmp (v := I 0) rfl <| .nil)), .inr (⟨aw, ax, ar, 0, aq, ay, aI, aE, rfl, (H.pk [0, 1]), az⟩)⟩

def zaz (t : Town) (ab : Int) (ae : Int) (ac : List Int) (aa : Int) : M Bool :=
  M.grd ((!(t.station == ab) || (decide ((0 : Int) <= aa) && decide (aa < (ac.length : Int))))) <|
  M.pure ((t.station == ab) && (decide (t.alarm <= (ac.getD (Int.toNat aa) 0))))
theorem zcZ {R : List Chunk} {am : Nat} {al : Nat} {aq : Cells} {ai : Value} {ao : Nat} (t : Town) (aa : Int) (au : Int) (ae : List Int) (ab : Int) (aw : Has R (cBlk am [I aa] 3)) (ax : Reads R aq) (av : Sl aq ai ae) (ay : Has R (cBlk al [I au, ai] 67)) (az : Has R (cBlk ao [I ab] 3)) {r : Bool} (hM : (zaz t aa au ae ab).Ends r) (w : World) (H : St w w [] R) : Ret Try.prog 64 #[.agg #[I t.station, I t.lead, I t.alarm], Pq am, Pq al, Pq ao] w fun v w' => ∃ (y0 : Bool), y0 = r /\ v = B y0 /\ St w w' [] R := by
 refine ret_of_W Try.func64 rfl rfl rfl ?_
 refine W.seq ?_
 refine W.region rfl ?_
 refine t_box (v := .agg #[I t.station, I t.lead, I t.alarm]) (cs := [I t.station, I t.lead, I t.alarm]) H rfl rfl ?_
 intro aj aB H
 refine zA (B false) rfl ?_
 refine s_nil ?_
 refine W.seq ?_
 refine W.draw (fun W => St w W [cBlk aj [I t.station, I t.lead, I t.alarm] 54] R) [(0, true), (1, true), (2, true), (3, true), (4, true), (5, true), (6, true), (7, true), (8, true), (9, true), (10, true), (11, true), (12, true), (13, true), (14, true)] mixed (by decide +kernel) rfl ?_
 intro aC ah
 replace H := H.ext ah
 clear ah
 refine ⟨(H.pk [0]), ?_⟩
 refine d_q rfl (fun w' H => x_fa (a := Pq aj) (v := Pq aj) rfl (fa_blk (o := 0) Fd54_0 Sz3)) ?_
 refine d_q rfl (fun w' H => x_ld (p := Pq aj) (v := I t.station) rfl (ldb_sc Sc3 (H.bl 0) rfl)) ?_
 refine d_q rfl (fun w' H => x_ld (p := Pq am) (v := I aa) rfl (ldb_sc Sc3 (aw.blk H) rfl)) ?_
 refine d_q rfl (fun w' H => x_cmp (kd := .i64) (a := t.station) (b := aa) (r := t.station == aa) rfl rfl rfl) ?_
 refine d_q rfl (fun w' H => x_mv (v := B (t.station == aa)) rfl) ?_
 refine d_qg (t.station == aa) rfl (gy_t rfl) (fun hg => (fun w' H => x_fa (a := Pq al) (v := Oq al 1) rfl (fa_blk (o := 0) Fd67_1 Sz23))) ?_
 refine d_qg (t.station == aa) rfl (gy_t rfl) (fun hg => (fun w' H => x_ld (p := Oq al 1) (v := ai) (gd_of (c := t.station == aa) hg (Oq al 1)) (ldb_sc Sc23 (ay.blk H) rfl))) ?_
 refine d_qg (t.station == aa) rfl (gy_t rfl) (fun hg => (fun w' H => x_ld (p := Pq ao) (v := I ab) rfl (ldb_sc Sc3 (az.blk H) rfl))) ?_
 obtain ⟨ak, hM⟩ := M.e_grd hM
 replace ak := M.imp_of ak
 simp only [Bool.and_eq_true, decide_eq_true_eq] at ak
 refine d_qg (t.station == aa) rfl (gy_t rfl) (fun hg => (fun w' H => x_ix (a := ai) (b := I ab) (v := vat ai 1 (Int.toNat ab)) (gd_of (c := t.station == aa) hg (ai)) (gd_of (c := t.station == aa) hg (I ab)) (Sl.ix (α := Int) T23.und T23.size av (by have ac := ak.resolve_left (by rw [hg]; decide); first | exact ac | exact ac.1 | exact ac.2 | omega | (have ah := hg; simp at ah; omega)) (by have ac := ak.resolve_left (by rw [hg]; decide); first | exact ac | exact ac.1 | exact ac.2 | omega | (have ah := hg; simp at ah; omega))))) ?_
 refine d_qg (t.station == aa) rfl (gy_t rfl) (fun hg => (fun w' H => x_ld (p := vat ai 1 (Int.toNat ab)) (v := I (ae.getD (Int.toNat ab) 0)) (gd_of (c := t.station == aa) hg (vat ai 1 (Int.toNat ab))) (ld_sc Sc3 (At.mono (Int_at av (i := ab) (by have ac := ak.resolve_left (by rw [hg]; decide); first | exact ac | exact ac.1 | exact ac.2 | omega | (have ah := hg; simp at ah; omega)) (by have ac := ak.resolve_left (by rw [hg]; decide); first | exact ac | exact ac.1 | exact ac.2 | omega | (have ah := hg; simp at ah; omega))) (ax.at H))))) ?_
 refine d_qg (t.station == aa) rfl (gy_t rfl) (fun hg => (fun w' H => x_fa (a := Pq aj) (v := Oq aj 2) rfl (fa_blk (o := 0) Fd54_2 Sz3))) ?_
 refine d_qg (t.station == aa) rfl (gy_t rfl) (fun hg => (fun w' H => x_ld (p := Oq aj 2) (v := I t.alarm) (gd_of (c := t.station == aa) hg (Oq aj 2)) (ldb_sc Sc3 (H.bl 0) rfl))) ?_
 refine d_qg (t.station == aa) rfl (gy_t rfl) (fun hg => (fun w' H => x_cmp (kd := .i64) (a := ae.getD (Int.toNat ab) 0) (b := t.alarm) (r := decide (t.alarm <= (ae.getD (Int.toNat ab) 0))) (gd_of (c := t.station == aa) hg (I (ae.getD (Int.toNat ab) 0))) (gd_of (c := t.station == aa) hg (I t.alarm)) rfl)) ?_
 refine d_q rfl (fun w' H => x_pand (b := t.station == aa) (r := decide (t.alarm <= (ae.getD (Int.toNat ab) 0))) rfl (fun hb => gd_of (c := t.station == aa) (by first | exact hb | (rw [hb]; rfl) | simp_all) (B (decide (t.alarm <= (ae.getD (Int.toNat ab) 0))))) rfl) ?_
 refine d_q rfl (fun w' H => x_as (v := B ((t.station == aa) && (decide (t.alarm <= (ae.getD (Int.toNat ab) 0))))) rfl) ?_
 refine d_nil ?_
 refine W.ret ?_
 have aA := M.e_pure hM
 exact ⟨_, resE_tmp rfl, ⟨((t.station == aa) && (decide (t.alarm <= (ae.getD (Int.toNat ab) 0)))), aA, rfl, (H.pk [])⟩⟩

def zaC (ab : List Town) (f : Flood) (p : List Bool) : (Int × Int × Bool) -> (Int × Int) -> M ((Int × Int × Bool) ⊕ Unit) := fun (s3, s4, s5) (x, x2) =>
  M.grd (decide ((0 : Int) <= x2) && decide (x2 < (12 : Int))) <|
  bif ((p.getD (Int.toNat x2) false) && (s3 == (-1))) then (
  M.grd (decide ((0 : Int) <= x) && decide (x < (f.stages.length : Int))) <|
  M.bind (zaq ab (fun aa => zaz aa x2 f.spring f.stages x)) fun r2 =>
  bif r2 then (
  M.pure (.inl (x2, f.stages.getD (Int.toNat x) 0, true)))
  else (
  M.pure (.inl (x2, f.stages.getD (Int.toNat x) 0, s5))))
  else (
  M.bind (zaq ab (fun aa => zaz aa x2 f.spring f.stages x)) fun r2 =>
  bif r2 then (
  M.pure (.inl (s3, s4, true)))
  else (
  M.pure (.inl (s3, s4, s5))))
def zan (ab : List Int) (ac : List Span) (ae : List Int) (aa : List Town) (ai : Int) (aj : Int) (ah : List Flood) (f : Flood) (p : List Bool) : M (Int × Int × Bool) :=
  M.bind (zai ab ac ae aa ai aj ah f.spring) fun (ak, al, am) =>
  M.bind (zaj (M.yl (zaC aa f p)) (.inl (-1, 0, false)) ak ab ac ae aa al am ah) fun x_ => match x_ with
  | (.inl (s3, s4, s5), q0) => (
  M.pure (s3, s4, s5))
  | (.inr _, _) => M.fail
theorem zaG {R : List Chunk} {aa : Nat} {bt : Cells} {ai : Value} {bu : Cells} {aj : Value} {bv : Cells} {ak : Value} {bw : Cells} {ae : Value} {bx : Cells} {al : Value} {bB : Nat} {bz : Cells} {ah : Value} (aN : List Int) (aO : List Span) (aP : List Int) (ao : List Town) (aD : Int) (aE : Int) (aQ : List Flood) (f : Flood) (p : List Bool) (aR : Reads R bt) (aZ : Sl bt ai aN) (aS : Reads R bu) (a8 : Sl bu aj aO) (aT : Reads R bv) (ba : Sl bv ak aP) (aF : Reads R bw) (aG : Sl bw ae ao) (aU : Reads R bx) (bb : Sl bx al aQ) (aH : Has R (cBlk aa [ai, aj, ak, ae, I aD, I aE, al, .map (some bB)] 86)) (aI : Reads R bz) (aJ : Sl bz ah f.stages) (bC : p.length = 12) {r : (Int × Int × Bool)} (hM : (zan aN aO aP ao aD aE aQ f p).Ends r) (w : World) (H : St w w [] R) : Ret Try.prog 34 #[Pq aa, .agg #[I f.spring, ah], .agg (encB p).toArray] w fun v w' => ∃ (y0 : Int) (y1 : Int) (y2 : Bool), (y0, y1, y2) = r /\ v = .agg #[I y0, I y1, B y2] /\ St w w' [] R := by
 refine ret_of_WD Try.func34 rfl rfl rfl ?_
 replace H : St w w [cMk ([])] R := H.mk0
 have bY := aZ.len_le
 have bZ := a8.len_le
 have b4 := ba.len_le
 have b5 := aG.len_le
 have b6 := bb.len_le
 have b7 := aJ.len_le
 unfold zan at hM
 refine WD.seq ?_
 refine WD.of ?_
 refine W.region rfl ?_
 refine t_box (v := Pq aa) (cs := [Pq aa]) H rfl rfl ?_
 intro aq b8 H
 refine t_box (v := .agg #[I f.spring, ah]) (cs := [I f.spring, ah]) H rfl rfl ?_
 intro ac b9 H
 refine t_box (v := .agg (encB p).toArray) (cs := encB p) H rfl rfl ?_
 intro au ca H
 refine t_alloc (cs := [I 0, I 0, B false]) H Al79 rfl ?_
 intro ay cb H
 refine s_nil ?_
 refine WD.seq ?_
 refine WD.of ?_
 refine W.region rfl ?_
 refine s_val (x_bld (ps := [(0, I (-1))]) (zs := [I 0, I 0, B false]) (L' := [I (-1), I 0, B false]) rfl Try.underlying79 Al79 rfl (Bd79 Try.underlying79) (.cons (cs := [I (-1)]) rfl rfl rfl rfl rfl <| .nil)) ?_
 refine t_alloc (cs := [I 0, I 0, B false]) H Al79 rfl ?_
 intro ab cc H
 refine t_sw 0 0 [I (-1), I 0, B false] (.agg #[I (-1), I 0, B false]) H rfl rfl Sz79 rfl rfl rfl rfl ?_
 intro cd H
 refine s_nil ?_
 refine WD.seq ?_
 refine WD.seq ?_
 refine WD.of ?_
 refine W.draw (fun W => St w W [cBlk ab [I (-1), I 0, B false] 79, cBlk ay [I 0, I 0, B false] 79, cBlk au (encB p) 74, cBlk ac [I f.spring, ah] 67, cBlk aq [Pq aa] 72, cMk ([])] R) [(0, true), (1, true), (2, true), (3, true), (4, true), (5, true), (6, false)] mixed (by decide +kernel) rfl ?_
 intro ce aK
 replace H := H.ext aK
 clear aK
 refine ⟨(H.pk [0, 1, 2, 3, 4, 5]), ?_⟩
 refine d_q rfl (fun w' H => x_ld (p := Pq aq) (v := Pq aa) rfl (ldb_sc Sc72 (H.bl 4) rfl)) ?_
 refine d_q rfl (fun w' H => x_nc (a := ⟨aa, 0, none⟩) rfl) ?_
 refine d_q rfl (fun w' H => x_fa (a := Pq aa) (v := Pq aa) rfl (fa_blk (o := 0) Fd86_0 Sz30)) ?_
 refine d_q rfl (fun w' H => x_ld (p := Pq aa) (v := .agg #[ai, aj, ak, ae, I aD, I aE, al]) rfl (ldb_ag (ds := [ai, aj, ak, ae, I aD, I aE, al]) Ag30 Sz30 (aH.blk H) rfl rfl)) ?_
 refine d_q rfl (fun w' H => x_fa (a := Pq ac) (v := Pq ac) rfl (fa_blk (o := 0) Fd67_0 Sz3)) ?_
 refine d_q rfl (fun w' H => x_ld (p := Pq ac) (v := I f.spring) rfl (ldb_sc Sc3 (H.bl 3) rfl)) ?_
 refine d_l rfl ?_
 obtain ⟨cf, bD, hM⟩ := M.e_bind hM
 refine s_call cf46 [.agg #[ai, aj, ak, ae, I aD, I aE, al], I f.spring] rfl (za8 aN aO aP ao aD aE aQ f.spring (aR.app _) aZ (aS.app _) a8 (aT.app _) ba (aF.app _) aG (aU.app _) bb bD _ (H.gt 6)) ?_
 rintro vq cg ⟨aV, az, aA, aL, aB, bE, hvq, am⟩
 subst bE
 subst vq
 try dsimp only at hM
 replace H := H.bk am
 clear am
 refine s_nil ⟨(H.pk [2, 3, 4, 5, 6, 7]), ?_⟩
 refine d_nil ?_
 refine WD.block ?_
 obtain ⟨ch, bF, hM⟩ := M.e_bind hM
 refine WD.range (L := [cBlk ab [I (-1), I 0, B false] 79, cBlk aB [ai, aj, ak, ae, I az, I aA, al] 30, cBlk ay [I 0, I 0, B false] 79, cBlk au (encB p) 74, cBlk ac [I f.spring, ah] 67, cBlk aq [Pq aa] 72, cBlk aL [I aV] 3]) [Pq aL, Pq aB] (H.pk [7, 2, 1, 3, 4, 5, 6, 0]) rfl cf67 ?_
 intro aW aX bc bG bf H
 have hYC : YieldC Try.prog ([cMk (aX :: ([])), cBlk aB [ai, aj, ak, ae, I az, I aA, al] 30, cBlk ay [I 0, I 0, B false] 79, cBlk au (encB p) 74, cBlk ac [I f.spring, ah] 67, cBlk aq [Pq aa] 72] ++ R) arII (yJ aW bc (fun (s3, s4, s5) aY => aY = [cBlk ab [I s3, I s4, B s5] 79]) (fun (_ : Unit) _ => False) (fun _ => .ret)) (.func (.yield aW) #[] #[]) (M.yl (zaC ao f p)) := by
  refine YieldC.mk2 bf (fun (s3, s4, s5) aY => aY = [cBlk ab [I s3, I s4, B s5] 79]) (fun (_ : Unit) _ => False) (fun _ => .ret) (zaC ao f p) (by rintro ⟨s3, s4, s5⟩ _ h_; obtain ⟨rfl⟩ := h_; rfl) (fun _ _ h_ => h_.elim) rfl (arII_len rfl) ?_
  intro C_ ck x_ bH
  obtain ⟨x, x2⟩ := x_
  obtain rfl := bH
  intro w R aw aY s_ r bI hM H
  obtain ⟨s3, s4, s5⟩ := s_
  obtain ⟨rfl⟩ := bI
  replace H := H.nf
  refine W.seq ?_
  refine W.region rfl ?_
  refine t_alloc (cs := [I 0]) H Al3 rfl ?_
  intro ax cl H
  refine t_sw 0 0 [I x] (I x) H rfl rfl Sz3 rfl rfl rfl rfl ?_
  intro cm H
  refine s_nil ?_
  refine W.region rfl ?_
  refine t_alloc (cs := [I 0]) H Al3 rfl ?_
  intro av cn H
  refine t_sw 0 0 [I x2] (I x2) H rfl rfl Sz3 rfl rfl rfl rfl ?_
  intro co H
  refine s_nil ?_
  refine ⟨rfl, [cBlk av [I x2] 3, cBlk ax [I x] 3], H.pick [0, 1, 2, 3, 4, 5, 6, 7, 8] (by decide) rfl, ?_⟩
  clear H aw
  intro w R aw H
  replace aR := aR.sub aw
  replace aS := aS.sub aw
  replace aT := aT.sub aw
  replace aF := aF.sub aw
  replace aU := aU.sub aw
  replace aH := aH.sub aw
  replace aI := aI.sub aw
  replace hM : (zaC ao f p (s3, s4, s5) (x, x2)).Ends r := hM
  simp only [zaC] at hM
  replace H := H.nf
  refine W.block ?_
  refine W.seq ?_
  refine W.seq ?_
  refine W.region rfl ?_
  refine s_val (x_ld (p := Pq av) (v := I x2) rfl (ldb_sc Sc3 (H.bl 0) rfl)) ?_
  obtain ⟨bJ, hM⟩ := M.e_grd hM
  simp only [Bool.and_eq_true, decide_eq_true_eq] at bJ
  refine s_val (x_ix (a := Pq au) (b := I x2) (v := .pointer (some ⟨au, 0 + Int.toNat x2, none⟩)) rfl rfl (run_indexArr Try.underlying74 Sz4 (by omega) (by omega))) ?_
  refine s_val (x_ld (p := .pointer (some ⟨au, 0 + Int.toNat x2, none⟩)) (v := B (p.getD (Int.toNat x2) false)) rfl (ldArr Sc4 (H.bl 6) (by omega) (by have cp := bC; omega))) ?_
  refine zM (B (p.getD (Int.toNat x2) false)) rfl ?_
  refine g_val (p.getD (Int.toNat x2) false) (gy_t rfl) (fun hg => x_fa (a := Pq ab) (v := Pq ab) rfl (fa_blk (o := 0) Fd79_0 Sz3)) ?_
  refine g_val (p.getD (Int.toNat x2) false) (gy_t rfl) (fun hg => x_ld (p := Pq ab) (v := I s3) (gd_of (c := p.getD (Int.toNat x2) false) hg (Pq ab)) (ldb_sc Sc3 (H.bl 2) rfl)) ?_
  refine g_val (p.getD (Int.toNat x2) false) (gy_t rfl) (fun hg => x_cmp (kd := .i64) (a := s3) (b := -1) (r := s3 == (-1)) (gd_of (c := p.getD (Int.toNat x2) false) hg (I s3)) rfl rfl) ?_
  refine s_val (x_pand (b := p.getD (Int.toNat x2) false) (r := s3 == (-1)) rfl (fun hb => gd_of (c := p.getD (Int.toNat x2) false) (by first | exact hb | (rw [hb]; rfl) | simp_all) (B (s3 == (-1)))) rfl) ?_
  refine s_nil ?_
  refine W.cond ((p.getD (Int.toNat x2) false) && (s3 == (-1))) rfl (fun bg => ?_) (fun bg => ?_)
  ·replace hM := M.e_t hM bg
   refine W.draw (fun W => St w W [cBlk av [I x2] 3, cBlk ax [I x] 3, cMk (aX :: ([])), cBlk aB [ai, aj, ak, ae, I az, I aA, al] 30, cBlk ay [I 0, I 0, B false] 79, cBlk au (encB p) 74, cBlk ac [I f.spring, ah] 67, cBlk aq [Pq aa] 72] R) [(0, true), (1, true), (2, true), (3, true), (4, true), (5, true), (6, true), (7, false), (8, true), (9, false)] mixed (by decide +kernel) rfl ?_
   intro cq aK
   replace H := H.ext aK
   clear aK
   refine ⟨(H.pk [0, 1, 3, 4, 5, 6, 7, 8]), ?_⟩
   refine d_q rfl (fun w' H => x_ld (p := Pq av) (v := I x2) rfl (ldb_sc Sc3 (H.bl 0) rfl)) ?_
   refine d_q rfl (fun w' H => x_fa (a := Pq ac) (v := Oq ac 1) rfl (fa_blk (o := 0) Fd67_1 Sz23)) ?_
   refine d_q rfl (fun w' H => x_ld (p := Oq ac 1) (v := ah) rfl (ldb_sc Sc23 (H.bl 6) rfl)) ?_
   refine d_q rfl (fun w' H => x_ld (p := Pq ax) (v := I x) rfl (ldb_sc Sc3 (H.bl 1) rfl)) ?_
   obtain ⟨bK, hM⟩ := M.e_grd hM
   simp only [Bool.and_eq_true, decide_eq_true_eq] at bK
   refine d_q rfl (fun w' H => x_ix (a := ah) (b := I x) (v := vat ah 1 (Int.toNat x)) rfl rfl (Sl.ix (α := Int) T23.und T23.size aJ (by omega) (by omega))) ?_
   refine d_q rfl (fun w' H => x_ld (p := vat ah 1 (Int.toNat x)) (v := I (f.stages.getD (Int.toNat x) 0)) rfl (ld_sc Sc3 (At.mono (Int_at aJ (i := x) (by omega) (by omega)) (aI.at H)))) ?_
   refine d_q rfl (fun w' H => x_fa (a := Pq ab) (v := Pq ab) rfl (fa_blk (o := 0) Fd79_0 Sz3)) ?_
   refine d_l rfl ?_
   refine t_sw 2 0 [I x2] (I x2) H rfl rfl Sz3 rfl rfl rfl rfl ?_
   intro ct H
   refine s_nil ⟨(H.pk [0, 1, 3, 4, 5, 6, 7, 8]), ?_⟩
   refine d_q rfl (fun w' H => x_fa (a := Pq ab) (v := Oq ab 1) rfl (fa_blk (o := 0) Fd79_1 Sz3)) ?_
   refine d_l rfl ?_
   refine t_sw 2 1 [I (f.stages.getD (Int.toNat x) 0)] (I (f.stages.getD (Int.toNat x) 0)) H rfl rfl Sz3 rfl rfl rfl rfl ?_
   intro cu H
   refine s_nil ⟨(H.pk [0, 1, 3, 4, 5, 6, 7, 8]), ?_⟩
   refine d_nil ?_
   refine W.seq ?_
   refine W.region rfl ?_
   refine s_val (x_ld (p := Pq aq) (v := Pq aa) rfl (ldb_sc Sc72 (H.bl 8) rfl)) ?_
   refine s_val (x_nc (a := ⟨aa, 0, none⟩) rfl) ?_
   refine s_val (x_fa (a := Pq aa) (v := Pq aa) rfl (fa_blk (o := 0) Fd86_0 Sz30)) ?_
   refine s_val (x_fa (a := Pq aa) (v := Oq aa 3) rfl (fa_blk (o := 0) Fd30_3 Sz25)) ?_
   refine s_val (x_ld (p := Oq aa 3) (v := ae) rfl (ldb_sc Sc25 (aH.blk H) rfl)) ?_
   refine s_val (x_mf (fs := []) (cs := [Pq av, Pq ac, Pq ax]) rfl rfl) ?_
   obtain ⟨cw, bL, hM⟩ := M.e_bind hM
   refine s_call cf63 [ae, .func (.func 64) #[] #[Pq av, Pq ac, Pq ax]] rfl (zck ao (fun aC => zaz aC x2 f.spring f.stages x) (aF.app _) aG ⟨64, [Pq av, Pq ac, Pq ax], rfl, cf64, fun aM bM bN bh aC bO bi bP bj bm => by obtain rfl := Town_arg bj; exact (zcZ aC x2 f.spring f.stages x (Has.app (Has.here (k := 0) rfl) _) (Reads.app (aI.app _) _) aJ (Has.app (Has.here (k := 7) rfl) _) (Has.app (Has.here (k := 1) rfl) _) bm aM (St.refl bi)).mono fun bh aM ⟨bQ, bn, bo, bp⟩ => by subst bn; exact ⟨bo, bp⟩⟩ bL _ (H.gt 9)) ?_
   rintro vq cx ⟨r2, bR, hvq, am⟩
   subst bR
   subst vq
   try dsimp only at hM
   replace H := H.bk am
   clear am
   refine s_nil ?_
   refine W.cond r2 rfl (fun bq => ?_) (fun bq => ?_)
   ·replace hM := M.e_t hM bq
    refine W.region rfl ?_
    refine s_val (x_fa (a := Pq ab) (v := Oq ab 2) rfl (fa_blk (o := 0) Fd79_2 Sz4)) ?_
    refine t_sw 2 2 [B true] (B true) H rfl rfl Sz4 rfl rfl rfl rfl ?_
    intro cy H
    refine s_nil ?_
    exact ⟨(x2, f.stages.getD (Int.toNat x) 0, true), [cBlk ab [I x2, I (f.stages.getD (Int.toNat x) 0), B true] 79], (M.e_pure hM).symm, rfl, H.pick [2, 3, 4, 5, 6, 7, 8] (by decide) rfl⟩
   replace hM := M.e_f hM bq
   refine W.skip ?_
   exact ⟨(x2, f.stages.getD (Int.toNat x) 0, s5), [cBlk ab [I x2, I (f.stages.getD (Int.toNat x) 0), B s5] 79], (M.e_pure hM).symm, rfl, H.pick [2, 3, 4, 5, 6, 7, 8] (by decide) rfl⟩
  replace hM := M.e_f hM bg
  refine W.skip ?_
  refine W.seq ?_
  refine W.region rfl ?_
  refine s_val (x_ld (p := Pq aq) (v := Pq aa) rfl (ldb_sc Sc72 (H.bl 8) rfl)) ?_
  refine s_val (x_nc (a := ⟨aa, 0, none⟩) rfl) ?_
  refine s_val (x_fa (a := Pq aa) (v := Pq aa) rfl (fa_blk (o := 0) Fd86_0 Sz30)) ?_
  refine s_val (x_fa (a := Pq aa) (v := Oq aa 3) rfl (fa_blk (o := 0) Fd30_3 Sz25)) ?_
  refine s_val (x_ld (p := Oq aa 3) (v := ae) rfl (ldb_sc Sc25 (aH.blk H) rfl)) ?_
  refine s_val (x_mf (fs := []) (cs := [Pq av, Pq ac, Pq ax]) rfl rfl) ?_
  obtain ⟨cz, bS, hM⟩ := M.e_bind hM
  refine s_call cf63 [ae, .func (.func 64) #[] #[Pq av, Pq ac, Pq ax]] rfl (zck ao (fun aC => zaz aC x2 f.spring f.stages x) (aF.app _) aG ⟨64, [Pq av, Pq ac, Pq ax], rfl, cf64, fun aM bM bN bh aC bO bi bP bj bm => by obtain rfl := Town_arg bj; exact (zcZ aC x2 f.spring f.stages x (Has.app (Has.here (k := 0) rfl) _) (Reads.app (aI.app _) _) aJ (Has.app (Has.here (k := 7) rfl) _) (Has.app (Has.here (k := 1) rfl) _) bm aM (St.refl bi)).mono fun bh aM ⟨bQ, bn, bo, bp⟩ => by subst bn; exact ⟨bo, bp⟩⟩ bS _ (H.gt 9)) ?_
  rintro vq cA ⟨r2, bT, hvq, am⟩
  subst bT
  subst vq
  try dsimp only at hM
  replace H := H.bk am
  clear am
  refine s_nil ?_
  refine W.cond r2 rfl (fun br => ?_) (fun br => ?_)
  ·replace hM := M.e_t hM br
   refine W.region rfl ?_
   refine s_val (x_fa (a := Pq ab) (v := Oq ab 2) rfl (fa_blk (o := 0) Fd79_2 Sz4)) ?_
   refine t_sw 2 2 [B true] (B true) H rfl rfl Sz4 rfl rfl rfl rfl ?_
   intro cB H
   refine s_nil ?_
   exact ⟨(s3, s4, true), [cBlk ab [I s3, I s4, B true] 79], (M.e_pure hM).symm, rfl, H.pick [2, 3, 4, 5, 6, 7, 8] (by decide) rfl⟩
  replace hM := M.e_f hM br
  refine W.skip ?_
  exact ⟨(s3, s4, s5), [cBlk ab [I s3, I s4, B s5] 79], (M.e_pure hM).symm, rfl, H.pick [2, 3, 4, 5, 6, 7, 8] (by decide) rfl⟩
 replace H : St w bG (cAll (cObj aW (.loop bc) :: [cBlk ab [I (-1), I 0, B false] 79]) :: [cBlk aL [I aV] 3, cMk (aX :: ([])), cBlk aB [ai, aj, ak, ae, I az, I aA, al] 30, cBlk ay [I 0, I 0, B false] 79, cBlk au (encB p) 74, cBlk ac [I f.spring, ah] 67, cBlk aq [Pq aa] 72]) R := St.bundleB (A := cObj aW (.loop bc) :: [cBlk ab [I (-1), I 0, B false] 79]) (T := [cBlk aL [I aV] 3, cMk (aX :: ([])), cBlk aB [ai, aj, ak, ae, I az, I aA, al] 30, cBlk ay [I 0, I 0, B false] 79, cBlk au (encB p) 74, cBlk ac [I f.spring, ah] 67, cBlk aq [Pq aa] 72]) rfl (H.pk [0, 2, 8, 1, 3, 4, 5, 6, 7])
 refine (zaP (M.yl (zaC ao f p)) (.inl (-1, 0, false)) aV aN aO aP ao az aA aQ hYC ⟨_, rfl, rfl⟩ (aR.app _) aZ (aS.app _) a8 (aT.app _) ba (aF.app _) aG (aU.app _) bb (Has.here (k := 1) rfl) bF _ (H.gt 6)).mono ?_
 rintro vq cC ⟨bU, q0, cD, bV, hvq, am, bA⟩
 subst bV
 replace H := H.back am rfl
 clear am hYC
 rcases bU with ⟨s3, s4, s5⟩ | _
 ·try dsimp only at hM
  obtain ⟨_, rfl, rfl⟩ := bA
  refine ⟨_, [cBlk ab [I s3, I s4, B s5] 79, cBlk aB [ai, aj, ak, ae, I az, I aA, al] 30, cBlk ay [I 0, I 0, B false] 79, cBlk au (encB p) 74, cBlk ac [I f.spring, ah] 67, cBlk aq [Pq aa] 72, cBlk aL [I q0] 3], H.unbundle.pick [0, 3, 1, 4, 5, 6, 7, 8, 2] (by decide) rfl, bf.nb, ?_⟩
  intro cE H
  rw [bf.pd]
  replace H := H.nf
  try simp only []
  replace H := H.pk [0, 1, 3]
  refine WD.seq ?_
  refine WD.of ?_
  refine W.region rfl ?_
  refine s_val (x_ld (p := Pq ab) (v := .agg #[I s3, I s4, B s5]) rfl (ldb_ag (ds := [I s3, I s4, B s5]) Ag79 Sz79 (H.bl 1) rfl rfl)) ?_
  refine t_sw 2 0 [I s3, I s4, B s5] (.agg #[I s3, I s4, B s5]) H rfl rfl Sz79 rfl rfl rfl rfl ?_
  intro cF H
  refine s_nil ?_
  refine WD.of ?_
  refine W.ret ?_
  refine bodyD_r (H.pk [0, 1, 2]) ?_
  intro cG H
  replace H := H.nf
  have bW := (H.bl 1)
  have bX := M.e_pure hM
  exact ⟨_, (resE_of1 (v := .agg #[I s3, I s4, B s5]) rfl (.cell (v := .agg #[I s3, I s4, B s5]) rfl (run_loadVar_ag (ds := [I s3, I s4, B s5]) Ag79 Sz79 bW rfl rfl) <| .nil)), ⟨s3, s4, s5, bX, rfl, (H.pk [])⟩⟩
 obtain ⟨_, _, h_⟩ := bA; exact h_.elim

def zc3 (x : Rpt) (aa : Int) : M Bool :=
  M.pure (x.danger && (x.watch == aa))
theorem zdf {R : List Chunk} {ac : Nat} (x : Rpt) (aa : Int) (ae : Has R (cBlk ac [I aa] 3)) {r : Bool} (hM : (zc3 x aa).Ends r) (w : World) (H : St w w [] R) : Ret Try.prog 33 #[.agg #[I x.watch, I x.stage, B x.danger], Pq ac] w fun v w' => ∃ (y0 : Bool), y0 = r /\ v = B y0 /\ St w w' [] R := by
 refine ret_of_W Try.func33 rfl rfl rfl ?_
 refine W.seq ?_
 refine W.region rfl ?_
 refine t_box (v := .agg #[I x.watch, I x.stage, B x.danger]) (cs := [I x.watch, I x.stage, B x.danger]) H rfl rfl ?_
 intro ab ai H
 refine zA (B false) rfl ?_
 refine s_nil ?_
 refine W.seq ?_
 refine W.region rfl ?_
 refine s_val (x_fa (a := Pq ab) (v := Oq ab 2) rfl (fa_blk (o := 0) Fd79_2 Sz4)) ?_
 refine s_val (x_ld (p := Oq ab 2) (v := B x.danger) rfl (ldb_sc Sc4 (H.bl 0) rfl)) ?_
 refine zM (B x.danger) rfl ?_
 refine g_val x.danger (gy_t rfl) (fun hg => x_fa (a := Pq ab) (v := Pq ab) rfl (fa_blk (o := 0) Fd79_0 Sz3)) ?_
 refine g_val x.danger (gy_t rfl) (fun hg => x_ld (p := Pq ab) (v := I x.watch) (gd_of (c := x.danger) hg (Pq ab)) (ldb_sc Sc3 (H.bl 0) rfl)) ?_
 refine g_val x.danger (gy_t rfl) (fun hg => x_ld (p := Pq ac) (v := I aa) rfl (ldb_sc Sc3 (ae.blk H) rfl)) ?_
 refine g_val x.danger (gy_t rfl) (fun hg => x_cmp (kd := .i64) (a := x.watch) (b := aa) (r := x.watch == aa) (gd_of (c := x.danger) hg (I x.watch)) (gd_of (c := x.danger) hg (I aa)) rfl) ?_
 refine s_val (x_pand (b := x.danger) (r := x.watch == aa) rfl (fun hb => gd_of (c := x.danger) (by first | exact hb | (rw [hb]; rfl) | simp_all) (B (x.watch == aa))) rfl) ?_
 refine zA (B (x.danger && (x.watch == aa))) rfl ?_
 refine s_nil ?_
 refine W.ret ?_
 have ah := M.e_pure hM
 exact ⟨_, resE_tmp rfl, ⟨(x.danger && (x.watch == aa)), ah, rfl, (H.pk [])⟩⟩

def zcn (ab : List Int) (ac : List Span) (ae : List Int) (ah : List Town) (ai : Int) (aj : Int) (aa : List Flood) (p : List Bool) (ak : Int) : (Nat × (List Int)) -> M ((Nat × (List Int)) ⊕ ((List Int) × (List Int))) := fun (s, l) =>
  bif decide ((s : Int) < (aa.length : Int)) then (
  M.grd (decide ((s : Int) < (aa.length : Int))) <|
  M.bind (zan ab ac ae ah ai aj aa (aa.getD s default) p) fun (r0, r1, r2) =>
  M.bind (zc3 (⟨(r0 : Int), (r1 : Int), r2⟩ : Rpt) ak) fun r3 =>
  bif r3 then (
  M.grd (decide ((l.length + ([(s : Int)]).length) * 8 <= 140737488355328)) <|
  M.pure (.inl (s + 1, l ++ ([(s : Int)]))))
  else (
  M.pure (.inl (s + 1, l))))
  else (
  M.pure (.inr (l, l)))
def zcR (aa : List Int) (ab : List Span) (ac : List Int) (ae : List Town) (ah : Int) (ai : Int) (aj : List Flood) (p : List Bool) (ak : Int) : M (List Int) :=
  M.bind (M.iter (zcn aa ab ac ae ah ai aj p ak) (0, [])) fun (l2, l3) =>
  M.pure l3
theorem zdn {R : List Chunk} {ab : Nat} {aF : Cells} {aG : Value} {aH : Cells} {aI : Value} {aJ : Cells} {aK : Value} {aL : Cells} {aM : Value} {aN : Cells} {ah : Value} {aW : Nat} {ai : Nat} (aq : List Int) (au : List Span) (av : List Int) (aw : List Town) (ax : Int) (ay : Int) (aa : List Flood) (p : List Bool) (az : Int) (aX : Reads R aF) (aY : Sl aF aG aq) (aZ : Reads R aH) (a8 : Sl aH aI au) (ba : Reads R aJ) (bb : Sl aJ aK av) (bc : Reads R aL) (bf : Sl aL aM aw) (aB : Reads R aN) (ak : Sl aN ah aa) (aO : Has R (cBlk ab [aG, aI, aK, aM, I ax, I ay, ah, .map (some aW)] 86)) (aP : p.length = 12) (bg : Has R (cBlk ai [I az] 3)) {r : (List Int)} (hM : (zcR aq au av aw ax ay aa p az).Ends r) (w : World) (H : St w w [] R) : Ret Try.prog 32 #[Pq ab, .agg (encB p).toArray, .agg #[.func (.func 33) #[] #[Pq ai]]] w fun v w' => ∃ (y0 : List Int) (u0 : Value), y0 = r /\ v = u0 /\ St w w' [cOwn (α := Int) 3 u0 y0] R := by
 refine ret_of_W Try.func32 rfl rfl rfl ?_
 refine W.seq ?_
 refine W.region rfl ?_
 refine t_box (v := .agg (encB p).toArray) (cs := encB p) H rfl rfl ?_
 intro aA bw H
 refine t_box (v := .agg #[.func (.func 33) #[] #[Pq ai]]) (cs := [.func (.func 33) #[] #[Pq ai]]) H rfl rfl ?_
 intro aj bx H
 refine zA (.slice none 0 0) rfl ?_
 refine s_nil ?_
 refine W.seq ?_
 refine W.region rfl ?_
 refine zA (.slice none 0 0) rfl ?_
 refine s_nil ?_
 refine W.seq ?_
 refine W.seq ?_
 refine W.region rfl ?_
 refine zM (Pq ab) rfl ?_
 refine s_val (x_nc (a := ⟨ab, 0, none⟩) rfl) ?_
 refine s_val (x_fa (a := Pq ab) (v := Pq ab) rfl (fa_blk (o := 0) Fd86_0 Sz30)) ?_
 refine s_val (x_fa (a := Pq ab) (v := Oq ab 6) rfl (fa_blk (o := 0) Fd30_5 Sz28)) ?_
 refine s_val (x_ld (p := Oq ab 6) (v := ah) rfl (ldb_sc Sc28 (aO.blk H) rfl)) ?_
 have bz := (ak).len_le
 refine s_val (x_lenS T28.und rfl ak) ?_
 refine zM (I 0) rfl ?_
 refine s_nil ?_
 refine W.block ?_
 replace H := H.nilOwn (α := Int) 3
 obtain ⟨bh, aC, bi⟩ := M.e_bind hM
 obtain ⟨bA, aC⟩ := M.e_iter aC
 refine W.loop (fun m σ W => ∃ (s : Nat) (l : List Int) (ac : Value) (ρ : Env), σ = upds ρ [(0, Pq ab), (4, Pq aA), (5, Pq aj), (7, ac), (14, ah), (15, I (aa.length : Int)), (16, I (s : Int))] /\ M.iterN (zcn aq au av aw ax ay aa p az) m (s, l) = some bh /\ St w W [cOwn (α := Int) 3 ac l, cBlk aj [.func (.func 33) #[] #[Pq ai]] 82, cBlk aA (encB p) 74] R) ?_ ?_
 ·exact ⟨_, 0, [], (.slice none 0 0), _, upds_of _ _ ⟨rfl, rfl, rfl, rfl, rfl, rfl, rfl, trivial⟩, aC, H⟩
 rintro bB σ bC ⟨s, l, ac, ρ, rfl, aQ, H⟩
 obtain ⟨aR, aS, bD, hM, aD⟩ := M.e_iterN aQ
 simp only [zcn] at hM
 clear aQ
 refine W.seq ?_
 refine W.region rfl ?_
 refine zC (s : Int) (aa.length : Int) (decide ((s : Int) < (aa.length : Int))) rfl rfl rfl ?_
 refine s_nil ?_
 refine W.seq ?_
 refine W.cond (decide ((s : Int) < (aa.length : Int))) rfl (fun al => ?_) (fun al => ?_)
 ·replace hM := M.e_t hM al
  simp only [qy1, qy2, qy3, qy4, qy5, qy6, ne_eq, qy7] at al
  refine W.skip ?_
  refine W.seq ?_
  refine W.block ?_
  refine W.seq ?_
  refine W.region rfl ?_
  refine zM (I (s : Int)) rfl ?_
  obtain ⟨bj, hM⟩ := M.e_grd hM
  simp only [Bool.and_eq_true, decide_eq_true_eq] at bj
  refine s_val (x_ix (a := ah) (b := I (s : Int)) (v := vat ah 2 (Int.toNat (s : Int))) rfl rfl (Sl.ix (α := Flood) T28.und T28.size ak (by omega) (by omega))) ?_
  obtain ⟨ae, bm, am⟩ := Flood_atA ak (i := (s : Int)) (by omega) (by omega)
  replace am : Sl _ ae (aa.getD s default).stages := am
  have bE := am.len_le
  refine s_val (x_ld (p := vat ah 2 (Int.toNat (s : Int))) (v := .agg #[I ((aa.getD s default).spring), ae]) rfl (ld_ag Ag67 Sz67 (At.mono bm (aB.at H)))) ?_
  refine t_alloc (cs := [I 0, .slice none 0 0]) H Al67 rfl ?_
  intro aT bF H
  refine zA (I (s : Int)) rfl ?_
  refine t_sw 0 0 [I ((aa.getD s default).spring), ae] (.agg #[I ((aa.getD s default).spring), ae]) H rfl rfl Sz67 rfl rfl rfl (by simp only [List.all_cons, List.all_nil, Bool.true_and, Bool.and_true, Sl.oc am]; try rfl) ?_
  intro bG H
  refine s_nil ?_
  refine W.seq ?_
  refine W.draw (fun W => St w W [cBlk aT [I ((aa.getD s default).spring), ae] 67, cOwn (α := Int) 3 ac l, cBlk aj [.func (.func 33) #[] #[Pq ai]] 82, cBlk aA (encB p) 74] R) [(0, true), (1, true), (2, true), (3, true), (4, true), (5, false), (6, false)] mixed (by decide +kernel) rfl ?_
  intro bH aU
  replace H := H.ext aU
  clear aU
  refine ⟨(H.pk [0, 1, 2, 3]), ?_⟩
  refine d_q rfl (fun w' H => x_fa (a := Pq aj) (v := Pq aj) rfl (fa_blk (o := 0) Fd82_0 Sz80)) ?_
  refine d_q rfl (fun w' H => x_ld (p := Pq aj) (v := .func (.func 33) #[] #[Pq ai]) rfl (ldb_sc Sc80 (H.bl 2) rfl)) ?_
  refine d_q rfl (fun w' H => x_mv (v := Pq ab) rfl) ?_
  refine d_q rfl (fun w' H => x_ld (p := Pq aT) (v := .agg #[I ((aa.getD s default).spring), ae]) rfl (ldb_ag (ds := [I ((aa.getD s default).spring), ae]) Ag67 Sz67 (H.bl 0) rfl rfl)) ?_
  refine d_q rfl (fun w' H => x_ld (p := Pq aA) (v := .agg (encB p).toArray) rfl (ldArrA Ag74 Sz74 aP (H.bl 3))) ?_
  refine d_l rfl ?_
  obtain ⟨bI, bn, hM⟩ := M.e_bind hM
  refine s_call cf34 [Pq ab, .agg #[I ((aa.getD s default).spring), ae], .agg (encB p).toArray] rfl (zaG aq au av aw ax ay aa (aa.getD s default) p (aX.app _) aY (aZ.app _) a8 (ba.app _) bb (bc.app _) bf (aB.app _) ak (aO.app _) (aB.app _) am aP bn _ (H.gt 4)) ?_
  rintro vq bJ ⟨r0, r1, r2, bo, hvq, ao⟩
  subst bo
  subst vq
  try dsimp only at hM
  replace H := H.bk ao
  clear ao
  refine s_nil ⟨(H.pk [0, 1, 2, 3]), ?_⟩
  refine d_l rfl ?_
  obtain ⟨bK, bp, hM⟩ := M.e_bind hM
  refine s_callv (f := 33) rfl cf33 [.agg #[I r0, I r1, B r2]] rfl (zdf (⟨(r0 : Int), (r1 : Int), r2⟩ : Rpt) az (bg.app _) bp _ (H.gt 4)) ?_
  rintro vq bL ⟨r3, bq, hvq, ao⟩
  subst bq
  subst vq
  try dsimp only at hM
  replace H := H.bk ao
  clear ao
  refine s_nil ⟨(H.pk [0, 1, 2, 3]), ?_⟩
  refine d_nil ?_
  refine W.cond r3 rfl (fun aE => ?_) (fun aE => ?_)
  ·replace hM := M.e_t hM aE
   refine W.region rfl ?_
   refine zM ac rfl ?_
   refine zM (I (s : Int)) rfl ?_
   refine t_bs (α := Int) T23 [I (s : Int)] [(s : Int)] H rfl (.cons rfl (Flat.rep_enc _ (s : Int)) <| .nil) rfl rfl rfl ?_
   intro br bM H
   obtain ⟨bt, hM⟩ := M.e_grd hM
   simp only [Bool.and_eq_true, decide_eq_true_eq] at bt
   refine t_app (α := Int) (k := 2) (l := l) (l2 := [(s : Int)]) (l' := l ++ ([(s : Int)])) (vy := br) T23 rfl H rfl rfl rfl (H.os 0) (H.ol 0) (rfl) (by first | omega | (simp only [List.length_nil] at *; omega)) ?_
   intro aV bN H
   replace H := H.nf
   refine zA aV rfl ?_
   refine s_nil ?_
   replace H := H.pk [2, 3, 4]
   refine W.region rfl ?_
   refine zR (s : Int) 1 ((s : Int) + 1) rfl rfl rfl (by omega) ?_
   refine zM (I ((s : Int) + 1)) rfl ?_
   refine s_nil ?_
   exact ⟨aR, aS, s + 1, l ++ ([(s : Int)]), aV, _, upds_of _ _ ⟨rfl, rfl, rfl, rfl, rfl, rfl, rfl, trivial⟩, M.e_inl hM aD, H⟩
  replace hM := M.e_f hM aE
  refine W.skip ?_
  refine W.region rfl ?_
  refine zR (s : Int) 1 ((s : Int) + 1) rfl rfl rfl (by omega) ?_
  refine zM (I ((s : Int) + 1)) rfl ?_
  refine s_nil ?_
  exact ⟨aR, aS, s + 1, l, ac, _, upds_of _ _ ⟨rfl, rfl, rfl, rfl, rfl, rfl, rfl, trivial⟩, M.e_inl hM aD, (H.pk [1, 2, 3])⟩
 replace hM := M.e_f hM al
 simp only [qy1, qy2, qy3, qy4, qy5, qy6, ne_eq, qy7] at al
 refine W.exit ?_
 have bu := M.e_inr hM aD
 subst bu
 replace hM := bi
 try dsimp only at hM
 replace H := H.pk [0]
 refine W.seq ?_
 refine W.region rfl ?_
 refine zM ac rfl ?_
 refine zA ac rfl ?_
 refine s_nil ?_
 refine W.ret ?_
 have bv := M.e_pure hM
 exact ⟨_, resE_tmp rfl, ⟨l, ac, bv, rfl, H⟩⟩

end Go.Proofs.Ytbaehghammbjdaa
end
section
set_option maxRecDepth 100000
set_option maxHeartbeats 16000000
namespace Go.Proofs.Ytbaehghammbjdaa
open Go Go.Nm
def zcl (ae : List Int) (ah : List Span) (ai : List Int) (aj : List Town) (aa : List Flood) (ak : Int) (al : Int) (am : List Bool) (r3 : List Int) : (Int × Int × Nat) -> M ((Int × Int × Nat) ⊕ (Int × Int)) := fun (ab, flood, s) =>
  bif decide ((s : Int) < (r3.length : Int)) then (
  M.grd (decide ((s : Int) < (r3.length : Int))) <|
  M.grd (decide ((0 : Int) <= (r3.getD s 0)) && decide ((r3.getD s 0) < (aa.length : Int))) <|
  M.bind (zan ae ah ai aj ak al aa (aa.getD (Int.toNat (r3.getD s 0)) default) am) fun (r0, ac, ao) =>
  bif decide (ac < ab) then (
  M.pure (.inl (ac, r3.getD s 0, s + 1)))
  else (
  M.pure (.inl (ab, flood, s + 1))))
  else (
  M.pure (.inr (ab, flood)))
def zct (aa : List Int) (ab : List Span) (ac : List Int) (ae : List Town) (ah : List Flood) (watches : List Int) (ai : Int) (aj : Int) (ak : List Bool) : (Nat × (List Int) × (List Int)) -> M ((Nat × (List Int) × (List Int)) ⊕ ((List Int) × (List Int) × (List Int) × (List Int))) := fun (s2, l, l2) =>
  bif decide ((s2 : Int) < (watches.length : Int)) then (
  M.grd (decide ((s2 : Int) < (watches.length : Int))) <|
  M.bind (zcR aa ab ac ae ai aj ah ak (watches.getD s2 0)) fun r3 =>
  M.bind (M.iter (zcl aa ab ac ae ah ai aj ak r3) (2001, -1, 0)) fun (al, flood2) =>
  M.grd (decide ((l.length + ([(al : Int)]).length) * 8 <= 140737488355328)) <|
  M.grd (decide ((l2.length + ([(flood2 : Int)]).length) * 8 <= 140737488355328)) <|
  M.pure (.inl (s2 + 1, l ++ ([(al : Int)]), l2 ++ ([(flood2 : Int)]))))
  else (
  M.pure (.inr (l, l2, l2, l)))
def zcj (aa : List Int) (ab : List Span) (ac : List Int) (ae : List Town) (ai : Int) (aj : Int) (ah : List Flood) (watches : List Int) : M ((List Int) × (List Int) × Int) :=
  M.bind (zap aa ab ac ae ai aj ah watches) fun x_ => match x_ with
  | (.inl (r1, r2)) => (
  bif r2 != 0 then (
  M.pure (([]), ([]), r2))
  else (
  M.fail))
  | (.inr (ak, al, am, ao)) => (
  bif ao != 0 then (
  M.fail)
  else (
  M.bind (M.iter (zct aa ab ac ae ah watches ak al am) (0, [], [])) fun (l3, l4, l5, l6) =>
  M.pure (l6, l5, 0)))
theorem zc5 {R : List Chunk} {br : Cells} {aj : Value} {bt : Cells} {ak : Value} {bu : Cells} {al : Value} {bv : Cells} {am : Value} {bw : Cells} {ab : Value} {bx : Cells} {aD : Value} (ay : List Int) (az : List Span) (aA : List Int) (aB : List Town) (aq : Int) (au : Int) (ai : List Flood) (watches : List Int) (aW : Reads R br) (aX : Sl br aj ay) (aY : Reads R bt) (aZ : Sl bt ak az) (a8 : Reads R bu) (ba : Sl bu al aA) (bb : Reads R bv) (bc : Sl bv am aB) (aI : Reads R bw) (aK : Sl bw ab ai) (bz : Reads R bx) (aO : Sl bx aD watches) {r : ((List Int) × (List Int) × Int)} (hM : (zcj ay az aA aB aq au ai watches).Ends r) (w : World) (H : St w w [] R) : Ret Try.prog 11 #[.agg #[aj, ak, al, am, I aq, I au, ab], aD] w fun v w' => ∃ (y0 : List Int) (y1 : List Int) (y2 : Int) (u0 : Value) (u1 : Value), (y0, y1, y2) = r /\ v = .tuple #[u0, u1, I y2] /\ St w w' [cOwn (α := Int) 3 u0 y0, cOwn (α := Int) 3 u1 y1] R := by
 refine ret_of_W Try.func11 rfl rfl rfl ?_
 refine W.seq ?_
 refine W.region rfl ?_
 refine t_box (v := .agg #[aj, ak, al, am, I aq, I au, ab]) (cs := [aj, ak, al, am, I aq, I au, ab]) H rfl rfl ?_
 intro aL cb H
 refine zA (.slice none 0 0) rfl ?_
 refine zA (.slice none 0 0) rfl ?_
 refine zA (I 0) rfl ?_
 refine s_nil ?_
 refine W.seq ?_
 refine W.region rfl ?_
 refine s_val (x_ld (p := Pq aL) (v := .agg #[aj, ak, al, am, I aq, I au, ab]) rfl (ldb_ag (ds := [aj, ak, al, am, I aq, I au, ab]) Ag30 Sz30 (H.bl 0) rfl rfl)) ?_
 refine zM aD rfl ?_
 obtain ⟨cc, bG, hM⟩ := M.e_bind hM
 refine s_call cf31 [.agg #[aj, ak, al, am, I aq, I au, ab], aD] rfl (zb1 ay az aA aB aq au ai watches (aW.app _) aX (aY.app _) aZ (a8.app _) ba (bb.app _) bc (aI.app _) aK (bz.app _) aO bG _ (H.gt 1)) ?_
 rintro vq cd (⟨r1, r2, bH, hvq, ao, bI⟩ | ⟨av, aw, ac, aE, aa, aH, bf, bJ, hvq, ao, aM⟩)
 ·subst bH
  subst vq
  try dsimp only at hM
  replace H := H.bk ao
  clear ao
  refine zM (.tuple #[.pointer none, .agg (encB r1).toArray, I r2]) rfl ?_
  refine zX [.pointer none, .agg (encB r1).toArray, I r2] (.pointer none) rfl rfl ?_
  refine zX [.pointer none, .agg (encB r1).toArray, I r2] (.agg (encB r1).toArray) rfl rfl ?_
  refine zX [.pointer none, .agg (encB r1).toArray, I r2] (I r2) rfl rfl ?_
  refine t_alloc (cs := encB (List.replicate 12 false)) H Al74 rfl ?_
  intro aC ce H
  have bn : (List.replicate 12 false).length = 12 := by simp
  refine zA (.pointer none) rfl ?_
  refine t_stArrA (k := 0) (b := aC) (l := List.replicate 12 false) (l' := r1) (L' := [cBlk aC (encB r1) 74, cBlk aL [aj, ak, al, am, I aq, I au, ab] 30]) H rfl rfl rfl Sz74 bn bI rfl ?_
  intro cf H
  refine zA (I r2) rfl ?_
  refine s_nil ?_
  refine W.seq ?_
  refine W.seq ?_
  refine W.region rfl ?_
  refine zM (I r2) rfl ?_
  refine zC r2 0 (r2 != 0) rfl rfl rfl ?_
  refine s_nil ?_
  refine W.cond (r2 != 0) rfl (fun bg => ?_) (fun bg => ?_)
  ·replace hM := M.e_t hM bg
   simp only [qy1, qy2, qy3, qy4, qy5, qy6, ne_eq, qy7] at bg
   refine W.seq ?_
   refine W.region rfl ?_
   refine zM (I r2) rfl ?_
   refine zA (.slice none 0 0) rfl ?_
   refine zA (.slice none 0 0) rfl ?_
   refine zA (I r2) rfl ?_
   refine s_nil ?_
   replace H := H.pk []
   refine W.ret ?_
   have bo := M.e_pure hM
   replace H := H.nilOwn (α := Int) 3
   replace H := H.nilOwn (α := Int) 3
   exact ⟨_, resE_tmp3 rfl, ⟨([]), ([]), r2, (.slice none 0 0), (.slice none 0 0), bo, rfl, (H.pk [1, 0])⟩⟩
  replace hM := M.e_f hM bg
  exact (M.e_fail hM).elim
 subst bJ
 subst vq
 try dsimp only at hM
 replace H := H.bk ao
 clear ao
 refine zM (.tuple #[Pq aa, .agg (encB ac).toArray, I aE]) rfl ?_
 refine zX [Pq aa, .agg (encB ac).toArray, I aE] (Pq aa) rfl rfl ?_
 refine zX [Pq aa, .agg (encB ac).toArray, I aE] (.agg (encB ac).toArray) rfl rfl ?_
 refine zX [Pq aa, .agg (encB ac).toArray, I aE] (I aE) rfl rfl ?_
 refine t_alloc (cs := encB (List.replicate 12 false)) H Al74 rfl ?_
 intro aC cg H
 have bn : (List.replicate 12 false).length = 12 := by simp
 refine zA (Pq aa) rfl ?_
 refine t_stArrA (k := 0) (b := aC) (l := List.replicate 12 false) (l' := ac) (L' := [cBlk aC (encB ac) 74, cBlk aa [aj, ak, al, am, I av, I aw, ab, .map (some aH)] 86, cMem encDm aH bf (zaa ay az aA aB av aw ai), cBlk aL [aj, ak, al, am, I aq, I au, ab] 30]) H rfl rfl rfl Sz74 bn aM rfl ?_
 intro ch H
 refine zA (I aE) rfl ?_
 refine s_nil ?_
 refine W.seq ?_
 refine W.seq ?_
 refine W.region rfl ?_
 refine zM (I aE) rfl ?_
 refine zC aE 0 (aE != 0) rfl rfl rfl ?_
 refine s_nil ?_
 refine W.cond (aE != 0) rfl (fun bh => ?_) (fun bh => ?_)
 ·replace hM := M.e_t hM bh
  exact (M.e_fail hM).elim
 replace hM := M.e_f hM bh
 simp only [qy1, qy2, qy3, qy4, qy5, qy6, ne_eq, qy7] at bh
 refine W.skip ?_
 refine W.seq ?_
 refine W.seq ?_
 refine W.region rfl ?_
 refine zM aD rfl ?_
 have ck := (aO).len_le
 refine s_val (x_lenS T23.und rfl aO) ?_
 refine zM (I 0) rfl ?_
 refine s_nil ?_
 refine W.block ?_
 replace H := H.nilOwn (α := Int) 3
 replace H := H.nilOwn (α := Int) 3
 obtain ⟨bK, bp, bL⟩ := M.e_bind hM
 obtain ⟨bM, bp⟩ := M.e_iter bp
 refine W.loop (fun m σ W => ∃ (s2 : Nat) (l : List Int) (l2 : List Int) (aF : Value) (aG : Value) (ρ : Env), σ = upds ρ [(4, aF), (5, aG), (7, Pq aa), (8, Pq aC), (26, aD), (27, I (watches.length : Int)), (28, I (s2 : Int))] /\ M.iterN (zct ay az aA aB ai watches av aw ac) m (s2, l, l2) = some bK /\ St w W [cOwn (α := Int) 3 aG l2, cOwn (α := Int) 3 aF l, cBlk aC (encB ac) 74, cBlk aa [aj, ak, al, am, I av, I aw, ab, .map (some aH)] 86, cMem encDm aH bf (zaa ay az aA aB av aw ai), cBlk aL [aj, ak, al, am, I aq, I au, ab] 30] R) ?_ ?_
 ·exact ⟨_, 0, [], [], (.slice none 0 0), (.slice none 0 0), _, upds_of _ _ ⟨rfl, rfl, rfl, rfl, rfl, rfl, rfl, trivial⟩, bp, H⟩
 rintro cl σ cm ⟨s2, l, l2, aF, aG, ρ, rfl, bA, H⟩
 obtain ⟨bN, bO, cn, hM, bB⟩ := M.e_iterN bA
 simp only [zct] at hM
 clear bA
 refine W.seq ?_
 refine W.region rfl ?_
 refine zC (s2 : Int) (watches.length : Int) (decide ((s2 : Int) < (watches.length : Int))) rfl rfl rfl ?_
 refine s_nil ?_
 refine W.seq ?_
 refine W.cond (decide ((s2 : Int) < (watches.length : Int))) rfl (fun aP => ?_) (fun aP => ?_)
 ·replace hM := M.e_t hM aP
  simp only [qy1, qy2, qy3, qy4, qy5, qy6, ne_eq, qy7] at aP
  refine W.skip ?_
  refine W.seq ?_
  refine W.block ?_
  refine W.seq ?_
  refine W.region rfl ?_
  obtain ⟨bP, hM⟩ := M.e_grd hM
  simp only [Bool.and_eq_true, decide_eq_true_eq] at bP
  refine s_val (x_ix (a := aD) (b := I (s2 : Int)) (v := vat aD 1 (Int.toNat (s2 : Int))) rfl rfl (Sl.ix (α := Int) T23.und T23.size aO (by omega) (by omega))) ?_
  refine s_val (x_ld (p := vat aD 1 (Int.toNat (s2 : Int))) (v := I (watches.getD s2 0)) rfl (ld_sc Sc3 (At.mono (Int_at aO (i := (s2 : Int)) (by omega) (by omega)) (bz.at H)))) ?_
  refine t_alloc (cs := [I 0]) H Al3 rfl ?_
  intro aJ co H
  refine t_sw 0 0 [I (watches.getD s2 0)] (I (watches.getD s2 0)) H rfl rfl Sz3 rfl rfl rfl rfl ?_
  intro cp H
  refine s_nil ?_
  refine W.seq ?_
  refine W.region rfl ?_
  refine zA (I 2001) rfl ?_
  refine zA (I (-1)) rfl ?_
  refine s_nil ?_
  refine W.seq ?_
  refine W.seq ?_
  refine W.region rfl ?_
  refine zM (Pq aa) rfl ?_
  refine s_val (x_ld (p := Pq aC) (v := .agg (encB ac).toArray) rfl (ldArrA Ag74 Sz74 aM (H.bl 3))) ?_
  refine s_val (x_mf (fs := []) (cs := [Pq aJ]) rfl rfl) ?_
  refine s_val (x_bld (ps := [(0, .func (.func 33) #[] #[Pq aJ])]) (zs := [.nilFunc]) (L' := [.func (.func 33) #[] #[Pq aJ]]) rfl Try.underlying82 Al82 rfl (Bd82 Try.underlying82) (.cons (cs := [.func (.func 33) #[] #[Pq aJ]]) rfl rfl rfl rfl rfl <| .nil)) ?_
  obtain ⟨cq, bQ, hM⟩ := M.e_bind hM
  refine s_call cf32 [Pq aa, .agg (encB ac).toArray, .agg #[.func (.func 33) #[] #[Pq aJ]]] rfl (zdn ay az aA aB av aw ai ac (watches.getD s2 0) (aW.app _) aX (aY.app _) aZ (a8.app _) ba (bb.app _) bc (aI.app _) aK (Has.here (k := 4) rfl) aM (Has.here (k := 0) rfl) bQ _ (H.gt 7)) ?_
  rintro vq ct ⟨r3, aN, bR, hvq, ao⟩
  subst bR
  subst vq
  try dsimp only at hM
  replace H := H.bk ao
  clear ao
  have cu := ((H.os 0)).len_le
  refine s_val (x_lenS T23.und rfl (H.os 0)) ?_
  refine zM (I 0) rfl ?_
  refine s_nil ?_
  refine W.block ?_
  obtain ⟨bS, bq, bT⟩ := M.e_bind hM
  obtain ⟨bM, bq⟩ := M.e_iter bq
  refine W.loop (fun m σ W => ∃ (ae : Int) (flood : Int) (s : Nat) (ρ : Env), σ = upds ρ [(4, aF), (5, aG), (7, Pq aa), (8, Pq aC), (11, I ae), (12, I flood), (26, aD), (27, I (watches.length : Int)), (28, I (s2 : Int)), (36, aN), (37, I (r3.length : Int)), (38, I (s : Int))] /\ M.iterN (zcl ay az aA aB ai av aw ac r3) m (ae, flood, s) = some bS /\ St w W [cOwn (α := Int) 3 aN r3, cBlk aJ [I (watches.getD s2 0)] 3, cOwn (α := Int) 3 aG l2, cOwn (α := Int) 3 aF l, cBlk aC (encB ac) 74, cBlk aa [aj, ak, al, am, I av, I aw, ab, .map (some aH)] 86, cMem encDm aH bf (zaa ay az aA aB av aw ai), cBlk aL [aj, ak, al, am, I aq, I au, ab] 30] R) ?_ ?_
  ·exact ⟨_, 2001, -1, 0, _, upds_of _ _ ⟨rfl, rfl, rfl, rfl, rfl, rfl, rfl, rfl, rfl, rfl, rfl, rfl, trivial⟩, bq, H⟩
  rintro cw σ cx ⟨ae, flood, s, ρ, rfl, bC, H⟩
  obtain ⟨bi, bj, cy, hM, aQ⟩ := M.e_iterN bC
  simp only [zcl] at hM
  clear bC
  refine W.seq ?_
  refine W.region rfl ?_
  refine zC (s : Int) (r3.length : Int) (decide ((s : Int) < (r3.length : Int))) rfl rfl rfl ?_
  refine s_nil ?_
  refine W.seq ?_
  refine W.cond (decide ((s : Int) < (r3.length : Int))) rfl (fun aR => ?_) (fun aR => ?_)
  ·replace hM := M.e_t hM aR
   simp only [qy1, qy2, qy3, qy4, qy5, qy6, ne_eq, qy7] at aR
   refine W.skip ?_
   refine W.seq ?_
   refine W.block ?_
   refine W.seq ?_
   refine W.region rfl ?_
   obtain ⟨bU, hM⟩ := M.e_grd hM
   simp only [Bool.and_eq_true, decide_eq_true_eq] at bU
   refine s_val (x_ix (a := aN) (b := I (s : Int)) (v := vat aN 1 (Int.toNat (s : Int))) rfl rfl (Sl.ix (α := Int) T23.und T23.size (H.os 0) (by omega) (by omega))) ?_
   refine s_val (x_ld (p := vat aN 1 (Int.toNat (s : Int))) (v := I (r3.getD s 0)) rfl (ld_sc Sc3 (At.mono (Int_at (H.os 0) (i := (s : Int)) (by omega) (by omega)) (H.ol 0)))) ?_
   refine zA (I (r3.getD s 0)) rfl ?_
   refine s_nil ?_
   refine W.seq ?_
   refine W.drawT (fun W => St w W [cOwn (α := Int) 3 aN r3, cBlk aJ [I (watches.getD s2 0)] 3, cOwn (α := Int) 3 aG l2, cOwn (α := Int) 3 aF l, cBlk aC (encB ac) 74, cBlk aa [aj, ak, al, am, I av, I aw, ab, .map (some aH)] 86, cMem encDm aH bf (zaa ay az aA aB av aw ai), cBlk aL [aj, ak, al, am, I aq, I au, ab] 30] R) (.q 0 (.q 1 (.q 2 (.q 3 (.q 4 (.q 5 (.q 6 (.q 7 (.q 8 (.q 9 (.l2 10 (.l 11 (.l 12 .nil)) 11 (.l 10 (.l 12 .nil))))))))))))) mixed (by decide +kernel) rfl ?_
   intro cz bD
   replace H := H.ext bD
   clear bD
   refine ⟨(H.pk [0, 1, 2, 3, 4, 5, 6, 7]), ?_⟩
   refine t_q rfl (fun w' H => x_mv (v := Pq aa) rfl) ?_
   refine t_q rfl (fun w' H => x_mv (v := Pq aa) rfl) ?_
   refine t_q rfl (fun w' H => x_nc (a := ⟨aa, 0, none⟩) rfl) ?_
   refine t_q rfl (fun w' H => x_fa (a := Pq aa) (v := Pq aa) rfl (fa_blk (o := 0) Fd86_0 Sz30)) ?_
   refine t_q rfl (fun w' H => x_fa (a := Pq aa) (v := Oq aa 6) rfl (fa_blk (o := 0) Fd30_5 Sz28)) ?_
   refine t_q rfl (fun w' H => x_ld (p := Oq aa 6) (v := ab) rfl (ldb_sc Sc28 (H.bl 5) rfl)) ?_
   refine t_q rfl (fun w' H => x_mv (v := I (r3.getD s 0)) rfl) ?_
   obtain ⟨bV, hM⟩ := M.e_grd hM
   simp only [Bool.and_eq_true, decide_eq_true_eq] at bV
   refine t_q rfl (fun w' H => x_ix (a := ab) (b := I (r3.getD s 0)) (v := vat ab 2 (Int.toNat (r3.getD s 0))) rfl rfl (Sl.ix (α := Flood) T28.und T28.size aK (by omega) (by omega))) ?_
   obtain ⟨bm, bW, aS⟩ := Flood_atA aK (i := r3.getD s 0) (by omega) (by omega)
   replace aS : Sl _ bm (ai.getD (Int.toNat (r3.getD s 0)) default).stages := aS
   have cA := aS.len_le
   refine t_q rfl (fun w' H => x_ld (p := vat ab 2 (Int.toNat (r3.getD s 0))) (v := .agg #[I ((ai.getD (Int.toNat (r3.getD s 0)) default).spring), bm]) rfl (ld_ag Ag67 Sz67 (At.mono bW (aI.at H)))) ?_
   refine t_q rfl (fun w' H => x_ld (p := Pq aC) (v := .agg (encB ac).toArray) rfl (ldArrA Ag74 Sz74 aM (H.bl 4))) ?_
   refine t_l2 rfl rfl ?_ ?_
   ·skip
    obtain ⟨cB, bX, hM⟩ := M.e_bind hM
    refine s_call cf34 [Pq aa, .agg #[I ((ai.getD (Int.toNat (r3.getD s 0)) default).spring), bm], .agg (encB ac).toArray] rfl (zaG ay az aA aB av aw ai (ai.getD (Int.toNat (r3.getD s 0)) default) ac (aW.app _) aX (aY.app _) aZ (a8.app _) ba (bb.app _) bc (aI.app _) aK (Has.here (k := 5) rfl) (aI.app _) aS aM bX _ (H.gt 8)) ?_
    rintro vq cC ⟨r0, ah, aT, bY, hvq, ao⟩
    subst bY
    subst vq
    try dsimp only at hM
    replace H := H.bk ao
    clear ao
    refine s_nil ⟨(H.pk [0, 1, 2, 3, 4, 5, 6, 7]), ?_⟩
    refine t_l rfl ?_
    refine t_alloc (cs := [I 0, I 0, B false]) H Al79 rfl ?_
    intro ax cD H
    refine s_nil ⟨(H.pk [1, 2, 3, 4, 5, 6, 7, 8]), ?_⟩
    refine t_l rfl ?_
    refine t_sw 0 0 [I r0, I ah, B aT] (.agg #[I r0, I ah, B aT]) H rfl rfl Sz79 rfl rfl rfl rfl ?_
    intro cE H
    refine s_nil ⟨(H.pk [1, 2, 3, 4, 5, 6, 7, 8]), ?_⟩
    refine t_nil ?_
    refine W.seq ?_
    refine W.region rfl ?_
    refine s_val (x_fa (a := Pq ax) (v := Oq ax 1) rfl (fa_blk (o := 0) Fd79_1 Sz3)) ?_
    refine s_val (x_ld (p := Oq ax 1) (v := I ah) rfl (ldb_sc Sc3 (H.bl 0) rfl)) ?_
    refine zM (I ae) rfl ?_
    refine zC ah ae (decide (ah < ae)) rfl rfl rfl ?_
    refine s_nil ?_
    refine W.cond (decide (ah < ae)) rfl (fun aU => ?_) (fun aU => ?_)
    ·replace hM := M.e_t hM aU
     simp only [qy1, qy2, qy3, qy4, qy5, qy6, ne_eq, qy7] at aU
     refine W.region rfl ?_
     refine s_val (x_fa (a := Pq ax) (v := Oq ax 1) rfl (fa_blk (o := 0) Fd79_1 Sz3)) ?_
     refine s_val (x_ld (p := Oq ax 1) (v := I ah) rfl (ldb_sc Sc3 (H.bl 0) rfl)) ?_
     refine zM (I (r3.getD s 0)) rfl ?_
     refine zA (I ah) rfl ?_
     refine zA (I (r3.getD s 0)) rfl ?_
     refine s_nil ?_
     refine W.region rfl ?_
     refine zR (s : Int) 1 ((s : Int) + 1) rfl rfl rfl (by omega) ?_
     refine zM (I ((s : Int) + 1)) rfl ?_
     refine s_nil ?_
     exact ⟨bi, bj, ah, r3.getD s 0, s + 1, _, upds_of _ _ ⟨rfl, rfl, rfl, rfl, rfl, rfl, rfl, rfl, rfl, rfl, rfl, rfl, trivial⟩, M.e_inl hM aQ, (H.pk [1, 2, 3, 4, 5, 6, 7, 8])⟩
    replace hM := M.e_f hM aU
    simp only [qy1, qy2, qy3, qy4, qy5, qy6, ne_eq, qy7] at aU
    refine W.skip ?_
    refine W.region rfl ?_
    refine zR (s : Int) 1 ((s : Int) + 1) rfl rfl rfl (by omega) ?_
    refine zM (I ((s : Int) + 1)) rfl ?_
    refine s_nil ?_
    exact ⟨bi, bj, ae, flood, s + 1, _, upds_of _ _ ⟨rfl, rfl, rfl, rfl, rfl, rfl, rfl, rfl, rfl, rfl, rfl, rfl, trivial⟩, M.e_inl hM aQ, (H.pk [1, 2, 3, 4, 5, 6, 7, 8])⟩
   skip
   refine t_alloc (cs := [I 0, I 0, B false]) H Al79 rfl ?_
   intro ax cF H
   refine s_nil ⟨(H.pk [1, 2, 3, 4, 5, 6, 7, 8]), ?_⟩
   refine t_l rfl ?_
   obtain ⟨cG, bZ, hM⟩ := M.e_bind hM
   refine s_call cf34 [Pq aa, .agg #[I ((ai.getD (Int.toNat (r3.getD s 0)) default).spring), bm], .agg (encB ac).toArray] rfl (zaG ay az aA aB av aw ai (ai.getD (Int.toNat (r3.getD s 0)) default) ac (aW.app _) aX (aY.app _) aZ (a8.app _) ba (bb.app _) bc (aI.app _) aK (Has.here (k := 6) rfl) (aI.app _) aS aM bZ _ (H.gt 9)) ?_
   rintro vq cH ⟨r0, ah, aT, b4, hvq, ao⟩
   subst b4
   subst vq
   try dsimp only at hM
   replace H := H.bk ao
   clear ao
   refine s_nil ⟨(H.pk [1, 2, 3, 4, 5, 6, 7, 8]), ?_⟩
   refine t_l rfl ?_
   refine t_sw 0 0 [I r0, I ah, B aT] (.agg #[I r0, I ah, B aT]) H rfl rfl Sz79 rfl rfl rfl rfl ?_
   intro cI H
   refine s_nil ⟨(H.pk [1, 2, 3, 4, 5, 6, 7, 8]), ?_⟩
   refine t_nil ?_
   refine W.seq ?_
   refine W.region rfl ?_
   refine s_val (x_fa (a := Pq ax) (v := Oq ax 1) rfl (fa_blk (o := 0) Fd79_1 Sz3)) ?_
   refine s_val (x_ld (p := Oq ax 1) (v := I ah) rfl (ldb_sc Sc3 (H.bl 0) rfl)) ?_
   refine zM (I ae) rfl ?_
   refine zC ah ae (decide (ah < ae)) rfl rfl rfl ?_
   refine s_nil ?_
   refine W.cond (decide (ah < ae)) rfl (fun aV => ?_) (fun aV => ?_)
   ·replace hM := M.e_t hM aV
    simp only [qy1, qy2, qy3, qy4, qy5, qy6, ne_eq, qy7] at aV
    refine W.region rfl ?_
    refine s_val (x_fa (a := Pq ax) (v := Oq ax 1) rfl (fa_blk (o := 0) Fd79_1 Sz3)) ?_
    refine s_val (x_ld (p := Oq ax 1) (v := I ah) rfl (ldb_sc Sc3 (H.bl 0) rfl)) ?_
    refine zM (I (r3.getD s 0)) rfl ?_
    refine zA (I ah) rfl ?_
    refine zA (I (r3.getD s 0)) rfl ?_
    refine s_nil ?_
    refine W.region rfl ?_
    refine zR (s : Int) 1 ((s : Int) + 1) rfl rfl rfl (by omega) ?_
    refine zM (I ((s : Int) + 1)) rfl ?_
    refine s_nil ?_
    exact ⟨bi, bj, ah, r3.getD s 0, s + 1, _, upds_of _ _ ⟨rfl, rfl, rfl, rfl, rfl, rfl, rfl, rfl, rfl, rfl, rfl, rfl, trivial⟩, M.e_inl hM aQ, (H.pk [1, 2, 3, 4, 5, 6, 7, 8])⟩
   replace hM := M.e_f hM aV
   simp only [qy1, qy2, qy3, qy4, qy5, qy6, ne_eq, qy7] at aV
   refine W.skip ?_
   refine W.region rfl ?_
   refine zR (s : Int) 1 ((s : Int) + 1) rfl rfl rfl (by omega) ?_
   refine zM (I ((s : Int) + 1)) rfl ?_
   refine s_nil ?_
   exact ⟨bi, bj, ae, flood, s + 1, _, upds_of _ _ ⟨rfl, rfl, rfl, rfl, rfl, rfl, rfl, rfl, rfl, rfl, rfl, rfl, trivial⟩, M.e_inl hM aQ, (H.pk [1, 2, 3, 4, 5, 6, 7, 8])⟩
  replace hM := M.e_f hM aR
  simp only [qy1, qy2, qy3, qy4, qy5, qy6, ne_eq, qy7] at aR
  refine W.exit ?_
  have b5 := M.e_inr hM aQ
  subst b5
  replace hM := bT
  try dsimp only at hM
  replace H := H.pk [2, 3, 4, 5, 6, 7]
  refine W.region rfl ?_
  refine zM aF rfl ?_
  refine zM (I ae) rfl ?_
  refine t_bs (α := Int) T23 [I ae] [(ae : Int)] H rfl (.cons rfl (Flat.rep_enc _ (ae : Int)) <| .nil) rfl rfl rfl ?_
  intro b6 cJ H
  obtain ⟨b7, hM⟩ := M.e_grd hM
  simp only [Bool.and_eq_true, decide_eq_true_eq] at b7
  refine t_app (α := Int) (k := 2) (l := l) (l2 := [(ae : Int)]) (l' := l ++ ([(ae : Int)])) (vy := b6) T23 rfl H rfl rfl rfl (H.os 0) (H.ol 0) (rfl) (by first | omega | (simp only [List.length_nil] at *; omega)) ?_
  intro bE cK H
  replace H := H.nf
  refine zM aG rfl ?_
  refine zM (I flood) rfl ?_
  refine t_bs (α := Int) T23 [I flood] [(flood : Int)] H rfl (.cons rfl (Flat.rep_enc _ (flood : Int)) <| .nil) rfl rfl rfl ?_
  intro b8 cL H
  obtain ⟨b9, hM⟩ := M.e_grd hM
  simp only [Bool.and_eq_true, decide_eq_true_eq] at b9
  refine t_app (α := Int) (k := 2) (l := l2) (l2 := [(flood : Int)]) (l' := l2 ++ ([(flood : Int)])) (vy := b8) T23 rfl H rfl rfl rfl (H.os 0) (H.ol 0) (rfl) (by first | omega | (simp only [List.length_nil] at *; omega)) ?_
  intro bF cM H
  replace H := H.nf
  refine zA bE rfl ?_
  refine zA bF rfl ?_
  refine s_nil ?_
  replace H := H.pk [2, 3, 4, 5, 6, 7]
  refine W.region rfl ?_
  refine zR (s2 : Int) 1 ((s2 : Int) + 1) rfl rfl rfl (by omega) ?_
  refine zM (I ((s2 : Int) + 1)) rfl ?_
  refine s_nil ?_
  exact ⟨bN, bO, s2 + 1, l ++ ([(ae : Int)]), l2 ++ ([(flood : Int)]), bE, bF, _, upds_of _ _ ⟨rfl, rfl, rfl, rfl, rfl, rfl, rfl, trivial⟩, M.e_inl hM bB, H⟩
 replace hM := M.e_f hM aP
 simp only [qy1, qy2, qy3, qy4, qy5, qy6, ne_eq, qy7] at aP
 refine W.exit ?_
 have ca := M.e_inr hM bB
 subst ca
 replace hM := bL
 try dsimp only at hM
 replace H := H.pk [0, 1]
 refine W.seq ?_
 refine W.region rfl ?_
 refine zM aF rfl ?_
 refine zM aG rfl ?_
 refine zA aF rfl ?_
 refine zA aG rfl ?_
 refine zA (I 0) rfl ?_
 refine s_nil ?_
 refine W.ret ?_
 have bo := M.e_pure hM
 exact ⟨_, resE_tmp3 rfl, ⟨l, l2, 0, aF, aG, bo, rfl, (H.pk [1, 0])⟩⟩

def zcB (n : Int) : M Bool :=
  M.bind (zac n 0 2001) fun r2 =>
  M.pure r2
theorem zdi {R : List Chunk}  (n : Int)  {r : Bool} (hM : (zcB n).Ends r) (w : World) (H : St w w [] R) : Ret Try.prog 36 #[I n] w fun v w' => ∃ (y0 : Bool), y0 = r /\ v = B y0 /\ St w w' [] R := by
 refine ret_of_W Try.func36 rfl rfl rfl ?_
 refine W.seq ?_
 refine W.region rfl ?_
 refine zA (B false) rfl ?_
 refine s_nil ?_
 refine W.seq ?_
 refine W.region rfl ?_
 refine zM (I n) rfl ?_
 obtain ⟨ah, ab, hM⟩ := M.e_bind hM
 refine s_call cf37 [I n, I 0, I 2001] rfl (zag n 0 2001 ab _ (H.gt 0)) ?_
 rintro vq ai ⟨r2, ac, hvq, aa⟩
 subst ac
 subst vq
 try dsimp only at hM
 replace H := H.bk aa
 clear aa
 refine zA (B r2) rfl ?_
 refine s_nil ?_
 refine W.ret ?_
 have ae := M.e_pure hM
 exact ⟨_, resE_tmp rfl, ⟨r2, ae, rfl, H⟩⟩

def zcz (x : Rpt) (ab : List Int) (aa : List Int) : M Bool :=
  M.bind (zbh ab x.watch) fun r2 =>
  M.grd ((!(decide (0 <= r2)) || (decide ((0 : Int) <= r2) && decide (r2 < (aa.length : Int))))) <|
  M.pure ((decide (0 <= r2)) && (decide ((aa.getD (Int.toNat r2) 0) <= x.stage)))
theorem zcV {R : List Chunk} {ak : Nat} {ao : Cells} {aj : Value} {al : Nat} {aq : Cells} {ae : Value} (x : Rpt) (am : List Int) (ab : List Int) (aw : Reads R ao) (ax : Sl ao aj am) (ay : Has R (cBlk ak [aj] 23)) (az : Reads R aq) (au : Sl aq ae ab) (aA : Has R (cBlk al [ae] 23)) {r : Bool} (hM : (zcz x am ab).Ends r) (w : World) (H : St w w [] R) : Ret Try.prog 38 #[.agg #[I x.watch, I x.stage, B x.danger], Pq ak, Pq al] w fun v w' => ∃ (y0 : Bool), y0 = r /\ v = B y0 /\ St w w' [] R := by
 refine ret_of_W Try.func38 rfl rfl rfl ?_
 refine W.seq ?_
 refine W.region rfl ?_
 refine t_box (v := .agg #[I x.watch, I x.stage, B x.danger]) (cs := [I x.watch, I x.stage, B x.danger]) H rfl rfl ?_
 intro ah aE H
 refine zA (B false) rfl ?_
 refine s_nil ?_
 refine W.seq ?_
 refine W.region rfl ?_
 refine s_val (x_ld (p := Pq ak) (v := aj) rfl (ldb_sc Sc23 (ay.blk H) rfl)) ?_
 refine s_val (x_fa (a := Pq ah) (v := Pq ah) rfl (fa_blk (o := 0) Fd79_0 Sz3)) ?_
 refine s_val (x_ld (p := Pq ah) (v := I x.watch) rfl (ldb_sc Sc3 (H.bl 0) rfl)) ?_
 obtain ⟨aF, aB, hM⟩ := M.e_bind hM
 refine s_call cf39 [aj, I x.watch] rfl (zcK am x.watch (aw.app _) ax aB _ (H.gt 1)) ?_
 rintro vq aG ⟨r2, aC, hvq, av⟩
 subst aC
 subst vq
 try dsimp only at hM
 replace H := H.bk av
 clear av
 refine zA (I r2) rfl ?_
 refine s_nil ?_
 refine W.seq ?_
 refine W.draw (fun W => St w W [cBlk ah [I x.watch, I x.stage, B x.danger] 79] R) [(0, true), (1, true), (2, true), (3, true), (4, true), (5, true), (6, true), (7, true), (8, true), (9, true), (10, true), (11, true)] mixed (by decide +kernel) rfl ?_
 intro aH ac
 replace H := H.ext ac
 clear ac
 refine ⟨(H.pk [0]), ?_⟩
 refine d_q rfl (fun w' H => x_mv (v := I r2) rfl) ?_
 refine d_q rfl (fun w' H => x_cmp (kd := .i64) (a := r2) (b := 0) (r := decide (0 <= r2)) rfl rfl rfl) ?_
 refine d_q rfl (fun w' H => x_mv (v := B (decide (0 <= r2))) rfl) ?_
 refine d_qg (decide (0 <= r2)) rfl (gy_t rfl) (fun hg => (fun w' H => x_fa (a := Pq ah) (v := Oq ah 1) rfl (fa_blk (o := 0) Fd79_1 Sz3))) ?_
 refine d_qg (decide (0 <= r2)) rfl (gy_t rfl) (fun hg => (fun w' H => x_ld (p := Oq ah 1) (v := I x.stage) (gd_of (c := decide (0 <= r2)) hg (Oq ah 1)) (ldb_sc Sc3 (H.bl 0) rfl))) ?_
 refine d_qg (decide (0 <= r2)) rfl (gy_t rfl) (fun hg => (fun w' H => x_ld (p := Pq al) (v := ae) rfl (ldb_sc Sc23 (aA.blk H) rfl))) ?_
 refine d_qg (decide (0 <= r2)) rfl (gy_t rfl) (fun hg => (fun w' H => x_mv (v := I r2) rfl)) ?_
 obtain ⟨ai, hM⟩ := M.e_grd hM
 replace ai := M.imp_of ai
 simp only [Bool.and_eq_true, decide_eq_true_eq] at ai
 refine d_qg (decide (0 <= r2)) rfl (gy_t rfl) (fun hg => (fun w' H => x_ix (a := ae) (b := I r2) (v := vat ae 1 (Int.toNat r2)) (gd_of (c := decide (0 <= r2)) hg (ae)) (gd_of (c := decide (0 <= r2)) hg (I r2)) (Sl.ix (α := Int) T23.und T23.size au (by have aa := ai.resolve_left (by rw [hg]; decide); first | exact aa | exact aa.1 | exact aa.2 | omega | (have ac := hg; simp at ac; omega)) (by have aa := ai.resolve_left (by rw [hg]; decide); first | exact aa | exact aa.1 | exact aa.2 | omega | (have ac := hg; simp at ac; omega))))) ?_
 refine d_qg (decide (0 <= r2)) rfl (gy_t rfl) (fun hg => (fun w' H => x_ld (p := vat ae 1 (Int.toNat r2)) (v := I (ab.getD (Int.toNat r2) 0)) (gd_of (c := decide (0 <= r2)) hg (vat ae 1 (Int.toNat r2))) (ld_sc Sc3 (At.mono (Int_at au (i := r2) (by have aa := ai.resolve_left (by rw [hg]; decide); first | exact aa | exact aa.1 | exact aa.2 | omega | (have ac := hg; simp at ac; omega)) (by have aa := ai.resolve_left (by rw [hg]; decide); first | exact aa | exact aa.1 | exact aa.2 | omega | (have ac := hg; simp at ac; omega))) (az.at H))))) ?_
 refine d_qg (decide (0 <= r2)) rfl (gy_t rfl) (fun hg => (fun w' H => x_cmp (kd := .i64) (a := x.stage) (b := ab.getD (Int.toNat r2) 0) (r := decide ((ab.getD (Int.toNat r2) 0) <= x.stage)) (gd_of (c := decide (0 <= r2)) hg (I x.stage)) (gd_of (c := decide (0 <= r2)) hg (I (ab.getD (Int.toNat r2) 0))) rfl)) ?_
 refine d_q rfl (fun w' H => x_pand (b := decide (0 <= r2)) (r := decide ((ab.getD (Int.toNat r2) 0) <= x.stage)) rfl (fun hb => gd_of (c := decide (0 <= r2)) (by first | exact hb | (rw [hb]; rfl) | simp_all) (B (decide ((ab.getD (Int.toNat r2) 0) <= x.stage)))) rfl) ?_
 refine d_q rfl (fun w' H => x_as (v := B ((decide (0 <= r2)) && (decide ((ab.getD (Int.toNat r2) 0) <= x.stage)))) rfl) ?_
 refine d_nil ?_
 refine W.ret ?_
 have aD := M.e_pure hM
 exact ⟨_, resE_tmp rfl, ⟨((decide (0 <= r2)) && (decide ((ab.getD (Int.toNat r2) 0) <= x.stage))), aD, rfl, (H.pk [])⟩⟩

def zc4 (x : Rpt) (aa : List Int) (ab : List Int) : M Bool :=
  M.bind (M.opt x.danger (zcz x aa ab) false) fun r2 =>
  M.pure (x.danger && (!r2))
theorem zdy {R : List Chunk} {ae : Nat} {aa : Nat} {ak : Cells} {al : Value} {ab : Nat} {am : Cells} {ao : Value} (x : Rpt) (ah : List Int) (ai : List Int) (aq : Reads R ak) (au : Sl ak al ah) (av : Has R (cBlk aa [al] 23)) (aw : Reads R am) (ax : Sl am ao ai) (ay : Has R (cBlk ab [ao] 23)) (az : Has R (cBlk ae [.func (.func 38) #[] #[Pq aa, Pq ab]] 80)) {r : Bool} (hM : (zc4 x ah ai).Ends r) (w : World) (H : St w w [] R) : Ret Try.prog 40 #[.agg #[I x.watch, I x.stage, B x.danger], Pq ae] w fun v w' => ∃ (y0 : Bool), y0 = r /\ v = B y0 /\ St w w' [] R := by
 refine ret_of_W Try.func40 rfl rfl rfl ?_
 refine W.seq ?_
 refine W.region rfl ?_
 refine t_box (v := .agg #[I x.watch, I x.stage, B x.danger]) (cs := [I x.watch, I x.stage, B x.danger]) H rfl rfl ?_
 intro ac aC H
 refine zA (B false) rfl ?_
 refine s_nil ?_
 refine W.seq ?_
 refine W.region rfl ?_
 refine s_val (x_fa (a := Pq ac) (v := Oq ac 2) rfl (fa_blk (o := 0) Fd79_2 Sz4)) ?_
 refine s_val (x_ld (p := Oq ac 2) (v := B x.danger) rfl (ldb_sc Sc4 (H.bl 0) rfl)) ?_
 refine zM (B x.danger) rfl ?_
 refine g_val x.danger (gy_t rfl) (fun hg => x_ld (p := Pq ae) (v := .func (.func 38) #[] #[Pq aa, Pq ab]) rfl (ldb_sc Sc80 (az.blk H) rfl)) ?_
 refine g_val x.danger (gy_t rfl) (fun hg => x_ld (p := Pq ac) (v := .agg #[I x.watch, I x.stage, B x.danger]) rfl (ldb_ag (ds := [I x.watch, I x.stage, B x.danger]) Ag79 Sz79 (H.bl 0) rfl rfl)) ?_
 obtain ⟨r2, aA, hM⟩ := M.e_bind hM
 refine t_gcallv (cap := [Pq aa, Pq ab]) x.danger (gy_t rfl) cf38 (fun hg => (gd_of (c := x.danger) hg (.func (.func 38) #[] #[Pq aa, Pq ab]))) (B r2) (fun _ => [.agg #[I x.watch, I x.stage, B x.danger]]) (fun hg => lst1 (gd_of (c := x.danger) hg (.agg #[I x.watch, I x.stage, B x.danger]))) H (fun hg => (zcV x ah ai (aq.app _) au (av.app _) (aw.app _) ax (ay.app _) (M.e_opt aA hg) _ (H.give (A := []) rfl)).mono fun v_ w_ ⟨y_, aj, aB, H_⟩ => by subst aj; exact ⟨aB, H.via H_⟩) ?_
 intro aD H
 refine g_val x.danger (gy_t rfl) (fun hg => x_not (b := r2) (gd_of (c := x.danger) hg (B r2))) ?_
 refine s_val (x_pand (b := x.danger) (r := !r2) rfl (fun hb => gd_of (c := x.danger) (by first | exact hb | (rw [hb]; rfl) | simp_all) (B (!r2))) rfl) ?_
 refine zA (B (x.danger && (!r2))) rfl ?_
 refine s_nil ?_
 refine W.ret ?_
 have aj := M.e_pure hM
 exact ⟨_, resE_tmp rfl, ⟨(x.danger && (!r2)), aj, rfl, (H.pk [])⟩⟩

def zcv (ab : List Int) (ac : List Span) (ae : List Int) (ah : List Town) (ai : Int) (aj : Int) (aa : List Flood) (p : List Bool) (ak : List Int) (al : List Int) : (Nat × (List Int)) -> M ((Nat × (List Int)) ⊕ ((List Int) × (List Int))) := fun (s, l) =>
  bif decide ((s : Int) < (aa.length : Int)) then (
  M.grd (decide ((s : Int) < (aa.length : Int))) <|
  M.bind (zan ab ac ae ah ai aj aa (aa.getD s default) p) fun (r0, r1, r2) =>
  M.bind (zc4 (⟨(r0 : Int), (r1 : Int), r2⟩ : Rpt) ak al) fun r3 =>
  bif r3 then (
  M.grd (decide ((l.length + ([(s : Int)]).length) * 8 <= 140737488355328)) <|
  M.pure (.inl (s + 1, l ++ ([(s : Int)]))))
  else (
  M.pure (.inl (s + 1, l))))
  else (
  M.pure (.inr (l, l)))
def zcX (aa : List Int) (ab : List Span) (ac : List Int) (ae : List Town) (ah : Int) (ai : Int) (aj : List Flood) (p : List Bool) (ak : List Int) (al : List Int) : M (List Int) :=
  M.bind (M.iter (zcv aa ab ac ae ah ai aj p ak al) (0, [])) fun (l2, l3) =>
  M.pure l3
theorem zds {R : List Chunk} {ab : Nat} {aG : Cells} {aH : Value} {aI : Cells} {aJ : Value} {aK : Cells} {aL : Value} {aM : Cells} {aN : Value} {aO : Cells} {ah : Value} {bc : Nat} {ai : Nat} {aP : Nat} {aQ : Cells} {aR : Value} {aS : Nat} {aT : Cells} {aU : Value} (aq : List Int) (au : List Span) (av : List Int) (aw : List Town) (ax : Int) (ay : Int) (aa : List Flood) (p : List Bool) (az : List Int) (aA : List Int) (bf : Reads R aG) (bg : Sl aG aH aq) (bh : Reads R aI) (bi : Sl aI aJ au) (bj : Reads R aK) (bm : Sl aK aL av) (bn : Reads R aM) (bo : Sl aM aN aw) (aC : Reads R aO) (ak : Sl aO ah aa) (aV : Has R (cBlk ab [aH, aJ, aL, aN, I ax, I ay, ah, .map (some bc)] 86)) (aW : p.length = 12) (bp : Reads R aQ) (bq : Sl aQ aR az) (br : Has R (cBlk aP [aR] 23)) (bt : Reads R aT) (bu : Sl aT aU aA) (bv : Has R (cBlk aS [aU] 23)) (bw : Has R (cBlk ai [.func (.func 38) #[] #[Pq aP, Pq aS]] 80)) {r : (List Int)} (hM : (zcX aq au av aw ax ay aa p az aA).Ends r) (w : World) (H : St w w [] R) : Ret Try.prog 32 #[Pq ab, .agg (encB p).toArray, .agg #[.func (.func 40) #[] #[Pq ai]]] w fun v w' => ∃ (y0 : List Int) (u0 : Value), y0 = r /\ v = u0 /\ St w w' [cOwn (α := Int) 3 u0 y0] R := by
 refine ret_of_W Try.func32 rfl rfl rfl ?_
 refine W.seq ?_
 refine W.region rfl ?_
 refine t_box (v := .agg (encB p).toArray) (cs := encB p) H rfl rfl ?_
 intro aB bK H
 refine t_box (v := .agg #[.func (.func 40) #[] #[Pq ai]]) (cs := [.func (.func 40) #[] #[Pq ai]]) H rfl rfl ?_
 intro aj bL H
 refine zA (.slice none 0 0) rfl ?_
 refine s_nil ?_
 refine W.seq ?_
 refine W.region rfl ?_
 refine zA (.slice none 0 0) rfl ?_
 refine s_nil ?_
 refine W.seq ?_
 refine W.seq ?_
 refine W.region rfl ?_
 refine zM (Pq ab) rfl ?_
 refine s_val (x_nc (a := ⟨ab, 0, none⟩) rfl) ?_
 refine s_val (x_fa (a := Pq ab) (v := Pq ab) rfl (fa_blk (o := 0) Fd86_0 Sz30)) ?_
 refine s_val (x_fa (a := Pq ab) (v := Oq ab 6) rfl (fa_blk (o := 0) Fd30_5 Sz28)) ?_
 refine s_val (x_ld (p := Oq ab 6) (v := ah) rfl (ldb_sc Sc28 (aV.blk H) rfl)) ?_
 have bM := (ak).len_le
 refine s_val (x_lenS T28.und rfl ak) ?_
 refine zM (I 0) rfl ?_
 refine s_nil ?_
 refine W.block ?_
 replace H := H.nilOwn (α := Int) 3
 obtain ⟨bx, aD, bz⟩ := M.e_bind hM
 obtain ⟨bN, aD⟩ := M.e_iter aD
 refine W.loop (fun m σ W => ∃ (s : Nat) (l : List Int) (ac : Value) (ρ : Env), σ = upds ρ [(0, Pq ab), (4, Pq aB), (5, Pq aj), (7, ac), (14, ah), (15, I (aa.length : Int)), (16, I (s : Int))] /\ M.iterN (zcv aq au av aw ax ay aa p az aA) m (s, l) = some bx /\ St w W [cOwn (α := Int) 3 ac l, cBlk aj [.func (.func 40) #[] #[Pq ai]] 82, cBlk aB (encB p) 74] R) ?_ ?_
 ·exact ⟨_, 0, [], (.slice none 0 0), _, upds_of _ _ ⟨rfl, rfl, rfl, rfl, rfl, rfl, rfl, trivial⟩, aD, H⟩
 rintro bO σ bP ⟨s, l, ac, ρ, rfl, aX, H⟩
 obtain ⟨aY, aZ, bQ, hM, aE⟩ := M.e_iterN aX
 simp only [zcv] at hM
 clear aX
 refine W.seq ?_
 refine W.region rfl ?_
 refine zC (s : Int) (aa.length : Int) (decide ((s : Int) < (aa.length : Int))) rfl rfl rfl ?_
 refine s_nil ?_
 refine W.seq ?_
 refine W.cond (decide ((s : Int) < (aa.length : Int))) rfl (fun al => ?_) (fun al => ?_)
 ·replace hM := M.e_t hM al
  simp only [qy1, qy2, qy3, qy4, qy5, qy6, ne_eq, qy7] at al
  refine W.skip ?_
  refine W.seq ?_
  refine W.block ?_
  refine W.seq ?_
  refine W.region rfl ?_
  refine zM (I (s : Int)) rfl ?_
  obtain ⟨bA, hM⟩ := M.e_grd hM
  simp only [Bool.and_eq_true, decide_eq_true_eq] at bA
  refine s_val (x_ix (a := ah) (b := I (s : Int)) (v := vat ah 2 (Int.toNat (s : Int))) rfl rfl (Sl.ix (α := Flood) T28.und T28.size ak (by omega) (by omega))) ?_
  obtain ⟨ae, bB, am⟩ := Flood_atA ak (i := (s : Int)) (by omega) (by omega)
  replace am : Sl _ ae (aa.getD s default).stages := am
  have bR := am.len_le
  refine s_val (x_ld (p := vat ah 2 (Int.toNat (s : Int))) (v := .agg #[I ((aa.getD s default).spring), ae]) rfl (ld_ag Ag67 Sz67 (At.mono bB (aC.at H)))) ?_
  refine t_alloc (cs := [I 0, .slice none 0 0]) H Al67 rfl ?_
  intro a8 bS H
  refine zA (I (s : Int)) rfl ?_
  refine t_sw 0 0 [I ((aa.getD s default).spring), ae] (.agg #[I ((aa.getD s default).spring), ae]) H rfl rfl Sz67 rfl rfl rfl (by simp only [List.all_cons, List.all_nil, Bool.true_and, Bool.and_true, Sl.oc am]; try rfl) ?_
  intro bT H
  refine s_nil ?_
  refine W.seq ?_
  refine W.draw (fun W => St w W [cBlk a8 [I ((aa.getD s default).spring), ae] 67, cOwn (α := Int) 3 ac l, cBlk aj [.func (.func 40) #[] #[Pq ai]] 82, cBlk aB (encB p) 74] R) [(0, true), (1, true), (2, true), (3, true), (4, true), (5, false), (6, false)] mixed (by decide +kernel) rfl ?_
  intro bU ba
  replace H := H.ext ba
  clear ba
  refine ⟨(H.pk [0, 1, 2, 3]), ?_⟩
  refine d_q rfl (fun w' H => x_fa (a := Pq aj) (v := Pq aj) rfl (fa_blk (o := 0) Fd82_0 Sz80)) ?_
  refine d_q rfl (fun w' H => x_ld (p := Pq aj) (v := .func (.func 40) #[] #[Pq ai]) rfl (ldb_sc Sc80 (H.bl 2) rfl)) ?_
  refine d_q rfl (fun w' H => x_mv (v := Pq ab) rfl) ?_
  refine d_q rfl (fun w' H => x_ld (p := Pq a8) (v := .agg #[I ((aa.getD s default).spring), ae]) rfl (ldb_ag (ds := [I ((aa.getD s default).spring), ae]) Ag67 Sz67 (H.bl 0) rfl rfl)) ?_
  refine d_q rfl (fun w' H => x_ld (p := Pq aB) (v := .agg (encB p).toArray) rfl (ldArrA Ag74 Sz74 aW (H.bl 3))) ?_
  refine d_l rfl ?_
  obtain ⟨bV, bC, hM⟩ := M.e_bind hM
  refine s_call cf34 [Pq ab, .agg #[I ((aa.getD s default).spring), ae], .agg (encB p).toArray] rfl (zaG aq au av aw ax ay aa (aa.getD s default) p (bf.app _) bg (bh.app _) bi (bj.app _) bm (bn.app _) bo (aC.app _) ak (aV.app _) (aC.app _) am aW bC _ (H.gt 4)) ?_
  rintro vq bW ⟨r0, r1, r2, bD, hvq, ao⟩
  subst bD
  subst vq
  try dsimp only at hM
  replace H := H.bk ao
  clear ao
  refine s_nil ⟨(H.pk [0, 1, 2, 3]), ?_⟩
  refine d_l rfl ?_
  obtain ⟨bX, bE, hM⟩ := M.e_bind hM
  refine s_callv (f := 40) rfl cf40 [.agg #[I r0, I r1, B r2]] rfl (zdy (⟨(r0 : Int), (r1 : Int), r2⟩ : Rpt) az aA (bp.app _) bq (br.app _) (bt.app _) bu (bv.app _) (bw.app _) bE _ (H.gt 4)) ?_
  rintro vq bY ⟨r3, bF, hvq, ao⟩
  subst bF
  subst vq
  try dsimp only at hM
  replace H := H.bk ao
  clear ao
  refine s_nil ⟨(H.pk [0, 1, 2, 3]), ?_⟩
  refine d_nil ?_
  refine W.cond r3 rfl (fun aF => ?_) (fun aF => ?_)
  ·replace hM := M.e_t hM aF
   refine W.region rfl ?_
   refine zM ac rfl ?_
   refine zM (I (s : Int)) rfl ?_
   refine t_bs (α := Int) T23 [I (s : Int)] [(s : Int)] H rfl (.cons rfl (Flat.rep_enc _ (s : Int)) <| .nil) rfl rfl rfl ?_
   intro bG bZ H
   obtain ⟨bH, hM⟩ := M.e_grd hM
   simp only [Bool.and_eq_true, decide_eq_true_eq] at bH
   refine t_app (α := Int) (k := 2) (l := l) (l2 := [(s : Int)]) (l' := l ++ ([(s : Int)])) (vy := bG) T23 rfl H rfl rfl rfl (H.os 0) (H.ol 0) (rfl) (by first | omega | (simp only [List.length_nil] at *; omega)) ?_
   intro bb b4 H
   replace H := H.nf
   refine zA bb rfl ?_
   refine s_nil ?_
   replace H := H.pk [2, 3, 4]
   refine W.region rfl ?_
   refine zR (s : Int) 1 ((s : Int) + 1) rfl rfl rfl (by omega) ?_
   refine zM (I ((s : Int) + 1)) rfl ?_
   refine s_nil ?_
   exact ⟨aY, aZ, s + 1, l ++ ([(s : Int)]), bb, _, upds_of _ _ ⟨rfl, rfl, rfl, rfl, rfl, rfl, rfl, trivial⟩, M.e_inl hM aE, H⟩
  replace hM := M.e_f hM aF
  refine W.skip ?_
  refine W.region rfl ?_
  refine zR (s : Int) 1 ((s : Int) + 1) rfl rfl rfl (by omega) ?_
  refine zM (I ((s : Int) + 1)) rfl ?_
  refine s_nil ?_
  exact ⟨aY, aZ, s + 1, l, ac, _, upds_of _ _ ⟨rfl, rfl, rfl, rfl, rfl, rfl, rfl, trivial⟩, M.e_inl hM aE, (H.pk [1, 2, 3])⟩
 replace hM := M.e_f hM al
 simp only [qy1, qy2, qy3, qy4, qy5, qy6, ne_eq, qy7] at al
 refine W.exit ?_
 have bI := M.e_inr hM aE
 subst bI
 replace hM := bz
 try dsimp only at hM
 replace H := H.pk [0]
 refine W.seq ?_
 refine W.region rfl ?_
 refine zM ac rfl ?_
 refine zA ac rfl ?_
 refine s_nil ?_
 refine W.ret ?_
 have bJ := M.e_pure hM
 exact ⟨_, resE_tmp rfl, ⟨l, ac, bJ, rfl, H⟩⟩

def zcN (x : Rpt) (aa : List Int) (ab : List Int) : M Bool :=
  M.bind (M.opt (!x.danger) (zcz x aa ab) false) fun r2 =>
  M.pure ((!x.danger) && r2)
theorem zdD {R : List Chunk} {ae : Nat} {aa : Nat} {ak : Cells} {al : Value} {ab : Nat} {am : Cells} {ao : Value} (x : Rpt) (ah : List Int) (ai : List Int) (aq : Reads R ak) (au : Sl ak al ah) (av : Has R (cBlk aa [al] 23)) (aw : Reads R am) (ax : Sl am ao ai) (ay : Has R (cBlk ab [ao] 23)) (az : Has R (cBlk ae [.func (.func 38) #[] #[Pq aa, Pq ab]] 80)) {r : Bool} (hM : (zcN x ah ai).Ends r) (w : World) (H : St w w [] R) : Ret Try.prog 41 #[.agg #[I x.watch, I x.stage, B x.danger], Pq ae] w fun v w' => ∃ (y0 : Bool), y0 = r /\ v = B y0 /\ St w w' [] R := by
 refine ret_of_W Try.func41 rfl rfl rfl ?_
 refine W.seq ?_
 refine W.region rfl ?_
 refine t_box (v := .agg #[I x.watch, I x.stage, B x.danger]) (cs := [I x.watch, I x.stage, B x.danger]) H rfl rfl ?_
 intro ac aC H
 refine zA (B false) rfl ?_
 refine s_nil ?_
 refine W.seq ?_
 refine W.region rfl ?_
 refine s_val (x_fa (a := Pq ac) (v := Oq ac 2) rfl (fa_blk (o := 0) Fd79_2 Sz4)) ?_
 refine s_val (x_ld (p := Oq ac 2) (v := B x.danger) rfl (ldb_sc Sc4 (H.bl 0) rfl)) ?_
 refine s_val (x_not (b := x.danger) rfl) ?_
 refine zM (B (!x.danger)) rfl ?_
 refine g_val (!x.danger) (gy_t rfl) (fun hg => x_ld (p := Pq ae) (v := .func (.func 38) #[] #[Pq aa, Pq ab]) rfl (ldb_sc Sc80 (az.blk H) rfl)) ?_
 refine g_val (!x.danger) (gy_t rfl) (fun hg => x_ld (p := Pq ac) (v := .agg #[I x.watch, I x.stage, B x.danger]) rfl (ldb_ag (ds := [I x.watch, I x.stage, B x.danger]) Ag79 Sz79 (H.bl 0) rfl rfl)) ?_
 obtain ⟨r2, aA, hM⟩ := M.e_bind hM
 refine t_gcallv (cap := [Pq aa, Pq ab]) (!x.danger) (gy_t rfl) cf38 (fun hg => (gd_of (c := !x.danger) hg (.func (.func 38) #[] #[Pq aa, Pq ab]))) (B r2) (fun _ => [.agg #[I x.watch, I x.stage, B x.danger]]) (fun hg => lst1 (gd_of (c := !x.danger) hg (.agg #[I x.watch, I x.stage, B x.danger]))) H (fun hg => (zcV x ah ai (aq.app _) au (av.app _) (aw.app _) ax (ay.app _) (M.e_opt aA hg) _ (H.give (A := []) rfl)).mono fun v_ w_ ⟨y_, aj, aB, H_⟩ => by subst aj; exact ⟨aB, H.via H_⟩) ?_
 intro aD H
 refine s_val (x_pand (b := !x.danger) (r := r2) rfl (fun hb => gd_of (c := !x.danger) (by first | exact hb | (rw [hb]; rfl) | simp_all) (B r2)) rfl) ?_
 refine zA (B ((!x.danger) && r2)) rfl ?_
 refine s_nil ?_
 refine W.ret ?_
 have aj := M.e_pure hM
 exact ⟨_, resE_tmp rfl, ⟨((!x.danger) && r2), aj, rfl, (H.pk [])⟩⟩

def zcA (ab : List Int) (ac : List Span) (ae : List Int) (ah : List Town) (ai : Int) (aj : Int) (aa : List Flood) (p : List Bool) (ak : List Int) (al : List Int) : (Nat × (List Int)) -> M ((Nat × (List Int)) ⊕ ((List Int) × (List Int))) := fun (s, l) =>
  bif decide ((s : Int) < (aa.length : Int)) then (
  M.grd (decide ((s : Int) < (aa.length : Int))) <|
  M.bind (zan ab ac ae ah ai aj aa (aa.getD s default) p) fun (r0, r1, r2) =>
  M.bind (zcN (⟨(r0 : Int), (r1 : Int), r2⟩ : Rpt) ak al) fun r3 =>
  bif r3 then (
  M.grd (decide ((l.length + ([(s : Int)]).length) * 8 <= 140737488355328)) <|
  M.pure (.inl (s + 1, l ++ ([(s : Int)]))))
  else (
  M.pure (.inl (s + 1, l))))
  else (
  M.pure (.inr (l, l)))
def zcQ (aa : List Int) (ab : List Span) (ac : List Int) (ae : List Town) (ah : Int) (ai : Int) (aj : List Flood) (p : List Bool) (ak : List Int) (al : List Int) : M (List Int) :=
  M.bind (M.iter (zcA aa ab ac ae ah ai aj p ak al) (0, [])) fun (l2, l3) =>
  M.pure l3
theorem zdg {R : List Chunk} {ab : Nat} {aG : Cells} {aH : Value} {aI : Cells} {aJ : Value} {aK : Cells} {aL : Value} {aM : Cells} {aN : Value} {aO : Cells} {ah : Value} {bc : Nat} {ai : Nat} {aP : Nat} {aQ : Cells} {aR : Value} {aS : Nat} {aT : Cells} {aU : Value} (aq : List Int) (au : List Span) (av : List Int) (aw : List Town) (ax : Int) (ay : Int) (aa : List Flood) (p : List Bool) (az : List Int) (aA : List Int) (bf : Reads R aG) (bg : Sl aG aH aq) (bh : Reads R aI) (bi : Sl aI aJ au) (bj : Reads R aK) (bm : Sl aK aL av) (bn : Reads R aM) (bo : Sl aM aN aw) (aC : Reads R aO) (ak : Sl aO ah aa) (aV : Has R (cBlk ab [aH, aJ, aL, aN, I ax, I ay, ah, .map (some bc)] 86)) (aW : p.length = 12) (bp : Reads R aQ) (bq : Sl aQ aR az) (br : Has R (cBlk aP [aR] 23)) (bt : Reads R aT) (bu : Sl aT aU aA) (bv : Has R (cBlk aS [aU] 23)) (bw : Has R (cBlk ai [.func (.func 38) #[] #[Pq aP, Pq aS]] 80)) {r : (List Int)} (hM : (zcQ aq au av aw ax ay aa p az aA).Ends r) (w : World) (H : St w w [] R) : Ret Try.prog 32 #[Pq ab, .agg (encB p).toArray, .agg #[.func (.func 41) #[] #[Pq ai]]] w fun v w' => ∃ (y0 : List Int) (u0 : Value), y0 = r /\ v = u0 /\ St w w' [cOwn (α := Int) 3 u0 y0] R := by
 refine ret_of_W Try.func32 rfl rfl rfl ?_
 refine W.seq ?_
 refine W.region rfl ?_
 refine t_box (v := .agg (encB p).toArray) (cs := encB p) H rfl rfl ?_
 intro aB bK H
 refine t_box (v := .agg #[.func (.func 41) #[] #[Pq ai]]) (cs := [.func (.func 41) #[] #[Pq ai]]) H rfl rfl ?_
 intro aj bL H
 refine zA (.slice none 0 0) rfl ?_
 refine s_nil ?_
 refine W.seq ?_
 refine W.region rfl ?_
 refine zA (.slice none 0 0) rfl ?_
 refine s_nil ?_
 refine W.seq ?_
 refine W.seq ?_
 refine W.region rfl ?_
 refine zM (Pq ab) rfl ?_
 refine s_val (x_nc (a := ⟨ab, 0, none⟩) rfl) ?_
 refine s_val (x_fa (a := Pq ab) (v := Pq ab) rfl (fa_blk (o := 0) Fd86_0 Sz30)) ?_
 refine s_val (x_fa (a := Pq ab) (v := Oq ab 6) rfl (fa_blk (o := 0) Fd30_5 Sz28)) ?_
 refine s_val (x_ld (p := Oq ab 6) (v := ah) rfl (ldb_sc Sc28 (aV.blk H) rfl)) ?_
 have bM := (ak).len_le
 refine s_val (x_lenS T28.und rfl ak) ?_
 refine zM (I 0) rfl ?_
 refine s_nil ?_
 refine W.block ?_
 replace H := H.nilOwn (α := Int) 3
 obtain ⟨bx, aD, bz⟩ := M.e_bind hM
 obtain ⟨bN, aD⟩ := M.e_iter aD
 refine W.loop (fun m σ W => ∃ (s : Nat) (l : List Int) (ac : Value) (ρ : Env), σ = upds ρ [(0, Pq ab), (4, Pq aB), (5, Pq aj), (7, ac), (14, ah), (15, I (aa.length : Int)), (16, I (s : Int))] /\ M.iterN (zcA aq au av aw ax ay aa p az aA) m (s, l) = some bx /\ St w W [cOwn (α := Int) 3 ac l, cBlk aj [.func (.func 41) #[] #[Pq ai]] 82, cBlk aB (encB p) 74] R) ?_ ?_
 ·exact ⟨_, 0, [], (.slice none 0 0), _, upds_of _ _ ⟨rfl, rfl, rfl, rfl, rfl, rfl, rfl, trivial⟩, aD, H⟩
 rintro bO σ bP ⟨s, l, ac, ρ, rfl, aX, H⟩
 obtain ⟨aY, aZ, bQ, hM, aE⟩ := M.e_iterN aX
 simp only [zcA] at hM
 clear aX
 refine W.seq ?_
 refine W.region rfl ?_
 refine zC (s : Int) (aa.length : Int) (decide ((s : Int) < (aa.length : Int))) rfl rfl rfl ?_
 refine s_nil ?_
 refine W.seq ?_
 refine W.cond (decide ((s : Int) < (aa.length : Int))) rfl (fun al => ?_) (fun al => ?_)
 ·replace hM := M.e_t hM al
  simp only [qy1, qy2, qy3, qy4, qy5, qy6, ne_eq, qy7] at al
  refine W.skip ?_
  refine W.seq ?_
  refine W.block ?_
  refine W.seq ?_
  refine W.region rfl ?_
  refine zM (I (s : Int)) rfl ?_
  obtain ⟨bA, hM⟩ := M.e_grd hM
  simp only [Bool.and_eq_true, decide_eq_true_eq] at bA
  refine s_val (x_ix (a := ah) (b := I (s : Int)) (v := vat ah 2 (Int.toNat (s : Int))) rfl rfl (Sl.ix (α := Flood) T28.und T28.size ak (by omega) (by omega))) ?_
  obtain ⟨ae, bB, am⟩ := Flood_atA ak (i := (s : Int)) (by omega) (by omega)
  replace am : Sl _ ae (aa.getD s default).stages := am
  have bR := am.len_le
  refine s_val (x_ld (p := vat ah 2 (Int.toNat (s : Int))) (v := .agg #[I ((aa.getD s default).spring), ae]) rfl (ld_ag Ag67 Sz67 (At.mono bB (aC.at H)))) ?_
  refine t_alloc (cs := [I 0, .slice none 0 0]) H Al67 rfl ?_
  intro a8 bS H
  refine zA (I (s : Int)) rfl ?_
  refine t_sw 0 0 [I ((aa.getD s default).spring), ae] (.agg #[I ((aa.getD s default).spring), ae]) H rfl rfl Sz67 rfl rfl rfl (by simp only [List.all_cons, List.all_nil, Bool.true_and, Bool.and_true, Sl.oc am]; try rfl) ?_
  intro bT H
  refine s_nil ?_
  refine W.seq ?_
  refine W.draw (fun W => St w W [cBlk a8 [I ((aa.getD s default).spring), ae] 67, cOwn (α := Int) 3 ac l, cBlk aj [.func (.func 41) #[] #[Pq ai]] 82, cBlk aB (encB p) 74] R) [(0, true), (1, true), (2, true), (3, true), (4, true), (5, false), (6, false)] mixed (by decide +kernel) rfl ?_
  intro bU ba
  replace H := H.ext ba
  clear ba
  refine ⟨(H.pk [0, 1, 2, 3]), ?_⟩
  refine d_q rfl (fun w' H => x_fa (a := Pq aj) (v := Pq aj) rfl (fa_blk (o := 0) Fd82_0 Sz80)) ?_
  refine d_q rfl (fun w' H => x_ld (p := Pq aj) (v := .func (.func 41) #[] #[Pq ai]) rfl (ldb_sc Sc80 (H.bl 2) rfl)) ?_
  refine d_q rfl (fun w' H => x_mv (v := Pq ab) rfl) ?_
  refine d_q rfl (fun w' H => x_ld (p := Pq a8) (v := .agg #[I ((aa.getD s default).spring), ae]) rfl (ldb_ag (ds := [I ((aa.getD s default).spring), ae]) Ag67 Sz67 (H.bl 0) rfl rfl)) ?_
  refine d_q rfl (fun w' H => x_ld (p := Pq aB) (v := .agg (encB p).toArray) rfl (ldArrA Ag74 Sz74 aW (H.bl 3))) ?_
  refine d_l rfl ?_
  obtain ⟨bV, bC, hM⟩ := M.e_bind hM
  refine s_call cf34 [Pq ab, .agg #[I ((aa.getD s default).spring), ae], .agg (encB p).toArray] rfl (zaG aq au av aw ax ay aa (aa.getD s default) p (bf.app _) bg (bh.app _) bi (bj.app _) bm (bn.app _) bo (aC.app _) ak (aV.app _) (aC.app _) am aW bC _ (H.gt 4)) ?_
  rintro vq bW ⟨r0, r1, r2, bD, hvq, ao⟩
  subst bD
  subst vq
  try dsimp only at hM
  replace H := H.bk ao
  clear ao
  refine s_nil ⟨(H.pk [0, 1, 2, 3]), ?_⟩
  refine d_l rfl ?_
  obtain ⟨bX, bE, hM⟩ := M.e_bind hM
  refine s_callv (f := 41) rfl cf41 [.agg #[I r0, I r1, B r2]] rfl (zdD (⟨(r0 : Int), (r1 : Int), r2⟩ : Rpt) az aA (bp.app _) bq (br.app _) (bt.app _) bu (bv.app _) (bw.app _) bE _ (H.gt 4)) ?_
  rintro vq bY ⟨r3, bF, hvq, ao⟩
  subst bF
  subst vq
  try dsimp only at hM
  replace H := H.bk ao
  clear ao
  refine s_nil ⟨(H.pk [0, 1, 2, 3]), ?_⟩
  refine d_nil ?_
  refine W.cond r3 rfl (fun aF => ?_) (fun aF => ?_)
  ·replace hM := M.e_t hM aF
   refine W.region rfl ?_
   refine zM ac rfl ?_
   refine zM (I (s : Int)) rfl ?_
   refine t_bs (α := Int) T23 [I (s : Int)] [(s : Int)] H rfl (.cons rfl (Flat.rep_enc _ (s : Int)) <| .nil) rfl rfl rfl ?_
   intro bG bZ H
   obtain ⟨bH, hM⟩ := M.e_grd hM
   simp only [Bool.and_eq_true, decide_eq_true_eq] at bH
   refine t_app (α := Int) (k := 2) (l := l) (l2 := [(s : Int)]) (l' := l ++ ([(s : Int)])) (vy := bG) T23 rfl H rfl rfl rfl (H.os 0) (H.ol 0) (rfl) (by first | omega | (simp only [List.length_nil] at *; omega)) ?_
   intro bb b4 H
   replace H := H.nf
   refine zA bb rfl ?_
   refine s_nil ?_
   replace H := H.pk [2, 3, 4]
   refine W.region rfl ?_
   refine zR (s : Int) 1 ((s : Int) + 1) rfl rfl rfl (by omega) ?_
   refine zM (I ((s : Int) + 1)) rfl ?_
   refine s_nil ?_
   exact ⟨aY, aZ, s + 1, l ++ ([(s : Int)]), bb, _, upds_of _ _ ⟨rfl, rfl, rfl, rfl, rfl, rfl, rfl, trivial⟩, M.e_inl hM aE, H⟩
  replace hM := M.e_f hM aF
  refine W.skip ?_
  refine W.region rfl ?_
  refine zR (s : Int) 1 ((s : Int) + 1) rfl rfl rfl (by omega) ?_
  refine zM (I ((s : Int) + 1)) rfl ?_
  refine s_nil ?_
  exact ⟨aY, aZ, s + 1, l, ac, _, upds_of _ _ ⟨rfl, rfl, rfl, rfl, rfl, rfl, rfl, trivial⟩, M.e_inl hM aE, (H.pk [1, 2, 3])⟩
 replace hM := M.e_f hM al
 simp only [qy1, qy2, qy3, qy4, qy5, qy6, ne_eq, qy7] at al
 refine W.exit ?_
 have bI := M.e_inr hM aE
 subst bI
 replace hM := bz
 try dsimp only at hM
 replace H := H.pk [0]
 refine W.seq ?_
 refine W.region rfl ?_
 refine zM ac rfl ?_
 refine zA ac rfl ?_
 refine s_nil ?_
 refine W.ret ?_
 have bJ := M.e_pure hM
 exact ⟨_, resE_tmp rfl, ⟨l, ac, bJ, rfl, H⟩⟩

def zaD (aa : List Int) (ab : List Span) (ac : List Int) (ae : List Town) (al : Int) (am : Int) (ah : List Flood) (watches : List Int) (thresholds : List Int) : M ((List Int) × (List Int) × Int) :=
  M.bind (zap aa ab ac ae al am ah watches) fun x_ => match x_ with
  | (.inl (r1, r2)) => (
  bif r2 != 0 then (
  M.pure (([]), ([]), r2))
  else (
  M.fail))
  | (.inr (ai, aj, ak, ao)) => (
  bif ao != 0 then (
  M.fail)
  else (
  bif (thresholds.length : Int) != (watches.length : Int) then (
  M.pure (([]), ([]), 2))
  else (
  M.bind (zbF thresholds (fun aq => zcB aq)) fun r3 =>
  bif !r3 then (
  M.pure (([]), ([]), 4))
  else (
  M.bind (zcX aa ab ac ae ai aj ah ak watches thresholds) fun r4 =>
  M.bind (zcQ aa ab ac ae ai aj ah ak watches thresholds) fun r5 =>
  M.pure (r4, r5, 0)))))
theorem zaW {R : List Chunk} {bg : Cells} {ah : Value} {bh : Cells} {ai : Value} {bi : Cells} {aj : Value} {bj : Cells} {ak : Value} {bm : Cells} {al : Value} {bn : Cells} {au : Value} {bo : Cells} {av : Value} (aA : List Int) (aB : List Span) (aC : List Int) (aD : List Town) (am : Int) (ao : Int) (aE : List Flood) (watches : List Int) (thresholds : List Int) (aP : Reads R bg) (aQ : Sl bg ah aA) (aR : Reads R bh) (aS : Sl bh ai aB) (aT : Reads R bi) (aU : Sl bi aj aC) (aV : Reads R bj) (aW : Sl bj ak aD) (aX : Reads R bm) (aY : Sl bm al aE) (aZ : Reads R bn) (aF : Sl bn au watches) (a8 : Reads R bo) (aG : Sl bo av thresholds) {r : ((List Int) × (List Int) × Int)} (hM : (zaD aA aB aC aD am ao aE watches thresholds).Ends r) (w : World) (H : St w w [] R) : Ret Try.prog 12 #[.agg #[ah, ai, aj, ak, I am, I ao, al], au, av] w fun v w' => ∃ (y0 : List Int) (y1 : List Int) (y2 : Int) (u0 : Value) (u1 : Value), (y0, y1, y2) = r /\ v = .tuple #[u0, u1, I y2] /\ St w w' [cOwn (α := Int) 3 u0 y0, cOwn (α := Int) 3 u1 y1] R := by
 refine ret_of_W Try.func12 rfl rfl rfl ?_
 refine W.seq ?_
 refine W.region rfl ?_
 refine t_box (v := .agg #[ah, ai, aj, ak, I am, I ao, al]) (cs := [ah, ai, aj, ak, I am, I ao, al]) H rfl rfl ?_
 intro ba bL H
 refine t_box (v := au) (cs := [au]) H rfl (Sl.cells aF) ?_
 intro aw bM H
 refine t_box (v := av) (cs := [av]) H rfl (Sl.cells aG) ?_
 intro ax bN H
 refine zA (.slice none 0 0) rfl ?_
 refine zA (.slice none 0 0) rfl ?_
 refine zA (I 0) rfl ?_
 refine s_nil ?_
 refine W.seq ?_
 refine W.region rfl ?_
 refine s_val (x_ld (p := Pq ba) (v := .agg #[ah, ai, aj, ak, I am, I ao, al]) rfl (ldb_ag (ds := [ah, ai, aj, ak, I am, I ao, al]) Ag30 Sz30 (H.bl 2) rfl rfl)) ?_
 refine s_val (x_ld (p := Pq aw) (v := au) rfl (ldb_sc Sc23 (H.bl 1) rfl)) ?_
 obtain ⟨bO, br, hM⟩ := M.e_bind hM
 refine s_call cf31 [.agg #[ah, ai, aj, ak, I am, I ao, al], au] rfl (zb1 aA aB aC aD am ao aE watches (aP.app _) aQ (aR.app _) aS (aT.app _) aU (aV.app _) aW (aX.app _) aY (aZ.app _) aF br _ (H.gt 3)) ?_
 rintro vq bP (⟨r1, r2, bt, hvq, aa, bu⟩ | ⟨aJ, aK, ab, ac, ae, bp, bv, bw, hvq, aa, aH⟩)
 ·subst bt
  subst vq
  try dsimp only at hM
  replace H := H.bk aa
  clear aa
  refine zM (.tuple #[.pointer none, .agg (encB r1).toArray, I r2]) rfl ?_
  refine zX [.pointer none, .agg (encB r1).toArray, I r2] (.pointer none) rfl rfl ?_
  refine zX [.pointer none, .agg (encB r1).toArray, I r2] (.agg (encB r1).toArray) rfl rfl ?_
  refine zX [.pointer none, .agg (encB r1).toArray, I r2] (I r2) rfl rfl ?_
  refine t_alloc (cs := encB (List.replicate 12 false)) H Al74 rfl ?_
  intro ay bQ H
  have bb : (List.replicate 12 false).length = 12 := by simp
  refine zA (.pointer none) rfl ?_
  refine t_stArrA (k := 0) (b := ay) (l := List.replicate 12 false) (l' := r1) (L' := [cBlk ay (encB r1) 74, cBlk ax [av] 23, cBlk aw [au] 23, cBlk ba [ah, ai, aj, ak, I am, I ao, al] 30]) H rfl rfl rfl Sz74 bb bu rfl ?_
  intro bR H
  refine zA (I r2) rfl ?_
  refine s_nil ?_
  refine W.seq ?_
  refine W.block ?_
  refine W.seq ?_
  refine W.region rfl ?_
  refine zM (I r2) rfl ?_
  refine zC r2 0 (r2 != 0) rfl rfl rfl ?_
  refine zA (B (r2 != 0)) rfl ?_
  refine s_nil ?_
  refine W.cond (r2 != 0) rfl (fun aL => ?_) (fun aL => ?_)
  ·replace hM := M.e_t hM aL
   simp only [qy1, qy2, qy3, qy4, qy5, qy6, ne_eq, qy7] at aL
   refine W.seq ?_
   refine W.region rfl ?_
   refine zM (I r2) rfl ?_
   refine zA (.slice none 0 0) rfl ?_
   refine zA (.slice none 0 0) rfl ?_
   refine zA (I r2) rfl ?_
   refine s_nil ?_
   replace H := H.pk []
   refine W.ret ?_
   have az := M.e_pure hM
   replace H := H.nilOwn (α := Int) 3
   replace H := H.nilOwn (α := Int) 3
   exact ⟨_, resE_tmp3 rfl, ⟨([]), ([]), r2, (.slice none 0 0), (.slice none 0 0), az, rfl, (H.pk [1, 0])⟩⟩
  replace hM := M.e_f hM aL
  exact (M.e_fail hM).elim
 subst bw
 subst vq
 try dsimp only at hM
 replace H := H.bk aa
 clear aa
 refine zM (.tuple #[Pq ae, .agg (encB ab).toArray, I ac]) rfl ?_
 refine zX [Pq ae, .agg (encB ab).toArray, I ac] (Pq ae) rfl rfl ?_
 refine zX [Pq ae, .agg (encB ab).toArray, I ac] (.agg (encB ab).toArray) rfl rfl ?_
 refine zX [Pq ae, .agg (encB ab).toArray, I ac] (I ac) rfl rfl ?_
 refine t_alloc (cs := encB (List.replicate 12 false)) H Al74 rfl ?_
 intro ay bS H
 have bb : (List.replicate 12 false).length = 12 := by simp
 refine zA (Pq ae) rfl ?_
 refine t_stArrA (k := 0) (b := ay) (l := List.replicate 12 false) (l' := ab) (L' := [cBlk ay (encB ab) 74, cBlk ae [ah, ai, aj, ak, I aJ, I aK, al, .map (some bp)] 86, cMem encDm bp bv (zaa aA aB aC aD aJ aK aE), cBlk ax [av] 23, cBlk aw [au] 23, cBlk ba [ah, ai, aj, ak, I am, I ao, al] 30]) H rfl rfl rfl Sz74 bb aH rfl ?_
 intro bT H
 refine zA (I ac) rfl ?_
 refine s_nil ?_
 refine W.seq ?_
 refine W.block ?_
 refine W.seq ?_
 refine W.region rfl ?_
 refine zM (I ac) rfl ?_
 refine zC ac 0 (ac != 0) rfl rfl rfl ?_
 refine zA (B (ac != 0)) rfl ?_
 refine s_nil ?_
 refine W.cond (ac != 0) rfl (fun aM => ?_) (fun aM => ?_)
 ·replace hM := M.e_t hM aM
  exact (M.e_fail hM).elim
 replace hM := M.e_f hM aM
 simp only [qy1, qy2, qy3, qy4, qy5, qy6, ne_eq, qy7] at aM
 refine W.seq ?_
 refine W.region rfl ?_
 refine s_val (x_ld (p := Pq ax) (v := av) rfl (ldb_sc Sc23 (H.bl 3) rfl)) ?_
 have bU := (aG).len_le
 refine s_val (x_lenS T23.und rfl aG) ?_
 refine s_val (x_ld (p := Pq aw) (v := au) rfl (ldb_sc Sc23 (H.bl 4) rfl)) ?_
 have bV := (aF).len_le
 refine s_val (x_lenS T23.und rfl aF) ?_
 refine zC (thresholds.length : Int) (watches.length : Int) ((thresholds.length : Int) != (watches.length : Int)) rfl rfl rfl ?_
 refine zA (B ((thresholds.length : Int) != (watches.length : Int))) rfl ?_
 refine s_nil ?_
 refine W.cond ((thresholds.length : Int) != (watches.length : Int)) rfl (fun aI => ?_) (fun aI => ?_)
 ·replace hM := M.e_t hM aI
  simp only [qy1, qy2, qy3, qy4, qy5, qy6, ne_eq, qy7] at aI
  refine W.seq ?_
  refine W.region rfl ?_
  refine zA (.slice none 0 0) rfl ?_
  refine zA (.slice none 0 0) rfl ?_
  refine zA (I 2) rfl ?_
  refine s_nil ?_
  replace H := H.pk []
  refine W.ret ?_
  have az := M.e_pure hM
  replace H := H.nilOwn (α := Int) 3
  replace H := H.nilOwn (α := Int) 3
  exact ⟨_, resE_tmp3 rfl, ⟨([]), ([]), 2, (.slice none 0 0), (.slice none 0 0), az, rfl, (H.pk [1, 0])⟩⟩
 replace hM := M.e_f hM aI
 simp only [qy1, qy2, qy3, qy4, qy5, qy6, ne_eq, qy7] at aI
 refine W.seq ?_
 refine W.region rfl ?_
 refine s_val (x_ld (p := Pq ax) (v := av) rfl (ldb_sc Sc23 (H.bl 3) rfl)) ?_
 obtain ⟨bW, bx, hM⟩ := M.e_bind hM
 refine s_call cf35 [av, .func (.func 36) #[] #[]] rfl (zcL thresholds (fun bc => zcB bc) (a8.app _) aG ⟨36, [], rfl, cf36, fun bq bX bY bz bc bZ bA b4 bB bC => by obtain rfl := Arg.int bB; exact (zdi bc bC bq (St.refl bA)).mono fun bz bq ⟨b5, bD, bE, bF⟩ => by subst bD; exact ⟨bE, bF⟩⟩ bx _ (H.gt 6)) ?_
 rintro vq b6 ⟨r3, bG, hvq, aa⟩
 subst bG
 subst vq
 try dsimp only at hM
 replace H := H.bk aa
 clear aa
 refine s_val (x_not (b := r3) rfl) ?_
 refine zA (B (!r3)) rfl ?_
 refine s_nil ?_
 refine W.cond (!r3) rfl (fun bf => ?_) (fun bf => ?_)
 ·replace hM := M.e_t hM bf
  refine W.seq ?_
  refine W.region rfl ?_
  refine zA (.slice none 0 0) rfl ?_
  refine zA (.slice none 0 0) rfl ?_
  refine zA (I 4) rfl ?_
  refine s_nil ?_
  replace H := H.pk []
  refine W.ret ?_
  have az := M.e_pure hM
  replace H := H.nilOwn (α := Int) 3
  replace H := H.nilOwn (α := Int) 3
  exact ⟨_, resE_tmp3 rfl, ⟨([]), ([]), 4, (.slice none 0 0), (.slice none 0 0), az, rfl, (H.pk [1, 0])⟩⟩
 replace hM := M.e_f hM bf
 refine W.skip ?_
 refine W.seq ?_
 refine W.region rfl ?_
 refine s_val (x_mf (fs := []) (cs := [Pq aw, Pq ax]) rfl rfl) ?_
 refine t_alloc (cs := [.nilFunc]) H Al80 rfl ?_
 intro aq b7 H
 refine t_sw 0 0 [.func (.func 38) #[] #[Pq aw, Pq ax]] (.func (.func 38) #[] #[Pq aw, Pq ax]) H rfl rfl Sz80 rfl rfl rfl rfl ?_
 intro b8 H
 refine s_nil ?_
 refine W.seq ?_
 refine W.region rfl ?_
 refine zM (Pq ae) rfl ?_
 refine s_val (x_ld (p := Pq ay) (v := .agg (encB ab).toArray) rfl (ldArrA Ag74 Sz74 aH (H.bl 1))) ?_
 refine s_val (x_mf (fs := []) (cs := [Pq aq]) rfl rfl) ?_
 refine s_val (x_bld (ps := [(0, .func (.func 40) #[] #[Pq aq])]) (zs := [.nilFunc]) (L' := [.func (.func 40) #[] #[Pq aq]]) rfl Try.underlying82 Al82 rfl (Bd82 Try.underlying82) (.cons (cs := [.func (.func 40) #[] #[Pq aq]]) rfl rfl rfl rfl rfl <| .nil)) ?_
 obtain ⟨b9, bH, hM⟩ := M.e_bind hM
 refine s_call cf32 [Pq ae, .agg (encB ab).toArray, .agg #[.func (.func 40) #[] #[Pq aq]]] rfl (zds aA aB aC aD aJ aK aE ab watches thresholds (aP.app _) aQ (aR.app _) aS (aT.app _) aU (aV.app _) aW (aX.app _) aY (Has.here (k := 2) rfl) aH (aZ.app _) aF (Has.here (k := 5) rfl) (a8.app _) aG (Has.here (k := 4) rfl) (Has.here (k := 0) rfl) bH _ (H.gt 7)) ?_
 rintro vq ca ⟨r4, aN, bI, hvq, aa⟩
 subst bI
 subst vq
 try dsimp only at hM
 replace H := H.bk aa
 clear aa
 refine zA aN rfl ?_
 refine s_nil ?_
 refine W.seq ?_
 refine W.region rfl ?_
 refine zM (Pq ae) rfl ?_
 refine s_val (x_ld (p := Pq ay) (v := .agg (encB ab).toArray) rfl (ldArrA Ag74 Sz74 aH (H.bl 2))) ?_
 refine s_val (x_mf (fs := []) (cs := [Pq aq]) rfl rfl) ?_
 refine s_val (x_bld (ps := [(0, .func (.func 41) #[] #[Pq aq])]) (zs := [.nilFunc]) (L' := [.func (.func 41) #[] #[Pq aq]]) rfl Try.underlying82 Al82 rfl (Bd82 Try.underlying82) (.cons (cs := [.func (.func 41) #[] #[Pq aq]]) rfl rfl rfl rfl rfl <| .nil)) ?_
 obtain ⟨cb, bJ, hM⟩ := M.e_bind hM
 refine s_call cf32 [Pq ae, .agg (encB ab).toArray, .agg #[.func (.func 41) #[] #[Pq aq]]] rfl (zdg aA aB aC aD aJ aK aE ab watches thresholds (aP.app _) aQ (aR.app _) aS (aT.app _) aU (aV.app _) aW (aX.app _) aY (Has.here (k := 3) rfl) aH (aZ.app _) aF (Has.here (k := 6) rfl) (a8.app _) aG (Has.here (k := 5) rfl) (Has.here (k := 1) rfl) bJ _ (H.gt 8)) ?_
 rintro vq cc ⟨r5, aO, bK, hvq, aa⟩
 subst bK
 subst vq
 try dsimp only at hM
 replace H := H.bk aa
 clear aa
 refine zA aO rfl ?_
 refine s_nil ?_
 replace H := H.pk [0, 1]
 refine W.seq ?_
 refine W.region rfl ?_
 refine zM aN rfl ?_
 refine zM aO rfl ?_
 refine zA aN rfl ?_
 refine zA aO rfl ?_
 refine zA (I 0) rfl ?_
 refine s_nil ?_
 refine W.ret ?_
 have az := M.e_pure hM
 exact ⟨_, resE_tmp3 rfl, ⟨r4, r5, 0, aN, aO, az, rfl, (H.pk [1, 0])⟩⟩

end Go.Proofs.Ytbaehghammbjdaa
end
section
set_option maxRecDepth 100000
set_option maxHeartbeats 16000000
namespace Go.Proofs.Ytbaehghammbjdaa
open Go Go.Nm
def zcq : M Bool :=
  M.bind (zae 4) fun (r0, r1, r2, r3, r4, r5, r6) =>
  M.bind (zbc r0 r1 r2 r3 r4 r5 r6 (⟨(0 : Int), (0 : Int)⟩ : Dem)) fun (bi, ak) =>
  M.bind (zae 4) fun (bj, bm, bn, bo, bp, bq, br) =>
  M.bind (zbc bj bm bn bo bp bq br (⟨(1 : Int), (0 : Int)⟩ : Dem)) fun (aw, al) =>
  M.bind (zae 4) fun (bt, bu, bv, bw, bx, bz, bA) =>
  M.bind (zaI bt bu bv bw bx bz bA) fun (b5, am) =>
  M.bind (zae 3) fun (bB, bC, bD, bE, bF, bG, bH) =>
  M.bind (zaI bB bC bD bE bF bG bH) fun (ax, ao) =>
  M.bind (zae 1) fun (bI, bJ, bK, bL, bM, bN, bO) =>
  M.bind (zaI bI bJ bK bL bM bN bO) fun (bP, aq) =>
  M.bind (zae 4) fun (bQ, bR, bS, bT, bU, bV, bW) =>
  M.bind (zbH bQ bR bS bT bU bV bW 0 0) fun (bg, bh, au) =>
  M.bind (M.opt (!((((((ak != 0) || (al != 0)) || (am != 6)) || (ao != 0)) || (aq != 0)) || (au != 0))) (zak bi ([(0 : Int)])) false) fun r7 =>
  M.bind (M.opt (!(((((((((ak != 0) || (al != 0)) || (am != 6)) || (ao != 0)) || (aq != 0)) || (au != 0)) || (!r7)) || (decide (0 < (aw.length : Int)))) || ((ax.length : Int) != 2))) (zak bP ([(2 : Int)])) false) fun r8 =>
  bif !((((((((((ak != 0) || (al != 0)) || (am != 6)) || (ao != 0)) || (aq != 0)) || (au != 0)) || (!r7)) || (decide (0 < (aw.length : Int)))) || ((ax.length : Int) != 2)) || (!r8)) then (
  M.bind (zbb 6 10) fun (bX, bY) =>
  bif (((((((((((ak != 0) || (al != 0)) || (am != 6)) || (ao != 0)) || (aq != 0)) || (au != 0)) || (!r7)) || (decide (0 < (aw.length : Int)))) || ((ax.length : Int) != 2)) || (!r8)) || (!(decide ((⟨(bg : Int), (bh : Int)⟩ : Span) = (⟨(bX : Int), (bY : Int)⟩ : Span))))) then (
  M.pure false)
  else (
  M.bind (zae 1) fun (ay, az, aA, aB, aC, aD, aE) =>
  M.bind (zcj ay az aA aB aC aD aE ([(2 : Int)])) fun (aF, aG, aa) =>
  M.bind (zae 1) fun (aH, aI, aJ, aK, aL, aM, aN) =>
  M.bind (zaD aH aI aJ aK aL aM aN ([(2 : Int)]) ([(250 : Int)])) fun (ah, ai, ab) =>
  M.bind (zae 1) fun (aO, aP, aQ, aR, aS, aT, aU) =>
  M.bind (zaD aO aP aQ aR aS aT aU ([(2 : Int)]) ([(240 : Int)])) fun (bZ, aV, ac) =>
  M.bind (zae 1) fun (aW, aX, aY, aZ, a8, ba, bb) =>
  M.bind (zaD aW aX aY aZ a8 ba bb ([(2 : Int)]) ([(251 : Int)])) fun (bc, b4, ae) =>
  M.bind (M.opt ((((aa == 0) && (ab == 0)) && (ac == 0)) && (ae == 0)) (zak aF ([(250 : Int)])) false) fun r9 =>
  M.bind (M.opt (((((aa == 0) && (ab == 0)) && (ac == 0)) && (ae == 0)) && r9) (zak aG ([(0 : Int)])) false) fun aj =>
  M.grd ((!((((((aa == 0) && (ab == 0)) && (ac == 0)) && (ae == 0)) && r9) && aj) || (decide ((-9223372036854775808 : Int) <= ((ah.length : Int) + (ai.length : Int))) && decide (((ah.length : Int) + (ai.length : Int)) <= (9223372036854775807 : Int))))) <|
  M.bind (M.opt (((((((aa == 0) && (ab == 0)) && (ac == 0)) && (ae == 0)) && r9) && aj) && (((ah.length : Int) + (ai.length : Int)) == 0)) (zak aV ([(1 : Int)])) false) fun av =>
  M.bind (M.opt ((((((((aa == 0) && (ab == 0)) && (ac == 0)) && (ae == 0)) && r9) && aj) && (((ah.length : Int) + (ai.length : Int)) == 0)) && av) (zak bc ([(0 : Int)])) false) fun bf =>
  M.pure (((((((((aa == 0) && (ab == 0)) && (ac == 0)) && (ae == 0)) && r9) && aj) && (((ah.length : Int) + (ai.length : Int)) == 0)) && av) && bf)))
  else (
  bif (((((((((((ak != 0) || (al != 0)) || (am != 6)) || (ao != 0)) || (aq != 0)) || (au != 0)) || (!r7)) || (decide (0 < (aw.length : Int)))) || ((ax.length : Int) != 2)) || (!r8)) || (!(decide ((⟨(bg : Int), (bh : Int)⟩ : Span) = (⟨(0 : Int), (0 : Int)⟩ : Span))))) then (
  M.pure false)
  else (
  M.bind (zae 1) fun (ay, az, aA, aB, aC, aD, aE) =>
  M.bind (zcj ay az aA aB aC aD aE ([(2 : Int)])) fun (aF, aG, aa) =>
  M.bind (zae 1) fun (aH, aI, aJ, aK, aL, aM, aN) =>
  M.bind (zaD aH aI aJ aK aL aM aN ([(2 : Int)]) ([(250 : Int)])) fun (ah, ai, ab) =>
  M.bind (zae 1) fun (aO, aP, aQ, aR, aS, aT, aU) =>
  M.bind (zaD aO aP aQ aR aS aT aU ([(2 : Int)]) ([(240 : Int)])) fun (bZ, aV, ac) =>
  M.bind (zae 1) fun (aW, aX, aY, aZ, a8, ba, bb) =>
  M.bind (zaD aW aX aY aZ a8 ba bb ([(2 : Int)]) ([(251 : Int)])) fun (bc, b4, ae) =>
  M.bind (M.opt ((((aa == 0) && (ab == 0)) && (ac == 0)) && (ae == 0)) (zak aF ([(250 : Int)])) false) fun r9 =>
  M.bind (M.opt (((((aa == 0) && (ab == 0)) && (ac == 0)) && (ae == 0)) && r9) (zak aG ([(0 : Int)])) false) fun aj =>
  M.grd ((!((((((aa == 0) && (ab == 0)) && (ac == 0)) && (ae == 0)) && r9) && aj) || (decide ((-9223372036854775808 : Int) <= ((ah.length : Int) + (ai.length : Int))) && decide (((ah.length : Int) + (ai.length : Int)) <= (9223372036854775807 : Int))))) <|
  M.bind (M.opt (((((((aa == 0) && (ab == 0)) && (ac == 0)) && (ae == 0)) && r9) && aj) && (((ah.length : Int) + (ai.length : Int)) == 0)) (zak aV ([(1 : Int)])) false) fun av =>
  M.bind (M.opt ((((((((aa == 0) && (ab == 0)) && (ac == 0)) && (ae == 0)) && r9) && aj) && (((ah.length : Int) + (ai.length : Int)) == 0)) && av) (zak bc ([(0 : Int)])) false) fun bf =>
  M.pure (((((((((aa == 0) && (ab == 0)) && (ac == 0)) && (ae == 0)) && r9) && aj) && (((ah.length : Int) + (ai.length : Int)) == 0)) && av) && bf)))
theorem zdb {R : List Chunk}    {r : Bool} (hM : (zcq).Ends r) (w : World) (H : St w w [] R) : Ret Try.prog 15 #[] w fun v w' => ∃ (y0 : Bool), y0 = r /\ v = B y0 /\ St w w' [] R := by
 refine ret_of_W Try.func15 rfl rfl rfl ?_
 refine W.seq ?_
 refine W.region rfl ?_
 refine zA (B false) rfl ?_
 refine s_nil ?_
 refine W.seq ?_
 refine W.region rfl ?_
 obtain ⟨f4, cB, hM⟩ := M.e_bind hM
 refine s_call cf42 [I 4] rfl (zaf 4 cB _ (H.gt 0)) ?_
 rintro vq f9 ⟨r0, r1, r2, r3, r4, r5, r6, cC, cD, cE, cF, cG, ga, gc, cH, hvq, ai, cI⟩
 subst cH
 subst vq
 try dsimp only at hM
 replace H := H.bk ai
 clear ai
 refine s_val (x_bld (ps := [(0, I 0)]) (zs := [I 0, I 0]) (L' := [I 0, I 0]) rfl Try.underlying62 Al62 rfl (Bd62 Try.underlying62) (.cons (cs := [I 0]) rfl rfl rfl rfl rfl <| .nil)) ?_
 obtain ⟨gf, cJ, hM⟩ := M.e_bind hM
 refine s_call cf24 [.agg #[cC, cD, cE, cF, I r4, I r5, cG], .agg #[I 0, I 0]] rfl (zcm r0 r1 r2 r3 r4 r5 r6 (⟨(0 : Int), (0 : Int)⟩ : Dem) (rdo 0) (H.os 0) (rdo 1) (H.os 1) (rdo 2) (H.os 2) (rdo 3) (H.os 3) (Reads.sup (rdo 4) (Reads.of (k := 5) rfl roLe)) (rowSl rfl (H.get (k := 4) rfl) (roLe _ (H.get (k := 5) rfl)) cI) cJ _ (H.gt 6)) ?_
 rintro vq gg ⟨b9, ah, aM, cK, hvq, ai⟩
 subst cK
 subst vq
 try dsimp only at hM
 replace H := H.bk ai
 clear ai
 refine zM (.tuple #[aM, I ah]) rfl ?_
 refine zX [aM, I ah] aM rfl rfl ?_
 refine zX [aM, I ah] (I ah) rfl rfl ?_
 refine zA aM rfl ?_
 refine zA (I ah) rfl ?_
 refine s_nil ?_
 replace H := H.pk [0]
 refine W.seq ?_
 refine W.region rfl ?_
 obtain ⟨gh, cL, hM⟩ := M.e_bind hM
 refine s_call cf42 [I 4] rfl (zaf 4 cL _ (H.gt 1)) ?_
 rintro vq gi ⟨cM, cN, cO, cP, ca, cb, cQ, cR, cS, cT, cU, cV, gj, gk, cW, hvq, ai, cX⟩
 subst cW
 subst vq
 try dsimp only at hM
 replace H := H.bk ai
 clear ai
 refine s_val (x_bld (ps := [(0, I 1)]) (zs := [I 0, I 0]) (L' := [I 1, I 0]) rfl Try.underlying62 Al62 rfl (Bd62 Try.underlying62) (.cons (cs := [I 1]) rfl rfl rfl rfl rfl <| .nil)) ?_
 obtain ⟨gl, cY, hM⟩ := M.e_bind hM
 refine s_call cf24 [.agg #[cR, cS, cT, cU, I ca, I cb, cV], .agg #[I 1, I 0]] rfl (zcm cM cN cO cP ca cb cQ (⟨(1 : Int), (0 : Int)⟩ : Dem) (rdo 0) (H.os 0) (rdo 1) (H.os 1) (rdo 2) (H.os 2) (rdo 3) (H.os 3) (Reads.sup (rdo 4) (Reads.of (k := 5) rfl roLe)) (rowSl rfl (H.get (k := 4) rfl) (roLe _ (H.get (k := 5) rfl)) cX) cY _ (H.gt 7)) ?_
 rintro vq gm ⟨aw, aj, aO, cZ, hvq, ai⟩
 subst cZ
 subst vq
 try dsimp only at hM
 replace H := H.bk ai
 clear ai
 refine zM (.tuple #[aO, I aj]) rfl ?_
 refine zX [aO, I aj] aO rfl rfl ?_
 refine zX [aO, I aj] (I aj) rfl rfl ?_
 refine zA aO rfl ?_
 refine zA (I aj) rfl ?_
 refine s_nil ?_
 replace H := H.pk [0, 7]
 refine W.seq ?_
 refine W.region rfl ?_
 obtain ⟨gn, c0, hM⟩ := M.e_bind hM
 refine s_call cf42 [I 4] rfl (zaf 4 c0 _ (H.gt 2)) ?_
 rintro vq gp ⟨c6, c7, c8, c9, cc, cd, da, db, dc, dd, de, dg, gq, gr, di, hvq, ai, dk⟩
 subst di
 subst vq
 try dsimp only at hM
 replace H := H.bk ai
 clear ai
 obtain ⟨gu, dm, hM⟩ := M.e_bind hM
 refine s_call cf22 [.agg #[db, dc, dd, de, I cc, I cd, dg]] rfl (zbV c6 c7 c8 c9 cc cd da (rdo 0) (H.os 0) (rdo 1) (H.os 1) (rdo 2) (H.os 2) (rdo 3) (H.os 3) (Reads.sup (rdo 4) (Reads.of (k := 5) rfl roLe)) (rowSl rfl (H.get (k := 4) rfl) (roLe _ (H.get (k := 5) rfl)) dk) dm _ (H.gt 8)) ?_
 rintro vq gv ⟨gw, ak, aS, dq, hvq, ai⟩
 subst dq
 subst vq
 try dsimp only at hM
 replace H := H.bk ai
 clear ai
 refine zM (.tuple #[aS, I ak]) rfl ?_
 refine zX [aS, I ak] aS rfl rfl ?_
 refine zX [aS, I ak] (I ak) rfl rfl ?_
 refine zA aS rfl ?_
 refine zA (I ak) rfl ?_
 refine s_nil ?_
 replace H := H.pk [7, 8]
 refine W.seq ?_
 refine W.region rfl ?_
 obtain ⟨gx, dr, hM⟩ := M.e_bind hM
 refine s_call cf42 [I 3] rfl (zaf 3 dr _ (H.gt 2)) ?_
 rintro vq gy ⟨dt, du, dv, dw, ce, cf, dx, dy, dz, dA, dB, dC, gz, gA, dD, hvq, ai, dE⟩
 subst dD
 subst vq
 try dsimp only at hM
 replace H := H.bk ai
 clear ai
 obtain ⟨gB, dF, hM⟩ := M.e_bind hM
 refine s_call cf22 [.agg #[dy, dz, dA, dB, I ce, I cf, dC]] rfl (zbV dt du dv dw ce cf dx (rdo 0) (H.os 0) (rdo 1) (H.os 1) (rdo 2) (H.os 2) (rdo 3) (H.os 3) (Reads.sup (rdo 4) (Reads.of (k := 5) rfl roLe)) (rowSl rfl (H.get (k := 4) rfl) (roLe _ (H.get (k := 5) rfl)) dE) dF _ (H.gt 8)) ?_
 rintro vq gC ⟨ax, al, aP, dG, hvq, ai⟩
 subst dG
 subst vq
 try dsimp only at hM
 replace H := H.bk ai
 clear ai
 refine zM (.tuple #[aP, I al]) rfl ?_
 refine zX [aP, I al] aP rfl rfl ?_
 refine zX [aP, I al] (I al) rfl rfl ?_
 refine zA aP rfl ?_
 refine zA (I al) rfl ?_
 refine s_nil ?_
 replace H := H.pk [0, 7, 8]
 refine W.seq ?_
 refine W.region rfl ?_
 obtain ⟨gD, dH, hM⟩ := M.e_bind hM
 refine s_call cf42 [I 1] rfl (zaf 1 dH _ (H.gt 3)) ?_
 rintro vq gE ⟨dI, dJ, dK, dL, cg, ch, dM, dN, dO, dP, dQ, dR, gF, gG, dS, hvq, ai, dT⟩
 subst dS
 subst vq
 try dsimp only at hM
 replace H := H.bk ai
 clear ai
 obtain ⟨gH, dU, hM⟩ := M.e_bind hM
 refine s_call cf22 [.agg #[dN, dO, dP, dQ, I cg, I ch, dR]] rfl (zbV dI dJ dK dL cg ch dM (rdo 0) (H.os 0) (rdo 1) (H.os 1) (rdo 2) (H.os 2) (rdo 3) (H.os 3) (Reads.sup (rdo 4) (Reads.of (k := 5) rfl roLe)) (rowSl rfl (H.get (k := 4) rfl) (roLe _ (H.get (k := 5) rfl)) dT) dU _ (H.gt 9)) ?_
 rintro vq gI ⟨ck, ao, aN, dV, hvq, ai⟩
 subst dV
 subst vq
 try dsimp only at hM
 replace H := H.bk ai
 clear ai
 refine zM (.tuple #[aN, I ao]) rfl ?_
 refine zX [aN, I ao] aN rfl rfl ?_
 refine zX [aN, I ao] (I ao) rfl rfl ?_
 refine zA aN rfl ?_
 refine zA (I ao) rfl ?_
 refine s_nil ?_
 replace H := H.pk [0, 7, 8, 9]
 refine W.seq ?_
 refine W.region rfl ?_
 obtain ⟨gJ, dW, hM⟩ := M.e_bind hM
 refine s_call cf42 [I 4] rfl (zaf 4 dW _ (H.gt 4)) ?_
 rintro vq gK ⟨dX, dY, dZ, d3, cl, cm, d4, d5, d6, d7, d8, d9, gL, gM, ea, hvq, ai, eb⟩
 subst ea
 subst vq
 try dsimp only at hM
 replace H := H.bk ai
 clear ai
 obtain ⟨gN, ec, hM⟩ := M.e_bind hM
 refine s_call cf28 [.agg #[d5, d6, d7, d8, I cl, I cm, d9], I 0, I 0] rfl (zcS dX dY dZ d3 cl cm d4 0 0 (rdo 0) (H.os 0) (rdo 1) (H.os 1) (rdo 2) (H.os 2) (rdo 3) (H.os 3) (Reads.sup (rdo 4) (Reads.of (k := 5) rfl roLe)) (rowSl rfl (H.get (k := 4) rfl) (roLe _ (H.get (k := 5) rfl)) eb) ec _ (H.gt 10)) ?_
 rintro vq gO ⟨aA, aB, aq, ed, hvq, ai⟩
 subst ed
 subst vq
 try dsimp only at hM
 replace H := H.bk ai
 clear ai
 refine zM (.tuple #[.agg #[I aA, I aB], I aq]) rfl ?_
 refine zX [.agg #[I aA, I aB], I aq] (.agg #[I aA, I aB]) rfl rfl ?_
 refine zX [.agg #[I aA, I aB], I aq] (I aq) rfl rfl ?_
 refine t_alloc (cs := [I 0, I 0]) H Al27 rfl ?_
 intro cn gP H
 refine t_sw 0 0 [I aA, I aB] (.agg #[I aA, I aB]) H rfl rfl Sz27 rfl rfl rfl rfl ?_
 intro gQ H
 refine zA (I aq) rfl ?_
 refine s_nil ?_
 replace H := H.pk [0, 7, 8, 9, 10]
 refine W.seq ?_
 refine W.seq ?_
 refine W.draw (fun W => St w W [cBlk cn [I aA, I aB] 27, cOwn (α := Int) 3 aN ck, cOwn (α := Int) 3 aP ax, cOwn (α := Int) 3 aO aw, cOwn (α := Int) 3 aM b9] R) [(0, true), (1, true), (2, true), (3, true), (4, true), (5, true), (6, true), (7, true), (8, true), (9, true), (10, true), (11, true), (12, true), (13, true), (14, true), (15, true), (16, true), (17, true), (18, true), (19, true), (20, true), (21, true), (22, true), (23, true), (24, false), (25, false), (26, true), (27, true), (28, true), (29, true), (30, true), (31, true), (32, true), (33, true), (34, true), (35, true), (36, true), (37, true), (38, true), (39, true), (40, false), (41, false), (42, true), (43, true), (44, true), (45, true), (46, false), (47, true), (48, true)] mixed (by decide +kernel) rfl ?_
 intro gR aR
 replace H := H.ext aR
 clear aR
 refine ⟨(H.pk [0, 1, 2, 3, 4]), ?_⟩
 refine d_q rfl (fun w' H => x_mv (v := I ah) rfl) ?_
 refine d_q rfl (fun w' H => x_cmp (kd := .i64) (a := ah) (b := 0) (r := ah != 0) rfl rfl rfl) ?_
 refine d_q rfl (fun w' H => x_mv (v := B (ah != 0)) rfl) ?_
 refine d_qg (!(ah != 0)) rfl (gy_f rfl) (fun hg => (fun w' H => x_mv (v := I aj) rfl)) ?_
 refine d_qg (!(ah != 0)) rfl (gy_f rfl) (fun hg => (fun w' H => x_cmp (kd := .i64) (a := aj) (b := 0) (r := aj != 0) (gd_of (c := !(ah != 0)) hg (I aj)) rfl rfl)) ?_
 refine d_q rfl (fun w' H => x_por (b := ah != 0) (r := aj != 0) rfl rfl (fun hb => gd_of (c := !(ah != 0)) (by first | exact hb | (rw [hb]; rfl) | simp_all) (B (aj != 0)))) ?_
 refine d_q rfl (fun w' H => x_mv (v := B ((ah != 0) || (aj != 0))) rfl) ?_
 refine d_qg (!((ah != 0) || (aj != 0))) rfl (gy_f rfl) (fun hg => (fun w' H => x_mv (v := I ak) rfl)) ?_
 refine d_qg (!((ah != 0) || (aj != 0))) rfl (gy_f rfl) (fun hg => (fun w' H => x_cmp (kd := .i64) (a := ak) (b := 6) (r := ak != 6) (gd_of (c := !((ah != 0) || (aj != 0))) hg (I ak)) rfl rfl)) ?_
 refine d_q rfl (fun w' H => x_por (b := ((ah != 0) || (aj != 0))) (r := ak != 6) rfl rfl (fun hb => gd_of (c := !((ah != 0) || (aj != 0))) (by first | exact hb | (rw [hb]; rfl) | simp_all) (B (ak != 6)))) ?_
 refine d_q rfl (fun w' H => x_mv (v := B (((ah != 0) || (aj != 0)) || (ak != 6))) rfl) ?_
 refine d_qg (!(((ah != 0) || (aj != 0)) || (ak != 6))) rfl (gy_f rfl) (fun hg => (fun w' H => x_mv (v := I al) rfl)) ?_
 refine d_qg (!(((ah != 0) || (aj != 0)) || (ak != 6))) rfl (gy_f rfl) (fun hg => (fun w' H => x_cmp (kd := .i64) (a := al) (b := 0) (r := al != 0) (gd_of (c := !(((ah != 0) || (aj != 0)) || (ak != 6))) hg (I al)) rfl rfl)) ?_
 refine d_q rfl (fun w' H => x_por (b := (((ah != 0) || (aj != 0)) || (ak != 6))) (r := al != 0) rfl rfl (fun hb => gd_of (c := !(((ah != 0) || (aj != 0)) || (ak != 6))) (by first | exact hb | (rw [hb]; rfl) | simp_all) (B (al != 0)))) ?_
 refine d_q rfl (fun w' H => x_mv (v := B ((((ah != 0) || (aj != 0)) || (ak != 6)) || (al != 0))) rfl) ?_
 refine d_qg (!((((ah != 0) || (aj != 0)) || (ak != 6)) || (al != 0))) rfl (gy_f rfl) (fun hg => (fun w' H => x_mv (v := I ao) rfl)) ?_
 refine d_qg (!((((ah != 0) || (aj != 0)) || (ak != 6)) || (al != 0))) rfl (gy_f rfl) (fun hg => (fun w' H => x_cmp (kd := .i64) (a := ao) (b := 0) (r := ao != 0) (gd_of (c := !((((ah != 0) || (aj != 0)) || (ak != 6)) || (al != 0))) hg (I ao)) rfl rfl)) ?_
 refine d_q rfl (fun w' H => x_por (b := ((((ah != 0) || (aj != 0)) || (ak != 6)) || (al != 0))) (r := ao != 0) rfl rfl (fun hb => gd_of (c := !((((ah != 0) || (aj != 0)) || (ak != 6)) || (al != 0))) (by first | exact hb | (rw [hb]; rfl) | simp_all) (B (ao != 0)))) ?_
 refine d_q rfl (fun w' H => x_mv (v := B (((((ah != 0) || (aj != 0)) || (ak != 6)) || (al != 0)) || (ao != 0))) rfl) ?_
 refine d_qg (!(((((ah != 0) || (aj != 0)) || (ak != 6)) || (al != 0)) || (ao != 0))) rfl (gy_f rfl) (fun hg => (fun w' H => x_mv (v := I aq) rfl)) ?_
 refine d_qg (!(((((ah != 0) || (aj != 0)) || (ak != 6)) || (al != 0)) || (ao != 0))) rfl (gy_f rfl) (fun hg => (fun w' H => x_cmp (kd := .i64) (a := aq) (b := 0) (r := aq != 0) (gd_of (c := !(((((ah != 0) || (aj != 0)) || (ak != 6)) || (al != 0)) || (ao != 0))) hg (I aq)) rfl rfl)) ?_
 refine d_q rfl (fun w' H => x_por (b := (((((ah != 0) || (aj != 0)) || (ak != 6)) || (al != 0)) || (ao != 0))) (r := aq != 0) rfl rfl (fun hb => gd_of (c := !(((((ah != 0) || (aj != 0)) || (ak != 6)) || (al != 0)) || (ao != 0))) (by first | exact hb | (rw [hb]; rfl) | simp_all) (B (aq != 0)))) ?_
 refine d_q rfl (fun w' H => x_mv (v := B ((((((ah != 0) || (aj != 0)) || (ak != 6)) || (al != 0)) || (ao != 0)) || (aq != 0))) rfl) ?_
 refine d_qg (!((((((ah != 0) || (aj != 0)) || (ak != 6)) || (al != 0)) || (ao != 0)) || (aq != 0))) rfl (gy_f rfl) (fun hg => (fun w' H => x_mv (v := aM) rfl)) ?_
 refine d_l rfl ?_
 refine t_gbs (α := Int) T23 (!((((((ah != 0) || (aj != 0)) || (ak != 6)) || (al != 0)) || (ao != 0)) || (aq != 0))) (gy_f rfl) [I 0] [(0 : Int)] H (fun _ => rfl) (.cons rfl (Flat.rep_enc _ (0 : Int)) <| .nil) rfl rfl rfl ?_
 intro co gS gT H ee
 refine s_nil ⟨(H.pk [1, 2, 3, 4, 5]), ?_⟩
 refine d_l rfl ?_
 obtain ⟨r7, ef, hM⟩ := M.e_bind hM
 refine t_gcall (!((((((ah != 0) || (aj != 0)) || (ak != 6)) || (al != 0)) || (ao != 0)) || (aq != 0))) (gy_f rfl) cf18 (B r7) (fun _ => [aM, co]) (fun hg => lst2 (gd_of (c := !((((((ah != 0) || (aj != 0)) || (ak != 6)) || (al != 0)) || (ao != 0)) || (aq != 0))) hg (aM)) (gd_of (c := !((((((ah != 0) || (aj != 0)) || (ak != 6)) || (al != 0)) || (ao != 0)) || (aq != 0))) hg (co))) H (fun hg => (zam b9 ([(0 : Int)]) (rdo 5) (H.os 5) (Reads.of (k := 0) rfl roLe) (ee hg) (M.e_opt ef hg) _ (H.give (A := []) rfl)).mono fun v_ w_ ⟨y_, ay, aC, H_⟩ => by subst ay; exact ⟨aC, H.via H_⟩) ?_
 intro gU H
 refine s_nil ⟨(H.pk [1, 2, 3, 4, 5]), ?_⟩
 refine d_qg (!((((((ah != 0) || (aj != 0)) || (ak != 6)) || (al != 0)) || (ao != 0)) || (aq != 0))) rfl (gy_f rfl) (fun hg => (fun w' H => x_not (b := r7) (gd_of (c := !((((((ah != 0) || (aj != 0)) || (ak != 6)) || (al != 0)) || (ao != 0)) || (aq != 0))) hg (B r7)))) ?_
 refine d_q rfl (fun w' H => x_por (b := ((((((ah != 0) || (aj != 0)) || (ak != 6)) || (al != 0)) || (ao != 0)) || (aq != 0))) (r := !r7) rfl rfl (fun hb => gd_of (c := !((((((ah != 0) || (aj != 0)) || (ak != 6)) || (al != 0)) || (ao != 0)) || (aq != 0))) (by first | exact hb | (rw [hb]; rfl) | simp_all) (B (!r7)))) ?_
 refine d_q rfl (fun w' H => x_mv (v := B (((((((ah != 0) || (aj != 0)) || (ak != 6)) || (al != 0)) || (ao != 0)) || (aq != 0)) || (!r7))) rfl) ?_
 refine d_qg (!(((((((ah != 0) || (aj != 0)) || (ak != 6)) || (al != 0)) || (ao != 0)) || (aq != 0)) || (!r7))) rfl (gy_f rfl) (fun hg => (fun w' H => x_mv (v := aO) rfl)) ?_
 refine d_qg (!(((((((ah != 0) || (aj != 0)) || (ak != 6)) || (al != 0)) || (ao != 0)) || (aq != 0)) || (!r7))) rfl (gy_f rfl) (fun hg => (fun w' H => x_lenS T23.und (gd_of (c := !(((((((ah != 0) || (aj != 0)) || (ak != 6)) || (al != 0)) || (ao != 0)) || (aq != 0)) || (!r7))) hg (aO)) (H.os 3))) ?_
 refine d_qg (!(((((((ah != 0) || (aj != 0)) || (ak != 6)) || (al != 0)) || (ao != 0)) || (aq != 0)) || (!r7))) rfl (gy_f rfl) (fun hg => (fun w' H => x_cmp (kd := .i64) (a := (aw.length : Int)) (b := 0) (r := decide (0 < (aw.length : Int))) (gd_of (c := !(((((((ah != 0) || (aj != 0)) || (ak != 6)) || (al != 0)) || (ao != 0)) || (aq != 0)) || (!r7))) hg (I (aw.length : Int))) rfl rfl)) ?_
 refine d_q rfl (fun w' H => x_por (b := (((((((ah != 0) || (aj != 0)) || (ak != 6)) || (al != 0)) || (ao != 0)) || (aq != 0)) || (!r7))) (r := decide (0 < (aw.length : Int))) rfl rfl (fun hb => gd_of (c := !(((((((ah != 0) || (aj != 0)) || (ak != 6)) || (al != 0)) || (ao != 0)) || (aq != 0)) || (!r7))) (by first | exact hb | (rw [hb]; rfl) | simp_all) (B (decide (0 < (aw.length : Int)))))) ?_
 refine d_q rfl (fun w' H => x_mv (v := B ((((((((ah != 0) || (aj != 0)) || (ak != 6)) || (al != 0)) || (ao != 0)) || (aq != 0)) || (!r7)) || (decide (0 < (aw.length : Int))))) rfl) ?_
 refine d_qg (!((((((((ah != 0) || (aj != 0)) || (ak != 6)) || (al != 0)) || (ao != 0)) || (aq != 0)) || (!r7)) || (decide (0 < (aw.length : Int))))) rfl (gy_f rfl) (fun hg => (fun w' H => x_mv (v := aP) rfl)) ?_
 refine d_qg (!((((((((ah != 0) || (aj != 0)) || (ak != 6)) || (al != 0)) || (ao != 0)) || (aq != 0)) || (!r7)) || (decide (0 < (aw.length : Int))))) rfl (gy_f rfl) (fun hg => (fun w' H => x_lenS T23.und (gd_of (c := !((((((((ah != 0) || (aj != 0)) || (ak != 6)) || (al != 0)) || (ao != 0)) || (aq != 0)) || (!r7)) || (decide (0 < (aw.length : Int))))) hg (aP)) (H.os 2))) ?_
 refine d_qg (!((((((((ah != 0) || (aj != 0)) || (ak != 6)) || (al != 0)) || (ao != 0)) || (aq != 0)) || (!r7)) || (decide (0 < (aw.length : Int))))) rfl (gy_f rfl) (fun hg => (fun w' H => x_cmp (kd := .i64) (a := (ax.length : Int)) (b := 2) (r := (ax.length : Int) != 2) (gd_of (c := !((((((((ah != 0) || (aj != 0)) || (ak != 6)) || (al != 0)) || (ao != 0)) || (aq != 0)) || (!r7)) || (decide (0 < (aw.length : Int))))) hg (I (ax.length : Int))) rfl rfl)) ?_
 refine d_q rfl (fun w' H => x_por (b := ((((((((ah != 0) || (aj != 0)) || (ak != 6)) || (al != 0)) || (ao != 0)) || (aq != 0)) || (!r7)) || (decide (0 < (aw.length : Int))))) (r := (ax.length : Int) != 2) rfl rfl (fun hb => gd_of (c := !((((((((ah != 0) || (aj != 0)) || (ak != 6)) || (al != 0)) || (ao != 0)) || (aq != 0)) || (!r7)) || (decide (0 < (aw.length : Int))))) (by first | exact hb | (rw [hb]; rfl) | simp_all) (B ((ax.length : Int) != 2)))) ?_
 refine d_q rfl (fun w' H => x_mv (v := B (((((((((ah != 0) || (aj != 0)) || (ak != 6)) || (al != 0)) || (ao != 0)) || (aq != 0)) || (!r7)) || (decide (0 < (aw.length : Int)))) || ((ax.length : Int) != 2))) rfl) ?_
 refine d_qg (!(((((((((ah != 0) || (aj != 0)) || (ak != 6)) || (al != 0)) || (ao != 0)) || (aq != 0)) || (!r7)) || (decide (0 < (aw.length : Int)))) || ((ax.length : Int) != 2))) rfl (gy_f rfl) (fun hg => (fun w' H => x_mv (v := aN) rfl)) ?_
 refine d_l rfl ?_
 refine t_gbs (α := Int) T23 (!(((((((((ah != 0) || (aj != 0)) || (ak != 6)) || (al != 0)) || (ao != 0)) || (aq != 0)) || (!r7)) || (decide (0 < (aw.length : Int)))) || ((ax.length : Int) != 2))) (gy_f rfl) [I 2] [(2 : Int)] H (fun _ => rfl) (.cons rfl (Flat.rep_enc _ (2 : Int)) <| .nil) rfl rfl rfl ?_
 intro cp gV gW H eg
 refine s_nil ⟨(H.pk [2, 3, 4, 5, 6]), ?_⟩
 refine d_l rfl ?_
 obtain ⟨r8, eh, hM⟩ := M.e_bind hM
 refine t_gcall (!(((((((((ah != 0) || (aj != 0)) || (ak != 6)) || (al != 0)) || (ao != 0)) || (aq != 0)) || (!r7)) || (decide (0 < (aw.length : Int)))) || ((ax.length : Int) != 2))) (gy_f rfl) cf18 (B r8) (fun _ => [aN, cp]) (fun hg => lst2 (gd_of (c := !(((((((((ah != 0) || (aj != 0)) || (ak != 6)) || (al != 0)) || (ao != 0)) || (aq != 0)) || (!r7)) || (decide (0 < (aw.length : Int)))) || ((ax.length : Int) != 2))) hg (aN)) (gd_of (c := !(((((((((ah != 0) || (aj != 0)) || (ak != 6)) || (al != 0)) || (ao != 0)) || (aq != 0)) || (!r7)) || (decide (0 < (aw.length : Int)))) || ((ax.length : Int) != 2))) hg (cp))) H (fun hg => (zam ck ([(2 : Int)]) (rdo 3) (H.os 3) (Reads.of (k := 0) rfl roLe) (eg hg) (M.e_opt eh hg) _ (H.give (A := []) rfl)).mono fun v_ w_ ⟨y_, ay, aC, H_⟩ => by subst ay; exact ⟨aC, H.via H_⟩) ?_
 intro gX H
 refine s_nil ⟨(H.pk [2, 3, 4, 5, 6]), ?_⟩
 refine d_qg (!(((((((((ah != 0) || (aj != 0)) || (ak != 6)) || (al != 0)) || (ao != 0)) || (aq != 0)) || (!r7)) || (decide (0 < (aw.length : Int)))) || ((ax.length : Int) != 2))) rfl (gy_f rfl) (fun hg => (fun w' H => x_not (b := r8) (gd_of (c := !(((((((((ah != 0) || (aj != 0)) || (ak != 6)) || (al != 0)) || (ao != 0)) || (aq != 0)) || (!r7)) || (decide (0 < (aw.length : Int)))) || ((ax.length : Int) != 2))) hg (B r8)))) ?_
 refine d_q rfl (fun w' H => x_por (b := (((((((((ah != 0) || (aj != 0)) || (ak != 6)) || (al != 0)) || (ao != 0)) || (aq != 0)) || (!r7)) || (decide (0 < (aw.length : Int)))) || ((ax.length : Int) != 2))) (r := !r8) rfl rfl (fun hb => gd_of (c := !(((((((((ah != 0) || (aj != 0)) || (ak != 6)) || (al != 0)) || (ao != 0)) || (aq != 0)) || (!r7)) || (decide (0 < (aw.length : Int)))) || ((ax.length : Int) != 2))) (by first | exact hb | (rw [hb]; rfl) | simp_all) (B (!r8)))) ?_
 refine d_q rfl (fun w' H => x_mv (v := B ((((((((((ah != 0) || (aj != 0)) || (ak != 6)) || (al != 0)) || (ao != 0)) || (aq != 0)) || (!r7)) || (decide (0 < (aw.length : Int)))) || ((ax.length : Int) != 2)) || (!r8))) rfl) ?_
 refine d_qg (!((((((((((ah != 0) || (aj != 0)) || (ak != 6)) || (al != 0)) || (ao != 0)) || (aq != 0)) || (!r7)) || (decide (0 < (aw.length : Int)))) || ((ax.length : Int) != 2)) || (!r8))) rfl (gy_f rfl) (fun hg => (fun w' H => x_ld (p := Pq cn) (v := .agg #[I aA, I aB]) rfl (ldb_ag (ds := [I aA, I aB]) Ag27 Sz27 (H.bl 0) rfl rfl))) ?_
 refine d_l rfl ?_
 refine g_splitV (!((((((((((ah != 0) || (aj != 0)) || (ak != 6)) || (al != 0)) || (ao != 0)) || (aq != 0)) || (!r7)) || (decide (0 < (aw.length : Int)))) || ((ax.length : Int) != 2)) || (!r8))) (.agg #[I 0, I 0]) (gy_f rfl) (fun bg => ?_) (fun bg => ?_)
 ·replace hM := M.e_t hM bg
  obtain ⟨gY, ei, hM⟩ := M.e_bind hM
  refine s_call cf43 [I 6, I 10] rfl (zbi 6 10 ei _ (H.gt 7)) ?_
  rintro vq gZ ⟨ba, bb, ej, hvq, ai⟩
  subst ej
  subst vq
  try dsimp only at hM
  replace H := H.bk ai
  clear ai
  refine s_nil ⟨(H.pk [2, 3, 4, 5, 6]), ?_⟩
  refine d_qg (!((((((((((ah != 0) || (aj != 0)) || (ak != 6)) || (al != 0)) || (ao != 0)) || (aq != 0)) || (!r7)) || (decide (0 < (aw.length : Int)))) || ((ax.length : Int) != 2)) || (!r8))) rfl (gy_f rfl) (fun hg => (fun w' H => x_neS (eqT27 (⟨(aA : Int), (aB : Int)⟩ : Span) (⟨(ba : Int), (bb : Int)⟩ : Span) _) gdT27 (gd_of (c := !((((((((((ah != 0) || (aj != 0)) || (ak != 6)) || (al != 0)) || (ao != 0)) || (aq != 0)) || (!r7)) || (decide (0 < (aw.length : Int)))) || ((ax.length : Int) != 2)) || (!r8))) hg (.agg #[I aA, I aB])) rfl)) ?_
  refine d_q rfl (fun w' H => x_por (b := ((((((((((ah != 0) || (aj != 0)) || (ak != 6)) || (al != 0)) || (ao != 0)) || (aq != 0)) || (!r7)) || (decide (0 < (aw.length : Int)))) || ((ax.length : Int) != 2)) || (!r8))) (r := !(decide ((⟨(aA : Int), (aB : Int)⟩ : Span) = (⟨(ba : Int), (bb : Int)⟩ : Span)))) rfl rfl (fun hb => gd_of (c := !((((((((((ah != 0) || (aj != 0)) || (ak != 6)) || (al != 0)) || (ao != 0)) || (aq != 0)) || (!r7)) || (decide (0 < (aw.length : Int)))) || ((ax.length : Int) != 2)) || (!r8))) (by first | exact hb | (rw [hb]; rfl) | simp_all) (B (!(decide ((⟨(aA : Int), (aB : Int)⟩ : Span) = (⟨(ba : Int), (bb : Int)⟩ : Span))))))) ?_
  refine d_nil ?_
  replace H := H.pk []
  refine W.cond (((((((((((ah != 0) || (aj != 0)) || (ak != 6)) || (al != 0)) || (ao != 0)) || (aq != 0)) || (!r7)) || (decide (0 < (aw.length : Int)))) || ((ax.length : Int) != 2)) || (!r8)) || (!(decide ((⟨(aA : Int), (aB : Int)⟩ : Span) = (⟨(ba : Int), (bb : Int)⟩ : Span))))) rfl (fun bh => ?_) (fun bh => ?_)
  ·replace hM := M.e_t hM bh
   refine W.seq ?_
   refine W.region rfl ?_
   refine zA (B false) rfl ?_
   refine s_nil ?_
   refine W.ret ?_
   have ay := M.e_pure hM
   exact ⟨_, resE_tmp rfl, ⟨false, ay, rfl, H⟩⟩
  replace hM := M.e_f hM bh
  refine W.skip ?_
  refine W.seq ?_
  refine W.region rfl ?_
  obtain ⟨g0, em, hM⟩ := M.e_bind hM
  refine s_call cf42 [I 1] rfl (zaf 1 em _ (H.gt 0)) ?_
  rintro vq hG ⟨bi, bj, bm, bn, aT, aU, bo, bp, bq, br, bt, bu, en, eo, ep, hvq, ai, eq⟩
  subst ep
  subst vq
  try dsimp only at hM
  replace H := H.bk ai
  clear ai
  refine t_bs (α := Int) T23 [I 2] [(2 : Int)] H rfl (.cons rfl (Flat.rep_enc _ (2 : Int)) <| .nil) rfl rfl rfl ?_
  intro er hJ H
  obtain ⟨hN, eu, hM⟩ := M.e_bind hM
  refine s_call cf11 [.agg #[bp, bq, br, bt, I aT, I aU, bu], er] rfl (zc5 bi bj bm bn aT aU bo ([(2 : Int)]) (rdo 1) (H.os 1) (rdo 2) (H.os 2) (rdo 3) (H.os 3) (rdo 4) (H.os 4) (Reads.sup (rdo 5) (Reads.of (k := 6) rfl roLe)) (rowSl rfl (H.get (k := 5) rfl) (roLe _ (H.get (k := 6) rfl)) eq) (rdo 0) (H.os 0) eu _ (H.gt 7)) ?_
  rintro vq hO ⟨bv, bw, aa, aD, aE, ew, hvq, ai⟩
  subst ew
  subst vq
  try dsimp only at hM
  replace H := H.bk ai
  clear ai
  refine zM (.tuple #[aD, aE, I aa]) rfl ?_
  refine zX [aD, aE, I aa] aD rfl rfl ?_
  refine zX [aD, aE, I aa] aE rfl rfl ?_
  refine zX [aD, aE, I aa] (I aa) rfl rfl ?_
  refine zA aD rfl ?_
  refine zA aE rfl ?_
  refine zA (I aa) rfl ?_
  refine s_nil ?_
  replace H := H.pk [0, 1]
  refine W.seq ?_
  refine W.region rfl ?_
  obtain ⟨hP, ez, hM⟩ := M.e_bind hM
  refine s_call cf42 [I 1] rfl (zaf 1 ez _ (H.gt 2)) ?_
  rintro vq hZ ⟨bx, bz, bA, bB, aV, aW, bC, bD, bE, bF, bG, bH, eA, eB, eC, hvq, ai, eD⟩
  subst eC
  subst vq
  try dsimp only at hM
  replace H := H.bk ai
  clear ai
  refine t_bs (α := Int) T23 [I 2] [(2 : Int)] H rfl (.cons rfl (Flat.rep_enc _ (2 : Int)) <| .nil) rfl rfl rfl ?_
  intro eE h9 H
  refine t_bs (α := Int) T23 [I 250] [(250 : Int)] H rfl (.cons rfl (Flat.rep_enc _ (250 : Int)) <| .nil) rfl rfl rfl ?_
  intro eF ia H
  obtain ⟨ib, eG, hM⟩ := M.e_bind hM
  refine s_call cf12 [.agg #[bD, bE, bF, bG, I aV, I aW, bH], eE, eF] rfl (zaW bx bz bA bB aV aW bC ([(2 : Int)]) ([(250 : Int)]) (rdo 2) (H.os 2) (rdo 3) (H.os 3) (rdo 4) (H.os 4) (rdo 5) (H.os 5) (Reads.sup (rdo 6) (Reads.of (k := 7) rfl roLe)) (rowSl rfl (H.get (k := 6) rfl) (roLe _ (H.get (k := 7) rfl)) eD) (rdo 1) (H.os 1) (rdo 0) (H.os 0) eG _ (H.gt 10)) ?_
  rintro vq ic ⟨au, av, ab, aH, aI, eH, hvq, ai⟩
  subst eH
  subst vq
  try dsimp only at hM
  replace H := H.bk ai
  clear ai
  refine zM (.tuple #[aH, aI, I ab]) rfl ?_
  refine zX [aH, aI, I ab] aH rfl rfl ?_
  refine zX [aH, aI, I ab] aI rfl rfl ?_
  refine zX [aH, aI, I ab] (I ab) rfl rfl ?_
  refine zA aH rfl ?_
  refine zA aI rfl ?_
  refine zA (I ab) rfl ?_
  refine s_nil ?_
  replace H := H.pk [0, 1, 10, 11]
  refine W.seq ?_
  refine W.region rfl ?_
  obtain ⟨ie, eI, hM⟩ := M.e_bind hM
  refine s_call cf42 [I 1] rfl (zaf 1 eI _ (H.gt 4)) ?_
  rintro vq ig ⟨bI, bJ, bK, bL, aX, aY, bM, bN, bO, bP, bQ, bR, eJ, eK, eL, hvq, ai, eM⟩
  subst eL
  subst vq
  try dsimp only at hM
  replace H := H.bk ai
  clear ai
  refine t_bs (α := Int) T23 [I 2] [(2 : Int)] H rfl (.cons rfl (Flat.rep_enc _ (2 : Int)) <| .nil) rfl rfl rfl ?_
  intro eN ii H
  refine t_bs (α := Int) T23 [I 240] [(240 : Int)] H rfl (.cons rfl (Flat.rep_enc _ (240 : Int)) <| .nil) rfl rfl rfl ?_
  intro eO ij H
  obtain ⟨ik, eP, hM⟩ := M.e_bind hM
  refine s_call cf12 [.agg #[bN, bO, bP, bQ, I aX, I aY, bR], eN, eO] rfl (zaW bI bJ bK bL aX aY bM ([(2 : Int)]) ([(240 : Int)]) (rdo 2) (H.os 2) (rdo 3) (H.os 3) (rdo 4) (H.os 4) (rdo 5) (H.os 5) (Reads.sup (rdo 6) (Reads.of (k := 7) rfl roLe)) (rowSl rfl (H.get (k := 6) rfl) (roLe _ (H.get (k := 7) rfl)) eM) (rdo 1) (H.os 1) (rdo 0) (H.os 0) eP _ (H.gt 12)) ?_
  rintro vq il ⟨eQ, bS, ac, aJ, aF, eR, hvq, ai⟩
  subst eR
  subst vq
  try dsimp only at hM
  replace H := H.bk ai
  clear ai
  refine zM (.tuple #[aJ, aF, I ac]) rfl ?_
  refine zX [aJ, aF, I ac] aJ rfl rfl ?_
  refine zX [aJ, aF, I ac] aF rfl rfl ?_
  refine zX [aJ, aF, I ac] (I ac) rfl rfl ?_
  refine zA aJ rfl ?_
  refine zA aF rfl ?_
  refine zA (I ac) rfl ?_
  refine s_nil ?_
  replace H := H.pk [1, 10, 11, 12, 13]
  refine W.seq ?_
  refine W.region rfl ?_
  obtain ⟨im, eS, hM⟩ := M.e_bind hM
  refine s_call cf42 [I 1] rfl (zaf 1 eS _ (H.gt 5)) ?_
  rintro vq io ⟨bT, bU, bV, bW, aZ, a8, bX, bY, bZ, b4, b5, b6, eT, eU, eV, hvq, ai, eW⟩
  subst eV
  subst vq
  try dsimp only at hM
  replace H := H.bk ai
  clear ai
  refine t_bs (α := Int) T23 [I 2] [(2 : Int)] H rfl (.cons rfl (Flat.rep_enc _ (2 : Int)) <| .nil) rfl rfl rfl ?_
  intro eX ip H
  refine t_bs (α := Int) T23 [I 251] [(251 : Int)] H rfl (.cons rfl (Flat.rep_enc _ (251 : Int)) <| .nil) rfl rfl rfl ?_
  intro eY iq H
  obtain ⟨ir, eZ, hM⟩ := M.e_bind hM
  refine s_call cf12 [.agg #[bY, bZ, b4, b5, I aZ, I a8, b6], eX, eY] rfl (zaW bT bU bV bW aZ a8 bX ([(2 : Int)]) ([(251 : Int)]) (rdo 2) (H.os 2) (rdo 3) (H.os 3) (rdo 4) (H.os 4) (rdo 5) (H.os 5) (Reads.sup (rdo 6) (Reads.of (k := 7) rfl roLe)) (rowSl rfl (H.get (k := 6) rfl) (roLe _ (H.get (k := 7) rfl)) eW) (rdo 1) (H.os 1) (rdo 0) (H.os 0) eZ _ (H.gt 13)) ?_
  rintro vq iu ⟨b7, e7, ae, aG, aK, e9, hvq, ai⟩
  subst e9
  subst vq
  try dsimp only at hM
  replace H := H.bk ai
  clear ai
  refine zM (.tuple #[aG, aK, I ae]) rfl ?_
  refine zX [aG, aK, I ae] aG rfl rfl ?_
  refine zX [aG, aK, I ae] aK rfl rfl ?_
  refine zX [aG, aK, I ae] (I ae) rfl rfl ?_
  refine zA aG rfl ?_
  refine zA aK rfl ?_
  refine zA (I ae) rfl ?_
  refine s_nil ?_
  replace H := H.pk [0, 10, 11, 12, 13, 14]
  refine W.seq ?_
  refine W.region rfl ?_
  refine zM (I aa) rfl ?_
  refine zC aa 0 (aa == 0) rfl rfl rfl ?_
  refine zM (B (aa == 0)) rfl ?_
  refine g_val (aa == 0) (gy_t rfl) (fun hg => x_mv (v := I ab) rfl) ?_
  refine g_val (aa == 0) (gy_t rfl) (fun hg => x_cmp (kd := .i64) (a := ab) (b := 0) (r := ab == 0) (gd_of (c := aa == 0) hg (I ab)) rfl rfl) ?_
  refine s_val (x_pand (b := aa == 0) (r := ab == 0) rfl (fun hb => gd_of (c := aa == 0) (by first | exact hb | (rw [hb]; rfl) | simp_all) (B (ab == 0))) rfl) ?_
  refine zM (B ((aa == 0) && (ab == 0))) rfl ?_
  refine g_val ((aa == 0) && (ab == 0)) (gy_t rfl) (fun hg => x_mv (v := I ac) rfl) ?_
  refine g_val ((aa == 0) && (ab == 0)) (gy_t rfl) (fun hg => x_cmp (kd := .i64) (a := ac) (b := 0) (r := ac == 0) (gd_of (c := ((aa == 0) && (ab == 0))) hg (I ac)) rfl rfl) ?_
  refine s_val (x_pand (b := ((aa == 0) && (ab == 0))) (r := ac == 0) rfl (fun hb => gd_of (c := ((aa == 0) && (ab == 0))) (by first | exact hb | (rw [hb]; rfl) | simp_all) (B (ac == 0))) rfl) ?_
  refine zM (B (((aa == 0) && (ab == 0)) && (ac == 0))) rfl ?_
  refine g_val (((aa == 0) && (ab == 0)) && (ac == 0)) (gy_t rfl) (fun hg => x_mv (v := I ae) rfl) ?_
  refine g_val (((aa == 0) && (ab == 0)) && (ac == 0)) (gy_t rfl) (fun hg => x_cmp (kd := .i64) (a := ae) (b := 0) (r := ae == 0) (gd_of (c := (((aa == 0) && (ab == 0)) && (ac == 0))) hg (I ae)) rfl rfl) ?_
  refine s_val (x_pand (b := (((aa == 0) && (ab == 0)) && (ac == 0))) (r := ae == 0) rfl (fun hb => gd_of (c := (((aa == 0) && (ab == 0)) && (ac == 0))) (by first | exact hb | (rw [hb]; rfl) | simp_all) (B (ae == 0))) rfl) ?_
  refine zM (B ((((aa == 0) && (ab == 0)) && (ac == 0)) && (ae == 0))) rfl ?_
  refine g_val ((((aa == 0) && (ab == 0)) && (ac == 0)) && (ae == 0)) (gy_t rfl) (fun hg => x_mv (v := aD) rfl) ?_
  refine t_gbs (α := Int) T23 ((((aa == 0) && (ab == 0)) && (ac == 0)) && (ae == 0)) (gy_t rfl) [I 250] [(250 : Int)] H (fun _ => rfl) (.cons rfl (Flat.rep_enc _ (250 : Int)) <| .nil) rfl rfl rfl ?_
  intro cq fa iw H fb
  obtain ⟨r9, fd, hM⟩ := M.e_bind hM
  refine t_gcall ((((aa == 0) && (ab == 0)) && (ac == 0)) && (ae == 0)) (gy_t rfl) cf18 (B r9) (fun _ => [aD, cq]) (fun hg => lst2 (gd_of (c := ((((aa == 0) && (ab == 0)) && (ac == 0)) && (ae == 0))) hg (aD)) (gd_of (c := ((((aa == 0) && (ab == 0)) && (ac == 0)) && (ae == 0))) hg (cq))) H (fun hg => (zam bv ([(250 : Int)]) (rdo 5) (H.os 5) (Reads.of (k := 0) rfl roLe) (fb hg) (M.e_opt fd hg) _ (H.give (A := []) rfl)).mono fun v_ w_ ⟨y_, ay, aC, H_⟩ => by subst ay; exact ⟨aC, H.via H_⟩) ?_
  intro iy H
  refine s_val (x_pand (b := ((((aa == 0) && (ab == 0)) && (ac == 0)) && (ae == 0))) (r := r9) rfl (fun hb => gd_of (c := ((((aa == 0) && (ab == 0)) && (ac == 0)) && (ae == 0))) (by first | exact hb | (rw [hb]; rfl) | simp_all) (B r9)) rfl) ?_
  refine zM (B (((((aa == 0) && (ab == 0)) && (ac == 0)) && (ae == 0)) && r9)) rfl ?_
  refine g_val (((((aa == 0) && (ab == 0)) && (ac == 0)) && (ae == 0)) && r9) (gy_t rfl) (fun hg => x_mv (v := aE) rfl) ?_
  refine t_gbs (α := Int) T23 (((((aa == 0) && (ab == 0)) && (ac == 0)) && (ae == 0)) && r9) (gy_t rfl) [I 0] [(0 : Int)] H (fun _ => rfl) (.cons rfl (Flat.rep_enc _ (0 : Int)) <| .nil) rfl rfl rfl ?_
  intro ct fe iz H ff
  obtain ⟨am, fg, hM⟩ := M.e_bind hM
  refine t_gcall (((((aa == 0) && (ab == 0)) && (ac == 0)) && (ae == 0)) && r9) (gy_t rfl) cf18 (B am) (fun _ => [aE, ct]) (fun hg => lst2 (gd_of (c := (((((aa == 0) && (ab == 0)) && (ac == 0)) && (ae == 0)) && r9)) hg (aE)) (gd_of (c := (((((aa == 0) && (ab == 0)) && (ac == 0)) && (ae == 0)) && r9)) hg (ct))) H (fun hg => (zam bw ([(0 : Int)]) (rdo 7) (H.os 7) (Reads.of (k := 0) rfl roLe) (ff hg) (M.e_opt fg hg) _ (H.give (A := []) rfl)).mono fun v_ w_ ⟨y_, ay, aC, H_⟩ => by subst ay; exact ⟨aC, H.via H_⟩) ?_
  intro iA H
  refine s_val (x_pand (b := (((((aa == 0) && (ab == 0)) && (ac == 0)) && (ae == 0)) && r9)) (r := am) rfl (fun hb => gd_of (c := (((((aa == 0) && (ab == 0)) && (ac == 0)) && (ae == 0)) && r9)) (by first | exact hb | (rw [hb]; rfl) | simp_all) (B am)) rfl) ?_
  refine zM (B ((((((aa == 0) && (ab == 0)) && (ac == 0)) && (ae == 0)) && r9) && am)) rfl ?_
  refine g_val ((((((aa == 0) && (ab == 0)) && (ac == 0)) && (ae == 0)) && r9) && am) (gy_t rfl) (fun hg => x_mv (v := aH) rfl) ?_
  refine g_val ((((((aa == 0) && (ab == 0)) && (ac == 0)) && (ae == 0)) && r9) && am) (gy_t rfl) (fun hg => x_lenS T23.und (gd_of (c := ((((((aa == 0) && (ab == 0)) && (ac == 0)) && (ae == 0)) && r9) && am)) hg (aH)) (H.os 4)) ?_
  refine g_val ((((((aa == 0) && (ab == 0)) && (ac == 0)) && (ae == 0)) && r9) && am) (gy_t rfl) (fun hg => x_mv (v := aI) rfl) ?_
  refine g_val ((((((aa == 0) && (ab == 0)) && (ac == 0)) && (ae == 0)) && r9) && am) (gy_t rfl) (fun hg => x_lenS T23.und (gd_of (c := ((((((aa == 0) && (ab == 0)) && (ac == 0)) && (ae == 0)) && r9) && am)) hg (aI)) (H.os 5)) ?_
  obtain ⟨bc, hM⟩ := M.e_grd hM
  replace bc := M.imp_of bc
  simp only [Bool.and_eq_true, decide_eq_true_eq] at bc
  refine g_val ((((((aa == 0) && (ab == 0)) && (ac == 0)) && (ae == 0)) && r9) && am) (gy_t rfl) (fun hg => x_ari (a := (au.length : Int)) (b := (av.length : Int)) (r := (au.length : Int) + (av.length : Int)) (gd_of (c := ((((((aa == 0) && (ab == 0)) && (ac == 0)) && (ae == 0)) && r9) && am)) hg (I (au.length : Int))) (gd_of (c := ((((((aa == 0) && (ab == 0)) && (ac == 0)) && (ae == 0)) && r9) && am)) hg (I (av.length : Int))) rfl (by have aQ := bc.resolve_left (by rw [hg]; decide); first | exact aQ | exact aQ.1 | exact aQ.2 | omega | (have aR := hg; simp at aR; omega))) ?_
  refine g_val ((((((aa == 0) && (ab == 0)) && (ac == 0)) && (ae == 0)) && r9) && am) (gy_t rfl) (fun hg => x_cmp (kd := .i64) (a := (au.length : Int) + (av.length : Int)) (b := 0) (r := ((au.length : Int) + (av.length : Int)) == 0) (gd_of (c := ((((((aa == 0) && (ab == 0)) && (ac == 0)) && (ae == 0)) && r9) && am)) hg (I ((au.length : Int) + (av.length : Int)))) rfl rfl) ?_
  refine s_val (x_pand (b := ((((((aa == 0) && (ab == 0)) && (ac == 0)) && (ae == 0)) && r9) && am)) (r := ((au.length : Int) + (av.length : Int)) == 0) rfl (fun hb => gd_of (c := ((((((aa == 0) && (ab == 0)) && (ac == 0)) && (ae == 0)) && r9) && am)) (by first | exact hb | (rw [hb]; rfl) | simp_all) (B (((au.length : Int) + (av.length : Int)) == 0))) rfl) ?_
  refine zM (B (((((((aa == 0) && (ab == 0)) && (ac == 0)) && (ae == 0)) && r9) && am) && (((au.length : Int) + (av.length : Int)) == 0))) rfl ?_
  refine g_val (((((((aa == 0) && (ab == 0)) && (ac == 0)) && (ae == 0)) && r9) && am) && (((au.length : Int) + (av.length : Int)) == 0)) (gy_t rfl) (fun hg => x_mv (v := aF) rfl) ?_
  refine t_gbs (α := Int) T23 (((((((aa == 0) && (ab == 0)) && (ac == 0)) && (ae == 0)) && r9) && am) && (((au.length : Int) + (av.length : Int)) == 0)) (gy_t rfl) [I 1] [(1 : Int)] H (fun _ => rfl) (.cons rfl (Flat.rep_enc _ (1 : Int)) <| .nil) rfl rfl rfl ?_
  intro cu fh iB H fi
  obtain ⟨az, fj, hM⟩ := M.e_bind hM
  refine t_gcall (((((((aa == 0) && (ab == 0)) && (ac == 0)) && (ae == 0)) && r9) && am) && (((au.length : Int) + (av.length : Int)) == 0)) (gy_t rfl) cf18 (B az) (fun _ => [aF, cu]) (fun hg => lst2 (gd_of (c := (((((((aa == 0) && (ab == 0)) && (ac == 0)) && (ae == 0)) && r9) && am) && (((au.length : Int) + (av.length : Int)) == 0))) hg (aF)) (gd_of (c := (((((((aa == 0) && (ab == 0)) && (ac == 0)) && (ae == 0)) && r9) && am) && (((au.length : Int) + (av.length : Int)) == 0))) hg (cu))) H (fun hg => (zam bS ([(1 : Int)]) (rdo 4) (H.os 4) (Reads.of (k := 0) rfl roLe) (fi hg) (M.e_opt fj hg) _ (H.give (A := []) rfl)).mono fun v_ w_ ⟨y_, ay, aC, H_⟩ => by subst ay; exact ⟨aC, H.via H_⟩) ?_
  intro iC H
  refine s_val (x_pand (b := (((((((aa == 0) && (ab == 0)) && (ac == 0)) && (ae == 0)) && r9) && am) && (((au.length : Int) + (av.length : Int)) == 0))) (r := az) rfl (fun hb => gd_of (c := (((((((aa == 0) && (ab == 0)) && (ac == 0)) && (ae == 0)) && r9) && am) && (((au.length : Int) + (av.length : Int)) == 0))) (by first | exact hb | (rw [hb]; rfl) | simp_all) (B az)) rfl) ?_
  refine zM (B ((((((((aa == 0) && (ab == 0)) && (ac == 0)) && (ae == 0)) && r9) && am) && (((au.length : Int) + (av.length : Int)) == 0)) && az)) rfl ?_
  refine g_val ((((((((aa == 0) && (ab == 0)) && (ac == 0)) && (ae == 0)) && r9) && am) && (((au.length : Int) + (av.length : Int)) == 0)) && az) (gy_t rfl) (fun hg => x_mv (v := aG) rfl) ?_
  refine t_gbs (α := Int) T23 ((((((((aa == 0) && (ab == 0)) && (ac == 0)) && (ae == 0)) && r9) && am) && (((au.length : Int) + (av.length : Int)) == 0)) && az) (gy_t rfl) [I 0] [(0 : Int)] H (fun _ => rfl) (.cons rfl (Flat.rep_enc _ (0 : Int)) <| .nil) rfl rfl rfl ?_
  intro cw fk iD H fm
  obtain ⟨aL, fo, hM⟩ := M.e_bind hM
  refine t_gcall ((((((((aa == 0) && (ab == 0)) && (ac == 0)) && (ae == 0)) && r9) && am) && (((au.length : Int) + (av.length : Int)) == 0)) && az) (gy_t rfl) cf18 (B aL) (fun _ => [aG, cw]) (fun hg => lst2 (gd_of (c := ((((((((aa == 0) && (ab == 0)) && (ac == 0)) && (ae == 0)) && r9) && am) && (((au.length : Int) + (av.length : Int)) == 0)) && az)) hg (aG)) (gd_of (c := ((((((((aa == 0) && (ab == 0)) && (ac == 0)) && (ae == 0)) && r9) && am) && (((au.length : Int) + (av.length : Int)) == 0)) && az)) hg (cw))) H (fun hg => (zam b7 ([(0 : Int)]) (rdo 4) (H.os 4) (Reads.of (k := 0) rfl roLe) (fm hg) (M.e_opt fo hg) _ (H.give (A := []) rfl)).mono fun v_ w_ ⟨y_, ay, aC, H_⟩ => by subst ay; exact ⟨aC, H.via H_⟩) ?_
  intro iE H
  refine s_val (x_pand (b := ((((((((aa == 0) && (ab == 0)) && (ac == 0)) && (ae == 0)) && r9) && am) && (((au.length : Int) + (av.length : Int)) == 0)) && az)) (r := aL) rfl (fun hb => gd_of (c := ((((((((aa == 0) && (ab == 0)) && (ac == 0)) && (ae == 0)) && r9) && am) && (((au.length : Int) + (av.length : Int)) == 0)) && az)) (by first | exact hb | (rw [hb]; rfl) | simp_all) (B aL)) rfl) ?_
  refine zA (B (((((((((aa == 0) && (ab == 0)) && (ac == 0)) && (ae == 0)) && r9) && am) && (((au.length : Int) + (av.length : Int)) == 0)) && az) && aL)) rfl ?_
  refine s_nil ?_
  replace H := H.pk []
  refine W.ret ?_
  have ay := M.e_pure hM
  exact ⟨_, resE_tmp rfl, ⟨(((((((((aa == 0) && (ab == 0)) && (ac == 0)) && (ae == 0)) && r9) && am) && (((au.length : Int) + (av.length : Int)) == 0)) && az) && aL), ay, rfl, H⟩⟩
 replace hM := M.e_f hM bg
 refine s_nil ⟨(H.pk [2, 3, 4, 5, 6]), ?_⟩
 refine d_qg (!((((((((((ah != 0) || (aj != 0)) || (ak != 6)) || (al != 0)) || (ao != 0)) || (aq != 0)) || (!r7)) || (decide (0 < (aw.length : Int)))) || ((ax.length : Int) != 2)) || (!r8))) rfl (gy_f rfl) (fun hg => (fun w' H => x_neS (eqT27 (⟨(aA : Int), (aB : Int)⟩ : Span) (⟨(0 : Int), (0 : Int)⟩ : Span) _) gdT27 (gd_of (c := !((((((((((ah != 0) || (aj != 0)) || (ak != 6)) || (al != 0)) || (ao != 0)) || (aq != 0)) || (!r7)) || (decide (0 < (aw.length : Int)))) || ((ax.length : Int) != 2)) || (!r8))) hg (.agg #[I aA, I aB])) (gd_of (c := !((((((((((ah != 0) || (aj != 0)) || (ak != 6)) || (al != 0)) || (ao != 0)) || (aq != 0)) || (!r7)) || (decide (0 < (aw.length : Int)))) || ((ax.length : Int) != 2)) || (!r8))) hg (.agg #[I 0, I 0])))) ?_
 refine d_q rfl (fun w' H => x_por (b := ((((((((((ah != 0) || (aj != 0)) || (ak != 6)) || (al != 0)) || (ao != 0)) || (aq != 0)) || (!r7)) || (decide (0 < (aw.length : Int)))) || ((ax.length : Int) != 2)) || (!r8))) (r := !(decide ((⟨(aA : Int), (aB : Int)⟩ : Span) = (⟨(0 : Int), (0 : Int)⟩ : Span)))) rfl rfl (fun hb => gd_of (c := !((((((((((ah != 0) || (aj != 0)) || (ak != 6)) || (al != 0)) || (ao != 0)) || (aq != 0)) || (!r7)) || (decide (0 < (aw.length : Int)))) || ((ax.length : Int) != 2)) || (!r8))) (by first | exact hb | (rw [hb]; rfl) | simp_all) (B (!(decide ((⟨(aA : Int), (aB : Int)⟩ : Span) = (⟨(0 : Int), (0 : Int)⟩ : Span))))))) ?_
 refine d_nil ?_
 replace H := H.pk []
 refine W.cond (((((((((((ah != 0) || (aj != 0)) || (ak != 6)) || (al != 0)) || (ao != 0)) || (aq != 0)) || (!r7)) || (decide (0 < (aw.length : Int)))) || ((ax.length : Int) != 2)) || (!r8)) || (!(decide ((⟨(aA : Int), (aB : Int)⟩ : Span) = (⟨(0 : Int), (0 : Int)⟩ : Span))))) rfl (fun b8 => ?_) (fun b8 => ?_)
 ·replace hM := M.e_t hM b8
  refine W.seq ?_
  refine W.region rfl ?_
  refine zA (B false) rfl ?_
  refine s_nil ?_
  refine W.ret ?_
  have ay := M.e_pure hM
  exact ⟨_, resE_tmp rfl, ⟨false, ay, rfl, H⟩⟩
 replace hM := M.e_f hM b8
 refine W.skip ?_
 refine W.seq ?_
 refine W.region rfl ?_
 obtain ⟨iF, fp, hM⟩ := M.e_bind hM
 refine s_call cf42 [I 1] rfl (zaf 1 fp _ (H.gt 0)) ?_
 rintro vq iG ⟨bi, bj, bm, bn, aT, aU, bo, bp, bq, br, bt, bu, en, eo, fq, hvq, ai, fu⟩
 subst fq
 subst vq
 try dsimp only at hM
 replace H := H.bk ai
 clear ai
 refine t_bs (α := Int) T23 [I 2] [(2 : Int)] H rfl (.cons rfl (Flat.rep_enc _ (2 : Int)) <| .nil) rfl rfl rfl ?_
 intro fv iH H
 obtain ⟨iI, fw, hM⟩ := M.e_bind hM
 refine s_call cf11 [.agg #[bp, bq, br, bt, I aT, I aU, bu], fv] rfl (zc5 bi bj bm bn aT aU bo ([(2 : Int)]) (rdo 1) (H.os 1) (rdo 2) (H.os 2) (rdo 3) (H.os 3) (rdo 4) (H.os 4) (Reads.sup (rdo 5) (Reads.of (k := 6) rfl roLe)) (rowSl rfl (H.get (k := 5) rfl) (roLe _ (H.get (k := 6) rfl)) fu) (rdo 0) (H.os 0) fw _ (H.gt 7)) ?_
 rintro vq iJ ⟨bv, bw, aa, aD, aE, fx, hvq, ai⟩
 subst fx
 subst vq
 try dsimp only at hM
 replace H := H.bk ai
 clear ai
 refine zM (.tuple #[aD, aE, I aa]) rfl ?_
 refine zX [aD, aE, I aa] aD rfl rfl ?_
 refine zX [aD, aE, I aa] aE rfl rfl ?_
 refine zX [aD, aE, I aa] (I aa) rfl rfl ?_
 refine zA aD rfl ?_
 refine zA aE rfl ?_
 refine zA (I aa) rfl ?_
 refine s_nil ?_
 replace H := H.pk [0, 1]
 refine W.seq ?_
 refine W.region rfl ?_
 obtain ⟨iK, fy, hM⟩ := M.e_bind hM
 refine s_call cf42 [I 1] rfl (zaf 1 fy _ (H.gt 2)) ?_
 rintro vq iL ⟨bx, bz, bA, bB, aV, aW, bC, bD, bE, bF, bG, bH, eA, eB, fA, hvq, ai, fB⟩
 subst fA
 subst vq
 try dsimp only at hM
 replace H := H.bk ai
 clear ai
 refine t_bs (α := Int) T23 [I 2] [(2 : Int)] H rfl (.cons rfl (Flat.rep_enc _ (2 : Int)) <| .nil) rfl rfl rfl ?_
 intro fC iM H
 refine t_bs (α := Int) T23 [I 250] [(250 : Int)] H rfl (.cons rfl (Flat.rep_enc _ (250 : Int)) <| .nil) rfl rfl rfl ?_
 intro fD iN H
 obtain ⟨iO, fE, hM⟩ := M.e_bind hM
 refine s_call cf12 [.agg #[bD, bE, bF, bG, I aV, I aW, bH], fC, fD] rfl (zaW bx bz bA bB aV aW bC ([(2 : Int)]) ([(250 : Int)]) (rdo 2) (H.os 2) (rdo 3) (H.os 3) (rdo 4) (H.os 4) (rdo 5) (H.os 5) (Reads.sup (rdo 6) (Reads.of (k := 7) rfl roLe)) (rowSl rfl (H.get (k := 6) rfl) (roLe _ (H.get (k := 7) rfl)) fB) (rdo 1) (H.os 1) (rdo 0) (H.os 0) fE _ (H.gt 10)) ?_
 rintro vq iP ⟨au, av, ab, aH, aI, fF, hvq, ai⟩
 subst fF
 subst vq
 try dsimp only at hM
 replace H := H.bk ai
 clear ai
 refine zM (.tuple #[aH, aI, I ab]) rfl ?_
 refine zX [aH, aI, I ab] aH rfl rfl ?_
 refine zX [aH, aI, I ab] aI rfl rfl ?_
 refine zX [aH, aI, I ab] (I ab) rfl rfl ?_
 refine zA aH rfl ?_
 refine zA aI rfl ?_
 refine zA (I ab) rfl ?_
 refine s_nil ?_
 replace H := H.pk [0, 1, 10, 11]
 refine W.seq ?_
 refine W.region rfl ?_
 obtain ⟨iQ, fG, hM⟩ := M.e_bind hM
 refine s_call cf42 [I 1] rfl (zaf 1 fG _ (H.gt 4)) ?_
 rintro vq iR ⟨bI, bJ, bK, bL, aX, aY, bM, bN, bO, bP, bQ, bR, eJ, eK, fH, hvq, ai, fI⟩
 subst fH
 subst vq
 try dsimp only at hM
 replace H := H.bk ai
 clear ai
 refine t_bs (α := Int) T23 [I 2] [(2 : Int)] H rfl (.cons rfl (Flat.rep_enc _ (2 : Int)) <| .nil) rfl rfl rfl ?_
 intro fJ iS H
 refine t_bs (α := Int) T23 [I 240] [(240 : Int)] H rfl (.cons rfl (Flat.rep_enc _ (240 : Int)) <| .nil) rfl rfl rfl ?_
 intro fK iT H
 obtain ⟨iU, fL, hM⟩ := M.e_bind hM
 refine s_call cf12 [.agg #[bN, bO, bP, bQ, I aX, I aY, bR], fJ, fK] rfl (zaW bI bJ bK bL aX aY bM ([(2 : Int)]) ([(240 : Int)]) (rdo 2) (H.os 2) (rdo 3) (H.os 3) (rdo 4) (H.os 4) (rdo 5) (H.os 5) (Reads.sup (rdo 6) (Reads.of (k := 7) rfl roLe)) (rowSl rfl (H.get (k := 6) rfl) (roLe _ (H.get (k := 7) rfl)) fI) (rdo 1) (H.os 1) (rdo 0) (H.os 0) fL _ (H.gt 12)) ?_
 rintro vq iV ⟨eQ, bS, ac, aJ, aF, fM, hvq, ai⟩
 subst fM
 subst vq
 try dsimp only at hM
 replace H := H.bk ai
 clear ai
 refine zM (.tuple #[aJ, aF, I ac]) rfl ?_
 refine zX [aJ, aF, I ac] aJ rfl rfl ?_
 refine zX [aJ, aF, I ac] aF rfl rfl ?_
 refine zX [aJ, aF, I ac] (I ac) rfl rfl ?_
 refine zA aJ rfl ?_
 refine zA aF rfl ?_
 refine zA (I ac) rfl ?_
 refine s_nil ?_
 replace H := H.pk [1, 10, 11, 12, 13]
 refine W.seq ?_
 refine W.region rfl ?_
 obtain ⟨iW, fN, hM⟩ := M.e_bind hM
 refine s_call cf42 [I 1] rfl (zaf 1 fN _ (H.gt 5)) ?_
 rintro vq iX ⟨bT, bU, bV, bW, aZ, a8, bX, bY, bZ, b4, b5, b6, eT, eU, fO, hvq, ai, fP⟩
 subst fO
 subst vq
 try dsimp only at hM
 replace H := H.bk ai
 clear ai
 refine t_bs (α := Int) T23 [I 2] [(2 : Int)] H rfl (.cons rfl (Flat.rep_enc _ (2 : Int)) <| .nil) rfl rfl rfl ?_
 intro fQ iY H
 refine t_bs (α := Int) T23 [I 251] [(251 : Int)] H rfl (.cons rfl (Flat.rep_enc _ (251 : Int)) <| .nil) rfl rfl rfl ?_
 intro fR iZ H
 obtain ⟨i5, fS, hM⟩ := M.e_bind hM
 refine s_call cf12 [.agg #[bY, bZ, b4, b5, I aZ, I a8, b6], fQ, fR] rfl (zaW bT bU bV bW aZ a8 bX ([(2 : Int)]) ([(251 : Int)]) (rdo 2) (H.os 2) (rdo 3) (H.os 3) (rdo 4) (H.os 4) (rdo 5) (H.os 5) (Reads.sup (rdo 6) (Reads.of (k := 7) rfl roLe)) (rowSl rfl (H.get (k := 6) rfl) (roLe _ (H.get (k := 7) rfl)) fP) (rdo 1) (H.os 1) (rdo 0) (H.os 0) fS _ (H.gt 13)) ?_
 rintro vq i6 ⟨b7, e7, ae, aG, aK, fT, hvq, ai⟩
 subst fT
 subst vq
 try dsimp only at hM
 replace H := H.bk ai
 clear ai
 refine zM (.tuple #[aG, aK, I ae]) rfl ?_
 refine zX [aG, aK, I ae] aG rfl rfl ?_
 refine zX [aG, aK, I ae] aK rfl rfl ?_
 refine zX [aG, aK, I ae] (I ae) rfl rfl ?_
 refine zA aG rfl ?_
 refine zA aK rfl ?_
 refine zA (I ae) rfl ?_
 refine s_nil ?_
 replace H := H.pk [0, 10, 11, 12, 13, 14]
 refine W.seq ?_
 refine W.region rfl ?_
 refine zM (I aa) rfl ?_
 refine zC aa 0 (aa == 0) rfl rfl rfl ?_
 refine zM (B (aa == 0)) rfl ?_
 refine g_val (aa == 0) (gy_t rfl) (fun hg => x_mv (v := I ab) rfl) ?_
 refine g_val (aa == 0) (gy_t rfl) (fun hg => x_cmp (kd := .i64) (a := ab) (b := 0) (r := ab == 0) (gd_of (c := aa == 0) hg (I ab)) rfl rfl) ?_
 refine s_val (x_pand (b := aa == 0) (r := ab == 0) rfl (fun hb => gd_of (c := aa == 0) (by first | exact hb | (rw [hb]; rfl) | simp_all) (B (ab == 0))) rfl) ?_
 refine zM (B ((aa == 0) && (ab == 0))) rfl ?_
 refine g_val ((aa == 0) && (ab == 0)) (gy_t rfl) (fun hg => x_mv (v := I ac) rfl) ?_
 refine g_val ((aa == 0) && (ab == 0)) (gy_t rfl) (fun hg => x_cmp (kd := .i64) (a := ac) (b := 0) (r := ac == 0) (gd_of (c := ((aa == 0) && (ab == 0))) hg (I ac)) rfl rfl) ?_
 refine s_val (x_pand (b := ((aa == 0) && (ab == 0))) (r := ac == 0) rfl (fun hb => gd_of (c := ((aa == 0) && (ab == 0))) (by first | exact hb | (rw [hb]; rfl) | simp_all) (B (ac == 0))) rfl) ?_
 refine zM (B (((aa == 0) && (ab == 0)) && (ac == 0))) rfl ?_
 refine g_val (((aa == 0) && (ab == 0)) && (ac == 0)) (gy_t rfl) (fun hg => x_mv (v := I ae) rfl) ?_
 refine g_val (((aa == 0) && (ab == 0)) && (ac == 0)) (gy_t rfl) (fun hg => x_cmp (kd := .i64) (a := ae) (b := 0) (r := ae == 0) (gd_of (c := (((aa == 0) && (ab == 0)) && (ac == 0))) hg (I ae)) rfl rfl) ?_
 refine s_val (x_pand (b := (((aa == 0) && (ab == 0)) && (ac == 0))) (r := ae == 0) rfl (fun hb => gd_of (c := (((aa == 0) && (ab == 0)) && (ac == 0))) (by first | exact hb | (rw [hb]; rfl) | simp_all) (B (ae == 0))) rfl) ?_
 refine zM (B ((((aa == 0) && (ab == 0)) && (ac == 0)) && (ae == 0))) rfl ?_
 refine g_val ((((aa == 0) && (ab == 0)) && (ac == 0)) && (ae == 0)) (gy_t rfl) (fun hg => x_mv (v := aD) rfl) ?_
 refine t_gbs (α := Int) T23 ((((aa == 0) && (ab == 0)) && (ac == 0)) && (ae == 0)) (gy_t rfl) [I 250] [(250 : Int)] H (fun _ => rfl) (.cons rfl (Flat.rep_enc _ (250 : Int)) <| .nil) rfl rfl rfl ?_
 intro cx fa i7 H fU
 obtain ⟨r9, fV, hM⟩ := M.e_bind hM
 refine t_gcall ((((aa == 0) && (ab == 0)) && (ac == 0)) && (ae == 0)) (gy_t rfl) cf18 (B r9) (fun _ => [aD, cx]) (fun hg => lst2 (gd_of (c := ((((aa == 0) && (ab == 0)) && (ac == 0)) && (ae == 0))) hg (aD)) (gd_of (c := ((((aa == 0) && (ab == 0)) && (ac == 0)) && (ae == 0))) hg (cx))) H (fun hg => (zam bv ([(250 : Int)]) (rdo 5) (H.os 5) (Reads.of (k := 0) rfl roLe) (fU hg) (M.e_opt fV hg) _ (H.give (A := []) rfl)).mono fun v_ w_ ⟨y_, ay, aC, H_⟩ => by subst ay; exact ⟨aC, H.via H_⟩) ?_
 intro i8 H
 refine s_val (x_pand (b := ((((aa == 0) && (ab == 0)) && (ac == 0)) && (ae == 0))) (r := r9) rfl (fun hb => gd_of (c := ((((aa == 0) && (ab == 0)) && (ac == 0)) && (ae == 0))) (by first | exact hb | (rw [hb]; rfl) | simp_all) (B r9)) rfl) ?_
 refine zM (B (((((aa == 0) && (ab == 0)) && (ac == 0)) && (ae == 0)) && r9)) rfl ?_
 refine g_val (((((aa == 0) && (ab == 0)) && (ac == 0)) && (ae == 0)) && r9) (gy_t rfl) (fun hg => x_mv (v := aE) rfl) ?_
 refine t_gbs (α := Int) T23 (((((aa == 0) && (ab == 0)) && (ac == 0)) && (ae == 0)) && r9) (gy_t rfl) [I 0] [(0 : Int)] H (fun _ => rfl) (.cons rfl (Flat.rep_enc _ (0 : Int)) <| .nil) rfl rfl rfl ?_
 intro cy fe i9 H fW
 obtain ⟨am, fX, hM⟩ := M.e_bind hM
 refine t_gcall (((((aa == 0) && (ab == 0)) && (ac == 0)) && (ae == 0)) && r9) (gy_t rfl) cf18 (B am) (fun _ => [aE, cy]) (fun hg => lst2 (gd_of (c := (((((aa == 0) && (ab == 0)) && (ac == 0)) && (ae == 0)) && r9)) hg (aE)) (gd_of (c := (((((aa == 0) && (ab == 0)) && (ac == 0)) && (ae == 0)) && r9)) hg (cy))) H (fun hg => (zam bw ([(0 : Int)]) (rdo 7) (H.os 7) (Reads.of (k := 0) rfl roLe) (fW hg) (M.e_opt fX hg) _ (H.give (A := []) rfl)).mono fun v_ w_ ⟨y_, ay, aC, H_⟩ => by subst ay; exact ⟨aC, H.via H_⟩) ?_
 intro ja H
 refine s_val (x_pand (b := (((((aa == 0) && (ab == 0)) && (ac == 0)) && (ae == 0)) && r9)) (r := am) rfl (fun hb => gd_of (c := (((((aa == 0) && (ab == 0)) && (ac == 0)) && (ae == 0)) && r9)) (by first | exact hb | (rw [hb]; rfl) | simp_all) (B am)) rfl) ?_
 refine zM (B ((((((aa == 0) && (ab == 0)) && (ac == 0)) && (ae == 0)) && r9) && am)) rfl ?_
 refine g_val ((((((aa == 0) && (ab == 0)) && (ac == 0)) && (ae == 0)) && r9) && am) (gy_t rfl) (fun hg => x_mv (v := aH) rfl) ?_
 refine g_val ((((((aa == 0) && (ab == 0)) && (ac == 0)) && (ae == 0)) && r9) && am) (gy_t rfl) (fun hg => x_lenS T23.und (gd_of (c := ((((((aa == 0) && (ab == 0)) && (ac == 0)) && (ae == 0)) && r9) && am)) hg (aH)) (H.os 4)) ?_
 refine g_val ((((((aa == 0) && (ab == 0)) && (ac == 0)) && (ae == 0)) && r9) && am) (gy_t rfl) (fun hg => x_mv (v := aI) rfl) ?_
 refine g_val ((((((aa == 0) && (ab == 0)) && (ac == 0)) && (ae == 0)) && r9) && am) (gy_t rfl) (fun hg => x_lenS T23.und (gd_of (c := ((((((aa == 0) && (ab == 0)) && (ac == 0)) && (ae == 0)) && r9) && am)) hg (aI)) (H.os 5)) ?_
 obtain ⟨bf, hM⟩ := M.e_grd hM
 replace bf := M.imp_of bf
 simp only [Bool.and_eq_true, decide_eq_true_eq] at bf
 refine g_val ((((((aa == 0) && (ab == 0)) && (ac == 0)) && (ae == 0)) && r9) && am) (gy_t rfl) (fun hg => x_ari (a := (au.length : Int)) (b := (av.length : Int)) (r := (au.length : Int) + (av.length : Int)) (gd_of (c := ((((((aa == 0) && (ab == 0)) && (ac == 0)) && (ae == 0)) && r9) && am)) hg (I (au.length : Int))) (gd_of (c := ((((((aa == 0) && (ab == 0)) && (ac == 0)) && (ae == 0)) && r9) && am)) hg (I (av.length : Int))) rfl (by have aQ := bf.resolve_left (by rw [hg]; decide); first | exact aQ | exact aQ.1 | exact aQ.2 | omega | (have aR := hg; simp at aR; omega))) ?_
 refine g_val ((((((aa == 0) && (ab == 0)) && (ac == 0)) && (ae == 0)) && r9) && am) (gy_t rfl) (fun hg => x_cmp (kd := .i64) (a := (au.length : Int) + (av.length : Int)) (b := 0) (r := ((au.length : Int) + (av.length : Int)) == 0) (gd_of (c := ((((((aa == 0) && (ab == 0)) && (ac == 0)) && (ae == 0)) && r9) && am)) hg (I ((au.length : Int) + (av.length : Int)))) rfl rfl) ?_
 refine s_val (x_pand (b := ((((((aa == 0) && (ab == 0)) && (ac == 0)) && (ae == 0)) && r9) && am)) (r := ((au.length : Int) + (av.length : Int)) == 0) rfl (fun hb => gd_of (c := ((((((aa == 0) && (ab == 0)) && (ac == 0)) && (ae == 0)) && r9) && am)) (by first | exact hb | (rw [hb]; rfl) | simp_all) (B (((au.length : Int) + (av.length : Int)) == 0))) rfl) ?_
 refine zM (B (((((((aa == 0) && (ab == 0)) && (ac == 0)) && (ae == 0)) && r9) && am) && (((au.length : Int) + (av.length : Int)) == 0))) rfl ?_
 refine g_val (((((((aa == 0) && (ab == 0)) && (ac == 0)) && (ae == 0)) && r9) && am) && (((au.length : Int) + (av.length : Int)) == 0)) (gy_t rfl) (fun hg => x_mv (v := aF) rfl) ?_
 refine t_gbs (α := Int) T23 (((((((aa == 0) && (ab == 0)) && (ac == 0)) && (ae == 0)) && r9) && am) && (((au.length : Int) + (av.length : Int)) == 0)) (gy_t rfl) [I 1] [(1 : Int)] H (fun _ => rfl) (.cons rfl (Flat.rep_enc _ (1 : Int)) <| .nil) rfl rfl rfl ?_
 intro cz fh jb H fY
 obtain ⟨az, fZ, hM⟩ := M.e_bind hM
 refine t_gcall (((((((aa == 0) && (ab == 0)) && (ac == 0)) && (ae == 0)) && r9) && am) && (((au.length : Int) + (av.length : Int)) == 0)) (gy_t rfl) cf18 (B az) (fun _ => [aF, cz]) (fun hg => lst2 (gd_of (c := (((((((aa == 0) && (ab == 0)) && (ac == 0)) && (ae == 0)) && r9) && am) && (((au.length : Int) + (av.length : Int)) == 0))) hg (aF)) (gd_of (c := (((((((aa == 0) && (ab == 0)) && (ac == 0)) && (ae == 0)) && r9) && am) && (((au.length : Int) + (av.length : Int)) == 0))) hg (cz))) H (fun hg => (zam bS ([(1 : Int)]) (rdo 4) (H.os 4) (Reads.of (k := 0) rfl roLe) (fY hg) (M.e_opt fZ hg) _ (H.give (A := []) rfl)).mono fun v_ w_ ⟨y_, ay, aC, H_⟩ => by subst ay; exact ⟨aC, H.via H_⟩) ?_
 intro jc H
 refine s_val (x_pand (b := (((((((aa == 0) && (ab == 0)) && (ac == 0)) && (ae == 0)) && r9) && am) && (((au.length : Int) + (av.length : Int)) == 0))) (r := az) rfl (fun hb => gd_of (c := (((((((aa == 0) && (ab == 0)) && (ac == 0)) && (ae == 0)) && r9) && am) && (((au.length : Int) + (av.length : Int)) == 0))) (by first | exact hb | (rw [hb]; rfl) | simp_all) (B az)) rfl) ?_
 refine zM (B ((((((((aa == 0) && (ab == 0)) && (ac == 0)) && (ae == 0)) && r9) && am) && (((au.length : Int) + (av.length : Int)) == 0)) && az)) rfl ?_
 refine g_val ((((((((aa == 0) && (ab == 0)) && (ac == 0)) && (ae == 0)) && r9) && am) && (((au.length : Int) + (av.length : Int)) == 0)) && az) (gy_t rfl) (fun hg => x_mv (v := aG) rfl) ?_
 refine t_gbs (α := Int) T23 ((((((((aa == 0) && (ab == 0)) && (ac == 0)) && (ae == 0)) && r9) && am) && (((au.length : Int) + (av.length : Int)) == 0)) && az) (gy_t rfl) [I 0] [(0 : Int)] H (fun _ => rfl) (.cons rfl (Flat.rep_enc _ (0 : Int)) <| .nil) rfl rfl rfl ?_
 intro cA fk jd H f0
 obtain ⟨aL, f3, hM⟩ := M.e_bind hM
 refine t_gcall ((((((((aa == 0) && (ab == 0)) && (ac == 0)) && (ae == 0)) && r9) && am) && (((au.length : Int) + (av.length : Int)) == 0)) && az) (gy_t rfl) cf18 (B aL) (fun _ => [aG, cA]) (fun hg => lst2 (gd_of (c := ((((((((aa == 0) && (ab == 0)) && (ac == 0)) && (ae == 0)) && r9) && am) && (((au.length : Int) + (av.length : Int)) == 0)) && az)) hg (aG)) (gd_of (c := ((((((((aa == 0) && (ab == 0)) && (ac == 0)) && (ae == 0)) && r9) && am) && (((au.length : Int) + (av.length : Int)) == 0)) && az)) hg (cA))) H (fun hg => (zam b7 ([(0 : Int)]) (rdo 4) (H.os 4) (Reads.of (k := 0) rfl roLe) (f0 hg) (M.e_opt f3 hg) _ (H.give (A := []) rfl)).mono fun v_ w_ ⟨y_, ay, aC, H_⟩ => by subst ay; exact ⟨aC, H.via H_⟩) ?_
 intro je H
 refine s_val (x_pand (b := ((((((((aa == 0) && (ab == 0)) && (ac == 0)) && (ae == 0)) && r9) && am) && (((au.length : Int) + (av.length : Int)) == 0)) && az)) (r := aL) rfl (fun hb => gd_of (c := ((((((((aa == 0) && (ab == 0)) && (ac == 0)) && (ae == 0)) && r9) && am) && (((au.length : Int) + (av.length : Int)) == 0)) && az)) (by first | exact hb | (rw [hb]; rfl) | simp_all) (B aL)) rfl) ?_
 refine zA (B (((((((((aa == 0) && (ab == 0)) && (ac == 0)) && (ae == 0)) && r9) && am) && (((au.length : Int) + (av.length : Int)) == 0)) && az) && aL)) rfl ?_
 refine s_nil ?_
 replace H := H.pk []
 refine W.ret ?_
 have ay := M.e_pure hM
 exact ⟨_, resE_tmp rfl, ⟨(((((((((aa == 0) && (ab == 0)) && (ac == 0)) && (ae == 0)) && r9) && am) && (((au.length : Int) + (av.length : Int)) == 0)) && az) && aL), ay, rfl, H⟩⟩

end Go.Proofs.Ytbaehghammbjdaa
end
namespace Go.Proofs.Ytbaehghammbjdaa
open Go Go.Nm
end Go.Proofs.Ytbaehghammbjdaa
namespace Go.Proofs.Ytbaehghammbjdaa
open Go Go.Nm
variable {dn : List Int} {tr : List Span} {sp : List Int} {tw : List Town} {dl dh : Int} {fl : List Flood} {dp : Dem -> Int} {ok : Dem -> Prop}
theorem G_ok {l : List Dem} (h : ∀ d ∈ l, ok d) {k : Int} (h0 : 0 <= k) (h1 : k < l.length) : ok (G l k) := by
  unfold G
  rw [getD_el l (by omega)]
  exact h _ (List.getElem_mem _)
theorem swap_out {l : List Dem} {a b n : Int} (h0 : 0 <= a) (hn : 0 <= n) (h1 : a + n <= b) (h2 : b + n <= l.length) (h3 : l.length <= 1000) :
    (zaT l a b n dn tr sp tw dl dh fl dn tr sp tw dl dh fl).Out (fun l' => Mv l l' a (b + n) /\ ∀ k, 0 <= k -> G l' k = sx (G l) a b n k) := by
  unfold zaT
  refine M.o_bind (P := fun l' => Mv l l' a (b + n) /\ ∀ k, 0 <= k -> G l' k = sx (G l) a b n k) ?_ (fun y hy => M.o_pure hy)
  refine M.o_for (Int.toNat n) (fun i (t : List Dem × Nat) => t.2 = i /\ Mv l t.1 a (b + n) /\ ∀ k, 0 <= k -> G t.1 k = sx (G l) a b i k) ?_ ?_ ⟨rfl, Mv.refl _ _ _, fun k _ => by dsimp only; rw [show ((0 : Nat) : Int) = 0 from rfl, sx_zero]⟩
  · rintro _ ⟨q, i⟩ hi ⟨rfl, hm, hg⟩
    dsimp only at hi hm hg
    have ln := hm.ln
    simp only [zbv]
    refine M.o_t (decide_eq_true (by omega)) (M.o_grd (gA2 (by omega) (by omega)) (M.o_grd (gA2 (by omega) (by omega)) (M.o_grd (gA2 (by omega) (by omega)) (M.o_grd (gA2 (by omega) (by omega)) (M.o_grd (gA2 (by omega) (by rw [List.length_set]; omega)) (M.o_grd (gA2 (by omega) (by omega)) (M.o_pure ⟨rfl, hm.trans (sw_mv (i := a + i) (j := b + i) h0 (by omega) (by omega) (by omega)), fun k hk => ?_⟩)))))))
    have e := sw_G (l := q) (i := a + i) (j := b + i) (by omega) (by omega) hk
    exact e.trans (sx_step (by omega) (by omega) h1 (hg k hk) (hg _ (by omega)) (hg _ (by omega)))
  · rintro ⟨q, i⟩ ⟨e, hm, hg⟩
    dsimp only at e hm hg
    subst e
    simp only [zbv]
    refine M.o_f (decide_eq_false (by omega)) (M.o_pure ⟨hm, fun k hk => ?_⟩)
    have := hg k hk
    rwa [Int.toNat_of_nonneg hn] at this
theorem rotate_out {l : List Dem} {s m e : Int} (h0 : 0 <= s) (h1 : s < m) (h2 : m < e) (h3 : e <= l.length) (h4 : l.length <= 1000) :
    (zbR l s m e dn tr sp tw dl dh fl dn tr sp tw dl dh fl).Out (fun l' => Mv l l' s e /\ ∀ k, 0 <= k -> G l' k = rot (G l) s m e k) := by
  unfold zbR
  refine M.o_grd (gA2 (by omega) (by omega)) (M.o_grd (gA2 (by omega) (by omega)) ?_)
  refine M.o_bind (P := fun y => (0 < y.2.1 /\ y.2.1 <= m - s /\ y.2.1 <= e - m) /\ Mv l y.2.2 s e /\ ∀ k, 0 <= k -> rot (G y.2.2) (m - y.2.1) m (m + y.2.1) k = rot (G l) s m e k) ?_ ?_
  · refine M.o_iter (fun (w : Nat) (t : List Dem × Int × Int) => w = Int.toNat (t.2.1 + t.2.2) /\ (0 < t.2.1 /\ t.2.1 <= m - s) /\ (0 < t.2.2 /\ t.2.2 <= e - m) /\ Mv l t.1 s e /\ ∀ k, 0 <= k -> rot (G t.1) (m - t.2.1) m (m + t.2.2) k = rot (G l) s m e k) ?_ _ _ ⟨rfl, ⟨by dsimp only; omega, by dsimp only; omega⟩, ⟨by dsimp only; omega, by dsimp only; omega⟩, Mv.refl _ _ _, fun k _ => by dsimp only; rw [show m - (m - s) = s by omega, show m + (e - m) = e by omega]⟩
    rintro _ ⟨q, i, j⟩ ⟨rfl, ⟨i0, i1⟩, ⟨j0, j1⟩, hm, hr⟩
    dsimp only at i0 i1 j0 j1 hm hr
    have ln := hm.ln
    simp only [zbW]
    refine M.o_if (fun hb => M.o_if (fun hc => ?_) (fun hc => ?_)) (fun hb => M.o_pure ⟨⟨by dsimp only; omega, by dsimp only; omega, ?_⟩, hm, fun k hk => ?_⟩)
    · have hc := of_decide_eq_true hc
      refine M.o_grd (gA2 (by omega) (by omega)) (M.o_bind (swap_out (by omega) (by omega) (by omega) (by omega) (by omega)) ?_)
      rintro q' ⟨hm', hg'⟩
      refine M.o_grd (gA2 (by omega) (by omega)) (M.o_pure ⟨Int.toNat ((i - j) + j), by omega, rfl, ⟨by dsimp only; omega, by dsimp only; omega⟩, ⟨j0, j1⟩, hm.trans (hm'.mono h0 (by omega) (by omega)), fun k hk => ?_⟩)
      dsimp only
      rw [rot_congr hg' (by omega) (by omega) (by omega) hk, rot_l (by omega) (by omega)]
      exact hr k hk
    · have hb := bne_iff_ne.1 hb
      have hc := of_decide_eq_false hc
      refine M.o_grd (gA2 (by omega) (by omega)) (M.o_grd (gA2 (by omega) (by omega)) (M.o_grd (gA2 (by omega) (by omega)) (M.o_bind (swap_out (by omega) (by omega) (by omega) (by omega) (by omega)) ?_)))
      rintro q' ⟨hm', hg'⟩
      refine M.o_grd (gA2 (by omega) (by omega)) (M.o_pure ⟨Int.toNat (i + (j - i)), by omega, rfl, ⟨i0, i1⟩, ⟨by dsimp only; omega, by dsimp only; omega⟩, hm.trans (hm'.mono h0 (by omega) (by omega)), fun k hk => ?_⟩)
      dsimp only
      rw [rot_congr hg' (by omega) (by omega) (by omega) hk, rot_r (by omega) (by omega)]
      exact hr k hk
    · have hb : i = j := by simpa using hb
      dsimp only
      omega
    · have hb : i = j := by simpa using hb
      have := hr k hk
      rw [← hb] at this
      exact this
  · rintro ⟨_, i, q⟩ ⟨⟨i0, i1, i2⟩, hm, hr⟩
    dsimp only at i0 i1 i2 hm hr ⊢
    have ln := hm.ln
    refine M.o_grd (gA2 (by omega) (by omega)) (M.o_bind (swap_out (by omega) (by omega) (by omega) (by omega) (by omega)) ?_)
    rintro q' ⟨hm', hg'⟩
    refine M.o_pure ⟨hm.trans (hm'.mono h0 (by omega) (by omega)), fun k hk => ?_⟩
    rw [hg' k hk, rot_e]
    exact hr k hk
section
variable (hc : ∀ x y, ok x -> ok y -> (zau x y dn tr sp tw dl dh fl dn tr sp tw dl dh fl).Ends (cv (dp y) (dp x)))
include hc
theorem insert_out {l : List Dem} {a b : Int} (h0 : 0 <= a) (h1 : a <= b) (h2 : b <= l.length) (h3 : l.length <= 1000) (ho : ∀ d ∈ l, ok d) :
    (zbj l a b dn tr sp tw dl dh fl dn tr sp tw dl dh fl).Out (fun l' => Mv l l' a b /\ Srt dp l' a b) := by
  unfold zbj
  refine M.o_grd (gA2 (by omega) (by omega)) (M.o_bind (P := fun l' => Mv l l' a b /\ Srt dp l' a b) ?_ (fun y hy => M.o_pure hy))
  by_cases hab : a = b
  · refine M.o_iter (fun (w : Nat) (t : List Dem × Int) => t = (l, a + 1)) ?_ 0 _ rfl
    rintro w _ rfl
    simp only [za6]
    exact M.o_f (decide_eq_false (by omega)) (M.o_pure ⟨Mv.refl _ _ _, fun i j g1 g2 g3 => by omega⟩)
  refine M.o_for (Int.toNat (b - a - 1)) (fun n (t : List Dem × Int) => t.2 = a + 1 + n /\ Mv l t.1 a b /\ Srt dp t.1 a t.2) ?_ ?_ ⟨by dsimp only; omega, Mv.refl _ _ _, fun i j g1 g2 g3 => by dsimp only at g3; omega⟩
  · rintro n ⟨q, i⟩ hn ⟨e, hm, hs⟩
    dsimp only at e hm hs
    have ln := hm.ln
    simp only [za6]
    refine M.o_t (decide_eq_true (by omega)) (M.o_bind (P := fun y => Mv q y.2 a (i + 1) /\ Srt dp y.2 a (i + 1)) ?_ ?_)
    · refine M.o_iter (fun (w : Nat) (t : List Dem × Int) => w = Int.toNat (t.2 - a) /\ (a <= t.2 /\ t.2 <= i) /\ Mv q t.1 a (i + 1) /\ ∀ x y, a <= x -> x < y -> y <= i -> y ≠ t.2 -> dp (G t.1 y) <= dp (G t.1 x)) ?_ _ _ ⟨rfl, ⟨by dsimp only; omega, Int.le_refl _⟩, Mv.refl _ _ _, fun x y g1 g2 g3 g4 => hs x y g1 g2 (by dsimp only at g4; omega)⟩
      rintro _ ⟨r, j⟩ ⟨rfl, ⟨j0, j1⟩, km, kp⟩
      dsimp only at j0 j1 km kp
      have kn := km.ln
      have ho' : ∀ d ∈ r, ok d := fun d hd => ho d (hm.pm.mem_iff.1 (km.pm.mem_iff.1 hd))
      simp only [zbO]
      refine M.o_grd (gI2 fun h => by have := of_decide_eq_true h; omega) (M.o_grd (gI2 fun h => by have := of_decide_eq_true h; omega) (M.o_grd (gI2 fun h => by have := of_decide_eq_true h; omega) (M.o_if (fun hb => ?_) (fun hb => ?_))))
      · have hj := of_decide_eq_true hb
        have h5 := hc (G r j) (G r (j - 1)) (G_ok ho' (by omega) (by omega)) (G_ok ho' (by omega) (by omega))
        refine M.o_bindE h5 ?_
        rw [cv_neg, hb, Bool.true_and]
        refine M.o_if (fun hl => ?_) (fun hl => M.o_pure ?_)
        · have hl := of_decide_eq_true hl
          refine M.o_grd (gA2 (by omega) (by omega)) (M.o_grd (gA2 (by omega) (by omega)) (M.o_grd (gA2 (by omega) (by omega)) (M.o_grd (gA2 (by omega) (by rw [List.length_set]; omega)) (M.o_pure ⟨Int.toNat ((j - 1) - a), by omega, rfl, ⟨by dsimp only; omega, by dsimp only; omega⟩, km.trans (sw_mv (i := j) (j := j - 1) h0 (by omega) (by omega) (by omega)), fun x y g1 g2 g3 g4 => ?_⟩))))
          dsimp only at g4
          have ex := sw_G (l := r) (i := j) (j := j - 1) (by omega) (by omega) (show 0 <= x by omega)
          have ey := sw_G (l := r) (i := j) (j := j - 1) (by omega) (by omega) (show 0 <= y by omega)
          show dp (G (sw r j (j - 1)) y) <= dp (G (sw r j (j - 1)) x)
          rw [ex, ey, if_neg g4]
          by_cases c1 : y = j
          · subst c1
            rw [if_pos rfl]
            by_cases c2 : x = y - 1
            · rw [if_pos c2]
              omega
            · rw [if_neg c2, if_neg (by omega)]
              exact kp x (y - 1) g1 (by omega) (by omega) (by omega)
          · rw [if_neg c1]
            by_cases c2 : x = j - 1
            · rw [if_pos c2]
              exact kp j y (by omega) (by omega) g3 c1
            · rw [if_neg c2]
              by_cases c3 : x = j
              · rw [if_pos c3]
                exact kp (j - 1) y (by omega) (by omega) g3 c1
              · rw [if_neg c3]
                exact kp x y g1 g2 g3 c1
        · have hl := of_decide_eq_false hl
          refine ⟨km, fun x y g1 g2 g3 => ?_⟩
          dsimp only
          by_cases c1 : y = j
          · subst c1
            by_cases c2 : x = y - 1
            · subst c2
              omega
            · have := kp x (y - 1) g1 (by omega) (by omega) (by omega)
              omega
          · exact kp x y g1 g2 (by omega) c1
      · have hj := of_decide_eq_false hb
        refine M.o_f (by rw [hb]; rfl) (M.o_pure ⟨km, fun x y g1 g2 g3 => kp x y g1 g2 (by omega) (by omega)⟩)
    · rintro ⟨_, r⟩ ⟨km, ks⟩
      dsimp only at km ks ⊢
      exact M.o_grd (gA2 (by omega) (by omega)) (M.o_pure ⟨by dsimp only; omega, hm.trans (km.mono h0 (Int.le_refl _) (by omega)), ks⟩)
  · rintro ⟨q, i⟩ ⟨e, hm, hs⟩
    dsimp only at e hm hs
    simp only [za6]
    exact M.o_f (decide_eq_false (by omega)) (M.o_pure ⟨hm, hs.sub (Int.le_refl _) (by omega)⟩)
theorem find0 {l : List Dem} {a m b : Int} (h0 : 0 <= a) (h1 : a < m) (h2 : m <= b) (h3 : b <= l.length) (h4 : l.length <= 1000) (ho : ∀ d ∈ l, ok d) (hs : Srt dp l m b) :
    (M.iter (zaN l a dn tr sp tw dl dh fl dn tr sp tw dl dh fl) (m, b)).Out (fun i => (m <= i /\ i <= b) /\ (∀ c, m <= c -> c < i -> dp (G l a) < dp (G l c)) /\ ∀ c, i <= c -> c < b -> dp (G l c) <= dp (G l a)) := by
  refine M.o_iter (fun (w : Nat) (t : Int × Int) => w = Int.toNat (t.2 - t.1) /\ (m <= t.1 /\ t.1 <= t.2 /\ t.2 <= b) /\ (∀ c, m <= c -> c < t.1 -> dp (G l a) < dp (G l c)) /\ ∀ c, t.2 <= c -> c < b -> dp (G l c) <= dp (G l a)) ?_ _ _ ⟨rfl, ⟨Int.le_refl _, h2, Int.le_refl _⟩, fun c g1 g2 => by dsimp only at g2; omega, fun c g1 g2 => by dsimp only at g1; omega⟩
  rintro _ ⟨i, j⟩ ⟨rfl, ⟨i0, i1, i2⟩, p1, p2⟩
  dsimp only at i0 i1 i2 p1 p2
  simp only [zaN]
  refine M.o_if (fun hb => ?_) (fun hb => M.o_pure ?_)
  · have hb := of_decide_eq_true hb
    have q1 : i <= (i + j) / 2 /\ (i + j) / 2 < j := by omega
    generalize (i + j) / 2 = h at q1 ⊢
    refine M.o_grd (gA2 (by omega) (by omega)) (M.o_grd (gA2 (by omega) (by omega)) (M.o_grd (gA2 (by omega) (by omega)) (M.o_grd (gA2 (by omega) (by omega)) (M.o_grd (gA2 (by omega) (by omega)) ?_))))
    refine M.o_bindE (hc (G l h) (G l a) (G_ok ho (by omega) (by omega)) (G_ok ho (by omega) (by omega))) ?_
    rw [cv_neg]
    refine M.o_if (fun hl => M.o_pure ⟨Int.toNat (j - (h + 1)), by omega, rfl, ⟨by dsimp only; omega, by dsimp only; omega, i2⟩, fun c g1 g2 => ?_, p2⟩) (fun hl => M.o_pure ⟨Int.toNat (h - i), by omega, rfl, ⟨i0, by dsimp only; omega, by dsimp only; omega⟩, p1, fun c g1 g2 => ?_⟩)
    · have hl := of_decide_eq_true hl
      dsimp only at g2
      by_cases e : c = h
      · subst e; exact hl
      · have := hs c h g1 (by omega) (by omega)
        omega
    · have hl := of_decide_eq_false hl
      dsimp only at g1
      by_cases e : c = h
      · subst e; omega
      · have := hs h c (by omega) (by omega) g2
        omega
  · have hb := of_decide_eq_false hb
    exact ⟨⟨i0, by omega⟩, p1, fun c g1 g2 => p2 c (by omega) g2⟩
theorem find2 {l : List Dem} {a m b : Int} (h0 : 0 <= a) (h1 : a <= m) (h2 : m < b) (h3 : b <= l.length) (h4 : l.length <= 1000) (ho : ∀ d ∈ l, ok d) (hs : Srt dp l a m) :
    (M.iter (za3 l m dn tr sp tw dl dh fl dn tr sp tw dl dh fl) (a, m)).Out (fun i => (a <= i /\ i <= m) /\ (∀ c, a <= c -> c < i -> dp (G l m) <= dp (G l c)) /\ ∀ c, i <= c -> c < m -> dp (G l c) < dp (G l m)) := by
  refine M.o_iter (fun (w : Nat) (t : Int × Int) => w = Int.toNat (t.2 - t.1) /\ (a <= t.1 /\ t.1 <= t.2 /\ t.2 <= m) /\ (∀ c, a <= c -> c < t.1 -> dp (G l m) <= dp (G l c)) /\ ∀ c, t.2 <= c -> c < m -> dp (G l c) < dp (G l m)) ?_ _ _ ⟨rfl, ⟨Int.le_refl _, h1, Int.le_refl _⟩, fun c g1 g2 => by dsimp only at g2; omega, fun c g1 g2 => by dsimp only at g1; omega⟩
  rintro _ ⟨i, j⟩ ⟨rfl, ⟨i0, i1, i2⟩, p1, p2⟩
  dsimp only at i0 i1 i2 p1 p2
  simp only [za3]
  refine M.o_if (fun hb => ?_) (fun hb => M.o_pure ?_)
  · have hb := of_decide_eq_true hb
    have q1 : i <= (i + j) / 2 /\ (i + j) / 2 < j := by omega
    generalize (i + j) / 2 = h at q1 ⊢
    refine M.o_grd (gA2 (by omega) (by omega)) (M.o_grd (gA2 (by omega) (by omega)) (M.o_grd (gA2 (by omega) (by omega)) (M.o_grd (gA2 (by omega) (by omega)) (M.o_grd (gA2 (by omega) (by omega)) ?_))))
    refine M.o_bindE (hc (G l m) (G l h) (G_ok ho (by omega) (by omega)) (G_ok ho (by omega) (by omega))) ?_
    rw [cv_neg]
    refine M.o_if (fun hl => M.o_pure ⟨Int.toNat (j - (h + 1)), by omega, rfl, ⟨by dsimp only; omega, by dsimp only; omega, i2⟩, fun c g1 g2 => ?_, p2⟩) (fun hl => M.o_pure ⟨Int.toNat (h - i), by omega, rfl, ⟨i0, by dsimp only; omega, by dsimp only; omega⟩, p1, fun c g1 g2 => ?_⟩)
    · have hl : ¬ dp (G l h) < dp (G l m) := by simpa using hl
      dsimp only at g2
      by_cases e : c = h
      · subst e; omega
      · have := hs c h g1 (by omega) (by omega)
        omega
    · have hl : dp (G l h) < dp (G l m) := by simpa using hl
      dsimp only at g1
      by_cases e : c = h
      · subst e; exact hl
      · have := hs h c (by omega) (by omega) g2
        omega
  · have hb := of_decide_eq_false hb
    exact ⟨⟨i0, by omega⟩, p1, fun c g1 g2 => p2 c (by omega) g2⟩
theorem find4 {l : List Dem} {a m b s0 r0 p : Int} (hp : p = (a + b) / 2 + m - 1) (hab : 0 <= a + b) (hm : 0 <= m) (h3 : b <= l.length) (ha : a <= b) (h4 : l.length <= 1000) (ho : ∀ d ∈ l, ok d) (h0 : 0 <= a) (h1 : a <= s0) (h2 : s0 <= r0) (h5 : r0 <= m) (h6 : m <= b)
    (hr : ∀ c, s0 <= c -> c < r0 -> m <= p - c /\ p - c < b) (hs1 : Srt dp l a m) (hs2 : Srt dp l m b) :
    (M.iter (za5 l a m b dn tr sp tw dl dh fl dn tr sp tw dl dh fl) (s0, r0)).Out (fun s => (s0 <= s /\ s <= r0) /\ (∀ c, s0 <= c -> c < s -> dp (G l (p - c)) <= dp (G l c)) /\ ∀ c, s <= c -> c < r0 -> dp (G l c) < dp (G l (p - c))) := by
  refine M.o_iter (fun (w : Nat) (t : Int × Int) => w = Int.toNat (t.2 - t.1) /\ (s0 <= t.1 /\ t.1 <= t.2 /\ t.2 <= r0) /\ (∀ c, s0 <= c -> c < t.1 -> dp (G l (p - c)) <= dp (G l c)) /\ ∀ c, t.2 <= c -> c < r0 -> dp (G l c) < dp (G l (p - c))) ?_ _ _ ⟨rfl, ⟨Int.le_refl _, h2, Int.le_refl _⟩, fun c g1 g2 => by dsimp only at g2; omega, fun c g1 g2 => by dsimp only at g1; omega⟩
  rintro _ ⟨i, j⟩ ⟨rfl, ⟨i0, i1, i2⟩, p1, p2⟩
  dsimp only at i0 i1 i2 p1 p2
  simp only [za5]
  rw [← hp]
  refine M.o_if (fun hb => ?_) (fun hb => M.o_pure ?_)
  · have hb := of_decide_eq_true hb
    have q1 : i <= (i + j) / 2 /\ (i + j) / 2 < j := by omega
    generalize (i + j) / 2 = h at q1 ⊢
    have q2 := hr h (by omega) (by omega)
    refine M.o_grd (gA2 (by omega) (by omega)) (M.o_grd (gA2 (by omega) (by omega)) (M.o_grd (gA2 (by omega) (by omega)) (M.o_grd (gA2 (by omega) (by omega)) (M.o_grd (gA2 (by omega) (by omega)) (M.o_grd (gA2 (by omega) (by omega)) ?_)))))
    refine M.o_bindE (hc (G l (p - h)) (G l h) (G_ok ho (by omega) (by omega)) (G_ok ho (by omega) (by omega))) ?_
    rw [cv_neg]
    refine M.o_if (fun hl => M.o_pure ⟨Int.toNat (j - (h + 1)), by omega, rfl, ⟨by dsimp only; omega, by dsimp only; omega, i2⟩, fun c g1 g2 => ?_, p2⟩) (fun hl => M.o_pure ⟨Int.toNat (h - i), by omega, rfl, ⟨i0, by dsimp only; omega, by dsimp only; omega⟩, p1, fun c g1 g2 => ?_⟩)
    · have hl : ¬ dp (G l h) < dp (G l (p - h)) := by simpa using hl
      dsimp only at g2
      by_cases e : c = h
      · subst e; omega
      · have q3 := hr c g1 (by omega)
        have := hs1 c h (by omega) (by omega) (by omega)
        have := hs2 (p - h) (p - c) (by omega) (by omega) (by omega)
        omega
    · have hl : dp (G l h) < dp (G l (p - h)) := by simpa using hl
      dsimp only at g1
      by_cases e : c = h
      · subst e; exact hl
      · have q3 := hr c (by omega) g2
        have := hs1 h c (by omega) (by omega) (by omega)
        have := hs2 (p - c) (p - h) (by omega) (by omega) (by omega)
        omega
  · have hb := of_decide_eq_false hb
    exact ⟨⟨i0, by omega⟩, p1, fun c g1 g2 => p2 c (by omega) g2⟩
omit hc in
theorem shift1 {l : List Dem} {a b i : Int} (h0 : 0 <= a) (h1 : a < i) (h2 : i <= b) (h3 : b <= l.length) (h4 : l.length <= 1000) :
    (M.iter (zaJ i) (l, a)).Out (fun l' => Mv l l' a b /\ ∀ k, 0 <= k -> G l' k = if a <= k /\ k < i - 1 then G l (k + 1) else if k = i - 1 then G l a else G l k) := by
  refine M.o_for (Int.toNat (i - 1 - a)) (fun n (t : List Dem × Int) => t.2 = a + n /\ Mv l t.1 a b /\ ∀ k, 0 <= k -> G t.1 k = if a <= k /\ k < t.2 then G l (k + 1) else if k = t.2 then G l a else G l k) ?_ ?_ ⟨by dsimp only; omega, Mv.refl _ _ _, fun k hk => ?_⟩
  · rintro n ⟨q, k⟩ hn ⟨e, hm, hg⟩
    dsimp only at e hm hg
    have ln := hm.ln
    simp only [zaJ]
    refine M.o_grd (gA2 (by omega) (by omega)) (M.o_t (decide_eq_true (by omega)) (M.o_grd (gA2 (by omega) (by omega)) (M.o_grd (gA2 (by omega) (by omega)) (M.o_grd (gA2 (by omega) (by omega)) (M.o_grd (gA2 (by omega) (by rw [List.length_set]; omega)) (M.o_pure ⟨by dsimp only; omega, hm.trans (sw_mv (i := k) (j := k + 1) h0 (by omega) (by omega) (by omega)), fun x hx => ?_⟩))))))
    have e1 := sw_G (l := q) (i := k) (j := k + 1) (by omega) (by omega) hx
    refine e1.trans ?_
    dsimp only
    rw [hg k (by omega), hg (k + 1) (by omega), hg x hx]
    repeat' split
    all_goals first | rfl | (congr 1; omega) | (exfalso; omega)
  · rintro ⟨q, k⟩ ⟨e, hm, hg⟩
    dsimp only at e hm hg
    obtain rfl : k = i - 1 := by omega
    simp only [zaJ]
    exact M.o_grd (gA2 (by omega) (by omega)) (M.o_f (decide_eq_false (by omega)) (M.o_pure ⟨hm, hg⟩))
  · dsimp only
    by_cases e : k = a
    · rw [if_neg (by omega), if_pos e, e]
    · rw [if_neg (by omega), if_neg e]
omit hc in
theorem shift3 {l : List Dem} {a b i m : Int} (h0 : 0 <= a) (h1 : a <= i) (h2 : i <= m) (h5 : m < b) (h3 : b <= l.length) (h4 : l.length <= 1000) :
    (M.iter (zaH i) (l, m)).Out (fun l' => Mv l l' a b /\ ∀ k, 0 <= k -> G l' k = if k = i then G l m else if i < k /\ k <= m then G l (k - 1) else G l k) := by
  refine M.o_for (Int.toNat (m - i)) (fun n (t : List Dem × Int) => t.2 = m - n /\ Mv l t.1 a b /\ ∀ k, 0 <= k -> G t.1 k = if k = t.2 then G l m else if t.2 < k /\ k <= m then G l (k - 1) else G l k) ?_ ?_ ⟨by dsimp only; omega, Mv.refl _ _ _, fun k hk => ?_⟩
  · rintro n ⟨q, k⟩ hn ⟨e, hm, hg⟩
    dsimp only at e hm hg
    have ln := hm.ln
    simp only [zaH]
    refine M.o_t (decide_eq_true (by omega)) (M.o_grd (gA2 (by omega) (by omega)) (M.o_grd (gA2 (by omega) (by omega)) (M.o_grd (gA2 (by omega) (by omega)) (M.o_grd (gA2 (by omega) (by rw [List.length_set]; omega)) (M.o_pure ⟨by dsimp only; omega, hm.trans (sw_mv (i := k) (j := k - 1) h0 (by omega) (by omega) (by omega)), fun x hx => ?_⟩)))))
    have e1 := sw_G (l := q) (i := k) (j := k - 1) (by omega) (by omega) hx
    refine e1.trans ?_
    dsimp only
    rw [hg k (by omega), hg (k - 1) (by omega), hg x hx]
    repeat' split
    all_goals first | rfl | (congr 1; omega) | (exfalso; omega)
  · rintro ⟨q, k⟩ ⟨e, hm, hg⟩
    dsimp only at e hm hg
    obtain rfl : k = i := by omega
    simp only [zaH]
    exact M.o_f (decide_eq_false (by omega)) (M.o_pure ⟨hm, hg⟩)
  · dsimp only
    by_cases e : k = m
    · rw [if_pos e, e]
    · rw [if_neg e, if_neg (by omega)]
theorem j7_out {self : (List Dem × Int × Int × Int × List Int × List Span × List Int × List Town × Int × Int × List Flood × List Int × List Span × List Int × List Town × Int × Int × List Flood) -> M (List Dem)} {l : List Dem} {a m b s0 r0 : Int}
    (hself : ∀ (l : List Dem) (a' m' b' : Int), 0 <= a' -> a' < m' -> m' < b' -> b' - a' < b - a -> b' <= l.length -> l.length <= 1000 -> (∀ d ∈ l, ok d) -> Srt dp l a' m' -> Srt dp l m' b' -> (self (l, a', m', b', dn, tr, sp, tw, dl, dh, fl, dn, tr, sp, tw, dl, dh, fl)).Out (fun l' => Mv l l' a' b' /\ Srt dp l' a' b'))
    (h0 : 0 <= a) (h1 : a < m) (h2 : m < b) (h3 : b <= l.length) (h4 : l.length <= 1000) (ho : ∀ d ∈ l, ok d) (hs1 : Srt dp l a m) (hs2 : Srt dp l m b)
    (hst : ((a + b) / 2 < m /\ s0 = (a + b) / 2 + m - b /\ r0 = (a + b) / 2) ∨ (m <= (a + b) / 2 /\ s0 = a /\ r0 = m)) :
    (zaw l a m b dn tr sp tw dl dh fl dn tr sp tw dl dh fl self s0 r0).Out (fun l' => Mv l l' a b /\ Srt dp l' a b) := by
  unfold zaw
  obtain ⟨d, hd⟩ : ∃ d, d = (a + b) / 2 := ⟨_, rfl⟩
  have d1 : 2 * d <= a + b /\ a + b < 2 * d + 2 := by omega
  have F := find4 hc (l := l) (a := a) (m := m) (b := b) (s0 := s0) (r0 := r0) (p := d + m - 1) (by rw [hd]) (by omega) (by omega) h3 (by omega) h4 ho h0 (by omega) (by omega) (by omega) (by omega) (fun c g1 g2 => by omega) hs1 hs2
  rw [← hd] at hst ⊢
  refine M.o_grd (gA2 (by omega) (by omega)) (M.o_bind F ?_)
  rintro s ⟨⟨b1, b2⟩, p1, p2⟩
  obtain ⟨e, he⟩ : ∃ e, e = d + m - s := ⟨_, rfl⟩
  have e1 : a <= s /\ s <= m /\ m <= e /\ e <= b := by omega
  rw [← he]
  -- what is left, once both parts have changed places
  have rest : ∀ l1 : List Dem, Mv l l1 a b -> (∀ k, 0 <= k -> G l1 k = rot (G l) s m e k) -> (zay a m b dn tr sp tw dl dh fl dn tr sp tw dl dh fl self s l1).Out (fun l' => Mv l l' a b /\ Srt dp l' a b) := by
    intro l1 hm hg
    have ln := hm.ln
    have ho1 : ∀ x ∈ l1, ok x := fun x hx => ho x (hm.pm.mem_iff.1 hx)
    have g1 : ∀ k, a <= k -> k < s -> G l1 k = G l k := fun k k1 k2 => by rw [hg k (by omega)]; unfold rot; rw [if_neg (by omega), if_neg (by omega)]
    have g2 : ∀ k, s <= k -> k < d -> G l1 k = G l (k + (m - s)) := fun k k1 k2 => by rw [hg k (by omega)]; unfold rot; rw [if_pos (by omega)]
    have g3 : ∀ k, d <= k -> k < e -> G l1 k = G l (k - (e - m)) := fun k k1 k2 => by rw [hg k (by omega)]; unfold rot; rw [if_neg (by omega), if_pos (by omega)]
    have g4 : ∀ k, e <= k -> G l1 k = G l k := fun k k1 => by rw [hg k (by omega)]; unfold rot; rw [if_neg (by omega), if_neg (by omega)]
    have r1 : Srt dp l1 a s := fun i j i1 i2 i3 => by rw [g1 i i1 (by omega), g1 j (by omega) i3]; exact hs1 i j i1 i2 (by omega)
    have r2 : Srt dp l1 s d := fun i j i1 i2 i3 => by rw [g2 i i1 (by omega), g2 j (by omega) i3]; exact hs2 _ _ (by omega) (by omega) (by omega)
    have r3 : Srt dp l1 d e := fun i j i1 i2 i3 => by rw [g3 i i1 (by omega), g3 j (by omega) i3]; exact hs1 _ _ (by omega) (by omega) (by omega)
    have r4 : Srt dp l1 e b := fun i j i1 i2 i3 => by rw [g4 i i1, g4 j (by omega)]; exact hs2 i j (by omega) i2 i3
    have cr : ∀ i j, a <= i -> i < d -> d <= j -> j < b -> dp (G l1 j) <= dp (G l1 i) := by
      intro i j i1 i2 j1 j2
      by_cases ci : i < s
      · by_cases cj : j < e
        · rw [g1 i i1 ci, g3 j j1 cj]
          exact hs1 _ _ i1 (by omega) (by omega)
        · rw [g1 i i1 ci, g4 j (by omega)]
          have k1 := p1 (s - 1) (by omega) (by omega)
          rw [show d + m - 1 - (s - 1) = e by omega] at k1
          have k2 : dp (G l j) <= dp (G l e) := by
            by_cases c : j = e
            · rw [c]; exact Int.le_refl _
            · exact hs2 e j (by omega) (by omega) j2
          have k3 : dp (G l (s - 1)) <= dp (G l i) := by
            by_cases c : i = s - 1
            · rw [c]; exact Int.le_refl _
            · exact hs1 i (s - 1) i1 (by omega) (by omega)
          omega
      · by_cases cj : j < e
        · rw [g2 i (by omega) i2, g3 j j1 cj]
          have k1 := p2 s (Int.le_refl _) (by omega)
          rw [show d + m - 1 - s = e - 1 by omega] at k1
          have k2 : dp (G l (j - (e - m))) <= dp (G l s) := by
            by_cases c : j - (e - m) = s
            · rw [c]; exact Int.le_refl _
            · exact hs1 s _ (by omega) (by omega) (by omega)
          have k3 : dp (G l (e - 1)) <= dp (G l (i + (m - s))) := by
            by_cases c : i + (m - s) = e - 1
            · rw [c]; exact Int.le_refl _
            · exact hs2 _ (e - 1) (by omega) (by omega) (by omega)
          omega
        · rw [g2 i (by omega) i2, g4 j (by omega)]
          exact hs2 _ _ (by omega) (by omega) j2
    -- the right half
    have right : ∀ l2 : List Dem, Mv l1 l2 a d -> Srt dp l2 a d -> (zaM a m b dn tr sp tw dl dh fl dn tr sp tw dl dh fl self s l2).Out (fun l' => Mv l l' a b /\ Srt dp l' a b) := by
      intro l2 hm2 hq
      have ln2 := hm2.ln
      have ho2 : ∀ x ∈ l2, ok x := fun x hx => ho1 x (hm2.pm.mem_iff.1 hx)
      have t3 : Srt dp l2 d e := r3.same hm2 (by omega) (.inr (Int.le_refl _))
      have t4 : Srt dp l2 e b := r4.same hm2 (by omega) (.inr (by omega))
      have c2 : ∀ i j, a <= i -> i < d -> d <= j -> j < b -> dp (G l2 j) <= dp (G l2 i) := fun i j i1 i2 j1 j2 => by
        rw [hm2.fr j (by omega) (by omega)]
        exact hm2.qs (fun x => dp (G l1 j) <= dp x) (fun k k1 k2 => cr k j k1 k2 j1 j2) i i1 i2
      unfold zaM
      rw [← hd, ← he]
      refine M.o_if (fun hb => ?_) (fun hb => M.o_pure ⟨hm.trans (hm2.mono h0 (Int.le_refl _) (by omega)), hq.join ?_ c2⟩)
      · rw [Bool.and_eq_true, decide_eq_true_eq, decide_eq_true_eq] at hb
        refine M.o_bind (hself l2 d e b (by omega) (by omega) (by omega) (by omega) (by omega) (by omega) ho2 t3 t4) ?_
        rintro l3 ⟨hm3, hq3⟩
        refine M.o_pure ⟨(hm.trans (hm2.mono h0 (Int.le_refl _) (by omega))).trans (hm3.mono h0 (by omega) (Int.le_refl _)), (hq.same hm3 (by omega) (.inl (Int.le_refl _))).join hq3 fun i j i1 i2 j1 j2 => ?_⟩
        rw [hm3.fr i (by omega) (by omega)]
        exact hm3.qs (fun x => dp x <= dp (G l2 i)) (fun k k1 k2 => c2 i k i1 i2 k1 k2) j j1 j2
      · rw [Bool.and_eq_false_iff, decide_eq_false_iff_not, decide_eq_false_iff_not] at hb
        intro i j i1 i2 i3
        by_cases c : e = b
        · exact t3 i j i1 i2 (by omega)
        · exact t4 i j (by omega) i2 i3
    unfold zay
    rw [← hd]
    refine M.o_if (fun hb => ?_) (fun hb => right l1 (Mv.refl _ _ _) ?_)
    · rw [Bool.and_eq_true, decide_eq_true_eq, decide_eq_true_eq] at hb
      refine M.o_bind (hself l1 a s d h0 (by omega) (by omega) (by omega) (by omega) (by omega) ho1 r1 r2) ?_
      rintro l2 ⟨hm2, hq2⟩
      exact right l2 hm2 hq2
    · rw [Bool.and_eq_false_iff, decide_eq_false_iff_not, decide_eq_false_iff_not] at hb
      intro i j i1 i2 i3
      by_cases c : s = a
      · exact r2 i j (by omega) i2 i3
      · exact r1 i j i1 i2 (by omega)
  refine M.o_grd (gA2 (by omega) (by omega)) (M.o_if (fun hb => ?_) (fun hb => rest l (Mv.refl _ _ _) fun k hk => ?_))
  · rw [Bool.and_eq_true, decide_eq_true_eq, decide_eq_true_eq] at hb
    refine M.o_bind (rotate_out (by omega) (by omega) (by omega) (by omega) h4) ?_
    rintro l1 ⟨hm, hg⟩
    exact rest l1 (hm.mono h0 (by omega) (by omega)) hg
  · rw [Bool.and_eq_false_iff, decide_eq_false_iff_not, decide_eq_false_iff_not] at hb
    exact (rot_id (by omega) (by omega) (by omega)).symm
theorem sym_out : ∀ (w : Nat) (l : List Dem) (a m b : Int), w = Int.toNat (b - a) -> 0 <= a -> a < m -> m < b -> b <= l.length -> l.length <= 1000 -> (∀ d ∈ l, ok d) -> Srt dp l a m -> Srt dp l m b →
    (zby l a m b dn tr sp tw dl dh fl dn tr sp tw dl dh fl).Out (fun l' => Mv l l' a b /\ Srt dp l' a b) := by
  intro w
  induction w using Nat.strongRecOn with
  | _ w ih =>
  intro l a m b hw h0 h1 h2 h3 h4 ho hs1 hs2
  unfold zby
  suffices k : (zal (M.fix zal zcp) (l, a, m, b, dn, tr, sp, tw, dl, dh, fl, dn, tr, sp, tw, dl, dh, fl)).Out (fun l' => Mv l l' a b /\ Srt dp l' a b) by
    obtain ⟨r, k1, k2⟩ := k
    exact ⟨r, M.i_fix k1, k2⟩
  simp only [zal]
  refine M.o_grd (gA2 (by omega) (by omega)) (M.o_if (fun hb => ?_) (fun hb => M.o_grd (gA2 (by omega) (by omega)) (M.o_if (fun hb2 => ?_) (fun hb2 => ?_))))
  · have hb : m - a = 1 := beq_iff_eq.1 hb
    refine M.o_bind (find0 hc h0 h1 (by omega) h3 h4 ho hs2) ?_
    rintro i ⟨⟨i1, i2⟩, p1, p2⟩
    refine M.o_bind (shift1 (b := b) h0 (by omega) i2 h3 h4) ?_
    rintro l' ⟨hm, hg⟩
    refine M.o_pure ⟨hm, fun x y x1 x2 x3 => ?_⟩
    have ex := hg x (by omega)
    have ey := hg y (by omega)
    by_cases c1 : x < i - 1
    · rw [if_pos (by omega)] at ex
      by_cases c2 : y < i - 1
      · rw [if_pos (by omega)] at ey
        rw [ex, ey]
        exact hs2 _ _ (by omega) (by omega) (by omega)
      · rw [if_neg (by omega)] at ey
        by_cases c3 : y = i - 1
        · rw [if_pos c3] at ey
          rw [ex, ey]
          exact Int.le_of_lt (p1 (x + 1) (by omega) (by omega))
        · rw [if_neg c3] at ey
          rw [ex, ey]
          exact hs2 _ _ (by omega) (by omega) x3
    · rw [if_neg (by omega)] at ex
      rw [if_neg (by omega), if_neg (by omega)] at ey
      by_cases c3 : x = i - 1
      · rw [if_pos c3] at ex
        rw [ex, ey]
        exact p2 y (by omega) x3
      · rw [if_neg c3] at ex
        rw [ex, ey]
        exact hs2 x y (by omega) x2 x3
  · have hb : b - m = 1 := beq_iff_eq.1 hb2
    refine M.o_bind (find2 hc h0 (by omega) h2 h3 h4 ho hs1) ?_
    rintro i ⟨⟨i1, i2⟩, p1, p2⟩
    refine M.o_bind (shift3 (b := b) h0 i1 i2 h2 h3 h4) ?_
    rintro l' ⟨hm, hg⟩
    refine M.o_pure ⟨hm, fun x y x1 x2 x3 => ?_⟩
    have ex := hg x (by omega)
    have ey := hg y (by omega)
    by_cases c1 : y = i
    · rw [if_pos c1] at ey
      rw [if_neg (by omega), if_neg (by omega)] at ex
      rw [ex, ey]
      exact p1 x x1 (by omega)
    · rw [if_neg c1] at ey
      by_cases c2 : i < y
      · rw [if_pos (by omega)] at ey
        by_cases c3 : x = i
        · rw [if_pos c3] at ex
          rw [ex, ey]
          exact Int.le_of_lt (p2 (y - 1) (by omega) (by omega))
        · rw [if_neg c3] at ex
          by_cases c4 : i < x
          · rw [if_pos (by omega)] at ex
            rw [ex, ey]
            exact hs1 _ _ (by omega) (by omega) (by omega)
          · rw [if_neg (by omega)] at ex
            rw [ex, ey]
            by_cases c5 : x = y - 1
            · omega
            · exact hs1 _ _ (by omega) (by omega) (by omega)
      · rw [if_neg (by omega)] at ey
        rw [if_neg (by omega), if_neg (by omega)] at ex
        rw [ex, ey]
        exact hs1 x y x1 x2 (by omega)
  · have hself : ∀ (l : List Dem) (a' m' b' : Int), 0 <= a' -> a' < m' -> m' < b' -> b' - a' < b - a -> b' <= l.length -> l.length <= 1000 -> (∀ d ∈ l, ok d) -> Srt dp l a' m' -> Srt dp l m' b' -> (M.fix zal zcp (l, a', m', b', dn, tr, sp, tw, dl, dh, fl, dn, tr, sp, tw, dl, dh, fl)).Out (fun l' => Mv l l' a' b' /\ Srt dp l' a' b') :=
      fun l' a' m' b' k0 k1 k2 k3 k4 k5 k6 k7 k8 => ih (Int.toNat (b' - a')) (by omega) l' a' m' b' rfl k0 k1 k2 k4 k5 k6 k7 k8
    refine M.o_grd (gA2 (by omega) (by omega)) (M.o_grd (gA2 (by omega) (by omega)) (M.o_grd (gA2 (by omega) (by omega)) (M.o_grd (gA2 (by omega) (by omega)) (M.o_if (fun hd => ?_) (fun hd => ?_)))))
    · have hd := of_decide_eq_true hd
      exact M.o_grd (gA2 (by omega) (by omega)) (j7_out hc hself h0 h1 h2 h3 h4 ho hs1 hs2 (.inl ⟨hd, rfl, rfl⟩))
    · have hd := of_decide_eq_false hd
      exact j7_out hc hself h0 h1 h2 h3 h4 ho hs1 hs2 (.inr ⟨by omega, rfl, rfl⟩)
theorem stable_out {l : List Dem} (h4 : l.length <= 1000) (ho : ∀ d ∈ l, ok d) :
    (zci l (l.length : Int) dn tr sp tw dl dh fl dn tr sp tw dl dh fl).Out (fun l' => Mv l l' 0 l.length /\ Srt dp l' 0 l.length) := by
  obtain ⟨n, hn⟩ : ∃ n : Int, n = l.length := ⟨_, rfl⟩
  rw [← hn]
  unfold zci
  refine M.o_bind (P := fun y => Mv l y.2.2 0 n /\ ∃ t : Nat, y.2.1 = (t : Int) * 20 /\ y.2.1 <= n /\ n < y.2.1 + 20 /\ ∀ t' : Nat, t' < t -> Srt dp y.2.2 ((t' : Int) * 20) ((t' : Int) * 20 + 20)) ?_ ?_
  · refine M.o_iter (fun (w : Nat) (y : List Dem × Int × Int) => w = Int.toNat (n - y.2.1) /\ y.2.2 = y.2.1 + 20 /\ Mv l y.1 0 n /\ ∃ t : Nat, y.2.1 = (t : Int) * 20 /\ y.2.1 <= n /\ ∀ t' : Nat, t' < t -> Srt dp y.1 ((t' : Int) * 20) ((t' : Int) * 20 + 20)) ?_ _ _ ⟨rfl, rfl, Mv.refl _ _ _, 0, rfl, by dsimp only; omega, fun t' h => by omega⟩
    rintro _ ⟨q, a, b⟩ ⟨rfl, e, hm, t, e2, h5, hs⟩
    dsimp only at e hm e2 h5 hs
    have ln := hm.ln
    simp only [zbQ]
    refine M.o_if (fun hb => ?_) (fun hb => M.o_pure ?_)
    · have hb := of_decide_eq_true hb
      refine M.o_bind (insert_out hc (l := q) (a := a) (b := b) (by omega) (by omega) (by omega) (by omega) fun d hd => ho d (hm.pm.mem_iff.1 hd)) ?_
      rintro q' ⟨km, ks⟩
      refine M.o_grd (gA2 (by omega) (by omega)) (M.o_pure ⟨Int.toNat (n - b), by omega, rfl, rfl, hm.trans (km.mono (by omega) (by omega) (by omega)), t + 1, by dsimp only; omega, hb, fun t' h => ?_⟩)
      dsimp only
      by_cases c : t' = t
      · subst c
        rw [← e2, ← e]
        exact ks
      · exact (hs t' (by omega)).same km (by omega) (.inl (by omega))
    · have hb := of_decide_eq_false hb
      exact ⟨hm, t, e2, h5, by dsimp only; omega, hs⟩
  rintro ⟨_, a, q⟩ ⟨hm, t, e2, h5, h6, hs⟩
  dsimp only at hm e2 h5 h6 hs ⊢
  have ln := hm.ln
  refine M.o_bind (insert_out hc (l := q) (a := a) (b := n) (by omega) h5 (by omega) (by omega) fun d hd => ho d (hm.pm.mem_iff.1 hd)) ?_
  rintro q1 ⟨km, ks⟩
  have hb0 : ∀ t' : Nat, ∀ i j, (t' : Int) * 20 <= i -> i < j -> j < (t' : Int) * 20 + 20 -> j < n -> dp (G q1 j) <= dp (G q1 i) := by
    intro t' i j g1 g2 g3 g4
    rcases Nat.lt_trichotomy t' t with c | c | c
    · exact ((hs t' c).same km (by omega) (.inl (by omega))) i j g1 g2 g3
    · subst c
      exact ks i j (by omega) g2 g4
    · omega
  refine M.o_bind (P := fun l' => Mv l l' 0 n /\ Srt dp l' 0 n) ?_ (fun y hy => M.o_pure hy)
  refine M.o_iter (fun (w : Nat) (y : List Dem × Int) => w = Int.toNat (n - y.2) /\ (20 <= y.2 /\ y.2 <= 2000) /\ Mv l y.1 0 n /\ ∀ t' : Nat, ∀ i j, (t' : Int) * y.2 <= i -> i < j -> j < (t' : Int) * y.2 + y.2 -> j < n -> dp (G y.1 j) <= dp (G y.1 i)) ?_ _ _ ⟨rfl, ⟨by dsimp only; omega, by dsimp only; omega⟩, hm.trans (km.mono (by omega) (by omega) (Int.le_refl _)), hb0⟩
  rintro _ ⟨q2, bs⟩ ⟨rfl, ⟨bs0, bs1⟩, hm2, hb2⟩
  dsimp only at bs0 bs1 hm2 hb2
  have ln2 := hm2.ln
  simp only [zcd]
  refine M.o_if (fun hlt => ?_) (fun hlt => M.o_pure ⟨hm2, fun i j g1 g2 g3 => ?_⟩)
  · have hlt := of_decide_eq_true hlt
    refine M.o_grd (gA2 (by omega) (by omega)) ?_
    -- pairs of blocks
    refine M.o_bind (P := fun y => Mv l y.2.2 0 n /\ ∃ t : Nat, y.2.1 = 2 * ((t : Int) * bs) /\ y.2.1 <= n /\ n < y.2.1 + 2 * bs /\ (∀ t' : Nat, t' < t -> Srt dp y.2.2 (2 * ((t' : Int) * bs)) (2 * ((t' : Int) * bs) + 2 * bs)) /\ ∀ p : Nat, y.2.1 <= (p : Int) * bs -> ∀ i j, (p : Int) * bs <= i -> i < j -> j < (p : Int) * bs + bs -> j < n -> dp (G y.2.2 j) <= dp (G y.2.2 i)) ?_ ?_
    · refine M.o_iter (fun (w : Nat) (y : List Dem × Int × Int) => w = Int.toNat (n - y.2.1) /\ y.2.2 = y.2.1 + 2 * bs /\ Mv l y.1 0 n /\ ∃ t : Nat, y.2.1 = 2 * ((t : Int) * bs) /\ y.2.1 <= n /\ (∀ t' : Nat, t' < t -> Srt dp y.1 (2 * ((t' : Int) * bs)) (2 * ((t' : Int) * bs) + 2 * bs)) /\ ∀ p : Nat, y.2.1 <= (p : Int) * bs -> ∀ i j, (p : Int) * bs <= i -> i < j -> j < (p : Int) * bs + bs -> j < n -> dp (G y.1 j) <= dp (G y.1 i)) ?_ _ _ ⟨rfl, by dsimp only; omega, hm2, 0, by dsimp only; omega, by dsimp only; omega, fun t' h => by omega, fun p _ => hb2 p⟩
      rintro _ ⟨q3, a3, b3⟩ ⟨rfl, e3, hm3, t3, e4, h7, hs3, hr3⟩
      dsimp only at e3 hm3 e4 h7 hs3 hr3
      have ln3 := hm3.ln
      have f1 : ((2 * t3 : Nat) : Int) * bs = a3 := by rw [show ((2 * t3 : Nat) : Int) = 2 * (t3 : Int) by omega, Int.mul_assoc, e4]
      have f2 : ((2 * t3 + 1 : Nat) : Int) * bs = a3 + bs := by rw [show ((2 * t3 + 1 : Nat) : Int) = 2 * (t3 : Int) + 1 by omega, Int.add_mul, Int.mul_assoc, Int.one_mul, e4]
      simp only [zb6]
      have t0 : 0 <= (t3 : Int) * bs := Int.mul_nonneg (by omega) (by omega)
      refine M.o_if (fun hb => ?_) (fun hb => M.o_pure ?_)
      · have hb := of_decide_eq_true hb
        refine M.o_grd (gA2 (by omega) (by omega)) (M.o_bind (sym_out hc _ q3 a3 (a3 + bs) b3 rfl (by omega) (by omega) (by omega) (by omega) (by omega) (fun d hd => ho d (hm3.pm.mem_iff.1 hd)) ?_ ?_) ?_)
        · intro i j g1 g2 g3
          exact hr3 (2 * t3) (by omega) i j (by omega) g2 (by omega) (by omega)
        · intro i j g1 g2 g3
          exact hr3 (2 * t3 + 1) (by omega) i j (by omega) g2 (by omega) (by omega)
        · rintro q4 ⟨km4, ks4⟩
          refine M.o_grd (gA2 (by omega) (by omega)) (M.o_pure ⟨Int.toNat (n - b3), by omega, rfl, rfl, hm3.trans (km4.mono (by omega) (by omega) (by omega)), t3 + 1, ?_, hb, fun t' h => ?_, fun p hp i j g1 g2 g3 g4 => ?_⟩)
          · dsimp only
            rw [show ((t3 + 1 : Nat) : Int) = (t3 : Int) + 1 by omega, Int.add_mul, Int.one_mul]
            omega
          · dsimp only
            by_cases c : t' = t3
            · subst c
              rw [← e4, ← e3]
              exact ks4
            · have k1 : ((t' : Int) + 1) * bs <= (t3 : Int) * bs := Int.mul_le_mul_of_nonneg_right (by omega) (by omega)
              rw [Int.add_mul, Int.one_mul] at k1
              have k2 : 0 <= (t' : Int) * bs := Int.mul_nonneg (by omega) (by omega)
              exact (hs3 t' (by omega)).same km4 (by omega) (.inl (by omega))
          · dsimp only at hp ⊢
            rw [km4.fr i (by omega) (by omega), km4.fr j (by omega) (by omega)]
            exact hr3 p (by omega) i j g1 g2 g3 g4
      · have hb := of_decide_eq_false hb
        exact ⟨hm3, t3, e4, h7, by dsimp only; omega, hs3, hr3⟩
    rintro ⟨_, a3, q3⟩ ⟨hm3, t3, e4, h7, h8, hs3, hr3⟩
    dsimp only at hm3 e4 h7 h8 hs3 hr3 ⊢
    have ln3 := hm3.ln
    have f1 : ((2 * t3 : Nat) : Int) * bs = a3 := by rw [show ((2 * t3 : Nat) : Int) = 2 * (t3 : Int) by omega, Int.mul_assoc, e4]
    have f2 : ((2 * t3 + 1 : Nat) : Int) * bs = a3 + bs := by rw [show ((2 * t3 + 1 : Nat) : Int) = 2 * (t3 : Int) + 1 by omega, Int.add_mul, Int.mul_assoc, Int.one_mul, e4]
    have t0 : 0 <= (t3 : Int) * bs := Int.mul_nonneg (by omega) (by omega)
    have fin : ∀ q4 : List Dem, Mv q3 q4 a3 n -> Srt dp q4 a3 n -> ∀ t' : Nat, ∀ i j, (t' : Int) * (bs * 2) <= i -> i < j -> j < (t' : Int) * (bs * 2) + bs * 2 -> j < n -> dp (G q4 j) <= dp (G q4 i) := by
      intro q4 km4 ks4 t' i j g1 g2 g3 g4
      have k0 : (t' : Int) * (bs * 2) = 2 * ((t' : Int) * bs) := by rw [← Int.mul_assoc, Int.mul_comm]
      rw [k0] at g1 g3
      have k2 : 0 <= (t' : Int) * bs := Int.mul_nonneg (by omega) (by omega)
      rcases Nat.lt_trichotomy t' t3 with c | c | c
      · have k1 : ((t' : Int) + 1) * bs <= (t3 : Int) * bs := Int.mul_le_mul_of_nonneg_right (by omega) (by omega)
        rw [Int.add_mul, Int.one_mul] at k1
        exact ((hs3 t' c).same km4 (by omega) (.inl (by omega))) i j g1 g2 (by omega)
      · subst c
        exact ks4 i j (by omega) g2 g4
      · have k1 : ((t3 : Int) + 1) * bs <= (t' : Int) * bs := Int.mul_le_mul_of_nonneg_right (by omega) (by omega)
        rw [Int.add_mul, Int.one_mul] at k1
        omega
    refine M.o_grd (gA2 (by omega) (by omega)) (M.o_if (fun hb => ?_) (fun hb => ?_))
    · have hb := of_decide_eq_true hb
      refine M.o_bind (sym_out hc _ q3 a3 (a3 + bs) n rfl (by omega) (by omega) hb (by omega) (by omega) (fun d hd => ho d (hm3.pm.mem_iff.1 hd)) ?_ ?_) ?_
      · intro i j g1 g2 g3
        exact hr3 (2 * t3) (by omega) i j (by omega) g2 (by omega) (by omega)
      · intro i j g1 g2 g3
        exact hr3 (2 * t3 + 1) (by omega) i j (by omega) g2 (by omega) g3
      · rintro q4 ⟨km4, ks4⟩
        exact M.o_grd (gA2 (by omega) (by omega)) (M.o_pure ⟨Int.toNat (n - bs * 2), by omega, rfl, ⟨by dsimp only; omega, by dsimp only; omega⟩, hm3.trans (km4.mono (by omega) (by omega) (Int.le_refl _)), fin q4 km4 ks4⟩)
    · have hb := of_decide_eq_false hb
      refine M.o_grd (gA2 (by omega) (by omega)) (M.o_pure ⟨Int.toNat (n - bs * 2), by omega, rfl, ⟨by dsimp only; omega, by dsimp only; omega⟩, hm3, fin q3 (Mv.refl _ _ _) fun i j g1 g2 g3 => ?_⟩)
      exact hr3 (2 * t3) (by omega) i j (by omega) g2 (by omega) g3
  · have hlt := of_decide_eq_false hlt
    exact hb2 0 i j (by omega) g2 (by omega) g3
theorem sort_out {l : List Dem} (h4 : l.length <= 1000) (ho : ∀ d ∈ l, ok d) :
    (zcg l dn tr sp tw dl dh fl dn tr sp tw dl dh fl).Out (fun l' => l'.Perm l /\ Srt dp l' 0 l.length) := by
  unfold zcg
  exact M.o_bind (stable_out hc h4 ho) fun l' h => M.o_pure ⟨h.1.pm, h.2⟩
end
end Go.Proofs.Ytbaehghammbjdaa
namespace Go.Proofs.Ytbaehghammbjdaa
open Go Go.Nm
theorem awake_ends : (zcq).Ends true := ⟨300, by kernel_rfl⟩
end Go.Proofs.Ytbaehghammbjdaa
