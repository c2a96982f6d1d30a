/- Part 4 of the texts on which the proof rests. Conditions: none. -/
import Derived.Test.YtndobgodeicloaaZD3
set_option linter.unusedVariables false
set_option linter.unusedSimpArgs false
set_option linter.unusedSectionVars false
section
set_option maxRecDepth 100000
set_option maxHeartbeats 16000000
namespace Go.Proofs.Ytndobgodeicloaa
open Go Go.Nm
def zaC (w_ : List Work) : ((List Int) × Nat) -> M (((List Int) × Nat) ⊕ ((List Int) × (List Int))) := fun (l, s) =>
  bif decide ((s : Int) < ((List.replicate (w_.length) (0 : Int)).length : Int)) then (
  M.grd (decide ((s : Int) < (l.length : Int))) <|
  M.pure (.inl (l.set s (s : Int), s + 1)))
  else (
  M.pure (.inr (l, l)))
def zbk (w_ : List Work) (revised : List Int) (work : Int) (aa : Int) (ac : Gate -> Option Int) (ae : Int -> Option Bool) (l3 : List Int) : ((List Int) × Int) -> M (((List Int) × Int) ⊕ ((List Int) × (List Int))) := fun (l4, s2) =>
  bif s2 != work then (
  M.grd (decide ((l4.length + ([(s2 : Int)]).length) * 8 <= 140737488355328)) <|
  M.bind (zav l3 (fun ag => zbO ag w_ revised aa ac ae s2)) fun r4 =>
  M.pure (.inl (l4 ++ ([(s2 : Int)]), r4)))
  else (
  M.pure (.inr (l4, l4)))
def zbp (w_ : List Work) (revised : List Int) (work : Int) (ac : Int) (ae : Gate -> Option Int) (ag : Int -> Option Bool) (l3 : List Int) (s4 : Nat) : (Nat × (List (List Int))) -> M ((Nat × (List (List Int))) ⊕ ((List (List Int)) × (List (List Int)))) := fun (s3, aa) =>
  bif decide ((s3 : Int) < (l3.length : Int)) then (
  M.grd (decide ((s3 : Int) < (l3.length : Int))) <|
  M.bind (zag w_ revised ac ae ag (l3.getD s3 0)) fun r2 =>
  M.bind (M.opt (!(!r2)) (zaZ (revised.getD s4 0) (l3.getD s3 0) w_ revised ac ae ag) false) fun r3 =>
  bif ((!r2) || (!r3)) then (
  M.pure (.inl (s3 + 1, aa)))
  else (
  M.bind (M.iter (zbk w_ revised work ac ae ag l3) ([(revised.getD s4 0 : Int)], l3.getD s3 0)) fun (l5, l6) =>
  M.grd (decide ((l6.length + ([(work : Int)]).length) * 8 <= 140737488355328)) <|
  M.grd (decide ((aa.length + ([l6 ++ ([(work : Int)])]).length) * 24 <= 140737488355328)) <|
  M.pure (.inl (s3 + 1, aa ++ ([l6 ++ ([(work : Int)])])))))
  else (
  M.pure (.inr (aa, aa)))
def zaL (w_ : List Work) (revised : List Int) (work : Int) (ac : Int) (ae : Gate -> Option Int) (ag : Int -> Option Bool) (l3 : List Int) : (Nat × (List (List Int))) -> M ((Nat × (List (List Int))) ⊕ ((List (List Int)) × (List (List Int)))) := fun (s4, aa) =>
  bif decide ((s4 : Int) < (revised.length : Int)) then (
  M.grd (decide ((s4 : Int) < (revised.length : Int))) <|
  M.bind (M.iter (zbp w_ revised work ac ae ag l3 s4) (0, aa)) fun (l8, ah) =>
  M.pure (.inl (s4 + 1, ah)))
  else (
  M.pure (.inr (aa, aa)))
def zaq (w_ : List Work) (revised : List Int) (work : Int) : M ((List (List Int)) × Int) :=
  M.bind (zao w_ revised work) fun x_ => match x_ with
  | (.inl r1) => (
  bif r1 != 0 then (
  M.pure (([]), r1))
  else (
  M.fail))
  | (.inr (aa, ac, ae, ag)) => (
  bif ag != 0 then (
  M.fail)
  else (
  M.grd (decide ((0 : Int) <= (w_.length : Int)) && decide ((8 : Int) * (w_.length : Int) <= 281474976710656) && decide ((w_.length : Int) <= (9223372036854775807 : Int))) <|
  M.bind (M.iter (zaC w_) (List.replicate (w_.length) (0 : Int), 0)) fun (l2, l3) =>
  M.bind (M.iter (zaL w_ revised work aa ac ae l3) (0, [])) fun (ai, ah) =>
  M.pure (ah, 0)))
theorem zcx {R : List Chunk} {bo : Cells} {aG : Value} {bp : Cells} {ah : Value} (w_ : List Work) (revised : List Int) (work : Int) (aS : Reads R bo) (aC : Sl bo aG w_) (aH : Reads R bp) (ay : Sl bp ah revised) {r : ((List (List Int)) × Int)} (hM : (zaq w_ revised work).Ends r) (w : World) (H : St w w [] R) : Ret Try.prog 65 #[aG, ah, I work] w fun v w' => ∃ (y0 : List (List Int)) (y1 : Int) (u0 : Value) (rr1 : List (Raw 0)) (bq : Base), (y0, y1) = r /\ v = .tuple #[u0, I y1] /\ St w w' [cOwn (α := Raw 0) 34 u0 rr1, cRo bq] R /\ RepR (α := List Int) bq.cells rr1 y0 := by
 refine ret_of_W Try.func65 rfl rfl rfl ?_
 refine sQ rfl <| sA (.slice none 0 0) rfl <| sA (I 0) rfl <| s_nil <| sQ rfl <| sM aG rfl <| sM ah rfl <| sM (I work) rfl ?_
 obtain ⟨cH, bI, hM⟩ := M.e_bind hM
 refine s_call cf125 [aG, ah, I work] rfl (zcy w_ revised work (aS.app _) aC (aH.app _) ay bI _ (St.give (T := []) H rfl)) ?_
 rintro vq br (⟨r1, bJ, hvq, aw⟩ | ⟨aj, ak, al, az, ac, ao, ap, ae, ag, bK, hvq, aw, aY⟩)
 ·subst bJ
  subst vq
  try dsimp only at hM
  replace H : St w br [] R := H.back aw rfl
  clear aw
  refine sM (.tuple #[.pointer none, I r1]) rfl <| sX [.pointer none, I r1] (.pointer none) rfl rfl <| sX [.pointer none, I r1] (I r1) rfl rfl ?_
  refine t_alloc (cs := [.pointer none]) H Al174 rfl ?_
  intro aa cI H
  refine t_st (k := 0) (b := aa) (off := 0) (cs := [.pointer none]) (vs := [.pointer none]) (cs' := [.pointer none]) (v := .pointer none) (L' := [cBlk aa [.pointer none] 174]) H rfl rfl rfl Sz174 rfl rfl rfl rfl rfl rfl ?_
  intro bL H
  refine sA (I r1) rfl <| s_nil <| W.seq <| sQ rfl <| sM (I r1) rfl <| sC _ _ (r1 != 0) rfl rfl rfl <| s_nil ?_
  refine W.cond (r1 != 0) rfl (fun aT => ?_) (fun aT => ?_)
  ·replace hM := M.e_t hM aT
   simp only [qz1, qz2, qz3, qz4, qz5, qz6, ne_eq, qz7] at aT
   refine sQ rfl <| sM (I r1) rfl <| sA (.slice none 0 0) rfl <| sA (I r1) rfl <| s_nil ?_
   refine W.ret ?_
   have aI := M.e_pure hM
   obtain ⟨aZ, H⟩ := H.emptyE
   replace H : St w bL [cOwn (α := Raw 0) 34 (.slice none 0 0) ([]), cRo aZ, cBlk aa [.pointer none] 174] R := H.nilOwn (α := Raw 0) 34
   have bM : RepR (α := List Int) (n := 0) aZ.cells [] [] := .nil
   exact ⟨_, resE_tmp2 rfl, ⟨([]), r1, (.slice none 0 0), [], aZ, aI, rfl, (H.pick [0, 1] (by decide) rfl), bM⟩⟩
  replace hM := M.e_f hM aT
  exact (M.e_fail hM).elim
 subst bK
 subst vq
 try dsimp only at hM
 replace H : St w br [cBlk ac [Pz ao, ah, I aj, .map (some ae), .map (some ag)] 180, cRo ap, cMap encG I ae ak, cMap I B ag al] R := H.back aw rfl
 clear aw
 refine sM (.tuple #[Pz ac, I az]) rfl <| sX [Pz ac, I az] (Pz ac) rfl rfl <| sX [Pz ac, I az] (I az) rfl rfl ?_
 refine t_alloc (cs := [.pointer none]) H Al174 rfl ?_
 intro aa cJ H
 refine t_st (k := 0) (b := aa) (off := 0) (cs := [.pointer none]) (vs := [Pz ac]) (cs' := [Pz ac]) (v := Pz ac) (L' := [cBlk aa [Pz ac] 174, cBlk ac [Pz ao, ah, I aj, .map (some ae), .map (some ag)] 180, cRo ap, cMap encG I ae ak, cMap I B ag al]) H rfl rfl rfl Sz174 rfl rfl rfl rfl rfl rfl ?_
 intro cK H
 refine sA (I az) rfl <| s_nil <| W.seq <| sQ rfl <| sM (I az) rfl <| sC _ _ (az != 0) rfl rfl rfl <| s_nil ?_
 refine W.cond (az != 0) rfl (fun aU => ?_) (fun aU => ?_)
 ·replace hM := M.e_t hM aU
  exact (M.e_fail hM).elim
 replace hM := M.e_f hM aU
 simp only [qz1, qz2, qz3, qz4, qz5, qz6, ne_eq, qz7] at aU
 refine W.skip <| sQ rfl <| s_val (x_mf (fs := []) (cs := [Pz aa]) rfl rfl) ?_
 refine t_alloc (cs := [.nilFunc]) H Al183 rfl ?_
 intro am cL H
 refine t_st (k := 0) (b := am) (off := 0) (cs := [.nilFunc]) (vs := [.func (.func 128) #[] #[Pz aa]]) (cs' := [.func (.func 128) #[] #[Pz aa]]) (v := .func (.func 128) #[] #[Pz aa]) (L' := [cBlk am [.func (.func 128) #[] #[Pz aa]] 183, cBlk aa [Pz ac] 174, cBlk ac [Pz ao, ah, I aj, .map (some ae), .map (some ag)] 180, cRo ap, cMap encG I ae ak, cMap I B ag al]) H rfl rfl rfl Sz183 rfl rfl rfl rfl rfl rfl ?_
 intro cM H
 refine s_nil <| sQ rfl <| sM aG rfl ?_
 have cN := (aC).len_le
 refine s_val (x_lenS T22.und rfl aC) ?_
 obtain ⟨cO, hM⟩ := M.e_gd hM
 refine t_mk (α := Int) T34 (0 : Int) rfl (n := (w_.length : Int)) H rfl rfl (by omega) (by omega) (by omega) ?_
 intro aV bN H
 replace H : St w bN [cOwn (α := Int) 3 aV (List.replicate (w_.length) (0 : Int)), cBlk am [.func (.func 128) #[] #[Pz aa]] 183, cBlk aa [Pz ac] 174, cBlk ac [Pz ao, ah, I aj, .map (some ae), .map (some ag)] 180, cRo ap, cMap encG I ae ak, cMap I B ag al] R := H
 refine sA aV rfl <| s_nil <| W.seq <| sQ rfl <| sM aV rfl ?_
 have cP := ((ownSl (H.get (k := 0) rfl))).len_le
 refine s_val (x_lenS T34.und rfl (ownSl (H.get (k := 0) rfl))) <| sM (I 0) rfl <| s_nil <| W.block ?_
 obtain ⟨bO, a5, bP⟩ := M.e_bind hM
 obtain ⟨a6, a5⟩ := M.e_iter a5
 refine W.loop (fun m σ W => ∃ (l : List Int) (s : Nat) (ai : Value) (ρ : Env), σ = upds ρ [(1, ah), (2, I work), (8, Pz aa), (10, Pz am), (11, ai), (35, I ((List.replicate (w_.length) (0 : Int)).length : Int)), (36, I (s : Int))] /\ M.iterN (zaC w_) m (l, s) = some bO /\ St w W [cOwn (α := Int) 3 ai l, cBlk am [.func (.func 128) #[] #[Pz aa]] 183, cBlk aa [Pz ac] 174, cBlk ac [Pz ao, ah, I aj, .map (some ae), .map (some ag)] 180, cRo ap, cMap encG I ae ak, cMap I B ag al] R) ?_ ?_
 ·exact ⟨_, List.replicate (w_.length) (0 : Int), 0, aV, _, upds_of _ _ ⟨rfl, rfl, rfl, rfl, rfl, rfl, rfl, trivial⟩, a5, H⟩
 rintro cQ σ bQ ⟨l, s, ai, ρ, rfl, bt, H⟩
 obtain ⟨bR, bS, cR, hM, bu⟩ := M.e_iterN bt
 simp only [zaC] at hM
 clear bt
 refine sQ rfl <| sC _ _ (decide ((s : Int) < ((List.replicate (w_.length) (0 : Int)).length : Int))) rfl rfl rfl <| s_nil <| W.seq ?_
 refine W.cond (decide ((s : Int) < ((List.replicate (w_.length) (0 : Int)).length : Int))) rfl (fun aJ => ?_) (fun aJ => ?_)
 ·replace hM := M.e_t hM aJ
  simp only [qz1, qz2, qz3, qz4, qz5, qz6, ne_eq, qz7] at aJ
  refine W.skip <| W.seq <| W.block <| sQ rfl <| sM (I (s : Int)) rfl <| sA (I (s : Int)) rfl <| s_nil <| W.region rfl <| sM ai rfl <| sM (I (s : Int)) rfl <| sM (I (s : Int)) rfl ?_
  obtain ⟨cS, hM⟩ := M.e_gd hM
  refine s_val (x_ix (v := vat ai 1 (Int.toNat (s : Int))) rfl rfl (Sl.ix (α := Int) T34.und T34.size (ownSl (H.get (k := 0) rfl)) (by omega) (by omega))) ?_
  refine t_ost (k := 0) (i := (s : Int)) (l := l) (l' := l.set s (s : Int)) (val := I (s : Int)) (L' := [cOwn (α := Int) 3 ai (l.set s (s : Int)), cBlk am [.func (.func 128) #[] #[Pz aa]] 183, cBlk aa [Pz ac] 174, cBlk ac [Pz ao, ah, I aj, .map (some ae), .map (some ag)] 180, cRo ap, cMap encG I ae ak, cMap I B ag al]) H rfl Sz3 (by omega) (by omega) (s : Int) rfl rfl rfl rfl rfl ?_
  intro cT H
  refine s_nil <| W.region rfl <| sR _ _ ((s : Int) + 1) rfl rfl rfl (by omega) <| sM (I ((s : Int) + 1)) rfl <| s_nil ?_
  exact ⟨bR, bS, l.set s (s : Int), s + 1, ai, _, upds_of _ _ ⟨rfl, rfl, rfl, rfl, rfl, rfl, rfl, trivial⟩, M.e_inl hM bu, H⟩
 replace hM := M.e_f hM aJ
 simp only [qz1, qz2, qz3, qz4, qz5, qz6, ne_eq, qz7] at aJ
 refine W.exit ?_
 have bT := M.e_inr hM bu
 subst bT
 replace hM := bP
 try dsimp only at hM
 refine sQ rfl <| sA (.slice none 0 0) rfl <| s_nil <| W.seq <| sQ rfl <| sM ah rfl ?_
 have cU := (ay).len_le
 refine s_val (x_lenS T34.und rfl ay) <| sM (I 0) rfl <| s_nil <| W.block ?_
 obtain ⟨a7, H⟩ := H.emptyE
 replace H : St w bQ [cOwn (α := Raw 0) 34 (.slice none 0 0) ([]), cRo a7, cOwn (α := Int) 3 ai l, cBlk am [.func (.func 128) #[] #[Pz aa]] 183, cBlk aa [Pz ac] 174, cBlk ac [Pz ao, ah, I aj, .map (some ae), .map (some ag)] 180, cRo ap, cMap encG I ae ak, cMap I B ag al] R := H.nilOwn (α := Raw 0) 34
 have bU : RepR (α := List Int) (n := 0) a7.cells [] [] := .nil
 obtain ⟨bV, a8, bW⟩ := M.e_bind hM
 obtain ⟨a6, a8⟩ := M.e_iter a8
 refine W.loop (fun m σ W => ∃ (s4 : Nat) (aK : List (List Int)) (aA : Value) (aL : List (Raw 0)) (B_l12 : Base) (ρ : Env), σ = upds ρ [(2, I work), (8, Pz aa), (10, Pz am), (11, ai), (13, aA), (44, ah), (45, I (revised.length : Int)), (46, I (s4 : Int))] /\ M.iterN (zaL w_ revised work aj ak al l) m (s4, aK) = some bV /\ St w W [cOwn (α := Raw 0) 34 aA aL, cRo B_l12, cOwn (α := Int) 3 ai l, cBlk am [.func (.func 128) #[] #[Pz aa]] 183, cBlk aa [Pz ac] 174, cBlk ac [Pz ao, ah, I aj, .map (some ae), .map (some ag)] 180, cRo ap, cMap encG I ae ak, cMap I B ag al] R /\ RepR (α := List Int) B_l12.cells aL aK) ?_ ?_
 ·exact ⟨_, 0, [], (.slice none 0 0), [], a7, _, upds_of _ _ ⟨rfl, rfl, rfl, rfl, rfl, rfl, rfl, rfl, trivial⟩, a8, H, bU⟩
 rintro cV σ cW ⟨s4, aK, aA, aL, B_l12, ρ, rfl, bv, H, bw⟩
 obtain ⟨bX, bY, cX, hM, bx⟩ := M.e_iterN bv
 simp only [zaL] at hM
 clear bv
 refine sQ rfl <| sC _ _ (decide ((s4 : Int) < (revised.length : Int))) rfl rfl rfl <| s_nil <| W.seq ?_
 refine W.cond (decide ((s4 : Int) < (revised.length : Int))) rfl (fun aM => ?_) (fun aM => ?_)
 ·replace hM := M.e_t hM aM
  simp only [qz1, qz2, qz3, qz4, qz5, qz6, ne_eq, qz7] at aM
  refine W.skip <| W.seq <| W.block <| sQ rfl ?_
  obtain ⟨cY, hM⟩ := M.e_gd hM
  refine s_val (x_ix (v := vat ah 1 (Int.toNat (s4 : Int))) rfl rfl (Sl.ix (α := Int) T34.und T34.size ay (by omega) (by omega))) <| s_val (x_ld (v := I (revised.getD s4 0)) rfl (ld_sc Sc3 (At.mono (Int_at ay (i := (s4 : Int)) (by omega) (by omega)) (aH.at H)))) <| sA (I (revised.getD s4 0)) rfl <| s_nil <| sQ rfl <| sM ai rfl ?_
  have cZ := ((ownSl (H.get (k := 2) rfl))).len_le
  refine s_val (x_lenS T34.und rfl (ownSl (H.get (k := 2) rfl))) <| sM (I 0) rfl <| s_nil <| W.block ?_
  obtain ⟨bZ, a9, b6⟩ := M.e_bind hM
  obtain ⟨a6, a9⟩ := M.e_iter a9
  refine W.loop (fun m σ W => ∃ (s3 : Nat) (aD : List (List Int)) (au : Value) (aq : List (Raw 0)) (B_l10 : Base) (ρ : Env), σ = upds ρ [(2, I work), (8, Pz aa), (10, Pz am), (11, ai), (13, au), (15, I (revised.getD s4 0)), (44, ah), (45, I (revised.length : Int)), (46, I (s4 : Int)), (50, ai), (51, I (l.length : Int)), (52, I (s3 : Int))] /\ M.iterN (zbp w_ revised work aj ak al l s4) m (s3, aD) = some bZ /\ St w W [cOwn (α := Raw 0) 34 au aq, cRo B_l10, cOwn (α := Int) 3 ai l, cBlk am [.func (.func 128) #[] #[Pz aa]] 183, cBlk aa [Pz ac] 174, cBlk ac [Pz ao, ah, I aj, .map (some ae), .map (some ag)] 180, cRo ap, cMap encG I ae ak, cMap I B ag al] R /\ RepR (α := List Int) B_l10.cells aq aD) ?_ ?_
  ·exact ⟨_, 0, aK, aA, aL, B_l12, _, upds_of _ _ ⟨rfl, rfl, rfl, rfl, rfl, rfl, rfl, rfl, rfl, rfl, rfl, rfl, trivial⟩, a9, H, bw⟩
  rintro da σ db ⟨s3, aD, au, aq, B_l10, ρ, rfl, bz, H, aE⟩
  obtain ⟨bA, bB, dc, hM, ba⟩ := M.e_iterN bz
  simp only [zbp] at hM
  clear bz
  refine sQ rfl <| sC _ _ (decide ((s3 : Int) < (l.length : Int))) rfl rfl rfl <| s_nil <| W.seq ?_
  refine W.cond (decide ((s3 : Int) < (l.length : Int))) rfl (fun aN => ?_) (fun aN => ?_)
  ·replace hM := M.e_t hM aN
   simp only [qz1, qz2, qz3, qz4, qz5, qz6, ne_eq, qz7] at aN
   refine W.skip <| W.seq <| W.block <| sQ rfl ?_
   obtain ⟨dd, hM⟩ := M.e_gd hM
   refine s_val (x_ix (v := vat ai 1 (Int.toNat (s3 : Int))) rfl rfl (Sl.ix (α := Int) T34.und T34.size (ownSl (H.get (k := 2) rfl)) (by omega) (by omega))) <| s_val (x_ld (v := I (l.getD s3 0)) rfl (ld_sc Sc3 (At.mono (Int_at (ownSl (H.get (k := 2) rfl)) (i := (s3 : Int)) (by omega) (by omega)) (ownLe _ (H.get (k := 2) rfl))))) <| sA (I (l.getD s3 0)) rfl <| s_nil <| W.seq <| sQ rfl <| s_val (x_ld (v := Pz ac) rfl (ldb_sc Sc174 (H.blk (k := 4) rfl) rfl)) <| sM (I (l.getD s3 0)) rfl ?_
   obtain ⟨de, b9, hM⟩ := M.e_bind hM
   refine s_call cf127 [Pz ac, I (l.getD s3 0)] rfl (zbN w_ revised aj ak al (l.getD s3 0) (aS.app _) aC (Has.ro (k := 6) rfl aY) (aH.app _) ay (Has.here (k := 7) rfl) (Has.here (k := 8) rfl) (Has.here (k := 5) rfl) b9 _ (St.give (T := [cOwn (α := Raw 0) 34 au aq, cRo B_l10, cOwn (α := Int) 3 ai l, cBlk am [.func (.func 128) #[] #[Pz aa]] 183, cBlk aa [Pz ac] 174, cBlk ac [Pz ao, ah, I aj, .map (some ae), .map (some ag)] 180, cRo ap, cMap encG I ae ak, cMap I B ag al]) H rfl)) ?_
   rintro vq ca ⟨r2, cb, hvq, aw⟩
   subst cb
   subst vq
   try dsimp only at hM
   replace H : St w ca [cOwn (α := Raw 0) 34 au aq, cRo B_l10, cOwn (α := Int) 3 ai l, cBlk am [.func (.func 128) #[] #[Pz aa]] 183, cBlk aa [Pz ac] 174, cBlk ac [Pz ao, ah, I aj, .map (some ae), .map (some ag)] 180, cRo ap, cMap encG I ae ak, cMap I B ag al] R := H.back aw rfl
   clear aw
   refine s_val (x_not (b := r2) rfl) <| sM (B (!r2)) rfl <| g_val (!(!r2)) (gy_f rfl) (fun hg => x_ld (v := .func (.func 128) #[] #[Pz aa]) rfl (ldb_sc Sc183 (H.blk (k := 3) rfl) rfl)) <| g_val (!(!r2)) (gy_f rfl) (fun hg => x_mv (v := I (revised.getD s4 0)) rfl) <| g_val (!(!r2)) (gy_f rfl) (fun hg => x_mv (v := I (l.getD s3 0)) rfl) ?_
   obtain ⟨r3, cc, hM⟩ := M.e_bind hM
   refine t_gcallv (cap := [Pz aa]) (!(!r2)) (gy_f rfl) cf128 (fun hg => (gd_of hg (.func (.func 128) #[] #[Pz aa]))) (B r3) (fun _ => [I (revised.getD s4 0), I (l.getD s3 0)]) (fun hg => lst2 (gd_of hg (I (revised.getD s4 0))) (gd_of hg (I (l.getD s3 0)))) H (fun hg => (zcV (revised.getD s4 0) (l.getD s3 0) w_ revised aj ak al (aS.app _) aC (Has.ro (k := 6) rfl aY) (aH.app _) ay (Has.here (k := 7) rfl) (Has.here (k := 8) rfl) (Has.here (k := 5) rfl) (Has.here (k := 4) rfl) (M.e_opt cc hg) _ (H.give (A := []) rfl)).mono fun v_ w_ ⟨y_, aI, cd, H_⟩ => by subst aI; exact ⟨cd, H.via H_⟩) ?_
   intro dg H
   refine g_val (!(!r2)) (gy_f rfl) (fun hg => x_not (b := r3) (gd_of hg (B r3))) <| s_val (x_por (b := !r2) (r := !r3) rfl rfl (fun hb => gd_of (c := !(!r2)) (by first | exact hb | (rw [hb]; rfl) | simp_all) (B (!r3)))) <| s_nil ?_
   refine W.cond ((!r2) || (!r3)) rfl (fun bb => ?_) (fun bb => ?_)
   ·replace hM := M.e_t hM bb
    refine W.exit ?_
    refine W.region rfl <| sR _ _ ((s3 : Int) + 1) rfl rfl rfl (by omega) <| sM (I ((s3 : Int) + 1)) rfl <| s_nil ?_
    exact ⟨bA, bB, s3 + 1, aD, au, aq, B_l10, _, upds_of _ _ ⟨rfl, rfl, rfl, rfl, rfl, rfl, rfl, rfl, rfl, rfl, rfl, rfl, trivial⟩, M.e_inl hM ba, H, aE⟩
   replace hM := M.e_f hM bb
   refine W.skip <| sQ rfl <| sM (I (revised.getD s4 0)) rfl ?_
   refine t_bs (α := Int) T34 [I (revised.getD s4 0)] [(revised.getD s4 0 : Int)] H rfl (.cons rfl (Flat.rep_enc _ (revised.getD s4 0 : Int)) <| .nil) rfl rfl rfl ?_
   intro bc dh H
   refine sA bc rfl <| s_nil <| W.seq <| sQ rfl <| sM (I (l.getD s3 0)) rfl ?_
   refine t_alloc (cs := [I 0]) H Al3 rfl ?_
   intro bf di H
   refine t_st (k := 0) (b := bf) (off := 0) (cs := [I 0]) (vs := [I (l.getD s3 0)]) (cs' := [I (l.getD s3 0)]) (v := I (l.getD s3 0)) (L' := [cBlk bf [I (l.getD s3 0)] 3, cOwn (α := Int) 3 bc ([(revised.getD s4 0 : Int)]), cOwn (α := Raw 0) 34 au aq, cRo B_l10, cOwn (α := Int) 3 ai l, cBlk am [.func (.func 128) #[] #[Pz aa]] 183, cBlk aa [Pz ac] 174, cBlk ac [Pz ao, ah, I aj, .map (some ae), .map (some ag)] 180, cRo ap, cMap encG I ae ak, cMap I B ag al]) H rfl rfl rfl Sz3 rfl rfl rfl rfl rfl rfl ?_
   intro dj H
   refine s_nil <| W.block ?_
   obtain ⟨ce, bg, cf⟩ := M.e_bind hM
   obtain ⟨a6, bg⟩ := M.e_iter bg
   refine W.loop (fun m σ W => ∃ (av : Nat) (l4 : List Int) (s2 : Int) (aO : Value) (ρ : Env), σ = upds ρ [(2, I work), (8, Pz aa), (10, Pz am), (11, ai), (13, au), (15, I (revised.getD s4 0)), (18, aO), (19, Pz av), (44, ah), (45, I (revised.length : Int)), (46, I (s4 : Int)), (50, ai), (51, I (l.length : Int)), (52, I (s3 : Int)), (61, gd (!(!r2)) (.func (.func 128) #[] #[Pz aa])), (62, gd (!(!r2)) (I (revised.getD s4 0))), (63, gd (!(!r2)) (I (l.getD s3 0))), (64, gd (!(!r2)) (B r3)), (65, gd (!(!r2)) (B (!r3)))] /\ M.iterN (zbk w_ revised work aj ak al l) m (l4, s2) = some ce /\ St w W [cBlk av [I s2] 3, cOwn (α := Int) 3 aO l4, cOwn (α := Raw 0) 34 au aq, cRo B_l10, cOwn (α := Int) 3 ai l, cBlk am [.func (.func 128) #[] #[Pz aa]] 183, cBlk aa [Pz ac] 174, cBlk ac [Pz ao, ah, I aj, .map (some ae), .map (some ag)] 180, cRo ap, cMap encG I ae ak, cMap I B ag al] R) ?_ ?_
   ·exact ⟨_, bf, [(revised.getD s4 0 : Int)], l.getD s3 0, bc, _, upds_of _ _ ⟨rfl, rfl, rfl, rfl, rfl, rfl, rfl, rfl, rfl, rfl, rfl, rfl, rfl, rfl, rfl, rfl, rfl, rfl, rfl, trivial⟩, bg, H⟩
   rintro dk σ dl ⟨av, l4, s2, aO, ρ, rfl, bC, H⟩
   obtain ⟨cg, ci, dm, hM, bD⟩ := M.e_iterN bC
   simp only [zbk] at hM
   clear bC
   refine W.seq <| sQ rfl <| s_val (x_ld (v := I s2) rfl (ldb_sc Sc3 (H.blk (k := 0) rfl) rfl)) <| sM (I work) rfl <| sC _ _ (s2 != work) rfl rfl rfl <| s_nil ?_
   refine W.cond (s2 != work) rfl (fun aP => ?_) (fun aP => ?_)
   ·replace hM := M.e_t hM aP
    simp only [qz1, qz2, qz3, qz4, qz5, qz6, ne_eq, qz7] at aP
    refine W.skip <| W.seq <| W.block <| sQ rfl <| sM aO rfl <| s_val (x_ld (v := I s2) rfl (ldb_sc Sc3 (H.blk (k := 0) rfl) rfl)) ?_
    refine t_bs (α := Int) T34 [I s2] [(s2 : Int)] H rfl (.cons rfl (Flat.rep_enc _ (s2 : Int)) <| .nil) rfl rfl rfl ?_
    intro aF dp H
    obtain ⟨dq, hM⟩ := M.e_gd hM
    refine t_app (α := Int) (k := 2) (l := l4) (l2 := [(s2 : Int)]) (l' := l4 ++ ([(s2 : Int)])) (vy := aF) T34 rfl H rfl rfl rfl (ownSl (H.get (k := 0) rfl)) (ownLe _ (H.get (k := 0) rfl)) (rfl) (by first | omega | (simp only [List.length_nil] at *; omega)) ?_
    intro aB cj H
    replace H : St w cj [cOwn (α := Int) 3 aF ([(s2 : Int)]), cBlk av [I s2] 3, cOwn (α := Int) 3 aB (l4 ++ ([(s2 : Int)])), cOwn (α := Raw 0) 34 au aq, cRo B_l10, cOwn (α := Int) 3 ai l, cBlk am [.func (.func 128) #[] #[Pz aa]] 183, cBlk aa [Pz ac] 174, cBlk ac [Pz ao, ah, I aj, .map (some ae), .map (some ag)] 180, cRo ap, cMap encG I ae ak, cMap I B ag al] R := H
    refine sA aB rfl <| s_nil <| W.region rfl <| sM ai rfl <| s_val (x_mf (fs := []) (cs := [Pz am, Pz av]) rfl rfl) ?_
    obtain ⟨dr, ck, hM⟩ := M.e_bind hM
    refine s_call cf102 [ai, .func (.func 129) #[] #[Pz am, Pz av]] rfl (zbh l (fun bh => zbO bh w_ revised aj ak al s2) (Reads.of (k := 5) rfl ownLe) (ownSl (H.get (k := 5) rfl)) ⟨129, [Pz am, Pz av], rfl, cf129, fun bE dt du cm bh dv cn dw co cp => by obtain rfl := Arg.int co; exact (zc1 bh w_ revised aj ak al s2 (Reads.app (aS.app _) _) aC (Has.app (Has.ro (k := 9) rfl aY) _) (Reads.app (aH.app _) _) ay (Has.app (Has.here (k := 10) rfl) _) (Has.app (Has.here (k := 11) rfl) _) (Has.app (Has.here (k := 8) rfl) _) (Has.app (Has.here (k := 7) rfl) _) (Has.app (Has.here (k := 6) rfl) _) (Has.app (Has.here (k := 1) rfl) _) cp bE (St.refl cn)).mono fun cm bE ⟨dx, cq, cr, ct⟩ => by subst cq; exact ⟨cr, ct⟩⟩ ck _ (St.give (T := [cOwn (α := Int) 3 aF ([(s2 : Int)]), cBlk av [I s2] 3, cOwn (α := Int) 3 aB (l4 ++ ([(s2 : Int)])), cOwn (α := Raw 0) 34 au aq, cRo B_l10, cOwn (α := Int) 3 ai l, cBlk am [.func (.func 128) #[] #[Pz aa]] 183, cBlk aa [Pz ac] 174, cBlk ac [Pz ao, ah, I aj, .map (some ae), .map (some ag)] 180, cRo ap, cMap encG I ae ak, cMap I B ag al]) H rfl)) ?_
    rintro vq cu ⟨r4, cv, hvq, aw⟩
    subst cv
    subst vq
    try dsimp only at hM
    replace H : St w cu [cOwn (α := Int) 3 aF ([(s2 : Int)]), cBlk av [I s2] 3, cOwn (α := Int) 3 aB (l4 ++ ([(s2 : Int)])), cOwn (α := Raw 0) 34 au aq, cRo B_l10, cOwn (α := Int) 3 ai l, cBlk am [.func (.func 128) #[] #[Pz aa]] 183, cBlk aa [Pz ac] 174, cBlk ac [Pz ao, ah, I aj, .map (some ae), .map (some ag)] 180, cRo ap, cMap encG I ae ak, cMap I B ag al] R := H.back aw rfl
    clear aw
    refine t_st (k := 1) (b := av) (off := 0) (cs := [I s2]) (vs := [I r4]) (cs' := [I r4]) (v := I r4) (L' := [cOwn (α := Int) 3 aF ([(s2 : Int)]), cBlk av [I r4] 3, cOwn (α := Int) 3 aB (l4 ++ ([(s2 : Int)])), cOwn (α := Raw 0) 34 au aq, cRo B_l10, cOwn (α := Int) 3 ai l, cBlk am [.func (.func 128) #[] #[Pz aa]] 183, cBlk aa [Pz ac] 174, cBlk ac [Pz ao, ah, I aj, .map (some ae), .map (some ag)] 180, cRo ap, cMap encG I ae ak, cMap I B ag al]) H rfl rfl rfl Sz3 rfl rfl rfl rfl rfl rfl ?_
    intro dy H
    refine s_nil <| sQ rfl <| s_val (x_ld (v := I r4) rfl (ldb_sc Sc3 (H.blk (k := 1) rfl) rfl)) <| s_nil <| W.region rfl ?_
    refine t_alloc (cs := [I 0]) H Al3 rfl ?_
    intro bi dz H
    refine t_st (k := 0) (b := bi) (off := 0) (cs := [I 0]) (vs := [I r4]) (cs' := [I r4]) (v := I r4) (L' := [cBlk bi [I r4] 3, cOwn (α := Int) 3 aF ([(s2 : Int)]), cBlk av [I r4] 3, cOwn (α := Int) 3 aB (l4 ++ ([(s2 : Int)])), cOwn (α := Raw 0) 34 au aq, cRo B_l10, cOwn (α := Int) 3 ai l, cBlk am [.func (.func 128) #[] #[Pz aa]] 183, cBlk aa [Pz ac] 174, cBlk ac [Pz ao, ah, I aj, .map (some ae), .map (some ag)] 180, cRo ap, cMap encG I ae ak, cMap I B ag al]) H rfl rfl rfl Sz3 rfl rfl rfl rfl rfl rfl ?_
    intro dA H
    refine s_nil ?_
    exact ⟨cg, ci, bi, l4 ++ ([(s2 : Int)]), r4, aB, _, upds_of _ _ ⟨rfl, rfl, rfl, rfl, rfl, rfl, rfl, rfl, rfl, rfl, rfl, rfl, rfl, rfl, rfl, rfl, rfl, rfl, rfl, trivial⟩, M.e_inl hM bD, (H.pick [0, 3, 4, 5, 6, 7, 8, 9, 10, 11, 12] (by decide) rfl)⟩
   replace hM := M.e_f hM aP
   simp only [qz1, qz2, qz3, qz4, qz5, qz6, ne_eq, qz7] at aP
   refine W.exit ?_
   have cw := M.e_inr hM bD
   subst cw
   replace hM := cf
   try dsimp only at hM
   refine W.region rfl <| sM au rfl <| sM aO rfl <| sM (I work) rfl ?_
   refine t_bs (α := Int) T34 [I work] [(work : Int)] H rfl (.cons rfl (Flat.rep_enc _ (work : Int)) <| .nil) rfl rfl rfl ?_
   intro aQ dB H
   obtain ⟨dC, hM⟩ := M.e_gd hM
   refine t_app (α := Int) (k := 2) (l := l4) (l2 := [(work : Int)]) (l' := l4 ++ ([(work : Int)])) (vy := aQ) T34 rfl H rfl rfl rfl (ownSl (H.get (k := 0) rfl)) (ownLe _ (H.get (k := 0) rfl)) (rfl) (by first | omega | (simp only [List.length_nil] at *; omega)) ?_
   intro aW bF H
   replace H : St w bF [cOwn (α := Int) 3 aQ ([(work : Int)]), cBlk av [I s2] 3, cOwn (α := Int) 3 aW (l4 ++ ([(work : Int)])), cOwn (α := Raw 0) 34 au aq, cRo B_l10, cOwn (α := Int) 3 ai l, cBlk am [.func (.func 128) #[] #[Pz aa]] 183, cBlk aa [Pz ac] 174, cBlk ac [Pz ao, ah, I aj, .map (some ae), .map (some ag)] 180, cRo ap, cMap encG I ae ak, cMap I B ag al] R := H
   obtain ⟨bj, H⟩ := H.emptyE
   obtain ⟨bk, H, cx⟩ := H.freezeE (k := 3) rfl
   replace H : St w bF [cRo bj, cOwn (α := Int) 3 aQ ([(work : Int)]), cBlk av [I s2] 3, cRo bk, cOwn (α := Raw 0) 34 au aq, cRo B_l10, cOwn (α := Int) 3 ai l, cBlk am [.func (.func 128) #[] #[Pz aa]] 183, cBlk aa [Pz ac] 174, cBlk ac [Pz ao, ah, I aj, .map (some ae), .map (some ag)] 180, cRo ap, cMap encG I ae ak, cMap I B ag al] R := H
   have aR := cx
   obtain ⟨bl, H, dD, cy⟩ := H.joinE (i := 0) (j := 3) rfl rfl
   replace aR := aR.mono cy
   obtain ⟨ax, bG⟩ : ∃ r : Raw 0, r.cs = [aW] := ⟨Raw.of [aW] rfl (by simp only [List.all_cons, List.all_nil, Bool.true_and, Bool.and_true, Sl.oc aR]; try rfl), rfl⟩
   have cz : RepR (α := List Int) bl.cells [ax] [l4 ++ ([(work : Int)])] := .cons (by rw [bG]; exact ⟨_, rfl, aR⟩) <| .nil
   refine t_bs (α := Raw 0) T73 [aW] [ax] H rfl (.cons (by rw [show (Flat.enc ax : List Value) = ax.cs from rfl, bG]; exact Sl.cells aR) (Flat.rep_enc _ _) <| .nil) rfl rfl rfl ?_
   intro bm cA H
   replace H : St w cA [cOwn (α := Raw 0) 34 bm ([ax]), cRo bl, cRo bj, cOwn (α := Int) 3 aQ ([(work : Int)]), cBlk av [I s2] 3, cRo bk, cOwn (α := Raw 0) 34 au aq, cRo B_l10, cOwn (α := Int) 3 ai l, cBlk am [.func (.func 128) #[] #[Pz aa]] 183, cBlk aa [Pz ac] 174, cBlk ac [Pz ao, ah, I aj, .map (some ae), .map (some ag)] 180, cRo ap, cMap encG I ae ak, cMap I B ag al] R := H
   obtain ⟨dE, hM⟩ := M.e_gd hM
   have aX := cz
   obtain ⟨bH, H, cB, cC⟩ := H.joinE (i := 7) (j := 1) rfl rfl
   replace aE := aE.mono cB
   replace aX := aX.mono cC
   have cD := aE.app aX
   refine t_app (α := Raw 0) (k := 7) (l := aq) (l2 := [ax]) (l' := aq ++ ([ax])) (vy := bm) T73 rfl H rfl rfl rfl (ownSl (H.get (k := 1) rfl)) (ownLe _ (H.get (k := 1) rfl)) (rfl) (by have a_ := aE.len; have b_ := aX.len; (try simp only [List.length_nil] at *); first | omega | (rw [a_, b_]; omega)) ?_
   intro bn cE H
   replace H : St w cE [cRo bH, cOwn (α := Raw 0) 34 bm ([ax]), cRo bl, cRo bj, cOwn (α := Int) 3 aQ ([(work : Int)]), cBlk av [I s2] 3, cRo bk, cOwn (α := Raw 0) 34 bn (aq ++ ([ax])), cRo B_l10, cOwn (α := Int) 3 ai l, cBlk am [.func (.func 128) #[] #[Pz aa]] 183, cBlk aa [Pz ac] 174, cBlk ac [Pz ao, ah, I aj, .map (some ae), .map (some ag)] 180, cRo ap, cMap encG I ae ak, cMap I B ag al] R := H
   refine sA bn rfl <| s_nil <| W.region rfl <| sR _ _ ((s3 : Int) + 1) rfl rfl rfl (by omega) <| sM (I ((s3 : Int) + 1)) rfl <| s_nil ?_
   exact ⟨bA, bB, s3 + 1, aD ++ ([l4 ++ ([(work : Int)])]), bn, aq ++ ([ax]), bH, _, upds_of _ _ ⟨rfl, rfl, rfl, rfl, rfl, rfl, rfl, rfl, rfl, rfl, rfl, rfl, trivial⟩, M.e_inl hM ba, (H.pick [7, 0, 9, 10, 11, 12, 13, 14, 15] (by decide) rfl), cD⟩
  replace hM := M.e_f hM aN
  simp only [qz1, qz2, qz3, qz4, qz5, qz6, ne_eq, qz7] at aN
  refine W.exit ?_
  have cF := M.e_inr hM ba
  subst cF
  replace hM := b6
  try dsimp only at hM
  refine W.region rfl <| sR _ _ ((s4 : Int) + 1) rfl rfl rfl (by omega) <| sM (I ((s4 : Int) + 1)) rfl <| s_nil ?_
  exact ⟨bX, bY, s4 + 1, aD, au, aq, B_l10, _, upds_of _ _ ⟨rfl, rfl, rfl, rfl, rfl, rfl, rfl, rfl, trivial⟩, M.e_inl hM bx, H, aE⟩
 replace hM := M.e_f hM aM
 simp only [qz1, qz2, qz3, qz4, qz5, qz6, ne_eq, qz7] at aM
 refine W.exit ?_
 have cG := M.e_inr hM bx
 subst cG
 replace hM := bW
 try dsimp only at hM
 refine sQ rfl <| sM aA rfl <| sA aA rfl <| sA (I 0) rfl <| s_nil ?_
 refine W.ret ?_
 have aI := M.e_pure hM
 exact ⟨_, resE_tmp2 rfl, ⟨aK, 0, aA, aL, B_l12, aI, rfl, (H.pick [0, 1] (by decide) rfl), bw⟩⟩

def zcn (s : List Pub) (f : Pub -> M Bool) : Nat -> M (Nat ⊕ (Int ⊕ Unit)) := fun s2 =>
  bif decide ((s2 : Int) < (s.length : Int)) then (
  M.grd (decide ((s2 : Int) < (s.length : Int))) <|
  M.bind (f (s.getD s2 default)) fun r2 =>
  bif r2 then (
  M.pure (.inr (.inl (s2 : Int))))
  else (
  M.pure (.inl (s2 + 1))))
  else (
  M.pure (.inr (.inr ())))
def zcz (s : List Pub) (f : Pub -> M Bool) : M Int :=
  M.bind (M.iter (zcn s f) 0) fun x_ => match x_ with
  | (.inl s3) => (
  M.pure s3)
  | (.inr (_ : Unit)) => (
  M.pure (-1))
theorem zdd {R : List Chunk} {al : Cells} {aa : Value} {ae : Value} (s : List Pub) (f : Pub -> M Bool) (ap : Reads R al) (ag : Sl al aa s) (aq : FnM Try.prog R ae f) {r : Int} (hM : (zcz s f).Ends r) (w : World) (H : St w w [] R) : Ret Try.prog 182 #[aa, ae] w fun v w' => ∃ (y0 : Int), y0 = r /\ v = I y0 /\ St w w' [] R := by
 refine ret_of_W Try.func182 rfl rfl rfl ?_
 refine sQ rfl <| sA (I 0) rfl <| s_nil <| W.seq <| sQ rfl <| sM aa rfl ?_
 have aA := (ag).len_le
 refine s_val (x_lenS T24.und rfl ag) <| sM (I 0) rfl <| s_nil <| W.block ?_
 obtain ⟨au, ah, am⟩ := M.e_bind hM
 obtain ⟨aB, ah⟩ := M.e_iter ah
 refine W.loop (fun m σ W => ∃ (s2 : Nat) (ρ : Env), σ = upds ρ [(0, aa), (1, ae), (7, I (s.length : Int)), (8, I (s2 : Int))] /\ M.iterN (zcn s f) m s2 = some au /\ St w W [] R) ?_ ?_
 ·exact ⟨_, 0, _, upds_of _ _ ⟨rfl, rfl, rfl, rfl, trivial⟩, ah, H⟩
 rintro aC σ aD ⟨s2, ρ, rfl, ao, H⟩
 obtain ⟨av, aw, aE, hM, ai⟩ := M.e_iterN ao
 simp only [zcn] at hM
 clear ao
 refine sQ rfl <| sC _ _ (decide ((s2 : Int) < (s.length : Int))) rfl rfl rfl <| s_nil <| W.seq ?_
 refine W.cond (decide ((s2 : Int) < (s.length : Int))) rfl (fun ac => ?_) (fun ac => ?_)
 ·replace hM := M.e_t hM ac
  simp only [qz1, qz2, qz3, qz4, qz5, qz6, ne_eq, qz7] at ac
  refine W.skip <| W.seq <| W.block <| sQ rfl <| sM (I (s2 : Int)) rfl <| sA (I (s2 : Int)) rfl <| s_nil <| sQ rfl <| sM ae rfl <| sM aa rfl ?_
  refine sM (I (s2 : Int)) rfl ?_
  obtain ⟨aF, hM⟩ := M.e_gd hM
  refine s_val (x_ix (v := vat aa 2 (Int.toNat (s2 : Int))) rfl rfl (Sl.ix (α := Pub) T24.und T24.size ag (by omega) (by omega))) <| s_val (x_ld (v := .agg #[I ((s.getD s2 default).work), I ((s.getD s2 default).value)]) rfl (ld_ag Ag33 Sz33 (At.mono (Pub_atA ag (i := (s2 : Int)) (by omega) (by omega)) (ap.at H)))) ?_
  obtain ⟨r2, ax, hM⟩ := M.e_bind hM
  refine t_callM H aq rfl rfl (s.getD s2 default) Reads.none ⟨_, rfl, rfl⟩ ax ?_
  intro aG H
  refine s_nil ?_
  refine W.cond r2 rfl (fun aj => ?_) (fun aj => ?_)
  ·replace hM := M.e_t hM aj
   refine sQ rfl <| sM (I (s2 : Int)) rfl <| sA (I (s2 : Int)) rfl <| s_nil ?_
   refine W.ret ?_
   have ay := M.e_inr hM ai
   subst ay
   replace hM := am
   try dsimp only at hM
   have ak := M.e_pure hM
   exact ⟨_, resE_tmp rfl, ⟨(s2 : Int), ak, rfl, H⟩⟩
  replace hM := M.e_f hM aj
  refine W.skip <| W.region rfl <| sR _ _ ((s2 : Int) + 1) rfl rfl rfl (by omega) <| sM (I ((s2 : Int) + 1)) rfl <| s_nil ?_
  exact ⟨av, aw, s2 + 1, _, upds_of _ _ ⟨rfl, rfl, rfl, rfl, trivial⟩, M.e_inl hM ai, H⟩
 replace hM := M.e_f hM ac
 simp only [qz1, qz2, qz3, qz4, qz5, qz6, ne_eq, qz7] at ac
 refine W.exit ?_
 have az := M.e_inr hM ai
 subst az
 replace hM := am
 try dsimp only at hM
 refine sQ rfl <| sA (I (-1)) rfl <| s_nil ?_
 refine W.ret ?_
 have ak := M.e_pure hM
 exact ⟨_, resE_tmp rfl, ⟨(-1), ak, rfl, H⟩⟩

def zcA (s : List Pub) (f : Pub -> M Bool) : M Bool :=
  M.bind (zcz s f) fun r2 =>
  M.pure (decide (0 <= r2))
theorem zdp {R : List Chunk} {ae : Cells} {aa : Value} {ac : Value} (s : List Pub) (f : Pub -> M Bool) (ah : Reads R ae) (ai : Sl ae aa s) (aj : FnM Try.prog R ac f) {r : Bool} (hM : (zcA s f).Ends r) (w : World) (H : St w w [] R) : Ret Try.prog 144 #[aa, ac] w fun v w' => ∃ (y0 : Bool), y0 = r /\ v = B y0 /\ St w w' [] R := by
 refine ret_of_W Try.func144 rfl rfl rfl ?_
 refine sQ rfl <| sA (B false) rfl <| s_nil <| sQ rfl <| sM aa rfl <| sM ac rfl ?_
 obtain ⟨ap, ak, hM⟩ := M.e_bind hM
 refine s_call cf182 [aa, ac] rfl (zdd s f (ah.app _) ai (aj.app _) ak _ (St.give (T := []) H rfl)) ?_
 rintro vq al ⟨r2, am, hvq, ag⟩
 subst am
 subst vq
 try dsimp only at hM
 replace H : St w al [] R := H.back ag rfl
 clear ag
 refine sC _ _ (decide (0 <= r2)) rfl rfl rfl <| sA (B (decide (0 <= r2))) rfl <| s_nil ?_
 refine W.ret ?_
 have ao := M.e_pure hM
 exact ⟨_, resE_tmp rfl, ⟨(decide (0 <= r2)), ao, rfl, H⟩⟩

def zbZ (x : Pub) (aa : Pub -> M Bool) : M Bool :=
  M.bind (aa x) fun r2 =>
  M.pure (!r2)
theorem zc2 {R : List Chunk} {ac : Nat} {aa : Value} (x : Pub) (ae : Pub -> M Bool) (ag : FnM Try.prog R aa ae) (ah : Has R (cBlk ac [aa] 140)) {r : Bool} (hM : (zbZ x ae).Ends r) (w : World) (H : St w w [] R) : Ret Try.prog 145 #[.agg #[I x.work, I x.value], Pz ac] w fun v w' => ∃ (y0 : Bool), y0 = r /\ v = B y0 /\ St w w' [] R := by
 refine ret_of_W Try.func145 rfl rfl rfl ?_
 refine sQ rfl ?_
 refine t_box (v := .agg #[I x.work, I x.value]) (cs := [I x.work, I x.value]) H rfl rfl ?_
 intro ak al H
 refine sA (B false) rfl <| s_nil <| sQ rfl <| s_val (x_ld (v := aa) rfl (ldb_sc Sc140 (ah.blk H) rfl)) <| s_val (x_ld (v := .agg #[I x.work, I x.value]) rfl (ldb_ag (ds := [I x.work, I x.value]) Ag33 Sz33 (H.blk (k := 0) rfl) rfl rfl)) ?_
 obtain ⟨r2, ai, hM⟩ := M.e_bind hM
 refine t_callM H ag rfl rfl x Reads.none ⟨_, rfl, rfl⟩ ai ?_
 intro am H
 refine s_val (x_not (b := r2) rfl) <| sA (B (!r2)) rfl <| s_nil ?_
 refine W.ret ?_
 have aj := M.e_pure hM
 exact ⟨_, resE_tmp rfl, ⟨(!r2), aj, rfl, (H.pick [] (by decide) rfl)⟩⟩

def zcL (so : Pub -> M Bool) (l : List Pub) : M Bool :=
  M.bind (zcA l (fun aa => zbZ aa so)) fun r2 =>
  M.pure (!r2)
theorem zdh {R : List Chunk} {aa : Value} {ah : Cells} {ae : Value} (so : Pub -> M Bool) (l : List Pub) (ai : FnM Try.prog R aa so) (al : Reads R ah) (am : Sl ah ae l) {r : Bool} (hM : (zcL so l).Ends r) (w : World) (H : St w w [] R) : Ret Try.prog 90 #[aa, ae] w fun v w' => ∃ (y0 : Bool), y0 = r /\ v = B y0 /\ St w w' [] R := by
 refine ret_of_W Try.func90 rfl rfl rfl ?_
 refine sQ rfl ?_
 refine t_box (v := aa) (cs := [aa]) H rfl (FnM.cells ai) ?_
 intro ac aC H
 refine sA (B false) rfl <| s_nil <| sQ rfl <| sM ae rfl <| s_val (x_mf (fs := []) (cs := [Pz ac]) rfl rfl) ?_
 obtain ⟨aD, ao, hM⟩ := M.e_bind hM
 refine s_call cf144 [ae, .func (.func 145) #[] #[Pz ac]] rfl (zdp l (fun ag => zbZ ag so) (al.app _) am ⟨145, [Pz ac], rfl, cf145, fun aj aE aF ap ag aG aq aH au av => by obtain rfl := Pub_arg au; exact (zc2 ag so (FnM.app (ai.app _) _) (Has.app (Has.here (k := 0) rfl) _) av aj (St.refl aq)).mono fun ap aj ⟨aI, aw, ax, ay⟩ => by subst aw; exact ⟨ax, ay⟩⟩ ao _ (St.give (T := [cBlk ac [aa] 140]) H rfl)) ?_
 rintro vq az ⟨r2, aA, hvq, ak⟩
 subst aA
 subst vq
 try dsimp only at hM
 replace H : St w az [cBlk ac [aa] 140] R := H.back ak rfl
 clear ak
 refine s_val (x_not (b := r2) rfl) <| sA (B (!r2)) rfl <| s_nil ?_
 refine W.ret ?_
 have aB := M.e_pure hM
 exact ⟨_, resE_tmp rfl, ⟨(!r2), aB, rfl, (H.pick [] (by decide) rfl)⟩⟩

def zce (p : Pub) (aa : List Work) : M Bool :=
  M.pure (inB p.work 0 ((aa.length : Int) - 1))
theorem zdb {R : List Chunk} {ae : Nat} {ag : Cells} {ac : Value} (p : Pub) (aa : List Work) (ao : Reads R ag) (ah : Sl ag ac aa) (ak : Has R (cBlk ae [ac] 22)) {r : Bool} (hM : (zce p aa).Ends r) (w : World) (H : St w w [] R) : Ret Try.prog 91 #[.agg #[I p.work, I p.value], Pz ae] w fun v w' => ∃ (y0 : Bool), y0 = r /\ v = B y0 /\ St w w' [] R := by
 refine ret_of_W Try.func91 rfl rfl rfl ?_
 refine sQ rfl ?_
 refine t_box (v := .agg #[I p.work, I p.value]) (cs := [I p.work, I p.value]) H rfl rfl ?_
 intro ai ap H
 refine sA (B false) rfl <| s_nil <| sQ rfl <| s_val (x_fa (v := Pz ai) rfl (fa_blk (o := 0) Fd33_0 Sz3)) <| s_val (x_ld (v := I p.work) rfl (ldb_sc Sc3 (H.blk (k := 0) rfl) rfl)) <| s_val (x_ld (v := ac) rfl (ldb_sc Sc22 (ak.blk H) rfl)) ?_
 have aq := (ah).len_le
 refine s_val (x_lenS T22.und rfl ah) <| sR _ _ ((aa.length : Int) - 1) rfl rfl rfl (by omega) ?_
 refine s_call cf84 [I p.work, I 0, I ((aa.length : Int) - 1)] rfl (in_any p.work 0 ((aa.length : Int) - 1) _) ?_
 rintro _ al ⟨rfl, aj⟩
 replace H : St w al [cBlk ai [I p.work, I p.value] 33] R := H.ext aj
 clear aj
 refine sA (B (inB p.work 0 ((aa.length : Int) - 1))) rfl <| s_nil ?_
 refine W.ret ?_
 have am := M.e_pure hM
 exact ⟨_, resE_tmp rfl, ⟨(inB p.work 0 ((aa.length : Int) - 1)), am, rfl, (H.pick [] (by decide) rfl)⟩⟩

def zcb (published : List Pub) (r0 : List Int) : (Nat × (List Int)) -> M ((Nat × (List Int)) ⊕ ((List Int) × (List Int))) := fun (s, l2) =>
  bif decide ((s : Int) < (published.length : Int)) then (
  M.grd (decide ((s : Int) < (published.length : Int))) <|
  M.grd (decide ((0 : Int) <= ((published.getD s default).work)) && decide (((published.getD s default).work) < (r0.length : Int))) <|
  bif (((r0.getD (Int.toNat ((published.getD s default).work)) 0) == (-1)) || ((r0.getD (Int.toNat ((published.getD s default).work)) 0) != ((published.getD s default).value))) then (
  M.grd (decide ((l2.length + ([(s : Int)]).length) * 8 <= 140737488355328)) <|
  M.pure (.inl (s + 1, l2 ++ ([(s : Int)]))))
  else (
  M.pure (.inl (s + 1, l2))))
  else (
  M.pure (.inr (l2, l2)))
def zcJ (w_ : List Work) (l : List Note) (published : List Pub) : M ((List Int) × Int) :=
  M.bind (zcc w_ l) fun (r0, r1) =>
  bif r1 != 0 then (
  M.pure (([]), r1))
  else (
  bif decide (200 < (published.length : Int)) then (
  M.pure (([]), 3))
  else (
  M.bind (zcL (fun aa => zce aa w_) published) fun r2 =>
  bif !r2 then (
  M.pure (([]), 2))
  else (
  M.bind (M.iter (zcb published r0) (0, [])) fun (l3, l4) =>
  M.pure (l4, 0))))
theorem zdl {R : List Chunk} {aE : Cells} {ac : Value} {aF : Cells} {au : Value} {aG : Cells} {aj : Value} (w_ : List Work) (l : List Note) (published : List Pub) (aH : Reads R aE) (av : Sl aE ac w_) (aO : Reads R aF) (aP : Sl aF au l) (aI : Reads R aG) (ak : Sl aG aj published) {r : ((List Int) × Int)} (hM : (zcJ w_ l published).Ends r) (w : World) (H : St w w [] R) : Ret Try.prog 26 #[ac, au, aj] w fun v w' => ∃ (y0 : List Int) (y1 : Int) (u0 : Value), (y0, y1) = r /\ v = .tuple #[u0, I y1] /\ St w w' [cOwn (α := Int) 3 u0 y0] R := by
 refine ret_of_W Try.func26 rfl rfl rfl ?_
 refine sQ rfl ?_
 refine t_box (v := ac) (cs := [ac]) H rfl (Sl.cells av) ?_
 intro ae bb H
 refine sA (.slice none 0 0) rfl <| sA (I 0) rfl <| s_nil <| sQ rfl <| s_val (x_ld (v := ac) rfl (ldb_sc Sc22 (H.blk (k := 0) rfl) rfl)) <| sM au rfl ?_
 obtain ⟨bc, aQ, hM⟩ := M.e_bind hM
 refine s_call cf21 [ac, au] rfl (zcW w_ l (aH.app _) av (aO.app _) aP aQ _ (St.give (T := [cBlk ae [ac] 22]) H rfl)) ?_
 rintro vq aw ⟨r0, r1, aa, aR, hvq, am⟩
 subst aR
 subst vq
 try dsimp only at hM
 replace H : St w aw [cOwn (α := Int) 3 aa r0, cBlk ae [ac] 22] R := H.back am rfl
 clear am
 refine sM (.tuple #[aa, I r1]) rfl <| sX [aa, I r1] aa rfl rfl <| sX [aa, I r1] (I r1) rfl rfl <| sA aa rfl <| sA (I r1) rfl <| s_nil <| W.seq <| W.block <| sQ rfl <| sM (I r1) rfl <| sC _ _ (r1 != 0) rfl rfl rfl ?_
 refine sA (B (r1 != 0)) rfl <| s_nil ?_
 refine W.cond (r1 != 0) rfl (fun ao => ?_) (fun ao => ?_)
 ·replace hM := M.e_t hM ao
  simp only [qz1, qz2, qz3, qz4, qz5, qz6, ne_eq, qz7] at ao
  refine sQ rfl <| sM (I r1) rfl <| sA (.slice none 0 0) rfl <| sA (I r1) rfl <| s_nil ?_
  refine W.ret ?_
  have al := M.e_pure hM
  replace H : St w aw [cOwn (α := Int) 3 (.slice none 0 0) ([]), cOwn (α := Int) 3 aa r0, cBlk ae [ac] 22] R := H.nilOwn (α := Int) 3
  exact ⟨_, resE_tmp2 rfl, ⟨([]), r1, (.slice none 0 0), al, rfl, (H.pick [0] (by decide) rfl)⟩⟩
 replace hM := M.e_f hM ao
 simp only [qz1, qz2, qz3, qz4, qz5, qz6, ne_eq, qz7] at ao
 refine sQ rfl <| sM aj rfl ?_
 have bf := (ak).len_le
 refine s_val (x_lenS T24.und rfl ak) <| sC _ _ (decide (200 < (published.length : Int))) rfl rfl rfl <| sA (B (decide (200 < (published.length : Int)))) rfl <| s_nil ?_
 refine W.cond (decide (200 < (published.length : Int))) rfl (fun ap => ?_) (fun ap => ?_)
 ·replace hM := M.e_t hM ap
  simp only [qz1, qz2, qz3, qz4, qz5, qz6, ne_eq, qz7] at ap
  refine sQ rfl <| sA (.slice none 0 0) rfl <| sA (I 3) rfl <| s_nil ?_
  refine W.ret ?_
  have al := M.e_pure hM
  replace H : St w aw [cOwn (α := Int) 3 (.slice none 0 0) ([]), cOwn (α := Int) 3 aa r0, cBlk ae [ac] 22] R := H.nilOwn (α := Int) 3
  exact ⟨_, resE_tmp2 rfl, ⟨([]), 3, (.slice none 0 0), al, rfl, (H.pick [0] (by decide) rfl)⟩⟩
 replace hM := M.e_f hM ap
 simp only [qz1, qz2, qz3, qz4, qz5, qz6, ne_eq, qz7] at ap
 refine sQ rfl <| s_val (x_mf (fs := []) (cs := [Pz ae]) rfl rfl) <| sM aj rfl ?_
 obtain ⟨bg, aS, hM⟩ := M.e_bind hM
 refine s_call cf90 [.func (.func 91) #[] #[Pz ae], aj] rfl (zdh (fun ax => zce ax w_) published ⟨91, [Pz ae], rfl, cf91, fun aJ bh bi aT ax bj aU bk aV aW => by obtain rfl := Pub_arg aV; exact (zdb ax w_ (Reads.app (aH.app _) _) av (Has.app (Has.here (k := 1) rfl) _) aW aJ (St.refl aU)).mono fun aT aJ ⟨bl, aX, aY, aZ⟩ => by subst aX; exact ⟨aY, aZ⟩⟩ (aI.app _) ak aS _ (St.give (T := [cOwn (α := Int) 3 aa r0, cBlk ae [ac] 22]) H rfl)) ?_
 rintro vq ay ⟨r2, a5, hvq, am⟩
 subst a5
 subst vq
 try dsimp only at hM
 replace H : St w ay [cOwn (α := Int) 3 aa r0, cBlk ae [ac] 22] R := H.back am rfl
 clear am
 refine s_val (x_not (b := r2) rfl) <| sA (B (!r2)) rfl <| s_nil ?_
 refine W.cond (!r2) rfl (fun az => ?_) (fun az => ?_)
 ·replace hM := M.e_t hM az
  refine sQ rfl <| sA (.slice none 0 0) rfl <| sA (I 2) rfl <| s_nil ?_
  refine W.ret ?_
  have al := M.e_pure hM
  replace H : St w ay [cOwn (α := Int) 3 (.slice none 0 0) ([]), cOwn (α := Int) 3 aa r0, cBlk ae [ac] 22] R := H.nilOwn (α := Int) 3
  exact ⟨_, resE_tmp2 rfl, ⟨([]), 2, (.slice none 0 0), al, rfl, (H.pick [0] (by decide) rfl)⟩⟩
 replace hM := M.e_f hM az
 refine W.skip <| sQ rfl <| sA (.slice none 0 0) rfl <| s_nil <| W.seq <| sQ rfl <| sM aj rfl ?_
 have bm := (ak).len_le
 refine s_val (x_lenS T24.und rfl ak) <| sM (I 0) rfl <| s_nil <| W.block ?_
 replace H : St w ay [cOwn (α := Int) 3 (.slice none 0 0) ([]), cOwn (α := Int) 3 aa r0, cBlk ae [ac] 22] R := H.nilOwn (α := Int) 3
 obtain ⟨a6, aA, a7⟩ := M.e_bind hM
 obtain ⟨bn, aA⟩ := M.e_iter aA
 refine W.loop (fun m σ W => ∃ (s : Nat) (l2 : List Int) (ag : Value) (ρ : Env), σ = upds ρ [(8, aa), (10, ag), (32, aj), (33, I (published.length : Int)), (34, I (s : Int))] /\ M.iterN (zcb published r0) m (s, l2) = some a6 /\ St w W [cOwn (α := Int) 3 ag l2, cOwn (α := Int) 3 aa r0, cBlk ae [ac] 22] R) ?_ ?_
 ·exact ⟨_, 0, [], (.slice none 0 0), _, upds_of _ _ ⟨rfl, rfl, rfl, rfl, rfl, trivial⟩, aA, H⟩
 rintro bo σ bp ⟨s, l2, ag, ρ, rfl, aK, H⟩
 obtain ⟨aL, aM, bq, hM, aB⟩ := M.e_iterN aK
 simp only [zcb] at hM
 clear aK
 refine sQ rfl <| sC _ _ (decide ((s : Int) < (published.length : Int))) rfl rfl rfl <| s_nil <| W.seq ?_
 refine W.cond (decide ((s : Int) < (published.length : Int))) rfl (fun aq => ?_) (fun aq => ?_)
 ·replace hM := M.e_t hM aq
  simp only [qz1, qz2, qz3, qz4, qz5, qz6, ne_eq, qz7] at aq
  refine W.skip <| W.seq <| W.block <| sQ rfl <| sM (I (s : Int)) rfl ?_
  obtain ⟨br, hM⟩ := M.e_gd hM
  refine s_val (x_ix (v := vat aj 2 (Int.toNat (s : Int))) rfl rfl (Sl.ix (α := Pub) T24.und T24.size ak (by omega) (by omega))) <| s_val (x_ld (v := .agg #[I ((published.getD s default).work), I ((published.getD s default).value)]) rfl (ld_ag Ag33 Sz33 (At.mono (Pub_atA ak (i := (s : Int)) (by omega) (by omega)) (aI.at H)))) ?_
  refine t_alloc (cs := [I 0, I 0]) H Al33 rfl ?_
  intro ah bt H
  refine sA (I (s : Int)) rfl ?_
  refine t_st (k := 0) (b := ah) (off := 0) (cs := [I 0, I 0]) (vs := [I ((published.getD s default).work), I ((published.getD s default).value)]) (cs' := [I ((published.getD s default).work), I ((published.getD s default).value)]) (v := .agg #[I ((published.getD s default).work), I ((published.getD s default).value)]) (L' := [cBlk ah [I ((published.getD s default).work), I ((published.getD s default).value)] 33, cOwn (α := Int) 3 ag l2, cOwn (α := Int) 3 aa r0, cBlk ae [ac] 22]) H rfl rfl rfl Sz33 rfl rfl rfl rfl rfl rfl ?_
  intro bu H
  refine s_nil <| W.seq ?_
  refine W.draw (fun W => St w W [cBlk ah [I ((published.getD s default).work), I ((published.getD s default).value)] 33, cOwn (α := Int) 3 ag l2, cOwn (α := Int) 3 aa r0, cBlk ae [ac] 22] R) [(0, true), (1, true), (2, true), (3, true), (4, true), (5, true), (6, true), (7, true), (8, true), (9, true), (10, true), (11, true), (12, true), (13, true), (14, true), (15, true)] mixed (by decide +kernel) rfl ?_
  intro a8 ai
  replace H : St w a8 [cBlk ah [I ((published.getD s default).work), I ((published.getD s default).value)] 33, cOwn (α := Int) 3 ag l2, cOwn (α := Int) 3 aa r0, cBlk ae [ac] 22] R := H.ext ai
  clear ai
  refine ⟨(H.pick [0, 1, 2, 3] (by decide) rfl), ?_⟩
  refine d_q rfl (fun w' H => x_mv (v := aa) rfl) ?_
  refine d_q rfl (fun w' H => x_fa (v := Pz ah) rfl (fa_blk (o := 0) Fd33_0 Sz3)) ?_
  refine d_q rfl (fun w' H => x_ld (v := I ((published.getD s default).work)) rfl (ldb_sc Sc3 (H.blk (k := 0) rfl) rfl)) ?_
  obtain ⟨bv, hM⟩ := M.e_gd hM
  refine d_q rfl (fun w' H => x_ix (v := vat aa 1 (Int.toNat ((published.getD s default).work))) rfl rfl (Sl.ix (α := Int) T34.und T34.size (ownSl (H.get (k := 2) rfl)) (by omega) (by omega))) ?_
  refine d_q rfl (fun w' H => x_ld (v := I (r0.getD (Int.toNat ((published.getD s default).work)) 0)) rfl (ld_sc Sc3 (At.mono (Int_at (ownSl (H.get (k := 2) rfl)) (i := (published.getD s default).work) (by omega) (by omega)) (ownLe _ (H.get (k := 2) rfl))))) ?_
  refine d_q rfl (fun w' H => x_cmp (kd := .i64) (r := (r0.getD (Int.toNat ((published.getD s default).work)) 0) == (-1)) rfl rfl rfl) ?_
  refine d_q rfl (fun w' H => x_mv (v := B ((r0.getD (Int.toNat ((published.getD s default).work)) 0) == (-1))) rfl) ?_
  refine d_qg (!((r0.getD (Int.toNat ((published.getD s default).work)) 0) == (-1))) rfl (gy_f rfl) (fun hg => (fun w' H => x_mv (v := aa) rfl)) ?_
  refine d_qg (!((r0.getD (Int.toNat ((published.getD s default).work)) 0) == (-1))) rfl (gy_f rfl) (fun hg => (fun w' H => x_fa (v := Pz ah) rfl (fa_blk (o := 0) Fd33_0 Sz3))) ?_
  refine d_qg (!((r0.getD (Int.toNat ((published.getD s default).work)) 0) == (-1))) rfl (gy_f rfl) (fun hg => (fun w' H => x_ld (v := I ((published.getD s default).work)) (gd_of hg (Pz ah)) (ldb_sc Sc3 (H.blk (k := 0) rfl) rfl))) ?_
  refine d_qg (!((r0.getD (Int.toNat ((published.getD s default).work)) 0) == (-1))) rfl (gy_f rfl) (fun hg => (fun w' H => x_ix (v := vat aa 1 (Int.toNat ((published.getD s default).work))) (gd_of hg (aa)) (gd_of hg (I ((published.getD s default).work))) (Sl.ix (α := Int) T34.und T34.size (ownSl (H.get (k := 2) rfl)) (by first | omega | (have ai := hg; simp at ai; omega)) (by first | omega | (have ai := hg; simp at ai; omega))))) ?_
  refine d_qg (!((r0.getD (Int.toNat ((published.getD s default).work)) 0) == (-1))) rfl (gy_f rfl) (fun hg => (fun w' H => x_ld (v := I (r0.getD (Int.toNat ((published.getD s default).work)) 0)) (gd_of hg (vat aa 1 (Int.toNat ((published.getD s default).work)))) (ld_sc Sc3 (At.mono (Int_at (ownSl (H.get (k := 2) rfl)) (i := (published.getD s default).work) (by first | omega | (have ai := hg; simp at ai; omega)) (by first | omega | (have ai := hg; simp at ai; omega))) (ownLe _ (H.get (k := 2) rfl)))))) ?_
  refine d_qg (!((r0.getD (Int.toNat ((published.getD s default).work)) 0) == (-1))) rfl (gy_f rfl) (fun hg => (fun w' H => x_fa (v := Oz ah 1) rfl (fa_blk (o := 0) Fd33_1 Sz3))) ?_
  refine d_qg (!((r0.getD (Int.toNat ((published.getD s default).work)) 0) == (-1))) rfl (gy_f rfl) (fun hg => (fun w' H => x_ld (v := I ((published.getD s default).value)) (gd_of hg (Oz ah 1)) (ldb_sc Sc3 (H.blk (k := 0) rfl) rfl))) ?_
  refine d_qg (!((r0.getD (Int.toNat ((published.getD s default).work)) 0) == (-1))) rfl (gy_f rfl) (fun hg => (fun w' H => x_cmp (kd := .i64) (r := (r0.getD (Int.toNat ((published.getD s default).work)) 0) != ((published.getD s default).value)) (gd_of hg (I (r0.getD (Int.toNat ((published.getD s default).work)) 0))) (gd_of hg (I ((published.getD s default).value))) rfl)) ?_
  refine d_q rfl (fun w' H => x_por (b := (r0.getD (Int.toNat ((published.getD s default).work)) 0) == (-1)) (r := (r0.getD (Int.toNat ((published.getD s default).work)) 0) != ((published.getD s default).value)) rfl rfl (fun hb => gd_of (c := !((r0.getD (Int.toNat ((published.getD s default).work)) 0) == (-1))) (by first | exact hb | (rw [hb]; rfl) | simp_all) (B ((r0.getD (Int.toNat ((published.getD s default).work)) 0) != ((published.getD s default).value))))) ?_
  refine d_nil ?_
  refine W.cond (((r0.getD (Int.toNat ((published.getD s default).work)) 0) == (-1)) || ((r0.getD (Int.toNat ((published.getD s default).work)) 0) != ((published.getD s default).value))) rfl (fun aC => ?_) (fun aC => ?_)
  ·replace hM := M.e_t hM aC
   refine W.region rfl <| sM ag rfl <| sM (I (s : Int)) rfl ?_
   refine t_bs (α := Int) T34 [I (s : Int)] [(s : Int)] H rfl (.cons rfl (Flat.rep_enc _ (s : Int)) <| .nil) rfl rfl rfl ?_
   intro aN bw H
   obtain ⟨bx, hM⟩ := M.e_gd hM
   refine t_app (α := Int) (k := 2) (l := l2) (l2 := [(s : Int)]) (l' := l2 ++ ([(s : Int)])) (vy := aN) T34 rfl H rfl rfl rfl (ownSl (H.get (k := 0) rfl)) (ownLe _ (H.get (k := 0) rfl)) (rfl) (by first | omega | (simp only [List.length_nil] at *; omega)) ?_
   intro aD a9 H
   replace H : St w a9 [cOwn (α := Int) 3 aN ([(s : Int)]), cBlk ah [I ((published.getD s default).work), I ((published.getD s default).value)] 33, cOwn (α := Int) 3 aD (l2 ++ ([(s : Int)])), cOwn (α := Int) 3 aa r0, cBlk ae [ac] 22] R := H
   refine sA aD rfl <| s_nil <| W.region rfl <| sR _ _ ((s : Int) + 1) rfl rfl rfl (by omega) <| sM (I ((s : Int) + 1)) rfl <| s_nil ?_
   exact ⟨aL, aM, s + 1, l2 ++ ([(s : Int)]), aD, _, upds_of _ _ ⟨rfl, rfl, rfl, rfl, rfl, trivial⟩, M.e_inl hM aB, (H.pick [2, 3, 4] (by decide) rfl)⟩
  replace hM := M.e_f hM aC
  refine W.skip <| W.region rfl <| sR _ _ ((s : Int) + 1) rfl rfl rfl (by omega) <| sM (I ((s : Int) + 1)) rfl <| s_nil ?_
  exact ⟨aL, aM, s + 1, l2, ag, _, upds_of _ _ ⟨rfl, rfl, rfl, rfl, rfl, trivial⟩, M.e_inl hM aB, (H.pick [1, 2, 3] (by decide) rfl)⟩
 replace hM := M.e_f hM aq
 simp only [qz1, qz2, qz3, qz4, qz5, qz6, ne_eq, qz7] at aq
 refine W.exit ?_
 have ba := M.e_inr hM aB
 subst ba
 replace hM := a7
 try dsimp only at hM
 refine sQ rfl <| sM ag rfl <| sA ag rfl <| sA (I 0) rfl <| s_nil ?_
 refine W.ret ?_
 have al := M.e_pure hM
 exact ⟨_, resE_tmp2 rfl, ⟨l2, 0, ag, al, rfl, (H.pick [0] (by decide) rfl)⟩⟩

def zbE : M Bool :=
  M.bind (zab) fun r2 =>
  M.bind (zcc r2 ([(⟨(0 : Int), (2 : Int), (7 : Int)⟩ : Note), (⟨(1 : Int), (0 : Int), (9 : Int)⟩ : Note)])) fun (r0, r1) =>
  M.bind (zab) fun r3 =>
  M.bind (M.pure (staleR r3 ([(0 : Int)]), askedE r3 ([(0 : Int)]))) fun (l, e) =>
  M.bind (zab) fun r4 =>
  M.bind (M.pure (readyR r4 ([(1 : Int)]), askedE r4 ([(1 : Int)]))) fun (l2, e2) =>
  M.bind (zab) fun r5 =>
  M.bind (zcR r5 ([(0 : Int)])) fun (aa, ac) =>
  M.bind (M.pure (decide (r0 = ([(7 : Int), (9 : Int), (26 : Int), (10 : Int), (47 : Int), (48 : Int)])))) fun s =>
  M.bind (M.pure (decide (l = ([(0 : Int), (2 : Int), (4 : Int), (5 : Int)])))) fun s2 =>
  M.bind (M.pure (decide (l2 = ([(-1 : Int), (6 : Int), (16 : Int), (36 : Int), (56 : Int), (57 : Int)])))) fun s3 =>
  M.bind (M.pure (decide (aa = ([(0 : Int), (2 : Int), (4 : Int), (5 : Int)])))) fun s4 =>
  bif ((((((((r1 != 0) || (e != 0)) || (e2 != 0)) || (ac != 0)) || (!s)) || (!s2)) || (!s3)) || (!s4)) then (
  M.pure false)
  else (
  M.bind (zab) fun r6 =>
  M.bind (zbA r6 ([(0 : Int)]) ([(0 : Int), (2 : Int), (4 : Int), (5 : Int)])) fun (ae, ag) =>
  M.bind (zab) fun r7 =>
  M.bind (zbA r7 ([(0 : Int)]) ([(0 : Int), (2 : Int), (4 : Int)])) fun (ah, ai) =>
  M.bind (zab) fun r8 =>
  M.bind (zah r8 ([(1 : Int)]) 4) fun (aj, ak) =>
  M.bind (zab) fun r9 =>
  M.bind (zaq r9 ([(1 : Int)]) 4) fun (al, am) =>
  M.bind (zab) fun ao =>
  M.bind (zah ao ([(1 : Int)]) 3) fun (aw, ap) =>
  M.bind (M.pure (decide (aj = ([(2 : Int), (3 : Int)])))) fun s5 =>
  bif (((((((((ag != 0) || (ai != 0)) || (ak != 0)) || (am != 0)) || (ap != 5)) || (!ae)) || ah) || (!s5)) || ((al.length : Int) != 2)) then (
  M.pure false)
  else (
  M.bind (zab) fun aq =>
  M.bind (zcJ aq ([(⟨(0 : Int), (3 : Int), (8 : Int)⟩ : Note), (⟨(0 : Int), (2 : Int), (7 : Int)⟩ : Note), (⟨(1 : Int), (0 : Int), (9 : Int)⟩ : Note)]) ([(⟨(2 : Int), (26 : Int)⟩ : Pub), (⟨(3 : Int), (10 : Int)⟩ : Pub)])) fun (au, av) =>
  M.bind (M.pure (decide (au = ([(0 : Int)])))) fun s6 =>
  M.pure ((av == 0) && s6)))
theorem zcS {R : List Chunk}    {r : Bool} (hM : (zbE).Ends r) (w : World) (H : St w w [] R) : Ret Try.prog 17 #[] w fun v w' => ∃ (y0 : Bool), y0 = r /\ v = B y0 /\ St w w' [] R := by
 refine ret_of_W Try.func17 rfl rfl rfl ?_
 refine sQ rfl <| sA (B false) rfl <| s_nil <| sQ rfl ?_
 obtain ⟨dD, bW, hM⟩ := M.e_bind hM
 refine s_call cf79 [] rfl (zad bW _ (St.give (T := []) H rfl)) ?_
 rintro vq bX ⟨r2, ak, al, am, bY, hvq, aa, bZ⟩
 subst bY
 subst vq
 try dsimp only at hM
 replace H : St w bX [cOwn (α := Raw 2) 60 ak al, cRo am] R := H.back aa rfl
 clear aa
 refine s_val (x_bld (ps := [(0, I 0), (1, I 2), (2, I 7)]) (zs := [I 0, I 0, I 0]) (L' := [I 0, I 2, I 7]) rfl Try.underlying30 Al30 rfl (Bd30 Try.underlying30) (.cons (cs := [I 0]) rfl rfl rfl rfl rfl <| .cons (cs := [I 2]) rfl rfl rfl rfl rfl <| .cons (cs := [I 7]) rfl rfl rfl rfl rfl <| .nil)) <| s_val (x_bld (ps := [(0, I 1), (2, I 9)]) (zs := [I 0, I 0, I 0]) (L' := [I 1, I 0, I 9]) rfl Try.underlying30 Al30 rfl (Bd30 Try.underlying30) (.cons (cs := [I 1]) rfl rfl rfl rfl rfl <| .cons (cs := [I 9]) rfl rfl rfl rfl rfl <| .nil)) ?_
 refine t_bs (α := Note) T23 [.agg #[I 0, I 2, I 7], .agg #[I 1, I 0, I 9]] [(⟨(0 : Int), (2 : Int), (7 : Int)⟩ : Note), (⟨(1 : Int), (0 : Int), (9 : Int)⟩ : Note)] H rfl (.cons rfl (Flat.rep_enc _ (⟨(0 : Int), (2 : Int), (7 : Int)⟩ : Note)) <| .cons rfl (Flat.rep_enc _ (⟨(1 : Int), (0 : Int), (9 : Int)⟩ : Note)) <| .nil) rfl rfl rfl ?_
 intro ao dE H
 obtain ⟨dF, b6, hM⟩ := M.e_bind hM
 refine s_call cf21 [ak, ao] rfl (zcW r2 ([(⟨(0 : Int), (2 : Int), (7 : Int)⟩ : Note), (⟨(1 : Int), (0 : Int), (9 : Int)⟩ : Note)]) (Reads.sup (Reads.of (k := 1) rfl ownLe) (Reads.of (k := 2) rfl roLe)) (rowSl rfl (H.get (k := 1) rfl) (roLe _ (H.get (k := 2) rfl)) bZ) (Reads.of (k := 0) rfl ownLe) (ownSl (H.get (k := 0) rfl)) b6 _ (St.give (T := [cOwn (α := Note) 30 ao ([(⟨(0 : Int), (2 : Int), (7 : Int)⟩ : Note), (⟨(1 : Int), (0 : Int), (9 : Int)⟩ : Note)]), cOwn (α := Raw 2) 60 ak al, cRo am]) H rfl)) ?_
 rintro vq b9 ⟨r0, r1, ah, ca, hvq, aa⟩
 subst ca
 subst vq
 try dsimp only at hM
 replace H : St w b9 [cOwn (α := Int) 3 ah r0, cOwn (α := Note) 30 ao ([(⟨(0 : Int), (2 : Int), (7 : Int)⟩ : Note), (⟨(1 : Int), (0 : Int), (9 : Int)⟩ : Note)]), cOwn (α := Raw 2) 60 ak al, cRo am] R := H.back aa rfl
 clear aa
 refine sM (.tuple #[ah, I r1]) rfl <| sX [ah, I r1] ah rfl rfl <| sX [ah, I r1] (I r1) rfl rfl <| sA ah rfl <| sA (I r1) rfl <| s_nil <| sQ rfl ?_
 obtain ⟨dG, cb, hM⟩ := M.e_bind hM
 refine s_call cf79 [] rfl (zad cb _ (St.give (T := [cOwn (α := Int) 3 ah r0, cOwn (α := Note) 30 ao ([(⟨(0 : Int), (2 : Int), (7 : Int)⟩ : Note), (⟨(1 : Int), (0 : Int), (9 : Int)⟩ : Note)]), cOwn (α := Raw 2) 60 ak al, cRo am]) H rfl)) ?_
 rintro vq cc ⟨r3, au, av, aw, cd, hvq, aa, ce⟩
 subst cd
 subst vq
 try dsimp only at hM
 replace H : St w cc [cOwn (α := Raw 2) 60 au av, cRo aw, cOwn (α := Int) 3 ah r0, cOwn (α := Note) 30 ao ([(⟨(0 : Int), (2 : Int), (7 : Int)⟩ : Note), (⟨(1 : Int), (0 : Int), (9 : Int)⟩ : Note)]), cOwn (α := Raw 2) 60 ak al, cRo am] R := H.back aa rfl
 clear aa
 refine t_bs (α := Int) T34 [I 0] [(0 : Int)] H rfl (.cons rfl (Flat.rep_enc _ (0 : Int)) <| .nil) rfl rfl rfl ?_
 intro ax dH H
 obtain ⟨⟨l, e⟩, cf, hM⟩ := M.e_bind hM
 obtain ⟨cg, ci⟩ := Prod.mk.inj (M.e_pure cf)
 try dsimp only at hM
 refine s_call cf32 [au, ax] rfl (by have bv := (Stale_any _ ((rowSl rfl (H.get (k := 1) rfl) (roLe _ (H.get (k := 2) rfl)) ce).mono (Cells.sup_le (ownLe _ (H.get (k := 1) rfl)) (roLe _ (H.get (k := 2) rfl)))) ((ownSl (H.get (k := 0) rfl)).mono (ownLe _ (H.get (k := 0) rfl)))); rw [cg, ci] at bv; exact bv) ?_
 rintro _ dI ⟨bo, rfl, bA, a5⟩
 obtain ⟨ay, H, bA⟩ := H.fresh a5 bA
 clear a5
 have dJ := bA.len_le
 refine sM (.tuple #[bo, I e]) rfl <| sX [bo, I e] bo rfl rfl <| sX [bo, I e] (I e) rfl rfl <| sA bo rfl <| sA (I e) rfl <| s_nil <| sQ rfl ?_
 obtain ⟨dK, cj, hM⟩ := M.e_bind hM
 refine s_call cf79 [] rfl (zad cj _ (St.give (T := [cRo ay, cOwn (α := Int) 3 ax ([(0 : Int)]), cOwn (α := Raw 2) 60 au av, cRo aw, cOwn (α := Int) 3 ah r0, cOwn (α := Note) 30 ao ([(⟨(0 : Int), (2 : Int), (7 : Int)⟩ : Note), (⟨(1 : Int), (0 : Int), (9 : Int)⟩ : Note)]), cOwn (α := Raw 2) 60 ak al, cRo am]) H rfl)) ?_
 rintro vq ck ⟨r4, az, aA, aB, cm, hvq, aa, cn⟩
 subst cm
 subst vq
 try dsimp only at hM
 replace H : St w ck [cOwn (α := Raw 2) 60 az aA, cRo aB, cRo ay, cOwn (α := Int) 3 ax ([(0 : Int)]), cOwn (α := Raw 2) 60 au av, cRo aw, cOwn (α := Int) 3 ah r0, cOwn (α := Note) 30 ao ([(⟨(0 : Int), (2 : Int), (7 : Int)⟩ : Note), (⟨(1 : Int), (0 : Int), (9 : Int)⟩ : Note)]), cOwn (α := Raw 2) 60 ak al, cRo am] R := H.back aa rfl
 clear aa
 refine t_bs (α := Int) T34 [I 1] [(1 : Int)] H rfl (.cons rfl (Flat.rep_enc _ (1 : Int)) <| .nil) rfl rfl rfl ?_
 intro aC dL H
 obtain ⟨⟨l2, e2⟩, co, hM⟩ := M.e_bind hM
 obtain ⟨cp, cq⟩ := Prod.mk.inj (M.e_pure co)
 try dsimp only at hM
 refine s_call cf36 [az, aC] rfl (by have bv := (Ready_any _ ((rowSl rfl (H.get (k := 1) rfl) (roLe _ (H.get (k := 2) rfl)) cn).mono (Cells.sup_le (ownLe _ (H.get (k := 1) rfl)) (roLe _ (H.get (k := 2) rfl)))) ((ownSl (H.get (k := 0) rfl)).mono (ownLe _ (H.get (k := 0) rfl)))); rw [cp, cq] at bv; exact bv) ?_
 rintro _ dM ⟨bp, rfl, bB, a5⟩
 obtain ⟨aD, H, bB⟩ := H.fresh a5 bB
 clear a5
 have dN := bB.len_le
 refine sM (.tuple #[bp, I e2]) rfl <| sX [bp, I e2] bp rfl rfl <| sX [bp, I e2] (I e2) rfl rfl <| sA bp rfl <| sA (I e2) rfl <| s_nil <| sQ rfl ?_
 obtain ⟨dO, cr, hM⟩ := M.e_bind hM
 refine s_call cf79 [] rfl (zad cr _ (St.give (T := [cRo aD, cOwn (α := Int) 3 aC ([(1 : Int)]), cOwn (α := Raw 2) 60 az aA, cRo aB, cRo ay, cOwn (α := Int) 3 ax ([(0 : Int)]), cOwn (α := Raw 2) 60 au av, cRo aw, cOwn (α := Int) 3 ah r0, cOwn (α := Note) 30 ao ([(⟨(0 : Int), (2 : Int), (7 : Int)⟩ : Note), (⟨(1 : Int), (0 : Int), (9 : Int)⟩ : Note)]), cOwn (α := Raw 2) 60 ak al, cRo am]) H rfl)) ?_
 rintro vq ct ⟨r5, aE, aG, aH, cu, hvq, aa, cv⟩
 subst cu
 subst vq
 try dsimp only at hM
 replace H : St w ct [cOwn (α := Raw 2) 60 aE aG, cRo aH, cRo aD, cOwn (α := Int) 3 aC ([(1 : Int)]), cOwn (α := Raw 2) 60 az aA, cRo aB, cRo ay, cOwn (α := Int) 3 ax ([(0 : Int)]), cOwn (α := Raw 2) 60 au av, cRo aw, cOwn (α := Int) 3 ah r0, cOwn (α := Note) 30 ao ([(⟨(0 : Int), (2 : Int), (7 : Int)⟩ : Note), (⟨(1 : Int), (0 : Int), (9 : Int)⟩ : Note)]), cOwn (α := Raw 2) 60 ak al, cRo am] R := H.back aa rfl
 clear aa
 refine t_bs (α := Int) T34 [I 0] [(0 : Int)] H rfl (.cons rfl (Flat.rep_enc _ (0 : Int)) <| .nil) rfl rfl rfl ?_
 intro aI dP H
 obtain ⟨dQ, cw, hM⟩ := M.e_bind hM
 refine s_call cf38 [aE, aI] rfl (zc4 r5 ([(0 : Int)]) (Reads.sup (Reads.of (k := 1) rfl ownLe) (Reads.of (k := 2) rfl roLe)) (rowSl rfl (H.get (k := 1) rfl) (roLe _ (H.get (k := 2) rfl)) cv) (Reads.of (k := 0) rfl ownLe) (ownSl (H.get (k := 0) rfl)) cw _ (St.give (T := [cOwn (α := Int) 3 aI ([(0 : Int)]), cOwn (α := Raw 2) 60 aE aG, cRo aH, cRo aD, cOwn (α := Int) 3 aC ([(1 : Int)]), cOwn (α := Raw 2) 60 az aA, cRo aB, cRo ay, cOwn (α := Int) 3 ax ([(0 : Int)]), cOwn (α := Raw 2) 60 au av, cRo aw, cOwn (α := Int) 3 ah r0, cOwn (α := Note) 30 ao ([(⟨(0 : Int), (2 : Int), (7 : Int)⟩ : Note), (⟨(1 : Int), (0 : Int), (9 : Int)⟩ : Note)]), cOwn (α := Raw 2) 60 ak al, cRo am]) H rfl)) ?_
 rintro vq cx ⟨aJ, ai, ap, cy, hvq, aa⟩
 subst cy
 subst vq
 try dsimp only at hM
 replace H : St w cx [cOwn (α := Int) 3 ap aJ, cOwn (α := Int) 3 aI ([(0 : Int)]), cOwn (α := Raw 2) 60 aE aG, cRo aH, cRo aD, cOwn (α := Int) 3 aC ([(1 : Int)]), cOwn (α := Raw 2) 60 az aA, cRo aB, cRo ay, cOwn (α := Int) 3 ax ([(0 : Int)]), cOwn (α := Raw 2) 60 au av, cRo aw, cOwn (α := Int) 3 ah r0, cOwn (α := Note) 30 ao ([(⟨(0 : Int), (2 : Int), (7 : Int)⟩ : Note), (⟨(1 : Int), (0 : Int), (9 : Int)⟩ : Note)]), cOwn (α := Raw 2) 60 ak al, cRo am] R := H.back aa rfl
 clear aa
 refine sM (.tuple #[ap, I ai]) rfl <| sX [ap, I ai] ap rfl rfl <| sX [ap, I ai] (I ai) rfl rfl <| sA ap rfl <| sA (I ai) rfl <| s_nil <| W.seq <| sQ rfl <| sM (I r1) rfl <| sC _ _ (r1 != 0) rfl rfl rfl <| sM (B (r1 != 0)) rfl ?_
 refine g_val (!(r1 != 0)) (gy_f rfl) (fun hg => x_mv (v := I e) rfl) <| g_val (!(r1 != 0)) (gy_f rfl) (fun hg => x_cmp (kd := .i64) (r := e != 0) (gd_of hg (I e)) rfl rfl) <| s_val (x_por (b := r1 != 0) (r := e != 0) rfl rfl (fun hb => gd_of (c := !(r1 != 0)) (by first | exact hb | (rw [hb]; rfl) | simp_all) (B (e != 0)))) <| sM (B ((r1 != 0) || (e != 0))) rfl <| g_val (!((r1 != 0) || (e != 0))) (gy_f rfl) (fun hg => x_mv (v := I e2) rfl) <| g_val (!((r1 != 0) || (e != 0))) (gy_f rfl) (fun hg => x_cmp (kd := .i64) (r := e2 != 0) (gd_of hg (I e2)) rfl rfl) <| s_val (x_por (b := ((r1 != 0) || (e != 0))) (r := e2 != 0) rfl rfl (fun hb => gd_of (c := !((r1 != 0) || (e != 0))) (by first | exact hb | (rw [hb]; rfl) | simp_all) (B (e2 != 0)))) <| sM (B (((r1 != 0) || (e != 0)) || (e2 != 0))) rfl <| g_val (!(((r1 != 0) || (e != 0)) || (e2 != 0))) (gy_f rfl) (fun hg => x_mv (v := I ai) rfl) <| g_val (!(((r1 != 0) || (e != 0)) || (e2 != 0))) (gy_f rfl) (fun hg => x_cmp (kd := .i64) (r := ai != 0) (gd_of hg (I ai)) rfl rfl) <| s_val (x_por (b := (((r1 != 0) || (e != 0)) || (e2 != 0))) (r := ai != 0) rfl rfl (fun hb => gd_of (c := !(((r1 != 0) || (e != 0)) || (e2 != 0))) (by first | exact hb | (rw [hb]; rfl) | simp_all) (B (ai != 0)))) <| sM (B ((((r1 != 0) || (e != 0)) || (e2 != 0)) || (ai != 0))) rfl ?_
 refine g_val (!((((r1 != 0) || (e != 0)) || (e2 != 0)) || (ai != 0))) (gy_f rfl) (fun hg => x_mv (v := ah) rfl) ?_
 refine t_gbs (α := Int) T34 (!((((r1 != 0) || (e != 0)) || (e2 != 0)) || (ai != 0))) (gy_f rfl) [I 7, I 9, I 26, I 10, I 47, I 48] [(7 : Int), (9 : Int), (26 : Int), (10 : Int), (47 : Int), (48 : Int)] H (fun _ => rfl) (.cons rfl (Flat.rep_enc _ _) <| .cons rfl (Flat.rep_enc _ _) <| .cons rfl (Flat.rep_enc _ _) <| .cons rfl (Flat.rep_enc _ _) <| .cons rfl (Flat.rep_enc _ _) <| .cons rfl (Flat.rep_enc _ _) <| .nil) rfl rfl rfl ?_
 intro bQ aK dR H cz
 obtain ⟨s, bE, hM⟩ := M.e_bind hM
 replace bE := M.e_pure bE
 refine t_gcall (!((((r1 != 0) || (e != 0)) || (e2 != 0)) || (ai != 0))) (gy_f rfl) cf25 (B s) (fun _ => [ah, bQ]) (fun hg => lst2 (gd_of hg (ah)) (gd_of hg (bQ))) H (fun hg => Ret.mono (same_int _ ((ownSl (H.get (k := 13) rfl)).mono (ownLe _ (H.get (k := 13) rfl))) ((cz hg).mono (roLe _ (H.get (k := 0) rfl)))) fun v_ w_ ⟨bg, a5⟩ => ⟨bg.trans (congrArg B bE), H.ext a5⟩) ?_
 intro dS H
 refine g_val (!((((r1 != 0) || (e != 0)) || (e2 != 0)) || (ai != 0))) (gy_f rfl) (fun hg => x_not (b := s) (gd_of hg (B s))) <| s_val (x_por (b := ((((r1 != 0) || (e != 0)) || (e2 != 0)) || (ai != 0))) (r := !s) rfl rfl (fun hb => gd_of (c := !((((r1 != 0) || (e != 0)) || (e2 != 0)) || (ai != 0))) (by first | exact hb | (rw [hb]; rfl) | simp_all) (B (!s)))) <| sM (B (((((r1 != 0) || (e != 0)) || (e2 != 0)) || (ai != 0)) || (!s))) rfl <| g_val (!(((((r1 != 0) || (e != 0)) || (e2 != 0)) || (ai != 0)) || (!s))) (gy_f rfl) (fun hg => x_mv (v := bo) rfl) ?_
 refine t_gbs (α := Int) T34 (!(((((r1 != 0) || (e != 0)) || (e2 != 0)) || (ai != 0)) || (!s))) (gy_f rfl) [I 0, I 2, I 4, I 5] [(0 : Int), (2 : Int), (4 : Int), (5 : Int)] H (fun _ => rfl) (.cons rfl (Flat.rep_enc _ _) <| .cons rfl (Flat.rep_enc _ _) <| .cons rfl (Flat.rep_enc _ _) <| .cons rfl (Flat.rep_enc _ _) <| .nil) rfl rfl rfl ?_
 intro bR aL dT H cA
 obtain ⟨s2, bF, hM⟩ := M.e_bind hM
 replace bF := M.e_pure bF
 refine t_gcall (!(((((r1 != 0) || (e != 0)) || (e2 != 0)) || (ai != 0)) || (!s))) (gy_f rfl) cf25 (B s2) (fun _ => [bo, bR]) (fun hg => lst2 (gd_of hg (bo)) (gd_of hg (bR))) H (fun hg => Ret.mono (same_int _ (bA.mono (roLe _ (H.get (k := 10) rfl))) ((cA hg).mono (roLe _ (H.get (k := 0) rfl)))) fun v_ w_ ⟨bg, a5⟩ => ⟨bg.trans (congrArg B bF), H.ext a5⟩) ?_
 intro dU H
 refine g_val (!(((((r1 != 0) || (e != 0)) || (e2 != 0)) || (ai != 0)) || (!s))) (gy_f rfl) (fun hg => x_not (b := s2) (gd_of hg (B s2))) <| s_val (x_por (b := (((((r1 != 0) || (e != 0)) || (e2 != 0)) || (ai != 0)) || (!s))) (r := !s2) rfl rfl (fun hb => gd_of (c := !(((((r1 != 0) || (e != 0)) || (e2 != 0)) || (ai != 0)) || (!s))) (by first | exact hb | (rw [hb]; rfl) | simp_all) (B (!s2)))) <| sM (B ((((((r1 != 0) || (e != 0)) || (e2 != 0)) || (ai != 0)) || (!s)) || (!s2))) rfl <| g_val (!((((((r1 != 0) || (e != 0)) || (e2 != 0)) || (ai != 0)) || (!s)) || (!s2))) (gy_f rfl) (fun hg => x_mv (v := bp) rfl) ?_
 refine t_gbs (α := Int) T34 (!((((((r1 != 0) || (e != 0)) || (e2 != 0)) || (ai != 0)) || (!s)) || (!s2))) (gy_f rfl) [I (-1), I 6, I 16, I 36, I 56, I 57] [(-1 : Int), (6 : Int), (16 : Int), (36 : Int), (56 : Int), (57 : Int)] H (fun _ => rfl) (.cons rfl (Flat.rep_enc _ _) <| .cons rfl (Flat.rep_enc _ _) <| .cons rfl (Flat.rep_enc _ _) <| .cons rfl (Flat.rep_enc _ _) <| .cons rfl (Flat.rep_enc _ _) <| .cons rfl (Flat.rep_enc _ _) <| .nil) rfl rfl rfl ?_
 intro bS aM dV H cB
 obtain ⟨s3, bG, hM⟩ := M.e_bind hM
 replace bG := M.e_pure bG
 refine t_gcall (!((((((r1 != 0) || (e != 0)) || (e2 != 0)) || (ai != 0)) || (!s)) || (!s2))) (gy_f rfl) cf25 (B s3) (fun _ => [bp, bS]) (fun hg => lst2 (gd_of hg (bp)) (gd_of hg (bS))) H (fun hg => Ret.mono (same_int _ (bB.mono (roLe _ (H.get (k := 7) rfl))) ((cB hg).mono (roLe _ (H.get (k := 0) rfl)))) fun v_ w_ ⟨bg, a5⟩ => ⟨bg.trans (congrArg B bG), H.ext a5⟩) ?_
 intro dW H
 refine g_val (!((((((r1 != 0) || (e != 0)) || (e2 != 0)) || (ai != 0)) || (!s)) || (!s2))) (gy_f rfl) (fun hg => x_not (b := s3) (gd_of hg (B s3))) <| s_val (x_por (b := ((((((r1 != 0) || (e != 0)) || (e2 != 0)) || (ai != 0)) || (!s)) || (!s2))) (r := !s3) rfl rfl (fun hb => gd_of (c := !((((((r1 != 0) || (e != 0)) || (e2 != 0)) || (ai != 0)) || (!s)) || (!s2))) (by first | exact hb | (rw [hb]; rfl) | simp_all) (B (!s3)))) <| sM (B (((((((r1 != 0) || (e != 0)) || (e2 != 0)) || (ai != 0)) || (!s)) || (!s2)) || (!s3))) rfl <| g_val (!(((((((r1 != 0) || (e != 0)) || (e2 != 0)) || (ai != 0)) || (!s)) || (!s2)) || (!s3))) (gy_f rfl) (fun hg => x_mv (v := ap) rfl) ?_
 refine t_gbs (α := Int) T34 (!(((((((r1 != 0) || (e != 0)) || (e2 != 0)) || (ai != 0)) || (!s)) || (!s2)) || (!s3))) (gy_f rfl) [I 0, I 2, I 4, I 5] [(0 : Int), (2 : Int), (4 : Int), (5 : Int)] H (fun _ => rfl) (.cons rfl (Flat.rep_enc _ _) <| .cons rfl (Flat.rep_enc _ _) <| .cons rfl (Flat.rep_enc _ _) <| .cons rfl (Flat.rep_enc _ _) <| .nil) rfl rfl rfl ?_
 intro bT aN dX H cC
 obtain ⟨s4, bH, hM⟩ := M.e_bind hM
 replace bH := M.e_pure bH
 refine t_gcall (!(((((((r1 != 0) || (e != 0)) || (e2 != 0)) || (ai != 0)) || (!s)) || (!s2)) || (!s3))) (gy_f rfl) cf25 (B s4) (fun _ => [ap, bT]) (fun hg => lst2 (gd_of hg (ap)) (gd_of hg (bT))) H (fun hg => Ret.mono (same_int _ ((ownSl (H.get (k := 4) rfl)).mono (ownLe _ (H.get (k := 4) rfl))) ((cC hg).mono (roLe _ (H.get (k := 0) rfl)))) fun v_ w_ ⟨bg, a5⟩ => ⟨bg.trans (congrArg B bH), H.ext a5⟩) ?_
 intro dY H
 refine g_val (!(((((((r1 != 0) || (e != 0)) || (e2 != 0)) || (ai != 0)) || (!s)) || (!s2)) || (!s3))) (gy_f rfl) (fun hg => x_not (b := s4) (gd_of hg (B s4))) <| s_val (x_por (b := (((((((r1 != 0) || (e != 0)) || (e2 != 0)) || (ai != 0)) || (!s)) || (!s2)) || (!s3))) (r := !s4) rfl rfl (fun hb => gd_of (c := !(((((((r1 != 0) || (e != 0)) || (e2 != 0)) || (ai != 0)) || (!s)) || (!s2)) || (!s3))) (by first | exact hb | (rw [hb]; rfl) | simp_all) (B (!s4)))) <| s_nil ?_
 refine W.cond ((((((((r1 != 0) || (e != 0)) || (e2 != 0)) || (ai != 0)) || (!s)) || (!s2)) || (!s3)) || (!s4)) rfl (fun bI => ?_) (fun bI => ?_)
 ·replace hM := M.e_t hM bI
  refine sQ rfl <| sA (B false) rfl <| s_nil ?_
  refine W.ret ?_
  have bw := M.e_pure hM
  exact ⟨_, resE_tmp rfl, ⟨false, bw, rfl, (H.pick [] (by decide) rfl)⟩⟩
 replace hM := M.e_f hM bI
 refine W.skip <| sQ rfl ?_
 obtain ⟨dZ, cD, hM⟩ := M.e_bind hM
 refine s_call cf79 [] rfl (zad cD _ (St.give (T := [cRo aN, cRo aM, cRo aL, cRo aK, cOwn (α := Int) 3 ap aJ, cOwn (α := Int) 3 aI ([(0 : Int)]), cOwn (α := Raw 2) 60 aE aG, cRo aH, cRo aD, cOwn (α := Int) 3 aC ([(1 : Int)]), cOwn (α := Raw 2) 60 az aA, cRo aB, cRo ay, cOwn (α := Int) 3 ax ([(0 : Int)]), cOwn (α := Raw 2) 60 au av, cRo aw, cOwn (α := Int) 3 ah r0, cOwn (α := Note) 30 ao ([(⟨(0 : Int), (2 : Int), (7 : Int)⟩ : Note), (⟨(1 : Int), (0 : Int), (9 : Int)⟩ : Note)]), cOwn (α := Raw 2) 60 ak al, cRo am]) H rfl)) ?_
 rintro vq cE ⟨r6, aO, aP, aQ, cF, hvq, aa, cG⟩
 subst cF
 subst vq
 try dsimp only at hM
 replace H : St w cE [cOwn (α := Raw 2) 60 aO aP, cRo aQ, cRo aN, cRo aM, cRo aL, cRo aK, cOwn (α := Int) 3 ap aJ, cOwn (α := Int) 3 aI ([(0 : Int)]), cOwn (α := Raw 2) 60 aE aG, cRo aH, cRo aD, cOwn (α := Int) 3 aC ([(1 : Int)]), cOwn (α := Raw 2) 60 az aA, cRo aB, cRo ay, cOwn (α := Int) 3 ax ([(0 : Int)]), cOwn (α := Raw 2) 60 au av, cRo aw, cOwn (α := Int) 3 ah r0, cOwn (α := Note) 30 ao ([(⟨(0 : Int), (2 : Int), (7 : Int)⟩ : Note), (⟨(1 : Int), (0 : Int), (9 : Int)⟩ : Note)]), cOwn (α := Raw 2) 60 ak al, cRo am] R := H.back aa rfl
 clear aa
 refine t_bs (α := Int) T34 [I 0] [(0 : Int)] H rfl (.cons rfl (Flat.rep_enc _ (0 : Int)) <| .nil) rfl rfl rfl ?_
 intro aR d5 H
 refine t_bs (α := Int) T34 [I 0, I 2, I 4, I 5] [(0 : Int), (2 : Int), (4 : Int), (5 : Int)] H rfl (.cons rfl (Flat.rep_enc _ (0 : Int)) <| .cons rfl (Flat.rep_enc _ (2 : Int)) <| .cons rfl (Flat.rep_enc _ (4 : Int)) <| .cons rfl (Flat.rep_enc _ (5 : Int)) <| .nil) rfl rfl rfl ?_
 intro aS d6 H
 obtain ⟨d7, cH, hM⟩ := M.e_bind hM
 refine s_call cf34 [aO, aR, aS] rfl (zcK r6 ([(0 : Int)]) ([(0 : Int), (2 : Int), (4 : Int), (5 : Int)]) (Reads.sup (Reads.of (k := 2) rfl ownLe) (Reads.of (k := 3) rfl roLe)) (rowSl rfl (H.get (k := 2) rfl) (roLe _ (H.get (k := 3) rfl)) cG) (Reads.of (k := 1) rfl ownLe) (ownSl (H.get (k := 1) rfl)) (Reads.of (k := 0) rfl ownLe) (ownSl (H.get (k := 0) rfl)) cH _ (St.give (T := [cOwn (α := Int) 3 aS ([(0 : Int), (2 : Int), (4 : Int), (5 : Int)]), cOwn (α := Int) 3 aR ([(0 : Int)]), cOwn (α := Raw 2) 60 aO aP, cRo aQ, cRo aN, cRo aM, cRo aL, cRo aK, cOwn (α := Int) 3 ap aJ, cOwn (α := Int) 3 aI ([(0 : Int)]), cOwn (α := Raw 2) 60 aE aG, cRo aH, cRo aD, cOwn (α := Int) 3 aC ([(1 : Int)]), cOwn (α := Raw 2) 60 az aA, cRo aB, cRo ay, cOwn (α := Int) 3 ax ([(0 : Int)]), cOwn (α := Raw 2) 60 au av, cRo aw, cOwn (α := Int) 3 ah r0, cOwn (α := Note) 30 ao ([(⟨(0 : Int), (2 : Int), (7 : Int)⟩ : Note), (⟨(1 : Int), (0 : Int), (9 : Int)⟩ : Note)]), cOwn (α := Raw 2) 60 ak al, cRo am]) H rfl)) ?_
 rintro vq cI ⟨aF, ac, cJ, hvq, aa⟩
 subst cJ
 subst vq
 try dsimp only at hM
 replace H : St w cI [cOwn (α := Int) 3 aS ([(0 : Int), (2 : Int), (4 : Int), (5 : Int)]), cOwn (α := Int) 3 aR ([(0 : Int)]), cOwn (α := Raw 2) 60 aO aP, cRo aQ, cRo aN, cRo aM, cRo aL, cRo aK, cOwn (α := Int) 3 ap aJ, cOwn (α := Int) 3 aI ([(0 : Int)]), cOwn (α := Raw 2) 60 aE aG, cRo aH, cRo aD, cOwn (α := Int) 3 aC ([(1 : Int)]), cOwn (α := Raw 2) 60 az aA, cRo aB, cRo ay, cOwn (α := Int) 3 ax ([(0 : Int)]), cOwn (α := Raw 2) 60 au av, cRo aw, cOwn (α := Int) 3 ah r0, cOwn (α := Note) 30 ao ([(⟨(0 : Int), (2 : Int), (7 : Int)⟩ : Note), (⟨(1 : Int), (0 : Int), (9 : Int)⟩ : Note)]), cOwn (α := Raw 2) 60 ak al, cRo am] R := H.back aa rfl
 clear aa
 refine sM (.tuple #[B aF, I ac]) rfl <| sX [B aF, I ac] (B aF) rfl rfl <| sX [B aF, I ac] (I ac) rfl rfl <| sA (B aF) rfl <| sA (I ac) rfl <| s_nil <| sQ rfl ?_
 obtain ⟨d8, cK, hM⟩ := M.e_bind hM
 refine s_call cf79 [] rfl (zad cK _ (St.give (T := [cOwn (α := Int) 3 aS ([(0 : Int), (2 : Int), (4 : Int), (5 : Int)]), cOwn (α := Int) 3 aR ([(0 : Int)]), cOwn (α := Raw 2) 60 aO aP, cRo aQ, cRo aN, cRo aM, cRo aL, cRo aK, cOwn (α := Int) 3 ap aJ, cOwn (α := Int) 3 aI ([(0 : Int)]), cOwn (α := Raw 2) 60 aE aG, cRo aH, cRo aD, cOwn (α := Int) 3 aC ([(1 : Int)]), cOwn (α := Raw 2) 60 az aA, cRo aB, cRo ay, cOwn (α := Int) 3 ax ([(0 : Int)]), cOwn (α := Raw 2) 60 au av, cRo aw, cOwn (α := Int) 3 ah r0, cOwn (α := Note) 30 ao ([(⟨(0 : Int), (2 : Int), (7 : Int)⟩ : Note), (⟨(1 : Int), (0 : Int), (9 : Int)⟩ : Note)]), cOwn (α := Raw 2) 60 ak al, cRo am]) H rfl)) ?_
 rintro vq cL ⟨r7, aV, aW, aX, cM, hvq, aa, cN⟩
 subst cM
 subst vq
 try dsimp only at hM
 replace H : St w cL [cOwn (α := Raw 2) 60 aV aW, cRo aX, cOwn (α := Int) 3 aS ([(0 : Int), (2 : Int), (4 : Int), (5 : Int)]), cOwn (α := Int) 3 aR ([(0 : Int)]), cOwn (α := Raw 2) 60 aO aP, cRo aQ, cRo aN, cRo aM, cRo aL, cRo aK, cOwn (α := Int) 3 ap aJ, cOwn (α := Int) 3 aI ([(0 : Int)]), cOwn (α := Raw 2) 60 aE aG, cRo aH, cRo aD, cOwn (α := Int) 3 aC ([(1 : Int)]), cOwn (α := Raw 2) 60 az aA, cRo aB, cRo ay, cOwn (α := Int) 3 ax ([(0 : Int)]), cOwn (α := Raw 2) 60 au av, cRo aw, cOwn (α := Int) 3 ah r0, cOwn (α := Note) 30 ao ([(⟨(0 : Int), (2 : Int), (7 : Int)⟩ : Note), (⟨(1 : Int), (0 : Int), (9 : Int)⟩ : Note)]), cOwn (α := Raw 2) 60 ak al, cRo am] R := H.back aa rfl
 clear aa
 refine t_bs (α := Int) T34 [I 0] [(0 : Int)] H rfl (.cons rfl (Flat.rep_enc _ (0 : Int)) <| .nil) rfl rfl rfl ?_
 intro aY d9 H
 refine t_bs (α := Int) T34 [I 0, I 2, I 4] [(0 : Int), (2 : Int), (4 : Int)] H rfl (.cons rfl (Flat.rep_enc _ (0 : Int)) <| .cons rfl (Flat.rep_enc _ (2 : Int)) <| .cons rfl (Flat.rep_enc _ (4 : Int)) <| .nil) rfl rfl rfl ?_
 intro aZ ec H
 obtain ⟨ed, cO, hM⟩ := M.e_bind hM
 refine s_call cf34 [aV, aY, aZ] rfl (zcK r7 ([(0 : Int)]) ([(0 : Int), (2 : Int), (4 : Int)]) (Reads.sup (Reads.of (k := 2) rfl ownLe) (Reads.of (k := 3) rfl roLe)) (rowSl rfl (H.get (k := 2) rfl) (roLe _ (H.get (k := 3) rfl)) cN) (Reads.of (k := 1) rfl ownLe) (ownSl (H.get (k := 1) rfl)) (Reads.of (k := 0) rfl ownLe) (ownSl (H.get (k := 0) rfl)) cO _ (St.give (T := [cOwn (α := Int) 3 aZ ([(0 : Int), (2 : Int), (4 : Int)]), cOwn (α := Int) 3 aY ([(0 : Int)]), cOwn (α := Raw 2) 60 aV aW, cRo aX, cOwn (α := Int) 3 aS ([(0 : Int), (2 : Int), (4 : Int), (5 : Int)]), cOwn (α := Int) 3 aR ([(0 : Int)]), cOwn (α := Raw 2) 60 aO aP, cRo aQ, cRo aN, cRo aM, cRo aL, cRo aK, cOwn (α := Int) 3 ap aJ, cOwn (α := Int) 3 aI ([(0 : Int)]), cOwn (α := Raw 2) 60 aE aG, cRo aH, cRo aD, cOwn (α := Int) 3 aC ([(1 : Int)]), cOwn (α := Raw 2) 60 az aA, cRo aB, cRo ay, cOwn (α := Int) 3 ax ([(0 : Int)]), cOwn (α := Raw 2) 60 au av, cRo aw, cOwn (α := Int) 3 ah r0, cOwn (α := Note) 30 ao ([(⟨(0 : Int), (2 : Int), (7 : Int)⟩ : Note), (⟨(1 : Int), (0 : Int), (9 : Int)⟩ : Note)]), cOwn (α := Raw 2) 60 ak al, cRo am]) H rfl)) ?_
 rintro vq cP ⟨aT, ae, cQ, hvq, aa⟩
 subst cQ
 subst vq
 try dsimp only at hM
 replace H : St w cP [cOwn (α := Int) 3 aZ ([(0 : Int), (2 : Int), (4 : Int)]), cOwn (α := Int) 3 aY ([(0 : Int)]), cOwn (α := Raw 2) 60 aV aW, cRo aX, cOwn (α := Int) 3 aS ([(0 : Int), (2 : Int), (4 : Int), (5 : Int)]), cOwn (α := Int) 3 aR ([(0 : Int)]), cOwn (α := Raw 2) 60 aO aP, cRo aQ, cRo aN, cRo aM, cRo aL, cRo aK, cOwn (α := Int) 3 ap aJ, cOwn (α := Int) 3 aI ([(0 : Int)]), cOwn (α := Raw 2) 60 aE aG, cRo aH, cRo aD, cOwn (α := Int) 3 aC ([(1 : Int)]), cOwn (α := Raw 2) 60 az aA, cRo aB, cRo ay, cOwn (α := Int) 3 ax ([(0 : Int)]), cOwn (α := Raw 2) 60 au av, cRo aw, cOwn (α := Int) 3 ah r0, cOwn (α := Note) 30 ao ([(⟨(0 : Int), (2 : Int), (7 : Int)⟩ : Note), (⟨(1 : Int), (0 : Int), (9 : Int)⟩ : Note)]), cOwn (α := Raw 2) 60 ak al, cRo am] R := H.back aa rfl
 clear aa
 refine sM (.tuple #[B aT, I ae]) rfl <| sX [B aT, I ae] (B aT) rfl rfl <| sX [B aT, I ae] (I ae) rfl rfl <| sA (B aT) rfl <| sA (I ae) rfl <| s_nil <| sQ rfl ?_
 obtain ⟨ee, cR, hM⟩ := M.e_bind hM
 refine s_call cf79 [] rfl (zad cR _ (St.give (T := [cOwn (α := Int) 3 aZ ([(0 : Int), (2 : Int), (4 : Int)]), cOwn (α := Int) 3 aY ([(0 : Int)]), cOwn (α := Raw 2) 60 aV aW, cRo aX, cOwn (α := Int) 3 aS ([(0 : Int), (2 : Int), (4 : Int), (5 : Int)]), cOwn (α := Int) 3 aR ([(0 : Int)]), cOwn (α := Raw 2) 60 aO aP, cRo aQ, cRo aN, cRo aM, cRo aL, cRo aK, cOwn (α := Int) 3 ap aJ, cOwn (α := Int) 3 aI ([(0 : Int)]), cOwn (α := Raw 2) 60 aE aG, cRo aH, cRo aD, cOwn (α := Int) 3 aC ([(1 : Int)]), cOwn (α := Raw 2) 60 az aA, cRo aB, cRo ay, cOwn (α := Int) 3 ax ([(0 : Int)]), cOwn (α := Raw 2) 60 au av, cRo aw, cOwn (α := Int) 3 ah r0, cOwn (α := Note) 30 ao ([(⟨(0 : Int), (2 : Int), (7 : Int)⟩ : Note), (⟨(1 : Int), (0 : Int), (9 : Int)⟩ : Note)]), cOwn (α := Raw 2) 60 ak al, cRo am]) H rfl)) ?_
 rintro vq cS ⟨r8, a6, a8, a9, cT, hvq, aa, cU⟩
 subst cT
 subst vq
 try dsimp only at hM
 replace H : St w cS [cOwn (α := Raw 2) 60 a6 a8, cRo a9, cOwn (α := Int) 3 aZ ([(0 : Int), (2 : Int), (4 : Int)]), cOwn (α := Int) 3 aY ([(0 : Int)]), cOwn (α := Raw 2) 60 aV aW, cRo aX, cOwn (α := Int) 3 aS ([(0 : Int), (2 : Int), (4 : Int), (5 : Int)]), cOwn (α := Int) 3 aR ([(0 : Int)]), cOwn (α := Raw 2) 60 aO aP, cRo aQ, cRo aN, cRo aM, cRo aL, cRo aK, cOwn (α := Int) 3 ap aJ, cOwn (α := Int) 3 aI ([(0 : Int)]), cOwn (α := Raw 2) 60 aE aG, cRo aH, cRo aD, cOwn (α := Int) 3 aC ([(1 : Int)]), cOwn (α := Raw 2) 60 az aA, cRo aB, cRo ay, cOwn (α := Int) 3 ax ([(0 : Int)]), cOwn (α := Raw 2) 60 au av, cRo aw, cOwn (α := Int) 3 ah r0, cOwn (α := Note) 30 ao ([(⟨(0 : Int), (2 : Int), (7 : Int)⟩ : Note), (⟨(1 : Int), (0 : Int), (9 : Int)⟩ : Note)]), cOwn (α := Raw 2) 60 ak al, cRo am] R := H.back aa rfl
 clear aa
 refine t_bs (α := Int) T34 [I 1] [(1 : Int)] H rfl (.cons rfl (Flat.rep_enc _ (1 : Int)) <| .nil) rfl rfl rfl ?_
 intro ba ef H
 obtain ⟨eg, cV, hM⟩ := M.e_bind hM
 refine s_call cf64 [a6, ba, I 4] rfl (zch r8 ([(1 : Int)]) 4 (Reads.sup (Reads.of (k := 1) rfl ownLe) (Reads.of (k := 2) rfl roLe)) (rowSl rfl (H.get (k := 1) rfl) (roLe _ (H.get (k := 2) rfl)) cU) (Reads.of (k := 0) rfl ownLe) (ownSl (H.get (k := 0) rfl)) cV _ (St.give (T := [cOwn (α := Int) 3 ba ([(1 : Int)]), cOwn (α := Raw 2) 60 a6 a8, cRo a9, cOwn (α := Int) 3 aZ ([(0 : Int), (2 : Int), (4 : Int)]), cOwn (α := Int) 3 aY ([(0 : Int)]), cOwn (α := Raw 2) 60 aV aW, cRo aX, cOwn (α := Int) 3 aS ([(0 : Int), (2 : Int), (4 : Int), (5 : Int)]), cOwn (α := Int) 3 aR ([(0 : Int)]), cOwn (α := Raw 2) 60 aO aP, cRo aQ, cRo aN, cRo aM, cRo aL, cRo aK, cOwn (α := Int) 3 ap aJ, cOwn (α := Int) 3 aI ([(0 : Int)]), cOwn (α := Raw 2) 60 aE aG, cRo aH, cRo aD, cOwn (α := Int) 3 aC ([(1 : Int)]), cOwn (α := Raw 2) 60 az aA, cRo aB, cRo ay, cOwn (α := Int) 3 ax ([(0 : Int)]), cOwn (α := Raw 2) 60 au av, cRo aw, cOwn (α := Int) 3 ah r0, cOwn (α := Note) 30 ao ([(⟨(0 : Int), (2 : Int), (7 : Int)⟩ : Note), (⟨(1 : Int), (0 : Int), (9 : Int)⟩ : Note)]), cOwn (α := Raw 2) 60 ak al, cRo am]) H rfl)) ?_
 rintro vq cW ⟨bc, ag, aU, cX, hvq, aa⟩
 subst cX
 subst vq
 try dsimp only at hM
 replace H : St w cW [cOwn (α := Int) 3 aU bc, cOwn (α := Int) 3 ba ([(1 : Int)]), cOwn (α := Raw 2) 60 a6 a8, cRo a9, cOwn (α := Int) 3 aZ ([(0 : Int), (2 : Int), (4 : Int)]), cOwn (α := Int) 3 aY ([(0 : Int)]), cOwn (α := Raw 2) 60 aV aW, cRo aX, cOwn (α := Int) 3 aS ([(0 : Int), (2 : Int), (4 : Int), (5 : Int)]), cOwn (α := Int) 3 aR ([(0 : Int)]), cOwn (α := Raw 2) 60 aO aP, cRo aQ, cRo aN, cRo aM, cRo aL, cRo aK, cOwn (α := Int) 3 ap aJ, cOwn (α := Int) 3 aI ([(0 : Int)]), cOwn (α := Raw 2) 60 aE aG, cRo aH, cRo aD, cOwn (α := Int) 3 aC ([(1 : Int)]), cOwn (α := Raw 2) 60 az aA, cRo aB, cRo ay, cOwn (α := Int) 3 ax ([(0 : Int)]), cOwn (α := Raw 2) 60 au av, cRo aw, cOwn (α := Int) 3 ah r0, cOwn (α := Note) 30 ao ([(⟨(0 : Int), (2 : Int), (7 : Int)⟩ : Note), (⟨(1 : Int), (0 : Int), (9 : Int)⟩ : Note)]), cOwn (α := Raw 2) 60 ak al, cRo am] R := H.back aa rfl
 clear aa
 refine sM (.tuple #[aU, I ag]) rfl <| sX [aU, I ag] aU rfl rfl <| sX [aU, I ag] (I ag) rfl rfl <| sA aU rfl <| sA (I ag) rfl <| s_nil <| sQ rfl ?_
 obtain ⟨eh, cY, hM⟩ := M.e_bind hM
 refine s_call cf79 [] rfl (zad cY _ (St.give (T := [cOwn (α := Int) 3 aU bc, cOwn (α := Int) 3 ba ([(1 : Int)]), cOwn (α := Raw 2) 60 a6 a8, cRo a9, cOwn (α := Int) 3 aZ ([(0 : Int), (2 : Int), (4 : Int)]), cOwn (α := Int) 3 aY ([(0 : Int)]), cOwn (α := Raw 2) 60 aV aW, cRo aX, cOwn (α := Int) 3 aS ([(0 : Int), (2 : Int), (4 : Int), (5 : Int)]), cOwn (α := Int) 3 aR ([(0 : Int)]), cOwn (α := Raw 2) 60 aO aP, cRo aQ, cRo aN, cRo aM, cRo aL, cRo aK, cOwn (α := Int) 3 ap aJ, cOwn (α := Int) 3 aI ([(0 : Int)]), cOwn (α := Raw 2) 60 aE aG, cRo aH, cRo aD, cOwn (α := Int) 3 aC ([(1 : Int)]), cOwn (α := Raw 2) 60 az aA, cRo aB, cRo ay, cOwn (α := Int) 3 ax ([(0 : Int)]), cOwn (α := Raw 2) 60 au av, cRo aw, cOwn (α := Int) 3 ah r0, cOwn (α := Note) 30 ao ([(⟨(0 : Int), (2 : Int), (7 : Int)⟩ : Note), (⟨(1 : Int), (0 : Int), (9 : Int)⟩ : Note)]), cOwn (α := Raw 2) 60 ak al, cRo am]) H rfl)) ?_
 rintro vq cZ ⟨r9, bf, bh, bi, da, hvq, aa, db⟩
 subst da
 subst vq
 try dsimp only at hM
 replace H : St w cZ [cOwn (α := Raw 2) 60 bf bh, cRo bi, cOwn (α := Int) 3 aU bc, cOwn (α := Int) 3 ba ([(1 : Int)]), cOwn (α := Raw 2) 60 a6 a8, cRo a9, cOwn (α := Int) 3 aZ ([(0 : Int), (2 : Int), (4 : Int)]), cOwn (α := Int) 3 aY ([(0 : Int)]), cOwn (α := Raw 2) 60 aV aW, cRo aX, cOwn (α := Int) 3 aS ([(0 : Int), (2 : Int), (4 : Int), (5 : Int)]), cOwn (α := Int) 3 aR ([(0 : Int)]), cOwn (α := Raw 2) 60 aO aP, cRo aQ, cRo aN, cRo aM, cRo aL, cRo aK, cOwn (α := Int) 3 ap aJ, cOwn (α := Int) 3 aI ([(0 : Int)]), cOwn (α := Raw 2) 60 aE aG, cRo aH, cRo aD, cOwn (α := Int) 3 aC ([(1 : Int)]), cOwn (α := Raw 2) 60 az aA, cRo aB, cRo ay, cOwn (α := Int) 3 ax ([(0 : Int)]), cOwn (α := Raw 2) 60 au av, cRo aw, cOwn (α := Int) 3 ah r0, cOwn (α := Note) 30 ao ([(⟨(0 : Int), (2 : Int), (7 : Int)⟩ : Note), (⟨(1 : Int), (0 : Int), (9 : Int)⟩ : Note)]), cOwn (α := Raw 2) 60 ak al, cRo am] R := H.back aa rfl
 clear aa
 refine t_bs (α := Int) T34 [I 1] [(1 : Int)] H rfl (.cons rfl (Flat.rep_enc _ (1 : Int)) <| .nil) rfl rfl rfl ?_
 intro bj ei H
 obtain ⟨ej, dc, hM⟩ := M.e_bind hM
 refine s_call cf65 [bf, bj, I 4] rfl (zcx r9 ([(1 : Int)]) 4 (Reads.sup (Reads.of (k := 1) rfl ownLe) (Reads.of (k := 2) rfl roLe)) (rowSl rfl (H.get (k := 1) rfl) (roLe _ (H.get (k := 2) rfl)) db) (Reads.of (k := 0) rfl ownLe) (ownSl (H.get (k := 0) rfl)) dc _ (St.give (T := [cOwn (α := Int) 3 bj ([(1 : Int)]), cOwn (α := Raw 2) 60 bf bh, cRo bi, cOwn (α := Int) 3 aU bc, cOwn (α := Int) 3 ba ([(1 : Int)]), cOwn (α := Raw 2) 60 a6 a8, cRo a9, cOwn (α := Int) 3 aZ ([(0 : Int), (2 : Int), (4 : Int)]), cOwn (α := Int) 3 aY ([(0 : Int)]), cOwn (α := Raw 2) 60 aV aW, cRo aX, cOwn (α := Int) 3 aS ([(0 : Int), (2 : Int), (4 : Int), (5 : Int)]), cOwn (α := Int) 3 aR ([(0 : Int)]), cOwn (α := Raw 2) 60 aO aP, cRo aQ, cRo aN, cRo aM, cRo aL, cRo aK, cOwn (α := Int) 3 ap aJ, cOwn (α := Int) 3 aI ([(0 : Int)]), cOwn (α := Raw 2) 60 aE aG, cRo aH, cRo aD, cOwn (α := Int) 3 aC ([(1 : Int)]), cOwn (α := Raw 2) 60 az aA, cRo aB, cRo ay, cOwn (α := Int) 3 ax ([(0 : Int)]), cOwn (α := Raw 2) 60 au av, cRo aw, cOwn (α := Int) 3 ah r0, cOwn (α := Note) 30 ao ([(⟨(0 : Int), (2 : Int), (7 : Int)⟩ : Note), (⟨(1 : Int), (0 : Int), (9 : Int)⟩ : Note)]), cOwn (α := Raw 2) 60 ak al, cRo am]) H rfl)) ?_
 rintro vq dd ⟨bx, aj, a7, bl, bm, de, hvq, aa, dg⟩
 subst de
 subst vq
 try dsimp only at hM
 replace H : St w dd [cOwn (α := Raw 0) 34 a7 bl, cRo bm, cOwn (α := Int) 3 bj ([(1 : Int)]), cOwn (α := Raw 2) 60 bf bh, cRo bi, cOwn (α := Int) 3 aU bc, cOwn (α := Int) 3 ba ([(1 : Int)]), cOwn (α := Raw 2) 60 a6 a8, cRo a9, cOwn (α := Int) 3 aZ ([(0 : Int), (2 : Int), (4 : Int)]), cOwn (α := Int) 3 aY ([(0 : Int)]), cOwn (α := Raw 2) 60 aV aW, cRo aX, cOwn (α := Int) 3 aS ([(0 : Int), (2 : Int), (4 : Int), (5 : Int)]), cOwn (α := Int) 3 aR ([(0 : Int)]), cOwn (α := Raw 2) 60 aO aP, cRo aQ, cRo aN, cRo aM, cRo aL, cRo aK, cOwn (α := Int) 3 ap aJ, cOwn (α := Int) 3 aI ([(0 : Int)]), cOwn (α := Raw 2) 60 aE aG, cRo aH, cRo aD, cOwn (α := Int) 3 aC ([(1 : Int)]), cOwn (α := Raw 2) 60 az aA, cRo aB, cRo ay, cOwn (α := Int) 3 ax ([(0 : Int)]), cOwn (α := Raw 2) 60 au av, cRo aw, cOwn (α := Int) 3 ah r0, cOwn (α := Note) 30 ao ([(⟨(0 : Int), (2 : Int), (7 : Int)⟩ : Note), (⟨(1 : Int), (0 : Int), (9 : Int)⟩ : Note)]), cOwn (α := Raw 2) 60 ak al, cRo am] R := H.back aa rfl
 clear aa
 refine sM (.tuple #[a7, I aj]) rfl <| sX [a7, I aj] a7 rfl rfl <| sX [a7, I aj] (I aj) rfl rfl <| sA a7 rfl <| sA (I aj) rfl <| s_nil <| sQ rfl ?_
 obtain ⟨ek, dh, hM⟩ := M.e_bind hM
 refine s_call cf79 [] rfl (zad dh _ (St.give (T := [cOwn (α := Raw 0) 34 a7 bl, cRo bm, cOwn (α := Int) 3 bj ([(1 : Int)]), cOwn (α := Raw 2) 60 bf bh, cRo bi, cOwn (α := Int) 3 aU bc, cOwn (α := Int) 3 ba ([(1 : Int)]), cOwn (α := Raw 2) 60 a6 a8, cRo a9, cOwn (α := Int) 3 aZ ([(0 : Int), (2 : Int), (4 : Int)]), cOwn (α := Int) 3 aY ([(0 : Int)]), cOwn (α := Raw 2) 60 aV aW, cRo aX, cOwn (α := Int) 3 aS ([(0 : Int), (2 : Int), (4 : Int), (5 : Int)]), cOwn (α := Int) 3 aR ([(0 : Int)]), cOwn (α := Raw 2) 60 aO aP, cRo aQ, cRo aN, cRo aM, cRo aL, cRo aK, cOwn (α := Int) 3 ap aJ, cOwn (α := Int) 3 aI ([(0 : Int)]), cOwn (α := Raw 2) 60 aE aG, cRo aH, cRo aD, cOwn (α := Int) 3 aC ([(1 : Int)]), cOwn (α := Raw 2) 60 az aA, cRo aB, cRo ay, cOwn (α := Int) 3 ax ([(0 : Int)]), cOwn (α := Raw 2) 60 au av, cRo aw, cOwn (α := Int) 3 ah r0, cOwn (α := Note) 30 ao ([(⟨(0 : Int), (2 : Int), (7 : Int)⟩ : Note), (⟨(1 : Int), (0 : Int), (9 : Int)⟩ : Note)]), cOwn (α := Raw 2) 60 ak al, cRo am]) H rfl)) ?_
 rintro vq di ⟨dj, bq, br, bt, dk, hvq, aa, dl⟩
 subst dk
 subst vq
 try dsimp only at hM
 replace H : St w di [cOwn (α := Raw 2) 60 bq br, cRo bt, cOwn (α := Raw 0) 34 a7 bl, cRo bm, cOwn (α := Int) 3 bj ([(1 : Int)]), cOwn (α := Raw 2) 60 bf bh, cRo bi, cOwn (α := Int) 3 aU bc, cOwn (α := Int) 3 ba ([(1 : Int)]), cOwn (α := Raw 2) 60 a6 a8, cRo a9, cOwn (α := Int) 3 aZ ([(0 : Int), (2 : Int), (4 : Int)]), cOwn (α := Int) 3 aY ([(0 : Int)]), cOwn (α := Raw 2) 60 aV aW, cRo aX, cOwn (α := Int) 3 aS ([(0 : Int), (2 : Int), (4 : Int), (5 : Int)]), cOwn (α := Int) 3 aR ([(0 : Int)]), cOwn (α := Raw 2) 60 aO aP, cRo aQ, cRo aN, cRo aM, cRo aL, cRo aK, cOwn (α := Int) 3 ap aJ, cOwn (α := Int) 3 aI ([(0 : Int)]), cOwn (α := Raw 2) 60 aE aG, cRo aH, cRo aD, cOwn (α := Int) 3 aC ([(1 : Int)]), cOwn (α := Raw 2) 60 az aA, cRo aB, cRo ay, cOwn (α := Int) 3 ax ([(0 : Int)]), cOwn (α := Raw 2) 60 au av, cRo aw, cOwn (α := Int) 3 ah r0, cOwn (α := Note) 30 ao ([(⟨(0 : Int), (2 : Int), (7 : Int)⟩ : Note), (⟨(1 : Int), (0 : Int), (9 : Int)⟩ : Note)]), cOwn (α := Raw 2) 60 ak al, cRo am] R := H.back aa rfl
 clear aa
 refine t_bs (α := Int) T34 [I 1] [(1 : Int)] H rfl (.cons rfl (Flat.rep_enc _ (1 : Int)) <| .nil) rfl rfl rfl ?_
 intro bu em H
 obtain ⟨en, dm, hM⟩ := M.e_bind hM
 refine s_call cf64 [bq, bu, I 3] rfl (zch dj ([(1 : Int)]) 3 (Reads.sup (Reads.of (k := 1) rfl ownLe) (Reads.of (k := 2) rfl roLe)) (rowSl rfl (H.get (k := 1) rfl) (roLe _ (H.get (k := 2) rfl)) dl) (Reads.of (k := 0) rfl ownLe) (ownSl (H.get (k := 0) rfl)) dm _ (St.give (T := [cOwn (α := Int) 3 bu ([(1 : Int)]), cOwn (α := Raw 2) 60 bq br, cRo bt, cOwn (α := Raw 0) 34 a7 bl, cRo bm, cOwn (α := Int) 3 bj ([(1 : Int)]), cOwn (α := Raw 2) 60 bf bh, cRo bi, cOwn (α := Int) 3 aU bc, cOwn (α := Int) 3 ba ([(1 : Int)]), cOwn (α := Raw 2) 60 a6 a8, cRo a9, cOwn (α := Int) 3 aZ ([(0 : Int), (2 : Int), (4 : Int)]), cOwn (α := Int) 3 aY ([(0 : Int)]), cOwn (α := Raw 2) 60 aV aW, cRo aX, cOwn (α := Int) 3 aS ([(0 : Int), (2 : Int), (4 : Int), (5 : Int)]), cOwn (α := Int) 3 aR ([(0 : Int)]), cOwn (α := Raw 2) 60 aO aP, cRo aQ, cRo aN, cRo aM, cRo aL, cRo aK, cOwn (α := Int) 3 ap aJ, cOwn (α := Int) 3 aI ([(0 : Int)]), cOwn (α := Raw 2) 60 aE aG, cRo aH, cRo aD, cOwn (α := Int) 3 aC ([(1 : Int)]), cOwn (α := Raw 2) 60 az aA, cRo aB, cRo ay, cOwn (α := Int) 3 ax ([(0 : Int)]), cOwn (α := Raw 2) 60 au av, cRo aw, cOwn (α := Int) 3 ah r0, cOwn (α := Note) 30 ao ([(⟨(0 : Int), (2 : Int), (7 : Int)⟩ : Note), (⟨(1 : Int), (0 : Int), (9 : Int)⟩ : Note)]), cOwn (α := Raw 2) 60 ak al, cRo am]) H rfl)) ?_
 rintro vq dp ⟨bz, aq, bk, dq, hvq, aa⟩
 subst dq
 subst vq
 try dsimp only at hM
 replace H : St w dp [cOwn (α := Int) 3 bk bz, cOwn (α := Int) 3 bu ([(1 : Int)]), cOwn (α := Raw 2) 60 bq br, cRo bt, cOwn (α := Raw 0) 34 a7 bl, cRo bm, cOwn (α := Int) 3 bj ([(1 : Int)]), cOwn (α := Raw 2) 60 bf bh, cRo bi, cOwn (α := Int) 3 aU bc, cOwn (α := Int) 3 ba ([(1 : Int)]), cOwn (α := Raw 2) 60 a6 a8, cRo a9, cOwn (α := Int) 3 aZ ([(0 : Int), (2 : Int), (4 : Int)]), cOwn (α := Int) 3 aY ([(0 : Int)]), cOwn (α := Raw 2) 60 aV aW, cRo aX, cOwn (α := Int) 3 aS ([(0 : Int), (2 : Int), (4 : Int), (5 : Int)]), cOwn (α := Int) 3 aR ([(0 : Int)]), cOwn (α := Raw 2) 60 aO aP, cRo aQ, cRo aN, cRo aM, cRo aL, cRo aK, cOwn (α := Int) 3 ap aJ, cOwn (α := Int) 3 aI ([(0 : Int)]), cOwn (α := Raw 2) 60 aE aG, cRo aH, cRo aD, cOwn (α := Int) 3 aC ([(1 : Int)]), cOwn (α := Raw 2) 60 az aA, cRo aB, cRo ay, cOwn (α := Int) 3 ax ([(0 : Int)]), cOwn (α := Raw 2) 60 au av, cRo aw, cOwn (α := Int) 3 ah r0, cOwn (α := Note) 30 ao ([(⟨(0 : Int), (2 : Int), (7 : Int)⟩ : Note), (⟨(1 : Int), (0 : Int), (9 : Int)⟩ : Note)]), cOwn (α := Raw 2) 60 ak al, cRo am] R := H.back aa rfl
 clear aa
 refine sM (.tuple #[bk, I aq]) rfl <| sX [bk, I aq] bk rfl rfl <| sX [bk, I aq] (I aq) rfl rfl <| sA bk rfl <| sA (I aq) rfl <| s_nil <| W.seq <| sQ rfl <| sM (I ac) rfl <| sC _ _ (ac != 0) rfl rfl rfl <| sM (B (ac != 0)) rfl ?_
 refine g_val (!(ac != 0)) (gy_f rfl) (fun hg => x_mv (v := I ae) rfl) <| g_val (!(ac != 0)) (gy_f rfl) (fun hg => x_cmp (kd := .i64) (r := ae != 0) (gd_of hg (I ae)) rfl rfl) <| s_val (x_por (b := ac != 0) (r := ae != 0) rfl rfl (fun hb => gd_of (c := !(ac != 0)) (by first | exact hb | (rw [hb]; rfl) | simp_all) (B (ae != 0)))) <| sM (B ((ac != 0) || (ae != 0))) rfl <| g_val (!((ac != 0) || (ae != 0))) (gy_f rfl) (fun hg => x_mv (v := I ag) rfl) <| g_val (!((ac != 0) || (ae != 0))) (gy_f rfl) (fun hg => x_cmp (kd := .i64) (r := ag != 0) (gd_of hg (I ag)) rfl rfl) <| s_val (x_por (b := ((ac != 0) || (ae != 0))) (r := ag != 0) rfl rfl (fun hb => gd_of (c := !((ac != 0) || (ae != 0))) (by first | exact hb | (rw [hb]; rfl) | simp_all) (B (ag != 0)))) <| sM (B (((ac != 0) || (ae != 0)) || (ag != 0))) rfl <| g_val (!(((ac != 0) || (ae != 0)) || (ag != 0))) (gy_f rfl) (fun hg => x_mv (v := I aj) rfl) <| g_val (!(((ac != 0) || (ae != 0)) || (ag != 0))) (gy_f rfl) (fun hg => x_cmp (kd := .i64) (r := aj != 0) (gd_of hg (I aj)) rfl rfl) <| s_val (x_por (b := (((ac != 0) || (ae != 0)) || (ag != 0))) (r := aj != 0) rfl rfl (fun hb => gd_of (c := !(((ac != 0) || (ae != 0)) || (ag != 0))) (by first | exact hb | (rw [hb]; rfl) | simp_all) (B (aj != 0)))) <| sM (B ((((ac != 0) || (ae != 0)) || (ag != 0)) || (aj != 0))) rfl ?_
 refine g_val (!((((ac != 0) || (ae != 0)) || (ag != 0)) || (aj != 0))) (gy_f rfl) (fun hg => x_mv (v := I aq) rfl) <| g_val (!((((ac != 0) || (ae != 0)) || (ag != 0)) || (aj != 0))) (gy_f rfl) (fun hg => x_cmp (kd := .i64) (r := aq != 5) (gd_of hg (I aq)) rfl rfl) <| s_val (x_por (b := ((((ac != 0) || (ae != 0)) || (ag != 0)) || (aj != 0))) (r := aq != 5) rfl rfl (fun hb => gd_of (c := !((((ac != 0) || (ae != 0)) || (ag != 0)) || (aj != 0))) (by first | exact hb | (rw [hb]; rfl) | simp_all) (B (aq != 5)))) <| sM (B (((((ac != 0) || (ae != 0)) || (ag != 0)) || (aj != 0)) || (aq != 5))) rfl <| g_val (!(((((ac != 0) || (ae != 0)) || (ag != 0)) || (aj != 0)) || (aq != 5))) (gy_f rfl) (fun hg => x_mv (v := B aF) rfl) <| g_val (!(((((ac != 0) || (ae != 0)) || (ag != 0)) || (aj != 0)) || (aq != 5))) (gy_f rfl) (fun hg => x_not (b := aF) (gd_of hg (B aF))) <| s_val (x_por (b := (((((ac != 0) || (ae != 0)) || (ag != 0)) || (aj != 0)) || (aq != 5))) (r := !aF) rfl rfl (fun hb => gd_of (c := !(((((ac != 0) || (ae != 0)) || (ag != 0)) || (aj != 0)) || (aq != 5))) (by first | exact hb | (rw [hb]; rfl) | simp_all) (B (!aF)))) <| sM (B ((((((ac != 0) || (ae != 0)) || (ag != 0)) || (aj != 0)) || (aq != 5)) || (!aF))) rfl <| g_val (!((((((ac != 0) || (ae != 0)) || (ag != 0)) || (aj != 0)) || (aq != 5)) || (!aF))) (gy_f rfl) (fun hg => x_mv (v := B aT) rfl) <| s_val (x_por (b := ((((((ac != 0) || (ae != 0)) || (ag != 0)) || (aj != 0)) || (aq != 5)) || (!aF))) (r := aT) rfl rfl (fun hb => gd_of (c := !((((((ac != 0) || (ae != 0)) || (ag != 0)) || (aj != 0)) || (aq != 5)) || (!aF))) (by first | exact hb | (rw [hb]; rfl) | simp_all) (B aT))) <| sM (B (((((((ac != 0) || (ae != 0)) || (ag != 0)) || (aj != 0)) || (aq != 5)) || (!aF)) || aT)) rfl <| g_val (!(((((((ac != 0) || (ae != 0)) || (ag != 0)) || (aj != 0)) || (aq != 5)) || (!aF)) || aT)) (gy_f rfl) (fun hg => x_mv (v := aU) rfl) ?_
 refine t_gbs (α := Int) T34 (!(((((((ac != 0) || (ae != 0)) || (ag != 0)) || (aj != 0)) || (aq != 5)) || (!aF)) || aT)) (gy_f rfl) [I 2, I 3] [(2 : Int), (3 : Int)] H (fun _ => rfl) (.cons rfl (Flat.rep_enc _ _) <| .cons rfl (Flat.rep_enc _ _) <| .nil) rfl rfl rfl ?_
 intro bU bC eo H dr
 obtain ⟨s5, bJ, hM⟩ := M.e_bind hM
 replace bJ := M.e_pure bJ
 refine t_gcall (!(((((((ac != 0) || (ae != 0)) || (ag != 0)) || (aj != 0)) || (aq != 5)) || (!aF)) || aT)) (gy_f rfl) cf25 (B s5) (fun _ => [aU, bU]) (fun hg => lst2 (gd_of hg (aU)) (gd_of hg (bU))) H (fun hg => Ret.mono (same_int _ ((ownSl (H.get (k := 10) rfl)).mono (ownLe _ (H.get (k := 10) rfl))) ((dr hg).mono (roLe _ (H.get (k := 0) rfl)))) fun v_ w_ ⟨bg, a5⟩ => ⟨bg.trans (congrArg B bJ), H.ext a5⟩) ?_
 intro ep H
 refine g_val (!(((((((ac != 0) || (ae != 0)) || (ag != 0)) || (aj != 0)) || (aq != 5)) || (!aF)) || aT)) (gy_f rfl) (fun hg => x_not (b := s5) (gd_of hg (B s5))) <| s_val (x_por (b := (((((((ac != 0) || (ae != 0)) || (ag != 0)) || (aj != 0)) || (aq != 5)) || (!aF)) || aT)) (r := !s5) rfl rfl (fun hb => gd_of (c := !(((((((ac != 0) || (ae != 0)) || (ag != 0)) || (aj != 0)) || (aq != 5)) || (!aF)) || aT)) (by first | exact hb | (rw [hb]; rfl) | simp_all) (B (!s5)))) <| sM (B ((((((((ac != 0) || (ae != 0)) || (ag != 0)) || (aj != 0)) || (aq != 5)) || (!aF)) || aT) || (!s5))) rfl <| g_val (!((((((((ac != 0) || (ae != 0)) || (ag != 0)) || (aj != 0)) || (aq != 5)) || (!aF)) || aT) || (!s5))) (gy_f rfl) (fun hg => x_mv (v := a7) rfl) <| g_val (!((((((((ac != 0) || (ae != 0)) || (ag != 0)) || (aj != 0)) || (aq != 5)) || (!aF)) || aT) || (!s5))) (gy_f rfl) (fun hg => x_lenS T73.und (gd_of hg (a7)) (rowSl rfl (H.get (k := 5) rfl) (roLe _ (H.get (k := 6) rfl)) dg)) <| g_val (!((((((((ac != 0) || (ae != 0)) || (ag != 0)) || (aj != 0)) || (aq != 5)) || (!aF)) || aT) || (!s5))) (gy_f rfl) (fun hg => x_cmp (kd := .i64) (r := (bx.length : Int) != 2) (gd_of hg (I (bx.length : Int))) rfl rfl) <| s_val (x_por (b := ((((((((ac != 0) || (ae != 0)) || (ag != 0)) || (aj != 0)) || (aq != 5)) || (!aF)) || aT) || (!s5))) (r := (bx.length : Int) != 2) rfl rfl (fun hb => gd_of (c := !((((((((ac != 0) || (ae != 0)) || (ag != 0)) || (aj != 0)) || (aq != 5)) || (!aF)) || aT) || (!s5))) (by first | exact hb | (rw [hb]; rfl) | simp_all) (B ((bx.length : Int) != 2)))) <| s_nil ?_
 refine W.cond (((((((((ac != 0) || (ae != 0)) || (ag != 0)) || (aj != 0)) || (aq != 5)) || (!aF)) || aT) || (!s5)) || ((bx.length : Int) != 2)) rfl (fun bK => ?_) (fun bK => ?_)
 ·replace hM := M.e_t hM bK
  refine sQ rfl <| sA (B false) rfl <| s_nil ?_
  refine W.ret ?_
  have bw := M.e_pure hM
  exact ⟨_, resE_tmp rfl, ⟨false, bw, rfl, (H.pick [] (by decide) rfl)⟩⟩
 replace hM := M.e_f hM bK
 refine W.skip <| sQ rfl ?_
 obtain ⟨er, dt, hM⟩ := M.e_bind hM
 refine s_call cf79 [] rfl (zad dt _ (St.give (T := [cRo bC, cOwn (α := Int) 3 bk bz, cOwn (α := Int) 3 bu ([(1 : Int)]), cOwn (α := Raw 2) 60 bq br, cRo bt, cOwn (α := Raw 0) 34 a7 bl, cRo bm, cOwn (α := Int) 3 bj ([(1 : Int)]), cOwn (α := Raw 2) 60 bf bh, cRo bi, cOwn (α := Int) 3 aU bc, cOwn (α := Int) 3 ba ([(1 : Int)]), cOwn (α := Raw 2) 60 a6 a8, cRo a9, cOwn (α := Int) 3 aZ ([(0 : Int), (2 : Int), (4 : Int)]), cOwn (α := Int) 3 aY ([(0 : Int)]), cOwn (α := Raw 2) 60 aV aW, cRo aX, cOwn (α := Int) 3 aS ([(0 : Int), (2 : Int), (4 : Int), (5 : Int)]), cOwn (α := Int) 3 aR ([(0 : Int)]), cOwn (α := Raw 2) 60 aO aP, cRo aQ, cRo aN, cRo aM, cRo aL, cRo aK, cOwn (α := Int) 3 ap aJ, cOwn (α := Int) 3 aI ([(0 : Int)]), cOwn (α := Raw 2) 60 aE aG, cRo aH, cRo aD, cOwn (α := Int) 3 aC ([(1 : Int)]), cOwn (α := Raw 2) 60 az aA, cRo aB, cRo ay, cOwn (α := Int) 3 ax ([(0 : Int)]), cOwn (α := Raw 2) 60 au av, cRo aw, cOwn (α := Int) 3 ah r0, cOwn (α := Note) 30 ao ([(⟨(0 : Int), (2 : Int), (7 : Int)⟩ : Note), (⟨(1 : Int), (0 : Int), (9 : Int)⟩ : Note)]), cOwn (α := Raw 2) 60 ak al, cRo am]) H rfl)) ?_
 rintro vq du ⟨dv, bD, bL, bM, dw, hvq, aa, dx⟩
 subst dw
 subst vq
 try dsimp only at hM
 replace H : St w du [cOwn (α := Raw 2) 60 bD bL, cRo bM, cRo bC, cOwn (α := Int) 3 bk bz, cOwn (α := Int) 3 bu ([(1 : Int)]), cOwn (α := Raw 2) 60 bq br, cRo bt, cOwn (α := Raw 0) 34 a7 bl, cRo bm, cOwn (α := Int) 3 bj ([(1 : Int)]), cOwn (α := Raw 2) 60 bf bh, cRo bi, cOwn (α := Int) 3 aU bc, cOwn (α := Int) 3 ba ([(1 : Int)]), cOwn (α := Raw 2) 60 a6 a8, cRo a9, cOwn (α := Int) 3 aZ ([(0 : Int), (2 : Int), (4 : Int)]), cOwn (α := Int) 3 aY ([(0 : Int)]), cOwn (α := Raw 2) 60 aV aW, cRo aX, cOwn (α := Int) 3 aS ([(0 : Int), (2 : Int), (4 : Int), (5 : Int)]), cOwn (α := Int) 3 aR ([(0 : Int)]), cOwn (α := Raw 2) 60 aO aP, cRo aQ, cRo aN, cRo aM, cRo aL, cRo aK, cOwn (α := Int) 3 ap aJ, cOwn (α := Int) 3 aI ([(0 : Int)]), cOwn (α := Raw 2) 60 aE aG, cRo aH, cRo aD, cOwn (α := Int) 3 aC ([(1 : Int)]), cOwn (α := Raw 2) 60 az aA, cRo aB, cRo ay, cOwn (α := Int) 3 ax ([(0 : Int)]), cOwn (α := Raw 2) 60 au av, cRo aw, cOwn (α := Int) 3 ah r0, cOwn (α := Note) 30 ao ([(⟨(0 : Int), (2 : Int), (7 : Int)⟩ : Note), (⟨(1 : Int), (0 : Int), (9 : Int)⟩ : Note)]), cOwn (α := Raw 2) 60 ak al, cRo am] R := H.back aa rfl
 clear aa
 refine s_val (x_bld (ps := [(0, I 0), (1, I 3), (2, I 8)]) (zs := [I 0, I 0, I 0]) (L' := [I 0, I 3, I 8]) rfl Try.underlying30 Al30 rfl (Bd30 Try.underlying30) (.cons (cs := [I 0]) rfl rfl rfl rfl rfl <| .cons (cs := [I 3]) rfl rfl rfl rfl rfl <| .cons (cs := [I 8]) rfl rfl rfl rfl rfl <| .nil)) <| s_val (x_bld (ps := [(0, I 0), (1, I 2), (2, I 7)]) (zs := [I 0, I 0, I 0]) (L' := [I 0, I 2, I 7]) rfl Try.underlying30 Al30 rfl (Bd30 Try.underlying30) (.cons (cs := [I 0]) rfl rfl rfl rfl rfl <| .cons (cs := [I 2]) rfl rfl rfl rfl rfl <| .cons (cs := [I 7]) rfl rfl rfl rfl rfl <| .nil)) <| s_val (x_bld (ps := [(0, I 1), (2, I 9)]) (zs := [I 0, I 0, I 0]) (L' := [I 1, I 0, I 9]) rfl Try.underlying30 Al30 rfl (Bd30 Try.underlying30) (.cons (cs := [I 1]) rfl rfl rfl rfl rfl <| .cons (cs := [I 9]) rfl rfl rfl rfl rfl <| .nil)) ?_
 refine t_bs (α := Note) T23 [.agg #[I 0, I 3, I 8], .agg #[I 0, I 2, I 7], .agg #[I 1, I 0, I 9]] [(⟨(0 : Int), (3 : Int), (8 : Int)⟩ : Note), (⟨(0 : Int), (2 : Int), (7 : Int)⟩ : Note), (⟨(1 : Int), (0 : Int), (9 : Int)⟩ : Note)] H rfl (.cons rfl (Flat.rep_enc _ (⟨(0 : Int), (3 : Int), (8 : Int)⟩ : Note)) <| .cons rfl (Flat.rep_enc _ (⟨(0 : Int), (2 : Int), (7 : Int)⟩ : Note)) <| .cons rfl (Flat.rep_enc _ (⟨(1 : Int), (0 : Int), (9 : Int)⟩ : Note)) <| .nil) rfl rfl rfl ?_
 intro bN eu H
 refine s_val (x_bld (ps := [(0, I 2), (1, I 26)]) (zs := [I 0, I 0]) (L' := [I 2, I 26]) rfl Try.underlying33 Al33 rfl (Bd33 Try.underlying33) (.cons (cs := [I 2]) rfl rfl rfl rfl rfl <| .cons (cs := [I 26]) rfl rfl rfl rfl rfl <| .nil)) <| s_val (x_bld (ps := [(0, I 3), (1, I 10)]) (zs := [I 0, I 0]) (L' := [I 3, I 10]) rfl Try.underlying33 Al33 rfl (Bd33 Try.underlying33) (.cons (cs := [I 3]) rfl rfl rfl rfl rfl <| .cons (cs := [I 10]) rfl rfl rfl rfl rfl <| .nil)) ?_
 refine t_bs (α := Pub) T24 [.agg #[I 2, I 26], .agg #[I 3, I 10]] [(⟨(2 : Int), (26 : Int)⟩ : Pub), (⟨(3 : Int), (10 : Int)⟩ : Pub)] H rfl (.cons rfl (Flat.rep_enc _ (⟨(2 : Int), (26 : Int)⟩ : Pub)) <| .cons rfl (Flat.rep_enc _ (⟨(3 : Int), (10 : Int)⟩ : Pub)) <| .nil) rfl rfl rfl ?_
 intro bO ew H
 obtain ⟨ey, dy, hM⟩ := M.e_bind hM
 refine s_call cf26 [bD, bN, bO] rfl (zdl dv ([(⟨(0 : Int), (3 : Int), (8 : Int)⟩ : Note), (⟨(0 : Int), (2 : Int), (7 : Int)⟩ : Note), (⟨(1 : Int), (0 : Int), (9 : Int)⟩ : Note)]) ([(⟨(2 : Int), (26 : Int)⟩ : Pub), (⟨(3 : Int), (10 : Int)⟩ : Pub)]) (Reads.sup (Reads.of (k := 2) rfl ownLe) (Reads.of (k := 3) rfl roLe)) (rowSl rfl (H.get (k := 2) rfl) (roLe _ (H.get (k := 3) rfl)) dx) (Reads.of (k := 1) rfl ownLe) (ownSl (H.get (k := 1) rfl)) (Reads.of (k := 0) rfl ownLe) (ownSl (H.get (k := 0) rfl)) dy _ (St.give (T := [cOwn (α := Pub) 33 bO ([(⟨(2 : Int), (26 : Int)⟩ : Pub), (⟨(3 : Int), (10 : Int)⟩ : Pub)]), cOwn (α := Note) 30 bN ([(⟨(0 : Int), (3 : Int), (8 : Int)⟩ : Note), (⟨(0 : Int), (2 : Int), (7 : Int)⟩ : Note), (⟨(1 : Int), (0 : Int), (9 : Int)⟩ : Note)]), cOwn (α := Raw 2) 60 bD bL, cRo bM, cRo bC, cOwn (α := Int) 3 bk bz, cOwn (α := Int) 3 bu ([(1 : Int)]), cOwn (α := Raw 2) 60 bq br, cRo bt, cOwn (α := Raw 0) 34 a7 bl, cRo bm, cOwn (α := Int) 3 bj ([(1 : Int)]), cOwn (α := Raw 2) 60 bf bh, cRo bi, cOwn (α := Int) 3 aU bc, cOwn (α := Int) 3 ba ([(1 : Int)]), cOwn (α := Raw 2) 60 a6 a8, cRo a9, cOwn (α := Int) 3 aZ ([(0 : Int), (2 : Int), (4 : Int)]), cOwn (α := Int) 3 aY ([(0 : Int)]), cOwn (α := Raw 2) 60 aV aW, cRo aX, cOwn (α := Int) 3 aS ([(0 : Int), (2 : Int), (4 : Int), (5 : Int)]), cOwn (α := Int) 3 aR ([(0 : Int)]), cOwn (α := Raw 2) 60 aO aP, cRo aQ, cRo aN, cRo aM, cRo aL, cRo aK, cOwn (α := Int) 3 ap aJ, cOwn (α := Int) 3 aI ([(0 : Int)]), cOwn (α := Raw 2) 60 aE aG, cRo aH, cRo aD, cOwn (α := Int) 3 aC ([(1 : Int)]), cOwn (α := Raw 2) 60 az aA, cRo aB, cRo ay, cOwn (α := Int) 3 ax ([(0 : Int)]), cOwn (α := Raw 2) 60 au av, cRo aw, cOwn (α := Int) 3 ah r0, cOwn (α := Note) 30 ao ([(⟨(0 : Int), (2 : Int), (7 : Int)⟩ : Note), (⟨(1 : Int), (0 : Int), (9 : Int)⟩ : Note)]), cOwn (α := Raw 2) 60 ak al, cRo am]) H rfl)) ?_
 rintro vq dz ⟨dA, bb, bn, dB, hvq, aa⟩
 subst dB
 subst vq
 try dsimp only at hM
 replace H : St w dz [cOwn (α := Int) 3 bn dA, cOwn (α := Pub) 33 bO ([(⟨(2 : Int), (26 : Int)⟩ : Pub), (⟨(3 : Int), (10 : Int)⟩ : Pub)]), cOwn (α := Note) 30 bN ([(⟨(0 : Int), (3 : Int), (8 : Int)⟩ : Note), (⟨(0 : Int), (2 : Int), (7 : Int)⟩ : Note), (⟨(1 : Int), (0 : Int), (9 : Int)⟩ : Note)]), cOwn (α := Raw 2) 60 bD bL, cRo bM, cRo bC, cOwn (α := Int) 3 bk bz, cOwn (α := Int) 3 bu ([(1 : Int)]), cOwn (α := Raw 2) 60 bq br, cRo bt, cOwn (α := Raw 0) 34 a7 bl, cRo bm, cOwn (α := Int) 3 bj ([(1 : Int)]), cOwn (α := Raw 2) 60 bf bh, cRo bi, cOwn (α := Int) 3 aU bc, cOwn (α := Int) 3 ba ([(1 : Int)]), cOwn (α := Raw 2) 60 a6 a8, cRo a9, cOwn (α := Int) 3 aZ ([(0 : Int), (2 : Int), (4 : Int)]), cOwn (α := Int) 3 aY ([(0 : Int)]), cOwn (α := Raw 2) 60 aV aW, cRo aX, cOwn (α := Int) 3 aS ([(0 : Int), (2 : Int), (4 : Int), (5 : Int)]), cOwn (α := Int) 3 aR ([(0 : Int)]), cOwn (α := Raw 2) 60 aO aP, cRo aQ, cRo aN, cRo aM, cRo aL, cRo aK, cOwn (α := Int) 3 ap aJ, cOwn (α := Int) 3 aI ([(0 : Int)]), cOwn (α := Raw 2) 60 aE aG, cRo aH, cRo aD, cOwn (α := Int) 3 aC ([(1 : Int)]), cOwn (α := Raw 2) 60 az aA, cRo aB, cRo ay, cOwn (α := Int) 3 ax ([(0 : Int)]), cOwn (α := Raw 2) 60 au av, cRo aw, cOwn (α := Int) 3 ah r0, cOwn (α := Note) 30 ao ([(⟨(0 : Int), (2 : Int), (7 : Int)⟩ : Note), (⟨(1 : Int), (0 : Int), (9 : Int)⟩ : Note)]), cOwn (α := Raw 2) 60 ak al, cRo am] R := H.back aa rfl
 clear aa
 refine sM (.tuple #[bn, I bb]) rfl <| sX [bn, I bb] bn rfl rfl <| sX [bn, I bb] (I bb) rfl rfl <| sA bn rfl <| sA (I bb) rfl <| s_nil <| sQ rfl <| sM (I bb) rfl <| sC _ _ (bb == 0) rfl rfl rfl <| sM (B (bb == 0)) rfl <| g_val (bb == 0) (gy_t rfl) (fun hg => x_mv (v := bn) rfl) ?_
 refine t_gbs (α := Int) T34 (bb == 0) (gy_t rfl) [I 0] [(0 : Int)] H (fun _ => rfl) (.cons rfl (Flat.rep_enc _ _) <| .nil) rfl rfl rfl ?_
 intro bV ez eA H dC
 obtain ⟨s6, bP, hM⟩ := M.e_bind hM
 replace bP := M.e_pure bP
 refine t_gcall (bb == 0) (gy_t rfl) cf25 (B s6) (fun _ => [bn, bV]) (fun hg => lst2 (gd_of hg (bn)) (gd_of hg (bV))) H (fun hg => Ret.mono (same_int _ ((ownSl (H.get (k := 1) rfl)).mono (ownLe _ (H.get (k := 1) rfl))) ((dC hg).mono (roLe _ (H.get (k := 0) rfl)))) fun v_ w_ ⟨bg, a5⟩ => ⟨bg.trans (congrArg B bP), H.ext a5⟩) ?_
 intro eB H
 refine s_val (x_pand (b := bb == 0) (r := s6) rfl (fun hb => gd_of (c := bb == 0) (by first | exact hb | (rw [hb]; rfl) | simp_all) (B s6)) rfl) <| sA (B ((bb == 0) && s6)) rfl <| s_nil ?_
 refine W.ret ?_
 have bw := M.e_pure hM
 exact ⟨_, resE_tmp rfl, ⟨((bb == 0) && s6), bw, rfl, (H.pick [] (by decide) rfl)⟩⟩

end Go.Proofs.Ytndobgodeicloaa
end
namespace Go.Nm
structure SOk (c u x : Int) : Prop where
  u0 : 0 <= u
  u1 : u <= c
  x0 : 0 <= x
  x1 : x < 251
theorem SOk.mono {c d u x : Int} (h : SOk c u x) (hd : c <= d) : SOk d u x := ⟨h.u0, Int.le_trans h.u1 hd, h.x0, h.x1⟩
/-- What a stream gives: a number below n. -/
structure Nx (c n : Int) (y : Int × Int × Int) : Prop where
  ok : SOk c y.2.1 y.2.2
  lt : 1 <= n -> 0 <= y.1 /\ y.1 < n
  no : n < 1 -> y.1 = 0
end Go.Nm
namespace Go.Proofs.Ytndobgodeicloaa
open Go Go.Nm
/-! ### Works -/
structure OfOk (i : Nat) (l : List Int) : Prop where
  few : l.length <= 5
  ahead : ∀ k ∈ l, 0 <= k /\ k < (i : Int)
  once : l.Nodup
  early : i <= 2 -> l = []
/-- What works of numbers are like. -/
structure MadeW (most : Int) (ws : List Work) : Prop where
  built : Built ws
  two : 2 <= ws.length
  most : (ws.length : Int) <= most
  small : ∀ i, i < ws.length -> (ws.getD i default).base < 2000 /\ (ws.getD i default).minutes < 60
  src : ∀ i, i < ws.length -> i <= 2 -> (ws.getD i default).of = []
end Go.Proofs.Ytndobgodeicloaa
namespace Go.Nm
end Go.Nm
namespace Go.Nm
end Go.Nm
namespace Go.Nm
variable {ws : List Work} {l e : List Note}
/-! ### Notes -/
def Uniq (l : List Note) : Prop := ∀ a ∈ l, ∀ b ∈ l, a.work = b.work -> a.version = b.version -> a = b
theorem Uniq.add {l l' : List Note} {n : Note} (h : Uniq l) (hm : ∀ a ∈ l', a ∈ l ∨ a = n) (hn : ∀ a ∈ l, ¬ (a.work = n.work /\ a.version = n.version)) : Uniq l' := by
  intro a ha b hb h1 h2
  rcases hm a ha with ha | rfl <;> rcases hm b hb with hb | rfl
  · exact h a ha b hb h1 h2
  · exact absurd ⟨h1, h2⟩ (hn a ha)
  · exact absurd ⟨h1.symm, h2.symm⟩ (hn b hb)
  · rfl
structure NG (ws : List Work) (l : List Note) : Prop where
  few : l.length <= 200
  src : ∀ n ∈ l, 0 <= n.work /\ n.work < (ws.length : Int) /\ (ws.getD n.work.toNat default).of = []
  rng : ∀ n ∈ l, 0 <= n.version /\ n.version <= 1000000 /\ 0 <= n.value /\ n.value <= 1000002
  uniq : Uniq l
/-! ### Values -/
/-- Each source has a note. -/
def Full (ws : List Work) (l : List Note) : Prop := ∀ i, i < ws.length -> (ws.getD i default).of = [] -> ∃ n ∈ l, n.work = (i : Int)
/-! ### Lists in order -/
theorem asc_of {l : List Int} (h : l.Pairwise (· < ·)) : AscTo l l.length := by
  intro j h1 h2
  rw [getD_el l (by omega) 0, getD_el l h2 0]
  exact List.pairwise_iff_getElem.1 h (j - 1) j (by omega) h2 (by omega)
theorem listed_of {n : Nat} {l : List Int} (h : ∀ x ∈ l, 0 <= x /\ x < (n : Int)) (ha : l.Pairwise (· < ·)) : listedE n l = 0 := by
  unfold listedE
  rw [if_neg, if_pos (asc_of ha)]
  rw [Bool.not_eq_true, Bool.not_eq_false', List.all_eq_true]
  intro x hx
  have := h x hx
  unfold inB
  simp only [Bool.and_eq_true, decide_eq_true_eq]
  omega
/-! ### Publications -/
end Go.Nm
namespace Go.Nm
structure NtOk (ws : List Work) (s : Nat) (l6 l7 : List Note) : Prop where
  src : ∀ n ∈ l6 ++ l7, 0 <= n.work /\ n.work < (s : Int) /\ (ws.getD n.work.toNat default).of = []
  rng : ∀ n ∈ l6 ++ l7, 0 <= n.version /\ n.version <= 8 /\ 0 <= n.value /\ n.value < 2000
  uniq : Uniq (l6 ++ l7)
  all : ∀ i, i < s -> (ws.getD i default).of = [] -> ∃ n ∈ l6, n.work = (i : Int)
  len6 : l6.length <= s
  len7 : l7.length <= 8 * s
theorem NtOk.next {ws : List Work} {s : Nat} {l6 l7 : List Note} (h : NtOk ws s l6 l7) (hs : (ws.getD s default).of ≠ []) : NtOk ws (s + 1) l6 l7 :=
  ⟨fun n hn => by have := h.src n hn; exact ⟨this.1, by omega, this.2.2⟩, h.rng, h.uniq, fun i hi he => by
    by_cases e : i = s
    · subst e; exact absurd he hs
    · exact h.all i (by omega) he, by have := h.len6; omega, by have := h.len7; omega⟩
/-- Old notes of one source, up to a version. -/
structure OldOk (ws : List Work) (s v : Nat) (n0 : Note) (l6 l7 l : List Note) : Prop where
  src : ∀ b ∈ l, b ∈ l7 ∨ (b.work = (s : Int) /\ 0 <= b.version /\ b.version < (v : Int) /\ 0 <= b.value /\ b.value < 2000)
  uniq : Uniq ((l6 ++ [n0]) ++ l)
  len : l.length <= l7.length + v
theorem NtOk.start {ws : List Work} {s : Nat} {l6 l7 : List Note} (h : NtOk ws s l6 l7) {n0 : Note} (hw : n0.work = (s : Int)) : OldOk ws s 0 n0 l6 l7 l7 := by
  refine ⟨fun b hb => .inl hb, ?_, Nat.le_refl _⟩
  refine h.uniq.add (n := n0) (fun a ha => ?_) (fun a ha hh => ?_)
  · simp only [List.mem_append, List.mem_cons, List.not_mem_nil, or_false] at ha ⊢
    rcases ha with (ha | ha) | ha
    · exact .inl (.inl ha)
    · exact .inr ha
    · exact .inl (.inr ha)
  · have := h.src a ha
    rw [hw] at hh
    omega
theorem OldOk.skip {ws : List Work} {s v : Nat} {n0 : Note} {l6 l7 l : List Note} (h : OldOk ws s v n0 l6 l7 l) : OldOk ws s (v + 1) n0 l6 l7 l :=
  ⟨fun b hb => (h.src b hb).imp id fun x => ⟨x.1, x.2.1, by omega, x.2.2.2⟩, h.uniq, by have := h.len; omega⟩
theorem OldOk.put {ws : List Work} {s v : Nat} {n0 : Note} {l6 l7 l : List Note} (hN : NtOk ws s l6 l7) (h : OldOk ws s v n0 l6 l7 l) (hv : (v : Int) < n0.version) {z : Int} (z0 : 0 <= z) (z1 : z < 2000) :
    OldOk ws s (v + 1) n0 l6 l7 (l ++ [⟨(s : Int), (v : Int), z⟩]) := by
  refine ⟨fun b hb => ?_, ?_, by have := h.len; simp only [List.length_append, List.length_cons, List.length_nil]; omega⟩
  · rcases List.mem_append.1 hb with hb | hb
    · exact h.skip.src b hb
    · rw [List.mem_singleton] at hb
      subst hb
      exact .inr ⟨rfl, by dsimp only; omega, by dsimp only; omega, z0, z1⟩
  · refine h.uniq.add (n := ⟨(s : Int), (v : Int), z⟩) (fun a ha => ?_) (fun a ha hh => ?_)
    · rw [← List.append_assoc, List.mem_append, List.mem_singleton] at ha
      exact ha
    · dsimp only at hh
      simp only [List.mem_append, List.mem_cons, List.not_mem_nil, or_false] at ha
      rcases ha with (ha | ha) | ha
      · have := hN.src a (List.mem_append_left _ ha); omega
      · subst ha; omega
      · rcases h.src a ha with ha | ha
        · have := hN.src a (List.mem_append_right _ ha); omega
        · omega
theorem OldOk.done {ws : List Work} {s v : Nat} {n0 : Note} {l6 l7 l : List Note} (hN : NtOk ws s l6 l7) (h : OldOk ws s v n0 l6 l7 l) (hw : n0.work = (s : Int)) (hs : (ws.getD s default).of = [])
    (hv : 0 <= n0.version /\ n0.version <= 8 /\ 0 <= n0.value /\ n0.value < 2000) (hv8 : (v : Int) <= 8) : NtOk ws (s + 1) (l6 ++ [n0]) l := by
  have hm : ∀ n ∈ (l6 ++ [n0]) ++ l, n ∈ l6 ++ l7 ∨ n = n0 ∨ (n.work = (s : Int) /\ 0 <= n.version /\ n.version < (v : Int) /\ 0 <= n.value /\ n.value < 2000) := by
    intro n hn
    simp only [List.mem_append, List.mem_cons, List.not_mem_nil, or_false] at hn ⊢
    rcases hn with (hn | hn) | hn
    · exact .inl (.inl hn)
    · exact .inr (.inl hn)
    · rcases h.src n hn with h1 | h1
      · exact .inl (.inr h1)
      · exact .inr (.inr h1)
  refine ⟨fun n hn => ?_, fun n hn => ?_, h.uniq, fun i hi he => ?_, ?_, ?_⟩
  · rcases hm n hn with h1 | h1 | h1
    · have := hN.src n h1; exact ⟨this.1, by omega, this.2.2⟩
    · subst h1; rw [hw]; exact ⟨by omega, by omega, by rw [Int.toNat_natCast]; exact hs⟩
    · rw [h1.1]; exact ⟨by omega, by omega, by rw [Int.toNat_natCast]; exact hs⟩
  · rcases hm n hn with h1 | h1 | h1
    · exact hN.rng n h1
    · subst h1; exact hv
    · omega
  · by_cases e : i = s
    · exact ⟨n0, by simp, by rw [hw, e]⟩
    · obtain ⟨n, h1, h2⟩ := hN.all i (by omega) he
      exact ⟨n, List.mem_append_left _ h1, h2⟩
  · have := hN.len6; simp only [List.length_append, List.length_cons, List.length_nil]; omega
  · have := hN.len7; have := h.len; omega
theorem NtOk.full {ws : List Work} {l6 l7 : List Note} (h : NtOk ws ws.length l6 l7) : Full ws (l6 ++ l7) := fun i hi he => by
  obtain ⟨n, h1, h2⟩ := h.all i hi he
  exact ⟨n, List.mem_append_left _ h1, h2⟩
/-- The numbers from 0 to n - 1. -/
def upto (n : Nat) : List Int := (List.range n).map fun j : Nat => (j : Int)
theorem upto_succ (n : Nat) : upto (n + 1) = upto n ++ [(n : Int)] := by
  unfold upto
  rw [List.range_succ, List.map_append]
  rfl
end Go.Nm
namespace Go.Proofs.Ytndobgodeicloaa
open Go Go.Nm
variable {ws : List Work}
end Go.Proofs.Ytndobgodeicloaa
section
set_option maxRecDepth 100000
set_option maxHeartbeats 16000000
namespace Go.Proofs.Ytndobgodeicloaa
open Go Go.Nm
def zan (ac : List Work) (aa : List Int) : Nat -> M (Nat ⊕ (Unit ⊕ Unit)) := fun i =>
  bif decide ((i : Int) < (aa.length : Int)) then (
  M.grd (decide ((i : Int) < (aa.length : Int))) <|
  M.grd (decide ((-9223372036854775808 : Int) <= ((i : Int) - 1)) && decide (((i : Int) - 1) <= (9223372036854775807 : Int))) <|
  M.grd (decide ((0 : Int) <= ((i : Int) - 1)) && decide (((i : Int) - 1) < (aa.length : Int))) <|
  M.bind (za2 ac (aa.getD i 0) (aa.getD (Int.toNat ((i : Int) - 1)) 0)) fun r2 =>
  bif !r2 then (
  M.pure (.inr (.inl ())))
  else (
  M.pure (.inl (i + 1))))
  else (
  M.pure (.inr (.inr ())))
def za5 (ac : List Work) (aa : List Int) : M Bool :=
  M.bind (M.iter (zan ac aa) 1) fun x_ => match x_ with
  | (.inl (_ : Unit)) => (
  M.pure false)
  | (.inr (_ : Unit)) => (
  M.pure (decide (0 < (aa.length : Int))))
theorem zcY {R : List Chunk} {ae : Nat} {ao : Cells} {ap : Value} {aq : Cells} {ac : Value} (ai : List Work) (aa : List Int) (az : Reads R ao) (aA : Sl ao ap ai) (aB : Has R (cBlk ae [ap] 187)) (au : Reads R aq) (ag : Sl aq ac aa) {r : Bool} (hM : (za5 ai aa).Ends r) (w : World) (H : St w w [] R) : Ret Try.prog 107 #[Pz ae, ac] w fun v w' => ∃ (y0 : Bool), y0 = r /\ v = B y0 /\ St w w' [] R := by
 refine ret_of_W Try.func107 rfl rfl rfl ?_
 refine sQ rfl <| sA (B false) rfl <| s_nil <| sQ rfl <| sM (Pz ae) rfl <| s_val (x_mf (fs := [Pz ae]) (cs := []) rfl rfl) <| sA (.func (.func 149) #[Pz ae] #[]) rfl <| s_nil <| W.seq <| W.seq ?_
 refine W.region rfl <| sA (I 1) rfl <| s_nil <| W.block ?_
 obtain ⟨aC, aj, av⟩ := M.e_bind hM
 obtain ⟨aL, aj⟩ := M.e_iter aj
 refine W.loop (fun m σ W => ∃ (i : Nat) (ρ : Env), σ = upds ρ [(1, ac), (5, .func (.func 149) #[Pz ae] #[]), (6, I (i : Int))] /\ M.iterN (zan ai aa) m i = some aC /\ St w W [] R) ?_ ?_
 ·exact ⟨_, 1, _, upds_of _ _ ⟨rfl, rfl, rfl, trivial⟩, aj, H⟩
 rintro aM σ aN ⟨i, ρ, rfl, aw, H⟩
 obtain ⟨aD, aE, aO, hM, ak⟩ := M.e_iterN aw
 simp only [zan] at hM
 clear aw
 refine W.seq <| sQ rfl <| sM (I (i : Int)) rfl <| sM ac rfl ?_
 have aP := (ag).len_le
 refine s_val (x_lenS T34.und rfl ag) <| sC _ _ (decide ((i : Int) < (aa.length : Int))) rfl rfl rfl <| s_nil ?_
 refine W.cond (decide ((i : Int) < (aa.length : Int))) rfl (fun ah => ?_) (fun ah => ?_)
 ·replace hM := M.e_t hM ah
  simp only [qz1, qz2, qz3, qz4, qz5, qz6, ne_eq, qz7] at ah
  refine W.skip <| W.seq <| W.block <| W.seq ?_
  refine W.draw (fun W => St w W [] R) [(0, true), (1, true), (2, true), (3, true), (4, true), (5, true), (6, true), (7, true), (8, true), (9, true), (10, false), (11, true)] mixed (by decide +kernel) rfl ?_
  intro aF ax
  replace H : St w aF [] R := H.ext ax
  clear ax
  refine ⟨(H.pick [] (by decide) rfl), ?_⟩
  refine d_q rfl (fun w' H => x_mv (v := .func (.func 149) #[Pz ae] #[]) rfl) ?_
  refine d_q rfl (fun w' H => x_mv (v := ac) rfl) ?_
  refine d_q rfl (fun w' H => x_mv (v := I (i : Int)) rfl) ?_
  obtain ⟨aQ, hM⟩ := M.e_gd hM
  refine d_q rfl (fun w' H => x_ix (v := vat ac 1 (Int.toNat (i : Int))) rfl rfl (Sl.ix (α := Int) T34.und T34.size ag (by omega) (by omega))) ?_
  refine d_q rfl (fun w' H => x_ld (v := I (aa.getD i 0)) rfl (ld_sc Sc3 (At.mono (Int_at ag (i := (i : Int)) (by omega) (by omega)) (au.at H)))) ?_
  refine d_q rfl (fun w' H => x_mv (v := ac) rfl) ?_
  refine d_q rfl (fun w' H => x_mv (v := I (i : Int)) rfl) ?_
  obtain ⟨aR, hM⟩ := M.e_gd hM
  refine d_q rfl (fun w' H => x_ari (r := (i : Int) - 1) rfl rfl rfl (by omega)) ?_
  obtain ⟨aS, hM⟩ := M.e_gd hM
  refine d_q rfl (fun w' H => x_ix (v := vat ac 1 (Int.toNat ((i : Int) - 1))) rfl rfl (Sl.ix (α := Int) T34.und T34.size ag (by omega) (by omega))) ?_
  refine d_q rfl (fun w' H => x_ld (v := I (aa.getD (Int.toNat ((i : Int) - 1)) 0)) rfl (ld_sc Sc3 (At.mono (Int_at ag (i := (i : Int) - 1) (by omega) (by omega)) (au.at H)))) ?_
  refine d_l rfl ?_
  obtain ⟨aT, aG, hM⟩ := M.e_bind hM
  refine s_callm (f := 149) (fs := [Pz ae]) rfl cf149 [I (aa.getD i 0), I (aa.getD (Int.toNat ((i : Int) - 1)) 0)] rfl (zcl ai (aa.getD i 0) (aa.getD (Int.toNat ((i : Int) - 1)) 0) (az.app _) aA (aB.app _) aG _ (St.give (T := []) H rfl)) ?_
  rintro vq aH ⟨r2, aI, hvq, ay⟩
  subst aI
  subst vq
  try dsimp only at hM
  replace H : St w aH [] R := H.back ay rfl
  clear ay
  refine s_nil ⟨(H.pick [] (by decide) rfl), ?_⟩
  refine d_q rfl (fun w' H => x_not (b := r2) rfl) ?_
  refine d_nil ?_
  refine W.cond (!r2) rfl (fun al => ?_) (fun al => ?_)
  ·replace hM := M.e_t hM al
   refine sQ rfl <| sA (B false) rfl <| s_nil ?_
   refine W.ret ?_
   have aJ := M.e_inr hM ak
   subst aJ
   replace hM := av
   try dsimp only at hM
   have am := M.e_pure hM
   exact ⟨_, resE_tmp rfl, ⟨false, am, rfl, H⟩⟩
  replace hM := M.e_f hM al
  refine W.skip <| W.region rfl <| sM (I (i : Int)) rfl <| sR _ _ ((i : Int) + 1) rfl rfl rfl (by omega) <| sA (I ((i : Int) + 1)) rfl <| s_nil ?_
  exact ⟨aD, aE, i + 1, _, upds_of _ _ ⟨rfl, rfl, rfl, trivial⟩, M.e_inl hM ak, H⟩
 replace hM := M.e_f hM ah
 simp only [qz1, qz2, qz3, qz4, qz5, qz6, ne_eq, qz7] at ah
 refine W.exit ?_
 have aK := M.e_inr hM ak
 subst aK
 replace hM := av
 try dsimp only at hM
 refine sQ rfl <| sM ac rfl ?_
 have aU := (ag).len_le
 refine s_val (x_lenS T34.und rfl ag) <| sC _ _ (decide (0 < (aa.length : Int))) rfl rfl rfl <| sA (B (decide (0 < (aa.length : Int)))) rfl <| s_nil ?_
 refine W.ret ?_
 have am := M.e_pure hM
 exact ⟨_, resE_tmp rfl, ⟨(decide (0 < (aa.length : Int))), am, rfl, H⟩⟩

end Go.Proofs.Ytndobgodeicloaa
end
namespace Go.Nm
theorem M.i_scanF {b : Nat -> M (Nat ⊕ (Unit ⊕ Unit))} (n i0 : Nat) (bad : Nat -> Bool) (h0 : ∀ j < i0, bad j = false) (hi0 : i0 <= n) (hb : ∀ i, i0 <= i -> i < n -> (∀ j < i, bad j = false) -> (b i).Ends (if bad i then .inr (.inl ()) else .inl (i + 1))) (he : (∀ j < n, bad j = false) -> (b n).Ends (.inr (.inr ()))) :
    (M.iter b i0).Ends (if (List.range n).any bad then .inl () else .inr ()) := by
  have key : ∀ k i, n = i + k -> i0 <= i -> (∀ j < i, bad j = false) -> (M.iter b i).Ends (if (List.range n).any bad then .inl () else .inr ()) := by
    intro k
    induction k with
    | zero =>
      intro i hi _ hj
      have hn : n = i := by omega
      rw [hn] at he ⊢
      have : (List.range i).any bad = false := List.any_eq_false.2 fun j hj' => by simp [hj j (List.mem_range.1 hj')]
      rw [this]
      exact M.i_stop (he hj)
    | succ k ih =>
      intro i hi hii hj
      have h1 := hb i hii (by omega) hj
      cases hc : bad i with
      | true =>
        rw [hc] at h1
        have : (List.range n).any bad = true := List.any_eq_true.2 ⟨i, List.mem_range.2 (by omega), hc⟩
        rw [this]
        exact M.i_stop h1
      | false =>
        rw [hc] at h1
        refine M.i_next h1 (ih (i + 1) (by omega) (by omega) fun j hj' => ?_)
        by_cases e : j = i
        · rw [e]; exact hc
        · exact hj j (by omega)
  exact key (n - i0) i0 (by omega) (Nat.le_refl _) h0
theorem lineB_at1 {ws : List Work} (l : List Int) : lineB ws l = !((List.range l.length).any fun i => decide (1 <= i) && !((ws.getD (l.getD i 0).toNat default).of.contains (l.getD (i - 1) 0))) := by
  rw [lineB_at]
  cases hl : l.length with
  | zero => rfl
  | succ n =>
    rw [List.range_succ_eq_map, List.any_cons, List.any_map, Nat.add_sub_cancel]
    rfl
end Go.Nm
namespace Go.Proofs.Ytndobgodeicloaa
open Go Go.Nm
variable {ws : List Work}
structure RevOk (ws : List Work) (rv : List Int) : Prop where
  some : rv ≠ []
  asc : rv.Pairwise (· < ·)
  lt : ∀ x ∈ rv, 0 <= x /\ x < (ws.length : Int)
  few : rv.length <= ws.length
theorem RevOk.asked {rv : List Int} (h : RevOk ws rv) (hO : openedE ws = 0) : askedE ws rv = 0 := by rw [asked_list hO]; exact listed_of h.lt h.asc
theorem webOf_ends {i : Int} (h0 : 0 <= i) (h1 : i < ws.length) (x : Int) : (za2 ws i x).Ends ((ws.getD i.toNat default).of.contains x) := by
  unfold za2
  exact M.i_grd (gA2 h0 h1) M.i_pure
theorem everyInt_ends {s : List Int} {f : Int -> M Bool} {p : Int -> Bool} (hf : ∀ x ∈ s, (f x).Ends (p x)) : (zbg f s).Ends (s.all p) := by
  have key : ∃ r, (zav s (fun x => zaI x f)).Ends r /\ decide (0 <= r) = !(s.all p) := by
    have h := M.i_loopQ (body := zaf s (fun x => zaI x f)) (fun r => match r with | .inl k => 0 <= k /\ s.all p = false | .inr _ => s.all p = true)
      (fun m i => m = s.length - i /\ i <= s.length /\ (s.take i).all p = true) (by
        rintro m i ⟨rfl, hi, ha⟩
        simp only [zaf]
        by_cases e : i < s.length
        · have hp := M.i_bind (hf _ (getD_memN s (by omega : (i : Int) < _) 0)) (k := fun r2 => M.pure (!r2)) M.i_pure
          have hp : (zaI (s.getD i 0) f).Ends _ := hp
          cases hc : p (s.getD i 0) with
          | false =>
            rw [hc] at hp
            exact .inr ⟨.inl (i : Int), M.i_t (by simpa using e) (M.grdD (by omega) (M.i_bind hp M.i_pure)), by omega, List.all_eq_false.2 ⟨_, getD_memN s (by omega : (i : Int) < _) 0, by rw [hc]; decide⟩⟩
          | true =>
            rw [hc] at hp
            exact .inl ⟨i + 1, s.length - (i + 1), by omega, M.i_t (by simpa using e) (M.grdD (by omega) (M.i_bind hp M.i_pure)), rfl, e, by rw [all_take_succ p s e 0, ha, hc]; rfl⟩
        · obtain rfl : i = s.length := by omega
          rw [List.take_length] at ha
          exact .inr ⟨.inr (), M.i_f (by simp) M.i_pure, ha⟩) _ 0 ⟨rfl, Nat.zero_le _, by simp⟩
    obtain ⟨r, h1, h2⟩ := h
    cases r with
    | inl k => exact ⟨k, M.i_bind h1 M.i_pure, by rw [h2.2]; simpa using h2.1⟩
    | inr u => exact ⟨-1, M.i_bind h1 M.i_pure, by dsimp only at h2; rw [h2]; rfl⟩
  obtain ⟨r, h1, h2⟩ := key
  rw [show s.all p = !(decide (0 <= r)) from by rw [h2, Bool.not_not]]
  exact M.i_bind (M.i_bind h1 M.i_pure) M.i_pure
theorem webLeads_ends {l : List Int} (hr : ∀ x ∈ l, 0 <= x /\ x < (ws.length : Int)) (hl : l.length <= 1000000) : (za5 ws l).Ends (lineB ws l && decide (0 < (l.length : Int))) := by
  unfold za5
  by_cases hz : l = []
  · subst hz
    have h0 : (M.iter (zan ws []) 1).Ends (.inr ()) := M.i_stop (by simp only [zan]; exact M.i_f (by simp) M.i_pure)
    exact M.i_bind h0 M.i_pure
  · have hl1 : 1 <= l.length := List.length_pos_iff.2 hz
    have s1 := M.i_scanF (b := zan ws l) l.length 1 (fun i => decide (1 <= i) && !((ws.getD (l.getD i 0).toNat default).of.contains (l.getD (i - 1) 0))) (fun j hj => by rw [decide_eq_false (by omega)]; rfl) hl1 (fun i h1 hi _ => ?_) (fun _ => ?_)
    · refine M.i_bind s1 ?_
      rw [lineB_at1]
      cases (List.range l.length).any fun i => decide (1 <= i) && !((ws.getD (l.getD i 0).toNat default).of.contains (l.getD (i - 1) 0)) <;> exact M.i_pure
    · have hm := hr _ (getD_memN l (by omega : (i : Int) < _) 0)
      simp only [zan, show ((i : Int) - 1).toNat = i - 1 from by omega]
      refine M.i_t (by simpa using hi) (M.grdD (by omega) (M.i_grd (gA2 (by omega) (by omega)) (M.i_grd (gA2 (by omega) (by omega)) (M.i_bind (webOf_ends hm.1 hm.2 _) ?_))))
      rw [decide_eq_true h1, Bool.true_and]
      cases (ws.getD (l.getD i 0).toNat default).of.contains (l.getD (i - 1) 0) <;> exact M.i_pure
    · simp only [zan]
      exact M.i_f (by simp) M.i_pure
end Go.Proofs.Ytndobgodeicloaa
section
set_option maxRecDepth 100000
set_option maxHeartbeats 16000000
namespace Go.Proofs.Ytndobgodeicloaa
open Go Go.Nm
def zcw (aa : List Work) (enters : Int -> M Bool) : M (Int -> Option Bool) :=
  M.pure (fun _ => none)
theorem zdi {R : List Chunk} {aa : Nat} {ag : Cells} {ah : Value} {ac : Value} (ai : List Work) (enters : Int -> M Bool) (am : Reads R ag) (ao : Sl ag ah ai) (ap : Has R (cBlk aa [ah] 187)) (ak : FnM Try.prog R ac enters) {r : (Int -> Option Bool)} (hM : (zcw ai enters).Ends r) (w : World) (H : St w w [] R) : Ret Try.prog 108 #[Pz aa, ac] w fun v w' => ∃ (y0 : Int -> Option Bool) (nb0 : Nat) (nb1 : Nat), y0 = r /\ v = Pz nb0 /\ St w w' [cBlk nb0 [Pz aa, ac, .map (some nb1)] 211, cMap I B nb1 y0] R := by
 refine ret_of_W Try.func108 rfl rfl rfl ?_
 refine sQ rfl <| sA (.pointer none) rfl <| s_nil <| sQ rfl <| sM (Pz aa) rfl <| sM ac rfl ?_
 refine t_mkmap (κ := Int) (ν := Bool) I B H ?_
 intro ae aq H
 refine s_val (x_bld (ps := [(0, Pz aa), (1, ac), (2, .map (some ae))]) (zs := [.pointer none, .nilFunc, .map none]) (L' := [Pz aa, ac, .map (some ae)]) rfl Try.underlying211 Al211 rfl (Bd211 Try.underlying211) (.cons (cs := [Pz aa]) rfl rfl rfl rfl rfl <| .cons (cs := [ac]) (FnM.cells ak) rfl rfl rfl rfl <| .cons (cs := [.map (some ae)]) rfl rfl rfl rfl rfl <| .nil)) ?_
 refine t_box (v := .agg #[Pz aa, ac, .map (some ae)]) (cs := [Pz aa, ac, .map (some ae)]) H rfl rfl ?_
 intro aj au H
 refine sA (Pz aj) rfl <| s_nil ?_
 refine W.ret ?_
 have al := M.e_pure hM
 exact ⟨_, resE_tmp rfl, ⟨(fun _ => none), aj, ae, al, rfl, H⟩⟩

def zak (ag : List Work) (s_enters : Int -> M Bool) (ac : Int) (ae : Int) (ah : ((List Work) × (Int -> M Bool) × (Int -> Option Bool) × Int × Int) -> M ((List Int) × (Int -> Option Bool))) : (Int -> Option Bool) -> Int -> M ((Int -> Option Bool) ⊕ ((List Int) × (Int -> Option Bool))) := fun mp x =>
  bif ((!((mp (x : Int)).getD false)) && (x != ae)) then (
  M.bind (s_enters x) fun r8 =>
  bif (((mp (x : Int)).getD false) || ((x != ae) && (!r8))) then (
  M.pure (.inl mp))
  else (
  M.bind (ah (ag, s_enters, mp, x, ae)) fun (r4, aa) =>
  bif !r4.isEmpty then (
  M.grd (decide ((([(ac : Int)]).length + r4.length) * 8 <= 140737488355328)) <|
  M.pure (.inr (([(ac : Int)]) ++ r4, aa)))
  else (
  M.pure (.inl aa))))
  else (
  bif (((mp (x : Int)).getD false) || false) then (
  M.pure (.inl mp))
  else (
  M.bind (ah (ag, s_enters, mp, x, ae)) fun (r4, aa) =>
  bif !r4.isEmpty then (
  M.grd (decide ((([(ac : Int)]).length + r4.length) * 8 <= 140737488355328)) <|
  M.pure (.inr (([(ac : Int)]) ++ r4, aa)))
  else (
  M.pure (.inl aa))))
def zaa (ah : ((List Work) × (Int -> M Bool) × (Int -> Option Bool) × Int × Int) -> M ((List Int) × (Int -> Option Bool))) : ((List Work) × (Int -> M Bool) × (Int -> Option Bool) × Int × Int) -> M ((List Int) × (Int -> Option Bool)) := fun (ac, s_enters, ag, aa, ae) =>
  bif aa == ae then (
  M.pure (([(ae : Int)]), ag))
  else (
  M.bind (zbF ac aa) fun ai =>
  M.bind (zaj (M.yl (zak ac s_enters aa ae ah)) (.inl (updF ag (aa : Int) true)) ac ai) fun x_ => match x_ with
  | .inl mp => (
  M.pure (([]), mp))
  | .inr (l, aj) => (
  M.grd (decide (0 < l.length)) <|
  M.pure (l, aj)))
theorem zcr : M.Mon zaa := by
  intro n f g h a
  obtain ⟨aa, s_enters, ac, ae, ag⟩ := a
  simp only [zaa, zak]
  repeat' (first | exact M.le_same _ _ | exact h _ | refine M.le_grd ?_ | refine M.le_if ?_ ?_ | refine M.le_bind ?_ (fun x => ?_) | refine M.le_opt ?_ | refine M.le_iter (fun x => ?_) _ | refine zb0 (M.le_yl (fun s_ a_ => ?_)) _ _ _ | (rename_i x; cases x) | (rename_i x; obtain ⟨_, _⟩ := x))
def zbC (aa : List Work) (s_enters : Int -> M Bool) (ac : Int -> Option Bool) (ae : Int) (ag : Int) : M ((List Int) × (Int -> Option Bool)) := M.fix zaa zcr (aa, s_enters, ac, ae, ag)
theorem zdH (n_ : Nat) : ∀ {R : List Chunk} {ae : Nat} {al : Nat} {aQ : Cells} {aR : Value} {aK : Value} {ag : Nat} (ay : List Work) (s_enters : Int -> M Bool) (aq : Int -> Option Bool) (ac : Int) (aa : Int) (aF : Reads R aQ) (aI : Sl aQ aR ay) (aG : Has R (cBlk al [aR] 187)) (aJ : FnM Try.prog R aK s_enters) (aA : Has R (cBlk ae [Pz al, aK, .map (some ag)] 211)) {r : ((List Int) × (Int -> Option Bool))} (hM : (M.fixN zaa n_ (ay, s_enters, aq, ac, aa)).Ends r) (w : World) (H : St w w [cMap I B ag aq] R), Ret Try.prog 150 #[Pz ae, I ac, I aa] w fun v w' => ∃ (y0 : List Int) (y1 : Int -> Option Bool) (u0 : Value), (y0, y1) = r /\ v = u0 /\ St w w' [cOwn (α := Int) 3 u0 y0, cMap I B ag y1] R /\ (y0 = [] -> u0 = .slice none 0 0) := by
  induction n_ with
  | zero => intro R ae al aQ aR aK ag ay s_enters aq ac aa aF aI aG aJ aA r hM w H; exact (M.e_fail hM).elim
  | succ n_ ih =>
    intro R ae al aQ aR aK ag ay s_enters aq ac aa aF aI aG aJ aA r hM w H
    refine ret_of_WD Try.func150 rfl rfl rfl ?_
    replace H : St w w [cMk ([]), cMap I B ag aq] R := H.mk0
    have bE := aI.len_le
    simp only [M.fixN, zaa] at hM
    refine WD.seq ?_
    refine WD.of ?_
    refine W.region rfl ?_
    refine t_box (v := Pz ae) (cs := [Pz ae]) H rfl rfl ?_
    intro ai bF H
    refine t_box (v := I ac) (cs := [I ac]) H rfl rfl ?_
    intro aj bG H
    refine t_box (v := I aa) (cs := [I aa]) H rfl rfl ?_
    intro ak bH H
    refine t_alloc (cs := [.slice none 0 0]) H Al34 rfl ?_
    intro ah bI H
    refine s_nil ?_
    refine WD.seq ?_
    refine WD.seq ?_
    refine WD.of ?_
    refine W.region rfl <| s_val (x_ld (v := I ac) rfl (ldb_sc Sc3 (H.blk (k := 2) rfl) rfl)) <| s_val (x_ld (v := I aa) rfl (ldb_sc Sc3 (H.blk (k := 1) rfl) rfl)) <| sC _ _ (ac == aa) rfl rfl rfl <| s_nil ?_
    refine WD.cond (ac == aa) rfl (fun aM => ?_) (fun aM => ?_)
    ·replace hM := M.e_t hM aM
     simp only [qz1, qz2, qz3, qz4, qz5, qz6, ne_eq, qz7] at aM
     refine WD.seq ?_
     refine WD.of ?_
     refine W.region rfl <| s_val (x_ld (v := I aa) rfl (ldb_sc Sc3 (H.blk (k := 1) rfl) rfl)) ?_
     refine t_bs (α := Int) T34 [I aa] [(aa : Int)] H rfl (.cons rfl (Flat.rep_enc _ (aa : Int)) <| .nil) rfl rfl rfl ?_
     intro aB bJ H
     refine t_st (k := 1) (b := ah) (off := 0) (cs := [.slice none 0 0]) (vs := [aB]) (cs' := [aB]) (v := aB) (L' := [cOwn (α := Int) 3 aB ([(aa : Int)]), cBlk ah [aB] 34, cBlk ak [I aa] 3, cBlk aj [I ac] 3, cBlk ai [Pz ae] 160, cMk ([]), cMap I B ag aq]) H rfl rfl rfl Sz34 (Sl.cells (ownSl (H.get (k := 0) rfl))) rfl rfl (by simp only [List.all_cons, List.all_nil, Bool.true_and, Bool.and_true, Sl.oc (ownSl (H.get (k := 0) rfl))]; try rfl) rfl rfl ?_
     intro bK H
     refine s_nil ?_
     refine WD.of ?_
     refine W.ret ?_
     refine bodyD_r (H.pick [5, 0, 1, 2, 3, 4, 6] (by decide) rfl) ?_
     intro a8 H
     replace H : St w a8 [cOwn (α := Int) 3 aB ([(aa : Int)]), cBlk ah [aB] 34, cBlk ak [I aa] 3, cBlk aj [I ac] 3, cBlk ai [Pz ae] 160, cMap I B ag aq] R := H
     have a9 := (H.blk (k := 1) rfl)
     have aN := M.e_pure hM
     exact ⟨_, (resE_of1 (v := aB) rfl (.cell (v := aB) rfl (run_loadVar_sc Sc34 a9 rfl) <| .nil)), ⟨([(aa : Int)]), aq, aB, aN, rfl, (H.pick [0, 5] (by decide) rfl), (fun h_ => absurd h_ (by simp))⟩⟩
    replace hM := M.e_f hM aM
    simp only [qz1, qz2, qz3, qz4, qz5, qz6, ne_eq, qz7] at aM
    refine WD.of ?_
    refine W.skip ?_
    refine WD.seq ?_
    refine WD.of ?_
    refine W.draw (fun W => St w W [cBlk ah [.slice none 0 0] 34, cBlk ak [I aa] 3, cBlk aj [I ac] 3, cBlk ai [Pz ae] 160, cMk ([])] R) [(0, true), (1, true), (2, true), (3, true), (4, true), (5, false)] mixed (by decide +kernel) rfl ?_
    intro ba aO
    replace H : St w ba [cBlk ah [.slice none 0 0] 34, cBlk ak [I aa] 3, cBlk aj [I ac] 3, cBlk ai [Pz ae] 160, cMk ([]), cMap I B ag aq] R := H.ext aO
    clear aO
    refine ⟨(H.pick [0, 1, 2, 3, 4] (by decide) rfl), ?_⟩
    refine d_q rfl (fun w' H => x_ld (v := Pz ae) rfl (ldb_sc Sc160 (H.blk (k := 3) rfl) rfl)) ?_
    refine d_q rfl (fun w' H => x_nc (a := ⟨ae, 0, none⟩) rfl) ?_
    refine d_q rfl (fun w' H => x_fa (v := Oz ae 2) rfl (fa_blk (o := 0) Fd211_2 Sz178)) ?_
    refine d_q rfl (fun w' H => x_ld (v := .map (some ag)) rfl (ldb_sc Sc178 (aA.blk H) rfl)) ?_
    refine d_q rfl (fun w' H => x_ld (v := I ac) rfl (ldb_sc Sc3 (H.blk (k := 2) rfl) rfl)) ?_
    refine d_l rfl ?_
    refine t_mapu (i := 5) (kenc := I) (venc := B) (f := aq) (k := (ac : Int)) (v := true) (L' := [cBlk ah [.slice none 0 0] 34, cBlk ak [I aa] 3, cBlk aj [I ac] 3, cBlk ai [Pz ae] 160, cMk ([]), cMap I B ag (updF aq (ac : Int) true)]) keyIntB Try.underlying178 H rfl rfl rfl rfl rfl ?_
    intro bL H
    refine s_nil ⟨(H.pick [0, 1, 2, 3, 4] (by decide) rfl), ?_⟩
    refine d_nil ?_
    refine WD.seq ?_
    refine WD.seq ?_
    refine WD.of ?_
    refine W.draw (fun W => St w W [cBlk ah [.slice none 0 0] 34, cBlk ak [I aa] 3, cBlk aj [I ac] 3, cBlk ai [Pz ae] 160, cMk ([]), cMap I B ag (updF aq (ac : Int) true)] R) [(0, true), (1, true), (2, true), (3, true), (4, true), (5, false)] mixed (by decide +kernel) rfl ?_
    intro bb aO
    replace H : St w bb [cBlk ah [.slice none 0 0] 34, cBlk ak [I aa] 3, cBlk aj [I ac] 3, cBlk ai [Pz ae] 160, cMk ([]), cMap I B ag (updF aq (ac : Int) true)] R := H.ext aO
    clear aO
    refine ⟨(H.pick [0, 1, 2, 3, 4, 5] (by decide) rfl), ?_⟩
    refine d_q rfl (fun w' H => x_ld (v := Pz ae) rfl (ldb_sc Sc160 (H.blk (k := 3) rfl) rfl)) ?_
    refine d_q rfl (fun w' H => x_nc (a := ⟨ae, 0, none⟩) rfl) ?_
    refine d_q rfl (fun w' H => x_fa (v := Pz ae) rfl (fa_blk (o := 0) Fd211_0 Sz127)) ?_
    refine d_q rfl (fun w' H => x_ld (v := Pz al) rfl (ldb_sc Sc127 (aA.blk H) rfl)) ?_
    refine d_q rfl (fun w' H => x_ld (v := I ac) rfl (ldb_sc Sc3 (H.blk (k := 2) rfl) rfl)) ?_
    refine d_l rfl ?_
    obtain ⟨bM, bc, hM⟩ := M.e_bind hM
    refine s_call cf98 [Pz al, I ac] rfl (zcu ay ac (aF.app _) aI (aG.app _) bc _ (St.give (T := [cBlk ah [.slice none 0 0] 34, cBlk ak [I aa] 3, cBlk aj [I ac] 3, cBlk ai [Pz ae] 160, cMk ([]), cMap I B ag (updF aq (ac : Int) true)]) H rfl)) ?_
    rintro vq bf ⟨am, ao, ap, bg, hvq, az⟩
    subst bg
    subst vq
    try dsimp only at hM
    replace H : St w bf [cBlk ao [Pz al] 127, cBlk ap [I am] 3, cBlk ah [.slice none 0 0] 34, cBlk ak [I aa] 3, cBlk aj [I ac] 3, cBlk ai [Pz ae] 160, cMk ([]), cMap I B ag (updF aq (ac : Int) true)] R := H.back az rfl
    clear az
    refine s_nil ⟨(H.pick [2, 3, 4, 5, 6, 7] (by decide) rfl), ?_⟩
    refine d_nil ?_
    refine WD.block ?_
    obtain ⟨bN, bh, hM⟩ := M.e_bind hM
    refine WD.range (L := [cBlk ah [.slice none 0 0] 34, cMap I B ag (updF aq (ac : Int) true), cBlk ao [Pz al] 127, cBlk ap [I am] 3, cBlk ak [I aa] 3, cBlk aj [I ac] 3, cBlk ai [Pz ae] 160]) [Pz ao, Pz ap] (H.pick [6, 2, 7, 0, 1, 3, 4, 5] (by decide) rfl) rfl cf148 ?_
    intro aP au aS bi aU H
    have hYC : YieldC Try.prog ([cMk (au :: ([])), cBlk ao [Pz al] 127, cBlk ap [I am] 3, cBlk ak [I aa] 3, cBlk aj [I ac] 3, cBlk ai [Pz ae] 160] ++ R) arI (yJ aP aS (fun mp aH => aH = [cBlk ah [.slice none 0 0] 34, cMap I B ag mp]) (fun (l, aC) aH => ∃ (av : Value), aH = [cBlk ah [av] 34, cMap I B ag aC, cOwn (α := Int) 3 av l]) (fun _ => .ret)) (.func (.yield aP) #[] #[]) (M.yl (zak ay s_enters ac aa (M.fixN zaa n_))) := by
     refine YieldC.mk aU (fun mp aH => aH = [cBlk ah [.slice none 0 0] 34, cMap I B ag mp]) (fun (l, aC) aH => ∃ (av : Value), aH = [cBlk ah [av] 34, cMap I B ag aC, cOwn (α := Int) 3 av l]) (fun _ => .ret) (zak ay s_enters ac aa (M.fixN zaa n_)) (by rintro mp _ h_; obtain ⟨rfl⟩ := h_; rfl) (by rintro ⟨l, aC⟩ _ h_; (obtain ⟨_, rfl⟩ := h_; rfl)) rfl (arI_len rfl) ?_
     intro C_ bO x W_ bj
     obtain rfl := bj
     refine W.region rfl <| sA (I x) rfl <| s_nil ?_
     refine ⟨rfl, rfl, ?_⟩
     intro w R aT aH s_ r bk hM H
     skip
     obtain ⟨mp, bl⟩ : ∃ y_, y_ = s_ := ⟨_, rfl⟩
     subst bl
     obtain ⟨rfl⟩ := bk
     replace aF := aF.sub aT
     replace aG := aG.sub aT
     replace aJ := aJ.sub aT
     replace aA := aA.sub aT
     replace hM : (zak ay s_enters ac aa (M.fixN zaa n_) mp x).Ends r := hM
     simp only [zak] at hM
     replace H : St w w [cBlk ah [.slice none 0 0] 34, cMap I B ag mp, cBlk ao [Pz al] 127, cBlk ap [I am] 3, cBlk ak [I aa] 3, cBlk aj [I ac] 3, cBlk ai [Pz ae] 160, cMk (au :: ([]))] R := H.pick [0, 1, 3, 4, 5, 6, 7, 2] (by decide) rfl
     refine W.block <| W.seq <| sQ rfl <| s_val (x_ld (v := Pz ae) rfl (ldb_sc Sc160 (H.blk (k := 6) rfl) rfl)) <| s_val (x_nc (a := ⟨ae, 0, none⟩) rfl) <| s_val (x_fa (v := Oz ae 2) rfl (fa_blk (o := 0) Fd211_2 Sz178)) <| s_val (x_ld (v := .map (some ag)) rfl (ldb_sc Sc178 (aA.blk H) rfl)) <| sM (I x) rfl <| s_val (q_look (kenc := I) (venc := B) (f := mp) (k := (x : Int)) (v := B ((mp (x : Int)).getD false)) keyIntB Try.underlying178 Al4 rfl rfl (H.get (k := 1) rfl) false (by rw [if_neg (by decide), bool_val])) <| sM (B ((mp (x : Int)).getD false)) rfl <| g_val (!((mp (x : Int)).getD false)) (gy_f rfl) (fun hg => x_mv (v := I x) rfl) ?_
     refine g_val (!((mp (x : Int)).getD false)) (gy_f rfl) (fun hg => x_ld (v := I aa) rfl (ldb_sc Sc3 (H.blk (k := 4) rfl) rfl)) <| g_val (!((mp (x : Int)).getD false)) (gy_f rfl) (fun hg => x_cmp (kd := .i64) (r := x != aa) (gd_of hg (I x)) (gd_of hg (I aa)) rfl) <| g_val (!((mp (x : Int)).getD false)) (gy_f rfl) (fun hg => x_mv (v := B (x != aa)) (gd_of hg (B (x != aa)))) <| g_val ((!((mp (x : Int)).getD false)) && (x != aa)) (gy_gt rfl rfl) (fun hg => x_ld (v := Pz ae) rfl (ldb_sc Sc160 (H.blk (k := 6) rfl) rfl)) <| g_val ((!((mp (x : Int)).getD false)) && (x != aa)) (gy_gt rfl rfl) (fun hg => x_nc (a := ⟨ae, 0, none⟩) (gd_of hg (Pz ae))) <| g_val ((!((mp (x : Int)).getD false)) && (x != aa)) (gy_gt rfl rfl) (fun hg => x_fa (v := Oz ae 1) (gd_of hg (Pz ae)) (fa_blk (o := 0) Fd211_1 Sz75)) <| g_val ((!((mp (x : Int)).getD false)) && (x != aa)) (gy_gt rfl rfl) (fun hg => x_ld (v := aK) (gd_of hg (Oz ae 1)) (ldb_sc Sc75 (aA.blk H) rfl)) <| g_val ((!((mp (x : Int)).getD false)) && (x != aa)) (gy_gt rfl rfl) (fun hg => x_mv (v := I x) rfl) ?_
     refine g_splitV ((!((mp (x : Int)).getD false)) && (x != aa)) (B false) (gy_gt rfl rfl) (fun aL => ?_) (fun aL => ?_)
     ·replace hM := M.e_t hM aL
      obtain ⟨r9, bm, hM⟩ := M.e_bind hM
      refine t_callM H aJ (gd_of (c := ((!((mp (x : Int)).getD false)) && (x != aa))) aL (aK)) (gd_of (c := ((!((mp (x : Int)).getD false)) && (x != aa))) aL (I x)) x Reads.none (Arg.mkI (fun _ => none) _) bm ?_
      intro bP H
      refine g_val ((!((mp (x : Int)).getD false)) && (x != aa)) (gy_gt rfl rfl) (fun hg => x_not (b := r9) rfl) <| g_val (!((mp (x : Int)).getD false)) (gy_f rfl) (fun hg => x_pand (b := x != aa) (r := !r9) (gd_of hg (B (x != aa))) (fun hb => gd_of (c := ((!((mp (x : Int)).getD false)) && (x != aa))) (by first | exact hb | (rw [hb]; rfl) | simp_all) (B (!r9))) rfl) <| s_val (x_por (b := (mp (x : Int)).getD false) (r := ((x != aa) && (!r9))) rfl rfl (fun hb => gd_of (c := !((mp (x : Int)).getD false)) (by first | exact hb | (rw [hb]; rfl) | simp_all) (B ((x != aa) && (!r9))))) <| s_nil ?_
      refine W.cond (((mp (x : Int)).getD false) || ((x != aa) && (!r9))) rfl (fun aV => ?_) (fun aV => ?_)
      ·replace hM := M.e_t hM aV
       refine W.exit ?_
       exact ⟨mp, [cBlk ah [.slice none 0 0] 34, cMap I B ag mp], (M.e_pure hM).symm, rfl, H.pick [0, 1, 7, 2, 3, 4, 5, 6] (by decide) rfl⟩
      replace hM := M.e_f hM aV
      refine W.skip <| sQ rfl <| s_val (x_ld (v := Pz ae) rfl (ldb_sc Sc160 (H.blk (k := 6) rfl) rfl)) <| sM (I x) rfl <| s_val (x_ld (v := I aa) rfl (ldb_sc Sc3 (H.blk (k := 4) rfl) rfl)) ?_
      obtain ⟨bQ, bn, hM⟩ := M.e_bind hM
      refine s_call cf150 [Pz ae, I x, I aa] rfl (ih ay s_enters mp x aa (aF.app _) aI (aG.app _) (aJ.app _) (aA.app _) bn _ (St.give (L := [cMap I B ag mp, cBlk ah [.slice none 0 0] 34, cBlk ao [Pz al] 127, cBlk ap [I am] 3, cBlk ak [I aa] 3, cBlk aj [I ac] 3, cBlk ai [Pz ae] 160, cMk (au :: ([]))]) (A := [cMap I B ag mp]) (T := [cBlk ah [.slice none 0 0] 34, cBlk ao [Pz al] 127, cBlk ap [I am] 3, cBlk ak [I aa] 3, cBlk aj [I ac] 3, cBlk ai [Pz ae] 160, cMk (au :: ([]))]) (H.pick [1, 0, 2, 3, 4, 5, 6, 7] (by decide) rfl) rfl)) ?_
      rintro vq bo ⟨r4, aw, ax, bp, hvq, az, bq⟩
      subst bp
      subst vq
      try dsimp only at hM
      replace H : St w bo [cOwn (α := Int) 3 ax r4, cMap I B ag aw, cBlk ah [.slice none 0 0] 34, cBlk ao [Pz al] 127, cBlk ap [I am] 3, cBlk ak [I aa] 3, cBlk aj [I ac] 3, cBlk ai [Pz ae] 160, cMk (au :: ([]))] R := H.pick [1, 0, 2, 3, 4, 5, 6, 7] (by decide) rfl |>.back az rfl
      clear az
      refine sA ax rfl <| s_nil <| sQ rfl <| sM ax rfl <| s_val (x_nenil (α := Int) T34.und rfl rfl (ownSl (H.get (k := 0) rfl)) bq) <| s_nil ?_
      refine W.cond (!r4.isEmpty) rfl (fun aW => ?_) (fun aW => ?_)
      ·replace hM := M.e_t hM aW
       refine sQ rfl <| s_val (x_ld (v := I ac) rfl (ldb_sc Sc3 (H.blk (k := 6) rfl) rfl)) ?_
       refine t_bs (α := Int) T34 [I ac] [(ac : Int)] H rfl (.cons rfl (Flat.rep_enc _ (ac : Int)) <| .nil) rfl rfl rfl ?_
       intro bR bS H
       refine sM ax rfl ?_
       obtain ⟨bT, hM⟩ := M.e_gd hM
       refine t_app (α := Int) (k := 0) (l := [(ac : Int)]) (l2 := r4) (l' := ([(ac : Int)]) ++ r4) (vy := ax) T34 rfl H rfl rfl rfl (ownSl (H.get (k := 1) rfl)) (ownLe _ (H.get (k := 1) rfl)) (rfl) (by first | omega | (simp only [List.length_nil] at *; omega)) ?_
       intro aD br H
       replace H : St w br [cOwn (α := Int) 3 aD (([(ac : Int)]) ++ r4), cOwn (α := Int) 3 ax r4, cMap I B ag aw, cBlk ah [.slice none 0 0] 34, cBlk ao [Pz al] 127, cBlk ap [I am] 3, cBlk ak [I aa] 3, cBlk aj [I ac] 3, cBlk ai [Pz ae] 160, cMk (au :: ([]))] R := H
       refine t_st (k := 3) (b := ah) (off := 0) (cs := [.slice none 0 0]) (vs := [aD]) (cs' := [aD]) (v := aD) (L' := [cOwn (α := Int) 3 aD (([(ac : Int)]) ++ r4), cOwn (α := Int) 3 ax r4, cMap I B ag aw, cBlk ah [aD] 34, cBlk ao [Pz al] 127, cBlk ap [I am] 3, cBlk ak [I aa] 3, cBlk aj [I ac] 3, cBlk ai [Pz ae] 160, cMk (au :: ([]))]) H rfl rfl rfl Sz34 (Sl.cells (ownSl (H.get (k := 0) rfl))) rfl rfl (by simp only [List.all_cons, List.all_nil, Bool.true_and, Bool.and_true, Sl.oc (ownSl (H.get (k := 0) rfl))]; try rfl) rfl rfl ?_
       intro bU H
       refine s_nil ?_
       refine W.ret ?_
       exact ⟨(([(ac : Int)]) ++ r4, aw), [cBlk ah [aD] 34, cMap I B ag aw, cOwn (α := Int) 3 aD (([(ac : Int)]) ++ r4)], (M.e_pure hM).symm, ⟨aD, rfl⟩, H.pick [3, 2, 0, 9, 4, 5, 6, 7, 8] (by decide) rfl, rfl⟩
      replace hM := M.e_f hM aW
      refine W.skip ?_
      exact ⟨aw, [cBlk ah [.slice none 0 0] 34, cMap I B ag aw], (M.e_pure hM).symm, rfl, H.pick [2, 1, 8, 3, 4, 5, 6, 7] (by decide) rfl⟩
     replace hM := M.e_f hM aL
     refine g_val (v := B false) ((!((mp (x : Int)).getD false)) && (x != aa)) (gy_gt rfl rfl) (fun hg => Bool.noConfusion (aL.symm.trans hg)) <| g_val (!((mp (x : Int)).getD false)) (gy_f rfl) (fun hg => x_pand0 (b := x != aa) (gd_of hg (B (x != aa))) (fun hb => gd_of (c := ((!((mp (x : Int)).getD false)) && (x != aa))) (by first | exact hb | (rw [hb]; rfl) | simp_all) (B false)) rfl) <| s_val (x_por (b := (mp (x : Int)).getD false) (r := false) rfl rfl (fun hb => gd_of (c := !((mp (x : Int)).getD false)) (by first | exact hb | (rw [hb]; rfl) | simp_all) (B false))) <| s_nil ?_
     refine W.cond (((mp (x : Int)).getD false) || false) rfl (fun aX => ?_) (fun aX => ?_)
     ·replace hM := M.e_t hM aX
      refine W.exit ?_
      exact ⟨mp, [cBlk ah [.slice none 0 0] 34, cMap I B ag mp], (M.e_pure hM).symm, rfl, H.pick [0, 1, 7, 2, 3, 4, 5, 6] (by decide) rfl⟩
     replace hM := M.e_f hM aX
     refine W.skip <| sQ rfl <| s_val (x_ld (v := Pz ae) rfl (ldb_sc Sc160 (H.blk (k := 6) rfl) rfl)) <| sM (I x) rfl <| s_val (x_ld (v := I aa) rfl (ldb_sc Sc3 (H.blk (k := 4) rfl) rfl)) ?_
     obtain ⟨bV, bt, hM⟩ := M.e_bind hM
     refine s_call cf150 [Pz ae, I x, I aa] rfl (ih ay s_enters mp x aa (aF.app _) aI (aG.app _) (aJ.app _) (aA.app _) bt _ (St.give (L := [cMap I B ag mp, cBlk ah [.slice none 0 0] 34, cBlk ao [Pz al] 127, cBlk ap [I am] 3, cBlk ak [I aa] 3, cBlk aj [I ac] 3, cBlk ai [Pz ae] 160, cMk (au :: ([]))]) (A := [cMap I B ag mp]) (T := [cBlk ah [.slice none 0 0] 34, cBlk ao [Pz al] 127, cBlk ap [I am] 3, cBlk ak [I aa] 3, cBlk aj [I ac] 3, cBlk ai [Pz ae] 160, cMk (au :: ([]))]) (H.pick [1, 0, 2, 3, 4, 5, 6, 7] (by decide) rfl) rfl)) ?_
     rintro vq bu ⟨r4, aw, ax, bv, hvq, az, bw⟩
     subst bv
     subst vq
     try dsimp only at hM
     replace H : St w bu [cOwn (α := Int) 3 ax r4, cMap I B ag aw, cBlk ah [.slice none 0 0] 34, cBlk ao [Pz al] 127, cBlk ap [I am] 3, cBlk ak [I aa] 3, cBlk aj [I ac] 3, cBlk ai [Pz ae] 160, cMk (au :: ([]))] R := H.pick [1, 0, 2, 3, 4, 5, 6, 7] (by decide) rfl |>.back az rfl
     clear az
     refine sA ax rfl <| s_nil <| sQ rfl <| sM ax rfl <| s_val (x_nenil (α := Int) T34.und rfl rfl (ownSl (H.get (k := 0) rfl)) bw) <| s_nil ?_
     refine W.cond (!r4.isEmpty) rfl (fun aY => ?_) (fun aY => ?_)
     ·replace hM := M.e_t hM aY
      refine sQ rfl <| s_val (x_ld (v := I ac) rfl (ldb_sc Sc3 (H.blk (k := 6) rfl) rfl)) ?_
      refine t_bs (α := Int) T34 [I ac] [(ac : Int)] H rfl (.cons rfl (Flat.rep_enc _ (ac : Int)) <| .nil) rfl rfl rfl ?_
      intro bW bX H
      refine sM ax rfl ?_
      obtain ⟨bY, hM⟩ := M.e_gd hM
      refine t_app (α := Int) (k := 0) (l := [(ac : Int)]) (l2 := r4) (l' := ([(ac : Int)]) ++ r4) (vy := ax) T34 rfl H rfl rfl rfl (ownSl (H.get (k := 1) rfl)) (ownLe _ (H.get (k := 1) rfl)) (rfl) (by first | omega | (simp only [List.length_nil] at *; omega)) ?_
      intro aE bx H
      replace H : St w bx [cOwn (α := Int) 3 aE (([(ac : Int)]) ++ r4), cOwn (α := Int) 3 ax r4, cMap I B ag aw, cBlk ah [.slice none 0 0] 34, cBlk ao [Pz al] 127, cBlk ap [I am] 3, cBlk ak [I aa] 3, cBlk aj [I ac] 3, cBlk ai [Pz ae] 160, cMk (au :: ([]))] R := H
      refine t_st (k := 3) (b := ah) (off := 0) (cs := [.slice none 0 0]) (vs := [aE]) (cs' := [aE]) (v := aE) (L' := [cOwn (α := Int) 3 aE (([(ac : Int)]) ++ r4), cOwn (α := Int) 3 ax r4, cMap I B ag aw, cBlk ah [aE] 34, cBlk ao [Pz al] 127, cBlk ap [I am] 3, cBlk ak [I aa] 3, cBlk aj [I ac] 3, cBlk ai [Pz ae] 160, cMk (au :: ([]))]) H rfl rfl rfl Sz34 (Sl.cells (ownSl (H.get (k := 0) rfl))) rfl rfl (by simp only [List.all_cons, List.all_nil, Bool.true_and, Bool.and_true, Sl.oc (ownSl (H.get (k := 0) rfl))]; try rfl) rfl rfl ?_
      intro bZ H
      refine s_nil ?_
      refine W.ret ?_
      exact ⟨(([(ac : Int)]) ++ r4, aw), [cBlk ah [aE] 34, cMap I B ag aw, cOwn (α := Int) 3 aE (([(ac : Int)]) ++ r4)], (M.e_pure hM).symm, ⟨aE, rfl⟩, H.pick [3, 2, 0, 9, 4, 5, 6, 7, 8] (by decide) rfl, rfl⟩
     replace hM := M.e_f hM aY
     refine W.skip ?_
     exact ⟨aw, [cBlk ah [.slice none 0 0] 34, cMap I B ag aw], (M.e_pure hM).symm, rfl, H.pick [2, 1, 8, 3, 4, 5, 6, 7] (by decide) rfl⟩
    replace H : St w bi (cAll (cObj aP (.loop aS) :: [cBlk ah [.slice none 0 0] 34, cMap I B ag (updF aq (ac : Int) true)]) :: [cMk (au :: ([])), cBlk ao [Pz al] 127, cBlk ap [I am] 3, cBlk ak [I aa] 3, cBlk aj [I ac] 3, cBlk ai [Pz ae] 160]) R := St.bundleB (A := cObj aP (.loop aS) :: [cBlk ah [.slice none 0 0] 34, cMap I B ag (updF aq (ac : Int) true)]) (T := [cMk (au :: ([])), cBlk ao [Pz al] 127, cBlk ap [I am] 3, cBlk ak [I aa] 3, cBlk aj [I ac] 3, cBlk ai [Pz ae] 160]) rfl (H.pick [0, 2, 3, 1, 4, 5, 6, 7, 8] (by decide) rfl)
    refine (zcH (M.yl (zak ay s_enters ac aa (M.fixN zaa n_))) (.inl (updF aq (ac : Int) true)) ay am hYC ⟨_, rfl, rfl⟩ (aF.app _) aI (aG.app _) (Has.here (k := 1) rfl) (Has.here (k := 2) rfl) bh _ (St.give (A := [cAll (cObj aP (.loop aS) :: [cBlk ah [.slice none 0 0] 34, cMap I B ag (updF aq (ac : Int) true)])]) (T := [cMk (au :: ([])), cBlk ao [Pz al] 127, cBlk ap [I am] 3, cBlk ak [I aa] 3, cBlk aj [I ac] 3, cBlk ai [Pz ae] 160]) H rfl)).mono ?_
    rintro vq b6 ⟨bz, b9, bA, hvq, az, a6⟩
    subst bA
    replace H := H.back az rfl
    clear az hYC
    rcases bz with mp | ⟨l, aC⟩
    ·try dsimp only at hM
     obtain ⟨_, rfl, rfl⟩ := a6
     refine ⟨_, [cBlk ah [.slice none 0 0] 34, cMap I B ag mp, cBlk ao [Pz al] 127, cBlk ap [I am] 3, cBlk ak [I aa] 3, cBlk aj [I ac] 3, cBlk ai [Pz ae] 160], H.unbundle.pick [0, 3, 1, 2, 4, 5, 6, 7, 8] (by decide) rfl, aU.nb, ?_⟩
     intro aZ H
     rw [aU.pd]
     replace H : St w aZ [cMk (au :: ([])), cBlk ah [.slice none 0 0] 34, cMap I B ag mp, cBlk ao [Pz al] 127, cBlk ap [I am] 3, cBlk ak [I aa] 3, cBlk aj [I ac] 3, cBlk ai [Pz ae] 160] R := H
     try simp only []
     refine WD.seq ?_
     refine WD.of ?_
     refine W.region rfl ?_
     refine t_st (k := 1) (b := ah) (off := 0) (cs := [.slice none 0 0]) (vs := [.slice none 0 0]) (cs' := [.slice none 0 0]) (v := .slice none 0 0) (L' := [cMk (au :: ([])), cBlk ah [.slice none 0 0] 34, cMap I B ag mp, cBlk ao [Pz al] 127, cBlk ap [I am] 3, cBlk ak [I aa] 3, cBlk aj [I ac] 3, cBlk ai [Pz ae] 160]) H rfl rfl rfl Sz34 rfl rfl rfl rfl rfl rfl ?_
     intro ca H
     refine s_nil ?_
     refine WD.of ?_
     refine W.ret ?_
     refine bodyD_r (H.pick [0, 1, 2, 3, 4, 5, 6, 7] (by decide) rfl) ?_
     intro a7 H
     replace H : St w a7 [cBlk ah [.slice none 0 0] 34, cMap I B ag mp, cBlk ao [Pz al] 127, cBlk ap [I am] 3, cBlk ak [I aa] 3, cBlk aj [I ac] 3, cBlk ai [Pz ae] 160] R := H
     have bB := (H.blk (k := 0) rfl)
     have aN := M.e_pure hM
     replace H : St w a7 [cOwn (α := Int) 3 (.slice none 0 0) ([]), cBlk ah [.slice none 0 0] 34, cMap I B ag mp, cBlk ao [Pz al] 127, cBlk ap [I am] 3, cBlk ak [I aa] 3, cBlk aj [I ac] 3, cBlk ai [Pz ae] 160] R := H.nilOwn (α := Int) 3
     exact ⟨_, (resE_of1 (v := .slice none 0 0) rfl (.cell (v := .slice none 0 0) rfl (run_loadVar_sc Sc34 bB rfl) <| .nil)), ⟨([]), mp, (.slice none 0 0), aN, rfl, (H.pick [0, 2] (by decide) rfl), (fun _ => rfl)⟩⟩
    try dsimp only at hM
    obtain ⟨_, rfl, av, rfl⟩ := a6
    refine ⟨_, [cBlk ah [av] 34, cMap I B ag aC, cOwn (α := Int) 3 av l, cBlk ao [Pz al] 127, cBlk ap [I am] 3, cBlk ak [I aa] 3, cBlk aj [I ac] 3, cBlk ai [Pz ae] 160], H.unbundle.pick [0, 4, 1, 2, 3, 5, 6, 7, 8, 9] (by decide) rfl, nofun, ?_⟩
    intro aZ H
    show WD _ _ _ (.ret) _ _ _
    refine WD.of ?_
    refine W.ret ?_
    replace H : St w aZ [cMk (au :: ([])), cBlk ah [av] 34, cMap I B ag aC, cOwn (α := Int) 3 av l, cBlk ao [Pz al] 127, cBlk ap [I am] 3, cBlk ak [I aa] 3, cBlk aj [I ac] 3, cBlk ai [Pz ae] 160] R := H
    refine bodyD_r (H.pick [0, 1, 2, 3, 4, 5, 6, 7, 8] (by decide) rfl) ?_
    intro bC H
    replace H : St w bC [cBlk ah [av] 34, cMap I B ag aC, cOwn (α := Int) 3 av l, cBlk ao [Pz al] 127, cBlk ap [I am] 3, cBlk ak [I aa] 3, cBlk aj [I ac] 3, cBlk ai [Pz ae] 160] R := H
    have bD := (H.blk (k := 0) rfl)
    obtain ⟨a5, hM⟩ := M.e_grd hM
    simp only [decide_eq_true_eq] at a5
    have aN := M.e_pure hM
    exact ⟨_, (resE_of1 (v := av) rfl (.cell (v := av) rfl (run_loadVar_sc Sc34 bD rfl) <| .nil)), ⟨l, aC, av, aN, rfl, (H.pick [2, 1] (by decide) rfl), (fun h_ => by rw [h_] at a5; simp at a5)⟩⟩
theorem zc7 {R : List Chunk} {ai : Nat} {aj : Nat} {ak : Cells} {al : Value} {am : Value} {aa : Nat} (ac : List Work) (s_enters : Int -> M Bool) (ae : Int -> Option Bool) (ag : Int) (ah : Int) (ao : Reads R ak) (ap : Sl ak al ac) (aq : Has R (cBlk aj [al] 187)) (au : FnM Try.prog R am s_enters) (av : Has R (cBlk ai [Pz aj, am, .map (some aa)] 211)) {r : ((List Int) × (Int -> Option Bool))} (hM : (zbC ac s_enters ae ag ah).Ends r) (w : World) (H : St w w [cMap I B aa ae] R) : Ret Try.prog 150 #[Pz ai, I ag, I ah] w fun v w' => ∃ (y0 : List Int) (y1 : Int -> Option Bool) (u0 : Value), (y0, y1) = r /\ v = u0 /\ St w w' [cOwn (α := Int) 3 u0 y0, cMap I B aa y1] R /\ (y0 = [] -> u0 = .slice none 0 0) := by
  obtain ⟨n_, hM⟩ := M.e_fix hM
  exact zdH n_ ac s_enters ae ag ah ao ap aq au av hM w H

def zb7 (aa : List Work) (s_enters : Int -> M Bool) (ah : Int -> Option Bool) (ac : Int) (ae : Int) : M ((List Int) × (Int -> Option Bool)) :=
  M.bind (zbC aa s_enters (fun _ => none) ac ae) fun (r2, ag) =>
  M.pure (r2, ag)
theorem zdm {R : List Chunk} {aa : Nat} {ak : Nat} {al : Cells} {am : Value} {ao : Value} {ac : Nat} (ah : List Work) (s_enters : Int -> M Bool) (ai : Int -> Option Bool) (ae : Int) (ag : Int) (av : Reads R al) (aw : Sl al am ah) (ax : Has R (cBlk ak [am] 187)) (ay : FnM Try.prog R ao s_enters) (ap : Has R (cBlk aa [Pz ak, ao, .map (some ac)] 211)) {r : ((List Int) × (Int -> Option Bool))} (hM : (zb7 ah s_enters ai ae ag).Ends r) (w : World) (H : St w w [cMap I B ac ai] R) : Ret Try.prog 110 #[Pz aa, I ae, I ag] w fun v w' => ∃ (y0 : List Int) (y1 : Int -> Option Bool) (u0 : Value), (y0, y1) = r /\ v = u0 /\ St w w' [cOwn (α := Int) 3 u0 y0, cMap I B ac y1] R /\ (y0 = [] -> u0 = .slice none 0 0) := by
 refine ret_of_W Try.func110 rfl rfl rfl ?_
 refine sQ rfl <| sA (.slice none 0 0) rfl <| s_nil <| sQ rfl <| sM (Pz aa) rfl <| s_val (x_nc (a := ⟨aa, 0, none⟩) rfl) <| s_val (x_fa (v := Oz aa 2) rfl (fa_blk (o := 0) Fd211_2 Sz178)) <| s_val (x_ld (v := .map (some ac)) rfl (ldb_sc Sc178 (ap.blk H) rfl)) ?_
 refine t_clearm (i := 0) (kenc := I) (venc := B) (f := ai) (L' := [cMap I B ac (fun _ => none)]) (by rw [show (#[178] : Array TypeId)[0]?.bind Try.prog.underlying = Try.prog.underlying 178 from rfl, Try.underlying178]; rfl) H rfl rfl rfl ?_
 intro aE H
 refine s_nil <| sQ rfl <| sM (Pz aa) rfl <| sM (I ae) rfl <| sM (I ag) rfl ?_
 obtain ⟨aF, az, hM⟩ := M.e_bind hM
 refine s_call cf150 [Pz aa, I ae, I ag] rfl (zc7 ah s_enters (fun _ => none) ae ag (av.app _) aw (ax.app _) (ay.app _) (ap.app _) az _ (St.give (T := []) H rfl)) ?_
 rintro vq aA ⟨r2, aq, aj, aB, hvq, au, aC⟩
 subst aB
 subst vq
 try dsimp only at hM
 replace H : St w aA [cOwn (α := Int) 3 aj r2, cMap I B ac aq] R := H.back au rfl
 clear au
 refine sA aj rfl <| s_nil ?_
 refine W.ret ?_
 have aD := M.e_pure hM
 exact ⟨_, resE_tmp rfl, ⟨r2, aq, aj, aD, rfl, H, aC⟩⟩

end Go.Proofs.Ytndobgodeicloaa
end
namespace Go.Nm
variable {ws : List Work}
/-- Was a work met? -/
def mt (m : Int -> Option Bool) (x : Int) : Prop := (m x).getD false = true
theorem mt_upd (m : Int -> Option Bool) (x y : Int) : mt (updF m x true) y ↔ y = x ∨ mt m y := by
  unfold mt updF
  by_cases e : y = x
  · rw [if_pos e]; exact ⟨fun _ => .inl e, fun _ => rfl⟩
  · rw [if_neg e]; exact ⟨fun h => .inr h, fun h => h.elim (fun h => absurd h e) id⟩
/-- Is a work made of another one? -/
def Succ (ws : List Work) (x y : Int) : Prop := 0 <= y /\ y < (ws.length : Int) /\ x ∈ (ws.getD y.toNat default).of
/-- What a search that finds nothing leaves. -/
structure Srch (ws : List Work) (m m' : Int -> Option Bool) (to_ : Int) : Prop where
  up : ∀ x, mt m x -> mt m' x
  cl : ∀ x, mt m' x -> mt m x ∨ ∀ y, Succ ws x y -> mt m' y
  no : ¬ mt m to_ -> ¬ mt m' to_
theorem Srch.refl (m : Int -> Option Bool) (to_ : Int) : Srch ws m m to_ := ⟨fun _ h => h, fun _ h => .inl h, fun h => h⟩
theorem Srch.trans {a b c : Int -> Option Bool} {to_ : Int} (h : Srch ws a b to_) (k : Srch ws b c to_) : Srch ws a c to_ :=
  ⟨fun x hx => k.up x (h.up x hx), fun x hx => by
    rcases k.cl x hx with h1 | h1
    · rcases h.cl x h1 with h2 | h2
      · exact .inl h2
      · exact .inr fun y hy => k.up y (h2 y hy)
    · exact .inr h1, fun hn => k.no (h.no hn)⟩
/-- A line from one work to another one. -/
structure LineOk (ws : List Work) (a b : Int) (l : List Int) : Prop where
  line : lineB ws l = true
  rng : ∀ x ∈ l, 0 <= x /\ x < (ws.length : Int)
  first : ∃ r, l = a :: r
  last : ∃ r, l = r ++ [b]
  len : (l.length : Int) <= ws.length - a
theorem LineOk.one {a : Int} (h0 : 0 <= a) (h1 : a < ws.length) : LineOk ws a a [a] := ⟨rfl, fun x hx => by rw [List.mem_singleton.1 hx]; exact ⟨h0, h1⟩, ⟨[], rfl⟩, ⟨[], rfl⟩, by simp; omega⟩
theorem LineOk.cons {a x b : Int} {l : List Int} (h0 : 0 <= a) (hs : Succ ws a x) (hx : a < x) (h : LineOk ws x b l) : LineOk ws a b ([a] ++ l) := by
  obtain ⟨r, hr⟩ := h.first
  obtain ⟨q, hq⟩ := h.last
  refine ⟨?_, fun y hy => ?_, ⟨l, rfl⟩, ⟨a :: q, by rw [hq]; rfl⟩, ?_⟩
  · have := h.line
    rw [hr] at this ⊢
    show ((ws.getD x.toNat default).of.contains a && lineB ws (x :: r)) = true
    rw [this, Bool.and_true, List.contains_iff_mem]
    exact hs.2.2
  · rcases List.mem_append.1 hy with hy | hy
    · rw [List.mem_singleton.1 hy]; exact ⟨h0, by have := hs.2.1; omega⟩
    · exact h.rng y hy
  · have := h.len
    simp only [List.length_append, List.length_cons, List.length_nil]
    omega
end Go.Nm
namespace Go.Proofs.Ytndobgodeicloaa
open Go Go.Nm
variable {ws : List Work}
theorem made_out' {T : Type} {y : T -> Int -> M (Bool × T)} {x : Int} (J : Nat -> T -> Prop) (Q : T -> Prop)
    (step : ∀ i t, i < ws.length -> J i t -> x ∈ (ws.getD i default).of -> (y t (i : Int)).Out (fun r => (r.1 = true /\ J (i + 1) r.2) ∨ (r.1 = false /\ Q r.2)))
    (skip : ∀ i t, i < ws.length -> J i t -> x ∉ (ws.getD i default).of -> J (i + 1) t) {t0 : T} (h0 : J 0 t0) : (zaj y t0 ws x).Out (fun t => J ws.length t ∨ Q t) := by
  unfold zaj
  refine M.o_bind (P := fun r => match r with | .inl t => Q t | .inr t => J ws.length t) ?_ ?_
  · refine M.o_for ws.length (fun i s => s.1 = i /\ J i s.2) ?_ ?_ (s := (0, t0)) ⟨rfl, h0⟩
    · rintro i ⟨j, t⟩ hi ⟨rfl, hj⟩
      dsimp only at hi hj ⊢
      simp only [zaH]
      have ho := webOf_ends (ws := ws) (i := (j : Int)) (by omega) (by omega) x
      rw [Int.toNat_natCast] at ho
      refine M.o_t (by simpa using hi) (M.o_bindE ho ?_)
      cases hc : (ws.getD j default).of.contains x with
      | true =>
        rw [List.contains_iff_mem] at hc
        refine M.o_t rfl (M.o_bind (step j t hi hj hc) ?_)
        rintro ⟨go, t'⟩ hr
        dsimp only at hr ⊢
        rcases hr with ⟨rfl, hr⟩ | ⟨rfl, hr⟩
        · exact M.o_f rfl (M.o_pure ⟨rfl, hr⟩)
        · exact M.o_t rfl (M.o_pure hr)
      | false =>
        have hn : x ∉ (ws.getD j default).of := fun h => by rw [← List.contains_iff_mem] at h; rw [h] at hc; cases hc
        exact M.o_f rfl (M.o_pure ⟨rfl, skip j t hi hj hn⟩)
    · rintro ⟨j, t⟩ ⟨rfl, hj⟩
      dsimp only at hj ⊢
      simp only [zaH]
      exact M.o_f (by simp) (M.o_pure hj)
  · rintro (t | t) h
    · exact M.o_pure (.inr h)
    · exact M.o_pure (.inl h)
end Go.Proofs.Ytndobgodeicloaa
namespace Go.Nm
theorem sumN_lt {f g : Nat -> Int} {n : Nat} (h : ∀ i, i < n -> f i <= g i) {k : Nat} (hk : k < n) (hlt : f k < g k) : sumN f n < sumN g n := by
  have := sumN_ge (f := fun i => g i - f i) (fun i hi => by have := h i hi; omega) k hk
  rw [sumN_sub] at this
  omega
/-- The room between two sides. -/
def roomN (mp : Gate -> Option Int) (u v : Nat) : Int := (mp ⟨(u : Int), (v : Int)⟩).getD 0
theorem updG {mp : Gate -> Option Int} {a s : Nat} {z : Int} (u v : Nat) : roomN (updF mp ⟨(a : Int), (s : Int)⟩ z) u v = if u = a /\ v = s then z else roomN mp u v := by
  unfold roomN updF
  by_cases e : u = a /\ v = s
  · rw [if_pos e, e.1, e.2, if_pos rfl]; rfl
  · rw [if_neg e, if_neg]
    intro h
    have h1 := congrArg Gate.src h
    have h2 := congrArg Gate.dst h
    dsimp only at h1 h2
    exact e ⟨by omega, by omega⟩
theorem room_step (q : Gate -> Option Int) {a s : Nat} (hne : a ≠ s) (u v : Nat) :
    roomN (updF (updF q ⟨(a : Int), (s : Int)⟩ ((q ⟨(a : Int), (s : Int)⟩).getD 0 - 1)) ⟨(s : Int), (a : Int)⟩ (((updF q ⟨(a : Int), (s : Int)⟩ ((q ⟨(a : Int), (s : Int)⟩).getD 0 - 1)) ⟨(s : Int), (a : Int)⟩).getD 0 + 1)) u v
      = roomN q u v - (if u = a /\ v = s then 1 else 0) + (if v = a /\ u = s then 1 else 0) := by
  have h1 : ((updF q ⟨(a : Int), (s : Int)⟩ ((q ⟨(a : Int), (s : Int)⟩).getD 0 - 1)) ⟨(s : Int), (a : Int)⟩).getD 0 = roomN q s a := by
    have := updG (mp := q) (a := a) (s := s) (z := (q ⟨(a : Int), (s : Int)⟩).getD 0 - 1) s a
    rw [if_neg (fun h => hne h.1.symm)] at this
    exact this
  rw [h1, updG, updG]
  by_cases e1 : u = s /\ v = a
  · rw [if_pos e1, e1.1, e1.2, if_neg (fun h => hne h.1.symm), if_pos ⟨rfl, rfl⟩]; omega
  · rw [if_neg e1, if_neg (c := v = a /\ u = s) (fun h => e1 ⟨h.2, h.1⟩)]
    by_cases e2 : u = a /\ v = s
    · rw [if_pos e2, if_pos e2, e2.1, e2.2]; unfold roomN; omega
    · rw [if_neg e2, if_neg e2]; omega
/-- How many were not met. -/
def unmet (N : Nat) (m : Int -> Option Bool) : Int := sumN (fun x => if (m (x : Int)).getD false then 0 else 1) N
theorem unmet_nn (N : Nat) (m : Int -> Option Bool) : 0 <= unmet N m := sumN_nn fun i _ => by split <;> omega
theorem unmet_le {N : Nat} {m m' : Int -> Option Bool} (h : ∀ x : Nat, mt m x -> mt m' x) : unmet N m' <= unmet N m := by
  refine sumN_le fun i _ => ?_
  have := h i
  unfold Nm.mt at this
  by_cases e : (m (i : Int)).getD false = true
  · rw [if_pos e, if_pos (this e)]; omega
  · rw [if_neg e]; split <;> omega
theorem unmet_lt {N : Nat} {m m' : Int -> Option Bool} (h : ∀ x : Nat, mt m x -> mt m' x) {s : Nat} (hs : s < N) (h1 : ¬ mt m s) (h2 : mt m' s) : unmet N m' < unmet N m := by
  refine sumN_lt (fun i _ => ?_) hs ?_
  · have := h i
    unfold Nm.mt at this
    by_cases e : (m (i : Int)).getD false = true
    · rw [if_pos e, if_pos (this e)]; omega
    · rw [if_neg e]; split <;> omega
  · unfold Nm.mt at h1 h2
    rw [if_neg h1, if_pos h2]; omega
/-- What a search that does not come to the end leaves. -/
structure GoNo (N t : Nat) (c : Nat -> Nat -> Int) (m m' : Int -> Option Bool) (a : Nat) : Prop where
  up : ∀ x : Nat, mt m x -> mt m' x
  at_ : mt m' a
  acl : ∀ y, y < N -> 0 < c a y -> mt m' y
  cl : ∀ x : Nat, mt m' x -> mt m x ∨ ∀ y, y < N -> 0 < c x y -> mt m' y
  no : ¬ mt m' t
/-- A path to the end along which there was room, by works not met. -/
structure GoYes (N t : Nat) (c c' : Nat -> Nat -> Int) (m : Int -> Option Bool) (a : Nat) (l : List Nat) : Prop where
  pa : Pa c (a :: l)
  once : (a :: l).Nodup
  new : ∀ x ∈ l, ¬ mt m x
  rng : ∀ x ∈ a :: l, x < N
  last : lst a l = t
  room : ∀ u v, c' u v = pushP c (a :: l) u v
def GoQ (N t : Nat) (mp : Gate -> Option Int) (m : Int -> Option Bool) (a : Nat) (r : Bool × (Gate -> Option Int) × (Int -> Option Bool)) : Prop :=
  (r.1 = false /\ r.2.1 = mp /\ a ≠ t /\ GoNo N t (roomN mp) m r.2.2 a) ∨ (r.1 = true /\ ∃ l, GoYes N t (roomN mp) (roomN r.2.1) m a l)
end Go.Nm
namespace Go.Proofs.Ytndobgodeicloaa
open Go Go.Nm
variable {ws : List Work} {rev : List Int}
theorem goes_out {t : Nat} (ht : t < ws.length) (hl : ws.length <= 1000) : ∀ (d : Nat) (a : Nat) (mp : Gate -> Option Int) (m : Int -> Option Bool), (∀ u v, 0 <= roomN mp u v /\ roomN mp u v <= 1000) -> a < 2 * ws.length -> ¬ mt m ((2 * t : Nat) : Int) -> unmet (2 * ws.length) (updF m (a : Int) true) < d →
    (zbG ws rev (t : Int) mp m (a : Int)).Out (GoQ (2 * ws.length) (2 * t) mp m a) := by
  intro d
  induction d with
  | zero => intro a mp m _ _ _ h; have := unmet_nn (2 * ws.length) (updF m (a : Int) true); omega
  | succ d ih =>
    intro a mp m hb ha hm hd
    suffices h : (zai (M.fix zai zcv) (ws, rev, (t : Int), mp, m, (a : Int))).Out (GoQ (2 * ws.length) (2 * t) mp m a) by
      obtain ⟨r, h2, h3⟩ := h
      exact ⟨r, M.i_fix h2, h3⟩
    simp only [zai]
    refine M.o_grd (gA2 (by omega) (by omega)) (M.o_if (fun hq => ?_) (fun hq => ?_))
    · have e : a = 2 * t := by simp only [beq_iff_eq] at hq; omega
      refine M.o_pure (.inr ⟨rfl, [], ⟨trivial, by simp, by simp, by simpa using ha, e, fun u v => by simp [pushP, eP]⟩⟩)
    · have hne : a ≠ 2 * t := by simp only [beq_eq_false_iff_ne, ne_eq] at hq; omega
      refine M.o_grd (gA2 (by omega) (by omega)) (M.o_bind (P := fun r => match r with
        | .inl (c', _) => ∃ l, GoYes (2 * ws.length) (2 * t) (roomN mp) (roomN c') m a l
        | .inr (c', m') => c' = mp /\ GoNo (2 * ws.length) (2 * t) (roomN mp) m m' a) ?_ ?_)
      · refine M.o_for (2 * ws.length) (fun i st => st.2.2 = i /\ st.1 = mp /\ (∀ x : Nat, mt (updF m (a : Int) true) x -> mt st.2.1 x) /\ (∀ x : Nat, mt st.2.1 x -> mt (updF m (a : Int) true) x ∨ ∀ y, y < 2 * ws.length -> 0 < roomN mp x y -> mt st.2.1 y) /\ ¬ mt st.2.1 ((2 * t : Nat) : Int) /\ ∀ y, y < i -> 0 < roomN mp a y -> mt st.2.1 y) ?_ ?_
          (s := (mp, updF m (a : Int) true, 0)) ⟨rfl, rfl, fun _ h => h, fun _ h => .inl h, fun h => ?_, fun y hy => by omega⟩
        · rintro i ⟨c, m2, s⟩ hi ⟨rfl, rfl, hup, hcl, hno, hdone⟩
          dsimp only at hi hup hcl hno hdone ⊢
          simp only [zar]
          refine M.o_t (by simp only [decide_eq_true_eq]; omega) ?_
          have next : ∀ m3 : Int -> Option Bool, (∀ x : Nat, mt m2 x -> mt m3 x) -> (∀ x : Nat, mt m3 x -> mt m2 x ∨ ∀ y, y < 2 * ws.length -> 0 < roomN c x y -> mt m3 y) -> ¬ mt m3 ((2 * t : Nat) : Int) -> (0 < roomN c a s -> mt m3 s) →
              (s + 1 = s + 1 /\ c = c /\ (∀ x : Nat, mt (updF m (a : Int) true) x -> mt m3 x) /\ (∀ x : Nat, mt m3 x -> mt (updF m (a : Int) true) x ∨ ∀ y, y < 2 * ws.length -> 0 < roomN c x y -> mt m3 y) /\ ¬ mt m3 ((2 * t : Nat) : Int) /\ ∀ y, y < s + 1 -> 0 < roomN c a y -> mt m3 y) := by
            intro m3 h1 h2 h3 h4
            refine ⟨rfl, rfl, fun x hx => h1 x (hup x hx), fun x hx => ?_, h3, fun y hy hr => ?_⟩
            · rcases h2 x hx with h5 | h5
              · rcases hcl x h5 with h6 | h6
                · exact .inl h6
                · exact .inr fun y hy hr => h1 y (h6 y hy hr)
              · exact .inr h5
            · by_cases e : y = s
              · subst e; exact h4 hr
              · exact h1 y (hdone y (by omega) hr)
          cases hc : ((decide (0 < ((c (⟨(a : Int), (s : Int)⟩ : Gate)).getD 0))) && (!((m2 (s : Int)).getD false))) with
          | false =>
            refine M.o_f rfl (M.o_grd (gA2 (by omega) (by omega)) (M.o_pure (next m2 (fun _ h => h) (fun _ h => .inl h) hno (fun hr => ?_))))
            rw [decide_eq_true (show 0 < ((c (⟨(a : Int), (s : Int)⟩ : Gate)).getD 0) from hr), Bool.true_and] at hc
            unfold Nm.mt
            simpa using hc
          | true =>
            simp only [Bool.and_eq_true, decide_eq_true_eq, Bool.not_eq_true'] at hc
            obtain ⟨hr, hns⟩ := hc
            have hns' : ¬ mt m2 (s : Int) := by unfold Nm.mt; rw [hns]; simp
            have hma : mt m2 (a : Int) := hup a ((mt_upd m a a).2 (.inl rfl))
            have has : a ≠ s := fun e => hns' (e ▸ hma)
            refine M.o_t rfl (M.o_bind (ih s c m2 hb hi hno ?_) ?_)
            · have h1 := unmet_lt (N := 2 * ws.length) (m := m2) (m' := updF m2 (s : Int) true) (fun x hx => (mt_upd m2 _ _).2 (.inr hx)) hi hns' ((mt_upd m2 _ _).2 (.inl rfl))
              have h2 := unmet_le (N := 2 * ws.length) hup
              omega
            · rintro ⟨b, q, m7⟩ (⟨rfl, rfl, hst, hG⟩ | ⟨rfl, l, hG⟩)
              · dsimp only at hG ⊢
                refine M.o_f rfl (M.o_grd (gA2 (by omega) (by omega)) (M.o_pure (next m7 hG.up hG.cl hG.no (fun _ => hG.at_))))
              · dsimp only at hG ⊢
                have ha' : a ∉ s :: l := fun h => by
                  rcases List.mem_cons.1 h with h | h
                  · exact has h
                  · exact hG.new a h hma
                have r1 := hG.room a s
                have r2 := hG.room s a
                unfold pushP at r1 r2
                rw [eP_no (.inl ha'), eP_no (.inr ha')] at r1
                rw [eP_no (.inr ha'), eP_no (.inl ha')] at r2
                have b1 : 0 <= roomN c a s /\ roomN c a s <= 1000 := hb a s
                have b2 : 0 <= roomN c s a /\ roomN c s a <= 1000 := hb s a
                have e2 : ((updF q ⟨(a : Int), (s : Int)⟩ ((q ⟨(a : Int), (s : Int)⟩).getD 0 - 1)) ⟨(s : Int), (a : Int)⟩).getD 0 = roomN q s a := by
                  have := updG (mp := q) (a := a) (s := s) (z := (q ⟨(a : Int), (s : Int)⟩).getD 0 - 1) s a
                  rw [if_neg (fun h => has h.1.symm)] at this
                  exact this
                have e1 : (q ⟨(a : Int), (s : Int)⟩).getD 0 = roomN q a s := rfl
                refine M.o_t rfl (M.o_grd (gA2 (by rw [e1]; omega) (by rw [e1]; omega)) (M.o_grd (gA2 (by rw [e2]; omega) (by rw [e2]; omega)) (M.o_pure ⟨s :: l, ?_⟩)))
                refine ⟨⟨hr, hG.pa⟩, List.nodup_cons.2 ⟨ha', hG.once⟩, fun x hx hmx => ?_, fun x hx => ?_, hG.last, fun u v => ?_⟩
                · have hx2 : ¬ mt m2 (x : Int) := by
                    rcases List.mem_cons.1 hx with rfl | hx
                    · exact hns'
                    · exact hG.new x hx
                  exact hx2 (hup x ((mt_upd m a x).2 (.inr hmx)))
                · rcases List.mem_cons.1 hx with rfl | hx
                  · exact ha
                  · exact hG.rng x hx
                · rw [room_step q has u v, hG.room u v]
                  simp only [pushP, eP]
                  omega
        · rintro ⟨c, m2, s⟩ ⟨rfl, rfl, hup, hcl, hno, hdone⟩
          dsimp only at hup hcl hno hdone ⊢
          simp only [zar]
          refine M.o_f (by simp only [decide_eq_false_iff_not]; omega) (M.o_pure ⟨rfl, fun x hx => hup x ((mt_upd m a x).2 (.inr hx)), hup a ((mt_upd m a a).2 (.inl rfl)), hdone, fun x hx => ?_, hno⟩)
          rcases hcl x hx with h | h
          · rcases (mt_upd m a x).1 h with h | h
            · obtain rfl : x = a := by omega
              exact .inr hdone
            · exact .inl h
          · exact .inr h
        · rcases (mt_upd m a _).1 h with h | h
          · omega
          · exact hm h
      · rintro (⟨c', m'⟩ | ⟨c', m'⟩) h
        · obtain ⟨l, h⟩ := h
          exact M.o_pure (.inr ⟨rfl, l, h⟩)
        · obtain ⟨rfl, h⟩ := h
          exact M.o_pure (.inl ⟨rfl, rfl, hne, h⟩)
end Go.Proofs.Ytndobgodeicloaa
namespace Go.Nm
variable {ws : List Work} {rev : List Int} {t : Nat}
theorem ite_le1 (b : Bool) : (if b = true then (1 : Int) else 0) <= 1 := by split <;> omega
/-- Can a work be frozen? -/
def innB (rev : List Int) (t i : Int) : Bool := (i != t) && (!(rev.contains i))
theorem innB_iff {t i : Int} : innB rev t i = true ↔ i ≠ t /\ i ∉ rev := by
  unfold innB
  simp
/-- A gate through a work. -/
def gateP (rev : List Int) (t n u v : Nat) : Prop := u % 2 = 0 /\ v = u + 1 /\ u / 2 < n /\ innB rev t ((u / 2 : Nat) : Int) = true
/-- A gate from a work to one that is made of it. -/
def bigP (ws : List Work) (rev : List Int) (t n u v : Nat) : Prop := u % 2 = 1 /\ v % 2 = 0 /\ v / 2 < n /\ ((u / 2 : Nat) : Int) ∈ (ws.getD (v / 2) default).of /\ u / 2 ≠ t /\ (v / 2 = t ∨ innB rev t ((v / 2 : Nat) : Int) = true)
instance {n u v : Nat} : Decidable (gateP rev t n u v) := by unfold gateP; infer_instance
instance {n u v : Nat} : Decidable (bigP ws rev t n u v) := by unfold bigP; infer_instance
/-- The room at first. -/
def C0 (ws : List Work) (rev : List Int) (t n u v : Nat) : Int := if gateP rev t n u v then 1 else if bigP ws rev t n u v then 30 else 0
theorem C0_nn (n u v : Nat) : 0 <= C0 ws rev t n u v /\ C0 ws rev t n u v <= 30 := by unfold C0; split <;> (try split) <;> omega
theorem C0_zero (u v : Nat) : C0 ws rev t 0 u v = 0 := by
  unfold C0
  rw [if_neg (fun h => by have := h.2.2.1; omega), if_neg (fun h => by have := h.2.2.1; omega)]
theorem C0_gate {n u v : Nat} (h : gateP rev t n u v) : C0 ws rev t n u v = 1 := by unfold C0; rw [if_pos h]
theorem C0_big {n u v : Nat} (h : bigP ws rev t n u v) : C0 ws rev t n u v = 30 := by unfold C0; rw [if_neg (fun h' => by have := h.1; have := h'.1; omega), if_pos h]
theorem C0_no {n u v : Nat} (h : ¬ gateP rev t n u v) (h' : ¬ bigP ws rev t n u v) : C0 ws rev t n u v = 0 := by unfold C0; rw [if_neg h, if_neg h']
/-- A gate to one work. -/
def bigI (rev : List Int) (t i : Nat) (l : List Int) (u v : Nat) : Prop := u % 2 = 1 /\ v = 2 * i /\ ((u / 2 : Nat) : Int) ∈ l /\ u / 2 ≠ t /\ (i = t ∨ innB rev t (i : Int) = true)
instance {i u v : Nat} {l : List Int} : Decidable (bigI rev t i l u v) := by unfold bigI; infer_instance
theorem C0_next (i u v : Nat) : C0 ws rev t (i + 1) u v = if bigI rev t i (ws.getD i default).of u v then 30 else if u = 2 * i /\ v = 2 * i + 1 /\ innB rev t (i : Int) = true then 1 else C0 ws rev t i u v := by
  by_cases h1 : bigI rev t i (ws.getD i default).of u v
  · rw [if_pos h1]
    obtain ⟨a, rfl, c, d, e⟩ := h1
    exact C0_big ⟨a, by omega, by omega, by rw [show 2 * i / 2 = i from by omega]; exact c, d, by rw [show 2 * i / 2 = i from by omega]; exact e⟩
  · rw [if_neg h1]
    by_cases h2 : u = 2 * i /\ v = 2 * i + 1 /\ innB rev t (i : Int) = true
    · rw [if_pos h2]
      obtain ⟨rfl, rfl, e⟩ := h2
      exact C0_gate ⟨by omega, rfl, by omega, by rw [show 2 * i / 2 = i from by omega]; exact e⟩
    · rw [if_neg h2]
      by_cases h3 : gateP rev t i u v
      · rw [C0_gate h3]
        exact C0_gate ⟨h3.1, h3.2.1, by have := h3.2.2.1; omega, h3.2.2.2⟩
      · by_cases h4 : bigP ws rev t i u v
        · rw [C0_big h4]
          exact C0_big ⟨h4.1, h4.2.1, by have := h4.2.2.1; omega, h4.2.2.2⟩
        · rw [C0_no h3 h4]
          refine C0_no (fun h => ?_) (fun h => ?_)
          · by_cases e : u / 2 = i
            · exact h2 ⟨by have := h.1; omega, by have := h.1; have := h.2.1; omega, by rw [← e]; exact h.2.2.2⟩
            · exact h3 ⟨h.1, h.2.1, by have := h.2.2.1; omega, h.2.2.2⟩
          · by_cases e : v / 2 = i
            · exact h1 ⟨h.1, by have := h.2.1; omega, by rw [← e]; exact h.2.2.2.1, h.2.2.2.2.1, by rw [← e]; exact h.2.2.2.2.2⟩
            · exact h4 ⟨h.1, h.2.1, by have := h.2.2.1; omega, h.2.2.2⟩
/-- Where lines begin. -/
def srcB (rev : List Int) (v : Nat) : Bool := decide (v % 2 = 1) && rev.contains ((v / 2 : Nat) : Int)
theorem srcB_iff {v : Nat} : srcB rev v = true ↔ v % 2 = 1 /\ ((v / 2 : Nat) : Int) ∈ rev := by
  unfold srcB
  simp
/-- Lanes. -/
abbrev Lanes (ws : List Work) (rev : List Int) (t : Nat) (c : Nat -> Nat -> Int) : Prop := Flow (2 * ws.length) (2 * t) (srcB rev) (C0 ws rev t ws.length) c
abbrev vaL (ws : List Work) (rev : List Int) (t : Nat) (c : Nat -> Nat -> Int) : Int := flowV (2 * ws.length) (2 * t) (C0 ws rev t ws.length) c
/-- What cannot be left. -/
def ShutN (N : Nat) (c : Nat -> Nat -> Int) (S : Nat -> Bool) : Prop := ∀ u v, u < N -> v < N -> S u = true -> 0 < c u v -> S v = true
variable {c : Nat -> Nat -> Int}
theorem Lanes.bd (h : Lanes ws rev t c) (u v : Nat) : 0 <= c u v /\ c u v <= 1000 := by
  have h1 := h.nn u v
  have h2 := h.nn v u
  have h3 := h.skew u v
  have h4 := C0_nn (ws := ws) (rev := rev) (t := t) ws.length u v
  have h5 := C0_nn (ws := ws) (rev := rev) (t := t) ws.length v u
  omega
/-- What is asked of lanes: no work is made of a revised one directly. -/
structure LnHyp (ws : List Work) (rev : List Int) (t : Nat) : Prop where
  opn : openedE ws = 0
  tl : t < ws.length
  rng : ∀ r ∈ rev, 0 <= r /\ r < (ws.length : Int)
  nt : (t : Int) ∉ rev
  dir : ∀ r ∈ rev, r ∉ (ws.getD t default).of
/-- No more lines go than there are works that can be frozen. -/
theorem Lanes.most (H : LnHyp ws rev t) (h : Lanes ws rev t c) : vaL ws rev t c < ws.length := by
  have hl := right_len (opened_right H.opn)
  have key := h.le (S := fun u => if u % 2 = 0 then innB rev t ((u / 2 : Nat) : Int) else rev.contains ((u / 2 : Nat) : Int)) (by have := H.tl; omega)
    (by rw [if_pos (by omega), show 2 * t / 2 = t from by omega]; unfold innB; simp)
    (fun v _ hs => by
      have := srcB_iff.1 hs
      rw [if_neg (by omega), List.contains_iff_mem]
      exact this.2)
  refine Int.lt_of_le_of_lt key ?_
  rw [sumN_two]
  have step : ∀ i, i < ws.length -> (sumN (fun v => if (if (2 * i) % 2 = 0 then innB rev t ((2 * i / 2 : Nat) : Int) else rev.contains ((2 * i / 2 : Nat) : Int)) && !(if v % 2 = 0 then innB rev t ((v / 2 : Nat) : Int) else rev.contains ((v / 2 : Nat) : Int)) then C0 ws rev t ws.length (2 * i) v else 0) (2 * ws.length)
      + sumN (fun v => if (if (2 * i + 1) % 2 = 0 then innB rev t (((2 * i + 1) / 2 : Nat) : Int) else rev.contains (((2 * i + 1) / 2 : Nat) : Int)) && !(if v % 2 = 0 then innB rev t ((v / 2 : Nat) : Int) else rev.contains ((v / 2 : Nat) : Int)) then C0 ws rev t ws.length (2 * i + 1) v else 0) (2 * ws.length))
      <= if i = t then 0 else 1 := by
    intro i hi
    have e2 : sumN (fun v => if (if (2 * i + 1) % 2 = 0 then innB rev t (((2 * i + 1) / 2 : Nat) : Int) else rev.contains (((2 * i + 1) / 2 : Nat) : Int)) && !(if v % 2 = 0 then innB rev t ((v / 2 : Nat) : Int) else rev.contains ((v / 2 : Nat) : Int)) then C0 ws rev t ws.length (2 * i + 1) v else 0) (2 * ws.length) = 0 := by
      refine sumN_zero' fun v _ => ?_
      rw [if_neg (show ¬ (2 * i + 1) % 2 = 0 from by omega), show (2 * i + 1) / 2 = i from by omega]
      cases hr : rev.contains (i : Int) with
      | false => rfl
      | true =>
        rw [List.contains_iff_mem] at hr
        by_cases hb : bigP ws rev t ws.length (2 * i + 1) v
        · have h1 := hb.2.2.2.1
          rw [show (2 * i + 1) / 2 = i from by omega] at h1
          rcases hb.2.2.2.2.2 with e | e
          · rw [e] at h1
            exact absurd h1 (H.dir _ hr)
          · rw [if_pos hb.2.1, e]; rfl
        · rw [C0_no (fun h => by have := h.1; omega) hb]
          exact ite_self _
    rw [e2, Int.add_zero, sumN_one (k := 2 * i + 1) (fun v _ hne => ?_)]
    · rw [if_pos (show 2 * i + 1 < 2 * ws.length from by omega), if_pos (show (2 * i) % 2 = 0 from by omega), show 2 * i / 2 = i from by omega]
      by_cases e : i = t
      · subst e
        rw [if_pos rfl]
        have : innB rev (i : Int) (i : Int) = false := by unfold innB; simp
        rw [this]
        simp
      · rw [if_neg e]
        have := C0_nn (ws := ws) (rev := rev) (t := t) ws.length (2 * i) (2 * i + 1)
        by_cases hg : gateP rev t ws.length (2 * i) (2 * i + 1)
        · rw [C0_gate hg]
          exact ite_le1 _
        · rw [C0_no hg (fun h => by have := h.1; omega), ite_self]
          omega
    · rw [C0_no (fun h => hne h.2.1) (fun h => by have := h.1; omega)]
      exact ite_self _
  have h1 := sumN_le step
  have h2 : sumN (fun i => (1 : Int) - if i = t then 0 else 1) ws.length = 1 := by
    rw [sumN_one (k := t) (fun i _ hne => by rw [if_neg hne]; rfl), if_pos H.tl, if_pos rfl]
    rfl
  have h3 : sumN (fun _ => (1 : Int)) ws.length = ws.length := by
    have := sumN_count (fun _ => true) ws.length
    rw [List.filter_eq_self.2 (fun _ _ => rfl), List.length_range] at this
    simpa using this
  rw [sumN_sub, h3] at h2
  omega
/-- Lanes that are full. -/
structure FullL (ws : List Work) (rev : List Int) (t : Nat) (c : Nat -> Nat -> Int) : Prop where
  flow : Lanes ws rev t c
  shut : ∀ r ∈ rev, ∃ S, ShutN (2 * ws.length) c S /\ S (2 * t) = false /\ S (2 * r.toNat + 1) = true
end Go.Nm
namespace Go.Proofs.Ytndobgodeicloaa
open Go Go.Nm
variable {ws : List Work} {rev : List Int} {t : Nat}
theorem lanes_big (hR : rightE ws = 0) {i : Nat} (hi : i < ws.length) (ht : t < ws.length) (mp : Gate -> Option Int) :
    (M.iter (zax ws rev (t : Int) i) (mp, 0)).Out (fun mp' => ∀ u v, roomN mp' u v = if bigI rev t i (ws.getD i default).of u v then 30 else roomN mp u v) := by
  have hl := right_len hR
  refine M.o_for (ws.getD i default).of.length (fun j st => st.2 = j /\ ∀ u v, roomN st.1 u v = if bigI rev t i ((ws.getD i default).of.take j) u v then 30 else roomN mp u v) ?_ ?_ (s := (mp, 0)) ⟨rfl, fun u v => by rw [if_neg (fun h => by simpa using h.2.2.1)]⟩
  · rintro j ⟨m, s⟩ hj ⟨rfl, hc⟩
    dsimp only at hj hc ⊢
    have hk := right_of hR hi _ (getD_memN (ws.getD i default).of (by omega : (s : Int) < _) 0)
    have htk := take_succ_getD (ws.getD i default).of hj 0
    simp only [zax]
    generalize hke : (ws.getD i default).of.getD s 0 = k at *
    obtain ⟨kn, rfl⟩ := Int.eq_ofNat_of_zero_le hk.1
    have hop : (M.opt (((kn : Int) != (t : Int)) && !((i : Int) == (t : Int))) (zag ws rev (t : Int) m (fun _ => none) (i : Int)) false).Ends ((((kn : Int) != (t : Int)) && !((i : Int) == (t : Int))) && innB rev t (i : Int)) := by
      refine M.i_opt (fun h => ?_) (fun h => ?_)
      · rw [h, Bool.true_and]; exact M.i_pure
      · rw [h]; rfl
    refine M.o_t (by simpa using hj) (M.o_grdD (by omega) (M.o_bindE hop (M.o_if (fun hb => ?_) (fun hb => ?_))))
    · simp only [Bool.and_eq_true, Bool.or_eq_true, bne_iff_ne, ne_eq, beq_iff_eq, Bool.not_eq_true', beq_eq_false_iff_ne] at hb
      refine M.o_grd (gA2 (by omega) (by omega)) (M.o_grd (gA2 (by omega) (by omega)) (M.o_grd (gA2 (by omega) (by omega)) (M.o_pure ⟨rfl, fun u v => ?_⟩)))
      dsimp only
      have hg : (⟨(2 * (kn : Int)) + 1, 2 * (i : Int)⟩ : Gate) = ⟨((2 * kn + 1 : Nat) : Int), ((2 * i : Nat) : Int)⟩ := by
        congr 1
      rw [hg, updG, hc, htk]
      by_cases e : u = 2 * kn + 1 /\ v = 2 * i
      · rw [if_pos e, if_pos]
        obtain ⟨rfl, rfl⟩ := e
        refine ⟨by omega, rfl, by rw [show (2 * kn + 1) / 2 = kn from by omega]; simp, by omega, ?_⟩
        rcases hb.2 with h | h
        · exact .inl (by omega)
        · exact .inr h.2
      · rw [if_neg e]
        have : bigI rev t i ((ws.getD i default).of.take s ++ [(kn : Int)]) u v ↔ bigI rev t i ((ws.getD i default).of.take s) u v := by
          constructor
          · rintro ⟨a, b, h, d⟩
            refine ⟨a, b, ?_, d⟩
            rcases List.mem_append.1 h with h | h
            · exact h
            · rw [List.mem_singleton] at h
              exact absurd ⟨by omega, b⟩ e
          · rintro ⟨a, b, h, d⟩
            exact ⟨a, b, List.mem_append_left _ h, d⟩
        simp only [this]
    · refine M.o_pure ⟨rfl, fun u v => ?_⟩
      dsimp only
      rw [hc, htk]
      have : bigI rev t i ((ws.getD i default).of.take s ++ [(kn : Int)]) u v ↔ bigI rev t i ((ws.getD i default).of.take s) u v := by
        constructor
        · rintro ⟨a, b, h, d⟩
          refine ⟨a, b, ?_, d⟩
          rcases List.mem_append.1 h with h | h
          · exact h
          · rw [List.mem_singleton] at h
            exfalso
            have hkt : kn ≠ t := by have := d.1; omega
            rw [show ((kn : Int) != (t : Int)) = true from by simpa using fun h => hkt (by omega)] at hb
            rcases d.2 with h3 | h3
            · subst h3; simp at hb
            · have hit := (innB_iff.1 h3).1
              rw [h3, show ((i : Int) == (t : Int)) = false from by simpa using hit] at hb
              cases hb
        · rintro ⟨a, b, h, d⟩
          exact ⟨a, b, List.mem_append_left _ h, d⟩
      simp only [this]
  · rintro ⟨m, s⟩ ⟨rfl, hc⟩
    dsimp only at hc ⊢
    simp only [zax]
    rw [List.take_length] at hc
    exact M.o_f (by simp) (M.o_pure hc)
theorem lanes_start (hR : rightE ws = 0) (ht : t < ws.length) : (M.iter (zaK ws rev (t : Int)) ((fun _ => none), 0)).Out (fun mp => ∀ u v, roomN mp u v = C0 ws rev t ws.length u v) := by
  have hl := right_len hR
  refine M.o_for ws.length (fun i st => st.2 = i /\ ∀ u v, roomN st.1 u v = C0 ws rev t i u v) ?_ ?_ (s := ((fun _ => none), 0)) ⟨rfl, fun u v => by rw [C0_zero]; rfl⟩
  · rintro i ⟨m, s⟩ hi ⟨rfl, hc⟩
    dsimp only at hi hc ⊢
    simp only [zaK, zaW]
    have hin : (zag ws rev (t : Int) m (fun _ => none) (s : Int)).Ends (innB rev t (s : Int)) := M.i_pure
    refine M.o_t (by simpa using hi) (M.o_grdD (by omega) (M.o_bindE hin (M.o_if (fun hb => ?_) (fun hb => ?_))))
    · refine M.o_grd (gA2 (by omega) (by omega)) (M.o_grd (gA2 (by omega) (by omega)) (M.o_bind (lanes_big hR hi ht _) (fun m' hm => M.o_pure ⟨rfl, fun u v => ?_⟩)))
      dsimp only
      have hg : (⟨2 * (s : Int), (2 * (s : Int)) + 1⟩ : Gate) = ⟨((2 * s : Nat) : Int), ((2 * s + 1 : Nat) : Int)⟩ := by
        congr 1
      rw [hm, hg, updG, hc, C0_next, hb]
      simp only [and_true]
    · refine M.o_bind (show (M.iter (zax ws rev (t : Int) s) (m, 0)).Out _ from lanes_big hR hi ht m) (fun m' hm => M.o_pure ⟨rfl, fun u v => ?_⟩)
      dsimp only
      rw [hm, hc, C0_next, hb]
      simp only [Bool.false_eq_true, and_false, if_false]
  · rintro ⟨m, s⟩ ⟨rfl, hc⟩
    dsimp only at hc ⊢
    simp only [zaK, zaW]
    exact M.o_f (by simp) (M.o_pure hc)
theorem mt_none (x : Int) : ¬ mt (fun _ => none) x := by unfold Nm.mt; simp
/-- Lines go from one work until no more can. -/
theorem lanes_more (H : LnHyp ws rev t) {s : Nat} (hs : s < rev.length) {mp : Gate -> Option Int} (m0 : Int -> Option Bool) (K : (Nat -> Nat -> Int) -> Prop) (hF : Lanes ws rev t (roomN mp)) (hK : K (roomN mp))
    (hstep : ∀ c a l, Lanes ws rev t c -> K c -> Pa c (a :: l) -> (∀ x ∈ a :: l, x < 2 * ws.length) -> lst a l = 2 * t -> K (pushP c (a :: l))) :
    (M.iter (zbm ws rev (t : Int) s) (mp, m0)).Out (fun r => Lanes ws rev t (roomN r.1) /\ K (roomN r.1) /\ ∃ S, ShutN (2 * ws.length) (roomN r.1) S /\ S (2 * t) = false /\ S (2 * (rev.getD s 0).toNat + 1) = true) := by
  have hl := right_len (opened_right H.opn)
  have hrm := getD_memN rev (by omega : (s : Int) < _) 0
  have hr := H.rng _ hrm
  have ht := H.tl
  refine M.o_iter (fun (m : Nat) (st : (Gate -> Option Int) × (Int -> Option Bool)) => Lanes ws rev t (roomN st.1) /\ K (roomN st.1) /\ m = (ws.length - vaL ws rev t (roomN st.1)).toNat) ?_ _ (mp, m0) ⟨hF, hK, rfl⟩
  rintro m ⟨c, m1⟩ ⟨hF, hK, rfl⟩
  dsimp only at hF hK ⊢
  simp only [zbm]
  generalize rev.getD s 0 = q at *
  obtain ⟨rn, rfl⟩ := Int.eq_ofNat_of_zero_le hr.1
  have he : (2 * ((rn : Nat) : Int)) + 1 = ((2 * rn + 1 : Nat) : Int) := by omega
  rw [he]
  refine M.o_grd (gA2 (by omega) (by omega)) (M.o_grd (gA2 (by omega) (by omega)) (M.o_bind (goes_out ht (by omega) ((unmet (2 * ws.length) (updF (fun _ => none) ((2 * rn + 1 : Nat) : Int) true)).toNat + 1) (2 * rn + 1) c (fun _ => none) hF.bd (by omega) (mt_none _) (by omega)) ?_))
  rintro ⟨b, c', m'⟩ (⟨rfl, rfl, hne, hG⟩ | ⟨rfl, l, hG⟩)
  · dsimp only at hG ⊢
    refine M.o_t rfl (M.o_pure ⟨hF, hK, fun x => (m' (x : Int)).getD false, fun u v hu hv hu2 hc => ?_, ?_, ?_⟩)
    · rcases hG.cl u hu2 with h | h
      · exact absurd h (mt_none _)
      · exact h v hv hc
    · have := hG.no
      unfold Nm.mt at this
      simpa using this
    · rw [Int.toNat_natCast]
      exact hG.at_
  · dsimp only at hG ⊢
    have hsrc : srcB rev (2 * rn + 1) = true := srcB_iff.2 ⟨by omega, by rw [show (2 * rn + 1) / 2 = rn from by omega]; exact hrm⟩
    obtain ⟨h1, h2⟩ := Flow.push hF hG.pa hG.once hG.rng hG.last hsrc (by omega)
    have hroom : roomN c' = pushP (roomN c) ((2 * rn + 1) :: l) := funext fun u => funext fun v => hG.room u v
    have hm := Lanes.most H h1
    refine M.o_f rfl (M.o_pure ⟨(ws.length - vaL ws rev t (roomN c')).toNat, ?_, ?_, ?_, rfl⟩)
    · rw [hroom]
      unfold vaL at hm ⊢
      omega
    · dsimp only; rw [hroom]; exact h1
    · dsimp only; rw [hroom]; exact hstep _ _ _ hF hK hG.pa hG.rng hG.last
theorem lanes_out (H : LnHyp ws rev t) : (zbM ws rev (t : Int)).Out (fun r => r.1 = (t : Int) /\ FullL ws rev t (roomN r.2.1)) := by
  unfold zbM
  refine M.o_bind (lanes_start (opened_right H.opn) H.tl) (fun mp hmp => ?_)
  have e0 : roomN mp = C0 ws rev t ws.length := funext fun u => funext fun v => hmp u v
  refine M.o_bind (P := fun r => FullL ws rev t (roomN r.1)) ?_ (fun r hr => M.o_pure ⟨rfl, hr⟩)
  refine M.o_for rev.length (fun i st => st.2.2 = i /\ Lanes ws rev t (roomN st.1) /\ ∀ j, j < i -> ∃ S, ShutN (2 * ws.length) (roomN st.1) S /\ S (2 * t) = false /\ S (2 * (rev.getD j 0).toNat + 1) = true) ?_ ?_ (s := (mp, (fun _ => none), 0)) ⟨rfl, by dsimp only; rw [e0]; exact Flow.start (fun u v => (C0_nn _ u v).1), fun j hj => by omega⟩
  · rintro i ⟨c, m1, s⟩ hi ⟨rfl, hF, hS⟩
    dsimp only at hi hF hS ⊢
    simp only [zbc]
    refine M.o_t (by simpa using hi) (M.o_grdD (by omega) (M.o_bind (lanes_more H hi m1 (fun c => ∀ j, j < s -> ∃ S, ShutN (2 * ws.length) c S /\ S (2 * t) = false /\ S (2 * (rev.getD j 0).toNat + 1) = true) hF hS ?_) ?_))
    · intro c a l _ hK hp hr hl j hj
      obtain ⟨S, h1, h2, h3⟩ := hK j hj
      exact ⟨S, Pa.closed h1 h2 hp hr hl, h2, h3⟩
    · rintro ⟨c', m'⟩ ⟨h1, h2, h3⟩
      refine M.o_pure ⟨rfl, h1, fun j hj => ?_⟩
      by_cases e : j = s
      · subst e; exact h3
      · exact h2 j (by omega)
  · rintro ⟨c, m1, s⟩ ⟨rfl, hF, hS⟩
    dsimp only at hF hS ⊢
    simp only [zbc]
    refine M.o_f (by simp) (M.o_pure ⟨hF, fun r hr => ?_⟩)
    obtain ⟨j, hj, rfl⟩ := mem_getD hr 0
    exact hS j hj
end Go.Proofs.Ytndobgodeicloaa
namespace Go.Proofs.Ytndobgodeicloaa
open Go Go.Nm
variable {ws : List Work} {rev f : List Int}
/-! ### Fences -/
theorem containsFunc_ends {s : List Int} {f : Int -> M Bool} {p : Int -> Bool} (hf : ∀ x ∈ s, (f x).Ends (p x)) : (zaw s f).Ends (s.any p) := by
  have key : ∃ r, (zav s f).Ends r /\ decide (0 <= r) = s.any p := by
    have h := M.i_loopQ (body := zaf s f) (fun r => match r with | .inl k => 0 <= k /\ s.any p = true | .inr _ => s.any p = false)
      (fun m i => m = s.length - i /\ i <= s.length /\ (s.take i).any p = false) (by
        rintro m i ⟨rfl, hi, ha⟩
        simp only [zaf]
        by_cases e : i < s.length
        · have hp := hf _ (getD_memN s (by omega : (i : Int) < _) 0)
          cases hc : p (s.getD i 0) with
          | true =>
            rw [hc] at hp
            exact .inr ⟨.inl (i : Int), M.i_t (by simpa using e) (M.grdD (by omega) (M.i_bind hp M.i_pure)), by omega, List.any_eq_true.2 ⟨_, getD_memN s (by omega : (i : Int) < _) 0, hc⟩⟩
          | false =>
            rw [hc] at hp
            exact .inl ⟨i + 1, s.length - (i + 1), by omega, M.i_t (by simpa using e) (M.grdD (by omega) (M.i_bind hp M.i_pure)), rfl, e, by rw [any_take_succ p s e 0, ha, hc]; rfl⟩
        · obtain rfl : i = s.length := by omega
          rw [List.take_length] at ha
          exact .inr ⟨.inr (), M.i_f (by simp) M.i_pure, ha⟩) _ 0 ⟨rfl, Nat.zero_le _, by simp⟩
    obtain ⟨r, h1, h2⟩ := h
    cases r with
    | inl k => exact ⟨k, M.i_bind h1 M.i_pure, by rw [h2.2]; simpa using h2.1⟩
    | inr u => exact ⟨-1, M.i_bind h1 M.i_pure, by dsimp only at h2; rw [h2]; rfl⟩
  obtain ⟨r, h1, h2⟩ := key
  rw [← h2]
  exact M.i_bind h1 M.i_pure
end Go.Proofs.Ytndobgodeicloaa
namespace Go.Nm
variable {ws : List Work}
/-- Each of some works is made of the next one. -/
def Pth (ws : List Work) (l : List Int) : Prop := ∀ j, j + 1 < l.length -> l.getD (j + 1) 0 ∈ (ws.getD (l.getD j 0).toNat default).of
/-- A circle. -/
structure Circ (ws : List Work) (l : List Int) : Prop where
  pos : 0 < l.length
  rng : ∀ x ∈ l, 0 <= x /\ x < (ws.length : Int)
  once : l.Nodup
  pth : Pth ws l
  shut : l.getD 0 0 ∈ (ws.getD (l.getD (l.length - 1) 0).toNat default).of
/-- What is met on the way. -/
structure MetOk (ws : List Work) (met : List Int) (i : Int) : Prop where
  rng : ∀ x ∈ met, 0 <= x /\ x < (ws.length : Int)
  once : met.Nodup
  pth : Pth ws met
  last : 0 < met.length -> i ∈ (ws.getD (met.getD (met.length - 1) 0).toNat default).of
  i0 : 0 <= i
  i1 : i < (ws.length : Int)
  iO : i ∉ orderP ws
theorem clL {l r : List Int} {j : Nat} (h : j < l.length) : (l ++ r).getD j 0 = l.getD j 0 := by
  rw [List.getD_eq_getElem?_getD, List.getElem?_append_left h, ← List.getD_eq_getElem?_getD]
theorem clR {l : List Int} {x : Int} : (l ++ [x]).getD l.length 0 = x := by
  rw [List.getD_eq_getElem?_getD, List.getElem?_append_right (Nat.le_refl _)]
  simp
theorem MetOk.next {met : List Int} {i y : Int} (h : MetOk ws met i) (hm : i ∉ met) (hy : y ∈ (ws.getD i.toNat default).of) (h0 : 0 <= y) (h1 : y < (ws.length : Int)) (hO : y ∉ orderP ws) : MetOk ws (met ++ [i]) y := by
  refine ⟨fun x hx => ?_, ?_, fun j hj => ?_, fun _ => ?_, h0, h1, hO⟩
  · rcases List.mem_append.1 hx with hx | hx
    · exact h.rng x hx
    · rw [List.mem_singleton.1 hx]; exact ⟨h.i0, h.i1⟩
  · rw [List.nodup_append]
    exact ⟨h.once, by simp, fun a ha b hb e => hm (by rw [← List.mem_singleton.1 hb, ← e]; exact ha)⟩
  · simp only [List.length_append, List.length_cons, List.length_nil] at hj
    rw [clL (by omega : j < met.length)]
    by_cases e : j + 1 < met.length
    · rw [clL e]
      exact h.pth j e
    · have e2 : j + 1 = met.length := by omega
      rw [e2, clR, show j = met.length - 1 from by omega]
      exact h.last (by omega)
  · rw [show (met ++ [i]).length - 1 = met.length from by simp, clR]
    exact hy
theorem MetOk.lt {met : List Int} {i : Int} (h : MetOk ws met i) (hm : i ∉ met) : met.length < ws.length := by
  have := nodup_bound ws.length (i :: met) (List.nodup_cons.2 ⟨hm, h.once⟩) (fun x hx => by
    rcases List.mem_cons.1 hx with rfl | hx
    · exact ⟨h.i0, h.i1⟩
    · exact h.rng x hx)
  simp only [List.length_cons] at this
  omega
end Go.Nm
namespace Go.Proofs.Ytndobgodeicloaa
open Go Go.Nm
variable {ws : List Work}
theorem indexFunc_out {s : List Int} {f : Int -> M Bool} {p : Int -> Bool} (hf : ∀ x ∈ s, (f x).Ends (p x)) (hp : s.any p = true) :
    (zav s f).Out (fun r => 0 <= r /\ r < (s.length : Int) /\ p (s.getD r.toNat 0) = true) := by
  have h := M.i_loopQ (body := zaf s f) (fun r => match r with | .inl k => 0 <= k /\ k < (s.length : Int) /\ p (s.getD k.toNat 0) = true | .inr _ => s.any p = false)
    (fun m i => m = s.length - i /\ i <= s.length /\ (s.take i).any p = false) (by
      rintro m i ⟨rfl, hi, ha⟩
      simp only [zaf]
      by_cases e : i < s.length
      · have hp := hf _ (getD_memN s (by omega : (i : Int) < _) 0)
        cases hc : p (s.getD i 0) with
        | true =>
          rw [hc] at hp
          exact .inr ⟨.inl (i : Int), M.i_t (by simpa using e) (M.grdD (by omega) (M.i_bind hp M.i_pure)), by omega, by omega, by rw [Int.toNat_natCast]; exact hc⟩
        | false =>
          rw [hc] at hp
          exact .inl ⟨i + 1, s.length - (i + 1), by omega, M.i_t (by simpa using e) (M.grdD (by omega) (M.i_bind hp M.i_pure)), rfl, e, by rw [any_take_succ p s e 0, ha, hc]; rfl⟩
      · obtain rfl : i = s.length := by omega
        rw [List.take_length] at ha
        exact .inr ⟨.inr (), M.i_f (by simp) M.i_pure, ha⟩) _ 0 ⟨rfl, Nat.zero_le _, by simp⟩
  obtain ⟨r, h1, h2⟩ := h
  cases r with
  | inl k => exact ⟨k, M.i_bind h1 M.i_pure, h2⟩
  | inr u => dsimp only at h2; rw [hp] at h2; cases h2
end Go.Proofs.Ytndobgodeicloaa
namespace Go.Nm
variable {ws : List Work} {rev : List Int} {t : Nat} {c : Nat -> Nat -> Int}
/-- What becomes stale, if some works are frozen. -/
inductive Rch (ws : List Work) (rev F : List Int) : Nat -> Prop
  | base {r : Int} (h : r ∈ rev) : Rch ws rev F r.toNat
  | step {k i : Nat} (h : Rch ws rev F k) (hi : i < ws.length) (hm : (k : Int) ∈ (ws.getD i default).of) (hf : (i : Int) ∉ F) : Rch ws rev F i
/-! ### What Freeze returns -/
def frzB (rev : List Int) (t : Nat) (S : Nat -> Bool) (i : Nat) : Bool := (innB rev (t : Int) (i : Int) && S (2 * i)) && !(S (2 * i + 1))
def frzL (rev : List Int) (t : Nat) (S : Nat -> Bool) (n : Nat) : List Int := ((List.range n).filter (frzB rev t S)).map fun i : Nat => (i : Int)
theorem frzL_next (S : Nat -> Bool) (n : Nat) : frzL rev t S (n + 1) = if frzB rev t S n then frzL rev t S n ++ [(n : Int)] else frzL rev t S n := by
  unfold frzL
  rw [List.range_succ, List.filter_append]
  split
  · rename_i h; simp only [List.filter_cons, h, if_true, List.filter_nil, List.map_append, List.map_cons, List.map_nil]
  · rename_i h; simp only [List.filter_cons, h, List.filter_nil, Bool.false_eq_true, if_false, List.append_nil]
theorem frzL_len (S : Nat -> Bool) (n : Nat) : (frzL rev t S n).length <= n := by
  unfold frzL
  rw [List.length_map]
  exact Nat.le_trans (List.length_filter_le _ _) (by simp)
theorem frzL_mem {S : Nat -> Bool} {n : Nat} {x : Int} : x ∈ frzL rev t S n ↔ ∃ i : Nat, i < n /\ frzB rev t S i = true /\ x = (i : Int) := by
  unfold frzL
  simp only [List.mem_map, List.mem_filter, List.mem_range]
  constructor
  · rintro ⟨i, ⟨h1, h2⟩, rfl⟩; exact ⟨i, h1, h2, rfl⟩
  · rintro ⟨i, h1, h2, rfl⟩; exact ⟨i, ⟨h1, h2⟩, rfl⟩
/-- The set that the last search leaves. -/
structure Cut (ws : List Work) (rev : List Int) (t : Nat) (c : Nat -> Nat -> Int) (S : Nat -> Bool) : Prop where
  shut : ShutN (2 * ws.length) c S
  no : S (2 * t) = false
  src : ∀ r ∈ rev, S (2 * r.toNat + 1) = true
/-- No great gate is passed, and as many works are frozen as lines go. -/
theorem cut_count (H : LnHyp ws rev t) (h : Lanes ws rev t c) {S : Nat -> Bool} (hS : Cut ws rev t c S) :
    (∀ k i, k < ws.length -> S (2 * k + 1) = true -> bigP ws rev t ws.length (2 * k + 1) (2 * i) -> S (2 * i) = true) /\ vaL ws rev t c = ((frzL rev t S ws.length).length : Int) := by
  have hl := right_len (opened_right H.opn)
  have hm := Lanes.most H h
  have key := h.full (S := S) (by have := H.tl; omega) hS.no (fun v _ hs => by
    have := srcB_iff.1 hs
    have h2 := hS.src _ this.2
    rw [Int.toNat_natCast] at h2
    rwa [show 2 * (v / 2) + 1 = v from by omega] at h2) (fun u v hu hv h1 h2 => by
      have hn := h.nn u v
      by_cases e : 0 < c u v
      · rw [hS.shut u v hu hv h1 e] at h2; cases h2
      · omega)
  rw [sumN_two, sumN_add] at key
  have hA : ∀ i, i < ws.length -> sumN (fun v => if S (2 * i) && !S v then C0 ws rev t ws.length (2 * i) v else 0) (2 * ws.length) = if frzB rev t S i then 1 else 0 := by
    intro i hi
    rw [sumN_one (k := 2 * i + 1) (fun v _ hne => ?_), if_pos (show 2 * i + 1 < 2 * ws.length from by omega)]
    · unfold frzB
      by_cases hg : gateP rev t ws.length (2 * i) (2 * i + 1)
      · have h3 := hg.2.2.2
        rw [show 2 * i / 2 = i from by omega] at h3
        rw [C0_gate hg, h3]
        rfl
      · have h3 : innB rev (t : Int) (i : Int) = false := by
          cases e : innB rev (t : Int) (i : Int) with
          | false => rfl
          | true => exact absurd ⟨by omega, rfl, by omega, by rw [show 2 * i / 2 = i from by omega]; exact e⟩ hg
        rw [C0_no hg (fun h => by have := h.1; omega), h3, ite_self]
        rfl
    · rw [C0_no (fun h => hne h.2.1) (fun h => by have := h.1; omega)]
      exact ite_self _
  rw [sumN_congr hA, sumN_count] at key
  have hB0 : ∀ i v, 0 <= (if S (2 * i + 1) && !S v then C0 ws rev t ws.length (2 * i + 1) v else 0) := fun i v => by
    have := (C0_nn (ws := ws) (rev := rev) (t := t) ws.length (2 * i + 1) v).1
    split <;> omega
  have hlen : ((frzL rev t S ws.length).length : Int) = (((List.range ws.length).filter fun i => frzB rev t S i).length : Int) := by unfold frzL; rw [List.length_map]
  have hBig : ∀ k i, k < ws.length -> S (2 * k + 1) = true -> bigP ws rev t ws.length (2 * k + 1) (2 * i) -> S (2 * i) = true := by
    intro k i hk h1 h2
    cases h3 : S (2 * i) with
    | true => rfl
    | false =>
      exfalso
      have hi : i < ws.length := by have := h2.2.2.1; omega
      have e1 := sumN_ge (f := fun v => if S (2 * k + 1) && !S v then C0 ws rev t ws.length (2 * k + 1) v else 0) (n := 2 * ws.length) (fun v _ => hB0 k v) (2 * i) (by omega)
      have e2 := sumN_ge (f := fun k => sumN (fun v => if S (2 * k + 1) && !S v then C0 ws rev t ws.length (2 * k + 1) v else 0) (2 * ws.length)) (n := ws.length) (fun k _ => sumN_nn fun v _ => hB0 k v) k hk
      simp only [h1, h3, C0_big h2, Bool.not_false, Bool.and_self, if_true] at e1 e2
      have : flowV (2 * ws.length) (2 * t) (C0 ws rev t ws.length) c < ws.length := hm
      omega
  refine ⟨hBig, ?_⟩
  have hz : sumN (fun i => sumN (fun v => if S (2 * i + 1) && !S v then C0 ws rev t ws.length (2 * i + 1) v else 0) (2 * ws.length)) ws.length = 0 := by
    refine sumN_zero' fun k hk => sumN_zero' fun v hv => ?_
    cases h1 : S (2 * k + 1) with
    | false => rfl
    | true =>
      cases h2 : S v with
      | true => rfl
      | false =>
        rw [C0_no (fun h => by have := h.1; omega) (fun h => ?_)]
        · rfl
        · have hv2 : v = 2 * (v / 2) := by have := h.2.1; omega
          rw [hv2] at h h2
          rw [hBig k (v / 2) hk h1 h] at h2
          cases h2
  rw [hz, Int.add_zero] at key
  rw [hlen]
  exact key
/-- Works that keep a work. -/
structure Froz (ws : List Work) (rev : List Int) (t : Nat) (l : List Int) : Prop where
  rng : ∀ x ∈ l, 0 <= x /\ x < (ws.length : Int) /\ x ≠ (t : Int) /\ x ∉ rev
  asc : ∀ j, 1 <= j -> j < l.length -> l.getD (j - 1) 0 < l.getD j 0
  keep : ¬ Rch ws rev l t
theorem frzL_pair (S : Nat -> Bool) (n : Nat) : (frzL rev t S n).Pairwise (· < ·) := by
  unfold frzL
  rw [List.pairwise_map]
  have : (List.range n).Pairwise (· < ·) := List.pairwise_lt_range
  exact (this.sublist (List.filter_sublist)).imp fun h => by omega
theorem pair_asc {l : List Int} (h : l.Pairwise (· < ·)) : ∀ j, 1 <= j -> j < l.length -> l.getD (j - 1) 0 < l.getD j 0 := by
  intro j h1 h2
  have := List.pairwise_iff_getElem.1 h (j - 1) j (by omega) h2 (by omega)
  rwa [getD_el l (by omega) 0, getD_el l h2 0]
theorem cut_froz (H : LnHyp ws rev t) (h : Lanes ws rev t c) {S : Nat -> Bool} (hS : Cut ws rev t c S) : Froz ws rev t (frzL rev t S ws.length) := by
  have hR := opened_right H.opn
  obtain ⟨hBig, _⟩ := cut_count H h hS
  refine ⟨fun x hx => ?_, pair_asc (frzL_pair S ws.length), fun hr => ?_⟩
  · obtain ⟨i, hi, hb, rfl⟩ := frzL_mem.1 hx
    unfold frzB at hb
    simp only [Bool.and_eq_true] at hb
    have := innB_iff.1 hb.1.1
    exact ⟨by omega, by omega, this.1, this.2⟩
  · have key : ∀ k, Rch ws rev (frzL rev t S ws.length) k -> k ≠ t /\ k < ws.length /\ S (2 * k + 1) = true := by
      intro k hk
      induction hk with
      | base hr =>
        have hr2 := H.rng _ hr
        refine ⟨fun e => H.nt ?_, by omega, hS.src _ hr⟩
        rw [← e, Int.toNat_of_nonneg hr2.1]
        exact hr
      | @step k i _ hi hm hf ih =>
        obtain ⟨h1, h2, h3⟩ := ih
        by_cases hit : i = t
        · have hb : bigP ws rev t ws.length (2 * k + 1) (2 * i) := ⟨by omega, by omega, by omega, by rw [show (2 * k + 1) / 2 = k from by omega, show 2 * i / 2 = i from by omega]; exact hm, by omega, .inl (by omega)⟩
          have := hBig k i h2 h3 hb
          rw [hit, hS.no] at this
          cases this
        · refine ⟨hit, hi, ?_⟩
          by_cases hir : (i : Int) ∈ rev
          · have := hS.src _ hir
            rwa [Int.toNat_natCast] at this
          · have hin : innB rev (t : Int) (i : Int) = true := innB_iff.2 ⟨by omega, hir⟩
            have hb : bigP ws rev t ws.length (2 * k + 1) (2 * i) := ⟨by omega, by omega, by omega, by rw [show (2 * k + 1) / 2 = k from by omega, show 2 * i / 2 = i from by omega]; exact hm, by omega, .inr (by rw [show 2 * i / 2 = i from by omega]; exact hin)⟩
            have h4 := hBig k i h2 h3 hb
            cases h5 : S (2 * i + 1) with
            | true => rfl
            | false =>
              refine absurd (frzL_mem.2 ⟨i, hi, ?_, rfl⟩) hf
              unfold frzB
              rw [hin, h4, h5]
              rfl
    exact (key t hr).1 rfl
end Go.Nm
namespace Go.Proofs.Ytndobgodeicloaa
open Go Go.Nm
variable {ws : List Work} {rev : List Int} {t : Nat}
theorem freeze_last (H : LnHyp ws rev t) {mp : Gate -> Option Int} (hF : FullL ws rev t (roomN mp)) :
    (M.iter (zaY ws rev (t : Int)) (mp, (fun _ => none), 0)).Out (fun r => r.1 = mp /\ Cut ws rev t (roomN mp) (fun x => (r.2 (x : Int)).getD false)) := by
  have hl := right_len (opened_right H.opn)
  have ht := H.tl
  refine M.o_for rev.length (fun i st => st.2.2 = i /\ st.1 = mp /\ ShutN (2 * ws.length) (roomN mp) (fun x => (st.2.1 (x : Int)).getD false) /\ ¬ mt st.2.1 ((2 * t : Nat) : Int) /\ ∀ j, j < i -> mt st.2.1 ((2 * (rev.getD j 0).toNat + 1 : Nat) : Int)) ?_ ?_ (s := (mp, (fun _ => none), 0)) ⟨rfl, rfl, fun u v _ _ h => by simp at h, mt_none _, fun j hj => by omega⟩
  · rintro i ⟨c, m, s⟩ hi ⟨rfl, rfl, hsh, hno, hdone⟩
    dsimp only at hi hsh hno hdone ⊢
    have hrm := getD_memN rev (by omega : (s : Int) < _) 0
    have hr := H.rng _ hrm
    simp only [zaY]
    generalize hq : rev.getD s 0 = q at *
    obtain ⟨rn, rfl⟩ := Int.eq_ofNat_of_zero_le hr.1
    have he : (2 * ((rn : Nat) : Int)) + 1 = ((2 * rn + 1 : Nat) : Int) := by omega
    rw [he]
    refine M.o_t (by simpa using hi) (M.o_grdD (by omega) (M.o_grd (gA2 (by omega) (by omega)) (M.o_grd (gA2 (by omega) (by omega)) (M.o_bind (goes_out ht (by omega) ((unmet (2 * ws.length) (updF m ((2 * rn + 1 : Nat) : Int) true)).toNat + 1) (2 * rn + 1) c m hF.flow.bd (by omega) hno (by omega)) ?_))))
    rintro ⟨b, c', m'⟩ (⟨rfl, rfl, hne, hG⟩ | ⟨rfl, l, hG⟩)
    · dsimp only at hG ⊢
      refine M.o_pure ⟨rfl, rfl, fun u v hu hv h1 h2 => ?_, hG.no, fun j hj => ?_⟩
      · rcases hG.cl u h1 with h | h
        · exact hG.up v (hsh u v hu hv h h2)
        · exact h v hv h2
      · by_cases e : j = s
        · subst e
          rw [hq, Int.toNat_natCast]
          exact hG.at_
        · exact hG.up _ (hdone j (by omega))
    · exfalso
      obtain ⟨S, h1, h2, h3⟩ := hF.shut _ hrm
      rw [Int.toNat_natCast] at h3
      rw [Pa.out h1 h2 l (2 * rn + 1) hG.pa hG.rng hG.last _ (by simp)] at h3
      cases h3
  · rintro ⟨c, m, s⟩ ⟨rfl, rfl, hsh, hno, hdone⟩
    dsimp only at hsh hno hdone ⊢
    simp only [zaY]
    refine M.o_f (by simp) (M.o_pure ⟨rfl, hsh, ?_, fun r hr => ?_⟩)
    · unfold Nm.mt at hno
      simpa using hno
    · obtain ⟨j, hj, rfl⟩ := mem_getD hr 0
      exact hdone j hj
theorem freeze_list (hn : ws.length <= 1000) (mp : Gate -> Option Int) (m : Int -> Option Bool) :
    (M.iter (zaG ws rev (t : Int) mp m) (0, [])).Ends (frzL rev t (fun x => (m (x : Int)).getD false) ws.length, frzL rev t (fun x => (m (x : Int)).getD false) ws.length) := by
  refine M.i_for (fun i => (i, frzL rev t (fun x => (m (x : Int)).getD false) i)) ws.length (fun i hi => ?_) ?_
  · have hin : (zag ws rev (t : Int) mp m (i : Int)).Ends (innB rev (t : Int) (i : Int)) := M.i_pure
    have hll := frzL_len (rev := rev) (t := t) (fun x => (m (x : Int)).getD false) i
    have hb : ((innB rev (t : Int) (i : Int) && ((m (2 * (i : Int))).getD false)) && (!((m ((2 * (i : Int)) + 1 : Int)).getD false))) = frzB rev t (fun x => (m (x : Int)).getD false) i := by
      unfold frzB
      dsimp only
      rw [show ((2 * i : Nat) : Int) = 2 * (i : Int) from by omega, show ((2 * i + 1 : Nat) : Int) = 2 * (i : Int) + 1 from by omega]
    simp only [zaG]
    rw [frzL_next]
    refine M.i_t (by simpa using hi) (M.i_bind hin (M.i_grd (gOr2 (by omega) (by omega)) (M.i_grd (gOr2 (by omega) (by omega)) (M.i_grd (gOr2 (by omega) (by omega)) ?_))))
    rw [hb]
    cases frzB rev t (fun x => (m (x : Int)).getD false) i with
    | true => exact M.i_t rfl (M.grdD (by simp only [List.length_cons, List.length_nil]; omega) M.i_pure)
    | false => exact M.i_f rfl M.i_pure
  · simp only [zaG]
    exact M.i_f (by simp) M.i_pure
end Go.Proofs.Ytndobgodeicloaa
namespace Go.Nm
variable {ws : List Work} {rev : List Int} {t : Nat} {c : Nat -> Nat -> Int}
/-- A line went from one work to another one. -/
def nx (c : Nat -> Nat -> Int) (i k : Nat) : Prop := 0 < c (2 * k) (2 * i + 1) /\ k ≠ i
theorem C0_even {n i k : Nat} (h : k ≠ i) : C0 ws rev t n (2 * k) (2 * i + 1) = 0 := C0_no (fun h' => h (by have := h'.2.1; omega)) (fun h' => by have := h'.1; omega)
theorem Lanes.back (h : Lanes ws rev t c) {i k : Nat} (hn : k ≠ i) : C0 ws rev t ws.length (2 * i + 1) (2 * k) - c (2 * i + 1) (2 * k) = c (2 * k) (2 * i + 1) := by
  have := h.skew (2 * i + 1) (2 * k)
  rw [C0_even (ws := ws) (rev := rev) (t := t) hn] at this
  omega
theorem nx_big (h : Lanes ws rev t c) {i k : Nat} (hx : nx c i k) : (i : Int) ∈ (ws.getD k default).of /\ k < ws.length /\ i ≠ t /\ (k = t ∨ innB rev (t : Int) (k : Int) = true) := by
  have h1 := Lanes.back h hx.2
  have h2 := h.nn (2 * i + 1) (2 * k)
  have h3 := hx.1
  by_cases hb : bigP ws rev t ws.length (2 * i + 1) (2 * k)
  · have a := hb.2.2
    rw [show (2 * i + 1) / 2 = i from by omega, show 2 * k / 2 = k from by omega] at a
    exact ⟨a.2.1, a.1, a.2.2.1, a.2.2.2⟩
  · rw [C0_no (fun h => by have := h.1; omega) hb] at h1
    omega
theorem flow_eq0 (h : Lanes ws rev t c) {u v : Nat} (hp : u % 2 = v % 2) : C0 ws rev t ws.length u v - c u v = 0 := by
  have h1 : ∀ u v, u % 2 = v % 2 -> C0 ws rev t ws.length u v = 0 := fun u v hp => C0_no (fun h => by have := h.2.1; omega) (fun h => by have := h.1; have := h.2.1; omega)
  have h2 := h.skew u v
  have h3 := h.nn u v
  have h4 := h.nn v u
  rw [h1 u v hp, h1 v u hp.symm] at h2
  rw [h1 u v hp]
  omega
theorem C0_own {i : Nat} (hi : i < ws.length) (hin : innB rev (t : Int) (i : Int) = true) : C0 ws rev t ws.length (2 * i) (2 * i + 1) = 1 := C0_gate ⟨by omega, rfl, by omega, by rw [show 2 * i / 2 = i from by omega]; exact hin⟩
theorem inn_ne {i : Nat} (hin : innB rev (t : Int) (i : Int) = true) : i ≠ t /\ (i : Int) ∉ rev := by
  have := innB_iff.1 hin
  exact ⟨by omega, this.2⟩
/-- What comes to a work. -/
theorem sum_in (h : Lanes ws rev t c) {i : Nat} (hi : i < ws.length) (hin : innB rev (t : Int) (i : Int) = true) : sumN (fun k => if k = i then 0 else c (2 * i) (2 * k + 1)) ws.length = 1 - c (2 * i) (2 * i + 1) := by
  have hne := inn_ne hin
  have hc := h.cons (2 * i) (by omega) (by unfold srcB; rw [show decide ((2 * i) % 2 = 1) = false from by simp]; rfl) (by omega)
  rw [sumN_two] at hc
  have e : ∀ k, k < ws.length -> (C0 ws rev t ws.length (2 * k) (2 * i) - c (2 * k) (2 * i) + (C0 ws rev t ws.length (2 * k + 1) (2 * i) - c (2 * k + 1) (2 * i))) = (if k = i then 0 else c (2 * i) (2 * k + 1)) - (if k = i then 1 - c (2 * i) (2 * i + 1) else 0) := by
    intro k hk
    rw [flow_eq0 h (by omega)]
    by_cases e : k = i
    · subst e
      rw [if_pos rfl, if_pos rfl]
      have h1 := h.skew (2 * k) (2 * k + 1)
      have h2 := C0_own (t := t) hi hin
      omega
    · rw [if_neg e, if_neg e, Lanes.back h (fun h' => e h'.symm)]
      omega
  rw [sumN_congr e, sumN_sub, sumN_one (k := i) (f := fun k => if k = i then 1 - c (2 * i) (2 * i + 1) else 0) (fun k _ hk => if_neg hk), if_pos hi, if_pos rfl] at hc
  omega
/-- What goes on from a work. -/
theorem sum_out (h : Lanes ws rev t c) {i : Nat} (hi : i < ws.length) (hin : innB rev (t : Int) (i : Int) = true) : sumN (fun k => if k = i then 0 else c (2 * k) (2 * i + 1)) ws.length = 1 - c (2 * i) (2 * i + 1) := by
  have hne := inn_ne hin
  have hc := h.cons (2 * i + 1) (by omega) (by
    cases e : srcB rev (2 * i + 1) with
    | false => rfl
    | true =>
      have := (srcB_iff.1 e).2
      rw [show (2 * i + 1) / 2 = i from by omega] at this
      exact absurd this hne.2) (by omega)
  rw [sumN_two] at hc
  have e : ∀ k, k < ws.length -> (C0 ws rev t ws.length (2 * k) (2 * i + 1) - c (2 * k) (2 * i + 1) + (C0 ws rev t ws.length (2 * k + 1) (2 * i + 1) - c (2 * k + 1) (2 * i + 1))) = (if k = i then 1 - c (2 * i) (2 * i + 1) else 0) - (if k = i then 0 else c (2 * k) (2 * i + 1)) := by
    intro k hk
    rw [flow_eq0 (u := 2 * k + 1) (v := 2 * i + 1) h (by omega)]
    by_cases e : k = i
    · subst e
      rw [if_pos rfl, if_pos rfl, C0_own (t := t) hi hin]
      omega
    · rw [if_neg e, if_neg e, C0_even e]
      omega
  rw [sumN_congr e, sumN_sub, sumN_one (k := i) (f := fun k => if k = i then 1 - c (2 * i) (2 * i + 1) else 0) (fun k _ hk => if_neg hk), if_pos hi, if_pos rfl] at hc
  omega
theorem in_nn (h : Lanes ws rev t c) (i : Nat) : ∀ k, k < ws.length -> 0 <= (if k = i then 0 else c (2 * i) (2 * k + 1)) := fun k _ => by
  have := h.nn (2 * i) (2 * k + 1)
  split <;> omega
theorem nx_in (h : Lanes ws rev t c) {i j : Nat} (hi : i < ws.length) (hj : j < ws.length) (hin : innB rev (t : Int) (i : Int) = true) (hx : nx c j i) : c (2 * i) (2 * j + 1) = 1 /\ c (2 * i) (2 * i + 1) = 0 := by
  have h1 := sum_in h hi hin
  have h2 := sumN_ge (in_nn h i) j hj
  have h3 := h.nn (2 * i) (2 * i + 1)
  have h4 := hx.1
  rw [h1, if_neg (fun e => hx.2 e.symm)] at h2
  omega
theorem nx_one (h : Lanes ws rev t c) {i j k : Nat} (hi : i < ws.length) (hj : j < ws.length) (hk : k < ws.length) (hin : innB rev (t : Int) (i : Int) = true) (hx : nx c j i) (hy : nx c k i) : j = k := by
  have h1 := sum_in h hi hin
  have h3 := h.nn (2 * i) (2 * i + 1)
  have h4 := hx.1
  have h5 := hy.1
  have key : ∀ a b, a < b -> b < ws.length -> 0 < c (2 * i) (2 * a + 1) -> i ≠ a -> 0 < c (2 * i) (2 * b + 1) -> i ≠ b -> False := by
    intro a b hab hb p1 p2 p3 p4
    have := sumN_ge2 (in_nn h i) a b hab hb
    rw [h1, if_neg (fun e => p2 e.symm), if_neg (fun e => p4 e.symm)] at this
    omega
  by_cases e1 : j < k
  · exact (key j k e1 hk h4 hx.2 h5 hy.2).elim
  · by_cases e2 : k < j
    · exact (key k j e2 hj h5 hy.2 h4 hx.2).elim
    · omega
theorem nx_out (h : Lanes ws rev t c) {i : Nat} (hi : i < ws.length) (hin : innB rev (t : Int) (i : Int) = true) (hz : c (2 * i) (2 * i + 1) = 0) : ∃ k, k < ws.length /\ nx c i k := by
  have h1 := sum_out h hi hin
  rw [hz] at h1
  obtain ⟨k, hk, h2⟩ := sumN_pos (f := fun k => if k = i then 0 else c (2 * k) (2 * i + 1)) (n := ws.length) (by rw [h1]; decide)
  by_cases e : k = i
  · simp only [e, if_true] at h2; omega
  · simp only [if_neg e] at h2
    exact ⟨k, hk, h2, e⟩
/-! ### Chains -/
/-- Each work of a list leads on to the next one. -/
def Chn (c : Nat -> Nat -> Int) (l : List Int) : Prop := ∀ j, j + 1 < l.length -> nx c (l.getD j 0).toNat (l.getD (j + 1) 0).toNat
/-- A line that went: from a revised work, by works that can be frozen, to the work. -/
structure Went (ws : List Work) (rev : List Int) (t : Nat) (c : Nat -> Nat -> Int) (l : List Int) : Prop where
  chn : Chn c l
  two : 2 <= l.length
  rng : ∀ x ∈ l, 0 <= x /\ x < (ws.length : Int)
  head : l.getD 0 0 ∈ rev
  mid : ∀ j, 1 <= j -> j + 1 < l.length -> innB rev (t : Int) (l.getD j 0) = true
/-- A line as the law wants it. -/
structure LineA (ws : List Work) (rev : List Int) (t : Nat) (l : List Int) : Prop where
  two : 2 <= l.length
  rng : ∀ x ∈ l, 0 <= x /\ x < (ws.length : Int)
  line : lineB ws l = true
  head : l.getD 0 0 ∈ rev
  last : l.getD (l.length - 1) 0 = (t : Int)
  mid : ∀ j, 1 <= j -> j + 1 < l.length -> innB rev (t : Int) (l.getD j 0) = true
theorem lineB_of : ∀ {l : List Int}, (∀ j, j + 1 < l.length -> l.getD j 0 ∈ (ws.getD (l.getD (j + 1) 0).toNat default).of) -> lineB ws l = true
  | [], _ => rfl
  | [_], _ => rfl
  | a :: b :: l, h => by
    have h0 := h 0 (by simp)
    have ih := lineB_of (l := b :: l) (fun j hj => by have := h (j + 1) (by simp only [List.length_cons] at hj ⊢; omega); simpa using this)
    show ((ws.getD b.toNat default).of.contains a && lineB ws (b :: l)) = true
    rw [ih, Bool.and_true, List.contains_iff_mem]
    exact h0
theorem lineB_step : ∀ {l : List Int}, lineB ws l = true -> ∀ j, j + 1 < l.length -> l.getD j 0 ∈ (ws.getD (l.getD (j + 1) 0).toNat default).of
  | [], _, j, hj => by simp at hj
  | [_], _, j, hj => by simp at hj
  | a :: b :: l, h, j, hj => by
    have h' : ((ws.getD b.toNat default).of.contains a && lineB ws (b :: l)) = true := h
    rw [Bool.and_eq_true, List.contains_iff_mem] at h'
    cases j with
    | zero => exact h'.1
    | succ j =>
      have := lineB_step h'.2 j (by simp only [List.length_cons] at hj ⊢; omega)
      simpa using this
theorem Went.line (h : Lanes ws rev t c) {l : List Int} (hW : Went ws rev t c l) : lineB ws l = true := lineB_of fun j hj => by
  have hx := nx_big h (hW.chn j hj)
  have hr := hW.rng _ (getD_memN l (by omega : (j : Int) < _) 0)
  rw [Int.toNat_of_nonneg hr.1] at hx
  exact hx.1
/-- Two works of lines that are the same come from the same first steps. -/
theorem went_same (h : Lanes ws rev t c) {l m : List Int} (hl : Went ws rev t c l) (hm : Went ws rev t c m) : ∀ a b, 1 <= a -> 1 <= b -> a + 1 < l.length -> b + 1 < m.length -> l.getD a 0 = m.getD b 0 -> l.getD 0 0 = m.getD 0 0 /\ l.getD 1 0 = m.getD 1 0 := by
  intro a
  induction a with
  | zero => intro b h1; omega
  | succ a ih =>
    intro b _ hb h3 h4 he
    obtain ⟨b, rfl⟩ : ∃ b', b = b' + 1 := ⟨b - 1, by omega⟩
    have hx := hl.chn a (by omega)
    have hy := hm.chn b (by omega)
    have hin := hl.mid (a + 1) (by omega) h3
    have r0 := hl.rng _ (getD_memN l (by omega : ((a + 1 : Nat) : Int) < _) 0)
    have r1 := hl.rng _ (getD_memN l (by omega : (a : Int) < _) 0)
    have r2 := hm.rng _ (getD_memN m (by omega : (b : Int) < _) 0)
    rw [← he] at hy
    rw [← Int.toNat_of_nonneg r0.1] at hin
    have hu := nx_one h (by omega) (by omega) (by omega) hin hx hy
    have hu' : l.getD a 0 = m.getD b 0 := by omega
    by_cases ea : a = 0
    · by_cases eb : b = 0
      · subst ea; subst eb; exact ⟨hu', he⟩
      · subst ea
        have h5 := (innB_iff.1 (hm.mid b (by omega) (by omega))).2
        rw [← hu'] at h5
        exact absurd hl.head h5
    · by_cases eb : b = 0
      · subst eb
        have h5 := (innB_iff.1 (hl.mid a (by omega) (by omega))).2
        rw [hu'] at h5
        exact absurd hm.head h5
      · exact ih b (by omega) (by omega) (by omega) (by omega) hu'
/-- Lines that are apart. -/
def midL (l : List Int) : List Int := (l.drop 1).dropLast
theorem midL_mem {l : List Int} {x : Int} : x ∈ midL l ↔ ∃ j, 1 <= j /\ j + 1 < l.length /\ l.getD j 0 = x := by
  unfold midL
  rw [List.mem_iff_getElem]
  constructor
  · rintro ⟨i, hi, rfl⟩
    simp only [List.length_dropLast, List.length_drop] at hi
    refine ⟨i + 1, by omega, by omega, ?_⟩
    rw [List.getElem_dropLast, List.getElem_drop, getD_el l (by omega) 0]
    congr 1
    omega
  · rintro ⟨j, h1, h2, rfl⟩
    refine ⟨j - 1, by simp only [List.length_dropLast, List.length_drop]; omega, ?_⟩
    rw [List.getElem_dropLast, List.getElem_drop, getD_el l (by omega) 0]
    congr 1
    omega
structure ApartA (ws : List Work) (rev : List Int) (t : Nat) (ls : List (List Int)) : Prop where
  each : ∀ l ∈ ls, LineA ws rev t l
  two : ls.Pairwise fun a b => ∀ x ∈ midL a, x ∉ midL b
/-- What keeps a work meets each line. -/
theorem line_meets {F l : List Int} (hl : LineA ws rev t l) (hF : ∀ x ∈ F, x ≠ (t : Int) /\ x ∉ rev) (hk : ¬ Rch ws rev F t) : ∃ x ∈ midL l, x ∈ F := by
  refine Classical.byContradiction fun hc => hk ?_
  have h2 := hl.two
  have key : ∀ j, j < l.length -> Rch ws rev F (l.getD j 0).toNat := by
    intro j
    induction j with
    | zero => intro _; exact .base hl.head
    | succ j ih =>
      intro hj
      have r0 := hl.rng _ (getD_memN l (by omega : (j : Int) < _) 0)
      have r1 := hl.rng _ (getD_memN l (by omega : ((j + 1 : Nat) : Int) < _) 0)
      refine .step (ih (by omega)) (by omega) (by rw [Int.toNat_of_nonneg r0.1]; exact lineB_step hl.line j hj) ?_
      rw [Int.toNat_of_nonneg r1.1]
      intro hm
      by_cases e : j + 2 < l.length
      · exact hc ⟨_, midL_mem.2 ⟨j + 1, by omega, e, rfl⟩, hm⟩
      · have := hl.last
        rw [show l.length - 1 = j + 1 from by omega] at this
        exact (hF _ hm).1 this
  have := key (l.length - 1) (by omega)
  rwa [hl.last, Int.toNat_natCast] at this
/-- No fewer works keep a work than lines are apart. -/
theorem apart_le {F : List Int} (hF : ∀ x ∈ F, x ≠ (t : Int) /\ x ∉ rev) (hk : ¬ Rch ws rev F t) : ∀ {ls : List (List Int)}, ApartA ws rev t ls -> ∃ xs : List Int, xs.length = ls.length /\ xs.Nodup /\ (∀ x ∈ xs, x ∈ F) /\ ∀ x ∈ xs, ∃ l ∈ ls, x ∈ midL l
  | [], _ => ⟨[], rfl, List.nodup_nil, fun x h => by simp at h, fun x h => by simp at h⟩
  | l :: ls, h => by
    obtain ⟨xs, h1, h2, h3, h4⟩ := apart_le hF hk (ls := ls) ⟨fun m hm => h.each m (List.mem_cons_of_mem _ hm), (List.pairwise_cons.1 h.two).2⟩
    obtain ⟨x, hx, hxF⟩ := line_meets (h.each l (by simp)) hF hk
    refine ⟨x :: xs, by simp [h1], List.nodup_cons.2 ⟨fun hm => ?_, h2⟩, fun y hy => ?_, fun y hy => ?_⟩
    · obtain ⟨m, hm1, hm2⟩ := h4 x hm
      exact (List.pairwise_cons.1 h.two).1 m hm1 x hx hm2
    · rcases List.mem_cons.1 hy with rfl | hy
      · exact hxF
      · exact h3 y hy
    · rcases List.mem_cons.1 hy with rfl | hy
      · exact ⟨l, by simp, hx⟩
      · obtain ⟨m, hm1, hm2⟩ := h4 y hy
        exact ⟨m, List.mem_cons_of_mem _ hm1, hm2⟩
theorem apart_few {F : List Int} {ls : List (List Int)} (hF : ∀ x ∈ F, x ≠ (t : Int) /\ x ∉ rev) (hk : ¬ Rch ws rev F t) (h : ApartA ws rev t ls) : ls.length <= F.length := by
  obtain ⟨xs, h1, h2, h3, _⟩ := apart_le hF hk h
  rw [← h1]
  exact nodup_sub xs F h2 h3
end Go.Nm
namespace Go.Nm
variable {ws : List Work} {rev : List Int} {t : Nat} {c : Nat -> Nat -> Int}
/-- How many lines begin with a work. -/
def wentB (rev : List Int) (t : Nat) (c : Nat -> Nat -> Int) (k i : Nat) : Bool := innB rev (t : Int) (i : Int) && decide (0 < c (2 * i) (2 * k + 1))
def cntW (ws : List Work) (rev : List Int) (t : Nat) (c : Nat -> Nat -> Int) (k n : Nat) : Int := sumN (fun i => if wentB rev t c k i then 1 else 0) n
theorem val_lines (H : LnHyp ws rev t) (h : Lanes ws rev t c) : vaL ws rev t c = sumN (fun k => if rev.contains (k : Int) then cntW ws rev t c k ws.length else 0) ws.length := by
  have key := h.cut (S := srcB rev) (by have := H.tl; omega) (by unfold srcB; rw [show decide ((2 * t) % 2 = 1) = false from by simp]; rfl) (fun v _ hs => hs)
  show flowV (2 * ws.length) (2 * t) (C0 ws rev t ws.length) c = _
  rw [key, sumN_two]
  refine sumN_congr fun k hk => ?_
  have e0 : sumN (fun v => if srcB rev (2 * k) && !srcB rev v then C0 ws rev t ws.length (2 * k) v - c (2 * k) v else 0) (2 * ws.length) = 0 := by
    refine sumN_zero' fun v _ => ?_
    rw [show srcB rev (2 * k) = false from by unfold srcB; rw [show decide ((2 * k) % 2 = 1) = false from by simp]; rfl]
    rfl
  rw [e0, Int.zero_add]
  have es : srcB rev (2 * k + 1) = rev.contains (k : Int) := by
    unfold srcB
    rw [show decide ((2 * k + 1) % 2 = 1) = true from by simp, show (2 * k + 1) / 2 = k from by omega, Bool.true_and]
  rw [es]
  cases hr : rev.contains (k : Int) with
  | false => exact sumN_zero' fun v _ => rfl
  | true =>
    rw [List.contains_iff_mem] at hr
    rw [if_pos rfl, sumN_two]
    unfold cntW
    refine sumN_congr fun i hi => ?_
    have e1 : (if true && !srcB rev (2 * i + 1) then C0 ws rev t ws.length (2 * k + 1) (2 * i + 1) - c (2 * k + 1) (2 * i + 1) else 0) = 0 := by
      rw [flow_eq0 h (by omega)]
      exact ite_self _
    have e2 : srcB rev (2 * i) = false := by unfold srcB; rw [show decide ((2 * i) % 2 = 1) = false from by simp]; rfl
    rw [e1, e2, Int.add_zero]
    simp only [Bool.not_false, Bool.and_self, if_true]
    by_cases e : i = k
    · subst e
      have hni : innB rev (t : Int) (i : Int) = false := by
        cases hb : innB rev (t : Int) (i : Int) with
        | false => rfl
        | true => exact absurd hr (innB_iff.1 hb).2
      have hit : i ≠ t := fun e => H.nt (e ▸ hr)
      have z1 : C0 ws rev t ws.length (2 * i) (2 * i + 1) = 0 := C0_no (fun h => by
        have := h.2.2.2
        rw [show 2 * i / 2 = i from by omega, hni] at this
        cases this) (fun h => by have := h.1; omega)
      have z2 : C0 ws rev t ws.length (2 * i + 1) (2 * i) = 0 := C0_no (fun h => by have := h.1; omega) (fun h => by
        have := h.2.2.2.2.2
        rw [show 2 * i / 2 = i from by omega, hni] at this
        rcases this with h | h
        · exact hit h
        · cases h)
      have h1 := h.skew (2 * i) (2 * i + 1)
      have h2 := h.nn (2 * i) (2 * i + 1)
      have h3 := h.nn (2 * i + 1) (2 * i)
      unfold wentB
      rw [hni, z2]
      simp only [Bool.false_and, Bool.false_eq_true, if_false]
      omega
    · rw [Lanes.back h e]
      have h2 := h.nn (2 * i) (2 * k + 1)
      unfold wentB
      by_cases hp : 0 < c (2 * i) (2 * k + 1)
      · have hx : nx c k i := ⟨hp, e⟩
        obtain ⟨m, _, _, hin⟩ := nx_big h hx
        rcases hin with rfl | hin
        · exact absurd m (H.dir _ hr)
        · rw [hin, decide_eq_true hp, (nx_in h hi hk hin hx).1]
          rfl
      · rw [decide_eq_false hp, Bool.and_false]
        simp only [Bool.false_eq_true, if_false]
        omega
theorem sumN_rev {h : Nat -> Int} {n : Nat} : ∀ (m : Nat), m <= rev.length -> rev.Nodup -> (∀ r ∈ rev, 0 <= r /\ r < (n : Int)) -> sumN (fun k => if (rev.take m).contains (k : Int) then h k else 0) n = sumN (fun j => h (rev.getD j 0).toNat) m
  | 0, _, _, _ => by simp only [List.take_zero, sumN]; exact sumN_zero' fun i _ => by simp
  | m + 1, hm, hn, hr => by
    have ih := sumN_rev (h := h) (n := n) m (by omega) hn hr
    have hx := hr _ (getD_memN rev (by omega : (m : Int) < _) 0)
    have hno : rev.getD m 0 ∉ rev.take m := by
      intro hc
      rw [← List.take_append_drop m rev, List.nodup_append] at hn
      refine hn.2.2 _ hc _ ?_ rfl
      rw [List.mem_iff_getElem]
      refine ⟨0, by rw [List.length_drop]; omega, ?_⟩
      rw [List.getElem_drop, getD_el rev (by omega) 0]
      simp
    simp only [sumN]
    rw [← ih, show h (rev.getD m 0).toNat = sumN (fun k => if k = (rev.getD m 0).toNat then h k else 0) n from by rw [sumN_one (k := (rev.getD m 0).toNat) (fun i _ hne => if_neg hne), if_pos (by omega), if_pos rfl], ← sumN_add]
    refine sumN_congr fun k _ => ?_
    rw [take_succ_getD rev (by omega) 0]
    by_cases e : k = (rev.getD m 0).toNat
    · have e2 : (k : Int) = rev.getD m 0 := by omega
      rw [if_pos e, e2]
      have c1 : (rev.take m).contains (rev.getD m 0) = false := by
        cases hc : (rev.take m).contains (rev.getD m 0) with
        | false => rfl
        | true => exact absurd (List.contains_iff_mem.1 hc) hno
      have c2 : (rev.take m ++ [rev.getD m 0]).contains (rev.getD m 0) = true := by rw [List.contains_iff_mem]; simp
      rw [c1, c2]
      simp
    · rw [if_neg e, Int.add_zero]
      have : (rev.take m ++ [rev.getD m 0]).contains (k : Int) = (rev.take m).contains (k : Int) := by
        rw [Bool.eq_iff_iff, List.contains_iff_mem, List.contains_iff_mem, List.mem_append, List.mem_singleton]
        constructor
        · rintro (h | h)
          · exact h
          · omega
        · exact .inl
      rw [this]
/-- All lines that are full let as many go. -/
theorem FullL.cut (hF : FullL ws rev t c) : ∃ S, Cut ws rev t c S := by
  classical
  refine ⟨fun u => decide (∃ r, r ∈ rev /\ ∃ S, ShutN (2 * ws.length) c S /\ S (2 * t) = false /\ S (2 * r.toNat + 1) = true /\ S u = true), fun u v hu hv h1 h2 => ?_, ?_, fun r hr => ?_⟩
  · have h1 := of_decide_eq_true h1
    obtain ⟨r, hr, S, a, b, d, e⟩ := h1
    exact decide_eq_true ⟨r, hr, S, a, b, d, a u v hu hv e h2⟩
  · refine decide_eq_false ?_
    rintro ⟨r, hr, S, a, b, d, e⟩
    rw [b] at e
    cases e
  · obtain ⟨S, a, b, d⟩ := hF.shut r hr
    exact decide_eq_true ⟨r, hr, S, a, b, d, d⟩
theorem FullL.uniq (H : LnHyp ws rev t) {c1 c2 : Nat -> Nat -> Int} (h1 : FullL ws rev t c1) (h2 : FullL ws rev t c2) : vaL ws rev t c1 = vaL ws rev t c2 := by
  have key : ∀ {c1 c2 : Nat -> Nat -> Int}, FullL ws rev t c1 -> FullL ws rev t c2 -> vaL ws rev t c1 <= vaL ws rev t c2 := by
    intro c1 c2 h1 h2
    obtain ⟨S, hS⟩ := h2.cut
    have hsrc : ∀ v, v < 2 * ws.length -> srcB rev v = true -> S v = true := fun v _ hs => by
      have := srcB_iff.1 hs
      have h2 := hS.src _ this.2
      rw [Int.toNat_natCast] at h2
      rwa [show 2 * (v / 2) + 1 = v from by omega] at h2
    have a := h1.flow.le (S := S) (by have := H.tl; omega) hS.no hsrc
    have b := h2.flow.full (S := S) (by have := H.tl; omega) hS.no hsrc (fun u v hu hv h3 h4 => by
      have hn := h2.flow.nn u v
      by_cases e : 0 < c2 u v
      · rw [hS.shut u v hu hv h3 e] at h4; cases h4
      · omega)
    exact Int.le_trans a (Int.le_of_eq b.symm)
  exact Int.le_antisymm (key h1 h2) (key h2 h1)
/-- A line on its way. -/
structure OnWay (ws : List Work) (rev : List Int) (t : Nat) (c : Nat -> Nat -> Int) (r i : Int) (l : List Int) (s : Int) : Prop where
  chn : Chn c (l ++ [s])
  one : 1 <= l.length
  rng : ∀ x ∈ l ++ [s], 0 <= x /\ x < (ws.length : Int)
  fst : (l ++ [s]).getD 0 0 = r
  snd : (l ++ [s]).getD 1 0 = i
  mid : ∀ j, 1 <= j -> j < l.length -> innB rev (t : Int) (l.getD j 0) = true
  end_ : s = (t : Int) ∨ (innB rev (t : Int) s = true /\ c (2 * s.toNat) (2 * s.toNat + 1) = 0)
  len : l.length <= posO ws s + 1
theorem chn_snoc {l : List Int} {s k : Int} (h : Chn c (l ++ [s])) (hx : nx c s.toNat k.toNat) : Chn c ((l ++ [s]) ++ [k]) := by
  intro j hj
  simp only [List.length_append, List.length_cons, List.length_nil] at hj
  by_cases e : j + 1 < (l ++ [s]).length
  · rw [clL (by omega : j < (l ++ [s]).length), clL e]
    exact h j e
  · simp only [List.length_append, List.length_cons, List.length_nil] at e
    obtain rfl : j = l.length := by omega
    rw [clL (by simp : l.length < (l ++ [s]).length), clR]
    have : ((l ++ [s]) ++ [k]).getD (l.length + 1) 0 = k := by simp
    rw [this]
    exact hx
theorem OnWay.next (hO : openedE ws = 0) (h : Lanes ws rev t c) {r i s : Int} {l : List Int} (hw : OnWay ws rev t c r i l s) {k : Nat} (hx : nx c s.toNat k) : OnWay ws rev t c r i (l ++ [s]) (k : Int) /\ posO ws s < posO ws (k : Int) := by
  have hs := hw.rng s (by simp)
  obtain ⟨b1, b2, b3, b4⟩ := nx_big h hx
  rw [Int.toNat_of_nonneg hs.1] at b1
  have hp := posO_lt (order_all hO (i := (k : Int)) (by omega) (by omega)) (by rw [Int.toNat_natCast]; exact b1)
  have hone := hw.one
  refine ⟨⟨chn_snoc hw.chn (by rw [Int.toNat_natCast]; exact hx), by simp, fun x hx => ?_, ?_, ?_, fun j h1 h2 => ?_, ?_, ?_⟩, hp⟩
  · rcases List.mem_append.1 hx with hx | hx
    · exact hw.rng x hx
    · rw [List.mem_singleton.1 hx]; omega
  · rw [clL (by simp : 0 < (l ++ [s]).length)]; exact hw.fst
  · rw [clL (by simp; omega : 1 < (l ++ [s]).length)]; exact hw.snd
  · simp only [List.length_append, List.length_cons, List.length_nil] at h2
    by_cases e : j < l.length
    · rw [clL e]; exact hw.mid j h1 e
    · obtain rfl : j = l.length := by omega
      rw [clR]
      rcases hw.end_ with h3 | h3
      · exfalso; exact b3 (by omega)
      · exact h3.1
  · rcases b4 with b4 | b4
    · exact .inl (by omega)
    · refine .inr ⟨b4, ?_⟩
      rw [Int.toNat_natCast]
      exact (nx_in h b2 (by omega) b4 hx).2
  · have := hw.len
    simp only [List.length_append, List.length_cons, List.length_nil]
    omega
theorem OnWay.done {r i : Int} {l : List Int} (hw : OnWay ws rev t c r i l (t : Int)) (hr : r ∈ rev) : Went ws rev t c (l ++ [(t : Int)]) :=
  ⟨hw.chn, by have := hw.one; simp only [List.length_append, List.length_cons, List.length_nil]; omega, hw.rng, by rw [hw.fst]; exact hr, fun j h1 h2 => by
    simp only [List.length_append, List.length_cons, List.length_nil] at h2
    rw [clL (by omega : j < l.length)]
    exact hw.mid j h1 (by omega)⟩
end Go.Nm
namespace Go.Proofs.Ytndobgodeicloaa
open Go Go.Nm
variable {ws : List Work} {rev : List Int} {t : Nat}
theorem upto_get {n j : Nat} (h : j < n) : (upto n).getD j 0 = (j : Int) := by
  unfold upto
  rw [getD_el _ (by simpa using h) 0]
  simp
theorem upto_len (n : Nat) : (upto n).length = n := by simp [upto]
theorem lines_all (hn : ws.length <= 1000) : (M.iter (zaC ws) (List.replicate (ws.length) (0 : Int), 0)).Ends (upto ws.length, upto ws.length) := by
  have h := M.i_for (body := zaC ws) (r := (upto ws.length, upto ws.length)) (fun i => (upto i ++ List.replicate (ws.length - i) (0 : Int), i)) ws.length (fun i hi => ?_) ?_
  · simp [upto] at h ⊢
    exact h
  · have hl : (upto i ++ List.replicate (ws.length - i) (0 : Int)).length = ws.length := by rw [List.length_append, upto_len, List.length_replicate]; omega
    simp only [zaC]
    refine M.i_t (by rw [List.length_replicate]; simpa using hi) (M.grdD (by omega) ?_)
    have : (upto i ++ List.replicate (ws.length - i) (0 : Int)).set i (i : Int) = upto (i + 1) ++ List.replicate (ws.length - (i + 1)) (0 : Int) := by
      rw [List.set_append_right _ _ (by rw [upto_len]; omega), upto_len, Nat.sub_self, upto_succ]
      obtain ⟨d, hd⟩ : ∃ d, ws.length - i = d + 1 := ⟨ws.length - i - 1, by omega⟩
      rw [hd, show ws.length - (i + 1) = d from by omega, List.replicate_succ, List.set_cons_zero, List.append_assoc]
      rfl
    rw [this]
    exact M.i_pure
  · simp only [zaC]
    refine M.i_f (by rw [List.length_replicate]; simp) ?_
    rw [Nat.sub_self, List.replicate_zero, List.append_nil]
    exact M.i_pure
theorem went_ends {i k : Nat} (hi : i < 1000) (hk : k < 1000) (mp : Gate -> Option Int) (m : Int -> Option Bool) : (zaZ (i : Int) (k : Int) ws rev (t : Int) mp m).Ends (decide (0 < roomN mp (2 * k) (2 * i + 1))) := by
  unfold zaZ
  refine M.i_grd (gA2 (by omega) (by omega)) (M.i_grd (gA2 (by omega) (by omega)) (M.i_grd (gA2 (by omega) (by omega)) ?_))
  have : (⟨(2 * (k : Int) : Int), ((2 * (i : Int)) + 1 : Int)⟩ : Gate) = ⟨((2 * k : Nat) : Int), ((2 * i + 1 : Nat) : Int)⟩ := by congr 1
  rw [this]
  exact M.i_pure
theorem line_way_out (H : LnHyp ws rev t) {mp : Gate -> Option Int} (m : Int -> Option Bool) (hF : Lanes ws rev t (roomN mp)) {r i : Int} {s : Int} {l : List Int} (hw : OnWay ws rev t (roomN mp) r i l s) :
    (M.iter (zbk ws rev (t : Int) (t : Int) mp m (upto ws.length)) (l, s)).Out (fun q => q.1 = q.2 /\ OnWay ws rev t (roomN mp) r i q.2 (t : Int)) := by
  have hl := right_len (opened_right H.opn)
  refine M.o_iter (fun (d : Nat) (st : List Int × Int) => d = ws.length - posO ws st.2 /\ OnWay ws rev t (roomN mp) r i st.1 st.2) ?_ _ (l, s) ⟨rfl, hw⟩
  rintro d ⟨l, s⟩ ⟨rfl, hw⟩
  dsimp only at hw ⊢
  have hs := hw.rng s (by simp)
  have hp := posO_le (order_all H.opn hs.1 hs.2)
  have hlen := hw.len
  obtain ⟨sn, rfl⟩ := Int.eq_ofNat_of_zero_le hs.1
  simp only [zbk]
  refine M.o_if (fun hb => ?_) (fun hb => ?_)
  · have hne : (sn : Int) ≠ (t : Int) := by simpa using hb
    have hend := hw.end_.resolve_left hne
    rw [Int.toNat_natCast] at hend
    obtain ⟨k0, hk0, hx0⟩ := nx_out hF (by omega) hend.1 hend.2
    refine M.o_grdD (by simp only [List.length_cons, List.length_nil]; omega) (M.o_bind (indexFunc_out (p := fun x => decide (0 < roomN mp (2 * x.toNat) (2 * sn + 1))) (fun x hx => ?_) ?_) ?_)
    · obtain ⟨j, hj, rfl⟩ := mem_getD hx 0
      rw [upto_len] at hj
      rw [upto_get hj, Int.toNat_natCast]
      unfold zbO
      exact M.i_bind (went_ends (by omega) (by omega) mp m) M.i_pure
    · rw [List.any_eq_true]
      refine ⟨(k0 : Int), ?_, ?_⟩
      · rw [← upto_get hk0]; exact getD_memN _ (by rw [upto_len]; omega) 0
      · rw [Int.toNat_natCast]; exact decide_eq_true hx0.1
    · rintro k ⟨k1, k2, k3⟩
      rw [upto_len] at k2
      rw [upto_get (by omega), Int.toNat_natCast] at k3
      have k3 := of_decide_eq_true k3
      obtain ⟨kn, rfl⟩ := Int.eq_ofNat_of_zero_le k1
      rw [Int.toNat_natCast] at k3
      have hx : nx (roomN mp) ((sn : Int)).toNat kn := ⟨by rw [Int.toNat_natCast]; exact k3, fun e => by
        rw [Int.toNat_natCast] at e
        rw [e, hend.2] at k3
        omega⟩
      obtain ⟨h1, h2⟩ := hw.next H.opn hF hx
      exact M.o_pure ⟨_, by dsimp only; omega, rfl, h1⟩
  · have he : (sn : Int) = (t : Int) := by simpa using hb
    rw [he] at hw
    exact M.o_pure ⟨rfl, hw⟩
/-- The lines so far. -/
structure SoFar (ws : List Work) (rev : List Int) (t : Nat) (c : Nat -> Nat -> Int) (s i : Nat) (ls : List (List Int)) : Prop where
  went : ∀ l ∈ ls, Went ws rev t c l /\ l.getD (l.length - 1) 0 = (t : Int)
  old : ∀ l ∈ ls, (∃ j, j < s /\ l.getD 0 0 = rev.getD j 0) ∨ (l.getD 0 0 = rev.getD s 0 /\ l.getD 1 0 < (i : Int))
  two : ls.Pairwise fun a b => ∀ x ∈ midL a, x ∉ midL b
  cnt : (ls.length : Int) = sumN (fun j => cntW ws rev t c (rev.getD j 0).toNat ws.length) s + cntW ws rev t c (rev.getD s 0).toNat i
  few : ls.length <= s * 30 + i
theorem nodup_getD {l : List Int} (h : l.Nodup) {i j : Nat} (hi : i < l.length) (hj : j < l.length) (e : l.getD i 0 = l.getD j 0) : i = j := by
  rw [getD_el l hi 0, getD_el l hj 0] at e
  have key := List.pairwise_iff_getElem.1 h
  by_cases h1 : i < j
  · exact absurd e (key i j hi hj h1)
  · by_cases h2 : j < i
    · exact absurd e.symm (key j i hj hi h2)
    · omega
theorem SoFar.put {c : Nat -> Nat -> Int} (hF : Lanes ws rev t c) (hn : rev.Nodup) {s i : Nat} {ls : List (List Int)} (hs : s < rev.length) (h : SoFar ws rev t c s i ls) {l : List Int} (hw : OnWay ws rev t c (rev.getD s 0) (i : Int) l (t : Int)) (hb : wentB rev t c (rev.getD s 0).toNat i = true) :
    SoFar ws rev t c s (i + 1) (ls ++ [l ++ [(t : Int)]]) := by
  have hrm := getD_memN rev (by omega : (s : Int) < _) 0
  have hW := hw.done hrm
  refine ⟨fun m hm => ?_, fun m hm => ?_, ?_, ?_, ?_⟩
  · rcases List.mem_append.1 hm with hm | hm
    · exact h.went m hm
    · rw [List.mem_singleton.1 hm]
      refine ⟨hW, ?_⟩
      rw [show (l ++ [(t : Int)]).length - 1 = l.length from by simp]
      exact clR
  · rcases List.mem_append.1 hm with hm | hm
    · rcases h.old m hm with h1 | h1
      · exact .inl h1
      · exact .inr ⟨h1.1, by have := h1.2; omega⟩
    · rw [List.mem_singleton.1 hm]
      exact .inr ⟨hw.fst, by rw [hw.snd]; omega⟩
  · rw [List.pairwise_append]
    refine ⟨h.two, List.pairwise_singleton _ _, fun a ha b hb x hx hy => ?_⟩
    rw [List.mem_singleton.1 hb] at hy
    obtain ⟨j, j1, j2, rfl⟩ := midL_mem.1 hx
    obtain ⟨k, k1, k2, e⟩ := midL_mem.1 hy
    have := went_same hF (h.went a ha).1 hW j k j1 k1 j2 k2 e.symm
    rw [hw.fst, hw.snd] at this
    rcases h.old a ha with ⟨q, q1, q2⟩ | ⟨_, q2⟩
    · rw [q2] at this
      have := nodup_getD hn (by omega) hs this.1
      omega
    · omega
  · rw [List.length_append]
    have := h.cnt
    have e : cntW ws rev t c (rev.getD s 0).toNat (i + 1) = cntW ws rev t c (rev.getD s 0).toNat i + 1 := by
      unfold cntW
      simp only [sumN]
      rw [hb]
      rfl
    simp only [List.length_cons, List.length_nil]
    omega
  · have := h.few
    simp only [List.length_append, List.length_cons, List.length_nil]
    omega
theorem SoFar.skip {c : Nat -> Nat -> Int} {s i : Nat} {ls : List (List Int)} (h : SoFar ws rev t c s i ls) (hb : wentB rev t c (rev.getD s 0).toNat i = false) : SoFar ws rev t c s (i + 1) ls := by
  refine ⟨h.went, fun m hm => ?_, h.two, ?_, by have := h.few; omega⟩
  · rcases h.old m hm with h1 | h1
    · exact .inl h1
    · exact .inr ⟨h1.1, by have := h1.2; omega⟩
  · have := h.cnt
    have e : cntW ws rev t c (rev.getD s 0).toNat (i + 1) = cntW ws rev t c (rev.getD s 0).toNat i := by
      unfold cntW
      simp only [sumN]
      rw [hb]
      simp
    omega
theorem lines_out (H : LnHyp ws rev t) (hn : rev.Nodup) {mp : Gate -> Option Int} (m : Int -> Option Bool) (hF : Lanes ws rev t (roomN mp)) :
    (M.iter (zaL ws rev (t : Int) (t : Int) mp m (upto ws.length)) (0, [])).Out (fun q => ApartA ws rev t q.2 /\ (q.2.length : Int) = vaL ws rev t (roomN mp) /\ q.2.length <= 1000) := by
  have hl := right_len (opened_right H.opn)
  have hrl := nodup_bound ws.length rev hn H.rng
  refine M.o_for rev.length (fun s st => st.1 = s /\ SoFar ws rev t (roomN mp) s 0 st.2) ?_ ?_ (s := (0, [])) ⟨rfl, fun l h => by simp at h, fun l h => by simp at h, List.Pairwise.nil, rfl, Nat.zero_le _⟩
  · rintro s ⟨s', ls⟩ hs ⟨rfl, hS⟩
    dsimp only at hs hS ⊢
    have hrm := getD_memN rev (by omega : (s' : Int) < _) 0
    have hr := H.rng _ hrm
    simp only [zaL]
    refine M.o_t (by simpa using hs) (M.o_grdD (by omega) (M.o_bind (P := fun q => SoFar ws rev t (roomN mp) s' ws.length q.2) ?_ ?_))
    · refine M.o_for ws.length (fun i st => st.1 = i /\ SoFar ws rev t (roomN mp) s' i st.2) ?_ ?_ (s := (0, ls)) ⟨rfl, hS⟩
      · rintro i ⟨i', ls⟩ hi ⟨rfl, hS⟩
        dsimp only at hi hS ⊢
        have hfew := hS.few
        have hin : (zag ws rev (t : Int) mp m (i' : Int)).Ends (innB rev (t : Int) (i' : Int)) := M.i_pure
        have hwe := went_ends (ws := ws) (rev := rev) (t := t) (i := (rev.getD s' 0).toNat) (k := i') (by omega) (by omega) mp m
        rw [Int.toNat_of_nonneg hr.1] at hwe
        have hop : (M.opt (!(!innB rev (t : Int) (i' : Int))) (zaZ (rev.getD s' 0) (i' : Int) ws rev (t : Int) mp m) false).Ends ((!(!innB rev (t : Int) (i' : Int))) && decide (0 < roomN mp (2 * i') (2 * (rev.getD s' 0).toNat + 1))) := by
          refine M.i_opt (fun h => ?_) (fun h => ?_)
          · rw [h, Bool.true_and]; exact hwe
          · rw [h]; rfl
        simp only [zbp]
        rw [upto_len, upto_get hi]
        refine M.o_t (by simpa using hi) (M.o_grdD (by omega) (M.o_bindE hin (M.o_bindE hop (M.o_if (fun hb => ?_) (fun hb => ?_)))))
        · refine M.o_pure ⟨rfl, hS.skip ?_⟩
          unfold wentB
          cases h1 : innB rev (t : Int) (i' : Int) with
          | false => rfl
          | true => rw [h1] at hb; simpa using hb
        · have hb' : wentB rev t (roomN mp) (rev.getD s' 0).toNat i' = true := by
            unfold wentB
            cases h1 : innB rev (t : Int) (i' : Int) with
            | false => rw [h1] at hb; simp at hb
            | true => rw [h1] at hb; simpa using hb
          have hb2 := hb'
          unfold wentB at hb2
          simp only [Bool.and_eq_true, decide_eq_true_eq] at hb2
          have hne : (i' : Int) ≠ rev.getD s' 0 := fun e => (innB_iff.1 hb2.1).2 (by rw [e]; exact hrm)
          have hx : nx (roomN mp) (rev.getD s' 0).toNat i' := ⟨hb2.2, by omega⟩
          have hw0 : OnWay ws rev t (roomN mp) (rev.getD s' 0) (i' : Int) [rev.getD s' 0] (i' : Int) := by
            refine ⟨fun j hj => ?_, by simp, fun x hx => ?_, rfl, rfl, fun j h1 h2 => by simp at h2; omega, .inr ⟨hb2.1, ?_⟩, by simp⟩
            · simp only [List.length_append, List.length_cons, List.length_nil] at hj
              obtain rfl : j = 0 := by omega
              exact hx
            · simp only [List.cons_append, List.nil_append, List.mem_cons, List.not_mem_nil, or_false] at hx
              rcases hx with rfl | rfl
              · exact hr
              · omega
            · rw [Int.toNat_natCast]
              exact (nx_in hF hi (by omega) hb2.1 hx).2
          refine M.o_bind (line_way_out H m hF hw0) ?_
          rintro ⟨l5, l6⟩ ⟨_, hw⟩
          dsimp only at hw ⊢
          have hwl := hw.len
          have hwp := posO_le (order_all H.opn (i := (t : Int)) (by omega) (by have := H.tl; omega))
          exact M.o_grdD (by simp only [List.length_cons, List.length_nil]; omega) (M.o_grdD (by simp only [List.length_cons, List.length_nil]; omega) (M.o_pure ⟨rfl, hS.put hF hn hs hw hb'⟩))
      · rintro ⟨i', ls⟩ ⟨rfl, hS⟩
        dsimp only at hS ⊢
        simp only [zbp]
        exact M.o_f (by rw [upto_len]; simp) (M.o_pure hS)
    · rintro ⟨l8, l11⟩ hS
      dsimp only at hS ⊢
      refine M.o_pure ⟨rfl, hS.went, fun l hl => .inl ?_, hS.two, ?_, by have := hS.few; dsimp only; omega⟩
      · rcases hS.old l hl with ⟨j, h1, h2⟩ | ⟨h1, _⟩
        · exact ⟨j, by omega, h2⟩
        · exact ⟨s', by omega, h1⟩
      · have := hS.cnt
        simp only [sumN]
        rw [this]
        show _ = _ + sumN _ 0
        simp only [sumN]
        omega
  · rintro ⟨s', ls⟩ ⟨rfl, hS⟩
    dsimp only at hS ⊢
    simp only [zaL]
    refine M.o_f (by simp) (M.o_pure ⟨⟨fun l hl => ?_, hS.two⟩, ?_, by have := hS.few; dsimp only; omega⟩)
    · obtain ⟨hW, hlast⟩ := hS.went l hl
      exact ⟨hW.two, hW.rng, hW.line hF, hW.head, hlast, hW.mid⟩
    · have := hS.cnt
      rw [this, val_lines H hF]
      have h2 := sumN_rev (rev := rev) (h := fun k => cntW ws rev t (roomN mp) k ws.length) (n := ws.length) rev.length (Nat.le_refl _) hn H.rng
      rw [List.take_length] at h2
      rw [h2]
      show _ + sumN _ 0 = _
      simp only [sumN]
      omega
end Go.Proofs.Ytndobgodeicloaa
namespace Go.Nm
variable {ws : List Work}
/-- A line from one work to another one. -/
structure LineG (ws : List Work) (a b : Int) (l : List Int) : Prop where
  line : lineB ws l = true
  rng : ∀ x ∈ l, 0 <= x /\ x < (ws.length : Int)
  first : ∃ r, l = a :: r
  last : ∃ r, l = r ++ [b]
  len : l.length + posO ws a <= ws.length
theorem LineG.one (hO : openedE ws = 0) {a : Int} (h0 : 0 <= a) (h1 : a < ws.length) : LineG ws a a [a] :=
  ⟨rfl, fun x hx => by rw [List.mem_singleton.1 hx]; exact ⟨h0, h1⟩, ⟨[], rfl⟩, ⟨[], rfl⟩, by have := posO_le (order_all hO h0 h1); simp; omega⟩
theorem LineG.cons {a x b : Int} {l : List Int} (h0 : 0 <= a) (h1 : a < ws.length) (hs : Succ ws a x) (hx : posO ws a < posO ws x) (h : LineG ws x b l) : LineG ws a b ([a] ++ l) := by
  obtain ⟨r, hr⟩ := h.first
  obtain ⟨q, hq⟩ := h.last
  refine ⟨?_, fun y hy => ?_, ⟨l, rfl⟩, ⟨a :: q, by rw [hq]; rfl⟩, ?_⟩
  · have := h.line
    rw [hr] at this ⊢
    show ((ws.getD x.toNat default).of.contains a && lineB ws (x :: r)) = true
    rw [this, Bool.and_true, List.contains_iff_mem]
    exact hs.2.2
  · rcases List.mem_append.1 hy with hy | hy
    · rw [List.mem_singleton.1 hy]; exact ⟨h0, h1⟩
    · exact h.rng y hy
  · have := h.len
    simp only [List.length_append, List.length_cons, List.length_nil]
    omega
end Go.Nm
namespace Go.Proofs.Ytndobgodeicloaa
open Go Go.Nm
variable {ws : List Work}
end Go.Proofs.Ytndobgodeicloaa
namespace Go.Nm
open Go
theorem sl_lohi {α : Type} [Elt α] {P : Program} {t e : TypeId} (hu : P.underlying t = some (.slice e)) (hs : (P.info? e).map (·.size) = some (Elt.sz α)) {C : Cells} {v : Value} {l : List α} (h : Sl C v l) {i j : Int} (h0 : 0 <= i) (h1 : i <= j) (h2 : j <= l.length) :
    ∃ u, (∀ w, (Instr.sliceAt t v (some (.int .i64 i)) (some (.int .i64 j)) none).run P w = .ok u w) /\ Sl C u ((l.take j.toNat).drop i.toNat) := by
  obtain ⟨a, c, hv, hc, hm, hh⟩ := h.ex
  have hlen : ((l.take j.toNat).drop i.toNat).length = j.toNat - i.toNat := by simp; omega
  refine ⟨.slice (if c = i.toNat then a else a.map (·.add (i.toNat * Elt.sz α))) (j.toNat - i.toNat) (c - i.toNat), fun w => ?_, ⟨_, c - i.toNat, by rw [hlen], by omega, by omega, fun k x hx => ?_⟩⟩
  · subst hv
    have hjc : j <= (c : Int) := by omega
    simp [Instr.sliceAt, Instr.slice, Instr.sliceBounds, Instr.sliceBound, asIntOf, run_underlying hu, run_sizeOf hs, h0, hjc]
    rw [if_pos (by omega), if_pos (by omega)]
  · rw [List.getElem?_drop, List.getElem?_take] at hx
    split at hx
    · have hlt := (List.getElem?_eq_some_iff.1 hx).1
      obtain ⟨b, o, cs, ha, hr, hy⟩ := hh _ x hx
      refine ⟨b, o + i.toNat * Elt.sz α, cs, ?_, hr, fun j y hj => ?_⟩
      · rw [if_neg (by omega), ha]
        simp [add_lit]
      · have := hy j y hj
        rwa [show o + (i.toNat + k) * Elt.sz α + j = o + i.toNat * Elt.sz α + k * Elt.sz α + j from by rw [Nat.add_mul]; omega] at this
    · cases hx
end Go.Nm
