/- Part 4 of the texts on which the proof rests. Conditions: none. -/
import Derived.KernelRfl
import Derived.Test.YtbaehghammbjdaaGreatZE3
set_option linter.unusedVariables false
set_option linter.unusedSimpArgs false
set_option linter.unusedSectionVars false
section
set_option maxRecDepth 100000
set_option maxHeartbeats 16000000
namespace Go.Proofs.YtbaehghammbjdaaGreat
open Go Go.Nm
def zdn (ae : List Int) (ag : List Span) (ah : List Int) (ai : List Town) (aa : List Flood) (aj ak : Int) (al : List Bool) (r3 : List Int) : (Int × Int × Nat) -> M ((Int × Int × Nat) ⊕ (Int × Int)) := fun (ab, flood, s) =>
  bif decide ((s : Int) < (r3.length : Int)) then (
  M.grd (decide ((s : Int) < (r3.length : Int))) <|
  M.grd (decide ((0 : Int) <= (r3.getD s 0)) && decide ((r3.getD s 0) < (aa.length : Int))) <|
  M.bind (zbc ae ag ah ai aj ak aa (aa.getD (Int.toNat (r3.getD s 0)) default) al) fun (r0, ac, am) =>
  bif decide (ac < ab) then (
  M.pure (.inl (ac, r3.getD s 0, s + 1)))
  else (
  M.pure (.inl (ab, flood, s + 1))))
  else (
  M.pure (.inr (ab, flood)))
def zdp (aa : List Int) (ab : List Span) (ac : List Int) (ae : List Town) (ag : List Flood) (watches : List Int) (ah ai : Int) (aj : List Bool) : (Nat × (List Int) × (List Int)) -> M ((Nat × (List Int) × (List Int)) ⊕ ((List Int) × (List Int) × (List Int) × (List Int))) := fun (s2, l, l2) =>
  bif decide ((s2 : Int) < (watches.length : Int)) then (
  M.grd (decide ((s2 : Int) < (watches.length : Int))) <|
  M.bind (zdH aa ab ac ae ah ai ag aj (watches.getD s2 0)) fun r3 =>
  M.bind (M.iter (zdn aa ab ac ae ag ah ai aj r3) (2001, -1, 0)) fun (ak, flood2) =>
  M.grd (decide ((l.length + ([(ak : Int)]).length) * 8 <= 140737488355328)) <|
  M.grd (decide ((l2.length + ([(flood2 : Int)]).length) * 8 <= 140737488355328)) <|
  M.pure (.inl (s2 + 1, l ++ ([(ak : Int)]), l2 ++ ([(flood2 : Int)]))))
  else (
  M.pure (.inr (l, l2, l2, l)))
def zdt (aa : List Int) (ab : List Span) (ac : List Int) (ae : List Town) (ah ai : Int) (ag : List Flood) (watches : List Int) : M ((List Int) × (List Int) × Int) :=
  M.bind (zaH aa ab ac ae ah ai ag watches) fun x_ => match x_ with
  | (.inl (r1, r2)) => (
  bif r2 != 0 then (
  M.pure (([]), ([]), r2))
  else (
  M.fail))
  | (.inr (aj, ak, al, am)) => (
  bif am != 0 then (
  M.fail)
  else (
  M.bind (M.iter (zdp aa ab ac ae ag watches aj ak al) (0, [], [])) fun (l3, l4, l5, l6) =>
  M.pure (l6, l5, 0)))
theorem zdI {R : List Chunk} {bp : Cells} {ai : Value} {bq : Cells} {aj : Value} {br : Cells} {ak : Value} {bt : Cells} {al : Value} {bu : Cells} {ah : Value} {bv : Cells} {aE : Value} (au : List Int) (av : List Span) (aw : List Int) (ax : List Town) (ay : Int) (az : Int) (ag : List Flood) (watches : List Int) (aW : Reads R bp) (aX : Sl bp ai au) (aY : Reads R bq) (aZ : Sl bq aj av) (a6 : Reads R br) (a7 : Sl br ak aw) (a8 : Reads R bt) (ba : Sl bt al ax) (aG : Reads R bu) (aM : Sl bu ah ag) (bw : Reads R bv) (aO : Sl bv aE watches) {r : ((List Int) × (List Int) × Int)} (hM : (zdt au av aw ax ay az ag watches).Ends r) (w : World) (H : St w w [] R) : Ret Tryz.prog 13 #[.agg #[ai, aj, ak, al, I ay, I az, ah], aE] w fun v w' => ∃ (y0 : List Int) (y1 : List Int) (y2 : Int) (u0 : Value) (u1 : Value), (y0, y1, y2) = r /\ v = .tuple #[u0, u1, I y2] /\ St w w' [cOwn (α := Int) 3 u0 y0, cOwn (α := Int) 3 u1 y1] R := by
 refine ret_of_W Tryz.func13 rfl rfl rfl <| W.seq <| W.region rfl ?_;refine t_bx [ai, aj, ak, al, I ay, I az, ah] H rfl ?_;intro aP bX H;refine zA (.slice none 0 0) rfl <| zA (.slice none 0 0) rfl <| zA (I 0) rfl <| s_nil <| W.seq <| W.region rfl <| s_val (x_ld (v := .agg #[ai, aj, ak, al, I ay, I az, ah]) rfl (ldb_ag (ds := [ai, aj, ak, al, I ay, I az, ah]) Ag29 Sz29 (H.bl 0) rfl rfl)) <| zM aE rfl ?_;obtain ⟨bY, bE, hM⟩ := M.e_bind hM;refine s_call cf46 [.agg #[ai, aj, ak, al, I ay, I az, ah], aE] rfl (zdd au av aw ax ay az ag watches (aW.app _) aX (aY.app _) aZ (a6.app _) a7 (a8.app _) ba (aG.app _) aM (bw.app _) aO bE _ (H.gt 1)) ?_
 rintro vq bZ (⟨r1, r2, bF, hvq, am, bG⟩ | ⟨ao, aq, ab, aA, aa, aF, bc, bH, hvq, am, aN⟩)
 ·subst bF;subst vq;(try dsimp only at hM);replace H := H.bk am;clear am;refine zM (.tuple #[.pointer none, .agg (encB r1).toArray, I r2]) rfl <| zX [.pointer none, .agg (encB r1).toArray, I r2] (.pointer none) rfl rfl <| zX [.pointer none, .agg (encB r1).toArray, I r2] (.agg (encB r1).toArray) rfl rfl <| zX [.pointer none, .agg (encB r1).toArray, I r2] (I r2) rfl rfl ?_;refine t_alloc (cs := encB (List.replicate 12 false)) H Al96 rfl ?_;intro aB b4 H
  have bj : (List.replicate 12 false).length = 12 := by simp
  refine zA (.pointer none) rfl ?_;refine t_stArrA (k := 0) (b := aB) (l := List.replicate 12 false) (l' := r1) (L' := [cBlk aB (encB r1) 96, cBlk aP [ai, aj, ak, al, I ay, I az, ah] 29]) H rfl rfl rfl Sz96 bj bG rfl ?_;intro b7 H;refine zA (I r2) rfl <| s_nil <| W.seq <| W.seq <| W.region rfl <| zM (I r2) rfl <| zC r2 0 (r2 != 0) rfl rfl rfl <| s_nil ?_
  refine W.cond (r2 != 0) rfl (fun aQ => ?_) (fun aQ => ?_)
  ·replace hM := M.e_t hM aQ
   replace aQ := dI aQ
   refine W.seq <| W.region rfl <| zM (I r2) rfl <| zA (.slice none 0 0) rfl <| zA (.slice none 0 0) rfl <| zA (I r2) rfl <| s_nil ?_;replace H := H.pk [];refine W.ret ?_
   have bm := M.e_pure hM
   replace H := H.nilOwn (α := Int) 3
   replace H := H.nilOwn (α := Int) 3
   exact ⟨_, resE_tmp3 rfl, ⟨([]), ([]), r2, (.slice none 0 0), (.slice none 0 0), bm, rfl, (H.pk [1, 0])⟩⟩
  replace hM := M.e_f hM aQ
  exact (M.e_fail hM).elim
 subst bH;subst vq;(try dsimp only at hM);replace H := H.bk am;clear am;refine zM (.tuple #[Pq aa, .agg (encB ab).toArray, I aA]) rfl <| zX [Pq aa, .agg (encB ab).toArray, I aA] (Pq aa) rfl rfl <| zX [Pq aa, .agg (encB ab).toArray, I aA] (.agg (encB ab).toArray) rfl rfl <| zX [Pq aa, .agg (encB ab).toArray, I aA] (I aA) rfl rfl ?_;refine t_alloc (cs := encB (List.replicate 12 false)) H Al96 rfl ?_;intro aB b8 H
 have bj : (List.replicate 12 false).length = 12 := by simp
 refine zA (Pq aa) rfl ?_;refine t_stArrA (k := 0) (b := aB) (l := List.replicate 12 false) (l' := ab) (L' := [cBlk aB (encB ab) 96, cBlk aa [ai, aj, ak, al, I ao, I aq, ah, .map (some aF)] 111, cMem encDm aF bc (zaa au av aw ax ao aq ag), cBlk aP [ai, aj, ak, al, I ay, I az, ah] 29]) H rfl rfl rfl Sz96 bj aN rfl ?_;intro b9 H;refine zA (I aA) rfl <| s_nil <| W.seq <| W.seq <| W.region rfl <| zM (I aA) rfl <| zC aA 0 (aA != 0) rfl rfl rfl <| s_nil ?_
 refine W.cond (aA != 0) rfl (fun aR => ?_) (fun aR => ?_)
 ·replace hM := M.e_t hM aR
  exact (M.e_fail hM).elim
 replace hM := M.e_f hM aR
 replace aR := dI aR
 refine W.skip <| W.seq <| W.seq <| W.region rfl <| zM aE rfl ?_
 have ca := (aO).len_le
 refine s_val (x_lenS T22.und rfl aO) <| zM (I 0) rfl <| s_nil <| W.block ?_
 replace H := H.nilOwn (α := Int) 3
 replace H := H.nilOwn (α := Int) 3
 obtain ⟨bI, bn, bJ⟩ := M.e_bind hM
 obtain ⟨bK, bn⟩ := M.e_iter bn
 refine W.loop (fun m σ W => ∃ (s2 : Nat) (l : List Int) (l2 : List Int) (aC : Value) (aD : Value) (ρ : Env), σ = upds ρ [(4, aC), (5, aD), (7, Pq aa), (8, Pq aB), (26, aE), (27, I (watches.length : Int)), (28, I (s2 : Int))] /\ M.iterN (zdp au av aw ax ag watches ao aq ab) m (s2, l, l2) = some bI /\ St w W [cOwn (α := Int) 3 aD l2, cOwn (α := Int) 3 aC l, cBlk aB (encB ab) 96, cBlk aa [ai, aj, ak, al, I ao, I aq, ah, .map (some aF)] 111, cMem encDm aF bc (zaa au av aw ax ao aq ag), cBlk aP [ai, aj, ak, al, I ay, I az, ah] 29] R) ?_ ?_
 ·exact ⟨_, 0, [], [], (.slice none 0 0), (.slice none 0 0), _, upds_of _ _ ⟨rfl, rfl, rfl, rfl, rfl, rfl, rfl, trivial⟩, bn, H⟩
 rintro cb σ cc ⟨s2, l, l2, aC, aD, ρ, rfl, bx, H⟩
 obtain ⟨bL, bM, ce, hM, bz⟩ := M.e_iterN bx
 simp only [zdp] at hM
 clear bx;refine W.seq <| W.region rfl <| zC (s2 : Int) (watches.length : Int) (decide ((s2 : Int) < (watches.length : Int))) rfl rfl rfl <| s_nil <| W.seq ?_
 refine W.cond (decide ((s2 : Int) < (watches.length : Int))) rfl (fun aH => ?_) (fun aH => ?_)
 ·replace hM := M.e_t hM aH
  replace aH := dI aH
  refine W.skip <| W.seq <| W.block <| W.seq <| W.region rfl ?_;obtain ⟨cf, hM⟩ := M.e_gd hM;refine s_val (x_ix (v := vat aE 1 (Int.toNat (s2 : Int))) rfl rfl (Sl.ix (α := Int) T22.und T22.size aO (by omega) (by omega))) <| s_val (x_ld (v := I (watches.getD s2 0)) rfl (ld_sc Sc3 (At.mono (Int_at aO (i := (s2 : Int)) (by omega) (by omega)) (bw.at H)))) ?_;refine t_alloc (cs := [I 0]) H Al3 rfl ?_;intro aI cg H;refine t_sw 0 0 [I (watches.getD s2 0)] (I (watches.getD s2 0)) H rfl rfl Sz3 rfl rfl rfl rfl ?_;intro ck H;refine s_nil <| W.seq <| W.region rfl <| zA (I 2001) rfl <| zA (I (-1)) rfl <| s_nil <| W.seq <| W.seq <| W.region rfl <| zM (Pq aa) rfl ?_;refine s_val (x_ld (v := .agg (encB ab).toArray) rfl (ldArrA Ag96 Sz96 aN (H.bl 3))) <| s_val (x_mf (fs := []) (cs := [Pq aI]) rfl rfl) <| s_val (x_bld (ps := [(0, .func (.func 52) #[] #[Pq aI])]) (zs := [.nilFunc]) (L' := [.func (.func 52) #[] #[Pq aI]]) rfl Tryz.underlying108 Al108 rfl (Bd108 Tryz.underlying108) (.cons (cs := [.func (.func 52) #[] #[Pq aI]]) rfl rfl rfl rfl rfl <| .nil)) ?_;obtain ⟨cl, bN, hM⟩ := M.e_bind hM;refine s_call cf51 [Pq aa, .agg (encB ab).toArray, .agg #[.func (.func 52) #[] #[Pq aI]]] rfl (zeg au av aw ax ao aq ag ab (watches.getD s2 0) (aW.app _) aX (aY.app _) aZ (a6.app _) a7 (a8.app _) ba (aG.app _) aM (Has.here (k := 4) rfl) aN (Has.here (k := 0) rfl) bN _ (H.gt 7)) ?_
  rintro vq cm ⟨r3, bf, rfl, hvq, am⟩
  subst vq;(try dsimp only at hM);replace H := H.bk am;clear am
  have cn := ((H.os 0)).len_le
  refine s_val (x_lenS T22.und rfl (H.os 0)) <| zM (I 0) rfl <| s_nil <| W.block ?_;obtain ⟨bO, bo, bP⟩ := M.e_bind hM
  obtain ⟨bK, bo⟩ := M.e_iter bo
  refine W.loop (fun m σ W => ∃ (ac : Int) (flood : Int) (s : Nat) (ρ : Env), σ = upds ρ [(4, aC), (5, aD), (7, Pq aa), (8, Pq aB), (11, I ac), (12, I flood), (26, aE), (27, I (watches.length : Int)), (28, I (s2 : Int)), (36, bf), (37, I (r3.length : Int)), (38, I (s : Int))] /\ M.iterN (zdn au av aw ax ag ao aq ab r3) m (ac, flood, s) = some bO /\ St w W [cOwn (α := Int) 3 bf r3, cBlk aI [I (watches.getD s2 0)] 3, cOwn (α := Int) 3 aD l2, cOwn (α := Int) 3 aC l, cBlk aB (encB ab) 96, cBlk aa [ai, aj, ak, al, I ao, I aq, ah, .map (some aF)] 111, cMem encDm aF bc (zaa au av aw ax ao aq ag), cBlk aP [ai, aj, ak, al, I ay, I az, ah] 29] R) ?_ ?_
  ·exact ⟨_, 2001, -1, 0, _, upds_of _ _ ⟨rfl, rfl, rfl, rfl, rfl, rfl, rfl, rfl, rfl, rfl, rfl, rfl, trivial⟩, bo, H⟩
  rintro co σ cp ⟨ac, flood, s, ρ, rfl, bA, H⟩
  obtain ⟨bg, bh, cq, hM, aS⟩ := M.e_iterN bA
  simp only [zdn] at hM
  clear bA;refine W.seq <| W.region rfl <| zC (s : Int) (r3.length : Int) (decide ((s : Int) < (r3.length : Int))) rfl rfl rfl <| s_nil <| W.seq ?_
  refine W.cond (decide ((s : Int) < (r3.length : Int))) rfl (fun aJ => ?_) (fun aJ => ?_)
  ·replace hM := M.e_t hM aJ
   replace aJ := dI aJ
   refine W.skip <| W.seq <| W.block <| W.seq <| W.region rfl ?_;obtain ⟨cu, hM⟩ := M.e_gd hM;refine s_val (x_ix (v := vat bf 1 (Int.toNat (s : Int))) rfl rfl (Sl.ix (α := Int) T22.und T22.size (H.os 0) (by omega) (by omega))) <| s_val (x_ld (v := I (r3.getD s 0)) rfl (ld_sc Sc3 (At.mono (Int_at (H.os 0) (i := (s : Int)) (by omega) (by omega)) (H.ol 0)))) <| zA (I (r3.getD s 0)) rfl <| s_nil <| W.seq ?_;refine W.drawT (fun W => St w W [cOwn (α := Int) 3 bf r3, cBlk aI [I (watches.getD s2 0)] 3, cOwn (α := Int) 3 aD l2, cOwn (α := Int) 3 aC l, cBlk aB (encB ab) 96, cBlk aa [ai, aj, ak, al, I ao, I aq, ah, .map (some aF)] 111, cMem encDm aF bc (zaa au av aw ax ao aq ag), cBlk aP [ai, aj, ak, al, I ay, I az, ah] 29] R) (.q 0 (.q 1 (.q 2 (.q 3 (.q 4 (.q 5 (.q 6 (.q 7 (.q 8 (.q 9 (.l2 10 (.l 11 (.l 12 .nil)) 11 (.l 10 (.l 12 .nil))))))))))))) mixed (by decide +kernel) rfl ?_;intro cw bB;replace H := H.ext bB;clear bB
   refine ⟨(H.pk [0, 1, 2, 3, 4, 5, 6, 7]), ?_⟩
   refine t_q rfl (fun w' H => x_mv (v := Pq aa) rfl) <| t_q rfl (fun w' H => x_mv (v := Pq aa) rfl) <| t_q rfl (fun w' H => x_nc (a := ⟨aa, 0, none⟩) rfl) <| t_q rfl (fun w' H => x_fa (v := Pq aa) rfl (fa_blk (o := 0) Fd111_0 Sz29)) <| t_q rfl (fun w' H => x_fa (v := Oq aa 6) rfl (fa_blk (o := 0) Fd29_5 Sz27)) <| t_q rfl (fun w' H => x_ld (v := ah) rfl (ldb_sc Sc27 (H.bl 5) rfl)) <| t_q rfl (fun w' H => x_mv (v := I (r3.getD s 0)) rfl) ?_;obtain ⟨cx, hM⟩ := M.e_gd hM;refine t_q rfl (fun w' H => x_ix (v := vat ah 2 (Int.toNat (r3.getD s 0))) rfl rfl (Sl.ix (α := Flood) T27.und T27.size aM (by omega) (by omega))) ?_
   obtain ⟨bi, bQ, aT⟩ := Flood_atA aM (i := r3.getD s 0) (by omega) (by omega)
   replace aT : Sl _ bi (ag.getD (Int.toNat (r3.getD s 0)) default).stages := aT
   have cy := aT.len_le
   refine t_q rfl (fun w' H => x_ld (v := .agg #[I ((ag.getD (Int.toNat (r3.getD s 0)) default).spring), bi]) rfl (ld_ag Ag85 Sz85 (At.mono bQ (aG.at H)))) <| t_q rfl (fun w' H => x_ld (v := .agg (encB ab).toArray) rfl (ldArrA Ag96 Sz96 aN (H.bl 4))) ?_;refine t_l2 rfl rfl ?_ ?_
   ·skip
    obtain ⟨cz, bR, hM⟩ := M.e_bind hM;refine s_call cf48 [Pq aa, .agg #[I ((ag.getD (Int.toNat (r3.getD s 0)) default).spring), bi], .agg (encB ab).toArray] rfl (zca au av aw ax ao aq ag (ag.getD (Int.toNat (r3.getD s 0)) default) ab (aW.app _) aX (aY.app _) aZ (a6.app _) a7 (a8.app _) ba (aG.app _) aM (Has.here (k := 5) rfl) (aG.app _) aT aN bR _ (H.gt 8)) ?_
    rintro vq cA ⟨r0, ae, aU, rfl, hvq, am⟩
    subst vq;(try dsimp only at hM);replace H := H.bk am;clear am
    refine s_nil ⟨(H.pk [0, 1, 2, 3, 4, 5, 6, 7]), ?_⟩
    refine t_l rfl ?_;refine t_alloc (cs := [I 0, I 0, B false]) H Al101 rfl ?_;intro aV cB H
    refine s_nil ⟨(H.pk [1, 2, 3, 4, 5, 6, 7, 8]), ?_⟩
    refine t_l rfl ?_;refine t_sw 0 0 [I r0, I ae, B aU] (.agg #[I r0, I ae, B aU]) H rfl rfl Sz101 rfl rfl rfl rfl ?_;intro cC H
    refine s_nil ⟨(H.pk [1, 2, 3, 4, 5, 6, 7, 8]), ?_⟩
    refine t_nil <| W.seq <| W.region rfl <| s_val (x_fa (v := Oq aV 1) rfl (fa_blk (o := 0) Fd101_1 Sz3)) <| s_val (x_ld (v := I ae) rfl (ldb_sc Sc3 (H.bl 0) rfl)) <| zM (I ac) rfl <| zC ae ac (decide (ae < ac)) rfl rfl rfl <| s_nil ?_
    refine W.cond (decide (ae < ac)) rfl (fun aK => ?_) (fun aK => ?_)
    ·replace hM := M.e_t hM aK
     replace aK := dI aK
     refine W.region rfl <| s_val (x_fa (v := Oq aV 1) rfl (fa_blk (o := 0) Fd101_1 Sz3)) <| s_val (x_ld (v := I ae) rfl (ldb_sc Sc3 (H.bl 0) rfl)) <| zM (I (r3.getD s 0)) rfl <| zA (I ae) rfl <| zA (I (r3.getD s 0)) rfl <| s_nil <| W.region rfl <| zR (s : Int) 1 ((s : Int) + 1) rfl rfl rfl (by omega) <| zM (I ((s : Int) + 1)) rfl ?_;refine s_nil ?_
     exact ⟨bg, bh, ae, r3.getD s 0, s + 1, _, upds_of _ _ ⟨rfl, rfl, rfl, rfl, rfl, rfl, rfl, rfl, rfl, rfl, rfl, rfl, trivial⟩, M.e_inl hM aS, (H.pk [1, 2, 3, 4, 5, 6, 7, 8])⟩
    replace hM := M.e_f hM aK
    replace aK := dI aK
    refine W.skip <| W.region rfl <| zR (s : Int) 1 ((s : Int) + 1) rfl rfl rfl (by omega) <| zM (I ((s : Int) + 1)) rfl <| s_nil ?_
    exact ⟨bg, bh, ac, flood, s + 1, _, upds_of _ _ ⟨rfl, rfl, rfl, rfl, rfl, rfl, rfl, rfl, rfl, rfl, rfl, rfl, trivial⟩, M.e_inl hM aS, (H.pk [1, 2, 3, 4, 5, 6, 7, 8])⟩
   skip
   refine t_alloc (cs := [I 0, I 0, B false]) H Al101 rfl ?_;intro aV cD H
   refine s_nil ⟨(H.pk [1, 2, 3, 4, 5, 6, 7, 8]), ?_⟩
   refine t_l rfl ?_;obtain ⟨cE, bS, hM⟩ := M.e_bind hM;refine s_call cf48 [Pq aa, .agg #[I ((ag.getD (Int.toNat (r3.getD s 0)) default).spring), bi], .agg (encB ab).toArray] rfl (zca au av aw ax ao aq ag (ag.getD (Int.toNat (r3.getD s 0)) default) ab (aW.app _) aX (aY.app _) aZ (a6.app _) a7 (a8.app _) ba (aG.app _) aM (Has.here (k := 6) rfl) (aG.app _) aT aN bS _ (H.gt 9)) ?_
   rintro vq cF ⟨r0, ae, aU, rfl, hvq, am⟩
   subst vq;(try dsimp only at hM);replace H := H.bk am;clear am
   refine s_nil ⟨(H.pk [1, 2, 3, 4, 5, 6, 7, 8]), ?_⟩
   refine t_l rfl ?_;refine t_sw 0 0 [I r0, I ae, B aU] (.agg #[I r0, I ae, B aU]) H rfl rfl Sz101 rfl rfl rfl rfl ?_;intro cG H
   refine s_nil ⟨(H.pk [1, 2, 3, 4, 5, 6, 7, 8]), ?_⟩
   refine t_nil <| W.seq <| W.region rfl <| s_val (x_fa (v := Oq aV 1) rfl (fa_blk (o := 0) Fd101_1 Sz3)) <| s_val (x_ld (v := I ae) rfl (ldb_sc Sc3 (H.bl 0) rfl)) <| zM (I ac) rfl <| zC ae ac (decide (ae < ac)) rfl rfl rfl <| s_nil ?_
   refine W.cond (decide (ae < ac)) rfl (fun aL => ?_) (fun aL => ?_)
   ·replace hM := M.e_t hM aL
    replace aL := dI aL
    refine W.region rfl <| s_val (x_fa (v := Oq aV 1) rfl (fa_blk (o := 0) Fd101_1 Sz3)) <| s_val (x_ld (v := I ae) rfl (ldb_sc Sc3 (H.bl 0) rfl)) <| zM (I (r3.getD s 0)) rfl <| zA (I ae) rfl <| zA (I (r3.getD s 0)) rfl <| s_nil <| W.region rfl <| zR (s : Int) 1 ((s : Int) + 1) rfl rfl rfl (by omega) <| zM (I ((s : Int) + 1)) rfl ?_;refine s_nil ?_
    exact ⟨bg, bh, ae, r3.getD s 0, s + 1, _, upds_of _ _ ⟨rfl, rfl, rfl, rfl, rfl, rfl, rfl, rfl, rfl, rfl, rfl, rfl, trivial⟩, M.e_inl hM aS, (H.pk [1, 2, 3, 4, 5, 6, 7, 8])⟩
   replace hM := M.e_f hM aL
   replace aL := dI aL
   refine W.skip <| W.region rfl <| zR (s : Int) 1 ((s : Int) + 1) rfl rfl rfl (by omega) <| zM (I ((s : Int) + 1)) rfl <| s_nil ?_
   exact ⟨bg, bh, ac, flood, s + 1, _, upds_of _ _ ⟨rfl, rfl, rfl, rfl, rfl, rfl, rfl, rfl, rfl, rfl, rfl, rfl, trivial⟩, M.e_inl hM aS, (H.pk [1, 2, 3, 4, 5, 6, 7, 8])⟩
  replace hM := M.e_f hM aJ
  replace aJ := dI aJ
  refine W.exit ?_
  have bT := M.e_inr hM aS
  subst bT;replace hM := bP;(try dsimp only at hM);replace H := H.pk [2, 3, 4, 5, 6, 7];refine W.region rfl <| zM aC rfl <| zM (I ac) rfl ?_;refine t_bs (α := Int) T22 [I ac] [(ac : Int)] H rfl (.cons rfl (Flat.rep_enc _ (ac : Int)) <| .nil) rfl rfl rfl ?_;intro bU cH H;obtain ⟨cI, hM⟩ := M.e_gd hM;refine t_app (α := Int) (k := 2) (l := l) (l2 := [(ac : Int)]) (l' := l ++ ([(ac : Int)])) (vy := bU) T22 rfl H rfl rfl rfl (H.os 0) (H.ol 0) (rfl) (by first | omega | (simp only [List.length_nil] at *; omega)) ?_;intro bC cJ H;replace H := H.nf;refine zM aD rfl <| zM (I flood) rfl ?_;refine t_bs (α := Int) T22 [I flood] [(flood : Int)] H rfl (.cons rfl (Flat.rep_enc _ (flood : Int)) <| .nil) rfl rfl rfl ?_;intro bV cK H;obtain ⟨cL, hM⟩ := M.e_gd hM;refine t_app (α := Int) (k := 2) (l := l2) (l2 := [(flood : Int)]) (l' := l2 ++ ([(flood : Int)])) (vy := bV) T22 rfl H rfl rfl rfl (H.os 0) (H.ol 0) (rfl) (by first | omega | (simp only [List.length_nil] at *; omega)) ?_;intro bD cM H;replace H := H.nf;refine zA bC rfl <| zA bD rfl <| s_nil ?_;replace H := H.pk [2, 3, 4, 5, 6, 7];refine W.region rfl <| zR (s2 : Int) 1 ((s2 : Int) + 1) rfl rfl rfl (by omega) <| zM (I ((s2 : Int) + 1)) rfl <| s_nil ?_
  exact ⟨bL, bM, s2 + 1, l ++ ([(ac : Int)]), l2 ++ ([(flood : Int)]), bC, bD, _, upds_of _ _ ⟨rfl, rfl, rfl, rfl, rfl, rfl, rfl, trivial⟩, M.e_inl hM bz, H⟩
 replace hM := M.e_f hM aH
 replace aH := dI aH
 refine W.exit ?_
 have bW := M.e_inr hM bz
 subst bW;replace hM := bJ;(try dsimp only at hM);replace H := H.pk [0, 1];refine W.seq <| W.region rfl <| zM aC rfl <| zM aD rfl <| zA aC rfl <| zA aD rfl <| zA (I 0) rfl <| s_nil ?_;refine W.ret ?_
 have bm := M.e_pure hM
 exact ⟨_, resE_tmp3 rfl, ⟨l, l2, 0, aC, aD, bm, rfl, (H.pk [1, 0])⟩⟩

def zdb (n : Int) : M Bool :=
  M.bind (zac n 0 2001) fun r2 =>
  M.pure r2
theorem zeS {R : List Chunk}  (n : Int)  {r : Bool} (hM : (zdb n).Ends r) (w : World) (H : St w w [] R) : Ret Tryz.prog 54 #[I n] w fun v w' => ∃ (y0 : Bool), y0 = r /\ v = B y0 /\ St w w' [] R := by
 refine ret_of_W Tryz.func54 rfl rfl rfl <| W.seq <| W.region rfl <| zA (B false) rfl <| s_nil <| W.seq <| W.region rfl <| zM (I n) rfl ?_;obtain ⟨ae, ab, hM⟩ := M.e_bind hM;refine s_call cf47 [I n, I 0, I 2001] rfl (zal n 0 2001 ab _ (H.gt 0)) ?_
 rintro vq ag ⟨r2, rfl, hvq, aa⟩
 subst vq;(try dsimp only at hM);replace H := H.bk aa;clear aa;refine zA (B r2) rfl <| s_nil ?_;refine W.ret ?_
 have ac := M.e_pure hM
 exact ⟨_, resE_tmp rfl, ⟨r2, ac, rfl, H⟩⟩

def zdg (x : Rpt) (ab aa : List Int) : M Bool :=
  M.bind (zct ab x.watch) fun r2 =>
  M.grd ((!(decide (0 <= r2)) || (decide ((0 : Int) <= r2) && decide (r2 < (aa.length : Int))))) <|
  M.pure ((decide (0 <= r2)) && (decide ((aa.getD (Int.toNat r2) 0) <= x.stage)))
theorem zdC {R : List Chunk} {ak : Nat} {al : Cells} {ah : Value} {am : Nat} {ao : Cells} {ag : Value} (x : Rpt) (aj : List Int) (ac : List Int) (av : Reads R al) (aw : Sl al ah aj) (ax : Has R (cBlk ak [ah] 22)) (ay : Reads R ao) (aq : Sl ao ag ac) (az : Has R (cBlk am [ag] 22)) {r : Bool} (hM : (zdg x aj ac).Ends r) (w : World) (H : St w w [] R) : Ret Tryz.prog 55 #[.agg #[I x.watch, I x.stage, B x.danger], Pq ak, Pq am] w fun v w' => ∃ (y0 : Bool), y0 = r /\ v = B y0 /\ St w w' [] R := by
 refine ret_of_W Tryz.func55 rfl rfl rfl <| W.seq <| W.region rfl ?_;refine t_bx [I x.watch, I x.stage, B x.danger] H rfl ?_;intro ai aC H;refine zA (B false) rfl <| s_nil <| W.seq <| W.region rfl <| s_val (x_ld (v := ah) rfl (ldb_sc Sc22 (ax.blk H) rfl)) <| s_val (x_fa (v := Pq ai) rfl (fa_blk (o := 0) Fd101_0 Sz3)) <| s_val (x_ld (v := I x.watch) rfl (ldb_sc Sc3 (H.bl 0) rfl)) ?_;obtain ⟨aD, aA, hM⟩ := M.e_bind hM;refine s_call cf56 [ah, I x.watch] rfl (zdW aj x.watch (av.app _) aw aA _ (H.gt 1)) ?_
 rintro vq aE ⟨r2, rfl, hvq, au⟩
 subst vq;(try dsimp only at hM);replace H := H.bk au;clear au;refine zA (I r2) rfl <| s_nil <| W.seq ?_;refine W.draw (fun W => St w W [cBlk ai [I x.watch, I x.stage, B x.danger] 101] R) [(0, true), (1, true), (2, true), (3, true), (4, true), (5, true), (6, true), (7, true), (8, true), (9, true), (10, true), (11, true)] mixed (by decide +kernel) rfl ?_;intro aF ab;replace H := H.ext ab;clear ab
 refine ⟨(H.pk [0]), ?_⟩
 refine d_q rfl (fun w' H => x_mv (v := I r2) rfl) <| d_q rfl (fun w' H => x_cmp (kd := .i64) (r := decide (0 <= r2)) rfl rfl rfl) <| d_q rfl (fun w' H => x_mv (v := B (decide (0 <= r2))) rfl) <| d_qg (decide (0 <= r2)) rfl (gy_t rfl) (fun hg => (fun w' H => x_fa (v := Oq ai 1) rfl (fa_blk (o := 0) Fd101_1 Sz3))) <| d_qg (decide (0 <= r2)) rfl (gy_t rfl) (fun hg => (fun w' H => x_ld (v := I x.stage) (gd_of hg (Oq ai 1)) (ldb_sc Sc3 (H.bl 0) rfl))) <| d_qg (decide (0 <= r2)) rfl (gy_t rfl) (fun hg => (fun w' H => x_ld (v := ag) rfl (ldb_sc Sc22 (az.blk H) rfl))) <| d_qg (decide (0 <= r2)) rfl (gy_t rfl) (fun hg => (fun w' H => x_mv (v := I r2) rfl)) ?_;obtain ⟨ae, hM⟩ := M.e_grd hM
 replace ae := M.imp_of ae
 simp only [Bool.and_eq_true, decide_eq_true_eq] at ae
 refine d_qg (decide (0 <= r2)) rfl (gy_t rfl) (fun hg => (fun w' H => x_ix (v := vat ag 1 (Int.toNat r2)) (gd_of hg (ag)) (gd_of hg (I r2)) (Sl.ix (α := Int) T22.und T22.size aq (by have aa := ae.resolve_left (by rw [hg]; decide); first | exact aa | exact aa.1 | exact aa.2 | omega | (have ab := hg; simp at ab; omega)) (by have aa := ae.resolve_left (by rw [hg]; decide); first | exact aa | exact aa.1 | exact aa.2 | omega | (have ab := hg; simp at ab; omega))))) <| d_qg (decide (0 <= r2)) rfl (gy_t rfl) (fun hg => (fun w' H => x_ld (v := I (ac.getD (Int.toNat r2) 0)) (gd_of hg (vat ag 1 (Int.toNat r2))) (ld_sc Sc3 (At.mono (Int_at aq (i := r2) (by have aa := ae.resolve_left (by rw [hg]; decide); first | exact aa | exact aa.1 | exact aa.2 | omega | (have ab := hg; simp at ab; omega)) (by have aa := ae.resolve_left (by rw [hg]; decide); first | exact aa | exact aa.1 | exact aa.2 | omega | (have ab := hg; simp at ab; omega))) (ay.at H))))) <| d_qg (decide (0 <= r2)) rfl (gy_t rfl) (fun hg => (fun w' H => x_cmp (kd := .i64) (r := decide ((ac.getD (Int.toNat r2) 0) <= x.stage)) (gd_of hg (I x.stage)) (gd_of hg (I (ac.getD (Int.toNat r2) 0))) rfl)) <| d_q rfl (fun w' H => x_pand (b := decide (0 <= r2)) (r := decide ((ac.getD (Int.toNat r2) 0) <= x.stage)) rfl (fun hb => gd_of (c := decide (0 <= r2)) (by first | exact hb | (rw [hb]; rfl) | simp_all) (B (decide ((ac.getD (Int.toNat r2) 0) <= x.stage)))) rfl) <| d_q rfl (fun w' H => x_as (v := B ((decide (0 <= r2)) && (decide ((ac.getD (Int.toNat r2) 0) <= x.stage)))) rfl) ?_;refine d_nil ?_;refine W.ret ?_
 have aB := M.e_pure hM
 exact ⟨_, resE_tmp rfl, ⟨((decide (0 <= r2)) && (decide ((ac.getD (Int.toNat r2) 0) <= x.stage))), aB, rfl, (H.pk [])⟩⟩

def zdY (x : Rpt) (aa ab : List Int) : M Bool :=
  M.bind (M.opt x.danger (zdg x aa ab) false) fun r2 =>
  M.pure (x.danger && (!r2))
theorem zeb {R : List Chunk} {ah : Nat} {aa : Nat} {ai : Cells} {aj : Value} {ab : Nat} {ak : Cells} {al : Value} (x : Rpt) (ac : List Int) (ae : List Int) (am : Reads R ai) (ao : Sl ai aj ac) (aq : Has R (cBlk aa [aj] 22)) (au : Reads R ak) (av : Sl ak al ae) (aw : Has R (cBlk ab [al] 22)) (ax : Has R (cBlk ah [.func (.func 55) #[] #[Pq aa, Pq ab]] 106)) {r : Bool} (hM : (zdY x ac ae).Ends r) (w : World) (H : St w w [] R) : Ret Tryz.prog 57 #[.agg #[I x.watch, I x.stage, B x.danger], Pq ah] w fun v w' => ∃ (y0 : Bool), y0 = r /\ v = B y0 /\ St w w' [] R := by
 refine ret_of_W Tryz.func57 rfl rfl rfl <| W.seq <| W.region rfl ?_;refine t_bx [I x.watch, I x.stage, B x.danger] H rfl ?_;intro ay aB H;refine zA (B false) rfl <| s_nil <| W.seq <| W.region rfl <| s_val (x_fa (v := Oq ay 2) rfl (fa_blk (o := 0) Fd101_2 Sz4)) <| s_val (x_ld (v := B x.danger) rfl (ldb_sc Sc4 (H.bl 0) rfl)) <| zM (B x.danger) rfl <| g_val x.danger (gy_t rfl) (fun hg => x_ld (v := .func (.func 55) #[] #[Pq aa, Pq ab]) rfl (ldb_sc Sc106 (ax.blk H) rfl)) <| g_val x.danger (gy_t rfl) (fun hg => x_ld (v := .agg #[I x.watch, I x.stage, B x.danger]) rfl (ldb_ag (ds := [I x.watch, I x.stage, B x.danger]) Ag101 Sz101 (H.bl 0) rfl rfl)) ?_;obtain ⟨r2, az, hM⟩ := M.e_bind hM;refine t_gcallv (cap := [Pq aa, Pq ab]) x.danger (gy_t rfl) cf55 (fun hg => (gd_of hg (.func (.func 55) #[] #[Pq aa, Pq ab]))) (B r2) (fun _ => [.agg #[I x.watch, I x.stage, B x.danger]]) (fun hg => lst1 (gd_of hg (.agg #[I x.watch, I x.stage, B x.danger]))) H (fun hg => (zdC x ac ae (am.app _) ao (aq.app _) (au.app _) av (aw.app _) (M.e_opt az hg) _ (H.give (A := []) rfl)).mono fun v_ w_ ⟨y_, ag, aA, H_⟩ => by subst ag; exact ⟨aA, H.via H_⟩) ?_;intro aC H;refine g_val x.danger (gy_t rfl) (fun hg => x_not (b := r2) (gd_of hg (B r2))) <| s_val (x_pand (b := x.danger) (r := !r2) rfl (fun hb => gd_of (c := x.danger) (by first | exact hb | (rw [hb]; rfl) | simp_all) (B (!r2))) rfl) <| zA (B (x.danger && (!r2))) rfl <| s_nil ?_;refine W.ret ?_
 have ag := M.e_pure hM
 exact ⟨_, resE_tmp rfl, ⟨(x.danger && (!r2)), ag, rfl, (H.pk [])⟩⟩

def zdj (ab : List Int) (ac : List Span) (ae : List Int) (ag : List Town) (ah ai : Int) (aa : List Flood) (p : List Bool) (aj ak : List Int) : (Nat × (List Int)) -> M ((Nat × (List Int)) ⊕ ((List Int) × (List Int))) := fun (s, l) =>
  bif decide ((s : Int) < (aa.length : Int)) then (
  M.grd (decide ((s : Int) < (aa.length : Int))) <|
  M.bind (zbc ab ac ae ag ah ai aa (aa.getD s default) p) fun (r0, r1, r2) =>
  M.bind (zdY (⟨(r0 : Int), (r1 : Int), r2⟩ : Rpt) aj ak) fun r3 =>
  bif r3 then (
  M.grd (decide ((l.length + ([(s : Int)]).length) * 8 <= 140737488355328)) <|
  M.pure (.inl (s + 1, l ++ ([(s : Int)]))))
  else (
  M.pure (.inl (s + 1, l))))
  else (
  M.pure (.inr (l, l)))
def zdy (aa : List Int) (ab : List Span) (ac : List Int) (ae : List Town) (ag ah : Int) (ai : List Flood) (p : List Bool) (aj ak : List Int) : M (List Int) :=
  M.bind (M.iter (zdj aa ab ac ae ag ah ai p aj ak) (0, [])) fun (l2, l3) =>
  M.pure l3
theorem zeJ {R : List Chunk} {ab : Nat} {aF : Cells} {aG : Value} {aH : Cells} {aI : Value} {aJ : Cells} {aK : Value} {aL : Cells} {aM : Value} {aN : Cells} {ai : Value} {a7 : Nat} {ah : Nat} {aO : Nat} {aP : Cells} {aQ : Value} {aR : Nat} {aS : Cells} {aT : Value} (am : List Int) (ao : List Span) (aq : List Int) (au : List Town) (av : Int) (aw : Int) (aa : List Flood) (p : List Bool) (ax : List Int) (ay : List Int) (a8 : Reads R aF) (ba : Sl aF aG am) (bc : Reads R aH) (bf : Sl aH aI ao) (bg : Reads R aJ) (bh : Sl aJ aK aq) (bi : Reads R aL) (bj : Sl aL aM au) (aA : Reads R aN) (aj : Sl aN ai aa) (aU : Has R (cBlk ab [aG, aI, aK, aM, I av, I aw, ai, .map (some a7)] 111)) (aV : p.length = 12) (bm : Reads R aP) (bn : Sl aP aQ ax) (bo : Has R (cBlk aO [aQ] 22)) (bp : Reads R aS) (bq : Sl aS aT ay) (br : Has R (cBlk aR [aT] 22)) (bt : Has R (cBlk ah [.func (.func 55) #[] #[Pq aO, Pq aR]] 106)) {r : (List Int)} (hM : (zdy am ao aq au av aw aa p ax ay).Ends r) (w : World) (H : St w w [] R) : Ret Tryz.prog 51 #[Pq ab, .agg (encB p).toArray, .agg #[.func (.func 57) #[] #[Pq ah]]] w fun v w' => ∃ (y0 : List Int) (u0 : Value), y0 = r /\ v = u0 /\ St w w' [cOwn (α := Int) 3 u0 y0] R := by
 refine ret_of_W Tryz.func51 rfl rfl rfl <| W.seq <| W.region rfl ?_;refine t_box (v := .agg (encB p).toArray) (cs := encB p) H rfl rfl ?_;intro aB bE H;refine t_bx [.func (.func 57) #[] #[Pq ah]] H rfl ?_;intro az bF H;refine zA (.slice none 0 0) rfl <| s_nil <| W.seq <| W.region rfl <| zA (.slice none 0 0) rfl <| s_nil <| W.seq <| W.seq <| W.region rfl <| zM (Pq ab) rfl ?_;refine s_val (x_nc (a := ⟨ab, 0, none⟩) rfl) <| s_val (x_fa (v := Pq ab) rfl (fa_blk (o := 0) Fd111_0 Sz29)) <| s_val (x_fa (v := Oq ab 6) rfl (fa_blk (o := 0) Fd29_5 Sz27)) <| s_val (x_ld (v := ai) rfl (ldb_sc Sc27 (aU.blk H) rfl)) ?_
 have bG := (aj).len_le
 refine s_val (x_lenS T27.und rfl aj) <| zM (I 0) rfl <| s_nil <| W.block ?_
 replace H := H.nilOwn (α := Int) 3
 obtain ⟨bu, aC, bv⟩ := M.e_bind hM
 obtain ⟨bH, aC⟩ := M.e_iter aC
 refine W.loop (fun m σ W => ∃ (s : Nat) (l : List Int) (ac : Value) (ρ : Env), σ = upds ρ [(0, Pq ab), (4, Pq aB), (5, Pq az), (7, ac), (14, ai), (15, I (aa.length : Int)), (16, I (s : Int))] /\ M.iterN (zdj am ao aq au av aw aa p ax ay) m (s, l) = some bu /\ St w W [cOwn (α := Int) 3 ac l, cBlk az [.func (.func 57) #[] #[Pq ah]] 108, cBlk aB (encB p) 96] R) ?_ ?_
 ·exact ⟨_, 0, [], (.slice none 0 0), _, upds_of _ _ ⟨rfl, rfl, rfl, rfl, rfl, rfl, rfl, trivial⟩, aC, H⟩
 rintro bI σ bJ ⟨s, l, ac, ρ, rfl, aW, H⟩
 obtain ⟨aX, aY, bK, hM, aD⟩ := M.e_iterN aW
 simp only [zdj] at hM
 clear aW;refine W.seq <| W.region rfl <| zC (s : Int) (aa.length : Int) (decide ((s : Int) < (aa.length : Int))) rfl rfl rfl <| s_nil <| W.seq ?_
 refine W.cond (decide ((s : Int) < (aa.length : Int))) rfl (fun ag => ?_) (fun ag => ?_)
 ·replace hM := M.e_t hM ag
  replace ag := dI ag
  refine W.skip <| W.seq <| W.block <| W.seq <| W.region rfl <| zM (I (s : Int)) rfl ?_;obtain ⟨bL, hM⟩ := M.e_gd hM;refine s_val (x_ix (v := vat ai 2 (Int.toNat (s : Int))) rfl rfl (Sl.ix (α := Flood) T27.und T27.size aj (by omega) (by omega))) ?_
  obtain ⟨ae, bw, ak⟩ := Flood_atA aj (i := (s : Int)) (by omega) (by omega)
  replace ak : Sl _ ae (aa.getD s default).stages := ak
  have bM := ak.len_le
  refine s_val (x_ld (v := .agg #[I ((aa.getD s default).spring), ae]) rfl (ld_ag Ag85 Sz85 (At.mono bw (aA.at H)))) ?_;refine t_alloc (cs := [I 0, .slice none 0 0]) H Al85 rfl ?_;intro bx bN H;refine zA (I (s : Int)) rfl ?_;refine t_sw 0 0 [I ((aa.getD s default).spring), ae] (.agg #[I ((aa.getD s default).spring), ae]) H rfl rfl Sz85 rfl rfl rfl (by simp only [List.all_cons, List.all_nil, Bool.true_and, Bool.and_true, Sl.oc ak]; try rfl) ?_;intro bO H;refine s_nil <| W.seq ?_;refine W.draw (fun W => St w W [cBlk bx [I ((aa.getD s default).spring), ae] 85, cOwn (α := Int) 3 ac l, cBlk az [.func (.func 57) #[] #[Pq ah]] 108, cBlk aB (encB p) 96] R) [(0, true), (1, true), (2, true), (3, true), (4, true), (5, false), (6, false)] mixed (by decide +kernel) rfl ?_;intro bP aZ;replace H := H.ext aZ;clear aZ
  refine ⟨(H.pk [0, 1, 2, 3]), ?_⟩
  refine d_q rfl (fun w' H => x_fa (v := Pq az) rfl (fa_blk (o := 0) Fd108_0 Sz106)) <| d_q rfl (fun w' H => x_ld (v := .func (.func 57) #[] #[Pq ah]) rfl (ldb_sc Sc106 (H.bl 2) rfl)) <| d_q rfl (fun w' H => x_mv (v := Pq ab) rfl) <| d_q rfl (fun w' H => x_ld (v := .agg #[I ((aa.getD s default).spring), ae]) rfl (ldb_ag (ds := [I ((aa.getD s default).spring), ae]) Ag85 Sz85 (H.bl 0) rfl rfl)) <| d_q rfl (fun w' H => x_ld (v := .agg (encB p).toArray) rfl (ldArrA Ag96 Sz96 aV (H.bl 3))) <| d_l rfl ?_;obtain ⟨bQ, bz, hM⟩ := M.e_bind hM;refine s_call cf48 [Pq ab, .agg #[I ((aa.getD s default).spring), ae], .agg (encB p).toArray] rfl (zca am ao aq au av aw aa (aa.getD s default) p (a8.app _) ba (bc.app _) bf (bg.app _) bh (bi.app _) bj (aA.app _) aj (aU.app _) (aA.app _) ak aV bz _ (H.gt 4)) ?_
  rintro vq bR ⟨r0, r1, r2, rfl, hvq, al⟩
  subst vq;(try dsimp only at hM);replace H := H.bk al;clear al
  refine s_nil ⟨(H.pk [0, 1, 2, 3]), ?_⟩
  refine d_l rfl ?_;obtain ⟨bS, bA, hM⟩ := M.e_bind hM;refine s_callv (f := 57) rfl cf57 [.agg #[I r0, I r1, B r2]] rfl (zeb (⟨(r0 : Int), (r1 : Int), r2⟩ : Rpt) ax ay (bm.app _) bn (bo.app _) (bp.app _) bq (br.app _) (bt.app _) bA _ (H.gt 4)) ?_
  rintro vq bT ⟨r3, rfl, hvq, al⟩
  subst vq;(try dsimp only at hM);replace H := H.bk al;clear al
  refine s_nil ⟨(H.pk [0, 1, 2, 3]), ?_⟩
  refine d_nil ?_
  refine W.cond r3 rfl (fun aE => ?_) (fun aE => ?_)
  ·replace hM := M.e_t hM aE;refine W.region rfl <| zM ac rfl <| zM (I (s : Int)) rfl ?_;refine t_bs (α := Int) T22 [I (s : Int)] [(s : Int)] H rfl (.cons rfl (Flat.rep_enc _ (s : Int)) <| .nil) rfl rfl rfl ?_;intro bB bU H;obtain ⟨bV, hM⟩ := M.e_gd hM;refine t_app (α := Int) (k := 2) (l := l) (l2 := [(s : Int)]) (l' := l ++ ([(s : Int)])) (vy := bB) T22 rfl H rfl rfl rfl (H.os 0) (H.ol 0) (rfl) (by first | omega | (simp only [List.length_nil] at *; omega)) ?_;intro a6 bW H;replace H := H.nf;refine zA a6 rfl <| s_nil ?_;replace H := H.pk [2, 3, 4];refine W.region rfl <| zR (s : Int) 1 ((s : Int) + 1) rfl rfl rfl (by omega) <| zM (I ((s : Int) + 1)) rfl <| s_nil ?_
   exact ⟨aX, aY, s + 1, l ++ ([(s : Int)]), a6, _, upds_of _ _ ⟨rfl, rfl, rfl, rfl, rfl, rfl, rfl, trivial⟩, M.e_inl hM aD, H⟩
  replace hM := M.e_f hM aE;refine W.skip <| W.region rfl <| zR (s : Int) 1 ((s : Int) + 1) rfl rfl rfl (by omega) <| zM (I ((s : Int) + 1)) rfl <| s_nil ?_
  exact ⟨aX, aY, s + 1, l, ac, _, upds_of _ _ ⟨rfl, rfl, rfl, rfl, rfl, rfl, rfl, trivial⟩, M.e_inl hM aD, (H.pk [1, 2, 3])⟩
 replace hM := M.e_f hM ag
 replace ag := dI ag
 refine W.exit ?_
 have bC := M.e_inr hM aD
 subst bC;replace hM := bv;(try dsimp only at hM);replace H := H.pk [0];refine W.seq <| W.region rfl <| zM ac rfl <| zA ac rfl <| s_nil ?_;refine W.ret ?_
 have bD := M.e_pure hM
 exact ⟨_, resE_tmp rfl, ⟨l, ac, bD, rfl, H⟩⟩

def zdK (x : Rpt) (aa ab : List Int) : M Bool :=
  M.bind (M.opt (!x.danger) (zdg x aa ab) false) fun r2 =>
  M.pure ((!x.danger) && r2)
theorem zeF {R : List Chunk} {ah : Nat} {aa : Nat} {ai : Cells} {aj : Value} {ab : Nat} {ak : Cells} {al : Value} (x : Rpt) (ac : List Int) (ae : List Int) (am : Reads R ai) (ao : Sl ai aj ac) (aq : Has R (cBlk aa [aj] 22)) (au : Reads R ak) (av : Sl ak al ae) (aw : Has R (cBlk ab [al] 22)) (ax : Has R (cBlk ah [.func (.func 55) #[] #[Pq aa, Pq ab]] 106)) {r : Bool} (hM : (zdK x ac ae).Ends r) (w : World) (H : St w w [] R) : Ret Tryz.prog 58 #[.agg #[I x.watch, I x.stage, B x.danger], Pq ah] w fun v w' => ∃ (y0 : Bool), y0 = r /\ v = B y0 /\ St w w' [] R := by
 refine ret_of_W Tryz.func58 rfl rfl rfl <| W.seq <| W.region rfl ?_;refine t_bx [I x.watch, I x.stage, B x.danger] H rfl ?_;intro ay aB H;refine zA (B false) rfl <| s_nil <| W.seq <| W.region rfl <| s_val (x_fa (v := Oq ay 2) rfl (fa_blk (o := 0) Fd101_2 Sz4)) <| s_val (x_ld (v := B x.danger) rfl (ldb_sc Sc4 (H.bl 0) rfl)) <| s_val (x_not (b := x.danger) rfl) <| zM (B (!x.danger)) rfl <| g_val (!x.danger) (gy_t rfl) (fun hg => x_ld (v := .func (.func 55) #[] #[Pq aa, Pq ab]) rfl (ldb_sc Sc106 (ax.blk H) rfl)) <| g_val (!x.danger) (gy_t rfl) (fun hg => x_ld (v := .agg #[I x.watch, I x.stage, B x.danger]) rfl (ldb_ag (ds := [I x.watch, I x.stage, B x.danger]) Ag101 Sz101 (H.bl 0) rfl rfl)) ?_;obtain ⟨r2, az, hM⟩ := M.e_bind hM;refine t_gcallv (cap := [Pq aa, Pq ab]) (!x.danger) (gy_t rfl) cf55 (fun hg => (gd_of hg (.func (.func 55) #[] #[Pq aa, Pq ab]))) (B r2) (fun _ => [.agg #[I x.watch, I x.stage, B x.danger]]) (fun hg => lst1 (gd_of hg (.agg #[I x.watch, I x.stage, B x.danger]))) H (fun hg => (zdC x ac ae (am.app _) ao (aq.app _) (au.app _) av (aw.app _) (M.e_opt az hg) _ (H.give (A := []) rfl)).mono fun v_ w_ ⟨y_, ag, aA, H_⟩ => by subst ag; exact ⟨aA, H.via H_⟩) ?_;intro aC H;refine s_val (x_pand (b := !x.danger) (r := r2) rfl (fun hb => gd_of (c := !x.danger) (by first | exact hb | (rw [hb]; rfl) | simp_all) (B r2)) rfl) <| zA (B ((!x.danger) && r2)) rfl <| s_nil ?_;refine W.ret ?_
 have ag := M.e_pure hM
 exact ⟨_, resE_tmp rfl, ⟨((!x.danger) && r2), ag, rfl, (H.pk [])⟩⟩

def zdk (ab : List Int) (ac : List Span) (ae : List Int) (ag : List Town) (ah ai : Int) (aa : List Flood) (p : List Bool) (aj ak : List Int) : (Nat × (List Int)) -> M ((Nat × (List Int)) ⊕ ((List Int) × (List Int))) := fun (s, l) =>
  bif decide ((s : Int) < (aa.length : Int)) then (
  M.grd (decide ((s : Int) < (aa.length : Int))) <|
  M.bind (zbc ab ac ae ag ah ai aa (aa.getD s default) p) fun (r0, r1, r2) =>
  M.bind (zdK (⟨(r0 : Int), (r1 : Int), r2⟩ : Rpt) aj ak) fun r3 =>
  bif r3 then (
  M.grd (decide ((l.length + ([(s : Int)]).length) * 8 <= 140737488355328)) <|
  M.pure (.inl (s + 1, l ++ ([(s : Int)]))))
  else (
  M.pure (.inl (s + 1, l))))
  else (
  M.pure (.inr (l, l)))
def zdA (aa : List Int) (ab : List Span) (ac : List Int) (ae : List Town) (ag ah : Int) (ai : List Flood) (p : List Bool) (aj ak : List Int) : M (List Int) :=
  M.bind (M.iter (zdk aa ab ac ae ag ah ai p aj ak) (0, [])) fun (l2, l3) =>
  M.pure l3
theorem zev {R : List Chunk} {ab : Nat} {aF : Cells} {aG : Value} {aH : Cells} {aI : Value} {aJ : Cells} {aK : Value} {aL : Cells} {aM : Value} {aN : Cells} {ai : Value} {a7 : Nat} {ah : Nat} {aO : Nat} {aP : Cells} {aQ : Value} {aR : Nat} {aS : Cells} {aT : Value} (am : List Int) (ao : List Span) (aq : List Int) (au : List Town) (av : Int) (aw : Int) (aa : List Flood) (p : List Bool) (ax : List Int) (ay : List Int) (a8 : Reads R aF) (ba : Sl aF aG am) (bc : Reads R aH) (bf : Sl aH aI ao) (bg : Reads R aJ) (bh : Sl aJ aK aq) (bi : Reads R aL) (bj : Sl aL aM au) (aA : Reads R aN) (aj : Sl aN ai aa) (aU : Has R (cBlk ab [aG, aI, aK, aM, I av, I aw, ai, .map (some a7)] 111)) (aV : p.length = 12) (bm : Reads R aP) (bn : Sl aP aQ ax) (bo : Has R (cBlk aO [aQ] 22)) (bp : Reads R aS) (bq : Sl aS aT ay) (br : Has R (cBlk aR [aT] 22)) (bt : Has R (cBlk ah [.func (.func 55) #[] #[Pq aO, Pq aR]] 106)) {r : (List Int)} (hM : (zdA am ao aq au av aw aa p ax ay).Ends r) (w : World) (H : St w w [] R) : Ret Tryz.prog 51 #[Pq ab, .agg (encB p).toArray, .agg #[.func (.func 58) #[] #[Pq ah]]] w fun v w' => ∃ (y0 : List Int) (u0 : Value), y0 = r /\ v = u0 /\ St w w' [cOwn (α := Int) 3 u0 y0] R := by
 refine ret_of_W Tryz.func51 rfl rfl rfl <| W.seq <| W.region rfl ?_;refine t_box (v := .agg (encB p).toArray) (cs := encB p) H rfl rfl ?_;intro aB bE H;refine t_bx [.func (.func 58) #[] #[Pq ah]] H rfl ?_;intro az bF H;refine zA (.slice none 0 0) rfl <| s_nil <| W.seq <| W.region rfl <| zA (.slice none 0 0) rfl <| s_nil <| W.seq <| W.seq <| W.region rfl <| zM (Pq ab) rfl ?_;refine s_val (x_nc (a := ⟨ab, 0, none⟩) rfl) <| s_val (x_fa (v := Pq ab) rfl (fa_blk (o := 0) Fd111_0 Sz29)) <| s_val (x_fa (v := Oq ab 6) rfl (fa_blk (o := 0) Fd29_5 Sz27)) <| s_val (x_ld (v := ai) rfl (ldb_sc Sc27 (aU.blk H) rfl)) ?_
 have bG := (aj).len_le
 refine s_val (x_lenS T27.und rfl aj) <| zM (I 0) rfl <| s_nil <| W.block ?_
 replace H := H.nilOwn (α := Int) 3
 obtain ⟨bu, aC, bv⟩ := M.e_bind hM
 obtain ⟨bH, aC⟩ := M.e_iter aC
 refine W.loop (fun m σ W => ∃ (s : Nat) (l : List Int) (ac : Value) (ρ : Env), σ = upds ρ [(0, Pq ab), (4, Pq aB), (5, Pq az), (7, ac), (14, ai), (15, I (aa.length : Int)), (16, I (s : Int))] /\ M.iterN (zdk am ao aq au av aw aa p ax ay) m (s, l) = some bu /\ St w W [cOwn (α := Int) 3 ac l, cBlk az [.func (.func 58) #[] #[Pq ah]] 108, cBlk aB (encB p) 96] R) ?_ ?_
 ·exact ⟨_, 0, [], (.slice none 0 0), _, upds_of _ _ ⟨rfl, rfl, rfl, rfl, rfl, rfl, rfl, trivial⟩, aC, H⟩
 rintro bI σ bJ ⟨s, l, ac, ρ, rfl, aW, H⟩
 obtain ⟨aX, aY, bK, hM, aD⟩ := M.e_iterN aW
 simp only [zdk] at hM
 clear aW;refine W.seq <| W.region rfl <| zC (s : Int) (aa.length : Int) (decide ((s : Int) < (aa.length : Int))) rfl rfl rfl <| s_nil <| W.seq ?_
 refine W.cond (decide ((s : Int) < (aa.length : Int))) rfl (fun ag => ?_) (fun ag => ?_)
 ·replace hM := M.e_t hM ag
  replace ag := dI ag
  refine W.skip <| W.seq <| W.block <| W.seq <| W.region rfl <| zM (I (s : Int)) rfl ?_;obtain ⟨bL, hM⟩ := M.e_gd hM;refine s_val (x_ix (v := vat ai 2 (Int.toNat (s : Int))) rfl rfl (Sl.ix (α := Flood) T27.und T27.size aj (by omega) (by omega))) ?_
  obtain ⟨ae, bw, ak⟩ := Flood_atA aj (i := (s : Int)) (by omega) (by omega)
  replace ak : Sl _ ae (aa.getD s default).stages := ak
  have bM := ak.len_le
  refine s_val (x_ld (v := .agg #[I ((aa.getD s default).spring), ae]) rfl (ld_ag Ag85 Sz85 (At.mono bw (aA.at H)))) ?_;refine t_alloc (cs := [I 0, .slice none 0 0]) H Al85 rfl ?_;intro bx bN H;refine zA (I (s : Int)) rfl ?_;refine t_sw 0 0 [I ((aa.getD s default).spring), ae] (.agg #[I ((aa.getD s default).spring), ae]) H rfl rfl Sz85 rfl rfl rfl (by simp only [List.all_cons, List.all_nil, Bool.true_and, Bool.and_true, Sl.oc ak]; try rfl) ?_;intro bO H;refine s_nil <| W.seq ?_;refine W.draw (fun W => St w W [cBlk bx [I ((aa.getD s default).spring), ae] 85, cOwn (α := Int) 3 ac l, cBlk az [.func (.func 58) #[] #[Pq ah]] 108, cBlk aB (encB p) 96] R) [(0, true), (1, true), (2, true), (3, true), (4, true), (5, false), (6, false)] mixed (by decide +kernel) rfl ?_;intro bP aZ;replace H := H.ext aZ;clear aZ
  refine ⟨(H.pk [0, 1, 2, 3]), ?_⟩
  refine d_q rfl (fun w' H => x_fa (v := Pq az) rfl (fa_blk (o := 0) Fd108_0 Sz106)) <| d_q rfl (fun w' H => x_ld (v := .func (.func 58) #[] #[Pq ah]) rfl (ldb_sc Sc106 (H.bl 2) rfl)) <| d_q rfl (fun w' H => x_mv (v := Pq ab) rfl) <| d_q rfl (fun w' H => x_ld (v := .agg #[I ((aa.getD s default).spring), ae]) rfl (ldb_ag (ds := [I ((aa.getD s default).spring), ae]) Ag85 Sz85 (H.bl 0) rfl rfl)) <| d_q rfl (fun w' H => x_ld (v := .agg (encB p).toArray) rfl (ldArrA Ag96 Sz96 aV (H.bl 3))) <| d_l rfl ?_;obtain ⟨bQ, bz, hM⟩ := M.e_bind hM;refine s_call cf48 [Pq ab, .agg #[I ((aa.getD s default).spring), ae], .agg (encB p).toArray] rfl (zca am ao aq au av aw aa (aa.getD s default) p (a8.app _) ba (bc.app _) bf (bg.app _) bh (bi.app _) bj (aA.app _) aj (aU.app _) (aA.app _) ak aV bz _ (H.gt 4)) ?_
  rintro vq bR ⟨r0, r1, r2, rfl, hvq, al⟩
  subst vq;(try dsimp only at hM);replace H := H.bk al;clear al
  refine s_nil ⟨(H.pk [0, 1, 2, 3]), ?_⟩
  refine d_l rfl ?_;obtain ⟨bS, bA, hM⟩ := M.e_bind hM;refine s_callv (f := 58) rfl cf58 [.agg #[I r0, I r1, B r2]] rfl (zeF (⟨(r0 : Int), (r1 : Int), r2⟩ : Rpt) ax ay (bm.app _) bn (bo.app _) (bp.app _) bq (br.app _) (bt.app _) bA _ (H.gt 4)) ?_
  rintro vq bT ⟨r3, rfl, hvq, al⟩
  subst vq;(try dsimp only at hM);replace H := H.bk al;clear al
  refine s_nil ⟨(H.pk [0, 1, 2, 3]), ?_⟩
  refine d_nil ?_
  refine W.cond r3 rfl (fun aE => ?_) (fun aE => ?_)
  ·replace hM := M.e_t hM aE;refine W.region rfl <| zM ac rfl <| zM (I (s : Int)) rfl ?_;refine t_bs (α := Int) T22 [I (s : Int)] [(s : Int)] H rfl (.cons rfl (Flat.rep_enc _ (s : Int)) <| .nil) rfl rfl rfl ?_;intro bB bU H;obtain ⟨bV, hM⟩ := M.e_gd hM;refine t_app (α := Int) (k := 2) (l := l) (l2 := [(s : Int)]) (l' := l ++ ([(s : Int)])) (vy := bB) T22 rfl H rfl rfl rfl (H.os 0) (H.ol 0) (rfl) (by first | omega | (simp only [List.length_nil] at *; omega)) ?_;intro a6 bW H;replace H := H.nf;refine zA a6 rfl <| s_nil ?_;replace H := H.pk [2, 3, 4];refine W.region rfl <| zR (s : Int) 1 ((s : Int) + 1) rfl rfl rfl (by omega) <| zM (I ((s : Int) + 1)) rfl <| s_nil ?_
   exact ⟨aX, aY, s + 1, l ++ ([(s : Int)]), a6, _, upds_of _ _ ⟨rfl, rfl, rfl, rfl, rfl, rfl, rfl, trivial⟩, M.e_inl hM aD, H⟩
  replace hM := M.e_f hM aE;refine W.skip <| W.region rfl <| zR (s : Int) 1 ((s : Int) + 1) rfl rfl rfl (by omega) <| zM (I ((s : Int) + 1)) rfl <| s_nil ?_
  exact ⟨aX, aY, s + 1, l, ac, _, upds_of _ _ ⟨rfl, rfl, rfl, rfl, rfl, rfl, rfl, trivial⟩, M.e_inl hM aD, (H.pk [1, 2, 3])⟩
 replace hM := M.e_f hM ag
 replace ag := dI ag
 refine W.exit ?_
 have bC := M.e_inr hM aD
 subst bC;replace hM := bv;(try dsimp only at hM);replace H := H.pk [0];refine W.seq <| W.region rfl <| zM ac rfl <| zA ac rfl <| s_nil ?_;refine W.ret ?_
 have bD := M.e_pure hM
 exact ⟨_, resE_tmp rfl, ⟨l, ac, bD, rfl, H⟩⟩

def zaM (aa : List Int) (ab : List Span) (ac : List Int) (ae : List Town) (ak al : Int) (ag : List Flood) (watches thresholds : List Int) : M ((List Int) × (List Int) × Int) :=
  M.bind (zaH aa ab ac ae ak al ag watches) fun x_ => match x_ with
  | (.inl (r1, r2)) => (
  bif r2 != 0 then (
  M.pure (([]), ([]), r2))
  else (
  M.fail))
  | (.inr (ah, ai, aj, am)) => (
  bif am != 0 then (
  M.fail)
  else (
  bif (thresholds.length : Int) != (watches.length : Int) then (
  M.pure (([]), ([]), 2))
  else (
  M.bind (za7 thresholds (fun ao => zdb ao)) fun r3 =>
  bif !r3 then (
  M.pure (([]), ([]), 4))
  else (
  M.bind (zdy aa ab ac ae ah ai ag aj watches thresholds) fun r4 =>
  M.bind (zdA aa ab ac ae ah ai ag aj watches thresholds) fun r5 =>
  M.pure (r4, r5, 0)))))
theorem zbt {R : List Chunk} {ba : Cells} {ah : Value} {bc : Cells} {ai : Value} {bf : Cells} {aj : Value} {bg : Cells} {ak : Value} {bh : Cells} {al : Value} {bi : Cells} {am : Value} {bj : Cells} {ao : Value} (ax : List Int) (ay : List Span) (az : List Int) (aA : List Town) (aq : Int) (au : Int) (aB : List Flood) (watches : List Int) (thresholds : List Int) (aO : Reads R ba) (aP : Sl ba ah ax) (aQ : Reads R bc) (aR : Sl bc ai ay) (aS : Reads R bf) (aT : Sl bf aj az) (aU : Reads R bg) (aV : Sl bg ak aA) (aW : Reads R bh) (aX : Sl bh al aB) (aY : Reads R bi) (aC : Sl bi am watches) (aZ : Reads R bj) (aD : Sl bj ao thresholds) {r : ((List Int) × (List Int) × Int)} (hM : (zaM ax ay az aA aq au aB watches thresholds).Ends r) (w : World) (H : St w w [] R) : Ret Tryz.prog 16 #[.agg #[ah, ai, aj, ak, I aq, I au, al], am, ao] w fun v w' => ∃ (y0 : List Int) (y1 : List Int) (y2 : Int) (u0 : Value) (u1 : Value), (y0, y1, y2) = r /\ v = .tuple #[u0, u1, I y2] /\ St w w' [cOwn (α := Int) 3 u0 y0, cOwn (α := Int) 3 u1 y1] R := by
 refine ret_of_W Tryz.func16 rfl rfl rfl <| W.seq <| W.region rfl ?_;refine t_bx [ah, ai, aj, ak, I aq, I au, al] H rfl ?_;intro bm bG H;refine t_box (v := am) (cs := [am]) H rfl (Sl.cells aC) ?_;intro aE bH H;refine t_box (v := ao) (cs := [ao]) H rfl (Sl.cells aD) ?_;intro aF bI H;refine zA (.slice none 0 0) rfl <| zA (.slice none 0 0) rfl <| zA (I 0) rfl <| s_nil <| W.seq <| W.region rfl <| s_val (x_ld (v := .agg #[ah, ai, aj, ak, I aq, I au, al]) rfl (ldb_ag (ds := [ah, ai, aj, ak, I aq, I au, al]) Ag29 Sz29 (H.bl 2) rfl rfl)) <| s_val (x_ld (v := am) rfl (ldb_sc Sc22 (H.bl 1) rfl)) ?_;obtain ⟨bJ, bp, hM⟩ := M.e_bind hM;refine s_call cf46 [.agg #[ah, ai, aj, ak, I aq, I au, al], am] rfl (zdd ax ay az aA aq au aB watches (aO.app _) aP (aQ.app _) aR (aS.app _) aT (aU.app _) aV (aW.app _) aX (aY.app _) aC bp _ (H.gt 3)) ?_
 rintro vq bK (⟨r1, r2, bq, hvq, aa, br⟩ | ⟨aK, aL, ab, ac, ae, bn, bt, bu, hvq, aa, aG⟩)
 ·subst bq;subst vq;(try dsimp only at hM);replace H := H.bk aa;clear aa;refine zM (.tuple #[.pointer none, .agg (encB r1).toArray, I r2]) rfl <| zX [.pointer none, .agg (encB r1).toArray, I r2] (.pointer none) rfl rfl <| zX [.pointer none, .agg (encB r1).toArray, I r2] (.agg (encB r1).toArray) rfl rfl <| zX [.pointer none, .agg (encB r1).toArray, I r2] (I r2) rfl rfl ?_;refine t_alloc (cs := encB (List.replicate 12 false)) H Al96 rfl ?_;intro aH bL H
  have a6 : (List.replicate 12 false).length = 12 := by simp
  refine zA (.pointer none) rfl ?_;refine t_stArrA (k := 0) (b := aH) (l := List.replicate 12 false) (l' := r1) (L' := [cBlk aH (encB r1) 96, cBlk aF [ao] 22, cBlk aE [am] 22, cBlk bm [ah, ai, aj, ak, I aq, I au, al] 29]) H rfl rfl rfl Sz96 a6 br rfl ?_;intro bM H;refine zA (I r2) rfl <| s_nil <| W.seq <| W.block <| W.seq <| W.region rfl <| zM (I r2) rfl <| zC r2 0 (r2 != 0) rfl rfl rfl <| zA (B (r2 != 0)) rfl <| s_nil ?_
  refine W.cond (r2 != 0) rfl (fun aI => ?_) (fun aI => ?_)
  ·replace hM := M.e_t hM aI
   replace aI := dI aI
   refine W.seq <| W.region rfl <| zM (I r2) rfl <| zA (.slice none 0 0) rfl <| zA (.slice none 0 0) rfl <| zA (I r2) rfl <| s_nil ?_;replace H := H.pk [];refine W.ret ?_
   have av := M.e_pure hM
   replace H := H.nilOwn (α := Int) 3
   replace H := H.nilOwn (α := Int) 3
   exact ⟨_, resE_tmp3 rfl, ⟨([]), ([]), r2, (.slice none 0 0), (.slice none 0 0), av, rfl, (H.pk [1, 0])⟩⟩
  replace hM := M.e_f hM aI
  exact (M.e_fail hM).elim
 subst bu;subst vq;(try dsimp only at hM);replace H := H.bk aa;clear aa;refine zM (.tuple #[Pq ae, .agg (encB ab).toArray, I ac]) rfl <| zX [Pq ae, .agg (encB ab).toArray, I ac] (Pq ae) rfl rfl <| zX [Pq ae, .agg (encB ab).toArray, I ac] (.agg (encB ab).toArray) rfl rfl <| zX [Pq ae, .agg (encB ab).toArray, I ac] (I ac) rfl rfl ?_;refine t_alloc (cs := encB (List.replicate 12 false)) H Al96 rfl ?_;intro aH bN H
 have a6 : (List.replicate 12 false).length = 12 := by simp
 refine zA (Pq ae) rfl ?_;refine t_stArrA (k := 0) (b := aH) (l := List.replicate 12 false) (l' := ab) (L' := [cBlk aH (encB ab) 96, cBlk ae [ah, ai, aj, ak, I aK, I aL, al, .map (some bn)] 111, cMem encDm bn bt (zaa ax ay az aA aK aL aB), cBlk aF [ao] 22, cBlk aE [am] 22, cBlk bm [ah, ai, aj, ak, I aq, I au, al] 29]) H rfl rfl rfl Sz96 a6 aG rfl ?_;intro bO H;refine zA (I ac) rfl <| s_nil <| W.seq <| W.block <| W.seq <| W.region rfl <| zM (I ac) rfl <| zC ac 0 (ac != 0) rfl rfl rfl <| zA (B (ac != 0)) rfl <| s_nil ?_
 refine W.cond (ac != 0) rfl (fun aJ => ?_) (fun aJ => ?_)
 ·replace hM := M.e_t hM aJ
  exact (M.e_fail hM).elim
 replace hM := M.e_f hM aJ
 replace aJ := dI aJ
 refine W.seq <| W.region rfl <| s_val (x_ld (v := ao) rfl (ldb_sc Sc22 (H.bl 3) rfl)) ?_
 have bP := (aD).len_le
 refine s_val (x_lenS T22.und rfl aD) <| s_val (x_ld (v := am) rfl (ldb_sc Sc22 (H.bl 4) rfl)) ?_
 have bQ := (aC).len_le
 refine s_val (x_lenS T22.und rfl aC) <| zC (thresholds.length : Int) (watches.length : Int) ((thresholds.length : Int) != (watches.length : Int)) rfl rfl rfl <| zA (B ((thresholds.length : Int) != (watches.length : Int))) rfl <| s_nil ?_
 refine W.cond ((thresholds.length : Int) != (watches.length : Int)) rfl (fun aw => ?_) (fun aw => ?_)
 ·replace hM := M.e_t hM aw
  replace aw := dI aw
  refine W.seq <| W.region rfl <| zA (.slice none 0 0) rfl <| zA (.slice none 0 0) rfl <| zA (I 2) rfl <| s_nil ?_;replace H := H.pk [];refine W.ret ?_
  have av := M.e_pure hM
  replace H := H.nilOwn (α := Int) 3
  replace H := H.nilOwn (α := Int) 3
  exact ⟨_, resE_tmp3 rfl, ⟨([]), ([]), 2, (.slice none 0 0), (.slice none 0 0), av, rfl, (H.pk [1, 0])⟩⟩
 replace hM := M.e_f hM aw
 replace aw := dI aw
 refine W.seq <| W.region rfl <| s_val (x_ld (v := ao) rfl (ldb_sc Sc22 (H.bl 3) rfl)) ?_;obtain ⟨bR, bv, hM⟩ := M.e_bind hM;refine s_call cf53 [ao, .func (.func 54) #[] #[]] rfl (zdB thresholds (fun a7 => zdb a7) (aZ.app _) aD ⟨54, [], rfl, cf54, fun bo bS bT bw a7 bU bx bV bz bA => by obtain rfl := Arg.int bz; exact (zeS a7 bA bo (St.refl bx)).mono fun bw bo ⟨bW, bB, bC, bD⟩ => by subst bB; exact ⟨bC, bD⟩⟩ bv _ (H.gt 6)) ?_
 rintro vq bX ⟨r3, rfl, hvq, aa⟩
 subst vq;(try dsimp only at hM);replace H := H.bk aa;clear aa;refine s_val (x_not (b := r3) rfl) <| zA (B (!r3)) rfl <| s_nil ?_
 refine W.cond (!r3) rfl (fun a8 => ?_) (fun a8 => ?_)
 ·replace hM := M.e_t hM a8;refine W.seq <| W.region rfl <| zA (.slice none 0 0) rfl <| zA (.slice none 0 0) rfl <| zA (I 4) rfl <| s_nil ?_;replace H := H.pk [];refine W.ret ?_
  have av := M.e_pure hM
  replace H := H.nilOwn (α := Int) 3
  replace H := H.nilOwn (α := Int) 3
  exact ⟨_, resE_tmp3 rfl, ⟨([]), ([]), 4, (.slice none 0 0), (.slice none 0 0), av, rfl, (H.pk [1, 0])⟩⟩
 replace hM := M.e_f hM a8;refine W.skip <| W.seq <| W.region rfl <| s_val (x_mf (fs := []) (cs := [Pq aE, Pq aF]) rfl rfl) ?_;refine t_alloc (cs := [.nilFunc]) H Al106 rfl ?_;intro ag bY H;refine t_sw 0 0 [.func (.func 55) #[] #[Pq aE, Pq aF]] (.func (.func 55) #[] #[Pq aE, Pq aF]) H rfl rfl Sz106 rfl rfl rfl rfl ?_;intro bZ H;refine s_nil <| W.seq <| W.region rfl <| zM (Pq ae) rfl <| s_val (x_ld (v := .agg (encB ab).toArray) rfl (ldArrA Ag96 Sz96 aG (H.bl 1))) <| s_val (x_mf (fs := []) (cs := [Pq ag]) rfl rfl) <| s_val (x_bld (ps := [(0, .func (.func 57) #[] #[Pq ag])]) (zs := [.nilFunc]) (L' := [.func (.func 57) #[] #[Pq ag]]) rfl Tryz.underlying108 Al108 rfl (Bd108 Tryz.underlying108) (.cons (cs := [.func (.func 57) #[] #[Pq ag]]) rfl rfl rfl rfl rfl <| .nil)) ?_;obtain ⟨b4, bE, hM⟩ := M.e_bind hM;refine s_call cf51 [Pq ae, .agg (encB ab).toArray, .agg #[.func (.func 57) #[] #[Pq ag]]] rfl (zeJ ax ay az aA aK aL aB ab watches thresholds (aO.app _) aP (aQ.app _) aR (aS.app _) aT (aU.app _) aV (aW.app _) aX (Has.here (k := 2) rfl) aG (aY.app _) aC (Has.here (k := 5) rfl) (aZ.app _) aD (Has.here (k := 4) rfl) (Has.here (k := 0) rfl) bE _ (H.gt 7)) ?_
 rintro vq b7 ⟨r4, aM, rfl, hvq, aa⟩
 subst vq;(try dsimp only at hM);replace H := H.bk aa;clear aa;refine zA aM rfl <| s_nil <| W.seq <| W.region rfl <| zM (Pq ae) rfl <| s_val (x_ld (v := .agg (encB ab).toArray) rfl (ldArrA Ag96 Sz96 aG (H.bl 2))) <| s_val (x_mf (fs := []) (cs := [Pq ag]) rfl rfl) <| s_val (x_bld (ps := [(0, .func (.func 58) #[] #[Pq ag])]) (zs := [.nilFunc]) (L' := [.func (.func 58) #[] #[Pq ag]]) rfl Tryz.underlying108 Al108 rfl (Bd108 Tryz.underlying108) (.cons (cs := [.func (.func 58) #[] #[Pq ag]]) rfl rfl rfl rfl rfl <| .nil)) ?_;obtain ⟨b8, bF, hM⟩ := M.e_bind hM;refine s_call cf51 [Pq ae, .agg (encB ab).toArray, .agg #[.func (.func 58) #[] #[Pq ag]]] rfl (zev ax ay az aA aK aL aB ab watches thresholds (aO.app _) aP (aQ.app _) aR (aS.app _) aT (aU.app _) aV (aW.app _) aX (Has.here (k := 3) rfl) aG (aY.app _) aC (Has.here (k := 6) rfl) (aZ.app _) aD (Has.here (k := 5) rfl) (Has.here (k := 1) rfl) bF _ (H.gt 8)) ?_
 rintro vq b9 ⟨r5, aN, rfl, hvq, aa⟩
 subst vq;(try dsimp only at hM);replace H := H.bk aa;clear aa;refine zA aN rfl <| s_nil ?_;replace H := H.pk [0, 1];refine W.seq <| W.region rfl <| zM aM rfl <| zM aN rfl <| zA aM rfl <| zA aN rfl <| zA (I 0) rfl <| s_nil ?_;refine W.ret ?_
 have av := M.e_pure hM
 exact ⟨_, resE_tmp3 rfl, ⟨r4, r5, 0, aM, aN, av, rfl, (H.pk [1, 0])⟩⟩

end Go.Proofs.YtbaehghammbjdaaGreat
end
section
set_option maxRecDepth 100000
set_option maxHeartbeats 16000000
namespace Go.Proofs.YtbaehghammbjdaaGreat
open Go Go.Nm
def zcW  : M Bool :=
  M.bind (zad 4) fun (r0, r1, r2, r3, r4, r5, r6) =>
  M.bind (zat r0 r1 r2 r3 r4 r5 r6 (⟨(0 : Int), (0 : Int)⟩ : Dem)) fun (bg, aj) =>
  M.bind (zad 4) fun (bh, bi, bj, bm, bn, bo, bp) =>
  M.bind (zat bh bi bj bm bn bo bp (⟨(1 : Int), (0 : Int)⟩ : Dem)) fun (av, ak) =>
  M.bind (zad 4) fun (bq, br, bt, bu, bv, bw, bx) =>
  M.bind (zas bq br bt bu bv bw bx) fun (bZ, al) =>
  M.bind (zad 3) fun (bz, bA, bB, bC, bD, bE, bF) =>
  M.bind (zas bz bA bB bC bD bE bF) fun (aw, am) =>
  M.bind (zad 1) fun (bG, bH, bI, bJ, bK, bL, bM) =>
  M.bind (zas bG bH bI bJ bK bL bM) fun (bN, ao) =>
  M.bind (zad 4) fun (bO, bP, bQ, bR, bS, bT, bU) =>
  M.bind (zdQ bO bP bQ bR bS bT bU 0 0) fun (bc, bf, aq) =>
  M.bind (M.opt (!((((((aj != 0) || (ak != 0)) || (al != 6)) || (am != 0)) || (ao != 0)) || (aq != 0))) (zab bg ([(0 : Int)])) false) fun r7 =>
  M.bind (M.opt (!(((((((((aj != 0) || (ak != 0)) || (al != 6)) || (am != 0)) || (ao != 0)) || (aq != 0)) || (!r7)) || (decide (0 < (av.length : Int)))) || ((aw.length : Int) != 2))) (zab bN ([(2 : Int)])) false) fun r8 =>
  bif !((((((((((aj != 0) || (ak != 0)) || (al != 6)) || (am != 0)) || (ao != 0)) || (aq != 0)) || (!r7)) || (decide (0 < (av.length : Int)))) || ((aw.length : Int) != 2)) || (!r8)) then (
  M.bind (zbm 6 10) fun (bV, bW) =>
  bif (((((((((((aj != 0) || (ak != 0)) || (al != 6)) || (am != 0)) || (ao != 0)) || (aq != 0)) || (!r7)) || (decide (0 < (av.length : Int)))) || ((aw.length : Int) != 2)) || (!r8)) || (!(decide ((⟨(bc : Int), (bf : Int)⟩ : Span) = (⟨(bV : Int), (bW : Int)⟩ : Span))))) then (
  M.pure false)
  else (
  M.bind (zad 1) fun (ax, ay, az, aA, aB, aC, aD) =>
  M.bind (zdt ax ay az aA aB aC aD ([(2 : Int)])) fun (aE, aF, aa) =>
  M.bind (zad 1) fun (aG, aH, aI, aJ, aK, aL, aM) =>
  M.bind (zaM aG aH aI aJ aK aL aM ([(2 : Int)]) ([(250 : Int)])) fun (ag, ah, ab) =>
  M.bind (zad 1) fun (aN, aO, aP, aQ, aR, aS, aT) =>
  M.bind (zaM aN aO aP aQ aR aS aT ([(2 : Int)]) ([(240 : Int)])) fun (bX, aU, ac) =>
  M.bind (zad 1) fun (aV, aW, aX, aY, aZ, a6, a7) =>
  M.bind (zaM aV aW aX aY aZ a6 a7 ([(2 : Int)]) ([(251 : Int)])) fun (a8, bY, ae) =>
  M.bind (M.opt ((((aa == 0) && (ab == 0)) && (ac == 0)) && (ae == 0)) (zab aE ([(250 : Int)])) false) fun r9 =>
  M.bind (M.opt (((((aa == 0) && (ab == 0)) && (ac == 0)) && (ae == 0)) && r9) (zab aF ([(0 : Int)])) false) fun ai =>
  M.grd ((!((((((aa == 0) && (ab == 0)) && (ac == 0)) && (ae == 0)) && r9) && ai) || (decide ((-9223372036854775808 : Int) <= ((ag.length : Int) + (ah.length : Int))) && decide (((ag.length : Int) + (ah.length : Int)) <= (9223372036854775807 : Int))))) <|
  M.bind (M.opt (((((((aa == 0) && (ab == 0)) && (ac == 0)) && (ae == 0)) && r9) && ai) && (((ag.length : Int) + (ah.length : Int)) == 0)) (zab aU ([(1 : Int)])) false) fun au =>
  M.bind (M.opt ((((((((aa == 0) && (ab == 0)) && (ac == 0)) && (ae == 0)) && r9) && ai) && (((ag.length : Int) + (ah.length : Int)) == 0)) && au) (zab a8 ([(0 : Int)])) false) fun ba =>
  M.pure (((((((((aa == 0) && (ab == 0)) && (ac == 0)) && (ae == 0)) && r9) && ai) && (((ag.length : Int) + (ah.length : Int)) == 0)) && au) && ba)))
  else (
  bif (((((((((((aj != 0) || (ak != 0)) || (al != 6)) || (am != 0)) || (ao != 0)) || (aq != 0)) || (!r7)) || (decide (0 < (av.length : Int)))) || ((aw.length : Int) != 2)) || (!r8)) || (!(decide ((⟨(bc : Int), (bf : Int)⟩ : Span) = (⟨(0 : Int), (0 : Int)⟩ : Span))))) then (
  M.pure false)
  else (
  M.bind (zad 1) fun (ax, ay, az, aA, aB, aC, aD) =>
  M.bind (zdt ax ay az aA aB aC aD ([(2 : Int)])) fun (aE, aF, aa) =>
  M.bind (zad 1) fun (aG, aH, aI, aJ, aK, aL, aM) =>
  M.bind (zaM aG aH aI aJ aK aL aM ([(2 : Int)]) ([(250 : Int)])) fun (ag, ah, ab) =>
  M.bind (zad 1) fun (aN, aO, aP, aQ, aR, aS, aT) =>
  M.bind (zaM aN aO aP aQ aR aS aT ([(2 : Int)]) ([(240 : Int)])) fun (bX, aU, ac) =>
  M.bind (zad 1) fun (aV, aW, aX, aY, aZ, a6, a7) =>
  M.bind (zaM aV aW aX aY aZ a6 a7 ([(2 : Int)]) ([(251 : Int)])) fun (a8, bY, ae) =>
  M.bind (M.opt ((((aa == 0) && (ab == 0)) && (ac == 0)) && (ae == 0)) (zab aE ([(250 : Int)])) false) fun r9 =>
  M.bind (M.opt (((((aa == 0) && (ab == 0)) && (ac == 0)) && (ae == 0)) && r9) (zab aF ([(0 : Int)])) false) fun ai =>
  M.grd ((!((((((aa == 0) && (ab == 0)) && (ac == 0)) && (ae == 0)) && r9) && ai) || (decide ((-9223372036854775808 : Int) <= ((ag.length : Int) + (ah.length : Int))) && decide (((ag.length : Int) + (ah.length : Int)) <= (9223372036854775807 : Int))))) <|
  M.bind (M.opt (((((((aa == 0) && (ab == 0)) && (ac == 0)) && (ae == 0)) && r9) && ai) && (((ag.length : Int) + (ah.length : Int)) == 0)) (zab aU ([(1 : Int)])) false) fun au =>
  M.bind (M.opt ((((((((aa == 0) && (ab == 0)) && (ac == 0)) && (ae == 0)) && r9) && ai) && (((ag.length : Int) + (ah.length : Int)) == 0)) && au) (zab a8 ([(0 : Int)])) false) fun ba =>
  M.pure (((((((((aa == 0) && (ab == 0)) && (ac == 0)) && (ae == 0)) && r9) && ai) && (((ag.length : Int) + (ah.length : Int)) == 0)) && au) && ba)))
theorem zdX {R : List Chunk}    {r : Bool} (hM : (zcW).Ends r) (w : World) (H : St w w [] R) : Ret Tryz.prog 7 #[] w fun v w' => ∃ (y0 : Bool), y0 = r /\ v = B y0 /\ St w w' [] R := by
 refine ret_of_W Tryz.func7 rfl rfl rfl <| W.seq <| W.region rfl <| zA (B false) rfl <| s_nil <| W.seq <| W.region rfl ?_;obtain ⟨fM, cD, hM⟩ := M.e_bind hM;refine s_call cf42 [I 4] rfl (zah 4 cD _ (H.gt 0)) ?_
 rintro vq fN ⟨r0, r1, r2, r3, r4, r5, r6, cE, cF, cG, cH, cI, fO, fP, rfl, hvq, ag, cJ⟩
 subst vq;(try dsimp only at hM);replace H := H.bk ag;clear ag;refine s_val (x_bld (ps := [(0, I 0)]) (zs := [I 0, I 0]) (L' := [I 0, I 0]) rfl Tryz.underlying61 Al61 rfl (Bd61 Tryz.underlying61) (.cons (cs := [I 0]) rfl rfl rfl rfl rfl <| .nil)) ?_;obtain ⟨fQ, cK, hM⟩ := M.e_bind hM;refine s_call cf32 [.agg #[cE, cF, cG, cH, I r4, I r5, cI], .agg #[I 0, I 0]] rfl (zda r0 r1 r2 r3 r4 r5 r6 (⟨(0 : Int), (0 : Int)⟩ : Dem) (rdo 0) (H.os 0) (rdo 1) (H.os 1) (rdo 2) (H.os 2) (rdo 3) (H.os 3) (Reads.sup (rdo 4) (Reads.of (k := 5) rfl roLe)) (rowSl rfl (H.get (k := 4) rfl) (roLe _ (H.get (k := 5) rfl)) cJ) cK _ (H.gt 6)) ?_
 rintro vq fR ⟨b9, ah, aL, rfl, hvq, ag⟩
 subst vq;(try dsimp only at hM);replace H := H.bk ag;clear ag;refine zM (.tuple #[aL, I ah]) rfl <| zX [aL, I ah] aL rfl rfl <| zX [aL, I ah] (I ah) rfl rfl <| zA aL rfl <| zA (I ah) rfl <| s_nil ?_;replace H := H.pk [0];refine W.seq <| W.region rfl ?_;obtain ⟨fS, cL, hM⟩ := M.e_bind hM;refine s_call cf42 [I 4] rfl (zah 4 cL _ (H.gt 1)) ?_
 rintro vq fT ⟨cM, cN, cO, cP, ca, cb, cQ, cR, cS, cT, cU, cV, fU, fV, rfl, hvq, ag, cW⟩
 subst vq;(try dsimp only at hM);replace H := H.bk ag;clear ag;refine s_val (x_bld (ps := [(0, I 1)]) (zs := [I 0, I 0]) (L' := [I 1, I 0]) rfl Tryz.underlying61 Al61 rfl (Bd61 Tryz.underlying61) (.cons (cs := [I 1]) rfl rfl rfl rfl rfl <| .nil)) ?_;obtain ⟨fW, cX, hM⟩ := M.e_bind hM;refine s_call cf32 [.agg #[cR, cS, cT, cU, I ca, I cb, cV], .agg #[I 1, I 0]] rfl (zda cM cN cO cP ca cb cQ (⟨(1 : Int), (0 : Int)⟩ : Dem) (rdo 0) (H.os 0) (rdo 1) (H.os 1) (rdo 2) (H.os 2) (rdo 3) (H.os 3) (Reads.sup (rdo 4) (Reads.of (k := 5) rfl roLe)) (rowSl rfl (H.get (k := 4) rfl) (roLe _ (H.get (k := 5) rfl)) cW) cX _ (H.gt 7)) ?_
 rintro vq fX ⟨av, ai, aN, rfl, hvq, ag⟩
 subst vq;(try dsimp only at hM);replace H := H.bk ag;clear ag;refine zM (.tuple #[aN, I ai]) rfl <| zX [aN, I ai] aN rfl rfl <| zX [aN, I ai] (I ai) rfl rfl <| zA aN rfl <| zA (I ai) rfl <| s_nil ?_;replace H := H.pk [0, 7];refine W.seq <| W.region rfl ?_;obtain ⟨fY, cY, hM⟩ := M.e_bind hM;refine s_call cf42 [I 4] rfl (zah 4 cY _ (H.gt 2)) ?_
 rintro vq fZ ⟨cZ, c6, c7, c8, cc, ce, c9, da, db, dc, dd, de, f6, f9, rfl, hvq, ag, dg⟩
 subst vq;(try dsimp only at hM);replace H := H.bk ag;clear ag;obtain ⟨ga, di, hM⟩ := M.e_bind hM;refine s_call cf36 [.agg #[da, db, dc, dd, I cc, I ce, de]] rfl (zc3 cZ c6 c7 c8 cc ce c9 (rdo 0) (H.os 0) (rdo 1) (H.os 1) (rdo 2) (H.os 2) (rdo 3) (H.os 3) (Reads.sup (rdo 4) (Reads.of (k := 5) rfl roLe)) (rowSl rfl (H.get (k := 4) rfl) (roLe _ (H.get (k := 5) rfl)) dg) di _ (H.gt 8)) ?_
 rintro vq gc ⟨gf, aj, aR, rfl, hvq, ag⟩
 subst vq;(try dsimp only at hM);replace H := H.bk ag;clear ag;refine zM (.tuple #[aR, I aj]) rfl <| zX [aR, I aj] aR rfl rfl <| zX [aR, I aj] (I aj) rfl rfl <| zA aR rfl <| zA (I aj) rfl <| s_nil ?_;replace H := H.pk [7, 8];refine W.seq <| W.region rfl ?_;obtain ⟨gg, dk, hM⟩ := M.e_bind hM;refine s_call cf42 [I 3] rfl (zah 3 dk _ (H.gt 2)) ?_
 rintro vq gh ⟨dq, dr, dt, du, cf, cg, dv, dw, dx, dy, dz, dA, gi, gj, rfl, hvq, ag, dB⟩
 subst vq;(try dsimp only at hM);replace H := H.bk ag;clear ag;obtain ⟨gk, dC, hM⟩ := M.e_bind hM;refine s_call cf36 [.agg #[dw, dx, dy, dz, I cf, I cg, dA]] rfl (zc3 dq dr dt du cf cg dv (rdo 0) (H.os 0) (rdo 1) (H.os 1) (rdo 2) (H.os 2) (rdo 3) (H.os 3) (Reads.sup (rdo 4) (Reads.of (k := 5) rfl roLe)) (rowSl rfl (H.get (k := 4) rfl) (roLe _ (H.get (k := 5) rfl)) dB) dC _ (H.gt 8)) ?_
 rintro vq gl ⟨ax, ak, aO, rfl, hvq, ag⟩
 subst vq;(try dsimp only at hM);replace H := H.bk ag;clear ag;refine zM (.tuple #[aO, I ak]) rfl <| zX [aO, I ak] aO rfl rfl <| zX [aO, I ak] (I ak) rfl rfl <| zA aO rfl <| zA (I ak) rfl <| s_nil ?_;replace H := H.pk [0, 7, 8];refine W.seq <| W.region rfl ?_;obtain ⟨gm, dD, hM⟩ := M.e_bind hM;refine s_call cf42 [I 1] rfl (zah 1 dD _ (H.gt 3)) ?_
 rintro vq gn ⟨dE, dF, dG, dH, ck, cl, dJ, dK, dL, dM, dN, dO, gp, gq, rfl, hvq, ag, dP⟩
 subst vq;(try dsimp only at hM);replace H := H.bk ag;clear ag;obtain ⟨gr, dQ, hM⟩ := M.e_bind hM;refine s_call cf36 [.agg #[dK, dL, dM, dN, I ck, I cl, dO]] rfl (zc3 dE dF dG dH ck cl dJ (rdo 0) (H.os 0) (rdo 1) (H.os 1) (rdo 2) (H.os 2) (rdo 3) (H.os 3) (Reads.sup (rdo 4) (Reads.of (k := 5) rfl roLe)) (rowSl rfl (H.get (k := 4) rfl) (roLe _ (H.get (k := 5) rfl)) dP) dQ _ (H.gt 9)) ?_
 rintro vq gu ⟨cm, am, aM, rfl, hvq, ag⟩
 subst vq;(try dsimp only at hM);replace H := H.bk ag;clear ag;refine zM (.tuple #[aM, I am]) rfl <| zX [aM, I am] aM rfl rfl <| zX [aM, I am] (I am) rfl rfl <| zA aM rfl <| zA (I am) rfl <| s_nil ?_;replace H := H.pk [0, 7, 8, 9];refine W.seq <| W.region rfl ?_;obtain ⟨gv, dR, hM⟩ := M.e_bind hM;refine s_call cf42 [I 4] rfl (zah 4 dR _ (H.gt 4)) ?_
 rintro vq gw ⟨dS, dT, dU, dV, cn, co, dW, dX, dY, dZ, d6, d7, gx, gy, rfl, hvq, ag, d8⟩
 subst vq;(try dsimp only at hM);replace H := H.bk ag;clear ag;obtain ⟨gz, d9, hM⟩ := M.e_bind hM;refine s_call cf25 [.agg #[dX, dY, dZ, d6, I cn, I co, d7], I 0, I 0] rfl (zeO dS dT dU dV cn co dW 0 0 (rdo 0) (H.os 0) (rdo 1) (H.os 1) (rdo 2) (H.os 2) (rdo 3) (H.os 3) (Reads.sup (rdo 4) (Reads.of (k := 5) rfl roLe)) (rowSl rfl (H.get (k := 4) rfl) (roLe _ (H.get (k := 5) rfl)) d8) d9 _ (H.gt 10)) ?_
 rintro vq gA ⟨az, aA, ao, rfl, hvq, ag⟩
 subst vq;(try dsimp only at hM);replace H := H.bk ag;clear ag;refine zM (.tuple #[.agg #[I az, I aA], I ao]) rfl <| zX [.agg #[I az, I aA], I ao] (.agg #[I az, I aA]) rfl rfl <| zX [.agg #[I az, I aA], I ao] (I ao) rfl rfl ?_;refine t_alloc (cs := [I 0, I 0]) H Al26 rfl ?_;intro ea gB H;refine t_sw 0 0 [I az, I aA] (.agg #[I az, I aA]) H rfl rfl Sz26 rfl rfl rfl rfl ?_;intro gC H;refine zA (I ao) rfl <| s_nil ?_;replace H := H.pk [0, 7, 8, 9, 10];refine W.seq <| W.seq ?_;refine W.draw (fun W => St w W [cBlk ea [I az, I aA] 26, cOwn (α := Int) 3 aM cm, cOwn (α := Int) 3 aO ax, cOwn (α := Int) 3 aN av, cOwn (α := Int) 3 aL b9] R) [(0, true), (1, true), (2, true), (3, true), (4, true), (5, true), (6, true), (7, true), (8, true), (9, true), (10, true), (11, true), (12, true), (13, true), (14, true), (15, true), (16, true), (17, true), (18, true), (19, true), (20, true), (21, true), (22, true), (23, true), (24, false), (25, false), (26, true), (27, true), (28, true), (29, true), (30, true), (31, true), (32, true), (33, true), (34, true), (35, true), (36, true), (37, true), (38, true), (39, true), (40, false), (41, false), (42, true), (43, true), (44, true), (45, true), (46, false), (47, true), (48, true)] mixed (by decide +kernel) rfl ?_;intro gD aQ;replace H := H.ext aQ;clear aQ
 refine ⟨(H.pk [0, 1, 2, 3, 4]), ?_⟩
 refine d_q rfl (fun w' H => x_mv (v := I ah) rfl) <| d_q rfl (fun w' H => x_cmp (kd := .i64) (r := ah != 0) rfl rfl rfl) <| d_q rfl (fun w' H => x_mv (v := B (ah != 0)) rfl) <| d_qg (!(ah != 0)) rfl (gy_f rfl) (fun hg => (fun w' H => x_mv (v := I ai) rfl)) <| d_qg (!(ah != 0)) rfl (gy_f rfl) (fun hg => (fun w' H => x_cmp (kd := .i64) (r := ai != 0) (gd_of hg (I ai)) rfl rfl)) <| d_q rfl (fun w' H => x_por (b := ah != 0) (r := ai != 0) rfl rfl (fun hb => gd_of (c := !(ah != 0)) (by first | exact hb | (rw [hb]; rfl) | simp_all) (B (ai != 0)))) <| d_q rfl (fun w' H => x_mv (v := B ((ah != 0) || (ai != 0))) rfl) <| d_qg (!((ah != 0) || (ai != 0))) rfl (gy_f rfl) (fun hg => (fun w' H => x_mv (v := I aj) rfl)) <| d_qg (!((ah != 0) || (ai != 0))) rfl (gy_f rfl) (fun hg => (fun w' H => x_cmp (kd := .i64) (r := aj != 6) (gd_of hg (I aj)) rfl rfl)) <| d_q rfl (fun w' H => x_por (b := ((ah != 0) || (ai != 0))) (r := aj != 6) rfl rfl (fun hb => gd_of (c := !((ah != 0) || (ai != 0))) (by first | exact hb | (rw [hb]; rfl) | simp_all) (B (aj != 6)))) ?_;refine d_q rfl (fun w' H => x_mv (v := B (((ah != 0) || (ai != 0)) || (aj != 6))) rfl) <| d_qg (!(((ah != 0) || (ai != 0)) || (aj != 6))) rfl (gy_f rfl) (fun hg => (fun w' H => x_mv (v := I ak) rfl)) <| d_qg (!(((ah != 0) || (ai != 0)) || (aj != 6))) rfl (gy_f rfl) (fun hg => (fun w' H => x_cmp (kd := .i64) (r := ak != 0) (gd_of hg (I ak)) rfl rfl)) <| d_q rfl (fun w' H => x_por (b := (((ah != 0) || (ai != 0)) || (aj != 6))) (r := ak != 0) rfl rfl (fun hb => gd_of (c := !(((ah != 0) || (ai != 0)) || (aj != 6))) (by first | exact hb | (rw [hb]; rfl) | simp_all) (B (ak != 0)))) <| d_q rfl (fun w' H => x_mv (v := B ((((ah != 0) || (ai != 0)) || (aj != 6)) || (ak != 0))) rfl) <| d_qg (!((((ah != 0) || (ai != 0)) || (aj != 6)) || (ak != 0))) rfl (gy_f rfl) (fun hg => (fun w' H => x_mv (v := I am) rfl)) <| d_qg (!((((ah != 0) || (ai != 0)) || (aj != 6)) || (ak != 0))) rfl (gy_f rfl) (fun hg => (fun w' H => x_cmp (kd := .i64) (r := am != 0) (gd_of hg (I am)) rfl rfl)) <| d_q rfl (fun w' H => x_por (b := ((((ah != 0) || (ai != 0)) || (aj != 6)) || (ak != 0))) (r := am != 0) rfl rfl (fun hb => gd_of (c := !((((ah != 0) || (ai != 0)) || (aj != 6)) || (ak != 0))) (by first | exact hb | (rw [hb]; rfl) | simp_all) (B (am != 0)))) <| d_q rfl (fun w' H => x_mv (v := B (((((ah != 0) || (ai != 0)) || (aj != 6)) || (ak != 0)) || (am != 0))) rfl) <| d_qg (!(((((ah != 0) || (ai != 0)) || (aj != 6)) || (ak != 0)) || (am != 0))) rfl (gy_f rfl) (fun hg => (fun w' H => x_mv (v := I ao) rfl)) ?_;refine d_qg (!(((((ah != 0) || (ai != 0)) || (aj != 6)) || (ak != 0)) || (am != 0))) rfl (gy_f rfl) (fun hg => (fun w' H => x_cmp (kd := .i64) (r := ao != 0) (gd_of hg (I ao)) rfl rfl)) <| d_q rfl (fun w' H => x_por (b := (((((ah != 0) || (ai != 0)) || (aj != 6)) || (ak != 0)) || (am != 0))) (r := ao != 0) rfl rfl (fun hb => gd_of (c := !(((((ah != 0) || (ai != 0)) || (aj != 6)) || (ak != 0)) || (am != 0))) (by first | exact hb | (rw [hb]; rfl) | simp_all) (B (ao != 0)))) <| d_q rfl (fun w' H => x_mv (v := B ((((((ah != 0) || (ai != 0)) || (aj != 6)) || (ak != 0)) || (am != 0)) || (ao != 0))) rfl) <| d_qg (!((((((ah != 0) || (ai != 0)) || (aj != 6)) || (ak != 0)) || (am != 0)) || (ao != 0))) rfl (gy_f rfl) (fun hg => (fun w' H => x_mv (v := aL) rfl)) <| d_l rfl ?_;refine t_gbs (α := Int) T22 (!((((((ah != 0) || (ai != 0)) || (aj != 6)) || (ak != 0)) || (am != 0)) || (ao != 0))) (gy_f rfl) [I 0] [(0 : Int)] H (fun _ => rfl) (.cons rfl (Flat.rep_enc _ (0 : Int)) <| .nil) rfl rfl rfl ?_;intro cp gE gF H eb
 refine s_nil ⟨(H.pk [1, 2, 3, 4, 5]), ?_⟩
 refine d_l rfl ?_;obtain ⟨r7, ec, hM⟩ := M.e_bind hM;refine t_gcall (!((((((ah != 0) || (ai != 0)) || (aj != 6)) || (ak != 0)) || (am != 0)) || (ao != 0))) (gy_f rfl) cf15 (B r7) (fun _ => [aL, cp]) (fun hg => lst2 (gd_of hg (aL)) (gd_of hg (cp))) H (fun hg => (zaf b9 ([(0 : Int)]) (rdo 5) (H.os 5) (Reads.of (k := 0) rfl roLe) (eb hg) (M.e_opt ec hg) _ (H.give (A := []) rfl)).mono fun v_ w_ ⟨y_, aw, aB, H_⟩ => by subst aw; exact ⟨aB, H.via H_⟩) ?_;intro gG H
 refine s_nil ⟨(H.pk [1, 2, 3, 4, 5]), ?_⟩
 refine d_qg (!((((((ah != 0) || (ai != 0)) || (aj != 6)) || (ak != 0)) || (am != 0)) || (ao != 0))) rfl (gy_f rfl) (fun hg => (fun w' H => x_not (b := r7) (gd_of hg (B r7)))) <| d_q rfl (fun w' H => x_por (b := ((((((ah != 0) || (ai != 0)) || (aj != 6)) || (ak != 0)) || (am != 0)) || (ao != 0))) (r := !r7) rfl rfl (fun hb => gd_of (c := !((((((ah != 0) || (ai != 0)) || (aj != 6)) || (ak != 0)) || (am != 0)) || (ao != 0))) (by first | exact hb | (rw [hb]; rfl) | simp_all) (B (!r7)))) <| d_q rfl (fun w' H => x_mv (v := B (((((((ah != 0) || (ai != 0)) || (aj != 6)) || (ak != 0)) || (am != 0)) || (ao != 0)) || (!r7))) rfl) <| d_qg (!(((((((ah != 0) || (ai != 0)) || (aj != 6)) || (ak != 0)) || (am != 0)) || (ao != 0)) || (!r7))) rfl (gy_f rfl) (fun hg => (fun w' H => x_mv (v := aN) rfl)) <| d_qg (!(((((((ah != 0) || (ai != 0)) || (aj != 6)) || (ak != 0)) || (am != 0)) || (ao != 0)) || (!r7))) rfl (gy_f rfl) (fun hg => (fun w' H => x_lenS T22.und (gd_of hg (aN)) (H.os 3))) <| d_qg (!(((((((ah != 0) || (ai != 0)) || (aj != 6)) || (ak != 0)) || (am != 0)) || (ao != 0)) || (!r7))) rfl (gy_f rfl) (fun hg => (fun w' H => x_cmp (kd := .i64) (r := decide (0 < (av.length : Int))) (gd_of hg (I (av.length : Int))) rfl rfl)) <| d_q rfl (fun w' H => x_por (b := (((((((ah != 0) || (ai != 0)) || (aj != 6)) || (ak != 0)) || (am != 0)) || (ao != 0)) || (!r7))) (r := decide (0 < (av.length : Int))) rfl rfl (fun hb => gd_of (c := !(((((((ah != 0) || (ai != 0)) || (aj != 6)) || (ak != 0)) || (am != 0)) || (ao != 0)) || (!r7))) (by first | exact hb | (rw [hb]; rfl) | simp_all) (B (decide (0 < (av.length : Int)))))) <| d_q rfl (fun w' H => x_mv (v := B ((((((((ah != 0) || (ai != 0)) || (aj != 6)) || (ak != 0)) || (am != 0)) || (ao != 0)) || (!r7)) || (decide (0 < (av.length : Int))))) rfl) <| d_qg (!((((((((ah != 0) || (ai != 0)) || (aj != 6)) || (ak != 0)) || (am != 0)) || (ao != 0)) || (!r7)) || (decide (0 < (av.length : Int))))) rfl (gy_f rfl) (fun hg => (fun w' H => x_mv (v := aO) rfl)) <| d_qg (!((((((((ah != 0) || (ai != 0)) || (aj != 6)) || (ak != 0)) || (am != 0)) || (ao != 0)) || (!r7)) || (decide (0 < (av.length : Int))))) rfl (gy_f rfl) (fun hg => (fun w' H => x_lenS T22.und (gd_of hg (aO)) (H.os 2))) ?_;refine d_qg (!((((((((ah != 0) || (ai != 0)) || (aj != 6)) || (ak != 0)) || (am != 0)) || (ao != 0)) || (!r7)) || (decide (0 < (av.length : Int))))) rfl (gy_f rfl) (fun hg => (fun w' H => x_cmp (kd := .i64) (r := (ax.length : Int) != 2) (gd_of hg (I (ax.length : Int))) rfl rfl)) <| d_q rfl (fun w' H => x_por (b := ((((((((ah != 0) || (ai != 0)) || (aj != 6)) || (ak != 0)) || (am != 0)) || (ao != 0)) || (!r7)) || (decide (0 < (av.length : Int))))) (r := (ax.length : Int) != 2) rfl rfl (fun hb => gd_of (c := !((((((((ah != 0) || (ai != 0)) || (aj != 6)) || (ak != 0)) || (am != 0)) || (ao != 0)) || (!r7)) || (decide (0 < (av.length : Int))))) (by first | exact hb | (rw [hb]; rfl) | simp_all) (B ((ax.length : Int) != 2)))) <| d_q rfl (fun w' H => x_mv (v := B (((((((((ah != 0) || (ai != 0)) || (aj != 6)) || (ak != 0)) || (am != 0)) || (ao != 0)) || (!r7)) || (decide (0 < (av.length : Int)))) || ((ax.length : Int) != 2))) rfl) <| d_qg (!(((((((((ah != 0) || (ai != 0)) || (aj != 6)) || (ak != 0)) || (am != 0)) || (ao != 0)) || (!r7)) || (decide (0 < (av.length : Int)))) || ((ax.length : Int) != 2))) rfl (gy_f rfl) (fun hg => (fun w' H => x_mv (v := aM) rfl)) <| d_l rfl ?_;refine t_gbs (α := Int) T22 (!(((((((((ah != 0) || (ai != 0)) || (aj != 6)) || (ak != 0)) || (am != 0)) || (ao != 0)) || (!r7)) || (decide (0 < (av.length : Int)))) || ((ax.length : Int) != 2))) (gy_f rfl) [I 2] [(2 : Int)] H (fun _ => rfl) (.cons rfl (Flat.rep_enc _ (2 : Int)) <| .nil) rfl rfl rfl ?_;intro cq gH gI H ed
 refine s_nil ⟨(H.pk [2, 3, 4, 5, 6]), ?_⟩
 refine d_l rfl ?_;obtain ⟨r8, ee, hM⟩ := M.e_bind hM;refine t_gcall (!(((((((((ah != 0) || (ai != 0)) || (aj != 6)) || (ak != 0)) || (am != 0)) || (ao != 0)) || (!r7)) || (decide (0 < (av.length : Int)))) || ((ax.length : Int) != 2))) (gy_f rfl) cf15 (B r8) (fun _ => [aM, cq]) (fun hg => lst2 (gd_of hg (aM)) (gd_of hg (cq))) H (fun hg => (zaf cm ([(2 : Int)]) (rdo 3) (H.os 3) (Reads.of (k := 0) rfl roLe) (ed hg) (M.e_opt ee hg) _ (H.give (A := []) rfl)).mono fun v_ w_ ⟨y_, aw, aB, H_⟩ => by subst aw; exact ⟨aB, H.via H_⟩) ?_;intro gJ H
 refine s_nil ⟨(H.pk [2, 3, 4, 5, 6]), ?_⟩
 refine d_qg (!(((((((((ah != 0) || (ai != 0)) || (aj != 6)) || (ak != 0)) || (am != 0)) || (ao != 0)) || (!r7)) || (decide (0 < (av.length : Int)))) || ((ax.length : Int) != 2))) rfl (gy_f rfl) (fun hg => (fun w' H => x_not (b := r8) (gd_of hg (B r8)))) <| d_q rfl (fun w' H => x_por (b := (((((((((ah != 0) || (ai != 0)) || (aj != 6)) || (ak != 0)) || (am != 0)) || (ao != 0)) || (!r7)) || (decide (0 < (av.length : Int)))) || ((ax.length : Int) != 2))) (r := !r8) rfl rfl (fun hb => gd_of (c := !(((((((((ah != 0) || (ai != 0)) || (aj != 6)) || (ak != 0)) || (am != 0)) || (ao != 0)) || (!r7)) || (decide (0 < (av.length : Int)))) || ((ax.length : Int) != 2))) (by first | exact hb | (rw [hb]; rfl) | simp_all) (B (!r8)))) <| d_q rfl (fun w' H => x_mv (v := B ((((((((((ah != 0) || (ai != 0)) || (aj != 6)) || (ak != 0)) || (am != 0)) || (ao != 0)) || (!r7)) || (decide (0 < (av.length : Int)))) || ((ax.length : Int) != 2)) || (!r8))) rfl) <| d_qg (!((((((((((ah != 0) || (ai != 0)) || (aj != 6)) || (ak != 0)) || (am != 0)) || (ao != 0)) || (!r7)) || (decide (0 < (av.length : Int)))) || ((ax.length : Int) != 2)) || (!r8))) rfl (gy_f rfl) (fun hg => (fun w' H => x_ld (v := .agg #[I az, I aA]) rfl (ldb_ag (ds := [I az, I aA]) Ag26 Sz26 (H.bl 0) rfl rfl))) <| d_l rfl ?_
 refine g_splitV (!((((((((((ah != 0) || (ai != 0)) || (aj != 6)) || (ak != 0)) || (am != 0)) || (ao != 0)) || (!r7)) || (decide (0 < (av.length : Int)))) || ((ax.length : Int) != 2)) || (!r8))) (.agg #[I 0, I 0]) (gy_f rfl) (fun bc => ?_) (fun bc => ?_)
 ·replace hM := M.e_t hM bc;obtain ⟨gK, ef, hM⟩ := M.e_bind hM;refine s_call cf43 [I 6, I 10] rfl (zbW 6 10 ef _ (H.gt 7)) ?_
  rintro vq gL ⟨a6, a7, rfl, hvq, ag⟩
  subst vq;(try dsimp only at hM);replace H := H.bk ag;clear ag
  refine s_nil ⟨(H.pk [2, 3, 4, 5, 6]), ?_⟩
  refine d_qg (!((((((((((ah != 0) || (ai != 0)) || (aj != 6)) || (ak != 0)) || (am != 0)) || (ao != 0)) || (!r7)) || (decide (0 < (av.length : Int)))) || ((ax.length : Int) != 2)) || (!r8))) rfl (gy_f rfl) (fun hg => (fun w' H => x_neS (eqT26 (⟨(az : Int), (aA : Int)⟩ : Span) (⟨(a6 : Int), (a7 : Int)⟩ : Span) _) gdT26 (gd_of hg (.agg #[I az, I aA])) rfl)) <| d_q rfl (fun w' H => x_por (b := ((((((((((ah != 0) || (ai != 0)) || (aj != 6)) || (ak != 0)) || (am != 0)) || (ao != 0)) || (!r7)) || (decide (0 < (av.length : Int)))) || ((ax.length : Int) != 2)) || (!r8))) (r := !(decide ((⟨(az : Int), (aA : Int)⟩ : Span) = (⟨(a6 : Int), (a7 : Int)⟩ : Span)))) rfl rfl (fun hb => gd_of (c := !((((((((((ah != 0) || (ai != 0)) || (aj != 6)) || (ak != 0)) || (am != 0)) || (ao != 0)) || (!r7)) || (decide (0 < (av.length : Int)))) || ((ax.length : Int) != 2)) || (!r8))) (by first | exact hb | (rw [hb]; rfl) | simp_all) (B (!(decide ((⟨(az : Int), (aA : Int)⟩ : Span) = (⟨(a6 : Int), (a7 : Int)⟩ : Span))))))) ?_;refine d_nil ?_;replace H := H.pk []
  refine W.cond (((((((((((ah != 0) || (ai != 0)) || (aj != 6)) || (ak != 0)) || (am != 0)) || (ao != 0)) || (!r7)) || (decide (0 < (av.length : Int)))) || ((ax.length : Int) != 2)) || (!r8)) || (!(decide ((⟨(az : Int), (aA : Int)⟩ : Span) = (⟨(a6 : Int), (a7 : Int)⟩ : Span))))) rfl (fun bf => ?_) (fun bf => ?_)
  ·replace hM := M.e_t hM bf;refine W.seq <| W.region rfl <| zA (B false) rfl <| s_nil ?_;refine W.ret ?_
   have aw := M.e_pure hM
   exact ⟨_, resE_tmp rfl, ⟨false, aw, rfl, H⟩⟩
  replace hM := M.e_f hM bf;refine W.skip <| W.seq <| W.region rfl ?_;obtain ⟨gM, eg, hM⟩ := M.e_bind hM;refine s_call cf42 [I 1] rfl (zah 1 eg _ (H.gt 0)) ?_
  rintro vq gN ⟨bg, bh, bi, bj, aS, aT, bm, bn, bo, bp, bq, br, eh, ei, rfl, hvq, ag, ej⟩
  subst vq;(try dsimp only at hM);replace H := H.bk ag;clear ag;refine t_bs (α := Int) T22 [I 2] [(2 : Int)] H rfl (.cons rfl (Flat.rep_enc _ (2 : Int)) <| .nil) rfl rfl rfl ?_;intro em gO H;obtain ⟨gP, en, hM⟩ := M.e_bind hM;refine s_call cf13 [.agg #[bn, bo, bp, bq, I aS, I aT, br], em] rfl (zdI bg bh bi bj aS aT bm ([(2 : Int)]) (rdo 1) (H.os 1) (rdo 2) (H.os 2) (rdo 3) (H.os 3) (rdo 4) (H.os 4) (Reads.sup (rdo 5) (Reads.of (k := 6) rfl roLe)) (rowSl rfl (H.get (k := 5) rfl) (roLe _ (H.get (k := 6) rfl)) ej) (rdo 0) (H.os 0) en _ (H.gt 7)) ?_
  rintro vq gQ ⟨bt, bu, aa, aC, aD, rfl, hvq, ag⟩
  subst vq;(try dsimp only at hM);replace H := H.bk ag;clear ag;refine zM (.tuple #[aC, aD, I aa]) rfl <| zX [aC, aD, I aa] aC rfl rfl <| zX [aC, aD, I aa] aD rfl rfl <| zX [aC, aD, I aa] (I aa) rfl rfl <| zA aC rfl <| zA aD rfl <| zA (I aa) rfl <| s_nil ?_;replace H := H.pk [0, 1];refine W.seq <| W.region rfl ?_;obtain ⟨gR, eo, hM⟩ := M.e_bind hM;refine s_call cf42 [I 1] rfl (zah 1 eo _ (H.gt 2)) ?_
  rintro vq gS ⟨bv, bw, bx, bz, aU, aV, bA, bB, bC, bD, bE, bF, ep, eq, rfl, hvq, ag, er⟩
  subst vq;(try dsimp only at hM);replace H := H.bk ag;clear ag;refine t_bs (α := Int) T22 [I 2] [(2 : Int)] H rfl (.cons rfl (Flat.rep_enc _ (2 : Int)) <| .nil) rfl rfl rfl ?_;intro eu gT H;refine t_bs (α := Int) T22 [I 250] [(250 : Int)] H rfl (.cons rfl (Flat.rep_enc _ (250 : Int)) <| .nil) rfl rfl rfl ?_;intro ew gU H;obtain ⟨gV, ez, hM⟩ := M.e_bind hM;refine s_call cf16 [.agg #[bB, bC, bD, bE, I aU, I aV, bF], eu, ew] rfl (zbt bv bw bx bz aU aV bA ([(2 : Int)]) ([(250 : Int)]) (rdo 2) (H.os 2) (rdo 3) (H.os 3) (rdo 4) (H.os 4) (rdo 5) (H.os 5) (Reads.sup (rdo 6) (Reads.of (k := 7) rfl roLe)) (rowSl rfl (H.get (k := 6) rfl) (roLe _ (H.get (k := 7) rfl)) er) (rdo 1) (H.os 1) (rdo 0) (H.os 0) ez _ (H.gt 10)) ?_
  rintro vq gW ⟨aq, au, ab, aG, aH, rfl, hvq, ag⟩
  subst vq;(try dsimp only at hM);replace H := H.bk ag;clear ag;refine zM (.tuple #[aG, aH, I ab]) rfl <| zX [aG, aH, I ab] aG rfl rfl <| zX [aG, aH, I ab] aH rfl rfl <| zX [aG, aH, I ab] (I ab) rfl rfl <| zA aG rfl <| zA aH rfl <| zA (I ab) rfl <| s_nil ?_;replace H := H.pk [0, 1, 10, 11];refine W.seq <| W.region rfl ?_;obtain ⟨gX, eA, hM⟩ := M.e_bind hM;refine s_call cf42 [I 1] rfl (zah 1 eA _ (H.gt 4)) ?_
  rintro vq gY ⟨bG, bH, bI, bJ, aW, aX, bK, bL, bM, bN, bO, bP, eB, eC, rfl, hvq, ag, eD⟩
  subst vq;(try dsimp only at hM);replace H := H.bk ag;clear ag;refine t_bs (α := Int) T22 [I 2] [(2 : Int)] H rfl (.cons rfl (Flat.rep_enc _ (2 : Int)) <| .nil) rfl rfl rfl ?_;intro eE gZ H;refine t_bs (α := Int) T22 [I 240] [(240 : Int)] H rfl (.cons rfl (Flat.rep_enc _ (240 : Int)) <| .nil) rfl rfl rfl ?_;intro eF g5 H;obtain ⟨g6, eG, hM⟩ := M.e_bind hM;refine s_call cf16 [.agg #[bL, bM, bN, bO, I aW, I aX, bP], eE, eF] rfl (zbt bG bH bI bJ aW aX bK ([(2 : Int)]) ([(240 : Int)]) (rdo 2) (H.os 2) (rdo 3) (H.os 3) (rdo 4) (H.os 4) (rdo 5) (H.os 5) (Reads.sup (rdo 6) (Reads.of (k := 7) rfl roLe)) (rowSl rfl (H.get (k := 6) rfl) (roLe _ (H.get (k := 7) rfl)) eD) (rdo 1) (H.os 1) (rdo 0) (H.os 0) eG _ (H.gt 12)) ?_
  rintro vq g7 ⟨eH, bQ, ac, aI, aE, rfl, hvq, ag⟩
  subst vq;(try dsimp only at hM);replace H := H.bk ag;clear ag;refine zM (.tuple #[aI, aE, I ac]) rfl <| zX [aI, aE, I ac] aI rfl rfl <| zX [aI, aE, I ac] aE rfl rfl <| zX [aI, aE, I ac] (I ac) rfl rfl <| zA aI rfl <| zA aE rfl <| zA (I ac) rfl <| s_nil ?_;replace H := H.pk [1, 10, 11, 12, 13];refine W.seq <| W.region rfl ?_;obtain ⟨g8, eI, hM⟩ := M.e_bind hM;refine s_call cf42 [I 1] rfl (zah 1 eI _ (H.gt 5)) ?_
  rintro vq g9 ⟨bR, bS, bT, bU, aY, aZ, bV, bW, bX, bY, bZ, b4, eJ, eK, rfl, hvq, ag, eL⟩
  subst vq;(try dsimp only at hM);replace H := H.bk ag;clear ag;refine t_bs (α := Int) T22 [I 2] [(2 : Int)] H rfl (.cons rfl (Flat.rep_enc _ (2 : Int)) <| .nil) rfl rfl rfl ?_;intro eM hG H;refine t_bs (α := Int) T22 [I 251] [(251 : Int)] H rfl (.cons rfl (Flat.rep_enc _ (251 : Int)) <| .nil) rfl rfl rfl ?_;intro eN hJ H;obtain ⟨hN, eO, hM⟩ := M.e_bind hM;refine s_call cf16 [.agg #[bW, bX, bY, bZ, I aY, I aZ, b4], eM, eN] rfl (zbt bR bS bT bU aY aZ bV ([(2 : Int)]) ([(251 : Int)]) (rdo 2) (H.os 2) (rdo 3) (H.os 3) (rdo 4) (H.os 4) (rdo 5) (H.os 5) (Reads.sup (rdo 6) (Reads.of (k := 7) rfl roLe)) (rowSl rfl (H.get (k := 6) rfl) (roLe _ (H.get (k := 7) rfl)) eL) (rdo 1) (H.os 1) (rdo 0) (H.os 0) eO _ (H.gt 13)) ?_
  rintro vq hO ⟨b7, eP, ae, aF, aJ, rfl, hvq, ag⟩
  subst vq;(try dsimp only at hM);replace H := H.bk ag;clear ag;refine zM (.tuple #[aF, aJ, I ae]) rfl <| zX [aF, aJ, I ae] aF rfl rfl <| zX [aF, aJ, I ae] aJ rfl rfl <| zX [aF, aJ, I ae] (I ae) rfl rfl <| zA aF rfl <| zA aJ rfl <| zA (I ae) rfl <| s_nil ?_;replace H := H.pk [0, 10, 11, 12, 13, 14];refine W.seq <| W.region rfl <| zM (I aa) rfl <| zC aa 0 (aa == 0) rfl rfl rfl <| zM (B (aa == 0)) rfl <| g_val (aa == 0) (gy_t rfl) (fun hg => x_mv (v := I ab) rfl) <| g_val (aa == 0) (gy_t rfl) (fun hg => x_cmp (kd := .i64) (r := ab == 0) (gd_of hg (I ab)) rfl rfl) <| s_val (x_pand (b := aa == 0) (r := ab == 0) rfl (fun hb => gd_of (c := aa == 0) (by first | exact hb | (rw [hb]; rfl) | simp_all) (B (ab == 0))) rfl) <| zM (B ((aa == 0) && (ab == 0))) rfl <| g_val ((aa == 0) && (ab == 0)) (gy_t rfl) (fun hg => x_mv (v := I ac) rfl) ?_;refine g_val ((aa == 0) && (ab == 0)) (gy_t rfl) (fun hg => x_cmp (kd := .i64) (r := ac == 0) (gd_of hg (I ac)) rfl rfl) <| s_val (x_pand (b := ((aa == 0) && (ab == 0))) (r := ac == 0) rfl (fun hb => gd_of (c := ((aa == 0) && (ab == 0))) (by first | exact hb | (rw [hb]; rfl) | simp_all) (B (ac == 0))) rfl) <| zM (B (((aa == 0) && (ab == 0)) && (ac == 0))) rfl <| g_val (((aa == 0) && (ab == 0)) && (ac == 0)) (gy_t rfl) (fun hg => x_mv (v := I ae) rfl) <| g_val (((aa == 0) && (ab == 0)) && (ac == 0)) (gy_t rfl) (fun hg => x_cmp (kd := .i64) (r := ae == 0) (gd_of hg (I ae)) rfl rfl) <| s_val (x_pand (b := (((aa == 0) && (ab == 0)) && (ac == 0))) (r := ae == 0) rfl (fun hb => gd_of (c := (((aa == 0) && (ab == 0)) && (ac == 0))) (by first | exact hb | (rw [hb]; rfl) | simp_all) (B (ae == 0))) rfl) <| zM (B ((((aa == 0) && (ab == 0)) && (ac == 0)) && (ae == 0))) rfl <| g_val ((((aa == 0) && (ab == 0)) && (ac == 0)) && (ae == 0)) (gy_t rfl) (fun hg => x_mv (v := aC) rfl) ?_;refine t_gbs (α := Int) T22 ((((aa == 0) && (ab == 0)) && (ac == 0)) && (ae == 0)) (gy_t rfl) [I 250] [(250 : Int)] H (fun _ => rfl) (.cons rfl (Flat.rep_enc _ (250 : Int)) <| .nil) rfl rfl rfl ?_;intro cu eQ hP H eR;obtain ⟨r9, eS, hM⟩ := M.e_bind hM;refine t_gcall ((((aa == 0) && (ab == 0)) && (ac == 0)) && (ae == 0)) (gy_t rfl) cf15 (B r9) (fun _ => [aC, cu]) (fun hg => lst2 (gd_of hg (aC)) (gd_of hg (cu))) H (fun hg => (zaf bt ([(250 : Int)]) (rdo 5) (H.os 5) (Reads.of (k := 0) rfl roLe) (eR hg) (M.e_opt eS hg) _ (H.give (A := []) rfl)).mono fun v_ w_ ⟨y_, aw, aB, H_⟩ => by subst aw; exact ⟨aB, H.via H_⟩) ?_;intro hZ H;refine s_val (x_pand (b := ((((aa == 0) && (ab == 0)) && (ac == 0)) && (ae == 0))) (r := r9) rfl (fun hb => gd_of (c := ((((aa == 0) && (ab == 0)) && (ac == 0)) && (ae == 0))) (by first | exact hb | (rw [hb]; rfl) | simp_all) (B r9)) rfl) <| zM (B (((((aa == 0) && (ab == 0)) && (ac == 0)) && (ae == 0)) && r9)) rfl <| g_val (((((aa == 0) && (ab == 0)) && (ac == 0)) && (ae == 0)) && r9) (gy_t rfl) (fun hg => x_mv (v := aD) rfl) ?_;refine t_gbs (α := Int) T22 (((((aa == 0) && (ab == 0)) && (ac == 0)) && (ae == 0)) && r9) (gy_t rfl) [I 0] [(0 : Int)] H (fun _ => rfl) (.cons rfl (Flat.rep_enc _ (0 : Int)) <| .nil) rfl rfl rfl ?_;intro cw eT h9 H eU;obtain ⟨al, eV, hM⟩ := M.e_bind hM;refine t_gcall (((((aa == 0) && (ab == 0)) && (ac == 0)) && (ae == 0)) && r9) (gy_t rfl) cf15 (B al) (fun _ => [aD, cw]) (fun hg => lst2 (gd_of hg (aD)) (gd_of hg (cw))) H (fun hg => (zaf bu ([(0 : Int)]) (rdo 7) (H.os 7) (Reads.of (k := 0) rfl roLe) (eU hg) (M.e_opt eV hg) _ (H.give (A := []) rfl)).mono fun v_ w_ ⟨y_, aw, aB, H_⟩ => by subst aw; exact ⟨aB, H.via H_⟩) ?_;intro ia H;refine s_val (x_pand (b := (((((aa == 0) && (ab == 0)) && (ac == 0)) && (ae == 0)) && r9)) (r := al) rfl (fun hb => gd_of (c := (((((aa == 0) && (ab == 0)) && (ac == 0)) && (ae == 0)) && r9)) (by first | exact hb | (rw [hb]; rfl) | simp_all) (B al)) rfl) <| zM (B ((((((aa == 0) && (ab == 0)) && (ac == 0)) && (ae == 0)) && r9) && al)) rfl <| g_val ((((((aa == 0) && (ab == 0)) && (ac == 0)) && (ae == 0)) && r9) && al) (gy_t rfl) (fun hg => x_mv (v := aG) rfl) <| g_val ((((((aa == 0) && (ab == 0)) && (ac == 0)) && (ae == 0)) && r9) && al) (gy_t rfl) (fun hg => x_lenS T22.und (gd_of hg (aG)) (H.os 4)) <| g_val ((((((aa == 0) && (ab == 0)) && (ac == 0)) && (ae == 0)) && r9) && al) (gy_t rfl) (fun hg => x_mv (v := aH) rfl) <| g_val ((((((aa == 0) && (ab == 0)) && (ac == 0)) && (ae == 0)) && r9) && al) (gy_t rfl) (fun hg => x_lenS T22.und (gd_of hg (aH)) (H.os 5)) ?_;obtain ⟨a8, hM⟩ := M.e_grd hM
  replace a8 := M.imp_of a8
  simp only [Bool.and_eq_true, decide_eq_true_eq] at a8
  refine g_val ((((((aa == 0) && (ab == 0)) && (ac == 0)) && (ae == 0)) && r9) && al) (gy_t rfl) (fun hg => x_ari (r := (aq.length : Int) + (au.length : Int)) (gd_of hg (I (aq.length : Int))) (gd_of hg (I (au.length : Int))) rfl (by have aP := a8.resolve_left (by rw [hg]; decide); first | exact aP | exact aP.1 | exact aP.2 | omega | (have aQ := hg; simp at aQ; omega))) <| g_val ((((((aa == 0) && (ab == 0)) && (ac == 0)) && (ae == 0)) && r9) && al) (gy_t rfl) (fun hg => x_cmp (kd := .i64) (r := ((aq.length : Int) + (au.length : Int)) == 0) (gd_of hg (I ((aq.length : Int) + (au.length : Int)))) rfl rfl) <| s_val (x_pand (b := ((((((aa == 0) && (ab == 0)) && (ac == 0)) && (ae == 0)) && r9) && al)) (r := ((aq.length : Int) + (au.length : Int)) == 0) rfl (fun hb => gd_of (c := ((((((aa == 0) && (ab == 0)) && (ac == 0)) && (ae == 0)) && r9) && al)) (by first | exact hb | (rw [hb]; rfl) | simp_all) (B (((aq.length : Int) + (au.length : Int)) == 0))) rfl) <| zM (B (((((((aa == 0) && (ab == 0)) && (ac == 0)) && (ae == 0)) && r9) && al) && (((aq.length : Int) + (au.length : Int)) == 0))) rfl <| g_val (((((((aa == 0) && (ab == 0)) && (ac == 0)) && (ae == 0)) && r9) && al) && (((aq.length : Int) + (au.length : Int)) == 0)) (gy_t rfl) (fun hg => x_mv (v := aE) rfl) ?_;refine t_gbs (α := Int) T22 (((((((aa == 0) && (ab == 0)) && (ac == 0)) && (ae == 0)) && r9) && al) && (((aq.length : Int) + (au.length : Int)) == 0)) (gy_t rfl) [I 1] [(1 : Int)] H (fun _ => rfl) (.cons rfl (Flat.rep_enc _ (1 : Int)) <| .nil) rfl rfl rfl ?_;intro cx eW ib H eX;obtain ⟨ay, eY, hM⟩ := M.e_bind hM;refine t_gcall (((((((aa == 0) && (ab == 0)) && (ac == 0)) && (ae == 0)) && r9) && al) && (((aq.length : Int) + (au.length : Int)) == 0)) (gy_t rfl) cf15 (B ay) (fun _ => [aE, cx]) (fun hg => lst2 (gd_of hg (aE)) (gd_of hg (cx))) H (fun hg => (zaf bQ ([(1 : Int)]) (rdo 4) (H.os 4) (Reads.of (k := 0) rfl roLe) (eX hg) (M.e_opt eY hg) _ (H.give (A := []) rfl)).mono fun v_ w_ ⟨y_, aw, aB, H_⟩ => by subst aw; exact ⟨aB, H.via H_⟩) ?_;intro ic H;refine s_val (x_pand (b := (((((((aa == 0) && (ab == 0)) && (ac == 0)) && (ae == 0)) && r9) && al) && (((aq.length : Int) + (au.length : Int)) == 0))) (r := ay) rfl (fun hb => gd_of (c := (((((((aa == 0) && (ab == 0)) && (ac == 0)) && (ae == 0)) && r9) && al) && (((aq.length : Int) + (au.length : Int)) == 0))) (by first | exact hb | (rw [hb]; rfl) | simp_all) (B ay)) rfl) <| zM (B ((((((((aa == 0) && (ab == 0)) && (ac == 0)) && (ae == 0)) && r9) && al) && (((aq.length : Int) + (au.length : Int)) == 0)) && ay)) rfl <| g_val ((((((((aa == 0) && (ab == 0)) && (ac == 0)) && (ae == 0)) && r9) && al) && (((aq.length : Int) + (au.length : Int)) == 0)) && ay) (gy_t rfl) (fun hg => x_mv (v := aF) rfl) ?_;refine t_gbs (α := Int) T22 ((((((((aa == 0) && (ab == 0)) && (ac == 0)) && (ae == 0)) && r9) && al) && (((aq.length : Int) + (au.length : Int)) == 0)) && ay) (gy_t rfl) [I 0] [(0 : Int)] H (fun _ => rfl) (.cons rfl (Flat.rep_enc _ (0 : Int)) <| .nil) rfl rfl rfl ?_;intro cy eZ ie H e7;obtain ⟨aK, e8, hM⟩ := M.e_bind hM;refine t_gcall ((((((((aa == 0) && (ab == 0)) && (ac == 0)) && (ae == 0)) && r9) && al) && (((aq.length : Int) + (au.length : Int)) == 0)) && ay) (gy_t rfl) cf15 (B aK) (fun _ => [aF, cy]) (fun hg => lst2 (gd_of hg (aF)) (gd_of hg (cy))) H (fun hg => (zaf b7 ([(0 : Int)]) (rdo 4) (H.os 4) (Reads.of (k := 0) rfl roLe) (e7 hg) (M.e_opt e8 hg) _ (H.give (A := []) rfl)).mono fun v_ w_ ⟨y_, aw, aB, H_⟩ => by subst aw; exact ⟨aB, H.via H_⟩) ?_;intro ig H;refine s_val (x_pand (b := ((((((((aa == 0) && (ab == 0)) && (ac == 0)) && (ae == 0)) && r9) && al) && (((aq.length : Int) + (au.length : Int)) == 0)) && ay)) (r := aK) rfl (fun hb => gd_of (c := ((((((((aa == 0) && (ab == 0)) && (ac == 0)) && (ae == 0)) && r9) && al) && (((aq.length : Int) + (au.length : Int)) == 0)) && ay)) (by first | exact hb | (rw [hb]; rfl) | simp_all) (B aK)) rfl) <| zA (B (((((((((aa == 0) && (ab == 0)) && (ac == 0)) && (ae == 0)) && r9) && al) && (((aq.length : Int) + (au.length : Int)) == 0)) && ay) && aK)) rfl <| s_nil ?_;replace H := H.pk [];refine W.ret ?_
  have aw := M.e_pure hM
  exact ⟨_, resE_tmp rfl, ⟨(((((((((aa == 0) && (ab == 0)) && (ac == 0)) && (ae == 0)) && r9) && al) && (((aq.length : Int) + (au.length : Int)) == 0)) && ay) && aK), aw, rfl, H⟩⟩
 replace hM := M.e_f hM bc
 refine s_nil ⟨(H.pk [2, 3, 4, 5, 6]), ?_⟩
 refine d_qg (!((((((((((ah != 0) || (ai != 0)) || (aj != 6)) || (ak != 0)) || (am != 0)) || (ao != 0)) || (!r7)) || (decide (0 < (av.length : Int)))) || ((ax.length : Int) != 2)) || (!r8))) rfl (gy_f rfl) (fun hg => (fun w' H => x_neS (eqT26 (⟨(az : Int), (aA : Int)⟩ : Span) (⟨(0 : Int), (0 : Int)⟩ : Span) _) gdT26 (gd_of hg (.agg #[I az, I aA])) (gd_of hg (.agg #[I 0, I 0])))) <| d_q rfl (fun w' H => x_por (b := ((((((((((ah != 0) || (ai != 0)) || (aj != 6)) || (ak != 0)) || (am != 0)) || (ao != 0)) || (!r7)) || (decide (0 < (av.length : Int)))) || ((ax.length : Int) != 2)) || (!r8))) (r := !(decide ((⟨(az : Int), (aA : Int)⟩ : Span) = (⟨(0 : Int), (0 : Int)⟩ : Span)))) rfl rfl (fun hb => gd_of (c := !((((((((((ah != 0) || (ai != 0)) || (aj != 6)) || (ak != 0)) || (am != 0)) || (ao != 0)) || (!r7)) || (decide (0 < (av.length : Int)))) || ((ax.length : Int) != 2)) || (!r8))) (by first | exact hb | (rw [hb]; rfl) | simp_all) (B (!(decide ((⟨(az : Int), (aA : Int)⟩ : Span) = (⟨(0 : Int), (0 : Int)⟩ : Span))))))) ?_;refine d_nil ?_;replace H := H.pk []
 refine W.cond (((((((((((ah != 0) || (ai != 0)) || (aj != 6)) || (ak != 0)) || (am != 0)) || (ao != 0)) || (!r7)) || (decide (0 < (av.length : Int)))) || ((ax.length : Int) != 2)) || (!r8)) || (!(decide ((⟨(az : Int), (aA : Int)⟩ : Span) = (⟨(0 : Int), (0 : Int)⟩ : Span))))) rfl (fun b8 => ?_) (fun b8 => ?_)
 ·replace hM := M.e_t hM b8;refine W.seq <| W.region rfl <| zA (B false) rfl <| s_nil ?_;refine W.ret ?_
  have aw := M.e_pure hM
  exact ⟨_, resE_tmp rfl, ⟨false, aw, rfl, H⟩⟩
 replace hM := M.e_f hM b8;refine W.skip <| W.seq <| W.region rfl ?_;obtain ⟨ii, e9, hM⟩ := M.e_bind hM;refine s_call cf42 [I 1] rfl (zah 1 e9 _ (H.gt 0)) ?_
 rintro vq ij ⟨bg, bh, bi, bj, aS, aT, bm, bn, bo, bp, bq, br, eh, ei, rfl, hvq, ag, fg⟩
 subst vq;(try dsimp only at hM);replace H := H.bk ag;clear ag;refine t_bs (α := Int) T22 [I 2] [(2 : Int)] H rfl (.cons rfl (Flat.rep_enc _ (2 : Int)) <| .nil) rfl rfl rfl ?_;intro fh ik H;obtain ⟨il, fi, hM⟩ := M.e_bind hM;refine s_call cf13 [.agg #[bn, bo, bp, bq, I aS, I aT, br], fh] rfl (zdI bg bh bi bj aS aT bm ([(2 : Int)]) (rdo 1) (H.os 1) (rdo 2) (H.os 2) (rdo 3) (H.os 3) (rdo 4) (H.os 4) (Reads.sup (rdo 5) (Reads.of (k := 6) rfl roLe)) (rowSl rfl (H.get (k := 5) rfl) (roLe _ (H.get (k := 6) rfl)) fg) (rdo 0) (H.os 0) fi _ (H.gt 7)) ?_
 rintro vq im ⟨bt, bu, aa, aC, aD, rfl, hvq, ag⟩
 subst vq;(try dsimp only at hM);replace H := H.bk ag;clear ag;refine zM (.tuple #[aC, aD, I aa]) rfl <| zX [aC, aD, I aa] aC rfl rfl <| zX [aC, aD, I aa] aD rfl rfl <| zX [aC, aD, I aa] (I aa) rfl rfl <| zA aC rfl <| zA aD rfl <| zA (I aa) rfl <| s_nil ?_;replace H := H.pk [0, 1];refine W.seq <| W.region rfl ?_;obtain ⟨io, fj, hM⟩ := M.e_bind hM;refine s_call cf42 [I 1] rfl (zah 1 fj _ (H.gt 2)) ?_
 rintro vq ip ⟨bv, bw, bx, bz, aU, aV, bA, bB, bC, bD, bE, bF, ep, eq, rfl, hvq, ag, fk⟩
 subst vq;(try dsimp only at hM);replace H := H.bk ag;clear ag;refine t_bs (α := Int) T22 [I 2] [(2 : Int)] H rfl (.cons rfl (Flat.rep_enc _ (2 : Int)) <| .nil) rfl rfl rfl ?_;intro fm iq H;refine t_bs (α := Int) T22 [I 250] [(250 : Int)] H rfl (.cons rfl (Flat.rep_enc _ (250 : Int)) <| .nil) rfl rfl rfl ?_;intro fo ir H;obtain ⟨iu, fp, hM⟩ := M.e_bind hM;refine s_call cf16 [.agg #[bB, bC, bD, bE, I aU, I aV, bF], fm, fo] rfl (zbt bv bw bx bz aU aV bA ([(2 : Int)]) ([(250 : Int)]) (rdo 2) (H.os 2) (rdo 3) (H.os 3) (rdo 4) (H.os 4) (rdo 5) (H.os 5) (Reads.sup (rdo 6) (Reads.of (k := 7) rfl roLe)) (rowSl rfl (H.get (k := 6) rfl) (roLe _ (H.get (k := 7) rfl)) fk) (rdo 1) (H.os 1) (rdo 0) (H.os 0) fp _ (H.gt 10)) ?_
 rintro vq iw ⟨aq, au, ab, aG, aH, rfl, hvq, ag⟩
 subst vq;(try dsimp only at hM);replace H := H.bk ag;clear ag;refine zM (.tuple #[aG, aH, I ab]) rfl <| zX [aG, aH, I ab] aG rfl rfl <| zX [aG, aH, I ab] aH rfl rfl <| zX [aG, aH, I ab] (I ab) rfl rfl <| zA aG rfl <| zA aH rfl <| zA (I ab) rfl <| s_nil ?_;replace H := H.pk [0, 1, 10, 11];refine W.seq <| W.region rfl ?_;obtain ⟨iy, fq, hM⟩ := M.e_bind hM;refine s_call cf42 [I 1] rfl (zah 1 fq _ (H.gt 4)) ?_
 rintro vq iz ⟨bG, bH, bI, bJ, aW, aX, bK, bL, bM, bN, bO, bP, eB, eC, rfl, hvq, ag, fu⟩
 subst vq;(try dsimp only at hM);replace H := H.bk ag;clear ag;refine t_bs (α := Int) T22 [I 2] [(2 : Int)] H rfl (.cons rfl (Flat.rep_enc _ (2 : Int)) <| .nil) rfl rfl rfl ?_;intro fv iA H;refine t_bs (α := Int) T22 [I 240] [(240 : Int)] H rfl (.cons rfl (Flat.rep_enc _ (240 : Int)) <| .nil) rfl rfl rfl ?_;intro fw iB H;obtain ⟨iC, fx, hM⟩ := M.e_bind hM;refine s_call cf16 [.agg #[bL, bM, bN, bO, I aW, I aX, bP], fv, fw] rfl (zbt bG bH bI bJ aW aX bK ([(2 : Int)]) ([(240 : Int)]) (rdo 2) (H.os 2) (rdo 3) (H.os 3) (rdo 4) (H.os 4) (rdo 5) (H.os 5) (Reads.sup (rdo 6) (Reads.of (k := 7) rfl roLe)) (rowSl rfl (H.get (k := 6) rfl) (roLe _ (H.get (k := 7) rfl)) fu) (rdo 1) (H.os 1) (rdo 0) (H.os 0) fx _ (H.gt 12)) ?_
 rintro vq iD ⟨eH, bQ, ac, aI, aE, rfl, hvq, ag⟩
 subst vq;(try dsimp only at hM);replace H := H.bk ag;clear ag;refine zM (.tuple #[aI, aE, I ac]) rfl <| zX [aI, aE, I ac] aI rfl rfl <| zX [aI, aE, I ac] aE rfl rfl <| zX [aI, aE, I ac] (I ac) rfl rfl <| zA aI rfl <| zA aE rfl <| zA (I ac) rfl <| s_nil ?_;replace H := H.pk [1, 10, 11, 12, 13];refine W.seq <| W.region rfl ?_;obtain ⟨iE, fy, hM⟩ := M.e_bind hM;refine s_call cf42 [I 1] rfl (zah 1 fy _ (H.gt 5)) ?_
 rintro vq iF ⟨bR, bS, bT, bU, aY, aZ, bV, bW, bX, bY, bZ, b4, eJ, eK, rfl, hvq, ag, fA⟩
 subst vq;(try dsimp only at hM);replace H := H.bk ag;clear ag;refine t_bs (α := Int) T22 [I 2] [(2 : Int)] H rfl (.cons rfl (Flat.rep_enc _ (2 : Int)) <| .nil) rfl rfl rfl ?_;intro fB iG H;refine t_bs (α := Int) T22 [I 251] [(251 : Int)] H rfl (.cons rfl (Flat.rep_enc _ (251 : Int)) <| .nil) rfl rfl rfl ?_;intro fC iH H;obtain ⟨iI, fD, hM⟩ := M.e_bind hM;refine s_call cf16 [.agg #[bW, bX, bY, bZ, I aY, I aZ, b4], fB, fC] rfl (zbt bR bS bT bU aY aZ bV ([(2 : Int)]) ([(251 : Int)]) (rdo 2) (H.os 2) (rdo 3) (H.os 3) (rdo 4) (H.os 4) (rdo 5) (H.os 5) (Reads.sup (rdo 6) (Reads.of (k := 7) rfl roLe)) (rowSl rfl (H.get (k := 6) rfl) (roLe _ (H.get (k := 7) rfl)) fA) (rdo 1) (H.os 1) (rdo 0) (H.os 0) fD _ (H.gt 13)) ?_
 rintro vq iJ ⟨b7, eP, ae, aF, aJ, rfl, hvq, ag⟩
 subst vq;(try dsimp only at hM);replace H := H.bk ag;clear ag;refine zM (.tuple #[aF, aJ, I ae]) rfl <| zX [aF, aJ, I ae] aF rfl rfl <| zX [aF, aJ, I ae] aJ rfl rfl <| zX [aF, aJ, I ae] (I ae) rfl rfl <| zA aF rfl <| zA aJ rfl <| zA (I ae) rfl <| s_nil ?_;replace H := H.pk [0, 10, 11, 12, 13, 14];refine W.seq <| W.region rfl <| zM (I aa) rfl <| zC aa 0 (aa == 0) rfl rfl rfl <| zM (B (aa == 0)) rfl <| g_val (aa == 0) (gy_t rfl) (fun hg => x_mv (v := I ab) rfl) <| g_val (aa == 0) (gy_t rfl) (fun hg => x_cmp (kd := .i64) (r := ab == 0) (gd_of hg (I ab)) rfl rfl) <| s_val (x_pand (b := aa == 0) (r := ab == 0) rfl (fun hb => gd_of (c := aa == 0) (by first | exact hb | (rw [hb]; rfl) | simp_all) (B (ab == 0))) rfl) <| zM (B ((aa == 0) && (ab == 0))) rfl <| g_val ((aa == 0) && (ab == 0)) (gy_t rfl) (fun hg => x_mv (v := I ac) rfl) ?_;refine g_val ((aa == 0) && (ab == 0)) (gy_t rfl) (fun hg => x_cmp (kd := .i64) (r := ac == 0) (gd_of hg (I ac)) rfl rfl) <| s_val (x_pand (b := ((aa == 0) && (ab == 0))) (r := ac == 0) rfl (fun hb => gd_of (c := ((aa == 0) && (ab == 0))) (by first | exact hb | (rw [hb]; rfl) | simp_all) (B (ac == 0))) rfl) <| zM (B (((aa == 0) && (ab == 0)) && (ac == 0))) rfl <| g_val (((aa == 0) && (ab == 0)) && (ac == 0)) (gy_t rfl) (fun hg => x_mv (v := I ae) rfl) <| g_val (((aa == 0) && (ab == 0)) && (ac == 0)) (gy_t rfl) (fun hg => x_cmp (kd := .i64) (r := ae == 0) (gd_of hg (I ae)) rfl rfl) <| s_val (x_pand (b := (((aa == 0) && (ab == 0)) && (ac == 0))) (r := ae == 0) rfl (fun hb => gd_of (c := (((aa == 0) && (ab == 0)) && (ac == 0))) (by first | exact hb | (rw [hb]; rfl) | simp_all) (B (ae == 0))) rfl) <| zM (B ((((aa == 0) && (ab == 0)) && (ac == 0)) && (ae == 0))) rfl <| g_val ((((aa == 0) && (ab == 0)) && (ac == 0)) && (ae == 0)) (gy_t rfl) (fun hg => x_mv (v := aC) rfl) ?_;refine t_gbs (α := Int) T22 ((((aa == 0) && (ab == 0)) && (ac == 0)) && (ae == 0)) (gy_t rfl) [I 250] [(250 : Int)] H (fun _ => rfl) (.cons rfl (Flat.rep_enc _ (250 : Int)) <| .nil) rfl rfl rfl ?_;intro cz eQ iK H fE;obtain ⟨r9, fF, hM⟩ := M.e_bind hM;refine t_gcall ((((aa == 0) && (ab == 0)) && (ac == 0)) && (ae == 0)) (gy_t rfl) cf15 (B r9) (fun _ => [aC, cz]) (fun hg => lst2 (gd_of hg (aC)) (gd_of hg (cz))) H (fun hg => (zaf bt ([(250 : Int)]) (rdo 5) (H.os 5) (Reads.of (k := 0) rfl roLe) (fE hg) (M.e_opt fF hg) _ (H.give (A := []) rfl)).mono fun v_ w_ ⟨y_, aw, aB, H_⟩ => by subst aw; exact ⟨aB, H.via H_⟩) ?_;intro iL H;refine s_val (x_pand (b := ((((aa == 0) && (ab == 0)) && (ac == 0)) && (ae == 0))) (r := r9) rfl (fun hb => gd_of (c := ((((aa == 0) && (ab == 0)) && (ac == 0)) && (ae == 0))) (by first | exact hb | (rw [hb]; rfl) | simp_all) (B r9)) rfl) <| zM (B (((((aa == 0) && (ab == 0)) && (ac == 0)) && (ae == 0)) && r9)) rfl <| g_val (((((aa == 0) && (ab == 0)) && (ac == 0)) && (ae == 0)) && r9) (gy_t rfl) (fun hg => x_mv (v := aD) rfl) ?_;refine t_gbs (α := Int) T22 (((((aa == 0) && (ab == 0)) && (ac == 0)) && (ae == 0)) && r9) (gy_t rfl) [I 0] [(0 : Int)] H (fun _ => rfl) (.cons rfl (Flat.rep_enc _ (0 : Int)) <| .nil) rfl rfl rfl ?_;intro cA eT iM H fG;obtain ⟨al, fH, hM⟩ := M.e_bind hM;refine t_gcall (((((aa == 0) && (ab == 0)) && (ac == 0)) && (ae == 0)) && r9) (gy_t rfl) cf15 (B al) (fun _ => [aD, cA]) (fun hg => lst2 (gd_of hg (aD)) (gd_of hg (cA))) H (fun hg => (zaf bu ([(0 : Int)]) (rdo 7) (H.os 7) (Reads.of (k := 0) rfl roLe) (fG hg) (M.e_opt fH hg) _ (H.give (A := []) rfl)).mono fun v_ w_ ⟨y_, aw, aB, H_⟩ => by subst aw; exact ⟨aB, H.via H_⟩) ?_;intro iN H;refine s_val (x_pand (b := (((((aa == 0) && (ab == 0)) && (ac == 0)) && (ae == 0)) && r9)) (r := al) rfl (fun hb => gd_of (c := (((((aa == 0) && (ab == 0)) && (ac == 0)) && (ae == 0)) && r9)) (by first | exact hb | (rw [hb]; rfl) | simp_all) (B al)) rfl) <| zM (B ((((((aa == 0) && (ab == 0)) && (ac == 0)) && (ae == 0)) && r9) && al)) rfl <| g_val ((((((aa == 0) && (ab == 0)) && (ac == 0)) && (ae == 0)) && r9) && al) (gy_t rfl) (fun hg => x_mv (v := aG) rfl) <| g_val ((((((aa == 0) && (ab == 0)) && (ac == 0)) && (ae == 0)) && r9) && al) (gy_t rfl) (fun hg => x_lenS T22.und (gd_of hg (aG)) (H.os 4)) <| g_val ((((((aa == 0) && (ab == 0)) && (ac == 0)) && (ae == 0)) && r9) && al) (gy_t rfl) (fun hg => x_mv (v := aH) rfl) <| g_val ((((((aa == 0) && (ab == 0)) && (ac == 0)) && (ae == 0)) && r9) && al) (gy_t rfl) (fun hg => x_lenS T22.und (gd_of hg (aH)) (H.os 5)) ?_;obtain ⟨ba, hM⟩ := M.e_grd hM
 replace ba := M.imp_of ba
 simp only [Bool.and_eq_true, decide_eq_true_eq] at ba
 refine g_val ((((((aa == 0) && (ab == 0)) && (ac == 0)) && (ae == 0)) && r9) && al) (gy_t rfl) (fun hg => x_ari (r := (aq.length : Int) + (au.length : Int)) (gd_of hg (I (aq.length : Int))) (gd_of hg (I (au.length : Int))) rfl (by have aP := ba.resolve_left (by rw [hg]; decide); first | exact aP | exact aP.1 | exact aP.2 | omega | (have aQ := hg; simp at aQ; omega))) <| g_val ((((((aa == 0) && (ab == 0)) && (ac == 0)) && (ae == 0)) && r9) && al) (gy_t rfl) (fun hg => x_cmp (kd := .i64) (r := ((aq.length : Int) + (au.length : Int)) == 0) (gd_of hg (I ((aq.length : Int) + (au.length : Int)))) rfl rfl) <| s_val (x_pand (b := ((((((aa == 0) && (ab == 0)) && (ac == 0)) && (ae == 0)) && r9) && al)) (r := ((aq.length : Int) + (au.length : Int)) == 0) rfl (fun hb => gd_of (c := ((((((aa == 0) && (ab == 0)) && (ac == 0)) && (ae == 0)) && r9) && al)) (by first | exact hb | (rw [hb]; rfl) | simp_all) (B (((aq.length : Int) + (au.length : Int)) == 0))) rfl) <| zM (B (((((((aa == 0) && (ab == 0)) && (ac == 0)) && (ae == 0)) && r9) && al) && (((aq.length : Int) + (au.length : Int)) == 0))) rfl <| g_val (((((((aa == 0) && (ab == 0)) && (ac == 0)) && (ae == 0)) && r9) && al) && (((aq.length : Int) + (au.length : Int)) == 0)) (gy_t rfl) (fun hg => x_mv (v := aE) rfl) ?_;refine t_gbs (α := Int) T22 (((((((aa == 0) && (ab == 0)) && (ac == 0)) && (ae == 0)) && r9) && al) && (((aq.length : Int) + (au.length : Int)) == 0)) (gy_t rfl) [I 1] [(1 : Int)] H (fun _ => rfl) (.cons rfl (Flat.rep_enc _ (1 : Int)) <| .nil) rfl rfl rfl ?_;intro cB eW iO H fI;obtain ⟨ay, fJ, hM⟩ := M.e_bind hM;refine t_gcall (((((((aa == 0) && (ab == 0)) && (ac == 0)) && (ae == 0)) && r9) && al) && (((aq.length : Int) + (au.length : Int)) == 0)) (gy_t rfl) cf15 (B ay) (fun _ => [aE, cB]) (fun hg => lst2 (gd_of hg (aE)) (gd_of hg (cB))) H (fun hg => (zaf bQ ([(1 : Int)]) (rdo 4) (H.os 4) (Reads.of (k := 0) rfl roLe) (fI hg) (M.e_opt fJ hg) _ (H.give (A := []) rfl)).mono fun v_ w_ ⟨y_, aw, aB, H_⟩ => by subst aw; exact ⟨aB, H.via H_⟩) ?_;intro iP H;refine s_val (x_pand (b := (((((((aa == 0) && (ab == 0)) && (ac == 0)) && (ae == 0)) && r9) && al) && (((aq.length : Int) + (au.length : Int)) == 0))) (r := ay) rfl (fun hb => gd_of (c := (((((((aa == 0) && (ab == 0)) && (ac == 0)) && (ae == 0)) && r9) && al) && (((aq.length : Int) + (au.length : Int)) == 0))) (by first | exact hb | (rw [hb]; rfl) | simp_all) (B ay)) rfl) <| zM (B ((((((((aa == 0) && (ab == 0)) && (ac == 0)) && (ae == 0)) && r9) && al) && (((aq.length : Int) + (au.length : Int)) == 0)) && ay)) rfl <| g_val ((((((((aa == 0) && (ab == 0)) && (ac == 0)) && (ae == 0)) && r9) && al) && (((aq.length : Int) + (au.length : Int)) == 0)) && ay) (gy_t rfl) (fun hg => x_mv (v := aF) rfl) ?_;refine t_gbs (α := Int) T22 ((((((((aa == 0) && (ab == 0)) && (ac == 0)) && (ae == 0)) && r9) && al) && (((aq.length : Int) + (au.length : Int)) == 0)) && ay) (gy_t rfl) [I 0] [(0 : Int)] H (fun _ => rfl) (.cons rfl (Flat.rep_enc _ (0 : Int)) <| .nil) rfl rfl rfl ?_;intro cC eZ iQ H fK;obtain ⟨aK, fL, hM⟩ := M.e_bind hM;refine t_gcall ((((((((aa == 0) && (ab == 0)) && (ac == 0)) && (ae == 0)) && r9) && al) && (((aq.length : Int) + (au.length : Int)) == 0)) && ay) (gy_t rfl) cf15 (B aK) (fun _ => [aF, cC]) (fun hg => lst2 (gd_of hg (aF)) (gd_of hg (cC))) H (fun hg => (zaf b7 ([(0 : Int)]) (rdo 4) (H.os 4) (Reads.of (k := 0) rfl roLe) (fK hg) (M.e_opt fL hg) _ (H.give (A := []) rfl)).mono fun v_ w_ ⟨y_, aw, aB, H_⟩ => by subst aw; exact ⟨aB, H.via H_⟩) ?_;intro iR H;refine s_val (x_pand (b := ((((((((aa == 0) && (ab == 0)) && (ac == 0)) && (ae == 0)) && r9) && al) && (((aq.length : Int) + (au.length : Int)) == 0)) && ay)) (r := aK) rfl (fun hb => gd_of (c := ((((((((aa == 0) && (ab == 0)) && (ac == 0)) && (ae == 0)) && r9) && al) && (((aq.length : Int) + (au.length : Int)) == 0)) && ay)) (by first | exact hb | (rw [hb]; rfl) | simp_all) (B aK)) rfl) <| zA (B (((((((((aa == 0) && (ab == 0)) && (ac == 0)) && (ae == 0)) && r9) && al) && (((aq.length : Int) + (au.length : Int)) == 0)) && ay) && aK)) rfl <| s_nil ?_;replace H := H.pk [];refine W.ret ?_
 have aw := M.e_pure hM
 exact ⟨_, resE_tmp rfl, ⟨(((((((((aa == 0) && (ab == 0)) && (ac == 0)) && (ae == 0)) && r9) && al) && (((aq.length : Int) + (au.length : Int)) == 0)) && ay) && aK), aw, rfl, H⟩⟩

end Go.Proofs.YtbaehghammbjdaaGreat
end
namespace Go.Proofs.YtbaehghammbjdaaGreat
open Go Go.Nm
end Go.Proofs.YtbaehghammbjdaaGreat
namespace Go.Proofs.YtbaehghammbjdaaGreat
open Go Go.Nm
variable {dn : List Int} {tr : List Span} {sp : List Int} {tw : List Town} {dl dh : Int} {fl : List Flood} {dp : Dem -> Int} {ok : Dem -> Prop}
theorem G_ok {l : List Dem} (h : ∀ d ∈ l, ok d) {k : Int} (h0 : 0 <= k) (h1 : k < l.length) : ok (G l k) := by
  unfold G
  rw [getD_el l (by omega)]
  exact h _ (List.getElem_mem _)
theorem swap_out {l : List Dem} {a b n : Int} (h0 : 0 <= a) (hn : 0 <= n) (h1 : a + n <= b) (h2 : b + n <= l.length) (h3 : l.length <= 1000) :
    (zba l a b n dn tr sp tw dl dh fl dn tr sp tw dl dh fl).Out (fun l' => Mv l l' a (b + n) /\ ∀ k, 0 <= k -> G l' k = sx (G l) a b n k) := by
  unfold zba
  refine M.o_bind (P := fun l' => Mv l l' a (b + n) /\ ∀ k, 0 <= k -> G l' k = sx (G l) a b n k) ?_ (fun y hy => M.o_pure hy)
  refine M.o_for (Int.toNat n) (fun i (t : List Dem × Nat) => t.2 = i /\ Mv l t.1 a (b + n) /\ ∀ k, 0 <= k -> G t.1 k = sx (G l) a b i k) ?_ ?_ ⟨rfl, Mv.refl _ _ _, fun k _ => by dsimp only; rw [show ((0 : Nat) : Int) = 0 from rfl, sx_zero]⟩
  · rintro _ ⟨q, i⟩ hi ⟨rfl, hm, hg⟩
    dsimp only at hi hm hg
    have ln := hm.ln
    simp only [zbK]
    refine M.ot1 (M.og2 (M.og2 (M.og2 (M.og2 (M.o_grd (gA2 (by omega) (by rw [List.length_set]; omega)) (M.og2 (M.o_pure ⟨rfl, hm.trans (sw_mv (i := a + i) (j := b + i) h0 (by omega) (by omega) (by omega)), fun k hk => ?_⟩)))))))
    have e := sw_G (l := q) (i := a + i) (j := b + i) (by omega) (by omega) hk
    exact e.trans (sx_step (by omega) (by omega) h1 (hg k hk) (hg _ (by omega)) (hg _ (by omega)))
  · rintro ⟨q, i⟩ ⟨e, hm, hg⟩
    dsimp only at e hm hg
    subst e
    simp only [zbK]
    refine M.of1 (M.o_pure ⟨hm, fun k hk => ?_⟩)
    have := hg k hk
    rwa [Int.toNat_of_nonneg hn] at this
theorem rotate_out {l : List Dem} {s m e : Int} (h0 : 0 <= s) (h1 : s < m) (h2 : m < e) (h3 : e <= l.length) (h4 : l.length <= 1000) :
    (zcL l s m e dn tr sp tw dl dh fl dn tr sp tw dl dh fl).Out (fun l' => Mv l l' s e /\ ∀ k, 0 <= k -> G l' k = rot (G l) s m e k) := by
  unfold zcL
  refine M.og2 (M.og2 ?_)
  refine M.o_bind (P := fun y => (0 < y.2.1 /\ y.2.1 <= m - s /\ y.2.1 <= e - m) /\ Mv l y.2.2 s e /\ ∀ k, 0 <= k -> rot (G y.2.2) (m - y.2.1) m (m + y.2.1) k = rot (G l) s m e k) ?_ ?_
  · refine M.o_iter (fun (w : Nat) (t : List Dem × Int × Int) => w = Int.toNat (t.2.1 + t.2.2) /\ (0 < t.2.1 /\ t.2.1 <= m - s) /\ (0 < t.2.2 /\ t.2.2 <= e - m) /\ Mv l t.1 s e /\ ∀ k, 0 <= k -> rot (G t.1) (m - t.2.1) m (m + t.2.2) k = rot (G l) s m e k) ?_ _ _ ⟨rfl, ⟨by dsimp only; omega, by dsimp only; omega⟩, ⟨by dsimp only; omega, by dsimp only; omega⟩, Mv.refl _ _ _, fun k _ => by dsimp only; rw [show m - (m - s) = s by omega, show m + (e - m) = e by omega]⟩
    rintro _ ⟨q, i, j⟩ ⟨rfl, ⟨i0, i1⟩, ⟨j0, j1⟩, hm, hr⟩
    dsimp only at i0 i1 j0 j1 hm hr
    have ln := hm.ln
    simp only [zcY]
    refine M.o_if (fun hb => M.o_if (fun hc => ?_) (fun hc => ?_)) (fun hb => M.o_pure ⟨⟨by dsimp only; omega, by dsimp only; omega, ?_⟩, hm, fun k hk => ?_⟩)
    · have hc := of_decide_eq_true hc
      refine M.og2 (M.o_bind (swap_out (by omega) (by omega) (by omega) (by omega) (by omega)) ?_)
      rintro q' ⟨hm', hg'⟩
      refine M.og2 (M.o_pure ⟨Int.toNat ((i - j) + j), by omega, rfl, ⟨by dsimp only; omega, by dsimp only; omega⟩, ⟨j0, j1⟩, hm.trans (hm'.mono h0 (by omega) (by omega)), fun k hk => ?_⟩)
      dsimp only
      rw [rot_congr hg' (by omega) (by omega) (by omega) hk, rot_l (by omega) (by omega)]
      exact hr k hk
    · have hb := bne_iff_ne.1 hb
      have hc := of_decide_eq_false hc
      refine M.og2 (M.og2 (M.og2 (M.o_bind (swap_out (by omega) (by omega) (by omega) (by omega) (by omega)) ?_)))
      rintro q' ⟨hm', hg'⟩
      refine M.og2 (M.o_pure ⟨Int.toNat (i + (j - i)), by omega, rfl, ⟨i0, i1⟩, ⟨by dsimp only; omega, by dsimp only; omega⟩, hm.trans (hm'.mono h0 (by omega) (by omega)), fun k hk => ?_⟩)
      dsimp only
      rw [rot_congr hg' (by omega) (by omega) (by omega) hk, rot_r (by omega) (by omega)]
      exact hr k hk
    · have hb : i = j := by simpa using hb
      dsimp only
      omega
    · have hb : i = j := by simpa using hb
      have := hr k hk
      rw [← hb] at this
      exact this
  · rintro ⟨_, i, q⟩ ⟨⟨i0, i1, i2⟩, hm, hr⟩
    dsimp only at i0 i1 i2 hm hr ⊢
    have ln := hm.ln
    refine M.og2 (M.o_bind (swap_out (by omega) (by omega) (by omega) (by omega) (by omega)) ?_)
    rintro q' ⟨hm', hg'⟩
    refine M.o_pure ⟨hm.trans (hm'.mono h0 (by omega) (by omega)), fun k hk => ?_⟩
    rw [hg' k hk, rot_e]
    exact hr k hk
section
variable (hc : ∀ x y, ok x -> ok y -> (zaD x y dn tr sp tw dl dh fl dn tr sp tw dl dh fl).Ends (cv (dp y) (dp x)))
include hc
theorem insert_out {l : List Dem} {a b : Int} (h0 : 0 <= a) (h1 : a <= b) (h2 : b <= l.length) (h3 : l.length <= 1000) (ho : ∀ d ∈ l, ok d) :
    (zcm l a b dn tr sp tw dl dh fl dn tr sp tw dl dh fl).Out (fun l' => Mv l l' a b /\ Srt dp l' a b) := by
  unfold zcm
  refine M.og2 (M.o_bind (P := fun l' => Mv l l' a b /\ Srt dp l' a b) ?_ (fun y hy => M.o_pure hy))
  by_cases hab : a = b
  · refine M.o_iter (fun (w : Nat) (t : List Dem × Int) => t = (l, a + 1)) ?_ 0 _ rfl
    rintro w _ rfl
    simp only [zbA]
    exact M.of1 (M.o_pure ⟨Mv.refl _ _ _, fun i j g1 g2 g3 => by omega⟩)
  refine M.o_for (Int.toNat (b - a - 1)) (fun n (t : List Dem × Int) => t.2 = a + 1 + n /\ Mv l t.1 a b /\ Srt dp t.1 a t.2) ?_ ?_ ⟨by dsimp only; omega, Mv.refl _ _ _, fun i j g1 g2 g3 => by dsimp only at g3; omega⟩
  · rintro n ⟨q, i⟩ hn ⟨e, hm, hs⟩
    dsimp only at e hm hs
    have ln := hm.ln
    simp only [zbA]
    refine M.ot1 (M.o_bind (P := fun y => Mv q y.2 a (i + 1) /\ Srt dp y.2 a (i + 1)) ?_ ?_)
    · refine M.o_iter (fun (w : Nat) (t : List Dem × Int) => w = Int.toNat (t.2 - a) /\ (a <= t.2 /\ t.2 <= i) /\ Mv q t.1 a (i + 1) /\ ∀ x y, a <= x -> x < y -> y <= i -> y ≠ t.2 -> dp (G t.1 y) <= dp (G t.1 x)) ?_ _ _ ⟨rfl, ⟨by dsimp only; omega, Int.le_refl _⟩, Mv.refl _ _ _, fun x y g1 g2 g3 g4 => hs x y g1 g2 (by dsimp only at g4; omega)⟩
      rintro _ ⟨r, j⟩ ⟨rfl, ⟨j0, j1⟩, km, kp⟩
      dsimp only at j0 j1 km kp
      have kn := km.ln
      have ho' : ∀ d ∈ r, ok d := fun d hd => ho d (hm.pm.mem_iff.1 (km.pm.mem_iff.1 hd))
      simp only [zc2]
      refine M.o_grd (gI2 fun h => by have := of_decide_eq_true h; omega) (M.o_grd (gI2 fun h => by have := of_decide_eq_true h; omega) (M.o_grd (gI2 fun h => by have := of_decide_eq_true h; omega) (M.o_if (fun hb => ?_) (fun hb => ?_))))
      · have hj := of_decide_eq_true hb
        have h5 := hc (G r j) (G r (j - 1)) (G_ok ho' (by omega) (by omega)) (G_ok ho' (by omega) (by omega))
        refine M.o_bindE h5 ?_
        rw [cv_neg, hb, Bool.true_and]
        refine M.o_if (fun hl => ?_) (fun hl => M.o_pure ?_)
        · have hl := of_decide_eq_true hl
          refine M.og2 (M.og2 (M.og2 (M.o_grd (gA2 (by omega) (by rw [List.length_set]; omega)) (M.o_pure ⟨Int.toNat ((j - 1) - a), by omega, rfl, ⟨by dsimp only; omega, by dsimp only; omega⟩, km.trans (sw_mv (i := j) (j := j - 1) h0 (by omega) (by omega) (by omega)), fun x y g1 g2 g3 g4 => ?_⟩))))
          dsimp only at g4
          have ex := sw_G (l := r) (i := j) (j := j - 1) (by omega) (by omega) (show 0 <= x by omega)
          have ey := sw_G (l := r) (i := j) (j := j - 1) (by omega) (by omega) (show 0 <= y by omega)
          show dp (G (sw r j (j - 1)) y) <= dp (G (sw r j (j - 1)) x)
          rw [ex, ey, if_neg g4]
          by_cases c1 : y = j
          · subst c1
            rw [if_pos rfl]
            by_cases c2 : x = y - 1
            · rw [if_pos c2]
              omega
            · rw [if_neg c2, if_neg (by omega)]
              exact kp x (y - 1) g1 (by omega) (by omega) (by omega)
          · rw [if_neg c1]
            by_cases c2 : x = j - 1
            · rw [if_pos c2]
              exact kp j y (by omega) (by omega) g3 c1
            · rw [if_neg c2]
              by_cases c3 : x = j
              · rw [if_pos c3]
                exact kp (j - 1) y (by omega) (by omega) g3 c1
              · rw [if_neg c3]
                exact kp x y g1 g2 g3 c1
        · have hl := of_decide_eq_false hl
          refine ⟨km, fun x y g1 g2 g3 => ?_⟩
          dsimp only
          by_cases c1 : y = j
          · subst c1
            by_cases c2 : x = y - 1
            · subst c2
              omega
            · have := kp x (y - 1) g1 (by omega) (by omega) (by omega)
              omega
          · exact kp x y g1 g2 (by omega) c1
      · have hj := of_decide_eq_false hb
        refine M.o_f (by rw [hb]; rfl) (M.o_pure ⟨km, fun x y g1 g2 g3 => kp x y g1 g2 (by omega) (by omega)⟩)
    · rintro ⟨_, r⟩ ⟨km, ks⟩
      dsimp only at km ks ⊢
      exact M.og2 (M.o_pure ⟨by dsimp only; omega, hm.trans (km.mono h0 (Int.le_refl _) (by omega)), ks⟩)
  · rintro ⟨q, i⟩ ⟨e, hm, hs⟩
    dsimp only at e hm hs
    simp only [zbA]
    exact M.of1 (M.o_pure ⟨hm, hs.sub (Int.le_refl _) (by omega)⟩)
theorem find0 {l : List Dem} {a m b : Int} (h0 : 0 <= a) (h1 : a < m) (h2 : m <= b) (h3 : b <= l.length) (h4 : l.length <= 1000) (ho : ∀ d ∈ l, ok d) (hs : Srt dp l m b) :
    (M.iter (zbq l a dn tr sp tw dl dh fl dn tr sp tw dl dh fl) (m, b)).Out (fun i => (m <= i /\ i <= b) /\ (∀ c, m <= c -> c < i -> dp (G l a) < dp (G l c)) /\ ∀ c, i <= c -> c < b -> dp (G l c) <= dp (G l a)) := by
  refine M.o_iter (fun (w : Nat) (t : Int × Int) => w = Int.toNat (t.2 - t.1) /\ (m <= t.1 /\ t.1 <= t.2 /\ t.2 <= b) /\ (∀ c, m <= c -> c < t.1 -> dp (G l a) < dp (G l c)) /\ ∀ c, t.2 <= c -> c < b -> dp (G l c) <= dp (G l a)) ?_ _ _ ⟨rfl, ⟨Int.le_refl _, h2, Int.le_refl _⟩, fun c g1 g2 => by dsimp only at g2; omega, fun c g1 g2 => by dsimp only at g1; omega⟩
  rintro _ ⟨i, j⟩ ⟨rfl, ⟨i0, i1, i2⟩, p1, p2⟩
  dsimp only at i0 i1 i2 p1 p2
  simp only [zbq]
  refine M.o_if (fun hb => ?_) (fun hb => M.o_pure ?_)
  · have hb := of_decide_eq_true hb
    have q1 : i <= (i + j) / 2 /\ (i + j) / 2 < j := by omega
    generalize (i + j) / 2 = h at q1 ⊢
    refine M.og2 (M.og2 (M.og2 (M.og2 (M.og2 ?_))))
    refine M.o_bindE (hc (G l h) (G l a) (G_ok ho (by omega) (by omega)) (G_ok ho (by omega) (by omega))) ?_
    rw [cv_neg]
    refine M.o_if (fun hl => M.o_pure ⟨Int.toNat (j - (h + 1)), by omega, rfl, ⟨by dsimp only; omega, by dsimp only; omega, i2⟩, fun c g1 g2 => ?_, p2⟩) (fun hl => M.o_pure ⟨Int.toNat (h - i), by omega, rfl, ⟨i0, by dsimp only; omega, by dsimp only; omega⟩, p1, fun c g1 g2 => ?_⟩)
    · have hl := of_decide_eq_true hl
      dsimp only at g2
      by_cases e : c = h
      · subst e; exact hl
      · have := hs c h g1 (by omega) (by omega)
        omega
    · have hl := of_decide_eq_false hl
      dsimp only at g1
      by_cases e : c = h
      · subst e; omega
      · have := hs h c (by omega) (by omega) g2
        omega
  · have hb := of_decide_eq_false hb
    exact ⟨⟨i0, by omega⟩, p1, fun c g1 g2 => p2 c (by omega) g2⟩
theorem find2 {l : List Dem} {a m b : Int} (h0 : 0 <= a) (h1 : a <= m) (h2 : m < b) (h3 : b <= l.length) (h4 : l.length <= 1000) (ho : ∀ d ∈ l, ok d) (hs : Srt dp l a m) :
    (M.iter (zbb l m dn tr sp tw dl dh fl dn tr sp tw dl dh fl) (a, m)).Out (fun i => (a <= i /\ i <= m) /\ (∀ c, a <= c -> c < i -> dp (G l m) <= dp (G l c)) /\ ∀ c, i <= c -> c < m -> dp (G l c) < dp (G l m)) := by
  refine M.o_iter (fun (w : Nat) (t : Int × Int) => w = Int.toNat (t.2 - t.1) /\ (a <= t.1 /\ t.1 <= t.2 /\ t.2 <= m) /\ (∀ c, a <= c -> c < t.1 -> dp (G l m) <= dp (G l c)) /\ ∀ c, t.2 <= c -> c < m -> dp (G l c) < dp (G l m)) ?_ _ _ ⟨rfl, ⟨Int.le_refl _, h1, Int.le_refl _⟩, fun c g1 g2 => by dsimp only at g2; omega, fun c g1 g2 => by dsimp only at g1; omega⟩
  rintro _ ⟨i, j⟩ ⟨rfl, ⟨i0, i1, i2⟩, p1, p2⟩
  dsimp only at i0 i1 i2 p1 p2
  simp only [zbb]
  refine M.o_if (fun hb => ?_) (fun hb => M.o_pure ?_)
  · have hb := of_decide_eq_true hb
    have q1 : i <= (i + j) / 2 /\ (i + j) / 2 < j := by omega
    generalize (i + j) / 2 = h at q1 ⊢
    refine M.og2 (M.og2 (M.og2 (M.og2 (M.og2 ?_))))
    refine M.o_bindE (hc (G l m) (G l h) (G_ok ho (by omega) (by omega)) (G_ok ho (by omega) (by omega))) ?_
    rw [cv_neg]
    refine M.o_if (fun hl => M.o_pure ⟨Int.toNat (j - (h + 1)), by omega, rfl, ⟨by dsimp only; omega, by dsimp only; omega, i2⟩, fun c g1 g2 => ?_, p2⟩) (fun hl => M.o_pure ⟨Int.toNat (h - i), by omega, rfl, ⟨i0, by dsimp only; omega, by dsimp only; omega⟩, p1, fun c g1 g2 => ?_⟩)
    · have hl : ¬ dp (G l h) < dp (G l m) := by simpa using hl
      dsimp only at g2
      by_cases e : c = h
      · subst e; omega
      · have := hs c h g1 (by omega) (by omega)
        omega
    · have hl : dp (G l h) < dp (G l m) := by simpa using hl
      dsimp only at g1
      by_cases e : c = h
      · subst e; exact hl
      · have := hs h c (by omega) (by omega) g2
        omega
  · have hb := of_decide_eq_false hb
    exact ⟨⟨i0, by omega⟩, p1, fun c g1 g2 => p2 c (by omega) g2⟩
theorem find4 {l : List Dem} {a m b s0 r0 p : Int} (hp : p = (a + b) / 2 + m - 1) (hab : 0 <= a + b) (hm : 0 <= m) (h3 : b <= l.length) (ha : a <= b) (h4 : l.length <= 1000) (ho : ∀ d ∈ l, ok d) (h0 : 0 <= a) (h1 : a <= s0) (h2 : s0 <= r0) (h5 : r0 <= m) (h6 : m <= b)
    (hr : ∀ c, s0 <= c -> c < r0 -> m <= p - c /\ p - c < b) (hs1 : Srt dp l a m) (hs2 : Srt dp l m b) :
    (M.iter (zbr l a m b dn tr sp tw dl dh fl dn tr sp tw dl dh fl) (s0, r0)).Out (fun s => (s0 <= s /\ s <= r0) /\ (∀ c, s0 <= c -> c < s -> dp (G l (p - c)) <= dp (G l c)) /\ ∀ c, s <= c -> c < r0 -> dp (G l c) < dp (G l (p - c))) := by
  refine M.o_iter (fun (w : Nat) (t : Int × Int) => w = Int.toNat (t.2 - t.1) /\ (s0 <= t.1 /\ t.1 <= t.2 /\ t.2 <= r0) /\ (∀ c, s0 <= c -> c < t.1 -> dp (G l (p - c)) <= dp (G l c)) /\ ∀ c, t.2 <= c -> c < r0 -> dp (G l c) < dp (G l (p - c))) ?_ _ _ ⟨rfl, ⟨Int.le_refl _, h2, Int.le_refl _⟩, fun c g1 g2 => by dsimp only at g2; omega, fun c g1 g2 => by dsimp only at g1; omega⟩
  rintro _ ⟨i, j⟩ ⟨rfl, ⟨i0, i1, i2⟩, p1, p2⟩
  dsimp only at i0 i1 i2 p1 p2
  simp only [zbr]
  rw [← hp]
  refine M.o_if (fun hb => ?_) (fun hb => M.o_pure ?_)
  · have hb := of_decide_eq_true hb
    have q1 : i <= (i + j) / 2 /\ (i + j) / 2 < j := by omega
    generalize (i + j) / 2 = h at q1 ⊢
    have q2 := hr h (by omega) (by omega)
    refine M.og2 (M.og2 (M.og2 (M.og2 (M.og2 (M.og2 ?_)))))
    refine M.o_bindE (hc (G l (p - h)) (G l h) (G_ok ho (by omega) (by omega)) (G_ok ho (by omega) (by omega))) ?_
    rw [cv_neg]
    refine M.o_if (fun hl => M.o_pure ⟨Int.toNat (j - (h + 1)), by omega, rfl, ⟨by dsimp only; omega, by dsimp only; omega, i2⟩, fun c g1 g2 => ?_, p2⟩) (fun hl => M.o_pure ⟨Int.toNat (h - i), by omega, rfl, ⟨i0, by dsimp only; omega, by dsimp only; omega⟩, p1, fun c g1 g2 => ?_⟩)
    · have hl : ¬ dp (G l h) < dp (G l (p - h)) := by simpa using hl
      dsimp only at g2
      by_cases e : c = h
      · subst e; omega
      · have q3 := hr c g1 (by omega)
        have := hs1 c h (by omega) (by omega) (by omega)
        have := hs2 (p - h) (p - c) (by omega) (by omega) (by omega)
        omega
    · have hl : dp (G l h) < dp (G l (p - h)) := by simpa using hl
      dsimp only at g1
      by_cases e : c = h
      · subst e; exact hl
      · have q3 := hr c (by omega) g2
        have := hs1 h c (by omega) (by omega) (by omega)
        have := hs2 (p - c) (p - h) (by omega) (by omega) (by omega)
        omega
  · have hb := of_decide_eq_false hb
    exact ⟨⟨i0, by omega⟩, p1, fun c g1 g2 => p2 c (by omega) g2⟩
omit hc in
theorem shift1 {l : List Dem} {a b i : Int} (h0 : 0 <= a) (h1 : a < i) (h2 : i <= b) (h3 : b <= l.length) (h4 : l.length <= 1000) :
    (M.iter (za3 i) (l, a)).Out (fun l' => Mv l l' a b /\ ∀ k, 0 <= k -> G l' k = if a <= k /\ k < i - 1 then G l (k + 1) else if k = i - 1 then G l a else G l k) := by
  refine M.o_for (Int.toNat (i - 1 - a)) (fun n (t : List Dem × Int) => t.2 = a + n /\ Mv l t.1 a b /\ ∀ k, 0 <= k -> G t.1 k = if a <= k /\ k < t.2 then G l (k + 1) else if k = t.2 then G l a else G l k) ?_ ?_ ⟨by dsimp only; omega, Mv.refl _ _ _, fun k hk => ?_⟩
  · rintro n ⟨q, k⟩ hn ⟨e, hm, hg⟩
    dsimp only at e hm hg
    have ln := hm.ln
    simp only [za3]
    refine M.og2 (M.ot1 (M.og2 (M.og2 (M.og2 (M.o_grd (gA2 (by omega) (by rw [List.length_set]; omega)) (M.o_pure ⟨by dsimp only; omega, hm.trans (sw_mv (i := k) (j := k + 1) h0 (by omega) (by omega) (by omega)), fun x hx => ?_⟩))))))
    have e1 := sw_G (l := q) (i := k) (j := k + 1) (by omega) (by omega) hx
    refine e1.trans ?_
    dsimp only
    rw [hg k (by omega), hg (k + 1) (by omega), hg x hx]
    repeat' split
    all_goals first | rfl | (congr 1; omega) | (exfalso; omega)
  · rintro ⟨q, k⟩ ⟨e, hm, hg⟩
    dsimp only at e hm hg
    obtain rfl : k = i - 1 := by omega
    simp only [za3]
    exact M.og2 (M.of1 (M.o_pure ⟨hm, hg⟩))
  · dsimp only
    by_cases e : k = a
    · rw [if_neg (by omega), if_pos e, e]
    · rw [if_neg (by omega), if_neg e]
omit hc in
theorem shift3 {l : List Dem} {a b i m : Int} (h0 : 0 <= a) (h1 : a <= i) (h2 : i <= m) (h5 : m < b) (h3 : b <= l.length) (h4 : l.length <= 1000) :
    (M.iter (za1 i) (l, m)).Out (fun l' => Mv l l' a b /\ ∀ k, 0 <= k -> G l' k = if k = i then G l m else if i < k /\ k <= m then G l (k - 1) else G l k) := by
  refine M.o_for (Int.toNat (m - i)) (fun n (t : List Dem × Int) => t.2 = m - n /\ Mv l t.1 a b /\ ∀ k, 0 <= k -> G t.1 k = if k = t.2 then G l m else if t.2 < k /\ k <= m then G l (k - 1) else G l k) ?_ ?_ ⟨by dsimp only; omega, Mv.refl _ _ _, fun k hk => ?_⟩
  · rintro n ⟨q, k⟩ hn ⟨e, hm, hg⟩
    dsimp only at e hm hg
    have ln := hm.ln
    simp only [za1]
    refine M.ot1 (M.og2 (M.og2 (M.og2 (M.o_grd (gA2 (by omega) (by rw [List.length_set]; omega)) (M.o_pure ⟨by dsimp only; omega, hm.trans (sw_mv (i := k) (j := k - 1) h0 (by omega) (by omega) (by omega)), fun x hx => ?_⟩)))))
    have e1 := sw_G (l := q) (i := k) (j := k - 1) (by omega) (by omega) hx
    refine e1.trans ?_
    dsimp only
    rw [hg k (by omega), hg (k - 1) (by omega), hg x hx]
    repeat' split
    all_goals first | rfl | (congr 1; omega) | (exfalso; omega)
  · rintro ⟨q, k⟩ ⟨e, hm, hg⟩
    dsimp only at e hm hg
    obtain rfl : k = i := by omega
    simp only [za1]
    exact M.of1 (M.o_pure ⟨hm, hg⟩)
  · dsimp only
    by_cases e : k = m
    · rw [if_pos e, e]
    · rw [if_neg e, if_neg (by omega)]
theorem j7_out {self : (List Dem × Int × Int × Int × List Int × List Span × List Int × List Town × Int × Int × List Flood × List Int × List Span × List Int × List Town × Int × Int × List Flood) -> M (List Dem)} {l : List Dem} {a m b s0 r0 : Int}
    (hself : ∀ (l : List Dem) (a' m' b' : Int), 0 <= a' -> a' < m' -> m' < b' -> b' - a' < b - a -> b' <= l.length -> l.length <= 1000 -> (∀ d ∈ l, ok d) -> Srt dp l a' m' -> Srt dp l m' b' -> (self (l, a', m', b', dn, tr, sp, tw, dl, dh, fl, dn, tr, sp, tw, dl, dh, fl)).Out (fun l' => Mv l l' a' b' /\ Srt dp l' a' b'))
    (h0 : 0 <= a) (h1 : a < m) (h2 : m < b) (h3 : b <= l.length) (h4 : l.length <= 1000) (ho : ∀ d ∈ l, ok d) (hs1 : Srt dp l a m) (hs2 : Srt dp l m b)
    (hst : ((a + b) / 2 < m /\ s0 = (a + b) / 2 + m - b /\ r0 = (a + b) / 2) ∨ (m <= (a + b) / 2 /\ s0 = a /\ r0 = m)) :
    (zaX l a m b dn tr sp tw dl dh fl dn tr sp tw dl dh fl self s0 r0).Out (fun l' => Mv l l' a b /\ Srt dp l' a b) := by
  unfold zaX
  obtain ⟨d, hd⟩ : ∃ d, d = (a + b) / 2 := ⟨_, rfl⟩
  have d1 : 2 * d <= a + b /\ a + b < 2 * d + 2 := by omega
  have F := find4 hc (l := l) (a := a) (m := m) (b := b) (s0 := s0) (r0 := r0) (p := d + m - 1) (by rw [hd]) (by omega) (by omega) h3 (by omega) h4 ho h0 (by omega) (by omega) (by omega) (by omega) (fun c g1 g2 => by omega) hs1 hs2
  rw [← hd] at hst ⊢
  refine M.og2 (M.o_bind F ?_)
  rintro s ⟨⟨b1, b2⟩, p1, p2⟩
  obtain ⟨e, he⟩ : ∃ e, e = d + m - s := ⟨_, rfl⟩
  have e1 : a <= s /\ s <= m /\ m <= e /\ e <= b := by omega
  rw [← he]
  -- what is left, once both parts have changed places
  have rest : ∀ l1 : List Dem, Mv l l1 a b -> (∀ k, 0 <= k -> G l1 k = rot (G l) s m e k) -> (za0 a m b dn tr sp tw dl dh fl dn tr sp tw dl dh fl self s l1).Out (fun l' => Mv l l' a b /\ Srt dp l' a b) := by
    intro l1 hm hg
    have ln := hm.ln
    have ho1 : ∀ x ∈ l1, ok x := fun x hx => ho x (hm.pm.mem_iff.1 hx)
    have g1 : ∀ k, a <= k -> k < s -> G l1 k = G l k := fun k k1 k2 => by rw [hg k (by omega)]; unfold rot; rw [if_neg (by omega), if_neg (by omega)]
    have g2 : ∀ k, s <= k -> k < d -> G l1 k = G l (k + (m - s)) := fun k k1 k2 => by rw [hg k (by omega)]; unfold rot; rw [if_pos (by omega)]
    have g3 : ∀ k, d <= k -> k < e -> G l1 k = G l (k - (e - m)) := fun k k1 k2 => by rw [hg k (by omega)]; unfold rot; rw [if_neg (by omega), if_pos (by omega)]
    have g4 : ∀ k, e <= k -> G l1 k = G l k := fun k k1 => by rw [hg k (by omega)]; unfold rot; rw [if_neg (by omega), if_neg (by omega)]
    have r1 : Srt dp l1 a s := fun i j i1 i2 i3 => by rw [g1 i i1 (by omega), g1 j (by omega) i3]; exact hs1 i j i1 i2 (by omega)
    have r2 : Srt dp l1 s d := fun i j i1 i2 i3 => by rw [g2 i i1 (by omega), g2 j (by omega) i3]; exact hs2 _ _ (by omega) (by omega) (by omega)
    have r3 : Srt dp l1 d e := fun i j i1 i2 i3 => by rw [g3 i i1 (by omega), g3 j (by omega) i3]; exact hs1 _ _ (by omega) (by omega) (by omega)
    have r4 : Srt dp l1 e b := fun i j i1 i2 i3 => by rw [g4 i i1, g4 j (by omega)]; exact hs2 i j (by omega) i2 i3
    have cr : ∀ i j, a <= i -> i < d -> d <= j -> j < b -> dp (G l1 j) <= dp (G l1 i) := by
      intro i j i1 i2 j1 j2
      by_cases ci : i < s
      · by_cases cj : j < e
        · rw [g1 i i1 ci, g3 j j1 cj]
          exact hs1 _ _ i1 (by omega) (by omega)
        · rw [g1 i i1 ci, g4 j (by omega)]
          have k1 := p1 (s - 1) (by omega) (by omega)
          rw [show d + m - 1 - (s - 1) = e by omega] at k1
          have k2 : dp (G l j) <= dp (G l e) := by
            by_cases c : j = e
            · rw [c]; exact Int.le_refl _
            · exact hs2 e j (by omega) (by omega) j2
          have k3 : dp (G l (s - 1)) <= dp (G l i) := by
            by_cases c : i = s - 1
            · rw [c]; exact Int.le_refl _
            · exact hs1 i (s - 1) i1 (by omega) (by omega)
          omega
      · by_cases cj : j < e
        · rw [g2 i (by omega) i2, g3 j j1 cj]
          have k1 := p2 s (Int.le_refl _) (by omega)
          rw [show d + m - 1 - s = e - 1 by omega] at k1
          have k2 : dp (G l (j - (e - m))) <= dp (G l s) := by
            by_cases c : j - (e - m) = s
            · rw [c]; exact Int.le_refl _
            · exact hs1 s _ (by omega) (by omega) (by omega)
          have k3 : dp (G l (e - 1)) <= dp (G l (i + (m - s))) := by
            by_cases c : i + (m - s) = e - 1
            · rw [c]; exact Int.le_refl _
            · exact hs2 _ (e - 1) (by omega) (by omega) (by omega)
          omega
        · rw [g2 i (by omega) i2, g4 j (by omega)]
          exact hs2 _ _ (by omega) (by omega) j2
    -- the right half
    have right : ∀ l2 : List Dem, Mv l1 l2 a d -> Srt dp l2 a d -> (zaR a m b dn tr sp tw dl dh fl dn tr sp tw dl dh fl self s l2).Out (fun l' => Mv l l' a b /\ Srt dp l' a b) := by
      intro l2 hm2 hq
      have ln2 := hm2.ln
      have ho2 : ∀ x ∈ l2, ok x := fun x hx => ho1 x (hm2.pm.mem_iff.1 hx)
      have t3 : Srt dp l2 d e := r3.same hm2 (by omega) (.inr (Int.le_refl _))
      have t4 : Srt dp l2 e b := r4.same hm2 (by omega) (.inr (by omega))
      have c2 : ∀ i j, a <= i -> i < d -> d <= j -> j < b -> dp (G l2 j) <= dp (G l2 i) := fun i j i1 i2 j1 j2 => by
        rw [hm2.fr j (by omega) (by omega)]
        exact hm2.qs (fun x => dp (G l1 j) <= dp x) (fun k k1 k2 => cr k j k1 k2 j1 j2) i i1 i2
      unfold zaR
      rw [← hd, ← he]
      refine M.o_if (fun hb => ?_) (fun hb => M.o_pure ⟨hm.trans (hm2.mono h0 (Int.le_refl _) (by omega)), hq.join ?_ c2⟩)
      · rw [Bool.and_eq_true, decide_eq_true_eq, decide_eq_true_eq] at hb
        refine M.o_bind (hself l2 d e b (by omega) (by omega) (by omega) (by omega) (by omega) (by omega) ho2 t3 t4) ?_
        rintro l3 ⟨hm3, hq3⟩
        refine M.o_pure ⟨(hm.trans (hm2.mono h0 (Int.le_refl _) (by omega))).trans (hm3.mono h0 (by omega) (Int.le_refl _)), (hq.same hm3 (by omega) (.inl (Int.le_refl _))).join hq3 fun i j i1 i2 j1 j2 => ?_⟩
        rw [hm3.fr i (by omega) (by omega)]
        exact hm3.qs (fun x => dp x <= dp (G l2 i)) (fun k k1 k2 => c2 i k i1 i2 k1 k2) j j1 j2
      · rw [Bool.and_eq_false_iff, decide_eq_false_iff_not, decide_eq_false_iff_not] at hb
        intro i j i1 i2 i3
        by_cases c : e = b
        · exact t3 i j i1 i2 (by omega)
        · exact t4 i j (by omega) i2 i3
    unfold za0
    rw [← hd]
    refine M.o_if (fun hb => ?_) (fun hb => right l1 (Mv.refl _ _ _) ?_)
    · rw [Bool.and_eq_true, decide_eq_true_eq, decide_eq_true_eq] at hb
      refine M.o_bind (hself l1 a s d h0 (by omega) (by omega) (by omega) (by omega) (by omega) ho1 r1 r2) ?_
      rintro l2 ⟨hm2, hq2⟩
      exact right l2 hm2 hq2
    · rw [Bool.and_eq_false_iff, decide_eq_false_iff_not, decide_eq_false_iff_not] at hb
      intro i j i1 i2 i3
      by_cases c : s = a
      · exact r2 i j (by omega) i2 i3
      · exact r1 i j i1 i2 (by omega)
  refine M.og2 (M.o_if (fun hb => ?_) (fun hb => rest l (Mv.refl _ _ _) fun k hk => ?_))
  · rw [Bool.and_eq_true, decide_eq_true_eq, decide_eq_true_eq] at hb
    refine M.o_bind (rotate_out (by omega) (by omega) (by omega) (by omega) h4) ?_
    rintro l1 ⟨hm, hg⟩
    exact rest l1 (hm.mono h0 (by omega) (by omega)) hg
  · rw [Bool.and_eq_false_iff, decide_eq_false_iff_not, decide_eq_false_iff_not] at hb
    exact (rot_id (by omega) (by omega) (by omega)).symm
theorem sym_out : ∀ (w : Nat) (l : List Dem) (a m b : Int), w = Int.toNat (b - a) -> 0 <= a -> a < m -> m < b -> b <= l.length -> l.length <= 1000 -> (∀ d ∈ l, ok d) -> Srt dp l a m -> Srt dp l m b →
    (zbN l a m b dn tr sp tw dl dh fl dn tr sp tw dl dh fl).Out (fun l' => Mv l l' a b /\ Srt dp l' a b) := by
  intro w
  induction w using Nat.strongRecOn with
  | _ w ih =>
  intro l a m b hw h0 h1 h2 h3 h4 ho hs1 hs2
  unfold zbN
  suffices k : (zan (M.fix zan zdw) (l, a, m, b, dn, tr, sp, tw, dl, dh, fl, dn, tr, sp, tw, dl, dh, fl)).Out (fun l' => Mv l l' a b /\ Srt dp l' a b) by
    obtain ⟨r, k1, k2⟩ := k
    exact ⟨r, M.i_fix k1, k2⟩
  simp only [zan]
  refine M.og2 (M.o_if (fun hb => ?_) (fun hb => M.og2 (M.o_if (fun hb2 => ?_) (fun hb2 => ?_))))
  · have hb : m - a = 1 := beq_iff_eq.1 hb
    refine M.o_bind (find0 hc h0 h1 (by omega) h3 h4 ho hs2) ?_
    rintro i ⟨⟨i1, i2⟩, p1, p2⟩
    refine M.o_bind (shift1 (b := b) h0 (by omega) i2 h3 h4) ?_
    rintro l' ⟨hm, hg⟩
    refine M.o_pure ⟨hm, fun x y x1 x2 x3 => ?_⟩
    have ex := hg x (by omega)
    have ey := hg y (by omega)
    by_cases c1 : x < i - 1
    · rw [if_pos (by omega)] at ex
      by_cases c2 : y < i - 1
      · rw [if_pos (by omega)] at ey
        rw [ex, ey]
        exact hs2 _ _ (by omega) (by omega) (by omega)
      · rw [if_neg (by omega)] at ey
        by_cases c3 : y = i - 1
        · rw [if_pos c3] at ey
          rw [ex, ey]
          exact Int.le_of_lt (p1 (x + 1) (by omega) (by omega))
        · rw [if_neg c3] at ey
          rw [ex, ey]
          exact hs2 _ _ (by omega) (by omega) x3
    · rw [if_neg (by omega)] at ex
      rw [if_neg (by omega), if_neg (by omega)] at ey
      by_cases c3 : x = i - 1
      · rw [if_pos c3] at ex
        rw [ex, ey]
        exact p2 y (by omega) x3
      · rw [if_neg c3] at ex
        rw [ex, ey]
        exact hs2 x y (by omega) x2 x3
  · have hb : b - m = 1 := beq_iff_eq.1 hb2
    refine M.o_bind (find2 hc h0 (by omega) h2 h3 h4 ho hs1) ?_
    rintro i ⟨⟨i1, i2⟩, p1, p2⟩
    refine M.o_bind (shift3 (b := b) h0 i1 i2 h2 h3 h4) ?_
    rintro l' ⟨hm, hg⟩
    refine M.o_pure ⟨hm, fun x y x1 x2 x3 => ?_⟩
    have ex := hg x (by omega)
    have ey := hg y (by omega)
    by_cases c1 : y = i
    · rw [if_pos c1] at ey
      rw [if_neg (by omega), if_neg (by omega)] at ex
      rw [ex, ey]
      exact p1 x x1 (by omega)
    · rw [if_neg c1] at ey
      by_cases c2 : i < y
      · rw [if_pos (by omega)] at ey
        by_cases c3 : x = i
        · rw [if_pos c3] at ex
          rw [ex, ey]
          exact Int.le_of_lt (p2 (y - 1) (by omega) (by omega))
        · rw [if_neg c3] at ex
          by_cases c4 : i < x
          · rw [if_pos (by omega)] at ex
            rw [ex, ey]
            exact hs1 _ _ (by omega) (by omega) (by omega)
          · rw [if_neg (by omega)] at ex
            rw [ex, ey]
            by_cases c5 : x = y - 1
            · omega
            · exact hs1 _ _ (by omega) (by omega) (by omega)
      · rw [if_neg (by omega)] at ey
        rw [if_neg (by omega), if_neg (by omega)] at ex
        rw [ex, ey]
        exact hs1 x y x1 x2 (by omega)
  · have hself : ∀ (l : List Dem) (a' m' b' : Int), 0 <= a' -> a' < m' -> m' < b' -> b' - a' < b - a -> b' <= l.length -> l.length <= 1000 -> (∀ d ∈ l, ok d) -> Srt dp l a' m' -> Srt dp l m' b' -> (M.fix zan zdw (l, a', m', b', dn, tr, sp, tw, dl, dh, fl, dn, tr, sp, tw, dl, dh, fl)).Out (fun l' => Mv l l' a' b' /\ Srt dp l' a' b') :=
      fun l' a' m' b' k0 k1 k2 k3 k4 k5 k6 k7 k8 => ih (Int.toNat (b' - a')) (by omega) l' a' m' b' rfl k0 k1 k2 k4 k5 k6 k7 k8
    refine M.og2 (M.og2 (M.og2 (M.og2 (M.o_if (fun hd => ?_) (fun hd => ?_)))))
    · have hd := of_decide_eq_true hd
      exact M.og2 (j7_out hc hself h0 h1 h2 h3 h4 ho hs1 hs2 (.inl ⟨hd, rfl, rfl⟩))
    · have hd := of_decide_eq_false hd
      exact j7_out hc hself h0 h1 h2 h3 h4 ho hs1 hs2 (.inr ⟨by omega, rfl, rfl⟩)
theorem stable_out {l : List Dem} (h4 : l.length <= 1000) (ho : ∀ d ∈ l, ok d) :
    (zcQ l (l.length : Int) dn tr sp tw dl dh fl dn tr sp tw dl dh fl).Out (fun l' => Mv l l' 0 l.length /\ Srt dp l' 0 l.length) := by
  obtain ⟨n, hn⟩ : ∃ n : Int, n = l.length := ⟨_, rfl⟩
  rw [← hn]
  unfold zcQ
  refine M.o_bind (P := fun y => Mv l y.2.2 0 n /\ ∃ t : Nat, y.2.1 = (t : Int) * 20 /\ y.2.1 <= n /\ n < y.2.1 + 20 /\ ∀ t' : Nat, t' < t -> Srt dp y.2.2 ((t' : Int) * 20) ((t' : Int) * 20 + 20)) ?_ ?_
  · refine M.o_iter (fun (w : Nat) (y : List Dem × Int × Int) => w = Int.toNat (n - y.2.1) /\ y.2.2 = y.2.1 + 20 /\ Mv l y.1 0 n /\ ∃ t : Nat, y.2.1 = (t : Int) * 20 /\ y.2.1 <= n /\ ∀ t' : Nat, t' < t -> Srt dp y.1 ((t' : Int) * 20) ((t' : Int) * 20 + 20)) ?_ _ _ ⟨rfl, rfl, Mv.refl _ _ _, 0, rfl, by dsimp only; omega, fun t' h => by omega⟩
    rintro _ ⟨q, a, b⟩ ⟨rfl, e, hm, t, e2, h5, hs⟩
    dsimp only at e hm e2 h5 hs
    have ln := hm.ln
    simp only [zcD]
    refine M.o_if (fun hb => ?_) (fun hb => M.o_pure ?_)
    · have hb := of_decide_eq_true hb
      refine M.o_bind (insert_out hc (l := q) (a := a) (b := b) (by omega) (by omega) (by omega) (by omega) fun d hd => ho d (hm.pm.mem_iff.1 hd)) ?_
      rintro q' ⟨km, ks⟩
      refine M.og2 (M.o_pure ⟨Int.toNat (n - b), by omega, rfl, rfl, hm.trans (km.mono (by omega) (by omega) (by omega)), t + 1, by dsimp only; omega, hb, fun t' h => ?_⟩)
      dsimp only
      by_cases c : t' = t
      · subst c
        rw [← e2, ← e]
        exact ks
      · exact (hs t' (by omega)).same km (by omega) (.inl (by omega))
    · have hb := of_decide_eq_false hb
      exact ⟨hm, t, e2, h5, by dsimp only; omega, hs⟩
  rintro ⟨_, a, q⟩ ⟨hm, t, e2, h5, h6, hs⟩
  dsimp only at hm e2 h5 h6 hs ⊢
  have ln := hm.ln
  refine M.o_bind (insert_out hc (l := q) (a := a) (b := n) (by omega) h5 (by omega) (by omega) fun d hd => ho d (hm.pm.mem_iff.1 hd)) ?_
  rintro q1 ⟨km, ks⟩
  have hb0 : ∀ t' : Nat, ∀ i j, (t' : Int) * 20 <= i -> i < j -> j < (t' : Int) * 20 + 20 -> j < n -> dp (G q1 j) <= dp (G q1 i) := by
    intro t' i j g1 g2 g3 g4
    rcases Nat.lt_trichotomy t' t with c | c | c
    · exact ((hs t' c).same km (by omega) (.inl (by omega))) i j g1 g2 g3
    · subst c
      exact ks i j (by omega) g2 g4
    · omega
  refine M.o_bind (P := fun l' => Mv l l' 0 n /\ Srt dp l' 0 n) ?_ (fun y hy => M.o_pure hy)
  refine M.o_iter (fun (w : Nat) (y : List Dem × Int) => w = Int.toNat (n - y.2) /\ (20 <= y.2 /\ y.2 <= 2000) /\ Mv l y.1 0 n /\ ∀ t' : Nat, ∀ i j, (t' : Int) * y.2 <= i -> i < j -> j < (t' : Int) * y.2 + y.2 -> j < n -> dp (G y.1 j) <= dp (G y.1 i)) ?_ _ _ ⟨rfl, ⟨by dsimp only; omega, by dsimp only; omega⟩, hm.trans (km.mono (by omega) (by omega) (Int.le_refl _)), hb0⟩
  rintro _ ⟨q2, bs⟩ ⟨rfl, ⟨bs0, bs1⟩, hm2, hb2⟩
  dsimp only at bs0 bs1 hm2 hb2
  have ln2 := hm2.ln
  simp only [zcP]
  refine M.o_if (fun hlt => ?_) (fun hlt => M.o_pure ⟨hm2, fun i j g1 g2 g3 => ?_⟩)
  · have hlt := of_decide_eq_true hlt
    refine M.og2 ?_
    -- pairs of blocks
    refine M.o_bind (P := fun y => Mv l y.2.2 0 n /\ ∃ t : Nat, y.2.1 = 2 * ((t : Int) * bs) /\ y.2.1 <= n /\ n < y.2.1 + 2 * bs /\ (∀ t' : Nat, t' < t -> Srt dp y.2.2 (2 * ((t' : Int) * bs)) (2 * ((t' : Int) * bs) + 2 * bs)) /\ ∀ p : Nat, y.2.1 <= (p : Int) * bs -> ∀ i j, (p : Int) * bs <= i -> i < j -> j < (p : Int) * bs + bs -> j < n -> dp (G y.2.2 j) <= dp (G y.2.2 i)) ?_ ?_
    · refine M.o_iter (fun (w : Nat) (y : List Dem × Int × Int) => w = Int.toNat (n - y.2.1) /\ y.2.2 = y.2.1 + 2 * bs /\ Mv l y.1 0 n /\ ∃ t : Nat, y.2.1 = 2 * ((t : Int) * bs) /\ y.2.1 <= n /\ (∀ t' : Nat, t' < t -> Srt dp y.1 (2 * ((t' : Int) * bs)) (2 * ((t' : Int) * bs) + 2 * bs)) /\ ∀ p : Nat, y.2.1 <= (p : Int) * bs -> ∀ i j, (p : Int) * bs <= i -> i < j -> j < (p : Int) * bs + bs -> j < n -> dp (G y.1 j) <= dp (G y.1 i)) ?_ _ _ ⟨rfl, by dsimp only; omega, hm2, 0, by dsimp only; omega, by dsimp only; omega, fun t' h => by omega, fun p _ => hb2 p⟩
      rintro _ ⟨q3, a3, b3⟩ ⟨rfl, e3, hm3, t3, e4, h7, hs3, hr3⟩
      dsimp only at e3 hm3 e4 h7 hs3 hr3
      have ln3 := hm3.ln
      have f1 : ((2 * t3 : Nat) : Int) * bs = a3 := by rw [show ((2 * t3 : Nat) : Int) = 2 * (t3 : Int) by omega, Int.mul_assoc, e4]
      have f2 : ((2 * t3 + 1 : Nat) : Int) * bs = a3 + bs := by rw [show ((2 * t3 + 1 : Nat) : Int) = 2 * (t3 : Int) + 1 by omega, Int.add_mul, Int.mul_assoc, Int.one_mul, e4]
      simp only [zc0]
      have t0 : 0 <= (t3 : Int) * bs := Int.mul_nonneg (by omega) (by omega)
      refine M.o_if (fun hb => ?_) (fun hb => M.o_pure ?_)
      · have hb := of_decide_eq_true hb
        refine M.og2 (M.o_bind (sym_out hc _ q3 a3 (a3 + bs) b3 rfl (by omega) (by omega) (by omega) (by omega) (by omega) (fun d hd => ho d (hm3.pm.mem_iff.1 hd)) ?_ ?_) ?_)
        · intro i j g1 g2 g3
          exact hr3 (2 * t3) (by omega) i j (by omega) g2 (by omega) (by omega)
        · intro i j g1 g2 g3
          exact hr3 (2 * t3 + 1) (by omega) i j (by omega) g2 (by omega) (by omega)
        · rintro q4 ⟨km4, ks4⟩
          refine M.og2 (M.o_pure ⟨Int.toNat (n - b3), by omega, rfl, rfl, hm3.trans (km4.mono (by omega) (by omega) (by omega)), t3 + 1, ?_, hb, fun t' h => ?_, fun p hp i j g1 g2 g3 g4 => ?_⟩)
          · dsimp only
            rw [show ((t3 + 1 : Nat) : Int) = (t3 : Int) + 1 by omega, Int.add_mul, Int.one_mul]
            omega
          · dsimp only
            by_cases c : t' = t3
            · subst c
              rw [← e4, ← e3]
              exact ks4
            · have k1 : ((t' : Int) + 1) * bs <= (t3 : Int) * bs := Int.mul_le_mul_of_nonneg_right (by omega) (by omega)
              rw [Int.add_mul, Int.one_mul] at k1
              have k2 : 0 <= (t' : Int) * bs := Int.mul_nonneg (by omega) (by omega)
              exact (hs3 t' (by omega)).same km4 (by omega) (.inl (by omega))
          · dsimp only at hp ⊢
            rw [km4.fr i (by omega) (by omega), km4.fr j (by omega) (by omega)]
            exact hr3 p (by omega) i j g1 g2 g3 g4
      · have hb := of_decide_eq_false hb
        exact ⟨hm3, t3, e4, h7, by dsimp only; omega, hs3, hr3⟩
    rintro ⟨_, a3, q3⟩ ⟨hm3, t3, e4, h7, h8, hs3, hr3⟩
    dsimp only at hm3 e4 h7 h8 hs3 hr3 ⊢
    have ln3 := hm3.ln
    have f1 : ((2 * t3 : Nat) : Int) * bs = a3 := by rw [show ((2 * t3 : Nat) : Int) = 2 * (t3 : Int) by omega, Int.mul_assoc, e4]
    have f2 : ((2 * t3 + 1 : Nat) : Int) * bs = a3 + bs := by rw [show ((2 * t3 + 1 : Nat) : Int) = 2 * (t3 : Int) + 1 by omega, Int.add_mul, Int.mul_assoc, Int.one_mul, e4]
    have t0 : 0 <= (t3 : Int) * bs := Int.mul_nonneg (by omega) (by omega)
    have fin : ∀ q4 : List Dem, Mv q3 q4 a3 n -> Srt dp q4 a3 n -> ∀ t' : Nat, ∀ i j, (t' : Int) * (bs * 2) <= i -> i < j -> j < (t' : Int) * (bs * 2) + bs * 2 -> j < n -> dp (G q4 j) <= dp (G q4 i) := by
      intro q4 km4 ks4 t' i j g1 g2 g3 g4
      have k0 : (t' : Int) * (bs * 2) = 2 * ((t' : Int) * bs) := by rw [← Int.mul_assoc, Int.mul_comm]
      rw [k0] at g1 g3
      have k2 : 0 <= (t' : Int) * bs := Int.mul_nonneg (by omega) (by omega)
      rcases Nat.lt_trichotomy t' t3 with c | c | c
      · have k1 : ((t' : Int) + 1) * bs <= (t3 : Int) * bs := Int.mul_le_mul_of_nonneg_right (by omega) (by omega)
        rw [Int.add_mul, Int.one_mul] at k1
        exact ((hs3 t' c).same km4 (by omega) (.inl (by omega))) i j g1 g2 (by omega)
      · subst c
        exact ks4 i j (by omega) g2 g4
      · have k1 : ((t3 : Int) + 1) * bs <= (t' : Int) * bs := Int.mul_le_mul_of_nonneg_right (by omega) (by omega)
        rw [Int.add_mul, Int.one_mul] at k1
        omega
    refine M.og2 (M.o_if (fun hb => ?_) (fun hb => ?_))
    · have hb := of_decide_eq_true hb
      refine M.o_bind (sym_out hc _ q3 a3 (a3 + bs) n rfl (by omega) (by omega) hb (by omega) (by omega) (fun d hd => ho d (hm3.pm.mem_iff.1 hd)) ?_ ?_) ?_
      · intro i j g1 g2 g3
        exact hr3 (2 * t3) (by omega) i j (by omega) g2 (by omega) (by omega)
      · intro i j g1 g2 g3
        exact hr3 (2 * t3 + 1) (by omega) i j (by omega) g2 (by omega) g3
      · rintro q4 ⟨km4, ks4⟩
        exact M.og2 (M.o_pure ⟨Int.toNat (n - bs * 2), by omega, rfl, ⟨by dsimp only; omega, by dsimp only; omega⟩, hm3.trans (km4.mono (by omega) (by omega) (Int.le_refl _)), fin q4 km4 ks4⟩)
    · have hb := of_decide_eq_false hb
      refine M.og2 (M.o_pure ⟨Int.toNat (n - bs * 2), by omega, rfl, ⟨by dsimp only; omega, by dsimp only; omega⟩, hm3, fin q3 (Mv.refl _ _ _) fun i j g1 g2 g3 => ?_⟩)
      exact hr3 (2 * t3) (by omega) i j (by omega) g2 (by omega) g3
  · have hlt := of_decide_eq_false hlt
    exact hb2 0 i j (by omega) g2 (by omega) g3
theorem sort_out {l : List Dem} (h4 : l.length <= 1000) (ho : ∀ d ∈ l, ok d) :
    (zc5 l dn tr sp tw dl dh fl dn tr sp tw dl dh fl).Out (fun l' => l'.Perm l /\ Srt dp l' 0 l.length) := by
  unfold zc5
  exact M.o_bind (stable_out hc h4 ho) fun l' h => M.o_pure ⟨h.1.pm, h.2⟩
end
end Go.Proofs.YtbaehghammbjdaaGreat
namespace Go.Proofs.YtbaehghammbjdaaGreat
open Go Go.Nm
theorem awake_ends : (zcW).Ends true := ⟨300, by kernel_rfl⟩
end Go.Proofs.YtbaehghammbjdaaGreat
namespace Go.Nm
namespace Wn
/-- A river that is right. -/
structure Rv (dn : List Int) (tr : List Span) (sp : List Int) (tw : List Town) (dl dh : Int) (fl : List Flood) : Prop where
  n1 : 1 <= dn.length
  n12 : dn.length <= 12
  nx : Dn dn
  tl : tr.length = dn.length
  hr : ∀ i, i < tr.length -> 0 <= (tr.getD i default).lo /\ (tr.getD i default).lo <= (tr.getD i default).hi /\ (tr.getD i default).hi <= 1000
  s1 : 1 <= sp.length
  s8 : sp.length <= 8
  sr : sp.Pairwise (· < ·)
  si : ∀ x ∈ sp, 0 <= x /\ x < dn.length
  t8 : tw.length <= 8
  tok : ∀ t ∈ tw, (0 <= t.station /\ t.station < dn.length) /\ (0 <= t.lead /\ t.lead <= 1000) /\ 0 <= t.alarm /\ t.alarm <= 2000
  d0 : 0 <= dl
  d1 : dl <= dh
  d2 : dh <= 1000
  f20 : fl.length <= 20
  fok : ∀ f ∈ fl, f.spring ∈ sp /\ f.stages.length = (P dn f.spring).length /\ ∀ x ∈ f.stages, 0 <= x /\ x <= 2000
theorem sum_step {α : Type} (f : α -> Int) (l : List α) {i : Nat} (h : i < l.length) (d : α) : ((l.take (i + 1)).map f).sum = ((l.take i).map f).sum + f (l.getD i d) := by
  rw [List.take_succ_eq_append_getElem h, List.map_append, List.sum_append, List.map_cons, List.map_nil, List.sum_cons, List.sum_nil, Int.add_zero]
  congr 1
  rw [List.getD_eq_getElem?_getD, List.getElem?_eq_getElem h, Option.getD_some]
theorem sum_in {α : Type} (f : α -> Int) (l : List α) (hb : ∀ s ∈ l, -100000 <= f s /\ f s <= 100000) : -100000 * (l.length : Int) <= (l.map f).sum /\ (l.map f).sum <= 100000 * (l.length : Int) := by
  induction l with
  | nil => simp
  | cons a l ih =>
    have h1 := ih fun s hs => hb s (by simp [hs])
    have h2 := hb a (by simp)
    rw [List.map_cons, List.sum_cons, List.length_cons]
    omega
end Wn
end Go.Nm
namespace Go.Proofs.YtbaehghammbjdaaGreat
open Go Go.Nm
theorem added_ends (l : List Span) (hl : l.length <= 100) (hb : ∀ s ∈ l, (-100000 <= s.lo /\ s.lo <= 100000) /\ -100000 <= s.hi /\ s.hi <= 100000) : (zbT l).Ends ((l.map (·.lo)).sum, (l.map (·.hi)).sum) := by
  unfold zbT
  refine M.i_bind (a := ((l.map (·.lo)).sum, (l.map (·.hi)).sum)) ?_ M.i_pure
  refine M.Out.ends ?_
  refine M.o_for l.length (fun i (s : Int × Int × Nat) => s = (((l.take i).map (·.lo)).sum, ((l.take i).map (·.hi)).sum, i)) ?_ ?_ (by simp)
  · rintro i _ hi rfl
    simp only [zcs]
    have a1 := Wn.sum_in (fun s : Span => s.lo) (l.take i) fun s hs => (hb s (List.mem_of_mem_take hs)).1
    have a2 := Wn.sum_in (fun s : Span => s.hi) (l.take i) fun s hs => (hb s (List.mem_of_mem_take hs)).2
    rw [List.length_take] at a1 a2
    have hm : l.getD i default ∈ l := by rw [List.getD_eq_getElem?_getD, List.getElem?_eq_getElem hi, Option.getD_some]; exact List.getElem_mem hi
    have a3 := hb _ hm
    refine M.ot1 (M.og1 (M.og2 (M.og2 (M.o_pure ?_))))
    rw [Wn.sum_step (fun s : Span => s.lo) l hi default, Wn.sum_step (fun s : Span => s.hi) l hi default]
  · rintro _ rfl
    simp only [zcs]
    refine M.of1 (M.o_pure ?_)
    rw [List.take_length]
variable {dn : List Int} {tr : List Span} {sp : List Int} {tw : List Town} {dl dh : Int} {fl : List Flood}
/-- A round over a path. -/
theorem path_out {S X : Type} {bd : S -> Int × Int -> M (S ⊕ X)} {Q : S ⊕ X -> Prop} (h : Wn.Dn dn) (h12 : dn.length <= 12) {s : Int} (hs : Wn.Stn dn s) {s0 : S} (J : Nat -> S -> Prop) (h0 : J 0 s0)
    (hr : ∀ k (hk : k < (Wn.P dn s).length) t, J k t -> (bd t ((k : Int), (Wn.P dn s)[k])).Out (fun x => match x with | .inl t' => J (k + 1) t' | .inr x => Q (.inr x))) (hl : ∀ t, J (Wn.P dn s).length t -> Q (.inl t))
    (k11 : List Span) (k12 : List Int) (k13 : List Town) (k14 k15 : Int) (k16 : List Flood) : (zai (M.yl bd) (.inl s0) s dn k11 k12 k13 k14 k15 k16).Out (fun y => Q y.1) := by
  unfold zai
  refine M.o_bind (P := fun y => match y with | .inl t => Q t.1 | .inr t => Q t.1) ?_ (fun y hy => by
    cases y with
    | inl t => exact M.o_pure hy
    | inr t => exact M.o_pure hy)
  have hsh := Wn.P_short h hs
  refine M.o_for (Wn.P dn s).length (fun i (t : Int × Nat × (S ⊕ X)) => t.2.1 = i /\ (Wn.P dn t.1 = (Wn.P dn s).drop i /\ Wn.Stn dn t.1) /\ ∃ t', t.2.2 = .inl t' /\ J i t') ?_ ?_ ⟨rfl, ⟨by rw [List.drop_zero], hs⟩, s0, rfl, h0⟩
  · rintro i ⟨c, q, t⟩ hi ⟨e1, ⟨e2, e3⟩, t', e4, hj⟩
    dsimp only at e1 e2 e3 e4
    subst e1 e4
    simp only [zaP]
    have hd : (Wn.P dn s).drop q = (Wn.P dn s)[q] :: (Wn.P dn s).drop (q + 1) := List.drop_eq_getElem_cons hi
    have hc : 0 <= c /\ c < dn.length := by
      rcases e3 with rfl | e3
      · rw [Wn.P_none, hd] at e2
        cases e2
      · exact e3
    rw [Wn.P_cons h hc.1 hc.2, hd] at e2
    obtain ⟨g1, g2⟩ := List.cons.inj e2
    have hx := h.next hc.1 hc.2
    refine M.o_t (by rw [decide_eq_true hc.2]; simp; omega) ?_
    obtain ⟨x, y1, y2⟩ := hr q hi t' hj
    rw [← g1] at y1
    cases x with
    | inl s2 => exact M.o_bindE (a := (true, .inl s2)) (M.i_bind y1 M.i_pure) (M.o_f rfl (M.o_grd (gA2 hc.1 hc.2) (M.og2 (M.o_pure ⟨rfl, ⟨g2, h.next_st hc.1 hc.2⟩, s2, rfl, y2⟩))))
    | inr x2 => exact M.o_bindE (a := (false, .inr x2)) (M.i_bind y1 M.i_pure) (M.o_t rfl (M.o_pure y2))
  · rintro ⟨c, q, t⟩ ⟨e1, ⟨e2, e3⟩, t', e4, hj⟩
    dsimp only at e1 e2 e3 e4
    subst e1 e4
    simp only [zaP]
    rw [List.drop_length] at e2
    have hc : c = -1 := by
      rcases e3 with e3 | e3
      · exact e3
      · rw [Wn.P_cons h e3.1 e3.2] at e2
        cases e2
    subst hc
    exact M.o_f (by simp) (M.o_pure (hl t' hj))
theorem travels_ends (R : Wn.Rv dn tr sp tw dl dh fl) {s : Int} (hs : Wn.Stn dn s) (y : Int) :
    (za2 dn tr sp tw dl dh fl s y).Ends (if y ∈ Wn.P dn s then (Wn.sm (Wn.lo tr) (Wn.upto (Wn.P dn s) y), Wn.sm (Wn.hi tr) (Wn.upto (Wn.P dn s) y), true) else (0, 0, false)) := by
  refine M.Out.ends ?_
  unfold za2
  have hp : (zam dn tr sp tw dl dh fl s).Ends (s, dl, dh) := M.i_pure
  refine M.o_bindE hp ?_
  dsimp only
  have h12 := R.n12
  have hsh := Wn.P_short R.nx hs
  refine M.o_bind (path_out (Q := fun x => match x with | .inl _ => y ∉ Wn.P dn s | .inr (_, _, a, b) => y ∈ Wn.P dn s /\ a = Wn.sm (Wn.lo tr) (Wn.upto (Wn.P dn s) y) /\ b = Wn.sm (Wn.hi tr) (Wn.upto (Wn.P dn s) y)) R.nx R.n12 hs
    (fun k (l : List Span) => l = ((Wn.P dn s).take k).map (fun x => tr.getD (Int.toNat x) default) /\ y ∉ (Wn.P dn s).take k) ⟨by simp, by simp⟩ ?_ ?_ _ _ _ _ _ _) ?_
  · rintro k hk l ⟨rfl, hn⟩
    have hin := Wn.P_mem R.nx s hs _ (List.getElem_mem hk)
    have htl := R.tl
    simp only [zaY]
    refine M.o_if (fun hb => ?_) (fun hb => ?_)
    · have hb : (Wn.P dn s)[k] = y := by simpa using hb
      refine M.o_bindE (added_ends _ (by rw [List.length_map, List.length_take]; omega) fun sp_ hsp => ?_) (M.o_pure ?_)
      · obtain ⟨x, hx, rfl⟩ := List.mem_map.1 hsp
        have h1 := Wn.P_mem R.nx s hs x (List.mem_of_mem_take hx)
        have h2 := R.hr (Int.toNat x) (by omega)
        omega
      · have hu : Wn.upto (Wn.P dn s) y = (Wn.P dn s).take k := Wn.upto_take (by rw [List.getElem?_eq_getElem hk, hb]) fun z hz e => hn (by rw [← e]; exact hz)
        dsimp only
        rw [hu]
        refine ⟨by rw [← hb]; exact List.getElem_mem hk, ?_, ?_⟩
        · unfold Wn.sm
          rw [List.map_map]
          rfl
        · unfold Wn.sm
          rw [List.map_map]
          rfl
    · have hb : (Wn.P dn s)[k] ≠ y := by simpa using hb
      refine M.og2 (M.o_grdD (by simp; omega) (M.o_pure ⟨?_, ?_⟩))
      · rw [List.take_succ_eq_append_getElem hk, List.map_append]
        rfl
      · rw [List.take_succ_eq_append_getElem hk, List.mem_append]
        rintro (h1 | h1)
        · exact hn h1
        · exact hb (List.mem_singleton.1 h1).symm
  · rintro l ⟨_, hn⟩
    rw [List.take_length] at hn
    exact hn
  · rintro ⟨x, q⟩ hq
    cases x with
    | inl l =>
      dsimp only at hq ⊢
      refine M.o_pure ?_
      rw [if_neg hq]
    | inr z =>
      obtain ⟨l2, l3, a, b⟩ := z
      dsimp only at hq ⊢
      refine M.o_pure ?_
      rw [if_pos hq.1, hq.2.1, hq.2.2]
theorem in_ends (n a b : Int) : (zac n a b).Ends (decide (a <= n) && decide (n <= b)) := M.i_pure
theorem in_true {n a b : Int} (h1 : a <= n) (h2 : n <= b) : (zac n a b).Ends true := by
  have := in_ends n a b
  rwa [gA2 h1 h2] at this
theorem hours_true {s : Span} (h0 : 0 <= s.lo) (h1 : s.lo <= s.hi) (h2 : s.hi <= 1000) : (zaK s).Ends true := by
  unfold zaK
  exact M.i_bind (in_true h0 h1) (M.i_bind (M.i_opt (fun _ => in_true (by omega) h2) (fun h => by cases h)) M.i_pure)
theorem stage_true {n : Int} (h0 : 0 <= n) (h1 : n <= 2000) : (zaC n).Ends true := by
  unfold zaC
  exact M.i_bind (in_true h0 h1) M.i_pure
theorem every_town (l : List Town) (so : Town -> M Bool) (h : ∀ t ∈ l, (so t).Ends true) : (za6 l so).Ends true := by
  unfold za6 zbG zcZ
  refine M.i_bind (a := false) (M.i_bind (a := -1) (M.i_bind (a := (.inr () : Int ⊕ Unit)) ?_ M.i_pure) M.i_pure) M.i_pure
  refine M.i_for (fun i => i) l.length (fun i hi => ?_) ?_
  · simp only [zaI]
    have hm : l.getD i default ∈ l := by rw [List.getD_eq_getElem?_getD, List.getElem?_eq_getElem hi, Option.getD_some]; exact List.getElem_mem hi
    refine M.it1 (M.ig1 (M.i_bind (a := false) ?_ (M.i_f rfl M.i_pure)))
    unfold zcc
    exact M.i_bind (h _ hm) M.i_pure
  · simp only [zaI]
    exact M.if1 M.i_pure
theorem every_int (l : List Int) (so : Int -> M Bool) (h : ∀ t ∈ l, (so t).Ends true) : (za7 l so).Ends true := by
  unfold za7 zau zb4
  refine M.i_bind (a := false) (M.i_bind (a := -1) (M.i_bind (a := (.inr () : Int ⊕ Unit)) ?_ M.i_pure) M.i_pure) M.i_pure
  refine M.i_for (fun i => i) l.length (fun i hi => ?_) ?_
  · simp only [zav]
    have hm : l.getD i 0 ∈ l := by rw [List.getD_eq_getElem?_getD, List.getElem?_eq_getElem hi, Option.getD_some]; exact List.getElem_mem hi
    refine M.it1 (M.ig1 (M.i_bind (a := false) ?_ (M.i_f rfl M.i_pure)))
    unfold zcf
    exact M.i_bind (h _ hm) M.i_pure
  · simp only [zav]
    exact M.if1 M.i_pure
theorem contains_true {s : List Int} {v : Int} (h : v ∈ s) : (zbE s v).Ends true := by
  unfold zbE zct
  have key : (M.iter (zaL s v) 0).Out (fun r => match r with | .inl i => 0 <= i | .inr (_ : Unit) => False) := by
    refine M.o_for s.length (fun i (k : Nat) => k = i /\ ∀ j, j < i -> s.getD j 0 ≠ v) ?_ ?_ ⟨rfl, fun j hj => by omega⟩
    · rintro i _ hi ⟨rfl, hp⟩
      simp only [zaL]
      refine M.ot1 (M.og1 (M.o_if (fun hb => M.o_pure (by omega)) (fun hb => M.o_pure ⟨rfl, fun j hj => ?_⟩)))
      rcases Nat.lt_or_eq_of_le (Nat.le_of_lt_succ hj) with e | e
      · exact hp j e
      · subst e
        exact fun e => (beq_eq_false_iff_ne.1 hb) e.symm
    · rintro _ ⟨rfl, hp⟩
      exfalso
      obtain ⟨i, hi, e⟩ := List.getElem_of_mem h
      have := hp i hi
      rw [List.getD_eq_getElem?_getD, List.getElem?_eq_getElem hi, Option.getD_some] at this
      exact this e
  obtain ⟨r, h1, h2⟩ := key
  cases r with
  | inl i => exact M.i_bind (M.i_bind h1 M.i_pure) (by rw [decide_eq_true h2]; exact M.i_pure)
  | inr u => exact h2.elim
theorem rising_true {l : List Int} {n : Int} (hn : 0 <= n /\ n <= 1000) (hu : l.Pairwise (· < ·)) (hb : ∀ x ∈ l, 0 <= x /\ x < n) : (zaA l n).Ends true := by
  unfold zaA
  refine M.i_bind (a := (.inr () : Unit ⊕ Unit)) ?_ M.i_pure
  refine M.Out.ends ?_
  refine M.o_for l.length (fun i (s : Int × Nat) => s.2 = i /\ -1 <= s.1 /\ s.1 < 1000 /\ ∀ j, i <= j -> j < l.length -> s.1 < l.getD j 0) ?_ ?_ ⟨rfl, by decide, by decide, fun j _ hj => ?_⟩
  · rintro i ⟨a, q⟩ hi ⟨e1, e2, e3, e4⟩
    dsimp only at e1 e2 e3 e4
    subst e1
    simp only [zaV]
    have hm : l.getD q 0 ∈ l := by rw [List.getD_eq_getElem?_getD, List.getElem?_eq_getElem hi, Option.getD_some]; exact List.getElem_mem hi
    have h1 := hb _ hm
    have h2 := e4 q (Nat.le_refl _) hi
    refine M.ot1 (M.og1 (M.og2 (M.og2 (M.o_bindE (in_true (by omega) (by omega)) (M.o_f rfl (M.o_pure ⟨rfl, by dsimp only; omega, by dsimp only; omega, fun j h3 h4 => ?_⟩))))))
    have := List.pairwise_iff_getElem.1 hu q j hi h4 (by omega)
    dsimp only
    rw [List.getD_eq_getElem?_getD, List.getElem?_eq_getElem hi, Option.getD_some, List.getD_eq_getElem?_getD, List.getElem?_eq_getElem h4, Option.getD_some]
    exact this
  · rintro ⟨a, q⟩ ⟨e1, _⟩
    dsimp only at e1
    subst e1
    simp only [zaV]
    exact M.of1 (M.o_pure rfl)
  · have hm : l.getD j 0 ∈ l := by rw [List.getD_eq_getElem?_getD, List.getElem?_eq_getElem hj, Option.getD_some]; exact List.getElem_mem hj
    have := hb _ hm
    dsimp only
    omega
theorem check_ends (R : Wn.Rv dn tr sp tw dl dh fl) : (zay dn tr sp tw dl dh fl).Ends 0 := by
  have n1 := R.n1
  have n12 := R.n12
  have tl := R.tl
  have s1 := R.s1
  have s8 := R.s8
  have t8 := R.t8
  have f20 := R.f20
  unfold zay
  refine M.i_bind (in_true (by omega) (by omega)) (M.i_bind (M.i_opt (fun _ => in_true (by omega) (by omega)) (fun h => by simp [tl] at h)) (M.i_f ?_ ?_))
  · rw [decide_eq_false (by omega), decide_eq_false (by omega), tl]
    simp
  refine M.i_bind (a := (.inr () : Int ⊕ Unit)) ?_ ?_
  · refine M.i_for (fun i => i) dn.length (fun i hi => ?_) ?_
    · simp only [zaG]
      have h1 := R.nx i hi
      have h2 := R.hr i (by omega)
      refine M.it1 (M.ig1 ?_)
      by_cases e : dn.getD i 0 = -1
      · refine M.i_bind (a := false) (M.i_opt (fun h => by rw [e] at h; cases h) (fun _ => rfl)) (M.i_f (by rw [e]; rfl) (M.ig1 (M.i_bind (hours_true h2.1 h2.2.1 h2.2.2) (M.i_f rfl M.i_pure))))
      · refine M.i_bind (a := true) (M.i_opt (fun _ => in_true (by omega) (by omega)) (fun h => absurd (bne_eq_false_iff_eq.1 h) e)) (M.i_f (by simp) (M.ig1 (M.i_bind (hours_true h2.1 h2.2.1 h2.2.2) (M.i_f rfl M.i_pure))))
    · simp only [zaG]
      exact M.if1 M.i_pure
  dsimp only
  refine M.i_bind (rising_true (by omega) R.sr R.si) (M.i_f rfl ?_)
  refine M.i_bind (every_town tw _ fun t ht => ?_) (M.i_bind (a := true) (M.i_opt (fun _ => every_town tw _ fun t ht => ?_) (fun h => by cases h)) (M.i_bind (a := true) (M.i_opt (fun _ => hours_true R.d0 R.d1 R.d2) (fun h => by cases h)) (M.i_f rfl ?_)))
  · have k := R.tok t ht
    unfold zaQ
    exact M.i_bind (in_true k.2.1.1 k.2.1.2) (M.i_bind (M.i_opt (fun _ => stage_true k.2.2.1 k.2.2.2) (fun h => by cases h)) M.i_pure)
  · have k := R.tok t ht
    unfold zaU
    exact M.ig2 (M.i_bind (in_true k.1.1 (by omega)) M.i_pure)
  refine M.i_bind (a := (.inr () : Int ⊕ Unit)) ?_ M.i_pure
  refine M.Out.ends ?_
  refine M.o_for fl.length (fun i (k : Nat) => k = i) ?_ ?_ rfl
  · rintro _ i hi rfl
    simp only [zaB]
    have hm : fl.getD i default ∈ fl := by rw [List.getD_eq_getElem?_getD, List.getElem?_eq_getElem hi, Option.getD_some]; exact List.getElem_mem hi
    obtain ⟨k1, k2, k3⟩ := R.fok _ hm
    have hs := R.si _ k1
    have hst : Wn.Stn dn (fl.getD i default).spring := .inr hs
    have hsh := Wn.P_short R.nx hst
    have hp : (zam dn tr sp tw dl dh fl (max 0 (fl.getD i default).spring)).Ends ((fl.getD i default).spring, dl, dh) := by
      rw [show max 0 (fl.getD i default).spring = (fl.getD i default).spring by omega]
      exact M.i_pure
    refine M.ot1 (M.og1 (M.o_bindE hp ?_))
    dsimp only
    refine M.o_bind (path_out (Q := fun x => x = (.inl ((Wn.P dn (fl.getD i default).spring).length : Int) : Int ⊕ Unit)) R.nx R.n12 hst (fun k (c : Int) => c = (k : Int)) rfl ?_ ?_ _ _ _ _ _ _) ?_
    · rintro k hk _ rfl
      simp only [zaw]
      exact M.og2 (M.o_pure (by omega))
    · rintro _ rfl
      rfl
    · rintro ⟨x, q⟩ hq
      dsimp only at hq
      subst hq
      dsimp only
      refine M.o_bindE (contains_true k1) (M.o_f (by rw [k2]; simp) (M.o_bindE (every_int _ _ fun x hx => stage_true (k3 x hx).1 (k3 x hx).2) (M.o_f rfl (M.o_pure rfl))))
  · rintro _ rfl
    simp only [zaB]
    exact M.of1 (M.o_pure rfl)
theorem opened_ends (R : Wn.Rv dn tr sp tw dl dh fl) : (zak dn tr sp tw dl dh fl).Ends (.inr (dl, dh, 0)) := by
  unfold zak
  exact M.i_bind (check_ends R) (M.i_f rfl M.i_pure)
end Go.Proofs.YtbaehghammbjdaaGreat
namespace Go.Nm
namespace Wn
def stn (tw : List Town) (d : Dem) : Int := (tw.getD (Int.toNat d.town) default).station
def led (tw : List Town) (d : Dem) : Int := (tw.getD (Int.toNat d.town) default).lead
def meetB (dn : List Int) (tr : List Span) (tw : List Town) (dh : Int) (d : Dem) (s : Int) : Bool := decide (stn tw d ∈ P dn s) && decide (led tw d + dh <= sm (lo tr) (upto (P dn s) (stn tw d)))
/-- The stretch of a demand. -/
def Sd (dn : List Int) (tr : List Span) (tw : List Town) (dh : Int) (d : Dem) : List Int := (P dn d.spring).filter (meetB dn tr tw dh d)
def OkD (dn : List Int) (tw : List Town) (d : Dem) : Prop := (0 <= d.spring /\ d.spring < dn.length) /\ 0 <= d.town /\ d.town < tw.length
def lst (dn : List Int) (tr : List Span) (tw : List Town) (dh : Int) (d : Dem) : Int := (Sd dn tr tw dh d).getD ((Sd dn tr tw dh d).length - 1) 0
def deepD (dn : List Int) (tr : List Span) (tw : List Town) (dh : Int) (d : Dem) : Int := ((P dn (lst dn tr tw dh d)).length : Int)
variable {dn : List Int} {tr : List Span} {tw : List Town} {dh : Int}
theorem mem_Sd {d : Dem} {s : Int} : s ∈ Sd dn tr tw dh d ↔ s ∈ P dn d.spring /\ stn tw d ∈ P dn s /\ led tw d + dh <= sm (lo tr) (upto (P dn s) (stn tw d)) := by
  unfold Sd meetB
  rw [List.mem_filter, Bool.and_eq_true, decide_eq_true_eq, decide_eq_true_eq]
theorem lst_mem {d : Dem} (h : Sd dn tr tw dh d ≠ []) : lst dn tr tw dh d ∈ Sd dn tr tw dh d := by
  have : 0 < (Sd dn tr tw dh d).length := List.length_pos_iff.2 h
  unfold lst
  rw [getD_el _ (by omega)]
  exact List.getElem_mem _
theorem lst_max (hD : Dn dn) {d : Dem} (hs : Stn dn d.spring) {x : Int} (hx : x ∈ Sd dn tr tw dh d) : x <= lst dn tr tw dh d := by
  have hu : (Sd dn tr tw dh d).Pairwise (· < ·) := (P_up hD _ hs).sublist List.filter_sublist
  obtain ⟨i, hi, rfl⟩ := List.getElem_of_mem hx
  unfold lst
  rw [getD_el _ (by omega)]
  rcases Nat.lt_or_eq_of_le (show i <= (Sd dn tr tw dh d).length - 1 by omega) with g | g
  · exact Int.le_of_lt (List.pairwise_iff_getElem.1 hu i _ hi (by omega) g)
  · simp only [← g]
    exact Int.le_refl _
/-- Of two stations of a path the further one is on the path of the other. -/
theorem P_fwd (hD : Dn dn) {x a b : Int} (hx : Stn dn x) (ha : a ∈ P dn x) (hb : b ∈ P dn x) (hab : a <= b) : b ∈ P dn a := by
  have e := P_split hD hx ha
  have hu := P_up hD x hx
  rw [e] at hb hu
  rw [List.pairwise_append] at hu
  rcases List.mem_append.1 hb with h | h
  · have hA := P_mem hD x hx a ha
    have := hu.2.2 b h a (P_self hD hA.2.1 hA.2.2)
    omega
  · exact h
theorem P_len_lt (hD : Dn dn) {a b : Int} (ha : 0 <= a /\ a < dn.length) (hb : b ∈ P dn a) (hne : a ≠ b) : (P dn b).length < (P dn a).length := by
  have e := P_split hD (.inr ha) hb
  have : upto (P dn a) b ≠ [] := by
    rw [P_cons hD ha.1 ha.2]
    unfold upto
    rw [List.takeWhile_cons, if_pos (by simp [hne])]
    simp
  have := List.length_pos_iff.2 this
  have := congrArg List.length e
  rw [List.length_append] at this
  omega
/-- A stretch that leads down to a later demand's meets it. -/
theorem cross (hD : Dn dn) (hlo : ∀ x : Int, 0 <= x -> x < (dn.length : Int) -> 0 <= lo tr x /\ lo tr x <= 1000) {a b : Dem} (ha : OkD dn tw a) (hb : OkD dn tw b) (na : Sd dn tr tw dh a ≠ []) (nb : Sd dn tr tw dh b ≠ []) (hd : deepD dn tr tw dh b <= deepD dn tr tw dh a)
    {x : Int} (xa : x ∈ Sd dn tr tw dh a) (xb : x ∈ Sd dn tr tw dh b) : lst dn tr tw dh a ∈ Sd dn tr tw dh b := by
  have la := lst_mem na
  have lb := lst_mem nb
  have ma := lst_max hD (.inr ha.1) xa
  have mb := lst_max hD (.inr hb.1) xb
  obtain ⟨xa1, _, _⟩ := mem_Sd.1 xa
  obtain ⟨xb1, _, _⟩ := mem_Sd.1 xb
  obtain ⟨la1, _, _⟩ := mem_Sd.1 la
  obtain ⟨lb1, lb2, lb3⟩ := mem_Sd.1 lb
  have xr := P_mem hD _ (.inr ha.1) x xa1
  have hA : lst dn tr tw dh a ∈ P dn x := P_fwd hD (.inr ha.1) xa1 la1 ma
  have hB : lst dn tr tw dh b ∈ P dn x := P_fwd hD (.inr hb.1) xb1 lb1 mb
  have rA := P_mem hD _ (.inr xr.2) _ hA
  have rB := P_mem hD _ (.inr xr.2) _ hB
  have hAB : lst dn tr tw dh a <= lst dn tr tw dh b := by
    rcases Int.lt_or_le (lst dn tr tw dh b) (lst dn tr tw dh a) with g | g
    · have h1 := P_fwd hD (.inr xr.2) hB hA (by omega)
      have h2 := P_len_lt hD rB.2 h1 (by omega)
      unfold deepD at hd
      omega
    · exact g
  have hC := P_fwd hD (.inr xr.2) hA hB hAB
  obtain ⟨c1, c2⟩ := upto_trans hD (.inr rA.2) hC lb2
  refine mem_Sd.2 ⟨(upto_trans hD (.inr hb.1) xb1 hA).1, c1, ?_⟩
  rw [c2, sm_app]
  have := sm_bound (lo tr) (upto (P dn (lst dn tr tw dh a)) (lst dn tr tw dh b)) fun w hw => by
    have h1 := P_mem hD _ (.inr rA.2) w (upto_mem hw).1
    exact hlo w h1.2.1 h1.2.2
  omega
/-- Demands whose stretches have no station in common. -/
def Dj (dn : List Int) (tr : List Span) (tw : List Town) (dh : Int) (a b : Dem) : Prop := ∀ x ∈ Sd dn tr tw dh a, x ∉ Sd dn tr tw dh b
theorem dj_few : ∀ {l : List Dem} {W : List Int}, l.Pairwise (Dj dn tr tw dh) -> (∀ d ∈ l, ∃ s ∈ Sd dn tr tw dh d, s ∈ W) -> l.length <= W.length
  | [], _, _, _ => Nat.zero_le _
  | d :: l, W, h, hc => by
    rw [List.pairwise_cons] at h
    obtain ⟨s, s1, s2⟩ := hc d (by simp)
    have := dj_few (l := l) (W := W.erase s) h.2 fun e he => by
      obtain ⟨t, t1, t2⟩ := hc e (by simp [he])
      refine ⟨t, t1, (List.mem_erase_of_ne ?_).2 t2⟩
      rintro rfl
      exact h.1 e he _ s1 t1
    rw [List.length_erase_of_mem s2] at this
    have := List.length_pos_of_mem s2
    rw [List.length_cons]
    omega
/-- The fewest watches, and demands that prove it. -/
structure Few (dn : List Int) (tr : List Span) (tw : List Town) (dh : Int) (D : List Dem) (ws : List Int) (ap : List Dem) : Prop where
  up : ws.Pairwise (· < ·)
  bd : ∀ x ∈ ws, 0 <= x /\ x < (dn.length : Int)
  ln : ap.length = ws.length
  sub : ∀ a ∈ ap, a ∈ D
  mem : ∀ x, x ∈ ws ↔ ∃ a ∈ ap, x = lst dn tr tw dh a
  dj : ap.Pairwise (Dj dn tr tw dh)
  cov : ∀ d ∈ D, ∃ s ∈ Sd dn tr tw dh d, s ∈ ws
end Wn
end Go.Nm
namespace Go.Proofs.YtbaehghammbjdaaGreat
open Go Go.Nm
variable {dn : List Int} {tr : List Span} {sp : List Int} {tw : List Town} {dl dh : Int} {fl : List Flood}
theorem dem_town (R : Wn.Rv dn tr sp tw dl dh fl) {d : Dem} (hd : Wn.OkD dn tw d) : (0 <= Wn.stn tw d /\ Wn.stn tw d < (dn.length : Int)) /\ 0 <= Wn.led tw d /\ Wn.led tw d <= 1000 := by
  have h2 := hd.2
  have hm : tw.getD (Int.toNat d.town) default ∈ tw := by rw [getD_el tw (by omega)]; exact List.getElem_mem _
  have := R.tok _ hm
  unfold Wn.stn Wn.led
  omega
theorem lo_small (R : Wn.Rv dn tr sp tw dl dh fl) : ∀ x : Int, 0 <= x -> x < (dn.length : Int) -> 0 <= Wn.lo tr x /\ Wn.lo tr x <= 1000 := fun x h0 h1 => by
  have := R.hr (Int.toNat x) (by have := R.tl; omega)
  unfold Wn.lo
  omega
theorem stretch_ends (R : Wn.Rv dn tr sp tw dl dh fl) {d : Dem} (hd : Wn.OkD dn tw d) : (zaa dn tr sp tw dl dh fl d).Ends (Wn.Sd dn tr tw dh d) := by
  refine M.Out.ends ?_
  unfold zaa
  have hp : (zam dn tr sp tw dl dh fl d.spring).Ends (d.spring, dl, dh) := M.i_pure
  have hst : Wn.Stn dn d.spring := .inr hd.1
  have h12 := R.n12
  have hsh := Wn.P_short R.nx hst
  have ht := dem_town R hd
  have d0 := R.d0
  have d1 := R.d1
  have d2 := R.d2
  refine M.o_grd (gA2 hd.2.1 hd.2.2) (M.o_bindE hp ?_)
  dsimp only
  refine M.o_bind (path_out (Q := fun x => x = (.inl (Wn.Sd dn tr tw dh d) : List Int ⊕ Unit)) R.nx R.n12 hst (fun k (l : List Int) => l = ((Wn.P dn d.spring).take k).filter (Wn.meetB dn tr tw dh d)) (by simp) ?_ ?_ _ _ _ _ _ _) ?_
  · rintro k hk _ rfl
    have hm := Wn.P_mem R.nx _ hst _ (List.getElem_mem hk)
    have A := travels_ends R (.inr hm.2) (Wn.stn tw d)
    have hl : (((Wn.P dn d.spring).take k).filter (Wn.meetB dn tr tw dh d)).length <= 12 := by
      have := List.length_filter_le (Wn.meetB dn tr tw dh d) ((Wn.P dn d.spring).take k)
      rw [List.length_take] at this
      omega
    have hn : ((Wn.P dn d.spring).take (k + 1)).filter (Wn.meetB dn tr tw dh d) = ((Wn.P dn d.spring).take k).filter (Wn.meetB dn tr tw dh d) ++ if Wn.meetB dn tr tw dh d (Wn.P dn d.spring)[k] = true then [(Wn.P dn d.spring)[k]] else [] := by
      rw [List.take_succ_eq_append_getElem hk, List.filter_append]
      congr 1
      by_cases e : Wn.meetB dn tr tw dh d (Wn.P dn d.spring)[k] = true
      · rw [if_pos e, List.filter_cons_of_pos e]; rfl
      · rw [if_neg e, List.filter_cons_of_neg e]; rfl
    simp only [zaT]
    rw [hn]
    unfold Wn.stn at A
    by_cases hy : (tw.getD (Int.toNat d.town) default).station ∈ Wn.P dn (Wn.P dn d.spring)[k]
    · rw [if_pos hy] at A
      refine M.o_bindE A ?_
      dsimp only
      refine M.o_grd (gOr2 (by unfold Wn.led at ht; omega) (by unfold Wn.led at ht; omega)) (M.o_if (fun hb => M.o_grdD (by simp; omega) (M.o_pure ?_)) (fun hb => M.o_pure ?_))
      · dsimp only
        rw [if_pos]
        unfold Wn.meetB Wn.stn Wn.led
        rw [decide_eq_true hy]
        exact hb
      · dsimp only
        rw [if_neg, List.append_nil]
        unfold Wn.meetB Wn.stn Wn.led
        rw [decide_eq_true hy]
        rw [hb]
        exact Bool.false_ne_true
    · rw [if_neg hy] at A
      refine M.o_bindE A ?_
      dsimp only
      refine M.o_grd rfl (M.o_f rfl (M.o_pure ?_))
      dsimp only
      rw [if_neg, List.append_nil]
      unfold Wn.meetB Wn.stn
      rw [decide_eq_false hy]
      exact Bool.false_ne_true
  · rintro _ rfl
    rw [List.take_length]
    rfl
  · rintro ⟨x, q⟩ hq
    dsimp only at hq
    subst hq
    exact M.o_pure rfl
theorem demands_is (R : Wn.Rv dn tr sp tw dl dh fl) : ∃ D, (zao dn tr sp tw dl dh fl).Ends D /\ D.length <= 64 /\ ∀ d, d ∈ D ↔ d.spring ∈ sp /\ (0 <= d.town /\ d.town < (tw.length : Int)) /\ Wn.stn tw d ∈ Wn.P dn d.spring := by
  have t8 := R.t8
  have s8 := R.s8
  suffices h : (zao dn tr sp tw dl dh fl).Out (fun l => l.length <= 64 /\ ∀ d, d ∈ l ↔ d.spring ∈ sp /\ (0 <= d.town /\ d.town < (tw.length : Int)) /\ Wn.stn tw d ∈ Wn.P dn d.spring) by
    obtain ⟨D, h1, h2⟩ := h
    exact ⟨D, h1, h2⟩
  unfold zao
  refine M.o_bind (P := fun y => y.2.length <= 64 /\ ∀ d, d ∈ y.2 ↔ d.spring ∈ sp /\ (0 <= d.town /\ d.town < (tw.length : Int)) /\ Wn.stn tw d ∈ Wn.P dn d.spring) ?_ (fun y hy => M.o_pure hy)
  refine M.o_for sp.length (fun i (t : Nat × List Dem) => t.1 = i /\ t.2.length <= 8 * i /\ ∀ d, d ∈ t.2 ↔ d.spring ∈ sp.take i /\ (0 <= d.town /\ d.town < (tw.length : Int)) /\ Wn.stn tw d ∈ Wn.P dn d.spring) ?_ ?_ ⟨rfl, by simp, fun d => by simp⟩
  · rintro _ ⟨i, l⟩ hi ⟨rfl, h1, h2⟩
    dsimp only at hi h1 h2
    simp only [zaW]
    have hsp := R.si (sp.getD i 0) (by rw [getD_el sp hi]; exact List.getElem_mem hi)
    refine M.ot1 (M.og1 (M.o_bind (P := fun y => y.2.length <= 8 * i + 8 /\ ∀ d, d ∈ y.2 ↔ d ∈ l ∨ d.spring = sp.getD i 0 /\ (0 <= d.town /\ d.town < (tw.length : Int)) /\ Wn.stn tw d ∈ Wn.P dn d.spring) ?_ (fun y hy => M.o_pure ⟨rfl, by dsimp only; omega, fun d => ?_⟩)))
    · refine M.o_for tw.length (fun k (t : Nat × List Dem) => t.1 = k /\ t.2.length <= 8 * i + k /\ ∀ d, d ∈ t.2 ↔ d ∈ l ∨ d.spring = sp.getD i 0 /\ (0 <= d.town /\ d.town < (k : Int)) /\ Wn.stn tw d ∈ Wn.P dn d.spring) ?_ ?_ ⟨rfl, h1, fun d => ⟨fun h => .inl h, fun h => h.resolve_right fun h => by omega⟩⟩
      · rintro _ ⟨k, l4⟩ hk ⟨rfl, g1, g2⟩
        dsimp only at hk g1 g2
        simp only [za8]
        refine M.ot1 (M.og1 (M.o_bindE (travels_ends R (.inr hsp) _) ?_))
        have ek : Wn.stn tw ⟨sp.getD i 0, (k : Int)⟩ = (tw.getD k default).station := rfl
        have key : ∀ d : Dem, d.spring = sp.getD i 0 -> d.town = (k : Int) -> d = ⟨sp.getD i 0, (k : Int)⟩ := fun d e1 e2 => by
          cases d
          dsimp only at e1 e2
          rw [e1, e2]
        by_cases hy : (tw.getD k default).station ∈ Wn.P dn (sp.getD i 0)
        · rw [if_pos hy]
          dsimp only
          refine M.o_t rfl (M.o_grdD (by simp; omega) (M.o_pure ⟨rfl, by dsimp only; simp; omega, fun d => ?_⟩))
          dsimp only
          rw [List.mem_append, List.mem_singleton, g2 d]
          constructor
          · rintro ((h | h) | rfl)
            · exact .inl h
            · exact .inr ⟨h.1, by omega, h.2.2⟩
            · exact .inr ⟨rfl, by dsimp only; omega, by rw [ek]; exact hy⟩
          · rintro (h | ⟨e1, e2, e3⟩)
            · exact .inl (.inl h)
            · by_cases c : d.town = (k : Int)
              · exact .inr (key d e1 c)
              · exact .inl (.inr ⟨e1, by omega, e3⟩)
        · rw [if_neg hy]
          dsimp only
          refine M.o_f rfl (M.o_pure ⟨rfl, by dsimp only; omega, fun d => ?_⟩)
          dsimp only
          rw [g2 d]
          constructor
          · rintro (h | h)
            · exact .inl h
            · exact .inr ⟨h.1, by omega, h.2.2⟩
          · rintro (h | ⟨e1, e2, e3⟩)
            · exact .inl h
            · by_cases c : d.town = (k : Int)
              · rw [key d e1 c] at e3
                exact absurd e3 hy
              · exact .inr ⟨e1, by omega, e3⟩
      · rintro ⟨k, l4⟩ ⟨e, g1, g2⟩
        dsimp only at e g1 g2
        subst e
        simp only [za8]
        exact M.of1 (M.o_pure ⟨by dsimp only; omega, g2⟩)
    · dsimp only
      rw [hy.2 d, h2 d, List.take_succ_eq_append_getElem hi, List.mem_append, List.mem_singleton, ← getD_el sp hi 0]
      constructor
      · rintro (h | h)
        · exact ⟨.inl h.1, h.2⟩
        · exact ⟨.inr h.1, h.2⟩
      · rintro ⟨h | h, h'⟩
        · exact .inl ⟨h, h'⟩
        · exact .inr ⟨h, h'⟩
  · rintro ⟨i, l⟩ ⟨e, h1, h2⟩
    dsimp only at e h1 h2
    subst e
    rw [List.take_length] at h2
    simp only [zaW]
    exact M.of1 (M.o_pure ⟨by dsimp only; omega, h2⟩)
theorem deep_ends (R : Wn.Rv dn tr sp tw dl dh fl) {d : Dem} (hd : Wn.OkD dn tw d) (hn : Wn.Sd dn tr tw dh d ≠ []) : (zbo d dn tr sp tw dl dh fl dn tr sp tw dl dh fl).Ends (Wn.deepD dn tr tw dh d) := by
  refine M.Out.ends ?_
  unfold zbo
  have hlen : 0 < (Wn.Sd dn tr tw dh d).length := List.length_pos_iff.2 hn
  have e : (Wn.Sd dn tr tw dh d).getD (Int.toNat (((Wn.Sd dn tr tw dh d).length : Int) - 1)) 0 = Wn.lst dn tr tw dh d := by
    unfold Wn.lst
    congr 1
    omega
  have hl := Wn.lst_mem hn
  have hm := Wn.P_mem R.nx _ (.inr hd.1) _ (Wn.mem_Sd.1 hl).1
  have hst : Wn.Stn dn (Wn.lst dn tr tw dh d) := .inr hm.2
  have hsh := Wn.P_short R.nx hst
  have h12 := R.n12
  have hp : (zam dn tr sp tw dl dh fl (Wn.lst dn tr tw dh d)).Ends (Wn.lst dn tr tw dh d, dl, dh) := M.i_pure
  refine M.o_bindE (stretch_ends R hd) (M.og2 ?_)
  rw [e]
  refine M.o_bindE hp ?_
  dsimp only
  refine M.o_bind (path_out (Q := fun x => x = (.inl ((Wn.P dn (Wn.lst dn tr tw dh d)).length : Int) : Int ⊕ Unit)) R.nx R.n12 hst (fun k (c : Int) => c = (k : Int)) rfl ?_ ?_ _ _ _ _ _ _) ?_
  · rintro k hk _ rfl
    simp only [zaZ]
    exact M.og2 (M.o_pure (by omega))
  · rintro _ rfl
    rfl
  · rintro ⟨x, q⟩ hq
    dsimp only at hq
    subst hq
    exact M.o_pure rfl
theorem comp_ends (a b : Int) : (m_cmp_Compare_int a b).Ends (cv a b) := by
  unfold m_cmp_Compare_int m_cmp_isNaN_int cv
  refine M.i_bind M.i_pure (M.i_bind M.i_pure (M.i_f (by simp) (M.i_f (by simp) ?_)))
  by_cases h : a < b
  · rw [if_pos h]
    exact M.i_t (decide_eq_true h) M.i_pure
  · rw [if_neg h]
    refine M.i_f (decide_eq_false h) ?_
    by_cases h2 : b < a
    · rw [if_pos h2]
      exact M.i_t (decide_eq_true h2) M.i_pure
    · rw [if_neg h2]
      exact M.i_f (decide_eq_false h2) M.i_pure
theorem cmp_ends (R : Wn.Rv dn tr sp tw dl dh fl) (x y : Dem) (hx : Wn.OkD dn tw x /\ Wn.Sd dn tr tw dh x ≠ []) (hy : Wn.OkD dn tw y /\ Wn.Sd dn tr tw dh y ≠ []) :
    (zaD x y dn tr sp tw dl dh fl dn tr sp tw dl dh fl).Ends (cv (Wn.deepD dn tr tw dh y) (Wn.deepD dn tr tw dh x)) := by
  unfold zaD
  exact M.i_bind (deep_ends R hy.1 hy.2) (M.i_bind (deep_ends R hx.1 hx.2) (M.i_bind (comp_ends _ _) M.i_pure))
end Go.Proofs.YtbaehghammbjdaaGreat
namespace Go.Nm
namespace Wn
/-- The numbers below a number for which something is so. -/
def ch (m : Nat) (q : Nat -> Bool) : List Int := ((List.range m).filter q).map fun (i : Nat) => (i : Int)
variable {m : Nat} {q q' : Nat -> Bool}
theorem ch_succ : ch (m + 1) q = if q m then ch m q ++ [(m : Int)] else ch m q := by
  unfold ch
  rw [List.range_succ, List.filter_append, List.map_append]
  by_cases h : q m = true
  · rw [if_pos h, List.filter_cons_of_pos h]; rfl
  · rw [if_neg h, List.filter_cons_of_neg h]; simp
theorem ch_le : (ch m q).length <= m := by
  unfold ch
  rw [List.length_map]
  exact Nat.le_trans (List.length_filter_le _ _) (by simp)
theorem mem_ch {x : Int} : x ∈ ch m q ↔ ∃ i, i < m /\ q i = true /\ x = i := by
  unfold ch
  simp only [List.mem_map, List.mem_filter, List.mem_range]
  exact ⟨fun ⟨i, ⟨h1, h2⟩, e⟩ => ⟨i, h1, h2, e.symm⟩, fun ⟨i, h1, h2, e⟩ => ⟨i, ⟨h1, h2⟩, e.symm⟩⟩
end Wn
end Go.Nm
namespace Go.Proofs.YtbaehghammbjdaaGreat
open Go Go.Nm
variable {dn : List Int} {tr : List Span} {sp : List Int} {tw : List Town} {dl dh : Int} {fl : List Flood} {ws : List Int}
theorem posted_iff (R : Wn.Rv dn tr sp tw dl dh fl) (hu : ws.Pairwise (· < ·)) (hb : ∀ x ∈ ws, 0 <= x /\ x < (dn.length : Int)) :
    (zaH dn tr sp tw dl dh fl ws).Out (fun y => ∃ ar : List Bool, y = .inr (dl, dh, ar, 0) /\ ∀ j : Nat, ar.getD j false = true ↔ (j : Int) ∈ ws) := by
  have h12 := R.n12
  unfold zaH
  refine M.o_bindE (opened_ends R) ?_
  dsimp only
  refine M.o_bindE (M.i_opt (fun _ => rising_true (by omega) hu hb) (fun h => by cases h)) (M.o_f rfl ?_)
  unfold zbI
  refine M.o_f rfl (M.o_bind (P := fun ar : List Bool => ∀ j : Nat, ar.getD j false = true ↔ (j : Int) ∈ ws) ?_ fun ar h => M.o_pure ⟨ar, rfl, h⟩)
  refine M.o_for ws.length (fun i (t : List Bool × Nat) => t.2 = i /\ t.1.length = 12 /\ ∀ j : Nat, t.1.getD j false = true ↔ (j : Int) ∈ ws.take i) ?_ ?_ ⟨rfl, by simp, fun j => ?_⟩
  · rintro _ ⟨ar, i⟩ hi ⟨rfl, h0, h⟩
    dsimp only at hi h0 h
    simp only [zbS]
    have hm : ws.getD i 0 ∈ ws := by rw [getD_el ws hi]; exact List.getElem_mem hi
    have hx := hb _ hm
    refine M.ot1 (M.og1 (M.og2 (M.o_pure ⟨rfl, by dsimp only; rw [List.length_set, h0], fun j => ?_⟩)))
    dsimp only
    rw [List.take_succ_eq_append_getElem hi, List.mem_append, List.mem_singleton, ← getD_el ws hi 0, gset _ _ _ _ _ (by omega)]
    by_cases e : j = Int.toNat (ws.getD i 0)
    · rw [if_pos e]
      exact ⟨fun _ => .inr (by omega), fun _ => rfl⟩
    · rw [if_neg e, h j]
      exact ⟨fun g => .inl g, fun g => by
        rcases g with g | g
        · exact g
        · omega⟩
  · rintro ⟨ar, i⟩ ⟨e, _, h⟩
    dsimp only at e h
    subst e
    rw [List.take_length] at h
    simp only [zbS]
    exact M.of1 (M.o_pure h)
  · dsimp only
    rw [List.getD_eq_getElem?_getD, List.getElem?_replicate]
    constructor
    · intro hj
      split at hj <;> cases hj
    · intro hj
      simp at hj
theorem stretch_in (R : Wn.Rv dn tr sp tw dl dh fl) {d : Dem} (hd : Wn.OkD dn tw d) : ∀ s ∈ Wn.Sd dn tr tw dh d, 0 <= s /\ s < (dn.length : Int) := fun s hs => (Wn.P_mem R.nx _ (.inr hd.1) s (Wn.mem_Sd.1 hs).1).2
theorem every_101 (R : Wn.Rv dn tr sp tw dl dh fl) {D : List Dem} (ho : ∀ d ∈ D, Wn.OkD dn tw d) : (zcV D dn tr sp tw dl dh fl).Ends (D.all fun d => decide (0 < ((Wn.Sd dn tr tw dh d).length : Int))) := by
  refine M.Out.ends ?_
  unfold zcV zde zdr
  refine M.o_bind (P := fun b => b = !D.all fun d => decide (0 < ((Wn.Sd dn tr tw dh d).length : Int))) (M.o_bind (P := fun r => decide (0 <= r) = !D.all fun d => decide (0 < ((Wn.Sd dn tr tw dh d).length : Int))) (M.o_bind (P := fun r => match r with | .inl r => (0 : Int) <= r /\ (D.all fun d => decide (0 < ((Wn.Sd dn tr tw dh d).length : Int))) = false | .inr (_ : Unit) => (D.all fun d => decide (0 < ((Wn.Sd dn tr tw dh d).length : Int))) = true) ?_ ?_) (fun r h => M.o_pure h)) (fun r h => M.o_pure (by rw [h]; simp))
  · refine M.o_for D.length (fun i (k : Nat) => k = i /\ ∀ j, j < i -> decide (0 < ((Wn.Sd dn tr tw dh (D.getD j default)).length : Int)) = true) ?_ ?_ ⟨rfl, fun j hj => by omega⟩
    · rintro _ i hi ⟨rfl, hp⟩
      simp only [zbJ]
      have hm : D.getD i default ∈ D := by rw [getD_el D hi]; exact List.getElem_mem hi
      refine M.ot1 (M.og1 (M.o_bindE (a := !decide (0 < ((Wn.Sd dn tr tw dh (D.getD i default)).length : Int))) ?_ (M.o_if (fun hb => M.o_pure ⟨by omega, ?_⟩) (fun hb => M.o_pure ⟨rfl, fun j hj => ?_⟩))))
      · unfold zdc zdi
        exact M.i_bind (M.i_bind (stretch_ends R (ho _ hm)) M.i_pure) M.i_pure
      · rw [List.all_eq_false]
        exact ⟨_, hm, by simpa using hb⟩
      · rcases Nat.lt_or_eq_of_le (Nat.le_of_lt_succ hj) with e | e
        · exact hp j e
        · subst e
          simpa using hb
    · rintro _ ⟨rfl, hp⟩
      simp only [zbJ]
      refine M.of1 (M.o_pure ?_)
      rw [List.all_eq_true]
      intro x hx
      obtain ⟨i, hi, e⟩ := mem_getD hx default
      rw [← e]
      exact hp i hi
  · rintro (r | r) h
    · exact M.o_pure (by rw [h.2, decide_eq_true h.1]; rfl)
    · exact M.o_pure (by dsimp only at h; rw [h]; rfl)
theorem few_b2 {ar : List Bool} {r4 : List Int} (hr : ∀ s ∈ r4, 0 <= s /\ s < 12) : (M.iter (zbB ar r4) 0).Out (fun x => match x with | .inl (_ : Unit) => ∃ s ∈ r4, ar.getD (Int.toNat s) false = true | .inr (_ : Unit) => ∀ s ∈ r4, ar.getD (Int.toNat s) false = false) := by
  refine M.o_for r4.length (fun i (k : Nat) => k = i /\ ∀ j, j < i -> ar.getD (Int.toNat (r4.getD j 0)) false = false) ?_ ?_ ⟨rfl, fun j hj => by omega⟩
  · rintro _ i hi ⟨rfl, hp⟩
    simp only [zbB]
    have hm : r4.getD i 0 ∈ r4 := by rw [getD_el r4 hi]; exact List.getElem_mem hi
    have := hr _ hm
    refine M.ot1 (M.og1 (M.og2 (M.o_if (fun hb => M.o_pure ⟨_, hm, hb⟩) (fun hb => M.o_pure ⟨rfl, fun j hj => ?_⟩))))
    rcases Nat.lt_or_eq_of_le (Nat.le_of_lt_succ hj) with e | e
    · exact hp j e
    · subst e
      exact hb
  · rintro _ ⟨rfl, hp⟩
    simp only [zbB]
    refine M.of1 (M.o_pure fun s hs => ?_)
    obtain ⟨j, hj, rfl⟩ := mem_getD hs 0
    exact hp j hj
/-- The choice of watches. -/
theorem few_b3 (R : Wn.Rv dn tr sp tw dl dh fl) {X : List Dem} (hX : X.length <= 64) (ho : ∀ d ∈ X, Wn.OkD dn tw d /\ Wn.Sd dn tr tw dh d ≠ []) (hs : Srt (Wn.deepD dn tr tw dh) X 0 X.length) :
    (M.iter (zbz dn tr sp tw dl dh fl X) (0, List.replicate 12 false, [], [])).Out (fun y => y.2.2.1 = y.2.2.2.1.map (Wn.lst dn tr tw dh) /\ y.2.2.2.1.length <= 64 /\ (∀ a ∈ y.2.2.2.1, a ∈ X) /\ y.2.2.2.1.Pairwise (Wn.Dj dn tr tw dh) /\ ∀ d ∈ X, ∃ s ∈ Wn.Sd dn tr tw dh d, s ∈ y.2.2.1) := by
  have h12 := R.n12
  refine M.o_for X.length (fun i (t : Nat × List Bool × List Int × List Dem) => t.1 = i /\ (t.2.1.length = 12 /\ ∀ j : Nat, t.2.1.getD j false = true ↔ (j : Int) ∈ t.2.2.1) /\ t.2.2.1 = t.2.2.2.map (Wn.lst dn tr tw dh) /\ t.2.2.2.length <= i /\ (∀ a ∈ t.2.2.2, ∃ k, k < i /\ X.getD k default = a) /\ t.2.2.2.Pairwise (Wn.Dj dn tr tw dh) /\ ∀ k, k < i -> ∃ s ∈ Wn.Sd dn tr tw dh (X.getD k default), s ∈ t.2.2.1) ?_ ?_ ⟨rfl, ⟨by simp, fun j => ?_⟩, rfl, Nat.le_refl _, fun a ha => (by cases ha), List.Pairwise.nil, fun k hk => by omega⟩
  · rintro _ ⟨i, ar, l, l2⟩ hi ⟨rfl, ⟨a1, a2⟩, e, h1, h2, h3, h4⟩
    dsimp only at hi a1 a2 e h1 h2 h3 h4
    simp only [zbz]
    have hm : X.getD i default ∈ X := by rw [getD_el X hi]; exact List.getElem_mem hi
    have hok := ho _ hm
    have hin := stretch_in R hok.1
    have hlen : 0 < (Wn.Sd dn tr tw dh (X.getD i default)).length := List.length_pos_iff.2 hok.2
    have hl := Wn.lst_mem hok.2
    have el : (Wn.Sd dn tr tw dh (X.getD i default)).getD (Int.toNat (((Wn.Sd dn tr tw dh (X.getD i default)).length : Int) - 1)) 0 = Wn.lst dn tr tw dh (X.getD i default) := by
      unfold Wn.lst
      congr 1
      omega
    have hll : l.length <= i := by rw [e, List.length_map]; exact h1
    refine M.ot1 (M.og1 (M.o_bindE (stretch_ends R hok.1) (M.o_bind (few_b2 fun s hs => by have := hin s hs; omega) ?_)))
    rintro (u | u) hu
    · obtain ⟨s, s1, s2⟩ := hu
      refine M.o_pure ⟨rfl, ⟨a1, a2⟩, e, by dsimp only; omega, fun a ha => ?_, h3, fun k hk => ?_⟩
      · obtain ⟨k, k1, k2⟩ := h2 a ha
        exact ⟨k, by omega, k2⟩
      · rcases Nat.lt_or_eq_of_le (Nat.le_of_lt_succ hk) with g | g
        · exact h4 k g
        · subst g
          refine ⟨s, s1, ?_⟩
          have := (a2 _).1 s2
          rwa [Int.toNat_of_nonneg (hin s s1).1] at this
    · dsimp only at hu ⊢
      have hlr := hin _ hl
      have hfree : ∀ s ∈ Wn.Sd dn tr tw dh (X.getD i default), s ∉ l := fun s hs hsl => by
        have h5 := hu s hs
        have := (a2 (Int.toNat s)).2 (by rw [Int.toNat_of_nonneg (hin s hs).1]; exact hsl)
        rw [h5] at this
        cases this
      rw [el]
      refine M.og2 (M.og2 (M.o_grdD (by simp; omega) (M.o_grdD (by simp; omega) (M.o_pure ⟨rfl, ⟨by dsimp only; rw [List.length_set, a1], fun j => ?_⟩, ?_, by dsimp only; simp; omega, fun a ha => ?_, ?_, fun k hk => ?_⟩))))
      · dsimp only
        rw [gset _ _ _ _ _ (by omega), List.mem_append, List.mem_singleton]
        by_cases c : j = Int.toNat (Wn.lst dn tr tw dh (X.getD i default))
        · rw [if_pos c]
          exact ⟨fun _ => .inr (by omega), fun _ => rfl⟩
        · rw [if_neg c, a2 j]
          exact ⟨fun g => .inl g, fun g => g.resolve_right (by omega)⟩
      · dsimp only
        rw [List.map_append, e]
        rfl
      · rcases List.mem_append.1 ha with ha | ha
        · obtain ⟨k, k1, k2⟩ := h2 a ha
          exact ⟨k, by omega, k2⟩
        · exact ⟨i, Nat.lt_succ_self _, (List.mem_singleton.1 ha).symm⟩
      · dsimp only
        rw [List.pairwise_append]
        refine ⟨h3, List.pairwise_singleton _ _, fun a ha b hb => ?_⟩
        rw [List.mem_singleton] at hb
        subst hb
        intro x xa xb
        obtain ⟨k, k1, k2⟩ := h2 a ha
        have ham : a ∈ X := by rw [← k2, getD_el X (by omega)]; exact List.getElem_mem _
        have hoa := ho a ham
        have hdeep : Wn.deepD dn tr tw dh (X.getD i default) <= Wn.deepD dn tr tw dh a := by
          have := hs (k : Int) (i : Int) (by omega) (by omega) (by omega)
          unfold G at this
          rw [show Int.toNat (k : Int) = k from rfl, show Int.toNat (i : Int) = i from rfl, k2] at this
          exact this
        have hc := Wn.cross R.nx (lo_small R) hoa.1 hok.1 hoa.2 hok.2 hdeep xa xb
        refine hfree _ hc ?_
        rw [e]
        exact List.mem_map.2 ⟨a, ha, rfl⟩
      · dsimp only
        rcases Nat.lt_or_eq_of_le (Nat.le_of_lt_succ hk) with g | g
        · obtain ⟨s, s1, s2⟩ := h4 k g
          exact ⟨s, s1, List.mem_append_left _ s2⟩
        · subst g
          exact ⟨_, hl, List.mem_append_right _ (List.mem_singleton.2 rfl)⟩
  · rintro ⟨i, ar, l, l2⟩ ⟨e0, ⟨a1, a2⟩, e, h1, h2, h3, h4⟩
    dsimp only at e0 a1 a2 e h1 h2 h3 h4
    subst e0
    simp only [zbz]
    refine M.of1 (M.o_pure ⟨e, by dsimp only; omega, fun a ha => ?_, h3, fun d hd => ?_⟩)
    · obtain ⟨k, k1, k2⟩ := h2 a ha
      rw [← k2, getD_el X k1]
      exact List.getElem_mem _
    · obtain ⟨k, hk, e2⟩ := mem_getD hd default
      obtain ⟨s, s1, s2⟩ := h4 k hk
      rw [e2] at s1
      exact ⟨s, s1, s2⟩
  · dsimp only
    rw [List.getD_eq_getElem?_getD, List.getElem?_replicate]
    constructor
    · intro hj
      split at hj <;> cases hj
    · intro hj
      cases hj
theorem fewest_is (R : Wn.Rv dn tr sp tw dl dh fl) {D : List Dem} (hD : (zao dn tr sp tw dl dh fl).Ends D) (hl : D.length <= 64) (ho : ∀ d ∈ D, Wn.OkD dn tw d /\ Wn.Sd dn tr tw dh d ≠ []) :
    ∃ ws ap, (zaz dn tr sp tw dl dh fl).Ends (ws, ap, true) /\ Wn.Few dn tr tw dh D ws ap := by
  suffices h : (zaz dn tr sp tw dl dh fl).Out (fun y => y.2.2 = true /\ Wn.Few dn tr tw dh D y.1 y.2.1) by
    obtain ⟨⟨ws, ap, b⟩, h1, h2, h3⟩ := h
    dsimp only at h2 h3
    subst h2
    exact ⟨ws, ap, h1, h3⟩
  unfold zaz
  have hall : (D.all fun d => decide (0 < ((Wn.Sd dn tr tw dh d).length : Int))) = true := by
    rw [List.all_eq_true]
    intro d hd
    have := List.length_pos_iff.2 (ho d hd).2
    exact decide_eq_true (by omega)
  have hev := every_101 R (fun d hd => (ho d hd).1)
  rw [hall] at hev
  refine M.o_bindE hD (M.o_bindE hev (M.o_f rfl (M.o_bind (sort_out (ok := fun d => Wn.OkD dn tw d /\ Wn.Sd dn tr tw dh d ≠ []) (dp := Wn.deepD dn tr tw dh) (cmp_ends R) (by omega) ho) ?_)))
  rintro X ⟨hp, hs⟩
  have hoX : ∀ d ∈ X, Wn.OkD dn tw d /\ Wn.Sd dn tr tw dh d ≠ [] := fun d hd => ho d (hp.mem_iff.1 hd)
  have hlen := hp.length_eq
  refine M.o_bind (few_b3 R (by omega) hoX (by rw [hlen]; exact hs)) ?_
  rintro ⟨x1, x2, l, ap, ar⟩ ⟨e, h1, h2, h3, h4⟩
  dsimp only at e h1 h2 h3 h4 ⊢
  subst e
  have hnd : (ap.map (Wn.lst dn tr tw dh)).Nodup := by
    unfold List.Nodup
    rw [List.pairwise_map, List.pairwise_iff_getElem]
    intro i j hi hj hij he
    have := List.pairwise_iff_getElem.1 h3 i j hi hj hij
    have a1 := Wn.lst_mem (hoX _ (h2 _ (List.getElem_mem hi))).2
    have a2 := Wn.lst_mem (hoX _ (h2 _ (List.getElem_mem hj))).2
    rw [← he] at a2
    exact this _ a1 a2
  have hmem : ∀ x, x ∈ isort (ap.map (Wn.lst dn tr tw dh)) ↔ ∃ a ∈ ap, x = Wn.lst dn tr tw dh a := fun x => by
    rw [(isort_perm _).mem_iff, List.mem_map]
    exact ⟨fun ⟨a, h, e⟩ => ⟨a, h, e.symm⟩, fun ⟨a, h, e⟩ => ⟨a, h, e.symm⟩⟩
  refine M.o_grdD (by rw [List.length_map]; omega) (M.o_pure ⟨rfl, ?_⟩)
  refine ⟨?_, fun x hx => ?_, ?_, fun a ha => hp.mem_iff.1 (h2 a ha), hmem, h3, fun d hd => ?_⟩
  · have n1 : (isort (ap.map (Wn.lst dn tr tw dh))).Nodup := (isort_perm _).nodup_iff.2 hnd
    exact ((isort_asc _).and n1).imp fun h => by omega
  · obtain ⟨a, ha, rfl⟩ := (hmem x).1 hx
    have := hoX _ (h2 a ha)
    exact stretch_in R this.1 _ (Wn.lst_mem this.2)
  · dsimp only
    rw [(isort_perm _).length_eq, List.length_map]
  · obtain ⟨s, s1, s2⟩ := h4 d (hp.mem_iff.2 hd)
    exact ⟨s, s1, (isort_perm _).mem_iff.2 s2⟩
end Go.Proofs.YtbaehghammbjdaaGreat
