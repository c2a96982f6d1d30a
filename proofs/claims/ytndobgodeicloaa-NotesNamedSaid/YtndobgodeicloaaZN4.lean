/- Part 4 of the texts on which the proof rests. Conditions: none. -/
import Derived.Test.YtndobgodeicloaaZN3
set_option linter.unusedVariables false
set_option linter.unusedSimpArgs false
set_option linter.unusedSectionVars false
section
set_option maxRecDepth 100000
set_option maxHeartbeats 16000000
namespace Go.Proofs.Ytndobgodeicloaa
open Go Go.Nm
def zap (w_ : List Work) (revised : List Int) (ab : Int) : ((Gate -> Option Int) × (Int -> Option Bool) × Nat) -> M (((Gate -> Option Int) × (Int -> Option Bool) × Nat) ⊕ ((Gate -> Option Int) × (Int -> Option Bool))) := fun (mp, aa, s) =>
  bif decide ((s : Int) < (revised.length : Int)) then (
  M.grd (decide ((s : Int) < (revised.length : Int))) <|
  M.grd (decide ((-9223372036854775808 : Int) <= (2 * (revised.getD s 0))) && decide ((2 * (revised.getD s 0)) <= (9223372036854775807 : Int))) <|
  M.grd (decide ((-9223372036854775808 : Int) <= ((2 * (revised.getD s 0)) + 1)) && decide (((2 * (revised.getD s 0)) + 1) <= (9223372036854775807 : Int))) <|
  M.bind (zaT w_ revised ab mp aa ((2 * (revised.getD s 0)) + 1)) fun (r2, ac, ae) =>
  M.pure (.inl (ac, ae, s + 1)))
  else (
  M.pure (.inr (mp, aa)))
def zaq (w_ : List Work) (revised : List Int) (ab : Int) (ac : Gate -> Option Int) (aa : Int -> Option Bool) : (Nat × (List Int)) -> M ((Nat × (List Int)) ⊕ ((List Int) × (List Int))) := fun (s2, l) =>
  bif decide ((s2 : Int) < (w_.length : Int)) then (
  M.bind (zaf w_ revised ab ac aa (s2 : Int)) fun r3 =>
  M.grd ((!r3 || (decide ((-9223372036854775808 : Int) <= (2 * (s2 : Int))) && decide ((2 * (s2 : Int)) <= (9223372036854775807 : Int))))) <|
  M.grd ((!(r3 && ((aa (2 * (s2 : Int))).getD false)) || (decide ((-9223372036854775808 : Int) <= (2 * (s2 : Int))) && decide ((2 * (s2 : Int)) <= (9223372036854775807 : Int))))) <|
  M.grd ((!(r3 && ((aa (2 * (s2 : Int))).getD false)) || (decide ((-9223372036854775808 : Int) <= ((2 * (s2 : Int)) + 1)) && decide (((2 * (s2 : Int)) + 1) <= (9223372036854775807 : Int))))) <|
  bif ((r3 && ((aa (2 * (s2 : Int))).getD false)) && (!((aa ((2 * (s2 : Int)) + 1 : Int)).getD false))) then (
  M.grd (decide ((l.length + ([(s2 : Int)]).length) * 8 <= 140737488355328)) <|
  M.pure (.inl (s2 + 1, l ++ ([(s2 : Int)]))))
  else (
  M.pure (.inl (s2 + 1, l))))
  else (
  M.pure (.inr (l, l)))
def zab (w_ : List Work) (revised : List Int) (work : Int) : M ((List Int) × Int) :=
  M.bind (zag w_ revised work) fun x_ => match x_ with
  | (.inl r1) => (
  bif r1 != 0 then (
  M.pure (([]), r1))
  else (
  M.fail))
  | (.inr (aa, ab, ah, ac)) => (
  bif ac != 0 then (
  M.fail)
  else (
  M.bind (M.iter (zap w_ revised aa) (ab, (fun _ => none), 0)) fun (ae, ag) =>
  M.bind (M.iter (zaq w_ revised aa ae ag) (0, [])) fun (l2, l3) =>
  M.pure (l3, 0)))
theorem zaW {R : List Chunk} {aN : Cells} {aq : Value} {aO : Cells} {ag : Value} (w_ : List Work) (revised : List Int) (work : Int) (aD : Reads R aN) (ar : Sl aN aq w_) (ay : Reads R aO) (ap : Sl aO ag revised) {r : ((List Int) × Int)} (hM : (zab w_ revised work).Ends r) (w : World) (H : St w w [] R) : Ret Try.prog 64 #[aq, ag, I work] w fun v w' => ∃ (y0 : List Int) (y1 : Int) (u0 : Value), (y0, y1) = r /\ v = .tuple #[u0, I y1] /\ St w w' [cOwn (α := Int) 3 u0 y0] R := by
 refine ret_of_W Try.func64 rfl rfl rfl ?_
 refine sQ rfl <| sA (.slice none 0 0) rfl <| sA (I 0) rfl <| s_nil <| sQ rfl <| sM aq rfl <| sM ag rfl <| sM (I work) rfl ?_
 obtain ⟨bt, aZ, hM⟩ := M.e_bind hM
 refine s_call cf125 [aq, ag, I work] rfl (za8 w_ revised work (aD.app _) ar (ay.app _) ap aZ _ (St.give (T := []) H rfl)) ?_
 rintro vq aE (⟨r1, a6, hvq, ai⟩ | ⟨ah, aF, aP, ao, aa, aj, ak, ae, ac, a7, hvq, ai, aQ⟩)
 ·subst a6
  subst vq
  try dsimp only at hM
  replace H : St w aE [] R := H.back ai rfl
  clear ai
  refine sM (.tuple #[.pointer none, I r1]) rfl <| sX [.pointer none, I r1] (.pointer none) rfl rfl <| sX [.pointer none, I r1] (I r1) rfl rfl <| sA (.pointer none) rfl <| sA (I r1) rfl <| s_nil <| W.seq <| sQ rfl <| sM (I r1) rfl <| sC _ _ (r1 != 0) rfl rfl rfl <| s_nil ?_
  refine W.cond (r1 != 0) rfl (fun az => ?_) (fun az => ?_)
  ·replace hM := M.e_t hM az
   simp only [qz1, qz2, qz3, qz4, qz5, qz6, ne_eq, qz7] at az
   refine sQ rfl <| sM (I r1) rfl <| sA (.slice none 0 0) rfl <| sA (I r1) rfl <| s_nil ?_
   refine W.ret ?_
   have aG := M.e_pure hM
   replace H : St w aE [cOwn (α := Int) 3 (.slice none 0 0) ([])] R := H.nilOwn (α := Int) 3
   exact ⟨_, resE_tmp2 rfl, ⟨([]), r1, (.slice none 0 0), aG, rfl, H⟩⟩
  replace hM := M.e_f hM az
  exact (M.e_fail hM).elim
 subst a7
 subst vq
 try dsimp only at hM
 replace H : St w aE [cBlk aa [Pz aj, ag, I ah, .map (some ae), .map (some ac)] 180, cRo ak, cMap encG I ae aF, cMap I B ac aP] R := H.back ai rfl
 clear ai
 refine sM (.tuple #[Pz aa, I ao]) rfl <| sX [Pz aa, I ao] (Pz aa) rfl rfl <| sX [Pz aa, I ao] (I ao) rfl rfl <| sA (Pz aa) rfl <| sA (I ao) rfl <| s_nil <| W.seq <| sQ rfl <| sM (I ao) rfl <| sC _ _ (ao != 0) rfl rfl rfl <| s_nil ?_
 refine W.cond (ao != 0) rfl (fun aA => ?_) (fun aA => ?_)
 ·replace hM := M.e_t hM aA
  exact (M.e_fail hM).elim
 replace hM := M.e_f hM aA
 simp only [qz1, qz2, qz3, qz4, qz5, qz6, ne_eq, qz7] at aA
 refine W.skip <| sQ rfl <| sM (Pz aa) rfl <| s_val (x_nc (a := ⟨aa, 0, none⟩) rfl) <| s_val (x_fa (v := Oz aa 4) rfl (fa_blk (o := 0) Fd180_4 Sz178)) <| s_val (x_ld (v := .map (some ac)) rfl (ldb_sc Sc178 (H.blk (k := 0) rfl) rfl)) ?_
 refine t_clearm (i := 3) (kenc := I) (venc := B) (f := aP) (L' := [cBlk aa [Pz aj, ag, I ah, .map (some ae), .map (some ac)] 180, cRo ak, cMap encG I ae aF, cMap I B ac (fun _ => none)]) (by rw [show (#[178] : Array TypeId)[0]?.bind Try.prog.underlying = Try.prog.underlying 178 from rfl, Try.underlying178]; rfl) H rfl rfl rfl ?_
 intro bu H
 refine s_nil <| W.seq <| sQ rfl <| sM ag rfl ?_
 have bv := (ap).len_le
 refine s_val (x_lenS T34.und rfl ap) <| sM (I 0) rfl <| s_nil <| W.block ?_
 obtain ⟨a8, aH, ba⟩ := M.e_bind hM
 obtain ⟨bb, aH⟩ := M.e_iter aH
 refine W.loop (fun m σ W => ∃ (mp : Gate -> Option Int) (ab : Int -> Option Bool) (s : Nat) (ρ : Env), σ = upds ρ [(0, aq), (8, Pz aa), (28, ag), (29, I (revised.length : Int)), (30, I (s : Int))] /\ M.iterN (zap w_ revised ah) m (mp, ab, s) = some a8 /\ St w W [cBlk aa [Pz aj, ag, I ah, .map (some ae), .map (some ac)] 180, cRo ak, cMap encG I ae mp, cMap I B ac ab] R) ?_ ?_
 ·exact ⟨_, aF, (fun _ => none), 0, _, upds_of _ _ ⟨rfl, rfl, rfl, rfl, rfl, trivial⟩, aH, H⟩
 rintro bw σ bc ⟨mp, ab, s, ρ, rfl, aR, H⟩
 obtain ⟨bf, bg, bx, hM, aS⟩ := M.e_iterN aR
 simp only [zap] at hM
 clear aR
 refine sQ rfl <| sC _ _ (decide ((s : Int) < (revised.length : Int))) rfl rfl rfl <| s_nil <| W.seq ?_
 refine W.cond (decide ((s : Int) < (revised.length : Int))) rfl (fun au => ?_) (fun au => ?_)
 ·replace hM := M.e_t hM au
  simp only [qz1, qz2, qz3, qz4, qz5, qz6, ne_eq, qz7] at au
  refine W.skip <| W.seq <| W.block <| sQ rfl ?_
  obtain ⟨bz, hM⟩ := M.e_gd hM
  refine s_val (x_ix (v := vat ag 1 (Int.toNat (s : Int))) rfl rfl (Sl.ix (α := Int) T34.und T34.size ap (by omega) (by omega))) <| s_val (x_ld (v := I (revised.getD s 0)) rfl (ld_sc Sc3 (At.mono (Int_at ap (i := (s : Int)) (by omega) (by omega)) (ay.at H)))) <| sA (I (revised.getD s 0)) rfl <| s_nil <| W.region rfl <| sM (Pz aa) rfl <| sM (I (revised.getD s 0)) rfl ?_
  obtain ⟨bA, hM⟩ := M.e_gd hM
  refine sR _ _ (2 * (revised.getD s 0)) rfl rfl rfl (by omega) ?_
  obtain ⟨bB, hM⟩ := M.e_gd hM
  refine sR _ _ ((2 * (revised.getD s 0)) + 1) rfl rfl rfl (by omega) ?_
  obtain ⟨bC, bh, hM⟩ := M.e_bind hM
  refine s_call cf126 [Pz aa, I ((2 * (revised.getD s 0)) + 1)] rfl (zbe w_ revised ah mp ab ((2 * (revised.getD s 0)) + 1) (aD.app _) ar (Has.ro (k := 1) rfl aQ) (ay.app _) ap (Has.here (k := 0) rfl) bh _ (St.give (L := [cMap encG I ae mp, cMap I B ac ab, cBlk aa [Pz aj, ag, I ah, .map (some ae), .map (some ac)] 180, cRo ak]) (A := [cMap encG I ae mp, cMap I B ac ab]) (T := [cBlk aa [Pz aj, ag, I ah, .map (some ae), .map (some ac)] 180, cRo ak]) (H.pick [2, 3, 0, 1] (by decide) rfl) rfl)) ?_
  rintro vq bi ⟨r2, aT, aU, bj, hvq, ai⟩
  subst bj
  subst vq
  try dsimp only at hM
  replace H : St w bi [cMap encG I ae aT, cMap I B ac aU, cBlk aa [Pz aj, ag, I ah, .map (some ae), .map (some ac)] 180, cRo ak] R := H.pick [2, 3, 0, 1] (by decide) rfl |>.back ai rfl
  clear ai
  refine s_nil <| W.region rfl <| sR _ _ ((s : Int) + 1) rfl rfl rfl (by omega) <| sM (I ((s : Int) + 1)) rfl <| s_nil ?_
  exact ⟨bf, bg, aT, aU, s + 1, _, upds_of _ _ ⟨rfl, rfl, rfl, rfl, rfl, trivial⟩, M.e_inl hM aS, (H.pick [2, 3, 0, 1] (by decide) rfl)⟩
 replace hM := M.e_f hM au
 simp only [qz1, qz2, qz3, qz4, qz5, qz6, ne_eq, qz7] at au
 refine W.exit ?_
 have bk := M.e_inr hM aS
 subst bk
 replace hM := ba
 try dsimp only at hM
 refine sQ rfl <| sA (.slice none 0 0) rfl <| s_nil <| W.seq <| sQ rfl <| sM aq rfl ?_
 have bD := (ar).len_le
 refine s_val (x_lenS T22.und rfl ar) <| sM (I 0) rfl <| s_nil <| W.block ?_
 replace H : St w bc [cOwn (α := Int) 3 (.slice none 0 0) ([]), cBlk aa [Pz aj, ag, I ah, .map (some ae), .map (some ac)] 180, cRo ak, cMap encG I ae mp, cMap I B ac ab] R := H.nilOwn (α := Int) 3
 obtain ⟨bl, aI, bm⟩ := M.e_bind hM
 obtain ⟨bb, aI⟩ := M.e_iter aI
 refine W.loop (fun m σ W => ∃ (s2 : Nat) (l : List Int) (am : Value) (ρ : Env), σ = upds ρ [(8, Pz aa), (12, am), (41, I (w_.length : Int)), (42, I (s2 : Int))] /\ M.iterN (zaq w_ revised ah mp ab) m (s2, l) = some bl /\ St w W [cOwn (α := Int) 3 am l, cBlk aa [Pz aj, ag, I ah, .map (some ae), .map (some ac)] 180, cRo ak, cMap encG I ae mp, cMap I B ac ab] R) ?_ ?_
 ·exact ⟨_, 0, [], (.slice none 0 0), _, upds_of _ _ ⟨rfl, rfl, rfl, rfl, trivial⟩, aI, H⟩
 rintro bE σ bF ⟨s2, l, am, ρ, rfl, aV, H⟩
 obtain ⟨aW, aX, bG, hM, aJ⟩ := M.e_iterN aV
 simp only [zaq] at hM
 clear aV
 refine sQ rfl <| sC _ _ (decide ((s2 : Int) < (w_.length : Int))) rfl rfl rfl <| s_nil <| W.seq ?_
 refine W.cond (decide ((s2 : Int) < (w_.length : Int))) rfl (fun av => ?_) (fun av => ?_)
 ·replace hM := M.e_t hM av
  simp only [qz1, qz2, qz3, qz4, qz5, qz6, ne_eq, qz7] at av
  refine W.skip <| W.seq <| W.block <| sQ rfl <| sM (I (s2 : Int)) rfl <| sA (I (s2 : Int)) rfl <| s_nil <| sQ rfl <| sM (Pz aa) rfl <| sM (I (s2 : Int)) rfl ?_
  obtain ⟨bH, bn, hM⟩ := M.e_bind hM
  refine s_call cf127 [Pz aa, I (s2 : Int)] rfl (zaV w_ revised ah mp ab (s2 : Int) (aD.app _) ar (Has.ro (k := 2) rfl aQ) (ay.app _) ap (Has.here (k := 3) rfl) (Has.here (k := 4) rfl) (Has.here (k := 1) rfl) bn _ (St.give (T := [cOwn (α := Int) 3 am l, cBlk aa [Pz aj, ag, I ah, .map (some ae), .map (some ac)] 180, cRo ak, cMap encG I ae mp, cMap I B ac ab]) H rfl)) ?_
  rintro vq bo ⟨r3, bp, hvq, ai⟩
  subst bp
  subst vq
  try dsimp only at hM
  replace H : St w bo [cOwn (α := Int) 3 am l, cBlk aa [Pz aj, ag, I ah, .map (some ae), .map (some ac)] 180, cRo ak, cMap encG I ae mp, cMap I B ac ab] R := H.back ai rfl
  clear ai
  refine sM (B r3) rfl <| g_val r3 (gy_t rfl) (fun hg => x_mv (v := Pz aa) rfl) <| g_val r3 (gy_t rfl) (fun hg => x_nc (a := ⟨aa, 0, none⟩) (gd_of hg (Pz aa))) <| g_val r3 (gy_t rfl) (fun hg => x_fa (v := Oz aa 4) (gd_of hg (Pz aa)) (fa_blk (o := 0) Fd180_4 Sz178)) <| g_val r3 (gy_t rfl) (fun hg => x_ld (v := .map (some ac)) (gd_of hg (Oz aa 4)) (ldb_sc Sc178 (H.blk (k := 1) rfl) rfl)) <| g_val r3 (gy_t rfl) (fun hg => x_mv (v := I (s2 : Int)) rfl) ?_
  obtain ⟨aB, hM⟩ := M.e_grd hM
  replace aB := M.imp_of aB
  simp only [Bool.and_eq_true, decide_eq_true_eq] at aB
  refine g_val r3 (gy_t rfl) (fun hg => x_ari (r := 2 * (s2 : Int)) rfl (gd_of hg (I (s2 : Int))) rfl (by have al := aB.resolve_left (by rw [hg]; decide); first | exact al | exact al.1 | exact al.2 | omega | (have aw := hg; simp at aw; omega))) <| g_val r3 (gy_t rfl) (fun hg => q_look (kenc := I) (venc := B) (f := ab) (k := (2 * (s2 : Int))) (v := B ((ab (2 * (s2 : Int))).getD false)) keyIntB Try.underlying178 Al4 (by exact (gd_of hg (.map (some ac)))) (by exact (gd_of hg (I (2 * (s2 : Int))))) (H.get (k := 4) rfl) false (by rw [if_neg (by decide), bool_val])) <| s_val (x_pand (b := r3) (r := (ab (2 * (s2 : Int))).getD false) rfl (fun hb => gd_of (c := r3) (by first | exact hb | (rw [hb]; rfl) | simp_all) (B ((ab (2 * (s2 : Int))).getD false))) rfl) <| sM (B (r3 && ((ab (2 * (s2 : Int))).getD false))) rfl <| g_val (r3 && ((ab (2 * (s2 : Int))).getD false)) (gy_t rfl) (fun hg => x_mv (v := Pz aa) rfl) <| g_val (r3 && ((ab (2 * (s2 : Int))).getD false)) (gy_t rfl) (fun hg => x_nc (a := ⟨aa, 0, none⟩) (gd_of hg (Pz aa))) <| g_val (r3 && ((ab (2 * (s2 : Int))).getD false)) (gy_t rfl) (fun hg => x_fa (v := Oz aa 4) (gd_of hg (Pz aa)) (fa_blk (o := 0) Fd180_4 Sz178)) <| g_val (r3 && ((ab (2 * (s2 : Int))).getD false)) (gy_t rfl) (fun hg => x_ld (v := .map (some ac)) (gd_of hg (Oz aa 4)) (ldb_sc Sc178 (H.blk (k := 1) rfl) rfl)) <| g_val (r3 && ((ab (2 * (s2 : Int))).getD false)) (gy_t rfl) (fun hg => x_mv (v := I (s2 : Int)) rfl) ?_
  obtain ⟨ax, hM⟩ := M.e_grd hM
  replace ax := M.imp_of ax
  simp only [Bool.and_eq_true, decide_eq_true_eq] at ax
  refine g_val (r3 && ((ab (2 * (s2 : Int))).getD false)) (gy_t rfl) (fun hg => x_ari (r := 2 * (s2 : Int)) rfl (gd_of hg (I (s2 : Int))) rfl (by have al := ax.resolve_left (by rw [hg]; decide); first | exact al | exact al.1 | exact al.2 | omega | (have aw := hg; simp at aw; omega))) ?_
  obtain ⟨aC, hM⟩ := M.e_grd hM
  replace aC := M.imp_of aC
  simp only [Bool.and_eq_true, decide_eq_true_eq] at aC
  refine g_val (r3 && ((ab (2 * (s2 : Int))).getD false)) (gy_t rfl) (fun hg => x_ari (r := (2 * (s2 : Int)) + 1) (gd_of hg (I (2 * (s2 : Int)))) rfl rfl (by have al := ax.resolve_left (by rw [hg]; decide); have aK := aC.resolve_left (by rw [hg]; decide); first | exact al | exact al.1 | exact al.2 | exact aK | exact aK.1 | exact aK.2 | omega | (have aw := hg; simp at aw; omega))) <| g_val (r3 && ((ab (2 * (s2 : Int))).getD false)) (gy_t rfl) (fun hg => q_look (kenc := I) (venc := B) (f := ab) (k := ((2 * (s2 : Int)) + 1 : Int)) (v := B ((ab ((2 * (s2 : Int)) + 1 : Int)).getD false)) keyIntB Try.underlying178 Al4 (by exact (gd_of hg (.map (some ac)))) (by exact (gd_of hg (I ((2 * (s2 : Int)) + 1)))) (H.get (k := 4) rfl) false (by rw [if_neg (by decide), bool_val])) <| g_val (r3 && ((ab (2 * (s2 : Int))).getD false)) (gy_t rfl) (fun hg => x_not (b := (ab ((2 * (s2 : Int)) + 1 : Int)).getD false) (gd_of hg (B ((ab ((2 * (s2 : Int)) + 1 : Int)).getD false)))) <| s_val (x_pand (b := (r3 && ((ab (2 * (s2 : Int))).getD false))) (r := !((ab ((2 * (s2 : Int)) + 1 : Int)).getD false)) rfl (fun hb => gd_of (c := (r3 && ((ab (2 * (s2 : Int))).getD false))) (by first | exact hb | (rw [hb]; rfl) | simp_all) (B (!((ab ((2 * (s2 : Int)) + 1 : Int)).getD false)))) rfl) <| s_nil ?_
  refine W.cond ((r3 && ((ab (2 * (s2 : Int))).getD false)) && (!((ab ((2 * (s2 : Int)) + 1 : Int)).getD false))) rfl (fun aL => ?_) (fun aL => ?_)
  ·replace hM := M.e_t hM aL
   refine W.region rfl <| sM am rfl <| sM (I (s2 : Int)) rfl ?_
   refine t_bs (α := Int) T34 [I (s2 : Int)] [(s2 : Int)] H rfl (.cons rfl (Flat.rep_enc _ (s2 : Int)) <| .nil) rfl rfl rfl ?_
   intro aY bI H
   obtain ⟨bJ, hM⟩ := M.e_gd hM
   refine t_app (α := Int) (k := 1) (l := l) (l2 := [(s2 : Int)]) (l' := l ++ ([(s2 : Int)])) (vy := aY) T34 rfl H rfl rfl rfl (ownSl (H.get (k := 0) rfl)) (ownLe _ (H.get (k := 0) rfl)) (rfl) (by first | omega | (simp only [List.length_nil] at *; omega)) ?_
   intro aM bq H
   replace H : St w bq [cOwn (α := Int) 3 aY ([(s2 : Int)]), cOwn (α := Int) 3 aM (l ++ ([(s2 : Int)])), cBlk aa [Pz aj, ag, I ah, .map (some ae), .map (some ac)] 180, cRo ak, cMap encG I ae mp, cMap I B ac ab] R := H
   refine sA aM rfl <| s_nil <| W.region rfl <| sR _ _ ((s2 : Int) + 1) rfl rfl rfl (by omega) <| sM (I ((s2 : Int) + 1)) rfl <| s_nil ?_
   exact ⟨aW, aX, s2 + 1, l ++ ([(s2 : Int)]), aM, _, upds_of _ _ ⟨rfl, rfl, rfl, rfl, trivial⟩, M.e_inl hM aJ, (H.pick [1, 2, 3, 4, 5] (by decide) rfl)⟩
  replace hM := M.e_f hM aL
  refine W.skip <| W.region rfl <| sR _ _ ((s2 : Int) + 1) rfl rfl rfl (by omega) <| sM (I ((s2 : Int) + 1)) rfl <| s_nil ?_
  exact ⟨aW, aX, s2 + 1, l, am, _, upds_of _ _ ⟨rfl, rfl, rfl, rfl, trivial⟩, M.e_inl hM aJ, H⟩
 replace hM := M.e_f hM av
 simp only [qz1, qz2, qz3, qz4, qz5, qz6, ne_eq, qz7] at av
 refine W.exit ?_
 have br := M.e_inr hM aJ
 subst br
 replace hM := bm
 try dsimp only at hM
 refine sQ rfl <| sM am rfl <| sA am rfl <| sA (I 0) rfl <| s_nil ?_
 refine W.ret ?_
 have aG := M.e_pure hM
 exact ⟨_, resE_tmp2 rfl, ⟨l, 0, am, aG, rfl, (H.pick [0] (by decide) rfl)⟩⟩

def zaw (i : Int) (k : Int) (ab : List Work) (ac : List Int) (ae : Int) (aa : Gate -> Option Int) (ag : Int -> Option Bool) : M Bool :=
  M.grd (decide ((-9223372036854775808 : Int) <= (2 * k)) && decide ((2 * k) <= (9223372036854775807 : Int))) <|
  M.grd (decide ((-9223372036854775808 : Int) <= (2 * i)) && decide ((2 * i) <= (9223372036854775807 : Int))) <|
  M.grd (decide ((-9223372036854775808 : Int) <= ((2 * i) + 1)) && decide (((2 * i) + 1) <= (9223372036854775807 : Int))) <|
  M.pure (decide (0 < ((aa (⟨(2 * k : Int), ((2 * i) + 1 : Int)⟩ : Gate)).getD 0)))
theorem za9 {R : List Chunk} {ae : Nat} {ab : Nat} {ag : Nat} {ah : Cells} {ai : Value} {aj : Cells} {ak : Value} {ac : Nat} {al : Nat} (i : Int) (k : Int) (am : List Work) (ao : List Int) (ap : Int) (aa : Gate -> Option Int) (aq : Int -> Option Bool) (ax : Reads R ah) (ay : Sl ah ai am) (az : Has R (cBlk ag [ai] 187)) (aA : Reads R aj) (aB : Sl aj ak ao) (ar : Has R (cMap encG I ac aa)) (aC : Has R (cMap I B al aq)) (au : Has R (cBlk ab [Pz ag, ak, I ap, .map (some ac), .map (some al)] 180)) (av : Has R (cBlk ae [Pz ab] 174)) {r : Bool} (hM : (zaw i k am ao ap aa aq).Ends r) (w : World) (H : St w w [] R) : Ret Try.prog 128 #[I i, I k, Pz ae] w fun v w' => ∃ (y0 : Bool), y0 = r /\ v = B y0 /\ St w w' [] R := by
 refine ret_of_W Try.func128 rfl rfl rfl ?_
 refine sQ rfl <| sA (B false) rfl <| s_nil <| sQ rfl <| s_val (x_ld (v := Pz ab) rfl (ldb_sc Sc174 (av.blk H) rfl)) <| s_val (x_nc (a := ⟨ab, 0, none⟩) rfl) <| s_val (x_fa (v := Oz ab 3) rfl (fa_blk (o := 0) Fd180_3 Sz177)) <| s_val (x_ld (v := .map (some ac)) rfl (ldb_sc Sc177 (au.blk H) rfl)) <| sM (I k) rfl ?_
 obtain ⟨aD, hM⟩ := M.e_gd hM
 refine sR _ _ (2 * k) rfl rfl rfl (by omega) <| sM (I i) rfl ?_
 obtain ⟨aE, hM⟩ := M.e_gd hM
 refine sR _ _ (2 * i) rfl rfl rfl (by omega) ?_
 obtain ⟨aF, hM⟩ := M.e_gd hM
 refine sR _ _ ((2 * i) + 1) rfl rfl rfl (by omega) <| s_val (x_bld (ps := [(0, I (2 * k)), (1, I ((2 * i) + 1))]) (zs := [I 0, I 0]) (L' := [I (2 * k), I ((2 * i) + 1)]) rfl Try.underlying182 Al182 rfl (Bd182 Try.underlying182) (.cons (cs := [I (2 * k)]) rfl rfl rfl rfl rfl <| .cons (cs := [I ((2 * i) + 1)]) rfl rfl rfl rfl rfl <| .nil)) <| s_val (q_look (kenc := encG) (venc := I) (f := aa) (k := (⟨(2 * k : Int), ((2 * i) + 1 : Int)⟩ : Gate)) (v := I ((aa (⟨(2 * k : Int), ((2 * i) + 1 : Int)⟩ : Gate)).getD 0)) keyGate Try.underlying177 Al3 rfl rfl (ar.at H) false (by rw [if_neg (by decide), int_val])) <| sC _ _ (decide (0 < ((aa (⟨(2 * k : Int), ((2 * i) + 1 : Int)⟩ : Gate)).getD 0))) rfl rfl rfl <| sA (B (decide (0 < ((aa (⟨(2 * k : Int), ((2 * i) + 1 : Int)⟩ : Gate)).getD 0)))) rfl <| s_nil ?_
 refine W.ret ?_
 have aw := M.e_pure hM
 exact ⟨_, resE_tmp rfl, ⟨(decide (0 < ((aa (⟨(2 * k : Int), ((2 * i) + 1 : Int)⟩ : Gate)).getD 0))), aw, rfl, H⟩⟩

def zaR (k : Int) (aa : List Work) (ab : List Int) (ac : Int) (ae : Gate -> Option Int) (ag : Int -> Option Bool) (ah : Int) : M Bool :=
  M.bind (zaw ah k aa ab ac ae ag) fun r2 =>
  M.pure r2
theorem zbm {R : List Chunk} {aj : Nat} {ab : Nat} {ak : Nat} {al : Nat} {am : Cells} {ao : Value} {ap : Cells} {aq : Value} {ar : Nat} {au : Nat} {av : Nat} (k : Int) (ac : List Work) (ae : List Int) (ag : Int) (ah : Gate -> Option Int) (ai : Int -> Option Bool) (aa : Int) (ax : Reads R am) (ay : Sl am ao ac) (az : Has R (cBlk al [ao] 187)) (aA : Reads R ap) (aB : Sl ap aq ae) (aC : Has R (cMap encG I ar ah)) (aD : Has R (cMap I B au ai)) (aE : Has R (cBlk ak [Pz al, aq, I ag, .map (some ar), .map (some au)] 180)) (aF : Has R (cBlk ab [Pz ak] 174)) (aG : Has R (cBlk aj [.func (.func 128) #[] #[Pz ab]] 183)) (aH : Has R (cBlk av [I aa] 3)) {r : Bool} (hM : (zaR k ac ae ag ah ai aa).Ends r) (w : World) (H : St w w [] R) : Ret Try.prog 129 #[I k, Pz aj, Pz av] w fun v w' => ∃ (y0 : Bool), y0 = r /\ v = B y0 /\ St w w' [] R := by
 refine ret_of_W Try.func129 rfl rfl rfl ?_
 refine sQ rfl <| sA (B false) rfl <| s_nil <| sQ rfl <| s_val (x_ld (v := .func (.func 128) #[] #[Pz ab]) rfl (ldb_sc Sc183 (aG.blk H) rfl)) <| s_val (x_ld (v := I aa) rfl (ldb_sc Sc3 (aH.blk H) rfl)) <| sM (I k) rfl ?_
 obtain ⟨aM, aI, hM⟩ := M.e_bind hM
 refine s_callv (f := 128) rfl cf128 [I aa, I k] rfl (za9 aa k ac ae ag ah ai (ax.app _) ay (az.app _) (aA.app _) aB (aC.app _) (aD.app _) (aE.app _) (aF.app _) aI _ (St.give (T := []) H rfl)) ?_
 rintro vq aJ ⟨r2, aK, hvq, aw⟩
 subst aK
 subst vq
 try dsimp only at hM
 replace H : St w aJ [] R := H.back aw rfl
 clear aw
 refine sA (B r2) rfl <| s_nil ?_
 refine W.ret ?_
 have aL := M.e_pure hM
 exact ⟨_, resE_tmp rfl, ⟨r2, aL, rfl, H⟩⟩

def zai (w_ : List Work) : ((List Int) × Nat) -> M (((List Int) × Nat) ⊕ ((List Int) × (List Int))) := fun (l, s) =>
  bif decide ((s : Int) < ((List.replicate (w_.length) (0 : Int)).length : Int)) then (
  M.grd (decide ((s : Int) < (l.length : Int))) <|
  M.pure (.inl (l.set s (s : Int), s + 1)))
  else (
  M.pure (.inr (l, l)))
def zaE (w_ : List Work) (revised : List Int) (work : Int) (aa : Int) (ab : Gate -> Option Int) (ac : Int -> Option Bool) (l3 : List Int) : ((List Int) × Int) -> M (((List Int) × Int) ⊕ ((List Int) × (List Int))) := fun (l4, s2) =>
  bif s2 != work then (
  M.grd (decide ((l4.length + ([(s2 : Int)]).length) * 8 <= 140737488355328)) <|
  M.bind (zaJ l3 (fun ae => zaR ae w_ revised aa ab ac s2)) fun r4 =>
  M.pure (.inl (l4 ++ ([(s2 : Int)]), r4)))
  else (
  M.pure (.inr (l4, l4)))
def zaB (w_ : List Work) (revised : List Int) (work : Int) (ab : Int) (ac : Gate -> Option Int) (ae : Int -> Option Bool) (l3 : List Int) (s4 : Nat) : (Nat × (List (List Int))) -> M ((Nat × (List (List Int))) ⊕ ((List (List Int)) × (List (List Int)))) := fun (s3, aa) =>
  bif decide ((s3 : Int) < (l3.length : Int)) then (
  M.grd (decide ((s3 : Int) < (l3.length : Int))) <|
  M.bind (zaf w_ revised ab ac ae (l3.getD s3 0)) fun r2 =>
  M.bind (M.opt (!(!r2)) (zaw (revised.getD s4 0) (l3.getD s3 0) w_ revised ab ac ae) false) fun r3 =>
  bif ((!r2) || (!r3)) then (
  M.pure (.inl (s3 + 1, aa)))
  else (
  M.bind (M.iter (zaE w_ revised work ab ac ae l3) ([(revised.getD s4 0 : Int)], l3.getD s3 0)) fun (l5, l6) =>
  M.grd (decide ((l6.length + ([(work : Int)]).length) * 8 <= 140737488355328)) <|
  M.grd (decide ((aa.length + ([l6 ++ ([(work : Int)])]).length) * 24 <= 140737488355328)) <|
  M.pure (.inl (s3 + 1, aa ++ ([l6 ++ ([(work : Int)])])))))
  else (
  M.pure (.inr (aa, aa)))
def zar (w_ : List Work) (revised : List Int) (work : Int) (ab : Int) (ac : Gate -> Option Int) (ae : Int -> Option Bool) (l3 : List Int) : (Nat × (List (List Int))) -> M ((Nat × (List (List Int))) ⊕ ((List (List Int)) × (List (List Int)))) := fun (s4, aa) =>
  bif decide ((s4 : Int) < (revised.length : Int)) then (
  M.grd (decide ((s4 : Int) < (revised.length : Int))) <|
  M.bind (M.iter (zaB w_ revised work ab ac ae l3 s4) (0, aa)) fun (l8, ag) =>
  M.pure (.inl (s4 + 1, ag)))
  else (
  M.pure (.inr (aa, aa)))
def zaK (w_ : List Work) (revised : List Int) (work : Int) : M ((List (List Int)) × Int) :=
  M.bind (zag w_ revised work) fun x_ => match x_ with
  | (.inl r1) => (
  bif r1 != 0 then (
  M.pure (([]), r1))
  else (
  M.fail))
  | (.inr (aa, ab, ac, ae)) => (
  bif ae != 0 then (
  M.fail)
  else (
  M.grd (decide ((0 : Int) <= (w_.length : Int)) && decide ((8 : Int) * (w_.length : Int) <= 281474976710656) && decide ((w_.length : Int) <= (9223372036854775807 : Int))) <|
  M.bind (M.iter (zai w_) (List.replicate (w_.length) (0 : Int), 0)) fun (l2, l3) =>
  M.bind (M.iter (zar w_ revised work aa ab ac l3) (0, [])) fun (ah, ag) =>
  M.pure (ag, 0)))
theorem zbl {R : List Chunk} {bo : Cells} {aE : Value} {bp : Cells} {ag : Value} (w_ : List Work) (revised : List Int) (work : Int) (aQ : Reads R bo) (aA : Sl bo aE w_) (aF : Reads R bp) (aw : Sl bp ag revised) {r : ((List (List Int)) × Int)} (hM : (zaK w_ revised work).Ends r) (w : World) (H : St w w [] R) : Ret Try.prog 65 #[aE, ag, I work] w fun v w' => ∃ (y0 : List (List Int)) (y1 : Int) (u0 : Value) (rr1 : List (Raw 0)) (bq : Base), (y0, y1) = r /\ v = .tuple #[u0, I y1] /\ St w w' [cOwn (α := Raw 0) 34 u0 rr1, cRo bq] R /\ RepR (α := List Int) bq.cells rr1 y0 := by
 refine ret_of_W Try.func65 rfl rfl rfl ?_
 refine sQ rfl <| sA (.slice none 0 0) rfl <| sA (I 0) rfl <| s_nil <| sQ rfl <| sM aE rfl <| sM ag rfl <| sM (I work) rfl ?_
 obtain ⟨cH, bI, hM⟩ := M.e_bind hM
 refine s_call cf125 [aE, ag, I work] rfl (za8 w_ revised work (aQ.app _) aA (aF.app _) aw bI _ (St.give (T := []) H rfl)) ?_
 rintro vq br (⟨r1, bJ, hvq, au⟩ | ⟨ai, aj, ak, ax, ab, am, ao, ac, ae, bK, hvq, au, aW⟩)
 ·subst bJ
  subst vq
  try dsimp only at hM
  replace H : St w br [] R := H.back au rfl
  clear au
  refine sM (.tuple #[.pointer none, I r1]) rfl <| sX [.pointer none, I r1] (.pointer none) rfl rfl <| sX [.pointer none, I r1] (I r1) rfl rfl ?_
  refine t_alloc (cs := [.pointer none]) H Al174 rfl ?_
  intro aa cI H
  refine t_st (k := 0) (b := aa) (off := 0) (cs := [.pointer none]) (vs := [.pointer none]) (cs' := [.pointer none]) (v := .pointer none) (L' := [cBlk aa [.pointer none] 174]) H rfl rfl rfl Sz174 rfl rfl rfl rfl rfl rfl ?_
  intro bL H
  refine sA (I r1) rfl <| s_nil <| W.seq <| sQ rfl <| sM (I r1) rfl <| sC _ _ (r1 != 0) rfl rfl rfl <| s_nil ?_
  refine W.cond (r1 != 0) rfl (fun aR => ?_) (fun aR => ?_)
  ·replace hM := M.e_t hM aR
   simp only [qz1, qz2, qz3, qz4, qz5, qz6, ne_eq, qz7] at aR
   refine sQ rfl <| sM (I r1) rfl <| sA (.slice none 0 0) rfl <| sA (I r1) rfl <| s_nil ?_
   refine W.ret ?_
   have aG := M.e_pure hM
   obtain ⟨aX, H⟩ := H.emptyE
   replace H : St w bL [cOwn (α := Raw 0) 34 (.slice none 0 0) ([]), cRo aX, cBlk aa [.pointer none] 174] R := H.nilOwn (α := Raw 0) 34
   have bM : RepR (α := List Int) (n := 0) aX.cells [] [] := .nil
   exact ⟨_, resE_tmp2 rfl, ⟨([]), r1, (.slice none 0 0), [], aX, aG, rfl, (H.pick [0, 1] (by decide) rfl), bM⟩⟩
  replace hM := M.e_f hM aR
  exact (M.e_fail hM).elim
 subst bK
 subst vq
 try dsimp only at hM
 replace H : St w br [cBlk ab [Pz am, ag, I ai, .map (some ac), .map (some ae)] 180, cRo ao, cMap encG I ac aj, cMap I B ae ak] R := H.back au rfl
 clear au
 refine sM (.tuple #[Pz ab, I ax]) rfl <| sX [Pz ab, I ax] (Pz ab) rfl rfl <| sX [Pz ab, I ax] (I ax) rfl rfl ?_
 refine t_alloc (cs := [.pointer none]) H Al174 rfl ?_
 intro aa cJ H
 refine t_st (k := 0) (b := aa) (off := 0) (cs := [.pointer none]) (vs := [Pz ab]) (cs' := [Pz ab]) (v := Pz ab) (L' := [cBlk aa [Pz ab] 174, cBlk ab [Pz am, ag, I ai, .map (some ac), .map (some ae)] 180, cRo ao, cMap encG I ac aj, cMap I B ae ak]) H rfl rfl rfl Sz174 rfl rfl rfl rfl rfl rfl ?_
 intro cK H
 refine sA (I ax) rfl <| s_nil <| W.seq <| sQ rfl <| sM (I ax) rfl <| sC _ _ (ax != 0) rfl rfl rfl <| s_nil ?_
 refine W.cond (ax != 0) rfl (fun aS => ?_) (fun aS => ?_)
 ·replace hM := M.e_t hM aS
  exact (M.e_fail hM).elim
 replace hM := M.e_f hM aS
 simp only [qz1, qz2, qz3, qz4, qz5, qz6, ne_eq, qz7] at aS
 refine W.skip <| sQ rfl <| s_val (x_mf (fs := []) (cs := [Pz aa]) rfl rfl) ?_
 refine t_alloc (cs := [.nilFunc]) H Al183 rfl ?_
 intro al cL H
 refine t_st (k := 0) (b := al) (off := 0) (cs := [.nilFunc]) (vs := [.func (.func 128) #[] #[Pz aa]]) (cs' := [.func (.func 128) #[] #[Pz aa]]) (v := .func (.func 128) #[] #[Pz aa]) (L' := [cBlk al [.func (.func 128) #[] #[Pz aa]] 183, cBlk aa [Pz ab] 174, cBlk ab [Pz am, ag, I ai, .map (some ac), .map (some ae)] 180, cRo ao, cMap encG I ac aj, cMap I B ae ak]) H rfl rfl rfl Sz183 rfl rfl rfl rfl rfl rfl ?_
 intro cM H
 refine s_nil <| sQ rfl <| sM aE rfl ?_
 have cN := (aA).len_le
 refine s_val (x_lenS T22.und rfl aA) ?_
 obtain ⟨cO, hM⟩ := M.e_gd hM
 refine t_mk (α := Int) T34 (0 : Int) rfl (n := (w_.length : Int)) H rfl rfl (by omega) (by omega) (by omega) ?_
 intro aT bN H
 replace H : St w bN [cOwn (α := Int) 3 aT (List.replicate (w_.length) (0 : Int)), cBlk al [.func (.func 128) #[] #[Pz aa]] 183, cBlk aa [Pz ab] 174, cBlk ab [Pz am, ag, I ai, .map (some ac), .map (some ae)] 180, cRo ao, cMap encG I ac aj, cMap I B ae ak] R := H
 refine sA aT rfl <| s_nil <| W.seq <| sQ rfl <| sM aT rfl ?_
 have cP := ((ownSl (H.get (k := 0) rfl))).len_le
 refine s_val (x_lenS T34.und rfl (ownSl (H.get (k := 0) rfl))) <| sM (I 0) rfl <| s_nil <| W.block ?_
 obtain ⟨bO, aY, bP⟩ := M.e_bind hM
 obtain ⟨aZ, aY⟩ := M.e_iter aY
 refine W.loop (fun m σ W => ∃ (l : List Int) (s : Nat) (ah : Value) (ρ : Env), σ = upds ρ [(1, ag), (2, I work), (8, Pz aa), (10, Pz al), (11, ah), (35, I ((List.replicate (w_.length) (0 : Int)).length : Int)), (36, I (s : Int))] /\ M.iterN (zai w_) m (l, s) = some bO /\ St w W [cOwn (α := Int) 3 ah l, cBlk al [.func (.func 128) #[] #[Pz aa]] 183, cBlk aa [Pz ab] 174, cBlk ab [Pz am, ag, I ai, .map (some ac), .map (some ae)] 180, cRo ao, cMap encG I ac aj, cMap I B ae ak] R) ?_ ?_
 ·exact ⟨_, List.replicate (w_.length) (0 : Int), 0, aT, _, upds_of _ _ ⟨rfl, rfl, rfl, rfl, rfl, rfl, rfl, trivial⟩, aY, H⟩
 rintro cQ σ bQ ⟨l, s, ah, ρ, rfl, bt, H⟩
 obtain ⟨bR, bS, cR, hM, bu⟩ := M.e_iterN bt
 simp only [zai] at hM
 clear bt
 refine sQ rfl <| sC _ _ (decide ((s : Int) < ((List.replicate (w_.length) (0 : Int)).length : Int))) rfl rfl rfl <| s_nil <| W.seq ?_
 refine W.cond (decide ((s : Int) < ((List.replicate (w_.length) (0 : Int)).length : Int))) rfl (fun aH => ?_) (fun aH => ?_)
 ·replace hM := M.e_t hM aH
  simp only [qz1, qz2, qz3, qz4, qz5, qz6, ne_eq, qz7] at aH
  refine W.skip <| W.seq <| W.block <| sQ rfl <| sM (I (s : Int)) rfl <| sA (I (s : Int)) rfl <| s_nil <| W.region rfl <| sM ah rfl <| sM (I (s : Int)) rfl <| sM (I (s : Int)) rfl ?_
  obtain ⟨cS, hM⟩ := M.e_gd hM
  refine s_val (x_ix (v := vat ah 1 (Int.toNat (s : Int))) rfl rfl (Sl.ix (α := Int) T34.und T34.size (ownSl (H.get (k := 0) rfl)) (by omega) (by omega))) ?_
  refine t_ost (k := 0) (i := (s : Int)) (l := l) (l' := l.set s (s : Int)) (val := I (s : Int)) (L' := [cOwn (α := Int) 3 ah (l.set s (s : Int)), cBlk al [.func (.func 128) #[] #[Pz aa]] 183, cBlk aa [Pz ab] 174, cBlk ab [Pz am, ag, I ai, .map (some ac), .map (some ae)] 180, cRo ao, cMap encG I ac aj, cMap I B ae ak]) H rfl Sz3 (by omega) (by omega) (s : Int) rfl rfl rfl rfl rfl ?_
  intro cT H
  refine s_nil <| W.region rfl <| sR _ _ ((s : Int) + 1) rfl rfl rfl (by omega) <| sM (I ((s : Int) + 1)) rfl <| s_nil ?_
  exact ⟨bR, bS, l.set s (s : Int), s + 1, ah, _, upds_of _ _ ⟨rfl, rfl, rfl, rfl, rfl, rfl, rfl, trivial⟩, M.e_inl hM bu, H⟩
 replace hM := M.e_f hM aH
 simp only [qz1, qz2, qz3, qz4, qz5, qz6, ne_eq, qz7] at aH
 refine W.exit ?_
 have bT := M.e_inr hM bu
 subst bT
 replace hM := bP
 try dsimp only at hM
 refine sQ rfl <| sA (.slice none 0 0) rfl <| s_nil <| W.seq <| sQ rfl <| sM ag rfl ?_
 have cU := (aw).len_le
 refine s_val (x_lenS T34.und rfl aw) <| sM (I 0) rfl <| s_nil <| W.block ?_
 obtain ⟨a6, H⟩ := H.emptyE
 replace H : St w bQ [cOwn (α := Raw 0) 34 (.slice none 0 0) ([]), cRo a6, cOwn (α := Int) 3 ah l, cBlk al [.func (.func 128) #[] #[Pz aa]] 183, cBlk aa [Pz ab] 174, cBlk ab [Pz am, ag, I ai, .map (some ac), .map (some ae)] 180, cRo ao, cMap encG I ac aj, cMap I B ae ak] R := H.nilOwn (α := Raw 0) 34
 have bU : RepR (α := List Int) (n := 0) a6.cells [] [] := .nil
 obtain ⟨bV, a7, bW⟩ := M.e_bind hM
 obtain ⟨aZ, a7⟩ := M.e_iter a7
 refine W.loop (fun m σ W => ∃ (s4 : Nat) (aI : List (List Int)) (ay : Value) (aJ : List (Raw 0)) (B_l12 : Base) (ρ : Env), σ = upds ρ [(2, I work), (8, Pz aa), (10, Pz al), (11, ah), (13, ay), (44, ag), (45, I (revised.length : Int)), (46, I (s4 : Int))] /\ M.iterN (zar w_ revised work ai aj ak l) m (s4, aI) = some bV /\ St w W [cOwn (α := Raw 0) 34 ay aJ, cRo B_l12, cOwn (α := Int) 3 ah l, cBlk al [.func (.func 128) #[] #[Pz aa]] 183, cBlk aa [Pz ab] 174, cBlk ab [Pz am, ag, I ai, .map (some ac), .map (some ae)] 180, cRo ao, cMap encG I ac aj, cMap I B ae ak] R /\ RepR (α := List Int) B_l12.cells aJ aI) ?_ ?_
 ·exact ⟨_, 0, [], (.slice none 0 0), [], a6, _, upds_of _ _ ⟨rfl, rfl, rfl, rfl, rfl, rfl, rfl, rfl, trivial⟩, a7, H, bU⟩
 rintro cV σ cW ⟨s4, aI, ay, aJ, B_l12, ρ, rfl, bv, H, bw⟩
 obtain ⟨bX, bY, cX, hM, bx⟩ := M.e_iterN bv
 simp only [zar] at hM
 clear bv
 refine sQ rfl <| sC _ _ (decide ((s4 : Int) < (revised.length : Int))) rfl rfl rfl <| s_nil <| W.seq ?_
 refine W.cond (decide ((s4 : Int) < (revised.length : Int))) rfl (fun aK => ?_) (fun aK => ?_)
 ·replace hM := M.e_t hM aK
  simp only [qz1, qz2, qz3, qz4, qz5, qz6, ne_eq, qz7] at aK
  refine W.skip <| W.seq <| W.block <| sQ rfl ?_
  obtain ⟨cY, hM⟩ := M.e_gd hM
  refine s_val (x_ix (v := vat ag 1 (Int.toNat (s4 : Int))) rfl rfl (Sl.ix (α := Int) T34.und T34.size aw (by omega) (by omega))) <| s_val (x_ld (v := I (revised.getD s4 0)) rfl (ld_sc Sc3 (At.mono (Int_at aw (i := (s4 : Int)) (by omega) (by omega)) (aF.at H)))) <| sA (I (revised.getD s4 0)) rfl <| s_nil <| sQ rfl <| sM ah rfl ?_
  have cZ := ((ownSl (H.get (k := 2) rfl))).len_le
  refine s_val (x_lenS T34.und rfl (ownSl (H.get (k := 2) rfl))) <| sM (I 0) rfl <| s_nil <| W.block ?_
  obtain ⟨bZ, a8, b6⟩ := M.e_bind hM
  obtain ⟨aZ, a8⟩ := M.e_iter a8
  refine W.loop (fun m σ W => ∃ (s3 : Nat) (aB : List (List Int)) (aq : Value) (ap : List (Raw 0)) (B_l10 : Base) (ρ : Env), σ = upds ρ [(2, I work), (8, Pz aa), (10, Pz al), (11, ah), (13, aq), (15, I (revised.getD s4 0)), (44, ag), (45, I (revised.length : Int)), (46, I (s4 : Int)), (50, ah), (51, I (l.length : Int)), (52, I (s3 : Int))] /\ M.iterN (zaB w_ revised work ai aj ak l s4) m (s3, aB) = some bZ /\ St w W [cOwn (α := Raw 0) 34 aq ap, cRo B_l10, cOwn (α := Int) 3 ah l, cBlk al [.func (.func 128) #[] #[Pz aa]] 183, cBlk aa [Pz ab] 174, cBlk ab [Pz am, ag, I ai, .map (some ac), .map (some ae)] 180, cRo ao, cMap encG I ac aj, cMap I B ae ak] R /\ RepR (α := List Int) B_l10.cells ap aB) ?_ ?_
  ·exact ⟨_, 0, aI, ay, aJ, B_l12, _, upds_of _ _ ⟨rfl, rfl, rfl, rfl, rfl, rfl, rfl, rfl, rfl, rfl, rfl, rfl, trivial⟩, a8, H, bw⟩
  rintro da σ db ⟨s3, aB, aq, ap, B_l10, ρ, rfl, bz, H, aC⟩
  obtain ⟨bA, bB, dc, hM, ba⟩ := M.e_iterN bz
  simp only [zaB] at hM
  clear bz
  refine sQ rfl <| sC _ _ (decide ((s3 : Int) < (l.length : Int))) rfl rfl rfl <| s_nil <| W.seq ?_
  refine W.cond (decide ((s3 : Int) < (l.length : Int))) rfl (fun aL => ?_) (fun aL => ?_)
  ·replace hM := M.e_t hM aL
   simp only [qz1, qz2, qz3, qz4, qz5, qz6, ne_eq, qz7] at aL
   refine W.skip <| W.seq <| W.block <| sQ rfl ?_
   obtain ⟨dd, hM⟩ := M.e_gd hM
   refine s_val (x_ix (v := vat ah 1 (Int.toNat (s3 : Int))) rfl rfl (Sl.ix (α := Int) T34.und T34.size (ownSl (H.get (k := 2) rfl)) (by omega) (by omega))) <| s_val (x_ld (v := I (l.getD s3 0)) rfl (ld_sc Sc3 (At.mono (Int_at (ownSl (H.get (k := 2) rfl)) (i := (s3 : Int)) (by omega) (by omega)) (ownLe _ (H.get (k := 2) rfl))))) <| sA (I (l.getD s3 0)) rfl <| s_nil <| W.seq <| sQ rfl <| s_val (x_ld (v := Pz ab) rfl (ldb_sc Sc174 (H.blk (k := 4) rfl) rfl)) <| sM (I (l.getD s3 0)) rfl ?_
   obtain ⟨de, b8, hM⟩ := M.e_bind hM
   refine s_call cf127 [Pz ab, I (l.getD s3 0)] rfl (zaV w_ revised ai aj ak (l.getD s3 0) (aQ.app _) aA (Has.ro (k := 6) rfl aW) (aF.app _) aw (Has.here (k := 7) rfl) (Has.here (k := 8) rfl) (Has.here (k := 5) rfl) b8 _ (St.give (T := [cOwn (α := Raw 0) 34 aq ap, cRo B_l10, cOwn (α := Int) 3 ah l, cBlk al [.func (.func 128) #[] #[Pz aa]] 183, cBlk aa [Pz ab] 174, cBlk ab [Pz am, ag, I ai, .map (some ac), .map (some ae)] 180, cRo ao, cMap encG I ac aj, cMap I B ae ak]) H rfl)) ?_
   rintro vq ca ⟨r2, cb, hvq, au⟩
   subst cb
   subst vq
   try dsimp only at hM
   replace H : St w ca [cOwn (α := Raw 0) 34 aq ap, cRo B_l10, cOwn (α := Int) 3 ah l, cBlk al [.func (.func 128) #[] #[Pz aa]] 183, cBlk aa [Pz ab] 174, cBlk ab [Pz am, ag, I ai, .map (some ac), .map (some ae)] 180, cRo ao, cMap encG I ac aj, cMap I B ae ak] R := H.back au rfl
   clear au
   refine s_val (x_not (b := r2) rfl) <| sM (B (!r2)) rfl <| g_val (!(!r2)) (gy_f rfl) (fun hg => x_ld (v := .func (.func 128) #[] #[Pz aa]) rfl (ldb_sc Sc183 (H.blk (k := 3) rfl) rfl)) <| g_val (!(!r2)) (gy_f rfl) (fun hg => x_mv (v := I (revised.getD s4 0)) rfl) <| g_val (!(!r2)) (gy_f rfl) (fun hg => x_mv (v := I (l.getD s3 0)) rfl) ?_
   obtain ⟨r3, cc, hM⟩ := M.e_bind hM
   refine t_gcallv (cap := [Pz aa]) (!(!r2)) (gy_f rfl) cf128 (fun hg => (gd_of hg (.func (.func 128) #[] #[Pz aa]))) (B r3) (fun _ => [I (revised.getD s4 0), I (l.getD s3 0)]) (fun hg => lst2 (gd_of hg (I (revised.getD s4 0))) (gd_of hg (I (l.getD s3 0)))) H (fun hg => (za9 (revised.getD s4 0) (l.getD s3 0) w_ revised ai aj ak (aQ.app _) aA (Has.ro (k := 6) rfl aW) (aF.app _) aw (Has.here (k := 7) rfl) (Has.here (k := 8) rfl) (Has.here (k := 5) rfl) (Has.here (k := 4) rfl) (M.e_opt cc hg) _ (H.give (A := []) rfl)).mono fun v_ w_ ⟨y_, aG, cd, H_⟩ => by subst aG; exact ⟨cd, H.via H_⟩) ?_
   intro dg H
   refine g_val (!(!r2)) (gy_f rfl) (fun hg => x_not (b := r3) (gd_of hg (B r3))) <| s_val (x_por (b := !r2) (r := !r3) rfl rfl (fun hb => gd_of (c := !(!r2)) (by first | exact hb | (rw [hb]; rfl) | simp_all) (B (!r3)))) <| s_nil ?_
   refine W.cond ((!r2) || (!r3)) rfl (fun bb => ?_) (fun bb => ?_)
   ·replace hM := M.e_t hM bb
    refine W.exit ?_
    refine W.region rfl <| sR _ _ ((s3 : Int) + 1) rfl rfl rfl (by omega) <| sM (I ((s3 : Int) + 1)) rfl <| s_nil ?_
    exact ⟨bA, bB, s3 + 1, aB, aq, ap, B_l10, _, upds_of _ _ ⟨rfl, rfl, rfl, rfl, rfl, rfl, rfl, rfl, rfl, rfl, rfl, rfl, trivial⟩, M.e_inl hM ba, H, aC⟩
   replace hM := M.e_f hM bb
   refine W.skip <| sQ rfl <| sM (I (revised.getD s4 0)) rfl ?_
   refine t_bs (α := Int) T34 [I (revised.getD s4 0)] [(revised.getD s4 0 : Int)] H rfl (.cons rfl (Flat.rep_enc _ (revised.getD s4 0 : Int)) <| .nil) rfl rfl rfl ?_
   intro bc dh H
   refine sA bc rfl <| s_nil <| W.seq <| sQ rfl <| sM (I (l.getD s3 0)) rfl ?_
   refine t_alloc (cs := [I 0]) H Al3 rfl ?_
   intro bf di H
   refine t_st (k := 0) (b := bf) (off := 0) (cs := [I 0]) (vs := [I (l.getD s3 0)]) (cs' := [I (l.getD s3 0)]) (v := I (l.getD s3 0)) (L' := [cBlk bf [I (l.getD s3 0)] 3, cOwn (α := Int) 3 bc ([(revised.getD s4 0 : Int)]), cOwn (α := Raw 0) 34 aq ap, cRo B_l10, cOwn (α := Int) 3 ah l, cBlk al [.func (.func 128) #[] #[Pz aa]] 183, cBlk aa [Pz ab] 174, cBlk ab [Pz am, ag, I ai, .map (some ac), .map (some ae)] 180, cRo ao, cMap encG I ac aj, cMap I B ae ak]) H rfl rfl rfl Sz3 rfl rfl rfl rfl rfl rfl ?_
   intro dj H
   refine s_nil <| W.block ?_
   obtain ⟨ce, bg, cf⟩ := M.e_bind hM
   obtain ⟨aZ, bg⟩ := M.e_iter bg
   refine W.loop (fun m σ W => ∃ (ar : Nat) (l4 : List Int) (s2 : Int) (aM : Value) (ρ : Env), σ = upds ρ [(2, I work), (8, Pz aa), (10, Pz al), (11, ah), (13, aq), (15, I (revised.getD s4 0)), (18, aM), (19, Pz ar), (44, ag), (45, I (revised.length : Int)), (46, I (s4 : Int)), (50, ah), (51, I (l.length : Int)), (52, I (s3 : Int)), (61, gd (!(!r2)) (.func (.func 128) #[] #[Pz aa])), (62, gd (!(!r2)) (I (revised.getD s4 0))), (63, gd (!(!r2)) (I (l.getD s3 0))), (64, gd (!(!r2)) (B r3)), (65, gd (!(!r2)) (B (!r3)))] /\ M.iterN (zaE w_ revised work ai aj ak l) m (l4, s2) = some ce /\ St w W [cBlk ar [I s2] 3, cOwn (α := Int) 3 aM l4, cOwn (α := Raw 0) 34 aq ap, cRo B_l10, cOwn (α := Int) 3 ah l, cBlk al [.func (.func 128) #[] #[Pz aa]] 183, cBlk aa [Pz ab] 174, cBlk ab [Pz am, ag, I ai, .map (some ac), .map (some ae)] 180, cRo ao, cMap encG I ac aj, cMap I B ae ak] R) ?_ ?_
   ·exact ⟨_, bf, [(revised.getD s4 0 : Int)], l.getD s3 0, bc, _, upds_of _ _ ⟨rfl, rfl, rfl, rfl, rfl, rfl, rfl, rfl, rfl, rfl, rfl, rfl, rfl, rfl, rfl, rfl, rfl, rfl, rfl, trivial⟩, bg, H⟩
   rintro dk σ dl ⟨ar, l4, s2, aM, ρ, rfl, bC, H⟩
   obtain ⟨cg, ci, dm, hM, bD⟩ := M.e_iterN bC
   simp only [zaE] at hM
   clear bC
   refine W.seq <| sQ rfl <| s_val (x_ld (v := I s2) rfl (ldb_sc Sc3 (H.blk (k := 0) rfl) rfl)) <| sM (I work) rfl <| sC _ _ (s2 != work) rfl rfl rfl <| s_nil ?_
   refine W.cond (s2 != work) rfl (fun aN => ?_) (fun aN => ?_)
   ·replace hM := M.e_t hM aN
    simp only [qz1, qz2, qz3, qz4, qz5, qz6, ne_eq, qz7] at aN
    refine W.skip <| W.seq <| W.block <| sQ rfl <| sM aM rfl <| s_val (x_ld (v := I s2) rfl (ldb_sc Sc3 (H.blk (k := 0) rfl) rfl)) ?_
    refine t_bs (α := Int) T34 [I s2] [(s2 : Int)] H rfl (.cons rfl (Flat.rep_enc _ (s2 : Int)) <| .nil) rfl rfl rfl ?_
    intro aD dp H
    obtain ⟨dq, hM⟩ := M.e_gd hM
    refine t_app (α := Int) (k := 2) (l := l4) (l2 := [(s2 : Int)]) (l' := l4 ++ ([(s2 : Int)])) (vy := aD) T34 rfl H rfl rfl rfl (ownSl (H.get (k := 0) rfl)) (ownLe _ (H.get (k := 0) rfl)) (rfl) (by first | omega | (simp only [List.length_nil] at *; omega)) ?_
    intro az cj H
    replace H : St w cj [cOwn (α := Int) 3 aD ([(s2 : Int)]), cBlk ar [I s2] 3, cOwn (α := Int) 3 az (l4 ++ ([(s2 : Int)])), cOwn (α := Raw 0) 34 aq ap, cRo B_l10, cOwn (α := Int) 3 ah l, cBlk al [.func (.func 128) #[] #[Pz aa]] 183, cBlk aa [Pz ab] 174, cBlk ab [Pz am, ag, I ai, .map (some ac), .map (some ae)] 180, cRo ao, cMap encG I ac aj, cMap I B ae ak] R := H
    refine sA az rfl <| s_nil <| W.region rfl <| sM ah rfl <| s_val (x_mf (fs := []) (cs := [Pz al, Pz ar]) rfl rfl) ?_
    obtain ⟨dr, ck, hM⟩ := M.e_bind hM
    refine s_call cf102 [ah, .func (.func 129) #[] #[Pz al, Pz ar]] rfl (zbb l (fun bh => zaR bh w_ revised ai aj ak s2) (Reads.of (k := 5) rfl ownLe) (ownSl (H.get (k := 5) rfl)) ⟨129, [Pz al, Pz ar], rfl, cf129, fun bE dt du cm bh dv cn dw co cp => by obtain rfl := Arg.int co; exact (zbm bh w_ revised ai aj ak s2 (Reads.app (aQ.app _) _) aA (Has.app (Has.ro (k := 9) rfl aW) _) (Reads.app (aF.app _) _) aw (Has.app (Has.here (k := 10) rfl) _) (Has.app (Has.here (k := 11) rfl) _) (Has.app (Has.here (k := 8) rfl) _) (Has.app (Has.here (k := 7) rfl) _) (Has.app (Has.here (k := 6) rfl) _) (Has.app (Has.here (k := 1) rfl) _) cp bE (St.refl cn)).mono fun cm bE ⟨dx, cq, cr, ct⟩ => by subst cq; exact ⟨cr, ct⟩⟩ ck _ (St.give (T := [cOwn (α := Int) 3 aD ([(s2 : Int)]), cBlk ar [I s2] 3, cOwn (α := Int) 3 az (l4 ++ ([(s2 : Int)])), cOwn (α := Raw 0) 34 aq ap, cRo B_l10, cOwn (α := Int) 3 ah l, cBlk al [.func (.func 128) #[] #[Pz aa]] 183, cBlk aa [Pz ab] 174, cBlk ab [Pz am, ag, I ai, .map (some ac), .map (some ae)] 180, cRo ao, cMap encG I ac aj, cMap I B ae ak]) H rfl)) ?_
    rintro vq cu ⟨r4, cv, hvq, au⟩
    subst cv
    subst vq
    try dsimp only at hM
    replace H : St w cu [cOwn (α := Int) 3 aD ([(s2 : Int)]), cBlk ar [I s2] 3, cOwn (α := Int) 3 az (l4 ++ ([(s2 : Int)])), cOwn (α := Raw 0) 34 aq ap, cRo B_l10, cOwn (α := Int) 3 ah l, cBlk al [.func (.func 128) #[] #[Pz aa]] 183, cBlk aa [Pz ab] 174, cBlk ab [Pz am, ag, I ai, .map (some ac), .map (some ae)] 180, cRo ao, cMap encG I ac aj, cMap I B ae ak] R := H.back au rfl
    clear au
    refine t_st (k := 1) (b := ar) (off := 0) (cs := [I s2]) (vs := [I r4]) (cs' := [I r4]) (v := I r4) (L' := [cOwn (α := Int) 3 aD ([(s2 : Int)]), cBlk ar [I r4] 3, cOwn (α := Int) 3 az (l4 ++ ([(s2 : Int)])), cOwn (α := Raw 0) 34 aq ap, cRo B_l10, cOwn (α := Int) 3 ah l, cBlk al [.func (.func 128) #[] #[Pz aa]] 183, cBlk aa [Pz ab] 174, cBlk ab [Pz am, ag, I ai, .map (some ac), .map (some ae)] 180, cRo ao, cMap encG I ac aj, cMap I B ae ak]) H rfl rfl rfl Sz3 rfl rfl rfl rfl rfl rfl ?_
    intro dy H
    refine s_nil <| sQ rfl <| s_val (x_ld (v := I r4) rfl (ldb_sc Sc3 (H.blk (k := 1) rfl) rfl)) <| s_nil <| W.region rfl ?_
    refine t_alloc (cs := [I 0]) H Al3 rfl ?_
    intro bi dz H
    refine t_st (k := 0) (b := bi) (off := 0) (cs := [I 0]) (vs := [I r4]) (cs' := [I r4]) (v := I r4) (L' := [cBlk bi [I r4] 3, cOwn (α := Int) 3 aD ([(s2 : Int)]), cBlk ar [I r4] 3, cOwn (α := Int) 3 az (l4 ++ ([(s2 : Int)])), cOwn (α := Raw 0) 34 aq ap, cRo B_l10, cOwn (α := Int) 3 ah l, cBlk al [.func (.func 128) #[] #[Pz aa]] 183, cBlk aa [Pz ab] 174, cBlk ab [Pz am, ag, I ai, .map (some ac), .map (some ae)] 180, cRo ao, cMap encG I ac aj, cMap I B ae ak]) H rfl rfl rfl Sz3 rfl rfl rfl rfl rfl rfl ?_
    intro dA H
    refine s_nil ?_
    exact ⟨cg, ci, bi, l4 ++ ([(s2 : Int)]), r4, az, _, upds_of _ _ ⟨rfl, rfl, rfl, rfl, rfl, rfl, rfl, rfl, rfl, rfl, rfl, rfl, rfl, rfl, rfl, rfl, rfl, rfl, rfl, trivial⟩, M.e_inl hM bD, (H.pick [0, 3, 4, 5, 6, 7, 8, 9, 10, 11, 12] (by decide) rfl)⟩
   replace hM := M.e_f hM aN
   simp only [qz1, qz2, qz3, qz4, qz5, qz6, ne_eq, qz7] at aN
   refine W.exit ?_
   have cw := M.e_inr hM bD
   subst cw
   replace hM := cf
   try dsimp only at hM
   refine W.region rfl <| sM aq rfl <| sM aM rfl <| sM (I work) rfl ?_
   refine t_bs (α := Int) T34 [I work] [(work : Int)] H rfl (.cons rfl (Flat.rep_enc _ (work : Int)) <| .nil) rfl rfl rfl ?_
   intro aO dB H
   obtain ⟨dC, hM⟩ := M.e_gd hM
   refine t_app (α := Int) (k := 2) (l := l4) (l2 := [(work : Int)]) (l' := l4 ++ ([(work : Int)])) (vy := aO) T34 rfl H rfl rfl rfl (ownSl (H.get (k := 0) rfl)) (ownLe _ (H.get (k := 0) rfl)) (rfl) (by first | omega | (simp only [List.length_nil] at *; omega)) ?_
   intro aU bF H
   replace H : St w bF [cOwn (α := Int) 3 aO ([(work : Int)]), cBlk ar [I s2] 3, cOwn (α := Int) 3 aU (l4 ++ ([(work : Int)])), cOwn (α := Raw 0) 34 aq ap, cRo B_l10, cOwn (α := Int) 3 ah l, cBlk al [.func (.func 128) #[] #[Pz aa]] 183, cBlk aa [Pz ab] 174, cBlk ab [Pz am, ag, I ai, .map (some ac), .map (some ae)] 180, cRo ao, cMap encG I ac aj, cMap I B ae ak] R := H
   obtain ⟨bj, H⟩ := H.emptyE
   obtain ⟨bk, H, cx⟩ := H.freezeE (k := 3) rfl
   replace H : St w bF [cRo bj, cOwn (α := Int) 3 aO ([(work : Int)]), cBlk ar [I s2] 3, cRo bk, cOwn (α := Raw 0) 34 aq ap, cRo B_l10, cOwn (α := Int) 3 ah l, cBlk al [.func (.func 128) #[] #[Pz aa]] 183, cBlk aa [Pz ab] 174, cBlk ab [Pz am, ag, I ai, .map (some ac), .map (some ae)] 180, cRo ao, cMap encG I ac aj, cMap I B ae ak] R := H
   have aP := cx
   obtain ⟨bl, H, dD, cy⟩ := H.joinE (i := 0) (j := 3) rfl rfl
   replace aP := aP.mono cy
   obtain ⟨av, bG⟩ : ∃ r : Raw 0, r.cs = [aU] := ⟨Raw.of [aU] rfl (by simp only [List.all_cons, List.all_nil, Bool.true_and, Bool.and_true, Sl.oc aP]; try rfl), rfl⟩
   have cz : RepR (α := List Int) bl.cells [av] [l4 ++ ([(work : Int)])] := .cons (by rw [bG]; exact ⟨_, rfl, aP⟩) <| .nil
   refine t_bs (α := Raw 0) T73 [aU] [av] H rfl (.cons (by rw [show (Flat.enc av : List Value) = av.cs from rfl, bG]; exact Sl.cells aP) (Flat.rep_enc _ _) <| .nil) rfl rfl rfl ?_
   intro bm cA H
   replace H : St w cA [cOwn (α := Raw 0) 34 bm ([av]), cRo bl, cRo bj, cOwn (α := Int) 3 aO ([(work : Int)]), cBlk ar [I s2] 3, cRo bk, cOwn (α := Raw 0) 34 aq ap, cRo B_l10, cOwn (α := Int) 3 ah l, cBlk al [.func (.func 128) #[] #[Pz aa]] 183, cBlk aa [Pz ab] 174, cBlk ab [Pz am, ag, I ai, .map (some ac), .map (some ae)] 180, cRo ao, cMap encG I ac aj, cMap I B ae ak] R := H
   obtain ⟨dE, hM⟩ := M.e_gd hM
   have aV := cz
   obtain ⟨bH, H, cB, cC⟩ := H.joinE (i := 7) (j := 1) rfl rfl
   replace aC := aC.mono cB
   replace aV := aV.mono cC
   have cD := aC.app aV
   refine t_app (α := Raw 0) (k := 7) (l := ap) (l2 := [av]) (l' := ap ++ ([av])) (vy := bm) T73 rfl H rfl rfl rfl (ownSl (H.get (k := 1) rfl)) (ownLe _ (H.get (k := 1) rfl)) (rfl) (by have a_ := aC.len; have b_ := aV.len; (try simp only [List.length_nil] at *); first | omega | (rw [a_, b_]; omega)) ?_
   intro bn cE H
   replace H : St w cE [cRo bH, cOwn (α := Raw 0) 34 bm ([av]), cRo bl, cRo bj, cOwn (α := Int) 3 aO ([(work : Int)]), cBlk ar [I s2] 3, cRo bk, cOwn (α := Raw 0) 34 bn (ap ++ ([av])), cRo B_l10, cOwn (α := Int) 3 ah l, cBlk al [.func (.func 128) #[] #[Pz aa]] 183, cBlk aa [Pz ab] 174, cBlk ab [Pz am, ag, I ai, .map (some ac), .map (some ae)] 180, cRo ao, cMap encG I ac aj, cMap I B ae ak] R := H
   refine sA bn rfl <| s_nil <| W.region rfl <| sR _ _ ((s3 : Int) + 1) rfl rfl rfl (by omega) <| sM (I ((s3 : Int) + 1)) rfl <| s_nil ?_
   exact ⟨bA, bB, s3 + 1, aB ++ ([l4 ++ ([(work : Int)])]), bn, ap ++ ([av]), bH, _, upds_of _ _ ⟨rfl, rfl, rfl, rfl, rfl, rfl, rfl, rfl, rfl, rfl, rfl, rfl, trivial⟩, M.e_inl hM ba, (H.pick [7, 0, 9, 10, 11, 12, 13, 14, 15] (by decide) rfl), cD⟩
  replace hM := M.e_f hM aL
  simp only [qz1, qz2, qz3, qz4, qz5, qz6, ne_eq, qz7] at aL
  refine W.exit ?_
  have cF := M.e_inr hM ba
  subst cF
  replace hM := b6
  try dsimp only at hM
  refine W.region rfl <| sR _ _ ((s4 : Int) + 1) rfl rfl rfl (by omega) <| sM (I ((s4 : Int) + 1)) rfl <| s_nil ?_
  exact ⟨bX, bY, s4 + 1, aB, aq, ap, B_l10, _, upds_of _ _ ⟨rfl, rfl, rfl, rfl, rfl, rfl, rfl, rfl, trivial⟩, M.e_inl hM bx, H, aC⟩
 replace hM := M.e_f hM aK
 simp only [qz1, qz2, qz3, qz4, qz5, qz6, ne_eq, qz7] at aK
 refine W.exit ?_
 have cG := M.e_inr hM bx
 subst cG
 replace hM := bW
 try dsimp only at hM
 refine sQ rfl <| sM ay rfl <| sA ay rfl <| sA (I 0) rfl <| s_nil ?_
 refine W.ret ?_
 have aG := M.e_pure hM
 exact ⟨_, resE_tmp2 rfl, ⟨aI, 0, ay, aJ, B_l12, aG, rfl, (H.pick [0, 1] (by decide) rfl), bw⟩⟩

def za6 : M Bool :=
  M.bind (zad) fun r2 =>
  M.bind (M.pure (valuesR r2 ([(⟨(0 : Int), (2 : Int), (7 : Int)⟩ : Note), (⟨(1 : Int), (0 : Int), (9 : Int)⟩ : Note)]), valuesE r2 ([(⟨(0 : Int), (2 : Int), (7 : Int)⟩ : Note), (⟨(1 : Int), (0 : Int), (9 : Int)⟩ : Note)]))) fun (l, e) =>
  M.bind (zad) fun r3 =>
  M.bind (M.pure (staleR r3 ([(0 : Int)]), askedE r3 ([(0 : Int)]))) fun (l2, e2) =>
  M.bind (zad) fun r4 =>
  M.bind (M.pure (readyR r4 ([(1 : Int)]), askedE r4 ([(1 : Int)]))) fun (l3, e3) =>
  M.bind (zad) fun r5 =>
  M.bind (M.pure (longestR r5 ([(0 : Int)]), longestE r5 ([(0 : Int)]))) fun (l4, e4) =>
  M.bind (M.pure (decide (l = ([(7 : Int), (9 : Int), (26 : Int), (10 : Int), (47 : Int), (48 : Int)])))) fun s =>
  M.bind (M.pure (decide (l2 = ([(0 : Int), (2 : Int), (4 : Int), (5 : Int)])))) fun s2 =>
  M.bind (M.pure (decide (l3 = ([(-1 : Int), (6 : Int), (16 : Int), (36 : Int), (56 : Int), (57 : Int)])))) fun s3 =>
  M.bind (M.pure (decide (l4 = ([(0 : Int), (2 : Int), (4 : Int), (5 : Int)])))) fun s4 =>
  bif ((((((((e != 0) || (e2 != 0)) || (e3 != 0)) || (e4 != 0)) || (!s)) || (!s2)) || (!s3)) || (!s4)) then (
  M.pure false)
  else (
  M.bind (zad) fun r6 =>
  M.bind (za1 r6 ([(0 : Int)]) ([(0 : Int), (2 : Int), (4 : Int), (5 : Int)])) fun (r0, r1) =>
  M.bind (zad) fun r7 =>
  M.bind (za1 r7 ([(0 : Int)]) ([(0 : Int), (2 : Int), (4 : Int)])) fun (ab, ac) =>
  M.bind (zad) fun r8 =>
  M.bind (zab r8 ([(1 : Int)]) 4) fun (ae, ag) =>
  M.bind (zad) fun r9 =>
  M.bind (zaK r9 ([(1 : Int)]) 4) fun (ah, ai) =>
  M.bind (zad) fun aj =>
  M.bind (zab aj ([(1 : Int)]) 3) fun (al, ak) =>
  M.bind (M.pure (decide (ae = ([(2 : Int), (3 : Int)])))) fun s5 =>
  bif (((((((((r1 != 0) || (ac != 0)) || (ag != 0)) || (ai != 0)) || (ak != 5)) || (!r0)) || ab) || (!s5)) || ((ah.length : Int) != 2)) then (
  M.pure false)
  else (
  M.bind (zad) fun aa =>
  M.bind (M.pure (withdrawnR aa ([(⟨(0 : Int), (3 : Int), (8 : Int)⟩ : Note), (⟨(0 : Int), (2 : Int), (7 : Int)⟩ : Note), (⟨(1 : Int), (0 : Int), (9 : Int)⟩ : Note)]) ([(⟨(2 : Int), (26 : Int)⟩ : Pub), (⟨(3 : Int), (10 : Int)⟩ : Pub)]), withdrawnE aa ([(⟨(0 : Int), (3 : Int), (8 : Int)⟩ : Note), (⟨(0 : Int), (2 : Int), (7 : Int)⟩ : Note), (⟨(1 : Int), (0 : Int), (9 : Int)⟩ : Note)]) ([(⟨(2 : Int), (26 : Int)⟩ : Pub), (⟨(3 : Int), (10 : Int)⟩ : Pub)]))) fun (l5, e5) =>
  M.bind (M.pure (decide (l5 = ([(0 : Int)])))) fun s6 =>
  M.pure ((e5 == 0) && s6)))
theorem zbr {R : List Chunk}    {r : Bool} (hM : (za6).Ends r) (w : World) (H : St w w [] R) : Ret Try.prog 17 #[] w fun v w' => ∃ (y0 : Bool), y0 = r /\ v = B y0 /\ St w w' [] R := by
 refine ret_of_W Try.func17 rfl rfl rfl ?_
 refine sQ rfl <| sA (B false) rfl <| s_nil <| sQ rfl ?_
 obtain ⟨dB, bS, hM⟩ := M.e_bind hM
 refine s_call cf79 [] rfl (zae bS _ (St.give (T := []) H rfl)) ?_
 rintro vq bT ⟨r2, ah, ai, aj, bU, hvq, ab, bV⟩
 subst bU
 subst vq
 try dsimp only at hM
 replace H : St w bT [cOwn (α := Raw 2) 60 ah ai, cRo aj] R := H.back ab rfl
 clear ab
 refine s_val (x_bld (ps := [(0, I 0), (1, I 2), (2, I 7)]) (zs := [I 0, I 0, I 0]) (L' := [I 0, I 2, I 7]) rfl Try.underlying30 Al30 rfl (Bd30 Try.underlying30) (.cons (cs := [I 0]) rfl rfl rfl rfl rfl <| .cons (cs := [I 2]) rfl rfl rfl rfl rfl <| .cons (cs := [I 7]) rfl rfl rfl rfl rfl <| .nil)) <| s_val (x_bld (ps := [(0, I 1), (2, I 9)]) (zs := [I 0, I 0, I 0]) (L' := [I 1, I 0, I 9]) rfl Try.underlying30 Al30 rfl (Bd30 Try.underlying30) (.cons (cs := [I 1]) rfl rfl rfl rfl rfl <| .cons (cs := [I 9]) rfl rfl rfl rfl rfl <| .nil)) ?_
 refine t_bs (α := Note) T23 [.agg #[I 0, I 2, I 7], .agg #[I 1, I 0, I 9]] [(⟨(0 : Int), (2 : Int), (7 : Int)⟩ : Note), (⟨(1 : Int), (0 : Int), (9 : Int)⟩ : Note)] H rfl (.cons rfl (Flat.rep_enc _ (⟨(0 : Int), (2 : Int), (7 : Int)⟩ : Note)) <| .cons rfl (Flat.rep_enc _ (⟨(1 : Int), (0 : Int), (9 : Int)⟩ : Note)) <| .nil) rfl rfl rfl ?_
 intro ak dC H
 obtain ⟨⟨l, e⟩, bW, hM⟩ := M.e_bind hM
 obtain ⟨bX, bY⟩ := Prod.mk.inj (M.e_pure bW)
 try dsimp only at hM
 refine s_call cf21 [ah, ak] rfl (by have aV := (Values_any _ ((rowSl rfl (H.get (k := 1) rfl) (roLe _ (H.get (k := 2) rfl)) bV).mono (Cells.sup_le (ownLe _ (H.get (k := 1) rfl)) (roLe _ (H.get (k := 2) rfl)))) ((ownSl (H.get (k := 0) rfl)).mono (ownLe _ (H.get (k := 0) rfl)))); rw [bX, bY] at aV; exact aV) ?_
 rintro _ dD ⟨bg, rfl, bv, ar⟩
 obtain ⟨al, H, bv⟩ := H.fresh ar bv
 clear ar
 have dE := bv.len_le
 refine sM (.tuple #[bg, I e]) rfl <| sX [bg, I e] bg rfl rfl <| sX [bg, I e] (I e) rfl rfl <| sA bg rfl <| sA (I e) rfl <| s_nil <| sQ rfl ?_
 obtain ⟨dF, bZ, hM⟩ := M.e_bind hM
 refine s_call cf79 [] rfl (zae bZ _ (St.give (T := [cRo al, cOwn (α := Note) 30 ak ([(⟨(0 : Int), (2 : Int), (7 : Int)⟩ : Note), (⟨(1 : Int), (0 : Int), (9 : Int)⟩ : Note)]), cOwn (α := Raw 2) 60 ah ai, cRo aj]) H rfl)) ?_
 rintro vq b6 ⟨r3, am, ao, ap, b8, hvq, ab, ca⟩
 subst b8
 subst vq
 try dsimp only at hM
 replace H : St w b6 [cOwn (α := Raw 2) 60 am ao, cRo ap, cRo al, cOwn (α := Note) 30 ak ([(⟨(0 : Int), (2 : Int), (7 : Int)⟩ : Note), (⟨(1 : Int), (0 : Int), (9 : Int)⟩ : Note)]), cOwn (α := Raw 2) 60 ah ai, cRo aj] R := H.back ab rfl
 clear ab
 refine t_bs (α := Int) T34 [I 0] [(0 : Int)] H rfl (.cons rfl (Flat.rep_enc _ (0 : Int)) <| .nil) rfl rfl rfl ?_
 intro aq dG H
 obtain ⟨⟨l2, e2⟩, cb, hM⟩ := M.e_bind hM
 obtain ⟨cc, cd⟩ := Prod.mk.inj (M.e_pure cb)
 try dsimp only at hM
 refine s_call cf32 [am, aq] rfl (by have aV := (Stale_any _ ((rowSl rfl (H.get (k := 1) rfl) (roLe _ (H.get (k := 2) rfl)) ca).mono (Cells.sup_le (ownLe _ (H.get (k := 1) rfl)) (roLe _ (H.get (k := 2) rfl)))) ((ownSl (H.get (k := 0) rfl)).mono (ownLe _ (H.get (k := 0) rfl)))); rw [cc, cd] at aV; exact aV) ?_
 rintro _ dH ⟨bh, rfl, bw, ar⟩
 obtain ⟨au, H, bw⟩ := H.fresh ar bw
 clear ar
 have dI := bw.len_le
 refine sM (.tuple #[bh, I e2]) rfl <| sX [bh, I e2] bh rfl rfl <| sX [bh, I e2] (I e2) rfl rfl <| sA bh rfl <| sA (I e2) rfl <| s_nil <| sQ rfl ?_
 obtain ⟨dJ, ce, hM⟩ := M.e_bind hM
 refine s_call cf79 [] rfl (zae ce _ (St.give (T := [cRo au, cOwn (α := Int) 3 aq ([(0 : Int)]), cOwn (α := Raw 2) 60 am ao, cRo ap, cRo al, cOwn (α := Note) 30 ak ([(⟨(0 : Int), (2 : Int), (7 : Int)⟩ : Note), (⟨(1 : Int), (0 : Int), (9 : Int)⟩ : Note)]), cOwn (α := Raw 2) 60 ah ai, cRo aj]) H rfl)) ?_
 rintro vq cf ⟨r4, av, aw, ax, cg, hvq, ab, ci⟩
 subst cg
 subst vq
 try dsimp only at hM
 replace H : St w cf [cOwn (α := Raw 2) 60 av aw, cRo ax, cRo au, cOwn (α := Int) 3 aq ([(0 : Int)]), cOwn (α := Raw 2) 60 am ao, cRo ap, cRo al, cOwn (α := Note) 30 ak ([(⟨(0 : Int), (2 : Int), (7 : Int)⟩ : Note), (⟨(1 : Int), (0 : Int), (9 : Int)⟩ : Note)]), cOwn (α := Raw 2) 60 ah ai, cRo aj] R := H.back ab rfl
 clear ab
 refine t_bs (α := Int) T34 [I 1] [(1 : Int)] H rfl (.cons rfl (Flat.rep_enc _ (1 : Int)) <| .nil) rfl rfl rfl ?_
 intro ay dK H
 obtain ⟨⟨l3, e3⟩, cj, hM⟩ := M.e_bind hM
 obtain ⟨ck, cm⟩ := Prod.mk.inj (M.e_pure cj)
 try dsimp only at hM
 refine s_call cf36 [av, ay] rfl (by have aV := (Ready_any _ ((rowSl rfl (H.get (k := 1) rfl) (roLe _ (H.get (k := 2) rfl)) ci).mono (Cells.sup_le (ownLe _ (H.get (k := 1) rfl)) (roLe _ (H.get (k := 2) rfl)))) ((ownSl (H.get (k := 0) rfl)).mono (ownLe _ (H.get (k := 0) rfl)))); rw [ck, cm] at aV; exact aV) ?_
 rintro _ dL ⟨bi, rfl, bx, ar⟩
 obtain ⟨az, H, bx⟩ := H.fresh ar bx
 clear ar
 have dM := bx.len_le
 refine sM (.tuple #[bi, I e3]) rfl <| sX [bi, I e3] bi rfl rfl <| sX [bi, I e3] (I e3) rfl rfl <| sA bi rfl <| sA (I e3) rfl <| s_nil <| sQ rfl ?_
 obtain ⟨dN, cn, hM⟩ := M.e_bind hM
 refine s_call cf79 [] rfl (zae cn _ (St.give (T := [cRo az, cOwn (α := Int) 3 ay ([(1 : Int)]), cOwn (α := Raw 2) 60 av aw, cRo ax, cRo au, cOwn (α := Int) 3 aq ([(0 : Int)]), cOwn (α := Raw 2) 60 am ao, cRo ap, cRo al, cOwn (α := Note) 30 ak ([(⟨(0 : Int), (2 : Int), (7 : Int)⟩ : Note), (⟨(1 : Int), (0 : Int), (9 : Int)⟩ : Note)]), cOwn (α := Raw 2) 60 ah ai, cRo aj]) H rfl)) ?_
 rintro vq co ⟨r5, aA, aB, aC, cp, hvq, ab, cq⟩
 subst cp
 subst vq
 try dsimp only at hM
 replace H : St w co [cOwn (α := Raw 2) 60 aA aB, cRo aC, cRo az, cOwn (α := Int) 3 ay ([(1 : Int)]), cOwn (α := Raw 2) 60 av aw, cRo ax, cRo au, cOwn (α := Int) 3 aq ([(0 : Int)]), cOwn (α := Raw 2) 60 am ao, cRo ap, cRo al, cOwn (α := Note) 30 ak ([(⟨(0 : Int), (2 : Int), (7 : Int)⟩ : Note), (⟨(1 : Int), (0 : Int), (9 : Int)⟩ : Note)]), cOwn (α := Raw 2) 60 ah ai, cRo aj] R := H.back ab rfl
 clear ab
 refine t_bs (α := Int) T34 [I 0] [(0 : Int)] H rfl (.cons rfl (Flat.rep_enc _ (0 : Int)) <| .nil) rfl rfl rfl ?_
 intro aD dO H
 obtain ⟨⟨l4, e4⟩, cr, hM⟩ := M.e_bind hM
 obtain ⟨ct, cu⟩ := Prod.mk.inj (M.e_pure cr)
 try dsimp only at hM
 refine s_call cf38 [aA, aD] rfl (by have aV := (Longest_any _ ((rowSl rfl (H.get (k := 1) rfl) (roLe _ (H.get (k := 2) rfl)) cq).mono (Cells.sup_le (ownLe _ (H.get (k := 1) rfl)) (roLe _ (H.get (k := 2) rfl)))) ((ownSl (H.get (k := 0) rfl)).mono (ownLe _ (H.get (k := 0) rfl)))); rw [ct, cu] at aV; exact aV) ?_
 rintro _ dP ⟨bj, rfl, bz, ar⟩
 obtain ⟨aE, H, bz⟩ := H.fresh ar bz
 clear ar
 have dQ := bz.len_le
 refine sM (.tuple #[bj, I e4]) rfl <| sX [bj, I e4] bj rfl rfl <| sX [bj, I e4] (I e4) rfl rfl <| sA bj rfl <| sA (I e4) rfl <| s_nil <| W.seq <| sQ rfl <| sM (I e) rfl <| sC _ _ (e != 0) rfl rfl rfl <| sM (B (e != 0)) rfl ?_
 refine g_val (!(e != 0)) (gy_f rfl) (fun hg => x_mv (v := I e2) rfl) <| g_val (!(e != 0)) (gy_f rfl) (fun hg => x_cmp (kd := .i64) (r := e2 != 0) (gd_of hg (I e2)) rfl rfl) <| s_val (x_por (b := e != 0) (r := e2 != 0) rfl rfl (fun hb => gd_of (c := !(e != 0)) (by first | exact hb | (rw [hb]; rfl) | simp_all) (B (e2 != 0)))) <| sM (B ((e != 0) || (e2 != 0))) rfl <| g_val (!((e != 0) || (e2 != 0))) (gy_f rfl) (fun hg => x_mv (v := I e3) rfl) <| g_val (!((e != 0) || (e2 != 0))) (gy_f rfl) (fun hg => x_cmp (kd := .i64) (r := e3 != 0) (gd_of hg (I e3)) rfl rfl) <| s_val (x_por (b := ((e != 0) || (e2 != 0))) (r := e3 != 0) rfl rfl (fun hb => gd_of (c := !((e != 0) || (e2 != 0))) (by first | exact hb | (rw [hb]; rfl) | simp_all) (B (e3 != 0)))) <| sM (B (((e != 0) || (e2 != 0)) || (e3 != 0))) rfl <| g_val (!(((e != 0) || (e2 != 0)) || (e3 != 0))) (gy_f rfl) (fun hg => x_mv (v := I e4) rfl) <| g_val (!(((e != 0) || (e2 != 0)) || (e3 != 0))) (gy_f rfl) (fun hg => x_cmp (kd := .i64) (r := e4 != 0) (gd_of hg (I e4)) rfl rfl) <| s_val (x_por (b := (((e != 0) || (e2 != 0)) || (e3 != 0))) (r := e4 != 0) rfl rfl (fun hb => gd_of (c := !(((e != 0) || (e2 != 0)) || (e3 != 0))) (by first | exact hb | (rw [hb]; rfl) | simp_all) (B (e4 != 0)))) <| sM (B ((((e != 0) || (e2 != 0)) || (e3 != 0)) || (e4 != 0))) rfl ?_
 refine g_val (!((((e != 0) || (e2 != 0)) || (e3 != 0)) || (e4 != 0))) (gy_f rfl) (fun hg => x_mv (v := bg) rfl) ?_
 refine t_gbs (α := Int) T34 (!((((e != 0) || (e2 != 0)) || (e3 != 0)) || (e4 != 0))) (gy_f rfl) [I 7, I 9, I 26, I 10, I 47, I 48] [(7 : Int), (9 : Int), (26 : Int), (10 : Int), (47 : Int), (48 : Int)] H (fun _ => rfl) (.cons rfl (Flat.rep_enc _ _) <| .cons rfl (Flat.rep_enc _ _) <| .cons rfl (Flat.rep_enc _ _) <| .cons rfl (Flat.rep_enc _ _) <| .cons rfl (Flat.rep_enc _ _) <| .cons rfl (Flat.rep_enc _ _) <| .nil) rfl rfl rfl ?_
 intro bK aF dR H cv
 obtain ⟨s, bB, hM⟩ := M.e_bind hM
 replace bB := M.e_pure bB
 refine t_gcall (!((((e != 0) || (e2 != 0)) || (e3 != 0)) || (e4 != 0))) (gy_f rfl) cf25 (B s) (fun _ => [bg, bK]) (fun hg => lst2 (gd_of hg (bg)) (gd_of hg (bK))) H (fun hg => Ret.mono (same_int _ (bv.mono (roLe _ (H.get (k := 13) rfl))) ((cv hg).mono (roLe _ (H.get (k := 0) rfl)))) fun v_ w_ ⟨a7, ar⟩ => ⟨a7.trans (congrArg B bB), H.ext ar⟩) ?_
 intro dS H
 refine g_val (!((((e != 0) || (e2 != 0)) || (e3 != 0)) || (e4 != 0))) (gy_f rfl) (fun hg => x_not (b := s) (gd_of hg (B s))) <| s_val (x_por (b := ((((e != 0) || (e2 != 0)) || (e3 != 0)) || (e4 != 0))) (r := !s) rfl rfl (fun hb => gd_of (c := !((((e != 0) || (e2 != 0)) || (e3 != 0)) || (e4 != 0))) (by first | exact hb | (rw [hb]; rfl) | simp_all) (B (!s)))) <| sM (B (((((e != 0) || (e2 != 0)) || (e3 != 0)) || (e4 != 0)) || (!s))) rfl <| g_val (!(((((e != 0) || (e2 != 0)) || (e3 != 0)) || (e4 != 0)) || (!s))) (gy_f rfl) (fun hg => x_mv (v := bh) rfl) ?_
 refine t_gbs (α := Int) T34 (!(((((e != 0) || (e2 != 0)) || (e3 != 0)) || (e4 != 0)) || (!s))) (gy_f rfl) [I 0, I 2, I 4, I 5] [(0 : Int), (2 : Int), (4 : Int), (5 : Int)] H (fun _ => rfl) (.cons rfl (Flat.rep_enc _ _) <| .cons rfl (Flat.rep_enc _ _) <| .cons rfl (Flat.rep_enc _ _) <| .cons rfl (Flat.rep_enc _ _) <| .nil) rfl rfl rfl ?_
 intro bL aG dT H cw
 obtain ⟨s2, bC, hM⟩ := M.e_bind hM
 replace bC := M.e_pure bC
 refine t_gcall (!(((((e != 0) || (e2 != 0)) || (e3 != 0)) || (e4 != 0)) || (!s))) (gy_f rfl) cf25 (B s2) (fun _ => [bh, bL]) (fun hg => lst2 (gd_of hg (bh)) (gd_of hg (bL))) H (fun hg => Ret.mono (same_int _ (bw.mono (roLe _ (H.get (k := 10) rfl))) ((cw hg).mono (roLe _ (H.get (k := 0) rfl)))) fun v_ w_ ⟨a7, ar⟩ => ⟨a7.trans (congrArg B bC), H.ext ar⟩) ?_
 intro dU H
 refine g_val (!(((((e != 0) || (e2 != 0)) || (e3 != 0)) || (e4 != 0)) || (!s))) (gy_f rfl) (fun hg => x_not (b := s2) (gd_of hg (B s2))) <| s_val (x_por (b := (((((e != 0) || (e2 != 0)) || (e3 != 0)) || (e4 != 0)) || (!s))) (r := !s2) rfl rfl (fun hb => gd_of (c := !(((((e != 0) || (e2 != 0)) || (e3 != 0)) || (e4 != 0)) || (!s))) (by first | exact hb | (rw [hb]; rfl) | simp_all) (B (!s2)))) <| sM (B ((((((e != 0) || (e2 != 0)) || (e3 != 0)) || (e4 != 0)) || (!s)) || (!s2))) rfl <| g_val (!((((((e != 0) || (e2 != 0)) || (e3 != 0)) || (e4 != 0)) || (!s)) || (!s2))) (gy_f rfl) (fun hg => x_mv (v := bi) rfl) ?_
 refine t_gbs (α := Int) T34 (!((((((e != 0) || (e2 != 0)) || (e3 != 0)) || (e4 != 0)) || (!s)) || (!s2))) (gy_f rfl) [I (-1), I 6, I 16, I 36, I 56, I 57] [(-1 : Int), (6 : Int), (16 : Int), (36 : Int), (56 : Int), (57 : Int)] H (fun _ => rfl) (.cons rfl (Flat.rep_enc _ _) <| .cons rfl (Flat.rep_enc _ _) <| .cons rfl (Flat.rep_enc _ _) <| .cons rfl (Flat.rep_enc _ _) <| .cons rfl (Flat.rep_enc _ _) <| .cons rfl (Flat.rep_enc _ _) <| .nil) rfl rfl rfl ?_
 intro bM aH dV H cx
 obtain ⟨s3, bD, hM⟩ := M.e_bind hM
 replace bD := M.e_pure bD
 refine t_gcall (!((((((e != 0) || (e2 != 0)) || (e3 != 0)) || (e4 != 0)) || (!s)) || (!s2))) (gy_f rfl) cf25 (B s3) (fun _ => [bi, bM]) (fun hg => lst2 (gd_of hg (bi)) (gd_of hg (bM))) H (fun hg => Ret.mono (same_int _ (bx.mono (roLe _ (H.get (k := 7) rfl))) ((cx hg).mono (roLe _ (H.get (k := 0) rfl)))) fun v_ w_ ⟨a7, ar⟩ => ⟨a7.trans (congrArg B bD), H.ext ar⟩) ?_
 intro dW H
 refine g_val (!((((((e != 0) || (e2 != 0)) || (e3 != 0)) || (e4 != 0)) || (!s)) || (!s2))) (gy_f rfl) (fun hg => x_not (b := s3) (gd_of hg (B s3))) <| s_val (x_por (b := ((((((e != 0) || (e2 != 0)) || (e3 != 0)) || (e4 != 0)) || (!s)) || (!s2))) (r := !s3) rfl rfl (fun hb => gd_of (c := !((((((e != 0) || (e2 != 0)) || (e3 != 0)) || (e4 != 0)) || (!s)) || (!s2))) (by first | exact hb | (rw [hb]; rfl) | simp_all) (B (!s3)))) <| sM (B (((((((e != 0) || (e2 != 0)) || (e3 != 0)) || (e4 != 0)) || (!s)) || (!s2)) || (!s3))) rfl <| g_val (!(((((((e != 0) || (e2 != 0)) || (e3 != 0)) || (e4 != 0)) || (!s)) || (!s2)) || (!s3))) (gy_f rfl) (fun hg => x_mv (v := bj) rfl) ?_
 refine t_gbs (α := Int) T34 (!(((((((e != 0) || (e2 != 0)) || (e3 != 0)) || (e4 != 0)) || (!s)) || (!s2)) || (!s3))) (gy_f rfl) [I 0, I 2, I 4, I 5] [(0 : Int), (2 : Int), (4 : Int), (5 : Int)] H (fun _ => rfl) (.cons rfl (Flat.rep_enc _ _) <| .cons rfl (Flat.rep_enc _ _) <| .cons rfl (Flat.rep_enc _ _) <| .cons rfl (Flat.rep_enc _ _) <| .nil) rfl rfl rfl ?_
 intro bN aI dX H cy
 obtain ⟨s4, bE, hM⟩ := M.e_bind hM
 replace bE := M.e_pure bE
 refine t_gcall (!(((((((e != 0) || (e2 != 0)) || (e3 != 0)) || (e4 != 0)) || (!s)) || (!s2)) || (!s3))) (gy_f rfl) cf25 (B s4) (fun _ => [bj, bN]) (fun hg => lst2 (gd_of hg (bj)) (gd_of hg (bN))) H (fun hg => Ret.mono (same_int _ (bz.mono (roLe _ (H.get (k := 4) rfl))) ((cy hg).mono (roLe _ (H.get (k := 0) rfl)))) fun v_ w_ ⟨a7, ar⟩ => ⟨a7.trans (congrArg B bE), H.ext ar⟩) ?_
 intro dY H
 refine g_val (!(((((((e != 0) || (e2 != 0)) || (e3 != 0)) || (e4 != 0)) || (!s)) || (!s2)) || (!s3))) (gy_f rfl) (fun hg => x_not (b := s4) (gd_of hg (B s4))) <| s_val (x_por (b := (((((((e != 0) || (e2 != 0)) || (e3 != 0)) || (e4 != 0)) || (!s)) || (!s2)) || (!s3))) (r := !s4) rfl rfl (fun hb => gd_of (c := !(((((((e != 0) || (e2 != 0)) || (e3 != 0)) || (e4 != 0)) || (!s)) || (!s2)) || (!s3))) (by first | exact hb | (rw [hb]; rfl) | simp_all) (B (!s4)))) <| s_nil ?_
 refine W.cond ((((((((e != 0) || (e2 != 0)) || (e3 != 0)) || (e4 != 0)) || (!s)) || (!s2)) || (!s3)) || (!s4)) rfl (fun bF => ?_) (fun bF => ?_)
 ·replace hM := M.e_t hM bF
  refine sQ rfl <| sA (B false) rfl <| s_nil ?_
  refine W.ret ?_
  have bp := M.e_pure hM
  exact ⟨_, resE_tmp rfl, ⟨false, bp, rfl, (H.pick [] (by decide) rfl)⟩⟩
 replace hM := M.e_f hM bF
 refine W.skip <| sQ rfl ?_
 obtain ⟨dZ, cz, hM⟩ := M.e_bind hM
 refine s_call cf79 [] rfl (zae cz _ (St.give (T := [cRo aI, cRo aH, cRo aG, cRo aF, cRo aE, cOwn (α := Int) 3 aD ([(0 : Int)]), cOwn (α := Raw 2) 60 aA aB, cRo aC, cRo az, cOwn (α := Int) 3 ay ([(1 : Int)]), cOwn (α := Raw 2) 60 av aw, cRo ax, cRo au, cOwn (α := Int) 3 aq ([(0 : Int)]), cOwn (α := Raw 2) 60 am ao, cRo ap, cRo al, cOwn (α := Note) 30 ak ([(⟨(0 : Int), (2 : Int), (7 : Int)⟩ : Note), (⟨(1 : Int), (0 : Int), (9 : Int)⟩ : Note)]), cOwn (α := Raw 2) 60 ah ai, cRo aj]) H rfl)) ?_
 rintro vq cA ⟨r6, aJ, aL, aM, cB, hvq, ab, cC⟩
 subst cB
 subst vq
 try dsimp only at hM
 replace H : St w cA [cOwn (α := Raw 2) 60 aJ aL, cRo aM, cRo aI, cRo aH, cRo aG, cRo aF, cRo aE, cOwn (α := Int) 3 aD ([(0 : Int)]), cOwn (α := Raw 2) 60 aA aB, cRo aC, cRo az, cOwn (α := Int) 3 ay ([(1 : Int)]), cOwn (α := Raw 2) 60 av aw, cRo ax, cRo au, cOwn (α := Int) 3 aq ([(0 : Int)]), cOwn (α := Raw 2) 60 am ao, cRo ap, cRo al, cOwn (α := Note) 30 ak ([(⟨(0 : Int), (2 : Int), (7 : Int)⟩ : Note), (⟨(1 : Int), (0 : Int), (9 : Int)⟩ : Note)]), cOwn (α := Raw 2) 60 ah ai, cRo aj] R := H.back ab rfl
 clear ab
 refine t_bs (α := Int) T34 [I 0] [(0 : Int)] H rfl (.cons rfl (Flat.rep_enc _ (0 : Int)) <| .nil) rfl rfl rfl ?_
 intro aN d3 H
 refine t_bs (α := Int) T34 [I 0, I 2, I 4, I 5] [(0 : Int), (2 : Int), (4 : Int), (5 : Int)] H rfl (.cons rfl (Flat.rep_enc _ (0 : Int)) <| .cons rfl (Flat.rep_enc _ (2 : Int)) <| .cons rfl (Flat.rep_enc _ (4 : Int)) <| .cons rfl (Flat.rep_enc _ (5 : Int)) <| .nil) rfl rfl rfl ?_
 intro aO d4 H
 obtain ⟨d5, cD, hM⟩ := M.e_bind hM
 refine s_call cf34 [aJ, aN, aO] rfl (zbi r6 ([(0 : Int)]) ([(0 : Int), (2 : Int), (4 : Int), (5 : Int)]) (Reads.sup (Reads.of (k := 2) rfl ownLe) (Reads.of (k := 3) rfl roLe)) (rowSl rfl (H.get (k := 2) rfl) (roLe _ (H.get (k := 3) rfl)) cC) (Reads.of (k := 1) rfl ownLe) (ownSl (H.get (k := 1) rfl)) (Reads.of (k := 0) rfl ownLe) (ownSl (H.get (k := 0) rfl)) cD _ (St.give (T := [cOwn (α := Int) 3 aO ([(0 : Int), (2 : Int), (4 : Int), (5 : Int)]), cOwn (α := Int) 3 aN ([(0 : Int)]), cOwn (α := Raw 2) 60 aJ aL, cRo aM, cRo aI, cRo aH, cRo aG, cRo aF, cRo aE, cOwn (α := Int) 3 aD ([(0 : Int)]), cOwn (α := Raw 2) 60 aA aB, cRo aC, cRo az, cOwn (α := Int) 3 ay ([(1 : Int)]), cOwn (α := Raw 2) 60 av aw, cRo ax, cRo au, cOwn (α := Int) 3 aq ([(0 : Int)]), cOwn (α := Raw 2) 60 am ao, cRo ap, cRo al, cOwn (α := Note) 30 ak ([(⟨(0 : Int), (2 : Int), (7 : Int)⟩ : Note), (⟨(1 : Int), (0 : Int), (9 : Int)⟩ : Note)]), cOwn (α := Raw 2) 60 ah ai, cRo aj]) H rfl)) ?_
 rintro vq cE ⟨r0, r1, cF, hvq, ab⟩
 subst cF
 subst vq
 try dsimp only at hM
 replace H : St w cE [cOwn (α := Int) 3 aO ([(0 : Int), (2 : Int), (4 : Int), (5 : Int)]), cOwn (α := Int) 3 aN ([(0 : Int)]), cOwn (α := Raw 2) 60 aJ aL, cRo aM, cRo aI, cRo aH, cRo aG, cRo aF, cRo aE, cOwn (α := Int) 3 aD ([(0 : Int)]), cOwn (α := Raw 2) 60 aA aB, cRo aC, cRo az, cOwn (α := Int) 3 ay ([(1 : Int)]), cOwn (α := Raw 2) 60 av aw, cRo ax, cRo au, cOwn (α := Int) 3 aq ([(0 : Int)]), cOwn (α := Raw 2) 60 am ao, cRo ap, cRo al, cOwn (α := Note) 30 ak ([(⟨(0 : Int), (2 : Int), (7 : Int)⟩ : Note), (⟨(1 : Int), (0 : Int), (9 : Int)⟩ : Note)]), cOwn (α := Raw 2) 60 ah ai, cRo aj] R := H.back ab rfl
 clear ab
 refine sM (.tuple #[B r0, I r1]) rfl <| sX [B r0, I r1] (B r0) rfl rfl <| sX [B r0, I r1] (I r1) rfl rfl <| sA (B r0) rfl <| sA (I r1) rfl <| s_nil <| sQ rfl ?_
 obtain ⟨d6, cG, hM⟩ := M.e_bind hM
 refine s_call cf79 [] rfl (zae cG _ (St.give (T := [cOwn (α := Int) 3 aO ([(0 : Int), (2 : Int), (4 : Int), (5 : Int)]), cOwn (α := Int) 3 aN ([(0 : Int)]), cOwn (α := Raw 2) 60 aJ aL, cRo aM, cRo aI, cRo aH, cRo aG, cRo aF, cRo aE, cOwn (α := Int) 3 aD ([(0 : Int)]), cOwn (α := Raw 2) 60 aA aB, cRo aC, cRo az, cOwn (α := Int) 3 ay ([(1 : Int)]), cOwn (α := Raw 2) 60 av aw, cRo ax, cRo au, cOwn (α := Int) 3 aq ([(0 : Int)]), cOwn (α := Raw 2) 60 am ao, cRo ap, cRo al, cOwn (α := Note) 30 ak ([(⟨(0 : Int), (2 : Int), (7 : Int)⟩ : Note), (⟨(1 : Int), (0 : Int), (9 : Int)⟩ : Note)]), cOwn (α := Raw 2) 60 ah ai, cRo aj]) H rfl)) ?_
 rintro vq cH ⟨r7, aQ, aR, aS, cI, hvq, ab, cJ⟩
 subst cI
 subst vq
 try dsimp only at hM
 replace H : St w cH [cOwn (α := Raw 2) 60 aQ aR, cRo aS, cOwn (α := Int) 3 aO ([(0 : Int), (2 : Int), (4 : Int), (5 : Int)]), cOwn (α := Int) 3 aN ([(0 : Int)]), cOwn (α := Raw 2) 60 aJ aL, cRo aM, cRo aI, cRo aH, cRo aG, cRo aF, cRo aE, cOwn (α := Int) 3 aD ([(0 : Int)]), cOwn (α := Raw 2) 60 aA aB, cRo aC, cRo az, cOwn (α := Int) 3 ay ([(1 : Int)]), cOwn (α := Raw 2) 60 av aw, cRo ax, cRo au, cOwn (α := Int) 3 aq ([(0 : Int)]), cOwn (α := Raw 2) 60 am ao, cRo ap, cRo al, cOwn (α := Note) 30 ak ([(⟨(0 : Int), (2 : Int), (7 : Int)⟩ : Note), (⟨(1 : Int), (0 : Int), (9 : Int)⟩ : Note)]), cOwn (α := Raw 2) 60 ah ai, cRo aj] R := H.back ab rfl
 clear ab
 refine t_bs (α := Int) T34 [I 0] [(0 : Int)] H rfl (.cons rfl (Flat.rep_enc _ (0 : Int)) <| .nil) rfl rfl rfl ?_
 intro aT d7 H
 refine t_bs (α := Int) T34 [I 0, I 2, I 4] [(0 : Int), (2 : Int), (4 : Int)] H rfl (.cons rfl (Flat.rep_enc _ (0 : Int)) <| .cons rfl (Flat.rep_enc _ (2 : Int)) <| .cons rfl (Flat.rep_enc _ (4 : Int)) <| .nil) rfl rfl rfl ?_
 intro aU d8 H
 obtain ⟨d9, cK, hM⟩ := M.e_bind hM
 refine s_call cf34 [aQ, aT, aU] rfl (zbi r7 ([(0 : Int)]) ([(0 : Int), (2 : Int), (4 : Int)]) (Reads.sup (Reads.of (k := 2) rfl ownLe) (Reads.of (k := 3) rfl roLe)) (rowSl rfl (H.get (k := 2) rfl) (roLe _ (H.get (k := 3) rfl)) cJ) (Reads.of (k := 1) rfl ownLe) (ownSl (H.get (k := 1) rfl)) (Reads.of (k := 0) rfl ownLe) (ownSl (H.get (k := 0) rfl)) cK _ (St.give (T := [cOwn (α := Int) 3 aU ([(0 : Int), (2 : Int), (4 : Int)]), cOwn (α := Int) 3 aT ([(0 : Int)]), cOwn (α := Raw 2) 60 aQ aR, cRo aS, cOwn (α := Int) 3 aO ([(0 : Int), (2 : Int), (4 : Int), (5 : Int)]), cOwn (α := Int) 3 aN ([(0 : Int)]), cOwn (α := Raw 2) 60 aJ aL, cRo aM, cRo aI, cRo aH, cRo aG, cRo aF, cRo aE, cOwn (α := Int) 3 aD ([(0 : Int)]), cOwn (α := Raw 2) 60 aA aB, cRo aC, cRo az, cOwn (α := Int) 3 ay ([(1 : Int)]), cOwn (α := Raw 2) 60 av aw, cRo ax, cRo au, cOwn (α := Int) 3 aq ([(0 : Int)]), cOwn (α := Raw 2) 60 am ao, cRo ap, cRo al, cOwn (α := Note) 30 ak ([(⟨(0 : Int), (2 : Int), (7 : Int)⟩ : Note), (⟨(1 : Int), (0 : Int), (9 : Int)⟩ : Note)]), cOwn (α := Raw 2) 60 ah ai, cRo aj]) H rfl)) ?_
 rintro vq cL ⟨aK, aa, cM, hvq, ab⟩
 subst cM
 subst vq
 try dsimp only at hM
 replace H : St w cL [cOwn (α := Int) 3 aU ([(0 : Int), (2 : Int), (4 : Int)]), cOwn (α := Int) 3 aT ([(0 : Int)]), cOwn (α := Raw 2) 60 aQ aR, cRo aS, cOwn (α := Int) 3 aO ([(0 : Int), (2 : Int), (4 : Int), (5 : Int)]), cOwn (α := Int) 3 aN ([(0 : Int)]), cOwn (α := Raw 2) 60 aJ aL, cRo aM, cRo aI, cRo aH, cRo aG, cRo aF, cRo aE, cOwn (α := Int) 3 aD ([(0 : Int)]), cOwn (α := Raw 2) 60 aA aB, cRo aC, cRo az, cOwn (α := Int) 3 ay ([(1 : Int)]), cOwn (α := Raw 2) 60 av aw, cRo ax, cRo au, cOwn (α := Int) 3 aq ([(0 : Int)]), cOwn (α := Raw 2) 60 am ao, cRo ap, cRo al, cOwn (α := Note) 30 ak ([(⟨(0 : Int), (2 : Int), (7 : Int)⟩ : Note), (⟨(1 : Int), (0 : Int), (9 : Int)⟩ : Note)]), cOwn (α := Raw 2) 60 ah ai, cRo aj] R := H.back ab rfl
 clear ab
 refine sM (.tuple #[B aK, I aa]) rfl <| sX [B aK, I aa] (B aK) rfl rfl <| sX [B aK, I aa] (I aa) rfl rfl <| sA (B aK) rfl <| sA (I aa) rfl <| s_nil <| sQ rfl ?_
 obtain ⟨ec, cN, hM⟩ := M.e_bind hM
 refine s_call cf79 [] rfl (zae cN _ (St.give (T := [cOwn (α := Int) 3 aU ([(0 : Int), (2 : Int), (4 : Int)]), cOwn (α := Int) 3 aT ([(0 : Int)]), cOwn (α := Raw 2) 60 aQ aR, cRo aS, cOwn (α := Int) 3 aO ([(0 : Int), (2 : Int), (4 : Int), (5 : Int)]), cOwn (α := Int) 3 aN ([(0 : Int)]), cOwn (α := Raw 2) 60 aJ aL, cRo aM, cRo aI, cRo aH, cRo aG, cRo aF, cRo aE, cOwn (α := Int) 3 aD ([(0 : Int)]), cOwn (α := Raw 2) 60 aA aB, cRo aC, cRo az, cOwn (α := Int) 3 ay ([(1 : Int)]), cOwn (α := Raw 2) 60 av aw, cRo ax, cRo au, cOwn (α := Int) 3 aq ([(0 : Int)]), cOwn (α := Raw 2) 60 am ao, cRo ap, cRo al, cOwn (α := Note) 30 ak ([(⟨(0 : Int), (2 : Int), (7 : Int)⟩ : Note), (⟨(1 : Int), (0 : Int), (9 : Int)⟩ : Note)]), cOwn (α := Raw 2) 60 ah ai, cRo aj]) H rfl)) ?_
 rintro vq cO ⟨r8, aW, aY, aZ, cP, hvq, ab, cQ⟩
 subst cP
 subst vq
 try dsimp only at hM
 replace H : St w cO [cOwn (α := Raw 2) 60 aW aY, cRo aZ, cOwn (α := Int) 3 aU ([(0 : Int), (2 : Int), (4 : Int)]), cOwn (α := Int) 3 aT ([(0 : Int)]), cOwn (α := Raw 2) 60 aQ aR, cRo aS, cOwn (α := Int) 3 aO ([(0 : Int), (2 : Int), (4 : Int), (5 : Int)]), cOwn (α := Int) 3 aN ([(0 : Int)]), cOwn (α := Raw 2) 60 aJ aL, cRo aM, cRo aI, cRo aH, cRo aG, cRo aF, cRo aE, cOwn (α := Int) 3 aD ([(0 : Int)]), cOwn (α := Raw 2) 60 aA aB, cRo aC, cRo az, cOwn (α := Int) 3 ay ([(1 : Int)]), cOwn (α := Raw 2) 60 av aw, cRo ax, cRo au, cOwn (α := Int) 3 aq ([(0 : Int)]), cOwn (α := Raw 2) 60 am ao, cRo ap, cRo al, cOwn (α := Note) 30 ak ([(⟨(0 : Int), (2 : Int), (7 : Int)⟩ : Note), (⟨(1 : Int), (0 : Int), (9 : Int)⟩ : Note)]), cOwn (α := Raw 2) 60 ah ai, cRo aj] R := H.back ab rfl
 clear ab
 refine t_bs (α := Int) T34 [I 1] [(1 : Int)] H rfl (.cons rfl (Flat.rep_enc _ (1 : Int)) <| .nil) rfl rfl rfl ?_
 intro a6 ed H
 obtain ⟨ee, cR, hM⟩ := M.e_bind hM
 refine s_call cf64 [aW, a6, I 4] rfl (zaW r8 ([(1 : Int)]) 4 (Reads.sup (Reads.of (k := 1) rfl ownLe) (Reads.of (k := 2) rfl roLe)) (rowSl rfl (H.get (k := 1) rfl) (roLe _ (H.get (k := 2) rfl)) cQ) (Reads.of (k := 0) rfl ownLe) (ownSl (H.get (k := 0) rfl)) cR _ (St.give (T := [cOwn (α := Int) 3 a6 ([(1 : Int)]), cOwn (α := Raw 2) 60 aW aY, cRo aZ, cOwn (α := Int) 3 aU ([(0 : Int), (2 : Int), (4 : Int)]), cOwn (α := Int) 3 aT ([(0 : Int)]), cOwn (α := Raw 2) 60 aQ aR, cRo aS, cOwn (α := Int) 3 aO ([(0 : Int), (2 : Int), (4 : Int), (5 : Int)]), cOwn (α := Int) 3 aN ([(0 : Int)]), cOwn (α := Raw 2) 60 aJ aL, cRo aM, cRo aI, cRo aH, cRo aG, cRo aF, cRo aE, cOwn (α := Int) 3 aD ([(0 : Int)]), cOwn (α := Raw 2) 60 aA aB, cRo aC, cRo az, cOwn (α := Int) 3 ay ([(1 : Int)]), cOwn (α := Raw 2) 60 av aw, cRo ax, cRo au, cOwn (α := Int) 3 aq ([(0 : Int)]), cOwn (α := Raw 2) 60 am ao, cRo ap, cRo al, cOwn (α := Note) 30 ak ([(⟨(0 : Int), (2 : Int), (7 : Int)⟩ : Note), (⟨(1 : Int), (0 : Int), (9 : Int)⟩ : Note)]), cOwn (α := Raw 2) 60 ah ai, cRo aj]) H rfl)) ?_
 rintro vq cS ⟨a8, ac, aP, cT, hvq, ab⟩
 subst cT
 subst vq
 try dsimp only at hM
 replace H : St w cS [cOwn (α := Int) 3 aP a8, cOwn (α := Int) 3 a6 ([(1 : Int)]), cOwn (α := Raw 2) 60 aW aY, cRo aZ, cOwn (α := Int) 3 aU ([(0 : Int), (2 : Int), (4 : Int)]), cOwn (α := Int) 3 aT ([(0 : Int)]), cOwn (α := Raw 2) 60 aQ aR, cRo aS, cOwn (α := Int) 3 aO ([(0 : Int), (2 : Int), (4 : Int), (5 : Int)]), cOwn (α := Int) 3 aN ([(0 : Int)]), cOwn (α := Raw 2) 60 aJ aL, cRo aM, cRo aI, cRo aH, cRo aG, cRo aF, cRo aE, cOwn (α := Int) 3 aD ([(0 : Int)]), cOwn (α := Raw 2) 60 aA aB, cRo aC, cRo az, cOwn (α := Int) 3 ay ([(1 : Int)]), cOwn (α := Raw 2) 60 av aw, cRo ax, cRo au, cOwn (α := Int) 3 aq ([(0 : Int)]), cOwn (α := Raw 2) 60 am ao, cRo ap, cRo al, cOwn (α := Note) 30 ak ([(⟨(0 : Int), (2 : Int), (7 : Int)⟩ : Note), (⟨(1 : Int), (0 : Int), (9 : Int)⟩ : Note)]), cOwn (α := Raw 2) 60 ah ai, cRo aj] R := H.back ab rfl
 clear ab
 refine sM (.tuple #[aP, I ac]) rfl <| sX [aP, I ac] aP rfl rfl <| sX [aP, I ac] (I ac) rfl rfl <| sA aP rfl <| sA (I ac) rfl <| s_nil <| sQ rfl ?_
 obtain ⟨eg, cU, hM⟩ := M.e_bind hM
 refine s_call cf79 [] rfl (zae cU _ (St.give (T := [cOwn (α := Int) 3 aP a8, cOwn (α := Int) 3 a6 ([(1 : Int)]), cOwn (α := Raw 2) 60 aW aY, cRo aZ, cOwn (α := Int) 3 aU ([(0 : Int), (2 : Int), (4 : Int)]), cOwn (α := Int) 3 aT ([(0 : Int)]), cOwn (α := Raw 2) 60 aQ aR, cRo aS, cOwn (α := Int) 3 aO ([(0 : Int), (2 : Int), (4 : Int), (5 : Int)]), cOwn (α := Int) 3 aN ([(0 : Int)]), cOwn (α := Raw 2) 60 aJ aL, cRo aM, cRo aI, cRo aH, cRo aG, cRo aF, cRo aE, cOwn (α := Int) 3 aD ([(0 : Int)]), cOwn (α := Raw 2) 60 aA aB, cRo aC, cRo az, cOwn (α := Int) 3 ay ([(1 : Int)]), cOwn (α := Raw 2) 60 av aw, cRo ax, cRo au, cOwn (α := Int) 3 aq ([(0 : Int)]), cOwn (α := Raw 2) 60 am ao, cRo ap, cRo al, cOwn (α := Note) 30 ak ([(⟨(0 : Int), (2 : Int), (7 : Int)⟩ : Note), (⟨(1 : Int), (0 : Int), (9 : Int)⟩ : Note)]), cOwn (α := Raw 2) 60 ah ai, cRo aj]) H rfl)) ?_
 rintro vq cV ⟨r9, ba, bb, bc, cW, hvq, ab, cX⟩
 subst cW
 subst vq
 try dsimp only at hM
 replace H : St w cV [cOwn (α := Raw 2) 60 ba bb, cRo bc, cOwn (α := Int) 3 aP a8, cOwn (α := Int) 3 a6 ([(1 : Int)]), cOwn (α := Raw 2) 60 aW aY, cRo aZ, cOwn (α := Int) 3 aU ([(0 : Int), (2 : Int), (4 : Int)]), cOwn (α := Int) 3 aT ([(0 : Int)]), cOwn (α := Raw 2) 60 aQ aR, cRo aS, cOwn (α := Int) 3 aO ([(0 : Int), (2 : Int), (4 : Int), (5 : Int)]), cOwn (α := Int) 3 aN ([(0 : Int)]), cOwn (α := Raw 2) 60 aJ aL, cRo aM, cRo aI, cRo aH, cRo aG, cRo aF, cRo aE, cOwn (α := Int) 3 aD ([(0 : Int)]), cOwn (α := Raw 2) 60 aA aB, cRo aC, cRo az, cOwn (α := Int) 3 ay ([(1 : Int)]), cOwn (α := Raw 2) 60 av aw, cRo ax, cRo au, cOwn (α := Int) 3 aq ([(0 : Int)]), cOwn (α := Raw 2) 60 am ao, cRo ap, cRo al, cOwn (α := Note) 30 ak ([(⟨(0 : Int), (2 : Int), (7 : Int)⟩ : Note), (⟨(1 : Int), (0 : Int), (9 : Int)⟩ : Note)]), cOwn (α := Raw 2) 60 ah ai, cRo aj] R := H.back ab rfl
 clear ab
 refine t_bs (α := Int) T34 [I 1] [(1 : Int)] H rfl (.cons rfl (Flat.rep_enc _ (1 : Int)) <| .nil) rfl rfl rfl ?_
 intro bf eh H
 obtain ⟨ei, cY, hM⟩ := M.e_bind hM
 refine s_call cf65 [ba, bf, I 4] rfl (zbl r9 ([(1 : Int)]) 4 (Reads.sup (Reads.of (k := 1) rfl ownLe) (Reads.of (k := 2) rfl roLe)) (rowSl rfl (H.get (k := 1) rfl) (roLe _ (H.get (k := 2) rfl)) cX) (Reads.of (k := 0) rfl ownLe) (ownSl (H.get (k := 0) rfl)) cY _ (St.give (T := [cOwn (α := Int) 3 bf ([(1 : Int)]), cOwn (α := Raw 2) 60 ba bb, cRo bc, cOwn (α := Int) 3 aP a8, cOwn (α := Int) 3 a6 ([(1 : Int)]), cOwn (α := Raw 2) 60 aW aY, cRo aZ, cOwn (α := Int) 3 aU ([(0 : Int), (2 : Int), (4 : Int)]), cOwn (α := Int) 3 aT ([(0 : Int)]), cOwn (α := Raw 2) 60 aQ aR, cRo aS, cOwn (α := Int) 3 aO ([(0 : Int), (2 : Int), (4 : Int), (5 : Int)]), cOwn (α := Int) 3 aN ([(0 : Int)]), cOwn (α := Raw 2) 60 aJ aL, cRo aM, cRo aI, cRo aH, cRo aG, cRo aF, cRo aE, cOwn (α := Int) 3 aD ([(0 : Int)]), cOwn (α := Raw 2) 60 aA aB, cRo aC, cRo az, cOwn (α := Int) 3 ay ([(1 : Int)]), cOwn (α := Raw 2) 60 av aw, cRo ax, cRo au, cOwn (α := Int) 3 aq ([(0 : Int)]), cOwn (α := Raw 2) 60 am ao, cRo ap, cRo al, cOwn (α := Note) 30 ak ([(⟨(0 : Int), (2 : Int), (7 : Int)⟩ : Note), (⟨(1 : Int), (0 : Int), (9 : Int)⟩ : Note)]), cOwn (α := Raw 2) 60 ah ai, cRo aj]) H rfl)) ?_
 rintro vq cZ ⟨bq, ae, aX, bm, bn, da, hvq, ab, db⟩
 subst da
 subst vq
 try dsimp only at hM
 replace H : St w cZ [cOwn (α := Raw 0) 34 aX bm, cRo bn, cOwn (α := Int) 3 bf ([(1 : Int)]), cOwn (α := Raw 2) 60 ba bb, cRo bc, cOwn (α := Int) 3 aP a8, cOwn (α := Int) 3 a6 ([(1 : Int)]), cOwn (α := Raw 2) 60 aW aY, cRo aZ, cOwn (α := Int) 3 aU ([(0 : Int), (2 : Int), (4 : Int)]), cOwn (α := Int) 3 aT ([(0 : Int)]), cOwn (α := Raw 2) 60 aQ aR, cRo aS, cOwn (α := Int) 3 aO ([(0 : Int), (2 : Int), (4 : Int), (5 : Int)]), cOwn (α := Int) 3 aN ([(0 : Int)]), cOwn (α := Raw 2) 60 aJ aL, cRo aM, cRo aI, cRo aH, cRo aG, cRo aF, cRo aE, cOwn (α := Int) 3 aD ([(0 : Int)]), cOwn (α := Raw 2) 60 aA aB, cRo aC, cRo az, cOwn (α := Int) 3 ay ([(1 : Int)]), cOwn (α := Raw 2) 60 av aw, cRo ax, cRo au, cOwn (α := Int) 3 aq ([(0 : Int)]), cOwn (α := Raw 2) 60 am ao, cRo ap, cRo al, cOwn (α := Note) 30 ak ([(⟨(0 : Int), (2 : Int), (7 : Int)⟩ : Note), (⟨(1 : Int), (0 : Int), (9 : Int)⟩ : Note)]), cOwn (α := Raw 2) 60 ah ai, cRo aj] R := H.back ab rfl
 clear ab
 refine sM (.tuple #[aX, I ae]) rfl <| sX [aX, I ae] aX rfl rfl <| sX [aX, I ae] (I ae) rfl rfl <| sA aX rfl <| sA (I ae) rfl <| s_nil <| sQ rfl ?_
 obtain ⟨ej, dc, hM⟩ := M.e_bind hM
 refine s_call cf79 [] rfl (zae dc _ (St.give (T := [cOwn (α := Raw 0) 34 aX bm, cRo bn, cOwn (α := Int) 3 bf ([(1 : Int)]), cOwn (α := Raw 2) 60 ba bb, cRo bc, cOwn (α := Int) 3 aP a8, cOwn (α := Int) 3 a6 ([(1 : Int)]), cOwn (α := Raw 2) 60 aW aY, cRo aZ, cOwn (α := Int) 3 aU ([(0 : Int), (2 : Int), (4 : Int)]), cOwn (α := Int) 3 aT ([(0 : Int)]), cOwn (α := Raw 2) 60 aQ aR, cRo aS, cOwn (α := Int) 3 aO ([(0 : Int), (2 : Int), (4 : Int), (5 : Int)]), cOwn (α := Int) 3 aN ([(0 : Int)]), cOwn (α := Raw 2) 60 aJ aL, cRo aM, cRo aI, cRo aH, cRo aG, cRo aF, cRo aE, cOwn (α := Int) 3 aD ([(0 : Int)]), cOwn (α := Raw 2) 60 aA aB, cRo aC, cRo az, cOwn (α := Int) 3 ay ([(1 : Int)]), cOwn (α := Raw 2) 60 av aw, cRo ax, cRo au, cOwn (α := Int) 3 aq ([(0 : Int)]), cOwn (α := Raw 2) 60 am ao, cRo ap, cRo al, cOwn (α := Note) 30 ak ([(⟨(0 : Int), (2 : Int), (7 : Int)⟩ : Note), (⟨(1 : Int), (0 : Int), (9 : Int)⟩ : Note)]), cOwn (α := Raw 2) 60 ah ai, cRo aj]) H rfl)) ?_
 rintro vq dd ⟨de, bo, br, bt, dg, hvq, ab, dh⟩
 subst dg
 subst vq
 try dsimp only at hM
 replace H : St w dd [cOwn (α := Raw 2) 60 bo br, cRo bt, cOwn (α := Raw 0) 34 aX bm, cRo bn, cOwn (α := Int) 3 bf ([(1 : Int)]), cOwn (α := Raw 2) 60 ba bb, cRo bc, cOwn (α := Int) 3 aP a8, cOwn (α := Int) 3 a6 ([(1 : Int)]), cOwn (α := Raw 2) 60 aW aY, cRo aZ, cOwn (α := Int) 3 aU ([(0 : Int), (2 : Int), (4 : Int)]), cOwn (α := Int) 3 aT ([(0 : Int)]), cOwn (α := Raw 2) 60 aQ aR, cRo aS, cOwn (α := Int) 3 aO ([(0 : Int), (2 : Int), (4 : Int), (5 : Int)]), cOwn (α := Int) 3 aN ([(0 : Int)]), cOwn (α := Raw 2) 60 aJ aL, cRo aM, cRo aI, cRo aH, cRo aG, cRo aF, cRo aE, cOwn (α := Int) 3 aD ([(0 : Int)]), cOwn (α := Raw 2) 60 aA aB, cRo aC, cRo az, cOwn (α := Int) 3 ay ([(1 : Int)]), cOwn (α := Raw 2) 60 av aw, cRo ax, cRo au, cOwn (α := Int) 3 aq ([(0 : Int)]), cOwn (α := Raw 2) 60 am ao, cRo ap, cRo al, cOwn (α := Note) 30 ak ([(⟨(0 : Int), (2 : Int), (7 : Int)⟩ : Note), (⟨(1 : Int), (0 : Int), (9 : Int)⟩ : Note)]), cOwn (α := Raw 2) 60 ah ai, cRo aj] R := H.back ab rfl
 clear ab
 refine t_bs (α := Int) T34 [I 1] [(1 : Int)] H rfl (.cons rfl (Flat.rep_enc _ (1 : Int)) <| .nil) rfl rfl rfl ?_
 intro bu el H
 obtain ⟨em, di, hM⟩ := M.e_bind hM
 refine s_call cf64 [bo, bu, I 3] rfl (zaW de ([(1 : Int)]) 3 (Reads.sup (Reads.of (k := 1) rfl ownLe) (Reads.of (k := 2) rfl roLe)) (rowSl rfl (H.get (k := 1) rfl) (roLe _ (H.get (k := 2) rfl)) dh) (Reads.of (k := 0) rfl ownLe) (ownSl (H.get (k := 0) rfl)) di _ (St.give (T := [cOwn (α := Int) 3 bu ([(1 : Int)]), cOwn (α := Raw 2) 60 bo br, cRo bt, cOwn (α := Raw 0) 34 aX bm, cRo bn, cOwn (α := Int) 3 bf ([(1 : Int)]), cOwn (α := Raw 2) 60 ba bb, cRo bc, cOwn (α := Int) 3 aP a8, cOwn (α := Int) 3 a6 ([(1 : Int)]), cOwn (α := Raw 2) 60 aW aY, cRo aZ, cOwn (α := Int) 3 aU ([(0 : Int), (2 : Int), (4 : Int)]), cOwn (α := Int) 3 aT ([(0 : Int)]), cOwn (α := Raw 2) 60 aQ aR, cRo aS, cOwn (α := Int) 3 aO ([(0 : Int), (2 : Int), (4 : Int), (5 : Int)]), cOwn (α := Int) 3 aN ([(0 : Int)]), cOwn (α := Raw 2) 60 aJ aL, cRo aM, cRo aI, cRo aH, cRo aG, cRo aF, cRo aE, cOwn (α := Int) 3 aD ([(0 : Int)]), cOwn (α := Raw 2) 60 aA aB, cRo aC, cRo az, cOwn (α := Int) 3 ay ([(1 : Int)]), cOwn (α := Raw 2) 60 av aw, cRo ax, cRo au, cOwn (α := Int) 3 aq ([(0 : Int)]), cOwn (α := Raw 2) 60 am ao, cRo ap, cRo al, cOwn (α := Note) 30 ak ([(⟨(0 : Int), (2 : Int), (7 : Int)⟩ : Note), (⟨(1 : Int), (0 : Int), (9 : Int)⟩ : Note)]), cOwn (α := Raw 2) 60 ah ai, cRo aj]) H rfl)) ?_
 rintro vq dj ⟨bG, ag, bk, dk, hvq, ab⟩
 subst dk
 subst vq
 try dsimp only at hM
 replace H : St w dj [cOwn (α := Int) 3 bk bG, cOwn (α := Int) 3 bu ([(1 : Int)]), cOwn (α := Raw 2) 60 bo br, cRo bt, cOwn (α := Raw 0) 34 aX bm, cRo bn, cOwn (α := Int) 3 bf ([(1 : Int)]), cOwn (α := Raw 2) 60 ba bb, cRo bc, cOwn (α := Int) 3 aP a8, cOwn (α := Int) 3 a6 ([(1 : Int)]), cOwn (α := Raw 2) 60 aW aY, cRo aZ, cOwn (α := Int) 3 aU ([(0 : Int), (2 : Int), (4 : Int)]), cOwn (α := Int) 3 aT ([(0 : Int)]), cOwn (α := Raw 2) 60 aQ aR, cRo aS, cOwn (α := Int) 3 aO ([(0 : Int), (2 : Int), (4 : Int), (5 : Int)]), cOwn (α := Int) 3 aN ([(0 : Int)]), cOwn (α := Raw 2) 60 aJ aL, cRo aM, cRo aI, cRo aH, cRo aG, cRo aF, cRo aE, cOwn (α := Int) 3 aD ([(0 : Int)]), cOwn (α := Raw 2) 60 aA aB, cRo aC, cRo az, cOwn (α := Int) 3 ay ([(1 : Int)]), cOwn (α := Raw 2) 60 av aw, cRo ax, cRo au, cOwn (α := Int) 3 aq ([(0 : Int)]), cOwn (α := Raw 2) 60 am ao, cRo ap, cRo al, cOwn (α := Note) 30 ak ([(⟨(0 : Int), (2 : Int), (7 : Int)⟩ : Note), (⟨(1 : Int), (0 : Int), (9 : Int)⟩ : Note)]), cOwn (α := Raw 2) 60 ah ai, cRo aj] R := H.back ab rfl
 clear ab
 refine sM (.tuple #[bk, I ag]) rfl <| sX [bk, I ag] bk rfl rfl <| sX [bk, I ag] (I ag) rfl rfl <| sA bk rfl <| sA (I ag) rfl <| s_nil <| W.seq <| sQ rfl <| sM (I r1) rfl <| sC _ _ (r1 != 0) rfl rfl rfl <| sM (B (r1 != 0)) rfl ?_
 refine g_val (!(r1 != 0)) (gy_f rfl) (fun hg => x_mv (v := I aa) rfl) <| g_val (!(r1 != 0)) (gy_f rfl) (fun hg => x_cmp (kd := .i64) (r := aa != 0) (gd_of hg (I aa)) rfl rfl) <| s_val (x_por (b := r1 != 0) (r := aa != 0) rfl rfl (fun hb => gd_of (c := !(r1 != 0)) (by first | exact hb | (rw [hb]; rfl) | simp_all) (B (aa != 0)))) <| sM (B ((r1 != 0) || (aa != 0))) rfl <| g_val (!((r1 != 0) || (aa != 0))) (gy_f rfl) (fun hg => x_mv (v := I ac) rfl) <| g_val (!((r1 != 0) || (aa != 0))) (gy_f rfl) (fun hg => x_cmp (kd := .i64) (r := ac != 0) (gd_of hg (I ac)) rfl rfl) <| s_val (x_por (b := ((r1 != 0) || (aa != 0))) (r := ac != 0) rfl rfl (fun hb => gd_of (c := !((r1 != 0) || (aa != 0))) (by first | exact hb | (rw [hb]; rfl) | simp_all) (B (ac != 0)))) <| sM (B (((r1 != 0) || (aa != 0)) || (ac != 0))) rfl <| g_val (!(((r1 != 0) || (aa != 0)) || (ac != 0))) (gy_f rfl) (fun hg => x_mv (v := I ae) rfl) <| g_val (!(((r1 != 0) || (aa != 0)) || (ac != 0))) (gy_f rfl) (fun hg => x_cmp (kd := .i64) (r := ae != 0) (gd_of hg (I ae)) rfl rfl) <| s_val (x_por (b := (((r1 != 0) || (aa != 0)) || (ac != 0))) (r := ae != 0) rfl rfl (fun hb => gd_of (c := !(((r1 != 0) || (aa != 0)) || (ac != 0))) (by first | exact hb | (rw [hb]; rfl) | simp_all) (B (ae != 0)))) <| sM (B ((((r1 != 0) || (aa != 0)) || (ac != 0)) || (ae != 0))) rfl ?_
 refine g_val (!((((r1 != 0) || (aa != 0)) || (ac != 0)) || (ae != 0))) (gy_f rfl) (fun hg => x_mv (v := I ag) rfl) <| g_val (!((((r1 != 0) || (aa != 0)) || (ac != 0)) || (ae != 0))) (gy_f rfl) (fun hg => x_cmp (kd := .i64) (r := ag != 5) (gd_of hg (I ag)) rfl rfl) <| s_val (x_por (b := ((((r1 != 0) || (aa != 0)) || (ac != 0)) || (ae != 0))) (r := ag != 5) rfl rfl (fun hb => gd_of (c := !((((r1 != 0) || (aa != 0)) || (ac != 0)) || (ae != 0))) (by first | exact hb | (rw [hb]; rfl) | simp_all) (B (ag != 5)))) <| sM (B (((((r1 != 0) || (aa != 0)) || (ac != 0)) || (ae != 0)) || (ag != 5))) rfl <| g_val (!(((((r1 != 0) || (aa != 0)) || (ac != 0)) || (ae != 0)) || (ag != 5))) (gy_f rfl) (fun hg => x_mv (v := B r0) rfl) <| g_val (!(((((r1 != 0) || (aa != 0)) || (ac != 0)) || (ae != 0)) || (ag != 5))) (gy_f rfl) (fun hg => x_not (b := r0) (gd_of hg (B r0))) <| s_val (x_por (b := (((((r1 != 0) || (aa != 0)) || (ac != 0)) || (ae != 0)) || (ag != 5))) (r := !r0) rfl rfl (fun hb => gd_of (c := !(((((r1 != 0) || (aa != 0)) || (ac != 0)) || (ae != 0)) || (ag != 5))) (by first | exact hb | (rw [hb]; rfl) | simp_all) (B (!r0)))) <| sM (B ((((((r1 != 0) || (aa != 0)) || (ac != 0)) || (ae != 0)) || (ag != 5)) || (!r0))) rfl <| g_val (!((((((r1 != 0) || (aa != 0)) || (ac != 0)) || (ae != 0)) || (ag != 5)) || (!r0))) (gy_f rfl) (fun hg => x_mv (v := B aK) rfl) <| s_val (x_por (b := ((((((r1 != 0) || (aa != 0)) || (ac != 0)) || (ae != 0)) || (ag != 5)) || (!r0))) (r := aK) rfl rfl (fun hb => gd_of (c := !((((((r1 != 0) || (aa != 0)) || (ac != 0)) || (ae != 0)) || (ag != 5)) || (!r0))) (by first | exact hb | (rw [hb]; rfl) | simp_all) (B aK))) <| sM (B (((((((r1 != 0) || (aa != 0)) || (ac != 0)) || (ae != 0)) || (ag != 5)) || (!r0)) || aK)) rfl <| g_val (!(((((((r1 != 0) || (aa != 0)) || (ac != 0)) || (ae != 0)) || (ag != 5)) || (!r0)) || aK)) (gy_f rfl) (fun hg => x_mv (v := aP) rfl) ?_
 refine t_gbs (α := Int) T34 (!(((((((r1 != 0) || (aa != 0)) || (ac != 0)) || (ae != 0)) || (ag != 5)) || (!r0)) || aK)) (gy_f rfl) [I 2, I 3] [(2 : Int), (3 : Int)] H (fun _ => rfl) (.cons rfl (Flat.rep_enc _ _) <| .cons rfl (Flat.rep_enc _ _) <| .nil) rfl rfl rfl ?_
 intro bO bP eo H dl
 obtain ⟨s5, bH, hM⟩ := M.e_bind hM
 replace bH := M.e_pure bH
 refine t_gcall (!(((((((r1 != 0) || (aa != 0)) || (ac != 0)) || (ae != 0)) || (ag != 5)) || (!r0)) || aK)) (gy_f rfl) cf25 (B s5) (fun _ => [aP, bO]) (fun hg => lst2 (gd_of hg (aP)) (gd_of hg (bO))) H (fun hg => Ret.mono (same_int _ ((ownSl (H.get (k := 10) rfl)).mono (ownLe _ (H.get (k := 10) rfl))) ((dl hg).mono (roLe _ (H.get (k := 0) rfl)))) fun v_ w_ ⟨a7, ar⟩ => ⟨a7.trans (congrArg B bH), H.ext ar⟩) ?_
 intro ep H
 refine g_val (!(((((((r1 != 0) || (aa != 0)) || (ac != 0)) || (ae != 0)) || (ag != 5)) || (!r0)) || aK)) (gy_f rfl) (fun hg => x_not (b := s5) (gd_of hg (B s5))) <| s_val (x_por (b := (((((((r1 != 0) || (aa != 0)) || (ac != 0)) || (ae != 0)) || (ag != 5)) || (!r0)) || aK)) (r := !s5) rfl rfl (fun hb => gd_of (c := !(((((((r1 != 0) || (aa != 0)) || (ac != 0)) || (ae != 0)) || (ag != 5)) || (!r0)) || aK)) (by first | exact hb | (rw [hb]; rfl) | simp_all) (B (!s5)))) <| sM (B ((((((((r1 != 0) || (aa != 0)) || (ac != 0)) || (ae != 0)) || (ag != 5)) || (!r0)) || aK) || (!s5))) rfl <| g_val (!((((((((r1 != 0) || (aa != 0)) || (ac != 0)) || (ae != 0)) || (ag != 5)) || (!r0)) || aK) || (!s5))) (gy_f rfl) (fun hg => x_mv (v := aX) rfl) <| g_val (!((((((((r1 != 0) || (aa != 0)) || (ac != 0)) || (ae != 0)) || (ag != 5)) || (!r0)) || aK) || (!s5))) (gy_f rfl) (fun hg => x_lenS T73.und (gd_of hg (aX)) (rowSl rfl (H.get (k := 5) rfl) (roLe _ (H.get (k := 6) rfl)) db)) <| g_val (!((((((((r1 != 0) || (aa != 0)) || (ac != 0)) || (ae != 0)) || (ag != 5)) || (!r0)) || aK) || (!s5))) (gy_f rfl) (fun hg => x_cmp (kd := .i64) (r := (bq.length : Int) != 2) (gd_of hg (I (bq.length : Int))) rfl rfl) <| s_val (x_por (b := ((((((((r1 != 0) || (aa != 0)) || (ac != 0)) || (ae != 0)) || (ag != 5)) || (!r0)) || aK) || (!s5))) (r := (bq.length : Int) != 2) rfl rfl (fun hb => gd_of (c := !((((((((r1 != 0) || (aa != 0)) || (ac != 0)) || (ae != 0)) || (ag != 5)) || (!r0)) || aK) || (!s5))) (by first | exact hb | (rw [hb]; rfl) | simp_all) (B ((bq.length : Int) != 2)))) <| s_nil ?_
 refine W.cond (((((((((r1 != 0) || (aa != 0)) || (ac != 0)) || (ae != 0)) || (ag != 5)) || (!r0)) || aK) || (!s5)) || ((bq.length : Int) != 2)) rfl (fun bI => ?_) (fun bI => ?_)
 ·replace hM := M.e_t hM bI
  refine sQ rfl <| sA (B false) rfl <| s_nil ?_
  refine W.ret ?_
  have bp := M.e_pure hM
  exact ⟨_, resE_tmp rfl, ⟨false, bp, rfl, (H.pick [] (by decide) rfl)⟩⟩
 replace hM := M.e_f hM bI
 refine W.skip <| sQ rfl ?_
 obtain ⟨eq, dm, hM⟩ := M.e_bind hM
 refine s_call cf79 [] rfl (zae dm _ (St.give (T := [cRo bP, cOwn (α := Int) 3 bk bG, cOwn (α := Int) 3 bu ([(1 : Int)]), cOwn (α := Raw 2) 60 bo br, cRo bt, cOwn (α := Raw 0) 34 aX bm, cRo bn, cOwn (α := Int) 3 bf ([(1 : Int)]), cOwn (α := Raw 2) 60 ba bb, cRo bc, cOwn (α := Int) 3 aP a8, cOwn (α := Int) 3 a6 ([(1 : Int)]), cOwn (α := Raw 2) 60 aW aY, cRo aZ, cOwn (α := Int) 3 aU ([(0 : Int), (2 : Int), (4 : Int)]), cOwn (α := Int) 3 aT ([(0 : Int)]), cOwn (α := Raw 2) 60 aQ aR, cRo aS, cOwn (α := Int) 3 aO ([(0 : Int), (2 : Int), (4 : Int), (5 : Int)]), cOwn (α := Int) 3 aN ([(0 : Int)]), cOwn (α := Raw 2) 60 aJ aL, cRo aM, cRo aI, cRo aH, cRo aG, cRo aF, cRo aE, cOwn (α := Int) 3 aD ([(0 : Int)]), cOwn (α := Raw 2) 60 aA aB, cRo aC, cRo az, cOwn (α := Int) 3 ay ([(1 : Int)]), cOwn (α := Raw 2) 60 av aw, cRo ax, cRo au, cOwn (α := Int) 3 aq ([(0 : Int)]), cOwn (α := Raw 2) 60 am ao, cRo ap, cRo al, cOwn (α := Note) 30 ak ([(⟨(0 : Int), (2 : Int), (7 : Int)⟩ : Note), (⟨(1 : Int), (0 : Int), (9 : Int)⟩ : Note)]), cOwn (α := Raw 2) 60 ah ai, cRo aj]) H rfl)) ?_
 rintro vq dp ⟨er, bQ, dq, dr, dt, hvq, ab, du⟩
 subst dt
 subst vq
 try dsimp only at hM
 replace H : St w dp [cOwn (α := Raw 2) 60 bQ dq, cRo dr, cRo bP, cOwn (α := Int) 3 bk bG, cOwn (α := Int) 3 bu ([(1 : Int)]), cOwn (α := Raw 2) 60 bo br, cRo bt, cOwn (α := Raw 0) 34 aX bm, cRo bn, cOwn (α := Int) 3 bf ([(1 : Int)]), cOwn (α := Raw 2) 60 ba bb, cRo bc, cOwn (α := Int) 3 aP a8, cOwn (α := Int) 3 a6 ([(1 : Int)]), cOwn (α := Raw 2) 60 aW aY, cRo aZ, cOwn (α := Int) 3 aU ([(0 : Int), (2 : Int), (4 : Int)]), cOwn (α := Int) 3 aT ([(0 : Int)]), cOwn (α := Raw 2) 60 aQ aR, cRo aS, cOwn (α := Int) 3 aO ([(0 : Int), (2 : Int), (4 : Int), (5 : Int)]), cOwn (α := Int) 3 aN ([(0 : Int)]), cOwn (α := Raw 2) 60 aJ aL, cRo aM, cRo aI, cRo aH, cRo aG, cRo aF, cRo aE, cOwn (α := Int) 3 aD ([(0 : Int)]), cOwn (α := Raw 2) 60 aA aB, cRo aC, cRo az, cOwn (α := Int) 3 ay ([(1 : Int)]), cOwn (α := Raw 2) 60 av aw, cRo ax, cRo au, cOwn (α := Int) 3 aq ([(0 : Int)]), cOwn (α := Raw 2) 60 am ao, cRo ap, cRo al, cOwn (α := Note) 30 ak ([(⟨(0 : Int), (2 : Int), (7 : Int)⟩ : Note), (⟨(1 : Int), (0 : Int), (9 : Int)⟩ : Note)]), cOwn (α := Raw 2) 60 ah ai, cRo aj] R := H.back ab rfl
 clear ab
 refine s_val (x_bld (ps := [(0, I 0), (1, I 3), (2, I 8)]) (zs := [I 0, I 0, I 0]) (L' := [I 0, I 3, I 8]) rfl Try.underlying30 Al30 rfl (Bd30 Try.underlying30) (.cons (cs := [I 0]) rfl rfl rfl rfl rfl <| .cons (cs := [I 3]) rfl rfl rfl rfl rfl <| .cons (cs := [I 8]) rfl rfl rfl rfl rfl <| .nil)) <| s_val (x_bld (ps := [(0, I 0), (1, I 2), (2, I 7)]) (zs := [I 0, I 0, I 0]) (L' := [I 0, I 2, I 7]) rfl Try.underlying30 Al30 rfl (Bd30 Try.underlying30) (.cons (cs := [I 0]) rfl rfl rfl rfl rfl <| .cons (cs := [I 2]) rfl rfl rfl rfl rfl <| .cons (cs := [I 7]) rfl rfl rfl rfl rfl <| .nil)) <| s_val (x_bld (ps := [(0, I 1), (2, I 9)]) (zs := [I 0, I 0, I 0]) (L' := [I 1, I 0, I 9]) rfl Try.underlying30 Al30 rfl (Bd30 Try.underlying30) (.cons (cs := [I 1]) rfl rfl rfl rfl rfl <| .cons (cs := [I 9]) rfl rfl rfl rfl rfl <| .nil)) ?_
 refine t_bs (α := Note) T23 [.agg #[I 0, I 3, I 8], .agg #[I 0, I 2, I 7], .agg #[I 1, I 0, I 9]] [(⟨(0 : Int), (3 : Int), (8 : Int)⟩ : Note), (⟨(0 : Int), (2 : Int), (7 : Int)⟩ : Note), (⟨(1 : Int), (0 : Int), (9 : Int)⟩ : Note)] H rfl (.cons rfl (Flat.rep_enc _ (⟨(0 : Int), (3 : Int), (8 : Int)⟩ : Note)) <| .cons rfl (Flat.rep_enc _ (⟨(0 : Int), (2 : Int), (7 : Int)⟩ : Note)) <| .cons rfl (Flat.rep_enc _ (⟨(1 : Int), (0 : Int), (9 : Int)⟩ : Note)) <| .nil) rfl rfl rfl ?_
 intro dv eu H
 refine s_val (x_bld (ps := [(0, I 2), (1, I 26)]) (zs := [I 0, I 0]) (L' := [I 2, I 26]) rfl Try.underlying33 Al33 rfl (Bd33 Try.underlying33) (.cons (cs := [I 2]) rfl rfl rfl rfl rfl <| .cons (cs := [I 26]) rfl rfl rfl rfl rfl <| .nil)) <| s_val (x_bld (ps := [(0, I 3), (1, I 10)]) (zs := [I 0, I 0]) (L' := [I 3, I 10]) rfl Try.underlying33 Al33 rfl (Bd33 Try.underlying33) (.cons (cs := [I 3]) rfl rfl rfl rfl rfl <| .cons (cs := [I 10]) rfl rfl rfl rfl rfl <| .nil)) ?_
 refine t_bs (α := Pub) T24 [.agg #[I 2, I 26], .agg #[I 3, I 10]] [(⟨(2 : Int), (26 : Int)⟩ : Pub), (⟨(3 : Int), (10 : Int)⟩ : Pub)] H rfl (.cons rfl (Flat.rep_enc _ (⟨(2 : Int), (26 : Int)⟩ : Pub)) <| .cons rfl (Flat.rep_enc _ (⟨(3 : Int), (10 : Int)⟩ : Pub)) <| .nil) rfl rfl rfl ?_
 intro dw ew H
 obtain ⟨⟨l5, e5⟩, dx, hM⟩ := M.e_bind hM
 obtain ⟨dy, dz⟩ := Prod.mk.inj (M.e_pure dx)
 try dsimp only at hM
 refine s_call cf26 [bQ, dv, dw] rfl (by have aV := (Withdrawn_any _ ((rowSl rfl (H.get (k := 2) rfl) (roLe _ (H.get (k := 3) rfl)) du).mono (Cells.sup_le (ownLe _ (H.get (k := 2) rfl)) (roLe _ (H.get (k := 3) rfl)))) ((ownSl (H.get (k := 1) rfl)).mono (ownLe _ (H.get (k := 1) rfl))) ((ownSl (H.get (k := 0) rfl)).mono (ownLe _ (H.get (k := 0) rfl)))); rw [dy, dz] at aV; exact aV) ?_
 rintro _ ey ⟨bl, rfl, bA, ar⟩
 obtain ⟨ez, H, bA⟩ := H.fresh ar bA
 clear ar
 have eA := bA.len_le
 refine sM (.tuple #[bl, I e5]) rfl <| sX [bl, I e5] bl rfl rfl <| sX [bl, I e5] (I e5) rfl rfl <| sA bl rfl <| sA (I e5) rfl <| s_nil <| sQ rfl <| sM (I e5) rfl <| sC _ _ (e5 == 0) rfl rfl rfl <| sM (B (e5 == 0)) rfl <| g_val (e5 == 0) (gy_t rfl) (fun hg => x_mv (v := bl) rfl) ?_
 refine t_gbs (α := Int) T34 (e5 == 0) (gy_t rfl) [I 0] [(0 : Int)] H (fun _ => rfl) (.cons rfl (Flat.rep_enc _ _) <| .nil) rfl rfl rfl ?_
 intro bR eB eC H dA
 obtain ⟨s6, bJ, hM⟩ := M.e_bind hM
 replace bJ := M.e_pure bJ
 refine t_gcall (e5 == 0) (gy_t rfl) cf25 (B s6) (fun _ => [bl, bR]) (fun hg => lst2 (gd_of hg (bl)) (gd_of hg (bR))) H (fun hg => Ret.mono (same_int _ (bA.mono (roLe _ (H.get (k := 1) rfl))) ((dA hg).mono (roLe _ (H.get (k := 0) rfl)))) fun v_ w_ ⟨a7, ar⟩ => ⟨a7.trans (congrArg B bJ), H.ext ar⟩) ?_
 intro eD H
 refine s_val (x_pand (b := e5 == 0) (r := s6) rfl (fun hb => gd_of (c := e5 == 0) (by first | exact hb | (rw [hb]; rfl) | simp_all) (B s6)) rfl) <| sA (B ((e5 == 0) && s6)) rfl <| s_nil ?_
 refine W.ret ?_
 have bp := M.e_pure hM
 exact ⟨_, resE_tmp rfl, ⟨((e5 == 0) && s6), bp, rfl, (H.pick [] (by decide) rfl)⟩⟩

end Go.Proofs.Ytndobgodeicloaa
end
section
set_option maxRecDepth 100000
set_option maxHeartbeats 16000000
namespace Go.Proofs.Ytndobgodeicloaa
open Go Go.Nm
def za7 (bytes : List UInt8) : M (Int × Int) :=
  M.pure (0, 0)
theorem zbc {R : List Chunk} {ab : Cells} {aa : Value} (bytes : List UInt8) (ah : Reads R ab) (ae : Sl ab aa bytes) {r : (Int × Int)} (hM : (za7 bytes).Ends r) (w : World) (H : St w w [] R) : Ret Try.prog 40 #[aa] w fun v w' => ∃ (y0 : Int) (y1 : Int) (nb0 : Nat), (y0, y1) = r /\ v = Pz nb0 /\ St w w' [cBlk nb0 [aa, I y0, I y1] 158] R := by
 refine ret_of_W Try.func40 rfl rfl rfl ?_
 refine sQ rfl <| sA (.pointer none) rfl <| s_nil <| sQ rfl <| sM aa rfl <| s_val (x_bld (ps := [(0, aa)]) (zs := [.slice none 0 0, I 0, I 0]) (L' := [aa, I 0, I 0]) rfl Try.underlying158 Al158 rfl (Bd158 Try.underlying158) (.cons (cs := [aa]) (Sl.cells ae) rfl rfl rfl rfl <| .nil)) ?_
 refine t_box (v := .agg #[aa, I 0, I 0]) (cs := [aa, I 0, I 0]) H rfl rfl ?_
 intro ac ai H
 refine sA (Pz ac) rfl <| s_nil ?_
 refine W.ret ?_
 have ag := M.e_pure hM
 exact ⟨_, resE_tmp rfl, ⟨0, 0, ac, ag, rfl, H⟩⟩

def za0 (s_used : Int) (s_mix : Int) (n : Int) (b : Int) : M (Int × Int × Int) :=
  M.grd (decide ((-9223372036854775808 : Int) <= (5 * s_mix)) && decide ((5 * s_mix) <= (9223372036854775807 : Int))) <|
  M.grd (decide ((-9223372036854775808 : Int) <= ((5 * s_mix) + b)) && decide (((5 * s_mix) + b) <= (9223372036854775807 : Int))) <|
  M.grd (decide ((-9223372036854775808 : Int) <= (((5 * s_mix) + b) + 1)) && decide ((((5 * s_mix) + b) + 1) <= (9223372036854775807 : Int))) <|
  M.grd (decide ((0 : Int) <= (((5 * s_mix) + b) + 1)) && decide ((0 : Int) < 251)) <|
  M.grd (decide ((-9223372036854775808 : Int) <= (s_used + 1)) && decide ((s_used + 1) <= (9223372036854775807 : Int))) <|
  bif decide (256 < n) then (
  M.grd (decide ((-9223372036854775808 : Int) <= (256 * b)) && decide ((256 * b) <= (9223372036854775807 : Int))) <|
  M.grd (decide ((-9223372036854775808 : Int) <= ((256 * b) + ((((5 * s_mix) + b) + 1) % 251))) && decide (((256 * b) + ((((5 * s_mix) + b) + 1) % 251)) <= (9223372036854775807 : Int))) <|
  M.grd (decide ((0 : Int) <= ((256 * b) + ((((5 * s_mix) + b) + 1) % 251))) && decide ((0 : Int) < n)) <|
  M.pure ((((256 * b) + ((((5 * s_mix) + b) + 1) % 251)) % n), (s_used + 1), ((((5 * s_mix) + b) + 1) % 251)))
  else (
  M.grd (decide ((0 : Int) <= b) && decide ((0 : Int) < n)) <|
  M.pure ((b % n), (s_used + 1), ((((5 * s_mix) + b) + 1) % 251)))
def zaa (s_bytes : List UInt8) (s_used : Int) (s_mix : Int) (n : Int) : M (Int × Int × Int) :=
  bif ((decide (n < 2)) || ((s_bytes.length : Int) == 0)) then (
  M.pure (0, s_used, s_mix))
  else (
  M.grd (decide ((0 : Int) <= s_used) && decide ((0 : Int) < (s_bytes.length : Int))) <|
  M.grd (decide ((0 : Int) <= (s_used % (s_bytes.length : Int))) && decide ((s_used % (s_bytes.length : Int)) < (s_bytes.length : Int))) <|
  M.grd (decide ((0 : Int) <= ((s_bytes.getD (Int.toNat (s_used % (s_bytes.length : Int))) 0).toNat : Int)) && decide (((s_bytes.getD (Int.toNat (s_used % (s_bytes.length : Int))) 0).toNat : Int) < (256 : Int))) <|
  bif decide ((s_bytes.length : Int) <= s_used) then (
  M.grd (decide ((-9223372036854775808 : Int) <= (11 * s_mix)) && decide ((11 * s_mix) <= (9223372036854775807 : Int))) <|
  M.grd (decide (0 <= s_used) && decide (s_used <= (9223372036854775807 : Int)) && decide ((0 : Int) < (s_bytes.length : Int))) <|
  M.grd (decide ((-9223372036854775808 : Int) <= ((11 * s_mix) + (s_used / (s_bytes.length : Int)))) && decide (((11 * s_mix) + (s_used / (s_bytes.length : Int))) <= (9223372036854775807 : Int))) <|
  M.grd (decide ((-9223372036854775808 : Int) <= (((s_bytes.getD (Int.toNat (s_used % (s_bytes.length : Int))) 0).toNat : Int) + ((11 * s_mix) + (s_used / (s_bytes.length : Int))))) && decide ((((s_bytes.getD (Int.toNat (s_used % (s_bytes.length : Int))) 0).toNat : Int) + ((11 * s_mix) + (s_used / (s_bytes.length : Int)))) <= (9223372036854775807 : Int))) <|
  za0 s_used s_mix n (((s_bytes.getD (Int.toNat (s_used % (s_bytes.length : Int))) 0).toNat : Int) + ((11 * s_mix) + (s_used / (s_bytes.length : Int)))))
  else (
  za0 s_used s_mix n ((s_bytes.getD (Int.toNat (s_used % (s_bytes.length : Int))) 0).toNat : Int)))
theorem zac {R : List Chunk} {aa : Nat} {ak : Cells} {ab : Value} (s_bytes : List UInt8) (s_used : Int) (s_mix : Int) (n : Int) (al : Reads R ak) (ac : Sl ak ab s_bytes) {r : (Int × Int × Int)} (hM : (zaa s_bytes s_used s_mix n).Ends r) (w : World) (H : St w w [cBlk aa [ab, I s_used, I s_mix] 158] R) : Ret Try.prog 44 #[Pz aa, I n] w fun v w' => ∃ (y0 : Int) (y1 : Int) (y2 : Int), (y0, y1, y2) = r /\ v = I y0 /\ St w w' [cBlk aa [ab, I y1, I y2] 158] R := by
 refine ret_of_W Try.func44 rfl rfl rfl ?_
 refine sQ rfl <| sA (I 0) rfl <| s_nil <| W.seq <| sQ rfl <| sM (I n) rfl <| sC _ _ (decide (n < 2)) rfl rfl rfl <| sM (B (decide (n < 2))) rfl <| g_val (!(decide (n < 2))) (gy_f rfl) (fun hg => x_mv (v := Pz aa) rfl) <| g_val (!(decide (n < 2))) (gy_f rfl) (fun hg => x_nc (a := ⟨aa, 0, none⟩) (gd_of hg (Pz aa))) ?_
 refine g_val (!(decide (n < 2))) (gy_f rfl) (fun hg => x_fa (v := Pz aa) (gd_of hg (Pz aa)) (fa_blk (o := 0) Fd158_0 Sz62)) <| g_val (!(decide (n < 2))) (gy_f rfl) (fun hg => x_ld (v := ab) (gd_of hg (Pz aa)) (ldb_sc Sc62 (H.blk (k := 0) rfl) rfl)) <| g_val (!(decide (n < 2))) (gy_f rfl) (fun hg => x_lenS T62.und (gd_of hg (ab)) ac) <| g_val (!(decide (n < 2))) (gy_f rfl) (fun hg => x_cmp (kd := .i64) (r := (s_bytes.length : Int) == 0) (gd_of hg (I (s_bytes.length : Int))) rfl rfl) <| s_val (x_por (b := decide (n < 2)) (r := (s_bytes.length : Int) == 0) rfl rfl (fun hb => gd_of (c := !(decide (n < 2))) (by first | exact hb | (rw [hb]; rfl) | simp_all) (B ((s_bytes.length : Int) == 0)))) <| s_nil ?_
 refine W.cond ((decide (n < 2)) || ((s_bytes.length : Int) == 0)) rfl (fun aj => ?_) (fun aj => ?_)
 ·replace hM := M.e_t hM aj
  refine sQ rfl <| sA (I 0) rfl <| s_nil ?_
  refine W.ret ?_
  have ag := M.e_pure hM
  exact ⟨_, resE_tmp rfl, ⟨0, s_used, s_mix, ag, rfl, H⟩⟩
 replace hM := M.e_f hM aj
 refine W.skip <| W.seq ?_
 refine W.draw (fun W => St w W [cBlk aa [ab, I s_used, I s_mix] 158] R) [(0, true), (1, true), (2, true), (3, true), (4, true), (5, true), (6, true), (7, true), (8, true), (9, true), (10, true), (11, true), (12, true), (13, true), (14, true), (15, true), (16, true), (17, true)] mixed (by decide +kernel) rfl ?_
 intro am ae
 replace H : St w am [cBlk aa [ab, I s_used, I s_mix] 158] R := H.ext ae
 clear ae
 refine ⟨(H.pick [0] (by decide) rfl), ?_⟩
 refine d_q rfl (fun w' H => x_mv (v := Pz aa) rfl) ?_
 refine d_q rfl (fun w' H => x_nc (a := ⟨aa, 0, none⟩) rfl) ?_
 refine d_q rfl (fun w' H => x_fa (v := Pz aa) rfl (fa_blk (o := 0) Fd158_0 Sz62)) ?_
 refine d_q rfl (fun w' H => x_ld (v := ab) rfl (ldb_sc Sc62 (H.blk (k := 0) rfl) rfl)) ?_
 refine d_q rfl (fun w' H => x_mv (v := Pz aa) rfl) ?_
 refine d_q rfl (fun w' H => x_nc (a := ⟨aa, 0, none⟩) rfl) ?_
 refine d_q rfl (fun w' H => x_fa (v := Oz aa 1) rfl (fa_blk (o := 0) Fd158_1 Sz3)) ?_
 refine d_q rfl (fun w' H => x_ld (v := I s_used) rfl (ldb_sc Sc3 (H.blk (k := 0) rfl) rfl)) ?_
 refine d_q rfl (fun w' H => x_mv (v := Pz aa) rfl) ?_
 refine d_q rfl (fun w' H => x_nc (a := ⟨aa, 0, none⟩) rfl) ?_
 refine d_q rfl (fun w' H => x_fa (v := Pz aa) rfl (fa_blk (o := 0) Fd158_0 Sz62)) ?_
 refine d_q rfl (fun w' H => x_ld (v := ab) rfl (ldb_sc Sc62 (H.blk (k := 0) rfl) rfl)) ?_
 have aq := (ac).len_le
 refine d_q rfl (fun w' H => x_lenS T62.und rfl ac) ?_
 obtain ⟨ar, hM⟩ := M.e_gd hM
 refine d_q rfl (fun w' H => x_rem' (a := s_used) (b := (s_bytes.length : Int)) rfl rfl (by omega)) ?_
 obtain ⟨au, hM⟩ := M.e_gd hM
 refine d_q rfl (fun w' H => x_ix (v := vat ab 1 (Int.toNat (s_used % (s_bytes.length : Int)))) rfl rfl (Sl.ix (α := UInt8) T62.und T62.size ac (by omega) (by omega))) ?_
 refine d_q rfl (fun w' H => x_ld (v := .int .u8 (((s_bytes.getD (Int.toNat (s_used % (s_bytes.length : Int))) 0).toNat : Int))) rfl (ld_sc Sc5 (At.mono (UInt8_at ac (i := s_used % (s_bytes.length : Int)) (by omega) (by omega)) (al.at H)))) ?_
 obtain ⟨av, hM⟩ := M.e_gd hM
 refine d_q rfl (fun w' H => x_conv64 (kd := .u8) (a := ((s_bytes.getD (Int.toNat (s_used % (s_bytes.length : Int))) 0).toNat : Int)) Try.underlying5 Try.underlying3 rfl (by omega)) ?_
 refine d_q rfl (fun w' H => x_as (v := I ((s_bytes.getD (Int.toNat (s_used % (s_bytes.length : Int))) 0).toNat : Int)) rfl) ?_
 refine d_nil ?_
 refine W.seqJ (fun σ W => ∃ (b : Int) (ρ : Env), σ = upds ρ [(0, Pz aa), (1, I n), (5, I b)] /\ (za0 s_used s_mix n b).Ends r /\ St w W [cBlk aa [ab, I s_used, I s_mix] 158] R) ?_ ?_
 ·skip
  refine W.seq ?_
  refine W.draw (fun W => St w W [cBlk aa [ab, I s_used, I s_mix] 158] R) [(0, true), (1, true), (2, true), (3, true), (4, true), (5, true), (6, true), (7, true), (8, true), (9, true)] mixed (by decide +kernel) rfl ?_
  intro ao ae
  replace H : St w ao [cBlk aa [ab, I s_used, I s_mix] 158] R := H.ext ae
  clear ae
  refine ⟨(H.pick [0] (by decide) rfl), ?_⟩
  refine d_q rfl (fun w' H => x_mv (v := Pz aa) rfl) ?_
  refine d_q rfl (fun w' H => x_nc (a := ⟨aa, 0, none⟩) rfl) ?_
  refine d_q rfl (fun w' H => x_fa (v := Oz aa 1) rfl (fa_blk (o := 0) Fd158_1 Sz3)) ?_
  refine d_q rfl (fun w' H => x_ld (v := I s_used) rfl (ldb_sc Sc3 (H.blk (k := 0) rfl) rfl)) ?_
  refine d_q rfl (fun w' H => x_mv (v := Pz aa) rfl) ?_
  refine d_q rfl (fun w' H => x_nc (a := ⟨aa, 0, none⟩) rfl) ?_
  refine d_q rfl (fun w' H => x_fa (v := Pz aa) rfl (fa_blk (o := 0) Fd158_0 Sz62)) ?_
  refine d_q rfl (fun w' H => x_ld (v := ab) rfl (ldb_sc Sc62 (H.blk (k := 0) rfl) rfl)) ?_
  have aw := (ac).len_le
  refine d_q rfl (fun w' H => x_lenS T62.und rfl ac) ?_
  refine d_q rfl (fun w' H => x_cmp (kd := .i64) (r := decide ((s_bytes.length : Int) <= s_used)) rfl rfl rfl) ?_
  refine d_nil ?_
  refine W.cond (decide ((s_bytes.length : Int) <= s_used)) rfl (fun ah => ?_) (fun ah => ?_)
  ·replace hM := M.e_t hM ah
   simp only [qz1, qz2, qz3, qz4, qz5, qz6, ne_eq, qz7] at ah
   refine W.draw (fun W => St w W [cBlk aa [ab, I s_used, I s_mix] 158] R) [(0, true), (1, true), (2, true), (3, true), (4, true), (5, true), (6, true), (7, true), (8, true), (9, true), (10, true), (11, true), (12, true), (13, true), (14, true), (15, true), (16, true), (17, true), (18, true)] mixed (by decide +kernel) rfl ?_
   intro ap ae
   replace H : St w ap [cBlk aa [ab, I s_used, I s_mix] 158] R := H.ext ae
   clear ae
   refine ⟨(H.pick [0] (by decide) rfl), ?_⟩
   refine d_q rfl (fun w' H => x_mv (v := I ((s_bytes.getD (Int.toNat (s_used % (s_bytes.length : Int))) 0).toNat : Int)) rfl) ?_
   refine d_q rfl (fun w' H => x_mv (v := Pz aa) rfl) ?_
   refine d_q rfl (fun w' H => x_nc (a := ⟨aa, 0, none⟩) rfl) ?_
   refine d_q rfl (fun w' H => x_fa (v := Oz aa 2) rfl (fa_blk (o := 0) Fd158_2 Sz3)) ?_
   refine d_q rfl (fun w' H => x_ld (v := I s_mix) rfl (ldb_sc Sc3 (H.blk (k := 0) rfl) rfl)) ?_
   obtain ⟨ax, hM⟩ := M.e_gd hM
   refine d_q rfl (fun w' H => x_ari (r := 11 * s_mix) rfl rfl rfl (by omega)) ?_
   refine d_q rfl (fun w' H => x_mv (v := Pz aa) rfl) ?_
   refine d_q rfl (fun w' H => x_nc (a := ⟨aa, 0, none⟩) rfl) ?_
   refine d_q rfl (fun w' H => x_fa (v := Oz aa 1) rfl (fa_blk (o := 0) Fd158_1 Sz3)) ?_
   refine d_q rfl (fun w' H => x_ld (v := I s_used) rfl (ldb_sc Sc3 (H.blk (k := 0) rfl) rfl)) ?_
   refine d_q rfl (fun w' H => x_mv (v := Pz aa) rfl) ?_
   refine d_q rfl (fun w' H => x_nc (a := ⟨aa, 0, none⟩) rfl) ?_
   refine d_q rfl (fun w' H => x_fa (v := Pz aa) rfl (fa_blk (o := 0) Fd158_0 Sz62)) ?_
   refine d_q rfl (fun w' H => x_ld (v := ab) rfl (ldb_sc Sc62 (H.blk (k := 0) rfl) rfl)) ?_
   have ay := (ac).len_le
   refine d_q rfl (fun w' H => x_lenS T62.und rfl ac) ?_
   obtain ⟨az, hM⟩ := M.e_gd hM
   refine d_q rfl (fun w' H => x_quo (a := s_used) (b := (s_bytes.length : Int)) rfl rfl (by omega)) ?_
   obtain ⟨aA, hM⟩ := M.e_gd hM
   refine d_q rfl (fun w' H => x_ari (r := (11 * s_mix) + (s_used / (s_bytes.length : Int))) rfl rfl rfl (by omega)) ?_
   obtain ⟨aB, hM⟩ := M.e_gd hM
   refine d_q rfl (fun w' H => x_ari (r := ((s_bytes.getD (Int.toNat (s_used % (s_bytes.length : Int))) 0).toNat : Int) + ((11 * s_mix) + (s_used / (s_bytes.length : Int)))) rfl rfl rfl (by omega)) ?_
   refine d_q rfl (fun w' H => x_as (v := I (((s_bytes.getD (Int.toNat (s_used % (s_bytes.length : Int))) 0).toNat : Int) + ((11 * s_mix) + (s_used / (s_bytes.length : Int))))) rfl) ?_
   refine d_nil ?_
   exact ⟨((s_bytes.getD (Int.toNat (s_used % (s_bytes.length : Int))) 0).toNat : Int) + ((11 * s_mix) + (s_used / (s_bytes.length : Int))), _, upds_of _ _ ⟨rfl, rfl, rfl, trivial⟩, hM, H⟩
  replace hM := M.e_f hM ah
  simp only [qz1, qz2, qz3, qz4, qz5, qz6, ne_eq, qz7] at ah
  refine W.skip ?_
  exact ⟨((s_bytes.getD (Int.toNat (s_used % (s_bytes.length : Int))) 0).toNat : Int), _, upds_of _ _ ⟨rfl, rfl, rfl, trivial⟩, hM, H⟩
 rintro _ aC ⟨b, ρ, rfl, hM, H⟩
 unfold za0 at hM
 refine sQ rfl <| sM (Pz aa) rfl <| sM (Pz aa) rfl <| s_val (x_nc (a := ⟨aa, 0, none⟩) rfl) <| s_val (x_fa (v := Oz aa 2) rfl (fa_blk (o := 0) Fd158_2 Sz3)) <| s_val (x_ld (v := I s_mix) rfl (ldb_sc Sc3 (H.blk (k := 0) rfl) rfl)) ?_
 obtain ⟨aD, hM⟩ := M.e_gd hM
 refine sR _ _ (5 * s_mix) rfl rfl rfl (by omega) <| sM (I b) rfl ?_
 obtain ⟨aE, hM⟩ := M.e_gd hM
 refine sR _ _ ((5 * s_mix) + b) rfl rfl rfl (by omega) ?_
 obtain ⟨aF, hM⟩ := M.e_gd hM
 refine sR _ _ (((5 * s_mix) + b) + 1) rfl rfl rfl (by omega) ?_
 obtain ⟨aG, hM⟩ := M.e_gd hM
 refine s_val (x_rem' (a := ((5 * s_mix) + b) + 1) (b := 251) rfl rfl (by omega)) <| s_val (x_nc (a := ⟨aa, 0, none⟩) rfl) <| s_val (x_fa (v := Oz aa 2) rfl (fa_blk (o := 0) Fd158_2 Sz3)) ?_
 refine t_st (k := 0) (b := aa) (off := 2) (cs := [ab, I s_used, I s_mix]) (vs := [I ((((5 * s_mix) + b) + 1) % 251)]) (cs' := [ab, I s_used, I ((((5 * s_mix) + b) + 1) % 251)]) (v := I ((((5 * s_mix) + b) + 1) % 251)) (L' := [cBlk aa [ab, I s_used, I ((((5 * s_mix) + b) + 1) % 251)] 158]) H rfl rfl rfl Sz3 rfl rfl rfl rfl rfl rfl ?_
 intro aH H
 refine s_nil <| sQ rfl <| sM (Pz aa) rfl <| s_val (x_nc (a := ⟨aa, 0, none⟩) rfl) <| s_val (x_fa (v := Oz aa 1) rfl (fa_blk (o := 0) Fd158_1 Sz3)) <| s_val (x_ld (v := I s_used) rfl (ldb_sc Sc3 (H.blk (k := 0) rfl) rfl)) ?_
 obtain ⟨aI, hM⟩ := M.e_gd hM
 refine sR _ _ (s_used + 1) rfl rfl rfl (by omega) <| s_val (x_nc (a := ⟨aa, 0, none⟩) rfl) <| s_val (x_fa (v := Oz aa 1) rfl (fa_blk (o := 0) Fd158_1 Sz3)) ?_
 refine t_st (k := 0) (b := aa) (off := 1) (cs := [ab, I s_used, I ((((5 * s_mix) + b) + 1) % 251)]) (vs := [I (s_used + 1)]) (cs' := [ab, I (s_used + 1), I ((((5 * s_mix) + b) + 1) % 251)]) (v := I (s_used + 1)) (L' := [cBlk aa [ab, I (s_used + 1), I ((((5 * s_mix) + b) + 1) % 251)] 158]) H rfl rfl rfl Sz3 rfl rfl rfl rfl rfl rfl ?_
 intro aJ H
 refine s_nil <| W.seq <| sQ rfl <| sM (I n) rfl <| sC _ _ (decide (256 < n)) rfl rfl rfl <| s_nil ?_
 refine W.cond (decide (256 < n)) rfl (fun ai => ?_) (fun ai => ?_)
 ·replace hM := M.e_t hM ai
  simp only [qz1, qz2, qz3, qz4, qz5, qz6, ne_eq, qz7] at ai
  refine W.region rfl <| sM (I b) rfl ?_
  obtain ⟨aK, hM⟩ := M.e_gd hM
  refine sR _ _ (256 * b) rfl rfl rfl (by omega) <| sM (Pz aa) rfl <| s_val (x_nc (a := ⟨aa, 0, none⟩) rfl) <| s_val (x_fa (v := Oz aa 2) rfl (fa_blk (o := 0) Fd158_2 Sz3)) <| s_val (x_ld (v := I ((((5 * s_mix) + b) + 1) % 251)) rfl (ldb_sc Sc3 (H.blk (k := 0) rfl) rfl)) ?_
  obtain ⟨aL, hM⟩ := M.e_gd hM
  refine sR _ _ ((256 * b) + ((((5 * s_mix) + b) + 1) % 251)) rfl rfl rfl (by omega) <| sA (I ((256 * b) + ((((5 * s_mix) + b) + 1) % 251))) rfl <| s_nil <| sQ rfl <| sM (I ((256 * b) + ((((5 * s_mix) + b) + 1) % 251))) rfl <| sM (I n) rfl ?_
  obtain ⟨aM, hM⟩ := M.e_gd hM
  refine s_val (x_rem' (a := (256 * b) + ((((5 * s_mix) + b) + 1) % 251)) (b := n) rfl rfl (by omega)) <| sA (I (((256 * b) + ((((5 * s_mix) + b) + 1) % 251)) % n)) rfl <| s_nil ?_
  refine W.ret ?_
  have ag := M.e_pure hM
  exact ⟨_, resE_tmp rfl, ⟨(((256 * b) + ((((5 * s_mix) + b) + 1) % 251)) % n), (s_used + 1), ((((5 * s_mix) + b) + 1) % 251), ag, rfl, H⟩⟩
 replace hM := M.e_f hM ai
 simp only [qz1, qz2, qz3, qz4, qz5, qz6, ne_eq, qz7] at ai
 refine W.skip <| sQ rfl <| sM (I b) rfl <| sM (I n) rfl ?_
 obtain ⟨aN, hM⟩ := M.e_gd hM
 refine s_val (x_rem' (a := b) (b := n) rfl rfl (by omega)) <| sA (I (b % n)) rfl <| s_nil ?_
 refine W.ret ?_
 have ag := M.e_pure hM
 exact ⟨_, resE_tmp rfl, ⟨(b % n), (s_used + 1), ((((5 * s_mix) + b) + 1) % 251), ag, rfl, H⟩⟩

def zaG (s_bytes : List UInt8) (n : Int) : (Int × Int × Nat × (List Int)) -> M ((Int × Int × Nat × (List Int)) ⊕ ((List Int) × (List Int) × Int × Int)) := fun (s2, s3, i, l) =>
  bif decide ((i : Int) < n) then (
  M.grd (decide ((-9223372036854775808 : Int) <= ((i : Int) + 1)) && decide (((i : Int) + 1) <= (9223372036854775807 : Int))) <|
  M.bind (zaa s_bytes s2 s3 ((i : Int) + 1)) fun (r2, q1, q2) =>
  M.grd (decide ((l.length + ([(i : Int)]).length) * 8 <= 140737488355328)) <|
  M.grd (decide ((0 : Int) <= r2) && decide (r2 < ((l ++ ([(i : Int)])).length : Int))) <|
  M.grd (decide ((i : Int) < ((l ++ ([(i : Int)])).length : Int))) <|
  M.grd (decide ((0 : Int) <= r2) && decide (r2 < (((l ++ ([(i : Int)])).set i ((l ++ ([(i : Int)])).getD (Int.toNat r2) 0 : Int)).length : Int))) <|
  M.pure (.inl (q1, q2, i + 1, ((l ++ ([(i : Int)])).set i ((l ++ ([(i : Int)])).getD (Int.toNat r2) 0 : Int)).set (Int.toNat r2) ((l ++ ([(i : Int)])).getD i 0 : Int))))
  else (
  M.pure (.inr (l, l, s2, s3)))
def za2 (s_bytes : List UInt8) (s_used : Int) (s_mix : Int) (n : Int) : M ((List Int) × Int × Int) :=
  M.bind (M.iter (zaG s_bytes n) (s_used, s_mix, 0, [])) fun (l2, l3, s4, s5) =>
  M.pure (l3, s4, s5)
theorem zbq {R : List Chunk} {ab : Nat} {am : Cells} {ac : Value} (s_bytes : List UInt8) (s_used : Int) (s_mix : Int) (n : Int) (ar : Reads R am) (au : Sl am ac s_bytes) {r : ((List Int) × Int × Int)} (hM : (za2 s_bytes s_used s_mix n).Ends r) (w : World) (H : St w w [cBlk ab [ac, I s_used, I s_mix] 158] R) : Ret Try.prog 46 #[Pz ab, I n] w fun v w' => ∃ (y0 : List Int) (y1 : Int) (y2 : Int) (u0 : Value), (y0, y1, y2) = r /\ v = u0 /\ St w w' [cOwn (α := Int) 3 u0 y0, cBlk ab [ac, I y1, I y2] 158] R := by
 refine ret_of_W Try.func46 rfl rfl rfl ?_
 refine sQ rfl <| sA (.slice none 0 0) rfl <| s_nil <| sQ rfl <| sA (.slice none 0 0) rfl <| s_nil <| W.seq <| sQ rfl <| sA (I 0) rfl ?_
 refine s_nil <| W.block ?_
 replace H : St w w [cOwn (α := Int) 3 (.slice none 0 0) ([]), cBlk ab [ac, I s_used, I s_mix] 158] R := H.nilOwn (α := Int) 3
 obtain ⟨av, al, aw⟩ := M.e_bind hM
 obtain ⟨aE, al⟩ := M.e_iter al
 refine W.loop (fun m σ W => ∃ (s2 : Int) (s3 : Int) (i : Nat) (l : List Int) (ag : Value) (ρ : Env), σ = upds ρ [(0, Pz ab), (1, I n), (5, ag), (6, I (i : Int))] /\ M.iterN (zaG s_bytes n) m (s2, s3, i, l) = some av /\ St w W [cOwn (α := Int) 3 ag l, cBlk ab [ac, I s2, I s3] 158] R) ?_ ?_
 ·exact ⟨_, s_used, s_mix, 0, [], (.slice none 0 0), _, upds_of _ _ ⟨rfl, rfl, rfl, rfl, trivial⟩, al, H⟩
 rintro aF σ aG ⟨s2, s3, i, l, ag, ρ, rfl, ao, H⟩
 obtain ⟨ai, aj, aH, hM, ah⟩ := M.e_iterN ao
 simp only [zaG] at hM
 clear ao
 refine W.seq <| sQ rfl <| sM (I (i : Int)) rfl <| sM (I n) rfl <| sC _ _ (decide ((i : Int) < n)) rfl rfl rfl <| s_nil ?_
 refine W.cond (decide ((i : Int) < n)) rfl (fun ak => ?_) (fun ak => ?_)
 ·replace hM := M.e_t hM ak
  simp only [qz1, qz2, qz3, qz4, qz5, qz6, ne_eq, qz7] at ak
  refine W.skip <| W.seq <| W.block <| sQ rfl <| sM (Pz ab) rfl <| sM (I (i : Int)) rfl ?_
  obtain ⟨aI, hM⟩ := M.e_gd hM
  refine sR _ _ ((i : Int) + 1) rfl rfl rfl (by omega) ?_
  obtain ⟨aJ, ax, hM⟩ := M.e_bind hM
  refine s_call cf44 [Pz ab, I ((i : Int) + 1)] rfl (zac s_bytes s2 s3 ((i : Int) + 1) (ar.app _) au ax _ (St.give (L := [cBlk ab [ac, I s2, I s3] 158, cOwn (α := Int) 3 ag l]) (A := [cBlk ab [ac, I s2, I s3] 158]) (T := [cOwn (α := Int) 3 ag l]) (H.pick [1, 0] (by decide) rfl) rfl)) ?_
  rintro vq ay ⟨r2, q1, q2, az, hvq, ap⟩
  subst az
  subst vq
  try dsimp only at hM
  replace H : St w ay [cBlk ab [ac, I q1, I q2] 158, cOwn (α := Int) 3 ag l] R := H.pick [1, 0] (by decide) rfl |>.back ap rfl
  clear ap
  refine sA (I r2) rfl <| s_nil <| sQ rfl <| sM ag rfl <| sM (I (i : Int)) rfl ?_
  refine t_bs (α := Int) T34 [I (i : Int)] [(i : Int)] H rfl (.cons rfl (Flat.rep_enc _ (i : Int)) <| .nil) rfl rfl rfl ?_
  intro ae aK H
  obtain ⟨aL, hM⟩ := M.e_gd hM
  refine t_app (α := Int) (k := 2) (l := l) (l2 := [(i : Int)]) (l' := l ++ ([(i : Int)])) (vy := ae) T34 rfl H rfl rfl rfl (ownSl (H.get (k := 0) rfl)) (ownLe _ (H.get (k := 0) rfl)) (rfl) (by first | omega | (simp only [List.length_nil] at *; omega)) ?_
  intro aa aA H
  replace H : St w aA [cOwn (α := Int) 3 ae ([(i : Int)]), cBlk ab [ac, I q1, I q2] 158, cOwn (α := Int) 3 aa (l ++ ([(i : Int)]))] R := H
  refine sA aa rfl <| s_nil ?_
  refine W.drawT (fun W => St w W [cOwn (α := Int) 3 ae ([(i : Int)]), cBlk ab [ac, I q1, I q2] 158] R) (.q 0 (.q 1 (.q 2 (.q 3 (.q 4 (.q 5 (.q 8 (.q 9 (.l2 6 (.l2 7 (.l 10 (.l 11 (.l 12 (.l 13 (.l 14 (.l 15 .nil)))))) 10 (.l2 7 (.l 11 (.l 12 (.l 13 (.l 14 (.l 15 .nil))))) 11 (.l 7 (.l 12 (.l 13 (.l 14 (.l 15 .nil))))))) 10 (.l2 6 (.l2 7 (.l 11 (.l 12 (.l 13 (.l 14 (.l 15 .nil))))) 11 (.l 7 (.l 12 (.l 13 (.l 14 (.l 15 .nil)))))) 11 (.l 6 (.l 7 (.l 12 (.l 13 (.l 14 (.l 15 .nil)))))))))))))))) mixed (by decide +kernel) rfl ?_
  intro aB aq
  replace H : St w aB [cOwn (α := Int) 3 ae ([(i : Int)]), cBlk ab [ac, I q1, I q2] 158, cOwn (α := Int) 3 aa (l ++ ([(i : Int)]))] R := H.ext aq
  clear aq
  refine ⟨(H.pick [0, 1] (by decide) rfl), ?_⟩
  refine t_q rfl (fun w' H => x_mv (v := aa) rfl) ?_
  refine t_q rfl (fun w' H => x_mv (v := I (i : Int)) rfl) ?_
  refine t_q rfl (fun w' H => x_mv (v := aa) rfl) ?_
  refine t_q rfl (fun w' H => x_mv (v := I r2) rfl) ?_
  refine t_q rfl (fun w' H => x_mv (v := aa) rfl) ?_
  refine t_q rfl (fun w' H => x_mv (v := I r2) rfl) ?_
  refine t_q rfl (fun w' H => x_mv (v := aa) rfl) ?_
  refine t_q rfl (fun w' H => x_mv (v := I (i : Int)) rfl) ?_
  obtain ⟨aM, hM⟩ := M.e_gd hM
  obtain ⟨aN, hM⟩ := M.e_gd hM
  obtain ⟨aO, hM⟩ := M.e_gd hM
  refine t_l2 rfl rfl ?_ ?_
  ·skip
   refine s_val (x_ix (v := vat aa 1 (Int.toNat r2)) rfl rfl (Sl.ix (α := Int) T34.und T34.size (ownSl (H.get (k := 2) rfl)) (by omega) (by omega))) ?_
   refine s_nil ⟨(H.pick [0, 1] (by decide) rfl), ?_⟩
   refine t_l2 rfl rfl ?_ ?_
   ·skip
    refine s_val (x_ld (v := I ((l ++ ([(i : Int)])).getD (Int.toNat r2) 0)) rfl (ld_sc Sc3 (At.mono (Int_at (ownSl (H.get (k := 2) rfl)) (i := r2) (by omega) (by omega)) (ownLe _ (H.get (k := 2) rfl))))) ?_
    refine s_nil ⟨(H.pick [0, 1] (by decide) rfl), ?_⟩
    refine t_l rfl ?_
    refine s_val (x_ix (v := vat aa 1 (Int.toNat (i : Int))) rfl rfl (Sl.ix (α := Int) T34.und T34.size (ownSl (H.get (k := 2) rfl)) (by omega) (by omega))) ?_
    refine s_nil ⟨(H.pick [0, 1] (by decide) rfl), ?_⟩
    refine t_l rfl ?_
    refine s_val (x_ld (v := I ((l ++ ([(i : Int)])).getD i 0)) rfl (ld_sc Sc3 (At.mono (Int_at (ownSl (H.get (k := 2) rfl)) (i := (i : Int)) (by omega) (by omega)) (ownLe _ (H.get (k := 2) rfl))))) ?_
    refine s_nil ⟨(H.pick [0, 1] (by decide) rfl), ?_⟩
    refine t_l rfl ?_
    refine s_val (x_ix (v := vat aa 1 (Int.toNat (i : Int))) rfl rfl (Sl.ix (α := Int) T34.und T34.size (ownSl (H.get (k := 2) rfl)) (by omega) (by omega))) ?_
    refine s_nil ⟨(H.pick [0, 1] (by decide) rfl), ?_⟩
    refine t_l rfl ?_
    refine t_ost (k := 2) (i := (i : Int)) (l := l ++ ([(i : Int)])) (l' := (l ++ ([(i : Int)])).set i ((l ++ ([(i : Int)])).getD (Int.toNat r2) 0 : Int)) (val := I ((l ++ ([(i : Int)])).getD (Int.toNat r2) 0)) (L' := [cOwn (α := Int) 3 ae ([(i : Int)]), cBlk ab [ac, I q1, I q2] 158, cOwn (α := Int) 3 aa ((l ++ ([(i : Int)])).set i ((l ++ ([(i : Int)])).getD (Int.toNat r2) 0 : Int))]) H rfl Sz3 (by omega) (by omega) ((l ++ ([(i : Int)])).getD (Int.toNat r2) 0 : Int) rfl rfl rfl rfl rfl ?_
    intro aP H
    refine s_nil ⟨(H.pick [0, 1] (by decide) rfl), ?_⟩
    refine t_l rfl ?_
    refine s_val (x_ix (v := vat aa 1 (Int.toNat r2)) rfl rfl (Sl.ix (α := Int) T34.und T34.size (ownSl (H.get (k := 2) rfl)) (by omega) (by omega))) ?_
    refine s_nil ⟨(H.pick [0, 1] (by decide) rfl), ?_⟩
    refine t_l rfl ?_
    refine t_ost (k := 2) (i := r2) (l := (l ++ ([(i : Int)])).set i ((l ++ ([(i : Int)])).getD (Int.toNat r2) 0 : Int)) (l' := ((l ++ ([(i : Int)])).set i ((l ++ ([(i : Int)])).getD (Int.toNat r2) 0 : Int)).set (Int.toNat r2) ((l ++ ([(i : Int)])).getD i 0 : Int)) (val := I ((l ++ ([(i : Int)])).getD i 0)) (L' := [cOwn (α := Int) 3 ae ([(i : Int)]), cBlk ab [ac, I q1, I q2] 158, cOwn (α := Int) 3 aa (((l ++ ([(i : Int)])).set i ((l ++ ([(i : Int)])).getD (Int.toNat r2) 0 : Int)).set (Int.toNat r2) ((l ++ ([(i : Int)])).getD i 0 : Int))]) H rfl Sz3 (by omega) (by omega) ((l ++ ([(i : Int)])).getD i 0 : Int) rfl rfl rfl rfl rfl ?_
    intro aQ H
    refine s_nil ⟨(H.pick [0, 1] (by decide) rfl), ?_⟩
    refine t_nil ?_
    refine W.region rfl <| sM (I (i : Int)) rfl <| sR _ _ ((i : Int) + 1) rfl rfl rfl (by omega) <| sA (I ((i : Int) + 1)) rfl <| s_nil ?_
    exact ⟨ai, aj, q1, q2, i + 1, ((l ++ ([(i : Int)])).set i ((l ++ ([(i : Int)])).getD (Int.toNat r2) 0 : Int)).set (Int.toNat r2) ((l ++ ([(i : Int)])).getD i 0 : Int), aa, _, upds_of _ _ ⟨rfl, rfl, rfl, rfl, trivial⟩, M.e_inl hM ah, (H.pick [2, 1] (by decide) rfl)⟩
   skip
   refine s_val (x_ix (v := vat aa 1 (Int.toNat (i : Int))) rfl rfl (Sl.ix (α := Int) T34.und T34.size (ownSl (H.get (k := 2) rfl)) (by omega) (by omega))) ?_
   refine s_nil ⟨(H.pick [0, 1] (by decide) rfl), ?_⟩
   refine t_l2 rfl rfl ?_ ?_
   ·skip
    refine s_val (x_ld (v := I ((l ++ ([(i : Int)])).getD (Int.toNat r2) 0)) rfl (ld_sc Sc3 (At.mono (Int_at (ownSl (H.get (k := 2) rfl)) (i := r2) (by omega) (by omega)) (ownLe _ (H.get (k := 2) rfl))))) ?_
    refine s_nil ⟨(H.pick [0, 1] (by decide) rfl), ?_⟩
    refine t_l rfl ?_
    refine s_val (x_ld (v := I ((l ++ ([(i : Int)])).getD i 0)) rfl (ld_sc Sc3 (At.mono (Int_at (ownSl (H.get (k := 2) rfl)) (i := (i : Int)) (by omega) (by omega)) (ownLe _ (H.get (k := 2) rfl))))) ?_
    refine s_nil ⟨(H.pick [0, 1] (by decide) rfl), ?_⟩
    refine t_l rfl ?_
    refine s_val (x_ix (v := vat aa 1 (Int.toNat (i : Int))) rfl rfl (Sl.ix (α := Int) T34.und T34.size (ownSl (H.get (k := 2) rfl)) (by omega) (by omega))) ?_
    refine s_nil ⟨(H.pick [0, 1] (by decide) rfl), ?_⟩
    refine t_l rfl ?_
    refine t_ost (k := 2) (i := (i : Int)) (l := l ++ ([(i : Int)])) (l' := (l ++ ([(i : Int)])).set i ((l ++ ([(i : Int)])).getD (Int.toNat r2) 0 : Int)) (val := I ((l ++ ([(i : Int)])).getD (Int.toNat r2) 0)) (L' := [cOwn (α := Int) 3 ae ([(i : Int)]), cBlk ab [ac, I q1, I q2] 158, cOwn (α := Int) 3 aa ((l ++ ([(i : Int)])).set i ((l ++ ([(i : Int)])).getD (Int.toNat r2) 0 : Int))]) H rfl Sz3 (by omega) (by omega) ((l ++ ([(i : Int)])).getD (Int.toNat r2) 0 : Int) rfl rfl rfl rfl rfl ?_
    intro aR H
    refine s_nil ⟨(H.pick [0, 1] (by decide) rfl), ?_⟩
    refine t_l rfl ?_
    refine s_val (x_ix (v := vat aa 1 (Int.toNat r2)) rfl rfl (Sl.ix (α := Int) T34.und T34.size (ownSl (H.get (k := 2) rfl)) (by omega) (by omega))) ?_
    refine s_nil ⟨(H.pick [0, 1] (by decide) rfl), ?_⟩
    refine t_l rfl ?_
    refine t_ost (k := 2) (i := r2) (l := (l ++ ([(i : Int)])).set i ((l ++ ([(i : Int)])).getD (Int.toNat r2) 0 : Int)) (l' := ((l ++ ([(i : Int)])).set i ((l ++ ([(i : Int)])).getD (Int.toNat r2) 0 : Int)).set (Int.toNat r2) ((l ++ ([(i : Int)])).getD i 0 : Int)) (val := I ((l ++ ([(i : Int)])).getD i 0)) (L' := [cOwn (α := Int) 3 ae ([(i : Int)]), cBlk ab [ac, I q1, I q2] 158, cOwn (α := Int) 3 aa (((l ++ ([(i : Int)])).set i ((l ++ ([(i : Int)])).getD (Int.toNat r2) 0 : Int)).set (Int.toNat r2) ((l ++ ([(i : Int)])).getD i 0 : Int))]) H rfl Sz3 (by omega) (by omega) ((l ++ ([(i : Int)])).getD i 0 : Int) rfl rfl rfl rfl rfl ?_
    intro aS H
    refine s_nil ⟨(H.pick [0, 1] (by decide) rfl), ?_⟩
    refine t_nil ?_
    refine W.region rfl <| sM (I (i : Int)) rfl <| sR _ _ ((i : Int) + 1) rfl rfl rfl (by omega) <| sA (I ((i : Int) + 1)) rfl <| s_nil ?_
    exact ⟨ai, aj, q1, q2, i + 1, ((l ++ ([(i : Int)])).set i ((l ++ ([(i : Int)])).getD (Int.toNat r2) 0 : Int)).set (Int.toNat r2) ((l ++ ([(i : Int)])).getD i 0 : Int), aa, _, upds_of _ _ ⟨rfl, rfl, rfl, rfl, trivial⟩, M.e_inl hM ah, (H.pick [2, 1] (by decide) rfl)⟩
   skip
   refine s_val (x_ld (v := I ((l ++ ([(i : Int)])).getD i 0)) rfl (ld_sc Sc3 (At.mono (Int_at (ownSl (H.get (k := 2) rfl)) (i := (i : Int)) (by omega) (by omega)) (ownLe _ (H.get (k := 2) rfl))))) ?_
   refine s_nil ⟨(H.pick [0, 1] (by decide) rfl), ?_⟩
   refine t_l rfl ?_
   refine s_val (x_ld (v := I ((l ++ ([(i : Int)])).getD (Int.toNat r2) 0)) rfl (ld_sc Sc3 (At.mono (Int_at (ownSl (H.get (k := 2) rfl)) (i := r2) (by omega) (by omega)) (ownLe _ (H.get (k := 2) rfl))))) ?_
   refine s_nil ⟨(H.pick [0, 1] (by decide) rfl), ?_⟩
   refine t_l rfl ?_
   refine s_val (x_ix (v := vat aa 1 (Int.toNat (i : Int))) rfl rfl (Sl.ix (α := Int) T34.und T34.size (ownSl (H.get (k := 2) rfl)) (by omega) (by omega))) ?_
   refine s_nil ⟨(H.pick [0, 1] (by decide) rfl), ?_⟩
   refine t_l rfl ?_
   refine t_ost (k := 2) (i := (i : Int)) (l := l ++ ([(i : Int)])) (l' := (l ++ ([(i : Int)])).set i ((l ++ ([(i : Int)])).getD (Int.toNat r2) 0 : Int)) (val := I ((l ++ ([(i : Int)])).getD (Int.toNat r2) 0)) (L' := [cOwn (α := Int) 3 ae ([(i : Int)]), cBlk ab [ac, I q1, I q2] 158, cOwn (α := Int) 3 aa ((l ++ ([(i : Int)])).set i ((l ++ ([(i : Int)])).getD (Int.toNat r2) 0 : Int))]) H rfl Sz3 (by omega) (by omega) ((l ++ ([(i : Int)])).getD (Int.toNat r2) 0 : Int) rfl rfl rfl rfl rfl ?_
   intro aT H
   refine s_nil ⟨(H.pick [0, 1] (by decide) rfl), ?_⟩
   refine t_l rfl ?_
   refine s_val (x_ix (v := vat aa 1 (Int.toNat r2)) rfl rfl (Sl.ix (α := Int) T34.und T34.size (ownSl (H.get (k := 2) rfl)) (by omega) (by omega))) ?_
   refine s_nil ⟨(H.pick [0, 1] (by decide) rfl), ?_⟩
   refine t_l rfl ?_
   refine t_ost (k := 2) (i := r2) (l := (l ++ ([(i : Int)])).set i ((l ++ ([(i : Int)])).getD (Int.toNat r2) 0 : Int)) (l' := ((l ++ ([(i : Int)])).set i ((l ++ ([(i : Int)])).getD (Int.toNat r2) 0 : Int)).set (Int.toNat r2) ((l ++ ([(i : Int)])).getD i 0 : Int)) (val := I ((l ++ ([(i : Int)])).getD i 0)) (L' := [cOwn (α := Int) 3 ae ([(i : Int)]), cBlk ab [ac, I q1, I q2] 158, cOwn (α := Int) 3 aa (((l ++ ([(i : Int)])).set i ((l ++ ([(i : Int)])).getD (Int.toNat r2) 0 : Int)).set (Int.toNat r2) ((l ++ ([(i : Int)])).getD i 0 : Int))]) H rfl Sz3 (by omega) (by omega) ((l ++ ([(i : Int)])).getD i 0 : Int) rfl rfl rfl rfl rfl ?_
   intro aU H
   refine s_nil ⟨(H.pick [0, 1] (by decide) rfl), ?_⟩
   refine t_nil ?_
   refine W.region rfl <| sM (I (i : Int)) rfl <| sR _ _ ((i : Int) + 1) rfl rfl rfl (by omega) <| sA (I ((i : Int) + 1)) rfl <| s_nil ?_
   exact ⟨ai, aj, q1, q2, i + 1, ((l ++ ([(i : Int)])).set i ((l ++ ([(i : Int)])).getD (Int.toNat r2) 0 : Int)).set (Int.toNat r2) ((l ++ ([(i : Int)])).getD i 0 : Int), aa, _, upds_of _ _ ⟨rfl, rfl, rfl, rfl, trivial⟩, M.e_inl hM ah, (H.pick [2, 1] (by decide) rfl)⟩
  skip
  refine s_val (x_ix (v := vat aa 1 (Int.toNat (i : Int))) rfl rfl (Sl.ix (α := Int) T34.und T34.size (ownSl (H.get (k := 2) rfl)) (by omega) (by omega))) ?_
  refine s_nil ⟨(H.pick [0, 1] (by decide) rfl), ?_⟩
  refine t_l2 rfl rfl ?_ ?_
  ·skip
   refine s_val (x_ix (v := vat aa 1 (Int.toNat r2)) rfl rfl (Sl.ix (α := Int) T34.und T34.size (ownSl (H.get (k := 2) rfl)) (by omega) (by omega))) ?_
   refine s_nil ⟨(H.pick [0, 1] (by decide) rfl), ?_⟩
   refine t_l2 rfl rfl ?_ ?_
   ·skip
    refine s_val (x_ld (v := I ((l ++ ([(i : Int)])).getD (Int.toNat r2) 0)) rfl (ld_sc Sc3 (At.mono (Int_at (ownSl (H.get (k := 2) rfl)) (i := r2) (by omega) (by omega)) (ownLe _ (H.get (k := 2) rfl))))) ?_
    refine s_nil ⟨(H.pick [0, 1] (by decide) rfl), ?_⟩
    refine t_l rfl ?_
    refine s_val (x_ld (v := I ((l ++ ([(i : Int)])).getD i 0)) rfl (ld_sc Sc3 (At.mono (Int_at (ownSl (H.get (k := 2) rfl)) (i := (i : Int)) (by omega) (by omega)) (ownLe _ (H.get (k := 2) rfl))))) ?_
    refine s_nil ⟨(H.pick [0, 1] (by decide) rfl), ?_⟩
    refine t_l rfl ?_
    refine s_val (x_ix (v := vat aa 1 (Int.toNat (i : Int))) rfl rfl (Sl.ix (α := Int) T34.und T34.size (ownSl (H.get (k := 2) rfl)) (by omega) (by omega))) ?_
    refine s_nil ⟨(H.pick [0, 1] (by decide) rfl), ?_⟩
    refine t_l rfl ?_
    refine t_ost (k := 2) (i := (i : Int)) (l := l ++ ([(i : Int)])) (l' := (l ++ ([(i : Int)])).set i ((l ++ ([(i : Int)])).getD (Int.toNat r2) 0 : Int)) (val := I ((l ++ ([(i : Int)])).getD (Int.toNat r2) 0)) (L' := [cOwn (α := Int) 3 ae ([(i : Int)]), cBlk ab [ac, I q1, I q2] 158, cOwn (α := Int) 3 aa ((l ++ ([(i : Int)])).set i ((l ++ ([(i : Int)])).getD (Int.toNat r2) 0 : Int))]) H rfl Sz3 (by omega) (by omega) ((l ++ ([(i : Int)])).getD (Int.toNat r2) 0 : Int) rfl rfl rfl rfl rfl ?_
    intro aV H
    refine s_nil ⟨(H.pick [0, 1] (by decide) rfl), ?_⟩
    refine t_l rfl ?_
    refine s_val (x_ix (v := vat aa 1 (Int.toNat r2)) rfl rfl (Sl.ix (α := Int) T34.und T34.size (ownSl (H.get (k := 2) rfl)) (by omega) (by omega))) ?_
    refine s_nil ⟨(H.pick [0, 1] (by decide) rfl), ?_⟩
    refine t_l rfl ?_
    refine t_ost (k := 2) (i := r2) (l := (l ++ ([(i : Int)])).set i ((l ++ ([(i : Int)])).getD (Int.toNat r2) 0 : Int)) (l' := ((l ++ ([(i : Int)])).set i ((l ++ ([(i : Int)])).getD (Int.toNat r2) 0 : Int)).set (Int.toNat r2) ((l ++ ([(i : Int)])).getD i 0 : Int)) (val := I ((l ++ ([(i : Int)])).getD i 0)) (L' := [cOwn (α := Int) 3 ae ([(i : Int)]), cBlk ab [ac, I q1, I q2] 158, cOwn (α := Int) 3 aa (((l ++ ([(i : Int)])).set i ((l ++ ([(i : Int)])).getD (Int.toNat r2) 0 : Int)).set (Int.toNat r2) ((l ++ ([(i : Int)])).getD i 0 : Int))]) H rfl Sz3 (by omega) (by omega) ((l ++ ([(i : Int)])).getD i 0 : Int) rfl rfl rfl rfl rfl ?_
    intro aW H
    refine s_nil ⟨(H.pick [0, 1] (by decide) rfl), ?_⟩
    refine t_nil ?_
    refine W.region rfl <| sM (I (i : Int)) rfl <| sR _ _ ((i : Int) + 1) rfl rfl rfl (by omega) <| sA (I ((i : Int) + 1)) rfl <| s_nil ?_
    exact ⟨ai, aj, q1, q2, i + 1, ((l ++ ([(i : Int)])).set i ((l ++ ([(i : Int)])).getD (Int.toNat r2) 0 : Int)).set (Int.toNat r2) ((l ++ ([(i : Int)])).getD i 0 : Int), aa, _, upds_of _ _ ⟨rfl, rfl, rfl, rfl, trivial⟩, M.e_inl hM ah, (H.pick [2, 1] (by decide) rfl)⟩
   skip
   refine s_val (x_ld (v := I ((l ++ ([(i : Int)])).getD i 0)) rfl (ld_sc Sc3 (At.mono (Int_at (ownSl (H.get (k := 2) rfl)) (i := (i : Int)) (by omega) (by omega)) (ownLe _ (H.get (k := 2) rfl))))) ?_
   refine s_nil ⟨(H.pick [0, 1] (by decide) rfl), ?_⟩
   refine t_l rfl ?_
   refine s_val (x_ld (v := I ((l ++ ([(i : Int)])).getD (Int.toNat r2) 0)) rfl (ld_sc Sc3 (At.mono (Int_at (ownSl (H.get (k := 2) rfl)) (i := r2) (by omega) (by omega)) (ownLe _ (H.get (k := 2) rfl))))) ?_
   refine s_nil ⟨(H.pick [0, 1] (by decide) rfl), ?_⟩
   refine t_l rfl ?_
   refine s_val (x_ix (v := vat aa 1 (Int.toNat (i : Int))) rfl rfl (Sl.ix (α := Int) T34.und T34.size (ownSl (H.get (k := 2) rfl)) (by omega) (by omega))) ?_
   refine s_nil ⟨(H.pick [0, 1] (by decide) rfl), ?_⟩
   refine t_l rfl ?_
   refine t_ost (k := 2) (i := (i : Int)) (l := l ++ ([(i : Int)])) (l' := (l ++ ([(i : Int)])).set i ((l ++ ([(i : Int)])).getD (Int.toNat r2) 0 : Int)) (val := I ((l ++ ([(i : Int)])).getD (Int.toNat r2) 0)) (L' := [cOwn (α := Int) 3 ae ([(i : Int)]), cBlk ab [ac, I q1, I q2] 158, cOwn (α := Int) 3 aa ((l ++ ([(i : Int)])).set i ((l ++ ([(i : Int)])).getD (Int.toNat r2) 0 : Int))]) H rfl Sz3 (by omega) (by omega) ((l ++ ([(i : Int)])).getD (Int.toNat r2) 0 : Int) rfl rfl rfl rfl rfl ?_
   intro aX H
   refine s_nil ⟨(H.pick [0, 1] (by decide) rfl), ?_⟩
   refine t_l rfl ?_
   refine s_val (x_ix (v := vat aa 1 (Int.toNat r2)) rfl rfl (Sl.ix (α := Int) T34.und T34.size (ownSl (H.get (k := 2) rfl)) (by omega) (by omega))) ?_
   refine s_nil ⟨(H.pick [0, 1] (by decide) rfl), ?_⟩
   refine t_l rfl ?_
   refine t_ost (k := 2) (i := r2) (l := (l ++ ([(i : Int)])).set i ((l ++ ([(i : Int)])).getD (Int.toNat r2) 0 : Int)) (l' := ((l ++ ([(i : Int)])).set i ((l ++ ([(i : Int)])).getD (Int.toNat r2) 0 : Int)).set (Int.toNat r2) ((l ++ ([(i : Int)])).getD i 0 : Int)) (val := I ((l ++ ([(i : Int)])).getD i 0)) (L' := [cOwn (α := Int) 3 ae ([(i : Int)]), cBlk ab [ac, I q1, I q2] 158, cOwn (α := Int) 3 aa (((l ++ ([(i : Int)])).set i ((l ++ ([(i : Int)])).getD (Int.toNat r2) 0 : Int)).set (Int.toNat r2) ((l ++ ([(i : Int)])).getD i 0 : Int))]) H rfl Sz3 (by omega) (by omega) ((l ++ ([(i : Int)])).getD i 0 : Int) rfl rfl rfl rfl rfl ?_
   intro aY H
   refine s_nil ⟨(H.pick [0, 1] (by decide) rfl), ?_⟩
   refine t_nil ?_
   refine W.region rfl <| sM (I (i : Int)) rfl <| sR _ _ ((i : Int) + 1) rfl rfl rfl (by omega) <| sA (I ((i : Int) + 1)) rfl <| s_nil ?_
   exact ⟨ai, aj, q1, q2, i + 1, ((l ++ ([(i : Int)])).set i ((l ++ ([(i : Int)])).getD (Int.toNat r2) 0 : Int)).set (Int.toNat r2) ((l ++ ([(i : Int)])).getD i 0 : Int), aa, _, upds_of _ _ ⟨rfl, rfl, rfl, rfl, trivial⟩, M.e_inl hM ah, (H.pick [2, 1] (by decide) rfl)⟩
  skip
  refine s_val (x_ld (v := I ((l ++ ([(i : Int)])).getD i 0)) rfl (ld_sc Sc3 (At.mono (Int_at (ownSl (H.get (k := 2) rfl)) (i := (i : Int)) (by omega) (by omega)) (ownLe _ (H.get (k := 2) rfl))))) ?_
  refine s_nil ⟨(H.pick [0, 1] (by decide) rfl), ?_⟩
  refine t_l rfl ?_
  refine s_val (x_ix (v := vat aa 1 (Int.toNat r2)) rfl rfl (Sl.ix (α := Int) T34.und T34.size (ownSl (H.get (k := 2) rfl)) (by omega) (by omega))) ?_
  refine s_nil ⟨(H.pick [0, 1] (by decide) rfl), ?_⟩
  refine t_l rfl ?_
  refine s_val (x_ld (v := I ((l ++ ([(i : Int)])).getD (Int.toNat r2) 0)) rfl (ld_sc Sc3 (At.mono (Int_at (ownSl (H.get (k := 2) rfl)) (i := r2) (by omega) (by omega)) (ownLe _ (H.get (k := 2) rfl))))) ?_
  refine s_nil ⟨(H.pick [0, 1] (by decide) rfl), ?_⟩
  refine t_l rfl ?_
  refine s_val (x_ix (v := vat aa 1 (Int.toNat (i : Int))) rfl rfl (Sl.ix (α := Int) T34.und T34.size (ownSl (H.get (k := 2) rfl)) (by omega) (by omega))) ?_
  refine s_nil ⟨(H.pick [0, 1] (by decide) rfl), ?_⟩
  refine t_l rfl ?_
  refine t_ost (k := 2) (i := (i : Int)) (l := l ++ ([(i : Int)])) (l' := (l ++ ([(i : Int)])).set i ((l ++ ([(i : Int)])).getD (Int.toNat r2) 0 : Int)) (val := I ((l ++ ([(i : Int)])).getD (Int.toNat r2) 0)) (L' := [cOwn (α := Int) 3 ae ([(i : Int)]), cBlk ab [ac, I q1, I q2] 158, cOwn (α := Int) 3 aa ((l ++ ([(i : Int)])).set i ((l ++ ([(i : Int)])).getD (Int.toNat r2) 0 : Int))]) H rfl Sz3 (by omega) (by omega) ((l ++ ([(i : Int)])).getD (Int.toNat r2) 0 : Int) rfl rfl rfl rfl rfl ?_
  intro aZ H
  refine s_nil ⟨(H.pick [0, 1] (by decide) rfl), ?_⟩
  refine t_l rfl ?_
  refine s_val (x_ix (v := vat aa 1 (Int.toNat r2)) rfl rfl (Sl.ix (α := Int) T34.und T34.size (ownSl (H.get (k := 2) rfl)) (by omega) (by omega))) ?_
  refine s_nil ⟨(H.pick [0, 1] (by decide) rfl), ?_⟩
  refine t_l rfl ?_
  refine t_ost (k := 2) (i := r2) (l := (l ++ ([(i : Int)])).set i ((l ++ ([(i : Int)])).getD (Int.toNat r2) 0 : Int)) (l' := ((l ++ ([(i : Int)])).set i ((l ++ ([(i : Int)])).getD (Int.toNat r2) 0 : Int)).set (Int.toNat r2) ((l ++ ([(i : Int)])).getD i 0 : Int)) (val := I ((l ++ ([(i : Int)])).getD i 0)) (L' := [cOwn (α := Int) 3 ae ([(i : Int)]), cBlk ab [ac, I q1, I q2] 158, cOwn (α := Int) 3 aa (((l ++ ([(i : Int)])).set i ((l ++ ([(i : Int)])).getD (Int.toNat r2) 0 : Int)).set (Int.toNat r2) ((l ++ ([(i : Int)])).getD i 0 : Int))]) H rfl Sz3 (by omega) (by omega) ((l ++ ([(i : Int)])).getD i 0 : Int) rfl rfl rfl rfl rfl ?_
  intro a6 H
  refine s_nil ⟨(H.pick [0, 1] (by decide) rfl), ?_⟩
  refine t_nil ?_
  refine W.region rfl <| sM (I (i : Int)) rfl <| sR _ _ ((i : Int) + 1) rfl rfl rfl (by omega) <| sA (I ((i : Int) + 1)) rfl <| s_nil ?_
  exact ⟨ai, aj, q1, q2, i + 1, ((l ++ ([(i : Int)])).set i ((l ++ ([(i : Int)])).getD (Int.toNat r2) 0 : Int)).set (Int.toNat r2) ((l ++ ([(i : Int)])).getD i 0 : Int), aa, _, upds_of _ _ ⟨rfl, rfl, rfl, rfl, trivial⟩, M.e_inl hM ah, (H.pick [2, 1] (by decide) rfl)⟩
 replace hM := M.e_f hM ak
 simp only [qz1, qz2, qz3, qz4, qz5, qz6, ne_eq, qz7] at ak
 refine W.exit ?_
 have aC := M.e_inr hM ah
 subst aC
 replace hM := aw
 try dsimp only at hM
 refine sQ rfl <| sM ag rfl <| sA ag rfl <| s_nil ?_
 refine W.ret ?_
 have aD := M.e_pure hM
 exact ⟨_, resE_tmp rfl, ⟨l, s2, s3, ag, aD, rfl, H⟩⟩

def zaS (s_bytes : List UInt8) (s_used : Int) (s_mix : Int) (lo : Int) (hi : Int) : M (Int × Int × Int) :=
  M.grd (decide ((-9223372036854775808 : Int) <= (hi - lo)) && decide ((hi - lo) <= (9223372036854775807 : Int))) <|
  M.grd (decide ((-9223372036854775808 : Int) <= ((hi - lo) + 1)) && decide (((hi - lo) + 1) <= (9223372036854775807 : Int))) <|
  M.bind (zaa s_bytes s_used s_mix ((hi - lo) + 1)) fun (r2, q1, q2) =>
  M.grd (decide ((-9223372036854775808 : Int) <= (lo + r2)) && decide ((lo + r2) <= (9223372036854775807 : Int))) <|
  M.pure ((lo + r2), q1, q2)
theorem zbB {R : List Chunk} {aa : Nat} {ac : Cells} {ab : Value} (s_bytes : List UInt8) (s_used : Int) (s_mix : Int) (lo : Int) (hi : Int) (ag : Reads R ac) (ah : Sl ac ab s_bytes) {r : (Int × Int × Int)} (hM : (zaS s_bytes s_used s_mix lo hi).Ends r) (w : World) (H : St w w [cBlk aa [ab, I s_used, I s_mix] 158] R) : Ret Try.prog 43 #[Pz aa, I lo, I hi] w fun v w' => ∃ (y0 : Int) (y1 : Int) (y2 : Int), (y0, y1, y2) = r /\ v = I y0 /\ St w w' [cBlk aa [ab, I y1, I y2] 158] R := by
 refine ret_of_W Try.func43 rfl rfl rfl ?_
 refine sQ rfl <| sA (I 0) rfl <| s_nil <| sQ rfl <| sM (I lo) rfl <| sM (Pz aa) rfl <| sM (I hi) rfl <| sM (I lo) rfl ?_
 obtain ⟨am, hM⟩ := M.e_gd hM
 refine sR _ _ (hi - lo) rfl rfl rfl (by omega) ?_
 obtain ⟨ao, hM⟩ := M.e_gd hM
 refine sR _ _ ((hi - lo) + 1) rfl rfl rfl (by omega) ?_
 obtain ⟨ap, ai, hM⟩ := M.e_bind hM
 refine s_call cf44 [Pz aa, I ((hi - lo) + 1)] rfl (zac s_bytes s_used s_mix ((hi - lo) + 1) (ag.app _) ah ai _ (St.give (T := []) H rfl)) ?_
 rintro vq aj ⟨r2, q1, q2, ak, hvq, ae⟩
 subst ak
 subst vq
 try dsimp only at hM
 replace H : St w aj [cBlk aa [ab, I q1, I q2] 158] R := H.back ae rfl
 clear ae
 obtain ⟨aq, hM⟩ := M.e_gd hM
 refine sR _ _ (lo + r2) rfl rfl rfl (by omega) <| sA (I (lo + r2)) rfl <| s_nil ?_
 refine W.ret ?_
 have al := M.e_pure hM
 exact ⟨_, resE_tmp rfl, ⟨(lo + r2), q1, q2, al, rfl, H⟩⟩

def zaM (s_bytes : List UInt8) (s8 : Nat) : (Int × Int × Int × (List Int)) -> M ((Int × Int × Int × (List Int)) ⊕ (Int × Int × (List Int) × (List Int))) := fun (s2, s3, k, l) =>
  bif (((decide (0 <= k)) && (decide ((l.length : Int) < 5))) && (decide (2 < (s8 : Int)))) then (
  M.bind (zaa s_bytes s2 s3 3) fun (r5, aa, ab) =>
  bif r5 == 0 then (
  M.grd (decide ((l.length + ([(k : Int)]).length) * 8 <= 140737488355328)) <|
  M.grd (decide ((-9223372036854775808 : Int) <= (k - 1)) && decide ((k - 1) <= (9223372036854775807 : Int))) <|
  M.pure (.inl (aa, ab, k - 1, l ++ ([(k : Int)]))))
  else (
  M.grd (decide ((-9223372036854775808 : Int) <= (k - 1)) && decide ((k - 1) <= (9223372036854775807 : Int))) <|
  M.pure (.inl (aa, ab, k - 1, l))))
  else (
  M.pure (.inr (s2, s3, l, l)))
def zaA (s_bytes : List UInt8) (r2 : Int) : (Int × Int × Nat × (List Work)) -> M ((Int × Int × Nat × (List Work)) ⊕ ((List Work) × (List Work) × Int × Int)) := fun (s6, s7, s8, l4) =>
  bif decide ((s8 : Int) < r2) then (
  M.bind (zaa s_bytes s6 s7 2000) fun (r3, aa, ab) =>
  M.bind (zaa s_bytes aa ab 60) fun (r4, ac, ae) =>
  M.grd (decide ((-9223372036854775808 : Int) <= ((s8 : Int) - 1)) && decide (((s8 : Int) - 1) <= (9223372036854775807 : Int))) <|
  M.bind (M.iter (zaM s_bytes s8) (ac, ae, (s8 : Int) - 1, [])) fun (s4, s5, l2, l3) =>
  M.grd (decide ((l4.length + ([(⟨l3, (r3 : Int), (r4 : Int)⟩ : Work)]).length) * 40 <= 140737488355328)) <|
  M.grd (decide ((-9223372036854775808 : Int) <= ((s8 : Int) + 1)) && decide (((s8 : Int) + 1) <= (9223372036854775807 : Int))) <|
  M.pure (.inl (s4, s5, s8 + 1, l4 ++ ([(⟨l3, (r3 : Int), (r4 : Int)⟩ : Work)]))))
  else (
  M.pure (.inr (l4, l4, s6, s7)))
def zaP (s_bytes : List UInt8) (s_used : Int) (s_mix : Int) (most : Int) : M ((List Work) × Int × Int) :=
  M.bind (zaS s_bytes s_used s_mix 2 most) fun (r2, q1, q2) =>
  M.bind (M.iter (zaA s_bytes r2) (q1, q2, 0, [])) fun (l5, l6, s9, aa) =>
  M.pure (l6, s9, aa)
theorem zbv {R : List Chunk} {aa : Nat} {aK : Cells} {ag : Value} (s_bytes : List UInt8) (s_used : Int) (s_mix : Int) (most : Int) (ar : Reads R aK) (au : Sl aK ag s_bytes) {r : ((List Work) × Int × Int)} (hM : (zaP s_bytes s_used s_mix most).Ends r) (w : World) (H : St w w [cBlk aa [ag, I s_used, I s_mix] 158] R) : Ret Try.prog 41 #[Pz aa, I most] w fun v w' => ∃ (y0 : List Work) (y1 : Int) (y2 : Int) (u0 : Value) (rr1 : List (Raw 2)) (aL : Base), (y0, y1, y2) = r /\ v = u0 /\ St w w' [cOwn (α := Raw 2) 60 u0 rr1, cRo aL, cBlk aa [ag, I y1, I y2] 158] R /\ RepR (α := Work) aL.cells rr1 y0 := by
 refine ret_of_W Try.func41 rfl rfl rfl ?_
 refine sQ rfl <| sA (.slice none 0 0) rfl <| s_nil <| sQ rfl <| sA (.slice none 0 0) rfl <| s_nil <| W.seq <| sQ rfl <| sM (Pz aa) rfl ?_
 refine sM (I most) rfl ?_
 obtain ⟨bE, aW, hM⟩ := M.e_bind hM
 refine s_call cf43 [Pz aa, I 2, I most] rfl (zbB s_bytes s_used s_mix 2 most (ar.app _) au aW _ (St.give (T := []) H rfl)) ?_
 rintro vq aM ⟨r2, q1, q2, aX, hvq, ai⟩
 subst aX
 subst vq
 try dsimp only at hM
 replace H : St w aM [cBlk aa [ag, I q1, I q2] 158] R := H.back ai rfl
 clear ai
 refine sM (I 0) rfl <| s_nil <| W.block ?_
 obtain ⟨az, H⟩ := H.emptyE
 replace H : St w aM [cOwn (α := Raw 2) 60 (.slice none 0 0) ([]), cRo az, cBlk aa [ag, I q1, I q2] 158] R := H.nilOwn (α := Raw 2) 60
 have aY : RepR (α := Work) (n := 2) az.cells [] [] := .nil
 obtain ⟨aZ, aA, a6⟩ := M.e_bind hM
 obtain ⟨a7, aA⟩ := M.e_iter aA
 refine W.loop (fun m σ W => ∃ (s6 : Int) (s7 : Int) (s8 : Nat) (l4 : List Work) (ab : Value) (ac : List (Raw 2)) (B_l4 : Base) (ρ : Env), σ = upds ρ [(0, Pz aa), (5, ab), (11, I r2), (12, I (s8 : Int))] /\ M.iterN (zaA s_bytes r2) m (s6, s7, s8, l4) = some aZ /\ St w W [cOwn (α := Raw 2) 60 ab ac, cRo B_l4, cBlk aa [ag, I s6, I s7] 158] R /\ RepR (α := Work) B_l4.cells ac l4) ?_ ?_
 ·exact ⟨_, q1, q2, 0, [], (.slice none 0 0), [], az, _, upds_of _ _ ⟨rfl, rfl, rfl, rfl, trivial⟩, aA, H, aY⟩
 rintro bF σ bG ⟨s6, s7, s8, l4, ab, ac, B_l4, ρ, rfl, aN, H, al⟩
 obtain ⟨a8, ba, bH, hM, aO⟩ := M.e_iterN aN
 simp only [zaA] at hM
 clear aN
 refine sQ rfl <| sC _ _ (decide ((s8 : Int) < r2)) rfl rfl rfl <| s_nil <| W.seq ?_
 refine W.cond (decide ((s8 : Int) < r2)) rfl (fun am => ?_) (fun am => ?_)
 ·replace hM := M.e_t hM am
  simp only [qz1, qz2, qz3, qz4, qz5, qz6, ne_eq, qz7] at am
  refine W.skip <| W.seq <| W.block <| sQ rfl <| sM (I (s8 : Int)) rfl <| sA (I (s8 : Int)) rfl <| s_nil <| sQ rfl <| sM (Pz aa) rfl ?_
  obtain ⟨bI, bb, hM⟩ := M.e_bind hM
  refine s_call cf44 [Pz aa, I 2000] rfl (zac s_bytes s6 s7 2000 (ar.app _) au bb _ (St.give (L := [cBlk aa [ag, I s6, I s7] 158, cOwn (α := Raw 2) 60 ab ac, cRo B_l4]) (A := [cBlk aa [ag, I s6, I s7] 158]) (T := [cOwn (α := Raw 2) 60 ab ac, cRo B_l4]) (H.pick [2, 0, 1] (by decide) rfl) rfl)) ?_
  rintro vq bc ⟨r3, aP, aQ, bf, hvq, ai⟩
  subst bf
  subst vq
  try dsimp only at hM
  replace H : St w bc [cBlk aa [ag, I aP, I aQ] 158, cOwn (α := Raw 2) 60 ab ac, cRo B_l4] R := H.pick [2, 0, 1] (by decide) rfl |>.back ai rfl
  clear ai
  refine sM (Pz aa) rfl ?_
  obtain ⟨bJ, bg, hM⟩ := M.e_bind hM
  refine s_call cf44 [Pz aa, I 60] rfl (zac s_bytes aP aQ 60 (ar.app _) au bg _ (St.give (T := [cOwn (α := Raw 2) 60 ab ac, cRo B_l4]) H rfl)) ?_
  rintro vq bh ⟨r4, av, aw, bi, hvq, ai⟩
  subst bi
  subst vq
  try dsimp only at hM
  replace H : St w bh [cBlk aa [ag, I av, I aw] 158, cOwn (α := Raw 2) 60 ab ac, cRo B_l4] R := H.back ai rfl
  clear ai
  refine s_val (x_bld (ps := [(1, I r3), (2, I r4)]) (zs := [.slice none 0 0, I 0, I 0]) (L' := [.slice none 0 0, I r3, I r4]) rfl Try.underlying60 Al60 rfl (Bd60 Try.underlying60) (.cons (cs := [I r3]) rfl rfl rfl rfl rfl <| .cons (cs := [I r4]) rfl rfl rfl rfl rfl <| .nil)) ?_
  refine t_alloc (cs := [.slice none 0 0, I 0, I 0]) H Al60 rfl ?_
  intro ah bK H
  refine t_st (k := 0) (b := ah) (off := 0) (cs := [.slice none 0 0, I 0, I 0]) (vs := [.slice none 0 0, I r3, I r4]) (cs' := [.slice none 0 0, I r3, I r4]) (v := .agg #[.slice none 0 0, I r3, I r4]) (L' := [cBlk ah [.slice none 0 0, I r3, I r4] 60, cBlk aa [ag, I av, I aw] 158, cOwn (α := Raw 2) 60 ab ac, cRo B_l4]) H rfl rfl rfl Sz60 rfl rfl rfl rfl rfl rfl ?_
  intro bj H
  refine s_nil <| W.seq <| sQ rfl <| sM (I (s8 : Int)) rfl ?_
  obtain ⟨bL, hM⟩ := M.e_gd hM
  refine sR _ _ ((s8 : Int) - 1) rfl rfl rfl (by omega) <| sA (I ((s8 : Int) - 1)) rfl <| s_nil <| W.block ?_
  replace H : St w bj [cOwn (α := Int) 3 (.slice none 0 0) ([]), cBlk ah [.slice none 0 0, I r3, I r4] 60, cBlk aa [ag, I av, I aw] 158, cOwn (α := Raw 2) 60 ab ac, cRo B_l4] R := H.nilOwn (α := Int) 3
  obtain ⟨bk, aB, bl⟩ := M.e_bind hM
  obtain ⟨a7, aB⟩ := M.e_iter aB
  refine W.loop (fun m σ W => ∃ (s2 : Int) (s3 : Int) (k : Int) (l : List Int) (ae : Value) (ρ : Env), σ = upds ρ [(0, Pz aa), (5, ab), (6, I (s8 : Int)), (7, Pz ah), (8, I k), (11, I r2), (12, I (s8 : Int))] /\ M.iterN (zaM s_bytes s8) m (s2, s3, k, l) = some bk /\ St w W [cOwn (α := Int) 3 ae l, cBlk ah [ae, I r3, I r4] 60, cBlk aa [ag, I s2, I s3] 158, cOwn (α := Raw 2) 60 ab ac, cRo B_l4] R) ?_ ?_
  ·exact ⟨_, av, aw, (s8 : Int) - 1, [], (.slice none 0 0), _, upds_of _ _ ⟨rfl, rfl, rfl, rfl, rfl, rfl, rfl, trivial⟩, aB, H⟩
  rintro bM σ bm ⟨s2, s3, k, l, ae, ρ, rfl, aR, H⟩
  obtain ⟨aS, aT, bN, hM, aC⟩ := M.e_iterN aR
  simp only [zaM] at hM
  clear aR
  refine W.seq <| sQ rfl <| sM (I k) rfl <| sC _ _ (decide (0 <= k)) rfl rfl rfl <| sM (B (decide (0 <= k))) rfl <| g_val (decide (0 <= k)) (gy_t rfl) (fun hg => x_fa (v := Pz ah) rfl (fa_blk (o := 0) Fd60_0 Sz34)) <| g_val (decide (0 <= k)) (gy_t rfl) (fun hg => x_ld (v := ae) (gd_of hg (Pz ah)) (ldb_sc Sc34 (H.blk (k := 1) rfl) rfl)) <| g_val (decide (0 <= k)) (gy_t rfl) (fun hg => x_lenS T34.und (gd_of hg (ae)) (ownSl (H.get (k := 0) rfl))) <| g_val (decide (0 <= k)) (gy_t rfl) (fun hg => x_cmp (kd := .i64) (r := decide ((l.length : Int) < 5)) (gd_of hg (I (l.length : Int))) rfl rfl) <| s_val (x_pand (b := decide (0 <= k)) (r := decide ((l.length : Int) < 5)) rfl (fun hb => gd_of (c := decide (0 <= k)) (by first | exact hb | (rw [hb]; rfl) | simp_all) (B (decide ((l.length : Int) < 5)))) rfl) <| sM (B ((decide (0 <= k)) && (decide ((l.length : Int) < 5)))) rfl ?_
  refine g_val ((decide (0 <= k)) && (decide ((l.length : Int) < 5))) (gy_t rfl) (fun hg => x_mv (v := I (s8 : Int)) rfl) <| g_val ((decide (0 <= k)) && (decide ((l.length : Int) < 5))) (gy_t rfl) (fun hg => x_cmp (kd := .i64) (r := decide (2 < (s8 : Int))) (gd_of hg (I (s8 : Int))) rfl rfl) <| s_val (x_pand (b := ((decide (0 <= k)) && (decide ((l.length : Int) < 5)))) (r := decide (2 < (s8 : Int))) rfl (fun hb => gd_of (c := ((decide (0 <= k)) && (decide ((l.length : Int) < 5)))) (by first | exact hb | (rw [hb]; rfl) | simp_all) (B (decide (2 < (s8 : Int))))) rfl) <| s_nil ?_
  refine W.cond (((decide (0 <= k)) && (decide ((l.length : Int) < 5))) && (decide (2 < (s8 : Int)))) rfl (fun aD => ?_) (fun aD => ?_)
  ·replace hM := M.e_t hM aD
   refine W.skip <| W.seq <| W.block <| sQ rfl <| sM (Pz aa) rfl ?_
   obtain ⟨bO, bn, hM⟩ := M.e_bind hM
   refine s_call cf44 [Pz aa, I 3] rfl (zac s_bytes s2 s3 3 (ar.app _) au bn _ (St.give (L := [cBlk aa [ag, I s2, I s3] 158, cOwn (α := Int) 3 ae l, cBlk ah [ae, I r3, I r4] 60, cOwn (α := Raw 2) 60 ab ac, cRo B_l4]) (A := [cBlk aa [ag, I s2, I s3] 158]) (T := [cOwn (α := Int) 3 ae l, cBlk ah [ae, I r3, I r4] 60, cOwn (α := Raw 2) 60 ab ac, cRo B_l4]) (H.pick [2, 0, 1, 3, 4] (by decide) rfl) rfl)) ?_
   rintro vq bo ⟨r5, ao, ap, bp, hvq, ai⟩
   subst bp
   subst vq
   try dsimp only at hM
   replace H : St w bo [cBlk aa [ag, I ao, I ap] 158, cOwn (α := Int) 3 ae l, cBlk ah [ae, I r3, I r4] 60, cOwn (α := Raw 2) 60 ab ac, cRo B_l4] R := H.pick [2, 0, 1, 3, 4] (by decide) rfl |>.back ai rfl
   clear ai
   refine sC _ _ (r5 == 0) rfl rfl rfl <| s_nil ?_
   refine W.cond (r5 == 0) rfl (fun aq => ?_) (fun aq => ?_)
   ·replace hM := M.e_t hM aq
    simp only [qz1, qz2, qz3, qz4, qz5, qz6, ne_eq, qz7] at aq
    refine W.region rfl <| s_val (x_fa (v := Pz ah) rfl (fa_blk (o := 0) Fd60_0 Sz34)) <| s_val (x_ld (v := ae) rfl (ldb_sc Sc34 (H.blk (k := 2) rfl) rfl)) <| sM (I k) rfl ?_
    refine t_bs (α := Int) T34 [I k] [(k : Int)] H rfl (.cons rfl (Flat.rep_enc _ (k : Int)) <| .nil) rfl rfl rfl ?_
    intro aE bP H
    obtain ⟨bQ, hM⟩ := M.e_gd hM
    refine t_app (α := Int) (k := 2) (l := l) (l2 := [(k : Int)]) (l' := l ++ ([(k : Int)])) (vy := aE) T34 rfl H rfl rfl rfl (ownSl (H.get (k := 0) rfl)) (ownLe _ (H.get (k := 0) rfl)) (rfl) (by first | omega | (simp only [List.length_nil] at *; omega)) ?_
    intro ak bq H
    replace H : St w bq [cOwn (α := Int) 3 aE ([(k : Int)]), cBlk aa [ag, I ao, I ap] 158, cOwn (α := Int) 3 ak (l ++ ([(k : Int)])), cBlk ah [ae, I r3, I r4] 60, cOwn (α := Raw 2) 60 ab ac, cRo B_l4] R := H
    refine s_val (x_fa (v := Pz ah) rfl (fa_blk (o := 0) Fd60_0 Sz34)) ?_
    refine t_st (k := 3) (b := ah) (off := 0) (cs := [ae, I r3, I r4]) (vs := [ak]) (cs' := [ak, I r3, I r4]) (v := ak) (L' := [cOwn (α := Int) 3 aE ([(k : Int)]), cBlk aa [ag, I ao, I ap] 158, cOwn (α := Int) 3 ak (l ++ ([(k : Int)])), cBlk ah [ak, I r3, I r4] 60, cOwn (α := Raw 2) 60 ab ac, cRo B_l4]) H rfl rfl rfl Sz34 (Sl.cells (ownSl (H.get (k := 2) rfl))) rfl rfl (by simp only [List.all_cons, List.all_nil, Bool.true_and, Bool.and_true, Sl.oc (ownSl (H.get (k := 2) rfl))]; try rfl) rfl rfl ?_
    intro bR H
    refine s_nil <| W.region rfl <| sM (I k) rfl ?_
    obtain ⟨bS, hM⟩ := M.e_gd hM
    refine sR _ _ (k - 1) rfl rfl rfl (by omega) <| sA (I (k - 1)) rfl <| s_nil ?_
    exact ⟨aS, aT, ao, ap, k - 1, l ++ ([(k : Int)]), ak, _, upds_of _ _ ⟨rfl, rfl, rfl, rfl, rfl, rfl, rfl, trivial⟩, M.e_inl hM aC, (H.pick [2, 3, 1, 4, 5] (by decide) rfl)⟩
   replace hM := M.e_f hM aq
   simp only [qz1, qz2, qz3, qz4, qz5, qz6, ne_eq, qz7] at aq
   refine W.skip <| W.region rfl <| sM (I k) rfl ?_
   obtain ⟨bT, hM⟩ := M.e_gd hM
   refine sR _ _ (k - 1) rfl rfl rfl (by omega) <| sA (I (k - 1)) rfl <| s_nil ?_
   exact ⟨aS, aT, ao, ap, k - 1, l, ae, _, upds_of _ _ ⟨rfl, rfl, rfl, rfl, rfl, rfl, rfl, trivial⟩, M.e_inl hM aC, (H.pick [1, 2, 0, 3, 4] (by decide) rfl)⟩
  replace hM := M.e_f hM aD
  refine W.exit ?_
  have br := M.e_inr hM aC
  subst br
  replace hM := bl
  try dsimp only at hM
  refine W.region rfl <| sM ab rfl <| s_val (x_ld (v := .agg #[ae, I r3, I r4]) rfl (ldb_ag (ds := [ae, I r3, I r4]) Ag60 Sz60 (H.blk (k := 1) rfl) rfl rfl)) ?_
  obtain ⟨aF, H⟩ := H.emptyE
  obtain ⟨aG, H, bt⟩ := H.freezeE (k := 1) rfl
  replace H : St w bm [cRo aF, cRo aG, cBlk ah [ae, I r3, I r4] 60, cBlk aa [ag, I s2, I s3] 158, cOwn (α := Raw 2) 60 ab ac, cRo B_l4] R := H
  have ax := bt
  obtain ⟨aH, H, bU, bu⟩ := H.joinE (i := 0) (j := 1) rfl rfl
  replace ax := ax.mono bu
  obtain ⟨aj, aU⟩ : ∃ r : Raw 2, r.cs = [ae, I r3, I r4] := ⟨Raw.of [ae, I r3, I r4] rfl (by simp only [List.all_cons, List.all_nil, Bool.true_and, Bool.and_true, Sl.oc ax]; try rfl), rfl⟩
  have bv : RepR (α := Work) aH.cells [aj] [(⟨l, (r3 : Int), (r4 : Int)⟩ : Work)] := .cons (by rw [aU]; exact ⟨_, rfl, ax⟩) <| .nil
  refine t_bs (α := Raw 2) T22 [.agg #[ae, I r3, I r4]] [aj] H rfl (.cons (by rw [show (Flat.enc aj : List Value) = aj.cs from rfl, aU]; rfl) (Flat.rep_enc _ _) <| .nil) rfl rfl rfl ?_
  intro aI bw H
  replace H : St w bw [cOwn (α := Raw 2) 60 aI ([aj]), cRo aH, cRo aF, cRo aG, cBlk ah [ae, I r3, I r4] 60, cBlk aa [ag, I s2, I s3] 158, cOwn (α := Raw 2) 60 ab ac, cRo B_l4] R := H
  obtain ⟨bV, hM⟩ := M.e_gd hM
  have ay := bv
  obtain ⟨aV, H, bx, bz⟩ := H.joinE (i := 7) (j := 1) rfl rfl
  replace al := al.mono bx
  replace ay := ay.mono bz
  have bA := al.app ay
  refine t_app (α := Raw 2) (k := 7) (l := ac) (l2 := [aj]) (l' := ac ++ ([aj])) (vy := aI) T22 rfl H rfl rfl rfl (ownSl (H.get (k := 1) rfl)) (ownLe _ (H.get (k := 1) rfl)) (rfl) (by have a_ := al.len; have b_ := ay.len; (try simp only [List.length_nil] at *); first | omega | (rw [a_, b_]; omega)) ?_
  intro aJ bB H
  replace H : St w bB [cRo aV, cOwn (α := Raw 2) 60 aI ([aj]), cRo aH, cRo aF, cRo aG, cBlk ah [ae, I r3, I r4] 60, cBlk aa [ag, I s2, I s3] 158, cOwn (α := Raw 2) 60 aJ (ac ++ ([aj])), cRo B_l4] R := H
  refine sA aJ rfl <| s_nil <| W.region rfl ?_
  obtain ⟨bW, hM⟩ := M.e_gd hM
  refine sR _ _ ((s8 : Int) + 1) rfl rfl rfl (by omega) <| sM (I ((s8 : Int) + 1)) rfl <| s_nil ?_
  exact ⟨a8, ba, s2, s3, s8 + 1, l4 ++ ([(⟨l, (r3 : Int), (r4 : Int)⟩ : Work)]), aJ, ac ++ ([aj]), aV, _, upds_of _ _ ⟨rfl, rfl, rfl, rfl, trivial⟩, M.e_inl hM aO, (H.pick [7, 0, 6] (by decide) rfl), bA⟩
 replace hM := M.e_f hM am
 simp only [qz1, qz2, qz3, qz4, qz5, qz6, ne_eq, qz7] at am
 refine W.exit ?_
 have bC := M.e_inr hM aO
 subst bC
 replace hM := a6
 try dsimp only at hM
 refine sQ rfl <| sM ab rfl <| sA ab rfl <| s_nil ?_
 refine W.ret ?_
 have bD := M.e_pure hM
 exact ⟨_, resE_tmp rfl, ⟨l4, s6, s7, ab, ac, B_l4, bD, rfl, H, al⟩⟩

def zau (s_bytes : List UInt8) (s7 : Nat) (r2 : Int) : (Int × Int × Nat × (List Note)) -> M ((Int × Int × Nat × (List Note)) ⊕ (Int × Int × (List Note) × (List Note))) := fun (s2, s3, s4, l4) =>
  bif decide ((s4 : Int) < r2) then (
  M.bind (zaa s_bytes s2 s3 3) fun (r4, aa, ab) =>
  bif r4 == 0 then (
  M.bind (zaa s_bytes aa ab 2000) fun (r5, ac, ae) =>
  M.grd (decide ((l4.length + ([(⟨(s7 : Int), (s4 : Int), (r5 : Int)⟩ : Note)]).length) * 24 <= 140737488355328)) <|
  M.grd (decide ((-9223372036854775808 : Int) <= ((s4 : Int) + 1)) && decide (((s4 : Int) + 1) <= (9223372036854775807 : Int))) <|
  M.pure (.inl (ac, ae, s4 + 1, l4 ++ ([(⟨(s7 : Int), (s4 : Int), (r5 : Int)⟩ : Note)]))))
  else (
  M.grd (decide ((-9223372036854775808 : Int) <= ((s4 : Int) + 1)) && decide (((s4 : Int) + 1) <= (9223372036854775807 : Int))) <|
  M.pure (.inl (aa, ab, s4 + 1, l4))))
  else (
  M.pure (.inr (s2, s3, l4, l4)))
def zaL (s_bytes : List UInt8) (w_ : List Work) : (Nat × Int × Int × (List Note) × (List Note)) -> M ((Nat × Int × Int × (List Note) × (List Note)) ⊕ ((List Note) × (List Note) × (List Note) × (List Note) × Int × Int)) := fun (s7, s8, s9, l6, l7) =>
  bif decide ((s7 : Int) < (w_.length : Int)) then (
  M.grd (decide ((s7 : Int) < (w_.length : Int))) <|
  bif decide (0 < (((w_.getD s7 default).of).length : Int)) then (
  M.pure (.inl (s7 + 1, s8, s9, l6, l7)))
  else (
  M.bind (zaa s_bytes s8 s9 9) fun (r2, q1, q2) =>
  M.bind (zaa s_bytes q1 q2 2000) fun (r3, aa, ab) =>
  M.grd (decide ((l6.length + ([(⟨(s7 : Int), (r2 : Int), (r3 : Int)⟩ : Note)]).length) * 24 <= 140737488355328)) <|
  M.bind (M.iter (zau s_bytes s7 r2) (aa, ab, 0, l7)) fun (s5, s6, l2, l5) =>
  M.pure (.inl (s7 + 1, s5, s6, l6 ++ ([(⟨(s7 : Int), (r2 : Int), (r3 : Int)⟩ : Note)]), l5))))
  else (
  M.pure (.inr (l6, l7, l7, l6, s8, s9)))
def zaZ (s_bytes : List UInt8) (s_used : Int) (s_mix : Int) (w_ : List Work) : M ((List Note) × Int × Int) :=
  M.bind (M.iter (zaL s_bytes w_) (0, s_used, s_mix, [], [])) fun (l8, l9, aa, ab, ac, ae) =>
  M.grd (decide ((ab.length + aa.length) * 24 <= 140737488355328)) <|
  M.pure ((ab ++ aa), ac, ae)
theorem zbo {R : List Chunk} {aa : Nat} {aL : Cells} {ac : Value} {aM : Cells} {ao : Value} (s_bytes : List UInt8) (s_used : Int) (s_mix : Int) (w_ : List Work) (aw : Reads R aL) (ax : Sl aL ac s_bytes) (aU : Reads R aM) (ay : Sl aM ao w_) {r : ((List Note) × Int × Int)} (hM : (zaZ s_bytes s_used s_mix w_).Ends r) (w : World) (H : St w w [cBlk aa [ac, I s_used, I s_mix] 158] R) : Ret Try.prog 42 #[Pz aa, ao] w fun v w' => ∃ (y0 : List Note) (y1 : Int) (y2 : Int) (u0 : Value), (y0, y1, y2) = r /\ v = u0 /\ St w w' [cOwn (α := Note) 30 u0 y0, cBlk aa [ac, I y1, I y2] 158] R := by
 refine ret_of_W Try.func42 rfl rfl rfl ?_
 refine sQ rfl <| sA (.slice none 0 0) rfl <| s_nil <| sQ rfl <| sA (.slice none 0 0) rfl <| sA (.slice none 0 0) rfl <| s_nil <| W.seq <| sQ rfl ?_
 refine sM ao rfl ?_
 have bt := (ay).len_le
 refine s_val (x_lenS T22.und rfl ay) <| sM (I 0) rfl <| s_nil <| W.block ?_
 replace H : St w w [cOwn (α := Note) 30 (.slice none 0 0) ([]), cBlk aa [ac, I s_used, I s_mix] 158] R := H.nilOwn (α := Note) 30
 replace H : St w w [cOwn (α := Note) 30 (.slice none 0 0) ([]), cOwn (α := Note) 30 (.slice none 0 0) ([]), cBlk aa [ac, I s_used, I s_mix] 158] R := H.nilOwn (α := Note) 30
 obtain ⟨aV, aB, aW⟩ := M.e_bind hM
 obtain ⟨aX, aB⟩ := M.e_iter aB
 refine W.loop (fun m σ W => ∃ (s7 : Nat) (s8 : Int) (s9 : Int) (l6 : List Note) (l7 : List Note) (ah : Value) (ag : Value) (ρ : Env), σ = upds ρ [(0, Pz aa), (5, ah), (6, ag), (11, ao), (12, I (w_.length : Int)), (13, I (s7 : Int))] /\ M.iterN (zaL s_bytes w_) m (s7, s8, s9, l6, l7) = some aV /\ St w W [cOwn (α := Note) 30 ag l7, cOwn (α := Note) 30 ah l6, cBlk aa [ac, I s8, I s9] 158] R) ?_ ?_
 ·exact ⟨_, 0, s_used, s_mix, [], [], (.slice none 0 0), (.slice none 0 0), _, upds_of _ _ ⟨rfl, rfl, rfl, rfl, rfl, rfl, trivial⟩, aB, H⟩
 rintro bu σ bv ⟨s7, s8, s9, l6, l7, ah, ag, ρ, rfl, aN, H⟩
 obtain ⟨aO, aP, bw, hM, aC⟩ := M.e_iterN aN
 simp only [zaL] at hM
 clear aN
 refine sQ rfl <| sC _ _ (decide ((s7 : Int) < (w_.length : Int))) rfl rfl rfl <| s_nil <| W.seq ?_
 refine W.cond (decide ((s7 : Int) < (w_.length : Int))) rfl (fun aq => ?_) (fun aq => ?_)
 ·replace hM := M.e_t hM aq
  simp only [qz1, qz2, qz3, qz4, qz5, qz6, ne_eq, qz7] at aq
  refine W.skip <| W.seq <| W.block <| sQ rfl <| sM (I (s7 : Int)) rfl ?_
  obtain ⟨bx, hM⟩ := M.e_gd hM
  refine s_val (x_ix (v := vat ao 3 (Int.toNat (s7 : Int))) rfl rfl (Sl.ix (α := Work) T22.und T22.size ay (by omega) (by omega))) ?_
  obtain ⟨ab, aY, ap⟩ := Work_atA ay (i := (s7 : Int)) (by omega) (by omega)
  replace ap : Sl _ ab (w_.getD s7 default).of := ap
  have bz := ap.len_le
  refine s_val (x_ld (v := .agg #[ab, I ((w_.getD s7 default).base), I ((w_.getD s7 default).minutes)]) rfl (ld_ag Ag60 Sz60 (At.mono aY (aU.at H)))) ?_
  refine t_alloc (cs := [.slice none 0 0, I 0, I 0]) H Al60 rfl ?_
  intro ae bA H
  refine sA (I (s7 : Int)) rfl ?_
  refine t_st (k := 0) (b := ae) (off := 0) (cs := [.slice none 0 0, I 0, I 0]) (vs := [ab, I ((w_.getD s7 default).base), I ((w_.getD s7 default).minutes)]) (cs' := [ab, I ((w_.getD s7 default).base), I ((w_.getD s7 default).minutes)]) (v := .agg #[ab, I ((w_.getD s7 default).base), I ((w_.getD s7 default).minutes)]) (L' := [cBlk ae [ab, I ((w_.getD s7 default).base), I ((w_.getD s7 default).minutes)] 60, cOwn (α := Note) 30 ag l7, cOwn (α := Note) 30 ah l6, cBlk aa [ac, I s8, I s9] 158]) H rfl rfl rfl Sz60 rfl rfl rfl (by simp only [List.all_cons, List.all_nil, Bool.true_and, Bool.and_true, Sl.oc ap]; try rfl) rfl rfl ?_
  intro bB H
  refine s_nil <| W.seq <| sQ rfl <| s_val (x_fa (v := Pz ae) rfl (fa_blk (o := 0) Fd60_0 Sz34)) <| s_val (x_ld (v := ab) rfl (ldb_sc Sc34 (H.blk (k := 0) rfl) rfl)) ?_
  have bC := (ap).len_le
  refine s_val (x_lenS T34.und rfl ap) <| sC _ _ (decide (0 < (((w_.getD s7 default).of).length : Int))) rfl rfl rfl <| s_nil ?_
  refine W.cond (decide (0 < (((w_.getD s7 default).of).length : Int))) rfl (fun ar => ?_) (fun ar => ?_)
  ·replace hM := M.e_t hM ar
   simp only [qz1, qz2, qz3, qz4, qz5, qz6, ne_eq, qz7] at ar
   refine W.exit ?_
   refine W.region rfl <| sR _ _ ((s7 : Int) + 1) rfl rfl rfl (by omega) <| sM (I ((s7 : Int) + 1)) rfl <| s_nil ?_
   exact ⟨aO, aP, s7 + 1, s8, s9, l6, l7, ah, ag, _, upds_of _ _ ⟨rfl, rfl, rfl, rfl, rfl, rfl, trivial⟩, M.e_inl hM aC, (H.pick [1, 2, 3] (by decide) rfl)⟩
  replace hM := M.e_f hM ar
  simp only [qz1, qz2, qz3, qz4, qz5, qz6, ne_eq, qz7] at ar
  refine W.skip <| sQ rfl <| sM (I (s7 : Int)) rfl <| sM (Pz aa) rfl ?_
  obtain ⟨bD, aZ, hM⟩ := M.e_bind hM
  refine s_call cf44 [Pz aa, I 9] rfl (zac s_bytes s8 s9 9 (aw.app _) ax aZ _ (St.give (L := [cBlk aa [ac, I s8, I s9] 158, cBlk ae [ab, I ((w_.getD s7 default).base), I ((w_.getD s7 default).minutes)] 60, cOwn (α := Note) 30 ag l7, cOwn (α := Note) 30 ah l6]) (A := [cBlk aa [ac, I s8, I s9] 158]) (T := [cBlk ae [ab, I ((w_.getD s7 default).base), I ((w_.getD s7 default).minutes)] 60, cOwn (α := Note) 30 ag l7, cOwn (α := Note) 30 ah l6]) (H.pick [3, 0, 1, 2] (by decide) rfl) rfl)) ?_
  rintro vq a6 ⟨r2, q1, q2, a7, hvq, ai⟩
  subst a7
  subst vq
  try dsimp only at hM
  replace H : St w a6 [cBlk aa [ac, I q1, I q2] 158, cBlk ae [ab, I ((w_.getD s7 default).base), I ((w_.getD s7 default).minutes)] 60, cOwn (α := Note) 30 ag l7, cOwn (α := Note) 30 ah l6] R := H.pick [3, 0, 1, 2] (by decide) rfl |>.back ai rfl
  clear ai
  refine sM (Pz aa) rfl ?_
  obtain ⟨bE, a8, hM⟩ := M.e_bind hM
  refine s_call cf44 [Pz aa, I 2000] rfl (zac s_bytes q1 q2 2000 (aw.app _) ax a8 _ (St.give (T := [cBlk ae [ab, I ((w_.getD s7 default).base), I ((w_.getD s7 default).minutes)] 60, cOwn (α := Note) 30 ag l7, cOwn (α := Note) 30 ah l6]) H rfl)) ?_
  rintro vq ba ⟨r3, az, aA, bb, hvq, ai⟩
  subst bb
  subst vq
  try dsimp only at hM
  replace H : St w ba [cBlk aa [ac, I az, I aA] 158, cBlk ae [ab, I ((w_.getD s7 default).base), I ((w_.getD s7 default).minutes)] 60, cOwn (α := Note) 30 ag l7, cOwn (α := Note) 30 ah l6] R := H.back ai rfl
  clear ai
  refine s_val (x_bld (ps := [(0, I (s7 : Int)), (1, I r2), (2, I r3)]) (zs := [I 0, I 0, I 0]) (L' := [I (s7 : Int), I r2, I r3]) rfl Try.underlying30 Al30 rfl (Bd30 Try.underlying30) (.cons (cs := [I (s7 : Int)]) rfl rfl rfl rfl rfl <| .cons (cs := [I r2]) rfl rfl rfl rfl rfl <| .cons (cs := [I r3]) rfl rfl rfl rfl rfl <| .nil)) ?_
  refine t_alloc (cs := [I 0, I 0, I 0]) H Al30 rfl ?_
  intro aj bF H
  refine t_st (k := 0) (b := aj) (off := 0) (cs := [I 0, I 0, I 0]) (vs := [I (s7 : Int), I r2, I r3]) (cs' := [I (s7 : Int), I r2, I r3]) (v := .agg #[I (s7 : Int), I r2, I r3]) (L' := [cBlk aj [I (s7 : Int), I r2, I r3] 30, cBlk aa [ac, I az, I aA] 158, cBlk ae [ab, I ((w_.getD s7 default).base), I ((w_.getD s7 default).minutes)] 60, cOwn (α := Note) 30 ag l7, cOwn (α := Note) 30 ah l6]) H rfl rfl rfl Sz30 rfl rfl rfl rfl rfl rfl ?_
  intro bG H
  refine s_nil <| sQ rfl <| sM ah rfl <| s_val (x_ld (v := .agg #[I (s7 : Int), I r2, I r3]) rfl (ldb_ag (ds := [I (s7 : Int), I r2, I r3]) Ag30 Sz30 (H.blk (k := 0) rfl) rfl rfl)) ?_
  refine t_bs (α := Note) T23 [.agg #[I (s7 : Int), I r2, I r3]] [(⟨(s7 : Int), (r2 : Int), (r3 : Int)⟩ : Note)] H rfl (.cons rfl (Flat.rep_enc _ (⟨(s7 : Int), (r2 : Int), (r3 : Int)⟩ : Note)) <| .nil) rfl rfl rfl ?_
  intro am bH H
  obtain ⟨bI, hM⟩ := M.e_gd hM
  refine t_app (α := Note) (k := 5) (l := l6) (l2 := [(⟨(s7 : Int), (r2 : Int), (r3 : Int)⟩ : Note)]) (l' := l6 ++ ([(⟨(s7 : Int), (r2 : Int), (r3 : Int)⟩ : Note)])) (vy := am) T23 rfl H rfl rfl rfl (ownSl (H.get (k := 0) rfl)) (ownLe _ (H.get (k := 0) rfl)) (rfl) (by first | omega | (simp only [List.length_nil] at *; omega)) ?_
  intro ak bc H
  replace H : St w bc [cOwn (α := Note) 30 am ([(⟨(s7 : Int), (r2 : Int), (r3 : Int)⟩ : Note)]), cBlk aj [I (s7 : Int), I r2, I r3] 30, cBlk aa [ac, I az, I aA] 158, cBlk ae [ab, I ((w_.getD s7 default).base), I ((w_.getD s7 default).minutes)] 60, cOwn (α := Note) 30 ag l7, cOwn (α := Note) 30 ak (l6 ++ ([(⟨(s7 : Int), (r2 : Int), (r3 : Int)⟩ : Note)]))] R := H
  refine sA ak rfl <| s_nil <| sQ rfl <| s_val (x_fa (v := Oz aj 1) rfl (fa_blk (o := 0) Fd30_1 Sz3)) <| s_val (x_ld (v := I r2) rfl (ldb_sc Sc3 (H.blk (k := 1) rfl) rfl)) <| sM (I 0) rfl <| s_nil <| W.block ?_
  obtain ⟨bf, aD, bg⟩ := M.e_bind hM
  obtain ⟨aX, aD⟩ := M.e_iter aD
  refine W.loop (fun m σ W => ∃ (s2 : Int) (s3 : Int) (s4 : Nat) (l4 : List Note) (al : Value) (ρ : Env), σ = upds ρ [(0, Pz aa), (5, ak), (6, al), (7, I (s7 : Int)), (11, ao), (12, I (w_.length : Int)), (13, I (s7 : Int)), (33, I r2), (34, I (s4 : Int))] /\ M.iterN (zau s_bytes s7 r2) m (s2, s3, s4, l4) = some bf /\ St w W [cOwn (α := Note) 30 am ([(⟨(s7 : Int), (r2 : Int), (r3 : Int)⟩ : Note)]), cBlk aj [I (s7 : Int), I r2, I r3] 30, cBlk aa [ac, I s2, I s3] 158, cBlk ae [ab, I ((w_.getD s7 default).base), I ((w_.getD s7 default).minutes)] 60, cOwn (α := Note) 30 al l4, cOwn (α := Note) 30 ak (l6 ++ ([(⟨(s7 : Int), (r2 : Int), (r3 : Int)⟩ : Note)]))] R) ?_ ?_
  ·exact ⟨_, az, aA, 0, l7, ag, _, upds_of _ _ ⟨rfl, rfl, rfl, rfl, rfl, rfl, rfl, rfl, rfl, trivial⟩, aD, H⟩
  rintro bJ σ bK ⟨s2, s3, s4, l4, al, ρ, rfl, aQ, H⟩
  obtain ⟨aR, aS, bL, hM, aE⟩ := M.e_iterN aQ
  simp only [zau] at hM
  clear aQ
  refine sQ rfl <| sC _ _ (decide ((s4 : Int) < r2)) rfl rfl rfl <| s_nil <| W.seq ?_
  refine W.cond (decide ((s4 : Int) < r2)) rfl (fun au => ?_) (fun au => ?_)
  ·replace hM := M.e_t hM au
   simp only [qz1, qz2, qz3, qz4, qz5, qz6, ne_eq, qz7] at au
   refine W.skip <| W.seq <| W.block <| sQ rfl <| sM (I (s4 : Int)) rfl <| sA (I (s4 : Int)) rfl <| s_nil <| sQ rfl <| sM (Pz aa) rfl ?_
   obtain ⟨bM, bh, hM⟩ := M.e_bind hM
   refine s_call cf44 [Pz aa, I 3] rfl (zac s_bytes s2 s3 3 (aw.app _) ax bh _ (St.give (L := [cBlk aa [ac, I s2, I s3] 158, cOwn (α := Note) 30 am ([(⟨(s7 : Int), (r2 : Int), (r3 : Int)⟩ : Note)]), cBlk aj [I (s7 : Int), I r2, I r3] 30, cBlk ae [ab, I ((w_.getD s7 default).base), I ((w_.getD s7 default).minutes)] 60, cOwn (α := Note) 30 al l4, cOwn (α := Note) 30 ak (l6 ++ ([(⟨(s7 : Int), (r2 : Int), (r3 : Int)⟩ : Note)]))]) (A := [cBlk aa [ac, I s2, I s3] 158]) (T := [cOwn (α := Note) 30 am ([(⟨(s7 : Int), (r2 : Int), (r3 : Int)⟩ : Note)]), cBlk aj [I (s7 : Int), I r2, I r3] 30, cBlk ae [ab, I ((w_.getD s7 default).base), I ((w_.getD s7 default).minutes)] 60, cOwn (α := Note) 30 al l4, cOwn (α := Note) 30 ak (l6 ++ ([(⟨(s7 : Int), (r2 : Int), (r3 : Int)⟩ : Note)]))]) (H.pick [2, 0, 1, 3, 4, 5] (by decide) rfl) rfl)) ?_
   rintro vq bi ⟨r4, aF, aG, bj, hvq, ai⟩
   subst bj
   subst vq
   try dsimp only at hM
   replace H : St w bi [cBlk aa [ac, I aF, I aG] 158, cOwn (α := Note) 30 am ([(⟨(s7 : Int), (r2 : Int), (r3 : Int)⟩ : Note)]), cBlk aj [I (s7 : Int), I r2, I r3] 30, cBlk ae [ab, I ((w_.getD s7 default).base), I ((w_.getD s7 default).minutes)] 60, cOwn (α := Note) 30 al l4, cOwn (α := Note) 30 ak (l6 ++ ([(⟨(s7 : Int), (r2 : Int), (r3 : Int)⟩ : Note)]))] R := H.pick [2, 0, 1, 3, 4, 5] (by decide) rfl |>.back ai rfl
   clear ai
   refine sC _ _ (r4 == 0) rfl rfl rfl <| s_nil ?_
   refine W.cond (r4 == 0) rfl (fun av => ?_) (fun av => ?_)
   ·replace hM := M.e_t hM av
    simp only [qz1, qz2, qz3, qz4, qz5, qz6, ne_eq, qz7] at av
    refine W.region rfl <| sM al rfl <| sM (I (s7 : Int)) rfl <| sM (I (s4 : Int)) rfl <| sM (Pz aa) rfl ?_
    obtain ⟨bN, bk, hM⟩ := M.e_bind hM
    refine s_call cf44 [Pz aa, I 2000] rfl (zac s_bytes aF aG 2000 (aw.app _) ax bk _ (St.give (T := [cOwn (α := Note) 30 am ([(⟨(s7 : Int), (r2 : Int), (r3 : Int)⟩ : Note)]), cBlk aj [I (s7 : Int), I r2, I r3] 30, cBlk ae [ab, I ((w_.getD s7 default).base), I ((w_.getD s7 default).minutes)] 60, cOwn (α := Note) 30 al l4, cOwn (α := Note) 30 ak (l6 ++ ([(⟨(s7 : Int), (r2 : Int), (r3 : Int)⟩ : Note)]))]) H rfl)) ?_
    rintro vq bl ⟨r5, aH, aI, bm, hvq, ai⟩
    subst bm
    subst vq
    try dsimp only at hM
    replace H : St w bl [cBlk aa [ac, I aH, I aI] 158, cOwn (α := Note) 30 am ([(⟨(s7 : Int), (r2 : Int), (r3 : Int)⟩ : Note)]), cBlk aj [I (s7 : Int), I r2, I r3] 30, cBlk ae [ab, I ((w_.getD s7 default).base), I ((w_.getD s7 default).minutes)] 60, cOwn (α := Note) 30 al l4, cOwn (α := Note) 30 ak (l6 ++ ([(⟨(s7 : Int), (r2 : Int), (r3 : Int)⟩ : Note)]))] R := H.back ai rfl
    clear ai
    refine s_val (x_bld (ps := [(0, I (s7 : Int)), (1, I (s4 : Int)), (2, I r5)]) (zs := [I 0, I 0, I 0]) (L' := [I (s7 : Int), I (s4 : Int), I r5]) rfl Try.underlying30 Al30 rfl (Bd30 Try.underlying30) (.cons (cs := [I (s7 : Int)]) rfl rfl rfl rfl rfl <| .cons (cs := [I (s4 : Int)]) rfl rfl rfl rfl rfl <| .cons (cs := [I r5]) rfl rfl rfl rfl rfl <| .nil)) ?_
    refine t_bs (α := Note) T23 [.agg #[I (s7 : Int), I (s4 : Int), I r5]] [(⟨(s7 : Int), (s4 : Int), (r5 : Int)⟩ : Note)] H rfl (.cons rfl (Flat.rep_enc _ (⟨(s7 : Int), (s4 : Int), (r5 : Int)⟩ : Note)) <| .nil) rfl rfl rfl ?_
    intro aT bO H
    obtain ⟨bP, hM⟩ := M.e_gd hM
    refine t_app (α := Note) (k := 5) (l := l4) (l2 := [(⟨(s7 : Int), (s4 : Int), (r5 : Int)⟩ : Note)]) (l' := l4 ++ ([(⟨(s7 : Int), (s4 : Int), (r5 : Int)⟩ : Note)])) (vy := aT) T23 rfl H rfl rfl rfl (ownSl (H.get (k := 0) rfl)) (ownLe _ (H.get (k := 0) rfl)) (rfl) (by first | omega | (simp only [List.length_nil] at *; omega)) ?_
    intro aJ bn H
    replace H : St w bn [cOwn (α := Note) 30 aT ([(⟨(s7 : Int), (s4 : Int), (r5 : Int)⟩ : Note)]), cBlk aa [ac, I aH, I aI] 158, cOwn (α := Note) 30 am ([(⟨(s7 : Int), (r2 : Int), (r3 : Int)⟩ : Note)]), cBlk aj [I (s7 : Int), I r2, I r3] 30, cBlk ae [ab, I ((w_.getD s7 default).base), I ((w_.getD s7 default).minutes)] 60, cOwn (α := Note) 30 aJ (l4 ++ ([(⟨(s7 : Int), (s4 : Int), (r5 : Int)⟩ : Note)])), cOwn (α := Note) 30 ak (l6 ++ ([(⟨(s7 : Int), (r2 : Int), (r3 : Int)⟩ : Note)]))] R := H
    refine sA aJ rfl <| s_nil <| W.region rfl ?_
    obtain ⟨bQ, hM⟩ := M.e_gd hM
    refine sR _ _ ((s4 : Int) + 1) rfl rfl rfl (by omega) <| sM (I ((s4 : Int) + 1)) rfl <| s_nil ?_
    exact ⟨aR, aS, aH, aI, s4 + 1, l4 ++ ([(⟨(s7 : Int), (s4 : Int), (r5 : Int)⟩ : Note)]), aJ, _, upds_of _ _ ⟨rfl, rfl, rfl, rfl, rfl, rfl, rfl, rfl, rfl, trivial⟩, M.e_inl hM aE, (H.pick [2, 3, 1, 4, 5, 6] (by decide) rfl)⟩
   replace hM := M.e_f hM av
   simp only [qz1, qz2, qz3, qz4, qz5, qz6, ne_eq, qz7] at av
   refine W.skip <| W.region rfl ?_
   obtain ⟨bR, hM⟩ := M.e_gd hM
   refine sR _ _ ((s4 : Int) + 1) rfl rfl rfl (by omega) <| sM (I ((s4 : Int) + 1)) rfl <| s_nil ?_
   exact ⟨aR, aS, aF, aG, s4 + 1, l4, al, _, upds_of _ _ ⟨rfl, rfl, rfl, rfl, rfl, rfl, rfl, rfl, rfl, trivial⟩, M.e_inl hM aE, (H.pick [1, 2, 0, 3, 4, 5] (by decide) rfl)⟩
  replace hM := M.e_f hM au
  simp only [qz1, qz2, qz3, qz4, qz5, qz6, ne_eq, qz7] at au
  refine W.exit ?_
  have bo := M.e_inr hM aE
  subst bo
  replace hM := bg
  try dsimp only at hM
  refine W.region rfl <| sR _ _ ((s7 : Int) + 1) rfl rfl rfl (by omega) <| sM (I ((s7 : Int) + 1)) rfl <| s_nil ?_
  exact ⟨aO, aP, s7 + 1, s2, s3, l6 ++ ([(⟨(s7 : Int), (r2 : Int), (r3 : Int)⟩ : Note)]), l4, ak, al, _, upds_of _ _ ⟨rfl, rfl, rfl, rfl, rfl, rfl, trivial⟩, M.e_inl hM aC, (H.pick [4, 5, 2] (by decide) rfl)⟩
 replace hM := M.e_f hM aq
 simp only [qz1, qz2, qz3, qz4, qz5, qz6, ne_eq, qz7] at aq
 refine W.exit ?_
 have bp := M.e_inr hM aC
 subst bp
 replace hM := aW
 try dsimp only at hM
 refine sQ rfl <| sM ah rfl <| sM ag rfl ?_
 obtain ⟨bS, hM⟩ := M.e_gd hM
 refine t_app (α := Note) (k := 1) (l := l6) (l2 := l7) (l' := l6 ++ l7) (vy := ag) T23 rfl H rfl rfl rfl (ownSl (H.get (k := 0) rfl)) (ownLe _ (H.get (k := 0) rfl)) (rfl) (by first | omega | (simp only [List.length_nil] at *; omega)) ?_
 intro aK bq H
 replace H : St w bq [cOwn (α := Note) 30 ag l7, cOwn (α := Note) 30 aK (l6 ++ l7), cBlk aa [ac, I s8, I s9] 158] R := H
 refine sA aK rfl <| s_nil ?_
 refine W.ret ?_
 have br := M.e_pure hM
 exact ⟨_, resE_tmp rfl, ⟨(l6 ++ l7), s8, s9, aK, br, rfl, (H.pick [1, 2] (by decide) rfl)⟩⟩

end Go.Proofs.Ytndobgodeicloaa
end
namespace Go.Nm
structure SOk (c u x : Int) : Prop where
  u0 : 0 <= u
  u1 : u <= c
  x0 : 0 <= x
  x1 : x < 251
theorem SOk.mono {c d u x : Int} (h : SOk c u x) (hd : c <= d) : SOk d u x := ⟨h.u0, Int.le_trans h.u1 hd, h.x0, h.x1⟩
/-- What a stream gives: a number below n. -/
structure Nx (c n : Int) (y : Int × Int × Int) : Prop where
  ok : SOk c y.2.1 y.2.2
  lt : 1 <= n -> 0 <= y.1 /\ y.1 < n
  no : n < 1 -> y.1 = 0
end Go.Nm
namespace Go.Proofs.Ytndobgodeicloaa
open Go Go.Nm
theorem next_out {b : List UInt8} {c u x n : Int} (h : SOk c u x) (hc : c <= 1000000000000) (hn : n <= 1000000) : (zaa b u x n).Out (Nx (c + 1) n) := by
  obtain ⟨u0, u1, x0, x1⟩ := h
  unfold zaa
  refine M.o_if (fun hb => ?_) (fun hb => ?_)
  · simp only [Bool.or_eq_true, decide_eq_true_eq, beq_iff_eq] at hb
    refine M.o_pure ⟨⟨u0, by dsimp only; omega, x0, x1⟩, fun h1 => ⟨Int.le_refl _, ?_⟩, fun _ => rfl⟩
    dsimp only
    omega
  · simp only [Bool.or_eq_false_iff, decide_eq_false_iff_not, beq_eq_false_iff_ne, ne_eq] at hb
    have hl : (0 : Int) < (b.length : Int) := by omega
    have m0 := Int.emod_nonneg u (show (b.length : Int) ≠ 0 by omega)
    have m1 := Int.emod_lt_of_pos u hl
    have d0 := Int.ediv_nonneg u0 (show (0 : Int) <= (b.length : Int) by omega)
    have d1 : u / (b.length : Int) <= u := Int.ediv_le_self _ u0
    have y1 : ((b.getD (Int.toNat (u % (b.length : Int))) 0).toNat : Int) < 256 := by
      have := UInt8.toNat_lt (b.getD (Int.toNat (u % (b.length : Int))) 0)
      omega
    have y0 : (0 : Int) <= ((b.getD (Int.toNat (u % (b.length : Int))) 0).toNat : Int) := Int.natCast_nonneg _
    generalize ((b.getD (Int.toNat (u % (b.length : Int))) 0).toNat : Int) = y at *
    generalize u % (b.length : Int) = m at *
    generalize u / (b.length : Int) = d at *
    have hn0 : 0 < n := by omega
    have fin : ∀ z : Int, 0 <= z -> 0 <= z % n /\ z % n < n := fun z hz => ⟨Int.emod_nonneg _ (by omega), Int.emod_lt_of_pos _ hn0⟩
    have pr : ∀ z w : Int, 0 <= z -> Nx (c + 1) n (z % n, u + 1, w % 251) := fun z w hz => ⟨⟨by dsimp only; omega, by dsimp only; omega, by dsimp only; omega, by dsimp only; omega⟩, fun _ => fin z hz, fun h => by omega⟩
    refine M.o_grd (by simp only [Bool.and_eq_true, decide_eq_true_eq]; omega) (M.o_grd (by simp only [Bool.and_eq_true, decide_eq_true_eq]; omega) (M.o_grd (by simp only [Bool.and_eq_true, decide_eq_true_eq]; omega) ?_))
    refine M.o_if (fun h1 => ?_) (fun h1 => ?_)
    · refine M.o_grd (by simp only [Bool.and_eq_true, decide_eq_true_eq]; omega) (M.o_grd (by simp only [Bool.and_eq_true, decide_eq_true_eq]; omega) (M.o_grd (by simp only [Bool.and_eq_true, decide_eq_true_eq]; omega) (M.o_grd (by simp only [Bool.and_eq_true, decide_eq_true_eq]; omega) (M.o_grd (by simp only [Bool.and_eq_true, decide_eq_true_eq]; omega) ?_))))
      refine M.o_grd (by simp only [Bool.and_eq_true, decide_eq_true_eq]; omega) (M.o_grd (by simp only [Bool.and_eq_true, decide_eq_true_eq]; omega) (M.o_grd (by simp only [Bool.and_eq_true, decide_eq_true_eq]; omega) (M.o_grd (by simp only [Bool.and_eq_true, decide_eq_true_eq]; omega) ?_)))
      refine M.o_if (fun h2 => ?_) (fun h2 => ?_)
      · refine M.o_grd (by simp only [Bool.and_eq_true, decide_eq_true_eq]; omega) (M.o_grd (by simp only [Bool.and_eq_true, decide_eq_true_eq]; omega) (M.o_grd (by simp only [Bool.and_eq_true, decide_eq_true_eq]; omega) (M.o_pure (pr _ _ (by omega)))))
      · refine M.o_grd (by simp only [Bool.and_eq_true, decide_eq_true_eq]; omega) (M.o_pure (pr _ _ (by omega)))
    · refine M.o_grd (by simp only [Bool.and_eq_true, decide_eq_true_eq]; omega) (M.o_grd (by simp only [Bool.and_eq_true, decide_eq_true_eq]; omega) (M.o_grd (by simp only [Bool.and_eq_true, decide_eq_true_eq]; omega) (M.o_grd (by simp only [Bool.and_eq_true, decide_eq_true_eq]; omega) (M.o_grd (by simp only [Bool.and_eq_true, decide_eq_true_eq]; omega) ?_))))
      refine M.o_if (fun h2 => ?_) (fun h2 => ?_)
      · refine M.o_grd (by simp only [Bool.and_eq_true, decide_eq_true_eq]; omega) (M.o_grd (by simp only [Bool.and_eq_true, decide_eq_true_eq]; omega) (M.o_grd (by simp only [Bool.and_eq_true, decide_eq_true_eq]; omega) (M.o_pure (pr _ _ (by omega)))))
      · refine M.o_grd (by simp only [Bool.and_eq_true, decide_eq_true_eq]; omega) (M.o_pure (pr _ _ (by omega)))
theorem within_out {b : List UInt8} {c u x lo hi : Int} (h : SOk c u x) (hc : c <= 1000000000000) (h0 : -1000 <= lo) (h1 : lo <= hi) (h2 : hi <= 10000) : (zaS b u x lo hi).Out (fun y => SOk (c + 1) y.2.1 y.2.2 /\ lo <= y.1 /\ y.1 <= hi) := by
  unfold zaS
  refine M.o_grd (gA2 (by omega) (by omega)) (M.o_grd (gA2 (by omega) (by omega)) (M.o_bind (next_out h hc (by omega)) ?_))
  rintro ⟨r, u', x'⟩ ⟨k, hl, _⟩
  have := hl (by omega)
  dsimp only at this k ⊢
  exact M.o_grd (gA2 (by omega) (by omega)) (M.o_pure ⟨k, by dsimp only; omega, by dsimp only; omega⟩)
/-! ### Works -/
structure OfOk (i : Nat) (l : List Int) : Prop where
  few : l.length <= 5
  ahead : ∀ k ∈ l, 0 <= k /\ k < (i : Int)
  once : l.Nodup
  early : i <= 2 -> l = []
theorem made_of {b : List UInt8} {c u x : Int} (h : SOk c u x) (hc : c <= 1000000000) {i : Nat} (hi : i <= 1000) :
    (M.iter (zaM b i) (u, x, (i : Int) - 1, [])).Out (fun y => SOk (c + i) y.1 y.2.1 /\ OfOk i y.2.2.2) := by
  refine M.o_iter (fun (m : Nat) (s : Int × Int × Int × List Int) => m = (s.2.2.1 + 1).toNat /\ -1 <= s.2.2.1 /\ s.2.2.1 < i /\ SOk (c + (i : Int) - (s.2.2.1 + 1)) s.1 s.2.1 /\ s.2.2.2.length <= 5 /\ (∀ k ∈ s.2.2.2, s.2.2.1 < k /\ k < (i : Int)) /\ s.2.2.2.Nodup /\ (i <= 2 -> s.2.2.2 = [])) ?_ _ (u, x, (i : Int) - 1, []) ⟨rfl, by dsimp only; omega, by dsimp only; omega, h.mono (by dsimp only; omega), by simp, by simp, by simp, fun _ => rfl⟩
  rintro m ⟨u, x, k, l⟩ ⟨rfl, k0, k1, hs, h5, hk, hn, he⟩
  dsimp only at k0 k1 hs h5 hk hn he ⊢
  simp only [zaM]
  refine M.o_if (fun hb => ?_) (fun hb => ?_)
  · simp only [Bool.and_eq_true, decide_eq_true_eq] at hb
    refine M.o_bind (next_out hs (by omega) (by omega)) ?_
    rintro ⟨r, u', x'⟩ ⟨ok, _, _⟩
    dsimp only at ok ⊢
    refine M.o_if (fun hr => ?_) (fun hr => ?_)
    · refine M.o_grdD (by simp only [List.length_cons, List.length_nil]; omega) (M.o_grd (gA2 (by omega) (by omega)) (M.o_pure ⟨k.toNat, by omega, ?_⟩))
      refine ⟨by dsimp only; omega, by dsimp only; omega, by dsimp only; omega, ok.mono (by dsimp only; omega), ?_, ?_, ?_, ?_⟩
      · simp only [List.length_append, List.length_cons, List.length_nil]; omega
      · intro y hy
        simp only [List.mem_append, List.mem_cons, List.not_mem_nil, or_false] at hy
        rcases hy with hy | hy
        · have := hk y hy; dsimp only; omega
        · subst hy; dsimp only; omega
      · dsimp only
        rw [List.nodup_append]
        refine ⟨hn, by simp, fun a ha b hb e => ?_⟩
        simp only [List.mem_cons, List.not_mem_nil, or_false] at hb
        have := hk a ha
        omega
      · intro h2; omega
    · refine M.o_grd (gA2 (by omega) (by omega)) (M.o_pure ⟨k.toNat, by omega, ?_⟩)
      exact ⟨by dsimp only; omega, by dsimp only; omega, by dsimp only; omega, ok.mono (by dsimp only; omega), h5, fun y hy => by have := hk y hy; dsimp only; omega, hn, he⟩
  · refine M.o_pure ⟨hs.mono (by omega), h5, fun y hy => ?_, hn, he⟩
    have := hk y hy
    omega
/-- What works of numbers are like. -/
structure MadeW (most : Int) (ws : List Work) : Prop where
  built : Built ws
  two : 2 <= ws.length
  most : (ws.length : Int) <= most
  small : ∀ i, i < ws.length -> (ws.getD i default).base < 2000 /\ (ws.getD i default).minutes < 60
  src : ∀ i, i < ws.length -> i <= 2 -> (ws.getD i default).of = []
theorem made_out {b : List UInt8} {c u x most : Int} (h : SOk c u x) (hc : c <= 100000000) (h2 : 2 <= most) (h30 : most <= 30) : (zaP b u x most).Out (fun y => MadeW most y.1 /\ SOk (c + 2000) y.2.1 y.2.2) := by
  unfold zaP
  refine M.o_bind (within_out h (by omega) (by omega) h2 (by omega)) ?_
  rintro ⟨r, u1, x1⟩ ⟨hs, r0, r1⟩
  dsimp only at hs r0 r1 ⊢
  refine M.o_bind (P := fun y => MadeW most y.2.1 /\ SOk (c + 2000) y.2.2.1 y.2.2.2) ?_ (fun y hy => M.o_pure hy)
  refine M.o_for r.toNat (fun i s => s.2.2.1 = i /\ SOk (c + 1 + 40 * i) s.1 s.2.1 /\ s.2.2.2.length = i /\ (∀ j, j < i -> BuiltAt j (s.2.2.2.getD j default) /\ (s.2.2.2.getD j default).base < 2000 /\ (s.2.2.2.getD j default).minutes < 60 /\ (j <= 2 -> (s.2.2.2.getD j default).of = []))) ?_ ?_ (s := (u1, x1, 0, [])) ⟨rfl, hs.mono (by omega), rfl, fun j hj => by omega⟩
  · rintro i ⟨u, x, j, l⟩ hi ⟨rfl, ok, hl, hj⟩
    dsimp only at hi ok hl hj ⊢
    simp only [zaA]
    refine M.o_t (by simp; omega) (M.o_bind (next_out ok (by omega) (by omega)) ?_)
    rintro ⟨r3, u3, x3⟩ ⟨ok3, l3, _⟩
    dsimp only at ok3 l3 ⊢
    have l3 := l3 (by omega)
    refine M.o_bind (next_out ok3 (by omega) (by omega)) ?_
    rintro ⟨r4, u4, x4⟩ ⟨ok4, l4, _⟩
    dsimp only at ok4 l4 ⊢
    have l4 := l4 (by omega)
    refine M.o_grd (gA2 (by omega) (by omega)) (M.o_bind (made_of ok4 (by omega) (i := j) (by omega)) ?_)
    rintro ⟨u5, x5, la, lo⟩ ⟨ok5, hof⟩
    dsimp only at ok5 hof ⊢
    refine M.o_grdD (by simp only [List.length_cons, List.length_nil]; omega) (M.o_grd (gA2 (by omega) (by omega)) (M.o_pure ?_))
    refine ⟨rfl, ok5.mono (by omega), by simp [hl], fun k hk => ?_⟩
    dsimp only
    by_cases e : k < l.length
    · rw [getD_app_left _ _ e]
      exact hj k (by omega)
    · obtain rfl : k = l.length := by omega
      rw [getD_app_mid]
      refine ⟨⟨hof.few, ⟨l3.1, by dsimp only; omega⟩, ⟨l4.1, by dsimp only; omega⟩, ?_, hof.once⟩, l3.2, l4.2, ?_⟩
      · rw [hl]; exact hof.ahead
      · rw [hl]; exact hof.early
  · rintro ⟨u, x, j, l⟩ ⟨rfl, ok, hl, hj⟩
    dsimp only at ok hl hj ⊢
    simp only [zaA]
    refine M.o_f (by simp; omega) (M.o_pure ⟨⟨⟨by dsimp only; omega, fun i hi => (hj i (Nat.lt_of_lt_of_eq hi hl)).1⟩, by dsimp only; omega, by dsimp only; omega, fun i hi => ⟨(hj i (Nat.lt_of_lt_of_eq hi hl)).2.1, (hj i (Nat.lt_of_lt_of_eq hi hl)).2.2.1⟩, fun i hi => (hj i (Nat.lt_of_lt_of_eq hi hl)).2.2.2⟩, ok.mono (by omega)⟩)
end Go.Proofs.Ytndobgodeicloaa
namespace Go.Nm
structure NtOk (ws : List Work) (s : Nat) (l6 l7 : List Note) : Prop where
  src : ∀ n ∈ l6 ++ l7, 0 <= n.work /\ n.work < (s : Int) /\ (ws.getD n.work.toNat default).of = []
  rng : ∀ n ∈ l6 ++ l7, 0 <= n.version /\ n.version <= 8 /\ 0 <= n.value /\ n.value < 2000
  uniq : Uniq (l6 ++ l7)
  all : ∀ i, i < s -> (ws.getD i default).of = [] -> ∃ n ∈ l6, n.work = (i : Int)
  len6 : l6.length <= s
  len7 : l7.length <= 8 * s
theorem NtOk.next {ws : List Work} {s : Nat} {l6 l7 : List Note} (h : NtOk ws s l6 l7) (hs : (ws.getD s default).of ≠ []) : NtOk ws (s + 1) l6 l7 :=
  ⟨fun n hn => by have := h.src n hn; exact ⟨this.1, by omega, this.2.2⟩, h.rng, h.uniq, fun i hi he => by
    by_cases e : i = s
    · subst e; exact absurd he hs
    · exact h.all i (by omega) he, by have := h.len6; omega, by have := h.len7; omega⟩
/-- Old notes of one source, up to a version. -/
structure OldOk (ws : List Work) (s v : Nat) (n0 : Note) (l6 l7 l : List Note) : Prop where
  src : ∀ b ∈ l, b ∈ l7 ∨ (b.work = (s : Int) /\ 0 <= b.version /\ b.version < (v : Int) /\ 0 <= b.value /\ b.value < 2000)
  uniq : Uniq ((l6 ++ [n0]) ++ l)
  len : l.length <= l7.length + v
theorem NtOk.start {ws : List Work} {s : Nat} {l6 l7 : List Note} (h : NtOk ws s l6 l7) {n0 : Note} (hw : n0.work = (s : Int)) : OldOk ws s 0 n0 l6 l7 l7 := by
  refine ⟨fun b hb => .inl hb, ?_, Nat.le_refl _⟩
  refine h.uniq.add (n := n0) (fun a ha => ?_) (fun a ha hh => ?_)
  · simp only [List.mem_append, List.mem_cons, List.not_mem_nil, or_false] at ha ⊢
    rcases ha with (ha | ha) | ha
    · exact .inl (.inl ha)
    · exact .inr ha
    · exact .inl (.inr ha)
  · have := h.src a ha
    rw [hw] at hh
    omega
theorem OldOk.skip {ws : List Work} {s v : Nat} {n0 : Note} {l6 l7 l : List Note} (h : OldOk ws s v n0 l6 l7 l) : OldOk ws s (v + 1) n0 l6 l7 l :=
  ⟨fun b hb => (h.src b hb).imp id fun x => ⟨x.1, x.2.1, by omega, x.2.2.2⟩, h.uniq, by have := h.len; omega⟩
theorem OldOk.put {ws : List Work} {s v : Nat} {n0 : Note} {l6 l7 l : List Note} (hN : NtOk ws s l6 l7) (h : OldOk ws s v n0 l6 l7 l) (hv : (v : Int) < n0.version) {z : Int} (z0 : 0 <= z) (z1 : z < 2000) :
    OldOk ws s (v + 1) n0 l6 l7 (l ++ [⟨(s : Int), (v : Int), z⟩]) := by
  refine ⟨fun b hb => ?_, ?_, by have := h.len; simp only [List.length_append, List.length_cons, List.length_nil]; omega⟩
  · rcases List.mem_append.1 hb with hb | hb
    · exact h.skip.src b hb
    · rw [List.mem_singleton] at hb
      subst hb
      exact .inr ⟨rfl, by dsimp only; omega, by dsimp only; omega, z0, z1⟩
  · refine h.uniq.add (n := ⟨(s : Int), (v : Int), z⟩) (fun a ha => ?_) (fun a ha hh => ?_)
    · rw [← List.append_assoc, List.mem_append, List.mem_singleton] at ha
      exact ha
    · dsimp only at hh
      simp only [List.mem_append, List.mem_cons, List.not_mem_nil, or_false] at ha
      rcases ha with (ha | ha) | ha
      · have := hN.src a (List.mem_append_left _ ha); omega
      · subst ha; omega
      · rcases h.src a ha with ha | ha
        · have := hN.src a (List.mem_append_right _ ha); omega
        · omega
theorem OldOk.done {ws : List Work} {s v : Nat} {n0 : Note} {l6 l7 l : List Note} (hN : NtOk ws s l6 l7) (h : OldOk ws s v n0 l6 l7 l) (hw : n0.work = (s : Int)) (hs : (ws.getD s default).of = [])
    (hv : 0 <= n0.version /\ n0.version <= 8 /\ 0 <= n0.value /\ n0.value < 2000) (hv8 : (v : Int) <= 8) : NtOk ws (s + 1) (l6 ++ [n0]) l := by
  have hm : ∀ n ∈ (l6 ++ [n0]) ++ l, n ∈ l6 ++ l7 ∨ n = n0 ∨ (n.work = (s : Int) /\ 0 <= n.version /\ n.version < (v : Int) /\ 0 <= n.value /\ n.value < 2000) := by
    intro n hn
    simp only [List.mem_append, List.mem_cons, List.not_mem_nil, or_false] at hn ⊢
    rcases hn with (hn | hn) | hn
    · exact .inl (.inl hn)
    · exact .inr (.inl hn)
    · rcases h.src n hn with h1 | h1
      · exact .inl (.inr h1)
      · exact .inr (.inr h1)
  refine ⟨fun n hn => ?_, fun n hn => ?_, h.uniq, fun i hi he => ?_, ?_, ?_⟩
  · rcases hm n hn with h1 | h1 | h1
    · have := hN.src n h1; exact ⟨this.1, by omega, this.2.2⟩
    · subst h1; rw [hw]; exact ⟨by omega, by omega, by rw [Int.toNat_natCast]; exact hs⟩
    · rw [h1.1]; exact ⟨by omega, by omega, by rw [Int.toNat_natCast]; exact hs⟩
  · rcases hm n hn with h1 | h1 | h1
    · exact hN.rng n h1
    · subst h1; exact hv
    · omega
  · by_cases e : i = s
    · exact ⟨n0, by simp, by rw [hw, e]⟩
    · obtain ⟨n, h1, h2⟩ := hN.all i (by omega) he
      exact ⟨n, List.mem_append_left _ h1, h2⟩
  · have := hN.len6; simp only [List.length_append, List.length_cons, List.length_nil]; omega
  · have := hN.len7; have := h.len; omega
theorem NtOk.ng {ws : List Work} {l6 l7 : List Note} (h : NtOk ws ws.length l6 l7) (hl : ws.length <= 20) : NG ws (l6 ++ l7) :=
  ⟨by have := h.len6; have := h.len7; rw [List.length_append]; omega, h.src, fun n hn => by have := h.rng n hn; omega, h.uniq⟩
theorem NtOk.full {ws : List Work} {l6 l7 : List Note} (h : NtOk ws ws.length l6 l7) : Full ws (l6 ++ l7) := fun i hi he => by
  obtain ⟨n, h1, h2⟩ := h.all i hi he
  exact ⟨n, List.mem_append_left _ h1, h2⟩
theorem set_perm (l : List Int) {i j : Nat} (hi : i < l.length) (hj : j < l.length) : ((l.set i (l.getD j 0)).set j (l.getD i 0)).Perm l := by
  rw [getD_el l hi 0, getD_el l hj 0]
  exact List.set_set_perm hi hj
/-- The numbers from 0 to n - 1. -/
def upto (n : Nat) : List Int := (List.range n).map fun j : Nat => (j : Int)
theorem upto_succ (n : Nat) : upto (n + 1) = upto n ++ [(n : Int)] := by
  unfold upto
  rw [List.range_succ, List.map_append]
  rfl
theorem perm_rng {l : List Int} {n : Nat} (h : l.Perm (upto n)) : l.length = n /\ ∀ x ∈ l, 0 <= x /\ x < (n : Int) := by
  refine ⟨by rw [h.length_eq]; simp [upto], fun x hx => ?_⟩
  have := h.mem_iff.1 hx
  unfold upto at this
  obtain ⟨j, hj, rfl⟩ := List.mem_map.1 this
  have := List.mem_range.1 hj
  omega
end Go.Nm
namespace Go.Proofs.Ytndobgodeicloaa
open Go Go.Nm
variable {ws : List Work}
theorem noted_old {b : List UInt8} {c u x : Int} (h : SOk c u x) (hc : c <= 1000000000) {s : Nat} {r z : Int} {l6 l7 : List Note} (hN : NtOk ws s l6 l7) (hl : s <= 100) (hr : 0 <= r /\ r <= 8) :
    (M.iter (zau b s r) (u, x, 0, l7)).Out (fun y => SOk (c + 20) y.1 y.2.1 /\ OldOk ws s r.toNat ⟨(s : Int), r, z⟩ l6 l7 y.2.2.2) := by
  refine M.o_for r.toNat (fun i st => st.2.2.1 = i /\ SOk (c + 2 * (i : Int)) st.1 st.2.1 /\ OldOk ws s i ⟨(s : Int), r, z⟩ l6 l7 st.2.2.2) ?_ ?_ (s := (u, x, 0, l7)) ⟨rfl, h.mono (by omega), hN.start rfl⟩
  · rintro i ⟨u, x, j, l⟩ hi ⟨rfl, ok, ho⟩
    dsimp only at hi ok ho ⊢
    have h7 := hN.len7
    have ho7 := ho.len
    simp only [zau]
    refine M.o_t (by simp; omega) (M.o_bind (next_out ok (by omega) (by omega)) ?_)
    rintro ⟨r4, u4, x4⟩ ⟨ok4, _, _⟩
    dsimp only at ok4 ⊢
    refine M.o_if (fun hb => ?_) (fun hb => ?_)
    · refine M.o_bind (next_out ok4 (by omega) (by omega)) ?_
      rintro ⟨r5, u5, x5⟩ ⟨ok5, l5, _⟩
      dsimp only at ok5 l5 ⊢
      have l5 := l5 (by omega)
      exact M.o_grdD (by simp only [List.length_cons, List.length_nil]; omega) (M.o_grd (gA2 (by omega) (by omega)) (M.o_pure ⟨rfl, ok5.mono (by omega), ho.put hN (by dsimp only; omega) l5.1 l5.2⟩))
    · exact M.o_grd (gA2 (by omega) (by omega)) (M.o_pure ⟨rfl, ok4.mono (by omega), ho.skip⟩)
  · rintro ⟨u, x, j, l⟩ ⟨rfl, ok, ho⟩
    dsimp only at ok ho ⊢
    simp only [zau]
    exact M.o_f (by simp; omega) (M.o_pure ⟨ok.mono (by omega), ho⟩)
theorem noted_out {b : List UInt8} {c u x : Int} (h : SOk c u x) (hc : c <= 100000000) (hw : ws.length <= 30) :
    (zaZ b u x ws).Out (fun y => (∃ l6 l7, y.1 = l6 ++ l7 /\ NtOk ws ws.length l6 l7) /\ SOk (c + 1000) y.2.1 y.2.2) := by
  unfold zaZ
  refine M.o_bind (P := fun y => NtOk ws ws.length y.2.2.2.1 y.2.2.1 /\ SOk (c + 1000) y.2.2.2.2.1 y.2.2.2.2.2) ?_ ?_
  · refine M.o_for ws.length (fun i st => st.1 = i /\ SOk (c + 30 * (i : Int)) st.2.1 st.2.2.1 /\ NtOk ws i st.2.2.2.1 st.2.2.2.2) ?_ ?_ (s := (0, u, x, [], [])) ⟨rfl, h.mono (by omega), ⟨by simp, by simp, fun a ha => by simp at ha, fun i hi => by omega, by simp, by simp⟩⟩
    · rintro i ⟨j, u, x, l6, l7⟩ hi ⟨rfl, ok, hN⟩
      dsimp only at hi ok hN ⊢
      simp only [zaL]
      refine M.o_t (by simpa using hi) (M.o_grdD (by omega) (M.o_if (fun hb => ?_) (fun hb => ?_)))
      · exact M.o_pure ⟨rfl, ok.mono (by omega), hN.next (fun e => by rw [e] at hb; simp at hb)⟩
      · have he : (ws.getD j default).of = [] := by
          simp only [decide_eq_false_iff_not] at hb
          exact List.eq_nil_of_length_eq_zero (by omega)
        refine M.o_bind (next_out ok (by omega) (by omega)) ?_
        rintro ⟨r2, u2, x2⟩ ⟨ok2, l2, _⟩
        dsimp only at ok2 l2 ⊢
        have l2 := l2 (by omega)
        refine M.o_bind (next_out ok2 (by omega) (by omega)) ?_
        rintro ⟨r3, u3, x3⟩ ⟨ok3, l3, _⟩
        dsimp only at ok3 l3 ⊢
        have l3 := l3 (by omega)
        have h6 := hN.len6
        refine M.o_grdD (by simp only [List.length_cons, List.length_nil]; omega) (M.o_bind (noted_old (z := r3) ok3 (by omega) hN (by omega) (by omega)) ?_)
        rintro ⟨u5, x5, la, lo⟩ ⟨ok5, ho⟩
        dsimp only at ok5 ho ⊢
        exact M.o_pure ⟨rfl, ok5.mono (by omega), ho.done hN rfl he ⟨l2.1, by dsimp only; omega, l3.1, l3.2⟩ (by omega)⟩
    · rintro ⟨j, u, x, l6, l7⟩ ⟨rfl, ok, hN⟩
      dsimp only at ok hN ⊢
      simp only [zaL]
      exact M.o_f (by simp) (M.o_pure ⟨hN, ok.mono (by omega)⟩)
  · rintro ⟨l8, l9, l10, l11, u, x⟩ ⟨hN, ok⟩
    dsimp only at hN ok ⊢
    have := hN.len6
    have := hN.len7
    exact M.o_grdD (by omega) (M.o_pure ⟨⟨l11, l10, rfl, hN⟩, ok⟩)
theorem mixed_out {b : List UInt8} {c u x : Int} (h : SOk c u x) (hc : c <= 100000000) {n : Nat} (hn : n <= 10000) :
    (za2 b u x (n : Int)).Out (fun y => y.1.Perm (upto n) /\ SOk (c + n) y.2.1 y.2.2) := by
  unfold za2
  refine M.o_bind (P := fun y => y.2.1.Perm (upto n) /\ SOk (c + n) y.2.2.1 y.2.2.2) ?_ (fun y hy => M.o_pure hy)
  refine M.o_for n (fun i st => st.2.2.1 = i /\ SOk (c + (i : Int)) st.1 st.2.1 /\ st.2.2.2.Perm (upto i)) ?_ ?_ (s := (u, x, 0, [])) ⟨rfl, h.mono (by omega), List.Perm.refl _⟩
  · rintro i ⟨u, x, j, l⟩ hi ⟨rfl, ok, hp⟩
    dsimp only at hi ok hp ⊢
    have hl := (perm_rng hp).1
    simp only [zaG]
    refine M.o_t (by simpa using hi) (M.o_grd (gA2 (by omega) (by omega)) (M.o_bind (next_out ok (by omega) (by omega)) ?_))
    rintro ⟨r, u', x'⟩ ⟨ok', lt, _⟩
    dsimp only at ok' lt ⊢
    have lt := lt (by omega)
    have hl2 : (l ++ [(j : Int)]).length = j + 1 := by simp [hl]
    refine M.o_grdD (by simp only [List.length_cons, List.length_nil]; omega) (M.o_grd (gA2 lt.1 (by omega)) (M.o_grdD (by omega) (M.o_grd (gA2 lt.1 (by rw [List.length_set]; omega)) (M.o_pure ⟨rfl, ok'.mono (by omega), ?_⟩))))
    dsimp only
    rw [upto_succ]
    exact (set_perm _ (by omega) (by omega)).trans (List.Perm.append_right _ hp)
  · rintro ⟨u, x, j, l⟩ ⟨rfl, ok, hp⟩
    dsimp only at ok hp ⊢
    simp only [zaG]
    exact M.o_f (by simp) (M.o_pure ⟨hp, ok⟩)
end Go.Proofs.Ytndobgodeicloaa
section
set_option maxRecDepth 100000
set_option maxHeartbeats 16000000
namespace Go.Proofs.Ytndobgodeicloaa
open Go Go.Nm
def zaD (s_bytes : List UInt8) (w_ : List Work) : (Int × Int × Nat × (List Int)) -> M ((Int × Int × Nat × (List Int)) ⊕ (Int × Int × (List Int) × (List Int))) := fun (s2, s3, s4, l) =>
  bif decide ((s4 : Int) < (w_.length : Int)) then (
  M.bind (zaa s_bytes s2 s3 4) fun (r2, q1, q2) =>
  bif r2 == 0 then (
  M.grd (decide ((l.length + ([(s4 : Int)]).length) * 8 <= 140737488355328)) <|
  M.pure (.inl (q1, q2, s4 + 1, l ++ ([(s4 : Int)]))))
  else (
  M.pure (.inl (q1, q2, s4 + 1, l))))
  else (
  M.pure (.inr (s2, s3, l, l)))
def zaX (s_bytes : List UInt8) (s_used : Int) (s_mix : Int) (w_ : List Work) : M ((List Int) × Int × Int) :=
  M.bind (M.iter (zaD s_bytes w_) (s_used, s_mix, 0, [])) fun (s5, s6, l2, l3) =>
  bif (l3.length : Int) == 0 then (
  M.bind (zaa s_bytes s5 s6 (w_.length : Int)) fun (r3, aa, ab) =>
  M.grd (decide ((l3.length + ([(r3 : Int)]).length) * 8 <= 140737488355328)) <|
  M.pure ((l3 ++ ([(r3 : Int)])), aa, ab))
  else (
  M.pure (l3, s5, s6))
theorem zbs {R : List Chunk} {aa : Nat} {av : Cells} {ac : Value} {aw : Cells} {ae : Value} (s_bytes : List UInt8) (s_used : Int) (s_mix : Int) (w_ : List Work) (ax : Reads R av) (ay : Sl av ac s_bytes) (aP : Reads R aw) (al : Sl aw ae w_) {r : ((List Int) × Int × Int)} (hM : (zaX s_bytes s_used s_mix w_).Ends r) (w : World) (H : St w w [cBlk aa [ac, I s_used, I s_mix] 158] R) : Ret Try.prog 47 #[Pz aa, ae] w fun v w' => ∃ (y0 : List Int) (y1 : Int) (y2 : Int) (u0 : Value), (y0, y1, y2) = r /\ v = u0 /\ St w w' [cOwn (α := Int) 3 u0 y0, cBlk aa [ac, I y1, I y2] 158] R := by
 refine ret_of_W Try.func47 rfl rfl rfl ?_
 refine sQ rfl <| sA (.slice none 0 0) rfl <| s_nil <| sQ rfl <| sA (.slice none 0 0) rfl <| s_nil <| W.seq <| sQ rfl <| sM ae rfl ?_
 have aQ := (al).len_le
 refine s_val (x_lenS T22.und rfl al) <| sM (I 0) rfl <| s_nil <| W.block ?_
 replace H : St w w [cOwn (α := Int) 3 (.slice none 0 0) ([]), cBlk aa [ac, I s_used, I s_mix] 158] R := H.nilOwn (α := Int) 3
 obtain ⟨aE, am, aF⟩ := M.e_bind hM
 obtain ⟨aR, am⟩ := M.e_iter am
 refine W.loop (fun m σ W => ∃ (s2 : Int) (s3 : Int) (s4 : Nat) (l : List Int) (ab : Value) (ρ : Env), σ = upds ρ [(0, Pz aa), (1, ae), (5, ab), (8, I (w_.length : Int)), (9, I (s4 : Int))] /\ M.iterN (zaD s_bytes w_) m (s2, s3, s4, l) = some aE /\ St w W [cOwn (α := Int) 3 ab l, cBlk aa [ac, I s2, I s3] 158] R) ?_ ?_
 ·exact ⟨_, s_used, s_mix, 0, [], (.slice none 0 0), _, upds_of _ _ ⟨rfl, rfl, rfl, rfl, rfl, trivial⟩, am, H⟩
 rintro aS σ aT ⟨s2, s3, s4, l, ab, ρ, rfl, az, H⟩
 obtain ⟨aA, aB, aU, hM, ao⟩ := M.e_iterN az
 simp only [zaD] at hM
 clear az
 refine sQ rfl <| sC _ _ (decide ((s4 : Int) < (w_.length : Int))) rfl rfl rfl <| s_nil <| W.seq ?_
 refine W.cond (decide ((s4 : Int) < (w_.length : Int))) rfl (fun ag => ?_) (fun ag => ?_)
 ·replace hM := M.e_t hM ag
  simp only [qz1, qz2, qz3, qz4, qz5, qz6, ne_eq, qz7] at ag
  refine W.skip <| W.seq <| W.block <| sQ rfl <| sM (I (s4 : Int)) rfl <| sA (I (s4 : Int)) rfl <| s_nil <| sQ rfl <| sM (Pz aa) rfl ?_
  obtain ⟨aV, aG, hM⟩ := M.e_bind hM
  refine s_call cf44 [Pz aa, I 4] rfl (zac s_bytes s2 s3 4 (ax.app _) ay aG _ (St.give (L := [cBlk aa [ac, I s2, I s3] 158, cOwn (α := Int) 3 ab l]) (A := [cBlk aa [ac, I s2, I s3] 158]) (T := [cOwn (α := Int) 3 ab l]) (H.pick [1, 0] (by decide) rfl) rfl)) ?_
  rintro vq aH ⟨r2, q1, q2, aI, hvq, ah⟩
  subst aI
  subst vq
  try dsimp only at hM
  replace H : St w aH [cBlk aa [ac, I q1, I q2] 158, cOwn (α := Int) 3 ab l] R := H.pick [1, 0] (by decide) rfl |>.back ah rfl
  clear ah
  refine sC _ _ (r2 == 0) rfl rfl rfl <| s_nil ?_
  refine W.cond (r2 == 0) rfl (fun ai => ?_) (fun ai => ?_)
  ·replace hM := M.e_t hM ai
   simp only [qz1, qz2, qz3, qz4, qz5, qz6, ne_eq, qz7] at ai
   refine W.region rfl <| sM ab rfl <| sM (I (s4 : Int)) rfl ?_
   refine t_bs (α := Int) T34 [I (s4 : Int)] [(s4 : Int)] H rfl (.cons rfl (Flat.rep_enc _ (s4 : Int)) <| .nil) rfl rfl rfl ?_
   intro aC aW H
   obtain ⟨aX, hM⟩ := M.e_gd hM
   refine t_app (α := Int) (k := 2) (l := l) (l2 := [(s4 : Int)]) (l' := l ++ ([(s4 : Int)])) (vy := aC) T34 rfl H rfl rfl rfl (ownSl (H.get (k := 0) rfl)) (ownLe _ (H.get (k := 0) rfl)) (rfl) (by first | omega | (simp only [List.length_nil] at *; omega)) ?_
   intro ap aJ H
   replace H : St w aJ [cOwn (α := Int) 3 aC ([(s4 : Int)]), cBlk aa [ac, I q1, I q2] 158, cOwn (α := Int) 3 ap (l ++ ([(s4 : Int)]))] R := H
   refine sA ap rfl <| s_nil <| W.region rfl <| sR _ _ ((s4 : Int) + 1) rfl rfl rfl (by omega) <| sM (I ((s4 : Int) + 1)) rfl <| s_nil ?_
   exact ⟨aA, aB, q1, q2, s4 + 1, l ++ ([(s4 : Int)]), ap, _, upds_of _ _ ⟨rfl, rfl, rfl, rfl, rfl, trivial⟩, M.e_inl hM ao, (H.pick [2, 1] (by decide) rfl)⟩
  replace hM := M.e_f hM ai
  simp only [qz1, qz2, qz3, qz4, qz5, qz6, ne_eq, qz7] at ai
  refine W.skip <| W.region rfl <| sR _ _ ((s4 : Int) + 1) rfl rfl rfl (by omega) <| sM (I ((s4 : Int) + 1)) rfl <| s_nil ?_
  exact ⟨aA, aB, q1, q2, s4 + 1, l, ab, _, upds_of _ _ ⟨rfl, rfl, rfl, rfl, rfl, trivial⟩, M.e_inl hM ao, (H.pick [1, 0] (by decide) rfl)⟩
 replace hM := M.e_f hM ag
 simp only [qz1, qz2, qz3, qz4, qz5, qz6, ne_eq, qz7] at ag
 refine W.exit ?_
 have aK := M.e_inr hM ao
 subst aK
 replace hM := aF
 try dsimp only at hM
 refine W.seq <| sQ rfl <| sM ab rfl ?_
 have aY := ((ownSl (H.get (k := 0) rfl))).len_le
 refine s_val (x_lenS T34.und rfl (ownSl (H.get (k := 0) rfl))) <| sC _ _ ((l.length : Int) == 0) rfl rfl rfl <| s_nil ?_
 refine W.cond ((l.length : Int) == 0) rfl (fun aj => ?_) (fun aj => ?_)
 ·replace hM := M.e_t hM aj
  simp only [qz1, qz2, qz3, qz4, qz5, qz6, ne_eq, qz7] at aj
  refine W.region rfl <| sM ab rfl <| sM (Pz aa) rfl <| sM ae rfl ?_
  have aZ := (al).len_le
  refine s_val (x_lenS T22.und rfl al) ?_
  obtain ⟨a6, aL, hM⟩ := M.e_bind hM
  refine s_call cf44 [Pz aa, I (w_.length : Int)] rfl (zac s_bytes s2 s3 (w_.length : Int) (ax.app _) ay aL _ (St.give (L := [cBlk aa [ac, I s2, I s3] 158, cOwn (α := Int) 3 ab l]) (A := [cBlk aa [ac, I s2, I s3] 158]) (T := [cOwn (α := Int) 3 ab l]) (H.pick [1, 0] (by decide) rfl) rfl)) ?_
  rintro vq aM ⟨r3, aq, ar, aN, hvq, ah⟩
  subst aN
  subst vq
  try dsimp only at hM
  replace H : St w aM [cBlk aa [ac, I aq, I ar] 158, cOwn (α := Int) 3 ab l] R := H.pick [1, 0] (by decide) rfl |>.back ah rfl
  clear ah
  refine t_bs (α := Int) T34 [I r3] [(r3 : Int)] H rfl (.cons rfl (Flat.rep_enc _ (r3 : Int)) <| .nil) rfl rfl rfl ?_
  intro aD a7 H
  obtain ⟨a8, hM⟩ := M.e_gd hM
  refine t_app (α := Int) (k := 2) (l := l) (l2 := [(r3 : Int)]) (l' := l ++ ([(r3 : Int)])) (vy := aD) T34 rfl H rfl rfl rfl (ownSl (H.get (k := 0) rfl)) (ownLe _ (H.get (k := 0) rfl)) (rfl) (by first | omega | (simp only [List.length_nil] at *; omega)) ?_
  intro ak aO H
  replace H : St w aO [cOwn (α := Int) 3 aD ([(r3 : Int)]), cBlk aa [ac, I aq, I ar] 158, cOwn (α := Int) 3 ak (l ++ ([(r3 : Int)]))] R := H
  refine sA ak rfl <| s_nil <| sQ rfl <| sM ak rfl <| sA ak rfl <| s_nil ?_
  refine W.ret ?_
  have au := M.e_pure hM
  exact ⟨_, resE_tmp rfl, ⟨(l ++ ([(r3 : Int)])), aq, ar, ak, au, rfl, (H.pick [2, 1] (by decide) rfl)⟩⟩
 replace hM := M.e_f hM aj
 simp only [qz1, qz2, qz3, qz4, qz5, qz6, ne_eq, qz7] at aj
 refine W.skip <| sQ rfl <| sM ab rfl <| sA ab rfl <| s_nil ?_
 refine W.ret ?_
 have au := M.e_pure hM
 exact ⟨_, resE_tmp rfl, ⟨l, s2, s3, ab, au, rfl, H⟩⟩

end Go.Proofs.Ytndobgodeicloaa
end
namespace Go.Nm
end Go.Nm
namespace Go.Proofs.Ytndobgodeicloaa
open Go Go.Nm
variable {ws : List Work}
structure RevOk (ws : List Work) (rv : List Int) : Prop where
  some : rv ≠ []
  asc : rv.Pairwise (· < ·)
  lt : ∀ x ∈ rv, 0 <= x /\ x < (ws.length : Int)
  few : rv.length <= ws.length
theorem RevOk.asked {rv : List Int} (h : RevOk ws rv) (hO : openedE ws = 0) : askedE ws rv = 0 := by rw [asked_list hO]; exact listed_of h.lt h.asc
theorem revised_out {b : List UInt8} {c u x : Int} (h : SOk c u x) (hc : c <= 100000000) (hw : ws.length <= 30) (h1 : 1 <= ws.length) :
    (zaX b u x ws).Out (fun y => RevOk ws y.1 /\ SOk (c + 100) y.2.1 y.2.2) := by
  unfold zaX
  refine M.o_bind (P := fun y => SOk (c + 30) y.1 y.2.1 /\ y.2.2.2.Pairwise (· < ·) /\ (∀ x ∈ y.2.2.2, 0 <= x /\ x < (ws.length : Int)) /\ y.2.2.2.length <= ws.length) ?_ ?_
  · refine M.o_for ws.length (fun i st => st.2.2.1 = i /\ SOk (c + (i : Int)) st.1 st.2.1 /\ st.2.2.2.Pairwise (· < ·) /\ (∀ x ∈ st.2.2.2, 0 <= x /\ x < (i : Int)) /\ st.2.2.2.length <= i) ?_ ?_ (s := (u, x, 0, [])) ⟨rfl, h.mono (by omega), by simp, by simp, by simp⟩
    · rintro i ⟨u, x, j, l⟩ hi ⟨rfl, ok, hp, hl, hle⟩
      dsimp only at hi ok hp hl hle ⊢
      simp only [zaD]
      refine M.o_t (by simpa using hi) (M.o_bind (next_out ok (by omega) (by omega)) ?_)
      rintro ⟨r, u', x'⟩ ⟨ok', _, _⟩
      dsimp only at ok' ⊢
      refine M.o_if (fun hb => ?_) (fun hb => ?_)
      · refine M.o_grdD (by simp only [List.length_cons, List.length_nil]; omega) (M.o_pure ⟨rfl, ok'.mono (by omega), pair_snoc hp (fun y hy => (hl y hy).2), fun y hy => ?_, by simp only [List.length_append, List.length_cons, List.length_nil]; omega⟩)
        rcases List.mem_append.1 hy with hy | hy
        · have := hl y hy; omega
        · rw [List.mem_singleton.1 hy]; omega
      · exact M.o_pure ⟨rfl, ok'.mono (by omega), hp, fun y hy => by have := hl y hy; omega, by dsimp only; omega⟩
    · rintro ⟨u, x, j, l⟩ ⟨rfl, ok, hp, hl, hle⟩
      dsimp only at ok hp hl hle ⊢
      simp only [zaD]
      exact M.o_f (by simp) (M.o_pure ⟨ok.mono (by omega), hp, hl, hle⟩)
  · rintro ⟨u, x, la, l⟩ ⟨ok, hp, hl, hle⟩
    dsimp only at ok hp hl hle ⊢
    refine M.o_if (fun hb => ?_) (fun hb => ?_)
    · have e : l = [] := List.eq_nil_of_length_eq_zero (by have := eq_of_beq hb; omega)
      subst e
      refine M.o_bind (next_out ok (by omega) (by omega)) ?_
      rintro ⟨r, u', x'⟩ ⟨ok', lt, _⟩
      dsimp only at ok' lt ⊢
      have lt := lt (by omega)
      refine M.o_grdD (by simp only [List.length_cons, List.length_nil]; omega) (M.o_pure ⟨⟨by simp, by simp, fun y hy => ?_, by simp; omega⟩, ok'.mono (by omega)⟩)
      simp only [List.nil_append, List.mem_cons, List.not_mem_nil, or_false] at hy
      rw [hy]
      exact lt
    · exact M.o_pure ⟨⟨fun e => by dsimp only at e; rw [e] at hb; simp at hb, hp, hl, hle⟩, ok.mono (by omega)⟩
end Go.Proofs.Ytndobgodeicloaa
section
set_option maxRecDepth 100000
set_option maxHeartbeats 16000000
namespace Go.Proofs.Ytndobgodeicloaa
open Go Go.Nm
end Go.Proofs.Ytndobgodeicloaa
end
namespace Go.Nm
variable {ws : List Work}
/-- Was a work met? -/
def mt (m : Int -> Option Bool) (x : Int) : Prop := (m x).getD false = true
theorem mt_upd (m : Int -> Option Bool) (x y : Int) : mt (updF m x true) y ↔ y = x ∨ mt m y := by
  unfold mt updF
  by_cases e : y = x
  · rw [if_pos e]; exact ⟨fun _ => .inl e, fun _ => rfl⟩
  · rw [if_neg e]; exact ⟨fun h => .inr h, fun h => h.elim (fun h => absurd h e) id⟩
/-- Is a work made of another one? -/
def Succ (ws : List Work) (x y : Int) : Prop := 0 <= y /\ y < (ws.length : Int) /\ x ∈ (ws.getD y.toNat default).of
/-- What a search that finds nothing leaves. -/
structure Srch (ws : List Work) (m m' : Int -> Option Bool) (to_ : Int) : Prop where
  up : ∀ x, mt m x -> mt m' x
  cl : ∀ x, mt m' x -> mt m x ∨ ∀ y, Succ ws x y -> mt m' y
  no : ¬ mt m to_ -> ¬ mt m' to_
theorem Srch.refl (m : Int -> Option Bool) (to_ : Int) : Srch ws m m to_ := ⟨fun _ h => h, fun _ h => .inl h, fun h => h⟩
theorem Srch.trans {a b c : Int -> Option Bool} {to_ : Int} (h : Srch ws a b to_) (k : Srch ws b c to_) : Srch ws a c to_ :=
  ⟨fun x hx => k.up x (h.up x hx), fun x hx => by
    rcases k.cl x hx with h1 | h1
    · rcases h.cl x h1 with h2 | h2
      · exact .inl h2
      · exact .inr fun y hy => k.up y (h2 y hy)
    · exact .inr h1, fun hn => k.no (h.no hn)⟩
/-- A line from one work to another one. -/
structure LineOk (ws : List Work) (a b : Int) (l : List Int) : Prop where
  line : lineB ws l = true
  rng : ∀ x ∈ l, 0 <= x /\ x < (ws.length : Int)
  first : ∃ r, l = a :: r
  last : ∃ r, l = r ++ [b]
  len : (l.length : Int) <= ws.length - a
theorem LineOk.one {a : Int} (h0 : 0 <= a) (h1 : a < ws.length) : LineOk ws a a [a] := ⟨rfl, fun x hx => by rw [List.mem_singleton.1 hx]; exact ⟨h0, h1⟩, ⟨[], rfl⟩, ⟨[], rfl⟩, by simp; omega⟩
theorem LineOk.cons {a x b : Int} {l : List Int} (h0 : 0 <= a) (hs : Succ ws a x) (hx : a < x) (h : LineOk ws x b l) : LineOk ws a b ([a] ++ l) := by
  obtain ⟨r, hr⟩ := h.first
  obtain ⟨q, hq⟩ := h.last
  refine ⟨?_, fun y hy => ?_, ⟨l, rfl⟩, ⟨a :: q, by rw [hq]; rfl⟩, ?_⟩
  · have := h.line
    rw [hr] at this ⊢
    show ((ws.getD x.toNat default).of.contains a && lineB ws (x :: r)) = true
    rw [this, Bool.and_true, List.contains_iff_mem]
    exact hs.2.2
  · rcases List.mem_append.1 hy with hy | hy
    · rw [List.mem_singleton.1 hy]; exact ⟨h0, by have := hs.2.1; omega⟩
    · exact h.rng y hy
  · have := h.len
    simp only [List.length_append, List.length_cons, List.length_nil]
    omega
end Go.Nm
namespace Go.Proofs.Ytndobgodeicloaa
open Go Go.Nm
variable {ws : List Work}
end Go.Proofs.Ytndobgodeicloaa
namespace Go.Nm
theorem sumN_lt {f g : Nat -> Int} {n : Nat} (h : ∀ i, i < n -> f i <= g i) {k : Nat} (hk : k < n) (hlt : f k < g k) : sumN f n < sumN g n := by
  have := sumN_ge (f := fun i => g i - f i) (fun i hi => by have := h i hi; omega) k hk
  rw [sumN_sub] at this
  omega
/-- The room between two sides. -/
def roomN (mp : Gate -> Option Int) (u v : Nat) : Int := (mp ⟨(u : Int), (v : Int)⟩).getD 0
theorem updG {mp : Gate -> Option Int} {a s : Nat} {z : Int} (u v : Nat) : roomN (updF mp ⟨(a : Int), (s : Int)⟩ z) u v = if u = a /\ v = s then z else roomN mp u v := by
  unfold roomN updF
  by_cases e : u = a /\ v = s
  · rw [if_pos e, e.1, e.2, if_pos rfl]; rfl
  · rw [if_neg e, if_neg]
    intro h
    have h1 := congrArg Gate.src h
    have h2 := congrArg Gate.dst h
    dsimp only at h1 h2
    exact e ⟨by omega, by omega⟩
theorem room_step (q : Gate -> Option Int) {a s : Nat} (hne : a ≠ s) (u v : Nat) :
    roomN (updF (updF q ⟨(a : Int), (s : Int)⟩ ((q ⟨(a : Int), (s : Int)⟩).getD 0 - 1)) ⟨(s : Int), (a : Int)⟩ (((updF q ⟨(a : Int), (s : Int)⟩ ((q ⟨(a : Int), (s : Int)⟩).getD 0 - 1)) ⟨(s : Int), (a : Int)⟩).getD 0 + 1)) u v
      = roomN q u v - (if u = a /\ v = s then 1 else 0) + (if v = a /\ u = s then 1 else 0) := by
  have h1 : ((updF q ⟨(a : Int), (s : Int)⟩ ((q ⟨(a : Int), (s : Int)⟩).getD 0 - 1)) ⟨(s : Int), (a : Int)⟩).getD 0 = roomN q s a := by
    have := updG (mp := q) (a := a) (s := s) (z := (q ⟨(a : Int), (s : Int)⟩).getD 0 - 1) s a
    rw [if_neg (fun h => hne h.1.symm)] at this
    exact this
  rw [h1, updG, updG]
  by_cases e1 : u = s /\ v = a
  · rw [if_pos e1, e1.1, e1.2, if_neg (fun h => hne h.1.symm), if_pos ⟨rfl, rfl⟩]; omega
  · rw [if_neg e1, if_neg (c := v = a /\ u = s) (fun h => e1 ⟨h.2, h.1⟩)]
    by_cases e2 : u = a /\ v = s
    · rw [if_pos e2, if_pos e2, e2.1, e2.2]; unfold roomN; omega
    · rw [if_neg e2, if_neg e2]; omega
/-- How many were not met. -/
def unmet (N : Nat) (m : Int -> Option Bool) : Int := sumN (fun x => if (m (x : Int)).getD false then 0 else 1) N
theorem unmet_nn (N : Nat) (m : Int -> Option Bool) : 0 <= unmet N m := sumN_nn fun i _ => by split <;> omega
theorem unmet_le {N : Nat} {m m' : Int -> Option Bool} (h : ∀ x : Nat, mt m x -> mt m' x) : unmet N m' <= unmet N m := by
  refine sumN_le fun i _ => ?_
  have := h i
  unfold Nm.mt at this
  by_cases e : (m (i : Int)).getD false = true
  · rw [if_pos e, if_pos (this e)]; omega
  · rw [if_neg e]; split <;> omega
theorem unmet_lt {N : Nat} {m m' : Int -> Option Bool} (h : ∀ x : Nat, mt m x -> mt m' x) {s : Nat} (hs : s < N) (h1 : ¬ mt m s) (h2 : mt m' s) : unmet N m' < unmet N m := by
  refine sumN_lt (fun i _ => ?_) hs ?_
  · have := h i
    unfold Nm.mt at this
    by_cases e : (m (i : Int)).getD false = true
    · rw [if_pos e, if_pos (this e)]; omega
    · rw [if_neg e]; split <;> omega
  · unfold Nm.mt at h1 h2
    rw [if_neg h1, if_pos h2]; omega
/-- What a search that does not come to the end leaves. -/
structure GoNo (N t : Nat) (c : Nat -> Nat -> Int) (m m' : Int -> Option Bool) (a : Nat) : Prop where
  up : ∀ x : Nat, mt m x -> mt m' x
  at_ : mt m' a
  acl : ∀ y, y < N -> 0 < c a y -> mt m' y
  cl : ∀ x : Nat, mt m' x -> mt m x ∨ ∀ y, y < N -> 0 < c x y -> mt m' y
  no : ¬ mt m' t
/-- A path to the end along which there was room, by works not met. -/
structure GoYes (N t : Nat) (c c' : Nat -> Nat -> Int) (m : Int -> Option Bool) (a : Nat) (l : List Nat) : Prop where
  pa : Pa c (a :: l)
  once : (a :: l).Nodup
  new : ∀ x ∈ l, ¬ mt m x
  rng : ∀ x ∈ a :: l, x < N
  last : lst a l = t
  room : ∀ u v, c' u v = pushP c (a :: l) u v
def GoQ (N t : Nat) (mp : Gate -> Option Int) (m : Int -> Option Bool) (a : Nat) (r : Bool × (Gate -> Option Int) × (Int -> Option Bool)) : Prop :=
  (r.1 = false /\ r.2.1 = mp /\ a ≠ t /\ GoNo N t (roomN mp) m r.2.2 a) ∨ (r.1 = true /\ ∃ l, GoYes N t (roomN mp) (roomN r.2.1) m a l)
end Go.Nm
namespace Go.Proofs.Ytndobgodeicloaa
open Go Go.Nm
variable {ws : List Work} {rev : List Int}
theorem goes_out {t : Nat} (ht : t < ws.length) (hl : ws.length <= 1000) : ∀ (d : Nat) (a : Nat) (mp : Gate -> Option Int) (m : Int -> Option Bool), (∀ u v, 0 <= roomN mp u v /\ roomN mp u v <= 1000) -> a < 2 * ws.length -> ¬ mt m ((2 * t : Nat) : Int) -> unmet (2 * ws.length) (updF m (a : Int) true) < d →
    (zaT ws rev (t : Int) mp m (a : Int)).Out (GoQ (2 * ws.length) (2 * t) mp m a) := by
  intro d
  induction d with
  | zero => intro a mp m _ _ _ h; have := unmet_nn (2 * ws.length) (updF m (a : Int) true); omega
  | succ d ih =>
    intro a mp m hb ha hm hd
    suffices h : (zah (M.fix zah zbd) (ws, rev, (t : Int), mp, m, (a : Int))).Out (GoQ (2 * ws.length) (2 * t) mp m a) by
      obtain ⟨r, h2, h3⟩ := h
      exact ⟨r, M.i_fix h2, h3⟩
    simp only [zah]
    refine M.o_grd (gA2 (by omega) (by omega)) (M.o_if (fun hq => ?_) (fun hq => ?_))
    · have e : a = 2 * t := by simp only [beq_iff_eq] at hq; omega
      refine M.o_pure (.inr ⟨rfl, [], ⟨trivial, by simp, by simp, by simpa using ha, e, fun u v => by simp [pushP, eP]⟩⟩)
    · have hne : a ≠ 2 * t := by simp only [beq_eq_false_iff_ne, ne_eq] at hq; omega
      refine M.o_grd (gA2 (by omega) (by omega)) (M.o_bind (P := fun r => match r with
        | .inl (c', _) => ∃ l, GoYes (2 * ws.length) (2 * t) (roomN mp) (roomN c') m a l
        | .inr (c', m') => c' = mp /\ GoNo (2 * ws.length) (2 * t) (roomN mp) m m' a) ?_ ?_)
      · refine M.o_for (2 * ws.length) (fun i st => st.2.2 = i /\ st.1 = mp /\ (∀ x : Nat, mt (updF m (a : Int) true) x -> mt st.2.1 x) /\ (∀ x : Nat, mt st.2.1 x -> mt (updF m (a : Int) true) x ∨ ∀ y, y < 2 * ws.length -> 0 < roomN mp x y -> mt st.2.1 y) /\ ¬ mt st.2.1 ((2 * t : Nat) : Int) /\ ∀ y, y < i -> 0 < roomN mp a y -> mt st.2.1 y) ?_ ?_
          (s := (mp, updF m (a : Int) true, 0)) ⟨rfl, rfl, fun _ h => h, fun _ h => .inl h, fun h => ?_, fun y hy => by omega⟩
        · rintro i ⟨c, m2, s⟩ hi ⟨rfl, rfl, hup, hcl, hno, hdone⟩
          dsimp only at hi hup hcl hno hdone ⊢
          simp only [zam]
          refine M.o_t (by simp only [decide_eq_true_eq]; omega) ?_
          have next : ∀ m3 : Int -> Option Bool, (∀ x : Nat, mt m2 x -> mt m3 x) -> (∀ x : Nat, mt m3 x -> mt m2 x ∨ ∀ y, y < 2 * ws.length -> 0 < roomN c x y -> mt m3 y) -> ¬ mt m3 ((2 * t : Nat) : Int) -> (0 < roomN c a s -> mt m3 s) →
              (s + 1 = s + 1 /\ c = c /\ (∀ x : Nat, mt (updF m (a : Int) true) x -> mt m3 x) /\ (∀ x : Nat, mt m3 x -> mt (updF m (a : Int) true) x ∨ ∀ y, y < 2 * ws.length -> 0 < roomN c x y -> mt m3 y) /\ ¬ mt m3 ((2 * t : Nat) : Int) /\ ∀ y, y < s + 1 -> 0 < roomN c a y -> mt m3 y) := by
            intro m3 h1 h2 h3 h4
            refine ⟨rfl, rfl, fun x hx => h1 x (hup x hx), fun x hx => ?_, h3, fun y hy hr => ?_⟩
            · rcases h2 x hx with h5 | h5
              · rcases hcl x h5 with h6 | h6
                · exact .inl h6
                · exact .inr fun y hy hr => h1 y (h6 y hy hr)
              · exact .inr h5
            · by_cases e : y = s
              · subst e; exact h4 hr
              · exact h1 y (hdone y (by omega) hr)
          cases hc : ((decide (0 < ((c (⟨(a : Int), (s : Int)⟩ : Gate)).getD 0))) && (!((m2 (s : Int)).getD false))) with
          | false =>
            refine M.o_f rfl (M.o_grd (gA2 (by omega) (by omega)) (M.o_pure (next m2 (fun _ h => h) (fun _ h => .inl h) hno (fun hr => ?_))))
            rw [decide_eq_true (show 0 < ((c (⟨(a : Int), (s : Int)⟩ : Gate)).getD 0) from hr), Bool.true_and] at hc
            unfold Nm.mt
            simpa using hc
          | true =>
            simp only [Bool.and_eq_true, decide_eq_true_eq, Bool.not_eq_true'] at hc
            obtain ⟨hr, hns⟩ := hc
            have hns' : ¬ mt m2 (s : Int) := by unfold Nm.mt; rw [hns]; simp
            have hma : mt m2 (a : Int) := hup a ((mt_upd m a a).2 (.inl rfl))
            have has : a ≠ s := fun e => hns' (e ▸ hma)
            refine M.o_t rfl (M.o_bind (ih s c m2 hb hi hno ?_) ?_)
            · have h1 := unmet_lt (N := 2 * ws.length) (m := m2) (m' := updF m2 (s : Int) true) (fun x hx => (mt_upd m2 _ _).2 (.inr hx)) hi hns' ((mt_upd m2 _ _).2 (.inl rfl))
              have h2 := unmet_le (N := 2 * ws.length) hup
              omega
            · rintro ⟨b, q, m7⟩ (⟨rfl, rfl, hst, hG⟩ | ⟨rfl, l, hG⟩)
              · dsimp only at hG ⊢
                refine M.o_f rfl (M.o_grd (gA2 (by omega) (by omega)) (M.o_pure (next m7 hG.up hG.cl hG.no (fun _ => hG.at_))))
              · dsimp only at hG ⊢
                have ha' : a ∉ s :: l := fun h => by
                  rcases List.mem_cons.1 h with h | h
                  · exact has h
                  · exact hG.new a h hma
                have r1 := hG.room a s
                have r2 := hG.room s a
                unfold pushP at r1 r2
                rw [eP_no (.inl ha'), eP_no (.inr ha')] at r1
                rw [eP_no (.inr ha'), eP_no (.inl ha')] at r2
                have b1 : 0 <= roomN c a s /\ roomN c a s <= 1000 := hb a s
                have b2 : 0 <= roomN c s a /\ roomN c s a <= 1000 := hb s a
                have e2 : ((updF q ⟨(a : Int), (s : Int)⟩ ((q ⟨(a : Int), (s : Int)⟩).getD 0 - 1)) ⟨(s : Int), (a : Int)⟩).getD 0 = roomN q s a := by
                  have := updG (mp := q) (a := a) (s := s) (z := (q ⟨(a : Int), (s : Int)⟩).getD 0 - 1) s a
                  rw [if_neg (fun h => has h.1.symm)] at this
                  exact this
                have e1 : (q ⟨(a : Int), (s : Int)⟩).getD 0 = roomN q a s := rfl
                refine M.o_t rfl (M.o_grd (gA2 (by rw [e1]; omega) (by rw [e1]; omega)) (M.o_grd (gA2 (by rw [e2]; omega) (by rw [e2]; omega)) (M.o_pure ⟨s :: l, ?_⟩)))
                refine ⟨⟨hr, hG.pa⟩, List.nodup_cons.2 ⟨ha', hG.once⟩, fun x hx hmx => ?_, fun x hx => ?_, hG.last, fun u v => ?_⟩
                · have hx2 : ¬ mt m2 (x : Int) := by
                    rcases List.mem_cons.1 hx with rfl | hx
                    · exact hns'
                    · exact hG.new x hx
                  exact hx2 (hup x ((mt_upd m a x).2 (.inr hmx)))
                · rcases List.mem_cons.1 hx with rfl | hx
                  · exact ha
                  · exact hG.rng x hx
                · rw [room_step q has u v, hG.room u v]
                  simp only [pushP, eP]
                  omega
        · rintro ⟨c, m2, s⟩ ⟨rfl, rfl, hup, hcl, hno, hdone⟩
          dsimp only at hup hcl hno hdone ⊢
          simp only [zam]
          refine M.o_f (by simp only [decide_eq_false_iff_not]; omega) (M.o_pure ⟨rfl, fun x hx => hup x ((mt_upd m a x).2 (.inr hx)), hup a ((mt_upd m a a).2 (.inl rfl)), hdone, fun x hx => ?_, hno⟩)
          rcases hcl x hx with h | h
          · rcases (mt_upd m a x).1 h with h | h
            · obtain rfl : x = a := by omega
              exact .inr hdone
            · exact .inl h
          · exact .inr h
        · rcases (mt_upd m a _).1 h with h | h
          · omega
          · exact hm h
      · rintro (⟨c', m'⟩ | ⟨c', m'⟩) h
        · obtain ⟨l, h⟩ := h
          exact M.o_pure (.inr ⟨rfl, l, h⟩)
        · obtain ⟨rfl, h⟩ := h
          exact M.o_pure (.inl ⟨rfl, rfl, hne, h⟩)
end Go.Proofs.Ytndobgodeicloaa
section
set_option maxRecDepth 100000
set_option maxHeartbeats 16000000
namespace Go.Nm
end Go.Nm
end
namespace Go.Nm
variable {ws : List Work} {rev : List Int} {t : Nat}
theorem ite_le1 (b : Bool) : (if b = true then (1 : Int) else 0) <= 1 := by split <;> omega
/-- Can a work be frozen? -/
def innB (rev : List Int) (t i : Int) : Bool := (i != t) && (!(rev.contains i))
theorem innB_iff {t i : Int} : innB rev t i = true ↔ i ≠ t /\ i ∉ rev := by
  unfold innB
  simp
/-- A gate through a work. -/
def gateP (rev : List Int) (t n u v : Nat) : Prop := u % 2 = 0 /\ v = u + 1 /\ u / 2 < n /\ innB rev t ((u / 2 : Nat) : Int) = true
/-- A gate from a work to one that is made of it. -/
def bigP (ws : List Work) (rev : List Int) (t n u v : Nat) : Prop := u % 2 = 1 /\ v % 2 = 0 /\ v / 2 < n /\ ((u / 2 : Nat) : Int) ∈ (ws.getD (v / 2) default).of /\ u / 2 ≠ t /\ (v / 2 = t ∨ innB rev t ((v / 2 : Nat) : Int) = true)
instance {n u v : Nat} : Decidable (gateP rev t n u v) := by unfold gateP; infer_instance
instance {n u v : Nat} : Decidable (bigP ws rev t n u v) := by unfold bigP; infer_instance
/-- The room at first. -/
def C0 (ws : List Work) (rev : List Int) (t n u v : Nat) : Int := if gateP rev t n u v then 1 else if bigP ws rev t n u v then 30 else 0
theorem C0_nn (n u v : Nat) : 0 <= C0 ws rev t n u v /\ C0 ws rev t n u v <= 30 := by unfold C0; split <;> (try split) <;> omega
theorem C0_zero (u v : Nat) : C0 ws rev t 0 u v = 0 := by
  unfold C0
  rw [if_neg (fun h => by have := h.2.2.1; omega), if_neg (fun h => by have := h.2.2.1; omega)]
theorem C0_gate {n u v : Nat} (h : gateP rev t n u v) : C0 ws rev t n u v = 1 := by unfold C0; rw [if_pos h]
theorem C0_big {n u v : Nat} (h : bigP ws rev t n u v) : C0 ws rev t n u v = 30 := by unfold C0; rw [if_neg (fun h' => by have := h.1; have := h'.1; omega), if_pos h]
theorem C0_no {n u v : Nat} (h : ¬ gateP rev t n u v) (h' : ¬ bigP ws rev t n u v) : C0 ws rev t n u v = 0 := by unfold C0; rw [if_neg h, if_neg h']
/-- A gate to one work. -/
def bigI (rev : List Int) (t i : Nat) (l : List Int) (u v : Nat) : Prop := u % 2 = 1 /\ v = 2 * i /\ ((u / 2 : Nat) : Int) ∈ l /\ u / 2 ≠ t /\ (i = t ∨ innB rev t (i : Int) = true)
instance {i u v : Nat} {l : List Int} : Decidable (bigI rev t i l u v) := by unfold bigI; infer_instance
theorem C0_next (i u v : Nat) : C0 ws rev t (i + 1) u v = if bigI rev t i (ws.getD i default).of u v then 30 else if u = 2 * i /\ v = 2 * i + 1 /\ innB rev t (i : Int) = true then 1 else C0 ws rev t i u v := by
  by_cases h1 : bigI rev t i (ws.getD i default).of u v
  · rw [if_pos h1]
    obtain ⟨a, rfl, c, d, e⟩ := h1
    exact C0_big ⟨a, by omega, by omega, by rw [show 2 * i / 2 = i from by omega]; exact c, d, by rw [show 2 * i / 2 = i from by omega]; exact e⟩
  · rw [if_neg h1]
    by_cases h2 : u = 2 * i /\ v = 2 * i + 1 /\ innB rev t (i : Int) = true
    · rw [if_pos h2]
      obtain ⟨rfl, rfl, e⟩ := h2
      exact C0_gate ⟨by omega, rfl, by omega, by rw [show 2 * i / 2 = i from by omega]; exact e⟩
    · rw [if_neg h2]
      by_cases h3 : gateP rev t i u v
      · rw [C0_gate h3]
        exact C0_gate ⟨h3.1, h3.2.1, by have := h3.2.2.1; omega, h3.2.2.2⟩
      · by_cases h4 : bigP ws rev t i u v
        · rw [C0_big h4]
          exact C0_big ⟨h4.1, h4.2.1, by have := h4.2.2.1; omega, h4.2.2.2⟩
        · rw [C0_no h3 h4]
          refine C0_no (fun h => ?_) (fun h => ?_)
          · by_cases e : u / 2 = i
            · exact h2 ⟨by have := h.1; omega, by have := h.1; have := h.2.1; omega, by rw [← e]; exact h.2.2.2⟩
            · exact h3 ⟨h.1, h.2.1, by have := h.2.2.1; omega, h.2.2.2⟩
          · by_cases e : v / 2 = i
            · exact h1 ⟨h.1, by have := h.2.1; omega, by rw [← e]; exact h.2.2.2.1, h.2.2.2.2.1, by rw [← e]; exact h.2.2.2.2.2⟩
            · exact h4 ⟨h.1, h.2.1, by have := h.2.2.1; omega, h.2.2.2⟩
/-- Where lines begin. -/
def srcB (rev : List Int) (v : Nat) : Bool := decide (v % 2 = 1) && rev.contains ((v / 2 : Nat) : Int)
theorem srcB_iff {v : Nat} : srcB rev v = true ↔ v % 2 = 1 /\ ((v / 2 : Nat) : Int) ∈ rev := by
  unfold srcB
  simp
/-- Lanes. -/
abbrev Lanes (ws : List Work) (rev : List Int) (t : Nat) (c : Nat -> Nat -> Int) : Prop := Flow (2 * ws.length) (2 * t) (srcB rev) (C0 ws rev t ws.length) c
abbrev vaL (ws : List Work) (rev : List Int) (t : Nat) (c : Nat -> Nat -> Int) : Int := flowV (2 * ws.length) (2 * t) (C0 ws rev t ws.length) c
/-- What cannot be left. -/
def ShutN (N : Nat) (c : Nat -> Nat -> Int) (S : Nat -> Bool) : Prop := ∀ u v, u < N -> v < N -> S u = true -> 0 < c u v -> S v = true
variable {c : Nat -> Nat -> Int}
theorem Lanes.bd (h : Lanes ws rev t c) (u v : Nat) : 0 <= c u v /\ c u v <= 1000 := by
  have h1 := h.nn u v
  have h2 := h.nn v u
  have h3 := h.skew u v
  have h4 := C0_nn (ws := ws) (rev := rev) (t := t) ws.length u v
  have h5 := C0_nn (ws := ws) (rev := rev) (t := t) ws.length v u
  omega
/-- What is asked of lanes: no work is made of a revised one directly. -/
structure LnHyp (ws : List Work) (rev : List Int) (t : Nat) : Prop where
  opn : openedE ws = 0
  tl : t < ws.length
  rng : ∀ r ∈ rev, 0 <= r /\ r < (ws.length : Int)
  nt : (t : Int) ∉ rev
  dir : ∀ r ∈ rev, r ∉ (ws.getD t default).of
/-- No more lines go than there are works that can be frozen. -/
theorem Lanes.most (H : LnHyp ws rev t) (h : Lanes ws rev t c) : vaL ws rev t c < ws.length := by
  have hl := right_len (opened_right H.opn)
  have key := h.le (S := fun u => if u % 2 = 0 then innB rev t ((u / 2 : Nat) : Int) else rev.contains ((u / 2 : Nat) : Int)) (by have := H.tl; omega)
    (by rw [if_pos (by omega), show 2 * t / 2 = t from by omega]; unfold innB; simp)
    (fun v _ hs => by
      have := srcB_iff.1 hs
      rw [if_neg (by omega), List.contains_iff_mem]
      exact this.2)
  refine Int.lt_of_le_of_lt key ?_
  rw [sumN_two]
  have step : ∀ i, i < ws.length -> (sumN (fun v => if (if (2 * i) % 2 = 0 then innB rev t ((2 * i / 2 : Nat) : Int) else rev.contains ((2 * i / 2 : Nat) : Int)) && !(if v % 2 = 0 then innB rev t ((v / 2 : Nat) : Int) else rev.contains ((v / 2 : Nat) : Int)) then C0 ws rev t ws.length (2 * i) v else 0) (2 * ws.length)
      + sumN (fun v => if (if (2 * i + 1) % 2 = 0 then innB rev t (((2 * i + 1) / 2 : Nat) : Int) else rev.contains (((2 * i + 1) / 2 : Nat) : Int)) && !(if v % 2 = 0 then innB rev t ((v / 2 : Nat) : Int) else rev.contains ((v / 2 : Nat) : Int)) then C0 ws rev t ws.length (2 * i + 1) v else 0) (2 * ws.length))
      <= if i = t then 0 else 1 := by
    intro i hi
    have e2 : sumN (fun v => if (if (2 * i + 1) % 2 = 0 then innB rev t (((2 * i + 1) / 2 : Nat) : Int) else rev.contains (((2 * i + 1) / 2 : Nat) : Int)) && !(if v % 2 = 0 then innB rev t ((v / 2 : Nat) : Int) else rev.contains ((v / 2 : Nat) : Int)) then C0 ws rev t ws.length (2 * i + 1) v else 0) (2 * ws.length) = 0 := by
      refine sumN_zero' fun v _ => ?_
      rw [if_neg (show ¬ (2 * i + 1) % 2 = 0 from by omega), show (2 * i + 1) / 2 = i from by omega]
      cases hr : rev.contains (i : Int) with
      | false => rfl
      | true =>
        rw [List.contains_iff_mem] at hr
        by_cases hb : bigP ws rev t ws.length (2 * i + 1) v
        · have h1 := hb.2.2.2.1
          rw [show (2 * i + 1) / 2 = i from by omega] at h1
          rcases hb.2.2.2.2.2 with e | e
          · rw [e] at h1
            exact absurd h1 (H.dir _ hr)
          · rw [if_pos hb.2.1, e]; rfl
        · rw [C0_no (fun h => by have := h.1; omega) hb]
          exact ite_self _
    rw [e2, Int.add_zero, sumN_one (k := 2 * i + 1) (fun v _ hne => ?_)]
    · rw [if_pos (show 2 * i + 1 < 2 * ws.length from by omega), if_pos (show (2 * i) % 2 = 0 from by omega), show 2 * i / 2 = i from by omega]
      by_cases e : i = t
      · subst e
        rw [if_pos rfl]
        have : innB rev (i : Int) (i : Int) = false := by unfold innB; simp
        rw [this]
        simp
      · rw [if_neg e]
        have := C0_nn (ws := ws) (rev := rev) (t := t) ws.length (2 * i) (2 * i + 1)
        by_cases hg : gateP rev t ws.length (2 * i) (2 * i + 1)
        · rw [C0_gate hg]
          exact ite_le1 _
        · rw [C0_no hg (fun h => by have := h.1; omega), ite_self]
          omega
    · rw [C0_no (fun h => hne h.2.1) (fun h => by have := h.1; omega)]
      exact ite_self _
  have h1 := sumN_le step
  have h2 : sumN (fun i => (1 : Int) - if i = t then 0 else 1) ws.length = 1 := by
    rw [sumN_one (k := t) (fun i _ hne => by rw [if_neg hne]; rfl), if_pos H.tl, if_pos rfl]
    rfl
  have h3 : sumN (fun _ => (1 : Int)) ws.length = ws.length := by
    have := sumN_count (fun _ => true) ws.length
    rw [List.filter_eq_self.2 (fun _ _ => rfl), List.length_range] at this
    simpa using this
  rw [sumN_sub, h3] at h2
  omega
/-- Lanes that are full. -/
structure FullL (ws : List Work) (rev : List Int) (t : Nat) (c : Nat -> Nat -> Int) : Prop where
  flow : Lanes ws rev t c
  shut : ∀ r ∈ rev, ∃ S, ShutN (2 * ws.length) c S /\ S (2 * t) = false /\ S (2 * r.toNat + 1) = true
end Go.Nm
namespace Go.Proofs.Ytndobgodeicloaa
open Go Go.Nm
variable {ws : List Work} {rev : List Int} {t : Nat}
theorem lanes_big (hR : rightE ws = 0) {i : Nat} (hi : i < ws.length) (ht : t < ws.length) (mp : Gate -> Option Int) :
    (M.iter (zaj ws rev (t : Int) i) (mp, 0)).Out (fun mp' => ∀ u v, roomN mp' u v = if bigI rev t i (ws.getD i default).of u v then 30 else roomN mp u v) := by
  have hl := right_len hR
  refine M.o_for (ws.getD i default).of.length (fun j st => st.2 = j /\ ∀ u v, roomN st.1 u v = if bigI rev t i ((ws.getD i default).of.take j) u v then 30 else roomN mp u v) ?_ ?_ (s := (mp, 0)) ⟨rfl, fun u v => by rw [if_neg (fun h => by simpa using h.2.2.1)]⟩
  · rintro j ⟨m, s⟩ hj ⟨rfl, hc⟩
    dsimp only at hj hc ⊢
    have hk := right_of hR hi _ (getD_memN (ws.getD i default).of (by omega : (s : Int) < _) 0)
    have htk := take_succ_getD (ws.getD i default).of hj 0
    simp only [zaj]
    generalize hke : (ws.getD i default).of.getD s 0 = k at *
    obtain ⟨kn, rfl⟩ := Int.eq_ofNat_of_zero_le hk.1
    have hop : (M.opt (((kn : Int) != (t : Int)) && !((i : Int) == (t : Int))) (zaf ws rev (t : Int) m (fun _ => none) (i : Int)) false).Ends ((((kn : Int) != (t : Int)) && !((i : Int) == (t : Int))) && innB rev t (i : Int)) := by
      refine M.i_opt (fun h => ?_) (fun h => ?_)
      · rw [h, Bool.true_and]; exact M.i_pure
      · rw [h]; rfl
    refine M.o_t (by simpa using hj) (M.o_grdD (by omega) (M.o_bindE hop (M.o_if (fun hb => ?_) (fun hb => ?_))))
    · simp only [Bool.and_eq_true, Bool.or_eq_true, bne_iff_ne, ne_eq, beq_iff_eq, Bool.not_eq_true', beq_eq_false_iff_ne] at hb
      refine M.o_grd (gA2 (by omega) (by omega)) (M.o_grd (gA2 (by omega) (by omega)) (M.o_grd (gA2 (by omega) (by omega)) (M.o_pure ⟨rfl, fun u v => ?_⟩)))
      dsimp only
      have hg : (⟨(2 * (kn : Int)) + 1, 2 * (i : Int)⟩ : Gate) = ⟨((2 * kn + 1 : Nat) : Int), ((2 * i : Nat) : Int)⟩ := by
        congr 1
      rw [hg, updG, hc, htk]
      by_cases e : u = 2 * kn + 1 /\ v = 2 * i
      · rw [if_pos e, if_pos]
        obtain ⟨rfl, rfl⟩ := e
        refine ⟨by omega, rfl, by rw [show (2 * kn + 1) / 2 = kn from by omega]; simp, by omega, ?_⟩
        rcases hb.2 with h | h
        · exact .inl (by omega)
        · exact .inr h.2
      · rw [if_neg e]
        have : bigI rev t i ((ws.getD i default).of.take s ++ [(kn : Int)]) u v ↔ bigI rev t i ((ws.getD i default).of.take s) u v := by
          constructor
          · rintro ⟨a, b, h, d⟩
            refine ⟨a, b, ?_, d⟩
            rcases List.mem_append.1 h with h | h
            · exact h
            · rw [List.mem_singleton] at h
              exact absurd ⟨by omega, b⟩ e
          · rintro ⟨a, b, h, d⟩
            exact ⟨a, b, List.mem_append_left _ h, d⟩
        simp only [this]
    · refine M.o_pure ⟨rfl, fun u v => ?_⟩
      dsimp only
      rw [hc, htk]
      have : bigI rev t i ((ws.getD i default).of.take s ++ [(kn : Int)]) u v ↔ bigI rev t i ((ws.getD i default).of.take s) u v := by
        constructor
        · rintro ⟨a, b, h, d⟩
          refine ⟨a, b, ?_, d⟩
          rcases List.mem_append.1 h with h | h
          · exact h
          · rw [List.mem_singleton] at h
            exfalso
            have hkt : kn ≠ t := by have := d.1; omega
            rw [show ((kn : Int) != (t : Int)) = true from by simpa using fun h => hkt (by omega)] at hb
            rcases d.2 with h3 | h3
            · subst h3; simp at hb
            · have hit := (innB_iff.1 h3).1
              rw [h3, show ((i : Int) == (t : Int)) = false from by simpa using hit] at hb
              cases hb
        · rintro ⟨a, b, h, d⟩
          exact ⟨a, b, List.mem_append_left _ h, d⟩
      simp only [this]
  · rintro ⟨m, s⟩ ⟨rfl, hc⟩
    dsimp only at hc ⊢
    simp only [zaj]
    rw [List.take_length] at hc
    exact M.o_f (by simp) (M.o_pure hc)
theorem lanes_start (hR : rightE ws = 0) (ht : t < ws.length) : (M.iter (zay ws rev (t : Int)) ((fun _ => none), 0)).Out (fun mp => ∀ u v, roomN mp u v = C0 ws rev t ws.length u v) := by
  have hl := right_len hR
  refine M.o_for ws.length (fun i st => st.2 = i /\ ∀ u v, roomN st.1 u v = C0 ws rev t i u v) ?_ ?_ (s := ((fun _ => none), 0)) ⟨rfl, fun u v => by rw [C0_zero]; rfl⟩
  · rintro i ⟨m, s⟩ hi ⟨rfl, hc⟩
    dsimp only at hi hc ⊢
    simp only [zay, zav]
    have hin : (zaf ws rev (t : Int) m (fun _ => none) (s : Int)).Ends (innB rev t (s : Int)) := M.i_pure
    refine M.o_t (by simpa using hi) (M.o_grdD (by omega) (M.o_bindE hin (M.o_if (fun hb => ?_) (fun hb => ?_))))
    · refine M.o_grd (gA2 (by omega) (by omega)) (M.o_grd (gA2 (by omega) (by omega)) (M.o_bind (lanes_big hR hi ht _) (fun m' hm => M.o_pure ⟨rfl, fun u v => ?_⟩)))
      dsimp only
      have hg : (⟨2 * (s : Int), (2 * (s : Int)) + 1⟩ : Gate) = ⟨((2 * s : Nat) : Int), ((2 * s + 1 : Nat) : Int)⟩ := by
        congr 1
      rw [hm, hg, updG, hc, C0_next, hb]
      simp only [and_true]
    · refine M.o_bind (show (M.iter (zaj ws rev (t : Int) s) (m, 0)).Out _ from lanes_big hR hi ht m) (fun m' hm => M.o_pure ⟨rfl, fun u v => ?_⟩)
      dsimp only
      rw [hm, hc, C0_next, hb]
      simp only [Bool.false_eq_true, and_false, if_false]
  · rintro ⟨m, s⟩ ⟨rfl, hc⟩
    dsimp only at hc ⊢
    simp only [zay, zav]
    exact M.o_f (by simp) (M.o_pure hc)
theorem mt_none (x : Int) : ¬ mt (fun _ => none) x := by unfold Nm.mt; simp
/-- Lines go from one work until no more can. -/
theorem lanes_more (H : LnHyp ws rev t) {s : Nat} (hs : s < rev.length) {mp : Gate -> Option Int} (m0 : Int -> Option Bool) (K : (Nat -> Nat -> Int) -> Prop) (hF : Lanes ws rev t (roomN mp)) (hK : K (roomN mp))
    (hstep : ∀ c a l, Lanes ws rev t c -> K c -> Pa c (a :: l) -> (∀ x ∈ a :: l, x < 2 * ws.length) -> lst a l = 2 * t -> K (pushP c (a :: l))) :
    (M.iter (zaF ws rev (t : Int) s) (mp, m0)).Out (fun r => Lanes ws rev t (roomN r.1) /\ K (roomN r.1) /\ ∃ S, ShutN (2 * ws.length) (roomN r.1) S /\ S (2 * t) = false /\ S (2 * (rev.getD s 0).toNat + 1) = true) := by
  have hl := right_len (opened_right H.opn)
  have hrm := getD_memN rev (by omega : (s : Int) < _) 0
  have hr := H.rng _ hrm
  have ht := H.tl
  refine M.o_iter (fun (m : Nat) (st : (Gate -> Option Int) × (Int -> Option Bool)) => Lanes ws rev t (roomN st.1) /\ K (roomN st.1) /\ m = (ws.length - vaL ws rev t (roomN st.1)).toNat) ?_ _ (mp, m0) ⟨hF, hK, rfl⟩
  rintro m ⟨c, m1⟩ ⟨hF, hK, rfl⟩
  dsimp only at hF hK ⊢
  simp only [zaF]
  generalize rev.getD s 0 = q at *
  obtain ⟨rn, rfl⟩ := Int.eq_ofNat_of_zero_le hr.1
  have he : (2 * ((rn : Nat) : Int)) + 1 = ((2 * rn + 1 : Nat) : Int) := by omega
  rw [he]
  refine M.o_grd (gA2 (by omega) (by omega)) (M.o_grd (gA2 (by omega) (by omega)) (M.o_bind (goes_out ht (by omega) ((unmet (2 * ws.length) (updF (fun _ => none) ((2 * rn + 1 : Nat) : Int) true)).toNat + 1) (2 * rn + 1) c (fun _ => none) hF.bd (by omega) (mt_none _) (by omega)) ?_))
  rintro ⟨b, c', m'⟩ (⟨rfl, rfl, hne, hG⟩ | ⟨rfl, l, hG⟩)
  · dsimp only at hG ⊢
    refine M.o_t rfl (M.o_pure ⟨hF, hK, fun x => (m' (x : Int)).getD false, fun u v hu hv hu2 hc => ?_, ?_, ?_⟩)
    · rcases hG.cl u hu2 with h | h
      · exact absurd h (mt_none _)
      · exact h v hv hc
    · have := hG.no
      unfold Nm.mt at this
      simpa using this
    · rw [Int.toNat_natCast]
      exact hG.at_
  · dsimp only at hG ⊢
    have hsrc : srcB rev (2 * rn + 1) = true := srcB_iff.2 ⟨by omega, by rw [show (2 * rn + 1) / 2 = rn from by omega]; exact hrm⟩
    obtain ⟨h1, h2⟩ := Flow.push hF hG.pa hG.once hG.rng hG.last hsrc (by omega)
    have hroom : roomN c' = pushP (roomN c) ((2 * rn + 1) :: l) := funext fun u => funext fun v => hG.room u v
    have hm := Lanes.most H h1
    refine M.o_f rfl (M.o_pure ⟨(ws.length - vaL ws rev t (roomN c')).toNat, ?_, ?_, ?_, rfl⟩)
    · rw [hroom]
      unfold vaL at hm ⊢
      omega
    · dsimp only; rw [hroom]; exact h1
    · dsimp only; rw [hroom]; exact hstep _ _ _ hF hK hG.pa hG.rng hG.last
theorem lanes_out (H : LnHyp ws rev t) : (zaN ws rev (t : Int)).Out (fun r => r.1 = (t : Int) /\ FullL ws rev t (roomN r.2.1)) := by
  unfold zaN
  refine M.o_bind (lanes_start (opened_right H.opn) H.tl) (fun mp hmp => ?_)
  have e0 : roomN mp = C0 ws rev t ws.length := funext fun u => funext fun v => hmp u v
  refine M.o_bind (P := fun r => FullL ws rev t (roomN r.1)) ?_ (fun r hr => M.o_pure ⟨rfl, hr⟩)
  refine M.o_for rev.length (fun i st => st.2.2 = i /\ Lanes ws rev t (roomN st.1) /\ ∀ j, j < i -> ∃ S, ShutN (2 * ws.length) (roomN st.1) S /\ S (2 * t) = false /\ S (2 * (rev.getD j 0).toNat + 1) = true) ?_ ?_ (s := (mp, (fun _ => none), 0)) ⟨rfl, by dsimp only; rw [e0]; exact Flow.start (fun u v => (C0_nn _ u v).1), fun j hj => by omega⟩
  · rintro i ⟨c, m1, s⟩ hi ⟨rfl, hF, hS⟩
    dsimp only at hi hF hS ⊢
    simp only [zaI]
    refine M.o_t (by simpa using hi) (M.o_grdD (by omega) (M.o_bind (lanes_more H hi m1 (fun c => ∀ j, j < s -> ∃ S, ShutN (2 * ws.length) c S /\ S (2 * t) = false /\ S (2 * (rev.getD j 0).toNat + 1) = true) hF hS ?_) ?_))
    · intro c a l _ hK hp hr hl j hj
      obtain ⟨S, h1, h2, h3⟩ := hK j hj
      exact ⟨S, Pa.closed h1 h2 hp hr hl, h2, h3⟩
    · rintro ⟨c', m'⟩ ⟨h1, h2, h3⟩
      refine M.o_pure ⟨rfl, h1, fun j hj => ?_⟩
      by_cases e : j = s
      · subst e; exact h3
      · exact h2 j (by omega)
  · rintro ⟨c, m1, s⟩ ⟨rfl, hF, hS⟩
    dsimp only at hF hS ⊢
    simp only [zaI]
    refine M.o_f (by simp) (M.o_pure ⟨hF, fun r hr => ?_⟩)
    obtain ⟨j, hj, rfl⟩ := mem_getD hr 0
    exact hS j hj
end Go.Proofs.Ytndobgodeicloaa
namespace Go.Proofs.Ytndobgodeicloaa
open Go Go.Nm
variable {ws : List Work} {rev f : List Int}
/-! ### Fences -/
theorem containsFunc_ends {s : List Int} {f : Int -> M Bool} {p : Int -> Bool} (hf : ∀ x ∈ s, (f x).Ends (p x)) : (zaQ s f).Ends (s.any p) := by
  have key : ∃ r, (zaJ s f).Ends r /\ decide (0 <= r) = s.any p := by
    have h := M.i_loopQ (body := zan s f) (fun r => match r with | .inl k => 0 <= k /\ s.any p = true | .inr _ => s.any p = false)
      (fun m i => m = s.length - i /\ i <= s.length /\ (s.take i).any p = false) (by
        rintro m i ⟨rfl, hi, ha⟩
        simp only [zan]
        by_cases e : i < s.length
        · have hp := hf _ (getD_memN s (by omega : (i : Int) < _) 0)
          cases hc : p (s.getD i 0) with
          | true =>
            rw [hc] at hp
            exact .inr ⟨.inl (i : Int), M.i_t (by simpa using e) (M.grdD (by omega) (M.i_bind hp M.i_pure)), by omega, List.any_eq_true.2 ⟨_, getD_memN s (by omega : (i : Int) < _) 0, hc⟩⟩
          | false =>
            rw [hc] at hp
            exact .inl ⟨i + 1, s.length - (i + 1), by omega, M.i_t (by simpa using e) (M.grdD (by omega) (M.i_bind hp M.i_pure)), rfl, e, by rw [any_take_succ p s e 0, ha, hc]; rfl⟩
        · obtain rfl : i = s.length := by omega
          rw [List.take_length] at ha
          exact .inr ⟨.inr (), M.i_f (by simp) M.i_pure, ha⟩) _ 0 ⟨rfl, Nat.zero_le _, by simp⟩
    obtain ⟨r, h1, h2⟩ := h
    cases r with
    | inl k => exact ⟨k, M.i_bind h1 M.i_pure, by rw [h2.2]; simpa using h2.1⟩
    | inr u => exact ⟨-1, M.i_bind h1 M.i_pure, by dsimp only at h2; rw [h2]; rfl⟩
  obtain ⟨r, h1, h2⟩ := key
  rw [← h2]
  exact M.i_bind h1 M.i_pure
end Go.Proofs.Ytndobgodeicloaa
namespace Go.Nm
variable {ws : List Work}
/-- Each of some works is made of the next one. -/
def Pth (ws : List Work) (l : List Int) : Prop := ∀ j, j + 1 < l.length -> l.getD (j + 1) 0 ∈ (ws.getD (l.getD j 0).toNat default).of
/-- A circle. -/
structure Circ (ws : List Work) (l : List Int) : Prop where
  pos : 0 < l.length
  rng : ∀ x ∈ l, 0 <= x /\ x < (ws.length : Int)
  once : l.Nodup
  pth : Pth ws l
  shut : l.getD 0 0 ∈ (ws.getD (l.getD (l.length - 1) 0).toNat default).of
/-- What is met on the way. -/
structure MetOk (ws : List Work) (met : List Int) (i : Int) : Prop where
  rng : ∀ x ∈ met, 0 <= x /\ x < (ws.length : Int)
  once : met.Nodup
  pth : Pth ws met
  last : 0 < met.length -> i ∈ (ws.getD (met.getD (met.length - 1) 0).toNat default).of
  i0 : 0 <= i
  i1 : i < (ws.length : Int)
  iO : i ∉ orderP ws
theorem clL {l r : List Int} {j : Nat} (h : j < l.length) : (l ++ r).getD j 0 = l.getD j 0 := by
  rw [List.getD_eq_getElem?_getD, List.getElem?_append_left h, ← List.getD_eq_getElem?_getD]
theorem clR {l : List Int} {x : Int} : (l ++ [x]).getD l.length 0 = x := by
  rw [List.getD_eq_getElem?_getD, List.getElem?_append_right (Nat.le_refl _)]
  simp
theorem MetOk.next {met : List Int} {i y : Int} (h : MetOk ws met i) (hm : i ∉ met) (hy : y ∈ (ws.getD i.toNat default).of) (h0 : 0 <= y) (h1 : y < (ws.length : Int)) (hO : y ∉ orderP ws) : MetOk ws (met ++ [i]) y := by
  refine ⟨fun x hx => ?_, ?_, fun j hj => ?_, fun _ => ?_, h0, h1, hO⟩
  · rcases List.mem_append.1 hx with hx | hx
    · exact h.rng x hx
    · rw [List.mem_singleton.1 hx]; exact ⟨h.i0, h.i1⟩
  · rw [List.nodup_append]
    exact ⟨h.once, by simp, fun a ha b hb e => hm (by rw [← List.mem_singleton.1 hb, ← e]; exact ha)⟩
  · simp only [List.length_append, List.length_cons, List.length_nil] at hj
    rw [clL (by omega : j < met.length)]
    by_cases e : j + 1 < met.length
    · rw [clL e]
      exact h.pth j e
    · have e2 : j + 1 = met.length := by omega
      rw [e2, clR, show j = met.length - 1 from by omega]
      exact h.last (by omega)
  · rw [show (met ++ [i]).length - 1 = met.length from by simp, clR]
    exact hy
theorem MetOk.lt {met : List Int} {i : Int} (h : MetOk ws met i) (hm : i ∉ met) : met.length < ws.length := by
  have := nodup_bound ws.length (i :: met) (List.nodup_cons.2 ⟨hm, h.once⟩) (fun x hx => by
    rcases List.mem_cons.1 hx with rfl | hx
    · exact ⟨h.i0, h.i1⟩
    · exact h.rng x hx)
  simp only [List.length_cons] at this
  omega
end Go.Nm
namespace Go.Proofs.Ytndobgodeicloaa
open Go Go.Nm
variable {ws : List Work}
theorem indexFunc_out {s : List Int} {f : Int -> M Bool} {p : Int -> Bool} (hf : ∀ x ∈ s, (f x).Ends (p x)) (hp : s.any p = true) :
    (zaJ s f).Out (fun r => 0 <= r /\ r < (s.length : Int) /\ p (s.getD r.toNat 0) = true) := by
  have h := M.i_loopQ (body := zan s f) (fun r => match r with | .inl k => 0 <= k /\ k < (s.length : Int) /\ p (s.getD k.toNat 0) = true | .inr _ => s.any p = false)
    (fun m i => m = s.length - i /\ i <= s.length /\ (s.take i).any p = false) (by
      rintro m i ⟨rfl, hi, ha⟩
      simp only [zan]
      by_cases e : i < s.length
      · have hp := hf _ (getD_memN s (by omega : (i : Int) < _) 0)
        cases hc : p (s.getD i 0) with
        | true =>
          rw [hc] at hp
          exact .inr ⟨.inl (i : Int), M.i_t (by simpa using e) (M.grdD (by omega) (M.i_bind hp M.i_pure)), by omega, by omega, by rw [Int.toNat_natCast]; exact hc⟩
        | false =>
          rw [hc] at hp
          exact .inl ⟨i + 1, s.length - (i + 1), by omega, M.i_t (by simpa using e) (M.grdD (by omega) (M.i_bind hp M.i_pure)), rfl, e, by rw [any_take_succ p s e 0, ha, hc]; rfl⟩
      · obtain rfl : i = s.length := by omega
        rw [List.take_length] at ha
        exact .inr ⟨.inr (), M.i_f (by simp) M.i_pure, ha⟩) _ 0 ⟨rfl, Nat.zero_le _, by simp⟩
  obtain ⟨r, h1, h2⟩ := h
  cases r with
  | inl k => exact ⟨k, M.i_bind h1 M.i_pure, h2⟩
  | inr u => dsimp only at h2; rw [hp] at h2; cases h2
end Go.Proofs.Ytndobgodeicloaa
namespace Go.Nm
variable {ws : List Work} {rev : List Int} {t : Nat} {c : Nat -> Nat -> Int}
/-- What becomes stale, if some works are frozen. -/
inductive Rch (ws : List Work) (rev F : List Int) : Nat -> Prop
  | base {r : Int} (h : r ∈ rev) : Rch ws rev F r.toNat
  | step {k i : Nat} (h : Rch ws rev F k) (hi : i < ws.length) (hm : (k : Int) ∈ (ws.getD i default).of) (hf : (i : Int) ∉ F) : Rch ws rev F i
/-! ### What Freeze returns -/
def frzB (rev : List Int) (t : Nat) (S : Nat -> Bool) (i : Nat) : Bool := (innB rev (t : Int) (i : Int) && S (2 * i)) && !(S (2 * i + 1))
def frzL (rev : List Int) (t : Nat) (S : Nat -> Bool) (n : Nat) : List Int := ((List.range n).filter (frzB rev t S)).map fun i : Nat => (i : Int)
theorem frzL_next (S : Nat -> Bool) (n : Nat) : frzL rev t S (n + 1) = if frzB rev t S n then frzL rev t S n ++ [(n : Int)] else frzL rev t S n := by
  unfold frzL
  rw [List.range_succ, List.filter_append]
  split
  · rename_i h; simp only [List.filter_cons, h, if_true, List.filter_nil, List.map_append, List.map_cons, List.map_nil]
  · rename_i h; simp only [List.filter_cons, h, List.filter_nil, Bool.false_eq_true, if_false, List.append_nil]
theorem frzL_len (S : Nat -> Bool) (n : Nat) : (frzL rev t S n).length <= n := by
  unfold frzL
  rw [List.length_map]
  exact Nat.le_trans (List.length_filter_le _ _) (by simp)
theorem frzL_mem {S : Nat -> Bool} {n : Nat} {x : Int} : x ∈ frzL rev t S n ↔ ∃ i : Nat, i < n /\ frzB rev t S i = true /\ x = (i : Int) := by
  unfold frzL
  simp only [List.mem_map, List.mem_filter, List.mem_range]
  constructor
  · rintro ⟨i, ⟨h1, h2⟩, rfl⟩; exact ⟨i, h1, h2, rfl⟩
  · rintro ⟨i, h1, h2, rfl⟩; exact ⟨i, ⟨h1, h2⟩, rfl⟩
/-- The set that the last search leaves. -/
structure Cut (ws : List Work) (rev : List Int) (t : Nat) (c : Nat -> Nat -> Int) (S : Nat -> Bool) : Prop where
  shut : ShutN (2 * ws.length) c S
  no : S (2 * t) = false
  src : ∀ r ∈ rev, S (2 * r.toNat + 1) = true
/-- No great gate is passed, and as many works are frozen as lines go. -/
theorem cut_count (H : LnHyp ws rev t) (h : Lanes ws rev t c) {S : Nat -> Bool} (hS : Cut ws rev t c S) :
    (∀ k i, k < ws.length -> S (2 * k + 1) = true -> bigP ws rev t ws.length (2 * k + 1) (2 * i) -> S (2 * i) = true) /\ vaL ws rev t c = ((frzL rev t S ws.length).length : Int) := by
  have hl := right_len (opened_right H.opn)
  have hm := Lanes.most H h
  have key := h.full (S := S) (by have := H.tl; omega) hS.no (fun v _ hs => by
    have := srcB_iff.1 hs
    have h2 := hS.src _ this.2
    rw [Int.toNat_natCast] at h2
    rwa [show 2 * (v / 2) + 1 = v from by omega] at h2) (fun u v hu hv h1 h2 => by
      have hn := h.nn u v
      by_cases e : 0 < c u v
      · rw [hS.shut u v hu hv h1 e] at h2; cases h2
      · omega)
  rw [sumN_two, sumN_add] at key
  have hA : ∀ i, i < ws.length -> sumN (fun v => if S (2 * i) && !S v then C0 ws rev t ws.length (2 * i) v else 0) (2 * ws.length) = if frzB rev t S i then 1 else 0 := by
    intro i hi
    rw [sumN_one (k := 2 * i + 1) (fun v _ hne => ?_), if_pos (show 2 * i + 1 < 2 * ws.length from by omega)]
    · unfold frzB
      by_cases hg : gateP rev t ws.length (2 * i) (2 * i + 1)
      · have h3 := hg.2.2.2
        rw [show 2 * i / 2 = i from by omega] at h3
        rw [C0_gate hg, h3]
        rfl
      · have h3 : innB rev (t : Int) (i : Int) = false := by
          cases e : innB rev (t : Int) (i : Int) with
          | false => rfl
          | true => exact absurd ⟨by omega, rfl, by omega, by rw [show 2 * i / 2 = i from by omega]; exact e⟩ hg
        rw [C0_no hg (fun h => by have := h.1; omega), h3, ite_self]
        rfl
    · rw [C0_no (fun h => hne h.2.1) (fun h => by have := h.1; omega)]
      exact ite_self _
  rw [sumN_congr hA, sumN_count] at key
  have hB0 : ∀ i v, 0 <= (if S (2 * i + 1) && !S v then C0 ws rev t ws.length (2 * i + 1) v else 0) := fun i v => by
    have := (C0_nn (ws := ws) (rev := rev) (t := t) ws.length (2 * i + 1) v).1
    split <;> omega
  have hlen : ((frzL rev t S ws.length).length : Int) = (((List.range ws.length).filter fun i => frzB rev t S i).length : Int) := by unfold frzL; rw [List.length_map]
  have hBig : ∀ k i, k < ws.length -> S (2 * k + 1) = true -> bigP ws rev t ws.length (2 * k + 1) (2 * i) -> S (2 * i) = true := by
    intro k i hk h1 h2
    cases h3 : S (2 * i) with
    | true => rfl
    | false =>
      exfalso
      have hi : i < ws.length := by have := h2.2.2.1; omega
      have e1 := sumN_ge (f := fun v => if S (2 * k + 1) && !S v then C0 ws rev t ws.length (2 * k + 1) v else 0) (n := 2 * ws.length) (fun v _ => hB0 k v) (2 * i) (by omega)
      have e2 := sumN_ge (f := fun k => sumN (fun v => if S (2 * k + 1) && !S v then C0 ws rev t ws.length (2 * k + 1) v else 0) (2 * ws.length)) (n := ws.length) (fun k _ => sumN_nn fun v _ => hB0 k v) k hk
      simp only [h1, h3, C0_big h2, Bool.not_false, Bool.and_self, if_true] at e1 e2
      have : flowV (2 * ws.length) (2 * t) (C0 ws rev t ws.length) c < ws.length := hm
      omega
  refine ⟨hBig, ?_⟩
  have hz : sumN (fun i => sumN (fun v => if S (2 * i + 1) && !S v then C0 ws rev t ws.length (2 * i + 1) v else 0) (2 * ws.length)) ws.length = 0 := by
    refine sumN_zero' fun k hk => sumN_zero' fun v hv => ?_
    cases h1 : S (2 * k + 1) with
    | false => rfl
    | true =>
      cases h2 : S v with
      | true => rfl
      | false =>
        rw [C0_no (fun h => by have := h.1; omega) (fun h => ?_)]
        · rfl
        · have hv2 : v = 2 * (v / 2) := by have := h.2.1; omega
          rw [hv2] at h h2
          rw [hBig k (v / 2) hk h1 h] at h2
          cases h2
  rw [hz, Int.add_zero] at key
  rw [hlen]
  exact key
/-- Works that keep a work. -/
structure Froz (ws : List Work) (rev : List Int) (t : Nat) (l : List Int) : Prop where
  rng : ∀ x ∈ l, 0 <= x /\ x < (ws.length : Int) /\ x ≠ (t : Int) /\ x ∉ rev
  asc : ∀ j, 1 <= j -> j < l.length -> l.getD (j - 1) 0 < l.getD j 0
  keep : ¬ Rch ws rev l t
theorem frzL_pair (S : Nat -> Bool) (n : Nat) : (frzL rev t S n).Pairwise (· < ·) := by
  unfold frzL
  rw [List.pairwise_map]
  have : (List.range n).Pairwise (· < ·) := List.pairwise_lt_range
  exact (this.sublist (List.filter_sublist)).imp fun h => by omega
theorem pair_asc {l : List Int} (h : l.Pairwise (· < ·)) : ∀ j, 1 <= j -> j < l.length -> l.getD (j - 1) 0 < l.getD j 0 := by
  intro j h1 h2
  have := List.pairwise_iff_getElem.1 h (j - 1) j (by omega) h2 (by omega)
  rwa [getD_el l (by omega) 0, getD_el l h2 0]
theorem cut_froz (H : LnHyp ws rev t) (h : Lanes ws rev t c) {S : Nat -> Bool} (hS : Cut ws rev t c S) : Froz ws rev t (frzL rev t S ws.length) := by
  have hR := opened_right H.opn
  obtain ⟨hBig, _⟩ := cut_count H h hS
  refine ⟨fun x hx => ?_, pair_asc (frzL_pair S ws.length), fun hr => ?_⟩
  · obtain ⟨i, hi, hb, rfl⟩ := frzL_mem.1 hx
    unfold frzB at hb
    simp only [Bool.and_eq_true] at hb
    have := innB_iff.1 hb.1.1
    exact ⟨by omega, by omega, this.1, this.2⟩
  · have key : ∀ k, Rch ws rev (frzL rev t S ws.length) k -> k ≠ t /\ k < ws.length /\ S (2 * k + 1) = true := by
      intro k hk
      induction hk with
      | base hr =>
        have hr2 := H.rng _ hr
        refine ⟨fun e => H.nt ?_, by omega, hS.src _ hr⟩
        rw [← e, Int.toNat_of_nonneg hr2.1]
        exact hr
      | @step k i _ hi hm hf ih =>
        obtain ⟨h1, h2, h3⟩ := ih
        by_cases hit : i = t
        · have hb : bigP ws rev t ws.length (2 * k + 1) (2 * i) := ⟨by omega, by omega, by omega, by rw [show (2 * k + 1) / 2 = k from by omega, show 2 * i / 2 = i from by omega]; exact hm, by omega, .inl (by omega)⟩
          have := hBig k i h2 h3 hb
          rw [hit, hS.no] at this
          cases this
        · refine ⟨hit, hi, ?_⟩
          by_cases hir : (i : Int) ∈ rev
          · have := hS.src _ hir
            rwa [Int.toNat_natCast] at this
          · have hin : innB rev (t : Int) (i : Int) = true := innB_iff.2 ⟨by omega, hir⟩
            have hb : bigP ws rev t ws.length (2 * k + 1) (2 * i) := ⟨by omega, by omega, by omega, by rw [show (2 * k + 1) / 2 = k from by omega, show 2 * i / 2 = i from by omega]; exact hm, by omega, .inr (by rw [show 2 * i / 2 = i from by omega]; exact hin)⟩
            have h4 := hBig k i h2 h3 hb
            cases h5 : S (2 * i + 1) with
            | true => rfl
            | false =>
              refine absurd (frzL_mem.2 ⟨i, hi, ?_, rfl⟩) hf
              unfold frzB
              rw [hin, h4, h5]
              rfl
    exact (key t hr).1 rfl
end Go.Nm
namespace Go.Proofs.Ytndobgodeicloaa
open Go Go.Nm
variable {ws : List Work} {rev : List Int} {t : Nat}
theorem freeze_last (H : LnHyp ws rev t) {mp : Gate -> Option Int} (hF : FullL ws rev t (roomN mp)) :
    (M.iter (zap ws rev (t : Int)) (mp, (fun _ => none), 0)).Out (fun r => r.1 = mp /\ Cut ws rev t (roomN mp) (fun x => (r.2 (x : Int)).getD false)) := by
  have hl := right_len (opened_right H.opn)
  have ht := H.tl
  refine M.o_for rev.length (fun i st => st.2.2 = i /\ st.1 = mp /\ ShutN (2 * ws.length) (roomN mp) (fun x => (st.2.1 (x : Int)).getD false) /\ ¬ mt st.2.1 ((2 * t : Nat) : Int) /\ ∀ j, j < i -> mt st.2.1 ((2 * (rev.getD j 0).toNat + 1 : Nat) : Int)) ?_ ?_ (s := (mp, (fun _ => none), 0)) ⟨rfl, rfl, fun u v _ _ h => by simp at h, mt_none _, fun j hj => by omega⟩
  · rintro i ⟨c, m, s⟩ hi ⟨rfl, rfl, hsh, hno, hdone⟩
    dsimp only at hi hsh hno hdone ⊢
    have hrm := getD_memN rev (by omega : (s : Int) < _) 0
    have hr := H.rng _ hrm
    simp only [zap]
    generalize hq : rev.getD s 0 = q at *
    obtain ⟨rn, rfl⟩ := Int.eq_ofNat_of_zero_le hr.1
    have he : (2 * ((rn : Nat) : Int)) + 1 = ((2 * rn + 1 : Nat) : Int) := by omega
    rw [he]
    refine M.o_t (by simpa using hi) (M.o_grdD (by omega) (M.o_grd (gA2 (by omega) (by omega)) (M.o_grd (gA2 (by omega) (by omega)) (M.o_bind (goes_out ht (by omega) ((unmet (2 * ws.length) (updF m ((2 * rn + 1 : Nat) : Int) true)).toNat + 1) (2 * rn + 1) c m hF.flow.bd (by omega) hno (by omega)) ?_))))
    rintro ⟨b, c', m'⟩ (⟨rfl, rfl, hne, hG⟩ | ⟨rfl, l, hG⟩)
    · dsimp only at hG ⊢
      refine M.o_pure ⟨rfl, rfl, fun u v hu hv h1 h2 => ?_, hG.no, fun j hj => ?_⟩
      · rcases hG.cl u h1 with h | h
        · exact hG.up v (hsh u v hu hv h h2)
        · exact h v hv h2
      · by_cases e : j = s
        · subst e
          rw [hq, Int.toNat_natCast]
          exact hG.at_
        · exact hG.up _ (hdone j (by omega))
    · exfalso
      obtain ⟨S, h1, h2, h3⟩ := hF.shut _ hrm
      rw [Int.toNat_natCast] at h3
      rw [Pa.out h1 h2 l (2 * rn + 1) hG.pa hG.rng hG.last _ (by simp)] at h3
      cases h3
  · rintro ⟨c, m, s⟩ ⟨rfl, rfl, hsh, hno, hdone⟩
    dsimp only at hsh hno hdone ⊢
    simp only [zap]
    refine M.o_f (by simp) (M.o_pure ⟨rfl, hsh, ?_, fun r hr => ?_⟩)
    · unfold Nm.mt at hno
      simpa using hno
    · obtain ⟨j, hj, rfl⟩ := mem_getD hr 0
      exact hdone j hj
theorem freeze_list (hn : ws.length <= 1000) (mp : Gate -> Option Int) (m : Int -> Option Bool) :
    (M.iter (zaq ws rev (t : Int) mp m) (0, [])).Ends (frzL rev t (fun x => (m (x : Int)).getD false) ws.length, frzL rev t (fun x => (m (x : Int)).getD false) ws.length) := by
  refine M.i_for (fun i => (i, frzL rev t (fun x => (m (x : Int)).getD false) i)) ws.length (fun i hi => ?_) ?_
  · have hin : (zaf ws rev (t : Int) mp m (i : Int)).Ends (innB rev (t : Int) (i : Int)) := M.i_pure
    have hll := frzL_len (rev := rev) (t := t) (fun x => (m (x : Int)).getD false) i
    have hb : ((innB rev (t : Int) (i : Int) && ((m (2 * (i : Int))).getD false)) && (!((m ((2 * (i : Int)) + 1 : Int)).getD false))) = frzB rev t (fun x => (m (x : Int)).getD false) i := by
      unfold frzB
      dsimp only
      rw [show ((2 * i : Nat) : Int) = 2 * (i : Int) from by omega, show ((2 * i + 1 : Nat) : Int) = 2 * (i : Int) + 1 from by omega]
    simp only [zaq]
    rw [frzL_next]
    refine M.i_t (by simpa using hi) (M.i_bind hin (M.i_grd (gOr2 (by omega) (by omega)) (M.i_grd (gOr2 (by omega) (by omega)) (M.i_grd (gOr2 (by omega) (by omega)) ?_))))
    rw [hb]
    cases frzB rev t (fun x => (m (x : Int)).getD false) i with
    | true => exact M.i_t rfl (M.grdD (by simp only [List.length_cons, List.length_nil]; omega) M.i_pure)
    | false => exact M.i_f rfl M.i_pure
  · simp only [zaq]
    exact M.i_f (by simp) M.i_pure
end Go.Proofs.Ytndobgodeicloaa
namespace Go.Nm
variable {ws : List Work} {rev : List Int} {t : Nat} {c : Nat -> Nat -> Int}
/-- A line went from one work to another one. -/
def nx (c : Nat -> Nat -> Int) (i k : Nat) : Prop := 0 < c (2 * k) (2 * i + 1) /\ k ≠ i
theorem C0_even {n i k : Nat} (h : k ≠ i) : C0 ws rev t n (2 * k) (2 * i + 1) = 0 := C0_no (fun h' => h (by have := h'.2.1; omega)) (fun h' => by have := h'.1; omega)
theorem Lanes.back (h : Lanes ws rev t c) {i k : Nat} (hn : k ≠ i) : C0 ws rev t ws.length (2 * i + 1) (2 * k) - c (2 * i + 1) (2 * k) = c (2 * k) (2 * i + 1) := by
  have := h.skew (2 * i + 1) (2 * k)
  rw [C0_even (ws := ws) (rev := rev) (t := t) hn] at this
  omega
theorem nx_big (h : Lanes ws rev t c) {i k : Nat} (hx : nx c i k) : (i : Int) ∈ (ws.getD k default).of /\ k < ws.length /\ i ≠ t /\ (k = t ∨ innB rev (t : Int) (k : Int) = true) := by
  have h1 := Lanes.back h hx.2
  have h2 := h.nn (2 * i + 1) (2 * k)
  have h3 := hx.1
  by_cases hb : bigP ws rev t ws.length (2 * i + 1) (2 * k)
  · have a := hb.2.2
    rw [show (2 * i + 1) / 2 = i from by omega, show 2 * k / 2 = k from by omega] at a
    exact ⟨a.2.1, a.1, a.2.2.1, a.2.2.2⟩
  · rw [C0_no (fun h => by have := h.1; omega) hb] at h1
    omega
theorem flow_eq0 (h : Lanes ws rev t c) {u v : Nat} (hp : u % 2 = v % 2) : C0 ws rev t ws.length u v - c u v = 0 := by
  have h1 : ∀ u v, u % 2 = v % 2 -> C0 ws rev t ws.length u v = 0 := fun u v hp => C0_no (fun h => by have := h.2.1; omega) (fun h => by have := h.1; have := h.2.1; omega)
  have h2 := h.skew u v
  have h3 := h.nn u v
  have h4 := h.nn v u
  rw [h1 u v hp, h1 v u hp.symm] at h2
  rw [h1 u v hp]
  omega
theorem C0_own {i : Nat} (hi : i < ws.length) (hin : innB rev (t : Int) (i : Int) = true) : C0 ws rev t ws.length (2 * i) (2 * i + 1) = 1 := C0_gate ⟨by omega, rfl, by omega, by rw [show 2 * i / 2 = i from by omega]; exact hin⟩
theorem inn_ne {i : Nat} (hin : innB rev (t : Int) (i : Int) = true) : i ≠ t /\ (i : Int) ∉ rev := by
  have := innB_iff.1 hin
  exact ⟨by omega, this.2⟩
/-- What comes to a work. -/
theorem sum_in (h : Lanes ws rev t c) {i : Nat} (hi : i < ws.length) (hin : innB rev (t : Int) (i : Int) = true) : sumN (fun k => if k = i then 0 else c (2 * i) (2 * k + 1)) ws.length = 1 - c (2 * i) (2 * i + 1) := by
  have hne := inn_ne hin
  have hc := h.cons (2 * i) (by omega) (by unfold srcB; rw [show decide ((2 * i) % 2 = 1) = false from by simp]; rfl) (by omega)
  rw [sumN_two] at hc
  have e : ∀ k, k < ws.length -> (C0 ws rev t ws.length (2 * k) (2 * i) - c (2 * k) (2 * i) + (C0 ws rev t ws.length (2 * k + 1) (2 * i) - c (2 * k + 1) (2 * i))) = (if k = i then 0 else c (2 * i) (2 * k + 1)) - (if k = i then 1 - c (2 * i) (2 * i + 1) else 0) := by
    intro k hk
    rw [flow_eq0 h (by omega)]
    by_cases e : k = i
    · subst e
      rw [if_pos rfl, if_pos rfl]
      have h1 := h.skew (2 * k) (2 * k + 1)
      have h2 := C0_own (t := t) hi hin
      omega
    · rw [if_neg e, if_neg e, Lanes.back h (fun h' => e h'.symm)]
      omega
  rw [sumN_congr e, sumN_sub, sumN_one (k := i) (f := fun k => if k = i then 1 - c (2 * i) (2 * i + 1) else 0) (fun k _ hk => if_neg hk), if_pos hi, if_pos rfl] at hc
  omega
/-- What goes on from a work. -/
theorem sum_out (h : Lanes ws rev t c) {i : Nat} (hi : i < ws.length) (hin : innB rev (t : Int) (i : Int) = true) : sumN (fun k => if k = i then 0 else c (2 * k) (2 * i + 1)) ws.length = 1 - c (2 * i) (2 * i + 1) := by
  have hne := inn_ne hin
  have hc := h.cons (2 * i + 1) (by omega) (by
    cases e : srcB rev (2 * i + 1) with
    | false => rfl
    | true =>
      have := (srcB_iff.1 e).2
      rw [show (2 * i + 1) / 2 = i from by omega] at this
      exact absurd this hne.2) (by omega)
  rw [sumN_two] at hc
  have e : ∀ k, k < ws.length -> (C0 ws rev t ws.length (2 * k) (2 * i + 1) - c (2 * k) (2 * i + 1) + (C0 ws rev t ws.length (2 * k + 1) (2 * i + 1) - c (2 * k + 1) (2 * i + 1))) = (if k = i then 1 - c (2 * i) (2 * i + 1) else 0) - (if k = i then 0 else c (2 * k) (2 * i + 1)) := by
    intro k hk
    rw [flow_eq0 (u := 2 * k + 1) (v := 2 * i + 1) h (by omega)]
    by_cases e : k = i
    · subst e
      rw [if_pos rfl, if_pos rfl, C0_own (t := t) hi hin]
      omega
    · rw [if_neg e, if_neg e, C0_even e]
      omega
  rw [sumN_congr e, sumN_sub, sumN_one (k := i) (f := fun k => if k = i then 1 - c (2 * i) (2 * i + 1) else 0) (fun k _ hk => if_neg hk), if_pos hi, if_pos rfl] at hc
  omega
theorem in_nn (h : Lanes ws rev t c) (i : Nat) : ∀ k, k < ws.length -> 0 <= (if k = i then 0 else c (2 * i) (2 * k + 1)) := fun k _ => by
  have := h.nn (2 * i) (2 * k + 1)
  split <;> omega
theorem nx_in (h : Lanes ws rev t c) {i j : Nat} (hi : i < ws.length) (hj : j < ws.length) (hin : innB rev (t : Int) (i : Int) = true) (hx : nx c j i) : c (2 * i) (2 * j + 1) = 1 /\ c (2 * i) (2 * i + 1) = 0 := by
  have h1 := sum_in h hi hin
  have h2 := sumN_ge (in_nn h i) j hj
  have h3 := h.nn (2 * i) (2 * i + 1)
  have h4 := hx.1
  rw [h1, if_neg (fun e => hx.2 e.symm)] at h2
  omega
theorem nx_one (h : Lanes ws rev t c) {i j k : Nat} (hi : i < ws.length) (hj : j < ws.length) (hk : k < ws.length) (hin : innB rev (t : Int) (i : Int) = true) (hx : nx c j i) (hy : nx c k i) : j = k := by
  have h1 := sum_in h hi hin
  have h3 := h.nn (2 * i) (2 * i + 1)
  have h4 := hx.1
  have h5 := hy.1
  have key : ∀ a b, a < b -> b < ws.length -> 0 < c (2 * i) (2 * a + 1) -> i ≠ a -> 0 < c (2 * i) (2 * b + 1) -> i ≠ b -> False := by
    intro a b hab hb p1 p2 p3 p4
    have := sumN_ge2 (in_nn h i) a b hab hb
    rw [h1, if_neg (fun e => p2 e.symm), if_neg (fun e => p4 e.symm)] at this
    omega
  by_cases e1 : j < k
  · exact (key j k e1 hk h4 hx.2 h5 hy.2).elim
  · by_cases e2 : k < j
    · exact (key k j e2 hj h5 hy.2 h4 hx.2).elim
    · omega
theorem nx_out (h : Lanes ws rev t c) {i : Nat} (hi : i < ws.length) (hin : innB rev (t : Int) (i : Int) = true) (hz : c (2 * i) (2 * i + 1) = 0) : ∃ k, k < ws.length /\ nx c i k := by
  have h1 := sum_out h hi hin
  rw [hz] at h1
  obtain ⟨k, hk, h2⟩ := sumN_pos (f := fun k => if k = i then 0 else c (2 * k) (2 * i + 1)) (n := ws.length) (by rw [h1]; decide)
  by_cases e : k = i
  · simp only [e, if_true] at h2; omega
  · simp only [if_neg e] at h2
    exact ⟨k, hk, h2, e⟩
/-! ### Chains -/
/-- Each work of a list leads on to the next one. -/
def Chn (c : Nat -> Nat -> Int) (l : List Int) : Prop := ∀ j, j + 1 < l.length -> nx c (l.getD j 0).toNat (l.getD (j + 1) 0).toNat
/-- A line that went: from a revised work, by works that can be frozen, to the work. -/
structure Went (ws : List Work) (rev : List Int) (t : Nat) (c : Nat -> Nat -> Int) (l : List Int) : Prop where
  chn : Chn c l
  two : 2 <= l.length
  rng : ∀ x ∈ l, 0 <= x /\ x < (ws.length : Int)
  head : l.getD 0 0 ∈ rev
  mid : ∀ j, 1 <= j -> j + 1 < l.length -> innB rev (t : Int) (l.getD j 0) = true
/-- A line as the law wants it. -/
structure LineA (ws : List Work) (rev : List Int) (t : Nat) (l : List Int) : Prop where
  two : 2 <= l.length
  rng : ∀ x ∈ l, 0 <= x /\ x < (ws.length : Int)
  line : lineB ws l = true
  head : l.getD 0 0 ∈ rev
  last : l.getD (l.length - 1) 0 = (t : Int)
  mid : ∀ j, 1 <= j -> j + 1 < l.length -> innB rev (t : Int) (l.getD j 0) = true
theorem lineB_of : ∀ {l : List Int}, (∀ j, j + 1 < l.length -> l.getD j 0 ∈ (ws.getD (l.getD (j + 1) 0).toNat default).of) -> lineB ws l = true
  | [], _ => rfl
  | [_], _ => rfl
  | a :: b :: l, h => by
    have h0 := h 0 (by simp)
    have ih := lineB_of (l := b :: l) (fun j hj => by have := h (j + 1) (by simp only [List.length_cons] at hj ⊢; omega); simpa using this)
    show ((ws.getD b.toNat default).of.contains a && lineB ws (b :: l)) = true
    rw [ih, Bool.and_true, List.contains_iff_mem]
    exact h0
theorem lineB_step : ∀ {l : List Int}, lineB ws l = true -> ∀ j, j + 1 < l.length -> l.getD j 0 ∈ (ws.getD (l.getD (j + 1) 0).toNat default).of
  | [], _, j, hj => by simp at hj
  | [_], _, j, hj => by simp at hj
  | a :: b :: l, h, j, hj => by
    have h' : ((ws.getD b.toNat default).of.contains a && lineB ws (b :: l)) = true := h
    rw [Bool.and_eq_true, List.contains_iff_mem] at h'
    cases j with
    | zero => exact h'.1
    | succ j =>
      have := lineB_step h'.2 j (by simp only [List.length_cons] at hj ⊢; omega)
      simpa using this
theorem Went.line (h : Lanes ws rev t c) {l : List Int} (hW : Went ws rev t c l) : lineB ws l = true := lineB_of fun j hj => by
  have hx := nx_big h (hW.chn j hj)
  have hr := hW.rng _ (getD_memN l (by omega : (j : Int) < _) 0)
  rw [Int.toNat_of_nonneg hr.1] at hx
  exact hx.1
/-- Two works of lines that are the same come from the same first steps. -/
theorem went_same (h : Lanes ws rev t c) {l m : List Int} (hl : Went ws rev t c l) (hm : Went ws rev t c m) : ∀ a b, 1 <= a -> 1 <= b -> a + 1 < l.length -> b + 1 < m.length -> l.getD a 0 = m.getD b 0 -> l.getD 0 0 = m.getD 0 0 /\ l.getD 1 0 = m.getD 1 0 := by
  intro a
  induction a with
  | zero => intro b h1; omega
  | succ a ih =>
    intro b _ hb h3 h4 he
    obtain ⟨b, rfl⟩ : ∃ b', b = b' + 1 := ⟨b - 1, by omega⟩
    have hx := hl.chn a (by omega)
    have hy := hm.chn b (by omega)
    have hin := hl.mid (a + 1) (by omega) h3
    have r0 := hl.rng _ (getD_memN l (by omega : ((a + 1 : Nat) : Int) < _) 0)
    have r1 := hl.rng _ (getD_memN l (by omega : (a : Int) < _) 0)
    have r2 := hm.rng _ (getD_memN m (by omega : (b : Int) < _) 0)
    rw [← he] at hy
    rw [← Int.toNat_of_nonneg r0.1] at hin
    have hu := nx_one h (by omega) (by omega) (by omega) hin hx hy
    have hu' : l.getD a 0 = m.getD b 0 := by omega
    by_cases ea : a = 0
    · by_cases eb : b = 0
      · subst ea; subst eb; exact ⟨hu', he⟩
      · subst ea
        have h5 := (innB_iff.1 (hm.mid b (by omega) (by omega))).2
        rw [← hu'] at h5
        exact absurd hl.head h5
    · by_cases eb : b = 0
      · subst eb
        have h5 := (innB_iff.1 (hl.mid a (by omega) (by omega))).2
        rw [hu'] at h5
        exact absurd hm.head h5
      · exact ih b (by omega) (by omega) (by omega) (by omega) hu'
/-- Lines that are apart. -/
def midL (l : List Int) : List Int := (l.drop 1).dropLast
theorem midL_mem {l : List Int} {x : Int} : x ∈ midL l ↔ ∃ j, 1 <= j /\ j + 1 < l.length /\ l.getD j 0 = x := by
  unfold midL
  rw [List.mem_iff_getElem]
  constructor
  · rintro ⟨i, hi, rfl⟩
    simp only [List.length_dropLast, List.length_drop] at hi
    refine ⟨i + 1, by omega, by omega, ?_⟩
    rw [List.getElem_dropLast, List.getElem_drop, getD_el l (by omega) 0]
    congr 1
    omega
  · rintro ⟨j, h1, h2, rfl⟩
    refine ⟨j - 1, by simp only [List.length_dropLast, List.length_drop]; omega, ?_⟩
    rw [List.getElem_dropLast, List.getElem_drop, getD_el l (by omega) 0]
    congr 1
    omega
structure ApartA (ws : List Work) (rev : List Int) (t : Nat) (ls : List (List Int)) : Prop where
  each : ∀ l ∈ ls, LineA ws rev t l
  two : ls.Pairwise fun a b => ∀ x ∈ midL a, x ∉ midL b
/-- What keeps a work meets each line. -/
theorem line_meets {F l : List Int} (hl : LineA ws rev t l) (hF : ∀ x ∈ F, x ≠ (t : Int) /\ x ∉ rev) (hk : ¬ Rch ws rev F t) : ∃ x ∈ midL l, x ∈ F := by
  refine Classical.byContradiction fun hc => hk ?_
  have h2 := hl.two
  have key : ∀ j, j < l.length -> Rch ws rev F (l.getD j 0).toNat := by
    intro j
    induction j with
    | zero => intro _; exact .base hl.head
    | succ j ih =>
      intro hj
      have r0 := hl.rng _ (getD_memN l (by omega : (j : Int) < _) 0)
      have r1 := hl.rng _ (getD_memN l (by omega : ((j + 1 : Nat) : Int) < _) 0)
      refine .step (ih (by omega)) (by omega) (by rw [Int.toNat_of_nonneg r0.1]; exact lineB_step hl.line j hj) ?_
      rw [Int.toNat_of_nonneg r1.1]
      intro hm
      by_cases e : j + 2 < l.length
      · exact hc ⟨_, midL_mem.2 ⟨j + 1, by omega, e, rfl⟩, hm⟩
      · have := hl.last
        rw [show l.length - 1 = j + 1 from by omega] at this
        exact (hF _ hm).1 this
  have := key (l.length - 1) (by omega)
  rwa [hl.last, Int.toNat_natCast] at this
/-- No fewer works keep a work than lines are apart. -/
theorem apart_le {F : List Int} (hF : ∀ x ∈ F, x ≠ (t : Int) /\ x ∉ rev) (hk : ¬ Rch ws rev F t) : ∀ {ls : List (List Int)}, ApartA ws rev t ls -> ∃ xs : List Int, xs.length = ls.length /\ xs.Nodup /\ (∀ x ∈ xs, x ∈ F) /\ ∀ x ∈ xs, ∃ l ∈ ls, x ∈ midL l
  | [], _ => ⟨[], rfl, List.nodup_nil, fun x h => by simp at h, fun x h => by simp at h⟩
  | l :: ls, h => by
    obtain ⟨xs, h1, h2, h3, h4⟩ := apart_le hF hk (ls := ls) ⟨fun m hm => h.each m (List.mem_cons_of_mem _ hm), (List.pairwise_cons.1 h.two).2⟩
    obtain ⟨x, hx, hxF⟩ := line_meets (h.each l (by simp)) hF hk
    refine ⟨x :: xs, by simp [h1], List.nodup_cons.2 ⟨fun hm => ?_, h2⟩, fun y hy => ?_, fun y hy => ?_⟩
    · obtain ⟨m, hm1, hm2⟩ := h4 x hm
      exact (List.pairwise_cons.1 h.two).1 m hm1 x hx hm2
    · rcases List.mem_cons.1 hy with rfl | hy
      · exact hxF
      · exact h3 y hy
    · rcases List.mem_cons.1 hy with rfl | hy
      · exact ⟨l, by simp, hx⟩
      · obtain ⟨m, hm1, hm2⟩ := h4 y hy
        exact ⟨m, List.mem_cons_of_mem _ hm1, hm2⟩
theorem apart_few {F : List Int} {ls : List (List Int)} (hF : ∀ x ∈ F, x ≠ (t : Int) /\ x ∉ rev) (hk : ¬ Rch ws rev F t) (h : ApartA ws rev t ls) : ls.length <= F.length := by
  obtain ⟨xs, h1, h2, h3, _⟩ := apart_le hF hk h
  rw [← h1]
  exact nodup_sub xs F h2 h3
end Go.Nm
