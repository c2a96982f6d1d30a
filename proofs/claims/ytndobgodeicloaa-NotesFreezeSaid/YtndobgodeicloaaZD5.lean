/- Part 5 of the texts on which the proof rests. Conditions: none. -/
import Derived.Test.YtndobgodeicloaaZD4
set_option linter.unusedVariables false
set_option linter.unusedSimpArgs false
set_option linter.unusedSectionVars false
section
set_option maxRecDepth 100000
set_option maxHeartbeats 16000000
namespace Go.Proofs.Ytndobgodeicloaa
open Go Go.Nm
def zas (i : Int) (aa : List Int) : M Bool :=
  M.pure (aa.contains i)
theorem zdt {R : List Chunk} {ae : Nat} {ag : Cells} {aa : Value} (i : Int) (ac : List Int) (ai : Reads R ag) (aj : Sl ag aa ac) (ak : Has R (cBlk ae [aa] 34)) {r : Bool} (hM : (zas i ac).Ends r) (w : World) (H : St w w [] R) : Ret Try.prog 117 #[I i, Pz ae] w fun v w' => ∃ (y0 : Bool), y0 = r /\ v = B y0 /\ St w w' [] R := by
 refine ret_of_W Try.func117 rfl rfl rfl ?_
 refine sQ rfl <| sA (B false) rfl <| s_nil <| sQ rfl <| s_val (x_ld (v := aa) rfl (ldb_sc Sc34 (ak.blk H) rfl)) <| sM (I i) rfl ?_
 refine s_call cf45 [aa, I i] rfl (contains_int i _ (aj.mono (ai.at H))) ?_
 rintro _ al ⟨rfl, ah⟩
 replace H : St w al [] R := H.ext ah
 clear ah
 refine sA (B (ac.contains i)) rfl <| s_nil ?_
 refine W.ret ?_
 have am := M.e_pure hM
 exact ⟨_, resE_tmp rfl, ⟨(ac.contains i), am, rfl, H⟩⟩

def zac (i : Int) (aa : List Int) : M Bool :=
  M.pure (!(aa.contains i))
theorem zcE {R : List Chunk} {ae : Nat} {ag : Cells} {ac : Value} (i : Int) (aa : List Int) (ai : Reads R ag) (aj : Sl ag ac aa) (ak : Has R (cBlk ae [ac] 34)) {r : Bool} (hM : (zac i aa).Ends r) (w : World) (H : St w w [] R) : Ret Try.prog 118 #[I i, Pz ae] w fun v w' => ∃ (y0 : Bool), y0 = r /\ v = B y0 /\ St w w' [] R := by
 refine ret_of_W Try.func118 rfl rfl rfl ?_
 refine sQ rfl <| sA (B false) rfl <| s_nil <| sQ rfl <| s_val (x_ld (v := ac) rfl (ldb_sc Sc34 (ak.blk H) rfl)) <| sM (I i) rfl ?_
 refine s_call cf45 [ac, I i] rfl (contains_int i _ (aj.mono (ai.at H))) ?_
 rintro _ al ⟨rfl, ah⟩
 replace H : St w al [] R := H.ext ah
 clear ah
 refine s_val (x_not (b := aa.contains i) rfl) <| sA (B (!(aa.contains i))) rfl <| s_nil ?_
 refine W.ret ?_
 have am := M.e_pure hM
 exact ⟨_, resE_tmp rfl, ⟨(!(aa.contains i)), am, rfl, H⟩⟩

def zca (i : Int) (aa : List Work) (ac : List Int) (ae : Int -> Option Bool) (ag : Int) : M (Bool × (Int -> Option Bool)) :=
  M.bind (zb7 aa (fun ah => zac ah ac) ae i ag) fun (r2, ai) =>
  M.pure (r2.isEmpty, ai)
theorem zdw {R : List Chunk} {al : Nat} {ac : Nat} {am : Nat} {ao : Cells} {ap : Value} {ah : Nat} {aq : Cells} {au : Value} {ae : Nat} {av : Nat} (i : Int) (ai : List Work) (ag : List Int) (aj : Int -> Option Bool) (aa : Int) (az : Reads R ao) (aA : Sl ao ap ai) (aB : Has R (cBlk am [ap] 187)) (aC : Reads R aq) (aD : Sl aq au ag) (aE : Has R (cBlk ah [au] 34)) (aF : Has R (cBlk ac [Pz am, .func (.func 118) #[] #[Pz ah], .map (some ae)] 211)) (aG : Has R (cBlk al [Pz ac] 160)) (aH : Has R (cBlk av [I aa] 3)) {r : (Bool × (Int -> Option Bool))} (hM : (zca i ai ag aj aa).Ends r) (w : World) (H : St w w [cMap I B ae aj] R) : Ret Try.prog 119 #[I i, Pz al, Pz av] w fun v w' => ∃ (y0 : Bool) (y1 : Int -> Option Bool), (y0, y1) = r /\ v = B y0 /\ St w w' [cMap I B ae y1] R := by
 refine ret_of_W Try.func119 rfl rfl rfl ?_
 refine sQ rfl <| sA (B false) rfl <| s_nil <| sQ rfl <| s_val (x_ld (v := Pz ac) rfl (ldb_sc Sc160 (aG.blk H) rfl)) <| sM (I i) rfl <| s_val (x_ld (v := I aa) rfl (ldb_sc Sc3 (aH.blk H) rfl)) ?_
 obtain ⟨aV, aI, hM⟩ := M.e_bind hM
 refine s_call cf110 [Pz ac, I i, I aa] rfl (zdm ai (fun ak => zac ak ag) aj i aa (az.app _) aA (aB.app _) ⟨118, [Pz ah], rfl, cf118, fun aw aW aX aJ ak aY aK aZ aL aM => by obtain rfl := Arg.int aL; exact (zcE ak ag (Reads.app (aC.app _) _) aD (Has.app (aE.app _) _) aM aw (St.refl aK)).mono fun aJ aw ⟨a5, aN, aO, aP⟩ => by subst aN; exact ⟨aO, aP⟩⟩ (aF.app _) aI _ (St.give (T := []) H rfl)) ?_
 rintro vq aQ ⟨r2, ax, aR, aS, hvq, ay, aT⟩
 subst aS
 subst vq
 try dsimp only at hM
 replace H : St w aQ [cOwn (α := Int) 3 aR r2, cMap I B ae ax] R := H.back ay rfl
 clear ay
 refine s_val (x_eqnil (α := Int) T34.und rfl rfl (ownSl (H.get (k := 0) rfl)) aT) <| sA (B r2.isEmpty) rfl <| s_nil ?_
 refine W.ret ?_
 have aU := M.e_pure hM
 exact ⟨_, resE_tmp rfl, ⟨r2.isEmpty, ax, aU, rfl, (H.pick [1] (by decide) rfl)⟩⟩

def zbB (x : Int) (aa : List Work) (ac : List Int) (ae : Int -> Option Bool) (ag : Int) : M (Bool × (Int -> Option Bool)) :=
  M.bind (zca x aa ac ae ag) fun (r2, ah) =>
  M.pure ((!r2), ah)
theorem zdy {R : List Chunk} {ak : Nat} {ac : Nat} {al : Nat} {am : Nat} {ao : Cells} {ap : Value} {aq : Nat} {au : Cells} {av : Value} {aa : Nat} {ae : Nat} (x : Int) (ag : List Work) (ah : List Int) (ai : Int -> Option Bool) (aj : Int) (ay : Reads R ao) (az : Sl ao ap ag) (aA : Has R (cBlk am [ap] 187)) (aB : Reads R au) (aC : Sl au av ah) (aD : Has R (cBlk aq [av] 34)) (aE : Has R (cBlk al [Pz am, .func (.func 118) #[] #[Pz aq], .map (some aa)] 211)) (aF : Has R (cBlk ac [Pz al] 160)) (aG : Has R (cBlk ae [I aj] 3)) (aH : Has R (cBlk ak [.func (.func 119) #[] #[Pz ac, Pz ae]] 75)) {r : (Bool × (Int -> Option Bool))} (hM : (zbB x ag ah ai aj).Ends r) (w : World) (H : St w w [cMap I B aa ai] R) : Ret Try.prog 143 #[I x, Pz ak] w fun v w' => ∃ (y0 : Bool) (y1 : Int -> Option Bool), (y0, y1) = r /\ v = B y0 /\ St w w' [cMap I B aa y1] R := by
 refine ret_of_W Try.func143 rfl rfl rfl ?_
 refine sQ rfl <| sA (B false) rfl <| s_nil <| sQ rfl <| s_val (x_ld (v := .func (.func 119) #[] #[Pz ac, Pz ae]) rfl (ldb_sc Sc75 (aH.blk H) rfl)) <| sM (I x) rfl ?_
 obtain ⟨aM, aI, hM⟩ := M.e_bind hM
 refine s_callv (f := 119) rfl cf119 [I x] rfl (zdw x ag ah ai aj (ay.app _) az (aA.app _) (aB.app _) aC (aD.app _) (aE.app _) (aF.app _) (aG.app _) aI _ (St.give (T := []) H rfl)) ?_
 rintro vq aJ ⟨r2, aw, aK, hvq, ax⟩
 subst aK
 subst vq
 try dsimp only at hM
 replace H : St w aJ [cMap I B aa aw] R := H.back ax rfl
 clear ax
 refine s_val (x_not (b := r2) rfl) <| sA (B (!r2)) rfl <| s_nil ?_
 refine W.ret ?_
 have aL := M.e_pure hM
 exact ⟨_, resE_tmp rfl, ⟨(!r2), aw, aL, rfl, H⟩⟩

def zbt (s : List Int) (ac : List Work) (ae : List Int) (ag : Int) : ((Int -> Option Bool) × Nat) -> M (((Int -> Option Bool) × Nat) ⊕ ((Int × (Int -> Option Bool)) ⊕ (Int -> Option Bool))) := fun (mp, s2) =>
  bif decide ((s2 : Int) < (s.length : Int)) then (
  M.grd (decide ((s2 : Int) < (s.length : Int))) <|
  M.bind (zbB (s.getD s2 0) ac ae mp ag) fun (r2, aa) =>
  bif r2 then (
  M.pure (.inr (.inl ((s2 : Int), aa))))
  else (
  M.pure (.inl (aa, s2 + 1))))
  else (
  M.pure (.inr (.inr mp)))
def zbV (s : List Int) (aa : List Work) (ac : List Int) (ae : Int -> Option Bool) (ag : Int) : M (Int × (Int -> Option Bool)) :=
  M.bind (M.iter (zbt s aa ac ag) (ae, 0)) fun x_ => match x_ with
  | (.inl (s3, ah)) => (
  M.pure (s3, ah))
  | (.inr ai) => (
  M.pure ((-1), ai))
theorem zdo {R : List Chunk} {av : Cells} {aa : Value} {ag : Nat} {aw : Nat} {ax : Nat} {ay : Nat} {az : Cells} {aA : Value} {aB : Nat} {aC : Cells} {aD : Value} {ac : Nat} {aE : Nat} (s : List Int) (ah : List Work) (ai : List Int) (al : Int -> Option Bool) (aj : Int) (aI : Reads R av) (ak : Sl av aa s) (aJ : Reads R az) (aK : Sl az aA ah) (aL : Has R (cBlk ay [aA] 187)) (aM : Reads R aC) (aN : Sl aC aD ai) (aO : Has R (cBlk aB [aD] 34)) (aP : Has R (cBlk ax [Pz ay, .func (.func 118) #[] #[Pz aB], .map (some ac)] 211)) (aQ : Has R (cBlk aw [Pz ax] 160)) (aR : Has R (cBlk aE [I aj] 3)) (aS : Has R (cBlk ag [.func (.func 119) #[] #[Pz aw, Pz aE]] 75)) {r : (Int × (Int -> Option Bool))} (hM : (zbV s ah ai al aj).Ends r) (w : World) (H : St w w [cMap I B ac al] R) : Ret Try.prog 102 #[aa, .func (.func 143) #[] #[Pz ag]] w fun v w' => ∃ (y0 : Int) (y1 : Int -> Option Bool), (y0, y1) = r /\ v = I y0 /\ St w w' [cMap I B ac y1] R := by
 refine ret_of_W Try.func102 rfl rfl rfl ?_
 refine sQ rfl <| sA (I 0) rfl <| s_nil <| W.seq <| sQ rfl <| sM aa rfl ?_
 have a6 := (ak).len_le
 refine s_val (x_lenS T34.und rfl ak) <| sM (I 0) rfl <| s_nil <| W.block ?_
 obtain ⟨aT, am, aF⟩ := M.e_bind hM
 obtain ⟨a7, am⟩ := M.e_iter am
 refine W.loop (fun m σ W => ∃ (mp : Int -> Option Bool) (s2 : Nat) (ρ : Env), σ = upds ρ [(0, aa), (1, .func (.func 143) #[] #[Pz ag]), (7, I (s.length : Int)), (8, I (s2 : Int))] /\ M.iterN (zbt s ah ai aj) m (mp, s2) = some aT /\ St w W [cMap I B ac mp] R) ?_ ?_
 ·exact ⟨_, al, 0, _, upds_of _ _ ⟨rfl, rfl, rfl, rfl, trivial⟩, am, H⟩
 rintro a8 σ a9 ⟨mp, s2, ρ, rfl, aG, H⟩
 obtain ⟨aU, aV, ba, hM, ao⟩ := M.e_iterN aG
 simp only [zbt] at hM
 clear aG
 refine sQ rfl <| sC _ _ (decide ((s2 : Int) < (s.length : Int))) rfl rfl rfl <| s_nil <| W.seq ?_
 refine W.cond (decide ((s2 : Int) < (s.length : Int))) rfl (fun ae => ?_) (fun ae => ?_)
 ·replace hM := M.e_t hM ae
  simp only [qz1, qz2, qz3, qz4, qz5, qz6, ne_eq, qz7] at ae
  refine W.skip <| W.seq <| W.block <| sQ rfl <| sM (I (s2 : Int)) rfl <| sA (I (s2 : Int)) rfl <| s_nil <| sQ rfl <| sM (.func (.func 143) #[] #[Pz ag]) rfl <| sM aa rfl ?_
  refine sM (I (s2 : Int)) rfl ?_
  obtain ⟨bb, hM⟩ := M.e_gd hM
  refine s_val (x_ix (v := vat aa 1 (Int.toNat (s2 : Int))) rfl rfl (Sl.ix (α := Int) T34.und T34.size ak (by omega) (by omega))) <| s_val (x_ld (v := I (s.getD s2 0)) rfl (ld_sc Sc3 (At.mono (Int_at ak (i := (s2 : Int)) (by omega) (by omega)) (aI.at H)))) ?_
  obtain ⟨bc, aW, hM⟩ := M.e_bind hM
  refine s_callv (f := 143) rfl cf143 [I (s.getD s2 0)] rfl (zdy (s.getD s2 0) ah ai mp aj (aJ.app _) aK (aL.app _) (aM.app _) aN (aO.app _) (aP.app _) (aQ.app _) (aR.app _) (aS.app _) aW _ (St.give (T := []) H rfl)) ?_
  rintro vq aX ⟨r2, ap, aY, hvq, aH⟩
  subst aY
  subst vq
  try dsimp only at hM
  replace H : St w aX [cMap I B ac ap] R := H.back aH rfl
  clear aH
  refine s_nil ?_
  refine W.cond r2 rfl (fun aq => ?_) (fun aq => ?_)
  ·replace hM := M.e_t hM aq
   refine sQ rfl <| sM (I (s2 : Int)) rfl <| sA (I (s2 : Int)) rfl <| s_nil ?_
   refine W.ret ?_
   have aZ := M.e_inr hM ao
   subst aZ
   replace hM := aF
   try dsimp only at hM
   have au := M.e_pure hM
   exact ⟨_, resE_tmp rfl, ⟨(s2 : Int), ap, au, rfl, H⟩⟩
  replace hM := M.e_f hM aq
  refine W.skip <| W.region rfl <| sR _ _ ((s2 : Int) + 1) rfl rfl rfl (by omega) <| sM (I ((s2 : Int) + 1)) rfl <| s_nil ?_
  exact ⟨aU, aV, ap, s2 + 1, _, upds_of _ _ ⟨rfl, rfl, rfl, rfl, trivial⟩, M.e_inl hM ao, H⟩
 replace hM := M.e_f hM ae
 simp only [qz1, qz2, qz3, qz4, qz5, qz6, ne_eq, qz7] at ae
 refine W.exit ?_
 have a5 := M.e_inr hM ao
 subst a5
 replace hM := aF
 try dsimp only at hM
 refine sQ rfl <| sA (I (-1)) rfl <| s_nil ?_
 refine W.ret ?_
 have au := M.e_pure hM
 exact ⟨_, resE_tmp rfl, ⟨(-1), mp, au, rfl, H⟩⟩

def zb6 (s : List Int) (aa : List Work) (ac : List Int) (ae : Int -> Option Bool) (ag : Int) : M (Bool × (Int -> Option Bool)) :=
  M.bind (zbV s aa ac ae ag) fun (r2, ah) =>
  M.pure ((decide (0 <= r2)), ah)
theorem zds {R : List Chunk} {ak : Cells} {aa : Value} {ac : Nat} {al : Nat} {am : Nat} {ao : Nat} {ap : Cells} {aq : Value} {au : Nat} {av : Cells} {aw : Value} {ae : Nat} {ax : Nat} (s : List Int) (ag : List Work) (ah : List Int) (ai : Int -> Option Bool) (aj : Int) (aA : Reads R ak) (aB : Sl ak aa s) (aC : Reads R ap) (aD : Sl ap aq ag) (aE : Has R (cBlk ao [aq] 187)) (aF : Reads R av) (aG : Sl av aw ah) (aH : Has R (cBlk au [aw] 34)) (aI : Has R (cBlk am [Pz ao, .func (.func 118) #[] #[Pz au], .map (some ae)] 211)) (aJ : Has R (cBlk al [Pz am] 160)) (aK : Has R (cBlk ax [I aj] 3)) (aL : Has R (cBlk ac [.func (.func 119) #[] #[Pz al, Pz ax]] 75)) {r : (Bool × (Int -> Option Bool))} (hM : (zb6 s ag ah ai aj).Ends r) (w : World) (H : St w w [cMap I B ae ai] R) : Ret Try.prog 48 #[aa, .func (.func 143) #[] #[Pz ac]] w fun v w' => ∃ (y0 : Bool) (y1 : Int -> Option Bool), (y0, y1) = r /\ v = B y0 /\ St w w' [cMap I B ae y1] R := by
 refine ret_of_W Try.func48 rfl rfl rfl ?_
 refine sQ rfl <| sA (B false) rfl <| s_nil <| sQ rfl <| sM aa rfl <| sM (.func (.func 143) #[] #[Pz ac]) rfl ?_
 obtain ⟨aQ, aM, hM⟩ := M.e_bind hM
 refine s_call cf102 [aa, .func (.func 143) #[] #[Pz ac]] rfl (zdo s ag ah ai aj (aA.app _) aB (aC.app _) aD (aE.app _) (aF.app _) aG (aH.app _) (aI.app _) (aJ.app _) (aK.app _) (aL.app _) aM _ (St.give (T := []) H rfl)) ?_
 rintro vq aN ⟨r2, ay, aO, hvq, az⟩
 subst aO
 subst vq
 try dsimp only at hM
 replace H : St w aN [cMap I B ae ay] R := H.back az rfl
 clear az
 refine sC _ _ (decide (0 <= r2)) rfl rfl rfl <| sA (B (decide (0 <= r2))) rfl <| s_nil ?_
 refine W.ret ?_
 have aP := M.e_pure hM
 exact ⟨_, resE_tmp rfl, ⟨(decide (0 <= r2)), ay, aP, rfl, H⟩⟩

def zbz (aa : List Work) (ac : List Int) (ae : Int -> Option Bool) (ag : Int) (l : List Int) : M (Bool × (Int -> Option Bool)) :=
  M.bind (zb6 l aa ac ae ag) fun (r2, ah) =>
  M.pure ((!r2), ah)
theorem zc9 {R : List Chunk} {aa : Nat} {am : Nat} {ao : Nat} {ap : Cells} {aq : Value} {au : Nat} {av : Cells} {aw : Value} {ae : Nat} {ac : Nat} {ax : Cells} {ai : Value} (aj : List Work) (ak : List Int) (ag : Int -> Option Bool) (al : Int) (l : List Int) (aA : Reads R ap) (aB : Sl ap aq aj) (aC : Has R (cBlk ao [aq] 187)) (aD : Reads R av) (aE : Sl av aw ak) (aF : Has R (cBlk au [aw] 34)) (aG : Has R (cBlk am [Pz ao, .func (.func 118) #[] #[Pz au], .map (some ae)] 211)) (aH : Has R (cBlk aa [Pz am] 160)) (aI : Has R (cBlk ac [I al] 3)) (aJ : Reads R ax) (aK : Sl ax ai l) {r : (Bool × (Int -> Option Bool))} (hM : (zbz aj ak ag al l).Ends r) (w : World) (H : St w w [cMap I B ae ag] R) : Ret Try.prog 87 #[.func (.func 119) #[] #[Pz aa, Pz ac], ai] w fun v w' => ∃ (y0 : Bool) (y1 : Int -> Option Bool), (y0, y1) = r /\ v = B y0 /\ St w w' [cMap I B ae y1] R := by
 refine ret_of_W Try.func87 rfl rfl rfl ?_
 refine sQ rfl ?_
 refine t_box (v := .func (.func 119) #[] #[Pz aa, Pz ac]) (cs := [.func (.func 119) #[] #[Pz aa, Pz ac]]) H rfl rfl ?_
 intro ah aP H
 refine sA (B false) rfl <| s_nil <| sQ rfl <| sM ai rfl <| s_val (x_mf (fs := []) (cs := [Pz ah]) rfl rfl) ?_
 obtain ⟨aQ, aL, hM⟩ := M.e_bind hM
 refine s_call cf48 [ai, .func (.func 143) #[] #[Pz ah]] rfl (zds l aj ak ag al (aJ.app _) aK (aA.app _) aB (aC.app _) (aD.app _) aE (aF.app _) (aG.app _) (aH.app _) (aI.app _) (Has.here (k := 0) rfl) aL _ (St.give (L := [cMap I B ae ag, cBlk ah [.func (.func 119) #[] #[Pz aa, Pz ac]] 75]) (A := [cMap I B ae ag]) (T := [cBlk ah [.func (.func 119) #[] #[Pz aa, Pz ac]] 75]) (H.pick [1, 0] (by decide) rfl) rfl)) ?_
 rintro vq aM ⟨r2, ay, aN, hvq, az⟩
 subst aN
 subst vq
 try dsimp only at hM
 replace H : St w aM [cMap I B ae ay, cBlk ah [.func (.func 119) #[] #[Pz aa, Pz ac]] 75] R := H.pick [1, 0] (by decide) rfl |>.back az rfl
 clear az
 refine s_val (x_not (b := r2) rfl) <| sA (B (!r2)) rfl <| s_nil ?_
 refine W.ret ?_
 have aO := M.e_pure hM
 exact ⟨_, resE_tmp rfl, ⟨(!r2), ay, aO, rfl, (H.pick [0] (by decide) rfl)⟩⟩

def zae (w_ : List Work) (revised : List Int) (work : Int) (frozen : List Int) : M (Bool × Int) :=
  M.bind (zap w_ revised work) fun x_ => match x_ with
  | (.inl r1) => (
  bif r1 == 0 then (
  M.fail)
  else (
  bif r1 != 0 then (
  M.pure (false, r1))
  else (
  M.fail)))
  | (.inr ac) => (
  bif ac == 0 then (
  bif (listedE w_.length frozen) != 0 then (
  M.pure (false, (listedE w_.length frozen)))
  else (
  M.bind (M.opt (!(frozen.contains work)) (zaw frozen (fun aa => zas aa revised)) false) fun r2 =>
  bif ((frozen.contains work) || r2) then (
  M.pure (false, 7))
  else (
  M.bind (zcw w_ (fun aa => zac aa frozen)) fun ae =>
  M.bind (zbz w_ frozen ae work revised) fun (r3, ag) =>
  M.pure (r3, 0))))
  else (
  M.fail))
theorem zc8 {R : List Chunk} {aR : Cells} {av : Value} {aS : Cells} {ac : Value} {aT : Cells} {aa : Value} (w_ : List Work) (revised : List Int) (work : Int) (frozen : List Int) (aC : Reads R aR) (aD : Sl aR av w_) (aI : Reads R aS) (aE : Sl aS ac revised) (ax : Reads R aT) (aw : Sl aT aa frozen) {r : (Bool × Int)} (hM : (zae w_ revised work frozen).Ends r) (w : World) (H : St w w [] R) : Ret Try.prog 59 #[av, ac, I work, aa] w fun v w' => ∃ (y0 : Bool) (y1 : Int), (y0, y1) = r /\ v = .tuple #[B y0, I y1] /\ St w w' [] R := by
 refine ret_of_W Try.func59 rfl rfl rfl ?_
 refine sQ rfl ?_
 refine t_box (v := ac) (cs := [ac]) H rfl (Sl.cells aE) ?_
 intro ag bm H
 refine t_box (v := I work) (cs := [I work]) H rfl rfl ?_
 intro ah bn H
 refine t_box (v := aa) (cs := [aa]) H rfl (Sl.cells aw) ?_
 intro ae bo H
 refine sA (B false) rfl <| sA (I 0) rfl <| s_nil <| sQ rfl <| sM av rfl <| s_val (x_ld (v := ac) rfl (ldb_sc Sc34 (H.blk (k := 2) rfl) rfl)) <| s_val (x_ld (v := I work) rfl (ldb_sc Sc3 (H.blk (k := 1) rfl) rfl)) ?_
 obtain ⟨bp, aW, hM⟩ := M.e_bind hM
 refine s_call cf116 [av, ac, I work] rfl (zco w_ revised work (aC.app _) aD (aI.app _) aE aW _ (St.give (T := [cBlk ae [aa] 34, cBlk ah [I work] 3, cBlk ag [ac] 34]) H rfl)) ?_
 rintro vq aU (⟨r1, aX, hvq, ak⟩ | ⟨ap, ai, am, aY, hvq, ak, aV⟩)
 ·subst aX
  subst vq
  try dsimp only at hM
  replace H : St w aU [cBlk ae [aa] 34, cBlk ah [I work] 3, cBlk ag [ac] 34] R := H.back ak rfl
  clear ak
  refine sM (.tuple #[.pointer none, I r1]) rfl <| sX [.pointer none, I r1] (.pointer none) rfl rfl <| sX [.pointer none, I r1] (I r1) rfl rfl <| sA (.pointer none) rfl <| sA (I r1) rfl <| s_nil <| W.seq <| sQ rfl <| sM (I r1) rfl <| sC _ _ (r1 == 0) rfl rfl rfl <| s_nil ?_
  refine W.cond (r1 == 0) rfl (fun aF => ?_) (fun aF => ?_)
  ·replace hM := M.e_t hM aF
   exact (M.e_fail hM).elim
  replace hM := M.e_f hM aF
  simp only [qz1, qz2, qz3, qz4, qz5, qz6, ne_eq, qz7] at aF
  refine W.skip <| W.seq <| W.block <| sQ rfl <| sM (I r1) rfl <| sC _ _ (r1 != 0) rfl rfl rfl <| sA (B (r1 != 0)) rfl <| s_nil ?_
  refine W.cond (r1 != 0) rfl (fun aG => ?_) (fun aG => ?_)
  ·replace hM := M.e_t hM aG
   simp only [qz1, qz2, qz3, qz4, qz5, qz6, ne_eq, qz7] at aG
   refine sQ rfl <| sM (I r1) rfl <| sA (B false) rfl <| sA (I r1) rfl <| s_nil ?_
   refine W.ret ?_
   have ao := M.e_pure hM
   exact ⟨_, resE_tmp2 rfl, ⟨false, r1, ao, rfl, (H.pick [] (by decide) rfl)⟩⟩
  replace hM := M.e_f hM aG
  exact (M.e_fail hM).elim
 subst aY
 subst vq
 try dsimp only at hM
 replace H : St w aU [cRo am, cBlk ae [aa] 34, cBlk ah [I work] 3, cBlk ag [ac] 34] R := H.back ak rfl
 clear ak
 refine sM (.tuple #[Pz ai, I ap]) rfl <| sX [Pz ai, I ap] (Pz ai) rfl rfl <| sX [Pz ai, I ap] (I ap) rfl rfl <| sA (Pz ai) rfl <| sA (I ap) rfl <| s_nil <| W.seq <| sQ rfl <| sM (I ap) rfl <| sC _ _ (ap == 0) rfl rfl rfl <| s_nil ?_
 refine W.cond (ap == 0) rfl (fun aH => ?_) (fun aH => ?_)
 ·replace hM := M.e_t hM aH
  simp only [qz1, qz2, qz3, qz4, qz5, qz6, ne_eq, qz7] at aH
  refine W.region rfl <| sM av rfl <| s_val (x_ld (v := aa) rfl (ldb_sc Sc34 (H.blk (k := 1) rfl) rfl)) ?_
  refine s_call cf96 [av, aa] rfl (listed_any _ (aD.mono (aC.at H)) (aw.mono (ax.at H))) ?_
  rintro _ aZ ⟨rfl, ay⟩
  replace H : St w aZ [cRo am, cBlk ae [aa] 34, cBlk ah [I work] 3, cBlk ag [ac] 34] R := H.ext ay
  clear ay
  refine sA (I (listedE w_.length frozen)) rfl <| s_nil <| W.seq <| W.block <| sQ rfl <| sM (I (listedE w_.length frozen)) rfl <| sC _ _ ((listedE w_.length frozen) != 0) rfl rfl rfl <| sA (B ((listedE w_.length frozen) != 0)) rfl <| s_nil ?_
  refine W.cond ((listedE w_.length frozen) != 0) rfl (fun az => ?_) (fun az => ?_)
  ·replace hM := M.e_t hM az
   simp only [qz1, qz2, qz3, qz4, qz5, qz6, ne_eq, qz7] at az
   refine sQ rfl <| sM (I (listedE w_.length frozen)) rfl <| sA (B false) rfl <| sA (I (listedE w_.length frozen)) rfl <| s_nil ?_
   refine W.ret ?_
   have ao := M.e_pure hM
   exact ⟨_, resE_tmp2 rfl, ⟨false, (listedE w_.length frozen), ao, rfl, (H.pick [] (by decide) rfl)⟩⟩
  replace hM := M.e_f hM az
  simp only [qz1, qz2, qz3, qz4, qz5, qz6, ne_eq, qz7] at az
  refine sQ rfl <| s_val (x_ld (v := aa) rfl (ldb_sc Sc34 (H.blk (k := 1) rfl) rfl)) <| s_val (x_ld (v := I work) rfl (ldb_sc Sc3 (H.blk (k := 2) rfl) rfl)) ?_
  refine s_call cf45 [aa, I work] rfl (contains_int work _ (aw.mono (ax.at H))) ?_
  rintro _ a5 ⟨rfl, ay⟩
  replace H : St w a5 [cRo am, cBlk ae [aa] 34, cBlk ah [I work] 3, cBlk ag [ac] 34] R := H.ext ay
  clear ay
  refine sM (B (frozen.contains work)) rfl <| g_val (!(frozen.contains work)) (gy_f rfl) (fun hg => x_ld (v := aa) rfl (ldb_sc Sc34 (H.blk (k := 1) rfl) rfl)) <| g_val (!(frozen.contains work)) (gy_f rfl) (fun hg => x_mf (fs := []) (cs := [Pz ag]) rfl rfl) ?_
  obtain ⟨r2, a6, hM⟩ := M.e_bind hM
  refine t_gcall (!(frozen.contains work)) (gy_f rfl) cf48 (B r2) (fun _ => [aa, .func (.func 117) #[] #[Pz ag]]) (fun hg => lst2 (gd_of hg (aa)) (gd_of hg (.func (.func 117) #[] #[Pz ag]))) H (fun hg => (zb3 frozen (fun aq => zas aq revised) (ax.app _) aw ⟨117, [Pz ag], rfl, cf117, fun aA a7 a8 aJ aq a9 aK ba aL aM => by obtain rfl := Arg.int aL; exact (zdt aq revised (Reads.app (aI.app _) _) aE (Has.app (Has.here (k := 3) rfl) _) aM aA (St.refl aK)).mono fun aJ aA ⟨bb, aN, aO, aP⟩ => by subst aN; exact ⟨aO, aP⟩⟩ (M.e_opt a6 hg) _ (H.give (A := []) rfl)).mono fun v_ w_ ⟨y_, ao, bc, H_⟩ => by subst ao; exact ⟨bc, H.via H_⟩) ?_
  intro bq H
  refine s_val (x_por (b := frozen.contains work) (r := r2) rfl rfl (fun hb => gd_of (c := !(frozen.contains work)) (by first | exact hb | (rw [hb]; rfl) | simp_all) (B r2))) <| sA (B ((frozen.contains work) || r2)) rfl <| s_nil ?_
  refine W.cond ((frozen.contains work) || r2) rfl (fun aQ => ?_) (fun aQ => ?_)
  ·replace hM := M.e_t hM aQ
   refine sQ rfl <| sA (B false) rfl <| sA (I 7) rfl <| s_nil ?_
   refine W.ret ?_
   have ao := M.e_pure hM
   exact ⟨_, resE_tmp2 rfl, ⟨false, 7, ao, rfl, (H.pick [] (by decide) rfl)⟩⟩
  replace hM := M.e_f hM aQ
  refine W.skip <| sQ rfl <| sM (Pz ai) rfl <| s_val (x_mf (fs := []) (cs := [Pz ae]) rfl rfl) ?_
  obtain ⟨br, bf, hM⟩ := M.e_bind hM
  refine s_call cf108 [Pz ai, .func (.func 118) #[] #[Pz ae]] rfl (zdi w_ (fun aq => zac aq frozen) (aC.app _) aD (Has.ro (k := 0) rfl aV) ⟨118, [Pz ae], rfl, cf118, fun aA a7 a8 aJ aq a9 aK ba aL aM => by obtain rfl := Arg.int aL; exact (zcE aq frozen (Reads.app (ax.app _) _) aw (Has.app (Has.here (k := 1) rfl) _) aM aA (St.refl aK)).mono fun aJ aA ⟨bb, aN, aO, aP⟩ => by subst aN; exact ⟨aO, aP⟩⟩ bf _ (St.give (T := [cRo am, cBlk ae [aa] 34, cBlk ah [I work] 3, cBlk ag [ac] 34]) H rfl)) ?_
  rintro vq bg ⟨aB, aj, al, bh, hvq, ak⟩
  subst bh
  subst vq
  try dsimp only at hM
  replace H : St w bg [cBlk aj [Pz ai, .func (.func 118) #[] #[Pz ae], .map (some al)] 211, cMap I B al aB, cRo am, cBlk ae [aa] 34, cBlk ah [I work] 3, cBlk ag [ac] 34] R := H.back ak rfl
  clear ak
  refine t_alloc (cs := [.pointer none]) H Al160 rfl ?_
  intro au bt H
  refine t_st (k := 0) (b := au) (off := 0) (cs := [.pointer none]) (vs := [Pz aj]) (cs' := [Pz aj]) (v := Pz aj) (L' := [cBlk au [Pz aj] 160, cBlk aj [Pz ai, .func (.func 118) #[] #[Pz ae], .map (some al)] 211, cMap I B al aB, cRo am, cBlk ae [aa] 34, cBlk ah [I work] 3, cBlk ag [ac] 34]) H rfl rfl rfl Sz160 rfl rfl rfl rfl rfl rfl ?_
  intro bu H
  refine s_nil <| sQ rfl <| s_val (x_mf (fs := []) (cs := [Pz au, Pz ah]) rfl rfl) <| s_val (x_ld (v := ac) rfl (ldb_sc Sc34 (H.blk (k := 6) rfl) rfl)) ?_
  obtain ⟨bv, bi, hM⟩ := M.e_bind hM
  refine s_call cf87 [.func (.func 119) #[] #[Pz au, Pz ah], ac] rfl (zc9 w_ frozen aB work revised (aC.app _) aD (Has.ro (k := 2) rfl aV) (ax.app _) aw (Has.here (k := 3) rfl) (Has.here (k := 1) rfl) (Has.here (k := 0) rfl) (Has.here (k := 4) rfl) (aI.app _) aE bi _ (St.give (L := [cMap I B al aB, cBlk au [Pz aj] 160, cBlk aj [Pz ai, .func (.func 118) #[] #[Pz ae], .map (some al)] 211, cRo am, cBlk ae [aa] 34, cBlk ah [I work] 3, cBlk ag [ac] 34]) (A := [cMap I B al aB]) (T := [cBlk au [Pz aj] 160, cBlk aj [Pz ai, .func (.func 118) #[] #[Pz ae], .map (some al)] 211, cRo am, cBlk ae [aa] 34, cBlk ah [I work] 3, cBlk ag [ac] 34]) (H.pick [2, 0, 1, 3, 4, 5, 6] (by decide) rfl) rfl)) ?_
  rintro vq bj ⟨r3, bk, bl, hvq, ak⟩
  subst bl
  subst vq
  try dsimp only at hM
  replace H : St w bj [cMap I B al bk, cBlk au [Pz aj] 160, cBlk aj [Pz ai, .func (.func 118) #[] #[Pz ae], .map (some al)] 211, cRo am, cBlk ae [aa] 34, cBlk ah [I work] 3, cBlk ag [ac] 34] R := H.pick [2, 0, 1, 3, 4, 5, 6] (by decide) rfl |>.back ak rfl
  clear ak
  refine sA (B r3) rfl <| sA (I 0) rfl <| s_nil ?_
  refine W.ret ?_
  have ao := M.e_pure hM
  exact ⟨_, resE_tmp2 rfl, ⟨r3, 0, ao, rfl, (H.pick [] (by decide) rfl)⟩⟩
 replace hM := M.e_f hM aH
 exact (M.e_fail hM).elim

def za3 (s : List (List Int)) (f : (List Int) -> M Bool) : Nat -> M (Nat ⊕ (Int ⊕ Unit)) := fun s2 =>
  bif decide ((s2 : Int) < (s.length : Int)) then (
  M.grd (decide ((s2 : Int) < (s.length : Int))) <|
  M.bind (f (s.getD s2 ([]))) fun r2 =>
  bif r2 then (
  M.pure (.inr (.inl (s2 : Int))))
  else (
  M.pure (.inl (s2 + 1))))
  else (
  M.pure (.inr (.inr ())))
def zcg (s : List (List Int)) (f : (List Int) -> M Bool) : M Int :=
  M.bind (M.iter (za3 s f) 0) fun x_ => match x_ with
  | (.inl s3) => (
  M.pure s3)
  | (.inr (_ : Unit)) => (
  M.pure (-1))
theorem zdC {R : List Chunk} {am : Cells} {aa : Value} {ae : Value} (s : List (List Int)) (f : (List Int) -> M Bool) (ao : Reads R am) (ag : Sl am aa s) (av : FnM Try.prog R ae f) {r : Int} (hM : (zcg s f).Ends r) (w : World) (H : St w w [] R) : Ret Try.prog 185 #[aa, ae] w fun v w' => ∃ (y0 : Int), y0 = r /\ v = I y0 /\ St w w' [] R := by
 refine ret_of_W Try.func185 rfl rfl rfl ?_
 refine sQ rfl <| sA (I 0) rfl <| s_nil <| W.seq <| sQ rfl <| sM aa rfl ?_
 have aD := (ag).len_le
 refine s_val (x_lenS T73.und rfl ag) <| sM (I 0) rfl <| s_nil <| W.block ?_
 obtain ⟨aw, ai, ap⟩ := M.e_bind hM
 obtain ⟨aE, ai⟩ := M.e_iter ai
 refine W.loop (fun m σ W => ∃ (s2 : Nat) (ρ : Env), σ = upds ρ [(0, aa), (1, ae), (7, I (s.length : Int)), (8, I (s2 : Int))] /\ M.iterN (za3 s f) m s2 = some aw /\ St w W [] R) ?_ ?_
 ·exact ⟨_, 0, _, upds_of _ _ ⟨rfl, rfl, rfl, rfl, trivial⟩, ai, H⟩
 rintro aF σ aG ⟨s2, ρ, rfl, aq, H⟩
 obtain ⟨ax, ay, aH, hM, aj⟩ := M.e_iterN aq
 simp only [za3] at hM
 clear aq
 refine sQ rfl <| sC _ _ (decide ((s2 : Int) < (s.length : Int))) rfl rfl rfl <| s_nil <| W.seq ?_
 refine W.cond (decide ((s2 : Int) < (s.length : Int))) rfl (fun ac => ?_) (fun ac => ?_)
 ·replace hM := M.e_t hM ac
  simp only [qz1, qz2, qz3, qz4, qz5, qz6, ne_eq, qz7] at ac
  refine W.skip <| W.seq <| W.block <| sQ rfl <| sM (I (s2 : Int)) rfl <| sA (I (s2 : Int)) rfl <| s_nil <| sQ rfl <| sM ae rfl <| sM aa rfl ?_
  refine sM (I (s2 : Int)) rfl ?_
  obtain ⟨aI, hM⟩ := M.e_gd hM
  refine s_val (x_ix (v := vat aa 1 (Int.toNat (s2 : Int))) rfl rfl (Sl.ix (α := List Int) T73.und T73.size ag (by omega) (by omega))) ?_
  obtain ⟨au, az, ah⟩ := List_at ag (i := (s2 : Int)) (by omega) (by omega)
  replace ah : Sl _ au (s.getD s2 ([])) := ah
  have aJ := ah.len_le
  refine s_val (x_ld (v := au) rfl (ld_sc Sc34 (At.mono (az) (ao.at H)))) ?_
  obtain ⟨r2, aA, hM⟩ := M.e_bind hM
  refine t_callM H av rfl rfl (s.getD s2 ([])) (ao.app _) (Arg.mkS ah) aA ?_
  intro aK H
  refine s_nil ?_
  refine W.cond r2 rfl (fun ak => ?_) (fun ak => ?_)
  ·replace hM := M.e_t hM ak
   refine sQ rfl <| sM (I (s2 : Int)) rfl <| sA (I (s2 : Int)) rfl <| s_nil ?_
   refine W.ret ?_
   have aB := M.e_inr hM aj
   subst aB
   replace hM := ap
   try dsimp only at hM
   have al := M.e_pure hM
   exact ⟨_, resE_tmp rfl, ⟨(s2 : Int), al, rfl, H⟩⟩
  replace hM := M.e_f hM ak
  refine W.skip <| W.region rfl <| sR _ _ ((s2 : Int) + 1) rfl rfl rfl (by omega) <| sM (I ((s2 : Int) + 1)) rfl <| s_nil ?_
  exact ⟨ax, ay, s2 + 1, _, upds_of _ _ ⟨rfl, rfl, rfl, rfl, trivial⟩, M.e_inl hM aj, H⟩
 replace hM := M.e_f hM ac
 simp only [qz1, qz2, qz3, qz4, qz5, qz6, ne_eq, qz7] at ac
 refine W.exit ?_
 have aC := M.e_inr hM aj
 subst aC
 replace hM := ap
 try dsimp only at hM
 refine sQ rfl <| sA (I (-1)) rfl <| s_nil ?_
 refine W.ret ?_
 have al := M.e_pure hM
 exact ⟨_, resE_tmp rfl, ⟨(-1), al, rfl, H⟩⟩

def zci (s : List (List Int)) (f : (List Int) -> M Bool) : M Bool :=
  M.bind (zcg s f) fun r2 =>
  M.pure (decide (0 <= r2))
theorem zdg {R : List Chunk} {ae : Cells} {aa : Value} {ac : Value} (s : List (List Int)) (f : (List Int) -> M Bool) (ah : Reads R ae) (ai : Sl ae aa s) (aj : FnM Try.prog R ac f) {r : Bool} (hM : (zci s f).Ends r) (w : World) (H : St w w [] R) : Ret Try.prog 157 #[aa, ac] w fun v w' => ∃ (y0 : Bool), y0 = r /\ v = B y0 /\ St w w' [] R := by
 refine ret_of_W Try.func157 rfl rfl rfl ?_
 refine sQ rfl <| sA (B false) rfl <| s_nil <| sQ rfl <| sM aa rfl <| sM ac rfl ?_
 obtain ⟨ap, ak, hM⟩ := M.e_bind hM
 refine s_call cf185 [aa, ac] rfl (zdC s f (ah.app _) ai (aj.app _) ak _ (St.give (T := []) H rfl)) ?_
 rintro vq al ⟨r2, am, hvq, ag⟩
 subst am
 subst vq
 try dsimp only at hM
 replace H : St w al [] R := H.back ag rfl
 clear ag
 refine sC _ _ (decide (0 <= r2)) rfl rfl rfl <| sA (B (decide (0 <= r2))) rfl <| s_nil ?_
 refine W.ret ?_
 have ao := M.e_pure hM
 exact ⟨_, resE_tmp rfl, ⟨(decide (0 <= r2)), ao, rfl, H⟩⟩

def zbl (x : List Int) (aa : (List Int) -> M Bool) : M Bool :=
  M.bind (aa x) fun r2 =>
  M.pure (!r2)
theorem zdF {R : List Chunk} {ae : Cells} {aa : Value} {ag : Nat} {ac : Value} (x : List Int) (ah : (List Int) -> M Bool) (ai : Reads R ae) (aj : Sl ae aa x) (ak : FnM Try.prog R ac ah) (al : Has R (cBlk ag [ac] 159)) {r : Bool} (hM : (zbl x ah).Ends r) (w : World) (H : St w w [] R) : Ret Try.prog 158 #[aa, Pz ag] w fun v w' => ∃ (y0 : Bool), y0 = r /\ v = B y0 /\ St w w' [] R := by
 refine ret_of_W Try.func158 rfl rfl rfl ?_
 refine sQ rfl <| sA (B false) rfl <| s_nil <| sQ rfl <| s_val (x_ld (v := ac) rfl (ldb_sc Sc159 (al.blk H) rfl)) <| sM aa rfl ?_
 obtain ⟨r2, am, hM⟩ := M.e_bind hM
 refine t_callM H ak rfl rfl x (ai.app _) (Arg.mkS aj) am ?_
 intro ap H
 refine s_val (x_not (b := r2) rfl) <| sA (B (!r2)) rfl <| s_nil ?_
 refine W.ret ?_
 have ao := M.e_pure hM
 exact ⟨_, resE_tmp rfl, ⟨(!r2), ao, rfl, H⟩⟩

def zbs (so : (List Int) -> M Bool) (l : List (List Int)) : M Bool :=
  M.bind (zci l (fun aa => zbl aa so)) fun r2 =>
  M.pure (!r2)
theorem zdr {R : List Chunk} {aa : Value} {ah : Cells} {ae : Value} (so : (List Int) -> M Bool) (l : List (List Int)) (ai : FnM Try.prog R aa so) (al : Reads R ah) (am : Sl ah ae l) {r : Bool} (hM : (zbs so l).Ends r) (w : World) (H : St w w [] R) : Ret Try.prog 122 #[aa, ae] w fun v w' => ∃ (y0 : Bool), y0 = r /\ v = B y0 /\ St w w' [] R := by
 refine ret_of_W Try.func122 rfl rfl rfl ?_
 refine sQ rfl ?_
 refine t_box (v := aa) (cs := [aa]) H rfl (FnM.cells ai) ?_
 intro ac aE H
 refine sA (B false) rfl <| s_nil <| sQ rfl <| sM ae rfl <| s_val (x_mf (fs := []) (cs := [Pz ac]) rfl rfl) ?_
 obtain ⟨aF, ao, hM⟩ := M.e_bind hM
 refine s_call cf157 [ae, .func (.func 158) #[] #[Pz ac]] rfl (zdg l (fun ag => zbl ag so) (al.app _) am ⟨158, [Pz ac], rfl, cf158, fun aj aG aH ap ag aI aq au av aw => by have ax := Arg.list av; exact (zdF ag so au ax (FnM.app (ai.app _) _) (Has.app (Has.here (k := 0) rfl) _) aw aj (St.refl aq)).mono fun ap aj ⟨aJ, ay, az, aA⟩ => by subst ay; exact ⟨az, aA⟩⟩ ao _ (St.give (T := [cBlk ac [aa] 159]) H rfl)) ?_
 rintro vq aB ⟨r2, aC, hvq, ak⟩
 subst aC
 subst vq
 try dsimp only at hM
 replace H : St w aB [cBlk ac [aa] 159] R := H.back ak rfl
 clear ak
 refine s_val (x_not (b := r2) rfl) <| sA (B (!r2)) rfl <| s_nil ?_
 refine W.ret ?_
 have aD := M.e_pure hM
 exact ⟨_, resE_tmp rfl, ⟨(!r2), aD, rfl, (H.pick [] (by decide) rfl)⟩⟩

def zbK (i : Int) (aa : List Work) : M Bool :=
  M.pure (inB i 0 ((aa.length : Int) - 1))
theorem zdu {R : List Chunk} {ae : Nat} {ag : Cells} {ac : Value} (i : Int) (aa : List Work) (am : Reads R ag) (ah : Sl ag ac aa) (aj : Has R (cBlk ae [ac] 22)) {r : Bool} (hM : (zbK i aa).Ends r) (w : World) (H : St w w [] R) : Ret Try.prog 124 #[I i, Pz ae] w fun v w' => ∃ (y0 : Bool), y0 = r /\ v = B y0 /\ St w w' [] R := by
 refine ret_of_W Try.func124 rfl rfl rfl ?_
 refine sQ rfl <| sA (B false) rfl <| s_nil <| sQ rfl <| sM (I i) rfl <| s_val (x_ld (v := ac) rfl (ldb_sc Sc22 (aj.blk H) rfl)) ?_
 have ao := (ah).len_le
 refine s_val (x_lenS T22.und rfl ah) <| sR _ _ ((aa.length : Int) - 1) rfl rfl rfl (by omega) ?_
 refine s_call cf84 [I i, I 0, I ((aa.length : Int) - 1)] rfl (in_any i 0 ((aa.length : Int) - 1) _) ?_
 rintro _ ak ⟨rfl, ai⟩
 replace H : St w ak [] R := H.ext ai
 clear ai
 refine sA (B (inB i 0 ((aa.length : Int) - 1))) rfl <| s_nil ?_
 refine W.ret ?_
 have al := M.e_pure hM
 exact ⟨_, resE_tmp rfl, ⟨(inB i 0 ((aa.length : Int) - 1)), al, rfl, H⟩⟩

def zbx (l : List Int) (aa : List Work) : M Bool :=
  M.bind (zbg (fun ac => zbK ac aa) l) fun r2 =>
  M.pure r2
theorem zdk {R : List Chunk} {ah : Cells} {ac : Value} {aa : Nat} {ai : Cells} {aj : Value} (l : List Int) (ae : List Work) (am : Reads R ah) (ao : Sl ah ac l) (ap : Reads R ai) (aq : Sl ai aj ae) (au : Has R (cBlk aa [aj] 22)) {r : Bool} (hM : (zbx l ae).Ends r) (w : World) (H : St w w [] R) : Ret Try.prog 123 #[ac, Pz aa] w fun v w' => ∃ (y0 : Bool), y0 = r /\ v = B y0 /\ St w w' [] R := by
 refine ret_of_W Try.func123 rfl rfl rfl ?_
 refine sQ rfl <| sA (B false) rfl <| s_nil <| sQ rfl <| s_val (x_mf (fs := []) (cs := [Pz aa]) rfl rfl) <| sM ac rfl ?_
 obtain ⟨aG, av, hM⟩ := M.e_bind hM
 refine s_call cf87 [.func (.func 124) #[] #[Pz aa], ac] rfl (zcp (fun ag => zbK ag ae) l ⟨124, [Pz aa], rfl, cf124, fun ak aH aI aw ag aJ ax aK ay az => by obtain rfl := Arg.int ay; exact (zdu ag ae (Reads.app (ap.app _) _) aq (Has.app (au.app _) _) az ak (St.refl ax)).mono fun aw ak ⟨aL, aA, aB, aC⟩ => by subst aA; exact ⟨aB, aC⟩⟩ (am.app _) ao av _ (St.give (T := []) H rfl)) ?_
 rintro vq aD ⟨r2, aE, hvq, al⟩
 subst aE
 subst vq
 try dsimp only at hM
 replace H : St w aD [] R := H.back al rfl
 clear al
 refine sA (B r2) rfl <| s_nil ?_
 refine W.ret ?_
 have aF := M.e_pure hM
 exact ⟨_, resE_tmp rfl, ⟨r2, aF, rfl, H⟩⟩

def zaR (revised : List Int) (work : Int) (lines : List (List Int)) (s2 : Nat) : ((List Bool) × Nat) -> M (((List Bool) × Nat) ⊕ ((List Bool) ⊕ (List Bool))) := fun (ar, s) =>
  bif decide ((s : Int) < ((((lines.getD s2 ([])).take (Int.toNat (((lines.getD s2 ([])).length : Int) - 1))).drop 1).length : Int)) then (
  M.grd (decide ((s : Int) < ((((lines.getD s2 ([])).take (Int.toNat (((lines.getD s2 ([])).length : Int) - 1))).drop 1).length : Int))) <|
  M.grd (decide ((0 : Int) <= ((((lines.getD s2 ([])).take (Int.toNat (((lines.getD s2 ([])).length : Int) - 1))).drop 1).getD s 0)) && decide (((((lines.getD s2 ([])).take (Int.toNat (((lines.getD s2 ([])).length : Int) - 1))).drop 1).getD s 0) < (30 : Int))) <|
  bif (((ar.getD (Int.toNat ((((lines.getD s2 ([])).take (Int.toNat (((lines.getD s2 ([])).length : Int) - 1))).drop 1).getD s 0)) false) || (((((lines.getD s2 ([])).take (Int.toNat (((lines.getD s2 ([])).length : Int) - 1))).drop 1).getD s 0) == work)) || (revised.contains ((((lines.getD s2 ([])).take (Int.toNat (((lines.getD s2 ([])).length : Int) - 1))).drop 1).getD s 0))) then (
  M.pure (.inr (.inl ar)))
  else (
  M.pure (.inl (ar.set (Int.toNat ((((lines.getD s2 ([])).take (Int.toNat (((lines.getD s2 ([])).length : Int) - 1))).drop 1).getD s 0)) true, s + 1))))
  else (
  M.pure (.inr (.inr ar)))
def zaD (w_ : List Work) (revised : List Int) (work : Int) (lines : List (List Int)) : ((List Bool) × Nat) -> M (((List Bool) × Nat) ⊕ ((List Bool) ⊕ (List Bool))) := fun (aa, s2) =>
  bif decide ((s2 : Int) < (lines.length : Int)) then (
  M.grd (decide ((s2 : Int) < (lines.length : Int))) <|
  M.bind (M.opt (!(decide (((lines.getD s2 ([])).length : Int) < 2))) (za5 w_ (lines.getD s2 ([]))) false) fun r3 =>
  M.grd ((!(!((decide (((lines.getD s2 ([])).length : Int) < 2)) || (!r3))) || (decide (0 < ((lines.getD s2 ([])).length : Int))))) <|
  M.grd ((!(!(((decide (((lines.getD s2 ([])).length : Int) < 2)) || (!r3)) || (!(revised.contains ((lines.getD s2 ([])).getD 0 0))))) || (decide ((0 : Int) <= (((lines.getD s2 ([])).length : Int) - 1)) && decide ((((lines.getD s2 ([])).length : Int) - 1) < ((lines.getD s2 ([])).length : Int))))) <|
  bif ((((decide (((lines.getD s2 ([])).length : Int) < 2)) || (!r3)) || (!(revised.contains ((lines.getD s2 ([])).getD 0 0)))) || (((lines.getD s2 ([])).getD (Int.toNat (((lines.getD s2 ([])).length : Int) - 1)) 0) != work)) then (
  M.pure (.inr (.inl aa)))
  else (
  M.grd (decide ((0 : Int) <= 1) && decide (1 <= (((lines.getD s2 ([])).length : Int) - 1)) && decide ((((lines.getD s2 ([])).length : Int) - 1) <= ((lines.getD s2 ([])).length : Int))) <|
  M.bind (M.iter (zaR revised work lines s2) (aa, 0)) fun x_ => match x_ with
  | (.inl ac) => (
  M.pure (.inr (.inl ac)))
  | (.inr ae) => (
  M.pure (.inl (ae, s2 + 1)))))
  else (
  M.pure (.inr (.inr aa)))
def zby (w_ : List Work) (revised : List Int) (work : Int) (lines : List (List Int)) : M (Bool × Int) :=
  M.bind (zap w_ revised work) fun x_ => match x_ with
  | (.inl r1) => (
  bif r1 != 0 then (
  M.pure (false, r1))
  else (
  M.fail))
  | (.inr aa) => (
  bif aa != 0 then (
  M.fail)
  else (
  bif decide (30 < (lines.length : Int)) then (
  M.pure (false, 3))
  else (
  M.bind (zbs (fun ac => zbx ac w_) lines) fun r2 =>
  bif !r2 then (
  M.pure (false, 2))
  else (
  M.bind (M.iter (zaD w_ revised work lines) (List.replicate 30 false, 0)) fun x_ => match x_ with
  | (.inl ae) => (
  M.pure (false, 0))
  | (.inr ag) => (
  M.pure (true, 0))))))
theorem zdJ {R : List Chunk} {aW : Cells} {ag : Value} {aX : Cells} {ai : Value} {aY : Cells} {am : Value} (w_ : List Work) (revised : List Int) (work : Int) (lines : List (List Int)) (aL : Reads R aW) (aF : Sl aW ag w_) (aM : Reads R aX) (aN : Sl aX ai revised) (ax : Reads R aY) (au : Sl aY am lines) {r : (Bool × Int)} (hM : (zby w_ revised work lines).Ends r) (w : World) (H : St w w [] R) : Ret Try.prog 61 #[ag, ai, I work, am] w fun v w' => ∃ (y0 : Bool) (y1 : Int), (y0, y1) = r /\ v = .tuple #[B y0, I y1] /\ St w w' [] R := by
 refine ret_of_W Try.func61 rfl rfl rfl ?_
 refine sQ rfl ?_
 refine t_box (v := ag) (cs := [ag]) H rfl (Sl.cells aF) ?_
 intro ak bM H
 refine sA (B false) rfl <| sA (I 0) rfl <| s_nil <| sQ rfl <| s_val (x_ld (v := ag) rfl (ldb_sc Sc22 (H.blk (k := 0) rfl) rfl)) <| sM ai rfl <| sM (I work) rfl ?_
 obtain ⟨bN, a9, hM⟩ := M.e_bind hM
 refine s_call cf116 [ag, ai, I work] rfl (zco w_ revised work (aL.app _) aF (aM.app _) aN a9 _ (St.give (T := [cBlk ak [ag] 22]) H rfl)) ?_
 rintro vq aZ (⟨r1, ba, hvq, ap⟩ | ⟨ao, al, ay, bb, hvq, ap, bc⟩)
 ·subst ba
  subst vq
  try dsimp only at hM
  replace H : St w aZ [cBlk ak [ag] 22] R := H.back ap rfl
  clear ap
  refine sM (.tuple #[.pointer none, I r1]) rfl <| sX [.pointer none, I r1] (.pointer none) rfl rfl <| sX [.pointer none, I r1] (I r1) rfl rfl <| sA (.pointer none) rfl <| sA (I r1) rfl <| s_nil <| W.seq <| W.block <| sQ rfl <| sM (I r1) rfl <| sC _ _ (r1 != 0) rfl rfl rfl ?_
  refine sA (B (r1 != 0)) rfl <| s_nil ?_
  refine W.cond (r1 != 0) rfl (fun aG => ?_) (fun aG => ?_)
  ·replace hM := M.e_t hM aG
   simp only [qz1, qz2, qz3, qz4, qz5, qz6, ne_eq, qz7] at aG
   refine sQ rfl <| sM (I r1) rfl <| sA (B false) rfl <| sA (I r1) rfl <| s_nil ?_
   refine W.ret ?_
   have aj := M.e_pure hM
   exact ⟨_, resE_tmp2 rfl, ⟨false, r1, aj, rfl, (H.pick [] (by decide) rfl)⟩⟩
  replace hM := M.e_f hM aG
  exact (M.e_fail hM).elim
 subst bb
 subst vq
 try dsimp only at hM
 replace H : St w aZ [cRo ay, cBlk ak [ag] 22] R := H.back ap rfl
 clear ap
 refine sM (.tuple #[Pz al, I ao]) rfl <| sX [Pz al, I ao] (Pz al) rfl rfl <| sX [Pz al, I ao] (I ao) rfl rfl <| sA (Pz al) rfl <| sA (I ao) rfl <| s_nil <| W.seq <| W.block <| sQ rfl <| sM (I ao) rfl <| sC _ _ (ao != 0) rfl rfl rfl ?_
 refine sA (B (ao != 0)) rfl <| s_nil ?_
 refine W.cond (ao != 0) rfl (fun aH => ?_) (fun aH => ?_)
 ·replace hM := M.e_t hM aH
  exact (M.e_fail hM).elim
 replace hM := M.e_f hM aH
 simp only [qz1, qz2, qz3, qz4, qz5, qz6, ne_eq, qz7] at aH
 refine sQ rfl <| sM am rfl ?_
 have bO := (au).len_le
 refine s_val (x_lenS T73.und rfl au) <| sC _ _ (decide (30 < (lines.length : Int))) rfl rfl rfl <| sA (B (decide (30 < (lines.length : Int)))) rfl <| s_nil ?_
 refine W.cond (decide (30 < (lines.length : Int))) rfl (fun aA => ?_) (fun aA => ?_)
 ·replace hM := M.e_t hM aA
  simp only [qz1, qz2, qz3, qz4, qz5, qz6, ne_eq, qz7] at aA
  refine sQ rfl <| sA (B false) rfl <| sA (I 3) rfl <| s_nil ?_
  refine W.ret ?_
  have aj := M.e_pure hM
  exact ⟨_, resE_tmp2 rfl, ⟨false, 3, aj, rfl, (H.pick [] (by decide) rfl)⟩⟩
 replace hM := M.e_f hM aA
 simp only [qz1, qz2, qz3, qz4, qz5, qz6, ne_eq, qz7] at aA
 refine sQ rfl <| s_val (x_mf (fs := []) (cs := [Pz ak]) rfl rfl) <| sM am rfl ?_
 obtain ⟨bP, bf, hM⟩ := M.e_bind hM
 refine s_call cf122 [.func (.func 123) #[] #[Pz ak], am] rfl (zdr (fun aO => zbx aO w_) lines ⟨123, [Pz ak], rfl, cf123, fun a5 bQ bR bg aO bS bh bi bj bk => by have bl := Arg.list bj; exact (zdk aO w_ bi bl (Reads.app (aL.app _) _) aF (Has.app (Has.here (k := 1) rfl) _) bk a5 (St.refl bh)).mono fun bg a5 ⟨bT, bm, bn, bo⟩ => by subst bm; exact ⟨bn, bo⟩⟩ (ax.app _) au bf _ (St.give (T := [cRo ay, cBlk ak [ag] 22]) H rfl)) ?_
 rintro vq bp ⟨r2, bq, hvq, ap⟩
 subst bq
 subst vq
 try dsimp only at hM
 replace H : St w bp [cRo ay, cBlk ak [ag] 22] R := H.back ap rfl
 clear ap
 refine s_val (x_not (b := r2) rfl) <| sA (B (!r2)) rfl <| s_nil ?_
 refine W.cond (!r2) rfl (fun aP => ?_) (fun aP => ?_)
 ·replace hM := M.e_t hM aP
  refine sQ rfl <| sA (B false) rfl <| sA (I 2) rfl <| s_nil ?_
  refine W.ret ?_
  have aj := M.e_pure hM
  exact ⟨_, resE_tmp2 rfl, ⟨false, 2, aj, rfl, (H.pick [] (by decide) rfl)⟩⟩
 replace hM := M.e_f hM aP
 refine W.skip <| sQ rfl ?_
 refine t_alloc (cs := encB (List.replicate 30 false)) H Al141 rfl ?_
 intro aq bU H
 have br : (List.replicate 30 false).length = 30 := by simp
 refine s_nil <| W.seq <| sQ rfl <| sM am rfl ?_
 have bV := (au).len_le
 refine s_val (x_lenS T73.und rfl au) <| sM (I 0) rfl <| s_nil <| W.block ?_
 obtain ⟨bt, aQ, aR⟩ := M.e_bind hM
 obtain ⟨bu, aQ⟩ := M.e_iter aQ
 refine W.loop (fun m σ W => ∃ (aB : List Bool) (s2 : Nat) (ρ : Env), σ = upds ρ [(1, ai), (2, I work), (10, Pz al), (12, Pz aq), (37, am), (38, I (lines.length : Int)), (39, I (s2 : Int))] /\ M.iterN (zaD w_ revised work lines) m (aB, s2) = some bt /\ St w W [cBlk aq (encB aB) 141, cRo ay, cBlk ak [ag] 22] R /\ aB.length = 30) ?_ ?_
 ·exact ⟨_, List.replicate 30 false, 0, _, upds_of _ _ ⟨rfl, rfl, rfl, rfl, rfl, rfl, rfl, trivial⟩, aQ, H, br⟩
 rintro bW σ bX ⟨aB, s2, ρ, rfl, a6, H, bv⟩
 obtain ⟨bw, bx, bY, hM, aI⟩ := M.e_iterN a6
 simp only [zaD] at hM
 clear a6
 refine sQ rfl <| sC _ _ (decide ((s2 : Int) < (lines.length : Int))) rfl rfl rfl <| s_nil <| W.seq ?_
 refine W.cond (decide ((s2 : Int) < (lines.length : Int))) rfl (fun aC => ?_) (fun aC => ?_)
 ·replace hM := M.e_t hM aC
  simp only [qz1, qz2, qz3, qz4, qz5, qz6, ne_eq, qz7] at aC
  refine W.skip <| W.seq <| W.block <| sQ rfl ?_
  obtain ⟨bZ, hM⟩ := M.e_gd hM
  refine s_val (x_ix (v := vat am 1 (Int.toNat (s2 : Int))) rfl rfl (Sl.ix (α := List Int) T73.und T73.size au (by omega) (by omega))) ?_
  obtain ⟨ac, bz, ah⟩ := List_at au (i := (s2 : Int)) (by omega) (by omega)
  replace ah : Sl _ ac (lines.getD s2 ([])) := ah
  have b6 := ah.len_le
  refine s_val (x_ld (v := ac) rfl (ld_sc Sc34 (At.mono (bz) (ax.at H)))) <| sA ac rfl <| s_nil <| W.seq <| sQ rfl <| sM ac rfl ?_
  have b9 := (ah).len_le
  refine s_val (x_lenS T34.und rfl ah) <| sC _ _ (decide (((lines.getD s2 ([])).length : Int) < 2)) rfl rfl rfl <| sM (B (decide (((lines.getD s2 ([])).length : Int) < 2))) rfl <| g_val (!(decide (((lines.getD s2 ([])).length : Int) < 2))) (gy_f rfl) (fun hg => x_mv (v := Pz al) rfl) <| g_val (!(decide (((lines.getD s2 ([])).length : Int) < 2))) (gy_f rfl) (fun hg => x_mv (v := ac) rfl) ?_
  obtain ⟨r3, bA, hM⟩ := M.e_bind hM
  refine t_gcall (!(decide (((lines.getD s2 ([])).length : Int) < 2))) (gy_f rfl) cf107 (B r3) (fun _ => [Pz al, ac]) (fun hg => lst2 (gd_of hg (Pz al)) (gd_of hg (ac))) H (fun hg => (zcY w_ (lines.getD s2 ([])) (aL.app _) aF (Has.ro (k := 1) rfl bc) (ax.app _) ah (M.e_opt bA hg) _ (H.give (A := []) rfl)).mono fun v_ w_ ⟨y_, aj, aD, H_⟩ => by subst aj; exact ⟨aD, H.via H_⟩) ?_
  intro ca H
  refine g_val (!(decide (((lines.getD s2 ([])).length : Int) < 2))) (gy_f rfl) (fun hg => x_not (b := r3) (gd_of hg (B r3))) <| s_val (x_por (b := decide (((lines.getD s2 ([])).length : Int) < 2)) (r := !r3) rfl rfl (fun hb => gd_of (c := !(decide (((lines.getD s2 ([])).length : Int) < 2))) (by first | exact hb | (rw [hb]; rfl) | simp_all) (B (!r3)))) <| sM (B ((decide (((lines.getD s2 ([])).length : Int) < 2)) || (!r3))) rfl <| g_val (!((decide (((lines.getD s2 ([])).length : Int) < 2)) || (!r3))) (gy_f rfl) (fun hg => x_mv (v := ai) rfl) <| g_val (!((decide (((lines.getD s2 ([])).length : Int) < 2)) || (!r3))) (gy_f rfl) (fun hg => x_mv (v := ac) rfl) ?_
  obtain ⟨av, hM⟩ := M.e_grd hM
  replace av := M.imp_of av
  simp only [Bool.and_eq_true, decide_eq_true_eq] at av
  refine g_val (!((decide (((lines.getD s2 ([])).length : Int) < 2)) || (!r3))) (gy_f rfl) (fun hg => x_ix (v := vat ac 1 (Int.toNat 0)) (gd_of hg (ac)) rfl (Sl.ix (α := Int) T34.und T34.size ah (by have aa := av.resolve_left (by rw [hg]; decide); first | exact aa | exact aa.1 | exact aa.2 | omega | (have ae := hg; simp at ae; omega)) (by have aa := av.resolve_left (by rw [hg]; decide); first | exact aa | exact aa.1 | exact aa.2 | omega | (have ae := hg; simp at ae; omega)))) <| g_val (!((decide (((lines.getD s2 ([])).length : Int) < 2)) || (!r3))) (gy_f rfl) (fun hg => x_ld (v := I ((lines.getD s2 ([])).getD 0 0)) (gd_of hg (vat ac 1 (Int.toNat 0))) (ld_sc Sc3 (At.mono (Int_at ah (i := 0) (by have aa := av.resolve_left (by rw [hg]; decide); first | exact aa | exact aa.1 | exact aa.2 | omega | (have ae := hg; simp at ae; omega)) (by have aa := av.resolve_left (by rw [hg]; decide); first | exact aa | exact aa.1 | exact aa.2 | omega | (have ae := hg; simp at ae; omega))) (ax.at H)))) ?_
  refine t_gcall (!((decide (((lines.getD s2 ([])).length : Int) < 2)) || (!r3))) (gy_f rfl) cf45 (B (revised.contains ((lines.getD s2 ([])).getD 0 0))) (fun _ => [ai, I ((lines.getD s2 ([])).getD 0 0)]) (fun hg => lst2 (gd_of hg (ai)) (gd_of hg (I ((lines.getD s2 ([])).getD 0 0)))) H (fun hg => Ret.mono (contains_int ((lines.getD s2 ([])).getD 0 0) _ (aN.mono (aM.at H))) fun v_ w_ ⟨aD, ae⟩ => ⟨aD, H.ext ae⟩) ?_
  intro cb H
  refine g_val (!((decide (((lines.getD s2 ([])).length : Int) < 2)) || (!r3))) (gy_f rfl) (fun hg => x_not (b := revised.contains ((lines.getD s2 ([])).getD 0 0)) (gd_of hg (B (revised.contains ((lines.getD s2 ([])).getD 0 0))))) <| s_val (x_por (b := ((decide (((lines.getD s2 ([])).length : Int) < 2)) || (!r3))) (r := !(revised.contains ((lines.getD s2 ([])).getD 0 0))) rfl rfl (fun hb => gd_of (c := !((decide (((lines.getD s2 ([])).length : Int) < 2)) || (!r3))) (by first | exact hb | (rw [hb]; rfl) | simp_all) (B (!(revised.contains ((lines.getD s2 ([])).getD 0 0)))))) <| sM (B (((decide (((lines.getD s2 ([])).length : Int) < 2)) || (!r3)) || (!(revised.contains ((lines.getD s2 ([])).getD 0 0))))) rfl <| g_val (!(((decide (((lines.getD s2 ([])).length : Int) < 2)) || (!r3)) || (!(revised.contains ((lines.getD s2 ([])).getD 0 0))))) (gy_f rfl) (fun hg => x_mv (v := ac) rfl) <| g_val (!(((decide (((lines.getD s2 ([])).length : Int) < 2)) || (!r3)) || (!(revised.contains ((lines.getD s2 ([])).getD 0 0))))) (gy_f rfl) (fun hg => x_mv (v := ac) rfl) <| g_val (!(((decide (((lines.getD s2 ([])).length : Int) < 2)) || (!r3)) || (!(revised.contains ((lines.getD s2 ([])).getD 0 0))))) (gy_f rfl) (fun hg => x_lenS T34.und (gd_of hg (ac)) ah) <| g_val (!(((decide (((lines.getD s2 ([])).length : Int) < 2)) || (!r3)) || (!(revised.contains ((lines.getD s2 ([])).getD 0 0))))) (gy_f rfl) (fun hg => x_ari (r := ((lines.getD s2 ([])).length : Int) - 1) (gd_of hg (I ((lines.getD s2 ([])).length : Int))) rfl rfl (by first | omega | (have ae := hg; simp at ae; omega))) ?_
  obtain ⟨aw, hM⟩ := M.e_grd hM
  replace aw := M.imp_of aw
  simp only [Bool.and_eq_true, decide_eq_true_eq] at aw
  refine g_val (!(((decide (((lines.getD s2 ([])).length : Int) < 2)) || (!r3)) || (!(revised.contains ((lines.getD s2 ([])).getD 0 0))))) (gy_f rfl) (fun hg => x_ix (v := vat ac 1 (Int.toNat (((lines.getD s2 ([])).length : Int) - 1))) (gd_of hg (ac)) (gd_of hg (I (((lines.getD s2 ([])).length : Int) - 1))) (Sl.ix (α := Int) T34.und T34.size ah (by have aa := aw.resolve_left (by rw [hg]; decide); first | exact aa | exact aa.1 | exact aa.2 | omega | (have ae := hg; simp at ae; omega)) (by have aa := aw.resolve_left (by rw [hg]; decide); first | exact aa | exact aa.1 | exact aa.2 | omega | (have ae := hg; simp at ae; omega)))) <| g_val (!(((decide (((lines.getD s2 ([])).length : Int) < 2)) || (!r3)) || (!(revised.contains ((lines.getD s2 ([])).getD 0 0))))) (gy_f rfl) (fun hg => x_ld (v := I ((lines.getD s2 ([])).getD (Int.toNat (((lines.getD s2 ([])).length : Int) - 1)) 0)) (gd_of hg (vat ac 1 (Int.toNat (((lines.getD s2 ([])).length : Int) - 1)))) (ld_sc Sc3 (At.mono (Int_at ah (i := ((lines.getD s2 ([])).length : Int) - 1) (by have aa := aw.resolve_left (by rw [hg]; decide); first | exact aa | exact aa.1 | exact aa.2 | omega | (have ae := hg; simp at ae; omega)) (by have aa := aw.resolve_left (by rw [hg]; decide); first | exact aa | exact aa.1 | exact aa.2 | omega | (have ae := hg; simp at ae; omega))) (ax.at H)))) <| g_val (!(((decide (((lines.getD s2 ([])).length : Int) < 2)) || (!r3)) || (!(revised.contains ((lines.getD s2 ([])).getD 0 0))))) (gy_f rfl) (fun hg => x_mv (v := I work) rfl) <| g_val (!(((decide (((lines.getD s2 ([])).length : Int) < 2)) || (!r3)) || (!(revised.contains ((lines.getD s2 ([])).getD 0 0))))) (gy_f rfl) (fun hg => x_cmp (kd := .i64) (r := ((lines.getD s2 ([])).getD (Int.toNat (((lines.getD s2 ([])).length : Int) - 1)) 0) != work) (gd_of hg (I ((lines.getD s2 ([])).getD (Int.toNat (((lines.getD s2 ([])).length : Int) - 1)) 0))) (gd_of hg (I work)) rfl) <| s_val (x_por (b := (((decide (((lines.getD s2 ([])).length : Int) < 2)) || (!r3)) || (!(revised.contains ((lines.getD s2 ([])).getD 0 0))))) (r := ((lines.getD s2 ([])).getD (Int.toNat (((lines.getD s2 ([])).length : Int) - 1)) 0) != work) rfl rfl (fun hb => gd_of (c := !(((decide (((lines.getD s2 ([])).length : Int) < 2)) || (!r3)) || (!(revised.contains ((lines.getD s2 ([])).getD 0 0))))) (by first | exact hb | (rw [hb]; rfl) | simp_all) (B (((lines.getD s2 ([])).getD (Int.toNat (((lines.getD s2 ([])).length : Int) - 1)) 0) != work)))) <| s_nil ?_
  refine W.cond ((((decide (((lines.getD s2 ([])).length : Int) < 2)) || (!r3)) || (!(revised.contains ((lines.getD s2 ([])).getD 0 0)))) || (((lines.getD s2 ([])).getD (Int.toNat (((lines.getD s2 ([])).length : Int) - 1)) 0) != work)) rfl (fun aS => ?_) (fun aS => ?_)
  ·replace hM := M.e_t hM aS
   refine sQ rfl <| sA (B false) rfl <| sA (I 0) rfl <| s_nil ?_
   refine W.ret ?_
   have bB := M.e_inr hM aI
   subst bB
   replace hM := aR
   try dsimp only at hM
   have aj := M.e_pure hM
   exact ⟨_, resE_tmp2 rfl, ⟨false, 0, aj, rfl, (H.pick [] (by decide) rfl)⟩⟩
  replace hM := M.e_f hM aS
  refine W.skip <| sQ rfl <| sM ac rfl <| sM ac rfl ?_
  have cc := (ah).len_le
  refine s_val (x_lenS T34.und rfl ah) <| sR _ _ (((lines.getD s2 ([])).length : Int) - 1) rfl rfl rfl (by omega) ?_
  obtain ⟨cd, hM⟩ := M.e_gd hM
  obtain ⟨aJ, bC, az⟩ := sl_lohi T34.und T34.size ah (i := 1) (j := ((lines.getD s2 ([])).length : Int) - 1) (by omega) (by omega) (by omega)
  replace az : Sl _ aJ (((lines.getD s2 ([])).take (Int.toNat (((lines.getD s2 ([])).length : Int) - 1))).drop 1) := az
  refine s_val (x_sl (v := ac) (u := aJ) (lo' := some (I 1)) (hi' := some (I (((lines.getD s2 ([])).length : Int) - 1))) (mx' := none) rfl rfl rfl rfl (bC _)) ?_
  have ce := (az).len_le
  refine s_val (x_lenS T34.und rfl az) <| sM (I 0) rfl <| s_nil <| W.block ?_
  obtain ⟨bD, aT, a7⟩ := M.e_bind hM
  obtain ⟨bu, aT⟩ := M.e_iter aT
  refine W.loop (fun m σ W => ∃ (ar : List Bool) (s : Nat) (ρ : Env), σ = upds ρ [(1, ai), (2, I work), (10, Pz al), (12, Pz aq), (37, am), (38, I (lines.length : Int)), (39, I (s2 : Int)), (47, gd (!(decide (((lines.getD s2 ([])).length : Int) < 2))) (Pz al)), (48, gd (!(decide (((lines.getD s2 ([])).length : Int) < 2))) ac), (49, gd (!(decide (((lines.getD s2 ([])).length : Int) < 2))) (B r3)), (50, gd (!(decide (((lines.getD s2 ([])).length : Int) < 2))) (B (!r3))), (53, gd (!((decide (((lines.getD s2 ([])).length : Int) < 2)) || (!r3))) ai), (54, gd (!((decide (((lines.getD s2 ([])).length : Int) < 2)) || (!r3))) ac), (55, gd (!((decide (((lines.getD s2 ([])).length : Int) < 2)) || (!r3))) (vat ac 1 (Int.toNat 0))), (56, gd (!((decide (((lines.getD s2 ([])).length : Int) < 2)) || (!r3))) (I ((lines.getD s2 ([])).getD 0 0))), (57, gd (!((decide (((lines.getD s2 ([])).length : Int) < 2)) || (!r3))) (B (revised.contains ((lines.getD s2 ([])).getD 0 0)))), (58, gd (!((decide (((lines.getD s2 ([])).length : Int) < 2)) || (!r3))) (B (!(revised.contains ((lines.getD s2 ([])).getD 0 0))))), (61, gd (!(((decide (((lines.getD s2 ([])).length : Int) < 2)) || (!r3)) || (!(revised.contains ((lines.getD s2 ([])).getD 0 0))))) ac), (62, gd (!(((decide (((lines.getD s2 ([])).length : Int) < 2)) || (!r3)) || (!(revised.contains ((lines.getD s2 ([])).getD 0 0))))) ac), (63, gd (!(((decide (((lines.getD s2 ([])).length : Int) < 2)) || (!r3)) || (!(revised.contains ((lines.getD s2 ([])).getD 0 0))))) (I ((lines.getD s2 ([])).length : Int))), (64, gd (!(((decide (((lines.getD s2 ([])).length : Int) < 2)) || (!r3)) || (!(revised.contains ((lines.getD s2 ([])).getD 0 0))))) (I (((lines.getD s2 ([])).length : Int) - 1))), (65, gd (!(((decide (((lines.getD s2 ([])).length : Int) < 2)) || (!r3)) || (!(revised.contains ((lines.getD s2 ([])).getD 0 0))))) (vat ac 1 (Int.toNat (((lines.getD s2 ([])).length : Int) - 1)))), (66, gd (!(((decide (((lines.getD s2 ([])).length : Int) < 2)) || (!r3)) || (!(revised.contains ((lines.getD s2 ([])).getD 0 0))))) (I ((lines.getD s2 ([])).getD (Int.toNat (((lines.getD s2 ([])).length : Int) - 1)) 0))), (67, gd (!(((decide (((lines.getD s2 ([])).length : Int) < 2)) || (!r3)) || (!(revised.contains ((lines.getD s2 ([])).getD 0 0))))) (I work)), (68, gd (!(((decide (((lines.getD s2 ([])).length : Int) < 2)) || (!r3)) || (!(revised.contains ((lines.getD s2 ([])).getD 0 0))))) (B (((lines.getD s2 ([])).getD (Int.toNat (((lines.getD s2 ([])).length : Int) - 1)) 0) != work))), (74, aJ), (75, I ((((lines.getD s2 ([])).take (Int.toNat (((lines.getD s2 ([])).length : Int) - 1))).drop 1).length : Int)), (76, I (s : Int))] /\ M.iterN (zaR revised work lines s2) m (ar, s) = some bD /\ St w W [cBlk aq (encB ar) 141, cRo ay, cBlk ak [ag] 22] R /\ ar.length = 30) ?_ ?_
  ·exact ⟨_, aB, 0, _, upds_of _ _ ⟨rfl, rfl, rfl, rfl, rfl, rfl, rfl, rfl, rfl, rfl, rfl, rfl, rfl, rfl, rfl, rfl, rfl, rfl, rfl, rfl, rfl, rfl, rfl, rfl, rfl, rfl, rfl, rfl, trivial⟩, aT, H, bv⟩
  rintro cf σ cg ⟨ar, s, ρ, rfl, a8, H, aK⟩
  obtain ⟨bE, bF, ci, hM, aU⟩ := M.e_iterN a8
  simp only [zaR] at hM
  clear a8
  refine sQ rfl <| sC _ _ (decide ((s : Int) < ((((lines.getD s2 ([])).take (Int.toNat (((lines.getD s2 ([])).length : Int) - 1))).drop 1).length : Int))) rfl rfl rfl <| s_nil <| W.seq ?_
  refine W.cond (decide ((s : Int) < ((((lines.getD s2 ([])).take (Int.toNat (((lines.getD s2 ([])).length : Int) - 1))).drop 1).length : Int))) rfl (fun aE => ?_) (fun aE => ?_)
  ·replace hM := M.e_t hM aE
   simp only [qz1, qz2, qz3, qz4, qz5, qz6, ne_eq, qz7] at aE
   refine W.skip <| W.seq <| W.block <| sQ rfl ?_
   obtain ⟨cj, hM⟩ := M.e_gd hM
   refine s_val (x_ix (v := vat aJ 1 (Int.toNat (s : Int))) rfl rfl (Sl.ix (α := Int) T34.und T34.size az (by omega) (by omega))) <| s_val (x_ld (v := I ((((lines.getD s2 ([])).take (Int.toNat (((lines.getD s2 ([])).length : Int) - 1))).drop 1).getD s 0)) rfl (ld_sc Sc3 (At.mono (Int_at az (i := (s : Int)) (by omega) (by omega)) (ax.at H)))) <| sA (I ((((lines.getD s2 ([])).take (Int.toNat (((lines.getD s2 ([])).length : Int) - 1))).drop 1).getD s 0)) rfl <| s_nil <| W.seq <| sQ rfl <| sM (I ((((lines.getD s2 ([])).take (Int.toNat (((lines.getD s2 ([])).length : Int) - 1))).drop 1).getD s 0)) rfl ?_
   obtain ⟨ck, hM⟩ := M.e_gd hM
   refine s_val (x_ix (v := .pointer (some ⟨aq, 0 + Int.toNat ((((lines.getD s2 ([])).take (Int.toNat (((lines.getD s2 ([])).length : Int) - 1))).drop 1).getD s 0), none⟩)) rfl rfl (run_indexArr Try.underlying141 Sz4 (by omega) (by omega))) <| s_val (x_ld (v := B (ar.getD (Int.toNat ((((lines.getD s2 ([])).take (Int.toNat (((lines.getD s2 ([])).length : Int) - 1))).drop 1).getD s 0)) false)) rfl (ldArr Sc4 (H.blk (k := 0) rfl) (by omega) (by have bG := aK; omega))) <| sM (B (ar.getD (Int.toNat ((((lines.getD s2 ([])).take (Int.toNat (((lines.getD s2 ([])).length : Int) - 1))).drop 1).getD s 0)) false)) rfl <| g_val (!(ar.getD (Int.toNat ((((lines.getD s2 ([])).take (Int.toNat (((lines.getD s2 ([])).length : Int) - 1))).drop 1).getD s 0)) false)) (gy_f rfl) (fun hg => x_mv (v := I ((((lines.getD s2 ([])).take (Int.toNat (((lines.getD s2 ([])).length : Int) - 1))).drop 1).getD s 0)) rfl) <| g_val (!(ar.getD (Int.toNat ((((lines.getD s2 ([])).take (Int.toNat (((lines.getD s2 ([])).length : Int) - 1))).drop 1).getD s 0)) false)) (gy_f rfl) (fun hg => x_mv (v := I work) rfl) <| g_val (!(ar.getD (Int.toNat ((((lines.getD s2 ([])).take (Int.toNat (((lines.getD s2 ([])).length : Int) - 1))).drop 1).getD s 0)) false)) (gy_f rfl) (fun hg => x_cmp (kd := .i64) (r := ((((lines.getD s2 ([])).take (Int.toNat (((lines.getD s2 ([])).length : Int) - 1))).drop 1).getD s 0) == work) (gd_of hg (I ((((lines.getD s2 ([])).take (Int.toNat (((lines.getD s2 ([])).length : Int) - 1))).drop 1).getD s 0))) (gd_of hg (I work)) rfl) <| s_val (x_por (b := ar.getD (Int.toNat ((((lines.getD s2 ([])).take (Int.toNat (((lines.getD s2 ([])).length : Int) - 1))).drop 1).getD s 0)) false) (r := ((((lines.getD s2 ([])).take (Int.toNat (((lines.getD s2 ([])).length : Int) - 1))).drop 1).getD s 0) == work) rfl rfl (fun hb => gd_of (c := !(ar.getD (Int.toNat ((((lines.getD s2 ([])).take (Int.toNat (((lines.getD s2 ([])).length : Int) - 1))).drop 1).getD s 0)) false)) (by first | exact hb | (rw [hb]; rfl) | simp_all) (B (((((lines.getD s2 ([])).take (Int.toNat (((lines.getD s2 ([])).length : Int) - 1))).drop 1).getD s 0) == work)))) <| sM (B ((ar.getD (Int.toNat ((((lines.getD s2 ([])).take (Int.toNat (((lines.getD s2 ([])).length : Int) - 1))).drop 1).getD s 0)) false) || (((((lines.getD s2 ([])).take (Int.toNat (((lines.getD s2 ([])).length : Int) - 1))).drop 1).getD s 0) == work))) rfl <| g_val (!((ar.getD (Int.toNat ((((lines.getD s2 ([])).take (Int.toNat (((lines.getD s2 ([])).length : Int) - 1))).drop 1).getD s 0)) false) || (((((lines.getD s2 ([])).take (Int.toNat (((lines.getD s2 ([])).length : Int) - 1))).drop 1).getD s 0) == work))) (gy_f rfl) (fun hg => x_mv (v := ai) rfl) <| g_val (!((ar.getD (Int.toNat ((((lines.getD s2 ([])).take (Int.toNat (((lines.getD s2 ([])).length : Int) - 1))).drop 1).getD s 0)) false) || (((((lines.getD s2 ([])).take (Int.toNat (((lines.getD s2 ([])).length : Int) - 1))).drop 1).getD s 0) == work))) (gy_f rfl) (fun hg => x_mv (v := I ((((lines.getD s2 ([])).take (Int.toNat (((lines.getD s2 ([])).length : Int) - 1))).drop 1).getD s 0)) rfl) ?_
   refine t_gcall (!((ar.getD (Int.toNat ((((lines.getD s2 ([])).take (Int.toNat (((lines.getD s2 ([])).length : Int) - 1))).drop 1).getD s 0)) false) || (((((lines.getD s2 ([])).take (Int.toNat (((lines.getD s2 ([])).length : Int) - 1))).drop 1).getD s 0) == work))) (gy_f rfl) cf45 (B (revised.contains ((((lines.getD s2 ([])).take (Int.toNat (((lines.getD s2 ([])).length : Int) - 1))).drop 1).getD s 0))) (fun _ => [ai, I ((((lines.getD s2 ([])).take (Int.toNat (((lines.getD s2 ([])).length : Int) - 1))).drop 1).getD s 0)]) (fun hg => lst2 (gd_of hg (ai)) (gd_of hg (I ((((lines.getD s2 ([])).take (Int.toNat (((lines.getD s2 ([])).length : Int) - 1))).drop 1).getD s 0)))) H (fun hg => Ret.mono (contains_int ((((lines.getD s2 ([])).take (Int.toNat (((lines.getD s2 ([])).length : Int) - 1))).drop 1).getD s 0) _ (aN.mono (aM.at H))) fun v_ w_ ⟨aD, ae⟩ => ⟨aD, H.ext ae⟩) ?_
   intro cm H
   refine s_val (x_por (b := ((ar.getD (Int.toNat ((((lines.getD s2 ([])).take (Int.toNat (((lines.getD s2 ([])).length : Int) - 1))).drop 1).getD s 0)) false) || (((((lines.getD s2 ([])).take (Int.toNat (((lines.getD s2 ([])).length : Int) - 1))).drop 1).getD s 0) == work))) (r := revised.contains ((((lines.getD s2 ([])).take (Int.toNat (((lines.getD s2 ([])).length : Int) - 1))).drop 1).getD s 0)) rfl rfl (fun hb => gd_of (c := !((ar.getD (Int.toNat ((((lines.getD s2 ([])).take (Int.toNat (((lines.getD s2 ([])).length : Int) - 1))).drop 1).getD s 0)) false) || (((((lines.getD s2 ([])).take (Int.toNat (((lines.getD s2 ([])).length : Int) - 1))).drop 1).getD s 0) == work))) (by first | exact hb | (rw [hb]; rfl) | simp_all) (B (revised.contains ((((lines.getD s2 ([])).take (Int.toNat (((lines.getD s2 ([])).length : Int) - 1))).drop 1).getD s 0))))) <| s_nil ?_
   refine W.cond (((ar.getD (Int.toNat ((((lines.getD s2 ([])).take (Int.toNat (((lines.getD s2 ([])).length : Int) - 1))).drop 1).getD s 0)) false) || (((((lines.getD s2 ([])).take (Int.toNat (((lines.getD s2 ([])).length : Int) - 1))).drop 1).getD s 0) == work)) || (revised.contains ((((lines.getD s2 ([])).take (Int.toNat (((lines.getD s2 ([])).length : Int) - 1))).drop 1).getD s 0))) rfl (fun aV => ?_) (fun aV => ?_)
   ·replace hM := M.e_t hM aV
    refine sQ rfl <| sA (B false) rfl <| sA (I 0) rfl <| s_nil ?_
    refine W.ret ?_
    have bH := M.e_inr hM aU
    subst bH
    replace hM := a7
    try dsimp only at hM
    have bI := M.e_inr hM aI
    subst bI
    replace hM := aR
    try dsimp only at hM
    have aj := M.e_pure hM
    exact ⟨_, resE_tmp2 rfl, ⟨false, 0, aj, rfl, (H.pick [] (by decide) rfl)⟩⟩
   replace hM := M.e_f hM aV
   refine W.skip <| W.region rfl <| sM (I ((((lines.getD s2 ([])).take (Int.toNat (((lines.getD s2 ([])).length : Int) - 1))).drop 1).getD s 0)) rfl <| s_val (x_ix (v := .pointer (some ⟨aq, 0 + Int.toNat ((((lines.getD s2 ([])).take (Int.toNat (((lines.getD s2 ([])).length : Int) - 1))).drop 1).getD s 0), none⟩)) rfl rfl (run_indexArr Try.underlying141 Sz4 (by omega) (by omega))) ?_
   refine t_stArr (k := 0) (b := aq) (l := ar) (l' := ar.set (Int.toNat ((((lines.getD s2 ([])).take (Int.toNat (((lines.getD s2 ([])).length : Int) - 1))).drop 1).getD s 0)) true) (i := (((lines.getD s2 ([])).take (Int.toNat (((lines.getD s2 ([])).length : Int) - 1))).drop 1).getD s 0) (v := true) (L' := [cBlk aq (encB (ar.set (Int.toNat ((((lines.getD s2 ([])).take (Int.toNat (((lines.getD s2 ([])).length : Int) - 1))).drop 1).getD s 0)) true)) 141, cRo ay, cBlk ak [ag] 22]) H rfl rfl rfl Sz4 (by omega) (by have bG := aK; omega) rfl rfl ?_
   intro cn H
   have bJ : (ar.set (Int.toNat ((((lines.getD s2 ([])).take (Int.toNat (((lines.getD s2 ([])).length : Int) - 1))).drop 1).getD s 0)) true).length = 30 := List.length_set.trans aK
   refine s_nil <| W.region rfl <| sR _ _ ((s : Int) + 1) rfl rfl rfl (by omega) <| sM (I ((s : Int) + 1)) rfl <| s_nil ?_
   exact ⟨bE, bF, ar.set (Int.toNat ((((lines.getD s2 ([])).take (Int.toNat (((lines.getD s2 ([])).length : Int) - 1))).drop 1).getD s 0)) true, s + 1, _, upds_of _ _ ⟨rfl, rfl, rfl, rfl, rfl, rfl, rfl, rfl, rfl, rfl, rfl, rfl, rfl, rfl, rfl, rfl, rfl, rfl, rfl, rfl, rfl, rfl, rfl, rfl, rfl, rfl, rfl, rfl, trivial⟩, M.e_inl hM aU, H, bJ⟩
  replace hM := M.e_f hM aE
  simp only [qz1, qz2, qz3, qz4, qz5, qz6, ne_eq, qz7] at aE
  refine W.exit ?_
  have bK := M.e_inr hM aU
  subst bK
  replace hM := a7
  try dsimp only at hM
  refine W.region rfl <| sR _ _ ((s2 : Int) + 1) rfl rfl rfl (by omega) <| sM (I ((s2 : Int) + 1)) rfl <| s_nil ?_
  exact ⟨bw, bx, ar, s2 + 1, _, upds_of _ _ ⟨rfl, rfl, rfl, rfl, rfl, rfl, rfl, trivial⟩, M.e_inl hM aI, H, aK⟩
 replace hM := M.e_f hM aC
 simp only [qz1, qz2, qz3, qz4, qz5, qz6, ne_eq, qz7] at aC
 refine W.exit ?_
 have bL := M.e_inr hM aI
 subst bL
 replace hM := aR
 try dsimp only at hM
 refine sQ rfl <| sA (B true) rfl <| sA (I 0) rfl <| s_nil ?_
 refine W.ret ?_
 have aj := M.e_pure hM
 exact ⟨_, resE_tmp2 rfl, ⟨true, 0, aj, rfl, (H.pick [] (by decide) rfl)⟩⟩

end Go.Proofs.Ytndobgodeicloaa
end
namespace Go.Nm
variable {ws : List Work} {rev F : List Int} {t : Nat}
/-- One step on, to a work that is not frozen. -/
def SuccF (ws : List Work) (F : List Int) (x y : Int) : Prop := Succ ws x y /\ y ∉ F
/-- What a search that finds nothing leaves. -/
structure SrchF (ws : List Work) (F : List Int) (m m' : Int -> Option Bool) (to_ : Int) : Prop where
  up : ∀ x, mt m x -> mt m' x
  cl : ∀ x, mt m' x -> mt m x ∨ ∀ y, SuccF ws F x y -> mt m' y
  no : ¬ mt m to_ -> ¬ mt m' to_
theorem SrchF.refl (m : Int -> Option Bool) (to_ : Int) : SrchF ws F m m to_ := ⟨fun _ h => h, fun _ h => .inl h, fun h => h⟩
theorem SrchF.trans {a b c : Int -> Option Bool} {to_ : Int} (h : SrchF ws F a b to_) (k : SrchF ws F b c to_) : SrchF ws F a c to_ :=
  ⟨fun x hx => k.up x (h.up x hx), fun x hx => by
    rcases k.cl x hx with h1 | h1
    · rcases h.cl x h1 with h2 | h2
      · exact .inl h2
      · exact .inr fun y hy => k.up y (h2 y hy)
    · exact .inr h1, fun hn => k.no (h.no hn)⟩
/-- A way on that no frozen work is on. -/
inductive WayF (ws : List Work) (F : List Int) : Int -> Int -> Prop
  | one (x : Int) : WayF ws F x x
  | cons {x y z : Int} (h : SuccF ws F x y) (w : WayF ws F y z) : WayF ws F x z
theorem WayF.snoc {x y z : Int} (w : WayF ws F x y) (h : SuccF ws F y z) : WayF ws F x z := by
  induction w with
  | one x => exact .cons h (.one _)
  | cons h' _ ih => exact .cons h' (ih h)
theorem WayF.rch {x z : Int} (w : WayF ws F x z) : 0 <= x -> Rch ws rev F x.toNat -> Rch ws rev F z.toNat := by
  induction w with
  | one x => exact fun _ => id
  | @cons x y z h w ih =>
    intro h0 hx
    have hs := h.1
    exact ih hs.1 (.step hx (by have := hs.2.1; have := hs.1; omega) (by rw [Int.toNat_of_nonneg h0]; exact hs.2.2) (by rw [Int.toNat_of_nonneg hs.1]; exact h.2))
theorem rch_way (hr : ∀ r ∈ rev, 0 <= r /\ r < (ws.length : Int)) {k : Nat} (h : Rch ws rev F k) : ∃ r ∈ rev, WayF ws F r (k : Int) := by
  induction h with
  | @base r h => exact ⟨r, h, by rw [Int.toNat_of_nonneg (hr r h).1]; exact .one r⟩
  | @step k i _ hi hm hf ih =>
    obtain ⟨r, h1, h2⟩ := ih
    exact ⟨r, h1, h2.snoc ⟨⟨by omega, by omega, by rw [Int.toNat_natCast]; exact hm⟩, hf⟩⟩
theorem way_closed {m : Int -> Option Bool} (hc : ∀ x, mt m x -> ∀ y, SuccF ws F x y -> mt m y) {x z : Int} (w : WayF ws F x z) : mt m x -> mt m z := by
  induction w with
  | one x => exact id
  | cons h _ ih => exact fun hx => ih (hc _ hx _ h)
theorem asc_pair {l : List Int} (h : AscTo l l.length) : ∀ i j, i < j -> j < l.length -> l.getD i 0 < l.getD j 0 := by
  intro i j hij
  induction j with
  | zero => omega
  | succ j ih =>
    intro hj
    have h1 := h (j + 1) (by omega) hj
    rw [Nat.add_sub_cancel] at h1
    by_cases e : i = j
    · subst e; exact h1
    · have := ih (by omega) (by omega)
      omega
theorem asc_nodup {l : List Int} (h : AscTo l l.length) : l.Nodup := by
  rw [List.Nodup, List.pairwise_iff_getElem]
  intro i j hi hj hij e
  have := asc_pair h i j hij hj
  rw [getD_el l hi 0, getD_el l hj 0, e] at this
  omega
/-- What a search with frozen works ends in. -/
def OnF (ws : List Work) (F : List Int) (m : Int -> Option Bool) (a to_ : Int) (r : List Int × (Int -> Option Bool)) : Prop :=
  (r.1 ≠ [] /\ WayF ws F a to_ /\ r.1.length + posO ws a <= ws.length) ∨ (r.1 = [] /\ SrchF ws F m r.2 to_ /\ mt r.2 a)
end Go.Nm
namespace Go.Proofs.Ytndobgodeicloaa
open Go Go.Nm
variable {ws : List Work} {rev F : List Int} {t : Nat}
theorem on_outF (hO : openedE ws = 0) {to_ : Int} (hto_ : to_ ∉ F) : ∀ (d : Nat) (a : Int) (m : Int -> Option Bool), 0 <= a -> a < ws.length -> ws.length - posO ws a <= d →
    (zbC ws (fun x => zac x F) m a to_).Out (OnF ws F m a to_) := by
  intro d
  induction d with
  | zero => intro a m h0 h1 hd; have := posO_le (order_all hO h0 h1); omega
  | succ d ih =>
    intro a m h0 h1 hd
    have h1' := h1
    have hlen := right_len (opened_right hO)
    have hpa := posO_le (order_all hO h0 h1)
    suffices h : (zaa (M.fix zaa zcr) (ws, (fun x => zac x F), m, a, to_)).Out (OnF ws F m a to_) by
      obtain ⟨r, h2, h3⟩ := h
      exact ⟨r, M.i_fix h2, h3⟩
    simp only [zaa]
    refine M.o_if (fun hb => ?_) (fun hb => ?_)
    · have e : a = to_ := by simpa using hb
      subst e
      exact M.o_pure (.inl ⟨by simp, .one a, by simp only [List.length_cons, List.length_nil]; omega⟩)
    · have hne : a ≠ to_ := by simpa using hb
      refine M.o_bindE (M.i_pure : (zbF ws a).Ends a) ?_
      refine M.o_bind (made_out' (x := a) (fun i t => ∃ mp, t = .inl mp /\ SrchF ws F (updF m a true) mp to_ /\ ∀ y : Nat, y < i -> SuccF ws F a (y : Int) -> mt mp (y : Int))
        (fun t => ∃ l mp, t = .inr (l, mp) /\ l ≠ [] /\ WayF ws F a to_ /\ l.length + posO ws a <= ws.length) ?_ ?_ ⟨_, rfl, SrchF.refl _ _, fun y hy => by omega⟩) ?_
      · rintro i t hi ⟨mp, rfl, hs, hy⟩ hm
        have hsu : Succ ws a (i : Int) := ⟨by omega, by omega, by rw [Int.toNat_natCast]; exact hm⟩
        have hlt := posO_lt (order_all hO (i := (i : Int)) (by omega) (by omega)) (by rw [Int.toNat_natCast]; exact hm)
        have next : ∀ mp', SrchF ws F (updF m a true) mp' to_ -> (∀ x, mt mp x -> mt mp' x) -> ((i : Int) ∉ F -> mt mp' (i : Int)) -> ∃ mp2, (Sum.inl mp' : (Int -> Option Bool) ⊕ (List Int × (Int -> Option Bool))) = .inl mp2 /\ SrchF ws F (updF m a true) mp2 to_ /\ ∀ y : Nat, y < i + 1 -> SuccF ws F a (y : Int) -> mt mp2 (y : Int) :=
          fun mp' h1 h2 h3 => ⟨mp', rfl, h1, fun y hy' hsy => by
            by_cases e : y = i
            · rw [e]; exact h3 (by rw [← e]; exact hsy.2)
            · exact h2 _ (hy y (by omega) hsy)⟩
        have call : (zbC ws (fun x => zac x F) mp (i : Int) to_).Out (OnF ws F mp (i : Int) to_) := ih (i : Int) mp (by omega) (by omega) (by omega)
        have rest : (i : Int) ∉ F -> (M.bind ((M.fix zaa zcr) (ws, (fun x => zac x F), mp, (i : Int), to_)) fun (r4, q_b_s_met) =>
            bif !r4.isEmpty then (
            M.grd (decide ((([(a : Int)]).length + r4.length) * 8 <= 140737488355328)) <|
            M.pure (.inr (([(a : Int)]) ++ r4, q_b_s_met)))
            else (
            M.pure (.inl q_b_s_met)) : M ((Int -> Option Bool) ⊕ ((List Int) × (Int -> Option Bool)))).Out (fun r => (∃ mp', r = .inl mp' /\ SrchF ws F (updF m a true) mp' to_ /\ (∀ x, mt mp x -> mt mp' x) /\ ((i : Int) ∉ F -> mt mp' (i : Int))) ∨ ∃ l mp', r = .inr (l, mp') /\ l ≠ [] /\ WayF ws F a to_ /\ l.length + posO ws a <= ws.length) := by
          intro hnF
          refine M.o_bind call ?_
          rintro ⟨l, mp'⟩ hq
          rcases hq with ⟨h1, h2, h3⟩ | ⟨h1, h2, h3⟩
          · dsimp only at h1 h2 h3 ⊢
            refine M.o_t (by cases l with | nil => exact absurd rfl h1 | cons x l => rfl) (M.o_grdD (by simp only [List.length_cons, List.length_nil]; omega) (M.o_pure (.inr ⟨_, _, rfl, by simp, .cons ⟨hsu, hnF⟩ h2, by simp only [List.length_append, List.length_cons, List.length_nil]; omega⟩)))
          · dsimp only at h1 h2 h3 ⊢
            subst h1
            exact M.o_f rfl (M.o_pure (.inl ⟨_, rfl, hs.trans h2, h2.up, fun _ => h3⟩))
        have fin : ∀ {bd : (Int -> Option Bool) -> Int -> M ((Int -> Option Bool) ⊕ ((List Int) × (Int -> Option Bool)))}, (bd mp (i : Int)).Out (fun r => (∃ mp', r = .inl mp' /\ SrchF ws F (updF m a true) mp' to_ /\ (∀ x, mt mp x -> mt mp' x) /\ ((i : Int) ∉ F -> mt mp' (i : Int))) ∨ ∃ l mp', r = .inr (l, mp') /\ l ≠ [] /\ WayF ws F a to_ /\ l.length + posO ws a <= ws.length) →
            (M.yl bd (.inl mp) (i : Int)).Out (fun r => (r.1 = true /\ ∃ mp, r.2 = .inl mp /\ SrchF ws F (updF m a true) mp to_ /\ ∀ y : Nat, y < i + 1 -> SuccF ws F a (y : Int) -> mt mp (y : Int)) ∨ (r.1 = false /\ ∃ l mp, r.2 = .inr (l, mp) /\ l ≠ [] /\ WayF ws F a to_ /\ l.length + posO ws a <= ws.length)) := by
          intro bd hk
          simp only [M.yl]
          refine M.o_bind hk ?_
          rintro r (⟨mp', rfl, h1, h2, h3⟩ | ⟨l, mp', rfl, h1, h2⟩)
          · exact M.o_pure (.inl ⟨rfl, next mp' h1 h2 h3⟩)
          · exact M.o_pure (.inr ⟨rfl, l, mp', rfl, h1, h2⟩)
        refine fin ?_
        simp only [zak]
        cases hmt : (mp (i : Int)).getD false with
        | true =>
          exact M.o_f rfl (M.o_t rfl (M.o_pure (.inl ⟨mp, rfl, hs, fun x hx => hx, fun _ => hmt⟩)))
        | false =>
          cases hto : ((i : Int) != to_) with
          | true =>
            refine M.o_t rfl (M.o_bindE (M.i_pure : (zac (i : Int) F).Ends (!(F.contains (i : Int)))) ?_)
            cases hF : F.contains (i : Int) with
            | true => exact M.o_t rfl (M.o_pure (.inl ⟨mp, rfl, hs, fun x hx => hx, fun h => absurd (List.contains_iff_mem.1 hF) h⟩))
            | false => exact M.o_f rfl (rest (fun h => by rw [List.contains_iff_mem.2 h] at hF; cases hF))
          | false =>
            have e : (i : Int) = to_ := by simpa using hto
            exact M.o_f rfl (M.o_f rfl (rest (by rw [e]; exact hto_)))
      · rintro i t hi ⟨mp, rfl, hs, hy⟩ hm
        refine ⟨mp, rfl, hs, fun y hy' hsy => ?_⟩
        by_cases e : y = i
        · subst e
          have := hsy.1.2.2
          rw [Int.toNat_natCast] at this
          exact absurd this hm
        · exact hy y (by omega) hsy
      · rintro t (⟨mp, rfl, hs, hy⟩ | ⟨l, mp, rfl, h1, h2, h3⟩)
        · refine M.o_pure (.inr ⟨rfl, ⟨fun x hx => hs.up x ((mt_upd m a x).2 (.inr hx)), fun x hx => ?_, fun hn => hs.no fun h => ?_⟩, hs.up a ((mt_upd m a a).2 (.inl rfl))⟩)
          · rcases hs.cl x hx with h3 | h3
            · rcases (mt_upd m a x).1 h3 with rfl | h3
              · refine .inr fun y hy' => ?_
                have := hy y.toNat (by have := hy'.1.2.1; have := hy'.1.1; omega) (by rw [Int.toNat_of_nonneg hy'.1.1]; exact hy')
                rwa [Int.toNat_of_nonneg hy'.1.1] at this
              · exact .inl h3
            · exact .inr h3
          · rcases (mt_upd m a to_).1 h with h3 | h3
            · exact hne h3.symm
            · exact hn h3
        · refine M.o_grdD (by have := List.length_pos_iff.2 h1; omega) (M.o_pure (.inl ⟨h1, h2, h3⟩))
/-- Is there a way from one work? -/
theorem keeps_one (hO : openedE ws = 0) (ht : (t : Int) ∉ F) {r : Int} (h0 : 0 <= r) (h1 : r < ws.length) (m : Int -> Option Bool) :
    (zbB r ws F m (t : Int)).Out (fun q => q.1 = true ↔ WayF ws F r (t : Int)) := by
  unfold zbB zca zb7
  refine M.o_bind (P := fun q => q.1 = false ↔ WayF ws F r (t : Int)) (M.o_bind (P := OnF ws F (fun _ => none) r (t : Int)) (M.o_bind (on_outF hO ht ws.length r (fun _ => none) h0 h1 (by omega)) (fun q hq => M.o_pure hq)) ?_) ?_
  · rintro ⟨l, m'⟩ hq
    rcases hq with ⟨h1, h2, _⟩ | ⟨h1, h2, h3⟩
    · dsimp only at h1 h2 ⊢
      refine M.o_pure ⟨fun _ => h2, fun _ => ?_⟩
      cases l with
      | nil => exact absurd rfl h1
      | cons x l => rfl
    · dsimp only at h1 h2 h3 ⊢
      subst h1
      refine M.o_pure ⟨fun h => by simp at h, fun w => ?_⟩
      exfalso
      have hn : ∀ x, ¬ mt (fun _ => none) x := fun x h => by cases h
      exact h2.no (hn _) (way_closed (fun x hx => (h2.cl x hx).resolve_left (hn x)) w h3)
  · rintro ⟨b, m'⟩ hq
    dsimp only at hq ⊢
    refine M.o_pure ?_
    dsimp only
    rw [← hq]
    cases b <;> simp
theorem keeps_every (hO : openedE ws = 0) (ht : (t : Int) ∉ F) (hr : ∀ r ∈ rev, 0 <= r /\ r < (ws.length : Int)) (m : Int -> Option Bool) :
    (zbz ws F m (t : Int) rev).Out (fun q => q.1 = true ↔ ¬ Rch ws rev F t) := by
  unfold zbz zb6 zbV
  refine M.o_bind (P := fun q => q.1 = true ↔ Rch ws rev F t) (M.o_bind (P := fun q => 0 <= q.1 ↔ Rch ws rev F t) (M.o_bind (P := fun q => match q with | .inl (i, _) => 0 <= i /\ Rch ws rev F t | .inr _ => ¬ Rch ws rev F t) ?_ ?_) ?_) ?_
  · refine M.o_for rev.length (fun i st => st.2 = i /\ ∀ j, j < i -> ¬ WayF ws F (rev.getD j 0) (t : Int)) ?_ ?_ (s := (m, 0)) ⟨rfl, fun j hj => by omega⟩
    · rintro i ⟨m, s⟩ hi ⟨rfl, hn⟩
      dsimp only at hi hn ⊢
      have hrm := getD_memN rev (by omega : (s : Int) < _) 0
      have hrr := hr _ hrm
      simp only [zbt]
      refine M.o_t (by simpa using hi) (M.o_grdD (by omega) (M.o_bind (keeps_one hO ht hrr.1 hrr.2 m) ?_))
      rintro ⟨b, m'⟩ hq
      dsimp only at hq ⊢
      refine M.o_if (fun hb => ?_) (fun hb => ?_)
      · refine M.o_pure ⟨by omega, ?_⟩
        have := WayF.rch (rev := rev) (hq.1 hb) hrr.1 (.base hrm)
        rwa [Int.toNat_natCast] at this
      · refine M.o_pure ⟨rfl, fun j hj w => ?_⟩
        by_cases e : j = s
        · subst e
          rw [hq.2 w] at hb
          cases hb
        · exact hn j (by omega) w
    · rintro ⟨m, s⟩ ⟨rfl, hn⟩
      simp only [zbt]
      refine M.o_f (by simp) (M.o_pure fun h => ?_)
      obtain ⟨r, h1, h2⟩ := rch_way hr h
      obtain ⟨j, hj, rfl⟩ := mem_getD h1 0
      exact hn j hj h2
  · rintro (⟨i, m'⟩ | m') hq
    · exact M.o_pure ⟨fun _ => hq.2, fun _ => hq.1⟩
    · exact M.o_pure ⟨fun h => absurd (show (0 : Int) <= -1 from h) (by decide), fun h => absurd h hq⟩
  · rintro ⟨i, m'⟩ hq
    exact M.o_pure ⟨fun h => hq.1 (of_decide_eq_true h), fun h => decide_eq_true (hq.2 h)⟩
  · rintro ⟨b, m'⟩ hq
    dsimp only at hq ⊢
    refine M.o_pure ?_
    dsimp only
    rw [← hq]
    cases b <;> simp
theorem kept_ends (hA : askedE ws rev = 0) (ht : t < ws.length) (hn : (t : Int) ∉ rev) : (zap ws rev (t : Int)).Ends (.inr 0) := by
  unfold zap
  have h1 : inB (t : Int) 0 ((ws.length : Int) - 1) = true := by unfold inB; simp only [Bool.and_eq_true, decide_eq_true_eq]; omega
  have h2 : rev.contains (t : Int) = false := by
    cases e : rev.contains (t : Int) with
    | false => rfl
    | true => exact absurd (List.contains_iff_mem.1 e) hn
  exact M.i_t (by rw [hA]; rfl) (M.i_f (by rw [h1]; rfl) (M.i_f h2 M.i_pure))
theorem keeps_out (hA : askedE ws rev = 0) (ht : t < ws.length) (hn : (t : Int) ∉ rev) (hF : listedE ws.length F = 0) (hFt : ∀ x ∈ F, x ≠ (t : Int) /\ x ∉ rev) :
    (zae ws rev (t : Int) F).Out (fun r => r.2 = 0 /\ (r.1 = true ↔ ¬ Rch ws rev F t)) := by
  obtain ⟨hO, hL⟩ := asked_ok hA
  have hr := (listed_rng hL).1
  have htF : (t : Int) ∉ F := fun h => (hFt _ h).1 rfl
  have hct : F.contains (t : Int) = false := by
    cases e : F.contains (t : Int) with
    | false => rfl
    | true => exact absurd (List.contains_iff_mem.1 e) htF
  have hop : (M.opt (!(F.contains (t : Int))) (zaw F (fun x => zas x rev)) false).Ends false := by
    rw [hct]
    have := containsFunc_ends (s := F) (f := fun x => zas x rev) (p := fun x => rev.contains x) (fun x _ => M.i_pure)
    rw [show F.any (fun x => rev.contains x) = false from List.any_eq_false.2 fun x hx h => (hFt x hx).2 (List.contains_iff_mem.1 h)] at this
    exact this
  unfold zae
  refine M.o_bindE (kept_ends hA ht hn) (M.o_t rfl (M.o_f (by rw [hF]; rfl) (M.o_bindE hop (M.o_f (by rw [hct]; rfl) (M.o_bindE M.i_pure (M.o_bind (keeps_every hO htF hr _) ?_))))))
  rintro ⟨b, m⟩ hq
  exact M.o_pure ⟨rfl, hq⟩
/-! ### Apart -/
theorem line_pos (hO : openedE ws = 0) {l : List Int} (hr : ∀ x ∈ l, 0 <= x /\ x < (ws.length : Int)) (hl : lineB ws l = true) : ∀ a b, a < b -> b < l.length -> posO ws (l.getD a 0) < posO ws (l.getD b 0) := by
  intro a b hab
  induction b with
  | zero => omega
  | succ b ih =>
    intro hb
    have h1 := hr _ (getD_memN l (by omega : ((b + 1 : Nat) : Int) < _) 0)
    have := posO_lt (order_all hO h1.1 h1.2) (lineB_step hl b hb)
    by_cases e : a = b
    · subst e; exact this
    · have := ih (by omega) (by omega)
      omega
theorem mid_get {l : List Int} {s : Nat} : (((l.take (Int.toNat ((l.length : Int) - 1))).drop 1).length = l.length - 2) /\ (s + 2 < l.length + 0 -> ((l.take (Int.toNat ((l.length : Int) - 1))).drop 1).getD s 0 = l.getD (s + 1) 0) := by
  constructor
  · rw [List.length_drop, List.length_take]; omega
  · intro h
    rw [List.getD_eq_getElem?_getD, List.getElem?_drop, List.getElem?_take, if_pos (by omega), ← List.getD_eq_getElem?_getD, Nat.add_comm]
/-! ### Freeze and Lines -/
theorem full_direct (hA : askedE ws rev = 0) (ht : t < ws.length) (hn : (t : Int) ∉ rev) (hd : rev.any (fun r => (ws.getD t default).of.contains r) = true) : (zao ws rev (t : Int)).Ends (.inl 5) := by
  have hcf := containsFunc_ends (s := rev) (f := fun x => zba x ws (t : Int)) (p := fun r => (ws.getD t default).of.contains r) (fun x _ => M.i_bind (M.i_grd (gA2 (by omega) (by omega)) (by rw [Int.toNat_natCast]; exact M.i_pure)) M.i_pure)
  rw [hd] at hcf
  unfold zao
  exact M.i_bind (kept_ends hA ht hn) (M.i_f rfl (M.i_bind hcf (M.i_t rfl M.i_pure)))
theorem full_out (hA : askedE ws rev = 0) (ht : t < ws.length) (hn : (t : Int) ∉ rev) (hd : rev.any (fun r => (ws.getD t default).of.contains r) = false) :
    LnHyp ws rev t /\ (zao ws rev (t : Int)).Out (fun r => ∃ mp m, r = .inr ((t : Int), mp, m, 0) /\ FullL ws rev t (roomN mp)) := by
  obtain ⟨hO, hL⟩ := asked_ok hA
  have hr := (listed_rng hL).1
  have H : LnHyp ws rev t := ⟨hO, ht, hr, hn, fun r hr h => by
    have := List.any_eq_false.1 hd r hr
    exact this (List.contains_iff_mem.2 h)⟩
  have hcf := containsFunc_ends (s := rev) (f := fun x => zba x ws (t : Int)) (p := fun r => (ws.getD t default).of.contains r) (fun x _ => M.i_bind (M.i_grd (gA2 (by omega) (by omega)) (by rw [Int.toNat_natCast]; exact M.i_pure)) M.i_pure)
  rw [hd] at hcf
  refine ⟨H, ?_⟩
  unfold zao
  refine M.o_bindE (kept_ends hA ht hn) (M.o_f rfl (M.o_bindE hcf (M.o_f rfl (M.o_bind (lanes_out H) ?_))))
  rintro ⟨a, mp, m⟩ ⟨h1, h2⟩
  dsimp only at h1 h2 ⊢
  subst h1
  exact M.o_pure ⟨mp, m, rfl, h2⟩
theorem freeze_out (hA : askedE ws rev = 0) (ht : t < ws.length) (hn : (t : Int) ∉ rev) (hd : rev.any (fun r => (ws.getD t default).of.contains r) = false) :
    (zah ws rev (t : Int)).Out (fun r => r.2 = 0 /\ Froz ws rev t r.1 /\ ∃ c, FullL ws rev t c /\ vaL ws rev t c = (r.1.length : Int)) := by
  obtain ⟨H, hf⟩ := full_out hA ht hn hd
  have hl := right_len (opened_right H.opn)
  unfold zah
  refine M.o_bind hf ?_
  rintro r ⟨mp, m, rfl, hF⟩
  dsimp only
  refine M.o_f rfl (M.o_bind (freeze_last H hF) ?_)
  rintro ⟨mp', m'⟩ ⟨rfl, hS⟩
  dsimp only at hS ⊢
  refine M.o_bindE (freeze_list (rev := rev) (t := t) (by omega) _ m') (M.o_pure ⟨rfl, cut_froz H hF.flow hS, _, hF, (cut_count H hF.flow hS).2⟩)
theorem lines_res (hA : askedE ws rev = 0) (ht : t < ws.length) (hn : (t : Int) ∉ rev) (hd : rev.any (fun r => (ws.getD t default).of.contains r) = false) :
    (zaq ws rev (t : Int)).Out (fun r => r.2 = 0 /\ ApartA ws rev t r.1 /\ ∃ c, FullL ws rev t c /\ vaL ws rev t c = (r.1.length : Int)) := by
  obtain ⟨H, hf⟩ := full_out hA ht hn hd
  obtain ⟨hO, hL⟩ := asked_ok hA
  have hl := right_len (opened_right H.opn)
  have hnd : rev.Nodup := asc_nodup (listed_rng hL).2
  unfold zaq
  refine M.o_bind hf ?_
  rintro r ⟨mp, m, rfl, hF⟩
  dsimp only
  refine M.o_f rfl (M.o_grd (gA3 (by omega) (by omega) (by omega)) (M.o_bindE (lines_all (by omega)) (M.o_bind (lines_out H hnd m hF.flow) ?_)))
  rintro ⟨a, ls⟩ ⟨h1, h2, _⟩
  exact M.o_pure ⟨rfl, h1, _, hF, h2.symm⟩
theorem freeze_direct (hA : askedE ws rev = 0) (ht : t < ws.length) (hn : (t : Int) ∉ rev) (hd : rev.any (fun r => (ws.getD t default).of.contains r) = true) : (zah ws rev (t : Int)).Ends ([], 5) /\ (zaq ws rev (t : Int)).Ends ([], 5) := by
  have h := full_direct hA ht hn hd
  exact ⟨M.i_bind h (M.i_t rfl M.i_pure), M.i_bind h (M.i_t rfl M.i_pure)⟩
end Go.Proofs.Ytndobgodeicloaa
namespace Go.Proofs.Ytndobgodeicloaa
open Go Go.Nm
theorem awake_ends : zbE.Ends true := ⟨40, by kernel_rfl⟩
end Go.Proofs.Ytndobgodeicloaa
section
set_option maxRecDepth 100000
set_option maxHeartbeats 16000000
namespace Go.Proofs.Ytndobgodeicloaa
open Go Go.Nm
def zcO (l : List Work) : M (List Work) :=
  M.grd (decide ((([] : List Work).length + l.length) * 40 <= 140737488355328)) <|
  M.pure l
theorem zda {R : List Chunk} {ai : Cells} {ac : Value} (l : List Work) (ak : Reads R ai) (ao : Sl ai ac l) {r : (List Work)} (hM : (zcO l).Ends r) (w : World) (H : St w w [] R) : Ret Try.prog 80 #[ac] w fun v w' => ∃ (y0 : List Work) (u0 : Value) (rr1 : List (Raw 2)) (al : Base), y0 = r /\ v = u0 /\ St w w' [cOwn (α := Raw 2) 60 u0 rr1, cRo al] R /\ RepR (α := Work) (Cells.sup ai al.cells) rr1 y0 := by
 refine ret_of_W Try.func80 rfl rfl rfl ?_
 refine sQ rfl <| sA (.slice none 0 0) rfl <| s_nil <| sQ rfl <| sA (.slice none 0 0) rfl <| s_nil <| sQ rfl <| sM (.slice none 0 0) rfl <| sM ac rfl ?_
 obtain ⟨aa, H⟩ := H.emptyE
 replace H : St w w [cOwn (α := Raw 2) 60 (.slice none 0 0) ([]), cRo aa] R := H.nilOwn (α := Raw 2) 60
 have ae : RepR (α := Work) (n := 2) aa.cells [] [] := .nil
 obtain ⟨av, hM⟩ := M.e_gd hM
 obtain ⟨ag, ap, ah⟩ := rawOf (n := 2) rfl ao
 replace ae := ae.mono (Cells.sup_r (ak.at H) (roLe _ (H.get (k := 1) rfl)))
 replace ah := ah.mono (Cells.sup_l _ aa.cells)
 have am := ae.app ah
 simp only [List.nil_append] at am
 refine t_app (α := Raw 2) (k := 0) (l := []) (l2 := ag) (l' := ag) (vy := ac) T22 rfl H rfl rfl rfl ap (ak.at H) (List.nil_append _) (by have a_ := ae.len; have b_ := ah.len; (try simp only [List.length_nil] at *); first | omega | (rw [a_, b_]; omega)) ?_
 intro aj aq H
 replace H : St w aq [cOwn (α := Raw 2) 60 aj ag, cRo aa] R := H
 refine sA aj rfl <| s_nil ?_
 refine W.ret ?_
 have au := M.e_pure hM
 exact ⟨_, resE_tmp rfl, ⟨l, aj, ag, aa, au, rfl, H, am⟩⟩

def zbj (w_ : List Work) (r2 : List Work) : ((List Work) × Nat) -> M (((List Work) × Nat) ⊕ ((List Work) × (List Work))) := fun (l, s) =>
  bif decide ((s : Int) < (r2.length : Int)) then (
  M.grd (decide ((s : Int) < (w_.length : Int))) <|
  M.grd (decide (((w_.getD s default).of).length <= 1000000)) <|
  M.grd (decide ((s : Int) < (l.length : Int))) <|
  M.pure (.inl (l.set s ({ (l.getD s default) with of := ((w_.getD s default).of) }), s + 1)))
  else (
  M.pure (.inr (l, l)))
def zbD (w_ : List Work) : M (List Work) :=
  M.bind (zcO w_) fun r2 =>
  M.bind (M.iter (zbj w_ r2) (r2, 0)) fun (l2, l3) =>
  M.pure l3
theorem zdq {R : List Chunk} {ak : Cells} {ag : Value} (w_ : List Work) (ae : Reads R ak) (am : Sl ak ag w_) {r : (List Work)} (hM : (zbD w_).Ends r) (w : World) (H : St w w [] R) : Ret Try.prog 18 #[ag] w fun v w' => ∃ (y0 : List Work) (u0 : Value) (rr1 : List (Raw 2)) (ay : Base), y0 = r /\ v = u0 /\ St w w' [cOwn (α := Raw 2) 60 u0 rr1, cRo ay] R /\ RepR (α := Work) (Cells.sup ak ay.cells) rr1 y0 := by
 refine ret_of_W Try.func18 rfl rfl rfl ?_
 refine sQ rfl <| sA (.slice none 0 0) rfl <| s_nil <| sQ rfl <| sM ag rfl ?_
 obtain ⟨aY, aJ, hM⟩ := M.e_bind hM
 refine s_call cf80 [ag] rfl (zda w_ (ae.app _) am aJ _ (St.give (T := []) H rfl)) ?_
 rintro vq aK ⟨r2, ao, az, aA, aL, hvq, aB, au⟩
 subst aL
 subst vq
 try dsimp only at hM
 replace H : St w aK [cOwn (α := Raw 2) 60 ao az, cRo aA] R := H.back aB rfl
 clear aB
 refine sA ao rfl <| s_nil <| W.seq <| sQ rfl <| sM ao rfl ?_
 have aZ := ((rowSl rfl (H.get (k := 0) rfl) (Cells.sup_le (ae.at H) (roLe _ (H.get (k := 1) rfl))) au)).len_le
 refine s_val (x_lenS T22.und rfl (rowSl rfl (H.get (k := 0) rfl) (Cells.sup_le (ae.at H) (roLe _ (H.get (k := 1) rfl))) au)) <| sM (I 0) rfl <| s_nil <| W.block ?_
 obtain ⟨aM, av, aN⟩ := M.e_bind hM
 obtain ⟨a5, av⟩ := M.e_iter av
 refine W.loop (fun m σ W => ∃ (l : List Work) (s : Nat) (aa : Value) (ac : List (Raw 2)) (B_l : Base) (ρ : Env), σ = upds ρ [(0, ag), (3, aa), (8, I (r2.length : Int)), (9, I (s : Int))] /\ M.iterN (zbj w_ r2) m (l, s) = some aM /\ St w W [cOwn (α := Raw 2) 60 aa ac, cRo B_l] R /\ RepR (α := Work) (Cells.sup ak B_l.cells) ac l) ?_ ?_
 ·exact ⟨_, r2, 0, ao, az, aA, _, upds_of _ _ ⟨rfl, rfl, rfl, rfl, trivial⟩, av, H, au⟩
 rintro a6 σ a7 ⟨l, s, aa, ac, B_l, ρ, rfl, aC, H, ah⟩
 obtain ⟨aO, aP, a8, hM, aD⟩ := M.e_iterN aC
 simp only [zbj] at hM
 clear aC
 refine sQ rfl <| sC _ _ (decide ((s : Int) < (r2.length : Int))) rfl rfl rfl <| s_nil <| W.seq ?_
 refine W.cond (decide ((s : Int) < (r2.length : Int))) rfl (fun al => ?_) (fun al => ?_)
 ·replace hM := M.e_t hM al
  simp only [qz1, qz2, qz3, qz4, qz5, qz6, ne_eq, qz7] at al
  refine W.skip <| W.seq <| W.block <| sQ rfl <| sM (I (s : Int)) rfl <| sA (I (s : Int)) rfl <| s_nil <| W.region rfl <| sM aa rfl <| sM (I (s : Int)) rfl <| sM ag rfl ?_
  refine sM (I (s : Int)) rfl ?_
  obtain ⟨a9, hM⟩ := M.e_gd hM
  refine s_val (x_ix (v := vat ag 3 (Int.toNat (s : Int))) rfl rfl (Sl.ix (α := Work) T22.und T22.size am (by omega) (by omega))) <| s_val (x_fa (v := fat (vat ag 3 (Int.toNat (s : Int))) 0) rfl (fa_pl Fd60_0 Sz34 (Sl.pl (i := (s : Int)) am (by omega) (by omega)))) ?_
  obtain ⟨aw, aQ, ap⟩ := Work_at0 am (i := (s : Int)) (by omega) (by omega)
  replace ap : Sl _ aw (w_.getD s default).of := ap
  have ba := ap.len_le
  refine s_val (x_ld (v := aw) rfl (ld_sc Sc34 (At.mono (aQ) (ae.at H)))) ?_
  obtain ⟨bb, hM⟩ := M.e_gd hM
  refine s_call cf31 [aw] rfl (copy_int _ (ap.mono (ae.at H)) (by omega)) ?_
  rintro ai aE ⟨aF, aG⟩
  replace H : St w aE [cOwn (α := Int) 3 ai ((w_.getD s default).of), cOwn (α := Raw 2) 60 aa ac, cRo B_l] R := H.ownOf aG aF
  clear aG aF
  obtain ⟨bc, hM⟩ := M.e_gd hM
  refine s_val (x_ix (v := vat aa 3 (Int.toNat (s : Int))) rfl rfl (Sl.ix (α := Work) T22.und T22.size (rowSl rfl (H.get (k := 1) rfl) (Cells.sup_le (ae.at H) (roLe _ (H.get (k := 2) rfl))) ah) (by omega) (by omega))) <| s_val (x_fa (v := fat (vat aa 3 (Int.toNat (s : Int))) 0) rfl (fa_pl Fd60_0 Sz34 (Sl.pl (i := (s : Int)) (rowSl rfl (H.get (k := 1) rfl) (Cells.sup_le (ae.at H) (roLe _ (H.get (k := 2) rfl))) ah) (by omega) (by omega)))) ?_
  obtain ⟨aH, H, aR⟩ := H.freezeE (k := 0) rfl
  replace H : St w aE [cRo aH, cOwn (α := Raw 2) 60 aa ac, cRo B_l] R := H
  have aj := aR
  obtain ⟨ax, H, aS, aT⟩ := H.joinE (i := 2) (j := 0) rfl rfl
  replace ah := ah.mono (Cells.sup_mono aS (ae.at H) (roLe _ (H.get (k := 0) rfl)))
  replace aj := aj.mono (aT.trans (Cells.sup_r (ae.at H) (roLe _ (H.get (k := 0) rfl))))
  have bf := ah.len
  obtain ⟨aq, aI⟩ : ∃ r : List (Raw 2), (ac).set s (Raw.put ((ac).getD s default) 0 [ai] rfl (by simp only [List.all_cons, List.all_nil, Bool.true_and, Bool.and_true, Sl.oc aj]; try rfl)) = r := ⟨_, rfl⟩
  have aU : RepR (α := Work) (Cells.sup ak ax.cells) aq (l.set s ({ (l.getD s default) with of := ((w_.getD s default).of) })) := by rw [← aI]; exact ah.set _ (by obtain ⟨bg, aV, bh⟩ := ah.getD (k := s) (by omega) default; show Elt.rep _ (((ac).getD s default).cs.take 0 ++ [ai] ++ ((ac).getD s default).cs.drop (0 + ([ai] : List Value).length)) _; rw [aV]; exact ⟨_, rfl, aj⟩)
  refine t_fst (α := Raw 2) (k := 2) (i := (s : Int)) (off := 0) (l := ac) (l' := aq) (val := ai) (L' := [cRo ax, cRo aH, cOwn (α := Raw 2) 60 aa aq, cRo B_l]) H rfl Sz34 (by omega) (by omega) ((ac).getD s default) (Raw.put ((ac).getD s default) 0 [ai] rfl (by simp only [List.all_cons, List.all_nil, Bool.true_and, Bool.and_true, Sl.oc aj]; try rfl)) (getD_some _ (by omega) _) rfl rfl [ai] (Sl.cells aj) rfl rfl (by simp only [List.all_cons, List.all_nil, Bool.true_and, Bool.and_true, Sl.oc aj]; try rfl) rfl aI rfl ?_
  intro bi H
  refine s_nil <| W.region rfl <| sR _ _ ((s : Int) + 1) rfl rfl rfl (by omega) <| sM (I ((s : Int) + 1)) rfl <| s_nil ?_
  exact ⟨aO, aP, l.set s ({ (l.getD s default) with of := ((w_.getD s default).of) }), s + 1, aa, aq, ax, _, upds_of _ _ ⟨rfl, rfl, rfl, rfl, trivial⟩, M.e_inl hM aD, (H.pick [2, 0] (by decide) rfl), aU⟩
 replace hM := M.e_f hM al
 simp only [qz1, qz2, qz3, qz4, qz5, qz6, ne_eq, qz7] at al
 refine W.exit ?_
 have aW := M.e_inr hM aD
 subst aW
 replace hM := aN
 try dsimp only at hM
 refine sQ rfl <| sM aa rfl <| sA aa rfl <| s_nil ?_
 refine W.ret ?_
 have aX := M.e_pure hM
 exact ⟨_, resE_tmp rfl, ⟨l, aa, ac, B_l, aX, rfl, H, ah⟩⟩

end Go.Proofs.Ytndobgodeicloaa
end
namespace Go.Proofs.Ytndobgodeicloaa
open Go Go.Nm
theorem copyWorks_ends {ws : List Work} (h : ws.length <= 1000) (ho : ∀ x ∈ ws, x.of.length <= 1000) : (zbD ws).Ends ws := by
  unfold zbD
  refine M.i_bind (a := ws) ?_ (M.i_bind (a := (ws, ws)) ?_ M.i_pure)
  · exact M.grdD (by simp only [List.length_nil]; omega) M.i_pure
  · refine M.i_for (fun i => (ws, i)) ws.length (fun i hi => ?_) ?_
    · have hm := ho _ (getD_memN ws (by omega : (i : Int) < ws.length) default)
      simp only [zbj]
      refine M.i_t (by simpa using hi) (M.grdD (by omega) (M.grdD (by omega) (M.grdD (by omega) ?_)))
      rw [show ({ (ws.getD i default) with of := (ws.getD i default).of } : Work) = ws.getD i default from rfl, set_getD_self ws i hi]
      exact M.i_pure
    · simp only [zbj]
      exact M.i_f (by simp) M.i_pure
end Go.Proofs.Ytndobgodeicloaa
section
set_option maxRecDepth 100000
set_option maxHeartbeats 16000000
namespace Go.Proofs.Ytndobgodeicloaa
open Go Go.Nm
def zaO (w_ : List Work) : (Nat × (List Work)) -> M ((Nat × (List Work)) ⊕ ((List Work) × (List Work))) := fun (s, l) =>
  bif decide ((s : Int) < (w_.length : Int)) then (
  M.grd (decide ((s : Int) < (w_.length : Int))) <|
  M.grd (decide (((w_.getD s default).of).length <= 1000000)) <|
  M.grd (decide ((l.length + ([(⟨((w_.getD s default).of), ((w_.getD s default).base : Int), ((w_.getD s default).minutes : Int)⟩ : Work)]).length) * 40 <= 140737488355328)) <|
  M.pure (.inl (s + 1, l ++ ([(⟨((w_.getD s default).of), ((w_.getD s default).base : Int), ((w_.getD s default).minutes : Int)⟩ : Work)]))))
  else (
  M.pure (.inr (l, l)))
def zam (w_ : List Work) : M (List Work) :=
  M.bind (M.iter (zaO w_) (0, [])) fun (l2, l3) =>
  M.pure l3
theorem zbo {R : List Chunk} {aC : Cells} {aj : Value} (w_ : List Work) (aD : Reads R aC) (ap : Sl aC aj w_) {r : (List Work)} (hM : (zam w_).Ends r) (w : World) (H : St w w [] R) : Ret Try.prog 23 #[aj] w fun v w' => ∃ (y0 : List Work) (u0 : Value) (rr1 : List (Raw 2)) (aE : Base), y0 = r /\ v = u0 /\ St w w' [cOwn (α := Raw 2) 138 u0 rr1, cRo aE] R /\ RepR (α := Work) aE.cells rr1 y0 := by
 refine ret_of_W Try.func23 rfl rfl rfl ?_
 refine sQ rfl <| sA (.slice none 0 0) rfl <| s_nil <| sQ rfl <| sA (.slice none 0 0) rfl <| s_nil <| W.seq <| sQ rfl <| sM aj rfl ?_
 have a7 := (ap).len_le
 refine s_val (x_lenS T22.und rfl ap) <| sM (I 0) rfl <| s_nil <| W.block ?_
 obtain ⟨av, H⟩ := H.emptyE
 replace H : St w w [cOwn (α := Raw 2) 138 (.slice none 0 0) ([]), cRo av] R := H.nilOwn (α := Raw 2) 138
 have aL : RepR (α := Work) (n := 2) av.cells [] [] := .nil
 obtain ⟨aM, aw, aN⟩ := M.e_bind hM
 obtain ⟨a8, aw⟩ := M.e_iter aw
 refine W.loop (fun m σ W => ∃ (s : Nat) (l : List Work) (ae : Value) (ac : List (Raw 2)) (B_l : Base) (ρ : Env), σ = upds ρ [(3, ae), (6, aj), (7, I (w_.length : Int)), (8, I (s : Int))] /\ M.iterN (zaO w_) m (s, l) = some aM /\ St w W [cOwn (α := Raw 2) 138 ae ac, cRo B_l] R /\ RepR (α := Work) B_l.cells ac l) ?_ ?_
 ·exact ⟨_, 0, [], (.slice none 0 0), [], av, _, upds_of _ _ ⟨rfl, rfl, rfl, rfl, trivial⟩, aw, H, aL⟩
 rintro a9 σ ba ⟨s, l, ae, ac, B_l, ρ, rfl, aF, H, ak⟩
 obtain ⟨aO, aP, bb, hM, aG⟩ := M.e_iterN aF
 simp only [zaO] at hM
 clear aF
 refine sQ rfl <| sC _ _ (decide ((s : Int) < (w_.length : Int))) rfl rfl rfl <| s_nil <| W.seq ?_
 refine W.cond (decide ((s : Int) < (w_.length : Int))) rfl (fun al => ?_) (fun al => ?_)
 ·replace hM := M.e_t hM al
  simp only [qz1, qz2, qz3, qz4, qz5, qz6, ne_eq, qz7] at al
  refine W.skip <| W.seq <| W.block <| sQ rfl ?_
  obtain ⟨bc, hM⟩ := M.e_gd hM
  refine s_val (x_ix (v := vat aj 3 (Int.toNat (s : Int))) rfl rfl (Sl.ix (α := Work) T22.und T22.size ap (by omega) (by omega))) ?_
  obtain ⟨aa, aQ, am⟩ := Work_atA ap (i := (s : Int)) (by omega) (by omega)
  replace am : Sl _ aa (w_.getD s default).of := am
  have bf := am.len_le
  refine s_val (x_ld (v := .agg #[aa, I ((w_.getD s default).base), I ((w_.getD s default).minutes)]) rfl (ld_ag Ag60 Sz60 (At.mono aQ (aD.at H)))) ?_
  refine t_alloc (cs := [.slice none 0 0, I 0, I 0]) H Al60 rfl ?_
  intro ag bg H
  refine t_st (k := 0) (b := ag) (off := 0) (cs := [.slice none 0 0, I 0, I 0]) (vs := [aa, I ((w_.getD s default).base), I ((w_.getD s default).minutes)]) (cs' := [aa, I ((w_.getD s default).base), I ((w_.getD s default).minutes)]) (v := .agg #[aa, I ((w_.getD s default).base), I ((w_.getD s default).minutes)]) (L' := [cBlk ag [aa, I ((w_.getD s default).base), I ((w_.getD s default).minutes)] 60, cOwn (α := Raw 2) 138 ae ac, cRo B_l]) H rfl rfl rfl Sz60 rfl rfl rfl (by simp only [List.all_cons, List.all_nil, Bool.true_and, Bool.and_true, Sl.oc am]; try rfl) rfl rfl ?_
  intro bh H
  refine s_nil ?_
  refine W.draw (fun W => St w W [cBlk ag [aa, I ((w_.getD s default).base), I ((w_.getD s default).minutes)] 60, cRo B_l] R) [(0, true), (1, true), (2, true), (4, true), (5, true), (6, true), (7, true), (3, false), (8, false), (9, false), (10, false), (11, true)] mixed (by decide +kernel) rfl ?_
  intro aR ao
  replace H : St w aR [cBlk ag [aa, I ((w_.getD s default).base), I ((w_.getD s default).minutes)] 60, cOwn (α := Raw 2) 138 ae ac, cRo B_l] R := H.ext ao
  clear ao
  refine ⟨(H.pick [0, 2] (by decide) rfl), ?_⟩
  refine d_q rfl (fun w' H => x_mv (v := ae) rfl) ?_
  refine d_q rfl (fun w' H => x_fa (v := Pz ag) rfl (fa_blk (o := 0) Fd60_0 Sz34)) ?_
  refine d_q rfl (fun w' H => x_ld (v := aa) rfl (ldb_sc Sc34 (H.blk (k := 0) rfl) rfl)) ?_
  refine d_q rfl (fun w' H => x_fa (v := Oz ag 1) rfl (fa_blk (o := 0) Fd60_1 Sz3)) ?_
  refine d_q rfl (fun w' H => x_ld (v := I ((w_.getD s default).base)) rfl (ldb_sc Sc3 (H.blk (k := 0) rfl) rfl)) ?_
  refine d_q rfl (fun w' H => x_fa (v := Oz ag 2) rfl (fa_blk (o := 0) Fd60_2 Sz3)) ?_
  refine d_q rfl (fun w' H => x_ld (v := I ((w_.getD s default).minutes)) rfl (ldb_sc Sc3 (H.blk (k := 0) rfl) rfl)) ?_
  refine d_l rfl ?_
  obtain ⟨bi, hM⟩ := M.e_gd hM
  refine s_call cf31 [aa] rfl (copy_int _ (am.mono (aD.at H)) (by omega)) ?_
  rintro ai aH ⟨aI, ao⟩
  replace H : St w aH [cOwn (α := Int) 3 ai ((w_.getD s default).of), cBlk ag [aa, I ((w_.getD s default).base), I ((w_.getD s default).minutes)] 60, cOwn (α := Raw 2) 138 ae ac, cRo B_l] R := H.ownOf ao aI
  clear ao aI
  refine s_nil ⟨(H.pick [1, 3] (by decide) rfl), ?_⟩
  refine d_l rfl ?_
  refine s_val (x_bld (ps := [(0, ai), (1, I ((w_.getD s default).base)), (2, I ((w_.getD s default).minutes))]) (zs := [.slice none 0 0, I 0, I 0]) (L' := [ai, I ((w_.getD s default).base), I ((w_.getD s default).minutes)]) rfl Try.underlying138 Al138 rfl (Bd138 Try.underlying138) (.cons (cs := [ai]) (Sl.cells (ownSl (H.get (k := 0) rfl))) rfl rfl rfl rfl <| .cons (cs := [I ((w_.getD s default).base)]) rfl rfl rfl rfl rfl <| .cons (cs := [I ((w_.getD s default).minutes)]) rfl rfl rfl rfl rfl <| .nil)) ?_
  refine s_nil ⟨(H.pick [1, 3] (by decide) rfl), ?_⟩
  refine d_l rfl ?_
  obtain ⟨ax, H⟩ := H.emptyE
  obtain ⟨ay, H, aS⟩ := H.freezeE (k := 1) rfl
  replace H : St w aH [cRo ax, cRo ay, cBlk ag [aa, I ((w_.getD s default).base), I ((w_.getD s default).minutes)] 60, cOwn (α := Raw 2) 138 ae ac, cRo B_l] R := H
  have aq := aS
  obtain ⟨az, H, bj, aT⟩ := H.joinE (i := 0) (j := 1) rfl rfl
  replace aq := aq.mono aT
  obtain ⟨ah, aJ⟩ : ∃ r : Raw 2, r.cs = [ai, I ((w_.getD s default).base), I ((w_.getD s default).minutes)] := ⟨Raw.of [ai, I ((w_.getD s default).base), I ((w_.getD s default).minutes)] rfl (by simp only [List.all_cons, List.all_nil, Bool.true_and, Bool.and_true, Sl.oc aq]; try rfl), rfl⟩
  have aU : RepR (α := Work) az.cells [ah] [(⟨((w_.getD s default).of), ((w_.getD s default).base : Int), ((w_.getD s default).minutes : Int)⟩ : Work)] := .cons (by rw [aJ]; exact ⟨_, rfl, aq⟩) <| .nil
  refine t_bs (α := Raw 2) T39 [.agg #[ai, I ((w_.getD s default).base), I ((w_.getD s default).minutes)]] [ah] H rfl (.cons (by rw [show (Flat.enc ah : List Value) = ah.cs from rfl, aJ]; rfl) (Flat.rep_enc _ _) <| .nil) rfl rfl rfl ?_
  intro aA aV H
  replace H : St w aV [cOwn (α := Raw 2) 138 aA ([ah]), cRo az, cRo ax, cRo ay, cBlk ag [aa, I ((w_.getD s default).base), I ((w_.getD s default).minutes)] 60, cOwn (α := Raw 2) 138 ae ac, cRo B_l] R := H
  refine s_nil ⟨(H.pick [4, 6] (by decide) rfl), ?_⟩
  refine d_l rfl ?_
  obtain ⟨bk, hM⟩ := M.e_gd hM
  have au := aU
  obtain ⟨aK, H, aW, aX⟩ := H.joinE (i := 6) (j := 1) rfl rfl
  replace ak := ak.mono aW
  replace au := au.mono aX
  have aY := ak.app au
  refine t_app (α := Raw 2) (k := 6) (l := ac) (l2 := [ah]) (l' := ac ++ ([ah])) (vy := aA) T39 rfl H rfl rfl rfl (ownSl (H.get (k := 1) rfl)) (ownLe _ (H.get (k := 1) rfl)) (rfl) (by have a_ := ak.len; have b_ := au.len; (try simp only [List.length_nil] at *); first | omega | (rw [a_, b_]; omega)) ?_
  intro aB aZ H
  replace H : St w aZ [cRo aK, cOwn (α := Raw 2) 138 aA ([ah]), cRo az, cRo ax, cRo ay, cBlk ag [aa, I ((w_.getD s default).base), I ((w_.getD s default).minutes)] 60, cOwn (α := Raw 2) 138 aB (ac ++ ([ah])), cRo B_l] R := H
  refine s_nil ⟨(H.pick [5, 7] (by decide) rfl), ?_⟩
  refine d_q rfl (fun w' H => x_as (v := aB) rfl) ?_
  refine d_nil ?_
  refine W.region rfl <| sR _ _ ((s : Int) + 1) rfl rfl rfl (by omega) <| sM (I ((s : Int) + 1)) rfl <| s_nil ?_
  exact ⟨aO, aP, s + 1, l ++ ([(⟨((w_.getD s default).of), ((w_.getD s default).base : Int), ((w_.getD s default).minutes : Int)⟩ : Work)]), aB, ac ++ ([ah]), aK, _, upds_of _ _ ⟨rfl, rfl, rfl, rfl, trivial⟩, M.e_inl hM aG, (H.pick [6, 0] (by decide) rfl), aY⟩
 replace hM := M.e_f hM al
 simp only [qz1, qz2, qz3, qz4, qz5, qz6, ne_eq, qz7] at al
 refine W.exit ?_
 have a5 := M.e_inr hM aG
 subst a5
 replace hM := aN
 try dsimp only at hM
 refine sQ rfl <| sM ae rfl <| sA ae rfl <| s_nil ?_
 refine W.ret ?_
 have a6 := M.e_pure hM
 exact ⟨_, resE_tmp rfl, ⟨l, ae, ac, B_l, a6, rfl, H, ak⟩⟩

def zaM (w_ : List Work) : (Nat × (List (List Bool))) -> M ((Nat × (List (List Bool))) ⊕ ((List (List Bool)) × (List (List Bool)))) := fun (i, l) =>
  bif decide ((i : Int) < (w_.length : Int)) then (
  M.grd (decide ((0 : Int) <= (w_.length : Int)) && decide ((1 : Int) * (w_.length : Int) <= 281474976710656) && decide ((w_.length : Int) <= (9223372036854775807 : Int))) <|
  M.grd (decide ((l.length + 1) * 24 <= 140737488355328)) <|
  M.pure (.inl (i + 1, l ++ [List.replicate (w_.length) false])))
  else (
  M.pure (.inr (l, l)))
def zaT (w_ : List Work) (b : Nat) (k : Nat) : ((List (List Bool)) × Bool × Nat) -> M (((List (List Bool)) × Bool × Nat) ⊕ ((List (List Bool)) × Bool × (List (List Bool)))) := fun (l4, changed, a) =>
  bif decide ((a : Int) < (w_.length : Int)) then (
  M.grd ((!(!((a : Int) == (((w_.getD b default).of).getD k 0))) || (decide ((a : Int) < (l4.length : Int))))) <|
  M.grd ((!(!((a : Int) == (((w_.getD b default).of).getD k 0))) || (decide ((0 : Int) <= (((w_.getD b default).of).getD k 0)) && decide ((((w_.getD b default).of).getD k 0) < ((l4.getD a ([])).length : Int))))) <|
  M.grd ((!(((a : Int) == (((w_.getD b default).of).getD k 0)) || ((l4.getD a ([])).getD (Int.toNat (((w_.getD b default).of).getD k 0)) false)) || (decide ((a : Int) < (l4.length : Int))))) <|
  M.grd ((!(((a : Int) == (((w_.getD b default).of).getD k 0)) || ((l4.getD a ([])).getD (Int.toNat (((w_.getD b default).of).getD k 0)) false)) || (decide ((b : Int) < ((l4.getD a ([])).length : Int))))) <|
  bif ((((a : Int) == (((w_.getD b default).of).getD k 0)) || ((l4.getD a ([])).getD (Int.toNat (((w_.getD b default).of).getD k 0)) false)) && (!((l4.getD a ([])).getD b false))) then (
  M.grd (decide ((a : Int) < (l4.length : Int))) <|
  M.grd (decide ((b : Int) < ((l4.getD a ([])).length : Int))) <|
  M.pure (.inl (l4.set a ((l4.getD a ([])).set b true), true, a + 1)))
  else (
  M.pure (.inl (l4, changed, a + 1))))
  else (
  M.pure (.inr (l4, changed, l4)))
def zbi (w_ : List Work) (b : Nat) : ((List (List Bool)) × Bool × Nat) -> M (((List (List Bool)) × Bool × Nat) ⊕ ((List (List Bool)) × Bool × (List (List Bool)))) := fun (l7, changed3, k) =>
  M.grd (decide ((b : Int) < (w_.length : Int))) <|
  bif decide ((k : Int) < (((w_.getD b default).of).length : Int)) then (
  M.grd (decide ((k : Int) < (((w_.getD b default).of).length : Int))) <|
  M.bind (M.iter (zaT w_ b k) (l7, changed3, 0)) fun (l5, changed2, l6) =>
  M.pure (.inl (l6, changed2, k + 1)))
  else (
  M.pure (.inr (l7, changed3, l7)))
def za7 (w_ : List Work) : ((List (List Bool)) × Bool × Nat) -> M (((List (List Bool)) × Bool × Nat) ⊕ ((List (List Bool)) × Bool × (List (List Bool)))) := fun (aa, changed5, b) =>
  bif decide ((b : Int) < (w_.length : Int)) then (
  M.bind (M.iter (zbi w_ b) (aa, changed5, 0)) fun (l8, changed4, l9) =>
  M.pure (.inl (l9, changed4, b + 1)))
  else (
  M.pure (.inr (aa, changed5, aa)))
def za4 (w_ : List Work) : ((List (List Bool)) × Bool) -> M (((List (List Bool)) × Bool) ⊕ ((List (List Bool)) × (List (List Bool)))) := fun (aa, changed7) =>
  bif changed7 then (
  M.bind (M.iter (za7 w_) (aa, false, 0)) fun (ae, changed6, ac) =>
  M.pure (.inl (ac, changed6)))
  else (
  M.pure (.inr (aa, aa)))
def zbI (w_ : List Work) : M (List (List Bool)) :=
  M.bind (M.iter (zaM w_) (0, [])) fun (l2, l3) =>
  M.bind (M.iter (za4 w_) (l3, true)) fun (ac, aa) =>
  M.pure aa
theorem zcT {R : List Chunk} {aT : Cells} {ah : Value} (w_ : List Work) (aH : Reads R aT) (aj : Sl aT ah w_) {r : (List (List Bool))} (hM : (zbI w_).Ends r) (w : World) (H : St w w [] R) : Ret Try.prog 94 #[ah] w fun v w' => ∃ (y0 : List (List Bool)) (u0 : Value) (aU : Base), y0 = r /\ v = u0 /\ St w w' [cRo aU] R /\ Sl aU.cells u0 y0 := by
 refine ret_of_W Try.func94 rfl rfl rfl ?_
 refine sQ rfl <| sA (.slice none 0 0) rfl <| s_nil <| sQ rfl <| sA (.slice none 0 0) rfl <| s_nil <| W.seq <| sQ rfl <| sA (I 0) rfl ?_
 refine s_nil <| W.block ?_
 replace H : St w w [cMat (α := Bool) 147 4 (.slice none 0 0) ([]) ([])] R := H.nilMat (α := Bool) 147 4
 have bg : ([] : List SV).length = ([] : List (List Bool)).length := rfl
 obtain ⟨bh, aI, bi⟩ := M.e_bind hM
 obtain ⟨aG, aI⟩ := M.e_iter aI
 refine W.loop (fun m σ W => ∃ (i : Nat) (l : List (List Bool)) (au : Value) (us_l : List SV) (ρ : Env), σ = upds ρ [(0, ah), (3, au), (4, I (i : Int))] /\ M.iterN (zaM w_) m (i, l) = some bh /\ St w W [cMat (α := Bool) 147 4 au us_l l] R /\ us_l.length = l.length) ?_ ?_
 ·exact ⟨_, 0, [], (.slice none 0 0), [], _, upds_of _ _ ⟨rfl, rfl, rfl, trivial⟩, aI, H, bg⟩
 rintro bP σ bQ ⟨i, l, au, us_l, ρ, rfl, aV, H, hus_l⟩
 obtain ⟨bj, bk, bR, hM, aW⟩ := M.e_iterN aV
 simp only [zaM] at hM
 clear aV
 refine W.seq <| sQ rfl <| sM (I (i : Int)) rfl <| sM ah rfl ?_
 have bS := (aj).len_le
 refine s_val (x_lenS T39.und rfl aj) <| sC _ _ (decide ((i : Int) < (w_.length : Int))) rfl rfl rfl <| s_nil ?_
 refine W.cond (decide ((i : Int) < (w_.length : Int))) rfl (fun ay => ?_) (fun ay => ?_)
 ·replace hM := M.e_t hM ay
  simp only [qz1, qz2, qz3, qz4, qz5, qz6, ne_eq, qz7] at ay
  refine W.skip <| W.seq <| W.block <| W.region rfl <| sM au rfl <| sM ah rfl ?_
  have bT := (aj).len_le
  refine s_val (x_lenS T39.und rfl aj) ?_
  obtain ⟨bU, hM⟩ := M.e_gd hM
  refine t_mk (α := Bool) T147 false rfl (n := (w_.length : Int)) H rfl rfl (by omega) (by omega) (by omega) ?_
  intro am bl H
  replace H : St w bl [cOwn (α := Bool) 4 am (List.replicate (w_.length) false), cMat (α := Bool) 147 4 au us_l l] R := H
  have aq := sl_one (ownSl (H.get (k := 0) rfl))
  refine t_bs (α := SV) T145 [am] [(⟨am, aq⟩ : SV)] H rfl (.cons (oneCell_cells aq) rfl <| .nil) rfl rfl rfl ?_
  intro aJ aX H
  replace H : St w aX [cOwn (α := SV) 147 aJ ([(⟨am, aq⟩ : SV)]), cOwn (α := Bool) 4 am (List.replicate (w_.length) false), cMat (α := Bool) 147 4 au us_l l] R := H
  obtain ⟨bV, hM⟩ := M.e_gd hM
  replace H : St w aX [cMat (α := Bool) 147 4 au us_l l, cOwn (α := Bool) 4 am (List.replicate (w_.length) false), cOwn (α := SV) 147 aJ ([(⟨am, aq⟩ : SV)])] R := H.pick [2, 1, 0] (by decide) rfl
  refine t_matapp (T := l) (row := List.replicate (w_.length) false) (sv := (⟨am, aq⟩ : SV)) T145 rfl H hus_l rfl rfl rfl (ownSl (H.get (k := 2) rfl)) (ownLe _ (H.get (k := 2) rfl)) (by first | omega | (simp only [List.length_nil] at *; omega)) ?_
  intro aK bm H
  replace H : St w bm [cMat (α := Bool) 147 4 aK (us_l ++ [(⟨am, aq⟩ : SV)]) (l ++ [List.replicate (w_.length) false]), cOwn (α := SV) 147 aJ ([(⟨am, aq⟩ : SV)])] R := H
  have bn : (us_l ++ [(⟨am, aq⟩ : SV)]).length = (l ++ [List.replicate (w_.length) false]).length := by simp only [List.length_append, List.length_cons, List.length_nil, hus_l]
  refine sA aK rfl <| s_nil <| W.region rfl <| sM (I (i : Int)) rfl <| sR _ _ ((i : Int) + 1) rfl rfl rfl (by omega) <| sA (I ((i : Int) + 1)) rfl <| s_nil ?_
  exact ⟨bj, bk, i + 1, l ++ [List.replicate (w_.length) false], aK, us_l ++ [(⟨am, aq⟩ : SV)], _, upds_of _ _ ⟨rfl, rfl, rfl, trivial⟩, M.e_inl hM aW, (H.pick [0] (by decide) rfl), bn⟩
 replace hM := M.e_f hM ay
 simp only [qz1, qz2, qz3, qz4, qz5, qz6, ne_eq, qz7] at ay
 refine W.exit ?_
 have bo := M.e_inr hM aW
 subst bo
 replace hM := bi
 try dsimp only at hM
 refine W.seq <| sQ rfl <| sA (B true) rfl <| s_nil <| W.block ?_
 obtain ⟨bp, aL, bq⟩ := M.e_bind hM
 obtain ⟨aG, aL⟩ := M.e_iter aL
 refine W.loop (fun m σ W => ∃ (aw : List (List Bool)) (changed7 : Bool) (av : Value) (us_l13 : List SV) (ρ : Env), σ = upds ρ [(0, ah), (3, av), (5, B changed7)] /\ M.iterN (za4 w_) m (aw, changed7) = some bp /\ St w W [cMat (α := Bool) 147 4 av us_l13 aw] R /\ us_l13.length = aw.length) ?_ ?_
 ·exact ⟨_, l, true, au, us_l, _, upds_of _ _ ⟨rfl, rfl, rfl, trivial⟩, aL, H, hus_l⟩
 rintro bW σ br ⟨aw, changed7, av, us_l13, ρ, rfl, aY, H, hus_l13⟩
 obtain ⟨bt, bu, bX, hM, aZ⟩ := M.e_iterN aY
 simp only [za4] at hM
 clear aY
 refine W.seq <| sQ rfl <| sM (B changed7) rfl <| s_nil ?_
 refine W.cond changed7 rfl (fun aM => ?_) (fun aM => ?_)
 ·replace hM := M.e_t hM aM
  refine W.skip <| W.block <| sQ rfl <| sA (B false) rfl <| s_nil <| sQ rfl <| sA (I 0) rfl <| s_nil <| W.block ?_
  obtain ⟨bv, aN, bw⟩ := M.e_bind hM
  obtain ⟨aG, aN⟩ := M.e_iter aN
  refine W.loop (fun m σ W => ∃ (ax : List (List Bool)) (changed5 : Bool) (b : Nat) (az : Value) (us_l10 : List SV) (ρ : Env), σ = upds ρ [(0, ah), (3, az), (5, B changed5), (6, I (b : Int))] /\ M.iterN (za7 w_) m (ax, changed5, b) = some bv /\ St w W [cMat (α := Bool) 147 4 az us_l10 ax] R /\ us_l10.length = ax.length) ?_ ?_
  ·exact ⟨_, aw, false, 0, av, us_l13, _, upds_of _ _ ⟨rfl, rfl, rfl, rfl, trivial⟩, aN, H, hus_l13⟩
  rintro bY σ bZ ⟨ax, changed5, b, az, us_l10, ρ, rfl, a5, H, hus_l10⟩
  obtain ⟨bx, bz, b6, hM, a6⟩ := M.e_iterN a5
  simp only [za7] at hM
  clear a5
  refine W.seq <| sQ rfl <| sM (I (b : Int)) rfl <| sM ah rfl ?_
  have b9 := (aj).len_le
  refine s_val (x_lenS T39.und rfl aj) <| sC _ _ (decide ((b : Int) < (w_.length : Int))) rfl rfl rfl <| s_nil ?_
  refine W.cond (decide ((b : Int) < (w_.length : Int))) rfl (fun aA => ?_) (fun aA => ?_)
  ·replace hM := M.e_t hM aA
   simp only [qz1, qz2, qz3, qz4, qz5, qz6, ne_eq, qz7] at aA
   refine W.skip <| W.seq <| W.block <| sQ rfl <| sA (I 0) rfl <| s_nil <| W.block ?_
   obtain ⟨bA, aO, bB⟩ := M.e_bind hM
   obtain ⟨aG, aO⟩ := M.e_iter aO
   refine W.loop (fun m σ W => ∃ (l7 : List (List Bool)) (changed3 : Bool) (k : Nat) (aB : Value) (us_l7 : List SV) (ρ : Env), σ = upds ρ [(0, ah), (3, aB), (5, B changed3), (6, I (b : Int)), (7, I (k : Int))] /\ M.iterN (zbi w_ b) m (l7, changed3, k) = some bA /\ St w W [cMat (α := Bool) 147 4 aB us_l7 l7] R /\ us_l7.length = l7.length) ?_ ?_
   ·exact ⟨_, ax, changed5, 0, az, us_l10, _, upds_of _ _ ⟨rfl, rfl, rfl, rfl, rfl, trivial⟩, aO, H, hus_l10⟩
   rintro ca σ cb ⟨l7, changed3, k, aB, us_l7, ρ, rfl, a7, H, hus_l7⟩
   obtain ⟨bC, bD, cc, hM, a8⟩ := M.e_iterN a7
   simp only [zbi] at hM
   clear a7
   refine W.seq <| sQ rfl <| sM (I (k : Int)) rfl <| sM ah rfl <| sM (I (b : Int)) rfl ?_
   obtain ⟨cd, hM⟩ := M.e_gd hM
   refine s_val (x_ix (v := vat ah 3 (Int.toNat (b : Int))) rfl rfl (Sl.ix (α := Work) T39.und T39.size aj (by omega) (by omega))) <| s_val (x_fa (v := fat (vat ah 3 (Int.toNat (b : Int))) 0) rfl (fa_pl Fd138_0 Sz34 (Sl.pl (i := (b : Int)) aj (by omega) (by omega)))) ?_
   obtain ⟨a9, bE, aC⟩ := Work_at0 aj (i := (b : Int)) (by omega) (by omega)
   replace aC : Sl _ a9 (w_.getD b default).of := aC
   have ce := aC.len_le
   refine s_val (x_ld (v := a9) rfl (ld_sc Sc34 (At.mono (bE) (aH.at H)))) ?_
   have cf := (aC).len_le
   refine s_val (x_lenS T34.und rfl aC) <| sC _ _ (decide ((k : Int) < (((w_.getD b default).of).length : Int))) rfl rfl rfl <| s_nil ?_
   refine W.cond (decide ((k : Int) < (((w_.getD b default).of).length : Int))) rfl (fun aD => ?_) (fun aD => ?_)
   ·replace hM := M.e_t hM aD
    simp only [qz1, qz2, qz3, qz4, qz5, qz6, ne_eq, qz7] at aD
    refine W.skip <| W.seq <| W.block <| sQ rfl <| sM ah rfl <| sM (I (b : Int)) rfl <| s_val (x_ix (v := vat ah 3 (Int.toNat (b : Int))) rfl rfl (Sl.ix (α := Work) T39.und T39.size aj (by omega) (by omega))) <| s_val (x_fa (v := fat (vat ah 3 (Int.toNat (b : Int))) 0) rfl (fa_pl Fd138_0 Sz34 (Sl.pl (i := (b : Int)) aj (by omega) (by omega)))) ?_
    obtain ⟨aP, bF, aE⟩ := Work_at0 aj (i := (b : Int)) (by omega) (by omega)
    replace aE : Sl _ aP (w_.getD b default).of := aE
    have cg := aE.len_le
    refine s_val (x_ld (v := aP) rfl (ld_sc Sc34 (At.mono (bF) (aH.at H)))) <| sM (I (k : Int)) rfl ?_
    obtain ⟨ci, hM⟩ := M.e_gd hM
    refine s_val (x_ix (v := vat aP 1 (Int.toNat (k : Int))) rfl rfl (Sl.ix (α := Int) T34.und T34.size aE (by omega) (by omega))) <| s_val (x_ld (v := I (((w_.getD b default).of).getD k 0)) rfl (ld_sc Sc3 (At.mono (Int_at aE (i := (k : Int)) (by omega) (by omega)) (aH.at H)))) <| sA (I (((w_.getD b default).of).getD k 0)) rfl <| s_nil <| sQ rfl <| sA (I 0) rfl <| s_nil <| W.block ?_
    obtain ⟨bG, aQ, bH⟩ := M.e_bind hM
    obtain ⟨aG, aQ⟩ := M.e_iter aQ
    refine W.loop (fun m σ W => ∃ (l4 : List (List Bool)) (changed : Bool) (a : Nat) (ai : Value) (us_l4 : List SV) (ρ : Env), σ = upds ρ [(0, ah), (3, ai), (5, B changed), (6, I (b : Int)), (7, I (k : Int)), (8, I (((w_.getD b default).of).getD k 0)), (9, I (a : Int))] /\ M.iterN (zaT w_ b k) m (l4, changed, a) = some bG /\ St w W [cMat (α := Bool) 147 4 ai us_l4 l4] R /\ us_l4.length = l4.length) ?_ ?_
    ·exact ⟨_, l7, changed3, 0, aB, us_l7, _, upds_of _ _ ⟨rfl, rfl, rfl, rfl, rfl, rfl, rfl, trivial⟩, aQ, H, hus_l7⟩
    rintro cj σ ck ⟨l4, changed, a, ai, us_l4, ρ, rfl, ba, H, hus_l4⟩
    obtain ⟨bb, bc, cm, hM, aR⟩ := M.e_iterN ba
    simp only [zaT] at hM
    clear ba
    refine W.seq <| sQ rfl <| sM (I (a : Int)) rfl <| sM ah rfl ?_
    have cn := (aj).len_le
    refine s_val (x_lenS T39.und rfl aj) <| sC _ _ (decide ((a : Int) < (w_.length : Int))) rfl rfl rfl <| s_nil ?_
    refine W.cond (decide ((a : Int) < (w_.length : Int))) rfl (fun aF => ?_) (fun aF => ?_)
    ·replace hM := M.e_t hM aF
     simp only [qz1, qz2, qz3, qz4, qz5, qz6, ne_eq, qz7] at aF
     refine W.skip <| W.seq <| W.block <| sQ rfl <| sM (I (a : Int)) rfl <| sM (I (((w_.getD b default).of).getD k 0)) rfl <| sC _ _ ((a : Int) == (((w_.getD b default).of).getD k 0)) rfl rfl rfl <| sM (B ((a : Int) == (((w_.getD b default).of).getD k 0))) rfl <| g_val (!((a : Int) == (((w_.getD b default).of).getD k 0))) (gy_f rfl) (fun hg => x_mv (v := ai) rfl) <| g_val (!((a : Int) == (((w_.getD b default).of).getD k 0))) (gy_f rfl) (fun hg => x_mv (v := I (a : Int)) rfl) ?_
     obtain ⟨ak, hM⟩ := M.e_grd hM
     replace ak := M.imp_of ak
     simp only [Bool.and_eq_true, decide_eq_true_eq] at ak
     refine g_val (!((a : Int) == (((w_.getD b default).of).getD k 0))) (gy_f rfl) (fun hg => x_ix (v := vat ai 1 (Int.toNat (a : Int))) (gd_of hg (ai)) (gd_of hg (I (a : Int))) (Sl.ix (α := SV) T145.und T145.size (ownSl (matOuter (H.get (k := 0) rfl))) (by have ag := hus_l4; have aa := ak.resolve_left (by rw [hg]; decide); first | exact aa | exact aa.1 | exact aa.2 | omega | (have ae := hg; simp at ae; omega)) (by have ag := hus_l4; have aa := ak.resolve_left (by rw [hg]; decide); first | exact aa | exact aa.1 | exact aa.2 | omega | (have ae := hg; simp at ae; omega)))) <| g_val (!((a : Int) == (((w_.getD b default).of).getD k 0))) (gy_f rfl) (fun hg => x_ld (v := ((us_l4).getD a default).v) (gd_of hg (vat ai 1 (Int.toNat (a : Int)))) (ld_sc Sc147 (At.mono (matCells (i := (a : Int)) (H.get (k := 0) rfl) hus_l4 (by have ag := hus_l4; have aa := ak.resolve_left (by rw [hg]; decide); first | exact aa | exact aa.1 | exact aa.2 | omega | (have ae := hg; simp at ae; omega)) (by have ag := hus_l4; have aa := ak.resolve_left (by rw [hg]; decide); first | exact aa | exact aa.1 | exact aa.2 | omega | (have ae := hg; simp at ae; omega))) (ownLe _ (matOuter (H.get (k := 0) rfl)))))) <| g_val (!((a : Int) == (((w_.getD b default).of).getD k 0))) (gy_f rfl) (fun hg => x_mv (v := I (((w_.getD b default).of).getD k 0)) rfl) ?_
     obtain ⟨ao, hM⟩ := M.e_grd hM
     replace ao := M.imp_of ao
     simp only [Bool.and_eq_true, decide_eq_true_eq] at ao
     refine g_val (!((a : Int) == (((w_.getD b default).of).getD k 0))) (gy_f rfl) (fun hg => x_ix (v := vat (((us_l4).getD a default).v) 1 (Int.toNat (((w_.getD b default).of).getD k 0))) (gd_of hg (((us_l4).getD a default).v)) (gd_of hg (I (((w_.getD b default).of).getD k 0))) (Sl.ix (α := Bool) T147.und T147.size (ownSl (matRow (H.get (k := 0) rfl) hus_l4 (by have ag := hus_l4; have aa := ak.resolve_left (by rw [hg]; decide); have ac := ao.resolve_left (by rw [hg]; decide); first | exact aa | exact aa.1 | exact aa.2 | exact ac | exact ac.1 | exact ac.2 | omega | (have ae := hg; simp at ae; omega)))) (by have aa := ak.resolve_left (by rw [hg]; decide); have ac := ao.resolve_left (by rw [hg]; decide); first | exact aa | exact aa.1 | exact aa.2 | exact ac | exact ac.1 | exact ac.2 | omega | (have ae := hg; simp at ae; omega)) (by have aa := ak.resolve_left (by rw [hg]; decide); have ac := ao.resolve_left (by rw [hg]; decide); first | exact aa | exact aa.1 | exact aa.2 | exact ac | exact ac.1 | exact ac.2 | omega | (have ae := hg; simp at ae; omega)))) <| g_val (!((a : Int) == (((w_.getD b default).of).getD k 0))) (gy_f rfl) (fun hg => x_ld (v := B ((l4.getD a ([])).getD (Int.toNat (((w_.getD b default).of).getD k 0)) false)) (gd_of hg (vat (((us_l4).getD a default).v) 1 (Int.toNat (((w_.getD b default).of).getD k 0)))) (ld_sc Sc4 (At.mono (Bool_at (ownSl (matRow (H.get (k := 0) rfl) hus_l4 (by have ag := hus_l4; have aa := ak.resolve_left (by rw [hg]; decide); have ac := ao.resolve_left (by rw [hg]; decide); first | exact aa | exact aa.1 | exact aa.2 | exact ac | exact ac.1 | exact ac.2 | omega | (have ae := hg; simp at ae; omega)))) (i := ((w_.getD b default).of).getD k 0) (by have aa := ak.resolve_left (by rw [hg]; decide); have ac := ao.resolve_left (by rw [hg]; decide); first | exact aa | exact aa.1 | exact aa.2 | exact ac | exact ac.1 | exact ac.2 | omega | (have ae := hg; simp at ae; omega)) (by have aa := ak.resolve_left (by rw [hg]; decide); have ac := ao.resolve_left (by rw [hg]; decide); first | exact aa | exact aa.1 | exact aa.2 | exact ac | exact ac.1 | exact ac.2 | omega | (have ae := hg; simp at ae; omega))) (ownLe _ (matRow (H.get (k := 0) rfl) hus_l4 (by have ag := hus_l4; have aa := ak.resolve_left (by rw [hg]; decide); have ac := ao.resolve_left (by rw [hg]; decide); first | exact aa | exact aa.1 | exact aa.2 | exact ac | exact ac.1 | exact ac.2 | omega | (have ae := hg; simp at ae; omega))))))) <| s_val (x_por (b := (a : Int) == (((w_.getD b default).of).getD k 0)) (r := (l4.getD a ([])).getD (Int.toNat (((w_.getD b default).of).getD k 0)) false) rfl rfl (fun hb => gd_of (c := !((a : Int) == (((w_.getD b default).of).getD k 0))) (by first | exact hb | (rw [hb]; rfl) | simp_all) (B ((l4.getD a ([])).getD (Int.toNat (((w_.getD b default).of).getD k 0)) false)))) <| sM (B (((a : Int) == (((w_.getD b default).of).getD k 0)) || ((l4.getD a ([])).getD (Int.toNat (((w_.getD b default).of).getD k 0)) false))) rfl <| g_val (((a : Int) == (((w_.getD b default).of).getD k 0)) || ((l4.getD a ([])).getD (Int.toNat (((w_.getD b default).of).getD k 0)) false)) (gy_t rfl) (fun hg => x_mv (v := ai) rfl) <| g_val (((a : Int) == (((w_.getD b default).of).getD k 0)) || ((l4.getD a ([])).getD (Int.toNat (((w_.getD b default).of).getD k 0)) false)) (gy_t rfl) (fun hg => x_mv (v := I (a : Int)) rfl) ?_
     obtain ⟨al, hM⟩ := M.e_grd hM
     replace al := M.imp_of al
     simp only [Bool.and_eq_true, decide_eq_true_eq] at al
     refine g_val (((a : Int) == (((w_.getD b default).of).getD k 0)) || ((l4.getD a ([])).getD (Int.toNat (((w_.getD b default).of).getD k 0)) false)) (gy_t rfl) (fun hg => x_ix (v := vat ai 1 (Int.toNat (a : Int))) (gd_of hg (ai)) (gd_of hg (I (a : Int))) (Sl.ix (α := SV) T145.und T145.size (ownSl (matOuter (H.get (k := 0) rfl))) (by have ag := hus_l4; have aa := al.resolve_left (by rw [hg]; decide); first | exact aa | exact aa.1 | exact aa.2 | omega | (have ae := hg; simp at ae; omega)) (by have ag := hus_l4; have aa := al.resolve_left (by rw [hg]; decide); first | exact aa | exact aa.1 | exact aa.2 | omega | (have ae := hg; simp at ae; omega)))) <| g_val (((a : Int) == (((w_.getD b default).of).getD k 0)) || ((l4.getD a ([])).getD (Int.toNat (((w_.getD b default).of).getD k 0)) false)) (gy_t rfl) (fun hg => x_ld (v := ((us_l4).getD a default).v) (gd_of hg (vat ai 1 (Int.toNat (a : Int)))) (ld_sc Sc147 (At.mono (matCells (i := (a : Int)) (H.get (k := 0) rfl) hus_l4 (by have ag := hus_l4; have aa := al.resolve_left (by rw [hg]; decide); first | exact aa | exact aa.1 | exact aa.2 | omega | (have ae := hg; simp at ae; omega)) (by have ag := hus_l4; have aa := al.resolve_left (by rw [hg]; decide); first | exact aa | exact aa.1 | exact aa.2 | omega | (have ae := hg; simp at ae; omega))) (ownLe _ (matOuter (H.get (k := 0) rfl)))))) <| g_val (((a : Int) == (((w_.getD b default).of).getD k 0)) || ((l4.getD a ([])).getD (Int.toNat (((w_.getD b default).of).getD k 0)) false)) (gy_t rfl) (fun hg => x_mv (v := I (b : Int)) rfl) ?_
     obtain ⟨ap, hM⟩ := M.e_grd hM
     replace ap := M.imp_of ap
     simp only [Bool.and_eq_true, decide_eq_true_eq] at ap
     refine g_val (((a : Int) == (((w_.getD b default).of).getD k 0)) || ((l4.getD a ([])).getD (Int.toNat (((w_.getD b default).of).getD k 0)) false)) (gy_t rfl) (fun hg => x_ix (v := vat (((us_l4).getD a default).v) 1 (Int.toNat (b : Int))) (gd_of hg (((us_l4).getD a default).v)) (gd_of hg (I (b : Int))) (Sl.ix (α := Bool) T147.und T147.size (ownSl (matRow (H.get (k := 0) rfl) hus_l4 (by have ag := hus_l4; have aa := al.resolve_left (by rw [hg]; decide); have ac := ap.resolve_left (by rw [hg]; decide); first | exact aa | exact aa.1 | exact aa.2 | exact ac | exact ac.1 | exact ac.2 | omega | (have ae := hg; simp at ae; omega)))) (by have aa := al.resolve_left (by rw [hg]; decide); have ac := ap.resolve_left (by rw [hg]; decide); first | exact aa | exact aa.1 | exact aa.2 | exact ac | exact ac.1 | exact ac.2 | omega | (have ae := hg; simp at ae; omega)) (by have aa := al.resolve_left (by rw [hg]; decide); have ac := ap.resolve_left (by rw [hg]; decide); first | exact aa | exact aa.1 | exact aa.2 | exact ac | exact ac.1 | exact ac.2 | omega | (have ae := hg; simp at ae; omega)))) <| g_val (((a : Int) == (((w_.getD b default).of).getD k 0)) || ((l4.getD a ([])).getD (Int.toNat (((w_.getD b default).of).getD k 0)) false)) (gy_t rfl) (fun hg => x_ld (v := B ((l4.getD a ([])).getD b false)) (gd_of hg (vat (((us_l4).getD a default).v) 1 (Int.toNat (b : Int)))) (ld_sc Sc4 (At.mono (Bool_at (ownSl (matRow (H.get (k := 0) rfl) hus_l4 (by have ag := hus_l4; have aa := al.resolve_left (by rw [hg]; decide); have ac := ap.resolve_left (by rw [hg]; decide); first | exact aa | exact aa.1 | exact aa.2 | exact ac | exact ac.1 | exact ac.2 | omega | (have ae := hg; simp at ae; omega)))) (i := (b : Int)) (by have aa := al.resolve_left (by rw [hg]; decide); have ac := ap.resolve_left (by rw [hg]; decide); first | exact aa | exact aa.1 | exact aa.2 | exact ac | exact ac.1 | exact ac.2 | omega | (have ae := hg; simp at ae; omega)) (by have aa := al.resolve_left (by rw [hg]; decide); have ac := ap.resolve_left (by rw [hg]; decide); first | exact aa | exact aa.1 | exact aa.2 | exact ac | exact ac.1 | exact ac.2 | omega | (have ae := hg; simp at ae; omega))) (ownLe _ (matRow (H.get (k := 0) rfl) hus_l4 (by have ag := hus_l4; have aa := al.resolve_left (by rw [hg]; decide); have ac := ap.resolve_left (by rw [hg]; decide); first | exact aa | exact aa.1 | exact aa.2 | exact ac | exact ac.1 | exact ac.2 | omega | (have ae := hg; simp at ae; omega))))))) <| g_val (((a : Int) == (((w_.getD b default).of).getD k 0)) || ((l4.getD a ([])).getD (Int.toNat (((w_.getD b default).of).getD k 0)) false)) (gy_t rfl) (fun hg => x_not (b := (l4.getD a ([])).getD b false) (gd_of hg (B ((l4.getD a ([])).getD b false)))) <| s_val (x_pand (b := (((a : Int) == (((w_.getD b default).of).getD k 0)) || ((l4.getD a ([])).getD (Int.toNat (((w_.getD b default).of).getD k 0)) false))) (r := !((l4.getD a ([])).getD b false)) rfl (fun hb => gd_of (c := (((a : Int) == (((w_.getD b default).of).getD k 0)) || ((l4.getD a ([])).getD (Int.toNat (((w_.getD b default).of).getD k 0)) false))) (by first | exact hb | (rw [hb]; rfl) | simp_all) (B (!((l4.getD a ([])).getD b false)))) rfl) <| s_nil ?_
     refine W.cond ((((a : Int) == (((w_.getD b default).of).getD k 0)) || ((l4.getD a ([])).getD (Int.toNat (((w_.getD b default).of).getD k 0)) false)) && (!((l4.getD a ([])).getD b false))) rfl (fun aS => ?_) (fun aS => ?_)
     ·replace hM := M.e_t hM aS
      refine sQ rfl <| sM ai rfl <| sM (I (a : Int)) rfl ?_
      obtain ⟨co, hM⟩ := M.e_gd hM
      refine s_val (x_ix (v := vat ai 1 (Int.toNat (a : Int))) rfl rfl (Sl.ix (α := SV) T145.und T145.size (ownSl (matOuter (H.get (k := 0) rfl))) (by have ag := hus_l4; omega) (by have ag := hus_l4; omega))) <| s_val (x_ld (v := ((us_l4).getD a default).v) rfl (ld_sc Sc147 (At.mono (matCells (i := (a : Int)) (H.get (k := 0) rfl) hus_l4 (by have ag := hus_l4; omega) (by have ag := hus_l4; omega)) (ownLe _ (matOuter (H.get (k := 0) rfl)))))) <| sM (I (b : Int)) rfl ?_
      obtain ⟨cp, hM⟩ := M.e_gd hM
      refine s_val (x_ix (v := vat (((us_l4).getD a default).v) 1 (Int.toNat (b : Int))) rfl rfl (Sl.ix (α := Bool) T147.und T147.size (ownSl (matRow (H.get (k := 0) rfl) hus_l4 (by have ag := hus_l4; omega))) (by omega) (by omega))) ?_
      refine t_matst (k := 0) (i := a) (j := (b : Int)) (T := l4) (T' := l4.set a ((l4.getD a ([])).set b true)) (L' := [cMat (α := Bool) 147 4 ai us_l4 (l4.set a ((l4.getD a ([])).set b true))]) H rfl hus_l4 Sz4 (by have ag := hus_l4; omega) (by omega) (by omega) true rfl rfl rfl rfl rfl ?_
      intro cq H
      have bI : (us_l4).length = (l4.set a ((l4.getD a ([])).set b true)).length := hus_l4.trans (List.length_set).symm
      refine s_nil <| W.region rfl <| sA (B true) rfl <| s_nil <| W.region rfl <| sM (I (a : Int)) rfl <| sR _ _ ((a : Int) + 1) rfl rfl rfl (by omega) <| sA (I ((a : Int) + 1)) rfl <| s_nil ?_
      exact ⟨bb, bc, l4.set a ((l4.getD a ([])).set b true), true, a + 1, ai, us_l4, _, upds_of _ _ ⟨rfl, rfl, rfl, rfl, rfl, rfl, rfl, trivial⟩, M.e_inl hM aR, H, bI⟩
     replace hM := M.e_f hM aS
     refine W.skip <| W.region rfl <| sM (I (a : Int)) rfl <| sR _ _ ((a : Int) + 1) rfl rfl rfl (by omega) <| sA (I ((a : Int) + 1)) rfl <| s_nil ?_
     exact ⟨bb, bc, l4, changed, a + 1, ai, us_l4, _, upds_of _ _ ⟨rfl, rfl, rfl, rfl, rfl, rfl, rfl, trivial⟩, M.e_inl hM aR, H, hus_l4⟩
    replace hM := M.e_f hM aF
    simp only [qz1, qz2, qz3, qz4, qz5, qz6, ne_eq, qz7] at aF
    refine W.exit ?_
    have bJ := M.e_inr hM aR
    subst bJ
    replace hM := bH
    try dsimp only at hM
    refine W.region rfl <| sM (I (k : Int)) rfl <| sR _ _ ((k : Int) + 1) rfl rfl rfl (by omega) <| sA (I ((k : Int) + 1)) rfl <| s_nil ?_
    exact ⟨bC, bD, l4, changed, k + 1, ai, us_l4, _, upds_of _ _ ⟨rfl, rfl, rfl, rfl, rfl, trivial⟩, M.e_inl hM a8, H, hus_l4⟩
   replace hM := M.e_f hM aD
   simp only [qz1, qz2, qz3, qz4, qz5, qz6, ne_eq, qz7] at aD
   refine W.exit ?_
   have bK := M.e_inr hM a8
   subst bK
   replace hM := bB
   try dsimp only at hM
   refine W.region rfl <| sM (I (b : Int)) rfl <| sR _ _ ((b : Int) + 1) rfl rfl rfl (by omega) <| sA (I ((b : Int) + 1)) rfl <| s_nil ?_
   exact ⟨bx, bz, l7, changed3, b + 1, aB, us_l7, _, upds_of _ _ ⟨rfl, rfl, rfl, rfl, trivial⟩, M.e_inl hM a6, H, hus_l7⟩
  replace hM := M.e_f hM aA
  simp only [qz1, qz2, qz3, qz4, qz5, qz6, ne_eq, qz7] at aA
  refine W.exit ?_
  have bL := M.e_inr hM a6
  subst bL
  replace hM := bw
  try dsimp only at hM
  exact ⟨bt, bu, ax, changed5, az, us_l10, _, upds_of _ _ ⟨rfl, rfl, rfl, trivial⟩, M.e_inl hM aZ, H, hus_l10⟩
 replace hM := M.e_f hM aM
 refine W.exit ?_
 have bM := M.e_inr hM aZ
 subst bM
 replace hM := bq
 try dsimp only at hM
 refine sQ rfl <| sM av rfl <| sA av rfl <| s_nil ?_
 refine W.ret ?_
 obtain ⟨bf, H, bN⟩ := H.matE (k := 0) rfl hus_l13
 replace H : St w br [cRo bf] R := H
 have bO := M.e_pure hM
 exact ⟨_, resE_tmp rfl, ⟨aw, av, bf, bO, rfl, H, bN⟩⟩

def zbe (w_ : List Work) (r2 : List (List Bool)) : Nat -> M (Nat ⊕ (Unit ⊕ Unit)) := fun i =>
  bif decide ((i : Int) < (w_.length : Int)) then (
  M.grd (decide ((i : Int) < (r2.length : Int))) <|
  M.grd (decide ((i : Int) < ((r2.getD i ([])).length : Int))) <|
  bif (r2.getD i ([])).getD i false then (
  M.pure (.inr (.inl ())))
  else (
  M.pure (.inl (i + 1))))
  else (
  M.pure (.inr (.inr ())))
def zbw (w_ : List Work) : M Int :=
  bif (rightE w_) != 0 then (
  M.pure (rightE w_))
  else (
  M.bind (zbI w_) fun r2 =>
  M.bind (M.iter (zbe w_ r2) 0) fun x_ => match x_ with
  | (.inl (_ : Unit)) => (
  M.pure 9)
  | (.inr (_ : Unit)) => (
  M.pure 0))
theorem zdj {R : List Chunk} {ap : Cells} {aa : Value} (w_ : List Work) (aq : Reads R ap) (ai : Sl ap aa w_) {r : Int} (hM : (zbw w_).Ends r) (w : World) (H : St w w [] R) : Ret Try.prog 71 #[aa] w fun v w' => ∃ (y0 : Int), y0 = r /\ v = I y0 /\ St w w' [] R := by
 refine ret_of_W Try.func71 rfl rfl rfl ?_
 refine sQ rfl <| sA (I 0) rfl <| s_nil <| W.seq <| sQ rfl <| sM aa rfl ?_
 refine s_call cf135 [aa] rfl (refRight _ (ai.mono (aq.at H))) ?_
 rintro _ aA ⟨rfl, au⟩
 replace H : St w aA [] R := H.ext au
 clear au
 refine sA (I (rightE w_)) rfl <| s_nil <| sQ rfl <| sM (I (rightE w_)) rfl <| sC _ _ ((rightE w_) != 0) rfl rfl rfl <| s_nil ?_
 refine W.cond ((rightE w_) != 0) rfl (fun ac => ?_) (fun ac => ?_)
 ·replace hM := M.e_t hM ac
  simp only [qz1, qz2, qz3, qz4, qz5, qz6, ne_eq, qz7] at ac
  refine sQ rfl <| sM (I (rightE w_)) rfl <| sA (I (rightE w_)) rfl <| s_nil ?_
  refine W.ret ?_
  have ae := M.e_pure hM
  exact ⟨_, resE_tmp rfl, ⟨(rightE w_), ae, rfl, H⟩⟩
 replace hM := M.e_f hM ac
 simp only [qz1, qz2, qz3, qz4, qz5, qz6, ne_eq, qz7] at ac
 refine W.skip <| sQ rfl <| sM aa rfl ?_
 obtain ⟨aK, aB, hM⟩ := M.e_bind hM
 refine s_call cf94 [aa] rfl (zcT w_ (aq.app _) ai aB _ (St.give (T := []) H rfl)) ?_
 rintro vq aC ⟨r2, aj, av, aD, hvq, aw, ax⟩
 subst aD
 subst vq
 try dsimp only at hM
 replace H : St w aC [cRo av] R := H.back aw rfl
 clear aw
 refine sA aj rfl <| s_nil <| W.seq <| sQ rfl <| sA (I 0) rfl <| s_nil <| W.block ?_
 obtain ⟨aE, ak, ay⟩ := M.e_bind hM
 obtain ⟨aL, ak⟩ := M.e_iter ak
 refine W.loop (fun m σ W => ∃ (i : Nat) (ρ : Env), σ = upds ρ [(0, aa), (4, aj), (5, I (i : Int))] /\ M.iterN (zbe w_ r2) m i = some aE /\ St w W [cRo av] R) ?_ ?_
 ·exact ⟨_, 0, _, upds_of _ _ ⟨rfl, rfl, rfl, trivial⟩, ak, H⟩
 rintro aM σ aN ⟨i, ρ, rfl, az, H⟩
 obtain ⟨aF, aG, aO, hM, al⟩ := M.e_iterN az
 simp only [zbe] at hM
 clear az
 refine W.seq <| sQ rfl <| sM (I (i : Int)) rfl <| sM aa rfl ?_
 have aP := (ai).len_le
 refine s_val (x_lenS T39.und rfl ai) <| sC _ _ (decide ((i : Int) < (w_.length : Int))) rfl rfl rfl <| s_nil ?_
 refine W.cond (decide ((i : Int) < (w_.length : Int))) rfl (fun ag => ?_) (fun ag => ?_)
 ·replace hM := M.e_t hM ag
  simp only [qz1, qz2, qz3, qz4, qz5, qz6, ne_eq, qz7] at ag
  refine W.skip <| W.seq <| W.block <| sQ rfl <| sM aj rfl <| sM (I (i : Int)) rfl ?_
  obtain ⟨aQ, hM⟩ := M.e_gd hM
  refine s_val (x_ix (v := vat aj 1 (Int.toNat (i : Int))) rfl rfl (Sl.ix (α := List Bool) T145.und T145.size ax (by omega) (by omega))) ?_
  obtain ⟨am, aH, ah⟩ := List_at ax (i := (i : Int)) (by omega) (by omega)
  replace ah : Sl _ am (r2.getD i ([])) := ah
  have aR := ah.len_le
  refine s_val (x_ld (v := am) rfl (ld_sc Sc147 (At.mono (aH) (roLe _ (H.get (k := 0) rfl))))) <| sM (I (i : Int)) rfl ?_
  obtain ⟨aS, hM⟩ := M.e_gd hM
  refine s_val (x_ix (v := vat am 1 (Int.toNat (i : Int))) rfl rfl (Sl.ix (α := Bool) T147.und T147.size ah (by omega) (by omega))) <| s_val (x_ld (v := B ((r2.getD i ([])).getD i false)) rfl (ld_sc Sc4 (At.mono (Bool_at ah (i := (i : Int)) (by omega) (by omega)) (roLe _ (H.get (k := 0) rfl))))) <| s_nil ?_
  refine W.cond ((r2.getD i ([])).getD i false) rfl (fun ao => ?_) (fun ao => ?_)
  ·replace hM := M.e_t hM ao
   refine sQ rfl <| sA (I 9) rfl <| s_nil ?_
   refine W.ret ?_
   have aI := M.e_inr hM al
   subst aI
   replace hM := ay
   try dsimp only at hM
   have ae := M.e_pure hM
   exact ⟨_, resE_tmp rfl, ⟨9, ae, rfl, (H.pick [] (by decide) rfl)⟩⟩
  replace hM := M.e_f hM ao
  refine W.skip <| W.region rfl <| sM (I (i : Int)) rfl <| sR _ _ ((i : Int) + 1) rfl rfl rfl (by omega) <| sA (I ((i : Int) + 1)) rfl <| s_nil ?_
  exact ⟨aF, aG, i + 1, _, upds_of _ _ ⟨rfl, rfl, rfl, trivial⟩, M.e_inl hM al, H⟩
 replace hM := M.e_f hM ag
 simp only [qz1, qz2, qz3, qz4, qz5, qz6, ne_eq, qz7] at ag
 refine W.exit ?_
 have aJ := M.e_inr hM al
 subst aJ
 replace hM := ay
 try dsimp only at hM
 refine sQ rfl <| sA (I 0) rfl <| s_nil ?_
 refine W.ret ?_
 have ae := M.e_pure hM
 exact ⟨_, resE_tmp rfl, ⟨0, ae, rfl, (H.pick [] (by decide) rfl)⟩⟩

def za8 (a : List Work) (b : List Work) : Nat -> M (Nat ⊕ (Unit ⊕ Unit)) := fun s2 =>
  bif decide ((s2 : Int) < (a.length : Int)) then (
  M.grd (decide ((s2 : Int) < (a.length : Int))) <|
  M.grd (decide ((s2 : Int) < (b.length : Int))) <|
  M.bind (M.pure (decide (((a.getD s2 default).of) = ((b.getD s2 default).of)))) fun s =>
  bif (((((a.getD s2 default).base) != ((b.getD s2 default).base)) || (((a.getD s2 default).minutes) != ((b.getD s2 default).minutes))) || (!s)) then (
  M.pure (.inr (.inl ())))
  else (
  M.pure (.inl (s2 + 1))))
  else (
  M.pure (.inr (.inr ())))
def zbR (a : List Work) (b : List Work) : M Bool :=
  bif (a.length : Int) != (b.length : Int) then (
  M.pure false)
  else (
  M.bind (M.iter (za8 a b) 0) fun x_ => match x_ with
  | (.inl (_ : Unit)) => (
  M.pure false)
  | (.inr (_ : Unit)) => (
  M.pure true))
theorem zdf {R : List Chunk} {az : Cells} {ac : Value} {aA : Cells} {ae : Value} (a : List Work) (b : List Work) (al : Reads R az) (ag : Sl az ac a) (am : Reads R aA) (ah : Sl aA ae b) {r : Bool} (hM : (zbR a b).Ends r) (w : World) (H : St w w [] R) : Ret Try.prog 28 #[ac, ae] w fun v w' => ∃ (y0 : Bool), y0 = r /\ v = B y0 /\ St w w' [] R := by
 refine ret_of_W Try.func28 rfl rfl rfl ?_
 refine sQ rfl <| sA (B false) rfl <| s_nil <| W.seq <| sQ rfl <| sM ac rfl ?_
 have aM := (ag).len_le
 refine s_val (x_lenS T22.und rfl ag) <| sM ae rfl ?_
 have aN := (ah).len_le
 refine s_val (x_lenS T22.und rfl ah) <| sC _ _ ((a.length : Int) != (b.length : Int)) rfl rfl rfl <| s_nil ?_
 refine W.cond ((a.length : Int) != (b.length : Int)) rfl (fun ai => ?_) (fun ai => ?_)
 ·replace hM := M.e_t hM ai
  simp only [qz1, qz2, qz3, qz4, qz5, qz6, ne_eq, qz7] at ai
  refine sQ rfl <| sA (B false) rfl <| s_nil ?_
  refine W.ret ?_
  have aj := M.e_pure hM
  exact ⟨_, resE_tmp rfl, ⟨false, aj, rfl, H⟩⟩
 replace hM := M.e_f hM ai
 simp only [qz1, qz2, qz3, qz4, qz5, qz6, ne_eq, qz7] at ai
 refine W.skip <| W.seq <| sQ rfl <| sM ac rfl ?_
 have aO := (ag).len_le
 refine s_val (x_lenS T22.und rfl ag) <| sM (I 0) rfl <| s_nil <| W.block ?_
 obtain ⟨aD, aq, aB⟩ := M.e_bind hM
 obtain ⟨aP, aq⟩ := M.e_iter aq
 refine W.loop (fun m σ W => ∃ (s2 : Nat) (ρ : Env), σ = upds ρ [(0, ac), (1, ae), (12, I (a.length : Int)), (13, I (s2 : Int))] /\ M.iterN (za8 a b) m s2 = some aD /\ St w W [] R) ?_ ?_
 ·exact ⟨_, 0, _, upds_of _ _ ⟨rfl, rfl, rfl, rfl, trivial⟩, aq, H⟩
 rintro aQ σ aR ⟨s2, ρ, rfl, aC, H⟩
 obtain ⟨aE, aF, aS, hM, au⟩ := M.e_iterN aC
 simp only [za8] at hM
 clear aC
 refine sQ rfl <| sC _ _ (decide ((s2 : Int) < (a.length : Int))) rfl rfl rfl <| s_nil <| W.seq ?_
 refine W.cond (decide ((s2 : Int) < (a.length : Int))) rfl (fun ak => ?_) (fun ak => ?_)
 ·replace hM := M.e_t hM ak
  simp only [qz1, qz2, qz3, qz4, qz5, qz6, ne_eq, qz7] at ak
  refine W.skip <| W.seq <| W.block <| sQ rfl <| sM (I (s2 : Int)) rfl <| sA (I (s2 : Int)) rfl <| s_nil <| W.seq ?_
  refine W.draw (fun W => St w W [] R) [(0, true), (1, true), (2, true), (3, true), (4, true), (5, true), (6, true), (7, true), (8, true), (9, true), (10, true), (11, true), (12, true), (13, true), (14, true), (15, true), (16, true), (17, true), (18, true), (19, true), (20, true), (21, true), (22, true), (23, true), (24, true), (25, true), (26, true), (27, true), (28, true), (29, true), (30, true), (31, true), (32, true), (33, true), (34, true), (35, false), (36, true), (37, true)] mixed (by decide +kernel) rfl ?_
  intro aG aa
  replace H : St w aG [] R := H.ext aa
  clear aa
  refine ⟨(H.pick [] (by decide) rfl), ?_⟩
  refine d_q rfl (fun w' H => x_mv (v := ac) rfl) ?_
  refine d_q rfl (fun w' H => x_mv (v := I (s2 : Int)) rfl) ?_
  obtain ⟨aT, hM⟩ := M.e_gd hM
  refine d_q rfl (fun w' H => x_ix (v := vat ac 3 (Int.toNat (s2 : Int))) rfl rfl (Sl.ix (α := Work) T22.und T22.size ag (by omega) (by omega))) ?_
  refine d_q rfl (fun w' H => x_fa (v := fat (vat ac 3 (Int.toNat (s2 : Int))) 1) rfl (fa_pl Fd60_1 Sz3 (Sl.pl (i := (s2 : Int)) ag (by omega) (by omega)))) ?_
  refine d_q rfl (fun w' H => x_ld (v := I ((a.getD s2 default).base)) rfl (ld_sc Sc3 (At.mono (Work_at1 ag (i := (s2 : Int)) (by omega) (by omega)) (al.at H)))) ?_
  refine d_q rfl (fun w' H => x_mv (v := ae) rfl) ?_
  refine d_q rfl (fun w' H => x_mv (v := I (s2 : Int)) rfl) ?_
  obtain ⟨aU, hM⟩ := M.e_gd hM
  refine d_q rfl (fun w' H => x_ix (v := vat ae 3 (Int.toNat (s2 : Int))) rfl rfl (Sl.ix (α := Work) T22.und T22.size ah (by omega) (by omega))) ?_
  refine d_q rfl (fun w' H => x_fa (v := fat (vat ae 3 (Int.toNat (s2 : Int))) 1) rfl (fa_pl Fd60_1 Sz3 (Sl.pl (i := (s2 : Int)) ah (by omega) (by omega)))) ?_
  refine d_q rfl (fun w' H => x_ld (v := I ((b.getD s2 default).base)) rfl (ld_sc Sc3 (At.mono (Work_at1 ah (i := (s2 : Int)) (by omega) (by omega)) (am.at H)))) ?_
  refine d_q rfl (fun w' H => x_cmp (kd := .i64) (r := ((a.getD s2 default).base) != ((b.getD s2 default).base)) rfl rfl rfl) ?_
  refine d_q rfl (fun w' H => x_mv (v := B (((a.getD s2 default).base) != ((b.getD s2 default).base))) rfl) ?_
  refine d_qg (!(((a.getD s2 default).base) != ((b.getD s2 default).base))) rfl (gy_f rfl) (fun hg => (fun w' H => x_mv (v := ac) rfl)) ?_
  refine d_qg (!(((a.getD s2 default).base) != ((b.getD s2 default).base))) rfl (gy_f rfl) (fun hg => (fun w' H => x_mv (v := I (s2 : Int)) rfl)) ?_
  refine d_qg (!(((a.getD s2 default).base) != ((b.getD s2 default).base))) rfl (gy_f rfl) (fun hg => (fun w' H => x_ix (v := vat ac 3 (Int.toNat (s2 : Int))) (gd_of hg (ac)) (gd_of hg (I (s2 : Int))) (Sl.ix (α := Work) T22.und T22.size ag (by first | omega | (have aa := hg; simp at aa; omega)) (by first | omega | (have aa := hg; simp at aa; omega))))) ?_
  refine d_qg (!(((a.getD s2 default).base) != ((b.getD s2 default).base))) rfl (gy_f rfl) (fun hg => (fun w' H => x_fa (v := fat (vat ac 3 (Int.toNat (s2 : Int))) 2) (gd_of hg (vat ac 3 (Int.toNat (s2 : Int)))) (fa_pl Fd60_2 Sz3 (Sl.pl (i := (s2 : Int)) ag (by first | omega | (have aa := hg; simp at aa; omega)) (by first | omega | (have aa := hg; simp at aa; omega)))))) ?_
  refine d_qg (!(((a.getD s2 default).base) != ((b.getD s2 default).base))) rfl (gy_f rfl) (fun hg => (fun w' H => x_ld (v := I ((a.getD s2 default).minutes)) (gd_of hg (fat (vat ac 3 (Int.toNat (s2 : Int))) 2)) (ld_sc Sc3 (At.mono (Work_at2 ag (i := (s2 : Int)) (by first | omega | (have aa := hg; simp at aa; omega)) (by first | omega | (have aa := hg; simp at aa; omega))) (al.at H))))) ?_
  refine d_qg (!(((a.getD s2 default).base) != ((b.getD s2 default).base))) rfl (gy_f rfl) (fun hg => (fun w' H => x_mv (v := ae) rfl)) ?_
  refine d_qg (!(((a.getD s2 default).base) != ((b.getD s2 default).base))) rfl (gy_f rfl) (fun hg => (fun w' H => x_mv (v := I (s2 : Int)) rfl)) ?_
  refine d_qg (!(((a.getD s2 default).base) != ((b.getD s2 default).base))) rfl (gy_f rfl) (fun hg => (fun w' H => x_ix (v := vat ae 3 (Int.toNat (s2 : Int))) (gd_of hg (ae)) (gd_of hg (I (s2 : Int))) (Sl.ix (α := Work) T22.und T22.size ah (by first | omega | (have aa := hg; simp at aa; omega)) (by first | omega | (have aa := hg; simp at aa; omega))))) ?_
  refine d_qg (!(((a.getD s2 default).base) != ((b.getD s2 default).base))) rfl (gy_f rfl) (fun hg => (fun w' H => x_fa (v := fat (vat ae 3 (Int.toNat (s2 : Int))) 2) (gd_of hg (vat ae 3 (Int.toNat (s2 : Int)))) (fa_pl Fd60_2 Sz3 (Sl.pl (i := (s2 : Int)) ah (by first | omega | (have aa := hg; simp at aa; omega)) (by first | omega | (have aa := hg; simp at aa; omega)))))) ?_
  refine d_qg (!(((a.getD s2 default).base) != ((b.getD s2 default).base))) rfl (gy_f rfl) (fun hg => (fun w' H => x_ld (v := I ((b.getD s2 default).minutes)) (gd_of hg (fat (vat ae 3 (Int.toNat (s2 : Int))) 2)) (ld_sc Sc3 (At.mono (Work_at2 ah (i := (s2 : Int)) (by first | omega | (have aa := hg; simp at aa; omega)) (by first | omega | (have aa := hg; simp at aa; omega))) (am.at H))))) ?_
  refine d_qg (!(((a.getD s2 default).base) != ((b.getD s2 default).base))) rfl (gy_f rfl) (fun hg => (fun w' H => x_cmp (kd := .i64) (r := ((a.getD s2 default).minutes) != ((b.getD s2 default).minutes)) (gd_of hg (I ((a.getD s2 default).minutes))) (gd_of hg (I ((b.getD s2 default).minutes))) rfl)) ?_
  refine d_q rfl (fun w' H => x_por (b := ((a.getD s2 default).base) != ((b.getD s2 default).base)) (r := ((a.getD s2 default).minutes) != ((b.getD s2 default).minutes)) rfl rfl (fun hb => gd_of (c := !(((a.getD s2 default).base) != ((b.getD s2 default).base))) (by first | exact hb | (rw [hb]; rfl) | simp_all) (B (((a.getD s2 default).minutes) != ((b.getD s2 default).minutes))))) ?_
  refine d_q rfl (fun w' H => x_mv (v := B ((((a.getD s2 default).base) != ((b.getD s2 default).base)) || (((a.getD s2 default).minutes) != ((b.getD s2 default).minutes)))) rfl) ?_
  refine d_qg (!((((a.getD s2 default).base) != ((b.getD s2 default).base)) || (((a.getD s2 default).minutes) != ((b.getD s2 default).minutes)))) rfl (gy_f rfl) (fun hg => (fun w' H => x_mv (v := ac) rfl)) ?_
  refine d_qg (!((((a.getD s2 default).base) != ((b.getD s2 default).base)) || (((a.getD s2 default).minutes) != ((b.getD s2 default).minutes)))) rfl (gy_f rfl) (fun hg => (fun w' H => x_mv (v := I (s2 : Int)) rfl)) ?_
  refine d_qg (!((((a.getD s2 default).base) != ((b.getD s2 default).base)) || (((a.getD s2 default).minutes) != ((b.getD s2 default).minutes)))) rfl (gy_f rfl) (fun hg => (fun w' H => x_ix (v := vat ac 3 (Int.toNat (s2 : Int))) (gd_of hg (ac)) (gd_of hg (I (s2 : Int))) (Sl.ix (α := Work) T22.und T22.size ag (by first | omega | (have aa := hg; simp at aa; omega)) (by first | omega | (have aa := hg; simp at aa; omega))))) ?_
  refine d_qg (!((((a.getD s2 default).base) != ((b.getD s2 default).base)) || (((a.getD s2 default).minutes) != ((b.getD s2 default).minutes)))) rfl (gy_f rfl) (fun hg => (fun w' H => x_fa (v := fat (vat ac 3 (Int.toNat (s2 : Int))) 0) (gd_of hg (vat ac 3 (Int.toNat (s2 : Int)))) (fa_pl Fd60_0 Sz34 (Sl.pl (i := (s2 : Int)) ag (by first | omega | (have aa := hg; simp at aa; omega)) (by first | omega | (have aa := hg; simp at aa; omega)))))) ?_
  obtain ⟨ao, aH, av⟩ := gd_ex (c := !((((a.getD s2 default).base) != ((b.getD s2 default).base)) || (((a.getD s2 default).minutes) != ((b.getD s2 default).minutes)))) fun hg => Work_at0 ag (i := (s2 : Int)) (by first | omega | (have aa := hg; simp at aa; omega)) (by first | omega | (have aa := hg; simp at aa; omega))
  replace av : (!((((a.getD s2 default).base) != ((b.getD s2 default).base)) || (((a.getD s2 default).minutes) != ((b.getD s2 default).minutes)))) = true -> Sl _ ao (a.getD s2 default).of := av
  refine d_qg (!((((a.getD s2 default).base) != ((b.getD s2 default).base)) || (((a.getD s2 default).minutes) != ((b.getD s2 default).minutes)))) rfl (gy_f rfl) (fun hg => (fun w' H => x_ld (v := ao) (gd_of hg (fat (vat ac 3 (Int.toNat (s2 : Int))) 0)) (ld_sc Sc34 (At.mono (aH hg) (al.at H))))) ?_
  refine d_qg (!((((a.getD s2 default).base) != ((b.getD s2 default).base)) || (((a.getD s2 default).minutes) != ((b.getD s2 default).minutes)))) rfl (gy_f rfl) (fun hg => (fun w' H => x_mv (v := ae) rfl)) ?_
  refine d_qg (!((((a.getD s2 default).base) != ((b.getD s2 default).base)) || (((a.getD s2 default).minutes) != ((b.getD s2 default).minutes)))) rfl (gy_f rfl) (fun hg => (fun w' H => x_mv (v := I (s2 : Int)) rfl)) ?_
  refine d_qg (!((((a.getD s2 default).base) != ((b.getD s2 default).base)) || (((a.getD s2 default).minutes) != ((b.getD s2 default).minutes)))) rfl (gy_f rfl) (fun hg => (fun w' H => x_ix (v := vat ae 3 (Int.toNat (s2 : Int))) (gd_of hg (ae)) (gd_of hg (I (s2 : Int))) (Sl.ix (α := Work) T22.und T22.size ah (by first | omega | (have aa := hg; simp at aa; omega)) (by first | omega | (have aa := hg; simp at aa; omega))))) ?_
  refine d_qg (!((((a.getD s2 default).base) != ((b.getD s2 default).base)) || (((a.getD s2 default).minutes) != ((b.getD s2 default).minutes)))) rfl (gy_f rfl) (fun hg => (fun w' H => x_fa (v := fat (vat ae 3 (Int.toNat (s2 : Int))) 0) (gd_of hg (vat ae 3 (Int.toNat (s2 : Int)))) (fa_pl Fd60_0 Sz34 (Sl.pl (i := (s2 : Int)) ah (by first | omega | (have aa := hg; simp at aa; omega)) (by first | omega | (have aa := hg; simp at aa; omega)))))) ?_
  obtain ⟨ap, aI, aw⟩ := gd_ex (c := !((((a.getD s2 default).base) != ((b.getD s2 default).base)) || (((a.getD s2 default).minutes) != ((b.getD s2 default).minutes)))) fun hg => Work_at0 ah (i := (s2 : Int)) (by first | omega | (have aa := hg; simp at aa; omega)) (by first | omega | (have aa := hg; simp at aa; omega))
  replace aw : (!((((a.getD s2 default).base) != ((b.getD s2 default).base)) || (((a.getD s2 default).minutes) != ((b.getD s2 default).minutes)))) = true -> Sl _ ap (b.getD s2 default).of := aw
  refine d_qg (!((((a.getD s2 default).base) != ((b.getD s2 default).base)) || (((a.getD s2 default).minutes) != ((b.getD s2 default).minutes)))) rfl (gy_f rfl) (fun hg => (fun w' H => x_ld (v := ap) (gd_of hg (fat (vat ae 3 (Int.toNat (s2 : Int))) 0)) (ld_sc Sc34 (At.mono (aI hg) (am.at H))))) ?_
  refine d_l rfl ?_
  obtain ⟨s, ax, hM⟩ := M.e_bind hM
  replace ax := M.e_pure ax
  refine t_gcall (!((((a.getD s2 default).base) != ((b.getD s2 default).base)) || (((a.getD s2 default).minutes) != ((b.getD s2 default).minutes)))) (gy_f rfl) cf25 (B s) (fun _ => [ao, ap]) (fun hg => lst2 (gd_of hg (ao)) (gd_of hg (ap))) H (fun hg => Ret.mono (same_int _ ((av hg).mono (al.at H)) ((aw hg).mono (am.at H))) fun v_ w_ ⟨aJ, aa⟩ => ⟨aJ.trans (congrArg B ax), H.ext aa⟩) ?_
  intro aV H
  refine s_nil ⟨(H.pick [] (by decide) rfl), ?_⟩
  refine d_qg (!((((a.getD s2 default).base) != ((b.getD s2 default).base)) || (((a.getD s2 default).minutes) != ((b.getD s2 default).minutes)))) rfl (gy_f rfl) (fun hg => (fun w' H => x_not (b := s) (gd_of hg (B s)))) ?_
  refine d_q rfl (fun w' H => x_por (b := ((((a.getD s2 default).base) != ((b.getD s2 default).base)) || (((a.getD s2 default).minutes) != ((b.getD s2 default).minutes)))) (r := !s) rfl rfl (fun hb => gd_of (c := !((((a.getD s2 default).base) != ((b.getD s2 default).base)) || (((a.getD s2 default).minutes) != ((b.getD s2 default).minutes)))) (by first | exact hb | (rw [hb]; rfl) | simp_all) (B (!s)))) ?_
  refine d_nil ?_
  refine W.cond (((((a.getD s2 default).base) != ((b.getD s2 default).base)) || (((a.getD s2 default).minutes) != ((b.getD s2 default).minutes))) || (!s)) rfl (fun ay => ?_) (fun ay => ?_)
  ·replace hM := M.e_t hM ay
   refine sQ rfl <| sA (B false) rfl <| s_nil ?_
   refine W.ret ?_
   have aK := M.e_inr hM au
   subst aK
   replace hM := aB
   try dsimp only at hM
   have aj := M.e_pure hM
   exact ⟨_, resE_tmp rfl, ⟨false, aj, rfl, H⟩⟩
  replace hM := M.e_f hM ay
  refine W.skip <| W.region rfl <| sR _ _ ((s2 : Int) + 1) rfl rfl rfl (by omega) <| sM (I ((s2 : Int) + 1)) rfl <| s_nil ?_
  exact ⟨aE, aF, s2 + 1, _, upds_of _ _ ⟨rfl, rfl, rfl, rfl, trivial⟩, M.e_inl hM au, H⟩
 replace hM := M.e_f hM ak
 simp only [qz1, qz2, qz3, qz4, qz5, qz6, ne_eq, qz7] at ak
 refine W.exit ?_
 have aL := M.e_inr hM au
 subst aL
 replace hM := aB
 try dsimp only at hM
 refine sQ rfl <| sA (B true) rfl <| s_nil ?_
 refine W.ret ?_
 have aj := M.e_pure hM
 exact ⟨_, resE_tmp rfl, ⟨true, aj, rfl, H⟩⟩

end Go.Proofs.Ytndobgodeicloaa
end
namespace Go.Proofs.Ytndobgodeicloaa
open Go Go.Nm
theorem works_ends {ws : List Work} (h : ws.length <= 1000) (ho : ∀ x ∈ ws, x.of.length <= 1000) : (zam ws).Ends ws := by
  unfold zam
  refine M.i_bind (a := (ws, ws)) ?_ M.i_pure
  have := M.i_for (body := zaO ws) (r := (ws, ws)) (fun i => (i, ws.take i)) ws.length (fun i hi => ?_) ?_
  · simpa using this
  · have hm := ho _ (getD_memN ws (by omega : (i : Int) < ws.length) default)
    simp only [zaO]
    refine M.i_t (by simpa using hi) (M.grdD (by omega) (M.grdD (by omega) (M.grdD (by simp only [List.length_take, List.length_cons, List.length_nil]; omega) ?_)))
    rw [show (⟨(ws.getD i default).of, (ws.getD i default).base, (ws.getD i default).minutes⟩ : Work) = ws.getD i default from rfl, take_succ_D ws i hi]
    exact M.i_pure
  · simp only [zaO]
    rw [List.take_length]
    exact M.i_f (by simp) M.i_pure
theorem same_ends (ws : List Work) : (zbR ws ws).Ends true := by
  unfold zbR
  refine M.i_f (by simp) (M.i_bind (M.i_scan ws.length (fun _ => false) (fun i hi _ => ?_) (fun _ => ?_)) ?_)
  · simp only [za8]
    refine M.i_t (by simpa using hi) (M.grdD (by omega) (M.grdD (by omega) (M.i_bind M.i_pure (M.i_f (by simp) M.i_pure))))
  · simp only [za8]
    exact M.i_f (by simp) M.i_pure
  · have : (List.range ws.length).any (fun _ => false) = false := by simp
    rw [this]
    exact M.i_pure
end Go.Proofs.Ytndobgodeicloaa
namespace Go.Proofs.Ytndobgodeicloaa
open Go Go.Nm
variable {ws : List Work}
theorem behind_a (hR : rightE ws = 0) {T0 : List (List Bool)} {pr : Nat -> Nat -> Nat -> Prop} {b k : Nat} (hb : b < ws.length) (hk : k < (ws.getD b default).of.length) {T : List (List Bool)} {ch : Bool} (hI : BInv ws T0 pr T ch) :
    ∃ r, (M.iter (zaT ws b k) (T, ch, 0)).Ends r /\ ∃ T' ch', r = (T', ch', T') /\ BInv ws T0 (fun b' k' a' => pr b' k' a' ∨ (b' = b /\ k' = k /\ a' < ws.length)) T' ch' := by
  have hx := right_of hR hb _ (getD_memN (ws.getD b default).of (by omega : (k : Int) < _) 0)
  have hxm : ((Int.toNat (((ws.getD b default).of).getD k 0) : Nat) : Int) ∈ (ws.getD b default).of := by
    rw [Int.toNat_of_nonneg hx.1]; exact getD_memN (ws.getD b default).of (by omega : (k : Int) < _) 0
  refine M.i_loopQ _ (fun m s => ∃ a, a <= ws.length /\ m = ws.length - a /\ s.2.2 = a /\ BInv ws T0 (fun b' k' a' => pr b' k' a' ∨ (b' = b /\ k' = k /\ a' < a)) s.1 s.2.1) ?_ ws.length (T, ch, 0) ⟨0, Nat.zero_le _, rfl, rfl, hI.imp fun b' k' a' h => h.elim id fun h => by omega⟩
  rintro m ⟨T1, c1, a1⟩ ⟨a, hle, rfl, rfl, h⟩
  dsimp only at h hle ⊢
  have hl := h.sq.len
  by_cases ha : a1 < ws.length
  · left
    have hr := h.sq.row a1 ha
    simp only [zaT]
    cases hc : ((((a1 : Int) == (((ws.getD b default).of).getD k 0)) || ((T1.getD a1 ([])).getD (Int.toNat (((ws.getD b default).of).getD k 0)) false)) && (!((T1.getD a1 ([])).getD b false))) with
    | true =>
      refine ⟨(T1.set a1 ((T1.getD a1 []).set b true), true, a1 + 1), ws.length - (a1 + 1), by omega, ?_, a1 + 1, ha, rfl, rfl, ?_⟩
      · refine M.i_t (by simpa using ha) (M.i_grd (gOr (by omega)) (M.i_grd (gOr2 hx.1 (by omega)) (M.i_grd (gOr (by omega)) (M.i_grd (gOr (by omega)) (M.i_t rfl (M.grdD (by omega) (M.grdD (by omega) M.i_pure)))))))
      · rw [Bool.and_eq_true] at hc
        have hf : (T1.getD a1 []).getD b false = false := by simpa using hc.2
        refine ⟨h.sq.put ha, fun a' b' ht => ?_, fun _ => ?_, fun e => by cases e⟩
        · rw [Tb_put h.sq ha hb] at ht
          split at ht
          · rename_i e
            rw [e.1, e.2]
            rcases (Bool.or_eq_true _ _).mp hc.1 with h1 | h1
            · exact .one (by rw [show (a1 : Int) = ((ws.getD b default).of).getD k 0 from by simpa using h1]; exact getD_memN (ws.getD b default).of (by omega : (k : Int) < _) 0) hb
            · exact .more (h.sound _ _ h1) hxm hb
          · exact h.sound _ _ ht
        · have h1 := fT_set T1 a1 ((T1.getD a1 []).set b true) (by omega)
          have h2 := fc_set (T1.getD a1 []) b (by omega) hf
          dsimp only
          cases c1 with
          | true => have := h.yes rfl; omega
          | false => have := (h.no rfl).1; rw [← this]; omega
    | false =>
      refine ⟨(T1, c1, a1 + 1), ws.length - (a1 + 1), by omega, ?_, a1 + 1, ha, rfl, rfl, ?_⟩
      · refine M.i_t (by simpa using ha) (M.i_grd (gOr (by omega)) (M.i_grd (gOr2 hx.1 (by omega)) (M.i_grd (gOr (by omega)) (M.i_grd (gOr (by omega)) (M.i_f rfl M.i_pure)))))
      · refine ⟨h.sq, h.sound, h.yes, fun e => ⟨(h.no e).1, fun b' k' a' hp => ?_⟩⟩
        rcases hp with hp | ⟨rfl, rfl, hp⟩
        · exact (h.no e).2 _ _ _ (.inl hp)
        · by_cases e2 : a' = a1
          · subst e2
            intro hcl
            unfold Tb at hcl ⊢
            rw [hcl, Bool.true_and] at hc
            simpa using hc
          · exact (h.no e).2 _ _ _ (.inr ⟨rfl, rfl, by omega⟩)
  · right
    obtain rfl : a1 = ws.length := by omega
    refine ⟨(T1, c1, T1), ?_, T1, c1, rfl, h⟩
    simp only [zaT]
    exact M.i_f (by simp) M.i_pure
theorem behind_k (hR : rightE ws = 0) {T0 : List (List Bool)} {pr : Nat -> Nat -> Nat -> Prop} {b : Nat} (hb : b < ws.length) {T : List (List Bool)} {ch : Bool} (hI : BInv ws T0 pr T ch) :
    ∃ r, (M.iter (zbi ws b) (T, ch, 0)).Ends r /\ ∃ T' ch', r = (T', ch', T') /\ BInv ws T0 (fun b' k' a' => pr b' k' a' ∨ (b' = b /\ k' < (ws.getD b default).of.length /\ a' < ws.length)) T' ch' := by
  refine M.i_loopQ _ (fun m s => ∃ k, k <= (ws.getD b default).of.length /\ m = (ws.getD b default).of.length - k /\ s.2.2 = k /\ BInv ws T0 (fun b' k' a' => pr b' k' a' ∨ (b' = b /\ k' < k /\ a' < ws.length)) s.1 s.2.1) ?_ (ws.getD b default).of.length (T, ch, 0) ⟨0, Nat.zero_le _, rfl, rfl, hI.imp fun b' k' a' h => h.elim id fun h => by omega⟩
  rintro m ⟨T1, c1, k1⟩ ⟨k, hle, rfl, rfl, h⟩
  dsimp only at h hle ⊢
  simp only [zbi]
  by_cases hk : k1 < (ws.getD b default).of.length
  · left
    obtain ⟨r, hr, T', ch', rfl, h'⟩ := behind_a hR hb hk h
    refine ⟨(T', ch', k1 + 1), _, Nat.sub_succ_lt_self _ _ hk, M.grdD (by omega) (M.i_t (by simpa using hk) (M.grdD (by omega) (M.i_bind hr M.i_pure))), k1 + 1, hk, rfl, rfl, h'.imp fun b' k' a' hp => ?_⟩
    rcases hp with hp | ⟨rfl, h2, h3⟩
    · exact .inl (.inl hp)
    · by_cases e : k' = k1
      · exact .inr ⟨rfl, e, h3⟩
      · exact .inl (.inr ⟨rfl, by omega, h3⟩)
  · right
    obtain rfl : k1 = (ws.getD b default).of.length := by omega
    exact ⟨(T1, c1, T1), M.grdD (by omega) (M.i_f (by simp) M.i_pure), T1, c1, rfl, h⟩
theorem behind_b (hR : rightE ws = 0) {T0 : List (List Bool)} {T : List (List Bool)} {ch : Bool} (hI : BInv ws T0 (fun _ _ _ => False) T ch) :
    ∃ r, (M.iter (za7 ws) (T, ch, 0)).Ends r /\ ∃ T' ch', r = (T', ch', T') /\ BInv ws T0 (fun b' k' a' => b' < ws.length /\ k' < (ws.getD b' default).of.length /\ a' < ws.length) T' ch' := by
  refine M.i_loopQ _ (fun m s => ∃ b, b <= ws.length /\ m = ws.length - b /\ s.2.2 = b /\ BInv ws T0 (fun b' k' a' => b' < b /\ k' < (ws.getD b' default).of.length /\ a' < ws.length) s.1 s.2.1) ?_ ws.length (T, ch, 0) ⟨0, Nat.zero_le _, rfl, rfl, hI.imp fun b' k' a' h => by omega⟩
  rintro m ⟨T1, c1, b1⟩ ⟨b, hle, rfl, rfl, h⟩
  dsimp only at h hle ⊢
  simp only [za7]
  by_cases hb : b1 < ws.length
  · left
    obtain ⟨r, hr, T', ch', rfl, h'⟩ := behind_k hR hb h
    refine ⟨(T', ch', b1 + 1), _, Nat.sub_succ_lt_self _ _ hb, M.i_t (by simpa using hb) (M.i_bind hr M.i_pure), b1 + 1, hb, rfl, rfl, h'.imp fun b' k' a' hp => ?_⟩
    by_cases e : b' = b1
    · subst e; exact .inr ⟨rfl, hp.2⟩
    · exact .inl ⟨by omega, hp.2⟩
  · right
    obtain rfl : b1 = ws.length := by omega
    exact ⟨(T1, c1, T1), M.i_f (by simp) M.i_pure, T1, c1, rfl, h⟩
/-- The table that is done. -/
structure Done (ws : List Work) (T : List (List Bool)) : Prop where
  sq : Sq ws.length T
  sound : ∀ a b, Tb T a b = true -> Wy ws a b
  cl : ∀ b k a, b < ws.length /\ k < (ws.getD b default).of.length /\ a < ws.length -> ClAt ws T b k a
theorem behind_ends (hR : rightE ws = 0) : ∃ T, (zbI ws).Ends T /\ Done ws T := by
  have hlen := right_len hR
  have h0 : (M.iter (zaM ws) (0, [])).Ends (List.replicate ws.length (List.replicate ws.length false), List.replicate ws.length (List.replicate ws.length false)) := by
    refine M.i_for (fun i => (i, List.replicate i (List.replicate ws.length false))) ws.length (fun i hi => ?_) ?_
    · simp only [zaM]
      refine M.i_t (by simpa using hi) (M.i_grd (gA3 (by omega) (by omega) (by omega)) (M.grdD (by simp only [List.length_replicate]; omega) ?_))
      rw [← List.replicate_succ']
      exact M.i_pure
    · simp only [zaM]
      exact M.i_f (by simp) M.i_pure
  have hz : ∀ a b, Tb (List.replicate ws.length (List.replicate ws.length false)) a b = false := by
    intro a b
    unfold Tb
    simp only [List.getD_eq_getElem?_getD, List.getElem?_replicate]
    split
    · simp only [Option.getD_some, List.getElem?_replicate]; split <;> rfl
    · rfl
  have hs : Sq ws.length (List.replicate ws.length (List.replicate ws.length false)) := ⟨by simp, fun a ha => by simp [List.getD_eq_getElem?_getD, List.getElem?_replicate, ha]⟩
  obtain ⟨r, hr, T, rfl, hT⟩ := M.i_loopQ (body := za4 ws) (fun r => ∃ T, r = (T, T) /\ Done ws T)
    (fun m s => Sq ws.length s.1 /\ (∀ a b, Tb s.1 a b = true -> Wy ws a b) /\ m = fT s.1 + (if s.2 then 1 else 0) /\ (s.2 = false -> Done ws s.1))
    (by
      rintro m ⟨T1, c1⟩ ⟨h1, h2, rfl, h4⟩
      dsimp only at h1 h2 h4 ⊢
      simp only [za4]
      cases c1 with
      | false => exact .inr ⟨(T1, T1), M.i_f rfl M.i_pure, T1, rfl, h4 rfl⟩
      | true =>
        left
        obtain ⟨r, hr, T', ch', rfl, h'⟩ := behind_b hR (T0 := T1) (T := T1) (ch := false) ⟨h1, h2, fun e => (by cases e), fun _ => ⟨rfl, fun _ _ _ h => h.elim⟩⟩
        refine ⟨(T', ch'), _, ?_, M.i_t rfl (M.i_bind hr M.i_pure), h'.sq, h'.sound, rfl, fun e => ⟨h'.sq, h'.sound, (h'.no e).2⟩⟩
        cases ch' with
        | true => have := h'.yes rfl; simp only [if_true]; omega
        | false => rw [(h'.no rfl).1]; simp)
    _ (List.replicate ws.length (List.replicate ws.length false), true) ⟨hs, fun a b h => (by rw [hz] at h; cases h), rfl, fun e => (by cases e)⟩
  exact ⟨T, M.i_bind h0 (M.i_bind hr M.i_pure), hT⟩
theorem Done.way {T : List (List Bool)} (h : Done ws T) (hR : rightE ws = 0) {a b : Nat} (w : Wy ws a b) : Tb T a b = true := by
  induction w with
  | @one b ha hb =>
    obtain ⟨k, hk, e⟩ := List.getElem_of_mem ha
    have e' : ((ws.getD b default).of).getD k 0 = (a : Int) := (getD_el _ hk _).trans e
    have := right_of hR hb _ ha
    exact h.cl b k a ⟨hb, hk, by omega⟩ (by rw [e']; simp)
  | @more m b w hm hb ih =>
    obtain ⟨k, hk, e⟩ := List.getElem_of_mem hm
    have e' : ((ws.getD b default).of).getD k 0 = (m : Int) := (getD_el _ hk _).trans e
    have ha : a < ws.length := by
      cases hlt : decide (a < ws.length) with
      | true => simpa using hlt
      | false =>
        exfalso
        have : Tb T a m = false := by
          unfold Tb
          rw [List.getD_eq_getElem?_getD (l := T), List.getElem?_eq_none (by rw [h.sq.len]; simpa using hlt)]
          simp
        rw [ih] at this
        cases this
    exact h.cl b k a ⟨hb, hk, ha⟩ (by rw [e', show Int.toNat (m : Int) = m from rfl, ih]; simp)
end Go.Proofs.Ytndobgodeicloaa
namespace Go.Proofs.Ytndobgodeicloaa
open Go Go.Nm
variable {ws : List Work}
theorem check_ends (ws : List Work) : (zbw ws).Ends (openedE ws) := by
  unfold zbw
  by_cases hR : rightE ws = 0
  · obtain ⟨T, hT, hD⟩ := behind_ends hR
    refine M.i_f (by simp [hR]) (M.i_bind hT (M.i_bind (M.i_scan ws.length (fun i => Tb T i i) (fun i hi _ => ?_) (fun _ => ?_)) ?_))
    · simp only [zbe]
      have := hD.sq.len
      have := hD.sq.row i hi
      refine M.i_t (by simpa using hi) (M.grdD (by omega) (M.grdD (by omega) ?_))
      cases hc : Tb T i i with
      | true => exact M.i_t hc M.i_pure
      | false => exact M.i_f hc M.i_pure
    · simp only [zbe]
      exact M.i_f (by simp) M.i_pure
    · by_cases hf : (orderP ws).length < ws.length
      · obtain ⟨i, hi, hw⟩ := order_circle hR hf
        have : (List.range ws.length).any (fun i => Tb T i i) = true := List.any_eq_true.2 ⟨i, List.mem_range.2 hi, hD.way hR hw⟩
        rw [this, opened_circle hR (by omega)]
        exact M.i_pure
      · have h0 := opened_ok hR (by omega : ¬ ((orderP ws).length : Int) < ws.length)
        have : (List.range ws.length).any (fun i => Tb T i i) = false := List.any_eq_false.2 fun i _ hc => by
          have := wy_pos h0 (hD.sound i i hc)
          omega
        rw [this, h0]
        exact M.i_pure
  · rw [opened_wrong hR]
    exact M.i_t (by simpa using hR) M.i_pure
end Go.Proofs.Ytndobgodeicloaa
namespace Go.Proofs.Ytndobgodeicloaa
open Go Go.Nm
variable {ws : List Work}
end Go.Proofs.Ytndobgodeicloaa
section
set_option maxRecDepth 100000
set_option maxHeartbeats 16000000
namespace Go.Proofs.Ytndobgodeicloaa
open Go Go.Nm
def zaA (revised : List Int) (r3 : List (List Bool)) (i : Nat) : (Bool × Nat) -> M ((Bool × Nat) ⊕ Bool) := fun (is, k) =>
  bif decide ((k : Int) < (revised.length : Int)) then (
  M.grd ((!(!is) || (decide ((k : Int) < (revised.length : Int))))) <|
  M.grd ((!(!is) || (decide ((0 : Int) <= (revised.getD k 0)) && decide ((revised.getD k 0) < (r3.length : Int))))) <|
  M.grd ((!(!is) || (decide ((i : Int) < ((r3.getD (Int.toNat (revised.getD k 0)) ([])).length : Int))))) <|
  M.pure (.inl ((is || ((r3.getD (Int.toNat (revised.getD k 0)) ([])).getD i false)), k + 1)))
  else (
  M.pure (.inr is))
def za1 (w_ : List Work) (revised : List Int) (r3 : List (List Bool)) : (Nat × (List Int)) -> M ((Nat × (List Int)) ⊕ ((List Int) × (List Int))) := fun (i, l) =>
  bif decide ((i : Int) < (w_.length : Int)) then (
  M.bind (M.iter (zaA revised r3 i) (revised.contains (i : Int), 0)) fun is2 =>
  bif is2 then (
  M.grd (decide ((l.length + ([(i : Int)]).length) * 8 <= 140737488355328)) <|
  M.pure (.inl (i + 1, l ++ ([(i : Int)]))))
  else (
  M.pure (.inl (i + 1, l))))
  else (
  M.pure (.inr (l, l)))
def zbH (w_ : List Work) (revised : List Int) : M ((List Int) × Int) :=
  M.bind (zbw w_) fun r2 =>
  bif r2 != 0 then (
  M.pure (([]), r2))
  else (
  bif (listedE w_.length revised) != 0 then (
  M.pure (([]), (listedE w_.length revised)))
  else (
  M.bind (zbI w_) fun r3 =>
  M.bind (M.iter (za1 w_ revised r3) (0, [])) fun (l2, l3) =>
  M.pure (l3, 0)))
theorem zcX {R : List Chunk} {aK : Cells} {aj : Value} {aL : Cells} {ai : Value} (w_ : List Work) (revised : List Int) (aD : Reads R aK) (au : Sl aK aj w_) (aE : Reads R aL) (ap : Sl aL ai revised) {r : ((List Int) × Int)} (hM : (zbH w_ revised).Ends r) (w : World) (H : St w w [] R) : Ret Try.prog 33 #[aj, ai] w fun v w' => ∃ (y0 : List Int) (y1 : Int) (u0 : Value), (y0, y1) = r /\ v = .tuple #[u0, I y1] /\ St w w' [cOwn (α := Int) 3 u0 y0] R := by
 refine ret_of_W Try.func33 rfl rfl rfl ?_
 refine sQ rfl <| sA (.slice none 0 0) rfl <| sA (I 0) rfl <| s_nil <| W.seq <| sQ rfl <| sM aj rfl ?_
 obtain ⟨bj, aW, hM⟩ := M.e_bind hM
 refine s_call cf71 [aj] rfl (zdj w_ (aD.app _) au aW _ (St.give (T := []) H rfl)) ?_
 rintro vq aM ⟨r2, aX, hvq, av⟩
 subst aX
 subst vq
 try dsimp only at hM
 replace H : St w aM [] R := H.back av rfl
 clear av
 refine sA (I r2) rfl <| s_nil <| sQ rfl <| sM (I r2) rfl <| sC _ _ (r2 != 0) rfl rfl rfl <| s_nil ?_
 refine W.cond (r2 != 0) rfl (fun aw => ?_) (fun aw => ?_)
 ·replace hM := M.e_t hM aw
  simp only [qz1, qz2, qz3, qz4, qz5, qz6, ne_eq, qz7] at aw
  refine sQ rfl <| sM (I r2) rfl <| sA (.slice none 0 0) rfl <| sA (I r2) rfl <| s_nil ?_
  refine W.ret ?_
  have ax := M.e_pure hM
  replace H : St w aM [cOwn (α := Int) 3 (.slice none 0 0) ([])] R := H.nilOwn (α := Int) 3
  exact ⟨_, resE_tmp2 rfl, ⟨([]), r2, (.slice none 0 0), ax, rfl, H⟩⟩
 replace hM := M.e_f hM aw
 simp only [qz1, qz2, qz3, qz4, qz5, qz6, ne_eq, qz7] at aw
 refine W.skip <| W.seq <| sQ rfl <| sM aj rfl <| sM ai rfl ?_
 refine s_call cf93 [aj, ai] rfl (refListed _ (au.mono (aD.at H)) (ap.mono (aE.at H))) ?_
 rintro _ aN ⟨rfl, ae⟩
 replace H : St w aN [] R := H.ext ae
 clear ae
 refine sA (I (listedE w_.length revised)) rfl <| s_nil <| sQ rfl <| sM (I (listedE w_.length revised)) rfl <| sC _ _ ((listedE w_.length revised) != 0) rfl rfl rfl <| s_nil ?_
 refine W.cond ((listedE w_.length revised) != 0) rfl (fun ay => ?_) (fun ay => ?_)
 ·replace hM := M.e_t hM ay
  simp only [qz1, qz2, qz3, qz4, qz5, qz6, ne_eq, qz7] at ay
  refine sQ rfl <| sM (I (listedE w_.length revised)) rfl <| sA (.slice none 0 0) rfl <| sA (I (listedE w_.length revised)) rfl <| s_nil ?_
  refine W.ret ?_
  have ax := M.e_pure hM
  replace H : St w aN [cOwn (α := Int) 3 (.slice none 0 0) ([])] R := H.nilOwn (α := Int) 3
  exact ⟨_, resE_tmp2 rfl, ⟨([]), (listedE w_.length revised), (.slice none 0 0), ax, rfl, H⟩⟩
 replace hM := M.e_f hM ay
 simp only [qz1, qz2, qz3, qz4, qz5, qz6, ne_eq, qz7] at ay
 refine W.skip <| sQ rfl <| sM aj rfl ?_
 obtain ⟨bk, aY, hM⟩ := M.e_bind hM
 refine s_call cf94 [aj] rfl (zcT w_ (aD.app _) au aY _ (St.give (T := []) H rfl)) ?_
 rintro vq aO ⟨r3, am, aq, aZ, hvq, av, aP⟩
 subst aZ
 subst vq
 try dsimp only at hM
 replace H : St w aO [cRo aq] R := H.back av rfl
 clear av
 refine sA am rfl <| s_nil <| sQ rfl <| sA (.slice none 0 0) rfl <| s_nil <| W.seq <| sQ rfl <| sA (I 0) rfl <| s_nil <| W.block ?_
 replace H : St w aO [cOwn (α := Int) 3 (.slice none 0 0) ([]), cRo aq] R := H.nilOwn (α := Int) 3
 obtain ⟨a5, aF, a6⟩ := M.e_bind hM
 obtain ⟨a7, aF⟩ := M.e_iter aF
 refine W.loop (fun m σ W => ∃ (i : Nat) (l : List Int) (ak : Value) (ρ : Env), σ = upds ρ [(0, aj), (1, ai), (8, am), (9, ak), (10, I (i : Int))] /\ M.iterN (za1 w_ revised r3) m (i, l) = some a5 /\ St w W [cOwn (α := Int) 3 ak l, cRo aq] R) ?_ ?_
 ·exact ⟨_, 0, [], (.slice none 0 0), _, upds_of _ _ ⟨rfl, rfl, rfl, rfl, rfl, trivial⟩, aF, H⟩
 rintro bl σ bm ⟨i, l, ak, ρ, rfl, aQ, H⟩
 obtain ⟨aR, aS, bn, hM, aG⟩ := M.e_iterN aQ
 simp only [za1] at hM
 clear aQ
 refine W.seq <| sQ rfl <| sM (I (i : Int)) rfl <| sM aj rfl ?_
 have bo := (au).len_le
 refine s_val (x_lenS T39.und rfl au) <| sC _ _ (decide ((i : Int) < (w_.length : Int))) rfl rfl rfl <| s_nil ?_
 refine W.cond (decide ((i : Int) < (w_.length : Int))) rfl (fun az => ?_) (fun az => ?_)
 ·replace hM := M.e_t hM az
  simp only [qz1, qz2, qz3, qz4, qz5, qz6, ne_eq, qz7] at az
  refine W.skip <| W.seq <| W.block <| sQ rfl <| sM ai rfl <| sM (I (i : Int)) rfl ?_
  refine s_call cf95 [ai, I (i : Int)] rfl (has_any (i : Int) _ (ap.mono (aE.at H))) ?_
  rintro _ a8 ⟨rfl, ae⟩
  replace H : St w a8 [cOwn (α := Int) 3 ak l, cRo aq] R := H.ext ae
  clear ae
  refine sA (B (revised.contains (i : Int))) rfl <| s_nil <| W.seq <| sQ rfl <| sA (I 0) rfl <| s_nil <| W.block ?_
  obtain ⟨a9, aH, ba⟩ := M.e_bind hM
  obtain ⟨a7, aH⟩ := M.e_iter aH
  refine W.loop (fun m σ W => ∃ (is : Bool) (k : Nat) (ρ : Env), σ = upds ρ [(0, aj), (1, ai), (8, am), (9, ak), (10, I (i : Int)), (11, B is), (12, I (k : Int))] /\ M.iterN (zaA revised r3 i) m (is, k) = some a9 /\ St w W [cOwn (α := Int) 3 ak l, cRo aq] R) ?_ ?_
  ·exact ⟨_, revised.contains (i : Int), 0, _, upds_of _ _ ⟨rfl, rfl, rfl, rfl, rfl, rfl, rfl, trivial⟩, aH, H⟩
  rintro bp σ bq ⟨is, k, ρ, rfl, aT, H⟩
  obtain ⟨bb, bc, br, hM, aU⟩ := M.e_iterN aT
  simp only [zaA] at hM
  clear aT
  refine W.seq <| sQ rfl <| sM (I (k : Int)) rfl <| sM ai rfl ?_
  have bt := (ap).len_le
  refine s_val (x_lenS T34.und rfl ap) <| sC _ _ (decide ((k : Int) < (revised.length : Int))) rfl rfl rfl <| s_nil ?_
  refine W.cond (decide ((k : Int) < (revised.length : Int))) rfl (fun aA => ?_) (fun aA => ?_)
  ·replace hM := M.e_t hM aA
   simp only [qz1, qz2, qz3, qz4, qz5, qz6, ne_eq, qz7] at aA
   refine W.skip <| W.seq <| W.block <| W.region rfl <| sM (B is) rfl <| sM (B is) rfl <| g_val (!is) (gy_f rfl) (fun hg => x_mv (v := am) rfl) <| g_val (!is) (gy_f rfl) (fun hg => x_mv (v := ai) rfl) <| g_val (!is) (gy_f rfl) (fun hg => x_mv (v := I (k : Int)) rfl) ?_
   obtain ⟨ag, hM⟩ := M.e_grd hM
   replace ag := M.imp_of ag
   simp only [Bool.and_eq_true, decide_eq_true_eq] at ag
   refine g_val (!is) (gy_f rfl) (fun hg => x_ix (v := vat ai 1 (Int.toNat (k : Int))) (gd_of hg (ai)) (gd_of hg (I (k : Int))) (Sl.ix (α := Int) T34.und T34.size ap (by have aa := ag.resolve_left (by rw [hg]; decide); first | exact aa | exact aa.1 | exact aa.2 | omega | (have ae := hg; simp at ae; omega)) (by have aa := ag.resolve_left (by rw [hg]; decide); first | exact aa | exact aa.1 | exact aa.2 | omega | (have ae := hg; simp at ae; omega)))) <| g_val (!is) (gy_f rfl) (fun hg => x_ld (v := I (revised.getD k 0)) (gd_of hg (vat ai 1 (Int.toNat (k : Int)))) (ld_sc Sc3 (At.mono (Int_at ap (i := (k : Int)) (by have aa := ag.resolve_left (by rw [hg]; decide); first | exact aa | exact aa.1 | exact aa.2 | omega | (have ae := hg; simp at ae; omega)) (by have aa := ag.resolve_left (by rw [hg]; decide); first | exact aa | exact aa.1 | exact aa.2 | omega | (have ae := hg; simp at ae; omega))) (aE.at H)))) ?_
   obtain ⟨al, hM⟩ := M.e_grd hM
   replace al := M.imp_of al
   simp only [Bool.and_eq_true, decide_eq_true_eq] at al
   refine g_val (!is) (gy_f rfl) (fun hg => x_ix (v := vat am 1 (Int.toNat (revised.getD k 0))) (gd_of hg (am)) (gd_of hg (I (revised.getD k 0))) (Sl.ix (α := List Bool) T145.und T145.size aP (by have aa := ag.resolve_left (by rw [hg]; decide); have ac := al.resolve_left (by rw [hg]; decide); first | exact aa | exact aa.1 | exact aa.2 | exact ac | exact ac.1 | exact ac.2 | omega | (have ae := hg; simp at ae; omega)) (by have aa := ag.resolve_left (by rw [hg]; decide); have ac := al.resolve_left (by rw [hg]; decide); first | exact aa | exact aa.1 | exact aa.2 | exact ac | exact ac.1 | exact ac.2 | omega | (have ae := hg; simp at ae; omega)))) ?_
   obtain ⟨aB, bf, aC⟩ := gd_ex (c := !is) fun hg => List_at aP (i := revised.getD k 0) (by have aa := ag.resolve_left (by rw [hg]; decide); have ac := al.resolve_left (by rw [hg]; decide); first | exact aa | exact aa.1 | exact aa.2 | exact ac | exact ac.1 | exact ac.2 | omega | (have ae := hg; simp at ae; omega)) (by have aa := ag.resolve_left (by rw [hg]; decide); have ac := al.resolve_left (by rw [hg]; decide); first | exact aa | exact aa.1 | exact aa.2 | exact ac | exact ac.1 | exact ac.2 | omega | (have ae := hg; simp at ae; omega))
   replace aC : (!is) = true -> Sl _ aB (r3.getD (Int.toNat (revised.getD k 0)) ([])) := aC
   refine g_val (!is) (gy_f rfl) (fun hg => x_ld (v := aB) (gd_of hg (vat am 1 (Int.toNat (revised.getD k 0)))) (ld_sc Sc147 (At.mono (bf hg) (roLe _ (H.get (k := 1) rfl))))) <| g_val (!is) (gy_f rfl) (fun hg => x_mv (v := I (i : Int)) rfl) ?_
   obtain ⟨ao, hM⟩ := M.e_grd hM
   replace ao := M.imp_of ao
   simp only [Bool.and_eq_true, decide_eq_true_eq] at ao
   refine g_val (!is) (gy_f rfl) (fun hg => x_ix (v := vat aB 1 (Int.toNat (i : Int))) (gd_of hg (aB)) (gd_of hg (I (i : Int))) (Sl.ix (α := Bool) T147.und T147.size (aC hg) (by have aa := ag.resolve_left (by rw [hg]; decide); have ac := al.resolve_left (by rw [hg]; decide); have ah := ao.resolve_left (by rw [hg]; decide); first | exact aa | exact aa.1 | exact aa.2 | exact ac | exact ac.1 | exact ac.2 | exact ah | exact ah.1 | exact ah.2 | omega | (have ae := hg; simp at ae; omega)) (by have aa := ag.resolve_left (by rw [hg]; decide); have ac := al.resolve_left (by rw [hg]; decide); have ah := ao.resolve_left (by rw [hg]; decide); first | exact aa | exact aa.1 | exact aa.2 | exact ac | exact ac.1 | exact ac.2 | exact ah | exact ah.1 | exact ah.2 | omega | (have ae := hg; simp at ae; omega)))) <| g_val (!is) (gy_f rfl) (fun hg => x_ld (v := B ((r3.getD (Int.toNat (revised.getD k 0)) ([])).getD i false)) (gd_of hg (vat aB 1 (Int.toNat (i : Int)))) (ld_sc Sc4 (At.mono (Bool_at (aC hg) (i := (i : Int)) (by have aa := ag.resolve_left (by rw [hg]; decide); have ac := al.resolve_left (by rw [hg]; decide); have ah := ao.resolve_left (by rw [hg]; decide); first | exact aa | exact aa.1 | exact aa.2 | exact ac | exact ac.1 | exact ac.2 | exact ah | exact ah.1 | exact ah.2 | omega | (have ae := hg; simp at ae; omega)) (by have aa := ag.resolve_left (by rw [hg]; decide); have ac := al.resolve_left (by rw [hg]; decide); have ah := ao.resolve_left (by rw [hg]; decide); first | exact aa | exact aa.1 | exact aa.2 | exact ac | exact ac.1 | exact ac.2 | exact ah | exact ah.1 | exact ah.2 | omega | (have ae := hg; simp at ae; omega))) (roLe _ (H.get (k := 1) rfl))))) <| s_val (x_por (b := is) (r := (r3.getD (Int.toNat (revised.getD k 0)) ([])).getD i false) rfl rfl (fun hb => gd_of (c := !is) (by first | exact hb | (rw [hb]; rfl) | simp_all) (B ((r3.getD (Int.toNat (revised.getD k 0)) ([])).getD i false)))) <| sA (B (is || ((r3.getD (Int.toNat (revised.getD k 0)) ([])).getD i false))) rfl <| s_nil <| W.region rfl <| sM (I (k : Int)) rfl <| sR _ _ ((k : Int) + 1) rfl rfl rfl (by omega) <| sA (I ((k : Int) + 1)) rfl <| s_nil ?_
   exact ⟨bb, bc, (is || ((r3.getD (Int.toNat (revised.getD k 0)) ([])).getD i false)), k + 1, _, upds_of _ _ ⟨rfl, rfl, rfl, rfl, rfl, rfl, rfl, trivial⟩, M.e_inl hM aU, H⟩
  replace hM := M.e_f hM aA
  simp only [qz1, qz2, qz3, qz4, qz5, qz6, ne_eq, qz7] at aA
  refine W.exit ?_
  have bg := M.e_inr hM aU
  subst bg
  replace hM := ba
  try dsimp only at hM
  refine sQ rfl <| sM (B is) rfl <| s_nil ?_
  refine W.cond is rfl (fun aI => ?_) (fun aI => ?_)
  ·replace hM := M.e_t hM aI
   refine W.region rfl <| sM ak rfl <| sM (I (i : Int)) rfl ?_
   refine t_bs (α := Int) T34 [I (i : Int)] [(i : Int)] H rfl (.cons rfl (Flat.rep_enc _ (i : Int)) <| .nil) rfl rfl rfl ?_
   intro aV bu H
   obtain ⟨bv, hM⟩ := M.e_gd hM
   refine t_app (α := Int) (k := 1) (l := l) (l2 := [(i : Int)]) (l' := l ++ ([(i : Int)])) (vy := aV) T34 rfl H rfl rfl rfl (ownSl (H.get (k := 0) rfl)) (ownLe _ (H.get (k := 0) rfl)) (rfl) (by first | omega | (simp only [List.length_nil] at *; omega)) ?_
   intro aJ bh H
   replace H : St w bh [cOwn (α := Int) 3 aV ([(i : Int)]), cOwn (α := Int) 3 aJ (l ++ ([(i : Int)])), cRo aq] R := H
   refine sA aJ rfl <| s_nil <| W.region rfl <| sM (I (i : Int)) rfl <| sR _ _ ((i : Int) + 1) rfl rfl rfl (by omega) <| sA (I ((i : Int) + 1)) rfl <| s_nil ?_
   exact ⟨aR, aS, i + 1, l ++ ([(i : Int)]), aJ, _, upds_of _ _ ⟨rfl, rfl, rfl, rfl, rfl, trivial⟩, M.e_inl hM aG, (H.pick [1, 2] (by decide) rfl)⟩
  replace hM := M.e_f hM aI
  refine W.skip <| W.region rfl <| sM (I (i : Int)) rfl <| sR _ _ ((i : Int) + 1) rfl rfl rfl (by omega) <| sA (I ((i : Int) + 1)) rfl <| s_nil ?_
  exact ⟨aR, aS, i + 1, l, ak, _, upds_of _ _ ⟨rfl, rfl, rfl, rfl, rfl, trivial⟩, M.e_inl hM aG, H⟩
 replace hM := M.e_f hM az
 simp only [qz1, qz2, qz3, qz4, qz5, qz6, ne_eq, qz7] at az
 refine W.exit ?_
 have bi := M.e_inr hM aG
 subst bi
 replace hM := a6
 try dsimp only at hM
 refine sQ rfl <| sM ak rfl <| sA ak rfl <| sA (I 0) rfl <| s_nil ?_
 refine W.ret ?_
 have ax := M.e_pure hM
 exact ⟨_, resE_tmp2 rfl, ⟨l, 0, ak, ax, rfl, (H.pick [0] (by decide) rfl)⟩⟩

def zaN (w_ : List Work) (l : List Int) : Nat -> M (Nat ⊕ (Unit ⊕ Unit)) := fun i =>
  M.grd (decide ((-9223372036854775808 : Int) <= ((i : Int) + 1)) && decide (((i : Int) + 1) <= (9223372036854775807 : Int))) <|
  bif decide (((i : Int) + 1) < (l.length : Int)) then (
  M.grd (decide ((0 : Int) <= ((i : Int) + 1)) && decide (((i : Int) + 1) < (l.length : Int))) <|
  M.grd (decide ((0 : Int) <= (l.getD (Int.toNat ((i : Int) + 1)) 0)) && decide ((l.getD (Int.toNat ((i : Int) + 1)) 0) < (w_.length : Int))) <|
  M.grd (decide ((i : Int) < (l.length : Int))) <|
  bif !(((w_.getD (Int.toNat (l.getD (Int.toNat ((i : Int) + 1)) 0)) default).of).contains (l.getD i 0)) then (
  M.pure (.inr (.inl ())))
  else (
  M.pure (.inl (i + 1))))
  else (
  M.pure (.inr (.inr ())))
def zbv (w_ : List Work) (l : List Int) : M Bool :=
  M.bind (M.iter (zaN w_ l) 0) fun x_ => match x_ with
  | (.inl (_ : Unit)) => (
  M.pure false)
  | (.inr (_ : Unit)) => (
  M.pure (decide (0 < (l.length : Int))))
theorem zdL {R : List Chunk} {aq : Cells} {ae : Value} {au : Cells} {aa : Value} (w_ : List Work) (l : List Int) (av : Reads R aq) (aj : Sl aq ae w_) (aw : Reads R au) (ac : Sl au aa l) {r : Bool} (hM : (zbv w_ l).Ends r) (w : World) (H : St w w [] R) : Ret Try.prog 105 #[ae, aa] w fun v w' => ∃ (y0 : Bool), y0 = r /\ v = B y0 /\ St w w' [] R := by
 refine ret_of_W Try.func105 rfl rfl rfl ?_
 refine sQ rfl <| sA (B false) rfl <| s_nil <| W.seq <| sQ rfl <| sA (I 0) rfl <| s_nil <| W.block ?_
 obtain ⟨az, ak, ax⟩ := M.e_bind hM
 obtain ⟨aH, ak⟩ := M.e_iter ak
 refine W.loop (fun m σ W => ∃ (i : Nat) (ρ : Env), σ = upds ρ [(0, ae), (1, aa), (5, I (i : Int))] /\ M.iterN (zaN w_ l) m i = some az /\ St w W [] R) ?_ ?_
 ·exact ⟨_, 0, _, upds_of _ _ ⟨rfl, rfl, rfl, trivial⟩, ak, H⟩
 rintro aI σ aJ ⟨i, ρ, rfl, ay, H⟩
 obtain ⟨aA, aB, aK, hM, al⟩ := M.e_iterN ay
 simp only [zaN] at hM
 clear ay
 refine W.seq <| sQ rfl <| sM (I (i : Int)) rfl ?_
 obtain ⟨aL, hM⟩ := M.e_gd hM
 refine sR _ _ ((i : Int) + 1) rfl rfl rfl (by omega) <| sM aa rfl ?_
 have aM := (ac).len_le
 refine s_val (x_lenS T34.und rfl ac) <| sC _ _ (decide (((i : Int) + 1) < (l.length : Int))) rfl rfl rfl <| s_nil ?_
 refine W.cond (decide (((i : Int) + 1) < (l.length : Int))) rfl (fun ag => ?_) (fun ag => ?_)
 ·replace hM := M.e_t hM ag
  simp only [qz1, qz2, qz3, qz4, qz5, qz6, ne_eq, qz7] at ag
  refine W.skip <| W.seq <| W.block <| W.seq ?_
  refine W.draw (fun W => St w W [] R) [(0, true), (1, true), (2, true), (3, true), (4, true), (5, true), (6, true), (7, true), (8, true), (9, true), (10, true), (11, true), (12, true), (13, false), (14, true)] mixed (by decide +kernel) rfl ?_
  intro aC ah
  replace H : St w aC [] R := H.ext ah
  clear ah
  refine ⟨(H.pick [] (by decide) rfl), ?_⟩
  refine d_q rfl (fun w' H => x_mv (v := ae) rfl) ?_
  refine d_q rfl (fun w' H => x_mv (v := aa) rfl) ?_
  refine d_q rfl (fun w' H => x_mv (v := I (i : Int)) rfl) ?_
  refine d_q rfl (fun w' H => x_ari (r := (i : Int) + 1) rfl rfl rfl (by omega)) ?_
  obtain ⟨aN, hM⟩ := M.e_gd hM
  refine d_q rfl (fun w' H => x_ix (v := vat aa 1 (Int.toNat ((i : Int) + 1))) rfl rfl (Sl.ix (α := Int) T34.und T34.size ac (by omega) (by omega))) ?_
  refine d_q rfl (fun w' H => x_ld (v := I (l.getD (Int.toNat ((i : Int) + 1)) 0)) rfl (ld_sc Sc3 (At.mono (Int_at ac (i := (i : Int) + 1) (by omega) (by omega)) (aw.at H)))) ?_
  obtain ⟨aO, hM⟩ := M.e_gd hM
  refine d_q rfl (fun w' H => x_ix (v := vat ae 3 (Int.toNat (l.getD (Int.toNat ((i : Int) + 1)) 0))) rfl rfl (Sl.ix (α := Work) T39.und T39.size aj (by omega) (by omega))) ?_
  refine d_q rfl (fun w' H => x_fa (v := fat (vat ae 3 (Int.toNat (l.getD (Int.toNat ((i : Int) + 1)) 0))) 0) rfl (fa_pl Fd138_0 Sz34 (Sl.pl (i := l.getD (Int.toNat ((i : Int) + 1)) 0) aj (by omega) (by omega)))) ?_
  obtain ⟨am, aD, ai⟩ := Work_at0 aj (i := l.getD (Int.toNat ((i : Int) + 1)) 0) (by omega) (by omega)
  replace ai : Sl _ am (w_.getD (Int.toNat (l.getD (Int.toNat ((i : Int) + 1)) 0)) default).of := ai
  have aP := ai.len_le
  refine d_q rfl (fun w' H => x_ld (v := am) rfl (ld_sc Sc34 (At.mono (aD) (av.at H)))) ?_
  refine d_q rfl (fun w' H => x_mv (v := aa) rfl) ?_
  refine d_q rfl (fun w' H => x_mv (v := I (i : Int)) rfl) ?_
  obtain ⟨aQ, hM⟩ := M.e_gd hM
  refine d_q rfl (fun w' H => x_ix (v := vat aa 1 (Int.toNat (i : Int))) rfl rfl (Sl.ix (α := Int) T34.und T34.size ac (by omega) (by omega))) ?_
  refine d_q rfl (fun w' H => x_ld (v := I (l.getD i 0)) rfl (ld_sc Sc3 (At.mono (Int_at ac (i := (i : Int)) (by omega) (by omega)) (aw.at H)))) ?_
  refine d_l rfl ?_
  refine s_call cf95 [am, I (l.getD i 0)] rfl (has_any (l.getD i 0) _ (ai.mono (av.at H))) ?_
  rintro _ aE ⟨rfl, ah⟩
  replace H : St w aE [] R := H.ext ah
  clear ah
  refine s_nil ⟨(H.pick [] (by decide) rfl), ?_⟩
  refine d_q rfl (fun w' H => x_not (b := ((w_.getD (Int.toNat (l.getD (Int.toNat ((i : Int) + 1)) 0)) default).of).contains (l.getD i 0)) rfl) ?_
  refine d_nil ?_
  refine W.cond (!(((w_.getD (Int.toNat (l.getD (Int.toNat ((i : Int) + 1)) 0)) default).of).contains (l.getD i 0))) rfl (fun ao => ?_) (fun ao => ?_)
  ·replace hM := M.e_t hM ao
   refine sQ rfl <| sA (B false) rfl <| s_nil ?_
   refine W.ret ?_
   have aF := M.e_inr hM al
   subst aF
   replace hM := ax
   try dsimp only at hM
   have ap := M.e_pure hM
   exact ⟨_, resE_tmp rfl, ⟨false, ap, rfl, H⟩⟩
  replace hM := M.e_f hM ao
  refine W.skip <| W.region rfl <| sM (I (i : Int)) rfl <| sR _ _ ((i : Int) + 1) rfl rfl rfl (by omega) <| sA (I ((i : Int) + 1)) rfl <| s_nil ?_
  exact ⟨aA, aB, i + 1, _, upds_of _ _ ⟨rfl, rfl, rfl, trivial⟩, M.e_inl hM al, H⟩
 replace hM := M.e_f hM ag
 simp only [qz1, qz2, qz3, qz4, qz5, qz6, ne_eq, qz7] at ag
 refine W.exit ?_
 have aG := M.e_inr hM al
 subst aG
 replace hM := ax
 try dsimp only at hM
 refine sQ rfl <| sM aa rfl ?_
 have aR := (ac).len_le
 refine s_val (x_lenS T34.und rfl ac) <| sC _ _ (decide (0 < (l.length : Int))) rfl rfl rfl <| sA (B (decide (0 < (l.length : Int)))) rfl <| s_nil ?_
 refine W.ret ?_
 have ap := M.e_pure hM
 exact ⟨_, resE_tmp rfl, ⟨(decide (0 < (l.length : Int))), ap, rfl, H⟩⟩

end Go.Proofs.Ytndobgodeicloaa
end
namespace Go.Proofs.Ytndobgodeicloaa
open Go Go.Nm
variable {ws : List Work} {rev f : List Int}
theorem stale_k {T : List (List Bool)} (hD : Done ws T) (hr : ∀ x ∈ rev, 0 <= x /\ x < (ws.length : Int)) {i : Nat} (hi : i < ws.length) :
    (M.iter (zaA rev T i) (rev.contains (i : Int), 0)).Ends (rev.contains (i : Int) || rev.any fun r => Tb T r.toNat i) := by
  have := M.i_for (body := zaA rev T i) (r := (rev.contains (i : Int) || rev.any fun r => Tb T r.toNat i)) (fun k => (rev.contains (i : Int) || (rev.take k).any (fun r => Tb T r.toNat i), k)) rev.length (fun k hk => ?_) ?_
  · simpa using this
  · have hm := hr _ (getD_memN rev (by omega : (k : Int) < _) 0)
    have h1 := hD.sq.len
    have h2 := hD.sq.row (Int.toNat (rev.getD k 0)) (by omega)
    simp only [zaA]
    refine M.i_t (by simpa using hk) (M.i_grd (gOr (by omega)) (M.i_grd (gOr2 hm.1 (by omega)) (M.i_grd (gOr (by omega)) ?_)))
    rw [any_take_succ _ _ hk 0, ← Bool.or_assoc]
    exact M.i_pure
  · simp only [zaA, List.take_length]
    exact M.i_f (by simp) M.i_pure
theorem stale_same (h : openedE ws = 0) {T : List (List Bool)} (hD : Done ws T) (hr : ∀ x ∈ rev, 0 <= x /\ x < (ws.length : Int)) {i : Nat} (hi : i < ws.length) :
    (rev.contains (i : Int) || rev.any fun r => Tb T r.toNat i) = (staleL ws rev).getD i false := by
  rw [Bool.eq_iff_iff, stale_iff h hr hi, Bool.or_eq_true, List.contains_iff_mem, List.any_eq_true]
  constructor
  · rintro (h1 | ⟨k, h1, h2⟩)
    · exact .inl h1
    · exact .inr ⟨k, h1, hD.sound _ _ h2⟩
  · rintro (h1 | ⟨k, h1, h2⟩)
    · exact .inl h1
    · exact .inr ⟨k, h1, hD.way (opened_right h) h2⟩
theorem refStale_ends (ws : List Work) (rev : List Int) : (zbH ws rev).Ends (staleR ws rev, askedE ws rev) := by
  unfold zbH
  refine M.i_bind (check_ends ws) ?_
  by_cases h : openedE ws = 0
  · refine M.i_f (by simp [h]) ?_
    by_cases hL : listedE ws.length rev = 0
    · have ha : askedE ws rev = 0 := by rw [asked_list h]; exact hL
      obtain ⟨T, hT, hD⟩ := behind_ends (opened_right h)
      have hr := (listed_rng hL).1
      refine M.i_f (by simp [hL]) (M.i_bind hT (M.i_bind (a := (stT ws rev ws.length, stT ws rev ws.length)) ?_ ?_))
      · have := M.i_for (body := za1 ws rev T) (r := (stT ws rev ws.length, stT ws rev ws.length)) (fun i => (i, stT ws rev i)) ws.length (fun i hi => ?_) ?_
        · simpa [stT] using this
        · have hl := stT_len ws rev i
          have hlen := right_len (opened_right h)
          simp only [za1]
          refine M.i_t (by simpa using hi) (M.i_bind (stale_k hD hr hi) ?_)
          rw [stale_same h hD hr hi, stT_next]
          cases (staleL ws rev).getD i false with
          | true => exact M.i_t rfl (M.grdD (by simp only [List.length_cons, List.length_nil]; omega) M.i_pure)
          | false => exact M.i_f rfl M.i_pure
        · simp only [za1]
          exact M.i_f (by simp) M.i_pure
      · have e : staleR ws rev = stT ws rev ws.length := by unfold staleR; rw [if_pos ha]
        rw [e, ha]
        exact M.i_pure
    · have e : askedE ws rev = listedE ws.length rev := asked_list h
      rw [staleR_no (by rw [e]; exact hL), e]
      exact M.i_t (by simpa using hL) M.i_pure
  · rw [staleR_no (by rw [asked_wrong h]; exact h), asked_wrong h]
    exact M.i_t (by simpa using h) M.i_pure
end Go.Proofs.Ytndobgodeicloaa
namespace Go.Proofs.Ytndobgodeicloaa
open Go Go.Nm
variable {ws : List Work} {rev f : List Int}
structure RRel (ws : List Work) (rev : List Int) (t : Nat) (R : List Int) : Prop where
  len : R.length = ws.length
  eq : ∀ x ∈ (orderP ws).take t, R.getD x.toNat 0 = (readyR ws rev).getD x.toNat 0
theorem refleads_ends {l : List Int} (hr : ∀ x ∈ l, 0 <= x /\ x < (ws.length : Int)) (hl : l.length <= 1000000) : (zbv ws l).Ends (lineB ws l && decide (0 < (l.length : Int))) := by
  unfold zbv
  have s1 := M.i_scan (b := zaN ws l) (l.length - 1) (fun i => !((ws.getD (l.getD (i + 1) 0).toNat default).of.contains (l.getD i 0))) (fun i hi _ => ?_) (fun _ => ?_)
  · refine M.i_bind s1 ?_
    rw [lineB_at]
    cases (List.range (l.length - 1)).any fun i => !((ws.getD (l.getD (i + 1) 0).toNat default).of.contains (l.getD i 0)) <;> exact M.i_pure
  · have hm := hr _ (getD_memN l (i := i + 1) (by omega) 0)
    simp only [zaN, show ((i : Int) + 1).toNat = i + 1 from by omega]
    refine M.i_grd (gA2 (by omega) (by omega)) (M.i_t (by simp; omega) (M.i_grd (gA2 (by omega) (by omega)) (M.i_grd (gA2 hm.1 hm.2) (M.grdD (by omega) ?_))))
    cases (ws.getD (l.getD (i + 1) 0).toNat default).of.contains (l.getD i 0) <;> exact M.i_pure
  · simp only [zaN]
    exact M.i_grd (gA2 (by omega) (by omega)) (M.i_f (by simp; omega) M.i_pure)
end Go.Proofs.Ytndobgodeicloaa
namespace Go.Nm
open Go
section
variable {P : Program} {w : World} {σ : Env} {d : Nat} {ty : TypeId} {pos : String} {af : Array Edge} {g : Option (Nat × Bool)}
theorem x_shl {t yt : TypeId} {x y : Operand} {a b : Int} {n : Nat} (hx : ev σ x = .int .i64 a) (hy : ev σ y = .int .i64 b) (h : b = (n : Int) /\ n <= 62 /\ -9223372036854775808 <= a * 2 ^ n /\ a * 2 ^ n <= 9223372036854775807) :
    (execOp (ev σ) ⟨some d, .binOp .shl t x y yt, ty, pos, af, g⟩).run P w = .ok (.value (.int .i64 (a * 2 ^ n))) w := by
  obtain ⟨rfl, h1, h2, h3⟩ := h
  have hn : ¬ ((n : Int) < 0) := by omega
  have hm : min n IntKind.i64.bits = n := Nat.min_eq_left (by show n <= 64; omega)
  simp [execOp, hx, hy, eqGuard, binOp, Op.shift, hn, hm, wrap64 (a := a * 2 ^ n) ⟨h2, h3⟩]
theorem x_shr {t yt : TypeId} {x y : Operand} {a b : Int} {n : Nat} (hx : ev σ x = .int .i64 a) (hy : ev σ y = .int .i64 b) (h : b = (n : Int) /\ n <= 62) :
    (execOp (ev σ) ⟨some d, .binOp .shr t x y yt, ty, pos, af, g⟩).run P w = .ok (.value (.int .i64 (a / 2 ^ n))) w := by
  obtain ⟨rfl, h1⟩ := h
  have hn : ¬ ((n : Int) < 0) := by omega
  have hm : min n IntKind.i64.bits = n := Nat.min_eq_left (by show n <= 64; omega)
  have hf : a.fdiv (2 ^ n) = a / 2 ^ n := Int.fdiv_eq_ediv_of_nonneg _ (Int.le_of_lt (Int.pow_pos (by decide)))
  simp [execOp, hx, hy, eqGuard, binOp, Op.shift, hn, hm, hf]
theorem x_and1 {t yt : TypeId} {x y : Operand} {a : Int} (hx : ev σ x = .int .i64 a) (hy : ev σ y = .int .i64 1) (h : 0 <= a /\ a <= 9223372036854775807) :
    (execOp (ev σ) ⟨some d, .binOp .and t x y yt, ty, pos, af, g⟩).run P w = .ok (.value (.int .i64 (a % 2))) w := by
  have e : (((a % 2 ^ IntKind.i64.bits).toNat &&& 1 % 2 ^ IntKind.i64.bits : Nat) : Int) = a % 2 := by
    show (((a % 18446744073709551616).toNat &&& 1 : Nat) : Int) = a % 2
    rw [Nat.and_one_is_mod]
    omega
  simp [execOp, hx, hy, eqGuard, binOp, Op.intBits]
  rw [e, wrap64 (a := a % 2) (by omega)]
end
end Go.Nm
