/- Part 6 of the texts on which the proof rests. Conditions: none. -/
import Derived.Test.YtbaehghammbjdaaZC5
set_option linter.unusedVariables false
set_option linter.unusedSimpArgs false
set_option linter.unusedSectionVars false
section
set_option maxRecDepth 100000
set_option maxHeartbeats 16000000
namespace Go.Proofs.Ytbaehghammbjdaa
open Go Go.Nm
def zbW (aa : List Int) (ab : List Span) (ac : List Int) (ae : List Town) (ai : Int) (aj : Int) (ah : List Flood) : M ((List Dem) × Int) :=
  M.bind (zan aa ab ac ae ai aj ah) fun x_ => match x_ with
  | (.inl r1) => (
  bif r1 != 0 then (
  M.pure (([]), r1))
  else (
  M.fail))
  | (.inr (ak, al, am)) => (
  bif am != 0 then (
  M.fail)
  else (
  M.bind (zaq aa ab ac ae ak al ah) fun (r0, ao, r2) =>
  bif !r2 then (
  M.pure (([]), 6))
  else (
  M.pure (ao, 0))))
theorem zdM {R : List Chunk} {aD : Cells} {ai : Value} {aE : Cells} {aj : Value} {aF : Cells} {ak : Value} {aG : Cells} {al : Value} {aH : Cells} {am : Value} (av : List Int) (aw : List Span) (ax : List Int) (ay : List Town) (ac : Int) (ae : Int) (az : List Flood) (aI : Reads R aD) (aJ : Sl aD ai av) (aK : Reads R aE) (aL : Sl aE aj aw) (aM : Reads R aF) (aN : Sl aF ak ax) (aO : Reads R aG) (aP : Sl aG al ay) (aQ : Reads R aH) (aR : Sl aH am az) {r : ((List Dem) × Int)} (hM : (zbW av aw ax ay ac ae az).Ends r) (w : World) (H : St w w [] R) : Ret Try.prog 29 #[.agg #[ai, aj, ak, al, I ac, I ae, am]] w fun v w' => ∃ (y0 : List Dem) (y1 : Int) (u0 : Value), (y0, y1) = r /\ v = .tuple #[u0, I y1] /\ St w w' [cOwn (α := Dem) 62 u0 y0] R := by
 refine ret_of_W Try.func29 rfl rfl rfl ?_
 refine W.seq ?_
 refine W.region rfl ?_
 refine t_box (v := .agg #[ai, aj, ak, al, I ac, I ae, am]) (cs := [ai, aj, ak, al, I ac, I ae, am]) H rfl rfl ?_
 intro aS a7 H
 refine zA (.slice none 0 0) rfl ?_
 refine zA (I 0) rfl ?_
 refine s_nil ?_
 refine W.seq ?_
 refine W.region rfl ?_
 refine s_val (x_ld (p := Pq aS) (v := .agg #[ai, aj, ak, al, I ac, I ae, am]) rfl (ldb_ag (ds := [ai, aj, ak, al, I ac, I ae, am]) Ag30 Sz30 (H.bl 0) rfl rfl)) ?_
 obtain ⟨a8, aT, hM⟩ := M.e_bind hM
 refine s_call cf44 [.agg #[ai, aj, ak, al, I ac, I ae, am]] rfl (zaF av aw ax ay ac ae az (aI.app _) aJ (aK.app _) aL (aM.app _) aN (aO.app _) aP (aQ.app _) aR aT _ (H.gt 1)) ?_
 rintro vq ba (⟨r1, aU, hvq, ah⟩ | ⟨aV, aW, aa, ao, bb, bc, aX, hvq, ah⟩)
 ·subst aU
  subst vq
  try dsimp only at hM
  replace H := H.bk ah
  clear ah
  refine zM (.tuple #[.pointer none, I r1]) rfl ?_
  refine zX [.pointer none, I r1] (.pointer none) rfl rfl ?_
  refine zX [.pointer none, I r1] (I r1) rfl rfl ?_
  refine zA (.pointer none) rfl ?_
  refine zA (I r1) rfl ?_
  refine s_nil ?_
  refine W.seq ?_
  refine W.seq ?_
  refine W.region rfl ?_
  refine zM (I r1) rfl ?_
  refine zC r1 0 (r1 != 0) rfl rfl rfl ?_
  refine s_nil ?_
  refine W.cond (r1 != 0) rfl (fun aA => ?_) (fun aA => ?_)
  ·replace hM := M.e_t hM aA
   simp only [qy1, qy2, qy3, qy4, qy5, qy6, ne_eq, qy7] at aA
   refine W.seq ?_
   refine W.region rfl ?_
   refine zM (I r1) rfl ?_
   refine zA (.slice none 0 0) rfl ?_
   refine zA (I r1) rfl ?_
   refine s_nil ?_
   refine W.ret ?_
   have au := M.e_pure hM
   replace H := H.nilOwn (α := Dem) 62
   exact ⟨_, resE_tmp2 rfl, ⟨([]), r1, (.slice none 0 0), au, rfl, (H.pk [0])⟩⟩
  replace hM := M.e_f hM aA
  exact (M.e_fail hM).elim
 subst aX
 subst vq
 try dsimp only at hM
 replace H := H.bk ah
 clear ah
 refine zM (.tuple #[Pq ao, I aa]) rfl ?_
 refine zX [Pq ao, I aa] (Pq ao) rfl rfl ?_
 refine zX [Pq ao, I aa] (I aa) rfl rfl ?_
 refine zA (Pq ao) rfl ?_
 refine zA (I aa) rfl ?_
 refine s_nil ?_
 refine W.seq ?_
 refine W.seq ?_
 refine W.region rfl ?_
 refine zM (I aa) rfl ?_
 refine zC aa 0 (aa != 0) rfl rfl rfl ?_
 refine s_nil ?_
 refine W.cond (aa != 0) rfl (fun aB => ?_) (fun aB => ?_)
 ·replace hM := M.e_t hM aB
  exact (M.e_fail hM).elim
 replace hM := M.e_f hM aB
 simp only [qy1, qy2, qy3, qy4, qy5, qy6, ne_eq, qy7] at aB
 refine W.skip ?_
 refine W.seq ?_
 refine W.region rfl ?_
 refine zM (Pq ao) rfl ?_
 obtain ⟨bf, aY, hM⟩ := M.e_bind hM
 refine s_call cf50 [Pq ao] rfl (zc3 av aw ax ay aV aW az (aI.app _) aJ (aK.app _) aL (aM.app _) aN (aO.app _) aP (aQ.app _) aR (Has.here (k := 0) rfl) aY _ ((H.pk [1, 0, 2]).gt 2)) ?_
 rintro vq bg ⟨r0, aZ, r2, aq, ab, bh, a6, hvq, ah⟩
 subst a6
 subst vq
 try dsimp only at hM
 replace H := H.pk [1, 0, 2] |>.bk ah
 clear ah
 refine zM (.tuple #[aq, ab, B r2]) rfl ?_
 refine zX [aq, ab, B r2] aq rfl rfl ?_
 refine zX [aq, ab, B r2] ab rfl rfl ?_
 refine zX [aq, ab, B r2] (B r2) rfl rfl ?_
 refine zA aq rfl ?_
 refine zA ab rfl ?_
 refine zA (B r2) rfl ?_
 refine s_nil ?_
 replace H := H.pk [1]
 refine W.seq ?_
 refine W.seq ?_
 refine W.region rfl ?_
 refine zM (B r2) rfl ?_
 refine s_val (x_not (b := r2) rfl) ?_
 refine s_nil ?_
 refine W.cond (!r2) rfl (fun aC => ?_) (fun aC => ?_)
 ·replace hM := M.e_t hM aC
  refine W.seq ?_
  refine W.region rfl ?_
  refine zA (.slice none 0 0) rfl ?_
  refine zA (I 6) rfl ?_
  refine s_nil ?_
  refine W.ret ?_
  have au := M.e_pure hM
  replace H := H.nilOwn (α := Dem) 62
  exact ⟨_, resE_tmp2 rfl, ⟨([]), 6, (.slice none 0 0), au, rfl, (H.pk [0])⟩⟩
 replace hM := M.e_f hM aC
 refine W.skip ?_
 refine W.seq ?_
 refine W.region rfl ?_
 refine zM ab rfl ?_
 refine zA ab rfl ?_
 refine zA (I 0) rfl ?_
 refine s_nil ?_
 refine W.ret ?_
 have au := M.e_pure hM
 exact ⟨_, resE_tmp2 rfl, ⟨aZ, 0, ab, au, rfl, H⟩⟩

def zcc (x : Dem) (aa : List Int) (ab : List Span) (ac : List Int) (ae : List Town) (ah : Int) (ai : Int) (aj : List Flood) : M Bool :=
  M.bind (zbK aa ab ac ae ah ai aj x) fun r2 =>
  M.pure (!r2)
theorem zdw {R : List Chunk} {ab : Nat} {aa : Nat} {am : Cells} {ao : Value} {aq : Cells} {au : Value} {av : Cells} {aw : Value} {ax : Cells} {ay : Value} {az : Cells} {aA : Value} {aC : Nat} (x : Dem) (ac : List Int) (ae : List Span) (ah : List Int) (ai : List Town) (aj : Int) (ak : Int) (al : List Flood) (aD : Reads R am) (aE : Sl am ao ac) (aF : Reads R aq) (aG : Sl aq au ae) (aH : Reads R av) (aI : Sl av aw ah) (aJ : Reads R ax) (aK : Sl ax ay ai) (aL : Reads R az) (aM : Sl az aA al) (aN : Has R (cBlk aa [ao, au, aw, ay, I aj, I ak, aA, .map (some aC)] 86)) (aO : Has R (cBlk ab [.func (.func 52) #[Pq aa] #[]] 105)) {r : Bool} (hM : (zcc x ac ae ah ai aj ak al).Ends r) (w : World) (H : St w w [] R) : Ret Try.prog 78 #[.agg #[I x.spring, I x.town], Pq ab] w fun v w' => ∃ (y0 : Bool), y0 = r /\ v = B y0 /\ St w w' [] R := by
 refine ret_of_W Try.func78 rfl rfl rfl ?_
 refine W.seq ?_
 refine W.region rfl ?_
 refine t_box (v := .agg #[I x.spring, I x.town]) (cs := [I x.spring, I x.town]) H rfl rfl ?_
 intro aP aT H
 refine zA (B false) rfl ?_
 refine s_nil ?_
 refine W.seq ?_
 refine W.region rfl ?_
 refine s_val (x_ld (p := Pq ab) (v := .func (.func 52) #[Pq aa] #[]) rfl (ldb_sc Sc105 (aO.blk H) rfl)) ?_
 refine s_val (x_ld (p := Pq aP) (v := .agg #[I x.spring, I x.town]) rfl (ldb_ag (ds := [I x.spring, I x.town]) Ag62 Sz62 (H.bl 0) rfl rfl)) ?_
 obtain ⟨aU, aQ, hM⟩ := M.e_bind hM
 refine s_callm (f := 52) (fs := [Pq aa]) rfl cf52 [.agg #[I x.spring, I x.town]] rfl (zdc ac ae ah ai aj ak al x (aD.app _) aE (aF.app _) aG (aH.app _) aI (aJ.app _) aK (aL.app _) aM (aN.app _) aQ _ (H.gt 1)) ?_
 rintro vq aV ⟨r2, aR, hvq, aB⟩
 subst aR
 subst vq
 try dsimp only at hM
 replace H := H.bk aB
 clear aB
 refine s_val (x_not (b := r2) rfl) ?_
 refine zA (B (!r2)) rfl ?_
 refine s_nil ?_
 refine W.ret ?_
 have aS := M.e_pure hM
 exact ⟨_, resE_tmp rfl, ⟨(!r2), aS, rfl, (H.pk [])⟩⟩

def zb1 (l : List Dem) (aa : List Int) (ab : List Span) (ac : List Int) (ae : List Town) (ah : Int) (ai : Int) (aj : List Flood) : M Bool :=
  M.bind (zbG l (fun ak => zcc ak aa ab ac ae ah ai aj)) fun r2 =>
  M.pure (!r2)
theorem zdt {R : List Chunk} {aq : Cells} {aa : Value} {ab : Nat} {au : Cells} {av : Value} {aw : Cells} {ax : Value} {ay : Cells} {az : Value} {aA : Cells} {aB : Value} {aC : Cells} {aD : Value} {aG : Nat} (l : List Dem) (ac : List Int) (ae : List Span) (ah : List Int) (ai : List Town) (aj : Int) (ak : Int) (al : List Flood) (aH : Reads R aq) (aI : Sl aq aa l) (aJ : Reads R au) (aK : Sl au av ac) (aL : Reads R aw) (aM : Sl aw ax ae) (aN : Reads R ay) (aO : Sl ay az ah) (aP : Reads R aA) (aQ : Sl aA aB ai) (aR : Reads R aC) (aS : Sl aC aD al) (aT : Has R (cBlk ab [av, ax, az, aB, I aj, I ak, aD, .map (some aG)] 86)) {r : Bool} (hM : (zb1 l ac ae ah ai aj ak al).Ends r) (w : World) (H : St w w [] R) : Ret Try.prog 60 #[aa, .func (.func 52) #[Pq ab] #[]] w fun v w' => ∃ (y0 : Bool), y0 = r /\ v = B y0 /\ St w w' [] R := by
 refine ret_of_W Try.func60 rfl rfl rfl ?_
 refine W.seq ?_
 refine W.region rfl ?_
 refine t_box (v := .func (.func 52) #[Pq ab] #[]) (cs := [.func (.func 52) #[Pq ab] #[]]) H rfl rfl ?_
 intro am bb H
 refine zA (B false) rfl ?_
 refine s_nil ?_
 refine W.seq ?_
 refine W.region rfl ?_
 refine zM aa rfl ?_
 refine s_val (x_mf (fs := []) (cs := [Pq am]) rfl rfl) ?_
 obtain ⟨bc, aU, hM⟩ := M.e_bind hM
 refine s_call cf74 [aa, .func (.func 78) #[] #[Pq am]] rfl (zcP l (fun ao => zcc ao ac ae ah ai aj ak al) (aH.app _) aI ⟨78, [Pq am], rfl, cf78, fun aE bf bg aV ao bh aW bi aX aY => by obtain rfl := Dem_arg aX; exact (zdw ao ac ae ah ai aj ak al (Reads.app (aJ.app _) _) aK (Reads.app (aL.app _) _) aM (Reads.app (aN.app _) _) aO (Reads.app (aP.app _) _) aQ (Reads.app (aR.app _) _) aS (Has.app (aT.app _) _) (Has.app (Has.here (k := 0) rfl) _) aY aE (St.refl aW)).mono fun aV aE ⟨bj, aZ, a6, a7⟩ => by subst aZ; exact ⟨a6, a7⟩⟩ aU _ (H.gt 1)) ?_
 rintro vq bm ⟨r2, a8, hvq, aF⟩
 subst a8
 subst vq
 try dsimp only at hM
 replace H := H.bk aF
 clear aF
 refine s_val (x_not (b := r2) rfl) ?_
 refine zA (B (!r2)) rfl ?_
 refine s_nil ?_
 refine W.ret ?_
 have ba := M.e_pure hM
 exact ⟨_, resE_tmp rfl, ⟨(!r2), ba, rfl, (H.pk [])⟩⟩

def zbo (s : Int) (k0 : List Bool) : M Bool :=
  M.grd (decide ((0 : Int) <= s) && decide (s < (12 : Int))) <|
  M.pure (k0.getD (Int.toNat s) false)
theorem zdN {R : List Chunk} {aa : Nat} (s : Int) (k0 : List Bool) (ab : k0.length = 12) (ac : Has R (cBlk aa (encB k0) 74)) {r : Bool} (hM : (zbo s k0).Ends r) (w : World) (H : St w w [] R) : Ret Try.prog 61 #[I s, Pq aa] w fun v w' => ∃ (y0 : Bool), y0 = r /\ v = B y0 /\ St w w' [] R := by
 refine ret_of_W Try.func61 rfl rfl rfl ?_
 refine W.seq ?_
 refine W.region rfl ?_
 refine zA (B false) rfl ?_
 refine s_nil ?_
 refine W.seq ?_
 refine W.region rfl ?_
 refine zM (I s) rfl ?_
 obtain ⟨ae, hM⟩ := M.e_grd hM
 simp only [Bool.and_eq_true, decide_eq_true_eq] at ae
 refine s_val (x_ix (a := Pq aa) (b := I s) (v := .pointer (some ⟨aa, 0 + Int.toNat s, none⟩)) rfl rfl (run_indexArr Try.underlying74 Sz4 (by omega) (by omega))) ?_
 refine s_val (x_ld (p := .pointer (some ⟨aa, 0 + Int.toNat s, none⟩)) (v := B (k0.getD (Int.toNat s) false)) rfl (ldArr Sc4 (ac.blk H) (by omega) (by have ai := ab; omega))) ?_
 refine zA (B (k0.getD (Int.toNat s) false)) rfl ?_
 refine s_nil ?_
 refine W.ret ?_
 have ah := M.e_pure hM
 exact ⟨_, resE_tmp rfl, ⟨(k0.getD (Int.toNat s) false), ah, rfl, H⟩⟩

def zaO (r3 : List Int) : ((List Bool) × Nat) -> M (((List Bool) × Nat) ⊕ (List Bool)) := fun (ar, s) =>
  bif decide ((s : Int) < (r3.length : Int)) then (
  M.grd (decide ((s : Int) < (r3.length : Int))) <|
  M.grd (decide ((0 : Int) <= (r3.getD s 0)) && decide ((r3.getD s 0) < (12 : Int))) <|
  M.pure (.inl (ar.set (Int.toNat (r3.getD s 0)) true, s + 1)))
  else (
  M.pure (.inr ar))
def zbD (ab : List Int) (ac : List Span) (ae : List Int) (ah : List Town) (ai : List Flood) (l : List Dem) (aj : Int) (ak : Int) : ((List Bool) × Nat) -> M (((List Bool) × Nat) ⊕ ((List Bool) ⊕ (List Bool))) := fun (aa, s2) =>
  bif decide ((s2 : Int) < (l.length : Int)) then (
  M.grd (decide ((s2 : Int) < (l.length : Int))) <|
  M.bind (zaa ab ac ae ah aj ak ai (l.getD s2 default)) fun r3 =>
  M.bind (M.opt (!((r3.length : Int) == 0)) (zar r3 (fun al => zbo al aa)) false) fun r4 =>
  bif (((r3.length : Int) == 0) || r4) then (
  M.pure (.inr (.inl aa)))
  else (
  M.bind (M.iter (zaO r3) (aa, 0)) fun am =>
  M.pure (.inl (am, s2 + 1))))
  else (
  M.pure (.inr (.inr aa)))
def zaL (aa : List Int) (ab : List Span) (ac : List Int) (ae : List Town) (ak : Int) (al : Int) (ah : List Flood) (many : Int) (l : List Dem) : M (Bool × Int) :=
  M.bind (zan aa ab ac ae ak al ah) fun x_ => match x_ with
  | (.inl r1) => (
  bif r1 != 0 then (
  M.pure (false, r1))
  else (
  M.fail))
  | (.inr (ai, aj, am)) => (
  bif am != 0 then (
  M.fail)
  else (
  bif decide (64 < (l.length : Int)) then (
  M.pure (false, 3))
  else (
  M.bind (zb1 l aa ab ac ae ai aj ah) fun r2 =>
  bif !r2 then (
  M.pure (false, 2))
  else (
  M.bind (M.iter (zbD aa ab ac ae ah l ai aj) (List.replicate 12 false, 0)) fun x_ => match x_ with
  | (.inl ao) => (
  M.pure (false, 0))
  | (.inr aq) => (
  M.pure ((decide (many <= (l.length : Int))), 0))))))
theorem zcG {R : List Chunk} {bf : Cells} {ac : Value} {bg : Cells} {ae : Value} {bh : Cells} {ah : Value} {bi : Cells} {ai : Value} {bj : Cells} {aj : Value} {bm : Cells} {ab : Value} (aw : List Int) (ax : List Span) (ay : List Int) (az : List Town) (al : Int) (am : Int) (aA : List Flood) (many : Int) (l : List Dem) (aN : Reads R bf) (aO : Sl bf ac aw) (aP : Reads R bg) (aQ : Sl bg ae ax) (aR : Reads R bh) (aS : Sl bh ah ay) (aT : Reads R bi) (aU : Sl bi ai az) (aV : Reads R bj) (aW : Sl bj aj aA) (bn : Reads R bm) (aB : Sl bm ab l) {r : (Bool × Int)} (hM : (zaL aw ax ay az al am aA many l).Ends r) (w : World) (H : St w w [] R) : Ret Try.prog 30 #[.agg #[ac, ae, ah, ai, I al, I am, aj], I many, ab] w fun v w' => ∃ (y0 : Bool) (y1 : Int), (y0, y1) = r /\ v = .tuple #[B y0, I y1] /\ St w w' [] R := by
 refine ret_of_W Try.func30 rfl rfl rfl ?_
 refine W.seq ?_
 refine W.region rfl ?_
 refine t_box (v := .agg #[ac, ae, ah, ai, I al, I am, aj]) (cs := [ac, ae, ah, ai, I al, I am, aj]) H rfl rfl ?_
 intro aK b7 H
 refine zA (B false) rfl ?_
 refine zA (I 0) rfl ?_
 refine s_nil ?_
 refine W.seq ?_
 refine W.region rfl ?_
 refine s_val (x_ld (p := Pq aK) (v := .agg #[ac, ae, ah, ai, I al, I am, aj]) rfl (ldb_ag (ds := [ac, ae, ah, ai, I al, I am, aj]) Ag30 Sz30 (H.bl 0) rfl rfl)) ?_
 obtain ⟨b8, bv, hM⟩ := M.e_bind hM
 refine s_call cf44 [.agg #[ac, ae, ah, ai, I al, I am, aj]] rfl (zaF aw ax ay az al am aA (aN.app _) aO (aP.app _) aQ (aR.app _) aS (aT.app _) aU (aV.app _) aW bv _ (H.gt 1)) ?_
 rintro vq b9 (⟨r1, bw, hvq, ao⟩ | ⟨aC, aD, av, aa, aG, bx, bz, hvq, ao⟩)
 ·subst bw
  subst vq
  try dsimp only at hM
  replace H := H.bk ao
  clear ao
  refine zM (.tuple #[.pointer none, I r1]) rfl ?_
  refine zX [.pointer none, I r1] (.pointer none) rfl rfl ?_
  refine zX [.pointer none, I r1] (I r1) rfl rfl ?_
  refine zA (.pointer none) rfl ?_
  refine zA (I r1) rfl ?_
  refine s_nil ?_
  refine W.seq ?_
  refine W.block ?_
  refine W.seq ?_
  refine W.region rfl ?_
  refine zM (I r1) rfl ?_
  refine zC r1 0 (r1 != 0) rfl rfl rfl ?_
  refine zA (B (r1 != 0)) rfl ?_
  refine s_nil ?_
  refine W.cond (r1 != 0) rfl (fun aL => ?_) (fun aL => ?_)
  ·replace hM := M.e_t hM aL
   simp only [qy1, qy2, qy3, qy4, qy5, qy6, ne_eq, qy7] at aL
   refine W.seq ?_
   refine W.region rfl ?_
   refine zM (I r1) rfl ?_
   refine zA (B false) rfl ?_
   refine zA (I r1) rfl ?_
   refine s_nil ?_
   refine W.ret ?_
   have aq := M.e_pure hM
   exact ⟨_, resE_tmp2 rfl, ⟨false, r1, aq, rfl, (H.pk [])⟩⟩
  replace hM := M.e_f hM aL
  exact (M.e_fail hM).elim
 subst bz
 subst vq
 try dsimp only at hM
 replace H := H.bk ao
 clear ao
 refine zM (.tuple #[Pq aa, I av]) rfl ?_
 refine zX [Pq aa, I av] (Pq aa) rfl rfl ?_
 refine zX [Pq aa, I av] (I av) rfl rfl ?_
 refine zA (Pq aa) rfl ?_
 refine zA (I av) rfl ?_
 refine s_nil ?_
 refine W.seq ?_
 refine W.block ?_
 refine W.seq ?_
 refine W.region rfl ?_
 refine zM (I av) rfl ?_
 refine zC av 0 (av != 0) rfl rfl rfl ?_
 refine zA (B (av != 0)) rfl ?_
 refine s_nil ?_
 refine W.cond (av != 0) rfl (fun aM => ?_) (fun aM => ?_)
 ·replace hM := M.e_t hM aM
  exact (M.e_fail hM).elim
 replace hM := M.e_f hM aM
 simp only [qy1, qy2, qy3, qy4, qy5, qy6, ne_eq, qy7] at aM
 refine W.seq ?_
 refine W.region rfl ?_
 refine zM ab rfl ?_
 have ca := (aB).len_le
 refine s_val (x_lenS T57.und rfl aB) ?_
 refine zC (l.length : Int) 64 (decide (64 < (l.length : Int))) rfl rfl rfl ?_
 refine zA (B (decide (64 < (l.length : Int)))) rfl ?_
 refine s_nil ?_
 refine W.cond (decide (64 < (l.length : Int))) rfl (fun aH => ?_) (fun aH => ?_)
 ·replace hM := M.e_t hM aH
  simp only [qy1, qy2, qy3, qy4, qy5, qy6, ne_eq, qy7] at aH
  refine W.seq ?_
  refine W.region rfl ?_
  refine zA (B false) rfl ?_
  refine zA (I 3) rfl ?_
  refine s_nil ?_
  replace H := H.pk []
  refine W.ret ?_
  have aq := M.e_pure hM
  exact ⟨_, resE_tmp2 rfl, ⟨false, 3, aq, rfl, H⟩⟩
 replace hM := M.e_f hM aH
 simp only [qy1, qy2, qy3, qy4, qy5, qy6, ne_eq, qy7] at aH
 refine W.seq ?_
 refine W.region rfl ?_
 refine zM ab rfl ?_
 refine zM (Pq aa) rfl ?_
 refine s_val (x_mf (fs := [Pq aa]) (cs := []) rfl rfl) ?_
 obtain ⟨cb, bA, hM⟩ := M.e_bind hM
 refine s_call cf60 [ab, .func (.func 52) #[Pq aa] #[]] rfl (zdt l aw ax ay az aC aD aA (bn.app _) aB (aN.app _) aO (aP.app _) aQ (aR.app _) aS (aT.app _) aU (aV.app _) aW (Has.here (k := 0) rfl) bA _ (H.gt 3)) ?_
 rintro vq cc ⟨r2, bB, hvq, ao⟩
 subst bB
 subst vq
 try dsimp only at hM
 replace H := H.bk ao
 clear ao
 refine s_val (x_not (b := r2) rfl) ?_
 refine zA (B (!r2)) rfl ?_
 refine s_nil ?_
 refine W.cond (!r2) rfl (fun aX => ?_) (fun aX => ?_)
 ·replace hM := M.e_t hM aX
  refine W.seq ?_
  refine W.region rfl ?_
  refine zA (B false) rfl ?_
  refine zA (I 2) rfl ?_
  refine s_nil ?_
  replace H := H.pk []
  refine W.ret ?_
  have aq := M.e_pure hM
  exact ⟨_, resE_tmp2 rfl, ⟨false, 2, aq, rfl, H⟩⟩
 replace hM := M.e_f hM aX
 refine W.skip ?_
 refine W.seq ?_
 refine W.region rfl ?_
 refine t_alloc (cs := encB (List.replicate 12 false)) H Al74 rfl ?_
 intro ak cd H
 have bC : (List.replicate 12 false).length = 12 := by simp
 refine s_nil ?_
 refine W.seq ?_
 refine W.seq ?_
 refine W.region rfl ?_
 refine zM ab rfl ?_
 have ce := (aB).len_le
 refine s_val (x_lenS T57.und rfl aB) ?_
 refine zM (I 0) rfl ?_
 refine s_nil ?_
 refine W.block ?_
 obtain ⟨bD, aY, bo⟩ := M.e_bind hM
 obtain ⟨bE, aY⟩ := M.e_iter aY
 refine W.loop (fun m σ W => ∃ (aE : List Bool) (s2 : Nat) (B_mem : Base) (ρ : Env), σ = upds ρ [(1, I many), (2, ab), (8, Pq aa), (10, Pq ak), (35, ab), (36, I (l.length : Int)), (37, I (s2 : Int))] /\ M.iterN (zbD aw ax ay az aA l aC aD) m (aE, s2) = some bD /\ St w W [cBlk ak (encB aE) 74, cBlk aa [ac, ae, ah, ai, I aC, I aD, aj, .map (some aG)] 86, cMem encDm aG B_mem (zaa aw ax ay az aC aD aA), cBlk aK [ac, ae, ah, ai, I al, I am, aj] 30] R /\ aE.length = 12) ?_ ?_
 ·exact ⟨_, List.replicate 12 false, 0, bx, _, upds_of _ _ ⟨rfl, rfl, rfl, rfl, rfl, rfl, rfl, trivial⟩, aY, H, bC⟩
 rintro cf σ cg ⟨aE, s2, B_mem, ρ, rfl, bp, H, bq⟩
 obtain ⟨bF, bG, ch, hM, aZ⟩ := M.e_iterN bp
 simp only [zbD] at hM
 clear bp
 refine W.seq ?_
 refine W.region rfl ?_
 refine zC (s2 : Int) (l.length : Int) (decide ((s2 : Int) < (l.length : Int))) rfl rfl rfl ?_
 refine s_nil ?_
 refine W.seq ?_
 refine W.cond (decide ((s2 : Int) < (l.length : Int))) rfl (fun aI => ?_) (fun aI => ?_)
 ·replace hM := M.e_t hM aI
  simp only [qy1, qy2, qy3, qy4, qy5, qy6, ne_eq, qy7] at aI
  refine W.skip ?_
  refine W.seq ?_
  refine W.block ?_
  refine W.seq ?_
  refine W.region rfl ?_
  obtain ⟨bH, hM⟩ := M.e_grd hM
  simp only [Bool.and_eq_true, decide_eq_true_eq] at bH
  refine s_val (x_ix (a := ab) (b := I (s2 : Int)) (v := vat ab 2 (Int.toNat (s2 : Int))) rfl rfl (Sl.ix (α := Dem) T57.und T57.size aB (by omega) (by omega))) ?_
  refine s_val (x_ld (p := vat ab 2 (Int.toNat (s2 : Int))) (v := .agg #[I ((l.getD s2 default).spring), I ((l.getD s2 default).town)]) rfl (ld_ag Ag62 Sz62 (At.mono (Dem_atA aB (i := (s2 : Int)) (by omega) (by omega)) (bn.at H)))) ?_
  refine t_alloc (cs := [I 0, I 0]) H Al62 rfl ?_
  intro a6 ck H
  refine t_sw 0 0 [I ((l.getD s2 default).spring), I ((l.getD s2 default).town)] (.agg #[I ((l.getD s2 default).spring), I ((l.getD s2 default).town)]) H rfl rfl Sz62 rfl rfl rfl rfl ?_
  intro cl H
  refine s_nil ?_
  refine W.seq ?_
  refine W.region rfl ?_
  refine zM (Pq aa) rfl ?_
  refine s_val (x_ld (p := Pq a6) (v := .agg #[I ((l.getD s2 default).spring), I ((l.getD s2 default).town)]) rfl (ldb_ag (ds := [I ((l.getD s2 default).spring), I ((l.getD s2 default).town)]) Ag62 Sz62 (H.bl 0) rfl rfl)) ?_
  obtain ⟨cm, bI, hM⟩ := M.e_bind hM
  refine s_call cf54 [Pq aa, .agg #[I ((l.getD s2 default).spring), I ((l.getD s2 default).town)]] rfl (zaG aw ax ay az aC aD aA (l.getD s2 default) (aN.app _) aO (aP.app _) aQ (aR.app _) aS (aT.app _) aU (aV.app _) aW (Has.here (k := 2) rfl) bI _ ((H.pk [3, 0, 1, 2, 4]).gt 4)) ?_
  rintro vq cn ⟨r3, au, a7, bJ, hvq, ao, aF⟩
  subst bJ
  subst vq
  try dsimp only at hM
  replace H := H.pk [3, 0, 1, 2, 4] |>.bk ao
  clear ao
  refine zA au rfl ?_
  refine s_nil ?_
  refine W.seq ?_
  refine W.seq ?_
  refine W.region rfl ?_
  refine zM au rfl ?_
  have co := (aF).len_le
  refine s_val (x_lenS T23.und rfl aF) ?_
  refine zC (r3.length : Int) 0 ((r3.length : Int) == 0) rfl rfl rfl ?_
  refine zM (B ((r3.length : Int) == 0)) rfl ?_
  refine g_val (!((r3.length : Int) == 0)) (gy_f rfl) (fun hg => x_mv (v := au) rfl) ?_
  refine g_val (!((r3.length : Int) == 0)) (gy_f rfl) (fun hg => x_mf (fs := []) (cs := [Pq ak]) rfl rfl) ?_
  obtain ⟨r4, bK, hM⟩ := M.e_bind hM
  refine t_gcall (!((r3.length : Int) == 0)) (gy_f rfl) cf57 (B r4) (fun _ => [au, .func (.func 61) #[] #[Pq ak]]) (fun hg => lst2 (gd_of (c := !((r3.length : Int) == 0)) hg (au)) (gd_of (c := !((r3.length : Int) == 0)) hg (.func (.func 61) #[] #[Pq ak]))) H (fun hg => (zcr r3 (fun a8 => zbo a8 aE) (Reads.of (k := 0) rfl memLe) aF ⟨61, [Pq ak], rfl, cf61, fun br cp cq bL a8 ct bM cu bN bO => by obtain rfl := Arg.int bN; exact (zdN a8 aE bq (Has.app (Has.here (k := 2) rfl) _) bO br (St.refl bM)).mono fun bL br ⟨cw, bP, bQ, bR⟩ => by subst bP; exact ⟨bQ, bR⟩⟩ (M.e_opt bK hg) _ (H.give (A := []) rfl)).mono fun v_ w_ ⟨y_, aq, bS, H_⟩ => by subst aq; exact ⟨bS, H.via H_⟩) ?_
  intro cx H
  refine s_val (x_por (b := (r3.length : Int) == 0) (r := r4) rfl rfl (fun hb => gd_of (c := !((r3.length : Int) == 0)) (by first | exact hb | (rw [hb]; rfl) | simp_all) (B r4))) ?_
  refine s_nil ?_
  refine W.cond (((r3.length : Int) == 0) || r4) rfl (fun ba => ?_) (fun ba => ?_)
  ·replace hM := M.e_t hM ba
   refine W.seq ?_
   refine W.region rfl ?_
   refine zA (B false) rfl ?_
   refine zA (I 0) rfl ?_
   refine s_nil ?_
   refine W.ret ?_
   have bT := M.e_inr hM aZ
   subst bT
   replace hM := bo
   try dsimp only at hM
   have aq := M.e_pure hM
   exact ⟨_, resE_tmp2 rfl, ⟨false, 0, aq, rfl, (H.pk [])⟩⟩
  replace hM := M.e_f hM ba
  refine W.skip ?_
  refine W.seq ?_
  refine W.region rfl ?_
  refine zM au rfl ?_
  have cy := (aF).len_le
  refine s_val (x_lenS T23.und rfl aF) ?_
  refine zM (I 0) rfl ?_
  refine s_nil ?_
  refine W.block ?_
  obtain ⟨bU, bb, bV⟩ := M.e_bind hM
  obtain ⟨bE, bb⟩ := M.e_iter bb
  refine W.loop (fun m σ W => ∃ (ar : List Bool) (s : Nat) (ρ : Env), σ = upds ρ [(1, I many), (2, ab), (8, Pq aa), (10, Pq ak), (35, ab), (36, I (l.length : Int)), (37, I (s2 : Int)), (48, gd (!((r3.length : Int) == 0)) au), (49, gd (!((r3.length : Int) == 0)) (.func (.func 61) #[] #[Pq ak])), (50, gd (!((r3.length : Int) == 0)) (B r4)), (52, au), (53, I (r3.length : Int)), (54, I (s : Int))] /\ M.iterN (zaO r3) m (ar, s) = some bU /\ St w W [cMem encDm aG a7 (zaa aw ax ay az aC aD aA), cBlk a6 [I ((l.getD s2 default).spring), I ((l.getD s2 default).town)] 62, cBlk ak (encB ar) 74, cBlk aa [ac, ae, ah, ai, I aC, I aD, aj, .map (some aG)] 86, cBlk aK [ac, ae, ah, ai, I al, I am, aj] 30] R /\ ar.length = 12) ?_ ?_
  ·exact ⟨_, aE, 0, _, upds_of _ _ ⟨rfl, rfl, rfl, rfl, rfl, rfl, rfl, rfl, rfl, rfl, rfl, rfl, rfl, trivial⟩, bb, H, bq⟩
  rintro cz σ cA ⟨ar, s, ρ, rfl, bt, H, bc⟩
  obtain ⟨bW, bX, cB, hM, bu⟩ := M.e_iterN bt
  simp only [zaO] at hM
  clear bt
  refine W.seq ?_
  refine W.region rfl ?_
  refine zC (s : Int) (r3.length : Int) (decide ((s : Int) < (r3.length : Int))) rfl rfl rfl ?_
  refine s_nil ?_
  refine W.seq ?_
  refine W.cond (decide ((s : Int) < (r3.length : Int))) rfl (fun aJ => ?_) (fun aJ => ?_)
  ·replace hM := M.e_t hM aJ
   simp only [qy1, qy2, qy3, qy4, qy5, qy6, ne_eq, qy7] at aJ
   refine W.skip ?_
   refine W.seq ?_
   refine W.block ?_
   refine W.seq ?_
   refine W.region rfl ?_
   obtain ⟨bY, hM⟩ := M.e_grd hM
   simp only [Bool.and_eq_true, decide_eq_true_eq] at bY
   refine s_val (x_ix (a := au) (b := I (s : Int)) (v := vat au 1 (Int.toNat (s : Int))) rfl rfl (Sl.ix (α := Int) T23.und T23.size aF (by omega) (by omega))) ?_
   refine s_val (x_ld (p := vat au 1 (Int.toNat (s : Int))) (v := I (r3.getD s 0)) rfl (ld_sc Sc3 (At.mono (Int_at aF (i := (s : Int)) (by omega) (by omega)) (memLe _ (H.get (k := 0) rfl))))) ?_
   refine zA (I (r3.getD s 0)) rfl ?_
   refine s_nil ?_
   refine W.region rfl ?_
   refine zM (I (r3.getD s 0)) rfl ?_
   obtain ⟨bZ, hM⟩ := M.e_grd hM
   simp only [Bool.and_eq_true, decide_eq_true_eq] at bZ
   refine s_val (x_ix (a := Pq ak) (b := I (r3.getD s 0)) (v := .pointer (some ⟨ak, 0 + Int.toNat (r3.getD s 0), none⟩)) rfl rfl (run_indexArr Try.underlying74 Sz4 (by omega) (by omega))) ?_
   refine t_stArr (k := 2) (b := ak) (l := ar) (l' := ar.set (Int.toNat (r3.getD s 0)) true) (i := r3.getD s 0) (v := true) (L' := [cMem encDm aG a7 (zaa aw ax ay az aC aD aA), cBlk a6 [I ((l.getD s2 default).spring), I ((l.getD s2 default).town)] 62, cBlk ak (encB (ar.set (Int.toNat (r3.getD s 0)) true)) 74, cBlk aa [ac, ae, ah, ai, I aC, I aD, aj, .map (some aG)] 86, cBlk aK [ac, ae, ah, ai, I al, I am, aj] 30]) H rfl rfl rfl Sz4 (by omega) (by have cC := bc; omega) rfl rfl ?_
   intro cD H
   have b4 : (ar.set (Int.toNat (r3.getD s 0)) true).length = 12 := List.length_set.trans bc
   refine s_nil ?_
   refine W.region rfl ?_
   refine zR (s : Int) 1 ((s : Int) + 1) rfl rfl rfl (by omega) ?_
   refine zM (I ((s : Int) + 1)) rfl ?_
   refine s_nil ?_
   exact ⟨bW, bX, ar.set (Int.toNat (r3.getD s 0)) true, s + 1, _, upds_of _ _ ⟨rfl, rfl, rfl, rfl, rfl, rfl, rfl, rfl, rfl, rfl, rfl, rfl, rfl, trivial⟩, M.e_inl hM bu, H, b4⟩
  replace hM := M.e_f hM aJ
  simp only [qy1, qy2, qy3, qy4, qy5, qy6, ne_eq, qy7] at aJ
  refine W.exit ?_
  have b5 := M.e_inr hM bu
  subst b5
  replace hM := bV
  try dsimp only at hM
  refine W.region rfl ?_
  refine zR (s2 : Int) 1 ((s2 : Int) + 1) rfl rfl rfl (by omega) ?_
  refine zM (I ((s2 : Int) + 1)) rfl ?_
  refine s_nil ?_
  exact ⟨bF, bG, ar, s2 + 1, a7, _, upds_of _ _ ⟨rfl, rfl, rfl, rfl, rfl, rfl, rfl, trivial⟩, M.e_inl hM aZ, (H.pk [2, 3, 0, 4]), bc⟩
 replace hM := M.e_f hM aI
 simp only [qy1, qy2, qy3, qy4, qy5, qy6, ne_eq, qy7] at aI
 refine W.exit ?_
 have b6 := M.e_inr hM aZ
 subst b6
 replace hM := bo
 try dsimp only at hM
 replace H := H.pk []
 refine W.seq ?_
 refine W.region rfl ?_
 refine zM ab rfl ?_
 have cE := (aB).len_le
 refine s_val (x_lenS T57.und rfl aB) ?_
 refine zM (I many) rfl ?_
 refine zC (l.length : Int) many (decide (many <= (l.length : Int))) rfl rfl rfl ?_
 refine zA (B (decide (many <= (l.length : Int)))) rfl ?_
 refine zA (I 0) rfl ?_
 refine s_nil ?_
 refine W.ret ?_
 have aq := M.e_pure hM
 exact ⟨_, resE_tmp2 rfl, ⟨(decide (many <= (l.length : Int))), 0, aq, rfl, H⟩⟩

def zcy (l : List Int) : M (List Int) :=
  M.grd (decide ((([] : List Int).length + l.length) * 8 <= 140737488355328)) <|
  M.pure l
theorem zdG {R : List Chunk} {ab : Cells} {aa : Value} (l : List Int) (ae : Reads R ab) (ah : Sl ab aa l) {r : (List Int)} (hM : (zcy l).Ends r) (w : World) (H : St w w [] R) : Ret Try.prog 14 #[aa] w fun v w' => ∃ (y0 : List Int) (u0 : Value), y0 = r /\ v = u0 /\ St w w' [cOwn (α := Int) 3 u0 y0] R := by
 refine ret_of_W Try.func14 rfl rfl rfl ?_
 refine W.seq ?_
 refine W.region rfl ?_
 refine zA (.slice none 0 0) rfl ?_
 refine s_nil ?_
 refine W.seq ?_
 refine W.region rfl ?_
 refine zA (.slice none 0 0) rfl ?_
 refine s_nil ?_
 refine W.seq ?_
 refine W.region rfl ?_
 refine zM (.slice none 0 0) rfl ?_
 refine zM aa rfl ?_
 replace H := H.nilOwn (α := Int) 3
 obtain ⟨ai, hM⟩ := M.e_grd hM
 simp only [Bool.and_eq_true, decide_eq_true_eq] at ai
 refine t_app (α := Int) (k := 0) (l := []) (l2 := l) (l' := l) (vy := aa) T23 rfl H rfl rfl rfl ah (ae.at H) (List.nil_append _) (by first | omega | (simp only [List.length_nil] at *; omega)) ?_
 intro ac ak H
 replace H := H.nf
 refine zA ac rfl ?_
 refine s_nil ?_
 refine W.ret ?_
 have aj := M.e_pure hM
 exact ⟨_, resE_tmp rfl, ⟨l, ac, aj, rfl, H⟩⟩

def za4 (r0 : List Int) (ab : List Span) (ac : List Int) (r6 : List Flood) (ae : Int) (ah : Int) (ai : List Town) (aa : List Int) : Nat -> M (Nat ⊕ (Unit ⊕ Unit)) := fun k =>
  bif decide ((k : Int) < (aa.length : Int)) then (
  M.grd (decide ((k : Int) <= (aa.length : Int))) <|
  M.grd (decide ((0 : Int) <= ((k : Int) + 1)) && decide (((k : Int) + 1) <= (aa.length : Int))) <|
  M.bind (zcy (aa.take k)) fun r7 =>
  M.grd (decide ((r7.length + (aa.drop (Int.toNat ((k : Int) + 1))).length) * 8 <= 140737488355328)) <|
  M.bind (zbk r0 ab ac ai ae ah r6 (r7 ++ (aa.drop (Int.toNat ((k : Int) + 1))))) fun (aj, ak) =>
  bif ((ak != 0) || ((aj.length : Int) == 0)) then (
  M.pure (.inr (.inl ())))
  else (
  M.pure (.inl (k + 1))))
  else (
  M.pure (.inr (.inr ())))
def zaU (tries : List UInt8) (r0 : List Int) : (Int × Int × Nat × (List Int)) -> M ((Int × Int × Nat × (List Int)) ⊕ (Int × Int × (List Int) × (List Int))) := fun (s, s2, s3, l) =>
  bif decide ((s3 : Int) < (r0.length : Int)) then (
  M.bind (zac tries s s2 3) fun (r8, aa, ab) =>
  bif r8 == 0 then (
  M.grd (decide ((l.length + ([(s3 : Int)]).length) * 8 <= 140737488355328)) <|
  M.pure (.inl (aa, ab, s3 + 1, l ++ ([(s3 : Int)]))))
  else (
  M.pure (.inl (aa, ab, s3 + 1, l))))
  else (
  M.pure (.inr (s, s2, l, l)))
def zaY (tries : List UInt8) (aa : List Dem) : (Int × Int × Nat × (List Dem)) -> M ((Int × Int × Nat × (List Dem)) ⊕ (Int × Int × (List Dem) × (List Dem))) := fun (s6, s7, k2, l4) =>
  bif decide ((k2 : Int) < (aa.length : Int)) then (
  M.bind (zac tries s6 s7 3) fun (r9, ab, ac) =>
  bif r9 == 0 then (
  M.grd (decide ((k2 : Int) < (aa.length : Int))) <|
  M.grd (decide ((l4.length + ([(aa.getD k2 default)]).length) * 16 <= 140737488355328)) <|
  M.pure (.inl (ab, ac, k2 + 1, l4 ++ ([(aa.getD k2 default)]))))
  else (
  M.pure (.inl (ab, ac, k2 + 1, l4))))
  else (
  M.pure (.inr (s6, s7, l4, l4)))
def za0 (tries : List UInt8) (r0 : List Int) (aa : List Span) (ab : List Int) (r6 : List Flood) (ac : Int) (ae : Int) (ah : List Town) (ai : List Int) (aq : List Dem) : (Int × Int × Nat) -> M ((Int × Int × Nat) ⊕ ((Int × Int) ⊕ (Int × Int))) := fun (aj, ak, n) =>
  bif decide ((n : Int) < 6) then (
  M.bind (M.iter (zaU tries r0) (aj, ak, 0, [])) fun (s4, s5, l2, l3) =>
  M.bind (zbk r0 aa ab ah ac ae r6 l3) fun (au, av) =>
  bif ((av != 0) || (((au.length : Int) == 0) && (decide ((l3.length : Int) < (ai.length : Int))))) then (
  M.pure (.inr (.inl (s4, s5))))
  else (
  M.bind (M.iter (zaY tries aq) (s4, s5, 0, [])) fun (s8, s9, l5, l6) =>
  M.bind (zac tries s8 s9 6) fun (al, am, ao) =>
  M.bind (zaL r0 aa ab ah ac ae r6 al l6) fun (aw, ax) =>
  bif ((ax != 0) || (aw && (decide ((ai.length : Int) < al)))) then (
  M.pure (.inr (.inl (am, ao))))
  else (
  M.pure (.inl (am, ao, n + 1)))))
  else (
  M.pure (.inr (.inr (aj, ak))))
def zcE (numbers : List UInt8) (tries : List UInt8) : M Bool :=
  M.bind (zbY numbers) fun (r1, r2) =>
  M.bind (zbM numbers r1 r2 12) fun (r0, aa, ab, r3, r4, r5, r6, q1, q2) =>
  M.bind (zbU r0 aa ab r3 r4 r5 r6) fun (ae, ah, al, ai) =>
  M.bind (zbY tries) fun (am, ao) =>
  M.bind (zaE r0 aa ab ai ae ah r6) fun (ac, aq) =>
  M.bind (zbW r0 aa ab ai ae ah r6) fun (aj, au) =>
  M.bind (zbd r0 aa ab ai ae ah r6) fun (ak, av) =>
  M.bind (zaL r0 aa ab ai ae ah r6 (ac.length : Int) aj) fun (aw, ax) =>
  M.grd (decide ((-9223372036854775808 : Int) <= ((ac.length : Int) + 1)) && decide (((ac.length : Int) + 1) <= (9223372036854775807 : Int))) <|
  M.bind (zaL r0 aa ab ai ae ah r6 ((ac.length : Int) + 1) aj) fun (ay, az) =>
  bif ((((((((((!al) || (aq != 0)) || (au != 0)) || (av != 0)) || (ax != 0)) || (az != 0)) || (!aw)) || ay) || ((aj.length : Int) != (ac.length : Int))) || (((ak.length : Int) == 0) != ((ac.length : Int) == 0))) then (
  M.pure false)
  else (
  M.bind (M.iter (za4 r0 aa ab r6 ae ah ai ac) 0) fun x_ => match x_ with
  | (.inl (_ : Unit)) => (
  M.pure false)
  | (.inr (_ : Unit)) => (
  M.bind (M.iter (za0 tries r0 aa ab r6 ae ah ai ac ak) (am, ao, 0)) fun x_ => match x_ with
  | (.inl (aB, aC)) => (
  M.pure false)
  | (.inr (aD, aE)) => (
  M.bind (zcD) fun aA =>
  M.pure aA)))
theorem zdC {R : List Chunk} {bI : Cells} {bc : Value} {bJ : Cells} {aR : Value} (numbers : List UInt8) (tries : List UInt8) (bK : Reads R bI) (bL : Sl bI bc numbers) (bf : Reads R bJ) (bg : Sl bJ aR tries) {r : Bool} (hM : (zcE numbers tries).Ends r) (w : World) (H : St w w [] R) : Ret Try.prog 7 #[bc, aR] w fun v w' => ∃ (y0 : Bool), y0 = r /\ v = B y0 /\ St w w' [] R := by
 refine ret_of_W Try.func7 rfl rfl rfl ?_
 refine W.seq ?_
 refine W.region rfl ?_
 refine zA (B false) rfl ?_
 refine s_nil ?_
 refine W.seq ?_
 refine W.region rfl ?_
 refine zM bc rfl ?_
 obtain ⟨dt, b7, hM⟩ := M.e_bind hM
 refine s_call cf9 [bc] rfl (zcV numbers (bK.app _) bL b7 _ (H.gt 0)) ?_
 rintro vq du ⟨r1, r2, b8, b9, hvq, aj⟩
 subst b9
 subst vq
 try dsimp only at hM
 replace H := H.bk aj
 clear aj
 obtain ⟨dv, ca, hM⟩ := M.e_bind hM
 refine s_call cf8 [Pq b8, I 12] rfl (zdr numbers r1 r2 12 (bK.app _) bL ca _ (H.gt 0)) ?_
 rintro vq dw ⟨r0, aJ, aK, r3, r4, r5, r6, q1, q2, aq, au, av, cb, aw, aX, aY, cc, hvq, aj, aQ⟩
 subst cc
 subst vq
 try dsimp only at hM
 replace H := H.bk aj
 clear aj
 obtain ⟨dx, cd, hM⟩ := M.e_bind hM
 refine s_call cf26 [.agg #[aq, au, av, cb, I r4, I r5, aw]] rfl (zdz r0 aJ aK r3 r4 r5 r6 (rdo 0) (H.os 0) (rdo 1) (H.os 1) (rdo 2) (H.os 2) (Reads.sup (rdo 3) (Reads.of (k := 4) rfl roLe)) (rowSl rfl (H.get (k := 4) rfl) (roLe _ (H.get (k := 5) rfl)) aQ) cd _ ((H.pk [3, 0, 1, 2, 4, 5, 6]).gt 6)) ?_
 rintro vq dy ⟨al, am, aa, aM, ay, ce, hvq, aj⟩
 subst ce
 subst vq
 try dsimp only at hM
 replace H := H.pk [3, 0, 1, 2, 4, 5, 6] |>.bk aj
 clear aj
 refine zM (.tuple #[.agg #[aq, au, av, ay, I al, I am, aw], B aa]) rfl ?_
 refine zX [.agg #[aq, au, av, ay, I al, I am, aw], B aa] (.agg #[aq, au, av, ay, I al, I am, aw]) rfl rfl ?_
 refine zX [.agg #[aq, au, av, ay, I al, I am, aw], B aa] (B aa) rfl rfl ?_
 refine t_alloc (cs := [.slice none 0 0, .slice none 0 0, .slice none 0 0, .slice none 0 0, I 0, I 0, .slice none 0 0]) H Al30 rfl ?_
 intro aH dz H
 refine t_sw 0 0 [aq, au, av, ay, I al, I am, aw] (.agg #[aq, au, av, ay, I al, I am, aw]) H rfl rfl Sz30 rfl rfl rfl (by simp only [List.all_cons, List.all_nil, Bool.true_and, Bool.and_true, Sl.oc (H.os 2), Sl.oc (H.os 3), Sl.oc (H.os 4), Sl.oc (H.os 1), Sl.oc (rowSl rfl (H.get (k := 5) rfl) (roLe _ (H.get (k := 6) rfl)) aQ)]; try rfl) ?_
 intro dA H
 refine zA (B aa) rfl ?_
 refine s_nil ?_
 refine W.seq ?_
 refine W.region rfl ?_
 refine zM aR rfl ?_
 obtain ⟨dB, cf, hM⟩ := M.e_bind hM
 refine s_call cf9 [aR] rfl (zcV tries (bf.app _) bg cf _ (H.gt 8)) ?_
 rintro vq dC ⟨bm, bn, aL, cg, hvq, aj⟩
 subst cg
 subst vq
 try dsimp only at hM
 replace H := H.bk aj
 clear aj
 refine zA (Pq aL) rfl ?_
 refine s_nil ?_
 refine W.seq ?_
 refine W.region rfl ?_
 refine s_val (x_ld (p := Pq aH) (v := .agg #[aq, au, av, ay, I al, I am, aw]) rfl (ldb_ag (ds := [aq, au, av, ay, I al, I am, aw]) Ag30 Sz30 (H.bl 1) rfl rfl)) ?_
 obtain ⟨dD, ch, hM⟩ := M.e_bind hM
 refine s_call cf22 [.agg #[aq, au, av, ay, I al, I am, aw]] rfl (zbT r0 aJ aK aM al am r6 (rdo 3) (H.os 3) (rdo 4) (H.os 4) (rdo 5) (H.os 5) (rdo 2) (H.os 2) (Reads.sup (rdo 6) (Reads.of (k := 7) rfl roLe)) (rowSl rfl (H.get (k := 6) rfl) (roLe _ (H.get (k := 7) rfl)) aQ) ch _ (H.gt 9)) ?_
 rintro vq dE ⟨ac, ab, aA, ck, hvq, aj⟩
 subst ck
 subst vq
 try dsimp only at hM
 replace H := H.bk aj
 clear aj
 refine zM (.tuple #[aA, I ab]) rfl ?_
 refine zX [aA, I ab] aA rfl rfl ?_
 refine zX [aA, I ab] (I ab) rfl rfl ?_
 refine zA aA rfl ?_
 refine zA (I ab) rfl ?_
 refine s_nil ?_
 refine W.seq ?_
 refine W.region rfl ?_
 refine s_val (x_ld (p := Pq aH) (v := .agg #[aq, au, av, ay, I al, I am, aw]) rfl (ldb_ag (ds := [aq, au, av, ay, I al, I am, aw]) Ag30 Sz30 (H.bl 2) rfl rfl)) ?_
 obtain ⟨dF, cl, hM⟩ := M.e_bind hM
 refine s_call cf29 [.agg #[aq, au, av, ay, I al, I am, aw]] rfl (zdM r0 aJ aK aM al am r6 (rdo 4) (H.os 4) (rdo 5) (H.os 5) (rdo 6) (H.os 6) (rdo 3) (H.os 3) (Reads.sup (rdo 7) (Reads.of (k := 8) rfl roLe)) (rowSl rfl (H.get (k := 7) rfl) (roLe _ (H.get (k := 8) rfl)) aQ) cl _ (H.gt 10)) ?_
 rintro vq dG ⟨aE, ae, aO, cm, hvq, aj⟩
 subst cm
 subst vq
 try dsimp only at hM
 replace H := H.bk aj
 clear aj
 refine zM (.tuple #[aO, I ae]) rfl ?_
 refine zX [aO, I ae] aO rfl rfl ?_
 refine zX [aO, I ae] (I ae) rfl rfl ?_
 refine zA aO rfl ?_
 refine zA (I ae) rfl ?_
 refine s_nil ?_
 refine W.seq ?_
 refine W.region rfl ?_
 refine s_val (x_ld (p := Pq aH) (v := .agg #[aq, au, av, ay, I al, I am, aw]) rfl (ldb_ag (ds := [aq, au, av, ay, I al, I am, aw]) Ag30 Sz30 (H.bl 3) rfl rfl)) ?_
 obtain ⟨dH, cn, hM⟩ := M.e_bind hM
 refine s_call cf23 [.agg #[aq, au, av, ay, I al, I am, aw]] rfl (zdd r0 aJ aK aM al am r6 (rdo 5) (H.os 5) (rdo 6) (H.os 6) (rdo 7) (H.os 7) (rdo 4) (H.os 4) (Reads.sup (rdo 8) (Reads.of (k := 9) rfl roLe)) (rowSl rfl (H.get (k := 8) rfl) (roLe _ (H.get (k := 9) rfl)) aQ) cn _ (H.gt 11)) ?_
 rintro vq dI ⟨aC, ah, aF, co, hvq, aj⟩
 subst co
 subst vq
 try dsimp only at hM
 replace H := H.bk aj
 clear aj
 refine zM (.tuple #[aF, I ah]) rfl ?_
 refine zX [aF, I ah] aF rfl rfl ?_
 refine zX [aF, I ah] (I ah) rfl rfl ?_
 refine zA aF rfl ?_
 refine zA (I ah) rfl ?_
 refine s_nil ?_
 refine W.seq ?_
 refine W.region rfl ?_
 refine s_val (x_ld (p := Pq aH) (v := .agg #[aq, au, av, ay, I al, I am, aw]) rfl (ldb_ag (ds := [aq, au, av, ay, I al, I am, aw]) Ag30 Sz30 (H.bl 4) rfl rfl)) ?_
 refine zM aA rfl ?_
 have dJ := ((H.os 2)).len_le
 refine s_val (x_lenS T23.und rfl (H.os 2)) ?_
 refine zM aO rfl ?_
 obtain ⟨dK, cp, hM⟩ := M.e_bind hM
 refine s_call cf30 [.agg #[aq, au, av, ay, I al, I am, aw], I (ac.length : Int), aO] rfl (zcG r0 aJ aK aM al am r6 (ac.length : Int) aE (rdo 6) (H.os 6) (rdo 7) (H.os 7) (rdo 8) (H.os 8) (rdo 5) (H.os 5) (Reads.sup (rdo 9) (Reads.of (k := 10) rfl roLe)) (rowSl rfl (H.get (k := 9) rfl) (roLe _ (H.get (k := 10) rfl)) aQ) (rdo 1) (H.os 1) cp _ (H.gt 12)) ?_
 rintro vq dL ⟨ao, ai, cq, hvq, aj⟩
 subst cq
 subst vq
 try dsimp only at hM
 replace H := H.bk aj
 clear aj
 refine zM (.tuple #[B ao, I ai]) rfl ?_
 refine zX [B ao, I ai] (B ao) rfl rfl ?_
 refine zX [B ao, I ai] (I ai) rfl rfl ?_
 refine zA (B ao) rfl ?_
 refine zA (I ai) rfl ?_
 refine s_nil ?_
 refine W.seq ?_
 refine W.region rfl ?_
 refine s_val (x_ld (p := Pq aH) (v := .agg #[aq, au, av, ay, I al, I am, aw]) rfl (ldb_ag (ds := [aq, au, av, ay, I al, I am, aw]) Ag30 Sz30 (H.bl 4) rfl rfl)) ?_
 refine zM aA rfl ?_
 have dM := ((H.os 2)).len_le
 refine s_val (x_lenS T23.und rfl (H.os 2)) ?_
 obtain ⟨ct, hM⟩ := M.e_grd hM
 simp only [Bool.and_eq_true, decide_eq_true_eq] at ct
 refine zR (ac.length : Int) 1 ((ac.length : Int) + 1) rfl rfl rfl (by omega) ?_
 refine zM aO rfl ?_
 obtain ⟨dN, cu, hM⟩ := M.e_bind hM
 refine s_call cf30 [.agg #[aq, au, av, ay, I al, I am, aw], I ((ac.length : Int) + 1), aO] rfl (zcG r0 aJ aK aM al am r6 ((ac.length : Int) + 1) aE (rdo 6) (H.os 6) (rdo 7) (H.os 7) (rdo 8) (H.os 8) (rdo 5) (H.os 5) (Reads.sup (rdo 9) (Reads.of (k := 10) rfl roLe)) (rowSl rfl (H.get (k := 9) rfl) (roLe _ (H.get (k := 10) rfl)) aQ) (rdo 1) (H.os 1) cu _ (H.gt 12)) ?_
 rintro vq dO ⟨az, ak, cw, hvq, aj⟩
 subst cw
 subst vq
 try dsimp only at hM
 replace H := H.bk aj
 clear aj
 refine zM (.tuple #[B az, I ak]) rfl ?_
 refine zX [B az, I ak] (B az) rfl rfl ?_
 refine zX [B az, I ak] (I ak) rfl rfl ?_
 refine zA (B az) rfl ?_
 refine zA (I ak) rfl ?_
 refine s_nil ?_
 refine W.seq ?_
 refine W.seq ?_
 refine W.region rfl ?_
 refine zM (B aa) rfl ?_
 refine s_val (x_not (b := aa) rfl) ?_
 refine zM (B (!aa)) rfl ?_
 refine g_val (!(!aa)) (gy_f rfl) (fun hg => x_mv (v := I ab) rfl) ?_
 refine g_val (!(!aa)) (gy_f rfl) (fun hg => x_cmp (kd := .i64) (a := ab) (b := 0) (r := ab != 0) (gd_of (c := !(!aa)) hg (I ab)) rfl rfl) ?_
 refine s_val (x_por (b := !aa) (r := ab != 0) rfl rfl (fun hb => gd_of (c := !(!aa)) (by first | exact hb | (rw [hb]; rfl) | simp_all) (B (ab != 0)))) ?_
 refine zM (B ((!aa) || (ab != 0))) rfl ?_
 refine g_val (!((!aa) || (ab != 0))) (gy_f rfl) (fun hg => x_mv (v := I ae) rfl) ?_
 refine g_val (!((!aa) || (ab != 0))) (gy_f rfl) (fun hg => x_cmp (kd := .i64) (a := ae) (b := 0) (r := ae != 0) (gd_of (c := !((!aa) || (ab != 0))) hg (I ae)) rfl rfl) ?_
 refine s_val (x_por (b := ((!aa) || (ab != 0))) (r := ae != 0) rfl rfl (fun hb => gd_of (c := !((!aa) || (ab != 0))) (by first | exact hb | (rw [hb]; rfl) | simp_all) (B (ae != 0)))) ?_
 refine zM (B (((!aa) || (ab != 0)) || (ae != 0))) rfl ?_
 refine g_val (!(((!aa) || (ab != 0)) || (ae != 0))) (gy_f rfl) (fun hg => x_mv (v := I ah) rfl) ?_
 refine g_val (!(((!aa) || (ab != 0)) || (ae != 0))) (gy_f rfl) (fun hg => x_cmp (kd := .i64) (a := ah) (b := 0) (r := ah != 0) (gd_of (c := !(((!aa) || (ab != 0)) || (ae != 0))) hg (I ah)) rfl rfl) ?_
 refine s_val (x_por (b := (((!aa) || (ab != 0)) || (ae != 0))) (r := ah != 0) rfl rfl (fun hb => gd_of (c := !(((!aa) || (ab != 0)) || (ae != 0))) (by first | exact hb | (rw [hb]; rfl) | simp_all) (B (ah != 0)))) ?_
 refine zM (B ((((!aa) || (ab != 0)) || (ae != 0)) || (ah != 0))) rfl ?_
 refine g_val (!((((!aa) || (ab != 0)) || (ae != 0)) || (ah != 0))) (gy_f rfl) (fun hg => x_mv (v := I ai) rfl) ?_
 refine g_val (!((((!aa) || (ab != 0)) || (ae != 0)) || (ah != 0))) (gy_f rfl) (fun hg => x_cmp (kd := .i64) (a := ai) (b := 0) (r := ai != 0) (gd_of (c := !((((!aa) || (ab != 0)) || (ae != 0)) || (ah != 0))) hg (I ai)) rfl rfl) ?_
 refine s_val (x_por (b := ((((!aa) || (ab != 0)) || (ae != 0)) || (ah != 0))) (r := ai != 0) rfl rfl (fun hb => gd_of (c := !((((!aa) || (ab != 0)) || (ae != 0)) || (ah != 0))) (by first | exact hb | (rw [hb]; rfl) | simp_all) (B (ai != 0)))) ?_
 refine zM (B (((((!aa) || (ab != 0)) || (ae != 0)) || (ah != 0)) || (ai != 0))) rfl ?_
 refine g_val (!(((((!aa) || (ab != 0)) || (ae != 0)) || (ah != 0)) || (ai != 0))) (gy_f rfl) (fun hg => x_mv (v := I ak) rfl) ?_
 refine g_val (!(((((!aa) || (ab != 0)) || (ae != 0)) || (ah != 0)) || (ai != 0))) (gy_f rfl) (fun hg => x_cmp (kd := .i64) (a := ak) (b := 0) (r := ak != 0) (gd_of (c := !(((((!aa) || (ab != 0)) || (ae != 0)) || (ah != 0)) || (ai != 0))) hg (I ak)) rfl rfl) ?_
 refine s_val (x_por (b := (((((!aa) || (ab != 0)) || (ae != 0)) || (ah != 0)) || (ai != 0))) (r := ak != 0) rfl rfl (fun hb => gd_of (c := !(((((!aa) || (ab != 0)) || (ae != 0)) || (ah != 0)) || (ai != 0))) (by first | exact hb | (rw [hb]; rfl) | simp_all) (B (ak != 0)))) ?_
 refine zM (B ((((((!aa) || (ab != 0)) || (ae != 0)) || (ah != 0)) || (ai != 0)) || (ak != 0))) rfl ?_
 refine g_val (!((((((!aa) || (ab != 0)) || (ae != 0)) || (ah != 0)) || (ai != 0)) || (ak != 0))) (gy_f rfl) (fun hg => x_mv (v := B ao) rfl) ?_
 refine g_val (!((((((!aa) || (ab != 0)) || (ae != 0)) || (ah != 0)) || (ai != 0)) || (ak != 0))) (gy_f rfl) (fun hg => x_not (b := ao) (gd_of (c := !((((((!aa) || (ab != 0)) || (ae != 0)) || (ah != 0)) || (ai != 0)) || (ak != 0))) hg (B ao))) ?_
 refine s_val (x_por (b := ((((((!aa) || (ab != 0)) || (ae != 0)) || (ah != 0)) || (ai != 0)) || (ak != 0))) (r := !ao) rfl rfl (fun hb => gd_of (c := !((((((!aa) || (ab != 0)) || (ae != 0)) || (ah != 0)) || (ai != 0)) || (ak != 0))) (by first | exact hb | (rw [hb]; rfl) | simp_all) (B (!ao)))) ?_
 refine zM (B (((((((!aa) || (ab != 0)) || (ae != 0)) || (ah != 0)) || (ai != 0)) || (ak != 0)) || (!ao))) rfl ?_
 refine g_val (!(((((((!aa) || (ab != 0)) || (ae != 0)) || (ah != 0)) || (ai != 0)) || (ak != 0)) || (!ao))) (gy_f rfl) (fun hg => x_mv (v := B az) rfl) ?_
 refine s_val (x_por (b := (((((((!aa) || (ab != 0)) || (ae != 0)) || (ah != 0)) || (ai != 0)) || (ak != 0)) || (!ao))) (r := az) rfl rfl (fun hb => gd_of (c := !(((((((!aa) || (ab != 0)) || (ae != 0)) || (ah != 0)) || (ai != 0)) || (ak != 0)) || (!ao))) (by first | exact hb | (rw [hb]; rfl) | simp_all) (B az))) ?_
 refine zM (B ((((((((!aa) || (ab != 0)) || (ae != 0)) || (ah != 0)) || (ai != 0)) || (ak != 0)) || (!ao)) || az)) rfl ?_
 refine g_val (!((((((((!aa) || (ab != 0)) || (ae != 0)) || (ah != 0)) || (ai != 0)) || (ak != 0)) || (!ao)) || az)) (gy_f rfl) (fun hg => x_mv (v := aO) rfl) ?_
 refine g_val (!((((((((!aa) || (ab != 0)) || (ae != 0)) || (ah != 0)) || (ai != 0)) || (ak != 0)) || (!ao)) || az)) (gy_f rfl) (fun hg => x_lenS T57.und (gd_of (c := !((((((((!aa) || (ab != 0)) || (ae != 0)) || (ah != 0)) || (ai != 0)) || (ak != 0)) || (!ao)) || az)) hg (aO)) (H.os 1)) ?_
 refine g_val (!((((((((!aa) || (ab != 0)) || (ae != 0)) || (ah != 0)) || (ai != 0)) || (ak != 0)) || (!ao)) || az)) (gy_f rfl) (fun hg => x_mv (v := aA) rfl) ?_
 refine g_val (!((((((((!aa) || (ab != 0)) || (ae != 0)) || (ah != 0)) || (ai != 0)) || (ak != 0)) || (!ao)) || az)) (gy_f rfl) (fun hg => x_lenS T23.und (gd_of (c := !((((((((!aa) || (ab != 0)) || (ae != 0)) || (ah != 0)) || (ai != 0)) || (ak != 0)) || (!ao)) || az)) hg (aA)) (H.os 2)) ?_
 refine g_val (!((((((((!aa) || (ab != 0)) || (ae != 0)) || (ah != 0)) || (ai != 0)) || (ak != 0)) || (!ao)) || az)) (gy_f rfl) (fun hg => x_cmp (kd := .i64) (a := (aE.length : Int)) (b := (ac.length : Int)) (r := (aE.length : Int) != (ac.length : Int)) (gd_of (c := !((((((((!aa) || (ab != 0)) || (ae != 0)) || (ah != 0)) || (ai != 0)) || (ak != 0)) || (!ao)) || az)) hg (I (aE.length : Int))) (gd_of (c := !((((((((!aa) || (ab != 0)) || (ae != 0)) || (ah != 0)) || (ai != 0)) || (ak != 0)) || (!ao)) || az)) hg (I (ac.length : Int))) rfl) ?_
 refine s_val (x_por (b := ((((((((!aa) || (ab != 0)) || (ae != 0)) || (ah != 0)) || (ai != 0)) || (ak != 0)) || (!ao)) || az)) (r := (aE.length : Int) != (ac.length : Int)) rfl rfl (fun hb => gd_of (c := !((((((((!aa) || (ab != 0)) || (ae != 0)) || (ah != 0)) || (ai != 0)) || (ak != 0)) || (!ao)) || az)) (by first | exact hb | (rw [hb]; rfl) | simp_all) (B ((aE.length : Int) != (ac.length : Int))))) ?_
 refine zM (B (((((((((!aa) || (ab != 0)) || (ae != 0)) || (ah != 0)) || (ai != 0)) || (ak != 0)) || (!ao)) || az) || ((aE.length : Int) != (ac.length : Int)))) rfl ?_
 refine g_val (!(((((((((!aa) || (ab != 0)) || (ae != 0)) || (ah != 0)) || (ai != 0)) || (ak != 0)) || (!ao)) || az) || ((aE.length : Int) != (ac.length : Int)))) (gy_f rfl) (fun hg => x_mv (v := aF) rfl) ?_
 refine g_val (!(((((((((!aa) || (ab != 0)) || (ae != 0)) || (ah != 0)) || (ai != 0)) || (ak != 0)) || (!ao)) || az) || ((aE.length : Int) != (ac.length : Int)))) (gy_f rfl) (fun hg => x_lenS T57.und (gd_of (c := !(((((((((!aa) || (ab != 0)) || (ae != 0)) || (ah != 0)) || (ai != 0)) || (ak != 0)) || (!ao)) || az) || ((aE.length : Int) != (ac.length : Int)))) hg (aF)) (H.os 0)) ?_
 refine g_val (!(((((((((!aa) || (ab != 0)) || (ae != 0)) || (ah != 0)) || (ai != 0)) || (ak != 0)) || (!ao)) || az) || ((aE.length : Int) != (ac.length : Int)))) (gy_f rfl) (fun hg => x_cmp (kd := .i64) (a := (aC.length : Int)) (b := 0) (r := (aC.length : Int) == 0) (gd_of (c := !(((((((((!aa) || (ab != 0)) || (ae != 0)) || (ah != 0)) || (ai != 0)) || (ak != 0)) || (!ao)) || az) || ((aE.length : Int) != (ac.length : Int)))) hg (I (aC.length : Int))) rfl rfl) ?_
 refine g_val (!(((((((((!aa) || (ab != 0)) || (ae != 0)) || (ah != 0)) || (ai != 0)) || (ak != 0)) || (!ao)) || az) || ((aE.length : Int) != (ac.length : Int)))) (gy_f rfl) (fun hg => x_mv (v := aA) rfl) ?_
 refine g_val (!(((((((((!aa) || (ab != 0)) || (ae != 0)) || (ah != 0)) || (ai != 0)) || (ak != 0)) || (!ao)) || az) || ((aE.length : Int) != (ac.length : Int)))) (gy_f rfl) (fun hg => x_lenS T23.und (gd_of (c := !(((((((((!aa) || (ab != 0)) || (ae != 0)) || (ah != 0)) || (ai != 0)) || (ak != 0)) || (!ao)) || az) || ((aE.length : Int) != (ac.length : Int)))) hg (aA)) (H.os 2)) ?_
 refine g_val (!(((((((((!aa) || (ab != 0)) || (ae != 0)) || (ah != 0)) || (ai != 0)) || (ak != 0)) || (!ao)) || az) || ((aE.length : Int) != (ac.length : Int)))) (gy_f rfl) (fun hg => x_cmp (kd := .i64) (a := (ac.length : Int)) (b := 0) (r := (ac.length : Int) == 0) (gd_of (c := !(((((((((!aa) || (ab != 0)) || (ae != 0)) || (ah != 0)) || (ai != 0)) || (ak != 0)) || (!ao)) || az) || ((aE.length : Int) != (ac.length : Int)))) hg (I (ac.length : Int))) rfl rfl) ?_
 refine g_val (!(((((((((!aa) || (ab != 0)) || (ae != 0)) || (ah != 0)) || (ai != 0)) || (ak != 0)) || (!ao)) || az) || ((aE.length : Int) != (ac.length : Int)))) (gy_f rfl) (fun hg => x_eqb (a := (aC.length : Int) == 0) (b := (ac.length : Int) == 0) (r := (((aC.length : Int) == 0) != ((ac.length : Int) == 0))) (gd_of (c := !(((((((((!aa) || (ab != 0)) || (ae != 0)) || (ah != 0)) || (ai != 0)) || (ak != 0)) || (!ao)) || az) || ((aE.length : Int) != (ac.length : Int)))) hg (B ((aC.length : Int) == 0))) (gd_of (c := !(((((((((!aa) || (ab != 0)) || (ae != 0)) || (ah != 0)) || (ai != 0)) || (ak != 0)) || (!ao)) || az) || ((aE.length : Int) != (ac.length : Int)))) hg (B ((ac.length : Int) == 0))) Try.underlying4 rfl) ?_
 refine s_val (x_por (b := (((((((((!aa) || (ab != 0)) || (ae != 0)) || (ah != 0)) || (ai != 0)) || (ak != 0)) || (!ao)) || az) || ((aE.length : Int) != (ac.length : Int)))) (r := (((aC.length : Int) == 0) != ((ac.length : Int) == 0))) rfl rfl (fun hb => gd_of (c := !(((((((((!aa) || (ab != 0)) || (ae != 0)) || (ah != 0)) || (ai != 0)) || (ak != 0)) || (!ao)) || az) || ((aE.length : Int) != (ac.length : Int)))) (by first | exact hb | (rw [hb]; rfl) | simp_all) (B (((aC.length : Int) == 0) != ((ac.length : Int) == 0))))) ?_
 refine s_nil ?_
 replace H := H.pk [0, 2, 3, 4, 5, 6, 7, 8, 9, 10]
 refine W.cond ((((((((((!aa) || (ab != 0)) || (ae != 0)) || (ah != 0)) || (ai != 0)) || (ak != 0)) || (!ao)) || az) || ((aE.length : Int) != (ac.length : Int))) || (((aC.length : Int) == 0) != ((ac.length : Int) == 0))) rfl (fun bo => ?_) (fun bo => ?_)
 ·replace hM := M.e_t hM bo
  refine W.seq ?_
  refine W.region rfl ?_
  refine zA (B false) rfl ?_
  refine s_nil ?_
  replace H := H.pk []
  refine W.ret ?_
  have aS := M.e_pure hM
  exact ⟨_, resE_tmp rfl, ⟨false, aS, rfl, H⟩⟩
 replace hM := M.e_f hM bo
 refine W.skip ?_
 refine W.seq ?_
 refine W.seq ?_
 refine W.region rfl ?_
 refine zA (I 0) rfl ?_
 refine s_nil ?_
 refine W.block ?_
 obtain ⟨cx, bp, bM⟩ := M.e_bind hM
 obtain ⟨bq, bp⟩ := M.e_iter bp
 refine W.loop (fun m σ W => ∃ (k : Nat) (ρ : Env), σ = upds ρ [(5, Pq aH), (7, Pq aL), (8, aA), (12, aF), (18, I (k : Int))] /\ M.iterN (za4 r0 aJ aK r6 al am aM ac) m k = some cx /\ St w W [cOwn (α := Dem) 62 aF aC, cOwn (α := Int) 3 aA ac, cBlk aL [aR, I bm, I bn] 71, cBlk aH [aq, au, av, ay, I al, I am, aw] 30, cOwn (α := Town) 54 ay aM, cOwn (α := Int) 3 aq r0, cOwn (α := Span) 27 au aJ, cOwn (α := Int) 3 av aK, cOwn (α := Raw 1) 67 aw aX, cRo aY] R) ?_ ?_
 ·exact ⟨_, 0, _, upds_of _ _ ⟨rfl, rfl, rfl, rfl, rfl, trivial⟩, bp, H⟩
 rintro dP σ dQ ⟨k, ρ, rfl, bN, H⟩
 obtain ⟨cy, cz, dR, hM, br⟩ := M.e_iterN bN
 simp only [za4] at hM
 clear bN
 refine W.seq ?_
 refine W.seq ?_
 refine W.region rfl ?_
 refine zM (I (k : Int)) rfl ?_
 refine zM aA rfl ?_
 have dS := ((H.os 1)).len_le
 refine s_val (x_lenS T23.und rfl (H.os 1)) ?_
 refine zC (k : Int) (ac.length : Int) (decide ((k : Int) < (ac.length : Int))) rfl rfl rfl ?_
 refine s_nil ?_
 refine W.cond (decide ((k : Int) < (ac.length : Int))) rfl (fun aZ => ?_) (fun aZ => ?_)
 ·replace hM := M.e_t hM aZ
  simp only [qy1, qy2, qy3, qy4, qy5, qy6, ne_eq, qy7] at aZ
  refine W.skip ?_
  refine W.seq ?_
  refine W.block ?_
  refine W.seq ?_
  refine W.draw (fun W => St w W [cOwn (α := Dem) 62 aF aC, cOwn (α := Int) 3 aA ac, cBlk aL [aR, I bm, I bn] 71, cBlk aH [aq, au, av, ay, I al, I am, aw] 30, cOwn (α := Town) 54 ay aM, cOwn (α := Int) 3 aq r0, cOwn (α := Span) 27 au aJ, cOwn (α := Int) 3 av aK, cOwn (α := Raw 1) 67 aw aX, cRo aY] R) [(0, true), (1, true), (2, true), (4, true), (5, true), (6, true), (7, true), (3, false), (8, false), (9, true)] mixed (by decide +kernel) rfl ?_
  intro dT bO
  replace H := H.ext bO
  clear bO
  refine ⟨(H.pk [0, 1, 2, 3, 4, 5, 6, 7, 8, 9]), ?_⟩
  refine d_q rfl (fun w' H => x_mv (v := aA) rfl) ?_
  refine d_q rfl (fun w' H => x_mv (v := I (k : Int)) rfl) ?_
  obtain ⟨cA, hM⟩ := M.e_grd hM
  simp only [Bool.and_eq_true, decide_eq_true_eq] at cA
  obtain ⟨bt, cB, bu⟩ := sl_hi T23.und T23.size (H.os 1) (j := (k : Int)) (by omega) (by omega)
  replace bu : Sl _ bt (ac.take k) := bu
  refine d_q rfl (fun w' H => x_sl (v := aA) (u := bt) (lo' := none) (hi' := some (I (k : Int))) (mx' := none) rfl rfl rfl rfl (cB _)) ?_
  refine d_q rfl (fun w' H => x_mv (v := aA) rfl) ?_
  refine d_q rfl (fun w' H => x_mv (v := I (k : Int)) rfl) ?_
  refine d_q rfl (fun w' H => x_ari (a := (k : Int)) (b := 1) (r := (k : Int) + 1) rfl rfl rfl (by omega)) ?_
  obtain ⟨cC, hM⟩ := M.e_grd hM
  simp only [Bool.and_eq_true, decide_eq_true_eq] at cC
  obtain ⟨bv, cD, bw⟩ := sl_lo T23.und T23.size (H.os 1) (i := (k : Int) + 1) (by omega) (by omega)
  replace bw : Sl _ bv (ac.drop (Int.toNat ((k : Int) + 1))) := bw
  refine d_q rfl (fun w' H => x_sl (v := aA) (u := bv) (lo' := some (I ((k : Int) + 1))) (hi' := none) (mx' := none) rfl rfl rfl rfl (cD _)) ?_
  refine d_l rfl ?_
  obtain ⟨dU, cE, hM⟩ := M.e_bind hM
  refine s_call cf14 [bt] rfl (zdG (ac.take k) (rdo 1) bu cE _ (H.gt 10)) ?_
  rintro vq dV ⟨r7, dW, cF, hvq, aj⟩
  subst cF
  subst vq
  try dsimp only at hM
  replace H := H.bk aj
  clear aj
  have dX := Sl.cells (H.os 0)
  have dY := Sl.oc (H.os 0)
  refine s_nil ⟨(H.pk [1, 2, 3, 4, 5, 6, 7, 8, 9, 10]), ?_⟩
  refine d_l rfl ?_
  obtain ⟨cG, hM⟩ := M.e_grd hM
  simp only [Bool.and_eq_true, decide_eq_true_eq] at cG
  refine t_app (α := Int) (k := 0) (l := r7) (l2 := ac.drop (Int.toNat ((k : Int) + 1))) (l' := r7 ++ (ac.drop (Int.toNat ((k : Int) + 1)))) (vy := bv) T23 rfl H rfl rfl rfl bw (H.ol 2) (rfl) (by first | omega | (simp only [List.length_nil] at *; omega)) ?_
  intro bx dZ H
  replace H := H.nf
  have d3 := Sl.cells (H.os 0)
  have d4 := Sl.oc (H.os 0)
  refine s_nil ⟨(H.pk [1, 2, 3, 4, 5, 6, 7, 8, 9, 10]), ?_⟩
  refine d_q rfl (fun w' H => x_as (v := bx) rfl) ?_
  refine d_nil ?_
  refine W.seq ?_
  refine W.region rfl ?_
  refine s_val (x_ld (p := Pq aH) (v := .agg #[aq, au, av, ay, I al, I am, aw]) rfl (ldb_ag (ds := [aq, au, av, ay, I al, I am, aw]) Ag30 Sz30 (H.bl 4) rfl rfl)) ?_
  refine zM bx rfl ?_
  obtain ⟨d5, cH, hM⟩ := M.e_bind hM
  refine s_call cf25 [.agg #[aq, au, av, ay, I al, I am, aw], bx] rfl (zc0 r0 aJ aK aM al am r6 (r7 ++ (ac.drop (Int.toNat ((k : Int) + 1)))) (rdo 6) (H.os 6) (rdo 7) (H.os 7) (rdo 8) (H.os 8) (rdo 5) (H.os 5) (Reads.sup (rdo 9) (Reads.of (k := 10) rfl roLe)) (rowSl rfl (H.get (k := 9) rfl) (roLe _ (H.get (k := 10) rfl)) aQ) (rdo 0) (H.os 0) cH _ (H.gt 11)) ?_
  rintro vq d6 ⟨aW, aI, aU, cI, hvq, aj⟩
  subst cI
  subst vq
  try dsimp only at hM
  replace H := H.bk aj
  clear aj
  refine zM (.tuple #[aU, I aI]) rfl ?_
  refine zX [aU, I aI] aU rfl rfl ?_
  refine zX [aU, I aI] (I aI) rfl rfl ?_
  refine zA aU rfl ?_
  refine zA (I aI) rfl ?_
  refine s_nil ?_
  refine W.seq ?_
  refine W.region rfl ?_
  refine zM (I aI) rfl ?_
  refine zC aI 0 (aI != 0) rfl rfl rfl ?_
  refine zM (B (aI != 0)) rfl ?_
  refine g_val (!(aI != 0)) (gy_f rfl) (fun hg => x_mv (v := aU) rfl) ?_
  refine g_val (!(aI != 0)) (gy_f rfl) (fun hg => x_lenS T57.und (gd_of (c := !(aI != 0)) hg (aU)) (H.os 0)) ?_
  refine g_val (!(aI != 0)) (gy_f rfl) (fun hg => x_cmp (kd := .i64) (a := (aW.length : Int)) (b := 0) (r := (aW.length : Int) == 0) (gd_of (c := !(aI != 0)) hg (I (aW.length : Int))) rfl rfl) ?_
  refine s_val (x_por (b := aI != 0) (r := (aW.length : Int) == 0) rfl rfl (fun hb => gd_of (c := !(aI != 0)) (by first | exact hb | (rw [hb]; rfl) | simp_all) (B ((aW.length : Int) == 0)))) ?_
  refine s_nil ?_
  refine W.cond ((aI != 0) || ((aW.length : Int) == 0)) rfl (fun bz => ?_) (fun bz => ?_)
  ·replace hM := M.e_t hM bz
   refine W.seq ?_
   refine W.region rfl ?_
   refine zA (B false) rfl ?_
   refine s_nil ?_
   replace H := H.pk [2, 3, 4, 5, 6, 7, 8, 9, 10, 11]
   refine W.ret ?_
   have cJ := M.e_inr hM br
   subst cJ
   replace hM := bM
   try dsimp only at hM
   have aS := M.e_pure hM
   exact ⟨_, resE_tmp rfl, ⟨false, aS, rfl, (H.pk [])⟩⟩
  replace hM := M.e_f hM bz
  refine W.skip ?_
  refine W.region rfl ?_
  refine zM (I (k : Int)) rfl ?_
  refine zR (k : Int) 1 ((k : Int) + 1) rfl rfl rfl (by omega) ?_
  refine zA (I ((k : Int) + 1)) rfl ?_
  refine s_nil ?_
  exact ⟨cy, cz, k + 1, _, upds_of _ _ ⟨rfl, rfl, rfl, rfl, rfl, trivial⟩, M.e_inl hM br, (H.pk [2, 3, 4, 5, 6, 7, 8, 9, 10, 11])⟩
 replace hM := M.e_f hM aZ
 simp only [qy1, qy2, qy3, qy4, qy5, qy6, ne_eq, qy7] at aZ
 refine W.exit ?_
 have cK := M.e_inr hM br
 subst cK
 replace hM := bM
 try dsimp only at hM
 refine W.seq ?_
 refine W.seq ?_
 refine W.region rfl ?_
 refine zA (I 0) rfl ?_
 refine s_nil ?_
 refine W.block ?_
 obtain ⟨cL, bA, bB⟩ := M.e_bind hM
 obtain ⟨bq, bA⟩ := M.e_iter bA
 refine W.loop (fun m σ W => ∃ (bh : Int) (bi : Int) (n : Nat) (ρ : Env), σ = upds ρ [(5, Pq aH), (7, Pq aL), (8, aA), (12, aF), (22, I (n : Int))] /\ M.iterN (za0 tries r0 aJ aK r6 al am aM ac aC) m (bh, bi, n) = some cL /\ St w W [cOwn (α := Dem) 62 aF aC, cOwn (α := Int) 3 aA ac, cBlk aL [aR, I bh, I bi] 71, cBlk aH [aq, au, av, ay, I al, I am, aw] 30, cOwn (α := Town) 54 ay aM, cOwn (α := Int) 3 aq r0, cOwn (α := Span) 27 au aJ, cOwn (α := Int) 3 av aK, cOwn (α := Raw 1) 67 aw aX, cRo aY] R) ?_ ?_
 ·exact ⟨_, bm, bn, 0, _, upds_of _ _ ⟨rfl, rfl, rfl, rfl, rfl, trivial⟩, bA, H⟩
 rintro d7 σ d8 ⟨bh, bi, n, ρ, rfl, bP, H⟩
 obtain ⟨cM, cN, d9, hM, bj⟩ := M.e_iterN bP
 simp only [za0] at hM
 clear bP
 refine W.seq ?_
 refine W.seq ?_
 refine W.region rfl ?_
 refine zM (I (n : Int)) rfl ?_
 refine zC (n : Int) 6 (decide ((n : Int) < 6)) rfl rfl rfl ?_
 refine s_nil ?_
 refine W.cond (decide ((n : Int) < 6)) rfl (fun a6 => ?_) (fun a6 => ?_)
 ·replace hM := M.e_t hM a6
  simp only [qy1, qy2, qy3, qy4, qy5, qy6, ne_eq, qy7] at a6
  refine W.skip ?_
  refine W.seq ?_
  refine W.block ?_
  refine W.seq ?_
  refine W.region rfl ?_
  refine zA (.slice none 0 0) rfl ?_
  refine s_nil ?_
  refine W.seq ?_
  refine W.seq ?_
  refine W.region rfl ?_
  refine zA (I 0) rfl ?_
  refine s_nil ?_
  refine W.block ?_
  replace H := H.nilOwn (α := Int) 3
  obtain ⟨cO, bC, cP⟩ := M.e_bind hM
  obtain ⟨bq, bC⟩ := M.e_iter bC
  refine W.loop (fun m σ W => ∃ (s : Int) (s2 : Int) (s3 : Nat) (l : List Int) (aP : Value) (ρ : Env), σ = upds ρ [(5, Pq aH), (7, Pq aL), (8, aA), (12, aF), (22, I (n : Int)), (23, aP), (24, I (s3 : Int))] /\ M.iterN (zaU tries r0) m (s, s2, s3, l) = some cO /\ St w W [cOwn (α := Int) 3 aP l, cOwn (α := Dem) 62 aF aC, cOwn (α := Int) 3 aA ac, cBlk aL [aR, I s, I s2] 71, cBlk aH [aq, au, av, ay, I al, I am, aw] 30, cOwn (α := Town) 54 ay aM, cOwn (α := Int) 3 aq r0, cOwn (α := Span) 27 au aJ, cOwn (α := Int) 3 av aK, cOwn (α := Raw 1) 67 aw aX, cRo aY] R) ?_ ?_
  ·exact ⟨_, bh, bi, 0, [], (.slice none 0 0), _, upds_of _ _ ⟨rfl, rfl, rfl, rfl, rfl, rfl, rfl, trivial⟩, bC, H⟩
  rintro ec σ ed ⟨s, s2, s3, l, aP, ρ, rfl, bQ, H⟩
  obtain ⟨bR, bS, ee, hM, bD⟩ := M.e_iterN bQ
  simp only [zaU] at hM
  clear bQ
  refine W.seq ?_
  refine W.seq ?_
  refine W.region rfl ?_
  refine zM (I (s3 : Int)) rfl ?_
  refine s_val (x_fa (a := Pq aH) (v := Pq aH) rfl (fa_blk (o := 0) Fd30_0 Sz23)) ?_
  refine s_val (x_ld (p := Pq aH) (v := aq) rfl (ldb_sc Sc23 (H.bl 4) rfl)) ?_
  have ef := ((H.os 6)).len_le
  refine s_val (x_lenS T23.und rfl (H.os 6)) ?_
  refine zC (s3 : Int) (r0.length : Int) (decide ((s3 : Int) < (r0.length : Int))) rfl rfl rfl ?_
  refine s_nil ?_
  refine W.cond (decide ((s3 : Int) < (r0.length : Int))) rfl (fun a7 => ?_) (fun a7 => ?_)
  ·replace hM := M.e_t hM a7
   simp only [qy1, qy2, qy3, qy4, qy5, qy6, ne_eq, qy7] at a7
   refine W.skip ?_
   refine W.seq ?_
   refine W.block ?_
   refine W.seq ?_
   refine W.region rfl ?_
   refine zM (Pq aL) rfl ?_
   obtain ⟨eg, cQ, hM⟩ := M.e_bind hM
   refine s_call cf10 [Pq aL, I 3] rfl (zab tries s s2 3 (bf.app _) bg cQ _ ((H.pk [3, 0, 1, 2, 4, 5, 6, 7, 8, 9, 10]).gt 10)) ?_
   rintro vq eh ⟨r8, bT, bU, cR, hvq, aj⟩
   subst cR
   subst vq
   try dsimp only at hM
   replace H := H.pk [3, 0, 1, 2, 4, 5, 6, 7, 8, 9, 10] |>.bk aj
   clear aj
   refine zC r8 0 (r8 == 0) rfl rfl rfl ?_
   refine s_nil ?_
   refine W.cond (r8 == 0) rfl (fun a8 => ?_) (fun a8 => ?_)
   ·replace hM := M.e_t hM a8
    simp only [qy1, qy2, qy3, qy4, qy5, qy6, ne_eq, qy7] at a8
    refine W.region rfl ?_
    refine zM aP rfl ?_
    refine zM (I (s3 : Int)) rfl ?_
    refine t_bs (α := Int) T23 [I (s3 : Int)] [(s3 : Int)] H rfl (.cons rfl (Flat.rep_enc _ (s3 : Int)) <| .nil) rfl rfl rfl ?_
    intro cS ei H
    obtain ⟨cT, hM⟩ := M.e_grd hM
    simp only [Bool.and_eq_true, decide_eq_true_eq] at cT
    refine t_app (α := Int) (k := 2) (l := l) (l2 := [(s3 : Int)]) (l' := l ++ ([(s3 : Int)])) (vy := cS) T23 rfl H rfl rfl rfl (H.os 0) (H.ol 0) (rfl) (by first | omega | (simp only [List.length_nil] at *; omega)) ?_
    intro bV ej H
    replace H := H.nf
    refine zA bV rfl ?_
    refine s_nil ?_
    refine W.region rfl ?_
    refine zM (I (s3 : Int)) rfl ?_
    refine zR (s3 : Int) 1 ((s3 : Int) + 1) rfl rfl rfl (by omega) ?_
    refine zA (I ((s3 : Int) + 1)) rfl ?_
    refine s_nil ?_
    exact ⟨bR, bS, bT, bU, s3 + 1, l ++ ([(s3 : Int)]), bV, _, upds_of _ _ ⟨rfl, rfl, rfl, rfl, rfl, rfl, rfl, trivial⟩, M.e_inl hM bD, (H.pk [2, 3, 4, 1, 5, 6, 7, 8, 9, 10, 11])⟩
   replace hM := M.e_f hM a8
   simp only [qy1, qy2, qy3, qy4, qy5, qy6, ne_eq, qy7] at a8
   refine W.skip ?_
   refine W.region rfl ?_
   refine zM (I (s3 : Int)) rfl ?_
   refine zR (s3 : Int) 1 ((s3 : Int) + 1) rfl rfl rfl (by omega) ?_
   refine zA (I ((s3 : Int) + 1)) rfl ?_
   refine s_nil ?_
   exact ⟨bR, bS, bT, bU, s3 + 1, l, aP, _, upds_of _ _ ⟨rfl, rfl, rfl, rfl, rfl, rfl, rfl, trivial⟩, M.e_inl hM bD, (H.pk [1, 2, 3, 0, 4, 5, 6, 7, 8, 9, 10])⟩
  replace hM := M.e_f hM a7
  simp only [qy1, qy2, qy3, qy4, qy5, qy6, ne_eq, qy7] at a7
  refine W.exit ?_
  have cU := M.e_inr hM bD
  subst cU
  replace hM := cP
  try dsimp only at hM
  refine W.seq ?_
  refine W.seq ?_
  refine W.region rfl ?_
  refine s_val (x_ld (p := Pq aH) (v := .agg #[aq, au, av, ay, I al, I am, aw]) rfl (ldb_ag (ds := [aq, au, av, ay, I al, I am, aw]) Ag30 Sz30 (H.bl 4) rfl rfl)) ?_
  refine zM aP rfl ?_
  obtain ⟨em, cV, hM⟩ := M.e_bind hM
  refine s_call cf25 [.agg #[aq, au, av, ay, I al, I am, aw], aP] rfl (zc0 r0 aJ aK aM al am r6 l (rdo 6) (H.os 6) (rdo 7) (H.os 7) (rdo 8) (H.os 8) (rdo 5) (H.os 5) (Reads.sup (rdo 9) (Reads.of (k := 10) rfl roLe)) (rowSl rfl (H.get (k := 9) rfl) (roLe _ (H.get (k := 10) rfl)) aQ) (rdo 0) (H.os 0) cV _ (H.gt 11)) ?_
  rintro vq en ⟨aB, ax, aT, cW, hvq, aj⟩
  subst cW
  subst vq
  try dsimp only at hM
  replace H := H.bk aj
  clear aj
  refine zM (.tuple #[aT, I ax]) rfl ?_
  refine zX [aT, I ax] aT rfl rfl ?_
  refine zX [aT, I ax] (I ax) rfl rfl ?_
  refine zA aT rfl ?_
  refine zA (I ax) rfl ?_
  refine s_nil ?_
  refine W.seq ?_
  refine W.region rfl ?_
  refine zM (I ax) rfl ?_
  refine zC ax 0 (ax != 0) rfl rfl rfl ?_
  refine zM (B (ax != 0)) rfl ?_
  refine g_val (!(ax != 0)) (gy_f rfl) (fun hg => x_mv (v := aT) rfl) ?_
  refine g_val (!(ax != 0)) (gy_f rfl) (fun hg => x_lenS T57.und (gd_of (c := !(ax != 0)) hg (aT)) (H.os 0)) ?_
  refine g_val (!(ax != 0)) (gy_f rfl) (fun hg => x_cmp (kd := .i64) (a := (aB.length : Int)) (b := 0) (r := (aB.length : Int) == 0) (gd_of (c := !(ax != 0)) hg (I (aB.length : Int))) rfl rfl) ?_
  refine g_val (!(ax != 0)) (gy_f rfl) (fun hg => x_mv (v := B ((aB.length : Int) == 0)) (gd_of (c := !(ax != 0)) hg (B ((aB.length : Int) == 0)))) ?_
  refine g_val ((!(ax != 0)) && ((aB.length : Int) == 0)) (gy_gt rfl rfl) (fun hg => x_mv (v := aP) rfl) ?_
  refine g_val ((!(ax != 0)) && ((aB.length : Int) == 0)) (gy_gt rfl rfl) (fun hg => x_lenS T23.und (gd_of (c := ((!(ax != 0)) && ((aB.length : Int) == 0))) hg (aP)) (H.os 1)) ?_
  refine g_val ((!(ax != 0)) && ((aB.length : Int) == 0)) (gy_gt rfl rfl) (fun hg => x_mv (v := aA) rfl) ?_
  refine g_val ((!(ax != 0)) && ((aB.length : Int) == 0)) (gy_gt rfl rfl) (fun hg => x_lenS T23.und (gd_of (c := ((!(ax != 0)) && ((aB.length : Int) == 0))) hg (aA)) (H.os 3)) ?_
  refine g_val ((!(ax != 0)) && ((aB.length : Int) == 0)) (gy_gt rfl rfl) (fun hg => x_cmp (kd := .i64) (a := (l.length : Int)) (b := (ac.length : Int)) (r := decide ((l.length : Int) < (ac.length : Int))) (gd_of (c := ((!(ax != 0)) && ((aB.length : Int) == 0))) hg (I (l.length : Int))) (gd_of (c := ((!(ax != 0)) && ((aB.length : Int) == 0))) hg (I (ac.length : Int))) rfl) ?_
  refine g_val (!(ax != 0)) (gy_f rfl) (fun hg => x_pand (b := (aB.length : Int) == 0) (r := decide ((l.length : Int) < (ac.length : Int))) (gd_of (c := !(ax != 0)) hg (B ((aB.length : Int) == 0))) (fun hb => gd_of (c := ((!(ax != 0)) && ((aB.length : Int) == 0))) (by first | exact hb | (rw [hb]; rfl) | simp_all) (B (decide ((l.length : Int) < (ac.length : Int))))) rfl) ?_
  refine s_val (x_por (b := ax != 0) (r := (((aB.length : Int) == 0) && (decide ((l.length : Int) < (ac.length : Int))))) rfl rfl (fun hb => gd_of (c := !(ax != 0)) (by first | exact hb | (rw [hb]; rfl) | simp_all) (B (((aB.length : Int) == 0) && (decide ((l.length : Int) < (ac.length : Int))))))) ?_
  refine s_nil ?_
  refine W.cond ((ax != 0) || (((aB.length : Int) == 0) && (decide ((l.length : Int) < (ac.length : Int))))) rfl (fun bE => ?_) (fun bE => ?_)
  ·replace hM := M.e_t hM bE
   refine W.seq ?_
   refine W.region rfl ?_
   refine zA (B false) rfl ?_
   refine s_nil ?_
   replace H := H.pk [2, 3, 4, 5, 6, 7, 8, 9, 10, 11]
   refine W.ret ?_
   have cX := M.e_inr hM bj
   subst cX
   replace hM := bB
   try dsimp only at hM
   have aS := M.e_pure hM
   exact ⟨_, resE_tmp rfl, ⟨false, aS, rfl, (H.pk [])⟩⟩
  replace hM := M.e_f hM bE
  refine W.skip ?_
  refine W.seq ?_
  refine W.region rfl ?_
  refine zA (.slice none 0 0) rfl ?_
  refine s_nil ?_
  refine W.seq ?_
  refine W.seq ?_
  refine W.region rfl ?_
  refine zA (I 0) rfl ?_
  refine s_nil ?_
  refine W.block ?_
  replace H := H.nilOwn (α := Dem) 62
  obtain ⟨cY, bF, cZ⟩ := M.e_bind hM
  obtain ⟨bq, bF⟩ := M.e_iter bF
  refine W.loop (fun m σ W => ∃ (s6 : Int) (s7 : Int) (k2 : Nat) (l4 : List Dem) (aV : Value) (ρ : Env), σ = upds ρ [(5, Pq aH), (7, Pq aL), (8, aA), (12, aF), (22, I (n : Int)), (27, aV), (28, I (k2 : Int)), (173, gd (!(ax != 0)) aT), (174, gd (!(ax != 0)) (I (aB.length : Int))), (175, gd (!(ax != 0)) (B ((aB.length : Int) == 0))), (176, gd (!(ax != 0)) (B ((aB.length : Int) == 0))), (177, gd ((!(ax != 0)) && ((aB.length : Int) == 0)) aP), (178, gd ((!(ax != 0)) && ((aB.length : Int) == 0)) (I (l.length : Int))), (179, gd ((!(ax != 0)) && ((aB.length : Int) == 0)) aA), (180, gd ((!(ax != 0)) && ((aB.length : Int) == 0)) (I (ac.length : Int))), (181, gd ((!(ax != 0)) && ((aB.length : Int) == 0)) (B (decide ((l.length : Int) < (ac.length : Int))))), (182, gd (!(ax != 0)) (B (((aB.length : Int) == 0) && (decide ((l.length : Int) < (ac.length : Int))))))] /\ M.iterN (zaY tries aC) m (s6, s7, k2, l4) = some cY /\ St w W [cOwn (α := Dem) 62 aV l4, cOwn (α := Dem) 62 aT aB, cOwn (α := Int) 3 aP l, cOwn (α := Dem) 62 aF aC, cOwn (α := Int) 3 aA ac, cBlk aL [aR, I s6, I s7] 71, cBlk aH [aq, au, av, ay, I al, I am, aw] 30, cOwn (α := Town) 54 ay aM, cOwn (α := Int) 3 aq r0, cOwn (α := Span) 27 au aJ, cOwn (α := Int) 3 av aK, cOwn (α := Raw 1) 67 aw aX, cRo aY] R) ?_ ?_
  ·exact ⟨_, s, s2, 0, [], (.slice none 0 0), _, upds_of _ _ ⟨rfl, rfl, rfl, rfl, rfl, rfl, rfl, rfl, rfl, rfl, rfl, rfl, rfl, rfl, rfl, rfl, rfl, trivial⟩, bF, H⟩
  rintro eo σ ep ⟨s6, s7, k2, l4, aV, ρ, rfl, bW, H⟩
  obtain ⟨bX, bY, eq, hM, bG⟩ := M.e_iterN bW
  simp only [zaY] at hM
  clear bW
  refine W.seq ?_
  refine W.seq ?_
  refine W.region rfl ?_
  refine zM (I (k2 : Int)) rfl ?_
  refine zM aF rfl ?_
  have er := ((H.os 3)).len_le
  refine s_val (x_lenS T57.und rfl (H.os 3)) ?_
  refine zC (k2 : Int) (aC.length : Int) (decide ((k2 : Int) < (aC.length : Int))) rfl rfl rfl ?_
  refine s_nil ?_
  refine W.cond (decide ((k2 : Int) < (aC.length : Int))) rfl (fun ba => ?_) (fun ba => ?_)
  ·replace hM := M.e_t hM ba
   simp only [qy1, qy2, qy3, qy4, qy5, qy6, ne_eq, qy7] at ba
   refine W.skip ?_
   refine W.seq ?_
   refine W.block ?_
   refine W.seq ?_
   refine W.region rfl ?_
   refine zM (Pq aL) rfl ?_
   obtain ⟨eu, c0, hM⟩ := M.e_bind hM
   refine s_call cf10 [Pq aL, I 3] rfl (zab tries s6 s7 3 (bf.app _) bg c0 _ ((H.pk [5, 0, 1, 2, 3, 4, 6, 7, 8, 9, 10, 11, 12]).gt 12)) ?_
   rintro vq ew ⟨r9, bZ, b4, c6, hvq, aj⟩
   subst c6
   subst vq
   try dsimp only at hM
   replace H := H.pk [5, 0, 1, 2, 3, 4, 6, 7, 8, 9, 10, 11, 12] |>.bk aj
   clear aj
   refine zC r9 0 (r9 == 0) rfl rfl rfl ?_
   refine s_nil ?_
   refine W.cond (r9 == 0) rfl (fun bb => ?_) (fun bb => ?_)
   ·replace hM := M.e_t hM bb
    simp only [qy1, qy2, qy3, qy4, qy5, qy6, ne_eq, qy7] at bb
    refine W.region rfl ?_
    refine zM aV rfl ?_
    refine zM aF rfl ?_
    refine zM (I (k2 : Int)) rfl ?_
    obtain ⟨c7, hM⟩ := M.e_grd hM
    simp only [Bool.and_eq_true, decide_eq_true_eq] at c7
    refine s_val (x_ix (a := aF) (b := I (k2 : Int)) (v := vat aF 2 (Int.toNat (k2 : Int))) rfl rfl (Sl.ix (α := Dem) T57.und T57.size (H.os 4) (by omega) (by omega))) ?_
    refine s_val (x_ld (p := vat aF 2 (Int.toNat (k2 : Int))) (v := .agg #[I ((aC.getD k2 default).spring), I ((aC.getD k2 default).town)]) rfl (ld_ag Ag62 Sz62 (At.mono (Dem_atA (H.os 4) (i := (k2 : Int)) (by omega) (by omega)) (H.ol 4)))) ?_
    refine t_bs (α := Dem) T57 [.agg #[I ((aC.getD k2 default).spring), I ((aC.getD k2 default).town)]] [(aC.getD k2 default)] H rfl (.cons rfl (Flat.rep_enc _ (aC.getD k2 default)) <| .nil) rfl rfl rfl ?_
    intro c8 ez H
    obtain ⟨c9, hM⟩ := M.e_grd hM
    simp only [Bool.and_eq_true, decide_eq_true_eq] at c9
    refine t_app (α := Dem) (k := 2) (l := l4) (l2 := [(aC.getD k2 default)]) (l' := l4 ++ ([(aC.getD k2 default)])) (vy := c8) T57 rfl H rfl rfl rfl (H.os 0) (H.ol 0) (rfl) (by first | omega | (simp only [List.length_nil] at *; omega)) ?_
    intro b5 eA H
    replace H := H.nf
    refine zA b5 rfl ?_
    refine s_nil ?_
    refine W.region rfl ?_
    refine zM (I (k2 : Int)) rfl ?_
    refine zR (k2 : Int) 1 ((k2 : Int) + 1) rfl rfl rfl (by omega) ?_
    refine zA (I ((k2 : Int) + 1)) rfl ?_
    refine s_nil ?_
    exact ⟨bX, bY, bZ, b4, k2 + 1, l4 ++ ([(aC.getD k2 default)]), b5, _, upds_of _ _ ⟨rfl, rfl, rfl, rfl, rfl, rfl, rfl, rfl, rfl, rfl, rfl, rfl, rfl, rfl, rfl, rfl, rfl, trivial⟩, M.e_inl hM bG, (H.pk [2, 3, 4, 5, 6, 1, 7, 8, 9, 10, 11, 12, 13])⟩
   replace hM := M.e_f hM bb
   simp only [qy1, qy2, qy3, qy4, qy5, qy6, ne_eq, qy7] at bb
   refine W.skip ?_
   refine W.region rfl ?_
   refine zM (I (k2 : Int)) rfl ?_
   refine zR (k2 : Int) 1 ((k2 : Int) + 1) rfl rfl rfl (by omega) ?_
   refine zA (I ((k2 : Int) + 1)) rfl ?_
   refine s_nil ?_
   exact ⟨bX, bY, bZ, b4, k2 + 1, l4, aV, _, upds_of _ _ ⟨rfl, rfl, rfl, rfl, rfl, rfl, rfl, rfl, rfl, rfl, rfl, rfl, rfl, rfl, rfl, rfl, rfl, trivial⟩, M.e_inl hM bG, (H.pk [1, 2, 3, 4, 5, 0, 6, 7, 8, 9, 10, 11, 12])⟩
  replace hM := M.e_f hM ba
  simp only [qy1, qy2, qy3, qy4, qy5, qy6, ne_eq, qy7] at ba
  refine W.exit ?_
  have da := M.e_inr hM bG
  subst da
  replace hM := cZ
  try dsimp only at hM
  refine W.seq ?_
  refine W.region rfl ?_
  refine zM (Pq aL) rfl ?_
  obtain ⟨eB, db, hM⟩ := M.e_bind hM
  refine s_call cf10 [Pq aL, I 6] rfl (zab tries s6 s7 6 (bf.app _) bg db _ ((H.pk [5, 0, 1, 2, 3, 4, 6, 7, 8, 9, 10, 11, 12]).gt 12)) ?_
  rintro vq eC ⟨aN, dc, dd, de, hvq, aj⟩
  subst de
  subst vq
  try dsimp only at hM
  replace H := H.pk [5, 0, 1, 2, 3, 4, 6, 7, 8, 9, 10, 11, 12] |>.bk aj
  clear aj
  refine zA (I aN) rfl ?_
  refine s_nil ?_
  refine W.seq ?_
  refine W.region rfl ?_
  refine s_val (x_ld (p := Pq aH) (v := .agg #[aq, au, av, ay, I al, I am, aw]) rfl (ldb_ag (ds := [aq, au, av, ay, I al, I am, aw]) Ag30 Sz30 (H.bl 6) rfl rfl)) ?_
  refine zM (I aN) rfl ?_
  refine zM aV rfl ?_
  obtain ⟨eD, dg, hM⟩ := M.e_bind hM
  refine s_call cf30 [.agg #[aq, au, av, ay, I al, I am, aw], I aN, aV] rfl (zcG r0 aJ aK aM al am r6 aN l4 (rdo 8) (H.os 8) (rdo 9) (H.os 9) (rdo 10) (H.os 10) (rdo 7) (H.os 7) (Reads.sup (rdo 11) (Reads.of (k := 12) rfl roLe)) (rowSl rfl (H.get (k := 11) rfl) (roLe _ (H.get (k := 12) rfl)) aQ) (rdo 1) (H.os 1) dg _ (H.gt 13)) ?_
  rintro vq eE ⟨aG, aD, di, hvq, aj⟩
  subst di
  subst vq
  try dsimp only at hM
  replace H := H.bk aj
  clear aj
  refine zM (.tuple #[B aG, I aD]) rfl ?_
  refine zX [B aG, I aD] (B aG) rfl rfl ?_
  refine zX [B aG, I aD] (I aD) rfl rfl ?_
  refine zA (B aG) rfl ?_
  refine zA (I aD) rfl ?_
  refine s_nil ?_
  refine W.seq ?_
  refine W.region rfl ?_
  refine zM (I aD) rfl ?_
  refine zC aD 0 (aD != 0) rfl rfl rfl ?_
  refine zM (B (aD != 0)) rfl ?_
  refine g_val (!(aD != 0)) (gy_f rfl) (fun hg => x_mv (v := B aG) rfl) ?_
  refine g_val (!(aD != 0)) (gy_f rfl) (fun hg => x_mv (v := B aG) (gd_of (c := !(aD != 0)) hg (B aG))) ?_
  refine g_val ((!(aD != 0)) && aG) (gy_gt rfl rfl) (fun hg => x_mv (v := I aN) rfl) ?_
  refine g_val ((!(aD != 0)) && aG) (gy_gt rfl rfl) (fun hg => x_mv (v := aA) rfl) ?_
  refine g_val ((!(aD != 0)) && aG) (gy_gt rfl rfl) (fun hg => x_lenS T23.und (gd_of (c := ((!(aD != 0)) && aG)) hg (aA)) (H.os 5)) ?_
  refine g_val ((!(aD != 0)) && aG) (gy_gt rfl rfl) (fun hg => x_cmp (kd := .i64) (a := aN) (b := (ac.length : Int)) (r := decide ((ac.length : Int) < aN)) (gd_of (c := ((!(aD != 0)) && aG)) hg (I aN)) (gd_of (c := ((!(aD != 0)) && aG)) hg (I (ac.length : Int))) rfl) ?_
  refine g_val (!(aD != 0)) (gy_f rfl) (fun hg => x_pand (b := aG) (r := decide ((ac.length : Int) < aN)) (gd_of (c := !(aD != 0)) hg (B aG)) (fun hb => gd_of (c := ((!(aD != 0)) && aG)) (by first | exact hb | (rw [hb]; rfl) | simp_all) (B (decide ((ac.length : Int) < aN)))) rfl) ?_
  refine s_val (x_por (b := aD != 0) (r := (aG && (decide ((ac.length : Int) < aN)))) rfl rfl (fun hb => gd_of (c := !(aD != 0)) (by first | exact hb | (rw [hb]; rfl) | simp_all) (B (aG && (decide ((ac.length : Int) < aN)))))) ?_
  refine s_nil ?_
  refine W.cond ((aD != 0) || (aG && (decide ((ac.length : Int) < aN)))) rfl (fun bH => ?_) (fun bH => ?_)
  ·replace hM := M.e_t hM bH
   refine W.seq ?_
   refine W.region rfl ?_
   refine zA (B false) rfl ?_
   refine s_nil ?_
   replace H := H.pk [0, 4, 5, 6, 7, 8, 9, 10, 11, 12]
   refine W.ret ?_
   have dk := M.e_inr hM bj
   subst dk
   replace hM := bB
   try dsimp only at hM
   have aS := M.e_pure hM
   exact ⟨_, resE_tmp rfl, ⟨false, aS, rfl, (H.pk [])⟩⟩
  replace hM := M.e_f hM bH
  refine W.skip ?_
  refine W.region rfl ?_
  refine zM (I (n : Int)) rfl ?_
  refine zR (n : Int) 1 ((n : Int) + 1) rfl rfl rfl (by omega) ?_
  refine zA (I ((n : Int) + 1)) rfl ?_
  refine s_nil ?_
  exact ⟨cM, cN, dc, dd, n + 1, _, upds_of _ _ ⟨rfl, rfl, rfl, rfl, rfl, trivial⟩, M.e_inl hM bj, (H.pk [4, 5, 0, 6, 7, 8, 9, 10, 11, 12])⟩
 replace hM := M.e_f hM a6
 simp only [qy1, qy2, qy3, qy4, qy5, qy6, ne_eq, qy7] at a6
 refine W.exit ?_
 have dm := M.e_inr hM bj
 subst dm
 replace hM := bB
 try dsimp only at hM
 replace H := H.pk []
 refine W.seq ?_
 refine W.region rfl ?_
 obtain ⟨eF, dq, hM⟩ := M.e_bind hM
 refine s_call cf15 [] rfl (zdk dq _ (H.gt 0)) ?_
 rintro vq eG ⟨b6, dr, hvq, aj⟩
 subst dr
 subst vq
 try dsimp only at hM
 replace H := H.bk aj
 clear aj
 refine zA (B b6) rfl ?_
 refine s_nil ?_
 refine W.ret ?_
 have aS := M.e_pure hM
 exact ⟨_, resE_tmp rfl, ⟨b6, aS, rfl, H⟩⟩

end Go.Proofs.Ytbaehghammbjdaa
end
namespace Go.Proofs.Ytbaehghammbjdaa
open Go Go.Nm
variable {dn : List Int} {tr : List Span} {sp : List Int} {tw : List Town} {dl dh : Int} {fl : List Flood} {ws : List Int} {ap D : List Dem}
theorem every_52 (hD : (zad dn tr sp tw dl dh fl).Ends D) {l : List Dem} (h : ∀ d ∈ l, d ∈ D) : (zb1 l dn tr sp tw dl dh fl).Ends true := by
  unfold zb1
  refine M.i_bind (contains_dem l _ (fun d => !decide (d ∈ D)) fun d _ => ?_) ?_
  · unfold zcc
    exact M.i_bind (is_ends hD d) M.i_pure
  · have e : (l.any fun d => !decide (d ∈ D)) = false := by
      rw [List.any_eq_false]
      intro d hd
      rw [decide_eq_true (h d hd)]
      exact Bool.false_ne_true
    rw [e]
    exact M.i_pure
theorem prov_b1 {ar : List Bool} {r3 : List Int} (h0 : ar.length = 12) (hr : ∀ s ∈ r3, 0 <= s /\ s < 12) : (M.iter (zaO r3) (ar, 0)).Out (fun a => a.length = 12 /\ ∀ j : Nat, a.getD j false = true ↔ ar.getD j false = true ∨ (j : Int) ∈ r3) := by
  refine M.o_for r3.length (fun i (t : List Bool × Nat) => t.2 = i /\ t.1.length = 12 /\ ∀ j : Nat, t.1.getD j false = true ↔ ar.getD j false = true ∨ (j : Int) ∈ r3.take i) ?_ ?_ ⟨rfl, h0, fun j => by simp⟩
  · rintro _ ⟨a, i⟩ hi ⟨rfl, h1, h2⟩
    dsimp only at hi h1 h2
    simp only [zaO]
    have hx := hr (r3.getD i 0) (by rw [getD_el r3 hi]; exact List.getElem_mem hi)
    refine M.o_t (decide_eq_true (by omega)) (M.o_grdD (by omega) (M.o_grd (gA2 (by omega) (by omega)) (M.o_pure ⟨rfl, by dsimp only; rw [List.length_set, h1], fun j => ?_⟩)))
    dsimp only
    rw [gset _ _ _ _ _ (by omega), List.take_succ_eq_append_getElem hi, List.mem_append, List.mem_singleton, ← getD_el r3 hi 0]
    by_cases c : j = Int.toNat (r3.getD i 0)
    · rw [if_pos c]
      exact ⟨fun _ => .inr (.inr (by omega)), fun _ => rfl⟩
    · rw [if_neg c, h2 j]
      constructor
      · rintro (g | g)
        · exact .inl g
        · exact .inr (.inl g)
      · rintro (g | g | g)
        · exact .inl g
        · exact .inr g
        · omega
  · rintro ⟨a, i⟩ ⟨e, h1, h2⟩
    dsimp only at e h1 h2
    subst e
    rw [List.take_length] at h2
    simp only [zaO]
    exact M.o_f (decide_eq_false (by omega)) (M.o_pure ⟨h1, h2⟩)
theorem proves_out (R : Wn.Rv dn tr sp tw dl dh fl) (hD : (zad dn tr sp tw dl dh fl).Ends D) (ho : ∀ d ∈ D, Wn.OkD dn tw d) {l : List Dem} (h : ∀ d ∈ l, d ∈ D) (hl : l.length <= 64) (many : Int) :
    (zaL dn tr sp tw dl dh fl many l).Out (fun y => y.2 = 0 /\ (y.1 = true ↔ (l.Pairwise (Wn.Dj dn tr tw dh) /\ ∀ d ∈ l, Wn.Sd dn tr tw dh d ≠ []) /\ many <= l.length)) := by
  have h12 := R.n12
  unfold zaL
  refine M.o_bindE (opened_ends R) ?_
  dsimp only
  refine M.o_f rfl (M.o_f (decide_eq_false (by omega)) (M.o_bindE (every_52 hD h) (M.o_f rfl ?_)))
  have hin : ∀ i, i < l.length -> l.getD i default ∈ l := fun i hi => by rw [getD_el l hi]; exact List.getElem_mem hi
  refine M.o_bind (P := fun x => match x with | .inl (_ : List Bool) => ¬ (l.Pairwise (Wn.Dj dn tr tw dh) /\ ∀ d ∈ l, Wn.Sd dn tr tw dh d ≠ []) | .inr (_ : List Bool) => l.Pairwise (Wn.Dj dn tr tw dh) /\ ∀ d ∈ l, Wn.Sd dn tr tw dh d ≠ []) ?_ ?_
  · refine M.o_for l.length (fun i (t : List Bool × Nat) => t.2 = i /\ t.1.length = 12 /\ (∀ j : Nat, t.1.getD j false = true ↔ ∃ k, k < i /\ (j : Int) ∈ Wn.Sd dn tr tw dh (l.getD k default)) /\ (∀ a b, a < b -> b < i -> Wn.Dj dn tr tw dh (l.getD a default) (l.getD b default)) /\ ∀ a, a < i -> Wn.Sd dn tr tw dh (l.getD a default) ≠ []) ?_ ?_ ⟨rfl, by simp, fun j => ?_, fun a b _ hb => by omega, fun a ha => by omega⟩
    · rintro _ ⟨ar, i⟩ hi ⟨rfl, h1, h2, h3, h4⟩
      dsimp only at hi h1 h2 h3 h4
      simp only [zbD]
      have hok := ho _ (h _ (hin i hi))
      have hst := stretch_in R hok
      have hc : (zar (Wn.Sd dn tr tw dh (l.getD i default)) (fun xqz => zbo xqz ar)).Ends ((Wn.Sd dn tr tw dh (l.getD i default)).any fun s => ar.getD (Int.toNat s) false) := by
        refine contains_ints _ _ _ fun s hs => ?_
        have := hst s hs
        unfold zbo
        exact M.i_grd (gA2 (by omega) (by omega)) M.i_pure
      refine M.o_t (decide_eq_true (by omega)) (M.o_grdD (by omega) (M.o_bindE (stretch_ends R hok) ?_))
      by_cases hz : Wn.Sd dn tr tw dh (l.getD i default) = []
      · have hz' : (((Wn.Sd dn tr tw dh (l.getD i default)).length : Int) == 0) = true := by rw [hz]; rfl
        rw [hz']
        refine M.o_bindE (M.i_opt (fun h => (by cases h)) (fun _ => rfl)) (M.o_t rfl (M.o_pure ?_))
        exact fun hh => hh.2 _ (hin i hi) hz
      · have hp := List.length_pos_iff.2 hz
        have hz' : (((Wn.Sd dn tr tw dh (l.getD i default)).length : Int) == 0) = false := beq_eq_false_iff_ne.2 (by omega)
        rw [hz']
        refine M.o_bindE (M.i_opt (fun _ => hc) (fun h => (by cases h))) (M.o_if (fun hb => M.o_pure ?_) (fun hb => ?_))
        · rw [Bool.false_or, List.any_eq_true] at hb
          obtain ⟨s, s1, s2⟩ := hb
          obtain ⟨k, k1, k2⟩ := (h2 _).1 s2
          rw [Int.toNat_of_nonneg (hst s s1).1] at k2
          intro hh
          have := List.pairwise_iff_getElem.1 hh.1 k i (by omega) hi k1
          rw [← getD_el l (show k < l.length by omega) default, ← getD_el l hi default] at this
          exact this s k2 s1
        · rw [Bool.false_or, List.any_eq_false] at hb
          refine M.o_bind (prov_b1 h1 fun s hs => by have := hst s hs; omega) ?_
          rintro a ⟨b1, b2⟩
          refine M.o_pure ⟨rfl, b1, fun j => ?_, fun x y hxy hy => ?_, fun x hx => ?_⟩
          · dsimp only
            rw [b2 j, h2 j]
            constructor
            · rintro (⟨k, k1, k2⟩ | g)
              · exact ⟨k, by omega, k2⟩
              · exact ⟨i, Nat.lt_succ_self _, g⟩
            · rintro ⟨k, k1, k2⟩
              rcases Nat.lt_or_eq_of_le (Nat.le_of_lt_succ k1) with g | g
              · exact .inl ⟨k, g, k2⟩
              · subst g
                exact .inr k2
          · rcases Nat.lt_or_eq_of_le (Nat.le_of_lt_succ hy) with g | g
            · exact h3 x y hxy g
            · subst g
              intro s s1 s2
              apply hb s s2
              exact (h2 _).2 ⟨x, hxy, by rw [Int.toNat_of_nonneg (hst s s2).1]; exact s1⟩
          · rcases Nat.lt_or_eq_of_le (Nat.le_of_lt_succ hx) with g | g
            · exact h4 x g
            · subst g
              exact hz
    · rintro ⟨ar, i⟩ ⟨e, h1, h2, h3, h4⟩
      dsimp only at e h1 h2 h3 h4
      subst e
      simp only [zbD]
      refine M.o_f (decide_eq_false (by omega)) (M.o_pure ⟨?_, fun d hd => ?_⟩)
      · rw [List.pairwise_iff_getElem]
        intro x y hx hy hxy
        rw [← getD_el l hx default, ← getD_el l hy default]
        exact h3 x y hxy hy
      · obtain ⟨k, hk, rfl⟩ := mem_getD hd default
        exact h4 k hk
    · dsimp only
      rw [List.getD_eq_getElem?_getD, List.getElem?_replicate]
      constructor
      · intro hj
        split at hj <;> cases hj
      · rintro ⟨k, hk, _⟩
        omega
  · rintro (a | a) hq
    · exact M.o_pure ⟨rfl, fun h => (by cases h), fun h => absurd h.1 hq⟩
    · exact M.o_pure ⟨rfl, fun h => ⟨hq, of_decide_eq_true h⟩, fun h => decide_eq_true h.2⟩
theorem watches_ends (R : Wn.Rv dn tr sp tw dl dh fl) (h : (zaq dn tr sp tw dl dh fl).Ends (ws, ap, true)) : (zaE dn tr sp tw dl dh fl).Ends (ws, 0) := by
  unfold zaE
  refine M.i_bind (opened_ends R) ?_
  dsimp only
  exact M.i_f rfl (M.i_bind h (M.i_f rfl M.i_pure))
theorem apart_ends (R : Wn.Rv dn tr sp tw dl dh fl) (h : (zaq dn tr sp tw dl dh fl).Ends (ws, ap, true)) : (zbW dn tr sp tw dl dh fl).Ends (ap, 0) := by
  unfold zbW
  refine M.i_bind (opened_ends R) ?_
  dsimp only
  exact M.i_f rfl (M.i_bind h (M.i_f rfl M.i_pure))
theorem copy_ints {l : List Int} (h : l.length <= 1000) : (zcy l).Ends l := M.i_grd (decide_eq_true (by simp; omega)) M.i_pure
/-- Without one of the watches some demand is late. -/
theorem fewest_b0 (R : Wn.Rv dn tr sp tw dl dh fl) (hD : (zad dn tr sp tw dl dh fl).Ends D) (hl : D.length <= 64) (ho : ∀ d ∈ D, Wn.OkD dn tw d /\ Wn.Sd dn tr tw dh d ≠ []) (F : Wn.Few dn tr tw dh D ws ap) :
    (M.iter (za4 dn tr sp fl dl dh tw ws) 0).Out (fun x => x = .inr ()) := by
  have hw := nodup_bound dn.length ws (F.up.imp fun h => by omega) F.bd
  have h12 := R.n12
  refine M.o_for ws.length (fun i (k : Nat) => k = i) ?_ ?_ rfl
  · rintro _ k hk rfl
    simp only [za4]
    have e1 : Int.toNat ((k : Int) + 1) = k + 1 := by omega
    have hsub : (ws.take k ++ ws.drop (k + 1)).Sublist ws := by
      conv => rhs; rw [← List.take_append_drop k ws]
      refine List.Sublist.append (List.Sublist.refl _) ?_
      rw [List.drop_eq_getElem_cons hk]
      exact List.sublist_cons_self _ _
    rw [e1]
    refine M.o_t (decide_eq_true (by omega)) (M.o_grdD (by omega) (M.o_grd (gA2 (by omega) (by omega)) (M.o_bindE (copy_ints (by rw [List.length_take]; omega)) (M.o_grdD (by rw [List.length_take, List.length_drop]; omega) (M.o_bind (late_out R hD hl (fun d hd => (ho d hd).1) (F.up.sublist hsub) fun x hx => F.bd x (hsub.subset hx)) ?_)))))
    rintro ⟨l, e⟩ ⟨rfl, hq⟩
    dsimp only at hq ⊢
    refine M.o_f ?_ (M.o_pure rfl)
    have : l ≠ [] := fun hn => by
      obtain ⟨a, ha, ea⟩ := (F.mem ws[k]).1 (List.getElem_mem hk)
      have hoa := ho a (F.sub a ha)
      obtain ⟨s, s1, s2⟩ := hq.1 hn a (F.sub a ha)
      obtain ⟨b, hb, eb⟩ := (F.mem s).1 (hsub.subset s2)
      have hob := ho b (F.sub b hb)
      by_cases c : a = b
      · subst c
        have e2 : s = ws[k] := eb.trans ea.symm
        have hp := F.up
        rw [← List.take_append_drop k ws, List.drop_eq_getElem_cons hk, List.pairwise_append, List.pairwise_cons] at hp
        rcases List.mem_append.1 s2 with h | h
        · have := hp.2.2 s h ws[k] (List.Mem.head _)
          omega
        · have := hp.2.1.1 s h
          omega
      · have := Wn.dj_ne F.dj ha hb c s s1
        rw [eb] at this
        exact this (Wn.lst_mem hob.2)
    have := List.length_pos_iff.2 this
    rw [show ((0 : Int) != 0) = false from rfl, Bool.false_or]
    exact beq_eq_false_iff_ne.2 (by omega)
  · rintro _ rfl
    simp only [za4]
    exact M.o_f (decide_eq_false (by omega)) (M.o_pure rfl)
theorem fewest_b3 {b : List UInt8} (h12 : dn.length <= 12) {c u x : Int} (hS : SOk c u x) (hc : c <= 1000000) :
    (M.iter (zaU b dn) (u, x, 0, [])).Out (fun y => SOk (c + 12) y.1 y.2.1 /\ y.2.2.2.Pairwise (· < ·) /\ ∀ z ∈ y.2.2.2, 0 <= z /\ z < (dn.length : Int)) := by
  refine M.o_for dn.length (fun i (t : Int × Int × Nat × List Int) => t.2.2.1 = i /\ SOk (c + i) t.1 t.2.1 /\ t.2.2.2.Pairwise (· < ·) /\ t.2.2.2.length <= i /\ ∀ z ∈ t.2.2.2, 0 <= z /\ z < (i : Int)) ?_ ?_ ⟨rfl, hS.mono (by omega), List.Pairwise.nil, Nat.le_refl _, fun z hz => by cases hz⟩
  · rintro _ ⟨u1, x1, i, l⟩ hi ⟨rfl, h1, h2, h3, h4⟩
    dsimp only at hi h1 h2 h3 h4
    simp only [zaU]
    refine M.o_t (decide_eq_true (by omega)) (M.o_bind (next_out h1 (by omega) (by omega)) ?_)
    rintro ⟨r, u2, x2⟩ ⟨k, hl, _⟩
    dsimp only at k ⊢
    refine M.o_if (fun _ => M.o_grdD (by simp; omega) (M.o_pure ⟨rfl, k.mono (by omega), ?_, ?_, fun z hz => ?_⟩)) (fun _ => M.o_pure ⟨rfl, k.mono (by omega), h2, by dsimp only; omega, fun z hz => ?_⟩)
    · dsimp only
      rw [List.pairwise_append]
      refine ⟨h2, List.pairwise_singleton _ _, fun a ha b hb => ?_⟩
      rw [List.mem_singleton] at hb
      have := h4 a ha
      omega
    · dsimp only
      simp; omega
    · dsimp only at hz
      rw [List.mem_append, List.mem_singleton] at hz
      rcases hz with hz | hz
      · have := h4 z hz
        omega
      · omega
    · have := h4 z hz
      omega
  · rintro ⟨u1, x1, i, l⟩ ⟨e, h1, h2, h3, h4⟩
    dsimp only at e h1 h2 h3 h4
    subst e
    simp only [zaU]
    exact M.o_f (decide_eq_false (by omega)) (M.o_pure ⟨h1.mono (by omega), h2, h4⟩)
theorem fewest_b4 {b : List UInt8} (hl : D.length <= 64) {c u x : Int} (hS : SOk c u x) (hc : c <= 1000000) :
    (M.iter (zaY b D) (u, x, 0, [])).Out (fun y => SOk (c + 64) y.1 y.2.1 /\ y.2.2.2.length <= 64 /\ ∀ d ∈ y.2.2.2, d ∈ D) := by
  refine M.o_for D.length (fun i (t : Int × Int × Nat × List Dem) => t.2.2.1 = i /\ SOk (c + i) t.1 t.2.1 /\ t.2.2.2.length <= i /\ ∀ d ∈ t.2.2.2, d ∈ D) ?_ ?_ ⟨rfl, hS.mono (by omega), Nat.le_refl _, fun z hz => by cases hz⟩
  · rintro _ ⟨u1, x1, i, l⟩ hi ⟨rfl, h1, h2, h3⟩
    dsimp only at hi h1 h2 h3
    simp only [zaY]
    refine M.o_t (decide_eq_true (by omega)) (M.o_bind (next_out h1 (by omega) (by omega)) ?_)
    rintro ⟨r, u2, x2⟩ ⟨k, _, _⟩
    dsimp only at k ⊢
    refine M.o_if (fun _ => M.o_grdD (by omega) (M.o_grdD (by simp; omega) (M.o_pure ⟨rfl, k.mono (by omega), ?_, fun z hz => ?_⟩))) (fun _ => M.o_pure ⟨rfl, k.mono (by omega), by dsimp only; omega, h3⟩)
    · dsimp only
      simp; omega
    · dsimp only at hz
      rw [List.mem_append, List.mem_singleton] at hz
      rcases hz with hz | hz
      · exact h3 z hz
      · rw [hz, getD_el D hi]
        exact List.getElem_mem hi
  · rintro ⟨u1, x1, i, l⟩ ⟨e, h1, h2, h3⟩
    dsimp only at e h1 h2 h3
    subst e
    simp only [zaY]
    exact M.o_f (decide_eq_false (by omega)) (M.o_pure ⟨h1.mono (by omega), by dsimp only; omega, h3⟩)
theorem fewest_b5 {b : List UInt8} (R : Wn.Rv dn tr sp tw dl dh fl) (hD : (zad dn tr sp tw dl dh fl).Ends D) (hl : D.length <= 64) (ho : ∀ d ∈ D, Wn.OkD dn tw d /\ Wn.Sd dn tr tw dh d ≠ []) (F : Wn.Few dn tr tw dh D ws ap) {c u x : Int} (hS : SOk c u x) (hc : c <= 100000) :
    (M.iter (za0 b dn tr sp fl dl dh tw ws D) (u, x, 0)).Out (fun y => ∃ z, y = .inr z) := by
  have h12 := R.n12
  refine M.o_for 6 (fun i (t : Int × Int × Nat) => t.2.2 = i /\ SOk (c + 100 * i) t.1 t.2.1) ?_ ?_ ⟨rfl, hS.mono (by omega)⟩
  · rintro _ ⟨u1, x1, i⟩ hi ⟨rfl, h1⟩
    dsimp only at hi h1
    simp only [za0]
    refine M.o_t (decide_eq_true (by omega)) (M.o_bind (fewest_b3 h12 h1 (by omega)) ?_)
    rintro ⟨u2, x2, l2, mine⟩ ⟨k1, k2, k3⟩
    dsimp only at k1 k2 k3 ⊢
    refine M.o_bind (late_out R hD hl (fun d hd => (ho d hd).1) k2 k3) ?_
    rintro ⟨late, e⟩ ⟨rfl, hq⟩
    dsimp only at hq ⊢
    refine M.o_f ?_ (M.o_bind (fewest_b4 hl k1 (by omega)) ?_)
    · by_cases hn : late = []
      · have hle := Wn.dj_few F.dj fun a ha => hq.1 hn a (F.sub a ha)
        have hln := F.ln
        rw [decide_eq_false (by omega)]
        simp
      · have := List.length_pos_iff.2 hn
        rw [beq_eq_false_iff_ne.2 (show (late.length : Int) ≠ 0 by omega)]
        rfl
    · rintro ⟨u3, x3, l5, own⟩ ⟨j1, j2, j3⟩
      dsimp only at j1 j2 j3 ⊢
      refine M.o_bind (next_out j1 (by omega) (by omega)) ?_
      rintro ⟨r, u4, x4⟩ ⟨m1, _, _⟩
      dsimp only at m1 ⊢
      refine M.o_bind (proves_out R hD (fun d hd => (ho d hd).1) j3 j2 r) ?_
      rintro ⟨is, e⟩ ⟨rfl, hp⟩
      dsimp only at hp ⊢
      refine M.o_f ?_ (M.o_pure ⟨rfl, m1.mono (by omega)⟩)
      cases is with
      | false => rfl
      | true =>
        have h2 := hp.1 rfl
        have hle := Wn.dj_few h2.1.1 fun a ha => F.cov a (j3 a ha)
        rw [decide_eq_false (by omega)]
        rfl
  · rintro ⟨u1, x1, i⟩ ⟨e, h1⟩
    dsimp only at e h1
    subst e
    simp only [za0]
    exact M.o_f (decide_eq_false (by omega)) (M.o_pure ⟨_, rfl⟩)
theorem zdx (p t : List UInt8) : (zcE p t).Ends true := by
  refine M.Out.ends ?_
  unfold zcE
  have hnew : ∀ p, (zbY p).Ends (0, 0) := fun p => M.i_pure
  refine M.o_bindE (hnew p) (M.o_bind (made_out SOk.zero) ?_)
  rintro ⟨dn, tr, sp, tw0, dl, dh, fl, q1, q2⟩ ⟨R0, _, _⟩
  dsimp only at R0 ⊢
  refine M.o_bind (kept_out R0) ?_
  rintro _ ⟨tw, rfl, R, hM⟩
  dsimp only
  obtain ⟨D, hD, hl, hm⟩ := demands_is R
  have ho : ∀ d ∈ D, Wn.OkD dn tw d /\ Wn.Sd dn tr tw dh d ≠ [] := fun d hd => ⟨dem_ok R hm d hd, hM D hD d hd⟩
  obtain ⟨ws, ap, hF, F⟩ := fewest_is R hD hl ho
  have hln := F.ln
  have hw := nodup_bound dn.length ws (F.up.imp fun h => by omega) F.bd
  have h12 := R.n12
  have hdj : ap.Pairwise (Wn.Dj dn tr tw dh) /\ ∀ d ∈ ap, Wn.Sd dn tr tw dh d ≠ [] := ⟨F.dj, fun d hd => (ho d (F.sub d hd)).2⟩
  refine M.o_bindE (hnew t) ?_
  dsimp only
  refine M.o_bindE (watches_ends R hF) ?_
  dsimp only
  refine M.o_bindE (apart_ends R hF) ?_
  dsimp only
  refine M.o_bindE (demandsx_ends R hD) ?_
  dsimp only
  refine M.o_bind (proves_out R hD (fun d hd => (ho d hd).1) F.sub (by omega) _) ?_
  rintro ⟨is, e⟩ ⟨rfl, h1⟩
  dsimp only at h1 ⊢
  refine M.o_grd (gA2 (by omega) (by omega)) (M.o_bind (proves_out R hD (fun d hd => (ho d hd).1) F.sub (by omega) _) ?_)
  rintro ⟨more, e⟩ ⟨rfl, h2⟩
  dsimp only at h2 ⊢
  have e1 : is = true := h1.2 ⟨hdj, by omega⟩
  have e2 : more = false := by
    rw [← Bool.not_eq_true, h2]
    rintro ⟨_, h⟩
    omega
  subst e1 e2
  refine M.o_f ?_ (M.o_bind (fewest_b0 R hD hl ho F) ?_)
  · rw [hln]
    have : ((D.length : Int) == 0) = ((ws.length : Int) == 0) := by
      rw [Bool.eq_iff_iff, beq_iff_eq, beq_iff_eq]
      constructor
      · intro h
        have hD0 : D = [] := List.length_eq_zero_iff.1 (by omega)
        cases ap with
        | nil => rw [← hln]; rfl
        | cons a ap =>
          have := F.sub a (by simp)
          rw [hD0] at this
          cases this
      · intro h
        have hw0 : ws = [] := List.length_eq_zero_iff.1 (by omega)
        cases D with
        | nil => rfl
        | cons d D =>
          obtain ⟨s, _, s2⟩ := F.cov d (by simp)
          rw [hw0] at s2
          cases s2
    rw [this]
    simp
  · rintro _ rfl
    dsimp only
    refine M.o_bind (fewest_b5 R hD hl ho F SOk.zero (by decide)) ?_
    rintro _ ⟨⟨z1, z2⟩, rfl⟩
    exact M.o_bindE awake_ends (M.o_pure rfl)
end Go.Proofs.Ytbaehghammbjdaa
