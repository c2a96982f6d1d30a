/- Part 6 of the texts on which the proof rests. Conditions: none. -/
import Derived.Test.YtbaehghammbjdaaGreatZE5
set_option linter.unusedVariables false
set_option linter.unusedSimpArgs false
set_option linter.unusedSectionVars false
section
set_option maxRecDepth 100000
set_option maxHeartbeats 16000000
namespace Go.Proofs.YtbaehghammbjdaaGreat
open Go Go.Nm
def zc6 (l : List Dem) : M (List Dem) :=
  M.grd (decide ((([] : List Dem).length + l.length) * 16 <= 140737488355328)) <|
  M.pure l
theorem zeQ {R : List Chunk} {ab : Cells} {aa : Value} (l : List Dem) (ae : Reads R ab) (ag : Sl ab aa l) {r : (List Dem)} (hM : (zc6 l).Ends r) (w : World) (H : St w w [] R) : Ret Tryz.prog 27 #[aa] w fun v w' => ∃ (y0 : List Dem) (u0 : Value), y0 = r /\ v = u0 /\ St w w' [cOwn (α := Dem) 61 u0 y0] R := by
 refine ret_of_W Tryz.func27 rfl rfl rfl <| W.seq <| W.region rfl <| zA (.slice none 0 0) rfl <| s_nil <| W.seq <| W.region rfl <| zA (.slice none 0 0) rfl <| s_nil <| W.seq <| W.region rfl ?_;refine zM (.slice none 0 0) rfl <| zM aa rfl ?_
 replace H := H.nilOwn (α := Dem) 61
 obtain ⟨ai, hM⟩ := M.e_gd hM;refine t_app (α := Dem) (k := 0) (l := []) (l2 := l) (l' := l) (vy := aa) T62 rfl H rfl rfl rfl ag (ae.at H) (List.nil_append _) (by first | omega | (simp only [List.length_nil] at *; omega)) ?_;intro ac aj H;replace H := H.nf;refine zA ac rfl <| s_nil ?_;refine W.ret ?_
 have ah := M.e_pure hM
 exact ⟨_, resE_tmp rfl, ⟨l, ac, ah, rfl, H⟩⟩

def zb9 (aa : List Int) (ab : List Span) (ac : List Int) (ae : List Town) (ah ai : Int) (ag : List Flood) : M ((List Dem) × Int) :=
  M.bind (zak aa ab ac ae ah ai ag) fun x_ => match x_ with
  | (.inl r1) => (
  bif r1 != 0 then (
  M.pure (([]), r1))
  else (
  M.fail))
  | (.inr (aj, ak, al)) => (
  bif al != 0 then (
  M.fail)
  else (
  M.bind (zao aa ab ac ae aj ak ag) fun r2 =>
  M.pure (r2, 0)))
theorem zeR {R : List Chunk} {az : Cells} {ah : Value} {aA : Cells} {ai : Value} {aB : Cells} {aj : Value} {aC : Cells} {ak : Value} {aD : Cells} {al : Value} (aq : List Int) (au : List Span) (av : List Int) (aw : List Town) (ac : Int) (ae : Int) (ax : List Flood) (aE : Reads R az) (aF : Sl az ah aq) (aG : Reads R aA) (aH : Sl aA ai au) (aI : Reads R aB) (aJ : Sl aB aj av) (aK : Reads R aC) (aL : Sl aC ak aw) (aM : Reads R aD) (aN : Sl aD al ax) {r : ((List Dem) × Int)} (hM : (zb9 aq au av aw ac ae ax).Ends r) (w : World) (H : St w w [] R) : Ret Tryz.prog 28 #[.agg #[ah, ai, aj, ak, I ac, I ae, al]] w fun v w' => ∃ (y0 : List Dem) (y1 : Int) (u0 : Value), (y0, y1) = r /\ v = .tuple #[u0, I y1] /\ St w w' [cOwn (α := Dem) 61 u0 y0] R := by
 refine ret_of_W Tryz.func28 rfl rfl rfl <| W.seq <| W.region rfl ?_;refine t_bx [ah, ai, aj, ak, I ac, I ae, al] H rfl ?_;intro aV aW H;refine zA (.slice none 0 0) rfl <| zA (I 0) rfl <| s_nil <| W.seq <| W.region rfl <| s_val (x_ld (v := .agg #[ah, ai, aj, ak, I ac, I ae, al]) rfl (ldb_ag (ds := [ah, ai, aj, ak, I ac, I ae, al]) Ag29 Sz29 (H.bl 0) rfl rfl)) ?_;obtain ⟨aX, aP, hM⟩ := M.e_bind hM;refine s_call cf72 [.agg #[ah, ai, aj, ak, I ac, I ae, al]] rfl (zaJ aq au av aw ac ae ax (aE.app _) aF (aG.app _) aH (aI.app _) aJ (aK.app _) aL (aM.app _) aN aP _ (H.gt 1)) ?_
 rintro vq aY (⟨r1, aQ, hvq, ab⟩ | ⟨aR, aS, aa, ag, aZ, a6, aT, hvq, ab⟩)
 ·subst aQ;subst vq;(try dsimp only at hM);replace H := H.bk ab;clear ab;refine zM (.tuple #[.pointer none, I r1]) rfl <| zX [.pointer none, I r1] (.pointer none) rfl rfl <| zX [.pointer none, I r1] (I r1) rfl rfl <| zA (.pointer none) rfl <| zA (I r1) rfl <| s_nil <| W.seq <| W.seq <| W.region rfl <| zM (I r1) rfl ?_;refine zC r1 0 (r1 != 0) rfl rfl rfl <| s_nil ?_
  refine W.cond (r1 != 0) rfl (fun am => ?_) (fun am => ?_)
  ·replace hM := M.e_t hM am
   replace am := dI am
   refine W.seq <| W.region rfl <| zM (I r1) rfl <| zA (.slice none 0 0) rfl <| zA (I r1) rfl <| s_nil ?_;refine W.ret ?_
   have ay := M.e_pure hM
   replace H := H.nilOwn (α := Dem) 61
   exact ⟨_, resE_tmp2 rfl, ⟨([]), r1, (.slice none 0 0), ay, rfl, (H.pk [0])⟩⟩
  replace hM := M.e_f hM am
  exact (M.e_fail hM).elim
 subst aT;subst vq;(try dsimp only at hM);replace H := H.bk ab;clear ab;refine zM (.tuple #[Pq ag, I aa]) rfl <| zX [Pq ag, I aa] (Pq ag) rfl rfl <| zX [Pq ag, I aa] (I aa) rfl rfl <| zA (Pq ag) rfl <| zA (I aa) rfl <| s_nil <| W.seq <| W.seq <| W.region rfl <| zM (I aa) rfl ?_;refine zC aa 0 (aa != 0) rfl rfl rfl <| s_nil ?_
 refine W.cond (aa != 0) rfl (fun ao => ?_) (fun ao => ?_)
 ·replace hM := M.e_t hM ao
  exact (M.e_fail hM).elim
 replace hM := M.e_f hM ao
 replace ao := dI ao
 refine W.skip <| W.seq <| W.region rfl <| zM (Pq ag) rfl ?_;obtain ⟨a7, aU, hM⟩ := M.e_bind hM;refine s_call cf77 [Pq ag] rfl (zc1 aq au av aw aR aS ax (aE.app _) aF (aG.app _) aH (aI.app _) aJ (aK.app _) aL (aM.app _) aN (Has.here (k := 0) rfl) aU _ (H.gt 3)) ?_
 rintro vq a8 ⟨r2, aO, rfl, hvq, ab⟩
 subst vq;(try dsimp only at hM);replace H := H.bk ab;clear ab;refine zA aO rfl <| zA (I 0) rfl <| s_nil ?_;replace H := H.pk [0];refine W.ret ?_
 have ay := M.e_pure hM
 exact ⟨_, resE_tmp2 rfl, ⟨r2, 0, aO, ay, rfl, H⟩⟩

def zcx (ac : List Int) (ae : List Span) (aa : List Int) (ab : List Town) (ag ah : Int) (ai : List Flood) (i : Nat) : (Nat × (List Dem)) -> M ((Nat × (List Dem)) ⊕ ((List Dem) × (List Dem))) := fun (k, l4) =>
  bif decide ((k : Int) < (ab.length : Int)) then (
  M.grd (decide ((i : Int) < (aa.length : Int))) <|
  M.grd (decide ((k : Int) < (ab.length : Int))) <|
  M.bind (zbs ac ae aa ab ag ah ai (aa.getD i 0) ((ab.getD k default).station)) fun (aj, ak, r1) =>
  bif r1 then (
  M.grd (decide ((l4.length + ([(⟨(aa.getD i 0 : Int), (k : Int)⟩ : Dem)]).length) * 16 <= 140737488355328)) <|
  M.pure (.inl (k + 1, l4 ++ ([(⟨(aa.getD i 0 : Int), (k : Int)⟩ : Dem)]))))
  else (
  M.pure (.inl (k + 1, l4))))
  else (
  M.pure (.inr (l4, l4)))
def zcy (ab : List Int) (ac : List Span) (aa : List Int) (ae : List Town) (ag ah : Int) (ai : List Flood) : (Nat × (List Dem)) -> M ((Nat × (List Dem)) ⊕ ((List Dem) × (List Dem))) := fun (i, l6) =>
  bif decide ((i : Int) < (aa.length : Int)) then (
  M.bind (M.iter (zcx ab ac aa ae ag ah ai i) (0, l6)) fun (l2, l5) =>
  M.pure (.inl (i + 1, l5)))
  else (
  M.pure (.inr (l6, l6)))
def zbd (aa : List Int) (ab : List Span) (ac : List Int) (ae : List Town) (ag ah : Int) (ai : List Flood) : M (List Dem) :=
  M.bind (M.iter (zcy aa ab ac ae ag ah ai) (0, [])) fun (l7, l8) =>
  M.pure l8
theorem zdh {R : List Chunk} {aM : Cells} {al : Value} {aN : Cells} {am : Value} {aO : Cells} {ab : Value} {aP : Cells} {ac : Value} {aQ : Cells} {ao : Value} (az : List Int) (aA : List Span) (aa : List Int) (ae : List Town) (ag : Int) (ah : Int) (aB : List Flood) (aR : Reads R aM) (aS : Sl aM al az) (aT : Reads R aN) (aU : Sl aN am aA) (aC : Reads R aO) (aq : Sl aO ab aa) (aH : Reads R aP) (av : Sl aP ac ae) (aV : Reads R aQ) (aW : Sl aQ ao aB) {r : (List Dem)} (hM : (zbd az aA aa ae ag ah aB).Ends r) (w : World) (H : St w w [] R) : Ret Tryz.prog 78 #[.agg #[al, am, ab, ac, I ag, I ah, ao]] w fun v w' => ∃ (y0 : List Dem) (u0 : Value), y0 = r /\ v = u0 /\ St w w' [cOwn (α := Dem) 70 u0 y0] R := by
 refine ret_of_W Tryz.func78 rfl rfl rfl <| W.seq <| W.region rfl ?_;refine t_bx [al, am, ab, ac, I ag, I ah, ao] H rfl ?_;intro ak bv H;refine zA (.slice none 0 0) rfl <| s_nil <| W.seq <| W.region rfl <| zA (.slice none 0 0) rfl <| s_nil <| W.seq <| W.seq <| W.region rfl <| zA (I 0) rfl ?_;refine s_nil <| W.block ?_
 replace H := H.nilOwn (α := Dem) 70
 obtain ⟨ba, aI, bc⟩ := M.e_bind hM
 obtain ⟨bf, aI⟩ := M.e_iter aI
 refine W.loop (fun m σ W => ∃ (i : Nat) (l6 : List Dem) (aw : Value) (ρ : Env), σ = upds ρ [(1, Pq ak), (3, aw), (4, I (i : Int))] /\ M.iterN (zcy az aA aa ae ag ah aB) m (i, l6) = some ba /\ St w W [cOwn (α := Dem) 70 aw l6, cBlk ak [al, am, ab, ac, I ag, I ah, ao] 37] R) ?_ ?_
 ·exact ⟨_, 0, [], (.slice none 0 0), _, upds_of _ _ ⟨rfl, rfl, rfl, trivial⟩, aI, H⟩
 rintro bw σ bx ⟨i, l6, aw, ρ, rfl, aX, H⟩
 obtain ⟨bg, bh, bz, hM, aY⟩ := M.e_iterN aX
 simp only [zcy] at hM
 clear aX;refine W.seq <| W.seq <| W.region rfl <| zM (I (i : Int)) rfl <| s_val (x_fa (v := Oq ak 2) rfl (fa_blk (o := 0) Fd37_2 Sz22)) <| s_val (x_ld (v := ab) rfl (ldb_sc Sc22 (H.bl 1) rfl)) ?_
 have bA := (aq).len_le
 refine s_val (x_lenS T22.und rfl aq) <| zC (i : Int) (aa.length : Int) (decide ((i : Int) < (aa.length : Int))) rfl rfl rfl <| s_nil ?_
 refine W.cond (decide ((i : Int) < (aa.length : Int))) rfl (fun ax => ?_) (fun ax => ?_)
 ·replace hM := M.e_t hM ax
  replace ax := dI ax
  refine W.skip <| W.seq <| W.block <| W.seq <| W.region rfl <| zA (I 0) rfl <| s_nil <| W.block ?_;obtain ⟨bi, aJ, bj⟩ := M.e_bind hM
  obtain ⟨bf, aJ⟩ := M.e_iter aJ
  refine W.loop (fun m σ W => ∃ (k : Nat) (l4 : List Dem) (au : Value) (ρ : Env), σ = upds ρ [(1, Pq ak), (3, au), (4, I (i : Int)), (5, I (k : Int))] /\ M.iterN (zcx az aA aa ae ag ah aB i) m (k, l4) = some bi /\ St w W [cOwn (α := Dem) 70 au l4, cBlk ak [al, am, ab, ac, I ag, I ah, ao] 37] R) ?_ ?_
  ·exact ⟨_, 0, l6, aw, _, upds_of _ _ ⟨rfl, rfl, rfl, rfl, trivial⟩, aJ, H⟩
  rintro bB σ bC ⟨k, l4, au, ρ, rfl, aZ, H⟩
  obtain ⟨aF, aG, bD, hM, aD⟩ := M.e_iterN aZ
  simp only [zcx] at hM
  clear aZ;refine W.seq <| W.seq <| W.region rfl <| zM (I (k : Int)) rfl <| s_val (x_fa (v := Oq ak 3) rfl (fa_blk (o := 0) Fd37_3 Sz34)) <| s_val (x_ld (v := ac) rfl (ldb_sc Sc34 (H.bl 1) rfl)) ?_
  have bE := (av).len_le
  refine s_val (x_lenS T34.und rfl av) <| zC (k : Int) (ae.length : Int) (decide ((k : Int) < (ae.length : Int))) rfl rfl rfl <| s_nil ?_
  refine W.cond (decide ((k : Int) < (ae.length : Int))) rfl (fun ay => ?_) (fun ay => ?_)
  ·replace hM := M.e_t hM ay
   replace ay := dI ay
   refine W.skip <| W.seq <| W.block <| W.seq ?_;refine W.drawT (fun W => St w W [cOwn (α := Dem) 70 au l4, cBlk ak [al, am, ab, ac, I ag, I ah, ao] 37] R) (.q 0 (.q 1 (.q 2 (.q 3 (.q 4 (.q 5 (.q 6 (.q 7 (.q 8 (.q 9 (.q 10 (.q 11 (.l2 12 (.q 13 (.q 14 (.q 15 (.l 16 (.l 17 (.q 18 .nil)))))) 16 (.l 12 (.q 13 (.q 14 (.q 15 (.l 17 (.q 18 .nil))))))))))))))))))) mixed (by decide +kernel) rfl ?_;intro bF a6;replace H := H.ext a6;clear a6
   refine ⟨(H.pk [0, 1]), ?_⟩
   refine t_q rfl (fun w' H => x_ld (v := .agg #[al, am, ab, ac, I ag, I ah, ao]) rfl (ldb_ag (ds := [al, am, ab, ac, I ag, I ah, ao]) Ag37 Sz37 (H.bl 1) rfl rfl)) <| t_q rfl (fun w' H => x_fa (v := Oq ak 2) rfl (fa_blk (o := 0) Fd37_2 Sz22)) <| t_q rfl (fun w' H => x_ld (v := ab) rfl (ldb_sc Sc22 (H.bl 1) rfl)) <| t_q rfl (fun w' H => x_mv (v := I (i : Int)) rfl) ?_;obtain ⟨bG, hM⟩ := M.e_gd hM;refine t_q rfl (fun w' H => x_ix (v := vat ab 1 (Int.toNat (i : Int))) rfl rfl (Sl.ix (α := Int) T22.und T22.size aq (by omega) (by omega))) <| t_q rfl (fun w' H => x_ld (v := I (aa.getD i 0)) rfl (ld_sc Sc3 (At.mono (Int_at aq (i := (i : Int)) (by omega) (by omega)) (aC.at H)))) <| t_q rfl (fun w' H => x_fa (v := Oq ak 3) rfl (fa_blk (o := 0) Fd37_3 Sz34)) <| t_q rfl (fun w' H => x_ld (v := ac) rfl (ldb_sc Sc34 (H.bl 1) rfl)) <| t_q rfl (fun w' H => x_mv (v := I (k : Int)) rfl) ?_;obtain ⟨bH, hM⟩ := M.e_gd hM;refine t_q rfl (fun w' H => x_ix (v := vat ac 3 (Int.toNat (k : Int))) rfl rfl (Sl.ix (α := Town) T34.und T34.size av (by omega) (by omega))) <| t_q rfl (fun w' H => x_fa (v := fat (vat ac 3 (Int.toNat (k : Int))) 0) rfl (fa_pl Fd92_0 Sz3 (Sl.pl (i := (k : Int)) av (by omega) (by omega)))) <| t_q rfl (fun w' H => x_ld (v := I ((ae.getD k default).station)) rfl (ld_sc Sc3 (At.mono (Town_at0 av (i := (k : Int)) (by omega) (by omega)) (aH.at H)))) ?_;refine t_l2 rfl rfl ?_ ?_
   ·skip
    obtain ⟨bI, bm, hM⟩ := M.e_bind hM;refine s_call cf75 [.agg #[al, am, ab, ac, I ag, I ah, ao], I (aa.getD i 0), I ((ae.getD k default).station)] rfl (zbP az aA aa ae ag ah aB (aa.getD i 0) ((ae.getD k default).station) (aR.app _) aS (aT.app _) aU (aC.app _) aq (aH.app _) av (aV.app _) aW bm _ (H.gt 2)) ?_
    rintro vq bJ ⟨ai, aj, r1, rfl, hvq, aE⟩
    subst vq;(try dsimp only at hM);replace H := H.bk aE;clear aE
    refine s_nil ⟨(H.pk [0, 1]), ?_⟩
    refine t_q rfl (fun w' H => x_mv (v := .tuple #[.agg #[I ai, I aj], B r1]) rfl) <| t_q rfl (fun w' H => x_ext (vs := [.agg #[I ai, I aj], B r1]) (v := .agg #[I ai, I aj]) rfl rfl) <| t_q rfl (fun w' H => x_ext (vs := [.agg #[I ai, I aj], B r1]) (v := B r1) rfl rfl) <| t_l rfl ?_;refine t_alloc (cs := [I 0, I 0]) H Al26 rfl ?_;intro bn bK H
    refine s_nil ⟨(H.pk [1, 2]), ?_⟩
    refine t_l rfl ?_;refine t_sw 0 0 [I ai, I aj] (.agg #[I ai, I aj]) H rfl rfl Sz26 rfl rfl rfl rfl ?_;intro bL H
    refine s_nil ⟨(H.pk [1, 2]), ?_⟩
    refine t_q rfl (fun w' H => x_as (v := B r1) rfl) ?_;refine t_nil <| W.seq <| W.region rfl <| zM (B r1) rfl <| s_nil ?_
    refine W.cond r1 rfl (fun aK => ?_) (fun aK => ?_)
    ·replace hM := M.e_t hM aK;refine W.region rfl <| zM au rfl <| s_val (x_fa (v := Oq ak 2) rfl (fa_blk (o := 0) Fd37_2 Sz22)) <| s_val (x_ld (v := ab) rfl (ldb_sc Sc22 (H.bl 2) rfl)) <| zM (I (i : Int)) rfl <| s_val (x_ix (v := vat ab 1 (Int.toNat (i : Int))) rfl rfl (Sl.ix (α := Int) T22.und T22.size aq (by omega) (by omega))) <| s_val (x_ld (v := I (aa.getD i 0)) rfl (ld_sc Sc3 (At.mono (Int_at aq (i := (i : Int)) (by omega) (by omega)) (aC.at H)))) <| zM (I (k : Int)) rfl <| s_val (x_bld (ps := [(0, I (aa.getD i 0)), (1, I (k : Int))]) (zs := [I 0, I 0]) (L' := [I (aa.getD i 0), I (k : Int)]) rfl Tryz.underlying70 Al70 rfl (Bd70 Tryz.underlying70) (.cons (cs := [I (aa.getD i 0)]) rfl rfl rfl rfl rfl <| .cons (cs := [I (k : Int)]) rfl rfl rfl rfl rfl <| .nil)) ?_;refine t_bs (α := Dem) T66 [.agg #[I (aa.getD i 0), I (k : Int)]] [(⟨(aa.getD i 0 : Int), (k : Int)⟩ : Dem)] H rfl (.cons rfl (Flat.rep_enc _ (⟨(aa.getD i 0 : Int), (k : Int)⟩ : Dem)) <| .nil) rfl rfl rfl ?_;intro bo bM H;obtain ⟨bN, hM⟩ := M.e_gd hM;refine t_app (α := Dem) (k := 2) (l := l4) (l2 := [(⟨(aa.getD i 0 : Int), (k : Int)⟩ : Dem)]) (l' := l4 ++ ([(⟨(aa.getD i 0 : Int), (k : Int)⟩ : Dem)])) (vy := bo) T66 rfl H rfl rfl rfl (H.os 0) (H.ol 0) (rfl) (by first | omega | (simp only [List.length_nil] at *; omega)) ?_;intro a7 bO H;replace H := H.nf;refine zA a7 rfl <| s_nil ?_;replace H := H.pk [2, 3];refine W.region rfl <| zM (I (k : Int)) rfl <| zR (k : Int) 1 ((k : Int) + 1) rfl rfl rfl (by omega) <| zA (I ((k : Int) + 1)) rfl <| s_nil ?_
     exact ⟨aF, aG, k + 1, l4 ++ ([(⟨(aa.getD i 0 : Int), (k : Int)⟩ : Dem)]), a7, _, upds_of _ _ ⟨rfl, rfl, rfl, rfl, trivial⟩, M.e_inl hM aD, H⟩
    replace hM := M.e_f hM aK;refine W.skip <| W.region rfl <| zM (I (k : Int)) rfl <| zR (k : Int) 1 ((k : Int) + 1) rfl rfl rfl (by omega) <| zA (I ((k : Int) + 1)) rfl <| s_nil ?_
    exact ⟨aF, aG, k + 1, l4, au, _, upds_of _ _ ⟨rfl, rfl, rfl, rfl, trivial⟩, M.e_inl hM aD, (H.pk [1, 2])⟩
   skip
   refine t_alloc (cs := [I 0, I 0]) H Al26 rfl ?_;intro bn bP H
   refine s_nil ⟨(H.pk [1, 2]), ?_⟩
   refine t_l rfl ?_;obtain ⟨bQ, bp, hM⟩ := M.e_bind hM;refine s_call cf75 [.agg #[al, am, ab, ac, I ag, I ah, ao], I (aa.getD i 0), I ((ae.getD k default).station)] rfl (zbP az aA aa ae ag ah aB (aa.getD i 0) ((ae.getD k default).station) (aR.app _) aS (aT.app _) aU (aC.app _) aq (aH.app _) av (aV.app _) aW bp _ (H.gt 3)) ?_
   rintro vq bR ⟨ai, aj, r1, rfl, hvq, aE⟩
   subst vq;(try dsimp only at hM);replace H := H.bk aE;clear aE
   refine s_nil ⟨(H.pk [1, 2]), ?_⟩
   refine t_q rfl (fun w' H => x_mv (v := .tuple #[.agg #[I ai, I aj], B r1]) rfl) <| t_q rfl (fun w' H => x_ext (vs := [.agg #[I ai, I aj], B r1]) (v := .agg #[I ai, I aj]) rfl rfl) <| t_q rfl (fun w' H => x_ext (vs := [.agg #[I ai, I aj], B r1]) (v := B r1) rfl rfl) <| t_l rfl ?_;refine t_sw 0 0 [I ai, I aj] (.agg #[I ai, I aj]) H rfl rfl Sz26 rfl rfl rfl rfl ?_;intro bS H
   refine s_nil ⟨(H.pk [1, 2]), ?_⟩
   refine t_q rfl (fun w' H => x_as (v := B r1) rfl) ?_;refine t_nil <| W.seq <| W.region rfl <| zM (B r1) rfl <| s_nil ?_
   refine W.cond r1 rfl (fun aL => ?_) (fun aL => ?_)
   ·replace hM := M.e_t hM aL;refine W.region rfl <| zM au rfl <| s_val (x_fa (v := Oq ak 2) rfl (fa_blk (o := 0) Fd37_2 Sz22)) <| s_val (x_ld (v := ab) rfl (ldb_sc Sc22 (H.bl 2) rfl)) <| zM (I (i : Int)) rfl <| s_val (x_ix (v := vat ab 1 (Int.toNat (i : Int))) rfl rfl (Sl.ix (α := Int) T22.und T22.size aq (by omega) (by omega))) <| s_val (x_ld (v := I (aa.getD i 0)) rfl (ld_sc Sc3 (At.mono (Int_at aq (i := (i : Int)) (by omega) (by omega)) (aC.at H)))) <| zM (I (k : Int)) rfl <| s_val (x_bld (ps := [(0, I (aa.getD i 0)), (1, I (k : Int))]) (zs := [I 0, I 0]) (L' := [I (aa.getD i 0), I (k : Int)]) rfl Tryz.underlying70 Al70 rfl (Bd70 Tryz.underlying70) (.cons (cs := [I (aa.getD i 0)]) rfl rfl rfl rfl rfl <| .cons (cs := [I (k : Int)]) rfl rfl rfl rfl rfl <| .nil)) ?_;refine t_bs (α := Dem) T66 [.agg #[I (aa.getD i 0), I (k : Int)]] [(⟨(aa.getD i 0 : Int), (k : Int)⟩ : Dem)] H rfl (.cons rfl (Flat.rep_enc _ (⟨(aa.getD i 0 : Int), (k : Int)⟩ : Dem)) <| .nil) rfl rfl rfl ?_;intro bq bT H;obtain ⟨bU, hM⟩ := M.e_gd hM;refine t_app (α := Dem) (k := 2) (l := l4) (l2 := [(⟨(aa.getD i 0 : Int), (k : Int)⟩ : Dem)]) (l' := l4 ++ ([(⟨(aa.getD i 0 : Int), (k : Int)⟩ : Dem)])) (vy := bq) T66 rfl H rfl rfl rfl (H.os 0) (H.ol 0) (rfl) (by first | omega | (simp only [List.length_nil] at *; omega)) ?_;intro a8 bV H;replace H := H.nf;refine zA a8 rfl <| s_nil ?_;replace H := H.pk [2, 3];refine W.region rfl <| zM (I (k : Int)) rfl <| zR (k : Int) 1 ((k : Int) + 1) rfl rfl rfl (by omega) <| zA (I ((k : Int) + 1)) rfl <| s_nil ?_
    exact ⟨aF, aG, k + 1, l4 ++ ([(⟨(aa.getD i 0 : Int), (k : Int)⟩ : Dem)]), a8, _, upds_of _ _ ⟨rfl, rfl, rfl, rfl, trivial⟩, M.e_inl hM aD, H⟩
   replace hM := M.e_f hM aL;refine W.skip <| W.region rfl <| zM (I (k : Int)) rfl <| zR (k : Int) 1 ((k : Int) + 1) rfl rfl rfl (by omega) <| zA (I ((k : Int) + 1)) rfl <| s_nil ?_
   exact ⟨aF, aG, k + 1, l4, au, _, upds_of _ _ ⟨rfl, rfl, rfl, rfl, trivial⟩, M.e_inl hM aD, (H.pk [1, 2])⟩
  replace hM := M.e_f hM ay
  replace ay := dI ay
  refine W.exit ?_
  have br := M.e_inr hM aD
  subst br;replace hM := bj;(try dsimp only at hM);refine W.region rfl <| zM (I (i : Int)) rfl <| zR (i : Int) 1 ((i : Int) + 1) rfl rfl rfl (by omega) <| zA (I ((i : Int) + 1)) rfl <| s_nil ?_
  exact ⟨bg, bh, i + 1, l4, au, _, upds_of _ _ ⟨rfl, rfl, rfl, trivial⟩, M.e_inl hM aY, H⟩
 replace hM := M.e_f hM ax
 replace ax := dI ax
 refine W.exit ?_
 have bt := M.e_inr hM aY
 subst bt;replace hM := bc;(try dsimp only at hM);refine W.seq <| W.region rfl <| zM aw rfl <| zA aw rfl <| s_nil ?_;refine W.ret ?_
 have bu := M.e_pure hM
 exact ⟨_, resE_tmp rfl, ⟨l6, aw, bu, rfl, (H.pk [0])⟩⟩

def zci (aa : List Int) (ab : List Span) (ac : List Int) (ae : List Town) (ag ah : Int) (ai : List Flood) : M ((List Dem) × Int) :=
  M.bind (zae aa ab ac ae ag ah ai) fun r2 =>
  bif r2 != 0 then (
  M.pure (([]), r2))
  else (
  M.bind (zbd aa ab ac ae ag ah ai) fun r3 =>
  M.pure (r3, 0))
theorem zee {R : List Chunk} {aw : Cells} {ac : Value} {ax : Cells} {ae : Value} {ay : Cells} {ag : Value} {az : Cells} {ah : Value} {aA : Cells} {ai : Value} (al : List Int) (am : List Span) (ao : List Int) (aq : List Town) (aa : Int) (ab : Int) (au : List Flood) (aB : Reads R aw) (aC : Sl aw ac al) (aD : Reads R ax) (aE : Sl ax ae am) (aF : Reads R ay) (aG : Sl ay ag ao) (aH : Reads R az) (aI : Sl az ah aq) (aJ : Reads R aA) (aK : Sl aA ai au) {r : ((List Dem) × Int)} (hM : (zci al am ao aq aa ab au).Ends r) (w : World) (H : St w w [] R) : Ret Tryz.prog 29 #[.agg #[ac, ae, ag, ah, I aa, I ab, ai]] w fun v w' => ∃ (y0 : List Dem) (y1 : Int) (u0 : Value), (y0, y1) = r /\ v = .tuple #[u0, I y1] /\ St w w' [cOwn (α := Dem) 70 u0 y0] R := by
 refine ret_of_W Tryz.func29 rfl rfl rfl <| W.seq <| W.region rfl ?_;refine t_bx [ac, ae, ag, ah, I aa, I ab, ai] H rfl ?_;intro aO aP H;refine zA (.slice none 0 0) rfl <| zA (I 0) rfl <| s_nil <| W.seq <| W.seq <| W.region rfl <| s_val (x_ld (v := .agg #[ac, ae, ag, ah, I aa, I ab, ai]) rfl (ldb_ag (ds := [ac, ae, ag, ah, I aa, I ab, ai]) Ag37 Sz37 (H.bl 0) rfl rfl)) ?_;obtain ⟨aQ, aM, hM⟩ := M.e_bind hM;refine s_call cf20 [.agg #[ac, ae, ag, ah, I aa, I ab, ai]] rfl (zb0 al am ao aq aa ab au (aB.app _) aC (aD.app _) aE (aF.app _) aG (aH.app _) aI (aJ.app _) aK aM _ (H.gt 1)) ?_
 rintro vq aR ⟨r2, rfl, hvq, ak⟩
 subst vq;(try dsimp only at hM);replace H := H.bk ak;clear ak;refine zA (I r2) rfl <| s_nil <| W.seq <| W.region rfl <| zM (I r2) rfl <| zC r2 0 (r2 != 0) rfl rfl rfl <| s_nil ?_
 refine W.cond (r2 != 0) rfl (fun aj => ?_) (fun aj => ?_)
 ·replace hM := M.e_t hM aj
  replace aj := dI aj
  refine W.seq <| W.region rfl <| zM (I r2) rfl <| zA (.slice none 0 0) rfl <| zA (I r2) rfl <| s_nil ?_;refine W.ret ?_
  have av := M.e_pure hM
  replace H := H.nilOwn (α := Dem) 70
  exact ⟨_, resE_tmp2 rfl, ⟨([]), r2, (.slice none 0 0), av, rfl, (H.pk [0])⟩⟩
 replace hM := M.e_f hM aj
 replace aj := dI aj
 refine W.skip <| W.seq <| W.region rfl <| s_val (x_ld (v := .agg #[ac, ae, ag, ah, I aa, I ab, ai]) rfl (ldb_ag (ds := [ac, ae, ag, ah, I aa, I ab, ai]) Ag37 Sz37 (H.bl 0) rfl rfl)) ?_;obtain ⟨aS, aN, hM⟩ := M.e_bind hM;refine s_call cf78 [.agg #[ac, ae, ag, ah, I aa, I ab, ai]] rfl (zdh al am ao aq aa ab au (aB.app _) aC (aD.app _) aE (aF.app _) aG (aH.app _) aI (aJ.app _) aK aN _ (H.gt 1)) ?_
 rintro vq aT ⟨r3, aL, rfl, hvq, ak⟩
 subst vq;(try dsimp only at hM);replace H := H.bk ak;clear ak;refine zA aL rfl <| zA (I 0) rfl <| s_nil ?_;refine W.ret ?_
 have av := M.e_pure hM
 exact ⟨_, resE_tmp2 rfl, ⟨r3, 0, aL, av, rfl, (H.pk [0])⟩⟩

def zbD (l : List Dem) : (Nat × (List Dem)) -> M ((Nat × (List Dem)) ⊕ ((List Dem) × (List Dem))) := fun (i, l2) =>
  bif decide ((i : Int) < (l.length : Int)) then (
  M.grd (decide ((i : Int) < (l.length : Int))) <|
  M.grd (decide ((l2.length + ([(l.getD i default)]).length) * 16 <= 140737488355328)) <|
  M.pure (.inl (i + 1, l2 ++ ([(l.getD i default)]))))
  else (
  M.pure (.inr (l2, l2)))
def za4 (l : List Dem) : M (List Dem) :=
  M.bind (M.iter (zbD l) (0, [])) fun (l3, l4) =>
  M.pure l4
theorem zcI {R : List Chunk} {ah : Cells} {ac : Value} (l : List Dem) (al : Reads R ah) (ae : Sl ah ac l) {r : (List Dem)} (hM : (za4 l).Ends r) (w : World) (H : St w w [] R) : Ret Tryz.prog 31 #[ac] w fun v w' => ∃ (y0 : List Dem) (u0 : Value), y0 = r /\ v = u0 /\ St w w' [cOwn (α := Dem) 70 u0 y0] R := by
 refine ret_of_W Tryz.func31 rfl rfl rfl <| W.seq <| W.region rfl <| zA (.slice none 0 0) rfl <| s_nil <| W.seq <| W.region rfl <| zA (.slice none 0 0) rfl <| s_nil <| W.seq <| W.seq ?_;refine W.region rfl <| zA (I 0) rfl <| s_nil <| W.block ?_
 replace H := H.nilOwn (α := Dem) 70
 obtain ⟨am, ag, ao⟩ := M.e_bind hM
 obtain ⟨ay, ag⟩ := M.e_iter ag
 refine W.loop (fun m σ W => ∃ (i : Nat) (l2 : List Dem) (aa : Value) (ρ : Env), σ = upds ρ [(0, ac), (3, aa), (4, I (i : Int))] /\ M.iterN (zbD l) m (i, l2) = some am /\ St w W [cOwn (α := Dem) 70 aa l2] R) ?_ ?_
 ·exact ⟨_, 0, [], (.slice none 0 0), _, upds_of _ _ ⟨rfl, rfl, rfl, trivial⟩, ag, H⟩
 rintro az σ aA ⟨i, l2, aa, ρ, rfl, ai, H⟩
 obtain ⟨aq, au, aB, hM, aj⟩ := M.e_iterN ai
 simp only [zbD] at hM
 clear ai;refine W.seq <| W.seq <| W.region rfl <| zM (I (i : Int)) rfl <| zM ac rfl ?_
 have aC := (ae).len_le
 refine s_val (x_lenS T62.und rfl ae) <| zC (i : Int) (l.length : Int) (decide ((i : Int) < (l.length : Int))) rfl rfl rfl <| s_nil ?_
 refine W.cond (decide ((i : Int) < (l.length : Int))) rfl (fun ab => ?_) (fun ab => ?_)
 ·replace hM := M.e_t hM ab
  replace ab := dI ab
  refine W.skip <| W.seq <| W.block <| W.region rfl <| zM aa rfl <| zM ac rfl <| zM (I (i : Int)) rfl ?_;obtain ⟨aD, hM⟩ := M.e_gd hM;refine s_val (x_ix (v := vat ac 2 (Int.toNat (i : Int))) rfl rfl (Sl.ix (α := Dem) T62.und T62.size ae (by omega) (by omega))) <| s_val (x_ld (v := .agg #[I ((l.getD i default).spring), I ((l.getD i default).town)]) rfl (ld_ag Ag61 Sz61 (At.mono (Dem_atA ae (i := (i : Int)) (by omega) (by omega)) (al.at H)))) ?_;refine t_bs (α := Dem) T66 [.agg #[I ((l.getD i default).spring), I ((l.getD i default).town)]] [(l.getD i default)] H rfl (.cons rfl (Flat.rep_enc _ (l.getD i default)) <| .nil) rfl rfl rfl ?_;intro av aE H;obtain ⟨aF, hM⟩ := M.e_gd hM;refine t_app (α := Dem) (k := 1) (l := l2) (l2 := [(l.getD i default)]) (l' := l2 ++ ([(l.getD i default)])) (vy := av) T66 rfl H rfl rfl rfl (H.os 0) (H.ol 0) (rfl) (by first | omega | (simp only [List.length_nil] at *; omega)) ?_;intro ak aG H;replace H := H.nf;refine zA ak rfl <| s_nil <| W.region rfl <| zM (I (i : Int)) rfl <| zR (i : Int) 1 ((i : Int) + 1) rfl rfl rfl (by omega) <| zA (I ((i : Int) + 1)) rfl <| s_nil ?_
  exact ⟨aq, au, i + 1, l2 ++ ([(l.getD i default)]), ak, _, upds_of _ _ ⟨rfl, rfl, rfl, trivial⟩, M.e_inl hM aj, (H.pk [1])⟩
 replace hM := M.e_f hM ab
 replace ab := dI ab
 refine W.exit ?_
 have aw := M.e_inr hM aj
 subst aw;replace hM := ao;(try dsimp only at hM);refine W.seq <| W.region rfl <| zM aa rfl <| zA aa rfl <| s_nil ?_;refine W.ret ?_
 have ax := M.e_pure hM
 exact ⟨_, resE_tmp rfl, ⟨l2, aa, ax, rfl, H⟩⟩

def zbV (a b : List Dem) : Nat -> M (Nat ⊕ (Unit ⊕ Unit)) := fun i =>
  bif decide ((i : Int) < (a.length : Int)) then (
  M.grd (decide ((i : Int) < (a.length : Int))) <|
  M.grd (decide ((i : Int) < (b.length : Int))) <|
  bif !(decide ((a.getD i default) = (b.getD i default))) then (
  M.pure (.inr (.inl ())))
  else (
  M.pure (.inl (i + 1))))
  else (
  M.pure (.inr (.inr ())))
def zcp (a b : List Dem) : M Bool :=
  bif (a.length : Int) != (b.length : Int) then (
  M.pure false)
  else (
  M.bind (M.iter (zbV a b) 0) fun x_ => match x_ with
  | (.inl (_ : Unit)) => (
  M.pure false)
  | (.inr (_ : Unit)) => (
  M.pure true))
theorem zdD {R : List Chunk} {am : Cells} {aa : Value} {ao : Cells} {ae : Value} (a : List Dem) (b : List Dem) (aw : Reads R am) (ag : Sl am aa a) (ax : Reads R ao) (ai : Sl ao ae b) {r : Bool} (hM : (zcp a b).Ends r) (w : World) (H : St w w [] R) : Ret Tryz.prog 30 #[aa, ae] w fun v w' => ∃ (y0 : Bool), y0 = r /\ v = B y0 /\ St w w' [] R := by
 refine ret_of_W Tryz.func30 rfl rfl rfl <| W.seq <| W.region rfl <| zA (B false) rfl <| s_nil <| W.seq <| W.seq <| W.region rfl <| zM aa rfl ?_
 have aD := (ag).len_le
 refine s_val (x_lenS T66.und rfl ag) <| zM ae rfl ?_
 have aE := (ai).len_le
 refine s_val (x_lenS T66.und rfl ai) <| zC (a.length : Int) (b.length : Int) ((a.length : Int) != (b.length : Int)) rfl rfl rfl <| s_nil ?_
 refine W.cond ((a.length : Int) != (b.length : Int)) rfl (fun ab => ?_) (fun ab => ?_)
 ·replace hM := M.e_t hM ab
  replace ab := dI ab
  refine W.seq <| W.region rfl <| zA (B false) rfl <| s_nil ?_;refine W.ret ?_
  have ah := M.e_pure hM
  exact ⟨_, resE_tmp rfl, ⟨false, ah, rfl, H⟩⟩
 replace hM := M.e_f hM ab
 replace ab := dI ab
 refine W.skip <| W.seq <| W.seq <| W.region rfl <| zA (I 0) rfl <| s_nil <| W.block ?_;obtain ⟨ay, aj, aq⟩ := M.e_bind hM
 obtain ⟨aF, aj⟩ := M.e_iter aj
 refine W.loop (fun m σ W => ∃ (i : Nat) (ρ : Env), σ = upds ρ [(0, aa), (1, ae), (5, I (i : Int))] /\ M.iterN (zbV a b) m i = some ay /\ St w W [] R) ?_ ?_
 ·exact ⟨_, 0, _, upds_of _ _ ⟨rfl, rfl, rfl, trivial⟩, aj, H⟩
 rintro aG σ aH ⟨i, ρ, rfl, au, H⟩
 obtain ⟨az, aA, aI, hM, ak⟩ := M.e_iterN au
 simp only [zbV] at hM
 clear au;refine W.seq <| W.seq <| W.region rfl <| zM (I (i : Int)) rfl <| zM aa rfl ?_
 have aJ := (ag).len_le
 refine s_val (x_lenS T66.und rfl ag) <| zC (i : Int) (a.length : Int) (decide ((i : Int) < (a.length : Int))) rfl rfl rfl <| s_nil ?_
 refine W.cond (decide ((i : Int) < (a.length : Int))) rfl (fun ac => ?_) (fun ac => ?_)
 ·replace hM := M.e_t hM ac
  replace ac := dI ac
  refine W.skip <| W.seq <| W.block <| W.seq ?_;refine W.draw (fun W => St w W [] R) [(0, true), (1, true), (2, true), (3, true), (4, true), (5, true), (6, true), (7, true), (8, true)] mixed (by decide +kernel) rfl ?_;intro aK av;replace H := H.ext av;clear av
  refine ⟨(H.pk []), ?_⟩
  refine d_q rfl (fun w' H => x_mv (v := aa) rfl) <| d_q rfl (fun w' H => x_mv (v := I (i : Int)) rfl) ?_;obtain ⟨aL, hM⟩ := M.e_gd hM;refine d_q rfl (fun w' H => x_ix (v := vat aa 2 (Int.toNat (i : Int))) rfl rfl (Sl.ix (α := Dem) T66.und T66.size ag (by omega) (by omega))) <| d_q rfl (fun w' H => x_ld (v := .agg #[I ((a.getD i default).spring), I ((a.getD i default).town)]) rfl (ld_ag Ag70 Sz70 (At.mono (Dem_atA ag (i := (i : Int)) (by omega) (by omega)) (aw.at H)))) <| d_q rfl (fun w' H => x_mv (v := ae) rfl) <| d_q rfl (fun w' H => x_mv (v := I (i : Int)) rfl) ?_;obtain ⟨aM, hM⟩ := M.e_gd hM;refine d_q rfl (fun w' H => x_ix (v := vat ae 2 (Int.toNat (i : Int))) rfl rfl (Sl.ix (α := Dem) T66.und T66.size ai (by omega) (by omega))) <| d_q rfl (fun w' H => x_ld (v := .agg #[I ((b.getD i default).spring), I ((b.getD i default).town)]) rfl (ld_ag Ag70 Sz70 (At.mono (Dem_atA ai (i := (i : Int)) (by omega) (by omega)) (ax.at H)))) <| d_q rfl (fun w' H => x_neS (eqT70 (a.getD i default) (b.getD i default) _) gdT70 rfl rfl) ?_;refine d_nil ?_
  refine W.cond (!(decide ((a.getD i default) = (b.getD i default)))) rfl (fun al => ?_) (fun al => ?_)
  ·replace hM := M.e_t hM al;refine W.seq <| W.region rfl <| zA (B false) rfl <| s_nil ?_;refine W.ret ?_
   have aB := M.e_inr hM ak
   subst aB;replace hM := aq;(try dsimp only at hM)
   have ah := M.e_pure hM
   exact ⟨_, resE_tmp rfl, ⟨false, ah, rfl, H⟩⟩
  replace hM := M.e_f hM al;refine W.skip <| W.region rfl <| zM (I (i : Int)) rfl <| zR (i : Int) 1 ((i : Int) + 1) rfl rfl rfl (by omega) <| zA (I ((i : Int) + 1)) rfl <| s_nil ?_
  exact ⟨az, aA, i + 1, _, upds_of _ _ ⟨rfl, rfl, rfl, trivial⟩, M.e_inl hM ak, H⟩
 replace hM := M.e_f hM ac
 replace ac := dI ac
 refine W.exit ?_
 have aC := M.e_inr hM ak
 subst aC;replace hM := aq;(try dsimp only at hM);refine W.seq <| W.region rfl <| zA (B true) rfl <| s_nil ?_;refine W.ret ?_
 have ah := M.e_pure hM
 exact ⟨_, resE_tmp rfl, ⟨true, ah, rfl, H⟩⟩

def zb8 (d : Dem) (r2 : List Dem) : Nat -> M (Nat ⊕ (Unit ⊕ Unit)) := fun i =>
  bif decide ((i : Int) < (r2.length : Int)) then (
  M.grd (decide ((i : Int) < (r2.length : Int))) <|
  bif decide ((r2.getD i default) = d) then (
  M.pure (.inr (.inl ())))
  else (
  M.pure (.inl (i + 1))))
  else (
  M.pure (.inr (.inr ())))
def zcw (aa : List Int) (ab : List Span) (ac : List Int) (ae : List Town) (ag ah : Int) (ai : List Flood) (d : Dem) : M Bool :=
  M.bind (zbd aa ab ac ae ag ah ai) fun r2 =>
  M.bind (M.iter (zb8 d r2) 0) fun x_ => match x_ with
  | (.inl (_ : Unit)) => (
  M.pure true)
  | (.inr (_ : Unit)) => (
  M.pure false)
theorem zd1 {R : List Chunk} {aA : Cells} {ac : Value} {aB : Cells} {ae : Value} {aC : Cells} {ag : Value} {aD : Cells} {ah : Value} {aE : Cells} {ai : Value} (am : List Int) (ao : List Span) (aq : List Int) (au : List Town) (aa : Int) (ab : Int) (av : List Flood) (d : Dem) (aK : Reads R aA) (aL : Sl aA ac am) (aM : Reads R aB) (aN : Sl aB ae ao) (aO : Reads R aC) (aP : Sl aC ag aq) (aQ : Reads R aD) (aR : Sl aD ah au) (aS : Reads R aE) (aT : Sl aE ai av) {r : Bool} (hM : (zcw am ao aq au aa ab av d).Ends r) (w : World) (H : St w w [] R) : Ret Tryz.prog 82 #[.agg #[ac, ae, ag, ah, I aa, I ab, ai], .agg #[I d.spring, I d.town]] w fun v w' => ∃ (y0 : Bool), y0 = r /\ v = B y0 /\ St w w' [] R := by
 refine ret_of_W Tryz.func82 rfl rfl rfl <| W.seq <| W.region rfl ?_;refine t_bx [ac, ae, ag, ah, I aa, I ab, ai] H rfl ?_;intro aF a6 H;refine t_bx [I d.spring, I d.town] H rfl ?_;intro aw a7 H;refine zA (B false) rfl <| s_nil <| W.seq <| W.region rfl <| s_val (x_ld (v := .agg #[ac, ae, ag, ah, I aa, I ab, ai]) rfl (ldb_ag (ds := [ac, ae, ag, ah, I aa, I ab, ai]) Ag37 Sz37 (H.bl 1) rfl rfl)) ?_;obtain ⟨a8, aU, hM⟩ := M.e_bind hM;refine s_call cf78 [.agg #[ac, ae, ag, ah, I aa, I ab, ai]] rfl (zdh am ao aq au aa ab av (aK.app _) aL (aM.app _) aN (aO.app _) aP (aQ.app _) aR (aS.app _) aT aU _ (H.gt 2)) ?_
 rintro vq ba ⟨r2, aj, rfl, hvq, aG⟩
 subst vq;(try dsimp only at hM);replace H := H.bk aG;clear aG;refine zA aj rfl <| s_nil <| W.seq <| W.seq <| W.region rfl <| zA (I 0) rfl <| s_nil <| W.block ?_;obtain ⟨aV, ax, aH⟩ := M.e_bind hM
 obtain ⟨bc, ax⟩ := M.e_iter ax
 refine W.loop (fun m σ W => ∃ (i : Nat) (ρ : Env), σ = upds ρ [(3, Pq aw), (5, aj), (6, I (i : Int))] /\ M.iterN (zb8 d r2) m i = some aV /\ St w W [cOwn (α := Dem) 70 aj r2, cBlk aw [I d.spring, I d.town] 70, cBlk aF [ac, ae, ag, ah, I aa, I ab, ai] 37] R) ?_ ?_
 ·exact ⟨_, 0, _, upds_of _ _ ⟨rfl, rfl, rfl, trivial⟩, ax, H⟩
 rintro bf σ bg ⟨i, ρ, rfl, aI, H⟩
 obtain ⟨aW, aX, bh, hM, ay⟩ := M.e_iterN aI
 simp only [zb8] at hM
 clear aI;refine W.seq <| W.seq <| W.region rfl <| zM (I (i : Int)) rfl <| zM aj rfl ?_
 have bi := ((H.os 0)).len_le
 refine s_val (x_lenS T66.und rfl (H.os 0)) <| zC (i : Int) (r2.length : Int) (decide ((i : Int) < (r2.length : Int))) rfl rfl rfl <| s_nil ?_
 refine W.cond (decide ((i : Int) < (r2.length : Int))) rfl (fun ak => ?_) (fun ak => ?_)
 ·replace hM := M.e_t hM ak
  replace ak := dI ak
  refine W.skip <| W.seq <| W.block <| W.seq ?_;refine W.draw (fun W => St w W [cOwn (α := Dem) 70 aj r2, cBlk aw [I d.spring, I d.town] 70, cBlk aF [ac, ae, ag, ah, I aa, I ab, ai] 37] R) [(0, true), (1, true), (2, true), (3, true), (4, true), (5, true)] mixed (by decide +kernel) rfl ?_;intro bj aJ;replace H := H.ext aJ;clear aJ
  refine ⟨(H.pk [0, 1, 2]), ?_⟩
  refine d_q rfl (fun w' H => x_mv (v := aj) rfl) <| d_q rfl (fun w' H => x_mv (v := I (i : Int)) rfl) ?_;obtain ⟨bm, hM⟩ := M.e_gd hM;refine d_q rfl (fun w' H => x_ix (v := vat aj 2 (Int.toNat (i : Int))) rfl rfl (Sl.ix (α := Dem) T66.und T66.size (H.os 0) (by omega) (by omega))) <| d_q rfl (fun w' H => x_ld (v := .agg #[I ((r2.getD i default).spring), I ((r2.getD i default).town)]) rfl (ld_ag Ag70 Sz70 (At.mono (Dem_atA (H.os 0) (i := (i : Int)) (by omega) (by omega)) (H.ol 0)))) <| d_q rfl (fun w' H => x_ld (v := .agg #[I d.spring, I d.town]) rfl (ldb_ag (ds := [I d.spring, I d.town]) Ag70 Sz70 (H.bl 1) rfl rfl)) <| d_q rfl (fun w' H => x_eqS (eqT70 (r2.getD i default) d _) gdT70 rfl rfl) ?_;refine d_nil ?_
  refine W.cond (decide ((r2.getD i default) = d)) rfl (fun al => ?_) (fun al => ?_)
  ·replace hM := M.e_t hM al
   replace al := dI al
   refine W.seq <| W.region rfl <| zA (B true) rfl <| s_nil ?_;refine W.ret ?_
   have aY := M.e_inr hM ay
   subst aY;replace hM := aH;(try dsimp only at hM)
   have az := M.e_pure hM
   exact ⟨_, resE_tmp rfl, ⟨true, az, rfl, (H.pk [])⟩⟩
  replace hM := M.e_f hM al
  replace al := dI al
  refine W.skip <| W.region rfl <| zM (I (i : Int)) rfl <| zR (i : Int) 1 ((i : Int) + 1) rfl rfl rfl (by omega) <| zA (I ((i : Int) + 1)) rfl <| s_nil ?_
  exact ⟨aW, aX, i + 1, _, upds_of _ _ ⟨rfl, rfl, rfl, trivial⟩, M.e_inl hM ay, H⟩
 replace hM := M.e_f hM ak
 replace ak := dI ak
 refine W.exit ?_
 have aZ := M.e_inr hM ay
 subst aZ;replace hM := aH;(try dsimp only at hM);replace H := H.pk [];refine W.seq <| W.region rfl <| zA (B false) rfl <| s_nil ?_;refine W.ret ?_
 have az := M.e_pure hM
 exact ⟨_, resE_tmp rfl, ⟨false, az, rfl, H⟩⟩

def zaN (ae : List Int) (ag : List Span) (ah : List Int) (aa : List Town) (ai ab : Int) (aj : List Flood) (station : Int) (d : Dem) : M Bool :=
  M.bind (zbs ae ag ah aa ai ab aj d.spring station) fun (al, am, r1) =>
  bif !r1 then (
  M.pure false)
  else (
  M.grd (decide ((0 : Int) <= d.town) && decide (d.town < (aa.length : Int))) <|
  M.bind (zbs ae ag ah aa ai ab aj station ((aa.getD (Int.toNat d.town) default).station)) fun (ac, ao, ak) =>
  M.grd ((!ak || (decide ((-9223372036854775808 : Int) <= (ac - ab)) && decide ((ac - ab) <= (9223372036854775807 : Int))))) <|
  M.pure (ak && (decide (((aa.getD (Int.toNat d.town) default).lead) <= (ac - ab)))))
theorem zcB {R : List Chunk} {aT : Cells} {am : Value} {aU : Cells} {ao : Value} {aV : Cells} {aq : Value} {aW : Cells} {ah : Value} {aX : Cells} {au : Value} (aE : List Int) (aF : List Span) (aG : List Int) (ai : List Town) (aj : Int) (ae : Int) (aH : List Flood) (station : Int) (d : Dem) (aJ : Reads R aT) (aK : Sl aT am aE) (aL : Reads R aU) (aM : Sl aU ao aF) (aN : Reads R aV) (aO : Sl aV aq aG) (aD : Reads R aW) (av : Sl aW ah ai) (aP : Reads R aX) (aQ : Sl aX au aH) {r : Bool} (hM : (zaN aE aF aG ai aj ae aH station d).Ends r) (w : World) (H : St w w [] R) : Ret Tryz.prog 83 #[.agg #[am, ao, aq, ah, I aj, I ae, au], I station, .agg #[I d.spring, I d.town]] w fun v w' => ∃ (y0 : Bool), y0 = r /\ v = B y0 /\ St w w' [] R := by
 refine ret_of_W Tryz.func83 rfl rfl rfl <| W.seq <| W.region rfl ?_;refine t_bx [am, ao, aq, ah, I aj, I ae, au] H rfl ?_;intro ak a7 H;refine t_bx [I d.spring, I d.town] H rfl ?_;intro ay a8 H;refine zA (B false) rfl <| s_nil <| W.seq <| W.seq <| W.region rfl <| s_val (x_ld (v := .agg #[am, ao, aq, ah, I aj, I ae, au]) rfl (ldb_ag (ds := [am, ao, aq, ah, I aj, I ae, au]) Ag37 Sz37 (H.bl 1) rfl rfl)) <| s_val (x_fa (v := Pq ay) rfl (fa_blk (o := 0) Fd70_0 Sz3)) <| s_val (x_ld (v := I d.spring) rfl (ldb_sc Sc3 (H.bl 0) rfl)) <| zM (I station) rfl ?_;obtain ⟨ba, aY, hM⟩ := M.e_bind hM;refine s_call cf75 [.agg #[am, ao, aq, ah, I aj, I ae, au], I d.spring, I station] rfl (zbP aE aF aG ai aj ae aH d.spring station (aJ.app _) aK (aL.app _) aM (aN.app _) aO (aD.app _) av (aP.app _) aQ aY _ (H.gt 2)) ?_
 rintro vq bc ⟨az, aA, r1, rfl, hvq, aB⟩
 subst vq;(try dsimp only at hM);replace H := H.bk aB;clear aB;refine zM (.tuple #[.agg #[I az, I aA], B r1]) rfl <| zX [.agg #[I az, I aA], B r1] (.agg #[I az, I aA]) rfl rfl <| zX [.agg #[I az, I aA], B r1] (B r1) rfl rfl ?_;refine t_alloc (cs := [I 0, I 0]) H Al26 rfl ?_;intro aR bf H;refine t_sw 0 0 [I az, I aA] (.agg #[I az, I aA]) H rfl rfl Sz26 rfl rfl rfl rfl ?_;intro bg H;refine zA (B r1) rfl <| s_nil <| W.seq <| W.region rfl <| zM (B r1) rfl <| s_val (x_not (b := r1) rfl) <| s_nil ?_
 refine W.cond (!r1) rfl (fun aS => ?_) (fun aS => ?_)
 ·replace hM := M.e_t hM aS;refine W.seq <| W.region rfl <| zA (B false) rfl <| s_nil ?_;replace H := H.pk [];refine W.ret ?_
  have aI := M.e_pure hM
  exact ⟨_, resE_tmp rfl, ⟨false, aI, rfl, H⟩⟩
 replace hM := M.e_f hM aS;refine W.skip <| W.seq ?_;refine W.drawT (fun W => St w W [cBlk aR [I az, I aA] 26, cBlk ay [I d.spring, I d.town] 70, cBlk ak [am, ao, aq, ah, I aj, I ae, au] 37] R) (.q 0 (.q 1 (.q 2 (.q 3 (.q 4 (.q 5 (.q 6 (.q 7 (.q 8 (.l2 9 (.q 10 (.q 11 (.q 12 (.l 13 (.l 14 (.q 15 .nil)))))) 13 (.l 9 (.q 10 (.q 11 (.q 12 (.l 14 (.q 15 .nil)))))))))))))))) mixed (by decide +kernel) rfl ?_;intro bh ac;replace H := H.ext ac;clear ac
 refine ⟨(H.pk [0, 1, 2]), ?_⟩
 refine t_q rfl (fun w' H => x_ld (v := .agg #[am, ao, aq, ah, I aj, I ae, au]) rfl (ldb_ag (ds := [am, ao, aq, ah, I aj, I ae, au]) Ag37 Sz37 (H.bl 2) rfl rfl)) <| t_q rfl (fun w' H => x_mv (v := I station) rfl) <| t_q rfl (fun w' H => x_fa (v := Oq ak 3) rfl (fa_blk (o := 0) Fd37_3 Sz34)) <| t_q rfl (fun w' H => x_ld (v := ah) rfl (ldb_sc Sc34 (H.bl 2) rfl)) <| t_q rfl (fun w' H => x_fa (v := Oq ay 1) rfl (fa_blk (o := 0) Fd70_1 Sz3)) <| t_q rfl (fun w' H => x_ld (v := I d.town) rfl (ldb_sc Sc3 (H.bl 1) rfl)) ?_;obtain ⟨bi, hM⟩ := M.e_gd hM;refine t_q rfl (fun w' H => x_ix (v := vat ah 3 (Int.toNat d.town)) rfl rfl (Sl.ix (α := Town) T34.und T34.size av (by omega) (by omega))) <| t_q rfl (fun w' H => x_fa (v := fat (vat ah 3 (Int.toNat d.town)) 0) rfl (fa_pl Fd92_0 Sz3 (Sl.pl (i := d.town) av (by omega) (by omega)))) <| t_q rfl (fun w' H => x_ld (v := I ((ai.getD (Int.toNat d.town) default).station)) rfl (ld_sc Sc3 (At.mono (Town_at0 av (i := d.town) (by omega) (by omega)) (aD.at H)))) ?_;refine t_l2 rfl rfl ?_ ?_
 ·skip
  obtain ⟨bj, aZ, hM⟩ := M.e_bind hM;refine s_call cf75 [.agg #[am, ao, aq, ah, I aj, I ae, au], I station, I ((ai.getD (Int.toNat d.town) default).station)] rfl (zbP aE aF aG ai aj ae aH station ((ai.getD (Int.toNat d.town) default).station) (aJ.app _) aK (aL.app _) aM (aN.app _) aO (aD.app _) av (aP.app _) aQ aZ _ (H.gt 3)) ?_
  rintro vq bm ⟨ag, al, ab, rfl, hvq, aB⟩
  subst vq;(try dsimp only at hM);replace H := H.bk aB;clear aB
  refine s_nil ⟨(H.pk [0, 1, 2]), ?_⟩
  refine t_q rfl (fun w' H => x_mv (v := .tuple #[.agg #[I ag, I al], B ab]) rfl) <| t_q rfl (fun w' H => x_ext (vs := [.agg #[I ag, I al], B ab]) (v := .agg #[I ag, I al]) rfl rfl) <| t_q rfl (fun w' H => x_ext (vs := [.agg #[I ag, I al], B ab]) (v := B ab) rfl rfl) <| t_l rfl ?_;refine t_alloc (cs := [I 0, I 0]) H Al26 rfl ?_;intro aC bn H
  refine s_nil ⟨(H.pk [1, 2, 3]), ?_⟩
  refine t_l rfl ?_;refine t_sw 0 0 [I ag, I al] (.agg #[I ag, I al]) H rfl rfl Sz26 rfl rfl rfl rfl ?_;intro bo H
  refine s_nil ⟨(H.pk [1, 2, 3]), ?_⟩
  refine t_q rfl (fun w' H => x_as (v := B ab) rfl) ?_;refine t_nil <| W.seq ?_;refine W.draw (fun W => St w W [cBlk aC [I ag, I al] 26, cBlk aR [I az, I aA] 26, cBlk ay [I d.spring, I d.town] 70, cBlk ak [am, ao, aq, ah, I aj, I ae, au] 37] R) [(0, true), (1, true), (2, true), (3, true), (4, true), (5, true), (6, true), (7, true), (8, true), (9, true), (10, true), (11, true), (12, true), (13, true), (14, true), (15, true), (16, true), (17, true)] mixed (by decide +kernel) rfl ?_;intro bp ac;replace H := H.ext ac;clear ac
  refine ⟨(H.pk [0, 1, 2, 3]), ?_⟩
  refine d_q rfl (fun w' H => x_mv (v := B ab) rfl) <| d_q rfl (fun w' H => x_mv (v := B ab) rfl) <| d_qg ab rfl (gy_t rfl) (fun hg => (fun w' H => x_fa (v := Pq aC) rfl (fa_blk (o := 0) Fd26_0 Sz3))) <| d_qg ab rfl (gy_t rfl) (fun hg => (fun w' H => x_ld (v := I ag) (gd_of hg (Pq aC)) (ldb_sc Sc3 (H.bl 0) rfl))) <| d_qg ab rfl (gy_t rfl) (fun hg => (fun w' H => x_fa (v := Oq ak 4) rfl (fa_blk (o := 0) Fd37_4 Sz26))) <| d_qg ab rfl (gy_t rfl) (fun hg => (fun w' H => x_fa (v := Oq ak 5) (gd_of hg (Oq ak 4)) (fa_blk (o := 4) Fd26_1 Sz3))) <| d_qg ab rfl (gy_t rfl) (fun hg => (fun w' H => x_ld (v := I ae) (gd_of hg (Oq ak 5)) (ldb_sc Sc3 (H.bl 3) rfl))) ?_;obtain ⟨aw, hM⟩ := M.e_grd hM
  replace aw := M.imp_of aw
  simp only [Bool.and_eq_true, decide_eq_true_eq] at aw
  refine d_qg ab rfl (gy_t rfl) (fun hg => (fun w' H => x_ari (r := ag - ae) (gd_of hg (I ag)) (gd_of hg (I ae)) rfl (by have aa := aw.resolve_left (by rw [hg]; decide); first | exact aa | exact aa.1 | exact aa.2 | omega | (have ac := hg; simp at ac; omega)))) <| d_qg ab rfl (gy_t rfl) (fun hg => (fun w' H => x_fa (v := Oq ak 3) rfl (fa_blk (o := 0) Fd37_3 Sz34))) <| d_qg ab rfl (gy_t rfl) (fun hg => (fun w' H => x_ld (v := ah) (gd_of hg (Oq ak 3)) (ldb_sc Sc34 (H.bl 3) rfl))) <| d_qg ab rfl (gy_t rfl) (fun hg => (fun w' H => x_fa (v := Oq ay 1) rfl (fa_blk (o := 0) Fd70_1 Sz3))) <| d_qg ab rfl (gy_t rfl) (fun hg => (fun w' H => x_ld (v := I d.town) (gd_of hg (Oq ay 1)) (ldb_sc Sc3 (H.bl 2) rfl))) <| d_qg ab rfl (gy_t rfl) (fun hg => (fun w' H => x_ix (v := vat ah 3 (Int.toNat d.town)) (gd_of hg (ah)) (gd_of hg (I d.town)) (Sl.ix (α := Town) T34.und T34.size av (by have aa := aw.resolve_left (by rw [hg]; decide); first | exact aa | exact aa.1 | exact aa.2 | omega | (have ac := hg; simp at ac; omega)) (by have aa := aw.resolve_left (by rw [hg]; decide); first | exact aa | exact aa.1 | exact aa.2 | omega | (have ac := hg; simp at ac; omega))))) <| d_qg ab rfl (gy_t rfl) (fun hg => (fun w' H => x_fa (v := fat (vat ah 3 (Int.toNat d.town)) 1) (gd_of hg (vat ah 3 (Int.toNat d.town))) (fa_pl Fd92_1 Sz3 (Sl.pl (i := d.town) av (by have aa := aw.resolve_left (by rw [hg]; decide); first | exact aa | exact aa.1 | exact aa.2 | omega | (have ac := hg; simp at ac; omega)) (by have aa := aw.resolve_left (by rw [hg]; decide); first | exact aa | exact aa.1 | exact aa.2 | omega | (have ac := hg; simp at ac; omega)))))) <| d_qg ab rfl (gy_t rfl) (fun hg => (fun w' H => x_ld (v := I ((ai.getD (Int.toNat d.town) default).lead)) (gd_of hg (fat (vat ah 3 (Int.toNat d.town)) 1)) (ld_sc Sc3 (At.mono (Town_at1 av (i := d.town) (by have aa := aw.resolve_left (by rw [hg]; decide); first | exact aa | exact aa.1 | exact aa.2 | omega | (have ac := hg; simp at ac; omega)) (by have aa := aw.resolve_left (by rw [hg]; decide); first | exact aa | exact aa.1 | exact aa.2 | omega | (have ac := hg; simp at ac; omega))) (aD.at H))))) <| d_qg ab rfl (gy_t rfl) (fun hg => (fun w' H => x_cmp (kd := .i64) (r := decide (((ai.getD (Int.toNat d.town) default).lead) <= (ag - ae))) (gd_of hg (I (ag - ae))) (gd_of hg (I ((ai.getD (Int.toNat d.town) default).lead))) rfl)) <| d_q rfl (fun w' H => x_pand (b := ab) (r := decide (((ai.getD (Int.toNat d.town) default).lead) <= (ag - ae))) rfl (fun hb => gd_of (c := ab) (by first | exact hb | (rw [hb]; rfl) | simp_all) (B (decide (((ai.getD (Int.toNat d.town) default).lead) <= (ag - ae))))) rfl) ?_;refine d_q rfl (fun w' H => x_as (v := B (ab && (decide (((ai.getD (Int.toNat d.town) default).lead) <= (ag - ae))))) rfl) ?_;refine d_nil ?_;replace H := H.pk [];refine W.ret ?_
  have aI := M.e_pure hM
  exact ⟨_, resE_tmp rfl, ⟨(ab && (decide (((ai.getD (Int.toNat d.town) default).lead) <= (ag - ae)))), aI, rfl, H⟩⟩
 skip
 refine t_alloc (cs := [I 0, I 0]) H Al26 rfl ?_;intro aC bq H
 refine s_nil ⟨(H.pk [1, 2, 3]), ?_⟩
 refine t_l rfl ?_;obtain ⟨br, a6, hM⟩ := M.e_bind hM;refine s_call cf75 [.agg #[am, ao, aq, ah, I aj, I ae, au], I station, I ((ai.getD (Int.toNat d.town) default).station)] rfl (zbP aE aF aG ai aj ae aH station ((ai.getD (Int.toNat d.town) default).station) (aJ.app _) aK (aL.app _) aM (aN.app _) aO (aD.app _) av (aP.app _) aQ a6 _ (H.gt 4)) ?_
 rintro vq bt ⟨ag, al, ab, rfl, hvq, aB⟩
 subst vq;(try dsimp only at hM);replace H := H.bk aB;clear aB
 refine s_nil ⟨(H.pk [1, 2, 3]), ?_⟩
 refine t_q rfl (fun w' H => x_mv (v := .tuple #[.agg #[I ag, I al], B ab]) rfl) <| t_q rfl (fun w' H => x_ext (vs := [.agg #[I ag, I al], B ab]) (v := .agg #[I ag, I al]) rfl rfl) <| t_q rfl (fun w' H => x_ext (vs := [.agg #[I ag, I al], B ab]) (v := B ab) rfl rfl) <| t_l rfl ?_;refine t_sw 0 0 [I ag, I al] (.agg #[I ag, I al]) H rfl rfl Sz26 rfl rfl rfl rfl ?_;intro bu H
 refine s_nil ⟨(H.pk [1, 2, 3]), ?_⟩
 refine t_q rfl (fun w' H => x_as (v := B ab) rfl) ?_;refine t_nil <| W.seq ?_;refine W.draw (fun W => St w W [cBlk aC [I ag, I al] 26, cBlk aR [I az, I aA] 26, cBlk ay [I d.spring, I d.town] 70, cBlk ak [am, ao, aq, ah, I aj, I ae, au] 37] R) [(0, true), (1, true), (2, true), (3, true), (4, true), (5, true), (6, true), (7, true), (8, true), (9, true), (10, true), (11, true), (12, true), (13, true), (14, true), (15, true), (16, true), (17, true)] mixed (by decide +kernel) rfl ?_;intro bv ac;replace H := H.ext ac;clear ac
 refine ⟨(H.pk [0, 1, 2, 3]), ?_⟩
 refine d_q rfl (fun w' H => x_mv (v := B ab) rfl) <| d_q rfl (fun w' H => x_mv (v := B ab) rfl) <| d_qg ab rfl (gy_t rfl) (fun hg => (fun w' H => x_fa (v := Pq aC) rfl (fa_blk (o := 0) Fd26_0 Sz3))) <| d_qg ab rfl (gy_t rfl) (fun hg => (fun w' H => x_ld (v := I ag) (gd_of hg (Pq aC)) (ldb_sc Sc3 (H.bl 0) rfl))) <| d_qg ab rfl (gy_t rfl) (fun hg => (fun w' H => x_fa (v := Oq ak 4) rfl (fa_blk (o := 0) Fd37_4 Sz26))) <| d_qg ab rfl (gy_t rfl) (fun hg => (fun w' H => x_fa (v := Oq ak 5) (gd_of hg (Oq ak 4)) (fa_blk (o := 4) Fd26_1 Sz3))) <| d_qg ab rfl (gy_t rfl) (fun hg => (fun w' H => x_ld (v := I ae) (gd_of hg (Oq ak 5)) (ldb_sc Sc3 (H.bl 3) rfl))) ?_;obtain ⟨ax, hM⟩ := M.e_grd hM
 replace ax := M.imp_of ax
 simp only [Bool.and_eq_true, decide_eq_true_eq] at ax
 refine d_qg ab rfl (gy_t rfl) (fun hg => (fun w' H => x_ari (r := ag - ae) (gd_of hg (I ag)) (gd_of hg (I ae)) rfl (by have aa := ax.resolve_left (by rw [hg]; decide); first | exact aa | exact aa.1 | exact aa.2 | omega | (have ac := hg; simp at ac; omega)))) <| d_qg ab rfl (gy_t rfl) (fun hg => (fun w' H => x_fa (v := Oq ak 3) rfl (fa_blk (o := 0) Fd37_3 Sz34))) <| d_qg ab rfl (gy_t rfl) (fun hg => (fun w' H => x_ld (v := ah) (gd_of hg (Oq ak 3)) (ldb_sc Sc34 (H.bl 3) rfl))) <| d_qg ab rfl (gy_t rfl) (fun hg => (fun w' H => x_fa (v := Oq ay 1) rfl (fa_blk (o := 0) Fd70_1 Sz3))) <| d_qg ab rfl (gy_t rfl) (fun hg => (fun w' H => x_ld (v := I d.town) (gd_of hg (Oq ay 1)) (ldb_sc Sc3 (H.bl 2) rfl))) <| d_qg ab rfl (gy_t rfl) (fun hg => (fun w' H => x_ix (v := vat ah 3 (Int.toNat d.town)) (gd_of hg (ah)) (gd_of hg (I d.town)) (Sl.ix (α := Town) T34.und T34.size av (by have aa := ax.resolve_left (by rw [hg]; decide); first | exact aa | exact aa.1 | exact aa.2 | omega | (have ac := hg; simp at ac; omega)) (by have aa := ax.resolve_left (by rw [hg]; decide); first | exact aa | exact aa.1 | exact aa.2 | omega | (have ac := hg; simp at ac; omega))))) <| d_qg ab rfl (gy_t rfl) (fun hg => (fun w' H => x_fa (v := fat (vat ah 3 (Int.toNat d.town)) 1) (gd_of hg (vat ah 3 (Int.toNat d.town))) (fa_pl Fd92_1 Sz3 (Sl.pl (i := d.town) av (by have aa := ax.resolve_left (by rw [hg]; decide); first | exact aa | exact aa.1 | exact aa.2 | omega | (have ac := hg; simp at ac; omega)) (by have aa := ax.resolve_left (by rw [hg]; decide); first | exact aa | exact aa.1 | exact aa.2 | omega | (have ac := hg; simp at ac; omega)))))) <| d_qg ab rfl (gy_t rfl) (fun hg => (fun w' H => x_ld (v := I ((ai.getD (Int.toNat d.town) default).lead)) (gd_of hg (fat (vat ah 3 (Int.toNat d.town)) 1)) (ld_sc Sc3 (At.mono (Town_at1 av (i := d.town) (by have aa := ax.resolve_left (by rw [hg]; decide); first | exact aa | exact aa.1 | exact aa.2 | omega | (have ac := hg; simp at ac; omega)) (by have aa := ax.resolve_left (by rw [hg]; decide); first | exact aa | exact aa.1 | exact aa.2 | omega | (have ac := hg; simp at ac; omega))) (aD.at H))))) <| d_qg ab rfl (gy_t rfl) (fun hg => (fun w' H => x_cmp (kd := .i64) (r := decide (((ai.getD (Int.toNat d.town) default).lead) <= (ag - ae))) (gd_of hg (I (ag - ae))) (gd_of hg (I ((ai.getD (Int.toNat d.town) default).lead))) rfl)) <| d_q rfl (fun w' H => x_pand (b := ab) (r := decide (((ai.getD (Int.toNat d.town) default).lead) <= (ag - ae))) rfl (fun hb => gd_of (c := ab) (by first | exact hb | (rw [hb]; rfl) | simp_all) (B (decide (((ai.getD (Int.toNat d.town) default).lead) <= (ag - ae))))) rfl) ?_;refine d_q rfl (fun w' H => x_as (v := B (ab && (decide (((ai.getD (Int.toNat d.town) default).lead) <= (ag - ae))))) rfl) ?_;refine d_nil ?_;replace H := H.pk [];refine W.ret ?_
 have aI := M.e_pure hM
 exact ⟨_, resE_tmp rfl, ⟨(ab && (decide (((ai.getD (Int.toNat d.town) default).lead) <= (ag - ae)))), aI, rfl, H⟩⟩

def zaS (aa : List Int) (ab : List Span) (ac : List Int) (ae : List Town) (ag ah : Int) (ai : List Flood) (d : Dem) : (Nat × (List Int)) -> M ((Nat × (List Int)) ⊕ ((List Int) × (List Int))) := fun (s, l) =>
  bif decide ((s : Int) < (aa.length : Int)) then (
  M.bind (zaN aa ab ac ae ag ah ai (s : Int) d) fun r4 =>
  bif r4 then (
  M.grd (decide ((l.length + ([(s : Int)]).length) * 8 <= 140737488355328)) <|
  M.pure (.inl (s + 1, l ++ ([(s : Int)]))))
  else (
  M.pure (.inl (s + 1, l))))
  else (
  M.pure (.inr (l, l)))
def za5 (aa : List Int) (ab : List Span) (ac : List Int) (ae : List Town) (ag ah : Int) (ai : List Flood) (d : Dem) : M ((List Int) × Int) :=
  M.bind (zae aa ab ac ae ag ah ai) fun r2 =>
  bif r2 != 0 then (
  M.pure (([]), r2))
  else (
  M.bind (zcw aa ab ac ae ag ah ai d) fun r3 =>
  bif !r3 then (
  M.pure (([]), 2))
  else (
  M.bind (M.iter (zaS aa ab ac ae ag ah ai d) (0, [])) fun (l2, l3) =>
  M.pure (l3, 0)))
theorem zed {R : List Chunk} {aN : Cells} {ac : Value} {aO : Cells} {ae : Value} {aP : Cells} {ag : Value} {aQ : Cells} {ah : Value} {aR : Cells} {ai : Value} (aj : List Int) (aq : List Span) (au : List Int) (av : List Town) (aa : Int) (ab : Int) (aw : List Flood) (d : Dem) (az : Reads R aN) (ax : Sl aN ac aj) (aA : Reads R aO) (aB : Sl aO ae aq) (aC : Reads R aP) (aD : Sl aP ag au) (aE : Reads R aQ) (aF : Sl aQ ah av) (aG : Reads R aR) (aH : Sl aR ai aw) {r : ((List Int) × Int)} (hM : (za5 aj aq au av aa ab aw d).Ends r) (w : World) (H : St w w [] R) : Ret Tryz.prog 33 #[.agg #[ac, ae, ag, ah, I aa, I ab, ai], .agg #[I d.spring, I d.town]] w fun v w' => ∃ (y0 : List Int) (y1 : Int) (u0 : Value), (y0, y1) = r /\ v = .tuple #[u0, I y1] /\ St w w' [cOwn (α := Int) 3 u0 y0] R := by
 refine ret_of_W Tryz.func33 rfl rfl rfl <| W.seq <| W.region rfl ?_;refine t_bx [ac, ae, ag, ah, I aa, I ab, ai] H rfl ?_;intro aI bc H;refine t_bx [I d.spring, I d.town] H rfl ?_;intro aS bf H;refine zA (.slice none 0 0) rfl <| zA (I 0) rfl <| s_nil <| W.seq <| W.seq <| W.region rfl <| s_val (x_ld (v := .agg #[ac, ae, ag, ah, I aa, I ab, ai]) rfl (ldb_ag (ds := [ac, ae, ag, ah, I aa, I ab, ai]) Ag37 Sz37 (H.bl 1) rfl rfl)) ?_;obtain ⟨bg, aX, hM⟩ := M.e_bind hM;refine s_call cf20 [.agg #[ac, ae, ag, ah, I aa, I ab, ai]] rfl (zb0 aj aq au av aa ab aw (az.app _) ax (aA.app _) aB (aC.app _) aD (aE.app _) aF (aG.app _) aH aX _ (H.gt 2)) ?_
 rintro vq bh ⟨r2, rfl, hvq, ak⟩
 subst vq;(try dsimp only at hM);replace H := H.bk ak;clear ak;refine zA (I r2) rfl <| s_nil <| W.seq <| W.region rfl <| zM (I r2) rfl <| zC r2 0 (r2 != 0) rfl rfl rfl <| s_nil ?_
 refine W.cond (r2 != 0) rfl (fun am => ?_) (fun am => ?_)
 ·replace hM := M.e_t hM am
  replace am := dI am
  refine W.seq <| W.region rfl <| zM (I r2) rfl <| zA (.slice none 0 0) rfl <| zA (I r2) rfl <| s_nil ?_;replace H := H.pk [];refine W.ret ?_
  have ay := M.e_pure hM
  replace H := H.nilOwn (α := Int) 3
  exact ⟨_, resE_tmp2 rfl, ⟨([]), r2, (.slice none 0 0), ay, rfl, H⟩⟩
 replace hM := M.e_f hM am
 replace am := dI am
 refine W.skip <| W.seq <| W.seq <| W.region rfl <| s_val (x_ld (v := .agg #[ac, ae, ag, ah, I aa, I ab, ai]) rfl (ldb_ag (ds := [ac, ae, ag, ah, I aa, I ab, ai]) Ag37 Sz37 (H.bl 1) rfl rfl)) <| s_val (x_ld (v := .agg #[I d.spring, I d.town]) rfl (ldb_ag (ds := [I d.spring, I d.town]) Ag70 Sz70 (H.bl 0) rfl rfl)) ?_;obtain ⟨bi, aY, hM⟩ := M.e_bind hM;refine s_call cf82 [.agg #[ac, ae, ag, ah, I aa, I ab, ai], .agg #[I d.spring, I d.town]] rfl (zd1 aj aq au av aa ab aw d (az.app _) ax (aA.app _) aB (aC.app _) aD (aE.app _) aF (aG.app _) aH aY _ (H.gt 2)) ?_
 rintro vq bj ⟨r3, rfl, hvq, ak⟩
 subst vq;(try dsimp only at hM);replace H := H.bk ak;clear ak;refine s_val (x_not (b := r3) rfl) <| s_nil ?_
 refine W.cond (!r3) rfl (fun aJ => ?_) (fun aJ => ?_)
 ·replace hM := M.e_t hM aJ;refine W.seq <| W.region rfl <| zA (.slice none 0 0) rfl <| zA (I 2) rfl <| s_nil ?_;replace H := H.pk [];refine W.ret ?_
  have ay := M.e_pure hM
  replace H := H.nilOwn (α := Int) 3
  exact ⟨_, resE_tmp2 rfl, ⟨([]), 2, (.slice none 0 0), ay, rfl, H⟩⟩
 replace hM := M.e_f hM aJ;refine W.skip <| W.seq <| W.region rfl <| zA (.slice none 0 0) rfl <| s_nil <| W.seq <| W.seq <| W.region rfl <| zA (I 0) rfl <| s_nil ?_;refine W.block ?_
 replace H := H.nilOwn (α := Int) 3
 obtain ⟨aZ, aK, a6⟩ := M.e_bind hM
 obtain ⟨bm, aK⟩ := M.e_iter aK
 refine W.loop (fun m σ W => ∃ (s : Nat) (l : List Int) (al : Value) (ρ : Env), σ = upds ρ [(2, Pq aI), (3, Pq aS), (7, al), (8, I (s : Int))] /\ M.iterN (zaS aj aq au av aa ab aw d) m (s, l) = some aZ /\ St w W [cOwn (α := Int) 3 al l, cBlk aS [I d.spring, I d.town] 70, cBlk aI [ac, ae, ag, ah, I aa, I ab, ai] 37] R) ?_ ?_
 ·exact ⟨_, 0, [], (.slice none 0 0), _, upds_of _ _ ⟨rfl, rfl, rfl, rfl, trivial⟩, aK, H⟩
 rintro bn σ bo ⟨s, l, al, ρ, rfl, aT, H⟩
 obtain ⟨aU, aV, bp, hM, aL⟩ := M.e_iterN aT
 simp only [zaS] at hM
 clear aT;refine W.seq <| W.seq <| W.region rfl <| zM (I (s : Int)) rfl <| s_val (x_fa (v := Pq aI) rfl (fa_blk (o := 0) Fd37_0 Sz22)) <| s_val (x_ld (v := ac) rfl (ldb_sc Sc22 (H.bl 2) rfl)) ?_
 have bq := (ax).len_le
 refine s_val (x_lenS T22.und rfl ax) <| zC (s : Int) (aj.length : Int) (decide ((s : Int) < (aj.length : Int))) rfl rfl rfl <| s_nil ?_
 refine W.cond (decide ((s : Int) < (aj.length : Int))) rfl (fun ao => ?_) (fun ao => ?_)
 ·replace hM := M.e_t hM ao
  replace ao := dI ao
  refine W.skip <| W.seq <| W.block <| W.seq <| W.region rfl <| s_val (x_ld (v := .agg #[ac, ae, ag, ah, I aa, I ab, ai]) rfl (ldb_ag (ds := [ac, ae, ag, ah, I aa, I ab, ai]) Ag37 Sz37 (H.bl 2) rfl rfl)) <| zM (I (s : Int)) rfl <| s_val (x_ld (v := .agg #[I d.spring, I d.town]) rfl (ldb_ag (ds := [I d.spring, I d.town]) Ag70 Sz70 (H.bl 1) rfl rfl)) ?_;obtain ⟨br, a7, hM⟩ := M.e_bind hM;refine s_call cf83 [.agg #[ac, ae, ag, ah, I aa, I ab, ai], I (s : Int), .agg #[I d.spring, I d.town]] rfl (zcB aj aq au av aa ab aw (s : Int) d (az.app _) ax (aA.app _) aB (aC.app _) aD (aE.app _) aF (aG.app _) aH a7 _ (H.gt 3)) ?_
  rintro vq bt ⟨r4, rfl, hvq, ak⟩
  subst vq;(try dsimp only at hM);replace H := H.bk ak;clear ak;refine s_nil ?_
  refine W.cond r4 rfl (fun aM => ?_) (fun aM => ?_)
  ·replace hM := M.e_t hM aM;refine W.region rfl <| zM al rfl <| zM (I (s : Int)) rfl ?_;refine t_bs (α := Int) T22 [I (s : Int)] [(s : Int)] H rfl (.cons rfl (Flat.rep_enc _ (s : Int)) <| .nil) rfl rfl rfl ?_;intro a8 bu H;obtain ⟨bv, hM⟩ := M.e_gd hM;refine t_app (α := Int) (k := 1) (l := l) (l2 := [(s : Int)]) (l' := l ++ ([(s : Int)])) (vy := a8) T22 rfl H rfl rfl rfl (H.os 0) (H.ol 0) (rfl) (by first | omega | (simp only [List.length_nil] at *; omega)) ?_;intro aW bw H;replace H := H.nf;refine zA aW rfl <| s_nil <| W.region rfl <| zM (I (s : Int)) rfl <| zR (s : Int) 1 ((s : Int) + 1) rfl rfl rfl (by omega) <| zA (I ((s : Int) + 1)) rfl <| s_nil ?_
   exact ⟨aU, aV, s + 1, l ++ ([(s : Int)]), aW, _, upds_of _ _ ⟨rfl, rfl, rfl, rfl, trivial⟩, M.e_inl hM aL, (H.pk [1, 2, 3])⟩
  replace hM := M.e_f hM aM;refine W.skip <| W.region rfl <| zM (I (s : Int)) rfl <| zR (s : Int) 1 ((s : Int) + 1) rfl rfl rfl (by omega) <| zA (I ((s : Int) + 1)) rfl <| s_nil ?_
  exact ⟨aU, aV, s + 1, l, al, _, upds_of _ _ ⟨rfl, rfl, rfl, rfl, trivial⟩, M.e_inl hM aL, H⟩
 replace hM := M.e_f hM ao
 replace ao := dI ao
 refine W.exit ?_
 have ba := M.e_inr hM aL
 subst ba;replace hM := a6;(try dsimp only at hM);replace H := H.pk [0];refine W.seq <| W.region rfl <| zM al rfl <| zA al rfl <| zA (I 0) rfl <| s_nil ?_;refine W.ret ?_
 have ay := M.e_pure hM
 exact ⟨_, resE_tmp2 rfl, ⟨l, 0, al, ay, rfl, H⟩⟩

def zcM (s : Int) (k0 : List Bool) : M Bool :=
  M.grd (decide ((0 : Int) <= s) && decide (s < (12 : Int))) <|
  M.pure (k0.getD (Int.toNat s) false)
theorem zet {R : List Chunk} {aa : Nat} (s : Int) (k0 : List Bool) (ab : k0.length = 12) (ac : Has R (cBlk aa (encB k0) 96)) {r : Bool} (hM : (zcM s k0).Ends r) (w : World) (H : St w w [] R) : Ret Tryz.prog 87 #[I s, Pq aa] w fun v w' => ∃ (y0 : Bool), y0 = r /\ v = B y0 /\ St w w' [] R := by
 refine ret_of_W Tryz.func87 rfl rfl rfl <| W.seq <| W.region rfl <| zA (B false) rfl <| s_nil <| W.seq <| W.region rfl <| zM (I s) rfl ?_;obtain ⟨ag, hM⟩ := M.e_gd hM;refine s_val (x_ix (v := .pointer (some ⟨aa, 0 + Int.toNat s, none⟩)) rfl rfl (run_indexArr Tryz.underlying96 Sz4 (by omega) (by omega))) <| s_val (x_ld (v := B (k0.getD (Int.toNat s) false)) rfl (ldArr Sc4 (ac.blk H) (by omega) (by have ah := ab; omega))) <| zA (B (k0.getD (Int.toNat s) false)) rfl <| s_nil ?_;refine W.ret ?_
 have ae := M.e_pure hM
 exact ⟨_, resE_tmp rfl, ⟨(k0.getD (Int.toNat s) false), ae, rfl, H⟩⟩

def zcz (d : Dem) (aa : List Int) (ab : List Span) (ac : List Int) (ae : List Town) (ag ah : Int) (ai : List Flood) (k1 : List Bool) : M Bool :=
  M.bind (zaa aa ab ac ae ag ah ai d) fun r2 =>
  M.bind (zau r2 (fun aj => zcM aj k1)) fun r3 =>
  M.pure r3
theorem zdE {R : List Chunk} {aq : Nat} {al : Nat} {au : Cells} {av : Value} {aw : Cells} {ax : Value} {ay : Cells} {az : Value} {aA : Cells} {aB : Value} {aC : Cells} {aD : Value} {am : Nat} {B_b_k027 : Base} {aa : Nat} (d : Dem) (ab : List Int) (ac : List Span) (ae : List Int) (ag : List Town) (ah : Int) (ai : Int) (aj : List Flood) (k1 : List Bool) (aF : Reads R au) (aG : Sl au av ab) (aH : Reads R aw) (aI : Sl aw ax ac) (aJ : Reads R ay) (aK : Sl ay az ae) (aL : Reads R aA) (aM : Sl aA aB ag) (aN : Reads R aC) (aO : Sl aC aD aj) (aP : Has R (cBlk al [av, ax, az, aB, I ah, I ai, aD, .map (some am)] 111)) (aQ : Has R (cBlk aq [Pq al] 94)) (aR : k1.length = 12) (aS : Has R (cBlk aa (encB k1) 96)) {r : Bool} (hM : (zcz d ab ac ae ag ah ai aj k1).Ends r) (w : World) (H : St w w [cMem encDm am B_b_k027 (zaa ab ac ae ag ah ai aj)] R) : Ret Tryz.prog 85 #[.agg #[I d.spring, I d.town], Pq aq, Pq aa] w fun v w' => ∃ (y0 : Bool) (aT : Base), y0 = r /\ v = B y0 /\ St w w' [cMem encDm am aT (zaa ab ac ae ag ah ai aj)] R := by
 refine ret_of_W Tryz.func85 rfl rfl rfl <| W.seq <| W.region rfl ?_;refine t_bx [I d.spring, I d.town] H rfl ?_;intro bh bi H;refine zA (B false) rfl <| s_nil <| W.seq <| W.region rfl <| s_val (x_ld (v := Pq al) rfl (ldb_sc Sc94 (aQ.blk H) rfl)) <| s_val (x_ld (v := .agg #[I d.spring, I d.town]) rfl (ldb_ag (ds := [I d.spring, I d.town]) Ag61 Sz61 (H.bl 0) rfl rfl)) ?_;obtain ⟨bj, aU, hM⟩ := M.e_bind hM;refine s_call cf81 [Pq al, .agg #[I d.spring, I d.town]] rfl (zbH ab ac ae ag ah ai aj d (aF.app _) aG (aH.app _) aI (aJ.app _) aK (aL.app _) aM (aN.app _) aO (aP.app _) aU _ ((H.pk [1, 0]).gt 1)) ?_
 rintro vq bm ⟨r2, aV, aW, rfl, hvq, ak, aX⟩
 subst vq;(try dsimp only at hM)
 replace H := H.pk [1, 0] |>.bk ak
 clear ak;refine s_val (x_mf (fs := []) (cs := [Pq aa]) rfl rfl) ?_;obtain ⟨bn, aY, hM⟩ := M.e_bind hM;refine s_call cf86 [aV, .func (.func 87) #[] #[Pq aa]] rfl (zc8 r2 (fun ao => zcM ao k1) (Reads.of (k := 0) rfl memLe) aX ⟨87, [Pq aa], rfl, cf87, fun aE bo bp aZ ao bq a6 br a7 a8 => by obtain rfl := Arg.int a7; exact (zet ao k1 aR (Has.app (aS.app _) _) a8 aE (St.refl a6)).mono fun aZ aE ⟨bt, ba, bc, bf⟩ => by subst ba; exact ⟨bc, bf⟩⟩ aY _ (H.gt 2)) ?_
 rintro vq bu ⟨r3, rfl, hvq, ak⟩
 subst vq;(try dsimp only at hM);replace H := H.bk ak;clear ak;refine zA (B r3) rfl <| s_nil ?_;refine W.ret ?_
 have bg := M.e_pure hM
 exact ⟨_, resE_tmp rfl, ⟨r3, aW, bg, rfl, (H.pk [0])⟩⟩

def zcl (s : List Dem) (aa : List Int) (ab : List Span) (ac : List Int) (ae : List Town) (ag ah : Int) (ai : List Flood) (aj : List Bool) : Nat -> M (Nat ⊕ (Int ⊕ Unit)) := fun s2 =>
  bif decide ((s2 : Int) < (s.length : Int)) then (
  M.grd (decide ((s2 : Int) < (s.length : Int))) <|
  M.bind (zcz (s.getD s2 default) aa ab ac ae ag ah ai aj) fun r2 =>
  bif r2 then (
  M.pure (.inr (.inl (s2 : Int))))
  else (
  M.pure (.inl (s2 + 1))))
  else (
  M.pure (.inr (.inr ())))
def zdu (s : List Dem) (aa : List Int) (ab : List Span) (ac : List Int) (ae : List Town) (ag ah : Int) (ai : List Flood) (aj : List Bool) : M Int :=
  M.bind (M.iter (zcl s aa ab ac ae ag ah ai aj) 0) fun x_ => match x_ with
  | (.inl s3) => (
  M.pure s3)
  | (.inr (_ : Unit)) => (
  M.pure (-1))
theorem zd5 {R : List Chunk} {az : Cells} {ak : Value} {am : Nat} {aA : Nat} {aB : Cells} {aC : Value} {aD : Cells} {aE : Value} {aF : Cells} {aG : Value} {aH : Cells} {aI : Value} {aJ : Cells} {aK : Value} {ao : Nat} {B_b_f2027 : Base} {aq : Nat} (s : List Dem) (aa : List Int) (ab : List Span) (ac : List Int) (ae : List Town) (ag : Int) (ah : Int) (ai : List Flood) (al : List Bool) (aP : Reads R az) (au : Sl az ak s) (aQ : Reads R aB) (aR : Sl aB aC aa) (aS : Reads R aD) (aT : Sl aD aE ab) (aU : Reads R aF) (aV : Sl aF aG ac) (aW : Reads R aH) (aX : Sl aH aI ae) (aY : Reads R aJ) (aZ : Sl aJ aK ai) (a6 : Has R (cBlk aA [aC, aE, aG, aI, I ag, I ah, aK, .map (some ao)] 111)) (a7 : Has R (cBlk am [Pq aA] 94)) (a8 : al.length = 12) (ba : Has R (cBlk aq (encB al) 96)) {r : Int} (hM : (zdu s aa ab ac ae ag ah ai al).Ends r) (w : World) (H : St w w [cMem encDm ao B_b_f2027 (zaa aa ab ac ae ag ah ai)] R) : Ret Tryz.prog 99 #[ak, .func (.func 85) #[] #[Pq am, Pq aq]] w fun v w' => ∃ (y0 : Int) (bc : Base), y0 = r /\ v = I y0 /\ St w w' [cMem encDm ao bc (zaa aa ab ac ae ag ah ai)] R := by
 refine ret_of_W Tryz.func99 rfl rfl rfl <| W.seq <| W.region rfl <| zA (I 0) rfl <| s_nil <| W.seq <| W.seq <| W.region rfl <| zM ak rfl ?_
 have bn := (au).len_le
 refine s_val (x_lenS T62.und rfl au) <| zM (I 0) rfl <| s_nil <| W.block ?_;obtain ⟨bf, av, aL⟩ := M.e_bind hM
 obtain ⟨bo, av⟩ := M.e_iter av
 refine W.loop (fun m σ W => ∃ (s2 : Nat) (B_mem : Base) (ρ : Env), σ = upds ρ [(0, ak), (1, .func (.func 85) #[] #[Pq am, Pq aq]), (7, I (s.length : Int)), (8, I (s2 : Int))] /\ M.iterN (zcl s aa ab ac ae ag ah ai al) m s2 = some bf /\ St w W [cMem encDm ao B_mem (zaa aa ab ac ae ag ah ai)] R) ?_ ?_
 ·exact ⟨_, 0, B_b_f2027, _, upds_of _ _ ⟨rfl, rfl, rfl, rfl, trivial⟩, av, H⟩
 rintro bp σ bq ⟨s2, B_mem, ρ, rfl, aM, H⟩
 obtain ⟨bg, bh, br, hM, aw⟩ := M.e_iterN aM
 simp only [zcl] at hM
 clear aM;refine W.seq <| W.region rfl <| zC (s2 : Int) (s.length : Int) (decide ((s2 : Int) < (s.length : Int))) rfl rfl rfl <| s_nil <| W.seq ?_
 refine W.cond (decide ((s2 : Int) < (s.length : Int))) rfl (fun aj => ?_) (fun aj => ?_)
 ·replace hM := M.e_t hM aj
  replace aj := dI aj
  refine W.skip <| W.seq <| W.block <| W.seq <| W.region rfl <| zM (I (s2 : Int)) rfl <| zA (I (s2 : Int)) rfl <| s_nil <| W.seq <| W.region rfl ?_;refine zM (.func (.func 85) #[] #[Pq am, Pq aq]) rfl <| zM ak rfl <| zM (I (s2 : Int)) rfl ?_;obtain ⟨bt, hM⟩ := M.e_gd hM;refine s_val (x_ix (v := vat ak 2 (Int.toNat (s2 : Int))) rfl rfl (Sl.ix (α := Dem) T62.und T62.size au (by omega) (by omega))) <| s_val (x_ld (v := .agg #[I ((s.getD s2 default).spring), I ((s.getD s2 default).town)]) rfl (ld_ag Ag61 Sz61 (At.mono (Dem_atA au (i := (s2 : Int)) (by omega) (by omega)) (aP.at H)))) ?_;obtain ⟨bu, bi, hM⟩ := M.e_bind hM;refine s_callv (f := 85) rfl cf85 [.agg #[I ((s.getD s2 default).spring), I ((s.getD s2 default).town)]] rfl (zdE (s.getD s2 default) aa ab ac ae ag ah ai al (aQ.app _) aR (aS.app _) aT (aU.app _) aV (aW.app _) aX (aY.app _) aZ (a6.app _) (a7.app _) a8 (ba.app _) bi _ (H.gt 0)) ?_
  rintro vq bv ⟨r2, aN, rfl, hvq, aO⟩
  subst vq;(try dsimp only at hM);replace H := H.bk aO;clear aO;refine s_nil ?_
  refine W.cond r2 rfl (fun ax => ?_) (fun ax => ?_)
  ·replace hM := M.e_t hM ax;refine W.seq <| W.region rfl <| zM (I (s2 : Int)) rfl <| zA (I (s2 : Int)) rfl <| s_nil ?_;refine W.ret ?_
   have bj := M.e_inr hM aw
   subst bj;replace hM := aL;(try dsimp only at hM)
   have ay := M.e_pure hM
   exact ⟨_, resE_tmp rfl, ⟨(s2 : Int), aN, ay, rfl, H⟩⟩
  replace hM := M.e_f hM ax;refine W.skip <| W.region rfl <| zR (s2 : Int) 1 ((s2 : Int) + 1) rfl rfl rfl (by omega) <| zM (I ((s2 : Int) + 1)) rfl <| s_nil ?_
  exact ⟨bg, bh, s2 + 1, aN, _, upds_of _ _ ⟨rfl, rfl, rfl, rfl, trivial⟩, M.e_inl hM aw, H⟩
 replace hM := M.e_f hM aj
 replace aj := dI aj
 refine W.exit ?_
 have bm := M.e_inr hM aw
 subst bm;replace hM := aL;(try dsimp only at hM);refine W.seq <| W.region rfl <| zA (I (-1)) rfl <| s_nil ?_;refine W.ret ?_
 have ay := M.e_pure hM
 exact ⟨_, resE_tmp rfl, ⟨(-1), B_mem, ay, rfl, H⟩⟩

def zcg (aa : List Int) (ab : List Span) (ac : List Int) (ae : List Town) (ag ah : Int) (ai : List Flood) (aj : List Bool) : ((List Dem) × Int × Int) -> M (((List Dem) × Int × Int) ⊕ ((List Dem) × Int × (List Dem))) := fun (l, i, j) =>
  bif decide (j < (l.length : Int)) then (
  M.grd (decide ((0 : Int) <= j) && decide (j < (l.length : Int))) <|
  M.bind (zcz (l.getD (Int.toNat j) default) aa ab ac ae ag ah ai aj) fun r3 =>
  bif !r3 then (
  M.grd (decide ((0 : Int) <= i) && decide (i < (l.length : Int))) <|
  M.pure (.inl (l.set (Int.toNat i) (l.getD (Int.toNat j) default), i + 1, j + 1)))
  else (
  M.pure (.inl (l, i, j + 1))))
  else (
  M.pure (.inr (l, i, l)))
def zcO (s : List Dem) (aa : List Int) (ab : List Span) (ac : List Int) (ae : List Town) (ag ah : Int) (ai : List Flood) (aj : List Bool) : M (List Dem) :=
  M.bind (zdu s aa ab ac ae ag ah ai aj) fun r2 =>
  bif r2 == (-1) then (
  M.pure s)
  else (
  M.grd (decide ((-9223372036854775808 : Int) <= (r2 + 1)) && decide ((r2 + 1) <= (9223372036854775807 : Int))) <|
  M.bind (M.iter (zcg aa ab ac ae ag ah ai aj) (s, r2, r2 + 1)) fun (l2, i2, l3) =>
  M.grd (decide ((0 : Int) <= i2) && decide (i2 <= (l3.length : Int))) <|
  M.pure (l3.take (Int.toNat i2)))
theorem zeP {R : List Chunk} {ab : Value} {ao : Nat} {aD : Nat} {aE : Cells} {aF : Value} {aG : Cells} {aH : Value} {aI : Cells} {aJ : Value} {aK : Cells} {aL : Value} {aM : Cells} {aN : Value} {aw : Nat} {B_b_del2027 : Base} {aq : Nat} (s : List Dem) (ac : List Int) (ae : List Span) (ag : List Int) (ah : List Town) (ai : Int) (aj : Int) (ak : List Flood) (au : List Bool) (aO : Reads R aE) (aP : Sl aE aF ac) (aQ : Reads R aG) (aR : Sl aG aH ae) (aS : Reads R aI) (aT : Sl aI aJ ag) (aU : Reads R aK) (aV : Sl aK aL ah) (aW : Reads R aM) (aX : Sl aM aN ak) (aY : Has R (cBlk aD [aF, aH, aJ, aL, I ai, I aj, aN, .map (some aw)] 111)) (aZ : Has R (cBlk ao [Pq aD] 94)) (a6 : au.length = 12) (a7 : Has R (cBlk aq (encB au) 96)) {r : (List Dem)} (hM : (zcO s ac ae ag ah ai aj ak au).Ends r) (w : World) (H : St w w [cOwn (α := Dem) 61 ab s, cMem encDm aw B_b_del2027 (zaa ac ae ag ah ai aj ak)] R) : Ret Tryz.prog 84 #[ab, .func (.func 85) #[] #[Pq ao, Pq aq]] w fun v w' => ∃ (y0 : List Dem) (u0 : Value) (bm : Base), y0 = r /\ v = u0 /\ St w w' [cOwn (α := Dem) 61 u0 y0, cMem encDm aw bm (zaa ac ae ag ah ai aj ak)] R := by
 refine ret_of_W Tryz.func84 rfl rfl rfl <| W.seq <| W.region rfl <| zA (.slice none 0 0) rfl <| s_nil <| W.seq <| W.region rfl <| zM ab rfl <| zM (.func (.func 85) #[] #[Pq ao, Pq aq]) rfl ?_;obtain ⟨bu, bn, hM⟩ := M.e_bind hM;refine s_call cf99 [ab, .func (.func 85) #[] #[Pq ao, Pq aq]] rfl (zd5 s ac ae ag ah ai aj ak au (rdo 0) (H.os 0) (aO.app _) aP (aQ.app _) aR (aS.app _) aT (aU.app _) aV (aW.app _) aX (aY.app _) (aZ.app _) a6 (a7.app _) bn _ ((H.pk [1, 0]).gt 1)) ?_
 rintro vq bv ⟨r2, a8, rfl, hvq, av⟩
 subst vq;(try dsimp only at hM)
 replace H := H.pk [1, 0] |>.bk av
 clear av;refine zA (I r2) rfl <| s_nil <| W.seq <| W.seq <| W.region rfl <| zM (I r2) rfl <| zC r2 (-1) (r2 == (-1)) rfl rfl rfl <| s_nil ?_
 refine W.cond (r2 == (-1)) rfl (fun al => ?_) (fun al => ?_)
 ·replace hM := M.e_t hM al
  replace al := dI al
  refine W.seq <| W.region rfl <| zM ab rfl <| zA ab rfl <| s_nil ?_;refine W.ret ?_
  have ax := M.e_pure hM
  exact ⟨_, resE_tmp rfl, ⟨s, ab, a8, ax, rfl, (H.pk [1, 0])⟩⟩
 replace hM := M.e_f hM al
 replace al := dI al
 refine W.skip <| W.seq <| W.seq <| W.region rfl <| zM (I r2) rfl ?_;obtain ⟨bw, hM⟩ := M.e_gd hM;refine zR r2 1 (r2 + 1) rfl rfl rfl (by omega) <| zA (I (r2 + 1)) rfl <| s_nil <| W.block ?_;obtain ⟨bo, ay, bp⟩ := M.e_bind hM
 obtain ⟨bx, ay⟩ := M.e_iter ay
 refine W.loop (fun m σ W => ∃ (l : List Dem) (i : Int) (j : Int) (aa : Value) (B_mem : Base) (ρ : Env), σ = upds ρ [(0, aa), (1, .func (.func 85) #[] #[Pq ao, Pq aq]), (5, I i), (6, I j)] /\ M.iterN (zcg ac ae ag ah ai aj ak au) m (l, i, j) = some bo /\ St w W [cMem encDm aw B_mem (zaa ac ae ag ah ai aj ak), cOwn (α := Dem) 61 aa l] R) ?_ ?_
 ·exact ⟨_, s, r2, r2 + 1, ab, a8, _, upds_of _ _ ⟨rfl, rfl, rfl, rfl, trivial⟩, ay, H⟩
 rintro bz σ bA ⟨l, i, j, aa, B_mem, ρ, rfl, ba, H⟩
 obtain ⟨bc, bf, bB, hM, az⟩ := M.e_iterN ba
 simp only [zcg] at hM
 clear ba;refine W.seq <| W.seq <| W.region rfl <| zM (I j) rfl <| zM aa rfl ?_
 have bC := ((H.os 1)).len_le
 refine s_val (x_lenS T62.und rfl (H.os 1)) <| zC j (l.length : Int) (decide (j < (l.length : Int))) rfl rfl rfl <| s_nil ?_
 refine W.cond (decide (j < (l.length : Int))) rfl (fun am => ?_) (fun am => ?_)
 ·replace hM := M.e_t hM am
  replace am := dI am
  refine W.skip <| W.seq <| W.block <| W.seq <| W.region rfl <| zM aa rfl <| zM (I j) rfl ?_;obtain ⟨bD, hM⟩ := M.e_gd hM;refine s_val (x_ix (v := vat aa 2 (Int.toNat j)) rfl rfl (Sl.ix (α := Dem) T62.und T62.size (H.os 1) (by omega) (by omega))) <| s_val (x_ld (v := .agg #[I ((l.getD (Int.toNat j) default).spring), I ((l.getD (Int.toNat j) default).town)]) rfl (ld_ag Ag61 Sz61 (At.mono (Dem_atA (H.os 1) (i := j) (by omega) (by omega)) (H.ol 1)))) ?_;refine t_alloc (cs := [I 0, I 0]) H Al61 rfl ?_;intro bE bF H;refine t_sw 0 0 [I ((l.getD (Int.toNat j) default).spring), I ((l.getD (Int.toNat j) default).town)] (.agg #[I ((l.getD (Int.toNat j) default).spring), I ((l.getD (Int.toNat j) default).town)]) H rfl rfl Sz61 rfl rfl rfl rfl ?_;intro bG H;refine s_nil <| W.seq <| W.region rfl <| zM (.func (.func 85) #[] #[Pq ao, Pq aq]) rfl <| s_val (x_ld (v := .agg #[I ((l.getD (Int.toNat j) default).spring), I ((l.getD (Int.toNat j) default).town)]) rfl (ldb_ag (ds := [I ((l.getD (Int.toNat j) default).spring), I ((l.getD (Int.toNat j) default).town)]) Ag61 Sz61 (H.bl 0) rfl rfl)) ?_;obtain ⟨bH, bq, hM⟩ := M.e_bind hM;refine s_callv (f := 85) rfl cf85 [.agg #[I ((l.getD (Int.toNat j) default).spring), I ((l.getD (Int.toNat j) default).town)]] rfl (zdE (l.getD (Int.toNat j) default) ac ae ag ah ai aj ak au (aO.app _) aP (aQ.app _) aR (aS.app _) aT (aU.app _) aV (aW.app _) aX (aY.app _) (aZ.app _) a6 (a7.app _) bq _ ((H.pk [1, 0, 2]).gt 2)) ?_
  rintro vq bI ⟨r3, bg, rfl, hvq, av⟩
  subst vq;(try dsimp only at hM)
  replace H := H.pk [1, 0, 2] |>.bk av
  clear av;refine s_val (x_not (b := r3) rfl) <| s_nil ?_
  refine W.cond (!r3) rfl (fun aA => ?_) (fun aA => ?_)
  ·replace hM := M.e_t hM aA;refine W.seq <| W.region rfl <| zM aa rfl <| zM (I i) rfl <| s_val (x_ld (v := .agg #[I ((l.getD (Int.toNat j) default).spring), I ((l.getD (Int.toNat j) default).town)]) rfl (ldb_ag (ds := [I ((l.getD (Int.toNat j) default).spring), I ((l.getD (Int.toNat j) default).town)]) Ag61 Sz61 (H.bl 1) rfl rfl)) ?_;obtain ⟨bJ, hM⟩ := M.e_gd hM;refine s_val (x_ix (v := vat aa 2 (Int.toNat i)) rfl rfl (Sl.ix (α := Dem) T62.und T62.size (H.os 2) (by omega) (by omega))) ?_;refine t_ow 2 i (l.getD (Int.toNat j) default) H Sz61 (by omega) (by omega) rfl rfl rfl ?_;intro bK H;refine s_nil <| W.region rfl <| zM (I i) rfl <| zR i 1 (i + 1) rfl rfl rfl (by omega) <| zA (I (i + 1)) rfl <| s_nil <| W.region rfl <| zM (I j) rfl <| zR j 1 (j + 1) rfl rfl rfl (by omega) <| zA (I (j + 1)) rfl ?_;refine s_nil ?_
   exact ⟨bc, bf, l.set (Int.toNat i) (l.getD (Int.toNat j) default), i + 1, j + 1, aa, bg, _, upds_of _ _ ⟨rfl, rfl, rfl, rfl, trivial⟩, M.e_inl hM az, (H.pk [0, 2])⟩
  replace hM := M.e_f hM aA;refine W.skip <| W.region rfl <| zM (I j) rfl <| zR j 1 (j + 1) rfl rfl rfl (by omega) <| zA (I (j + 1)) rfl <| s_nil ?_
  exact ⟨bc, bf, l, i, j + 1, aa, bg, _, upds_of _ _ ⟨rfl, rfl, rfl, rfl, trivial⟩, M.e_inl hM az, (H.pk [0, 2])⟩
 replace hM := M.e_f hM am
 replace am := dI am
 refine W.exit ?_
 have br := M.e_inr hM az
 subst br;replace hM := bp;(try dsimp only at hM);refine W.seq <| W.region rfl <| zM aa rfl <| zM (I i) rfl ?_;obtain ⟨bL, hM⟩ := M.e_gd hM
 obtain ⟨bh, bi, bj⟩ := sl_lo T62.und T62.size (H.os 1) (i := i) (by omega) (by omega)
 replace bj : Sl _ bh (l.drop (Int.toNat i)) := bj
 refine s_val (x_sl (v := aa) (u := bh) (lo' := some (I i)) (hi' := none) (mx' := none) rfl rfl rfl rfl (bi _)) ?_;refine t_clrT (k := 1) (i := i) T62 (by intro u_ aB; first | exact List.all_eq_true.1 (show List.all _ (fun x => x.oneCell') = true from rfl) u_ aB | (simp at aB; rcases aB with rfl | rfl <;> rfl)) H rfl (by omega) (by omega) bi rfl ?_;intro aC bM bt bN bO H;replace H := H.nf;refine s_nil <| W.seq <| W.region rfl <| zM aa rfl <| zM (I i) rfl <| s_val (x_sl (v := aa) (u := aC) (lo' := none) (hi' := some (I i)) (mx' := none) rfl rfl rfl rfl (bt _)) <| zA aC rfl <| s_nil ?_;refine W.ret ?_
 have ax := M.e_pure hM
 exact ⟨_, resE_tmp rfl, ⟨(l.take (Int.toNat i)), aC, B_mem, ax, rfl, (H.pk [1, 0])⟩⟩

def zaF (aa : List Int) (ab : List Span) (ac : List Int) (ae : List Town) (aj ak : Int) (ag : List Flood) (watches : List Int) : M ((List Dem) × Int) :=
  M.bind (zaH aa ab ac ae aj ak ag watches) fun x_ => match x_ with
  | (.inl (r1, r2)) => (
  bif r2 != 0 then (
  M.pure (([]), r2))
  else (
  M.fail))
  | (.inr (ah, ai, al, am)) => (
  bif am != 0 then (
  M.fail)
  else (
  M.bind (zao aa ab ac ae ah ai ag) fun r3 =>
  M.bind (zcO r3 aa ab ac ae ah ai ag al) fun l_s =>
  M.pure (l_s, 0)))
theorem zeu {R : List Chunk} {aQ : Cells} {ae : Value} {aR : Cells} {ag : Value} {aS : Cells} {ah : Value} {aT : Cells} {ai : Value} {aU : Cells} {aj : Value} {aV : Cells} {aB : Value} (aq : List Int) (au : List Span) (av : List Int) (aw : List Town) (ak : Int) (al : Int) (ax : List Flood) (watches : List Int) (aE : Reads R aQ) (aF : Sl aQ ae aq) (aG : Reads R aR) (aH : Sl aR ag au) (aI : Reads R aS) (aJ : Sl aS ah av) (aK : Reads R aT) (aL : Sl aT ai aw) (aM : Reads R aU) (aN : Sl aU aj ax) (a6 : Reads R aV) (a7 : Sl aV aB watches) {r : ((List Dem) × Int)} (hM : (zaF aq au av aw ak al ax watches).Ends r) (w : World) (H : St w w [] R) : Ret Tryz.prog 34 #[.agg #[ae, ag, ah, ai, I ak, I al, aj], aB] w fun v w' => ∃ (y0 : List Dem) (y1 : Int) (u0 : Value), (y0, y1) = r /\ v = .tuple #[u0, I y1] /\ St w w' [cOwn (α := Dem) 61 u0 y0] R := by
 refine ret_of_W Tryz.func34 rfl rfl rfl <| W.seq <| W.region rfl ?_;refine t_bx [ae, ag, ah, ai, I ak, I al, aj] H rfl ?_;intro aW bm H;refine zA (.slice none 0 0) rfl <| zA (I 0) rfl <| s_nil <| W.seq <| W.region rfl <| s_val (x_ld (v := .agg #[ae, ag, ah, ai, I ak, I al, aj]) rfl (ldb_ag (ds := [ae, ag, ah, ai, I ak, I al, aj]) Ag29 Sz29 (H.bl 0) rfl rfl)) <| zM aB rfl ?_;obtain ⟨bn, a8, hM⟩ := M.e_bind hM;refine s_call cf46 [.agg #[ae, ag, ah, ai, I ak, I al, aj], aB] rfl (zdd aq au av aw ak al ax watches (aE.app _) aF (aG.app _) aH (aI.app _) aJ (aK.app _) aL (aM.app _) aN (a6.app _) a7 a8 _ (H.gt 1)) ?_
 rintro vq bo (⟨r1, r2, ba, hvq, aa, bc⟩ | ⟨aC, aD, am, ac, ab, aX, bf, bg, hvq, aa, aY⟩)
 ·subst ba;subst vq;(try dsimp only at hM);replace H := H.bk aa;clear aa;refine zM (.tuple #[.pointer none, .agg (encB r1).toArray, I r2]) rfl <| zX [.pointer none, .agg (encB r1).toArray, I r2] (.pointer none) rfl rfl <| zX [.pointer none, .agg (encB r1).toArray, I r2] (.agg (encB r1).toArray) rfl rfl <| zX [.pointer none, .agg (encB r1).toArray, I r2] (I r2) rfl rfl ?_;refine t_alloc (cs := [.pointer none]) H Al94 rfl ?_;intro ay bp H;refine t_alloc (cs := encB (List.replicate 12 false)) H Al96 rfl ?_;intro ao bq H
  have aO : (List.replicate 12 false).length = 12 := by simp
  refine t_sw 1 0 [.pointer none] (.pointer none) H rfl rfl Sz94 rfl rfl rfl rfl ?_;intro br H;refine t_stArrA (k := 0) (b := ao) (l := List.replicate 12 false) (l' := r1) (L' := [cBlk ao (encB r1) 96, cBlk ay [.pointer none] 94, cBlk aW [ae, ag, ah, ai, I ak, I al, aj] 29]) H rfl rfl rfl Sz96 aO bc rfl ?_;intro bt H;refine zA (I r2) rfl <| s_nil <| W.seq <| W.seq <| W.region rfl <| zM (I r2) rfl <| zC r2 0 (r2 != 0) rfl rfl rfl <| s_nil ?_
  refine W.cond (r2 != 0) rfl (fun az => ?_) (fun az => ?_)
  ·replace hM := M.e_t hM az
   replace az := dI az
   refine W.seq <| W.region rfl <| zM (I r2) rfl <| zA (.slice none 0 0) rfl <| zA (I r2) rfl <| s_nil ?_;replace H := H.pk [];refine W.ret ?_
   have aP := M.e_pure hM
   replace H := H.nilOwn (α := Dem) 61
   exact ⟨_, resE_tmp2 rfl, ⟨([]), r2, (.slice none 0 0), aP, rfl, H⟩⟩
  replace hM := M.e_f hM az
  exact (M.e_fail hM).elim
 subst bg;subst vq;(try dsimp only at hM);replace H := H.bk aa;clear aa;refine zM (.tuple #[Pq ab, .agg (encB am).toArray, I ac]) rfl <| zX [Pq ab, .agg (encB am).toArray, I ac] (Pq ab) rfl rfl <| zX [Pq ab, .agg (encB am).toArray, I ac] (.agg (encB am).toArray) rfl rfl <| zX [Pq ab, .agg (encB am).toArray, I ac] (I ac) rfl rfl ?_;refine t_alloc (cs := [.pointer none]) H Al94 rfl ?_;intro ay bu H;refine t_alloc (cs := encB (List.replicate 12 false)) H Al96 rfl ?_;intro ao bv H
 have aO : (List.replicate 12 false).length = 12 := by simp
 refine t_sw 1 0 [Pq ab] (Pq ab) H rfl rfl Sz94 rfl rfl rfl rfl ?_;intro bw H;refine t_stArrA (k := 0) (b := ao) (l := List.replicate 12 false) (l' := am) (L' := [cBlk ao (encB am) 96, cBlk ay [Pq ab] 94, cBlk ab [ae, ag, ah, ai, I aC, I aD, aj, .map (some aX)] 111, cMem encDm aX bf (zaa aq au av aw aC aD ax), cBlk aW [ae, ag, ah, ai, I ak, I al, aj] 29]) H rfl rfl rfl Sz96 aO aY rfl ?_;intro bx H;refine zA (I ac) rfl <| s_nil <| W.seq <| W.seq <| W.region rfl <| zM (I ac) rfl <| zC ac 0 (ac != 0) rfl rfl rfl <| s_nil ?_
 refine W.cond (ac != 0) rfl (fun aA => ?_) (fun aA => ?_)
 ·replace hM := M.e_t hM aA
  exact (M.e_fail hM).elim
 replace hM := M.e_f hM aA
 replace aA := dI aA
 refine W.skip <| W.seq <| W.region rfl <| s_val (x_ld (v := Pq ab) rfl (ldb_sc Sc94 (H.bl 1) rfl)) ?_;obtain ⟨bz, bh, hM⟩ := M.e_bind hM;refine s_call cf77 [Pq ab] rfl (zc1 aq au av aw aC aD ax (aE.app _) aF (aG.app _) aH (aI.app _) aJ (aK.app _) aL (aM.app _) aN (Has.here (k := 2) rfl) bh _ (H.gt 5)) ?_
 rintro vq bA ⟨r3, bi, rfl, hvq, aa⟩
 subst vq;(try dsimp only at hM);replace H := H.bk aa;clear aa;refine s_val (x_mf (fs := []) (cs := [Pq ay, Pq ao]) rfl rfl) ?_;obtain ⟨bB, bj, hM⟩ := M.e_bind hM;refine s_call cf84 [bi, .func (.func 85) #[] #[Pq ay, Pq ao]] rfl (zeP r3 aq au av aw aC aD ax am (aE.app _) aF (aG.app _) aH (aI.app _) aJ (aK.app _) aL (aM.app _) aN (Has.here (k := 2) rfl) (Has.here (k := 1) rfl) aY (Has.here (k := 0) rfl) bj _ ((H.pk [0, 4, 1, 2, 3, 5]).gt 4)) ?_
 rintro vq bC ⟨l_s, aZ, bD, rfl, hvq, aa⟩
 subst vq;(try dsimp only at hM)
 replace H := H.pk [0, 4, 1, 2, 3, 5] |>.bk aa
 clear aa;refine zA aZ rfl <| zA (I 0) rfl <| s_nil ?_;replace H := H.pk [0];refine W.ret ?_
 have aP := M.e_pure hM
 exact ⟨_, resE_tmp2 rfl, ⟨l_s, 0, aZ, aP, rfl, H⟩⟩

def zaO (aa : List Int) (ab : List Span) (ac : List Int) (ae : List Town) (ag ah : Int) (ai : List Flood) (watches : List Int) (r2 : List Dem) (i : Nat) : (Bool × Nat) -> M ((Bool × Nat) ⊕ Bool) := fun (met, k) =>
  bif decide ((k : Int) < (watches.length : Int)) then (
  M.grd ((!(!met) || (decide ((k : Int) < (watches.length : Int))))) <|
  M.grd ((!(!met) || (decide ((i : Int) < (r2.length : Int))))) <|
  M.bind (M.opt (!met) (zaN aa ab ac ae ag ah ai (watches.getD k 0) (r2.getD i default)) false) fun r3 =>
  M.pure (.inl ((met || r3), k + 1)))
  else (
  M.pure (.inr met))
def zbf (aa : List Int) (ab : List Span) (ac : List Int) (ae : List Town) (ag ah : Int) (ai : List Flood) (watches : List Int) (r2 : List Dem) : (Nat × (List Dem)) -> M ((Nat × (List Dem)) ⊕ ((List Dem) × (List Dem))) := fun (i, l) =>
  bif decide ((i : Int) < (r2.length : Int)) then (
  M.bind (M.iter (zaO aa ab ac ae ag ah ai watches r2 i) (false, 0)) fun met2 =>
  bif !met2 then (
  M.grd (decide ((i : Int) < (r2.length : Int))) <|
  M.grd (decide ((l.length + ([(r2.getD i default)]).length) * 16 <= 140737488355328)) <|
  M.pure (.inl (i + 1, l ++ ([(r2.getD i default)]))))
  else (
  M.pure (.inl (i + 1, l))))
  else (
  M.pure (.inr (l, l)))
def zcq (aa : List Int) (ab : List Span) (ac : List Int) (ae : List Town) (ag ah : Int) (ai : List Flood) (watches : List Int) : M (List Dem) :=
  M.bind (zbd aa ab ac ae ag ah ai) fun r2 =>
  M.bind (M.iter (zbf aa ab ac ae ag ah ai watches r2) (0, [])) fun (l2, l3) =>
  M.pure l3
theorem zdZ {R : List Chunk} {aK : Cells} {ah : Value} {aL : Cells} {ai : Value} {aM : Cells} {aj : Value} {aN : Cells} {ak : Value} {aO : Cells} {al : Value} {aP : Cells} {au : Value} (ay : List Int) (az : List Span) (aA : List Int) (aB : List Town) (ac : Int) (ae : Int) (aC : List Flood) (watches : List Int) (aQ : Reads R aK) (aR : Sl aK ah ay) (aS : Reads R aL) (aT : Sl aL ai az) (aU : Reads R aM) (aV : Sl aM aj aA) (aW : Reads R aN) (aX : Sl aN ak aB) (aY : Reads R aO) (aZ : Sl aO al aC) (bh : Reads R aP) (aE : Sl aP au watches) {r : (List Dem)} (hM : (zcq ay az aA aB ac ae aC watches).Ends r) (w : World) (H : St w w [] R) : Ret Tryz.prog 88 #[.agg #[ah, ai, aj, ak, I ac, I ae, al], au] w fun v w' => ∃ (y0 : List Dem) (u0 : Value), y0 = r /\ v = u0 /\ St w w' [cOwn (α := Dem) 70 u0 y0] R := by
 refine ret_of_W Tryz.func88 rfl rfl rfl <| W.seq <| W.region rfl ?_;refine t_bx [ah, ai, aj, ak, I ac, I ae, al] H rfl ?_;intro aD bz H;refine zA (.slice none 0 0) rfl <| s_nil <| W.seq <| W.region rfl <| s_val (x_ld (v := .agg #[ah, ai, aj, ak, I ac, I ae, al]) rfl (ldb_ag (ds := [ah, ai, aj, ak, I ac, I ae, al]) Ag37 Sz37 (H.bl 0) rfl rfl)) ?_;obtain ⟨bA, bi, hM⟩ := M.e_bind hM;refine s_call cf78 [.agg #[ah, ai, aj, ak, I ac, I ae, al]] rfl (zdh ay az aA aB ac ae aC (aQ.app _) aR (aS.app _) aT (aU.app _) aV (aW.app _) aX (aY.app _) aZ bi _ (H.gt 1)) ?_
 rintro vq bB ⟨r2, am, rfl, hvq, a6⟩
 subst vq;(try dsimp only at hM);replace H := H.bk a6;clear a6;refine zA am rfl <| s_nil <| W.seq <| W.region rfl <| zA (.slice none 0 0) rfl <| s_nil <| W.seq <| W.seq <| W.region rfl <| zA (I 0) rfl ?_;refine s_nil <| W.block ?_
 replace H := H.nilOwn (α := Dem) 70
 obtain ⟨bj, aF, bm⟩ := M.e_bind hM
 obtain ⟨bn, aF⟩ := M.e_iter aF
 refine W.loop (fun m σ W => ∃ (i : Nat) (l : List Dem) (ao : Value) (ρ : Env), σ = upds ρ [(1, au), (2, Pq aD), (5, am), (6, ao), (7, I (i : Int))] /\ M.iterN (zbf ay az aA aB ac ae aC watches r2) m (i, l) = some bj /\ St w W [cOwn (α := Dem) 70 ao l, cOwn (α := Dem) 70 am r2, cBlk aD [ah, ai, aj, ak, I ac, I ae, al] 37] R) ?_ ?_
 ·exact ⟨_, 0, [], (.slice none 0 0), _, upds_of _ _ ⟨rfl, rfl, rfl, rfl, rfl, trivial⟩, aF, H⟩
 rintro bC σ bD ⟨i, l, ao, ρ, rfl, a7, H⟩
 obtain ⟨a8, ba, bE, hM, aG⟩ := M.e_iterN a7
 simp only [zbf] at hM
 clear a7;refine W.seq <| W.seq <| W.region rfl <| zM (I (i : Int)) rfl <| zM am rfl ?_
 have bF := ((H.os 1)).len_le
 refine s_val (x_lenS T66.und rfl (H.os 1)) <| zC (i : Int) (r2.length : Int) (decide ((i : Int) < (r2.length : Int))) rfl rfl rfl <| s_nil ?_
 refine W.cond (decide ((i : Int) < (r2.length : Int))) rfl (fun av => ?_) (fun av => ?_)
 ·replace hM := M.e_t hM av
  replace av := dI av
  refine W.skip <| W.seq <| W.block <| W.seq <| W.region rfl <| zA (B false) rfl <| s_nil <| W.seq <| W.seq <| W.region rfl ?_;refine zA (I 0) rfl <| s_nil <| W.block ?_;obtain ⟨bo, aH, bp⟩ := M.e_bind hM
  obtain ⟨bn, aH⟩ := M.e_iter aH
  refine W.loop (fun m σ W => ∃ (met : Bool) (k : Nat) (ρ : Env), σ = upds ρ [(1, au), (2, Pq aD), (5, am), (6, ao), (7, I (i : Int)), (8, B met), (9, I (k : Int))] /\ M.iterN (zaO ay az aA aB ac ae aC watches r2 i) m (met, k) = some bo /\ St w W [cOwn (α := Dem) 70 ao l, cOwn (α := Dem) 70 am r2, cBlk aD [ah, ai, aj, ak, I ac, I ae, al] 37] R) ?_ ?_
  ·exact ⟨_, false, 0, _, upds_of _ _ ⟨rfl, rfl, rfl, rfl, rfl, rfl, rfl, trivial⟩, aH, H⟩
  rintro bG σ bH ⟨met, k, ρ, rfl, bc, H⟩
  obtain ⟨bq, br, bI, hM, bf⟩ := M.e_iterN bc
  simp only [zaO] at hM
  clear bc;refine W.seq <| W.seq <| W.region rfl <| zM (I (k : Int)) rfl <| zM au rfl ?_
  have bJ := (aE).len_le
  refine s_val (x_lenS T22.und rfl aE) <| zC (k : Int) (watches.length : Int) (decide ((k : Int) < (watches.length : Int))) rfl rfl rfl <| s_nil ?_
  refine W.cond (decide ((k : Int) < (watches.length : Int))) rfl (fun aw => ?_) (fun aw => ?_)
  ·replace hM := M.e_t hM aw
   replace aw := dI aw
   refine W.skip <| W.seq <| W.block ?_;refine W.draw (fun W => St w W [cOwn (α := Dem) 70 ao l, cOwn (α := Dem) 70 am r2, cBlk aD [ah, ai, aj, ak, I ac, I ae, al] 37] R) [(0, true), (1, true), (2, true), (3, true), (4, true), (5, true), (6, true), (7, true), (8, true), (9, true), (10, true), (11, false), (12, true), (13, true)] mixed (by decide +kernel) rfl ?_;intro bK ab;replace H := H.ext ab;clear ab
   refine ⟨(H.pk [0, 1, 2]), ?_⟩
   refine d_q rfl (fun w' H => x_mv (v := B met) rfl) <| d_q rfl (fun w' H => x_mv (v := B met) rfl) <| d_qg (!met) rfl (gy_f rfl) (fun hg => (fun w' H => x_ld (v := .agg #[ah, ai, aj, ak, I ac, I ae, al]) rfl (ldb_ag (ds := [ah, ai, aj, ak, I ac, I ae, al]) Ag37 Sz37 (H.bl 2) rfl rfl))) <| d_qg (!met) rfl (gy_f rfl) (fun hg => (fun w' H => x_mv (v := au) rfl)) <| d_qg (!met) rfl (gy_f rfl) (fun hg => (fun w' H => x_mv (v := I (k : Int)) rfl)) ?_;obtain ⟨aq, hM⟩ := M.e_grd hM
   replace aq := M.imp_of aq
   simp only [Bool.and_eq_true, decide_eq_true_eq] at aq
   refine d_qg (!met) rfl (gy_f rfl) (fun hg => (fun w' H => x_ix (v := vat au 1 (Int.toNat (k : Int))) (gd_of hg (au)) (gd_of hg (I (k : Int))) (Sl.ix (α := Int) T22.und T22.size aE (by have aa := aq.resolve_left (by rw [hg]; decide); first | exact aa | exact aa.1 | exact aa.2 | omega | (have ab := hg; simp at ab; omega)) (by have aa := aq.resolve_left (by rw [hg]; decide); first | exact aa | exact aa.1 | exact aa.2 | omega | (have ab := hg; simp at ab; omega))))) <| d_qg (!met) rfl (gy_f rfl) (fun hg => (fun w' H => x_ld (v := I (watches.getD k 0)) (gd_of hg (vat au 1 (Int.toNat (k : Int)))) (ld_sc Sc3 (At.mono (Int_at aE (i := (k : Int)) (by have aa := aq.resolve_left (by rw [hg]; decide); first | exact aa | exact aa.1 | exact aa.2 | omega | (have ab := hg; simp at ab; omega)) (by have aa := aq.resolve_left (by rw [hg]; decide); first | exact aa | exact aa.1 | exact aa.2 | omega | (have ab := hg; simp at ab; omega))) (bh.at H))))) <| d_qg (!met) rfl (gy_f rfl) (fun hg => (fun w' H => x_mv (v := am) rfl)) <| d_qg (!met) rfl (gy_f rfl) (fun hg => (fun w' H => x_mv (v := I (i : Int)) rfl)) ?_;obtain ⟨ax, hM⟩ := M.e_grd hM
   replace ax := M.imp_of ax
   simp only [Bool.and_eq_true, decide_eq_true_eq] at ax
   refine d_qg (!met) rfl (gy_f rfl) (fun hg => (fun w' H => x_ix (v := vat am 2 (Int.toNat (i : Int))) (gd_of hg (am)) (gd_of hg (I (i : Int))) (Sl.ix (α := Dem) T66.und T66.size (H.os 1) (by have aa := aq.resolve_left (by rw [hg]; decide); have ag := ax.resolve_left (by rw [hg]; decide); first | exact aa | exact aa.1 | exact aa.2 | exact ag | exact ag.1 | exact ag.2 | omega | (have ab := hg; simp at ab; omega)) (by have aa := aq.resolve_left (by rw [hg]; decide); have ag := ax.resolve_left (by rw [hg]; decide); first | exact aa | exact aa.1 | exact aa.2 | exact ag | exact ag.1 | exact ag.2 | omega | (have ab := hg; simp at ab; omega))))) <| d_qg (!met) rfl (gy_f rfl) (fun hg => (fun w' H => x_ld (v := .agg #[I ((r2.getD i default).spring), I ((r2.getD i default).town)]) (gd_of hg (vat am 2 (Int.toNat (i : Int)))) (ld_ag Ag70 Sz70 (At.mono (Dem_atA (H.os 1) (i := (i : Int)) (by have aa := aq.resolve_left (by rw [hg]; decide); have ag := ax.resolve_left (by rw [hg]; decide); first | exact aa | exact aa.1 | exact aa.2 | exact ag | exact ag.1 | exact ag.2 | omega | (have ab := hg; simp at ab; omega)) (by have aa := aq.resolve_left (by rw [hg]; decide); have ag := ax.resolve_left (by rw [hg]; decide); first | exact aa | exact aa.1 | exact aa.2 | exact ag | exact ag.1 | exact ag.2 | omega | (have ab := hg; simp at ab; omega))) (H.ol 1))))) <| d_l rfl ?_;obtain ⟨r3, bt, hM⟩ := M.e_bind hM;refine t_gcall (!met) (gy_f rfl) cf83 (B r3) (fun _ => [.agg #[ah, ai, aj, ak, I ac, I ae, al], I (watches.getD k 0), .agg #[I ((r2.getD i default).spring), I ((r2.getD i default).town)]]) (fun hg => lst3 (gd_of hg (.agg #[ah, ai, aj, ak, I ac, I ae, al])) (gd_of hg (I (watches.getD k 0))) (gd_of hg (.agg #[I ((r2.getD i default).spring), I ((r2.getD i default).town)]))) H (fun hg => (zcB ay az aA aB ac ae aC (watches.getD k 0) (r2.getD i default) (aQ.app _) aR (aS.app _) aT (aU.app _) aV (aW.app _) aX (aY.app _) aZ (M.e_opt bt hg) _ (H.give (A := []) rfl)).mono fun v_ w_ ⟨y_, aI, bu, H_⟩ => by subst aI; exact ⟨bu, H.via H_⟩) ?_;intro bL H
   refine s_nil ⟨(H.pk [0, 1, 2]), ?_⟩
   refine d_q rfl (fun w' H => x_por (b := met) (r := r3) rfl rfl (fun hb => gd_of (c := !met) (by first | exact hb | (rw [hb]; rfl) | simp_all) (B r3))) <| d_q rfl (fun w' H => x_as (v := B (met || r3)) rfl) ?_;refine d_nil <| W.region rfl <| zM (I (k : Int)) rfl <| zR (k : Int) 1 ((k : Int) + 1) rfl rfl rfl (by omega) <| zA (I ((k : Int) + 1)) rfl <| s_nil ?_
   exact ⟨bq, br, (met || r3), k + 1, _, upds_of _ _ ⟨rfl, rfl, rfl, rfl, rfl, rfl, rfl, trivial⟩, M.e_inl hM bf, H⟩
  replace hM := M.e_f hM aw
  replace aw := dI aw
  refine W.exit ?_
  have bv := M.e_inr hM bf
  subst bv;replace hM := bp;(try dsimp only at hM);refine W.seq <| W.region rfl <| zM (B met) rfl <| s_val (x_not (b := met) rfl) <| s_nil ?_
  refine W.cond (!met) rfl (fun aJ => ?_) (fun aJ => ?_)
  ·replace hM := M.e_t hM aJ;refine W.region rfl <| zM ao rfl <| zM am rfl <| zM (I (i : Int)) rfl ?_;obtain ⟨bM, hM⟩ := M.e_gd hM;refine s_val (x_ix (v := vat am 2 (Int.toNat (i : Int))) rfl rfl (Sl.ix (α := Dem) T66.und T66.size (H.os 1) (by omega) (by omega))) <| s_val (x_ld (v := .agg #[I ((r2.getD i default).spring), I ((r2.getD i default).town)]) rfl (ld_ag Ag70 Sz70 (At.mono (Dem_atA (H.os 1) (i := (i : Int)) (by omega) (by omega)) (H.ol 1)))) ?_;refine t_bs (α := Dem) T66 [.agg #[I ((r2.getD i default).spring), I ((r2.getD i default).town)]] [(r2.getD i default)] H rfl (.cons rfl (Flat.rep_enc _ (r2.getD i default)) <| .nil) rfl rfl rfl ?_;intro bw bN H;obtain ⟨bO, hM⟩ := M.e_gd hM;refine t_app (α := Dem) (k := 1) (l := l) (l2 := [(r2.getD i default)]) (l' := l ++ ([(r2.getD i default)])) (vy := bw) T66 rfl H rfl rfl rfl (H.os 0) (H.ol 0) (rfl) (by first | omega | (simp only [List.length_nil] at *; omega)) ?_;intro bg bP H;replace H := H.nf;refine zA bg rfl <| s_nil <| W.region rfl <| zM (I (i : Int)) rfl <| zR (i : Int) 1 ((i : Int) + 1) rfl rfl rfl (by omega) <| zA (I ((i : Int) + 1)) rfl <| s_nil ?_
   exact ⟨a8, ba, i + 1, l ++ ([(r2.getD i default)]), bg, _, upds_of _ _ ⟨rfl, rfl, rfl, rfl, rfl, trivial⟩, M.e_inl hM aG, (H.pk [1, 2, 3])⟩
  replace hM := M.e_f hM aJ;refine W.skip <| W.region rfl <| zM (I (i : Int)) rfl <| zR (i : Int) 1 ((i : Int) + 1) rfl rfl rfl (by omega) <| zA (I ((i : Int) + 1)) rfl <| s_nil ?_
  exact ⟨a8, ba, i + 1, l, ao, _, upds_of _ _ ⟨rfl, rfl, rfl, rfl, rfl, trivial⟩, M.e_inl hM aG, H⟩
 replace hM := M.e_f hM av
 replace av := dI av
 refine W.exit ?_
 have bx := M.e_inr hM aG
 subst bx;replace hM := bm;(try dsimp only at hM);replace H := H.pk [0];refine W.seq <| W.region rfl <| zM ao rfl <| zA ao rfl <| s_nil ?_;refine W.ret ?_
 have aI := M.e_pure hM
 exact ⟨_, resE_tmp rfl, ⟨l, ao, aI, rfl, H⟩⟩

def zaq (aa : List Int) (ab : List Span) (ac : List Int) (ae : List Town) (ag ah : Int) (ai : List Flood) (watches : List Int) : M ((List Dem) × Int) :=
  M.bind (zae aa ab ac ae ag ah ai) fun r2 =>
  bif r2 != 0 then (
  M.pure (([]), r2))
  else (
  M.bind (zb7 watches (aa.length : Int)) fun r3 =>
  bif r3 then (
  M.pure (([]), 2))
  else (
  M.bind (zcq aa ab ac ae ag ah ai watches) fun r4 =>
  M.pure (r4, 0)))
theorem zd0 {R : List Chunk} {az : Cells} {ac : Value} {aA : Cells} {ae : Value} {aB : Cells} {ag : Value} {aC : Cells} {ah : Value} {aD : Cells} {ai : Value} {aE : Cells} {al : Value} (am : List Int) (aq : List Span) (au : List Int) (av : List Town) (aa : Int) (ab : Int) (aw : List Flood) (watches : List Int) (aF : Reads R az) (ax : Sl az ac am) (aG : Reads R aA) (aH : Sl aA ae aq) (aI : Reads R aB) (aJ : Sl aB ag au) (aK : Reads R aC) (aL : Sl aC ah av) (aM : Reads R aD) (aN : Sl aD ai aw) (aO : Reads R aE) (aP : Sl aE al watches) {r : ((List Dem) × Int)} (hM : (zaq am aq au av aa ab aw watches).Ends r) (w : World) (H : St w w [] R) : Ret Tryz.prog 35 #[.agg #[ac, ae, ag, ah, I aa, I ab, ai], al] w fun v w' => ∃ (y0 : List Dem) (y1 : Int) (u0 : Value), (y0, y1) = r /\ v = .tuple #[u0, I y1] /\ St w w' [cOwn (α := Dem) 70 u0 y0] R := by
 refine ret_of_W Tryz.func35 rfl rfl rfl <| W.seq <| W.region rfl ?_;refine t_bx [ac, ae, ag, ah, I aa, I ab, ai] H rfl ?_;intro aR aV H;refine zA (.slice none 0 0) rfl <| zA (I 0) rfl <| s_nil <| W.seq <| W.seq <| W.region rfl <| s_val (x_ld (v := .agg #[ac, ae, ag, ah, I aa, I ab, ai]) rfl (ldb_ag (ds := [ac, ae, ag, ah, I aa, I ab, ai]) Ag37 Sz37 (H.bl 0) rfl rfl)) ?_;obtain ⟨aW, aS, hM⟩ := M.e_bind hM;refine s_call cf20 [.agg #[ac, ae, ag, ah, I aa, I ab, ai]] rfl (zb0 am aq au av aa ab aw (aF.app _) ax (aG.app _) aH (aI.app _) aJ (aK.app _) aL (aM.app _) aN aS _ (H.gt 1)) ?_
 rintro vq aX ⟨r2, rfl, hvq, aj⟩
 subst vq;(try dsimp only at hM);replace H := H.bk aj;clear aj;refine zA (I r2) rfl <| s_nil <| W.seq <| W.region rfl <| zM (I r2) rfl <| zC r2 0 (r2 != 0) rfl rfl rfl <| s_nil ?_
 refine W.cond (r2 != 0) rfl (fun ak => ?_) (fun ak => ?_)
 ·replace hM := M.e_t hM ak
  replace ak := dI ak
  refine W.seq <| W.region rfl <| zM (I r2) rfl <| zA (.slice none 0 0) rfl <| zA (I r2) rfl <| s_nil ?_;refine W.ret ?_
  have ao := M.e_pure hM
  replace H := H.nilOwn (α := Dem) 70
  exact ⟨_, resE_tmp2 rfl, ⟨([]), r2, (.slice none 0 0), ao, rfl, (H.pk [0])⟩⟩
 replace hM := M.e_f hM ak
 replace ak := dI ak
 refine W.skip <| W.seq <| W.seq <| W.region rfl <| zM al rfl <| s_val (x_fa (v := Pq aR) rfl (fa_blk (o := 0) Fd37_0 Sz22)) <| s_val (x_ld (v := ac) rfl (ldb_sc Sc22 (H.bl 0) rfl)) ?_
 have aY := (ax).len_le
 refine s_val (x_lenS T22.und rfl ax) ?_;obtain ⟨aZ, aT, hM⟩ := M.e_bind hM;refine s_call cf70 [al, I (am.length : Int)] rfl (zdP watches (am.length : Int) (aO.app _) aP aT _ (H.gt 1)) ?_
 rintro vq a6 ⟨r3, rfl, hvq, aj⟩
 subst vq;(try dsimp only at hM);replace H := H.bk aj;clear aj;refine s_nil ?_
 refine W.cond r3 rfl (fun ay => ?_) (fun ay => ?_)
 ·replace hM := M.e_t hM ay;refine W.seq <| W.region rfl <| zA (.slice none 0 0) rfl <| zA (I 2) rfl <| s_nil ?_;refine W.ret ?_
  have ao := M.e_pure hM
  replace H := H.nilOwn (α := Dem) 70
  exact ⟨_, resE_tmp2 rfl, ⟨([]), 2, (.slice none 0 0), ao, rfl, (H.pk [0])⟩⟩
 replace hM := M.e_f hM ay;refine W.skip <| W.seq <| W.region rfl <| s_val (x_ld (v := .agg #[ac, ae, ag, ah, I aa, I ab, ai]) rfl (ldb_ag (ds := [ac, ae, ag, ah, I aa, I ab, ai]) Ag37 Sz37 (H.bl 0) rfl rfl)) <| zM al rfl ?_;obtain ⟨a7, aU, hM⟩ := M.e_bind hM;refine s_call cf88 [.agg #[ac, ae, ag, ah, I aa, I ab, ai], al] rfl (zdZ am aq au av aa ab aw watches (aF.app _) ax (aG.app _) aH (aI.app _) aJ (aK.app _) aL (aM.app _) aN (aO.app _) aP aU _ (H.gt 1)) ?_
 rintro vq a8 ⟨r4, aQ, rfl, hvq, aj⟩
 subst vq;(try dsimp only at hM);replace H := H.bk aj;clear aj;refine zA aQ rfl <| zA (I 0) rfl <| s_nil ?_;refine W.ret ?_
 have ao := M.e_pure hM
 exact ⟨_, resE_tmp2 rfl, ⟨r4, 0, aQ, ao, rfl, (H.pk [0])⟩⟩

end Go.Proofs.YtbaehghammbjdaaGreat
end
section
set_option maxRecDepth 100000
set_option maxHeartbeats 16000000
namespace Go.Proofs.YtbaehghammbjdaaGreat
open Go Go.Nm
def zbv (aa : List Int) (set : Nat) : (Nat × (List Int)) -> M ((Nat × (List Int)) ⊕ ((List Int) × (List Int))) := fun (s, l) =>
  bif decide ((s : Int) < (aa.length : Int)) then (
  M.grd (decide (0 <= (s : Int)) && decide ((s : Int) <= (62 : Int))) <|
  M.grd (decide ((0 : Int) <= ((set : Int) / 2 ^ s)) && decide ((0 : Int) < 2)) <|
  bif (((set : Int) / 2 ^ s) % 2) == 1 then (
  M.grd (decide ((l.length + ([(s : Int)]).length) * 8 <= 140737488355328)) <|
  M.pure (.inl (s + 1, l ++ ([(s : Int)]))))
  else (
  M.pure (.inl (s + 1, l))))
  else (
  M.pure (.inr (l, l)))
def zcj (aa : List Int) (ab : List Span) (ac : List Int) (ae : List Town) (ag ah : Int) (ai : List Flood) : (Int × Nat) -> M ((Int × Nat) ⊕ Int) := fun (best, set) =>
  M.grd (decide (0 <= (aa.length : Int)) && decide ((aa.length : Int) <= (62 : Int)) && decide ((-9223372036854775808 : Int) <= (1 * 2 ^ (aa.length))) && decide ((1 * 2 ^ (aa.length)) <= (9223372036854775807 : Int))) <|
  bif decide ((set : Int) < (1 * 2 ^ (aa.length))) then (
  M.bind (M.iter (zbv aa set) (0, [])) fun (l2, l3) =>
  bif ((best == (-1)) || (decide ((l3.length : Int) < best))) then (
  M.bind (zcq aa ab ac ae ag ah ai l3) fun r3 =>
  bif (((best == (-1)) || (decide ((l3.length : Int) < best))) && ((r3.length : Int) == 0)) then (
  M.grd (decide ((-9223372036854775808 : Int) <= ((set : Int) + 1)) && decide (((set : Int) + 1) <= (9223372036854775807 : Int))) <|
  M.pure (.inl ((l3.length : Int), set + 1)))
  else (
  M.grd (decide ((-9223372036854775808 : Int) <= ((set : Int) + 1)) && decide (((set : Int) + 1) <= (9223372036854775807 : Int))) <|
  M.pure (.inl (best, set + 1))))
  else (
  M.grd (decide ((-9223372036854775808 : Int) <= ((set : Int) + 1)) && decide (((set : Int) + 1) <= (9223372036854775807 : Int))) <|
  M.pure (.inl (best, set + 1))))
  else (
  M.pure (.inr best))
def zby (aa : List Int) (ab : List Span) (ac : List Int) (ae : List Town) (ag ah : Int) (ai : List Flood) : M (Int × Int) :=
  M.bind (zae aa ab ac ae ag ah ai) fun r2 =>
  bif r2 != 0 then (
  M.pure (0, r2))
  else (
  M.bind (M.iter (zcj aa ab ac ae ag ah ai) (-1, 0)) fun best2 =>
  bif best2 == (-1) then (
  M.pure (0, 6))
  else (
  M.pure (best2, 0)))
theorem zej {R : List Chunk} {aL : Cells} {ac : Value} {aM : Cells} {ag : Value} {aN : Cells} {ah : Value} {aO : Cells} {ai : Value} {aP : Cells} {aj : Value} (ae : List Int) (ay : List Span) (az : List Int) (aA : List Town) (aa : Int) (ab : Int) (aB : List Flood) (aQ : Reads R aL) (aw : Sl aL ac ae) (aR : Reads R aM) (aS : Sl aM ag ay) (aT : Reads R aN) (aU : Sl aN ah az) (aV : Reads R aO) (aW : Sl aO ai aA) (aX : Reads R aP) (aY : Sl aP aj aB) {r : (Int × Int)} (hM : (zby ae ay az aA aa ab aB).Ends r) (w : World) (H : St w w [] R) : Ret Tryz.prog 37 #[.agg #[ac, ag, ah, ai, I aa, I ab, aj]] w fun v w' => ∃ (y0 : Int) (y1 : Int), (y0, y1) = r /\ v = .tuple #[I y0, I y1] /\ St w w' [] R := by
 refine ret_of_W Tryz.func37 rfl rfl rfl <| W.seq <| W.region rfl ?_;refine t_bx [ac, ag, ah, ai, I aa, I ab, aj] H rfl ?_;intro ax br H;refine zA (I 0) rfl <| zA (I 0) rfl <| s_nil <| W.seq <| W.seq <| W.region rfl <| s_val (x_ld (v := .agg #[ac, ag, ah, ai, I aa, I ab, aj]) rfl (ldb_ag (ds := [ac, ag, ah, ai, I aa, I ab, aj]) Ag37 Sz37 (H.bl 0) rfl rfl)) ?_;obtain ⟨bt, bf, hM⟩ := M.e_bind hM;refine s_call cf20 [.agg #[ac, ag, ah, ai, I aa, I ab, aj]] rfl (zb0 ae ay az aA aa ab aB (aQ.app _) aw (aR.app _) aS (aT.app _) aU (aV.app _) aW (aX.app _) aY bf _ (H.gt 1)) ?_
 rintro vq bu ⟨r2, rfl, hvq, aC⟩
 subst vq;(try dsimp only at hM);replace H := H.bk aC;clear aC;refine zA (I r2) rfl <| s_nil <| W.seq <| W.region rfl <| zM (I r2) rfl <| zC r2 0 (r2 != 0) rfl rfl rfl <| s_nil ?_
 refine W.cond (r2 != 0) rfl (fun al => ?_) (fun al => ?_)
 ·replace hM := M.e_t hM al
  replace al := dI al
  refine W.seq <| W.region rfl <| zM (I r2) rfl <| zA (I 0) rfl <| zA (I r2) rfl <| s_nil ?_;refine W.ret ?_
  have aD := M.e_pure hM
  exact ⟨_, resE_tmp2 rfl, ⟨0, r2, aD, rfl, (H.pk [])⟩⟩
 replace hM := M.e_f hM al
 replace al := dI al
 refine W.skip <| W.seq <| W.region rfl <| zA (I (-1)) rfl <| s_nil <| W.seq <| W.seq <| W.region rfl <| zA (I 0) rfl <| s_nil ?_;refine W.block ?_;obtain ⟨bg, aF, bh⟩ := M.e_bind hM
 obtain ⟨bi, aF⟩ := M.e_iter aF
 refine W.loop (fun m σ W => ∃ (best : Int) (set : Nat) (ρ : Env), σ = upds ρ [(1, Pq ax), (5, I best), (6, I (set : Int))] /\ M.iterN (zcj ae ay az aA aa ab aB) m (best, set) = some bg /\ St w W [cBlk ax [ac, ag, ah, ai, I aa, I ab, aj] 37] R) ?_ ?_
 ·exact ⟨_, -1, 0, _, upds_of _ _ ⟨rfl, rfl, rfl, trivial⟩, aF, H⟩
 rintro bv σ bw ⟨best, set, ρ, rfl, aZ, H⟩
 obtain ⟨aG, aH, bx, hM, aE⟩ := M.e_iterN aZ
 simp only [zcj] at hM
 clear aZ;refine W.seq <| W.seq <| W.region rfl <| zM (I (set : Int)) rfl <| s_val (x_fa (v := Pq ax) rfl (fa_blk (o := 0) Fd37_0 Sz22)) <| s_val (x_ld (v := ac) rfl (ldb_sc Sc22 (H.bl 0) rfl)) ?_
 have bz := (aw).len_le
 refine s_val (x_lenS T22.und rfl aw) ?_;obtain ⟨bA, hM⟩ := M.e_gd hM;refine s_val (x_shl (a := 1) (b := (ae.length : Int)) (n := (ae.length)) rfl rfl (by omega)) <| zC (set : Int) (1 * 2 ^ (ae.length)) (decide ((set : Int) < (1 * 2 ^ (ae.length)))) rfl rfl rfl <| s_nil ?_
 refine W.cond (decide ((set : Int) < (1 * 2 ^ (ae.length)))) rfl (fun am => ?_) (fun am => ?_)
 ·replace hM := M.e_t hM am
  replace am := dI am
  refine W.skip <| W.seq <| W.block <| W.seq <| W.region rfl <| zA (.slice none 0 0) rfl <| s_nil <| W.seq <| W.seq <| W.region rfl ?_;refine zA (I 0) rfl <| s_nil <| W.block ?_
  replace H := H.nilOwn (α := Int) 3
  obtain ⟨bj, aI, bm⟩ := M.e_bind hM
  obtain ⟨bi, aI⟩ := M.e_iter aI
  refine W.loop (fun m σ W => ∃ (s : Nat) (l : List Int) (ak : Value) (ρ : Env), σ = upds ρ [(1, Pq ax), (5, I best), (6, I (set : Int)), (7, ak), (8, I (s : Int))] /\ M.iterN (zbv ae set) m (s, l) = some bj /\ St w W [cOwn (α := Int) 3 ak l, cBlk ax [ac, ag, ah, ai, I aa, I ab, aj] 37] R) ?_ ?_
  ·exact ⟨_, 0, [], (.slice none 0 0), _, upds_of _ _ ⟨rfl, rfl, rfl, rfl, rfl, trivial⟩, aI, H⟩
  rintro bB σ bC ⟨s, l, ak, ρ, rfl, a6, H⟩
  obtain ⟨a7, a8, bD, hM, aJ⟩ := M.e_iterN a6
  simp only [zbv] at hM
  clear a6;refine W.seq <| W.seq <| W.region rfl <| zM (I (s : Int)) rfl <| s_val (x_fa (v := Pq ax) rfl (fa_blk (o := 0) Fd37_0 Sz22)) <| s_val (x_ld (v := ac) rfl (ldb_sc Sc22 (H.bl 1) rfl)) ?_
  have bE := (aw).len_le
  refine s_val (x_lenS T22.und rfl aw) <| zC (s : Int) (ae.length : Int) (decide ((s : Int) < (ae.length : Int))) rfl rfl rfl <| s_nil ?_
  refine W.cond (decide ((s : Int) < (ae.length : Int))) rfl (fun ao => ?_) (fun ao => ?_)
  ·replace hM := M.e_t hM ao
   replace ao := dI ao
   refine W.skip <| W.seq <| W.block <| W.seq <| W.region rfl <| zM (I (set : Int)) rfl <| zM (I (s : Int)) rfl ?_;obtain ⟨bF, hM⟩ := M.e_gd hM;refine s_val (x_shr (a := (set : Int)) (b := (s : Int)) (n := s) rfl rfl (by omega)) ?_;obtain ⟨bG, hM⟩ := M.e_gd hM;refine s_val (x_rem' (a := (set : Int) / 2 ^ s) (b := 2) rfl rfl (by omega)) <| zC (((set : Int) / 2 ^ s) % 2) 1 ((((set : Int) / 2 ^ s) % 2) == 1) rfl rfl rfl <| s_nil ?_
   refine W.cond ((((set : Int) / 2 ^ s) % 2) == 1) rfl (fun aq => ?_) (fun aq => ?_)
   ·replace hM := M.e_t hM aq
    replace aq := dI aq
    refine W.region rfl <| zM ak rfl <| zM (I (s : Int)) rfl ?_;refine t_bs (α := Int) T22 [I (s : Int)] [(s : Int)] H rfl (.cons rfl (Flat.rep_enc _ (s : Int)) <| .nil) rfl rfl rfl ?_;intro bn bH H;obtain ⟨bI, hM⟩ := M.e_gd hM;refine t_app (α := Int) (k := 1) (l := l) (l2 := [(s : Int)]) (l' := l ++ ([(s : Int)])) (vy := bn) T22 rfl H rfl rfl rfl (H.os 0) (H.ol 0) (rfl) (by first | omega | (simp only [List.length_nil] at *; omega)) ?_;intro ba bJ H;replace H := H.nf;refine zA ba rfl <| s_nil <| W.region rfl <| zM (I (s : Int)) rfl <| zR (s : Int) 1 ((s : Int) + 1) rfl rfl rfl (by omega) <| zA (I ((s : Int) + 1)) rfl <| s_nil ?_
    exact ⟨a7, a8, s + 1, l ++ ([(s : Int)]), ba, _, upds_of _ _ ⟨rfl, rfl, rfl, rfl, rfl, trivial⟩, M.e_inl hM aJ, (H.pk [1, 2])⟩
   replace hM := M.e_f hM aq
   replace aq := dI aq
   refine W.skip <| W.region rfl <| zM (I (s : Int)) rfl <| zR (s : Int) 1 ((s : Int) + 1) rfl rfl rfl (by omega) <| zA (I ((s : Int) + 1)) rfl <| s_nil ?_
   exact ⟨a7, a8, s + 1, l, ak, _, upds_of _ _ ⟨rfl, rfl, rfl, rfl, rfl, trivial⟩, M.e_inl hM aJ, H⟩
  replace hM := M.e_f hM ao
  replace ao := dI ao
  refine W.exit ?_
  have bo := M.e_inr hM aJ
  subst bo;replace hM := bm;(try dsimp only at hM);refine W.seq <| W.region rfl <| zM (I best) rfl <| zC best (-1) (best == (-1)) rfl rfl rfl <| zM (B (best == (-1))) rfl <| g_val (!(best == (-1))) (gy_f rfl) (fun hg => x_mv (v := ak) rfl) <| g_val (!(best == (-1))) (gy_f rfl) (fun hg => x_lenS T22.und (gd_of hg (ak)) (H.os 0)) <| g_val (!(best == (-1))) (gy_f rfl) (fun hg => x_mv (v := I best) rfl) <| g_val (!(best == (-1))) (gy_f rfl) (fun hg => x_cmp (kd := .i64) (r := decide ((l.length : Int) < best)) (gd_of hg (I (l.length : Int))) (gd_of hg (I best)) rfl) <| s_val (x_por (b := best == (-1)) (r := decide ((l.length : Int) < best)) rfl rfl (fun hb => gd_of (c := !(best == (-1))) (by first | exact hb | (rw [hb]; rfl) | simp_all) (B (decide ((l.length : Int) < best))))) ?_;refine zM (B ((best == (-1)) || (decide ((l.length : Int) < best)))) rfl <| g_val ((best == (-1)) || (decide ((l.length : Int) < best))) (gy_t rfl) (fun hg => x_ld (v := .agg #[ac, ag, ah, ai, I aa, I ab, aj]) rfl (ldb_ag (ds := [ac, ag, ah, ai, I aa, I ab, aj]) Ag37 Sz37 (H.bl 1) rfl rfl)) <| g_val ((best == (-1)) || (decide ((l.length : Int) < best))) (gy_t rfl) (fun hg => x_mv (v := ak) rfl) ?_
  refine g_splitV ((best == (-1)) || (decide ((l.length : Int) < best))) (.slice none 0 0) (gy_t rfl) (fun au => ?_) (fun au => ?_)
  ·replace hM := M.e_t hM au;obtain ⟨bK, bp, hM⟩ := M.e_bind hM;refine s_call cf88 [.agg #[ac, ag, ah, ai, I aa, I ab, aj], ak] (lst2 (gd_of (c := ((best == (-1)) || (decide ((l.length : Int) < best)))) au (.agg #[ac, ag, ah, ai, I aa, I ab, aj])) (gd_of (c := ((best == (-1)) || (decide ((l.length : Int) < best)))) au (ak))) (zdZ ae ay az aA aa ab aB l (aQ.app _) aw (aR.app _) aS (aT.app _) aU (aV.app _) aW (aX.app _) aY (rdo 0) (H.os 0) bp _ (H.gt 2)) ?_
   rintro vq bL ⟨r3, bM, rfl, hvq, aC⟩
   subst vq;(try dsimp only at hM);replace H := H.bk aC;clear aC;refine g_val ((best == (-1)) || (decide ((l.length : Int) < best))) (gy_t rfl) (fun hg => x_lenS T66.und rfl (H.os 0)) <| g_val ((best == (-1)) || (decide ((l.length : Int) < best))) (gy_t rfl) (fun hg => x_cmp (kd := .i64) (r := (r3.length : Int) == 0) (gd_of hg (I (r3.length : Int))) rfl rfl) <| s_val (x_pand (b := ((best == (-1)) || (decide ((l.length : Int) < best)))) (r := (r3.length : Int) == 0) rfl (fun hb => gd_of (c := ((best == (-1)) || (decide ((l.length : Int) < best)))) (by first | exact hb | (rw [hb]; rfl) | simp_all) (B ((r3.length : Int) == 0))) rfl) <| s_nil ?_
   refine W.cond (((best == (-1)) || (decide ((l.length : Int) < best))) && ((r3.length : Int) == 0)) rfl (fun aK => ?_) (fun aK => ?_)
   ·replace hM := M.e_t hM aK;refine W.region rfl <| zM ak rfl ?_
    have bN := ((H.os 1)).len_le
    refine s_val (x_lenS T22.und rfl (H.os 1)) <| zA (I (l.length : Int)) rfl <| s_nil <| W.region rfl <| zM (I (set : Int)) rfl ?_;obtain ⟨bO, hM⟩ := M.e_gd hM;refine zR (set : Int) 1 ((set : Int) + 1) rfl rfl rfl (by omega) <| zA (I ((set : Int) + 1)) rfl <| s_nil ?_
    exact ⟨aG, aH, (l.length : Int), set + 1, _, upds_of _ _ ⟨rfl, rfl, rfl, trivial⟩, M.e_inl hM aE, (H.pk [2])⟩
   replace hM := M.e_f hM aK;refine W.skip <| W.region rfl <| zM (I (set : Int)) rfl ?_;obtain ⟨bP, hM⟩ := M.e_gd hM;refine zR (set : Int) 1 ((set : Int) + 1) rfl rfl rfl (by omega) <| zA (I ((set : Int) + 1)) rfl <| s_nil ?_
   exact ⟨aG, aH, best, set + 1, _, upds_of _ _ ⟨rfl, rfl, rfl, trivial⟩, M.e_inl hM aE, (H.pk [2])⟩
  replace hM := M.e_f hM au;refine g_val (v := I 0) ((best == (-1)) || (decide ((l.length : Int) < best))) (gy_t rfl) (fun hg => Bool.noConfusion (au.symm.trans hg)) <| g_val (v := B false) ((best == (-1)) || (decide ((l.length : Int) < best))) (gy_t rfl) (fun hg => Bool.noConfusion (au.symm.trans hg)) <| s_val (x_pand0 (b := ((best == (-1)) || (decide ((l.length : Int) < best)))) rfl (fun hb => gd_of (c := ((best == (-1)) || (decide ((l.length : Int) < best)))) (by first | exact hb | (rw [hb]; rfl) | simp_all) (B false)) rfl) <| s_nil ?_
  refine W.cond false rfl (fun bc => ?_) (fun bc => ?_)
  ·skip
   exact absurd bc (by decide)
  skip
  refine W.skip <| W.region rfl <| zM (I (set : Int)) rfl ?_;obtain ⟨bQ, hM⟩ := M.e_gd hM;refine zR (set : Int) 1 ((set : Int) + 1) rfl rfl rfl (by omega) <| zA (I ((set : Int) + 1)) rfl <| s_nil ?_
  exact ⟨aG, aH, best, set + 1, _, upds_of _ _ ⟨rfl, rfl, rfl, trivial⟩, M.e_inl hM aE, (H.pk [1])⟩
 replace hM := M.e_f hM am
 replace am := dI am
 refine W.exit ?_
 have bq := M.e_inr hM aE
 subst bq;replace hM := bh;(try dsimp only at hM);refine W.seq <| W.seq <| W.region rfl <| zM (I best) rfl <| zC best (-1) (best == (-1)) rfl rfl rfl <| s_nil ?_
 refine W.cond (best == (-1)) rfl (fun av => ?_) (fun av => ?_)
 ·replace hM := M.e_t hM av
  replace av := dI av
  refine W.seq <| W.region rfl <| zA (I 0) rfl <| zA (I 6) rfl <| s_nil ?_;refine W.ret ?_
  have aD := M.e_pure hM
  exact ⟨_, resE_tmp2 rfl, ⟨0, 6, aD, rfl, (H.pk [])⟩⟩
 replace hM := M.e_f hM av
 replace av := dI av
 refine W.skip <| W.seq <| W.region rfl <| zM (I best) rfl <| zA (I best) rfl <| zA (I 0) rfl <| s_nil ?_;refine W.ret ?_
 have aD := M.e_pure hM
 exact ⟨_, resE_tmp2 rfl, ⟨best, 0, aD, rfl, (H.pk [])⟩⟩

def zbi (aa : List Int) (ab : List Span) (ac : List Int) (ae : List Town) (ah ai : Int) (ag : List Flood) : M ((List Dem) × Int) :=
  M.bind (zak aa ab ac ae ah ai ag) fun x_ => match x_ with
  | (.inl r1) => (
  bif r1 != 0 then (
  M.pure (([]), r1))
  else (
  M.fail))
  | (.inr (aj, ak, al)) => (
  bif al != 0 then (
  M.fail)
  else (
  M.bind (zaz aa ab ac ae aj ak ag) fun (r0, am, r2) =>
  bif !r2 then (
  M.pure (([]), 6))
  else (
  M.pure (am, 0))))
theorem zd4 {R : List Chunk} {aC : Cells} {ai : Value} {aD : Cells} {aj : Value} {aE : Cells} {ak : Value} {aF : Cells} {al : Value} {aG : Cells} {am : Value} (aw : List Int) (ax : List Span) (ay : List Int) (az : List Town) (ae : Int) (ag : Int) (aA : List Flood) (aH : Reads R aC) (aI : Sl aC ai aw) (aJ : Reads R aD) (aK : Sl aD aj ax) (aL : Reads R aE) (aM : Sl aE ak ay) (aN : Reads R aF) (aO : Sl aF al az) (aP : Reads R aG) (aQ : Sl aG am aA) {r : ((List Dem) × Int)} (hM : (zbi aw ax ay az ae ag aA).Ends r) (w : World) (H : St w w [] R) : Ret Tryz.prog 38 #[.agg #[ai, aj, ak, al, I ae, I ag, am]] w fun v w' => ∃ (y0 : List Dem) (y1 : Int) (u0 : Value), (y0, y1) = r /\ v = .tuple #[u0, I y1] /\ St w w' [cOwn (α := Dem) 61 u0 y0] R := by
 refine ret_of_W Tryz.func38 rfl rfl rfl <| W.seq <| W.region rfl ?_;refine t_bx [ai, aj, ak, al, I ae, I ag, am] H rfl ?_;intro aY aZ H;refine zA (.slice none 0 0) rfl <| zA (I 0) rfl <| s_nil <| W.seq <| W.region rfl <| s_val (x_ld (v := .agg #[ai, aj, ak, al, I ae, I ag, am]) rfl (ldb_ag (ds := [ai, aj, ak, al, I ae, I ag, am]) Ag29 Sz29 (H.bl 0) rfl rfl)) ?_;obtain ⟨a6, aR, hM⟩ := M.e_bind hM;refine s_call cf72 [.agg #[ai, aj, ak, al, I ae, I ag, am]] rfl (zaJ aw ax ay az ae ag aA (aH.app _) aI (aJ.app _) aK (aL.app _) aM (aN.app _) aO (aP.app _) aQ aR _ (H.gt 1)) ?_
 rintro vq a7 (⟨r1, aS, hvq, ac⟩ | ⟨aT, aU, aa, ah, a8, ba, aV, hvq, ac⟩)
 ·subst aS;subst vq;(try dsimp only at hM);replace H := H.bk ac;clear ac;refine zM (.tuple #[.pointer none, I r1]) rfl <| zX [.pointer none, I r1] (.pointer none) rfl rfl <| zX [.pointer none, I r1] (I r1) rfl rfl <| zA (.pointer none) rfl <| zA (I r1) rfl <| s_nil <| W.seq <| W.seq <| W.region rfl <| zM (I r1) rfl ?_;refine zC r1 0 (r1 != 0) rfl rfl rfl <| s_nil ?_
  refine W.cond (r1 != 0) rfl (fun aq => ?_) (fun aq => ?_)
  ·replace hM := M.e_t hM aq
   replace aq := dI aq
   refine W.seq <| W.region rfl <| zM (I r1) rfl <| zA (.slice none 0 0) rfl <| zA (I r1) rfl <| s_nil ?_;refine W.ret ?_
   have au := M.e_pure hM
   replace H := H.nilOwn (α := Dem) 61
   exact ⟨_, resE_tmp2 rfl, ⟨([]), r1, (.slice none 0 0), au, rfl, (H.pk [0])⟩⟩
  replace hM := M.e_f hM aq
  exact (M.e_fail hM).elim
 subst aV;subst vq;(try dsimp only at hM);replace H := H.bk ac;clear ac;refine zM (.tuple #[Pq ah, I aa]) rfl <| zX [Pq ah, I aa] (Pq ah) rfl rfl <| zX [Pq ah, I aa] (I aa) rfl rfl <| zA (Pq ah) rfl <| zA (I aa) rfl <| s_nil <| W.seq <| W.seq <| W.region rfl <| zM (I aa) rfl ?_;refine zC aa 0 (aa != 0) rfl rfl rfl <| s_nil ?_
 refine W.cond (aa != 0) rfl (fun av => ?_) (fun av => ?_)
 ·replace hM := M.e_t hM av
  exact (M.e_fail hM).elim
 replace hM := M.e_f hM av
 replace av := dI av
 refine W.skip <| W.seq <| W.region rfl <| zM (Pq ah) rfl ?_;obtain ⟨bc, aW, hM⟩ := M.e_bind hM;refine s_call cf89 [Pq ah] rfl (zd2 aw ax ay az aT aU aA (aH.app _) aI (aJ.app _) aK (aL.app _) aM (aN.app _) aO (aP.app _) aQ (Has.here (k := 0) rfl) aW _ ((H.pk [1, 0, 2]).gt 2)) ?_
 rintro vq bf ⟨r0, aX, r2, ao, ab, bg, rfl, hvq, ac⟩
 subst vq;(try dsimp only at hM)
 replace H := H.pk [1, 0, 2] |>.bk ac
 clear ac;refine zM (.tuple #[ao, ab, B r2]) rfl <| zX [ao, ab, B r2] ao rfl rfl <| zX [ao, ab, B r2] ab rfl rfl <| zX [ao, ab, B r2] (B r2) rfl rfl <| zA ao rfl <| zA ab rfl <| zA (B r2) rfl <| s_nil ?_;replace H := H.pk [1];refine W.seq <| W.seq <| W.region rfl <| zM (B r2) rfl <| s_val (x_not (b := r2) rfl) <| s_nil ?_
 refine W.cond (!r2) rfl (fun aB => ?_) (fun aB => ?_)
 ·replace hM := M.e_t hM aB;refine W.seq <| W.region rfl <| zA (.slice none 0 0) rfl <| zA (I 6) rfl <| s_nil ?_;refine W.ret ?_
  have au := M.e_pure hM
  replace H := H.nilOwn (α := Dem) 61
  exact ⟨_, resE_tmp2 rfl, ⟨([]), 6, (.slice none 0 0), au, rfl, (H.pk [0])⟩⟩
 replace hM := M.e_f hM aB;refine W.skip <| W.seq <| W.region rfl <| zM ab rfl <| zA ab rfl <| zA (I 0) rfl <| s_nil ?_;refine W.ret ?_
 have au := M.e_pure hM
 exact ⟨_, resE_tmp2 rfl, ⟨aX, 0, ab, au, rfl, H⟩⟩

def zbh (aa : List Int) (ab : List Span) (ac : List Int) (ae : List Town) (ag ah : Int) (ai : List Flood) (l : List Dem) : Nat -> M (Nat ⊕ (Unit ⊕ Unit)) := fun i =>
  bif decide ((i : Int) < (l.length : Int)) then (
  M.grd (decide ((i : Int) < (l.length : Int))) <|
  M.bind (zcw aa ab ac ae ag ah ai (l.getD i default)) fun r3 =>
  bif !r3 then (
  M.pure (.inr (.inl ())))
  else (
  M.pure (.inl (i + 1))))
  else (
  M.pure (.inr (.inr ())))
def zbx (aa : List Int) (ab : List Span) (ac : List Int) (ae : List Town) (ag ah : Int) (ai : List Flood) (l : List Dem) (i2 s : Nat) : Nat -> M (Nat ⊕ (Unit ⊕ Unit)) := fun k =>
  bif decide ((k : Int) < (i2 : Int)) then (
  M.grd (decide ((k : Int) < (l.length : Int))) <|
  M.bind (zaN aa ab ac ae ag ah ai (s : Int) (l.getD k default)) fun r5 =>
  bif r5 then (
  M.pure (.inr (.inl ())))
  else (
  M.pure (.inl (k + 1))))
  else (
  M.pure (.inr (.inr ())))
def zbC (aa : List Int) (ab : List Span) (ac : List Int) (ae : List Town) (ag ah : Int) (ai : List Flood) (l : List Dem) (i2 : Nat) : (Nat × Nat) -> M ((Nat × Nat) ⊕ (Unit ⊕ Int)) := fun (s, own) =>
  bif decide ((s : Int) < (aa.length : Int)) then (
  M.grd (decide ((i2 : Int) < (l.length : Int))) <|
  M.bind (zaN aa ab ac ae ag ah ai (s : Int) (l.getD i2 default)) fun r4 =>
  bif !r4 then (
  M.pure (.inl (s + 1, own)))
  else (
  M.grd (decide ((-9223372036854775808 : Int) <= ((own : Int) + 1)) && decide (((own : Int) + 1) <= (9223372036854775807 : Int))) <|
  M.bind (M.iter (zbx aa ab ac ae ag ah ai l i2 s) 0) fun x_ => match x_ with
  | (.inl (_ : Unit)) => (
  M.pure (.inr (.inl ())))
  | (.inr (_ : Unit)) => (
  M.pure (.inl (s + 1, own + 1)))))
  else (
  M.pure (.inr (.inr (own : Int))))
def zbO (aa : List Int) (ab : List Span) (ac : List Int) (ae : List Town) (ag ah : Int) (ai : List Flood) (l : List Dem) : Nat -> M (Nat ⊕ (Unit ⊕ Unit)) := fun i2 =>
  bif decide ((i2 : Int) < (l.length : Int)) then (
  M.bind (M.iter (zbC aa ab ac ae ag ah ai l i2) (0, 0)) fun x_ => match x_ with
  | (.inl (_ : Unit)) => (
  M.pure (.inr (.inl ())))
  | (.inr own2) => (
  bif own2 == 0 then (
  M.pure (.inr (.inl ())))
  else (
  M.pure (.inl (i2 + 1)))))
  else (
  M.pure (.inr (.inr ())))
def zap (aa : List Int) (ab : List Span) (ac : List Int) (ae : List Town) (ag ah : Int) (ai : List Flood) (many : Int) (l : List Dem) : M (Bool × Int) :=
  M.bind (zae aa ab ac ae ag ah ai) fun r2 =>
  bif r2 != 0 then (
  M.pure (false, r2))
  else (
  bif decide (64 < (l.length : Int)) then (
  M.pure (false, 3))
  else (
  M.bind (M.iter (zbh aa ab ac ae ag ah ai l) 0) fun x_ => match x_ with
  | (.inl (_ : Unit)) => (
  M.pure (false, 2))
  | (.inr (_ : Unit)) => (
  M.bind (M.iter (zbO aa ab ac ae ag ah ai l) 0) fun x_ => match x_ with
  | (.inl (_ : Unit)) => (
  M.pure (false, 0))
  | (.inr (_ : Unit)) => (
  M.pure ((decide (many <= (l.length : Int))), 0)))))
theorem zdM {R : List Chunk} {bc : Cells} {ac : Value} {bf : Cells} {ae : Value} {bg : Cells} {ag : Value} {bh : Cells} {ah : Value} {bi : Cells} {ai : Value} {bj : Cells} {aj : Value} (al : List Int) (au : List Span) (av : List Int) (aw : List Town) (aa : Int) (ab : Int) (ax : List Flood) (many : Int) (l : List Dem) (aH : Reads R bc) (aG : Sl bc ac al) (aI : Reads R bf) (aJ : Sl bf ae au) (aK : Reads R bg) (aL : Sl bg ag av) (aM : Reads R bh) (aN : Sl bh ah aw) (aO : Reads R bi) (aP : Sl bi ai ax) (aS : Reads R bj) (ak : Sl bj aj l) {r : (Bool × Int)} (hM : (zap al au av aw aa ab ax many l).Ends r) (w : World) (H : St w w [] R) : Ret Tryz.prog 39 #[.agg #[ac, ae, ag, ah, I aa, I ab, ai], I many, aj] w fun v w' => ∃ (y0 : Bool) (y1 : Int), (y0, y1) = r /\ v = .tuple #[B y0, I y1] /\ St w w' [] R := by
 refine ret_of_W Tryz.func39 rfl rfl rfl <| W.seq <| W.region rfl ?_;refine t_bx [ac, ae, ag, ah, I aa, I ab, ai] H rfl ?_;intro am bU H;refine zA (B false) rfl <| zA (I 0) rfl <| s_nil <| W.seq <| W.seq <| W.region rfl <| s_val (x_ld (v := .agg #[ac, ae, ag, ah, I aa, I ab, ai]) rfl (ldb_ag (ds := [ac, ae, ag, ah, I aa, I ab, ai]) Ag37 Sz37 (H.bl 0) rfl rfl)) ?_;obtain ⟨bV, bw, hM⟩ := M.e_bind hM;refine s_call cf20 [.agg #[ac, ae, ag, ah, I aa, I ab, ai]] rfl (zb0 al au av aw aa ab ax (aH.app _) aG (aI.app _) aJ (aK.app _) aL (aM.app _) aN (aO.app _) aP bw _ (H.gt 1)) ?_
 rintro vq bW ⟨r2, rfl, hvq, ao⟩
 subst vq;(try dsimp only at hM);replace H := H.bk ao;clear ao;refine zA (I r2) rfl <| s_nil <| W.seq <| W.region rfl <| zM (I r2) rfl <| zC r2 0 (r2 != 0) rfl rfl rfl <| s_nil ?_
 refine W.cond (r2 != 0) rfl (fun az => ?_) (fun az => ?_)
 ·replace hM := M.e_t hM az
  replace az := dI az
  refine W.seq <| W.region rfl <| zM (I r2) rfl <| zA (B false) rfl <| zA (I r2) rfl <| s_nil ?_;refine W.ret ?_
  have aq := M.e_pure hM
  exact ⟨_, resE_tmp2 rfl, ⟨false, r2, aq, rfl, (H.pk [])⟩⟩
 replace hM := M.e_f hM az
 replace az := dI az
 refine W.skip <| W.seq <| W.seq <| W.region rfl <| zM aj rfl ?_
 have bX := (ak).len_le
 refine s_val (x_lenS T66.und rfl ak) <| zC (l.length : Int) 64 (decide (64 < (l.length : Int))) rfl rfl rfl <| s_nil ?_
 refine W.cond (decide (64 < (l.length : Int))) rfl (fun aA => ?_) (fun aA => ?_)
 ·replace hM := M.e_t hM aA
  replace aA := dI aA
  refine W.seq <| W.region rfl <| zA (B false) rfl <| zA (I 3) rfl <| s_nil ?_;refine W.ret ?_
  have aq := M.e_pure hM
  exact ⟨_, resE_tmp2 rfl, ⟨false, 3, aq, rfl, (H.pk [])⟩⟩
 replace hM := M.e_f hM aA
 replace aA := dI aA
 refine W.skip <| W.seq <| W.seq <| W.region rfl <| zA (I 0) rfl <| s_nil <| W.block ?_;obtain ⟨bx, aT, bm⟩ := M.e_bind hM
 obtain ⟨aU, aT⟩ := M.e_iter aT
 refine W.loop (fun m σ W => ∃ (i : Nat) (ρ : Env), σ = upds ρ [(1, I many), (2, aj), (3, Pq am), (9, I (i : Int))] /\ M.iterN (zbh al au av aw aa ab ax l) m i = some bx /\ St w W [cBlk am [ac, ae, ag, ah, I aa, I ab, ai] 37] R) ?_ ?_
 ·exact ⟨_, 0, _, upds_of _ _ ⟨rfl, rfl, rfl, rfl, trivial⟩, aT, H⟩
 rintro bY σ bZ ⟨i, ρ, rfl, bn, H⟩
 obtain ⟨bz, bA, b4, hM, aV⟩ := M.e_iterN bn
 simp only [zbh] at hM
 clear bn;refine W.seq <| W.seq <| W.region rfl <| zM (I (i : Int)) rfl <| zM aj rfl ?_
 have b7 := (ak).len_le
 refine s_val (x_lenS T66.und rfl ak) <| zC (i : Int) (l.length : Int) (decide ((i : Int) < (l.length : Int))) rfl rfl rfl <| s_nil ?_
 refine W.cond (decide ((i : Int) < (l.length : Int))) rfl (fun aB => ?_) (fun aB => ?_)
 ·replace hM := M.e_t hM aB
  replace aB := dI aB
  refine W.skip <| W.seq <| W.block <| W.seq ?_;refine W.draw (fun W => St w W [cBlk am [ac, ae, ag, ah, I aa, I ab, ai] 37] R) [(0, true), (1, true), (2, true), (3, true), (4, true), (5, false), (6, true)] mixed (by decide +kernel) rfl ?_;intro b8 ay;replace H := H.ext ay;clear ay
  refine ⟨(H.pk [0]), ?_⟩
  refine d_q rfl (fun w' H => x_ld (v := .agg #[ac, ae, ag, ah, I aa, I ab, ai]) rfl (ldb_ag (ds := [ac, ae, ag, ah, I aa, I ab, ai]) Ag37 Sz37 (H.bl 0) rfl rfl)) <| d_q rfl (fun w' H => x_mv (v := aj) rfl) <| d_q rfl (fun w' H => x_mv (v := I (i : Int)) rfl) ?_;obtain ⟨b9, hM⟩ := M.e_gd hM;refine d_q rfl (fun w' H => x_ix (v := vat aj 2 (Int.toNat (i : Int))) rfl rfl (Sl.ix (α := Dem) T66.und T66.size ak (by omega) (by omega))) <| d_q rfl (fun w' H => x_ld (v := .agg #[I ((l.getD i default).spring), I ((l.getD i default).town)]) rfl (ld_ag Ag70 Sz70 (At.mono (Dem_atA ak (i := (i : Int)) (by omega) (by omega)) (aS.at H)))) <| d_l rfl ?_;obtain ⟨ca, bB, hM⟩ := M.e_bind hM;refine s_call cf82 [.agg #[ac, ae, ag, ah, I aa, I ab, ai], .agg #[I ((l.getD i default).spring), I ((l.getD i default).town)]] rfl (zd1 al au av aw aa ab ax (l.getD i default) (aH.app _) aG (aI.app _) aJ (aK.app _) aL (aM.app _) aN (aO.app _) aP bB _ (H.gt 1)) ?_
  rintro vq cb ⟨r3, rfl, hvq, ao⟩
  subst vq;(try dsimp only at hM);replace H := H.bk ao;clear ao
  refine s_nil ⟨(H.pk [0]), ?_⟩
  refine d_q rfl (fun w' H => x_not (b := r3) rfl) ?_;refine d_nil ?_
  refine W.cond (!r3) rfl (fun aW => ?_) (fun aW => ?_)
  ·replace hM := M.e_t hM aW;refine W.seq <| W.region rfl <| zA (B false) rfl <| zA (I 2) rfl <| s_nil ?_;refine W.ret ?_
   have bC := M.e_inr hM aV
   subst bC;replace hM := bm;(try dsimp only at hM)
   have aq := M.e_pure hM
   exact ⟨_, resE_tmp2 rfl, ⟨false, 2, aq, rfl, (H.pk [])⟩⟩
  replace hM := M.e_f hM aW;refine W.skip <| W.region rfl <| zM (I (i : Int)) rfl <| zR (i : Int) 1 ((i : Int) + 1) rfl rfl rfl (by omega) <| zA (I ((i : Int) + 1)) rfl <| s_nil ?_
  exact ⟨bz, bA, i + 1, _, upds_of _ _ ⟨rfl, rfl, rfl, rfl, trivial⟩, M.e_inl hM aV, H⟩
 replace hM := M.e_f hM aB
 replace aB := dI aB
 refine W.exit ?_
 have bD := M.e_inr hM aV
 subst bD;replace hM := bm;(try dsimp only at hM);refine W.seq <| W.seq <| W.region rfl <| zA (I 0) rfl <| s_nil <| W.block ?_;obtain ⟨bE, aX, aY⟩ := M.e_bind hM
 obtain ⟨aU, aX⟩ := M.e_iter aX
 refine W.loop (fun m σ W => ∃ (i2 : Nat) (ρ : Env), σ = upds ρ [(1, I many), (2, aj), (3, Pq am), (10, I (i2 : Int))] /\ M.iterN (zbO al au av aw aa ab ax l) m i2 = some bE /\ St w W [cBlk am [ac, ae, ag, ah, I aa, I ab, ai] 37] R) ?_ ?_
 ·exact ⟨_, 0, _, upds_of _ _ ⟨rfl, rfl, rfl, rfl, trivial⟩, aX, H⟩
 rintro cc σ ce ⟨i2, ρ, rfl, bo, H⟩
 obtain ⟨bF, bG, cf, hM, aQ⟩ := M.e_iterN bo
 simp only [zbO] at hM
 clear bo;refine W.seq <| W.seq <| W.region rfl <| zM (I (i2 : Int)) rfl <| zM aj rfl ?_
 have cg := (ak).len_le
 refine s_val (x_lenS T66.und rfl ak) <| zC (i2 : Int) (l.length : Int) (decide ((i2 : Int) < (l.length : Int))) rfl rfl rfl <| s_nil ?_
 refine W.cond (decide ((i2 : Int) < (l.length : Int))) rfl (fun aC => ?_) (fun aC => ?_)
 ·replace hM := M.e_t hM aC
  replace aC := dI aC
  refine W.skip <| W.seq <| W.block <| W.seq <| W.region rfl <| zA (I 0) rfl <| s_nil <| W.seq <| W.seq <| W.region rfl ?_;refine zA (I 0) rfl <| s_nil <| W.block ?_;obtain ⟨bH, aZ, bp⟩ := M.e_bind hM
  obtain ⟨aU, aZ⟩ := M.e_iter aZ
  refine W.loop (fun m σ W => ∃ (s : Nat) (own : Nat) (ρ : Env), σ = upds ρ [(1, I many), (2, aj), (3, Pq am), (10, I (i2 : Int)), (11, I (own : Int)), (12, I (s : Int))] /\ M.iterN (zbC al au av aw aa ab ax l i2) m (s, own) = some bH /\ St w W [cBlk am [ac, ae, ag, ah, I aa, I ab, ai] 37] R) ?_ ?_
  ·exact ⟨_, 0, 0, _, upds_of _ _ ⟨rfl, rfl, rfl, rfl, rfl, rfl, trivial⟩, aZ, H⟩
  rintro ck σ cl ⟨s, own, ρ, rfl, bq, H⟩
  obtain ⟨br, bt, cm, hM, aR⟩ := M.e_iterN bq
  simp only [zbC] at hM
  clear bq;refine W.seq <| W.seq <| W.region rfl <| zM (I (s : Int)) rfl <| s_val (x_fa (v := Pq am) rfl (fa_blk (o := 0) Fd37_0 Sz22)) <| s_val (x_ld (v := ac) rfl (ldb_sc Sc22 (H.bl 0) rfl)) ?_
  have cn := (aG).len_le
  refine s_val (x_lenS T22.und rfl aG) <| zC (s : Int) (al.length : Int) (decide ((s : Int) < (al.length : Int))) rfl rfl rfl <| s_nil ?_
  refine W.cond (decide ((s : Int) < (al.length : Int))) rfl (fun aD => ?_) (fun aD => ?_)
  ·replace hM := M.e_t hM aD
   replace aD := dI aD
   refine W.skip <| W.seq <| W.block <| W.seq <| W.seq ?_;refine W.draw (fun W => St w W [cBlk am [ac, ae, ag, ah, I aa, I ab, ai] 37] R) [(0, true), (1, true), (2, true), (3, true), (4, true), (5, true), (6, false), (7, true)] mixed (by decide +kernel) rfl ?_;intro co ay;replace H := H.ext ay;clear ay
   refine ⟨(H.pk [0]), ?_⟩
   refine d_q rfl (fun w' H => x_ld (v := .agg #[ac, ae, ag, ah, I aa, I ab, ai]) rfl (ldb_ag (ds := [ac, ae, ag, ah, I aa, I ab, ai]) Ag37 Sz37 (H.bl 0) rfl rfl)) <| d_q rfl (fun w' H => x_mv (v := I (s : Int)) rfl) <| d_q rfl (fun w' H => x_mv (v := aj) rfl) <| d_q rfl (fun w' H => x_mv (v := I (i2 : Int)) rfl) ?_;obtain ⟨cp, hM⟩ := M.e_gd hM;refine d_q rfl (fun w' H => x_ix (v := vat aj 2 (Int.toNat (i2 : Int))) rfl rfl (Sl.ix (α := Dem) T66.und T66.size ak (by omega) (by omega))) <| d_q rfl (fun w' H => x_ld (v := .agg #[I ((l.getD i2 default).spring), I ((l.getD i2 default).town)]) rfl (ld_ag Ag70 Sz70 (At.mono (Dem_atA ak (i := (i2 : Int)) (by omega) (by omega)) (aS.at H)))) <| d_l rfl ?_;obtain ⟨cq, bI, hM⟩ := M.e_bind hM;refine s_call cf83 [.agg #[ac, ae, ag, ah, I aa, I ab, ai], I (s : Int), .agg #[I ((l.getD i2 default).spring), I ((l.getD i2 default).town)]] rfl (zcB al au av aw aa ab ax (s : Int) (l.getD i2 default) (aH.app _) aG (aI.app _) aJ (aK.app _) aL (aM.app _) aN (aO.app _) aP bI _ (H.gt 1)) ?_
   rintro vq cu ⟨r4, rfl, hvq, ao⟩
   subst vq;(try dsimp only at hM);replace H := H.bk ao;clear ao
   refine s_nil ⟨(H.pk [0]), ?_⟩
   refine d_q rfl (fun w' H => x_not (b := r4) rfl) ?_;refine d_nil ?_
   refine W.cond (!r4) rfl (fun a6 => ?_) (fun a6 => ?_)
   ·replace hM := M.e_t hM a6;refine W.exit <| W.region rfl <| zM (I (s : Int)) rfl <| zR (s : Int) 1 ((s : Int) + 1) rfl rfl rfl (by omega) <| zA (I ((s : Int) + 1)) rfl <| s_nil ?_
    exact ⟨br, bt, s + 1, own, _, upds_of _ _ ⟨rfl, rfl, rfl, rfl, rfl, rfl, trivial⟩, M.e_inl hM aR, H⟩
   replace hM := M.e_f hM a6;refine W.skip <| W.seq <| W.region rfl <| zM (I (own : Int)) rfl ?_;obtain ⟨cw, hM⟩ := M.e_gd hM;refine zR (own : Int) 1 ((own : Int) + 1) rfl rfl rfl (by omega) <| zA (I ((own : Int) + 1)) rfl <| s_nil <| W.seq <| W.region rfl <| zA (I 0) rfl <| s_nil <| W.block ?_;obtain ⟨bJ, a7, bu⟩ := M.e_bind hM
   obtain ⟨aU, a7⟩ := M.e_iter a7
   refine W.loop (fun m σ W => ∃ (k : Nat) (ρ : Env), σ = upds ρ [(1, I many), (2, aj), (3, Pq am), (10, I (i2 : Int)), (11, I ((own : Int) + 1)), (12, I (s : Int)), (13, I (k : Int))] /\ M.iterN (zbx al au av aw aa ab ax l i2 s) m k = some bJ /\ St w W [cBlk am [ac, ae, ag, ah, I aa, I ab, ai] 37] R) ?_ ?_
   ·exact ⟨_, 0, _, upds_of _ _ ⟨rfl, rfl, rfl, rfl, rfl, rfl, rfl, trivial⟩, a7, H⟩
   rintro cx σ cy ⟨k, ρ, rfl, bv, H⟩
   obtain ⟨bK, bL, cz, hM, a8⟩ := M.e_iterN bv
   simp only [zbx] at hM
   clear bv;refine W.seq <| W.seq <| W.region rfl <| zM (I (k : Int)) rfl <| zM (I (i2 : Int)) rfl <| zC (k : Int) (i2 : Int) (decide ((k : Int) < (i2 : Int))) rfl rfl rfl <| s_nil ?_
   refine W.cond (decide ((k : Int) < (i2 : Int))) rfl (fun aE => ?_) (fun aE => ?_)
   ·replace hM := M.e_t hM aE
    replace aE := dI aE
    refine W.skip <| W.seq <| W.block <| W.seq ?_;refine W.draw (fun W => St w W [cBlk am [ac, ae, ag, ah, I aa, I ab, ai] 37] R) [(0, true), (1, true), (2, true), (3, true), (4, true), (5, true), (6, false)] mixed (by decide +kernel) rfl ?_;intro cA ay;replace H := H.ext ay;clear ay
    refine ⟨(H.pk [0]), ?_⟩
    refine d_q rfl (fun w' H => x_ld (v := .agg #[ac, ae, ag, ah, I aa, I ab, ai]) rfl (ldb_ag (ds := [ac, ae, ag, ah, I aa, I ab, ai]) Ag37 Sz37 (H.bl 0) rfl rfl)) <| d_q rfl (fun w' H => x_mv (v := I (s : Int)) rfl) <| d_q rfl (fun w' H => x_mv (v := aj) rfl) <| d_q rfl (fun w' H => x_mv (v := I (k : Int)) rfl) ?_;obtain ⟨cB, hM⟩ := M.e_gd hM;refine d_q rfl (fun w' H => x_ix (v := vat aj 2 (Int.toNat (k : Int))) rfl rfl (Sl.ix (α := Dem) T66.und T66.size ak (by omega) (by omega))) <| d_q rfl (fun w' H => x_ld (v := .agg #[I ((l.getD k default).spring), I ((l.getD k default).town)]) rfl (ld_ag Ag70 Sz70 (At.mono (Dem_atA ak (i := (k : Int)) (by omega) (by omega)) (aS.at H)))) <| d_l rfl ?_;obtain ⟨cC, bM, hM⟩ := M.e_bind hM;refine s_call cf83 [.agg #[ac, ae, ag, ah, I aa, I ab, ai], I (s : Int), .agg #[I ((l.getD k default).spring), I ((l.getD k default).town)]] rfl (zcB al au av aw aa ab ax (s : Int) (l.getD k default) (aH.app _) aG (aI.app _) aJ (aK.app _) aL (aM.app _) aN (aO.app _) aP bM _ (H.gt 1)) ?_
    rintro vq cD ⟨r5, rfl, hvq, ao⟩
    subst vq;(try dsimp only at hM);replace H := H.bk ao;clear ao
    refine s_nil ⟨(H.pk [0]), ?_⟩
    refine d_nil ?_
    refine W.cond r5 rfl (fun ba => ?_) (fun ba => ?_)
    ·replace hM := M.e_t hM ba;refine W.seq <| W.region rfl <| zA (B false) rfl <| zA (I 0) rfl <| s_nil ?_;refine W.ret ?_
     have bN := M.e_inr hM a8
     subst bN;replace hM := bu;(try dsimp only at hM)
     have bO := M.e_inr hM aR
     subst bO;replace hM := bp;(try dsimp only at hM)
     have bP := M.e_inr hM aQ
     subst bP;replace hM := aY;(try dsimp only at hM)
     have aq := M.e_pure hM
     exact ⟨_, resE_tmp2 rfl, ⟨false, 0, aq, rfl, (H.pk [])⟩⟩
    replace hM := M.e_f hM ba;refine W.skip <| W.region rfl <| zM (I (k : Int)) rfl <| zR (k : Int) 1 ((k : Int) + 1) rfl rfl rfl (by omega) <| zA (I ((k : Int) + 1)) rfl <| s_nil ?_
    exact ⟨bK, bL, k + 1, _, upds_of _ _ ⟨rfl, rfl, rfl, rfl, rfl, rfl, rfl, trivial⟩, M.e_inl hM a8, H⟩
   replace hM := M.e_f hM aE
   replace aE := dI aE
   refine W.exit ?_
   have bQ := M.e_inr hM a8
   subst bQ;replace hM := bu;(try dsimp only at hM);refine W.region rfl <| zM (I (s : Int)) rfl <| zR (s : Int) 1 ((s : Int) + 1) rfl rfl rfl (by omega) <| zA (I ((s : Int) + 1)) rfl <| s_nil ?_
   exact ⟨br, bt, s + 1, own + 1, _, upds_of _ _ ⟨rfl, rfl, rfl, rfl, rfl, rfl, trivial⟩, M.e_inl hM aR, H⟩
  replace hM := M.e_f hM aD
  replace aD := dI aD
  refine W.exit ?_
  have bR := M.e_inr hM aR
  subst bR;replace hM := bp;(try dsimp only at hM);refine W.seq <| W.region rfl <| zM (I (own : Int)) rfl <| zC (own : Int) 0 ((own : Int) == 0) rfl rfl rfl <| s_nil ?_
  refine W.cond ((own : Int) == 0) rfl (fun aF => ?_) (fun aF => ?_)
  ·replace hM := M.e_t hM aF
   replace aF := dI aF
   refine W.seq <| W.region rfl <| zA (B false) rfl <| zA (I 0) rfl <| s_nil ?_;refine W.ret ?_
   have bS := M.e_inr hM aQ
   subst bS;replace hM := aY;(try dsimp only at hM)
   have aq := M.e_pure hM
   exact ⟨_, resE_tmp2 rfl, ⟨false, 0, aq, rfl, (H.pk [])⟩⟩
  replace hM := M.e_f hM aF
  replace aF := dI aF
  refine W.skip <| W.region rfl <| zM (I (i2 : Int)) rfl <| zR (i2 : Int) 1 ((i2 : Int) + 1) rfl rfl rfl (by omega) <| zA (I ((i2 : Int) + 1)) rfl <| s_nil ?_
  exact ⟨bF, bG, i2 + 1, _, upds_of _ _ ⟨rfl, rfl, rfl, rfl, trivial⟩, M.e_inl hM aQ, H⟩
 replace hM := M.e_f hM aC
 replace aC := dI aC
 refine W.exit ?_
 have bT := M.e_inr hM aQ
 subst bT;replace hM := aY;(try dsimp only at hM);refine W.seq <| W.region rfl <| zM aj rfl ?_
 have cE := (ak).len_le
 refine s_val (x_lenS T66.und rfl ak) <| zM (I many) rfl <| zC (l.length : Int) many (decide (many <= (l.length : Int))) rfl rfl rfl <| zA (B (decide (many <= (l.length : Int)))) rfl <| zA (I 0) rfl <| s_nil ?_;refine W.ret ?_
 have aq := M.e_pure hM
 exact ⟨_, resE_tmp2 rfl, ⟨(decide (many <= (l.length : Int))), 0, aq, rfl, (H.pk [])⟩⟩

def zcF (x : Dem) (aa : List Int) (ab : List Span) (ac : List Int) (ae : List Town) (ag ah : Int) (ai : List Flood) : M Bool :=
  M.bind (zck aa ab ac ae ag ah ai x) fun r2 =>
  M.pure (!r2)
theorem zex {R : List Chunk} {ak : Nat} {aa : Nat} {al : Cells} {am : Value} {ao : Cells} {aq : Value} {au : Cells} {av : Value} {aw : Cells} {ax : Value} {ay : Cells} {az : Value} {aB : Nat} (x : Dem) (ab : List Int) (ac : List Span) (ae : List Int) (ag : List Town) (ah : Int) (ai : Int) (aj : List Flood) (aC : Reads R al) (aD : Sl al am ab) (aE : Reads R ao) (aF : Sl ao aq ac) (aG : Reads R au) (aH : Sl au av ae) (aI : Reads R aw) (aJ : Sl aw ax ag) (aK : Reads R ay) (aL : Sl ay az aj) (aM : Has R (cBlk aa [am, aq, av, ax, I ah, I ai, az, .map (some aB)] 111)) (aN : Has R (cBlk ak [.func (.func 79) #[Pq aa] #[]] 133)) {r : Bool} (hM : (zcF x ab ac ae ag ah ai aj).Ends r) (w : World) (H : St w w [] R) : Ret Tryz.prog 107 #[.agg #[I x.spring, I x.town], Pq ak] w fun v w' => ∃ (y0 : Bool), y0 = r /\ v = B y0 /\ St w w' [] R := by
 refine ret_of_W Tryz.func107 rfl rfl rfl <| W.seq <| W.region rfl ?_;refine t_bx [I x.spring, I x.town] H rfl ?_;intro aQ aR H;refine zA (B false) rfl <| s_nil <| W.seq <| W.region rfl <| s_val (x_ld (v := .func (.func 79) #[Pq aa] #[]) rfl (ldb_sc Sc133 (aN.blk H) rfl)) <| s_val (x_ld (v := .agg #[I x.spring, I x.town]) rfl (ldb_ag (ds := [I x.spring, I x.town]) Ag61 Sz61 (H.bl 0) rfl rfl)) ?_;obtain ⟨aS, aO, hM⟩ := M.e_bind hM;refine s_callm (f := 79) (fs := [Pq aa]) rfl cf79 [.agg #[I x.spring, I x.town]] rfl (zdF ab ac ae ag ah ai aj x (aC.app _) aD (aE.app _) aF (aG.app _) aH (aI.app _) aJ (aK.app _) aL (aM.app _) aO _ (H.gt 1)) ?_
 rintro vq aT ⟨r2, rfl, hvq, aA⟩
 subst vq;(try dsimp only at hM);replace H := H.bk aA;clear aA;refine s_val (x_not (b := r2) rfl) <| zA (B (!r2)) rfl <| s_nil ?_;refine W.ret ?_
 have aP := M.e_pure hM
 exact ⟨_, resE_tmp rfl, ⟨(!r2), aP, rfl, (H.pk [])⟩⟩

def zb3 (l : List Dem) (aa : List Int) (ab : List Span) (ac : List Int) (ae : List Town) (ag ah : Int) (ai : List Flood) : M Bool :=
  M.bind (zbQ l (fun aj => zcF aj aa ab ac ae ag ah ai)) fun r2 =>
  M.pure (!r2)
theorem zeH {R : List Chunk} {ao : Cells} {aa : Value} {ak : Nat} {aq : Cells} {au : Value} {av : Cells} {aw : Value} {ax : Cells} {ay : Value} {az : Cells} {aA : Value} {aB : Cells} {aC : Value} {aF : Nat} (l : List Dem) (ab : List Int) (ac : List Span) (ae : List Int) (ag : List Town) (ah : Int) (ai : Int) (aj : List Flood) (aG : Reads R ao) (aH : Sl ao aa l) (aI : Reads R aq) (aJ : Sl aq au ab) (aK : Reads R av) (aL : Sl av aw ac) (aM : Reads R ax) (aN : Sl ax ay ae) (aO : Reads R az) (aP : Sl az aA ag) (aQ : Reads R aB) (aR : Sl aB aC aj) (aS : Has R (cBlk ak [au, aw, ay, aA, I ah, I ai, aC, .map (some aF)] 111)) {r : Bool} (hM : (zb3 l ab ac ae ag ah ai aj).Ends r) (w : World) (H : St w w [] R) : Ret Tryz.prog 90 #[aa, .func (.func 79) #[Pq ak] #[]] w fun v w' => ∃ (y0 : Bool), y0 = r /\ v = B y0 /\ St w w' [] R := by
 refine ret_of_W Tryz.func90 rfl rfl rfl <| W.seq <| W.region rfl ?_;refine t_b1 (.func (.func 79) #[Pq ak] #[]) H rfl rfl ?_;intro al a8 H;refine zA (B false) rfl <| s_nil <| W.seq <| W.region rfl <| zM aa rfl <| s_val (x_mf (fs := []) (cs := [Pq al]) rfl rfl) ?_;obtain ⟨ba, aT, hM⟩ := M.e_bind hM;refine s_call cf97 [aa, .func (.func 107) #[] #[Pq al]] rfl (zdG l (fun am => zcF am ab ac ae ag ah ai aj) (aG.app _) aH ⟨107, [Pq al], rfl, cf107, fun aD bc bf aU am bg aV bh aW aX => by obtain rfl := Dem_arg aW; exact (zex am ab ac ae ag ah ai aj (Reads.app (aI.app _) _) aJ (Reads.app (aK.app _) _) aL (Reads.app (aM.app _) _) aN (Reads.app (aO.app _) _) aP (Reads.app (aQ.app _) _) aR (Has.app (aS.app _) _) (Has.app (Has.here (k := 0) rfl) _) aX aD (St.refl aV)).mono fun aU aD ⟨bi, aY, aZ, a6⟩ => by subst aY; exact ⟨aZ, a6⟩⟩ aT _ (H.gt 1)) ?_
 rintro vq bj ⟨r2, rfl, hvq, aE⟩
 subst vq;(try dsimp only at hM);replace H := H.bk aE;clear aE;refine s_val (x_not (b := r2) rfl) <| zA (B (!r2)) rfl <| s_nil ?_;refine W.ret ?_
 have a7 := M.e_pure hM
 exact ⟨_, resE_tmp rfl, ⟨(!r2), a7, rfl, (H.pk [])⟩⟩

def zbZ (s : Int) (k0 : List Bool) : M Bool :=
  M.grd (decide ((0 : Int) <= s) && decide (s < (12 : Int))) <|
  M.pure (k0.getD (Int.toNat s) false)
theorem zek {R : List Chunk} {aa : Nat} (s : Int) (k0 : List Bool) (ab : k0.length = 12) (ac : Has R (cBlk aa (encB k0) 96)) {r : Bool} (hM : (zbZ s k0).Ends r) (w : World) (H : St w w [] R) : Ret Tryz.prog 91 #[I s, Pq aa] w fun v w' => ∃ (y0 : Bool), y0 = r /\ v = B y0 /\ St w w' [] R := by
 refine ret_of_W Tryz.func91 rfl rfl rfl <| W.seq <| W.region rfl <| zA (B false) rfl <| s_nil <| W.seq <| W.region rfl <| zM (I s) rfl ?_;obtain ⟨ag, hM⟩ := M.e_gd hM;refine s_val (x_ix (v := .pointer (some ⟨aa, 0 + Int.toNat s, none⟩)) rfl rfl (run_indexArr Tryz.underlying96 Sz4 (by omega) (by omega))) <| s_val (x_ld (v := B (k0.getD (Int.toNat s) false)) rfl (ldArr Sc4 (ac.blk H) (by omega) (by have ah := ab; omega))) <| zA (B (k0.getD (Int.toNat s) false)) rfl <| s_nil ?_;refine W.ret ?_
 have ae := M.e_pure hM
 exact ⟨_, resE_tmp rfl, ⟨(k0.getD (Int.toNat s) false), ae, rfl, H⟩⟩

def zbe (r3 : List Int) : ((List Bool) × Nat) -> M (((List Bool) × Nat) ⊕ (List Bool)) := fun (ar, s) =>
  bif decide ((s : Int) < (r3.length : Int)) then (
  M.grd (decide ((s : Int) < (r3.length : Int))) <|
  M.grd (decide ((0 : Int) <= (r3.getD s 0)) && decide ((r3.getD s 0) < (12 : Int))) <|
  M.pure (.inl (ar.set (Int.toNat (r3.getD s 0)) true, s + 1)))
  else (
  M.pure (.inr ar))
def zbR (ab : List Int) (ac : List Span) (ae : List Int) (ag : List Town) (ah : List Flood) (l : List Dem) (ai aj : Int) : ((List Bool) × Nat) -> M (((List Bool) × Nat) ⊕ ((List Bool) ⊕ (List Bool))) := fun (aa, s2) =>
  bif decide ((s2 : Int) < (l.length : Int)) then (
  M.grd (decide ((s2 : Int) < (l.length : Int))) <|
  M.bind (zaa ab ac ae ag ai aj ah (l.getD s2 default)) fun r3 =>
  M.bind (M.opt (!((r3.length : Int) == 0)) (zau r3 (fun ak => zbZ ak aa)) false) fun r4 =>
  bif (((r3.length : Int) == 0) || r4) then (
  M.pure (.inr (.inl aa)))
  else (
  M.bind (M.iter (zbe r3) (aa, 0)) fun al =>
  M.pure (.inl (al, s2 + 1))))
  else (
  M.pure (.inr (.inr aa)))
def zax (aa : List Int) (ab : List Span) (ac : List Int) (ae : List Town) (aj ak : Int) (ag : List Flood) (many : Int) (l : List Dem) : M (Bool × Int) :=
  M.bind (zak aa ab ac ae aj ak ag) fun x_ => match x_ with
  | (.inl r1) => (
  bif r1 != 0 then (
  M.pure (false, r1))
  else (
  M.fail))
  | (.inr (ah, ai, al)) => (
  bif al != 0 then (
  M.fail)
  else (
  bif decide (64 < (l.length : Int)) then (
  M.pure (false, 3))
  else (
  M.bind (zb3 l aa ab ac ae ah ai ag) fun r2 =>
  bif !r2 then (
  M.pure (false, 2))
  else (
  M.bind (M.iter (zbR aa ab ac ae ag l ah ai) (List.replicate 12 false, 0)) fun x_ => match x_ with
  | (.inl am) => (
  M.pure (false, 0))
  | (.inr ao) => (
  M.pure ((decide (many <= (l.length : Int))), 0))))))
theorem zen {R : List Chunk} {bc : Cells} {ab : Value} {bf : Cells} {ac : Value} {bg : Cells} {ae : Value} {bh : Cells} {ag : Value} {bi : Cells} {ah : Value} {bj : Cells} {ai : Value} (au : List Int) (av : List Span) (aw : List Int) (ax : List Town) (am : Int) (ao : Int) (ay : List Flood) (many : Int) (l : List Dem) (aL : Reads R bc) (aM : Sl bc ab au) (aN : Reads R bf) (aO : Sl bf ac av) (aP : Reads R bg) (aQ : Sl bg ae aw) (aR : Reads R bh) (aS : Sl bh ag ax) (aT : Reads R bi) (aU : Sl bi ah ay) (bm : Reads R bj) (az : Sl bj ai l) {r : (Bool × Int)} (hM : (zax au av aw ax am ao ay many l).Ends r) (w : World) (H : St w w [] R) : Ret Tryz.prog 40 #[.agg #[ab, ac, ae, ag, I am, I ao, ah], I many, ai] w fun v w' => ∃ (y0 : Bool) (y1 : Int), (y0, y1) = r /\ v = .tuple #[B y0, I y1] /\ St w w' [] R := by
 refine ret_of_W Tryz.func40 rfl rfl rfl <| W.seq <| W.region rfl ?_;refine t_bx [ab, ac, ae, ag, I am, I ao, ah] H rfl ?_;intro aV bY H;refine zA (B false) rfl <| zA (I 0) rfl <| s_nil <| W.seq <| W.region rfl <| s_val (x_ld (v := .agg #[ab, ac, ae, ag, I am, I ao, ah]) rfl (ldb_ag (ds := [ab, ac, ae, ag, I am, I ao, ah]) Ag29 Sz29 (H.bl 0) rfl rfl)) ?_;obtain ⟨bZ, bv, hM⟩ := M.e_bind hM;refine s_call cf72 [.agg #[ab, ac, ae, ag, I am, I ao, ah]] rfl (zaJ au av aw ax am ao ay (aL.app _) aM (aN.app _) aO (aP.app _) aQ (aR.app _) aS (aT.app _) aU bv _ (H.gt 1)) ?_
 rintro vq b4 (⟨r1, bw, hvq, ak⟩ | ⟨aA, aB, aq, aa, aI, bx, bz, hvq, ak⟩)
 ·subst bw;subst vq;(try dsimp only at hM);replace H := H.bk ak;clear ak;refine zM (.tuple #[.pointer none, I r1]) rfl <| zX [.pointer none, I r1] (.pointer none) rfl rfl <| zX [.pointer none, I r1] (I r1) rfl rfl <| zA (.pointer none) rfl <| zA (I r1) rfl <| s_nil <| W.seq <| W.block <| W.seq <| W.region rfl ?_;refine zM (I r1) rfl <| zC r1 0 (r1 != 0) rfl rfl rfl <| zA (B (r1 != 0)) rfl <| s_nil ?_
  refine W.cond (r1 != 0) rfl (fun aJ => ?_) (fun aJ => ?_)
  ·replace hM := M.e_t hM aJ
   replace aJ := dI aJ
   refine W.seq <| W.region rfl <| zM (I r1) rfl <| zA (B false) rfl <| zA (I r1) rfl <| s_nil ?_;refine W.ret ?_
   have al := M.e_pure hM
   exact ⟨_, resE_tmp2 rfl, ⟨false, r1, al, rfl, (H.pk [])⟩⟩
  replace hM := M.e_f hM aJ
  exact (M.e_fail hM).elim
 subst bz;subst vq;(try dsimp only at hM);replace H := H.bk ak;clear ak;refine zM (.tuple #[Pq aa, I aq]) rfl <| zX [Pq aa, I aq] (Pq aa) rfl rfl <| zX [Pq aa, I aq] (I aq) rfl rfl <| zA (Pq aa) rfl <| zA (I aq) rfl <| s_nil <| W.seq <| W.block <| W.seq <| W.region rfl ?_;refine zM (I aq) rfl <| zC aq 0 (aq != 0) rfl rfl rfl <| zA (B (aq != 0)) rfl <| s_nil ?_
 refine W.cond (aq != 0) rfl (fun aK => ?_) (fun aK => ?_)
 ·replace hM := M.e_t hM aK
  exact (M.e_fail hM).elim
 replace hM := M.e_f hM aK
 replace aK := dI aK
 refine W.seq <| W.region rfl <| zM ai rfl ?_
 have b7 := (az).len_le
 refine s_val (x_lenS T62.und rfl az) <| zC (l.length : Int) 64 (decide (64 < (l.length : Int))) rfl rfl rfl <| zA (B (decide (64 < (l.length : Int)))) rfl <| s_nil ?_
 refine W.cond (decide (64 < (l.length : Int))) rfl (fun aD => ?_) (fun aD => ?_)
 ·replace hM := M.e_t hM aD
  replace aD := dI aD
  refine W.seq <| W.region rfl <| zA (B false) rfl <| zA (I 3) rfl <| s_nil ?_;replace H := H.pk [];refine W.ret ?_
  have al := M.e_pure hM
  exact ⟨_, resE_tmp2 rfl, ⟨false, 3, al, rfl, H⟩⟩
 replace hM := M.e_f hM aD
 replace aD := dI aD
 refine W.seq <| W.region rfl <| zM ai rfl <| zM (Pq aa) rfl <| s_val (x_mf (fs := [Pq aa]) (cs := []) rfl rfl) ?_;obtain ⟨b8, bA, hM⟩ := M.e_bind hM;refine s_call cf90 [ai, .func (.func 79) #[Pq aa] #[]] rfl (zeH l au av aw ax aA aB ay (bm.app _) az (aL.app _) aM (aN.app _) aO (aP.app _) aQ (aR.app _) aS (aT.app _) aU (Has.here (k := 0) rfl) bA _ (H.gt 3)) ?_
 rintro vq b9 ⟨r2, rfl, hvq, ak⟩
 subst vq;(try dsimp only at hM);replace H := H.bk ak;clear ak;refine s_val (x_not (b := r2) rfl) <| zA (B (!r2)) rfl <| s_nil ?_
 refine W.cond (!r2) rfl (fun aW => ?_) (fun aW => ?_)
 ·replace hM := M.e_t hM aW;refine W.seq <| W.region rfl <| zA (B false) rfl <| zA (I 2) rfl <| s_nil ?_;replace H := H.pk [];refine W.ret ?_
  have al := M.e_pure hM
  exact ⟨_, resE_tmp2 rfl, ⟨false, 2, al, rfl, H⟩⟩
 replace hM := M.e_f hM aW;refine W.skip <| W.seq <| W.region rfl ?_;refine t_alloc (cs := encB (List.replicate 12 false)) H Al96 rfl ?_;intro aj ca H
 have bB : (List.replicate 12 false).length = 12 := by simp
 refine s_nil <| W.seq <| W.seq <| W.region rfl <| zM ai rfl ?_
 have cb := (az).len_le
 refine s_val (x_lenS T62.und rfl az) <| zM (I 0) rfl <| s_nil <| W.block ?_;obtain ⟨bC, aX, bn⟩ := M.e_bind hM
 obtain ⟨bD, aX⟩ := M.e_iter aX
 refine W.loop (fun m σ W => ∃ (aE : List Bool) (s2 : Nat) (B_mem : Base) (ρ : Env), σ = upds ρ [(1, I many), (2, ai), (8, Pq aa), (10, Pq aj), (35, ai), (36, I (l.length : Int)), (37, I (s2 : Int))] /\ M.iterN (zbR au av aw ax ay l aA aB) m (aE, s2) = some bC /\ St w W [cBlk aj (encB aE) 96, cBlk aa [ab, ac, ae, ag, I aA, I aB, ah, .map (some aI)] 111, cMem encDm aI B_mem (zaa au av aw ax aA aB ay), cBlk aV [ab, ac, ae, ag, I am, I ao, ah] 29] R /\ aE.length = 12) ?_ ?_
 ·exact ⟨_, List.replicate 12 false, 0, bx, _, upds_of _ _ ⟨rfl, rfl, rfl, rfl, rfl, rfl, rfl, trivial⟩, aX, H, bB⟩
 rintro cc σ ce ⟨aE, s2, B_mem, ρ, rfl, bo, H, bp⟩
 obtain ⟨bE, bF, cf, hM, aY⟩ := M.e_iterN bo
 simp only [zbR] at hM
 clear bo;refine W.seq <| W.region rfl <| zC (s2 : Int) (l.length : Int) (decide ((s2 : Int) < (l.length : Int))) rfl rfl rfl <| s_nil <| W.seq ?_
 refine W.cond (decide ((s2 : Int) < (l.length : Int))) rfl (fun aF => ?_) (fun aF => ?_)
 ·replace hM := M.e_t hM aF
  replace aF := dI aF
  refine W.skip <| W.seq <| W.block <| W.seq <| W.region rfl ?_;obtain ⟨cg, hM⟩ := M.e_gd hM;refine s_val (x_ix (v := vat ai 2 (Int.toNat (s2 : Int))) rfl rfl (Sl.ix (α := Dem) T62.und T62.size az (by omega) (by omega))) <| s_val (x_ld (v := .agg #[I ((l.getD s2 default).spring), I ((l.getD s2 default).town)]) rfl (ld_ag Ag61 Sz61 (At.mono (Dem_atA az (i := (s2 : Int)) (by omega) (by omega)) (bm.at H)))) ?_;refine t_alloc (cs := [I 0, I 0]) H Al61 rfl ?_;intro bq ck H;refine t_sw 0 0 [I ((l.getD s2 default).spring), I ((l.getD s2 default).town)] (.agg #[I ((l.getD s2 default).spring), I ((l.getD s2 default).town)]) H rfl rfl Sz61 rfl rfl rfl rfl ?_;intro cl H;refine s_nil <| W.seq <| W.region rfl <| zM (Pq aa) rfl <| s_val (x_ld (v := .agg #[I ((l.getD s2 default).spring), I ((l.getD s2 default).town)]) rfl (ldb_ag (ds := [I ((l.getD s2 default).spring), I ((l.getD s2 default).town)]) Ag61 Sz61 (H.bl 0) rfl rfl)) ?_;obtain ⟨cm, bG, hM⟩ := M.e_bind hM;refine s_call cf81 [Pq aa, .agg #[I ((l.getD s2 default).spring), I ((l.getD s2 default).town)]] rfl (zbH au av aw ax aA aB ay (l.getD s2 default) (aL.app _) aM (aN.app _) aO (aP.app _) aQ (aR.app _) aS (aT.app _) aU (Has.here (k := 2) rfl) bG _ ((H.pk [3, 0, 1, 2, 4]).gt 4)) ?_
  rintro vq cn ⟨r3, aC, aZ, rfl, hvq, ak, aG⟩
  subst vq;(try dsimp only at hM)
  replace H := H.pk [3, 0, 1, 2, 4] |>.bk ak
  clear ak;refine zA aC rfl <| s_nil <| W.seq <| W.seq <| W.region rfl <| zM aC rfl ?_
  have co := (aG).len_le
  refine s_val (x_lenS T22.und rfl aG) <| zC (r3.length : Int) 0 ((r3.length : Int) == 0) rfl rfl rfl <| zM (B ((r3.length : Int) == 0)) rfl <| g_val (!((r3.length : Int) == 0)) (gy_f rfl) (fun hg => x_mv (v := aC) rfl) <| g_val (!((r3.length : Int) == 0)) (gy_f rfl) (fun hg => x_mf (fs := []) (cs := [Pq aj]) rfl rfl) ?_;obtain ⟨r4, bH, hM⟩ := M.e_bind hM;refine t_gcall (!((r3.length : Int) == 0)) (gy_f rfl) cf86 (B r4) (fun _ => [aC, .func (.func 91) #[] #[Pq aj]]) (fun hg => lst2 (gd_of hg (aC)) (gd_of hg (.func (.func 91) #[] #[Pq aj]))) H (fun hg => (zc8 r3 (fun a6 => zbZ a6 aE) (Reads.of (k := 0) rfl memLe) aG ⟨91, [Pq aj], rfl, cf91, fun br cp cq bI a6 cu bJ cw bK bL => by obtain rfl := Arg.int bK; exact (zek a6 aE bp (Has.app (Has.here (k := 2) rfl) _) bL br (St.refl bJ)).mono fun bI br ⟨cx, bM, bN, bO⟩ => by subst bM; exact ⟨bN, bO⟩⟩ (M.e_opt bH hg) _ (H.give (A := []) rfl)).mono fun v_ w_ ⟨y_, al, bP, H_⟩ => by subst al; exact ⟨bP, H.via H_⟩) ?_;intro cy H;refine s_val (x_por (b := (r3.length : Int) == 0) (r := r4) rfl rfl (fun hb => gd_of (c := !((r3.length : Int) == 0)) (by first | exact hb | (rw [hb]; rfl) | simp_all) (B r4))) <| s_nil ?_
  refine W.cond (((r3.length : Int) == 0) || r4) rfl (fun a7 => ?_) (fun a7 => ?_)
  ·replace hM := M.e_t hM a7;refine W.seq <| W.region rfl <| zA (B false) rfl <| zA (I 0) rfl <| s_nil ?_;refine W.ret ?_
   have bQ := M.e_inr hM aY
   subst bQ;replace hM := bn;(try dsimp only at hM)
   have al := M.e_pure hM
   exact ⟨_, resE_tmp2 rfl, ⟨false, 0, al, rfl, (H.pk [])⟩⟩
  replace hM := M.e_f hM a7;refine W.skip <| W.seq <| W.region rfl <| zM aC rfl ?_
  have cz := (aG).len_le
  refine s_val (x_lenS T22.und rfl aG) <| zM (I 0) rfl <| s_nil <| W.block ?_;obtain ⟨bR, a8, bS⟩ := M.e_bind hM
  obtain ⟨bD, a8⟩ := M.e_iter a8
  refine W.loop (fun m σ W => ∃ (ar : List Bool) (s : Nat) (ρ : Env), σ = upds ρ [(1, I many), (2, ai), (8, Pq aa), (10, Pq aj), (35, ai), (36, I (l.length : Int)), (37, I (s2 : Int)), (48, gd (!((r3.length : Int) == 0)) aC), (49, gd (!((r3.length : Int) == 0)) (.func (.func 91) #[] #[Pq aj])), (50, gd (!((r3.length : Int) == 0)) (B r4)), (52, aC), (53, I (r3.length : Int)), (54, I (s : Int))] /\ M.iterN (zbe r3) m (ar, s) = some bR /\ St w W [cMem encDm aI aZ (zaa au av aw ax aA aB ay), cBlk bq [I ((l.getD s2 default).spring), I ((l.getD s2 default).town)] 61, cBlk aj (encB ar) 96, cBlk aa [ab, ac, ae, ag, I aA, I aB, ah, .map (some aI)] 111, cBlk aV [ab, ac, ae, ag, I am, I ao, ah] 29] R /\ ar.length = 12) ?_ ?_
  ·exact ⟨_, aE, 0, _, upds_of _ _ ⟨rfl, rfl, rfl, rfl, rfl, rfl, rfl, rfl, rfl, rfl, rfl, rfl, rfl, trivial⟩, a8, H, bp⟩
  rintro cA σ cB ⟨ar, s, ρ, rfl, bt, H, ba⟩
  obtain ⟨bT, bU, cC, hM, bu⟩ := M.e_iterN bt
  simp only [zbe] at hM
  clear bt;refine W.seq <| W.region rfl <| zC (s : Int) (r3.length : Int) (decide ((s : Int) < (r3.length : Int))) rfl rfl rfl <| s_nil <| W.seq ?_
  refine W.cond (decide ((s : Int) < (r3.length : Int))) rfl (fun aH => ?_) (fun aH => ?_)
  ·replace hM := M.e_t hM aH
   replace aH := dI aH
   refine W.skip <| W.seq <| W.block <| W.seq <| W.region rfl ?_;obtain ⟨cD, hM⟩ := M.e_gd hM;refine s_val (x_ix (v := vat aC 1 (Int.toNat (s : Int))) rfl rfl (Sl.ix (α := Int) T22.und T22.size aG (by omega) (by omega))) <| s_val (x_ld (v := I (r3.getD s 0)) rfl (ld_sc Sc3 (At.mono (Int_at aG (i := (s : Int)) (by omega) (by omega)) (memLe _ (H.get (k := 0) rfl))))) <| zA (I (r3.getD s 0)) rfl <| s_nil <| W.region rfl <| zM (I (r3.getD s 0)) rfl ?_;obtain ⟨cE, hM⟩ := M.e_gd hM;refine s_val (x_ix (v := .pointer (some ⟨aj, 0 + Int.toNat (r3.getD s 0), none⟩)) rfl rfl (run_indexArr Tryz.underlying96 Sz4 (by omega) (by omega))) ?_;refine t_stArr (k := 2) (b := aj) (l := ar) (l' := ar.set (Int.toNat (r3.getD s 0)) true) (i := r3.getD s 0) (v := true) (L' := [cMem encDm aI aZ (zaa au av aw ax aA aB ay), cBlk bq [I ((l.getD s2 default).spring), I ((l.getD s2 default).town)] 61, cBlk aj (encB (ar.set (Int.toNat (r3.getD s 0)) true)) 96, cBlk aa [ab, ac, ae, ag, I aA, I aB, ah, .map (some aI)] 111, cBlk aV [ab, ac, ae, ag, I am, I ao, ah] 29]) H rfl rfl rfl Sz4 (by omega) (by have cF := ba; omega) rfl rfl ?_;intro cG H
   have bV : (ar.set (Int.toNat (r3.getD s 0)) true).length = 12 := List.length_set.trans ba
   refine s_nil <| W.region rfl <| zR (s : Int) 1 ((s : Int) + 1) rfl rfl rfl (by omega) <| zM (I ((s : Int) + 1)) rfl <| s_nil ?_
   exact ⟨bT, bU, ar.set (Int.toNat (r3.getD s 0)) true, s + 1, _, upds_of _ _ ⟨rfl, rfl, rfl, rfl, rfl, rfl, rfl, rfl, rfl, rfl, rfl, rfl, rfl, trivial⟩, M.e_inl hM bu, H, bV⟩
  replace hM := M.e_f hM aH
  replace aH := dI aH
  refine W.exit ?_
  have bW := M.e_inr hM bu
  subst bW;replace hM := bS;(try dsimp only at hM);refine W.region rfl <| zR (s2 : Int) 1 ((s2 : Int) + 1) rfl rfl rfl (by omega) <| zM (I ((s2 : Int) + 1)) rfl <| s_nil ?_
  exact ⟨bE, bF, ar, s2 + 1, aZ, _, upds_of _ _ ⟨rfl, rfl, rfl, rfl, rfl, rfl, rfl, trivial⟩, M.e_inl hM aY, (H.pk [2, 3, 0, 4]), ba⟩
 replace hM := M.e_f hM aF
 replace aF := dI aF
 refine W.exit ?_
 have bX := M.e_inr hM aY
 subst bX;replace hM := bn;(try dsimp only at hM);replace H := H.pk [];refine W.seq <| W.region rfl <| zM ai rfl ?_
 have cH := (az).len_le
 refine s_val (x_lenS T62.und rfl az) <| zM (I many) rfl <| zC (l.length : Int) many (decide (many <= (l.length : Int))) rfl rfl rfl <| zA (B (decide (many <= (l.length : Int)))) rfl <| zA (I 0) rfl <| s_nil ?_;refine W.ret ?_
 have al := M.e_pure hM
 exact ⟨_, resE_tmp2 rfl, ⟨(decide (many <= (l.length : Int))), 0, al, rfl, H⟩⟩

def zcn (a b : List Dem) : Nat -> M (Nat ⊕ (Unit ⊕ Unit)) := fun i =>
  bif decide ((i : Int) < (a.length : Int)) then (
  M.grd (decide ((i : Int) < (a.length : Int))) <|
  M.grd (decide ((i : Int) < (b.length : Int))) <|
  bif !(decide ((a.getD i default) = (b.getD i default))) then (
  M.pure (.inr (.inl ())))
  else (
  M.pure (.inl (i + 1))))
  else (
  M.pure (.inr (.inr ())))
def zcH (a b : List Dem) : M Bool :=
  bif (a.length : Int) != (b.length : Int) then (
  M.pure false)
  else (
  M.bind (M.iter (zcn a b) 0) fun x_ => match x_ with
  | (.inl (_ : Unit)) => (
  M.pure false)
  | (.inr (_ : Unit)) => (
  M.pure true))
theorem zd9 {R : List Chunk} {am : Cells} {aa : Value} {ao : Cells} {ae : Value} (a : List Dem) (b : List Dem) (aw : Reads R am) (ag : Sl am aa a) (ax : Reads R ao) (ai : Sl ao ae b) {r : Bool} (hM : (zcH a b).Ends r) (w : World) (H : St w w [] R) : Ret Tryz.prog 41 #[aa, ae] w fun v w' => ∃ (y0 : Bool), y0 = r /\ v = B y0 /\ St w w' [] R := by
 refine ret_of_W Tryz.func41 rfl rfl rfl <| W.seq <| W.region rfl <| zA (B false) rfl <| s_nil <| W.seq <| W.seq <| W.region rfl <| zM aa rfl ?_
 have aD := (ag).len_le
 refine s_val (x_lenS T62.und rfl ag) <| zM ae rfl ?_
 have aE := (ai).len_le
 refine s_val (x_lenS T62.und rfl ai) <| zC (a.length : Int) (b.length : Int) ((a.length : Int) != (b.length : Int)) rfl rfl rfl <| s_nil ?_
 refine W.cond ((a.length : Int) != (b.length : Int)) rfl (fun ab => ?_) (fun ab => ?_)
 ·replace hM := M.e_t hM ab
  replace ab := dI ab
  refine W.seq <| W.region rfl <| zA (B false) rfl <| s_nil ?_;refine W.ret ?_
  have ah := M.e_pure hM
  exact ⟨_, resE_tmp rfl, ⟨false, ah, rfl, H⟩⟩
 replace hM := M.e_f hM ab
 replace ab := dI ab
 refine W.skip <| W.seq <| W.seq <| W.region rfl <| zA (I 0) rfl <| s_nil <| W.block ?_;obtain ⟨ay, aj, aq⟩ := M.e_bind hM
 obtain ⟨aF, aj⟩ := M.e_iter aj
 refine W.loop (fun m σ W => ∃ (i : Nat) (ρ : Env), σ = upds ρ [(0, aa), (1, ae), (5, I (i : Int))] /\ M.iterN (zcn a b) m i = some ay /\ St w W [] R) ?_ ?_
 ·exact ⟨_, 0, _, upds_of _ _ ⟨rfl, rfl, rfl, trivial⟩, aj, H⟩
 rintro aG σ aH ⟨i, ρ, rfl, au, H⟩
 obtain ⟨az, aA, aI, hM, ak⟩ := M.e_iterN au
 simp only [zcn] at hM
 clear au;refine W.seq <| W.seq <| W.region rfl <| zM (I (i : Int)) rfl <| zM aa rfl ?_
 have aJ := (ag).len_le
 refine s_val (x_lenS T62.und rfl ag) <| zC (i : Int) (a.length : Int) (decide ((i : Int) < (a.length : Int))) rfl rfl rfl <| s_nil ?_
 refine W.cond (decide ((i : Int) < (a.length : Int))) rfl (fun ac => ?_) (fun ac => ?_)
 ·replace hM := M.e_t hM ac
  replace ac := dI ac
  refine W.skip <| W.seq <| W.block <| W.seq ?_;refine W.draw (fun W => St w W [] R) [(0, true), (1, true), (2, true), (3, true), (4, true), (5, true), (6, true), (7, true), (8, true)] mixed (by decide +kernel) rfl ?_;intro aK av;replace H := H.ext av;clear av
  refine ⟨(H.pk []), ?_⟩
  refine d_q rfl (fun w' H => x_mv (v := aa) rfl) <| d_q rfl (fun w' H => x_mv (v := I (i : Int)) rfl) ?_;obtain ⟨aL, hM⟩ := M.e_gd hM;refine d_q rfl (fun w' H => x_ix (v := vat aa 2 (Int.toNat (i : Int))) rfl rfl (Sl.ix (α := Dem) T62.und T62.size ag (by omega) (by omega))) <| d_q rfl (fun w' H => x_ld (v := .agg #[I ((a.getD i default).spring), I ((a.getD i default).town)]) rfl (ld_ag Ag61 Sz61 (At.mono (Dem_atA ag (i := (i : Int)) (by omega) (by omega)) (aw.at H)))) <| d_q rfl (fun w' H => x_mv (v := ae) rfl) <| d_q rfl (fun w' H => x_mv (v := I (i : Int)) rfl) ?_;obtain ⟨aM, hM⟩ := M.e_gd hM;refine d_q rfl (fun w' H => x_ix (v := vat ae 2 (Int.toNat (i : Int))) rfl rfl (Sl.ix (α := Dem) T62.und T62.size ai (by omega) (by omega))) <| d_q rfl (fun w' H => x_ld (v := .agg #[I ((b.getD i default).spring), I ((b.getD i default).town)]) rfl (ld_ag Ag61 Sz61 (At.mono (Dem_atA ai (i := (i : Int)) (by omega) (by omega)) (ax.at H)))) <| d_q rfl (fun w' H => x_neS (eqT61 (a.getD i default) (b.getD i default) _) gdT61 rfl rfl) ?_;refine d_nil ?_
  refine W.cond (!(decide ((a.getD i default) = (b.getD i default)))) rfl (fun al => ?_) (fun al => ?_)
  ·replace hM := M.e_t hM al;refine W.seq <| W.region rfl <| zA (B false) rfl <| s_nil ?_;refine W.ret ?_
   have aB := M.e_inr hM ak
   subst aB;replace hM := aq;(try dsimp only at hM)
   have ah := M.e_pure hM
   exact ⟨_, resE_tmp rfl, ⟨false, ah, rfl, H⟩⟩
  replace hM := M.e_f hM al;refine W.skip <| W.region rfl <| zM (I (i : Int)) rfl <| zR (i : Int) 1 ((i : Int) + 1) rfl rfl rfl (by omega) <| zA (I ((i : Int) + 1)) rfl <| s_nil ?_
  exact ⟨az, aA, i + 1, _, upds_of _ _ ⟨rfl, rfl, rfl, trivial⟩, M.e_inl hM ak, H⟩
 replace hM := M.e_f hM ac
 replace ac := dI ac
 refine W.exit ?_
 have aC := M.e_inr hM ak
 subst aC;replace hM := aq;(try dsimp only at hM);refine W.seq <| W.region rfl <| zA (B true) rfl <| s_nil ?_;refine W.ret ?_
 have ah := M.e_pure hM
 exact ⟨_, resE_tmp rfl, ⟨true, ah, rfl, H⟩⟩

end Go.Proofs.YtbaehghammbjdaaGreat
end
section
set_option maxRecDepth 100000
set_option maxHeartbeats 16000000
namespace Go.Proofs.YtbaehghammbjdaaGreat
open Go Go.Nm
def zbF (al : List Int) (am : List Span) (ao : List Int) (aq : List Town) (au av : Int) (aw : List Flood) (watches : List Int) (many : Int) (l : List Dem) (r0 : List Int) (r1 : List Span) (ai : List Int) (aj : List Town) (r4 r5 : Int) (r6 : List Flood) (r7 : List Int) (r8 : List Dem) (ax : List Int) (ay : List Span) (az : List Int) (aA : List Town) (aB aC : Int) (aD : List Flood) : M Bool :=
  M.bind (zax r0 r1 ai aj r4 r5 r6 many r8) fun (aa, ab) =>
  M.bind (za4 l) fun aE =>
  M.bind (zap ax ay az aA aB aC aD many aE) fun (ac, ae) =>
  M.bind (M.opt ((ab == ae) && (aa == ac)) (zcJ r0 r1 ai aj r4 r5 r6 al am ao aq au av aw) false) fun ag =>
  M.bind (M.opt (((ab == ae) && (aa == ac)) && ag) (zab r7 watches) false) fun ah =>
  M.bind (M.opt ((((ab == ae) && (aa == ac)) && ag) && ah) (zcH r8 l) false) fun ak =>
  M.bind (M.opt (((((ab == ae) && (aa == ac)) && ag) && ah) && ak) (zcW) false) fun aF =>
  M.pure ((((((ab == ae) && (aa == ac)) && ag) && ah) && ak) && aF)
def zbw (am : List Int) (ao : List Span) (aq : List Int) (au : List Town) (av aw : Int) (ax : List Flood) (watches : List Int) (many : Int) (l : List Dem) (r0 : List Int) (r1 : List Span) (aj : List Int) (ak : List Town) (r4 r5 : Int) (r6 : List Flood) (r7 : List Int) (r8 : List Dem) (aa : List Int) (ab : List Span) (ac : List Int) (ae : List Town) (ag ah : Int) (ai : List Flood) (aI aJ : List Dem) (s2 : Bool) : M Bool :=
  bif s2 then (
  M.pure false)
  else (
  M.bind (zas r0 r1 aj ak r4 r5 r6) fun (ay, az) =>
  M.bind (zby aa ab ac ae ag ah ai) fun (al, aA) =>
  M.bind (zbi r0 r1 aj ak r4 r5 r6) fun (aB, aC) =>
  bif ((((az != aA) || (aC != aA)) || ((ay.length : Int) != al)) || ((aB.length : Int) != al)) then (
  M.pure false)
  else (
  bif az == 0 then (
  M.bind (zaq aa ab ac ae ag ah ai ay) fun (aD, aE) =>
  bif ((aE != 0) || (decide (0 < (aD.length : Int)))) then (
  M.pure false)
  else (
  M.bind (za4 aB) fun aF =>
  M.bind (zap aa ab ac ae ag ah ai al aF) fun (aG, aH) =>
  bif ((aH != 0) || (!aG)) then (
  M.pure false)
  else (
  zbF am ao aq au av aw ax watches many l r0 r1 aj ak r4 r5 r6 r7 r8 aa ab ac ae ag ah ai)))
  else (
  zbF am ao aq au av aw ax watches many l r0 r1 aj ak r4 r5 r6 r7 r8 aa ab ac ae ag ah ai)))
def zbl (au : List Int) (av : List Span) (aw : List Int) (ax : List Town) (ay az : Int) (aA : List Flood) (d : Dem) (watches : List Int) (many : Int) (l : List Dem) (r0 : List Int) (r1 : List Span) (aa : List Int) (ab : List Town) (r4 r5 : Int) (r6 : List Flood) (r7 : List Int) (r8 : List Dem) (ac : List Int) (ae : List Span) (ag : List Int) (ah : List Town) (ai aj : Int) (ak : List Flood) (aI aJ : List Dem) (s : Bool) : M Bool :=
  bif s then (
  M.pure false)
  else (
  M.bind (zat r0 r1 aa ab r4 r5 r6 d) fun (aD, aB) =>
  M.bind (za5 ac ae ag ah ai aj ak d) fun (aE, aC) =>
  M.bind (M.opt (!(aB != aC)) (zab aD aE) false) fun aF =>
  bif ((aB != aC) || (!aF)) then (
  M.pure false)
  else (
  M.bind (zaF r0 r1 aa ab r4 r5 r6 r7) fun (ao, al) =>
  M.bind (zaq ac ae ag ah ai aj ak watches) fun (aq, am) =>
  bif !(al != am) then (
  M.bind (za4 ao) fun aG =>
  M.bind (M.opt (!(al != am)) (zcp aG aq) false) fun aH =>
  zbw au av aw ax ay az aA watches many l r0 r1 aa ab r4 r5 r6 r7 r8 ac ae ag ah ai aj ak ao aq ((al != am) || (!aH)))
  else (
  zbw au av aw ax ay az aA watches many l r0 r1 aa ab r4 r5 r6 r7 r8 ac ae ag ah ai aj ak ao aq ((al != am) || false))))
def zdf (aa : List Int) (ab : List Span) (ac : List Int) (ae : List Town) (ag ah : Int) (ai : List Flood) (d : Dem) (watches : List Int) (many : Int) (l : List Dem) : M Bool :=
  M.bind (zc4 aa ab ac ae ag ah ai) fun r2 =>
  bif ((r2 || (decide (15 < (watches.length : Int)))) || (decide (70 < (l.length : Int)))) then (
  M.bind (zcW) fun r3 =>
  M.pure r3)
  else (
  M.bind (zcT aa ab ac ae ag ah ai) fun (r0, r1, al, am, r4, r5, r6) =>
  M.bind (zaE watches) fun r7 =>
  M.bind (zc6 l) fun r8 =>
  M.bind (zcX aa ab ac ae ag ah ai) fun (ao, aq, au, av, aw, ax, ay) =>
  M.bind (zb9 r0 r1 al am r4 r5 r6) fun (az, aj) =>
  M.bind (zci ao aq au av aw ax ay) fun (aA, ak) =>
  bif !(aj != ak) then (
  M.bind (za4 az) fun r9 =>
  M.bind (M.opt (!(aj != ak)) (zcp r9 aA) false) fun aB =>
  zbl aa ab ac ae ag ah ai d watches many l r0 r1 al am r4 r5 r6 r7 r8 ao aq au av aw ax ay az aA ((aj != ak) || (!aB)))
  else (
  zbl aa ab ac ae ag ah ai d watches many l r0 r1 al am r4 r5 r6 r7 r8 ao aq au av aw ax ay az aA ((aj != ak) || false)))
theorem zeU {R : List Chunk} {cw : Cells} {aJ : Value} {cx : Cells} {aK : Value} {cy : Cells} {aL : Value} {cz : Cells} {aM : Value} {cA : Cells} {aN : Value} {cB : Cells} {a7 : Value} {cC : Cells} {a8 : Value} (bn : List Int) (bo : List Span) (bp : List Int) (bq : List Town) (aB : Int) (aC : Int) (br : List Flood) (d : Dem) (watches : List Int) (many : Int) (l : List Dem) (bW : Reads R cw) (bX : Sl cw aJ bn) (bY : Reads R cx) (bZ : Sl cx aK bo) (b4 : Reads R cy) (b7 : Sl cy aL bp) (b8 : Reads R cz) (b9 : Sl cz aM bq) (aP : Reads R cA) (ca : Sl cA aN br) (cb : Reads R cB) (bN : Sl cB a7 watches) (cc : Reads R cC) (bO : Sl cC a8 l) {r : Bool} (hM : (zdf bn bo bp bq aB aC br d watches many l).Ends r) (w : World) (H : St w w [] R) : Ret Tryz.prog 5 #[.agg #[aJ, aK, aL, aM, I aB, I aC, aN], .agg #[I d.spring, I d.town], a7, I many, a8] w fun v w' => ∃ (y0 : Bool), y0 = r /\ v = B y0 /\ St w w' [] R := by
 refine ret_of_W Tryz.func5 rfl rfl rfl <| W.seq <| W.region rfl ?_;refine t_bx [aJ, aK, aL, aM, I aB, I aC, aN] H rfl ?_;intro bA dw H;refine t_bx [I d.spring, I d.town] H rfl ?_;intro cD dx H;refine zA (B false) rfl <| s_nil <| W.seq <| W.seq <| W.region rfl <| s_val (x_ld (v := .agg #[aJ, aK, aL, aM, I aB, I aC, aN]) rfl (ldb_ag (ds := [aJ, aK, aL, aM, I aB, I aC, aN]) Ag29 Sz29 (H.bl 1) rfl rfl)) ?_;obtain ⟨dy, cE, hM⟩ := M.e_bind hM;refine s_call cf6 [.agg #[aJ, aK, aL, aM, I aB, I aC, aN]] rfl (zeq bn bo bp bq aB aC br (bW.app _) bX (bY.app _) bZ (b4.app _) b7 (b8.app _) b9 (aP.app _) ca cE _ (H.gt 2)) ?_
 rintro vq dz ⟨r2, rfl, hvq, aa⟩
 subst vq;(try dsimp only at hM);replace H := H.bk aa;clear aa;refine zM (B r2) rfl <| g_val (!r2) (gy_f rfl) (fun hg => x_mv (v := a7) rfl) ?_
 have dA := (bN).len_le
 refine g_val (!r2) (gy_f rfl) (fun hg => x_lenS T22.und (gd_of hg (a7)) bN) <| g_val (!r2) (gy_f rfl) (fun hg => x_cmp (kd := .i64) (r := decide (15 < (watches.length : Int))) (gd_of hg (I (watches.length : Int))) rfl rfl) <| s_val (x_por (b := r2) (r := decide (15 < (watches.length : Int))) rfl rfl (fun hb => gd_of (c := !r2) (by first | exact hb | (rw [hb]; rfl) | simp_all) (B (decide (15 < (watches.length : Int)))))) <| zM (B (r2 || (decide (15 < (watches.length : Int))))) rfl <| g_val (!(r2 || (decide (15 < (watches.length : Int))))) (gy_f rfl) (fun hg => x_mv (v := a8) rfl) ?_
 have dB := (bO).len_le
 refine g_val (!(r2 || (decide (15 < (watches.length : Int))))) (gy_f rfl) (fun hg => x_lenS T62.und (gd_of hg (a8)) bO) <| g_val (!(r2 || (decide (15 < (watches.length : Int))))) (gy_f rfl) (fun hg => x_cmp (kd := .i64) (r := decide (70 < (l.length : Int))) (gd_of hg (I (l.length : Int))) rfl rfl) <| s_val (x_por (b := (r2 || (decide (15 < (watches.length : Int))))) (r := decide (70 < (l.length : Int))) rfl rfl (fun hb => gd_of (c := !(r2 || (decide (15 < (watches.length : Int))))) (by first | exact hb | (rw [hb]; rfl) | simp_all) (B (decide (70 < (l.length : Int)))))) <| s_nil ?_
 refine W.cond ((r2 || (decide (15 < (watches.length : Int)))) || (decide (70 < (l.length : Int)))) rfl (fun ce => ?_) (fun ce => ?_)
 ·replace hM := M.e_t hM ce;refine W.seq <| W.region rfl ?_;obtain ⟨dC, cF, hM⟩ := M.e_bind hM;refine s_call cf7 [] rfl (zdX cF _ (H.gt 2)) ?_
  rintro vq dD ⟨r3, rfl, hvq, aa⟩
  subst vq;(try dsimp only at hM);replace H := H.bk aa;clear aa;refine zA (B r3) rfl <| s_nil ?_;replace H := H.pk [];refine W.ret ?_
  have aA := M.e_pure hM
  exact ⟨_, resE_tmp rfl, ⟨r3, aA, rfl, H⟩⟩
 replace hM := M.e_f hM ce;refine W.skip <| W.seq <| W.region rfl <| s_val (x_ld (v := .agg #[aJ, aK, aL, aM, I aB, I aC, aN]) rfl (ldb_ag (ds := [aJ, aK, aL, aM, I aB, I aC, aN]) Ag29 Sz29 (H.bl 1) rfl rfl)) ?_;obtain ⟨dE, cG, hM⟩ := M.e_bind hM;refine s_call cf8 [.agg #[aJ, aK, aL, aM, I aB, I aC, aN]] rfl (zea bn bo bp bq aB aC br (bW.app _) bX (bY.app _) bZ (b4.app _) b7 (b8.app _) b9 (aP.app _) ca cG _ (H.gt 2)) ?_
 rintro vq dF ⟨r0, r1, aS, aT, r4, r5, r6, ak, al, am, ao, aq, bP, bQ, rfl, hvq, aa, bB⟩
 subst vq;(try dsimp only at hM);replace H := H.bk aa;clear aa;refine zM a7 rfl ?_;obtain ⟨dG, cH, hM⟩ := M.e_bind hM;refine s_call cf9 [a7] rfl (zag watches (cb.app _) bN cH _ (H.gt 8)) ?_
 rintro vq dH ⟨r7, ba, rfl, hvq, aa⟩
 subst vq;(try dsimp only at hM);replace H := H.bk aa;clear aa;refine zM a8 rfl ?_;obtain ⟨dJ, cI, hM⟩ := M.e_bind hM;refine s_call cf27 [a8] rfl (zeQ l (cc.app _) bO cI _ (H.gt 9)) ?_
 rintro vq dK ⟨r8, bc, rfl, hvq, aa⟩
 subst vq;(try dsimp only at hM);replace H := H.bk aa;clear aa;refine t_alloc (cs := [.slice none 0 0, .slice none 0 0, .slice none 0 0, .slice none 0 0, I 0, I 0, .slice none 0 0]) H Al29 rfl ?_;intro bC dL H;refine t_sw 0 0 [ak, al, am, ao, I r4, I r5, aq] (.agg #[ak, al, am, ao, I r4, I r5, aq]) H rfl rfl Sz29 rfl rfl rfl (by simp only [List.all_cons, List.all_nil, Bool.true_and, Bool.and_true, Sl.oc (H.os 3), Sl.oc (H.os 4), Sl.oc (H.os 5), Sl.oc (H.os 6), Sl.oc (rowSl rfl (H.get (k := 7) rfl) (roLe _ (H.get (k := 8) rfl)) bB)]; try rfl) ?_;intro dM H;refine zA ba rfl <| zA bc rfl <| s_nil <| W.seq <| W.region rfl <| s_val (x_ld (v := .agg #[aJ, aK, aL, aM, I aB, I aC, aN]) rfl (ldb_ag (ds := [aJ, aK, aL, aM, I aB, I aC, aN]) Ag29 Sz29 (H.bl 10) rfl rfl)) ?_;obtain ⟨dN, cJ, hM⟩ := M.e_bind hM;refine s_call cf10 [.agg #[aJ, aK, aL, aM, I aB, I aC, aN]] rfl (zeA bn bo bp bq aB aC br (bW.app _) bX (bY.app _) bZ (b4.app _) b7 (b8.app _) b9 (aP.app _) ca cJ _ (H.gt 11)) ?_
 rintro vq dO ⟨aU, aV, aW, aX, ac, ae, bj, au, av, aw, ax, ay, bR, bS, rfl, hvq, aa, bD⟩
 subst vq;(try dsimp only at hM);replace H := H.bk aa;clear aa;refine t_alloc (cs := [.slice none 0 0, .slice none 0 0, .slice none 0 0, .slice none 0 0, I 0, I 0, .slice none 0 0]) H Al37 rfl ?_;intro bE dP H;refine t_sw 0 0 [au, av, aw, ax, I ac, I ae, ay] (.agg #[au, av, aw, ax, I ac, I ae, ay]) H rfl rfl Sz37 rfl rfl rfl (by simp only [List.all_cons, List.all_nil, Bool.true_and, Bool.and_true, Sl.oc (H.os 1), Sl.oc (H.os 2), Sl.oc (H.os 3), Sl.oc (H.os 4), Sl.oc (rowSl rfl (H.get (k := 5) rfl) (Cells.sup_le (aP.at H) (roLe _ (H.get (k := 6) rfl))) bD)]; try rfl) ?_;intro dQ H;refine s_nil <| W.seq <| W.region rfl <| s_val (x_ld (v := .agg #[ak, al, am, ao, I r4, I r5, aq]) rfl (ldb_ag (ds := [ak, al, am, ao, I r4, I r5, aq]) Ag29 Sz29 (H.bl 7) rfl rfl)) ?_;obtain ⟨dR, cK, hM⟩ := M.e_bind hM;refine s_call cf28 [.agg #[ak, al, am, ao, I r4, I r5, aq]] rfl (zeR r0 r1 aS aT r4 r5 r6 (rdo 10) (H.os 10) (rdo 11) (H.os 11) (rdo 12) (H.os 12) (rdo 13) (H.os 13) (Reads.sup (rdo 14) (Reads.of (k := 15) rfl roLe)) (rowSl rfl (H.get (k := 14) rfl) (roLe _ (H.get (k := 15) rfl)) bB) cK _ (H.gt 18)) ?_
 rintro vq dS ⟨cf, aF, bt, rfl, hvq, aa⟩
 subst vq;(try dsimp only at hM);replace H := H.bk aa;clear aa;refine zM (.tuple #[bt, I aF]) rfl <| zX [bt, I aF] bt rfl rfl <| zX [bt, I aF] (I aF) rfl rfl <| zA bt rfl <| zA (I aF) rfl <| s_nil <| W.seq <| W.region rfl <| s_val (x_ld (v := .agg #[au, av, aw, ax, I ac, I ae, ay]) rfl (ldb_ag (ds := [au, av, aw, ax, I ac, I ae, ay]) Ag37 Sz37 (H.bl 1) rfl rfl)) ?_;obtain ⟨dT, cL, hM⟩ := M.e_bind hM;refine s_call cf29 [.agg #[au, av, aw, ax, I ac, I ae, ay]] rfl (zee aU aV aW aX ac ae bj (rdo 2) (H.os 2) (rdo 3) (H.os 3) (rdo 4) (H.os 4) (rdo 5) (H.os 5) (Reads.sup (rdo 6) (Reads.sup (aP.app _) (Reads.of (k := 7) rfl roLe))) (rowSl rfl (H.get (k := 6) rfl) (Cells.sup_le (aP.at H) (roLe _ (H.get (k := 7) rfl))) bD) cL _ (H.gt 19)) ?_
 rintro vq dU ⟨cg, aG, bu, rfl, hvq, aa⟩
 subst vq;(try dsimp only at hM);replace H := H.bk aa;clear aa;refine zM (.tuple #[bu, I aG]) rfl <| zX [bu, I aG] bu rfl rfl <| zX [bu, I aG] (I aG) rfl rfl <| zA bu rfl <| zA (I aG) rfl <| s_nil <| W.seq ?_;refine W.seqJ (fun σ W => ∃ (s : Bool) (ρ : Env), σ = upds ρ [(2, a7), (3, I many), (4, a8), (5, Pq bA), (6, Pq cD), (11, Pq bC), (12, ba), (13, bc), (14, Pq bE), (69, B s)] /\ (zbl bn bo bp bq aB aC br d watches many l r0 r1 aS aT r4 r5 r6 r7 r8 aU aV aW aX ac ae bj cf cg s).Ends r /\ St w W [cOwn (α := Dem) 70 bu cg, cOwn (α := Dem) 61 bt cf, cBlk bE [au, av, aw, ax, I ac, I ae, ay] 37, cOwn (α := Int) 3 au aU, cOwn (α := Span) 26 av aV, cOwn (α := Int) 3 aw aW, cOwn (α := Town) 92 ax aX, cOwn (α := Raw 1) 93 ay bR, cRo bS, cBlk bC [ak, al, am, ao, I r4, I r5, aq] 29, cOwn (α := Dem) 61 bc r8, cOwn (α := Int) 3 ba r7, cOwn (α := Int) 3 ak r0, cOwn (α := Span) 26 al r1, cOwn (α := Int) 3 am aS, cOwn (α := Town) 91 ao aT, cOwn (α := Raw 1) 85 aq bP, cRo bQ, cBlk cD [I d.spring, I d.town] 61, cBlk bA [aJ, aK, aL, aM, I aB, I aC, aN] 29] R) ?_ ?_
 ·skip
  refine W.region rfl <| zM (I aF) rfl <| zM (I aG) rfl <| zC aF aG (aF != aG) rfl rfl rfl <| zM (B (aF != aG)) rfl <| g_val (!(aF != aG)) (gy_f rfl) (fun hg => x_mv (v := bt) rfl) ?_
  refine g_splitV (!(aF != aG)) (.slice none 0 0) (gy_f rfl) (fun aY => ?_) (fun aY => ?_)
  ·replace hM := M.e_t hM aY;obtain ⟨dV, cM, hM⟩ := M.e_bind hM;refine s_call cf31 [bt] (lst1 (gd_of (c := !(aF != aG)) aY (bt))) (zcI cf (rdo 1) (H.os 1) cM _ (H.gt 20)) ?_
   rintro vq dW ⟨r9, cN, rfl, hvq, aa⟩
   subst vq;(try dsimp only at hM);replace H := H.bk aa;clear aa;refine g_val (!(aF != aG)) (gy_f rfl) (fun hg => x_mv (v := bu) rfl) ?_;obtain ⟨bK, cO, hM⟩ := M.e_bind hM;refine t_gcall (!(aF != aG)) (gy_f rfl) cf30 (B bK) (fun _ => [cN, bu]) (fun hg => lst2 rfl (gd_of hg (bu))) H (fun hg => (zdD r9 cg (rdo 0) (H.os 0) (rdo 1) (H.os 1) (M.e_opt cO hg) _ (H.give (A := []) rfl)).mono fun v_ w_ ⟨y_, aA, bg, H_⟩ => by subst aA; exact ⟨bg, H.via H_⟩) ?_;intro dX H;refine g_val (!(aF != aG)) (gy_f rfl) (fun hg => x_not (b := bK) (gd_of hg (B bK))) <| s_val (x_por (b := aF != aG) (r := !bK) rfl rfl (fun hb => gd_of (c := !(aF != aG)) (by first | exact hb | (rw [hb]; rfl) | simp_all) (B (!bK)))) <| s_nil ?_
   exact ⟨((aF != aG) || (!bK)), _, upds_of _ _ ⟨rfl, rfl, rfl, rfl, rfl, rfl, rfl, rfl, rfl, rfl, trivial⟩, hM, (H.pk [1, 2, 3, 4, 5, 6, 7, 8, 9, 10, 11, 12, 13, 14, 15, 16, 17, 18, 19, 20])⟩
  replace hM := M.e_f hM aY;refine g_val (v := .slice none 0 0) (!(aF != aG)) (gy_f rfl) (fun hg => Bool.noConfusion (aY.symm.trans hg)) <| g_val (v := B false) (!(aF != aG)) (gy_f rfl) (fun hg => Bool.noConfusion (aY.symm.trans hg)) <| g_val (v := B false) (!(aF != aG)) (gy_f rfl) (fun hg => Bool.noConfusion (aY.symm.trans hg)) <| s_val (x_por (b := aF != aG) (r := false) rfl rfl (fun hb => gd_of (c := !(aF != aG)) (by first | exact hb | (rw [hb]; rfl) | simp_all) (B false))) <| s_nil ?_
  exact ⟨((aF != aG) || false), _, upds_of _ _ ⟨rfl, rfl, rfl, rfl, rfl, rfl, rfl, rfl, rfl, rfl, trivial⟩, hM, H⟩
 rintro _ dY ⟨s, ρ, rfl, hM, H⟩
 unfold zbl at hM
 refine W.cond s rfl (fun ck => ?_) (fun ck => ?_)
 ·replace hM := M.e_t hM ck;refine W.seq <| W.region rfl <| zA (B false) rfl <| s_nil ?_;replace H := H.pk [];refine W.ret ?_
  have aA := M.e_pure hM
  exact ⟨_, resE_tmp rfl, ⟨false, aA, rfl, H⟩⟩
 replace hM := M.e_f hM ck;refine W.skip ?_;replace H := H.pk [2, 3, 4, 5, 6, 7, 8, 9, 10, 11, 12, 13, 14, 15, 16, 17, 18, 19];refine W.seq <| W.region rfl <| s_val (x_ld (v := .agg #[ak, al, am, ao, I r4, I r5, aq]) rfl (ldb_ag (ds := [ak, al, am, ao, I r4, I r5, aq]) Ag29 Sz29 (H.bl 7) rfl rfl)) <| s_val (x_ld (v := .agg #[I d.spring, I d.town]) rfl (ldb_ag (ds := [I d.spring, I d.town]) Ag61 Sz61 (H.bl 16) rfl rfl)) ?_;obtain ⟨dZ, cP, hM⟩ := M.e_bind hM;refine s_call cf32 [.agg #[ak, al, am, ao, I r4, I r5, aq], .agg #[I d.spring, I d.town]] rfl (zda r0 r1 aS aT r4 r5 r6 d (rdo 10) (H.os 10) (rdo 11) (H.os 11) (rdo 12) (H.os 12) (rdo 13) (H.os 13) (Reads.sup (rdo 14) (Reads.of (k := 15) rfl roLe)) (rowSl rfl (H.get (k := 14) rfl) (roLe _ (H.get (k := 15) rfl)) bB) cP _ (H.gt 18)) ?_
 rintro vq d6 ⟨cQ, aQ, bF, rfl, hvq, aa⟩
 subst vq;(try dsimp only at hM);replace H := H.bk aa;clear aa;refine zM (.tuple #[bF, I aQ]) rfl <| zX [bF, I aQ] bF rfl rfl <| zX [bF, I aQ] (I aQ) rfl rfl <| zA bF rfl <| zA (I aQ) rfl <| s_nil <| W.seq <| W.region rfl <| s_val (x_ld (v := .agg #[au, av, aw, ax, I ac, I ae, ay]) rfl (ldb_ag (ds := [au, av, aw, ax, I ac, I ae, ay]) Ag37 Sz37 (H.bl 1) rfl rfl)) <| s_val (x_ld (v := .agg #[I d.spring, I d.town]) rfl (ldb_ag (ds := [I d.spring, I d.town]) Ag61 Sz61 (H.bl 17) rfl rfl)) ?_;obtain ⟨d7, cR, hM⟩ := M.e_bind hM;refine s_call cf33 [.agg #[au, av, aw, ax, I ac, I ae, ay], .agg #[I d.spring, I d.town]] rfl (zed aU aV aW aX ac ae bj d (rdo 2) (H.os 2) (rdo 3) (H.os 3) (rdo 4) (H.os 4) (rdo 5) (H.os 5) (Reads.sup (rdo 6) (Reads.sup (aP.app _) (Reads.of (k := 7) rfl roLe))) (rowSl rfl (H.get (k := 6) rfl) (Cells.sup_le (aP.at H) (roLe _ (H.get (k := 7) rfl))) bD) cR _ (H.gt 19)) ?_
 rintro vq d8 ⟨cS, aR, bG, rfl, hvq, aa⟩
 subst vq;(try dsimp only at hM);replace H := H.bk aa;clear aa;refine zM (.tuple #[bG, I aR]) rfl <| zX [bG, I aR] bG rfl rfl <| zX [bG, I aR] (I aR) rfl rfl <| zA bG rfl <| zA (I aR) rfl <| s_nil <| W.seq <| W.seq <| W.region rfl <| zM (I aQ) rfl ?_;refine zM (I aR) rfl <| zC aQ aR (aQ != aR) rfl rfl rfl <| zM (B (aQ != aR)) rfl <| g_val (!(aQ != aR)) (gy_f rfl) (fun hg => x_mv (v := bF) rfl) <| g_val (!(aQ != aR)) (gy_f rfl) (fun hg => x_mv (v := bG) rfl) ?_;obtain ⟨bL, cT, hM⟩ := M.e_bind hM;refine t_gcall (!(aQ != aR)) (gy_f rfl) cf15 (B bL) (fun _ => [bF, bG]) (fun hg => lst2 (gd_of hg (bF)) (gd_of hg (bG))) H (fun hg => (zaf cQ cS (rdo 1) (H.os 1) (rdo 0) (H.os 0) (M.e_opt cT hg) _ (H.give (A := []) rfl)).mono fun v_ w_ ⟨y_, aA, bg, H_⟩ => by subst aA; exact ⟨bg, H.via H_⟩) ?_;intro d9 H;refine g_val (!(aQ != aR)) (gy_f rfl) (fun hg => x_not (b := bL) (gd_of hg (B bL))) <| s_val (x_por (b := aQ != aR) (r := !bL) rfl rfl (fun hb => gd_of (c := !(aQ != aR)) (by first | exact hb | (rw [hb]; rfl) | simp_all) (B (!bL)))) <| s_nil ?_;replace H := H.pk [2, 3, 4, 5, 6, 7, 8, 9, 10, 11, 12, 13, 14, 15, 16, 17, 19]
 refine W.cond ((aQ != aR) || (!bL)) rfl (fun cl => ?_) (fun cl => ?_)
 ·replace hM := M.e_t hM cl;refine W.seq <| W.region rfl <| zA (B false) rfl <| s_nil ?_;replace H := H.pk [];refine W.ret ?_
  have aA := M.e_pure hM
  exact ⟨_, resE_tmp rfl, ⟨false, aA, rfl, H⟩⟩
 replace hM := M.e_f hM cl;refine W.skip <| W.seq <| W.region rfl <| s_val (x_ld (v := .agg #[ak, al, am, ao, I r4, I r5, aq]) rfl (ldb_ag (ds := [ak, al, am, ao, I r4, I r5, aq]) Ag29 Sz29 (H.bl 7) rfl rfl)) <| zM ba rfl ?_;obtain ⟨ea, cU, hM⟩ := M.e_bind hM;refine s_call cf34 [.agg #[ak, al, am, ao, I r4, I r5, aq], ba] rfl (zeu r0 r1 aS aT r4 r5 r6 r7 (rdo 10) (H.os 10) (rdo 11) (H.os 11) (rdo 12) (H.os 12) (rdo 13) (H.os 13) (Reads.sup (rdo 14) (Reads.of (k := 15) rfl roLe)) (rowSl rfl (H.get (k := 14) rfl) (roLe _ (H.get (k := 15) rfl)) bB) (rdo 9) (H.os 9) cU _ (H.gt 17)) ?_
 rintro vq eb ⟨cm, aH, bv, rfl, hvq, aa⟩
 subst vq;(try dsimp only at hM);replace H := H.bk aa;clear aa;refine zM (.tuple #[bv, I aH]) rfl <| zX [bv, I aH] bv rfl rfl <| zX [bv, I aH] (I aH) rfl rfl <| zA bv rfl <| zA (I aH) rfl <| s_nil <| W.seq <| W.region rfl <| s_val (x_ld (v := .agg #[au, av, aw, ax, I ac, I ae, ay]) rfl (ldb_ag (ds := [au, av, aw, ax, I ac, I ae, ay]) Ag37 Sz37 (H.bl 1) rfl rfl)) <| zM a7 rfl ?_;obtain ⟨ec, cV, hM⟩ := M.e_bind hM;refine s_call cf35 [.agg #[au, av, aw, ax, I ac, I ae, ay], a7] rfl (zd0 aU aV aW aX ac ae bj watches (rdo 2) (H.os 2) (rdo 3) (H.os 3) (rdo 4) (H.os 4) (rdo 5) (H.os 5) (Reads.sup (rdo 6) (Reads.sup (aP.app _) (Reads.of (k := 7) rfl roLe))) (rowSl rfl (H.get (k := 6) rfl) (Cells.sup_le (aP.at H) (roLe _ (H.get (k := 7) rfl))) bD) (cb.app _) bN cV _ (H.gt 18)) ?_
 rintro vq ed ⟨cn, aI, bw, rfl, hvq, aa⟩
 subst vq;(try dsimp only at hM);replace H := H.bk aa;clear aa;refine zM (.tuple #[bw, I aI]) rfl <| zX [bw, I aI] bw rfl rfl <| zX [bw, I aI] (I aI) rfl rfl <| zA bw rfl <| zA (I aI) rfl <| s_nil <| W.seq ?_;refine W.seqJ (fun σ W => ∃ (s2 : Bool) (ρ : Env), σ = upds ρ [(2, a7), (3, I many), (4, a8), (5, Pq bA), (11, Pq bC), (12, ba), (13, bc), (14, Pq bE), (112, B s2)] /\ (zbw bn bo bp bq aB aC br watches many l r0 r1 aS aT r4 r5 r6 r7 r8 aU aV aW aX ac ae bj cm cn s2).Ends r /\ St w W [cOwn (α := Dem) 70 bw cn, cOwn (α := Dem) 61 bv cm, cBlk bE [au, av, aw, ax, I ac, I ae, ay] 37, cOwn (α := Int) 3 au aU, cOwn (α := Span) 26 av aV, cOwn (α := Int) 3 aw aW, cOwn (α := Town) 92 ax aX, cOwn (α := Raw 1) 93 ay bR, cRo bS, cBlk bC [ak, al, am, ao, I r4, I r5, aq] 29, cOwn (α := Dem) 61 bc r8, cOwn (α := Int) 3 ba r7, cOwn (α := Int) 3 ak r0, cOwn (α := Span) 26 al r1, cOwn (α := Int) 3 am aS, cOwn (α := Town) 91 ao aT, cOwn (α := Raw 1) 85 aq bP, cRo bQ, cBlk bA [aJ, aK, aL, aM, I aB, I aC, aN] 29] R) ?_ ?_
 ·skip
  refine W.region rfl <| zM (I aH) rfl <| zM (I aI) rfl <| zC aH aI (aH != aI) rfl rfl rfl <| zM (B (aH != aI)) rfl <| g_val (!(aH != aI)) (gy_f rfl) (fun hg => x_mv (v := bv) rfl) ?_
  refine g_splitV (!(aH != aI)) (.slice none 0 0) (gy_f rfl) (fun aY => ?_) (fun aY => ?_)
  ·replace hM := M.e_t hM aY;obtain ⟨ee, cW, hM⟩ := M.e_bind hM;refine s_call cf31 [bv] (lst1 (gd_of (c := !(aH != aI)) aY (bv))) (zcI cm (rdo 1) (H.os 1) cW _ (H.gt 19)) ?_
   rintro vq ef ⟨cX, cY, rfl, hvq, aa⟩
   subst vq;(try dsimp only at hM);replace H := H.bk aa;clear aa;refine g_val (!(aH != aI)) (gy_f rfl) (fun hg => x_mv (v := bw) rfl) ?_;obtain ⟨bM, cZ, hM⟩ := M.e_bind hM;refine t_gcall (!(aH != aI)) (gy_f rfl) cf30 (B bM) (fun _ => [cY, bw]) (fun hg => lst2 rfl (gd_of hg (bw))) H (fun hg => (zdD cX cn (rdo 0) (H.os 0) (rdo 1) (H.os 1) (M.e_opt cZ hg) _ (H.give (A := []) rfl)).mono fun v_ w_ ⟨y_, aA, bg, H_⟩ => by subst aA; exact ⟨bg, H.via H_⟩) ?_;intro eg H;refine g_val (!(aH != aI)) (gy_f rfl) (fun hg => x_not (b := bM) (gd_of hg (B bM))) <| s_val (x_por (b := aH != aI) (r := !bM) rfl rfl (fun hb => gd_of (c := !(aH != aI)) (by first | exact hb | (rw [hb]; rfl) | simp_all) (B (!bM)))) <| s_nil ?_
   exact ⟨((aH != aI) || (!bM)), _, upds_of _ _ ⟨rfl, rfl, rfl, rfl, rfl, rfl, rfl, rfl, rfl, trivial⟩, hM, (H.pk [1, 2, 3, 4, 5, 6, 7, 8, 9, 10, 11, 12, 13, 14, 15, 16, 17, 18, 19])⟩
  replace hM := M.e_f hM aY;refine g_val (v := .slice none 0 0) (!(aH != aI)) (gy_f rfl) (fun hg => Bool.noConfusion (aY.symm.trans hg)) <| g_val (v := B false) (!(aH != aI)) (gy_f rfl) (fun hg => Bool.noConfusion (aY.symm.trans hg)) <| g_val (v := B false) (!(aH != aI)) (gy_f rfl) (fun hg => Bool.noConfusion (aY.symm.trans hg)) <| s_val (x_por (b := aH != aI) (r := false) rfl rfl (fun hb => gd_of (c := !(aH != aI)) (by first | exact hb | (rw [hb]; rfl) | simp_all) (B false))) <| s_nil ?_
  exact ⟨((aH != aI) || false), _, upds_of _ _ ⟨rfl, rfl, rfl, rfl, rfl, rfl, rfl, rfl, rfl, trivial⟩, hM, H⟩
 rintro _ eh ⟨s2, ρ, rfl, hM, H⟩
 unfold zbw at hM
 refine W.cond s2 rfl (fun co => ?_) (fun co => ?_)
 ·replace hM := M.e_t hM co;refine W.seq <| W.region rfl <| zA (B false) rfl <| s_nil ?_;replace H := H.pk [];refine W.ret ?_
  have aA := M.e_pure hM
  exact ⟨_, resE_tmp rfl, ⟨false, aA, rfl, H⟩⟩
 replace hM := M.e_f hM co;refine W.skip ?_;replace H := H.pk [2, 3, 4, 5, 6, 7, 8, 9, 10, 11, 12, 13, 14, 15, 16, 17, 18];refine W.seq <| W.region rfl <| s_val (x_ld (v := .agg #[ak, al, am, ao, I r4, I r5, aq]) rfl (ldb_ag (ds := [ak, al, am, ao, I r4, I r5, aq]) Ag29 Sz29 (H.bl 7) rfl rfl)) ?_;obtain ⟨ei, c6, hM⟩ := M.e_bind hM;refine s_call cf36 [.agg #[ak, al, am, ao, I r4, I r5, aq]] rfl (zc3 r0 r1 aS aT r4 r5 r6 (rdo 10) (H.os 10) (rdo 11) (H.os 11) (rdo 12) (H.os 12) (rdo 13) (H.os 13) (Reads.sup (rdo 14) (Reads.of (k := 15) rfl roLe)) (rowSl rfl (H.get (k := 14) rfl) (roLe _ (H.get (k := 15) rfl)) bB) c6 _ (H.gt 17)) ?_
 rintro vq ej ⟨bh, az, bx, rfl, hvq, aa⟩
 subst vq;(try dsimp only at hM);replace H := H.bk aa;clear aa;refine zM (.tuple #[bx, I az]) rfl <| zX [bx, I az] bx rfl rfl <| zX [bx, I az] (I az) rfl rfl <| zA bx rfl <| zA (I az) rfl <| s_nil <| W.seq <| W.region rfl <| s_val (x_ld (v := .agg #[au, av, aw, ax, I ac, I ae, ay]) rfl (ldb_ag (ds := [au, av, aw, ax, I ac, I ae, ay]) Ag37 Sz37 (H.bl 1) rfl rfl)) ?_;obtain ⟨em, c7, hM⟩ := M.e_bind hM;refine s_call cf37 [.agg #[au, av, aw, ax, I ac, I ae, ay]] rfl (zej aU aV aW aX ac ae bj (rdo 2) (H.os 2) (rdo 3) (H.os 3) (rdo 4) (H.os 4) (rdo 5) (H.os 5) (Reads.sup (rdo 6) (Reads.sup (aP.app _) (Reads.of (k := 7) rfl roLe))) (rowSl rfl (H.get (k := 6) rfl) (Cells.sup_le (aP.at H) (roLe _ (H.get (k := 7) rfl))) bD) c7 _ (H.gt 18)) ?_
 rintro vq en ⟨aD, ab, rfl, hvq, aa⟩
 subst vq;(try dsimp only at hM);replace H := H.bk aa;clear aa;refine zM (.tuple #[I aD, I ab]) rfl <| zX [I aD, I ab] (I aD) rfl rfl <| zX [I aD, I ab] (I ab) rfl rfl <| zA (I aD) rfl <| zA (I ab) rfl <| s_nil <| W.seq <| W.region rfl <| s_val (x_ld (v := .agg #[ak, al, am, ao, I r4, I r5, aq]) rfl (ldb_ag (ds := [ak, al, am, ao, I r4, I r5, aq]) Ag29 Sz29 (H.bl 8) rfl rfl)) ?_;obtain ⟨eo, c8, hM⟩ := M.e_bind hM;refine s_call cf38 [.agg #[ak, al, am, ao, I r4, I r5, aq]] rfl (zd4 r0 r1 aS aT r4 r5 r6 (rdo 11) (H.os 11) (rdo 12) (H.os 12) (rdo 13) (H.os 13) (rdo 14) (H.os 14) (Reads.sup (rdo 15) (Reads.of (k := 16) rfl roLe)) (rowSl rfl (H.get (k := 15) rfl) (roLe _ (H.get (k := 16) rfl)) bB) c8 _ (H.gt 18)) ?_
 rintro vq ep ⟨bH, aE, bm, rfl, hvq, aa⟩
 subst vq;(try dsimp only at hM);replace H := H.bk aa;clear aa;refine zM (.tuple #[bm, I aE]) rfl <| zX [bm, I aE] bm rfl rfl <| zX [bm, I aE] (I aE) rfl rfl <| zA bm rfl <| zA (I aE) rfl <| s_nil <| W.seq <| W.seq <| W.region rfl <| zM (I az) rfl ?_;refine zM (I ab) rfl <| zC az ab (az != ab) rfl rfl rfl <| zM (B (az != ab)) rfl <| g_val (!(az != ab)) (gy_f rfl) (fun hg => x_mv (v := I aE) rfl) <| g_val (!(az != ab)) (gy_f rfl) (fun hg => x_mv (v := I ab) rfl) <| g_val (!(az != ab)) (gy_f rfl) (fun hg => x_cmp (kd := .i64) (r := aE != ab) (gd_of hg (I aE)) (gd_of hg (I ab)) rfl) <| s_val (x_por (b := az != ab) (r := aE != ab) rfl rfl (fun hb => gd_of (c := !(az != ab)) (by first | exact hb | (rw [hb]; rfl) | simp_all) (B (aE != ab)))) <| zM (B ((az != ab) || (aE != ab))) rfl <| g_val (!((az != ab) || (aE != ab))) (gy_f rfl) (fun hg => x_mv (v := bx) rfl) <| g_val (!((az != ab) || (aE != ab))) (gy_f rfl) (fun hg => x_lenS T22.und (gd_of hg (bx)) (H.os 1)) ?_;refine g_val (!((az != ab) || (aE != ab))) (gy_f rfl) (fun hg => x_mv (v := I aD) rfl) <| g_val (!((az != ab) || (aE != ab))) (gy_f rfl) (fun hg => x_cmp (kd := .i64) (r := (bh.length : Int) != aD) (gd_of hg (I (bh.length : Int))) (gd_of hg (I aD)) rfl) <| s_val (x_por (b := ((az != ab) || (aE != ab))) (r := (bh.length : Int) != aD) rfl rfl (fun hb => gd_of (c := !((az != ab) || (aE != ab))) (by first | exact hb | (rw [hb]; rfl) | simp_all) (B ((bh.length : Int) != aD)))) <| zM (B (((az != ab) || (aE != ab)) || ((bh.length : Int) != aD))) rfl <| g_val (!(((az != ab) || (aE != ab)) || ((bh.length : Int) != aD))) (gy_f rfl) (fun hg => x_mv (v := bm) rfl) <| g_val (!(((az != ab) || (aE != ab)) || ((bh.length : Int) != aD))) (gy_f rfl) (fun hg => x_lenS T62.und (gd_of hg (bm)) (H.os 0)) <| g_val (!(((az != ab) || (aE != ab)) || ((bh.length : Int) != aD))) (gy_f rfl) (fun hg => x_mv (v := I aD) rfl) <| g_val (!(((az != ab) || (aE != ab)) || ((bh.length : Int) != aD))) (gy_f rfl) (fun hg => x_cmp (kd := .i64) (r := (bH.length : Int) != aD) (gd_of hg (I (bH.length : Int))) (gd_of hg (I aD)) rfl) <| s_val (x_por (b := (((az != ab) || (aE != ab)) || ((bh.length : Int) != aD))) (r := (bH.length : Int) != aD) rfl rfl (fun hb => gd_of (c := !(((az != ab) || (aE != ab)) || ((bh.length : Int) != aD))) (by first | exact hb | (rw [hb]; rfl) | simp_all) (B ((bH.length : Int) != aD)))) <| s_nil ?_
 refine W.cond ((((az != ab) || (aE != ab)) || ((bh.length : Int) != aD)) || ((bH.length : Int) != aD)) rfl (fun cp => ?_) (fun cp => ?_)
 ·replace hM := M.e_t hM cp;refine W.seq <| W.region rfl <| zA (B false) rfl <| s_nil ?_;replace H := H.pk [];refine W.ret ?_
  have aA := M.e_pure hM
  exact ⟨_, resE_tmp rfl, ⟨false, aA, rfl, H⟩⟩
 replace hM := M.e_f hM cp;refine W.skip ?_;refine W.seqJ (fun σ W => ∃ (ρ : Env), σ = upds ρ [(2, a7), (3, I many), (4, a8), (5, Pq bA), (11, Pq bC), (12, ba), (13, bc), (14, Pq bE)] /\ (zbF bn bo bp bq aB aC br watches many l r0 r1 aS aT r4 r5 r6 r7 r8 aU aV aW aX ac ae bj).Ends r /\ St w W [cBlk bE [au, av, aw, ax, I ac, I ae, ay] 37, cOwn (α := Int) 3 au aU, cOwn (α := Span) 26 av aV, cOwn (α := Int) 3 aw aW, cOwn (α := Town) 92 ax aX, cOwn (α := Raw 1) 93 ay bR, cRo bS, cBlk bC [ak, al, am, ao, I r4, I r5, aq] 29, cOwn (α := Dem) 61 bc r8, cOwn (α := Int) 3 ba r7, cOwn (α := Int) 3 ak r0, cOwn (α := Span) 26 al r1, cOwn (α := Int) 3 am aS, cOwn (α := Town) 91 ao aT, cOwn (α := Raw 1) 85 aq bP, cRo bQ, cBlk bA [aJ, aK, aL, aM, I aB, I aC, aN] 29] R) ?_ ?_
 ·skip
  refine W.seq <| W.region rfl <| zM (I az) rfl <| zC az 0 (az == 0) rfl rfl rfl <| s_nil ?_
  refine W.cond (az == 0) rfl (fun bI => ?_) (fun bI => ?_)
  ·replace hM := M.e_t hM bI
   replace bI := dI bI
   refine W.seq <| W.seq <| W.region rfl <| s_val (x_ld (v := .agg #[au, av, aw, ax, I ac, I ae, ay]) rfl (ldb_ag (ds := [au, av, aw, ax, I ac, I ae, ay]) Ag37 Sz37 (H.bl 2) rfl rfl)) <| zM bx rfl ?_;obtain ⟨eq, c9, hM⟩ := M.e_bind hM;refine s_call cf35 [.agg #[au, av, aw, ax, I ac, I ae, ay], bx] rfl (zd0 aU aV aW aX ac ae bj bh (rdo 3) (H.os 3) (rdo 4) (H.os 4) (rdo 5) (H.os 5) (rdo 6) (H.os 6) (Reads.sup (rdo 7) (Reads.sup (aP.app _) (Reads.of (k := 8) rfl roLe))) (rowSl rfl (H.get (k := 7) rfl) (Cells.sup_le (aP.at H) (roLe _ (H.get (k := 8) rfl))) bD) (rdo 1) (H.os 1) c9 _ (H.gt 19)) ?_
   rintro vq er ⟨bT, aZ, bJ, rfl, hvq, aa⟩
   subst vq;(try dsimp only at hM);replace H := H.bk aa;clear aa;refine zM (.tuple #[bJ, I aZ]) rfl <| zX [bJ, I aZ] bJ rfl rfl <| zX [bJ, I aZ] (I aZ) rfl rfl <| zA bJ rfl <| zA (I aZ) rfl <| s_nil <| W.seq <| W.region rfl <| zM (I aZ) rfl <| zC aZ 0 (aZ != 0) rfl rfl rfl ?_;refine zM (B (aZ != 0)) rfl <| g_val (!(aZ != 0)) (gy_f rfl) (fun hg => x_mv (v := bJ) rfl) <| g_val (!(aZ != 0)) (gy_f rfl) (fun hg => x_lenS T66.und (gd_of hg (bJ)) (H.os 0)) <| g_val (!(aZ != 0)) (gy_f rfl) (fun hg => x_cmp (kd := .i64) (r := decide (0 < (bT.length : Int))) (gd_of hg (I (bT.length : Int))) rfl rfl) <| s_val (x_por (b := aZ != 0) (r := decide (0 < (bT.length : Int))) rfl rfl (fun hb => gd_of (c := !(aZ != 0)) (by first | exact hb | (rw [hb]; rfl) | simp_all) (B (decide (0 < (bT.length : Int)))))) <| s_nil ?_;replace H := H.pk [1, 3, 4, 5, 6, 7, 8, 9, 10, 11, 12, 13, 14, 15, 16, 17, 18, 19]
   refine W.cond ((aZ != 0) || (decide (0 < (bT.length : Int)))) rfl (fun cq => ?_) (fun cq => ?_)
   ·replace hM := M.e_t hM cq;refine W.seq <| W.region rfl <| zA (B false) rfl <| s_nil ?_;replace H := H.pk [];refine W.ret ?_
    have aA := M.e_pure hM
    exact ⟨_, resE_tmp rfl, ⟨false, aA, rfl, H⟩⟩
   replace hM := M.e_f hM cq;refine W.skip <| W.seq ?_;refine W.draw (fun W => St w W [cOwn (α := Dem) 61 bm bH, cBlk bE [au, av, aw, ax, I ac, I ae, ay] 37, cOwn (α := Int) 3 au aU, cOwn (α := Span) 26 av aV, cOwn (α := Int) 3 aw aW, cOwn (α := Town) 92 ax aX, cOwn (α := Raw 1) 93 ay bR, cRo bS, cBlk bC [ak, al, am, ao, I r4, I r5, aq] 29, cOwn (α := Dem) 61 bc r8, cOwn (α := Int) 3 ba r7, cOwn (α := Int) 3 ak r0, cOwn (α := Span) 26 al r1, cOwn (α := Int) 3 am aS, cOwn (α := Town) 91 ao aT, cOwn (α := Raw 1) 85 aq bP, cRo bQ, cBlk bA [aJ, aK, aL, aM, I aB, I aC, aN] 29] R) [(0, true), (1, true), (2, true), (3, false), (4, false), (5, true), (6, true), (7, true), (8, true), (9, true)] mixed (by decide +kernel) rfl ?_;intro eu bU;replace H := H.ext bU;clear bU
   refine ⟨(H.pk [0, 1, 2, 3, 4, 5, 6, 7, 8, 9, 10, 11, 12, 13, 14, 15, 16, 17]), ?_⟩
   refine d_q rfl (fun w' H => x_ld (v := .agg #[au, av, aw, ax, I ac, I ae, ay]) rfl (ldb_ag (ds := [au, av, aw, ax, I ac, I ae, ay]) Ag37 Sz37 (H.bl 1) rfl rfl)) <| d_q rfl (fun w' H => x_mv (v := I aD) rfl) <| d_q rfl (fun w' H => x_mv (v := bm) rfl) <| d_l rfl ?_;obtain ⟨ew, da, hM⟩ := M.e_bind hM;refine s_call cf31 [bm] rfl (zcI bH (rdo 0) (H.os 0) da _ (H.gt 18)) ?_
   rintro vq ez ⟨db, dc, rfl, hvq, aa⟩
   subst vq;(try dsimp only at hM);replace H := H.bk aa;clear aa
   have eA := Sl.cells (H.os 0)
   have eB := Sl.oc (H.os 0)
   refine s_nil ⟨(H.pk [1, 2, 3, 4, 5, 6, 7, 8, 9, 10, 11, 12, 13, 14, 15, 16, 17, 18]), ?_⟩
   refine d_l rfl ?_;obtain ⟨eC, dd, hM⟩ := M.e_bind hM;refine s_call cf39 [.agg #[au, av, aw, ax, I ac, I ae, ay], I aD, dc] rfl (zdM aU aV aW aX ac ae bj aD db (rdo 3) (H.os 3) (rdo 4) (H.os 4) (rdo 5) (H.os 5) (rdo 6) (H.os 6) (Reads.sup (rdo 7) (Reads.sup (aP.app _) (Reads.of (k := 8) rfl roLe))) (rowSl rfl (H.get (k := 7) rfl) (Cells.sup_le (aP.at H) (roLe _ (H.get (k := 8) rfl))) bD) (rdo 0) (H.os 0) dd _ (H.gt 19)) ?_
   rintro vq eD ⟨bi, bf, rfl, hvq, aa⟩
   subst vq;(try dsimp only at hM);replace H := H.bk aa;clear aa
   refine s_nil ⟨(H.pk [1, 2, 3, 4, 5, 6, 7, 8, 9, 10, 11, 12, 13, 14, 15, 16, 17, 18]), ?_⟩
   refine d_q rfl (fun w' H => x_mv (v := .tuple #[B bi, I bf]) rfl) <| d_q rfl (fun w' H => x_ext (vs := [B bi, I bf]) (v := B bi) rfl rfl) <| d_q rfl (fun w' H => x_ext (vs := [B bi, I bf]) (v := I bf) rfl rfl) <| d_q rfl (fun w' H => x_as (v := B bi) rfl) <| d_q rfl (fun w' H => x_as (v := I bf) rfl) ?_;refine d_nil ?_;replace H := H.pk [2, 3, 4, 5, 6, 7, 8, 9, 10, 11, 12, 13, 14, 15, 16, 17, 18];refine W.seq <| W.region rfl <| zM (I bf) rfl <| zC bf 0 (bf != 0) rfl rfl rfl <| zM (B (bf != 0)) rfl <| g_val (!(bf != 0)) (gy_f rfl) (fun hg => x_mv (v := B bi) rfl) <| g_val (!(bf != 0)) (gy_f rfl) (fun hg => x_not (b := bi) (gd_of hg (B bi))) <| s_val (x_por (b := bf != 0) (r := !bi) rfl rfl (fun hb => gd_of (c := !(bf != 0)) (by first | exact hb | (rw [hb]; rfl) | simp_all) (B (!bi)))) <| s_nil ?_
   refine W.cond ((bf != 0) || (!bi)) rfl (fun cu => ?_) (fun cu => ?_)
   ·replace hM := M.e_t hM cu;refine W.seq <| W.region rfl <| zA (B false) rfl <| s_nil ?_;replace H := H.pk [];refine W.ret ?_
    have aA := M.e_pure hM
    exact ⟨_, resE_tmp rfl, ⟨false, aA, rfl, H⟩⟩
   replace hM := M.e_f hM cu;refine W.skip ?_
   exact ⟨_, upds_of _ _ ⟨rfl, rfl, rfl, rfl, rfl, rfl, rfl, rfl, trivial⟩, hM, H⟩
  replace hM := M.e_f hM bI
  replace bI := dI bI
  refine W.skip ?_
  exact ⟨_, upds_of _ _ ⟨rfl, rfl, rfl, rfl, rfl, rfl, rfl, rfl, trivial⟩, hM, (H.pk [2, 3, 4, 5, 6, 7, 8, 9, 10, 11, 12, 13, 14, 15, 16, 17, 18])⟩
 rintro _ eE ⟨ρ, rfl, hM, H⟩
 unfold zbF at hM
 refine W.seq <| W.region rfl <| s_val (x_ld (v := .agg #[ak, al, am, ao, I r4, I r5, aq]) rfl (ldb_ag (ds := [ak, al, am, ao, I r4, I r5, aq]) Ag29 Sz29 (H.bl 7) rfl rfl)) <| zM (I many) rfl <| zM bc rfl ?_;obtain ⟨eF, de, hM⟩ := M.e_bind hM;refine s_call cf40 [.agg #[ak, al, am, ao, I r4, I r5, aq], I many, bc] rfl (zen r0 r1 aS aT r4 r5 r6 many r8 (rdo 10) (H.os 10) (rdo 11) (H.os 11) (rdo 12) (H.os 12) (rdo 13) (H.os 13) (Reads.sup (rdo 14) (Reads.of (k := 15) rfl roLe)) (rowSl rfl (H.get (k := 14) rfl) (roLe _ (H.get (k := 15) rfl)) bB) (rdo 8) (H.os 8) de _ (H.gt 17)) ?_
 rintro vq eG ⟨ai, ag, rfl, hvq, aa⟩
 subst vq;(try dsimp only at hM);replace H := H.bk aa;clear aa;refine zM (.tuple #[B ai, I ag]) rfl <| zX [B ai, I ag] (B ai) rfl rfl <| zX [B ai, I ag] (I ag) rfl rfl <| zA (B ai) rfl <| zA (I ag) rfl <| s_nil <| W.seq ?_;refine W.draw (fun W => St w W [cBlk bE [au, av, aw, ax, I ac, I ae, ay] 37, cOwn (α := Int) 3 au aU, cOwn (α := Span) 26 av aV, cOwn (α := Int) 3 aw aW, cOwn (α := Town) 92 ax aX, cOwn (α := Raw 1) 93 ay bR, cRo bS, cBlk bC [ak, al, am, ao, I r4, I r5, aq] 29, cOwn (α := Dem) 61 bc r8, cOwn (α := Int) 3 ba r7, cOwn (α := Int) 3 ak r0, cOwn (α := Span) 26 al r1, cOwn (α := Int) 3 am aS, cOwn (α := Town) 91 ao aT, cOwn (α := Raw 1) 85 aq bP, cRo bQ, cBlk bA [aJ, aK, aL, aM, I aB, I aC, aN] 29] R) [(0, true), (1, true), (2, true), (3, false), (4, false), (5, true), (6, true), (7, true), (8, true), (9, true)] mixed (by decide +kernel) rfl ?_;intro eH bU;replace H := H.ext bU;clear bU
 refine ⟨(H.pk [0, 1, 2, 3, 4, 5, 6, 7, 8, 9, 10, 11, 12, 13, 14, 15, 16]), ?_⟩
 refine d_q rfl (fun w' H => x_ld (v := .agg #[au, av, aw, ax, I ac, I ae, ay]) rfl (ldb_ag (ds := [au, av, aw, ax, I ac, I ae, ay]) Ag37 Sz37 (H.bl 0) rfl rfl)) <| d_q rfl (fun w' H => x_mv (v := I many) rfl) <| d_q rfl (fun w' H => x_mv (v := a8) rfl) <| d_l rfl ?_;obtain ⟨eI, dg, hM⟩ := M.e_bind hM;refine s_call cf31 [a8] rfl (zcI l (cc.app _) bO dg _ (H.gt 17)) ?_
 rintro vq eJ ⟨di, dk, rfl, hvq, aa⟩
 subst vq;(try dsimp only at hM);replace H := H.bk aa;clear aa
 have eK := Sl.cells (H.os 0)
 have eL := Sl.oc (H.os 0)
 refine s_nil ⟨(H.pk [1, 2, 3, 4, 5, 6, 7, 8, 9, 10, 11, 12, 13, 14, 15, 16, 17]), ?_⟩
 refine d_l rfl ?_;obtain ⟨eM, dq, hM⟩ := M.e_bind hM;refine s_call cf39 [.agg #[au, av, aw, ax, I ac, I ae, ay], I many, dk] rfl (zdM aU aV aW aX ac ae bj many di (rdo 2) (H.os 2) (rdo 3) (H.os 3) (rdo 4) (H.os 4) (rdo 5) (H.os 5) (Reads.sup (rdo 6) (Reads.sup (aP.app _) (Reads.of (k := 7) rfl roLe))) (rowSl rfl (H.get (k := 6) rfl) (Cells.sup_le (aP.at H) (roLe _ (H.get (k := 7) rfl))) bD) (rdo 0) (H.os 0) dq _ (H.gt 18)) ?_
 rintro vq eN ⟨aj, ah, rfl, hvq, aa⟩
 subst vq;(try dsimp only at hM);replace H := H.bk aa;clear aa
 refine s_nil ⟨(H.pk [1, 2, 3, 4, 5, 6, 7, 8, 9, 10, 11, 12, 13, 14, 15, 16, 17]), ?_⟩
 refine d_q rfl (fun w' H => x_mv (v := .tuple #[B aj, I ah]) rfl) <| d_q rfl (fun w' H => x_ext (vs := [B aj, I ah]) (v := B aj) rfl rfl) <| d_q rfl (fun w' H => x_ext (vs := [B aj, I ah]) (v := I ah) rfl rfl) <| d_q rfl (fun w' H => x_as (v := B aj) rfl) <| d_q rfl (fun w' H => x_as (v := I ah) rfl) ?_;refine d_nil ?_;replace H := H.pk [8, 9, 10, 11, 12, 13, 14, 15, 16, 17];refine W.seq <| W.region rfl <| zM (I ag) rfl <| zM (I ah) rfl <| zC ag ah (ag == ah) rfl rfl rfl <| zM (B (ag == ah)) rfl <| g_val (ag == ah) (gy_t rfl) (fun hg => x_mv (v := B ai) rfl) <| g_val (ag == ah) (gy_t rfl) (fun hg => x_mv (v := B aj) rfl) <| g_val (ag == ah) (gy_t rfl) (fun hg => x_eqb (a := ai) (b := aj) (r := (ai == aj)) (gd_of hg (B ai)) (gd_of hg (B aj)) Tryz.underlying4 rfl) <| s_val (x_pand (b := ag == ah) (r := (ai == aj)) rfl (fun hb => gd_of (c := ag == ah) (by first | exact hb | (rw [hb]; rfl) | simp_all) (B (ai == aj))) rfl) ?_;refine zM (B ((ag == ah) && (ai == aj))) rfl <| g_val ((ag == ah) && (ai == aj)) (gy_t rfl) (fun hg => x_ld (v := .agg #[ak, al, am, ao, I r4, I r5, aq]) rfl (ldb_ag (ds := [ak, al, am, ao, I r4, I r5, aq]) Ag29 Sz29 (H.bl 0) rfl rfl)) <| g_val ((ag == ah) && (ai == aj)) (gy_t rfl) (fun hg => x_ld (v := .agg #[aJ, aK, aL, aM, I aB, I aC, aN]) rfl (ldb_ag (ds := [aJ, aK, aL, aM, I aB, I aC, aN]) Ag29 Sz29 (H.bl 9) rfl rfl)) ?_;obtain ⟨aO, dr, hM⟩ := M.e_bind hM;refine t_gcall ((ag == ah) && (ai == aj)) (gy_t rfl) cf18 (B aO) (fun _ => [.agg #[ak, al, am, ao, I r4, I r5, aq], .agg #[aJ, aK, aL, aM, I aB, I aC, aN]]) (fun hg => lst2 (gd_of hg (.agg #[ak, al, am, ao, I r4, I r5, aq])) (gd_of hg (.agg #[aJ, aK, aL, aM, I aB, I aC, aN]))) H (fun hg => (zel r0 r1 aS aT r4 r5 r6 bn bo bp bq aB aC br (rdo 3) (H.os 3) (rdo 4) (H.os 4) (rdo 5) (H.os 5) (rdo 6) (H.os 6) (Reads.sup (rdo 7) (Reads.of (k := 8) rfl roLe)) (rowSl rfl (H.get (k := 7) rfl) (roLe _ (H.get (k := 8) rfl)) bB) (bW.app _) bX (bY.app _) bZ (b4.app _) b7 (b8.app _) b9 (aP.app _) ca (M.e_opt dr hg) _ (H.give (A := []) rfl)).mono fun v_ w_ ⟨y_, aA, bg, H_⟩ => by subst aA; exact ⟨bg, H.via H_⟩) ?_;intro eO H;refine s_val (x_pand (b := ((ag == ah) && (ai == aj))) (r := aO) rfl (fun hb => gd_of (c := ((ag == ah) && (ai == aj))) (by first | exact hb | (rw [hb]; rfl) | simp_all) (B aO)) rfl) <| zM (B (((ag == ah) && (ai == aj)) && aO)) rfl <| g_val (((ag == ah) && (ai == aj)) && aO) (gy_t rfl) (fun hg => x_mv (v := ba) rfl) <| g_val (((ag == ah) && (ai == aj)) && aO) (gy_t rfl) (fun hg => x_mv (v := a7) rfl) ?_;obtain ⟨a6, dt, hM⟩ := M.e_bind hM;refine t_gcall (((ag == ah) && (ai == aj)) && aO) (gy_t rfl) cf15 (B a6) (fun _ => [ba, a7]) (fun hg => lst2 (gd_of hg (ba)) (gd_of hg (a7))) H (fun hg => (zaf r7 watches (rdo 2) (H.os 2) (cb.app _) bN (M.e_opt dt hg) _ (H.give (A := []) rfl)).mono fun v_ w_ ⟨y_, aA, bg, H_⟩ => by subst aA; exact ⟨bg, H.via H_⟩) ?_;intro eP H;refine s_val (x_pand (b := (((ag == ah) && (ai == aj)) && aO)) (r := a6) rfl (fun hb => gd_of (c := (((ag == ah) && (ai == aj)) && aO)) (by first | exact hb | (rw [hb]; rfl) | simp_all) (B a6)) rfl) <| zM (B ((((ag == ah) && (ai == aj)) && aO) && a6)) rfl <| g_val ((((ag == ah) && (ai == aj)) && aO) && a6) (gy_t rfl) (fun hg => x_mv (v := bc) rfl) <| g_val ((((ag == ah) && (ai == aj)) && aO) && a6) (gy_t rfl) (fun hg => x_mv (v := a8) rfl) ?_;obtain ⟨bz, du, hM⟩ := M.e_bind hM;refine t_gcall ((((ag == ah) && (ai == aj)) && aO) && a6) (gy_t rfl) cf41 (B bz) (fun _ => [bc, a8]) (fun hg => lst2 (gd_of hg (bc)) (gd_of hg (a8))) H (fun hg => (zd9 r8 l (rdo 1) (H.os 1) (cc.app _) bO (M.e_opt du hg) _ (H.give (A := []) rfl)).mono fun v_ w_ ⟨y_, aA, bg, H_⟩ => by subst aA; exact ⟨bg, H.via H_⟩) ?_;intro eQ H;refine s_val (x_pand (b := ((((ag == ah) && (ai == aj)) && aO) && a6)) (r := bz) rfl (fun hb => gd_of (c := ((((ag == ah) && (ai == aj)) && aO) && a6)) (by first | exact hb | (rw [hb]; rfl) | simp_all) (B bz)) rfl) <| zM (B (((((ag == ah) && (ai == aj)) && aO) && a6) && bz)) rfl ?_;obtain ⟨bV, dv, hM⟩ := M.e_bind hM;refine t_gcall (((((ag == ah) && (ai == aj)) && aO) && a6) && bz) (gy_t rfl) cf7 (B bV) (fun _ => []) (fun _ => rfl) H (fun hg => (zdX (M.e_opt dv hg) _ (H.give (A := []) rfl)).mono fun v_ w_ ⟨y_, aA, bg, H_⟩ => by subst aA; exact ⟨bg, H.via H_⟩) ?_;intro eR H;refine s_val (x_pand (b := (((((ag == ah) && (ai == aj)) && aO) && a6) && bz)) (r := bV) rfl (fun hb => gd_of (c := (((((ag == ah) && (ai == aj)) && aO) && a6) && bz)) (by first | exact hb | (rw [hb]; rfl) | simp_all) (B bV)) rfl) <| zA (B ((((((ag == ah) && (ai == aj)) && aO) && a6) && bz) && bV)) rfl <| s_nil ?_;replace H := H.pk [];refine W.ret ?_
 have aA := M.e_pure hM
 exact ⟨_, resE_tmp rfl, ⟨((((((ag == ah) && (ai == aj)) && aO) && a6) && bz) && bV), aA, rfl, H⟩⟩

end Go.Proofs.YtbaehghammbjdaaGreat
end
namespace Go.Nm
/-- Two lists that rise and have the same elements are the same. -/
theorem up_ext : ∀ {l m : List Int}, l.Pairwise (· < ·) -> m.Pairwise (· < ·) -> (∀ x, x ∈ l ↔ x ∈ m) -> l = m
  | [], [], _, _, _ => rfl
  | [], b :: m, _, _, h => by have := (h b).2 (by simp); cases this
  | a :: l, [], _, _, h => by have := (h a).1 (by simp); cases this
  | a :: l, b :: m, h1, h2, h => by
    rw [List.pairwise_cons] at h1 h2
    have hab : a = b := by
      rcases List.mem_cons.1 ((h a).1 (by simp)) with e | e
      · exact e
      · rcases List.mem_cons.1 ((h b).2 (by simp)) with e' | e'
        · exact e'.symm
        · have := h2.1 a e
          have := h1.1 b e'
          omega
    subst hab
    rw [up_ext h1.2 h2.2 fun x => ?_]
    constructor
    · intro hx
      rcases List.mem_cons.1 ((h x).1 (by simp [hx])) with e | e
      · have := h1.1 x hx
        omega
      · exact e
    · intro hx
      rcases List.mem_cons.1 ((h x).2 (by simp [hx])) with e | e
      · have := h2.1 x hx
        omega
      · exact e
theorem take_set_app {α : Type} {l : List α} {i : Nat} {x : α} (hi : i < l.length) : (l.set i x).take (i + 1) = l.take i ++ [x] := by
  rw [List.take_succ_eq_append_getElem (by rw [List.length_set]; exact hi), List.getElem_set_self]
  congr 1
  apply List.ext_getElem?
  intro p
  rw [List.getElem?_take, List.getElem?_take]
  split
  · rw [List.getElem?_set_ne (by omega)]
  · rfl
namespace Wn
def Dr (dn : List Int) (tw : List Town) (s : Int) (m : Nat) : List Dem := (List.range m).filterMap fun k => if (tw.getD k default).station ∈ P dn s then some ⟨s, (k : Int)⟩ else none
/-- All demands. -/
def Dm (dn sp : List Int) (tw : List Town) : List Dem := sp.flatMap fun s => Dr dn tw s tw.length
theorem Dr_succ {dn : List Int} {tw : List Town} {s : Int} {m : Nat} : Dr dn tw s (m + 1) = Dr dn tw s m ++ if (tw.getD m default).station ∈ P dn s then [⟨s, (m : Int)⟩] else [] := by
  unfold Dr
  rw [List.range_succ, List.filterMap_append]
  congr 1
  by_cases h : (tw.getD m default).station ∈ P dn s
  · rw [if_pos h]
    simp only [List.filterMap_cons, List.filterMap_nil, if_pos h]
  · rw [if_neg h]
    simp only [List.filterMap_cons, List.filterMap_nil, if_neg h]
/-- Whether some watch meets a demand. -/
def mt (dn : List Int) (tr : List Span) (tw : List Town) (dh : Int) (W : List Int) (d : Dem) : Bool := (Sd dn tr tw dh d).any fun s => decide (s ∈ W)
end Wn
end Go.Nm
namespace Go.Proofs.YtbaehghammbjdaaGreat
open Go Go.Nm
variable {dn : List Int} {tr : List Span} {sp : List Int} {tw : List Town} {dl dh : Int} {fl : List Flood} {W : List Int}
theorem demandsD (R : Wn.Rv dn tr sp tw dl dh fl) : (zao dn tr sp tw dl dh fl).Ends (Wn.Dm dn sp tw) := by
  refine M.Out.ends ?_
  have t8 := R.t8
  have s8 := R.s8
  unfold zao
  refine M.o_bind (P := fun y => y.2 = Wn.Dm dn sp tw) ?_ (fun y hy => M.o_pure hy)
  refine M.o_for sp.length (fun i (t : Nat × List Dem) => t.1 = i /\ t.2.length <= 8 * i /\ t.2 = (sp.take i).flatMap fun s => Wn.Dr dn tw s tw.length) ?_ ?_ ⟨rfl, by simp, by simp⟩
  · rintro _ ⟨i, l⟩ hi ⟨rfl, h1, h2⟩
    dsimp only at hi h1 h2
    simp only [zaW]
    have hsp := R.si (sp.getD i 0) (by rw [getD_el sp hi]; exact List.getElem_mem hi)
    refine M.ot1 (M.og1 (M.o_bind (P := fun y => y.2.length <= 8 * i + 8 /\ y.2 = l ++ Wn.Dr dn tw (sp.getD i 0) tw.length) ?_ (fun y hy => M.o_pure ⟨rfl, by dsimp only; omega, ?_⟩)))
    · refine M.o_for tw.length (fun k (t : Nat × List Dem) => t.1 = k /\ t.2.length <= 8 * i + k /\ t.2 = l ++ Wn.Dr dn tw (sp.getD i 0) k) ?_ ?_ ⟨rfl, h1, by simp [Wn.Dr]⟩
      · rintro _ ⟨k, l4⟩ hk ⟨rfl, g1, g2⟩
        dsimp only at hk g1 g2
        simp only [za8]
        refine M.ot1 (M.og1 (M.o_bindE (travels_ends R (.inr hsp) _) ?_))
        by_cases hy : (tw.getD k default).station ∈ Wn.P dn (sp.getD i 0)
        · rw [if_pos hy]
          dsimp only
          refine M.o_t rfl (M.o_grdD (by simp; omega) (M.o_pure ⟨rfl, by dsimp only; simp; omega, ?_⟩))
          dsimp only
          rw [Wn.Dr_succ, if_pos hy, g2, List.append_assoc]
        · rw [if_neg hy]
          dsimp only
          refine M.o_f rfl (M.o_pure ⟨rfl, by dsimp only; omega, ?_⟩)
          dsimp only
          rw [Wn.Dr_succ, if_neg hy, g2, List.append_nil]
      · rintro ⟨k, l4⟩ ⟨e, g1, g2⟩
        dsimp only at e g1 g2
        subst e
        simp only [za8]
        exact M.of1 (M.o_pure ⟨by dsimp only; omega, g2⟩)
    · dsimp only
      rw [hy.2, h2, List.take_succ_eq_append_getElem hi, List.flatMap_append, ← getD_el sp hi 0]
      simp only [List.flatMap_cons, List.flatMap_nil, List.append_nil]
  · rintro ⟨i, l⟩ ⟨e, h1, h2⟩
    dsimp only at e h1 h2
    subst e
    rw [List.take_length] at h2
    simp only [zaW]
    exact M.of1 (M.o_pure h2)
theorem refdemands (R : Wn.Rv dn tr sp tw dl dh fl) : (zbd dn tr sp tw dl dh fl).Ends (Wn.Dm dn sp tw) := by
  refine M.Out.ends ?_
  have t8 := R.t8
  have s8 := R.s8
  unfold zbd
  refine M.o_bind (P := fun y => y.2 = Wn.Dm dn sp tw) ?_ (fun y hy => M.o_pure hy)
  refine M.o_for sp.length (fun i (t : Nat × List Dem) => t.1 = i /\ t.2.length <= 8 * i /\ t.2 = (sp.take i).flatMap fun s => Wn.Dr dn tw s tw.length) ?_ ?_ ⟨rfl, by simp, by simp⟩
  · rintro _ ⟨i, l⟩ hi ⟨rfl, h1, h2⟩
    dsimp only at hi h1 h2
    simp only [zcy]
    have hsp := R.si (sp.getD i 0) (by rw [getD_el sp hi]; exact List.getElem_mem hi)
    refine M.ot1 (M.o_bind (P := fun y => y.2.length <= 8 * i + 8 /\ y.2 = l ++ Wn.Dr dn tw (sp.getD i 0) tw.length) ?_ (fun y hy => M.o_pure ⟨rfl, by dsimp only; omega, ?_⟩))
    · refine M.o_for tw.length (fun k (t : Nat × List Dem) => t.1 = k /\ t.2.length <= 8 * i + k /\ t.2 = l ++ Wn.Dr dn tw (sp.getD i 0) k) ?_ ?_ ⟨rfl, h1, by simp [Wn.Dr]⟩
      · rintro _ ⟨k, l4⟩ hk ⟨rfl, g1, g2⟩
        dsimp only at hk g1 g2
        simp only [zcx]
        refine M.ot1 (M.og1 (M.og1 (M.o_bindE (takes_ends R hsp _) ?_)))
        by_cases hy : (tw.getD k default).station ∈ Wn.P dn (sp.getD i 0)
        · rw [if_pos hy]
          dsimp only
          refine M.o_t rfl (M.o_grdD (by simp; omega) (M.o_pure ⟨rfl, by dsimp only; simp; omega, ?_⟩))
          dsimp only
          rw [Wn.Dr_succ, if_pos hy, g2, List.append_assoc]
        · rw [if_neg hy]
          dsimp only
          refine M.o_f rfl (M.o_pure ⟨rfl, by dsimp only; omega, ?_⟩)
          dsimp only
          rw [Wn.Dr_succ, if_neg hy, g2, List.append_nil]
      · rintro ⟨k, l4⟩ ⟨e, g1, g2⟩
        dsimp only at e g1 g2
        subst e
        simp only [zcx]
        exact M.of1 (M.o_pure ⟨by dsimp only; omega, g2⟩)
    · dsimp only
      rw [hy.2, h2, List.take_succ_eq_append_getElem hi, List.flatMap_append, ← getD_el sp hi 0]
      simp only [List.flatMap_cons, List.flatMap_nil, List.append_nil]
  · rintro ⟨i, l⟩ ⟨e, h1, h2⟩
    dsimp only at e h1 h2
    subst e
    rw [List.take_length] at h2
    simp only [zcy]
    exact M.of1 (M.o_pure h2)
theorem dm_is (R : Wn.Rv dn tr sp tw dl dh fl) : (Wn.Dm dn sp tw).length <= 64 /\ ∀ d, d ∈ Wn.Dm dn sp tw ↔ d.spring ∈ sp /\ (0 <= d.town /\ d.town < (tw.length : Int)) /\ Wn.stn tw d ∈ Wn.P dn d.spring := by
  obtain ⟨D, h1, h2⟩ := demands_is R
  rw [← h1.det (demandsD R)]
  exact h2
theorem dm_ok (R : Wn.Rv dn tr sp tw dl dh fl) : ∀ d ∈ Wn.Dm dn sp tw, Wn.OkD dn tw d := fun d hd => by
  have := ((dm_is R).2 d).1 hd
  exact ⟨R.si _ this.1, this.2.1⟩
theorem contains_ints (l : List Int) (f : Int -> M Bool) (p : Int -> Bool) (h : ∀ t ∈ l, (f t).Ends (p t)) : (zau l f).Ends (l.any p) := by
  refine M.Out.ends ?_
  unfold zau zb4
  refine M.o_bind (P := fun r => decide (0 <= r) = l.any p) (M.o_bind (P := fun r => match r with | .inl r => (0 : Int) <= r /\ l.any p = true | .inr (_ : Unit) => l.any p = false) ?_ ?_) (fun r h => M.o_pure h)
  · refine M.o_for l.length (fun i (k : Nat) => k = i /\ ∀ j, j < i -> p (l.getD j 0) = false) ?_ ?_ ⟨rfl, fun j hj => by omega⟩
    · rintro _ i hi ⟨rfl, hp⟩
      simp only [zav]
      have hm : l.getD i 0 ∈ l := by rw [getD_el l hi]; exact List.getElem_mem hi
      refine M.ot1 (M.og1 (M.o_bindE (h _ hm) (M.o_if (fun hb => M.o_pure ⟨by omega, ?_⟩) (fun hb => M.o_pure ⟨rfl, fun j hj => ?_⟩))))
      · rw [List.any_eq_true]
        exact ⟨_, hm, hb⟩
      · rcases Nat.lt_or_eq_of_le (Nat.le_of_lt_succ hj) with e | e
        · exact hp j e
        · subst e
          exact hb
    · rintro _ ⟨rfl, hp⟩
      simp only [zav]
      refine M.of1 (M.o_pure ?_)
      rw [List.any_eq_false]
      intro x hx
      obtain ⟨i, hi, e⟩ := mem_getD hx 0
      rw [← e, hp i hi]
      exact Bool.false_ne_true
  · rintro (r | r) h
    · exact M.o_pure (by rw [h.2, decide_eq_true h.1])
    · exact M.o_pure (by dsimp only at h; rw [h]; rfl)
theorem contains_dem (l : List Dem) (f : Dem -> M Bool) (p : Dem -> Bool) (h : ∀ t ∈ l, (f t).Ends (p t)) : (zbQ l f).Ends (l.any p) := by
  refine M.Out.ends ?_
  unfold zbQ zdq
  refine M.o_bind (P := fun r => decide (0 <= r) = l.any p) (M.o_bind (P := fun r => match r with | .inl r => (0 : Int) <= r /\ l.any p = true | .inr (_ : Unit) => l.any p = false) ?_ ?_) (fun r h => M.o_pure h)
  · refine M.o_for l.length (fun i (k : Nat) => k = i /\ ∀ j, j < i -> p (l.getD j default) = false) ?_ ?_ ⟨rfl, fun j hj => by omega⟩
    · rintro _ i hi ⟨rfl, hp⟩
      simp only [zbU]
      have hm : l.getD i default ∈ l := by rw [getD_el l hi]; exact List.getElem_mem hi
      refine M.ot1 (M.og1 (M.o_bindE (h _ hm) (M.o_if (fun hb => M.o_pure ⟨by omega, ?_⟩) (fun hb => M.o_pure ⟨rfl, fun j hj => ?_⟩))))
      · rw [List.any_eq_true]
        exact ⟨_, hm, hb⟩
      · rcases Nat.lt_or_eq_of_le (Nat.le_of_lt_succ hj) with e | e
        · exact hp j e
        · subst e
          exact hb
    · rintro _ ⟨rfl, hp⟩
      simp only [zbU]
      refine M.of1 (M.o_pure ?_)
      rw [List.any_eq_false]
      intro x hx
      obtain ⟨i, hi, e⟩ := mem_getD hx default
      rw [← e, hp i hi]
      exact Bool.false_ne_true
  · rintro (r | r) h
    · exact M.o_pure (by rw [h.2, decide_eq_true h.1])
    · exact M.o_pure (by dsimp only at h; rw [h]; rfl)
theorem is_ends (R : Wn.Rv dn tr sp tw dl dh fl) (d : Dem) : (zck dn tr sp tw dl dh fl d).Ends (decide (d ∈ Wn.Dm dn sp tw)) := by
  unfold zck
  refine M.i_bind (demandsD R) (M.i_bind (contains_dem _ _ (fun x => decide (x = d)) fun x _ => ?_) ?_)
  · unfold zcN
    exact M.i_pure
  · have e : ((Wn.Dm dn sp tw).any fun x => decide (x = d)) = decide (d ∈ Wn.Dm dn sp tw) := by
      rw [Bool.eq_iff_iff, List.any_eq_true, decide_eq_true_eq]
      exact ⟨fun ⟨x, h1, h2⟩ => of_decide_eq_true h2 ▸ h1, fun h => ⟨d, h, decide_eq_true rfl⟩⟩
    rw [e]
    exact M.i_pure
theorem demanded_ends (R : Wn.Rv dn tr sp tw dl dh fl) (d : Dem) : (zcw dn tr sp tw dl dh fl d).Ends (decide (d ∈ Wn.Dm dn sp tw)) := by
  refine M.Out.ends ?_
  unfold zcw
  refine M.o_bindE (refdemands R) (M.o_bind (P := fun x => match x with | .inl (_ : Unit) => d ∈ Wn.Dm dn sp tw | .inr (_ : Unit) => d ∉ Wn.Dm dn sp tw) ?_ ?_)
  · refine M.o_for (Wn.Dm dn sp tw).length (fun i (k : Nat) => k = i /\ ∀ j, j < i -> (Wn.Dm dn sp tw).getD j default ≠ d) ?_ ?_ ⟨rfl, fun j hj => by omega⟩
    · rintro _ i hi ⟨rfl, hp⟩
      simp only [zb8]
      refine M.ot1 (M.og1 (M.o_if (fun hb => M.o_pure ?_) (fun hb => M.o_pure ⟨rfl, fun j hj => ?_⟩)))
      · have hb := of_decide_eq_true hb
        dsimp only
        rw [← hb, getD_el _ hi]
        exact List.getElem_mem hi
      · rcases Nat.lt_or_eq_of_le (Nat.le_of_lt_succ hj) with e | e
        · exact hp j e
        · subst e
          exact of_decide_eq_false hb
    · rintro _ ⟨rfl, hp⟩
      simp only [zb8]
      refine M.of1 (M.o_pure ?_)
      intro hx
      obtain ⟨i, hi, e⟩ := mem_getD hx default
      exact hp i hi e
  · rintro (u | u) h
    · exact M.o_pure (decide_eq_true h).symm
    · exact M.o_pure (decide_eq_false h).symm
theorem meets_ends (R : Wn.Rv dn tr sp tw dl dh fl) {d : Dem} (hd : Wn.OkD dn tw d) {s : Int} (hs : 0 <= s /\ s < (dn.length : Int)) : (zaN dn tr sp tw dl dh fl s d).Ends (decide (s ∈ Wn.Sd dn tr tw dh d)) := by
  have d0 := R.d0
  have d1 := R.d1
  have d2 := R.d2
  have ht := hd.2
  have key := Wn.mem_Sd (dn := dn) (tr := tr) (tw := tw) (dh := dh) (d := d) (s := s)
  unfold zaN
  refine M.i_bind (takes_ends R hd.1 s) ?_
  by_cases h1 : s ∈ Wn.P dn d.spring
  case neg =>
    rw [if_neg h1, decide_eq_false fun h => h1 (key.1 h).1]
    dsimp only
    exact M.i_t rfl M.i_pure
  rw [if_pos h1]
  dsimp only
  refine M.i_f rfl (M.ig2 (M.i_bind (takes_ends R hs _) ?_))
  have e1 : (tw.getD (Int.toNat d.town) default).station = Wn.stn tw d := rfl
  have e2 : (tw.getD (Int.toNat d.town) default).lead = Wn.led tw d := rfl
  rw [e1, e2]
  by_cases h2 : Wn.stn tw d ∈ Wn.P dn s
  case neg =>
    rw [if_neg h2, decide_eq_false fun h => h2 (key.1 h).2.1]
    dsimp only
    exact M.i_grd rfl M.i_pure
  rw [if_pos h2]
  dsimp only
  have b1 := (sm_small R (.inr hs) (Wn.upto (Wn.P dn s) (Wn.stn tw d)) (fun x hx => (Wn.upto_mem hx).1) (List.takeWhile_sublist _).length_le).1
  refine M.i_grd (gOr2 (by omega) (by omega)) (M.i_eq M.i_pure ?_)
  rw [Bool.true_and, decide_eq_decide, key]
  constructor
  · intro h
    exact ⟨h1, h2, by omega⟩
  · intro h
    omega
theorem ch_up (m : Nat) (q : Nat -> Bool) : (Wn.ch m q).Pairwise (· < ·) := by
  unfold Wn.ch
  rw [List.pairwise_map]
  refine (List.Pairwise.sublist List.filter_sublist List.pairwise_lt_range).imp fun h => by omega
theorem refstretch (R : Wn.Rv dn tr sp tw dl dh fl) {d : Dem} (hd : Wn.OkD dn tw d) : (M.iter (zaS dn tr sp tw dl dh fl d) (0, [])).Ends (Wn.Sd dn tr tw dh d, Wn.Sd dn tr tw dh d) := by
  have h12 := R.n12
  have e : Wn.ch dn.length (fun s : Nat => decide ((s : Int) ∈ Wn.Sd dn tr tw dh d)) = Wn.Sd dn tr tw dh d := by
    refine up_ext (ch_up _ _) ((Wn.P_up R.nx _ (.inr hd.1)).sublist List.filter_sublist) fun x => ?_
    rw [Wn.mem_ch]
    constructor
    · rintro ⟨i, _, h, rfl⟩
      exact of_decide_eq_true h
    · intro h
      have := stretch_in R hd x h
      refine ⟨Int.toNat x, by omega, decide_eq_true ?_, by omega⟩
      rw [Int.toNat_of_nonneg this.1]
      exact h
  have := M.i_for (body := zaS dn tr sp tw dl dh fl d) (r := (Wn.ch dn.length (fun s : Nat => decide ((s : Int) ∈ Wn.Sd dn tr tw dh d)), Wn.ch dn.length (fun s : Nat => decide ((s : Int) ∈ Wn.Sd dn tr tw dh d)))) (fun i => (i, Wn.ch i (fun s : Nat => decide ((s : Int) ∈ Wn.Sd dn tr tw dh d)))) dn.length (fun i hi => ?_) ?_
  · rw [e] at this
    exact this
  · simp only [zaS]
    have hc := Wn.ch_le (m := i) (q := fun s : Nat => decide ((s : Int) ∈ Wn.Sd dn tr tw dh d))
    refine M.it1 (M.i_bind (meets_ends R hd (s := (i : Int)) (by omega)) ?_)
    rw [Wn.ch_succ]
    by_cases c : (i : Int) ∈ Wn.Sd dn tr tw dh d
    · rw [if_pos (decide_eq_true c)]
      exact M.i_t (decide_eq_true c) (M.i_grd (decide_eq_true (by simp; omega)) M.i_pure)
    · rw [if_neg (by rw [decide_eq_false c]; exact Bool.false_ne_true)]
      exact M.i_f (decide_eq_false c) M.i_pure
  · simp only [zaS]
    exact M.if1 M.i_pure
theorem stretch_same (R : Wn.Rv dn tr sp tw dl dh fl) (hc : (zae dn tr sp tw dl dh fl).Ends 0) (d : Dem) : ∃ y, (zat dn tr sp tw dl dh fl d).Ends y /\ (za5 dn tr sp tw dl dh fl d).Ends y := by
  have h1 := demanded_ends R d
  have h2 := is_ends R d
  by_cases hd : d ∈ Wn.Dm dn sp tw
  · have ho := dm_ok R d hd
    have hsh := Wn.P_short R.nx (.inr ho.1)
    have h12 := R.n12
    have hle : (Wn.Sd dn tr tw dh d).length <= (Wn.P dn d.spring).length := List.length_filter_le _ _
    rw [decide_eq_true hd] at h1 h2
    refine ⟨(Wn.Sd dn tr tw dh d, 0), ?_, ?_⟩
    · unfold zat
      refine M.i_bind (opened_ends R) ?_
      dsimp only
      exact M.i_f rfl (M.i_bind h2 (M.i_f rfl (M.i_bind (stretch_ends R ho) (M.ig1 M.i_pure))))
    · unfold za5
      exact M.i_bind hc (M.i_f rfl (M.i_bind h1 (M.i_f rfl (M.i_bind (refstretch R ho) M.i_pure))))
  · rw [decide_eq_false hd] at h1 h2
    refine ⟨([], 2), ?_, ?_⟩
    · unfold zat
      refine M.i_bind (opened_ends R) ?_
      dsimp only
      exact M.i_f rfl (M.i_bind h2 (M.i_t rfl M.i_pure))
    · unfold za5
      exact M.i_bind hc (M.i_f rfl (M.i_bind h1 (M.i_t rfl M.i_pure)))
end Go.Proofs.YtbaehghammbjdaaGreat
namespace Go.Nm
/-- Is a station in a set of a number? -/
def bitB (set i : Nat) : Bool := (((set : Int) / 2 ^ i) % 2) == 1
def setL (set n : Nat) : List Int := ((List.range n).filter (bitB set)).map fun i : Nat => (i : Int)
theorem setL_next (set n : Nat) : setL set (n + 1) = if bitB set n then setL set n ++ [(n : Int)] else setL set n := by
  unfold setL
  rw [List.range_succ, List.filter_append]
  split
  · rename_i h; simp only [List.filter_cons, h, if_true, List.filter_nil, List.map_append, List.map_cons, List.map_nil]
  · rename_i h; simp only [List.filter_cons, h, List.filter_nil, Bool.false_eq_true, if_false, List.append_nil]
theorem setL_len (set n : Nat) : (setL set n).length <= n := by
  unfold setL
  rw [List.length_map]
  exact Nat.le_trans (List.length_filter_le _ _) (by simp)
theorem pow_cast (n : Nat) : (2 : Int) ^ n = ((2 ^ n : Nat) : Int) := by
  induction n with
  | zero => rfl
  | succ n ih => rw [Int.pow_succ, ih, Nat.pow_succ]; omega
theorem bitB_test (set i : Nat) : bitB set i = Nat.testBit set i := by
  unfold bitB
  rw [Nat.testBit_eq_decide_div_mod_eq, pow_cast]
  have : (((set : Int) / ((2 ^ i : Nat) : Int)) % 2) = ((set / 2 ^ i % 2 : Nat) : Int) := by
    rw [← Int.natCast_ediv]
    omega
  rw [this, Bool.eq_iff_iff, beq_iff_eq, decide_eq_true_iff]
  omega
/-- Each set has a number. -/
theorem set_of (p : Nat -> Bool) : ∀ n, ∃ set, set < 2 ^ n /\ ∀ i, i < n -> bitB set i = p i
  | 0 => ⟨0, by simp, fun i hi => by omega⟩
  | n + 1 => by
    obtain ⟨s, h1, h2⟩ := set_of p n
    cases hp : p n with
    | false =>
      refine ⟨s, by rw [Nat.pow_succ]; omega, fun i hi => ?_⟩
      by_cases e : i = n
      · subst e
        rw [bitB_test, Nat.testBit_lt_two_pow h1, hp]
      · exact h2 i (by omega)
    | true =>
      refine ⟨2 ^ n + s, by rw [Nat.pow_succ]; omega, fun i hi => ?_⟩
      rw [bitB_test]
      by_cases e : i = n
      · subst e
        rw [Nat.testBit_two_pow_add_eq, Nat.testBit_lt_two_pow h1, hp]
        rfl
      · rw [Nat.testBit_two_pow_add_gt (by omega), ← bitB_test]
        exact h2 i (by omega)
theorem setL_mem {s n : Nat} {x : Int} : x ∈ setL s n ↔ ∃ i : Nat, i < n /\ bitB s i = true /\ x = (i : Int) := by
  unfold setL
  simp only [List.mem_map, List.mem_filter, List.mem_range]
  constructor
  · rintro ⟨i, ⟨h1, h2⟩, rfl⟩; exact ⟨i, h1, h2, rfl⟩
  · rintro ⟨i, h1, h2, rfl⟩; exact ⟨i, ⟨h1, h2⟩, rfl⟩
/-- The best set so far. -/
structure BestS (n : Nat) (C : List Int -> Prop) (i : Nat) (b : Int) : Prop where
  is : b = -1 ∨ ∃ s, s < i /\ C (setL s n) /\ b = ((setL s n).length : Int)
  no : b = -1 -> ∀ s, s < i -> ¬ C (setL s n)
  le : b ≠ -1 -> ∀ s, s < i -> C (setL s n) -> b <= ((setL s n).length : Int)
theorem BestS.skip {n : Nat} {C : List Int -> Prop} {i : Nat} {b : Int} (h : BestS n C i b) (hs : ¬ C (setL i n) ∨ (b ≠ -1 /\ b <= ((setL i n).length : Int))) : BestS n C (i + 1) b := by
  refine ⟨h.is.imp id fun ⟨s, h1, h2⟩ => ⟨s, by omega, h2⟩, fun hb s hs' => ?_, fun hb s hs' hg => ?_⟩
  · by_cases e : s = i
    · subst e
      rcases hs with hs | hs
      · exact hs
      · exact absurd hb hs.1
    · exact h.no hb s (by omega)
  · by_cases e : s = i
    · subst e
      rcases hs with hs | hs
      · exact absurd hg hs
      · exact hs.2
    · exact h.le hb s (by omega) hg
theorem BestS.put {n : Nat} {C : List Int -> Prop} {i : Nat} {b : Int} (h : BestS n C i b) (hg : C (setL i n)) (hb : b = -1 ∨ ((setL i n).length : Int) < b) : BestS n C (i + 1) ((setL i n).length : Int) := by
  refine ⟨.inr ⟨i, by omega, hg, rfl⟩, fun e => by omega, fun _ s hs hg' => ?_⟩
  by_cases e : s = i
  · subst e; omega
  · rcases hb with hb | hb
    · exact absurd hg' (h.no hb s (by omega))
    · by_cases e2 : b = -1
      · exact absurd hg' (h.no e2 s (by omega))
      · have := h.le e2 s (by omega) hg'
        omega
end Go.Nm
namespace Go.Proofs.YtbaehghammbjdaaGreat
open Go Go.Nm
variable {dn : List Int} {tr : List Span} {sp : List Int} {tw : List Town} {dl dh : Int} {fl : List Flood} {W : List Int}
theorem late1_ends (R : Wn.Rv dn tr sp tw dl dh fl) {d : Dem} (hd : Wn.OkD dn tw d) {ar : List Bool} (h : ∀ j : Nat, ar.getD j false = true ↔ (j : Int) ∈ W) : (zcz d dn tr sp tw dl dh fl ar).Ends (Wn.mt dn tr tw dh W d) := by
  have h12 := R.n12
  unfold zcz
  refine M.i_bind (stretch_ends R hd) (M.i_bind (contains_ints _ _ (fun s => decide (s ∈ W)) fun s hs => ?_) M.i_pure)
  have := stretch_in R hd s hs
  unfold zcM
  refine M.ig2 (M.i_eq M.i_pure ?_)
  rw [Bool.eq_iff_iff, decide_eq_true_iff, h, Int.toNat_of_nonneg this.1]
theorem delete_ends (R : Wn.Rv dn tr sp tw dl dh fl) {D : List Dem} (hl : D.length <= 64) (ho : ∀ d ∈ D, Wn.OkD dn tw d) {ar : List Bool} (h : ∀ j : Nat, ar.getD j false = true ↔ (j : Int) ∈ W) :
    (zcO D dn tr sp tw dl dh fl ar).Ends (D.filter fun d => !Wn.mt dn tr tw dh W d) := by
  refine M.Out.ends ?_
  have hin : ∀ i, i < D.length -> D.getD i default ∈ D := fun i hi => by rw [getD_el D hi]; exact List.getElem_mem hi
  unfold zcO
  refine M.o_bind (P := fun (r : Int) => (r = -1 /\ ∀ i, i < D.length -> Wn.mt dn tr tw dh W (D.getD i default) = false) ∨ ∃ k : Nat, r = k /\ k < D.length /\ Wn.mt dn tr tw dh W (D.getD k default) = true /\ ∀ j, j < k -> Wn.mt dn tr tw dh W (D.getD j default) = false) ?_ ?_
  · unfold zdu
    refine M.o_bind (P := fun r => match r with | .inl r => ∃ k : Nat, r = (k : Int) /\ k < D.length /\ Wn.mt dn tr tw dh W (D.getD k default) = true /\ ∀ j, j < k -> Wn.mt dn tr tw dh W (D.getD j default) = false | .inr (_ : Unit) => ∀ i, i < D.length -> Wn.mt dn tr tw dh W (D.getD i default) = false) ?_ ?_
    · refine M.o_for D.length (fun i (k : Nat) => k = i /\ ∀ j, j < i -> Wn.mt dn tr tw dh W (D.getD j default) = false) ?_ ?_ ⟨rfl, fun j hj => by omega⟩
      · rintro _ i hi ⟨rfl, hp⟩
        simp only [zcl]
        refine M.ot1 (M.og1 (M.o_bindE (late1_ends R (ho _ (hin i hi)) h) (M.o_if (fun hb => M.o_pure ⟨i, rfl, hi, hb, hp⟩) (fun hb => M.o_pure ⟨rfl, fun j hj => ?_⟩))))
        rcases Nat.lt_or_eq_of_le (Nat.le_of_lt_succ hj) with e | e
        · exact hp j e
        · subst e
          exact hb
      · rintro _ ⟨rfl, hp⟩
        simp only [zcl]
        exact M.of1 (M.o_pure hp)
    · rintro (r | r) h
      · exact M.o_pure (.inr h)
      · exact M.o_pure (.inl ⟨rfl, h⟩)
  have hsub : ∀ m, m <= D.length -> (∀ j, j < m -> Wn.mt dn tr tw dh W (D.getD j default) = false) -> (D.take m).filter (fun d => !Wn.mt dn tr tw dh W d) = D.take m := by
    intro m hm hf
    rw [List.filter_eq_self]
    intro d hd
    obtain ⟨j, hj, rfl⟩ := List.mem_take_iff_getElem.1 hd
    have := hf j (by omega)
    rw [getD_el D (by omega)] at this
    rw [this]
    rfl
  · rintro r (⟨rfl, h1⟩ | ⟨k, rfl, hk, h1, h2⟩)
    · refine M.o_t rfl (M.o_pure ?_)
      have := hsub D.length (Nat.le_refl _) h1
      rw [List.take_length] at this
      exact this.symm
    · refine M.o_f (beq_eq_false_iff_ne.2 (by omega)) (M.og2 ?_)
      refine M.o_bind (P := fun y => (0 <= y.2.1 /\ y.2.1 <= (y.2.2.length : Int)) /\ y.2.2.take (Int.toNat y.2.1) = D.filter fun d => !Wn.mt dn tr tw dh W d) ?_ ?_
      · refine M.o_for (D.length - (k + 1)) (fun m (t : List Dem × Int × Int) => t.2.2 = (k : Int) + 1 + m /\ t.1.length = D.length /\ (0 <= t.2.1 /\ t.2.1 < t.2.2) /\ (∀ p : Nat, t.2.2 <= p -> t.1.getD p default = D.getD p default) /\ t.1.take (Int.toNat t.2.1) = (D.take (k + 1 + m)).filter fun d => !Wn.mt dn tr tw dh W d) ?_ ?_ ⟨by dsimp only; omega, rfl, ⟨by dsimp only; omega, by dsimp only; omega⟩, fun p _ => rfl, ?_⟩
        · rintro m ⟨l, i, j⟩ hm ⟨e1, e2, ⟨e3, e4⟩, e5, e6⟩
          dsimp only at e1 e2 e3 e4 e5 e6
          obtain ⟨q, rfl⟩ : ∃ q : Nat, j = q := ⟨Int.toNat j, by omega⟩
          obtain ⟨p, rfl⟩ : ∃ p : Nat, i = p := ⟨Int.toNat i, by omega⟩
          have hq := e5 q (Int.le_refl _)
          have eq1 : q = k + 1 + m := by omega
          simp only [zcg, Int.toNat_natCast]
          rw [Int.toNat_natCast] at e6
          rw [hq]
          have hstep : (D.take (k + 1 + (m + 1))).filter (fun d => !Wn.mt dn tr tw dh W d) = l.take p ++ if Wn.mt dn tr tw dh W (D.getD q default) = true then [] else [D.getD q default] := by
            rw [← eq1] at e6
            rw [show k + 1 + (m + 1) = q + 1 by omega, List.take_succ_eq_append_getElem (show q < D.length by omega), List.filter_append, ← e6, ← getD_el D (show q < D.length by omega) default]
            congr 1
            cases hh : Wn.mt dn tr tw dh W (D.getD q default) with
            | true => rw [if_pos rfl, List.filter_cons_of_neg (by rw [hh]; exact Bool.false_ne_true)]; rfl
            | false => rw [if_neg Bool.false_ne_true, List.filter_cons_of_pos (by rw [hh]; rfl)]; rfl
          refine M.ot1 (M.og2 (M.o_bindE (late1_ends R (ho _ (hin q (by omega))) h) (M.o_if (fun hb => ?_) (fun hb => ?_))))
          · refine M.og2 (M.o_pure ⟨by dsimp only; omega, by dsimp only; rw [List.length_set, e2], ⟨by dsimp only; omega, by dsimp only; omega⟩, fun p' hp => ?_, ?_⟩)
            · dsimp only at hp ⊢
              rw [gset _ _ _ _ _ (by omega), if_neg (by omega)]
              exact e5 p' (by omega)
            · dsimp only
              have hb : Wn.mt dn tr tw dh W (D.getD q default) = false := by simpa using hb
              rw [hb, if_neg Bool.false_ne_true] at hstep
              rw [hstep, show Int.toNat ((p : Int) + 1) = p + 1 by omega]
              exact take_set_app (by omega)
          · refine M.o_pure ⟨by dsimp only; omega, e2, ⟨e3, by dsimp only; omega⟩, fun p hp => e5 p (by dsimp only at hp; omega), ?_⟩
            dsimp only
            have hb : Wn.mt dn tr tw dh W (D.getD q default) = true := by simpa using hb
            rw [hb, if_pos rfl, List.append_nil] at hstep
            rw [hstep, Int.toNat_natCast]
        · rintro ⟨l, i, j⟩ ⟨e1, e2, ⟨e3, e4⟩, e5, e6⟩
          dsimp only at e1 e2 e3 e4 e5 e6
          simp only [zcg]
          refine M.of1 (M.o_pure ⟨⟨e3, by dsimp only; omega⟩, ?_⟩)
          dsimp only
          rw [e6, show k + 1 + (D.length - (k + 1)) = D.length by omega, List.take_length]
        · dsimp only
          rw [Int.toNat_natCast, Nat.add_zero, List.take_succ_eq_append_getElem hk, List.filter_append, hsub k (by omega) h2, ← getD_el D hk default, List.filter_cons_of_neg (by rw [h1]; exact Bool.false_ne_true)]
          simp
      · rintro ⟨l1, i, l⟩ ⟨⟨a1, a2⟩, a3⟩
        dsimp only at a1 a2 a3 ⊢
        exact M.o_grd (gA2 a1 a2) (M.o_pure a3)
/-- The demands that watches do not meet. -/
def Lt (dn : List Int) (tr : List Span) (sp : List Int) (tw : List Town) (dh : Int) (W : List Int) : List Dem := (Wn.Dm dn sp tw).filter fun d => !Wn.mt dn tr tw dh W d
theorem late_ends (R : Wn.Rv dn tr sp tw dl dh fl) (hU : Wn.Up W dn.length) : (zaF dn tr sp tw dl dh fl W).Ends (Lt dn tr sp tw dh W, 0) := by
  refine M.Out.ends ?_
  unfold zaF
  refine M.o_bind (posted_iff R hU.sr hU.si) ?_
  rintro _ ⟨ar, rfl, h⟩
  dsimp only
  exact M.o_f rfl (M.o_bindE (demandsD R) (M.o_bindE (delete_ends R (dm_is R).1 (dm_ok R) h) (M.o_pure rfl)))
theorem late_bad (R : Wn.Rv dn tr sp tw dl dh fl) (hU : ¬ Wn.Up W dn.length) : (zaF dn tr sp tw dl dh fl W).Ends ([], 2) := by
  have h12 := R.n12
  refine M.Out.ends ?_
  unfold zaF
  refine M.o_bindE (a := (.inl (List.replicate 12 false, 2) : (List Bool × Int) ⊕ (Int × Int × List Bool × Int))) ?_ ?_
  case refine_2 => exact M.o_t rfl (M.o_pure rfl)
  refine M.Out.ends ?_
  unfold zaH
  refine M.o_bindE (opened_ends R) ?_
  dsimp only
  refine M.o_bind (P := fun r => r = false) (M.o_opt (fun _ => M.o_mono (rising_out (by omega)) fun r hr => ?_) fun h => (by cases h)) ?_
  · rw [← Bool.not_eq_true, hr]
    exact hU
  · rintro _ rfl
    refine M.o_t rfl ?_
    unfold zbI
    exact M.o_t rfl (M.o_pure rfl)
theorem reflate_ends (R : Wn.Rv dn tr sp tw dl dh fl) (hw : ∀ x ∈ W, 0 <= x /\ x < (dn.length : Int)) : (zcq dn tr sp tw dl dh fl W).Ends (Lt dn tr sp tw dh W) := by
  have hl := (dm_is R).1
  have hin : ∀ i, i < (Wn.Dm dn sp tw).length -> (Wn.Dm dn sp tw).getD i default ∈ Wn.Dm dn sp tw := fun i hi => by rw [getD_el _ hi]; exact List.getElem_mem hi
  have b2 : ∀ i, i < (Wn.Dm dn sp tw).length -> (M.iter (zaO dn tr sp tw dl dh fl W (Wn.Dm dn sp tw) i) (false, 0)).Ends (Wn.mt dn tr tw dh W ((Wn.Dm dn sp tw).getD i default)) := by
    intro i hi
    have ho := dm_ok R _ (hin i hi)
    have e : Wn.mt dn tr tw dh W ((Wn.Dm dn sp tw).getD i default) = W.any fun s => decide (s ∈ Wn.Sd dn tr tw dh ((Wn.Dm dn sp tw).getD i default)) := by
      unfold Wn.mt
      rw [Bool.eq_iff_iff, List.any_eq_true, List.any_eq_true]
      simp only [decide_eq_true_eq]
      exact ⟨fun ⟨s, h1, h2⟩ => ⟨s, h2, h1⟩, fun ⟨s, h1, h2⟩ => ⟨s, h2, h1⟩⟩
    have := M.i_for (body := zaO dn tr sp tw dl dh fl W (Wn.Dm dn sp tw) i) (r := W.any fun s => decide (s ∈ Wn.Sd dn tr tw dh ((Wn.Dm dn sp tw).getD i default))) (fun k => ((W.take k).any fun s => decide (s ∈ Wn.Sd dn tr tw dh ((Wn.Dm dn sp tw).getD i default)), k)) W.length (fun k hk => ?_) ?_
    · rw [e]
      simpa using this
    · simp only [zaO]
      have hx := hw (W.getD k 0) (by rw [getD_el W hk]; exact List.getElem_mem hk)
      refine M.it1 (M.i_grd (gOr (by omega)) (M.i_grd (gOr (by omega)) (M.i_bind (M.i_optA (meets_ends R ho hx)) ?_)))
      rw [List.take_succ_eq_append_getElem hk, List.any_append, ← getD_el W hk 0]
      simp only [List.any_cons, List.any_nil, Bool.or_false]
      refine M.i_eq M.i_pure ?_
      cases ((W.take k).any fun s => decide (s ∈ Wn.Sd dn tr tw dh ((Wn.Dm dn sp tw).getD i default))) <;> simp
    · simp only [zaO, List.take_length]
      exact M.if1 M.i_pure
  unfold zcq
  refine M.i_bind (refdemands R) (M.i_bind (a := (Lt dn tr sp tw dh W, Lt dn tr sp tw dh W)) ?_ M.i_pure)
  have := M.i_for (body := zbf dn tr sp tw dl dh fl W (Wn.Dm dn sp tw)) (r := (Lt dn tr sp tw dh W, Lt dn tr sp tw dh W)) (fun k => (k, ((Wn.Dm dn sp tw).take k).filter fun d => !Wn.mt dn tr tw dh W d)) (Wn.Dm dn sp tw).length (fun k hk => ?_) ?_
  · simpa using this
  · simp only [zbf]
    have hle : (((Wn.Dm dn sp tw).take k).filter fun d => !Wn.mt dn tr tw dh W d).length <= k := Nat.le_trans (List.length_filter_le _ _) (by rw [List.length_take]; omega)
    refine M.it1 (M.i_bind (b2 k hk) ?_)
    rw [List.take_succ_eq_append_getElem hk, List.filter_append, ← getD_el _ hk default]
    cases hm : Wn.mt dn tr tw dh W ((Wn.Dm dn sp tw).getD k default) with
    | true =>
      rw [List.filter_cons_of_neg (by rw [hm]; exact Bool.false_ne_true)]
      refine M.i_f rfl (M.i_eq M.i_pure ?_)
      simp
    | false =>
      rw [List.filter_cons_of_pos (by rw [hm]; rfl)]
      exact M.i_t rfl (M.ig1 (M.i_grd (decide_eq_true (by simp; omega)) M.i_pure))
  · simp only [zbf, List.take_length]
    exact M.if1 M.i_pure
theorem refLate_ends (R : Wn.Rv dn tr sp tw dl dh fl) (hc : (zae dn tr sp tw dl dh fl).Ends 0) (hl : W.length <= 1000) (hU : Wn.Up W dn.length) : (zaq dn tr sp tw dl dh fl W).Ends (Lt dn tr sp tw dh W, 0) := by
  have h12 := R.n12
  refine M.Out.ends ?_
  unfold zaq
  refine M.o_bindE hc (M.o_f rfl (M.o_bind (unlisted_out (by omega) hl) ?_))
  intro r hr
  have : r = false := by
    rw [← Bool.not_eq_true, hr]
    exact fun h => h hU
  subst this
  exact M.o_f rfl (M.o_bindE (reflate_ends R hU.si) (M.o_pure rfl))
theorem refLate_bad (R : Wn.Rv dn tr sp tw dl dh fl) (hc : (zae dn tr sp tw dl dh fl).Ends 0) (hl : W.length <= 1000) (hU : ¬ Wn.Up W dn.length) : (zaq dn tr sp tw dl dh fl W).Ends ([], 2) := by
  have h12 := R.n12
  refine M.Out.ends ?_
  unfold zaq
  refine M.o_bindE hc (M.o_f rfl (M.o_bind (unlisted_out (by omega) hl) ?_))
  intro r hr
  have : r = true := hr.2 hU
  subst this
  exact M.o_t rfl (M.o_pure rfl)
theorem zd6 {set : Nat} (hn : dn.length <= 12) (hs : set <= 4096) : (M.iter (zbv dn set) (0, [])).Ends (setL set dn.length, setL set dn.length) := by
  refine M.i_for (fun i => (i, setL set i)) dn.length (fun i hi => ?_) ?_
  · have hl := setL_len set i
    have hp : (0 : Int) < 2 ^ i := Int.pow_pos (by decide)
    have h0 : 0 <= (set : Int) / 2 ^ i := Int.ediv_nonneg (by omega) (by omega)
    have h1 : (set : Int) / 2 ^ i <= set := Int.ediv_le_self _ (by omega)
    simp only [zbv]
    rw [setL_next]
    refine M.i_t (by simpa using hi) (M.ig2 (M.i_grd (gA2 h0 (by omega)) ?_))
    show (bif bitB set i then _ else _ : M _).Ends _
    cases bitB set i with
    | true => exact M.i_t rfl (M.grdD (by simp only [List.length_cons, List.length_nil]; omega) M.i_pure)
    | false => exact M.i_f rfl M.i_pure
  · simp only [zbv]
    exact M.i_f (by simp) M.i_pure
theorem setL_in {s n : Nat} : ∀ x ∈ setL s n, 0 <= x /\ x < (n : Int) := fun x hx => by
  obtain ⟨i, h1, _, rfl⟩ := setL_mem.1 hx
  omega
theorem setL_up {s n : Nat} : (setL s n).Pairwise (· < ·) := by
  unfold setL
  rw [List.pairwise_map]
  exact (List.Pairwise.sublist List.filter_sublist List.pairwise_lt_range).imp fun h => by omega
theorem refFewest_out (R : Wn.Rv dn tr sp tw dl dh fl) (hc : (zae dn tr sp tw dl dh fl).Ends 0) : (zby dn tr sp tw dl dh fl).Out (fun r => (r = (0, 6) /\ ∀ s, s < 2 ^ dn.length -> Lt dn tr sp tw dh (setL s dn.length) ≠ []) ∨
    (r.2 = 0 /\ (∃ s, s < 2 ^ dn.length /\ Lt dn tr sp tw dh (setL s dn.length) = [] /\ r.1 = ((setL s dn.length).length : Int)) /\ ∀ s, s < 2 ^ dn.length -> Lt dn tr sp tw dh (setL s dn.length) = [] -> r.1 <= ((setL s dn.length).length : Int))) := by
  have h12 := R.n12
  have hpow : 2 ^ dn.length <= 4096 := Nat.pow_le_pow_right (n := 2) (by decide) h12
  have hpc := pow_cast dn.length
  have hp0 : (0 : Int) < 2 ^ dn.length := Int.pow_pos (by decide)
  have hp1 : (2 : Int) ^ dn.length <= 4096 := by rw [hpc]; exact Int.ofNat_le.2 hpow
  have g0 : (decide (0 <= (dn.length : Int)) && decide ((dn.length : Int) <= (62 : Int)) && decide ((-9223372036854775808 : Int) <= (1 * 2 ^ (dn.length))) && decide ((1 * 2 ^ (dn.length)) <= (9223372036854775807 : Int))) = true := by
    rw [decide_eq_true (by omega : (0 : Int) <= (dn.length : Int)), decide_eq_true (by omega : (dn.length : Int) <= 62), decide_eq_true (by omega : (-9223372036854775808 : Int) <= 1 * 2 ^ dn.length), decide_eq_true (by omega : 1 * (2 : Int) ^ dn.length <= 9223372036854775807)]
    rfl
  unfold zby
  refine M.o_bindE hc (M.o_f rfl (M.o_bind (P := fun b => BestS dn.length (fun l => Lt dn tr sp tw dh l = []) (2 ^ dn.length) b) ?_ ?_))
  · refine M.o_for (2 ^ dn.length) (fun i (st : Int × Nat) => st.2 = i /\ BestS dn.length (fun l => Lt dn tr sp tw dh l = []) i st.1) ?_ ?_ ⟨rfl, .inl rfl, fun _ s hs => by omega, fun h => absurd rfl h⟩
    · rintro _ ⟨b, i⟩ hi ⟨rfl, hb⟩
      dsimp only at hi hb
      have hl := setL_len i dn.length
      simp only [zcj]
      refine M.o_grd g0 (M.o_t (by simp only [decide_eq_true_eq, hpc]; omega) (M.o_bindE (zd6 h12 (by omega)) ?_))
      dsimp only
      refine M.o_if (fun hq => ?_) (fun hq => ?_)
      · have hq' : b = -1 ∨ ((setL i dn.length).length : Int) < b := by
          simp only [Bool.or_eq_true, beq_iff_eq, decide_eq_true_eq] at hq
          exact hq
        refine M.o_bindE (reflate_ends R setL_in) (M.o_if (fun hz => M.og2 (M.o_pure ⟨rfl, hb.put ?_ hq'⟩)) (fun hz => M.og2 (M.o_pure ⟨rfl, hb.skip (.inl ?_)⟩)))
        · rw [Bool.and_eq_true, beq_iff_eq] at hz
          exact List.length_eq_zero_iff.1 (by omega)
        · intro h
          rw [hq, h] at hz
          cases hz
      · simp only [Bool.or_eq_false_iff, beq_eq_false_iff_ne, decide_eq_false_iff_not] at hq
        exact M.og2 (M.o_pure ⟨rfl, hb.skip (.inr ⟨hq.1, by omega⟩)⟩)
    · rintro ⟨b, i⟩ ⟨e, hb⟩
      dsimp only at e hb
      subst e
      simp only [zcj]
      exact M.o_grd g0 (M.o_f (by simp only [decide_eq_false_iff_not, hpc]; omega) (M.o_pure hb))
  · intro b hb
    refine M.o_if (fun h => M.o_pure (.inl ⟨rfl, hb.no (beq_iff_eq.1 h)⟩)) (fun h => ?_)
    have h : b ≠ -1 := beq_eq_false_iff_ne.1 h
    exact M.o_pure (.inr ⟨rfl, hb.is.resolve_left h, hb.le h⟩)
theorem every_79 (R : Wn.Rv dn tr sp tw dl dh fl) (l : List Dem) : (zb3 l dn tr sp tw dl dh fl).Ends (l.all fun d => decide (d ∈ Wn.Dm dn sp tw)) := by
  unfold zb3
  refine M.i_bind (contains_dem l _ (fun d => !decide (d ∈ Wn.Dm dn sp tw)) fun d _ => ?_) (M.i_eq M.i_pure ?_)
  · unfold zcF
    exact M.i_bind (is_ends R d) M.i_pure
  · rw [List.all_eq_not_any_not]
theorem prov_b1 {ar : List Bool} {r3 : List Int} (h0 : ar.length = 12) (hr : ∀ s ∈ r3, 0 <= s /\ s < 12) : (M.iter (zbe r3) (ar, 0)).Out (fun a => a.length = 12 /\ ∀ j : Nat, a.getD j false = true ↔ ar.getD j false = true ∨ (j : Int) ∈ r3) := by
  refine M.o_for r3.length (fun i (t : List Bool × Nat) => t.2 = i /\ t.1.length = 12 /\ ∀ j : Nat, t.1.getD j false = true ↔ ar.getD j false = true ∨ (j : Int) ∈ r3.take i) ?_ ?_ ⟨rfl, h0, fun j => by simp⟩
  · rintro _ ⟨a, i⟩ hi ⟨rfl, h1, h2⟩
    dsimp only at hi h1 h2
    simp only [zbe]
    have hx := hr (r3.getD i 0) (by rw [getD_el r3 hi]; exact List.getElem_mem hi)
    refine M.ot1 (M.og1 (M.og2 (M.o_pure ⟨rfl, by dsimp only; rw [List.length_set, h1], fun j => ?_⟩)))
    dsimp only
    rw [gset _ _ _ _ _ (by omega), List.take_succ_eq_append_getElem hi, List.mem_append, List.mem_singleton, ← getD_el r3 hi 0]
    by_cases c : j = Int.toNat (r3.getD i 0)
    · rw [if_pos c]
      exact ⟨fun _ => .inr (.inr (by omega)), fun _ => rfl⟩
    · rw [if_neg c, h2 j]
      constructor
      · rintro (g | g)
        · exact .inl g
        · exact .inr (.inl g)
      · rintro (g | g | g)
        · exact .inl g
        · exact .inr g
        · omega
  · rintro ⟨a, i⟩ ⟨e, h1, h2⟩
    dsimp only at e h1 h2
    subst e
    rw [List.take_length] at h2
    simp only [zbe]
    exact M.of1 (M.o_pure ⟨h1, h2⟩)
theorem proves_out (R : Wn.Rv dn tr sp tw dl dh fl) {l : List Dem} (h : ∀ d ∈ l, d ∈ Wn.Dm dn sp tw) (hl : l.length <= 64) (many : Int) :
    (zax dn tr sp tw dl dh fl many l).Out (fun y => y.2 = 0 /\ (y.1 = true ↔ (l.Pairwise (Wn.Dj dn tr tw dh) /\ ∀ d ∈ l, Wn.Sd dn tr tw dh d ≠ []) /\ many <= l.length)) := by
  have h12 := R.n12
  unfold zax
  refine M.o_bindE (opened_ends R) ?_
  dsimp only
  refine M.o_f rfl (M.of1 (M.o_bindE (M.i_eq (every_79 R l) (List.all_eq_true.2 fun d hd => decide_eq_true (h d hd))) (M.o_f rfl ?_)))
  have hin : ∀ i, i < l.length -> l.getD i default ∈ l := fun i hi => by rw [getD_el l hi]; exact List.getElem_mem hi
  refine M.o_bind (P := fun x => match x with | .inl (_ : List Bool) => ¬ (l.Pairwise (Wn.Dj dn tr tw dh) /\ ∀ d ∈ l, Wn.Sd dn tr tw dh d ≠ []) | .inr (_ : List Bool) => l.Pairwise (Wn.Dj dn tr tw dh) /\ ∀ d ∈ l, Wn.Sd dn tr tw dh d ≠ []) ?_ ?_
  · refine M.o_for l.length (fun i (t : List Bool × Nat) => t.2 = i /\ t.1.length = 12 /\ (∀ j : Nat, t.1.getD j false = true ↔ ∃ k, k < i /\ (j : Int) ∈ Wn.Sd dn tr tw dh (l.getD k default)) /\ (∀ a b, a < b -> b < i -> Wn.Dj dn tr tw dh (l.getD a default) (l.getD b default)) /\ ∀ a, a < i -> Wn.Sd dn tr tw dh (l.getD a default) ≠ []) ?_ ?_ ⟨rfl, by simp, fun j => ?_, fun a b _ hb => by omega, fun a ha => by omega⟩
    · rintro _ ⟨ar, i⟩ hi ⟨rfl, h1, h2, h3, h4⟩
      dsimp only at hi h1 h2 h3 h4
      simp only [zbR]
      have hok := dm_ok R _ (h _ (hin i hi))
      have hst := stretch_in R hok
      have hc : (zau (Wn.Sd dn tr tw dh (l.getD i default)) (fun xqz => zbZ xqz ar)).Ends ((Wn.Sd dn tr tw dh (l.getD i default)).any fun s => ar.getD (Int.toNat s) false) := by
        refine contains_ints _ _ _ fun s hs => ?_
        have := hst s hs
        unfold zbZ
        exact M.ig2 M.i_pure
      refine M.ot1 (M.og1 (M.o_bindE (stretch_ends R hok) ?_))
      by_cases hz : Wn.Sd dn tr tw dh (l.getD i default) = []
      · have hz' : (((Wn.Sd dn tr tw dh (l.getD i default)).length : Int) == 0) = true := by rw [hz]; rfl
        rw [hz']
        refine M.o_bindE (M.i_opt (fun h => (by cases h)) (fun _ => rfl)) (M.o_t rfl (M.o_pure ?_))
        exact fun hh => hh.2 _ (hin i hi) hz
      · have hp := List.length_pos_iff.2 hz
        have hz' : (((Wn.Sd dn tr tw dh (l.getD i default)).length : Int) == 0) = false := beq_eq_false_iff_ne.2 (by omega)
        rw [hz']
        refine M.o_bindE (M.i_opt (fun _ => hc) (fun h => (by cases h))) (M.o_if (fun hb => M.o_pure ?_) (fun hb => ?_))
        · rw [Bool.false_or, List.any_eq_true] at hb
          obtain ⟨s, s1, s2⟩ := hb
          obtain ⟨k, k1, k2⟩ := (h2 _).1 s2
          rw [Int.toNat_of_nonneg (hst s s1).1] at k2
          intro hh
          have := List.pairwise_iff_getElem.1 hh.1 k i (by omega) hi k1
          rw [← getD_el l (show k < l.length by omega) default, ← getD_el l hi default] at this
          exact this s k2 s1
        · rw [Bool.false_or, List.any_eq_false] at hb
          refine M.o_bind (prov_b1 h1 fun s hs => by have := hst s hs; omega) ?_
          rintro a ⟨b1, b2⟩
          refine M.o_pure ⟨rfl, b1, fun j => ?_, fun x y hxy hy => ?_, fun x hx => ?_⟩
          · dsimp only
            rw [b2 j, h2 j]
            constructor
            · rintro (⟨k, k1, k2⟩ | g)
              · exact ⟨k, by omega, k2⟩
              · exact ⟨i, Nat.lt_succ_self _, g⟩
            · rintro ⟨k, k1, k2⟩
              rcases Nat.lt_or_eq_of_le (Nat.le_of_lt_succ k1) with g | g
              · exact .inl ⟨k, g, k2⟩
              · subst g
                exact .inr k2
          · rcases Nat.lt_or_eq_of_le (Nat.le_of_lt_succ hy) with g | g
            · exact h3 x y hxy g
            · subst g
              intro s s1 s2
              apply hb s s2
              exact (h2 _).2 ⟨x, hxy, by rw [Int.toNat_of_nonneg (hst s s2).1]; exact s1⟩
          · rcases Nat.lt_or_eq_of_le (Nat.le_of_lt_succ hx) with g | g
            · exact h4 x g
            · subst g
              exact hz
    · rintro ⟨ar, i⟩ ⟨e, h1, h2, h3, h4⟩
      dsimp only at e h1 h2 h3 h4
      subst e
      simp only [zbR]
      refine M.of1 (M.o_pure ⟨?_, fun d hd => ?_⟩)
      · rw [List.pairwise_iff_getElem]
        intro x y hx hy hxy
        rw [← getD_el l hx default, ← getD_el l hy default]
        exact h3 x y hxy hy
      · obtain ⟨k, hk, rfl⟩ := mem_getD hd default
        exact h4 k hk
    · dsimp only
      rw [List.getD_eq_getElem?_getD, List.getElem?_replicate]
      constructor
      · intro hj
        split at hj <;> cases hj
      · rintro ⟨k, hk, _⟩
        omega
  · rintro (a | a) hq
    · exact M.o_pure ⟨rfl, fun h => (by cases h), fun h => absurd h.1 hq⟩
    · exact M.o_pure ⟨rfl, fun h => ⟨hq, of_decide_eq_true h⟩, fun h => decide_eq_true h.2⟩
theorem refProves_out (R : Wn.Rv dn tr sp tw dl dh fl) (hc : (zae dn tr sp tw dl dh fl).Ends 0) {l : List Dem} (h : ∀ d ∈ l, d ∈ Wn.Dm dn sp tw) (hl : l.length <= 64) (many : Int) :
    (zap dn tr sp tw dl dh fl many l).Out (fun y => y.2 = 0 /\ (y.1 = true ↔ (l.Pairwise (Wn.Dj dn tr tw dh) /\ ∀ d ∈ l, Wn.Sd dn tr tw dh d ≠ []) /\ many <= l.length)) := by
  have h12 := R.n12
  have hin : ∀ i, i < l.length -> l.getD i default ∈ l := fun i hi => by rw [getD_el l hi]; exact List.getElem_mem hi
  have ho : ∀ i, i < l.length -> Wn.OkD dn tw (l.getD i default) := fun i hi => dm_ok R _ (h _ (hin i hi))
  unfold zap
  refine M.o_bindE hc (M.o_f rfl (M.of1 (M.o_bindE (a := .inr ()) ?_ ?_)))
  · refine M.i_for (fun i => i) l.length (fun i hi => ?_) ?_
    · simp only [zbh]
      have := demanded_ends R (l.getD i default)
      rw [decide_eq_true (h _ (hin i hi))] at this
      exact M.it1 (M.ig1 (M.i_bind this (M.i_f rfl M.i_pure)))
    · simp only [zbh]
      exact M.if1 M.i_pure
  dsimp only
  have b5 : ∀ i, i < l.length -> ∀ s : Nat, s < dn.length -> (M.iter (zbx dn tr sp tw dl dh fl l i s) 0).Out (fun x => match x with | .inl (_ : Unit) => ∃ k, k < i /\ (s : Int) ∈ Wn.Sd dn tr tw dh (l.getD k default) | .inr (_ : Unit) => ∀ k, k < i -> (s : Int) ∉ Wn.Sd dn tr tw dh (l.getD k default)) := by
    intro i hi s hs
    refine M.o_for i (fun k (t : Nat) => t = k /\ ∀ j, j < k -> (s : Int) ∉ Wn.Sd dn tr tw dh (l.getD j default)) ?_ ?_ ⟨rfl, fun j hj => by omega⟩
    · rintro _ k hk ⟨rfl, hp⟩
      simp only [zbx]
      refine M.ot1 (M.og1 (M.o_bindE (meets_ends R (ho k (by omega)) (s := (s : Int)) (by omega)) (M.o_if (fun hb => M.o_pure ⟨k, hk, of_decide_eq_true hb⟩) (fun hb => M.o_pure ⟨rfl, fun j hj => ?_⟩))))
      rcases Nat.lt_or_eq_of_le (Nat.le_of_lt_succ hj) with e | e
      · exact hp j e
      · subst e
        exact of_decide_eq_false hb
    · rintro _ ⟨rfl, hp⟩
      simp only [zbx]
      exact M.of1 (M.o_pure hp)
  have b6 : ∀ i, i < l.length -> (M.iter (zbC dn tr sp tw dl dh fl l i) (0, 0)).Out (fun x => match x with | .inl (_ : Unit) => ∃ k, k < i /\ ¬ Wn.Dj dn tr tw dh (l.getD k default) (l.getD i default) | .inr (own : Int) => (own = 0 ↔ Wn.Sd dn tr tw dh (l.getD i default) = []) /\ ∀ k, k < i -> Wn.Dj dn tr tw dh (l.getD k default) (l.getD i default)) := by
    intro i hi
    have hst := stretch_in R (ho i hi)
    refine M.o_for dn.length (fun s (t : Nat × Nat) => t.1 = s /\ t.2 <= s /\ (t.2 = 0 ↔ ∀ x : Nat, x < s -> (x : Int) ∉ Wn.Sd dn tr tw dh (l.getD i default)) /\ ∀ k, k < i -> ∀ x : Nat, x < s -> (x : Int) ∈ Wn.Sd dn tr tw dh (l.getD k default) -> (x : Int) ∉ Wn.Sd dn tr tw dh (l.getD i default)) ?_ ?_ ⟨rfl, Nat.le_refl _, ⟨fun _ x hx => by omega, fun _ => rfl⟩, fun k _ x hx => by omega⟩
    · rintro _ ⟨s, own⟩ hs ⟨rfl, h1, h2, h3⟩
      dsimp only at hs h1 h2 h3
      simp only [zbC]
      refine M.ot1 (M.og1 (M.o_bindE (meets_ends R (ho i hi) (s := (s : Int)) (by omega)) (M.o_if (fun hb => M.o_pure ⟨rfl, by dsimp only; omega, ?_, fun k hk x hx => ?_⟩) (fun hb => ?_))))
      · have hb : (s : Int) ∉ Wn.Sd dn tr tw dh (l.getD i default) := by simpa using hb
        dsimp only
        rw [h2]
        refine ⟨fun g x hx => ?_, fun g x hx => g x (by omega)⟩
        rcases Nat.lt_or_eq_of_le (Nat.le_of_lt_succ hx) with e | e
        · exact g x e
        · subst e
          exact hb
      · have hb : (s : Int) ∉ Wn.Sd dn tr tw dh (l.getD i default) := by simpa using hb
        rcases Nat.lt_or_eq_of_le (Nat.le_of_lt_succ hx) with e | e
        · exact h3 k hk x e
        · subst e
          exact fun _ => hb
      · have hb : (s : Int) ∈ Wn.Sd dn tr tw dh (l.getD i default) := by simpa using hb
        refine M.og2 (M.o_bind (b5 i hi s hs) ?_)
        rintro (u | u) hu
        · obtain ⟨k, k1, k2⟩ := hu
          exact M.o_pure ⟨k, k1, fun hh => hh _ k2 hb⟩
        · dsimp only at hu
          refine M.o_pure ⟨rfl, by dsimp only; omega, ⟨fun g => ?_, fun g => absurd hb (g s (Nat.lt_succ_self _))⟩, fun k hk x hx => ?_⟩
          · dsimp only at g
            omega
          · rcases Nat.lt_or_eq_of_le (Nat.le_of_lt_succ hx) with e | e
            · exact h3 k hk x e
            · subst e
              exact fun hh => absurd hh (hu k hk)
    · rintro ⟨s, own⟩ ⟨e, h1, h2, h3⟩
      dsimp only at e h1 h2 h3
      subst e
      simp only [zbC]
      refine M.of1 (M.o_pure ⟨?_, fun k hk x hx1 hx2 => ?_⟩)
      · rw [List.eq_nil_iff_forall_not_mem]
        constructor
        · intro g x hx
          have := hst x hx
          refine h2.1 (by omega) (Int.toNat x) (by omega) ?_
          rw [Int.toNat_of_nonneg this.1]
          exact hx
        · intro g
          have := h2.2 fun x _ => g _
          omega
      · have := hst x hx2
        refine h3 k hk (Int.toNat x) (by omega) ?_ ?_ <;> rw [Int.toNat_of_nonneg this.1]
        · exact hx1
        · exact hx2
  refine M.o_bind (P := fun x => match x with | .inl (_ : Unit) => ¬ (l.Pairwise (Wn.Dj dn tr tw dh) /\ ∀ d ∈ l, Wn.Sd dn tr tw dh d ≠ []) | .inr (_ : Unit) => l.Pairwise (Wn.Dj dn tr tw dh) /\ ∀ d ∈ l, Wn.Sd dn tr tw dh d ≠ []) ?_ ?_
  · refine M.o_for l.length (fun i (t : Nat) => t = i /\ (∀ a b, a < b -> b < i -> Wn.Dj dn tr tw dh (l.getD a default) (l.getD b default)) /\ ∀ a, a < i -> Wn.Sd dn tr tw dh (l.getD a default) ≠ []) ?_ ?_ ⟨rfl, fun a b _ hb => by omega, fun a ha => by omega⟩
    · rintro _ i hi ⟨rfl, h3, h4⟩
      simp only [zbO]
      refine M.ot1 (M.o_bind (b6 i hi) ?_)
      rintro (u | own) hu
      · obtain ⟨k, k1, k2⟩ := hu
        refine M.o_pure fun hh => k2 ?_
        have := List.pairwise_iff_getElem.1 hh.1 k i (by omega) hi k1
        rw [← getD_el l (show k < l.length by omega) default, ← getD_el l hi default] at this
        exact this
      · obtain ⟨u1, u2⟩ := hu
        refine M.o_if (fun hb => M.o_pure fun hh => hh.2 _ (hin i hi) (u1.1 (beq_iff_eq.1 hb))) (fun hb => M.o_pure ⟨rfl, fun a b hab hb' => ?_, fun a ha => ?_⟩)
        · rcases Nat.lt_or_eq_of_le (Nat.le_of_lt_succ hb') with e | e
          · exact h3 a b hab e
          · subst e
            exact u2 a hab
        · rcases Nat.lt_or_eq_of_le (Nat.le_of_lt_succ ha) with e | e
          · exact h4 a e
          · subst e
            exact fun hz => (beq_eq_false_iff_ne.1 hb) (u1.2 hz)
    · rintro _ ⟨rfl, h3, h4⟩
      simp only [zbO]
      refine M.of1 (M.o_pure ⟨?_, fun d hd => ?_⟩)
      · rw [List.pairwise_iff_getElem]
        intro x y hx hy hxy
        rw [← getD_el l hx default, ← getD_el l hy default]
        exact h3 x y hxy hy
      · obtain ⟨k, hk, rfl⟩ := mem_getD hd default
        exact h4 k hk
  · rintro (a | a) hq
    · exact M.o_pure ⟨rfl, fun h => (by cases h), fun h => absurd h.1 hq⟩
    · exact M.o_pure ⟨rfl, fun h => ⟨hq, of_decide_eq_true h⟩, fun h => decide_eq_true h.2⟩
theorem proves_same (R : Wn.Rv dn tr sp tw dl dh fl) (hc : (zae dn tr sp tw dl dh fl).Ends 0) (l : List Dem) (hl : l.length <= 1000) (many : Int) : ∃ y, (zax dn tr sp tw dl dh fl many l).Ends y /\ (zap dn tr sp tw dl dh fl many l).Ends y := by
  by_cases h64 : l.length <= 64
  case neg =>
    refine ⟨(false, 3), ?_, ?_⟩
    · unfold zax
      refine M.i_bind (opened_ends R) ?_
      dsimp only
      exact M.i_f rfl (M.it1 M.i_pure)
    · unfold zap
      exact M.i_bind hc (M.i_f rfl (M.it1 M.i_pure))
  by_cases h : ∀ d ∈ l, d ∈ Wn.Dm dn sp tw
  · obtain ⟨⟨a, e⟩, a1, a2, a3⟩ := proves_out R h h64 many
    obtain ⟨⟨b, f⟩, b1, b2, b3⟩ := refProves_out R hc h h64 many
    dsimp only at a2 a3 b2 b3
    have : a = b := by
      rw [Bool.eq_iff_iff, a3, b3]
    subst this a2 b2
    exact ⟨_, a1, b1⟩
  · refine ⟨(false, 2), ?_, ?_⟩
    · unfold zax
      refine M.i_bind (opened_ends R) ?_
      dsimp only
      have hev : (zb3 l dn tr sp tw dl dh fl).Ends false := M.i_eq (every_79 R l) (by
        rw [← Bool.not_eq_true, List.all_eq_true]
        intro hh
        exact h fun d hd => of_decide_eq_true (hh d hd))
      exact M.i_f rfl (M.if1 (M.i_bind hev (M.i_t rfl M.i_pure)))
    · unfold zap
      refine M.i_bind hc (M.i_f rfl (M.if1 (M.i_bind (a := (.inl () : Unit ⊕ Unit)) (M.Out.ends ?_) ?_)))
      case refine_2 => exact M.i_pure
      refine M.o_for l.length (fun i (t : Nat) => t = i /\ ∀ j, j < i -> l.getD j default ∈ Wn.Dm dn sp tw) ?_ ?_ ⟨rfl, fun j hj => by omega⟩
      · rintro _ i hi ⟨rfl, hp⟩
        simp only [zbh]
        refine M.ot1 (M.og1 (M.o_bindE (demanded_ends R (l.getD i default)) (M.o_if (fun hb => M.o_pure rfl) (fun hb => M.o_pure ⟨rfl, fun j hj => ?_⟩))))
        rcases Nat.lt_or_eq_of_le (Nat.le_of_lt_succ hj) with e | e
        · exact hp j e
        · subst e
          simpa using hb
      · rintro _ ⟨rfl, hp⟩
        exfalso
        apply h
        intro d hd
        obtain ⟨j, hj, rfl⟩ := mem_getD hd default
        exact hp j hj
end Go.Proofs.YtbaehghammbjdaaGreat
namespace Go.Proofs.YtbaehghammbjdaaGreat
open Go Go.Nm
variable {dn : List Int} {tr : List Span} {sp : List Int} {tw : List Town} {dl dh : Int} {fl : List Flood} {ws : List Int} {ap l : List Dem}
theorem lawdemands (h : l.length <= 1000) : (za4 l).Ends l := by
  unfold za4
  refine M.i_bind (a := (l, l)) ?_ M.i_pure
  have := M.i_for (body := zbD l) (r := (l, l)) (fun i => (i, l.take i)) l.length (fun i hi => ?_) ?_
  · simpa using this
  · simp only [zbD]
    refine M.it1 (M.ig1 (M.i_grd (decide_eq_true (by simp; omega)) ?_))
    rw [← take_succ_D l i hi default]
    exact M.i_pure
  · simp only [zbD, List.take_length]
    exact M.if1 M.i_pure
theorem same_rdem (l : List Dem) : (zcp l l).Ends true := by
  unfold zcp
  refine M.i_f (by simp) (M.i_bind (a := (.inr () : Unit ⊕ Unit)) ?_ M.i_pure)
  refine M.i_for (fun i => i) l.length (fun i hi => ?_) ?_
  · simp only [zbV]
    exact M.it1 (M.ig1 (M.ig1 (M.i_f (by simp) M.i_pure)))
  · simp only [zbV]
    exact M.i_f (by simp) M.i_pure
theorem same_wdem (l : List Dem) : (zcH l l).Ends true := by
  unfold zcH
  refine M.i_f (by simp) (M.i_bind (a := (.inr () : Unit ⊕ Unit)) ?_ M.i_pure)
  refine M.i_for (fun i => i) l.length (fun i hi => ?_) ?_
  · simp only [zcn]
    exact M.it1 (M.ig1 (M.ig1 (M.i_f (by simp) M.i_pure)))
  · simp only [zcn]
    exact M.i_f (by simp) M.i_pure
theorem mt_iff {W : List Int} {d : Dem} : Wn.mt dn tr tw dh W d = true ↔ ∃ s ∈ Wn.Sd dn tr tw dh d, s ∈ W := by
  unfold Wn.mt
  rw [List.any_eq_true]
  simp only [decide_eq_true_eq]
theorem lt_nil {W : List Int} : Lt dn tr sp tw dh W = [] ↔ ∀ d ∈ Wn.Dm dn sp tw, ∃ s ∈ Wn.Sd dn tr tw dh d, s ∈ W := by
  unfold Lt
  rw [List.filter_eq_nil_iff]
  refine forall_congr' fun d => forall_congr' fun _ => ?_
  rw [← mt_iff]
  simp
theorem up_of (hu : ws.Pairwise (· < ·)) (hb : ∀ x ∈ ws, 0 <= x /\ x < (dn.length : Int)) : Wn.Up ws dn.length := fun i hi => by
  rw [getD_el ws hi]
  refine ⟨hb _ (List.getElem_mem hi), fun h => ?_⟩
  rw [getD_el ws (show i - 1 < ws.length by omega)]
  exact List.pairwise_iff_getElem.1 hu (i - 1) i (by omega) hi (by omega)
/-- What is told of the fewest watches. -/
structure FewOk (dn : List Int) (tr : List Span) (sp : List Int) (tw : List Town) (dl dh : Int) (fl : List Flood) (ws : List Int) (ap : List Dem) (e : Int) : Prop where
  w : (zas dn tr sp tw dl dh fl).Ends (ws, e)
  f : (zby dn tr sp tw dl dh fl).Ends ((ws.length : Int), e)
  a : (zbi dn tr sp tw dl dh fl).Ends (ap, e)
  ln : ap.length = ws.length
  l12 : ws.length <= 12
  la : e = 0 -> (zaq dn tr sp tw dl dh fl ws).Ends ([], 0)
  pr : e = 0 -> (zap dn tr sp tw dl dh fl (ws.length : Int) ap).Ends (true, 0)
theorem few_same (R : Wn.Rv dn tr sp tw dl dh fl) (hc : (zae dn tr sp tw dl dh fl).Ends 0) : ∃ ws ap e, FewOk dn tr sp tw dl dh fl ws ap e := by
  obtain ⟨⟨n, e⟩, hf, hn⟩ := refFewest_out R hc
  have h12 := R.n12
  by_cases hall : ∀ d ∈ Wn.Dm dn sp tw, Wn.Sd dn tr tw dh d ≠ []
  · obtain ⟨ws, ap, hF, F⟩ := fewest_is R (demandsD R) (dm_is R).1 fun d hd => ⟨dm_ok R d hd, hall d hd⟩
    have hw := nodup_bound dn.length ws (F.up.imp fun h => by omega) F.bd
    obtain ⟨s, s1, s2⟩ := set_of (fun i => decide ((i : Int) ∈ ws)) dn.length
    have es : setL s dn.length = ws := by
      refine up_ext setL_up F.up fun x => ?_
      rw [setL_mem]
      constructor
      · rintro ⟨i, h1, h2, rfl⟩
        rw [s2 i h1] at h2
        exact of_decide_eq_true h2
      · intro hx
        have := F.bd x hx
        refine ⟨Int.toNat x, by omega, ?_, by omega⟩
        rw [s2 _ (by omega), Int.toNat_of_nonneg this.1]
        exact decide_eq_true hx
    have hnil : Lt dn tr sp tw dh ws = [] := lt_nil.2 F.cov
    have hen : n = (ws.length : Int) /\ e = 0 := by
      rcases hn with ⟨_, h⟩ | ⟨h0, ⟨q, q1, q2, q3⟩, h2⟩
      · exact absurd (by rw [es]; exact hnil) (h s s1)
      · dsimp only at h0 q3 h2
        have a1 := h2 s s1 (by rw [es]; exact hnil)
        rw [es] at a1
        have a2 := Wn.dj_few F.dj fun a ha => (lt_nil.1 q2) a (F.sub a ha)
        have := F.ln
        omega
    obtain ⟨rfl, rfl⟩ := hen
    have hU := up_of F.up F.bd
    refine ⟨ws, ap, 0, ?_, hf, ?_, F.ln, by omega, fun _ => ?_, fun _ => ?_⟩
    · unfold zas
      refine M.i_bind (opened_ends R) ?_
      dsimp only
      exact M.i_f rfl (M.i_bind hF (M.i_f rfl M.i_pure))
    · unfold zbi
      refine M.i_bind (opened_ends R) ?_
      dsimp only
      exact M.i_f rfl (M.i_bind hF (M.i_f rfl M.i_pure))
    · have := refLate_ends R hc (by omega) hU
      rw [hnil] at this
      exact this
    · obtain ⟨⟨b, f⟩, b1, b2, b3⟩ := refProves_out R hc F.sub (by have := F.ln; omega) (ws.length : Int)
      dsimp only at b2 b3
      have hb : b = true := b3.2 ⟨⟨F.dj, fun d hd => hall d (F.sub d hd)⟩, by have := F.ln; omega⟩
      subst hb b2
      exact b1
  · have hno : ∀ W, Lt dn tr sp tw dh W ≠ [] := fun W h => by
      apply hall
      intro d hd hz
      obtain ⟨s, s1, _⟩ := lt_nil.1 h d hd
      rw [hz] at s1
      cases s1
    have hen : n = 0 /\ e = 6 := by
      rcases hn with ⟨h, _⟩ | ⟨_, ⟨q, _, q2, _⟩, _⟩
      · exact Prod.mk.inj h
      · exact absurd q2 (hno _)
    obtain ⟨rfl, rfl⟩ := hen
    have hev := every_101 R (dm_ok R)
    have hfal : ((Wn.Dm dn sp tw).all fun d => decide (0 < ((Wn.Sd dn tr tw dh d).length : Int))) = false := by
      rw [← Bool.not_eq_true, List.all_eq_true]
      intro hh
      apply hall
      intro d hd hz
      have := of_decide_eq_true (hh d hd)
      rw [hz] at this
      exact absurd this (by decide)
    rw [hfal] at hev
    have hfe : (zaz dn tr sp tw dl dh fl).Ends ([], [], false) := by
      unfold zaz
      exact M.i_bind (demandsD R) (M.i_bind hev (M.i_t rfl M.i_pure))
    refine ⟨[], [], 6, ?_, hf, ?_, rfl, by simp, fun h => (by cases h), fun h => (by cases h)⟩
    · unfold zas
      refine M.i_bind (opened_ends R) ?_
      dsimp only
      exact M.i_f rfl (M.i_bind hfe (M.i_t rfl M.i_pure))
    · unfold zbi
      refine M.i_bind (opened_ends R) ?_
      dsimp only
      exact M.i_f rfl (M.i_bind hfe (M.i_t rfl M.i_pure))
/-- All that WarnWatches asks of a river. -/
structure AllOk (dn : List Int) (tr : List Span) (sp : List Int) (tw : List Town) (dl dh : Int) (fl : List Flood) (d : Dem) (W : List Int) (many : Int) (l : List Dem) : Prop where
  dm : ∃ y : List Dem × Int, y.1.length <= 1000 /\ (zb9 dn tr sp tw dl dh fl).Ends y /\ (zci dn tr sp tw dl dh fl).Ends y
  st : ∃ y, (zat dn tr sp tw dl dh fl d).Ends y /\ (za5 dn tr sp tw dl dh fl d).Ends y
  lt : ∃ y : List Dem × Int, y.1.length <= 1000 /\ (zaF dn tr sp tw dl dh fl W).Ends y /\ (zaq dn tr sp tw dl dh fl W).Ends y
  fe : ∃ ws ap e, FewOk dn tr sp tw dl dh fl ws ap e
  pr : ∃ y, (zax dn tr sp tw dl dh fl many l).Ends y /\ (zap dn tr sp tw dl dh fl many l).Ends y
theorem all_ok (d : Dem) {W : List Int} (hW : W.length <= 1000) (many : Int) (hl : l.length <= 1000) : AllOk dn tr sp tw dl dh fl d W many l := by
  obtain ⟨e, c1, c2, hR⟩ := checks dn tr sp tw dl dh fl
  by_cases he : e = 0
  · subst he
    have R := hR rfl
    refine ⟨⟨(Wn.Dm dn sp tw, 0), by have := (dm_is R).1; dsimp only; omega, ?_, ?_⟩, stretch_same R c2 d, ?_, few_same R c2, proves_same R c2 l hl many⟩
    · unfold zb9
      refine M.i_bind (opened_ends R) ?_
      dsimp only
      exact M.i_f rfl (M.i_bind (demandsD R) M.i_pure)
    · unfold zci
      exact M.i_bind c2 (M.i_f rfl (M.i_bind (refdemands R) M.i_pure))
    · by_cases hU : Wn.Up W dn.length
      · refine ⟨_, ?_, late_ends R hU, refLate_ends R c2 hW hU⟩
        have h1 := (dm_is R).1
        have h2 : (Lt dn tr sp tw dh W).length <= (Wn.Dm dn sp tw).length := List.length_filter_le _ _
        dsimp only
        omega
      · exact ⟨_, by simp, late_bad R hU, refLate_bad R c2 hW hU⟩
  · have ho := opened_err c1 he
    have hb : (e != 0) = true := bne_iff_ne.2 he
    refine ⟨⟨([], e), by simp, ?_, ?_⟩, ⟨([], e), ?_, ?_⟩, ⟨([], e), by simp, ?_, ?_⟩, ⟨[], [], e, ?_, ?_, ?_, rfl, by simp, fun h => absurd h he, fun h => absurd h he⟩, ⟨(false, e), ?_, ?_⟩⟩
    · unfold zb9
      refine M.i_bind ho ?_
      dsimp only
      exact M.i_t hb M.i_pure
    · unfold zci
      exact M.i_bind c2 (M.i_t hb M.i_pure)
    · unfold zat
      refine M.i_bind ho ?_
      dsimp only
      exact M.i_t hb M.i_pure
    · unfold za5
      exact M.i_bind c2 (M.i_t hb M.i_pure)
    · unfold zaF
      refine M.i_bind (a := (.inl (List.replicate 12 false, e) : (List Bool × Int) ⊕ (Int × Int × List Bool × Int))) ?_ ?_
      · unfold zaH
        refine M.i_bind ho ?_
        dsimp only
        refine M.i_bind (M.i_opt (r := false) (fun h => absurd (beq_iff_eq.1 h) he) (fun _ => rfl)) (M.i_f (by rw [beq_eq_false_iff_ne.2 he]; rfl) ?_)
        unfold zbM
        exact M.i_t hb M.i_pure
      · dsimp only
        exact M.i_t hb M.i_pure
    · unfold zaq
      exact M.i_bind c2 (M.i_t hb M.i_pure)
    · unfold zas
      refine M.i_bind ho ?_
      dsimp only
      exact M.i_t hb M.i_pure
    · unfold zby
      exact M.i_bind c2 (M.i_t hb M.i_pure)
    · unfold zbi
      refine M.i_bind ho ?_
      dsimp only
      exact M.i_t hb M.i_pure
    · unfold zax
      refine M.i_bind ho ?_
      dsimp only
      exact M.i_t hb M.i_pure
    · unfold zap
      exact M.i_bind c2 (M.i_t hb M.i_pure)
theorem copy_dem {l : List Dem} (h : l.length <= 1000) : (zc6 l).Ends l := M.i_grd (decide_eq_true (by simp; omega)) M.i_pure
theorem watches_j0 {d : Dem} {W : List Int} {many : Int} (hl : l.length <= 1000) (A : AllOk dn tr sp tw dl dh fl d W many l) : (zbF dn tr sp tw dl dh fl W many l dn tr sp tw dl dh fl W l dn tr sp tw dl dh fl).Ends true := by
  obtain ⟨⟨b, e⟩, p1, p2⟩ := A.pr
  unfold zbF
  refine M.i_bind p1 (M.i_bind (lawdemands hl) (M.i_bind p2 ?_))
  dsimp only
  refine M.i_bind (M.i_optA same_river) (M.i_bind (M.i_optA (same_int _)) (M.i_bind (M.i_optA (same_wdem _)) (M.i_bind (M.i_optA awake_ends) (M.i_eq M.i_pure ?_))))
  simp
theorem watches_j1 {d : Dem} {W : List Int} {many : Int} (hl : l.length <= 1000) (A : AllOk dn tr sp tw dl dh fl d W many l) (x y : List Dem) : (zbw dn tr sp tw dl dh fl W many l dn tr sp tw dl dh fl W l dn tr sp tw dl dh fl x y false).Ends true := by
  obtain ⟨ws, ap, e, F⟩ := A.fe
  have hj := watches_j0 hl A
  unfold zbw
  refine M.i_f rfl (M.i_bind F.w (M.i_bind F.f (M.i_bind F.a ?_)))
  dsimp only
  refine M.i_f (by rw [F.ln]; simp) ?_
  by_cases he : e = 0
  · subst he
    refine M.i_t rfl (M.i_bind (F.la rfl) ?_)
    dsimp only
    refine M.i_f rfl (M.i_bind (lawdemands (by have := F.ln; have := F.l12; omega)) (M.i_bind (F.pr rfl) ?_))
    dsimp only
    exact M.i_f rfl hj
  · exact M.i_f (beq_eq_false_iff_ne.2 he) hj
theorem watches_j2 {d : Dem} {W : List Int} {many : Int} (hl : l.length <= 1000) (A : AllOk dn tr sp tw dl dh fl d W many l) (x y : List Dem) : (zbl dn tr sp tw dl dh fl d W many l dn tr sp tw dl dh fl W l dn tr sp tw dl dh fl x y false).Ends true := by
  obtain ⟨⟨s, e⟩, s1, s2⟩ := A.st
  obtain ⟨⟨t, f⟩, t0, t1, t2⟩ := A.lt
  dsimp only at t0
  unfold zbl
  refine M.i_f rfl (M.i_bind s1 (M.i_bind s2 ?_))
  dsimp only
  refine M.i_bind (M.i_optA (same_int _)) (M.i_f (by simp) (M.i_bind t1 (M.i_bind t2 ?_)))
  dsimp only
  have e2 : (f != f) = false := by simp
  rw [e2]
  exact M.i_t rfl (M.i_bind (lawdemands t0) (M.i_bind (M.i_optA (same_rdem _)) (watches_j1 hl A _ _)))
theorem zeL (dn : List Int) (tr : List Span) (sp : List Int) (tw : List Town) (dl dh : Int) (fl : List Flood) (d : Dem) (W : List Int) (many : Int) (l : List Dem) : (zdf dn tr sp tw dl dh fl d W many l).Ends true := by
  refine M.Out.ends ?_
  unfold zdf
  refine M.o_bind big_out fun x hF => ?_
  refine M.o_if (fun _ => M.o_bindE awake_ends (M.o_pure rfl)) (fun hb => ?_)
  simp only [Bool.or_eq_false_iff, decide_eq_false_iff_not] at hb
  have F := hF hb.1.1
  have A := all_ok (dn := dn) (tr := tr) (sp := sp) (tw := tw) (dl := dl) (dh := dh) (fl := fl) d (W := W) (by omega) many (l := l) (by omega)
  obtain ⟨⟨x, e⟩, x0, x1, x2⟩ := A.dm
  dsimp only at x0
  refine M.o_bindE (copy_ends F) ?_
  dsimp only
  refine M.o_bindE (copy_int (by omega)) (M.o_bindE (copy_dem (by omega)) (M.o_bindE (river_ends F) ?_))
  dsimp only
  refine M.o_bindE x1 (M.o_bindE x2 ?_)
  dsimp only
  have e2 : (e != e) = false := by simp
  rw [e2]
  refine M.o_t rfl (M.o_bindE (lawdemands x0) (M.o_bindE (M.i_optA (same_rdem _)) (M.o_of (watches_j2 (by omega) A _ _) rfl)))
end Go.Proofs.YtbaehghammbjdaaGreat
