/- Part 3 of the texts on which the proof rests. Conditions: none. -/
import Derived.Test.YtbaehghammbjdaaGreatZE2
set_option linter.unusedVariables false
set_option linter.unusedSimpArgs false
set_option linter.unusedSectionVars false
section
set_option maxRecDepth 100000
set_option maxHeartbeats 16000000
namespace Go.Proofs.YtbaehghammbjdaaGreat
open Go Go.Nm
def zc2 (a : Int) (aa : List Int) (ab : List Span) (ac : List Int) (ae : List Town) (ag ah : Int) (ai : List Flood) (aj : List Int) (ak : List Span) (al : List Int) (am : List Town) (ao aq : Int) (au : List Flood) : ((List Dem) × Int) -> M (((List Dem) × Int) ⊕ ((List Dem) × (List Dem))) := fun (l, j) =>
  M.grd ((!(decide (a < j)) || (decide ((0 : Int) <= j) && decide (j < (l.length : Int))))) <|
  M.grd ((!(decide (a < j)) || (decide ((-9223372036854775808 : Int) <= (j - 1)) && decide ((j - 1) <= (9223372036854775807 : Int))))) <|
  M.grd ((!(decide (a < j)) || (decide ((0 : Int) <= (j - 1)) && decide ((j - 1) < (l.length : Int))))) <|
  bif decide (a < j) then (
  M.bind (zaD (l.getD (Int.toNat j) default) (l.getD (Int.toNat (j - 1)) default) aa ab ac ae ag ah ai aj ak al am ao aq au) fun r2 =>
  bif ((decide (a < j)) && (decide (r2 < 0))) then (
  M.grd (decide ((-9223372036854775808 : Int) <= (j - 1)) && decide ((j - 1) <= (9223372036854775807 : Int))) <|
  M.grd (decide ((0 : Int) <= (j - 1)) && decide ((j - 1) < (l.length : Int))) <|
  M.grd (decide ((0 : Int) <= j) && decide (j < (l.length : Int))) <|
  M.grd (decide ((0 : Int) <= (j - 1)) && decide ((j - 1) < ((l.set (Int.toNat j) (l.getD (Int.toNat (j - 1)) default)).length : Int))) <|
  M.pure (.inl ((l.set (Int.toNat j) (l.getD (Int.toNat (j - 1)) default)).set (Int.toNat (j - 1)) (l.getD (Int.toNat j) default), j - 1)))
  else (
  M.pure (.inr (l, l))))
  else (
  bif ((decide (a < j)) && (decide ((0 : Int) < 0))) then (
  M.grd (decide ((-9223372036854775808 : Int) <= (j - 1)) && decide ((j - 1) <= (9223372036854775807 : Int))) <|
  M.grd (decide ((0 : Int) <= (j - 1)) && decide ((j - 1) < (l.length : Int))) <|
  M.grd (decide ((0 : Int) <= j) && decide (j < (l.length : Int))) <|
  M.grd (decide ((0 : Int) <= (j - 1)) && decide ((j - 1) < ((l.set (Int.toNat j) (l.getD (Int.toNat (j - 1)) default)).length : Int))) <|
  M.pure (.inl ((l.set (Int.toNat j) (l.getD (Int.toNat (j - 1)) default)).set (Int.toNat (j - 1)) (l.getD (Int.toNat j) default), j - 1)))
  else (
  M.pure (.inr (l, l))))
def zbA (a b : Int) (aa : List Int) (ab : List Span) (ac : List Int) (ae : List Town) (ag ah : Int) (ai : List Flood) (aj : List Int) (ak : List Span) (al : List Int) (am : List Town) (ao aq : Int) (au : List Flood) : ((List Dem) × Int) -> M (((List Dem) × Int) ⊕ (List Dem)) := fun (l4, i) =>
  bif decide (i < b) then (
  M.bind (M.iter (zc2 a aa ab ac ae ag ah ai aj ak al am ao aq au) (l4, i)) fun (l2, l3) =>
  M.grd (decide ((-9223372036854775808 : Int) <= (i + 1)) && decide ((i + 1) <= (9223372036854775807 : Int))) <|
  M.pure (.inl (l3, i + 1)))
  else (
  M.pure (.inr l4))
def zcm (data : List Dem) (a b : Int) (aa : List Int) (ab : List Span) (ac : List Int) (ae : List Town) (ag ah : Int) (ai : List Flood) (aj : List Int) (ak : List Span) (al : List Int) (am : List Town) (ao aq : Int) (au : List Flood) : M (List Dem) :=
  M.grd (decide ((-9223372036854775808 : Int) <= (a + 1)) && decide ((a + 1) <= (9223372036854775807 : Int))) <|
  M.bind (M.iter (zbA a b aa ab ac ae ag ah ai aj ak al am ao aq au) (data, a + 1)) fun l5 =>
  M.pure l5
theorem zdR {R : List Chunk} {aa : Value} {aC : Nat} {aQ : Nat} {aR : Nat} {aS : Cells} {aT : Value} {aU : Cells} {aV : Value} {aW : Cells} {aX : Value} {aY : Cells} {aZ : Value} {a6 : Cells} {a7 : Value} {az : Nat} {B_b_cmp2020207 : Base} {a8 : Nat} {ba : Nat} {bc : Cells} {bf : Value} {bg : Cells} {bh : Value} {bi : Cells} {bj : Value} {bm : Cells} {bn : Value} {bo : Cells} {bp : Value} {bx : Nat} (data : List Dem) (a : Int) (b : Int) (al : List Int) (am : List Span) (ao : List Int) (aq : List Town) (au : Int) (av : Int) (aw : List Flood) (aE : List Int) (aF : List Span) (aG : List Int) (aH : List Town) (aI : Int) (aJ : Int) (aK : List Flood) (bz : Reads R aS) (bA : Sl aS aT al) (bB : Reads R aU) (bC : Sl aU aV am) (bD : Reads R aW) (bE : Sl aW aX ao) (bF : Reads R aY) (bG : Sl aY aZ aq) (bH : Reads R a6) (bI : Sl a6 a7 aw) (bJ : Has R (cBlk aR [aT, aV, aX, aZ, I au, I av, a7, .map (some az)] 111)) (bK : Has R (cBlk aQ [.func (.func 81) #[Pq aR] #[]] 134)) (bL : Reads R bc) (bM : Sl bc bf aE) (bN : Reads R bg) (bO : Sl bg bh aF) (bP : Reads R bi) (bQ : Sl bi bj aG) (bR : Reads R bm) (bS : Sl bm bn aH) (bT : Reads R bo) (bU : Sl bo bp aK) (bV : Has R (cBlk ba [bf, bh, bj, bn, I aI, I aJ, bp, .map (some bx)] 111)) (bW : Has R (cBlk a8 [Pq ba] 94)) (bX : Has R (cBlk aC [.func (.func 102) #[] #[Pq aQ, Pq a8]] 146)) {r : (List Dem)} (hM : (zcm data a b al am ao aq au av aw aE aF aG aH aI aJ aK).Ends r) (w : World) (H : St w w [cOwn (α := Dem) 61 aa data, cMem encDm az B_b_cmp2020207 (zaa al am ao aq au av aw)] R) : Ret Tryz.prog 113 #[aa, I a, I b, .func (.func 104) #[] #[Pq aC]] w fun v w' => ∃ (y0 : List Dem) (bY : Base), y0 = r /\ v = .tuple #[] /\ St w w' [cOwn (α := Dem) 61 aa y0, cMem encDm az bY (zaa al am ao aq au av aw)] R := by
 refine ret_of_W Tryz.func113 rfl rfl rfl <| W.seq <| W.region rfl <| zM (I a) rfl ?_;obtain ⟨cf, hM⟩ := M.e_gd hM;refine zR a 1 (a + 1) rfl rfl rfl (by omega) <| zA (I (a + 1)) rfl <| s_nil <| W.block ?_;obtain ⟨bZ, aL, b4⟩ := M.e_bind hM
 obtain ⟨b7, aL⟩ := M.e_iter aL
 refine W.loop (fun m σ W => ∃ (l4 : List Dem) (i : Int) (B_mem2 : Base) (ρ : Env), σ = upds ρ [(0, aa), (1, I a), (2, I b), (3, .func (.func 104) #[] #[Pq aC]), (8, I i)] /\ M.iterN (zbA a b al am ao aq au av aw aE aF aG aH aI aJ aK) m (l4, i) = some bZ /\ St w W [cOwn (α := Dem) 61 aa l4, cMem encDm az B_mem2 (zaa al am ao aq au av aw)] R) ?_ ?_
 ·exact ⟨_, data, a + 1, B_b_cmp2020207, _, upds_of _ _ ⟨rfl, rfl, rfl, rfl, rfl, trivial⟩, aL, H⟩
 rintro cg σ ck ⟨l4, i, B_mem2, ρ, rfl, bq, H⟩
 obtain ⟨br, bt, cl, hM, aM⟩ := M.e_iterN bq
 simp only [zbA] at hM
 clear bq;refine W.seq <| W.seq <| W.region rfl <| zM (I i) rfl <| zM (I b) rfl <| zC i b (decide (i < b)) rfl rfl rfl <| s_nil ?_
 refine W.cond (decide (i < b)) rfl (fun aA => ?_) (fun aA => ?_)
 ·replace hM := M.e_t hM aA
  replace aA := dI aA
  refine W.skip <| W.seq <| W.block <| W.seq <| W.region rfl <| zM (I i) rfl <| zA (I i) rfl <| s_nil <| W.block ?_;obtain ⟨b8, aN, bu⟩ := M.e_bind hM
  obtain ⟨b7, aN⟩ := M.e_iter aN
  refine W.loop (fun m σ W => ∃ (l : List Dem) (j : Int) (B_mem : Base) (ρ : Env), σ = upds ρ [(0, aa), (1, I a), (2, I b), (3, .func (.func 104) #[] #[Pq aC]), (8, I i), (9, I j)] /\ M.iterN (zc2 a al am ao aq au av aw aE aF aG aH aI aJ aK) m (l, j) = some b8 /\ St w W [cOwn (α := Dem) 61 aa l, cMem encDm az B_mem (zaa al am ao aq au av aw)] R) ?_ ?_
  ·exact ⟨_, l4, i, B_mem2, _, upds_of _ _ ⟨rfl, rfl, rfl, rfl, rfl, rfl, trivial⟩, aN, H⟩
  rintro cm σ cn ⟨l, j, B_mem, ρ, rfl, bv, H⟩
  obtain ⟨ai, aj, co, hM, ah⟩ := M.e_iterN bv
  simp only [zc2] at hM
  clear bv;refine W.seq <| W.seq ?_;refine W.draw (fun W => St w W [cOwn (α := Dem) 61 aa l] R) [(0, true), (1, true), (2, true), (3, true), (4, true), (5, true), (6, true), (7, true), (8, true), (9, true), (10, true), (11, true), (12, true), (13, true), (14, false), (15, true), (16, true)] mixed (by decide +kernel) rfl ?_;intro cp ac;replace H := H.ext ac;clear ac
  refine ⟨(H.pk [0]), ?_⟩
  refine d_q rfl (fun w' H => x_mv (v := I j) rfl) <| d_q rfl (fun w' H => x_mv (v := I a) rfl) <| d_q rfl (fun w' H => x_cmp (kd := .i64) (r := decide (a < j)) rfl rfl rfl) <| d_q rfl (fun w' H => x_mv (v := B (decide (a < j))) rfl) <| d_qg (decide (a < j)) rfl (gy_t rfl) (fun hg => (fun w' H => x_mv (v := .func (.func 104) #[] #[Pq aC]) rfl)) <| d_qg (decide (a < j)) rfl (gy_t rfl) (fun hg => (fun w' H => x_mv (v := aa) rfl)) <| d_qg (decide (a < j)) rfl (gy_t rfl) (fun hg => (fun w' H => x_mv (v := I j) rfl)) ?_;obtain ⟨ak, hM⟩ := M.e_grd hM
  replace ak := M.imp_of ak
  simp only [Bool.and_eq_true, decide_eq_true_eq] at ak
  refine d_qg (decide (a < j)) rfl (gy_t rfl) (fun hg => (fun w' H => x_ix (v := vat aa 2 (Int.toNat j)) (gd_of hg (aa)) (gd_of hg (I j)) (Sl.ix (α := Dem) T62.und T62.size (H.os 0) (by have ab := ak.resolve_left (by rw [hg]; decide); first | exact ab | exact ab.1 | exact ab.2 | omega | (have ac := hg; simp at ac; omega)) (by have ab := ak.resolve_left (by rw [hg]; decide); first | exact ab | exact ab.1 | exact ab.2 | omega | (have ac := hg; simp at ac; omega))))) <| d_qg (decide (a < j)) rfl (gy_t rfl) (fun hg => (fun w' H => x_ld (v := .agg #[I ((l.getD (Int.toNat j) default).spring), I ((l.getD (Int.toNat j) default).town)]) (gd_of hg (vat aa 2 (Int.toNat j))) (ld_ag Ag61 Sz61 (At.mono (Dem_atA (H.os 0) (i := j) (by have ab := ak.resolve_left (by rw [hg]; decide); first | exact ab | exact ab.1 | exact ab.2 | omega | (have ac := hg; simp at ac; omega)) (by have ab := ak.resolve_left (by rw [hg]; decide); first | exact ab | exact ab.1 | exact ab.2 | omega | (have ac := hg; simp at ac; omega))) (H.ol 0))))) <| d_qg (decide (a < j)) rfl (gy_t rfl) (fun hg => (fun w' H => x_mv (v := aa) rfl)) <| d_qg (decide (a < j)) rfl (gy_t rfl) (fun hg => (fun w' H => x_mv (v := I j) rfl)) ?_;obtain ⟨ax, hM⟩ := M.e_grd hM
  replace ax := M.imp_of ax
  simp only [Bool.and_eq_true, decide_eq_true_eq] at ax
  refine d_qg (decide (a < j)) rfl (gy_t rfl) (fun hg => (fun w' H => x_ari (r := j - 1) (gd_of hg (I j)) rfl rfl (by have ab := ak.resolve_left (by rw [hg]; decide); have ae := ax.resolve_left (by rw [hg]; decide); first | exact ab | exact ab.1 | exact ab.2 | exact ae | exact ae.1 | exact ae.2 | omega | (have ac := hg; simp at ac; omega)))) ?_;obtain ⟨aB, hM⟩ := M.e_grd hM
  replace aB := M.imp_of aB
  simp only [Bool.and_eq_true, decide_eq_true_eq] at aB
  refine d_qg (decide (a < j)) rfl (gy_t rfl) (fun hg => (fun w' H => x_ix (v := vat aa 2 (Int.toNat (j - 1))) (gd_of hg (aa)) (gd_of hg (I (j - 1))) (Sl.ix (α := Dem) T62.und T62.size (H.os 0) (by have ab := ak.resolve_left (by rw [hg]; decide); have ae := ax.resolve_left (by rw [hg]; decide); have ag := aB.resolve_left (by rw [hg]; decide); first | exact ab | exact ab.1 | exact ab.2 | exact ae | exact ae.1 | exact ae.2 | exact ag | exact ag.1 | exact ag.2 | omega | (have ac := hg; simp at ac; omega)) (by have ab := ak.resolve_left (by rw [hg]; decide); have ae := ax.resolve_left (by rw [hg]; decide); have ag := aB.resolve_left (by rw [hg]; decide); first | exact ab | exact ab.1 | exact ab.2 | exact ae | exact ae.1 | exact ae.2 | exact ag | exact ag.1 | exact ag.2 | omega | (have ac := hg; simp at ac; omega))))) <| d_qg (decide (a < j)) rfl (gy_t rfl) (fun hg => (fun w' H => x_ld (v := .agg #[I ((l.getD (Int.toNat (j - 1)) default).spring), I ((l.getD (Int.toNat (j - 1)) default).town)]) (gd_of hg (vat aa 2 (Int.toNat (j - 1)))) (ld_ag Ag61 Sz61 (At.mono (Dem_atA (H.os 0) (i := j - 1) (by have ab := ak.resolve_left (by rw [hg]; decide); have ae := ax.resolve_left (by rw [hg]; decide); have ag := aB.resolve_left (by rw [hg]; decide); first | exact ab | exact ab.1 | exact ab.2 | exact ae | exact ae.1 | exact ae.2 | exact ag | exact ag.1 | exact ag.2 | omega | (have ac := hg; simp at ac; omega)) (by have ab := ak.resolve_left (by rw [hg]; decide); have ae := ax.resolve_left (by rw [hg]; decide); have ag := aB.resolve_left (by rw [hg]; decide); first | exact ab | exact ab.1 | exact ab.2 | exact ae | exact ae.1 | exact ae.2 | exact ag | exact ag.1 | exact ag.2 | omega | (have ac := hg; simp at ac; omega))) (H.ol 0))))) <| d_l rfl ?_
  refine g_splitV (decide (a < j)) (I 0) (gy_t rfl) (fun aD => ?_) (fun aD => ?_)
  ·replace hM := M.e_t hM aD;obtain ⟨cq, b9, hM⟩ := M.e_bind hM;refine s_callv (f := 104) (by exact (gd_of (c := decide (a < j)) aD (.func (.func 104) #[] #[Pq aC]))) cf104 [.agg #[I ((l.getD (Int.toNat j) default).spring), I ((l.getD (Int.toNat j) default).town)], .agg #[I ((l.getD (Int.toNat (j - 1)) default).spring), I ((l.getD (Int.toNat (j - 1)) default).town)]] (by exact (lst2 (gd_of (c := decide (a < j)) aD (.agg #[I ((l.getD (Int.toNat j) default).spring), I ((l.getD (Int.toNat j) default).town)])) (gd_of (c := decide (a < j)) aD (.agg #[I ((l.getD (Int.toNat (j - 1)) default).spring), I ((l.getD (Int.toNat (j - 1)) default).town)])))) (zcU (l.getD (Int.toNat j) default) (l.getD (Int.toNat (j - 1)) default) al am ao aq au av aw aE aF aG aH aI aJ aK (bz.app _) bA (bB.app _) bC (bD.app _) bE (bF.app _) bG (bH.app _) bI (bJ.app _) (bK.app _) (bL.app _) bM (bN.app _) bO (bP.app _) bQ (bR.app _) bS (bT.app _) bU (bV.app _) (bW.app _) (bX.app _) b9 _ ((H.pk [1, 0]).gt 1)) ?_
   rintro vq cu ⟨r2, ay, rfl, hvq, bw⟩
   subst vq;(try dsimp only at hM)
   replace H := H.pk [1, 0] |>.bk bw
   clear bw
   refine s_nil ⟨(H.pk [1]), ?_⟩
   refine d_qg (decide (a < j)) rfl (gy_t rfl) (fun hg => (fun w' H => x_cmp (kd := .i64) (r := decide (r2 < 0)) rfl rfl rfl)) <| d_q rfl (fun w' H => x_pand (b := decide (a < j)) (r := decide (r2 < 0)) rfl (fun hb => gd_of (c := decide (a < j)) (by first | exact hb | (rw [hb]; rfl) | simp_all) (B (decide (r2 < 0)))) rfl) ?_;refine d_nil ?_
   refine W.cond ((decide (a < j)) && (decide (r2 < 0))) rfl (fun aO => ?_) (fun aO => ?_)
   ·replace hM := M.e_t hM aO;refine W.skip <| W.seq <| W.block ?_;refine W.drawT (fun W => St w W [cMem encDm az ay (zaa al am ao aq au av aw)] R) (.q 0 (.q 1 (.q 2 (.q 3 (.q 4 (.q 5 (.q 6 (.q 7 (.q 10 (.q 11 (.l2 8 (.l2 9 (.l 12 (.l 13 (.l 14 (.l 15 (.l 16 (.l 17 .nil)))))) 12 (.l2 9 (.l 13 (.l 14 (.l 15 (.l 16 (.l 17 .nil))))) 13 (.l 9 (.l 14 (.l 15 (.l 16 (.l 17 .nil))))))) 12 (.l2 8 (.l2 9 (.l 13 (.l 14 (.l 15 (.l 16 (.l 17 .nil))))) 13 (.l 9 (.l 14 (.l 15 (.l 16 (.l 17 .nil)))))) 13 (.l 8 (.l 9 (.l 14 (.l 15 (.l 16 (.l 17 .nil)))))))))))))))))) mixed (by decide +kernel) rfl ?_;intro cw ac;replace H := H.ext ac;clear ac
    refine ⟨(H.pk [0]), ?_⟩
    refine t_q rfl (fun w' H => x_mv (v := aa) rfl) <| t_q rfl (fun w' H => x_mv (v := I j) rfl) <| t_q rfl (fun w' H => x_mv (v := aa) rfl) <| t_q rfl (fun w' H => x_mv (v := I j) rfl) ?_;obtain ⟨cx, hM⟩ := M.e_gd hM;refine t_q rfl (fun w' H => x_ari (r := j - 1) rfl rfl rfl (by omega)) <| t_q rfl (fun w' H => x_mv (v := aa) rfl) <| t_q rfl (fun w' H => x_mv (v := I j) rfl) <| t_q rfl (fun w' H => x_ari (r := j - 1) rfl rfl rfl (by omega)) <| t_q rfl (fun w' H => x_mv (v := aa) rfl) <| t_q rfl (fun w' H => x_mv (v := I j) rfl) ?_;obtain ⟨cy, hM⟩ := M.e_gd hM;obtain ⟨cz, hM⟩ := M.e_gd hM;obtain ⟨cA, hM⟩ := M.e_gd hM;refine t_l2 rfl rfl ?_ ?_
    ·skip
     refine s_val (x_ix (v := vat aa 2 (Int.toNat (j - 1))) rfl rfl (Sl.ix (α := Dem) T62.und T62.size (H.os 1) (by omega) (by omega))) ?_
     have cB := Sl.cells (H.os 1)
     have cC := Sl.oc (H.os 1)
     refine s_nil ⟨(H.pk [0]), ?_⟩
     refine t_l2 rfl rfl ?_ ?_
     ·skip
      refine s_val (x_ld (v := .agg #[I ((l.getD (Int.toNat (j - 1)) default).spring), I ((l.getD (Int.toNat (j - 1)) default).town)]) rfl (ld_ag Ag61 Sz61 (At.mono (Dem_atA (H.os 1) (i := j - 1) (by omega) (by omega)) (H.ol 1)))) ?_
      refine s_nil ⟨(H.pk [0]), ?_⟩
      refine t_l rfl <| s_val (x_ix (v := vat aa 2 (Int.toNat j)) rfl rfl (Sl.ix (α := Dem) T62.und T62.size (H.os 1) (by omega) (by omega))) ?_
      refine s_nil ⟨(H.pk [0]), ?_⟩
      refine t_l rfl <| s_val (x_ld (v := .agg #[I ((l.getD (Int.toNat j) default).spring), I ((l.getD (Int.toNat j) default).town)]) rfl (ld_ag Ag61 Sz61 (At.mono (Dem_atA (H.os 1) (i := j) (by omega) (by omega)) (H.ol 1)))) ?_
      refine s_nil ⟨(H.pk [0]), ?_⟩
      refine t_l rfl <| s_val (x_ix (v := vat aa 2 (Int.toNat j)) rfl rfl (Sl.ix (α := Dem) T62.und T62.size (H.os 1) (by omega) (by omega))) ?_
      refine s_nil ⟨(H.pk [0]), ?_⟩
      refine t_l rfl ?_;refine t_ow 1 j (l.getD (Int.toNat (j - 1)) default) H Sz61 (by omega) (by omega) rfl rfl rfl ?_;intro cD H
      refine s_nil ⟨(H.pk [0]), ?_⟩
      refine t_l rfl <| s_val (x_ix (v := vat aa 2 (Int.toNat (j - 1))) rfl rfl (Sl.ix (α := Dem) T62.und T62.size (H.os 1) (by omega) (by omega))) ?_
      refine s_nil ⟨(H.pk [0]), ?_⟩
      refine t_l rfl ?_;refine t_ow 1 (j - 1) (l.getD (Int.toNat j) default) H Sz61 (by omega) (by omega) rfl rfl rfl ?_;intro cE H
      refine s_nil ⟨(H.pk [0]), ?_⟩
      refine t_nil <| W.region rfl <| zM (I j) rfl <| zR j 1 (j - 1) rfl rfl rfl (by omega) <| zA (I (j - 1)) rfl <| s_nil ?_
      exact ⟨ai, aj, (l.set (Int.toNat j) (l.getD (Int.toNat (j - 1)) default)).set (Int.toNat (j - 1)) (l.getD (Int.toNat j) default), j - 1, ay, _, upds_of _ _ ⟨rfl, rfl, rfl, rfl, rfl, rfl, trivial⟩, M.e_inl hM ah, (H.pk [1, 0])⟩
     skip
     refine s_val (x_ix (v := vat aa 2 (Int.toNat j)) rfl rfl (Sl.ix (α := Dem) T62.und T62.size (H.os 1) (by omega) (by omega))) ?_
     refine s_nil ⟨(H.pk [0]), ?_⟩
     refine t_l2 rfl rfl ?_ ?_
     ·skip
      refine s_val (x_ld (v := .agg #[I ((l.getD (Int.toNat (j - 1)) default).spring), I ((l.getD (Int.toNat (j - 1)) default).town)]) rfl (ld_ag Ag61 Sz61 (At.mono (Dem_atA (H.os 1) (i := j - 1) (by omega) (by omega)) (H.ol 1)))) ?_
      refine s_nil ⟨(H.pk [0]), ?_⟩
      refine t_l rfl <| s_val (x_ld (v := .agg #[I ((l.getD (Int.toNat j) default).spring), I ((l.getD (Int.toNat j) default).town)]) rfl (ld_ag Ag61 Sz61 (At.mono (Dem_atA (H.os 1) (i := j) (by omega) (by omega)) (H.ol 1)))) ?_
      refine s_nil ⟨(H.pk [0]), ?_⟩
      refine t_l rfl <| s_val (x_ix (v := vat aa 2 (Int.toNat j)) rfl rfl (Sl.ix (α := Dem) T62.und T62.size (H.os 1) (by omega) (by omega))) ?_
      refine s_nil ⟨(H.pk [0]), ?_⟩
      refine t_l rfl ?_;refine t_ow 1 j (l.getD (Int.toNat (j - 1)) default) H Sz61 (by omega) (by omega) rfl rfl rfl ?_;intro cF H
      refine s_nil ⟨(H.pk [0]), ?_⟩
      refine t_l rfl <| s_val (x_ix (v := vat aa 2 (Int.toNat (j - 1))) rfl rfl (Sl.ix (α := Dem) T62.und T62.size (H.os 1) (by omega) (by omega))) ?_
      refine s_nil ⟨(H.pk [0]), ?_⟩
      refine t_l rfl ?_;refine t_ow 1 (j - 1) (l.getD (Int.toNat j) default) H Sz61 (by omega) (by omega) rfl rfl rfl ?_;intro cG H
      refine s_nil ⟨(H.pk [0]), ?_⟩
      refine t_nil <| W.region rfl <| zM (I j) rfl <| zR j 1 (j - 1) rfl rfl rfl (by omega) <| zA (I (j - 1)) rfl <| s_nil ?_
      exact ⟨ai, aj, (l.set (Int.toNat j) (l.getD (Int.toNat (j - 1)) default)).set (Int.toNat (j - 1)) (l.getD (Int.toNat j) default), j - 1, ay, _, upds_of _ _ ⟨rfl, rfl, rfl, rfl, rfl, rfl, trivial⟩, M.e_inl hM ah, (H.pk [1, 0])⟩
     skip
     refine s_val (x_ld (v := .agg #[I ((l.getD (Int.toNat j) default).spring), I ((l.getD (Int.toNat j) default).town)]) rfl (ld_ag Ag61 Sz61 (At.mono (Dem_atA (H.os 1) (i := j) (by omega) (by omega)) (H.ol 1)))) ?_
     refine s_nil ⟨(H.pk [0]), ?_⟩
     refine t_l rfl <| s_val (x_ld (v := .agg #[I ((l.getD (Int.toNat (j - 1)) default).spring), I ((l.getD (Int.toNat (j - 1)) default).town)]) rfl (ld_ag Ag61 Sz61 (At.mono (Dem_atA (H.os 1) (i := j - 1) (by omega) (by omega)) (H.ol 1)))) ?_
     refine s_nil ⟨(H.pk [0]), ?_⟩
     refine t_l rfl <| s_val (x_ix (v := vat aa 2 (Int.toNat j)) rfl rfl (Sl.ix (α := Dem) T62.und T62.size (H.os 1) (by omega) (by omega))) ?_
     refine s_nil ⟨(H.pk [0]), ?_⟩
     refine t_l rfl ?_;refine t_ow 1 j (l.getD (Int.toNat (j - 1)) default) H Sz61 (by omega) (by omega) rfl rfl rfl ?_;intro cH H
     refine s_nil ⟨(H.pk [0]), ?_⟩
     refine t_l rfl <| s_val (x_ix (v := vat aa 2 (Int.toNat (j - 1))) rfl rfl (Sl.ix (α := Dem) T62.und T62.size (H.os 1) (by omega) (by omega))) ?_
     refine s_nil ⟨(H.pk [0]), ?_⟩
     refine t_l rfl ?_;refine t_ow 1 (j - 1) (l.getD (Int.toNat j) default) H Sz61 (by omega) (by omega) rfl rfl rfl ?_;intro cI H
     refine s_nil ⟨(H.pk [0]), ?_⟩
     refine t_nil <| W.region rfl <| zM (I j) rfl <| zR j 1 (j - 1) rfl rfl rfl (by omega) <| zA (I (j - 1)) rfl <| s_nil ?_
     exact ⟨ai, aj, (l.set (Int.toNat j) (l.getD (Int.toNat (j - 1)) default)).set (Int.toNat (j - 1)) (l.getD (Int.toNat j) default), j - 1, ay, _, upds_of _ _ ⟨rfl, rfl, rfl, rfl, rfl, rfl, trivial⟩, M.e_inl hM ah, (H.pk [1, 0])⟩
    skip
    refine s_val (x_ix (v := vat aa 2 (Int.toNat j)) rfl rfl (Sl.ix (α := Dem) T62.und T62.size (H.os 1) (by omega) (by omega))) ?_
    have cJ := Sl.cells (H.os 1)
    have cK := Sl.oc (H.os 1)
    refine s_nil ⟨(H.pk [0]), ?_⟩
    refine t_l2 rfl rfl ?_ ?_
    ·skip
     refine s_val (x_ix (v := vat aa 2 (Int.toNat (j - 1))) rfl rfl (Sl.ix (α := Dem) T62.und T62.size (H.os 1) (by omega) (by omega))) ?_
     refine s_nil ⟨(H.pk [0]), ?_⟩
     refine t_l2 rfl rfl ?_ ?_
     ·skip
      refine s_val (x_ld (v := .agg #[I ((l.getD (Int.toNat (j - 1)) default).spring), I ((l.getD (Int.toNat (j - 1)) default).town)]) rfl (ld_ag Ag61 Sz61 (At.mono (Dem_atA (H.os 1) (i := j - 1) (by omega) (by omega)) (H.ol 1)))) ?_
      refine s_nil ⟨(H.pk [0]), ?_⟩
      refine t_l rfl <| s_val (x_ld (v := .agg #[I ((l.getD (Int.toNat j) default).spring), I ((l.getD (Int.toNat j) default).town)]) rfl (ld_ag Ag61 Sz61 (At.mono (Dem_atA (H.os 1) (i := j) (by omega) (by omega)) (H.ol 1)))) ?_
      refine s_nil ⟨(H.pk [0]), ?_⟩
      refine t_l rfl <| s_val (x_ix (v := vat aa 2 (Int.toNat j)) rfl rfl (Sl.ix (α := Dem) T62.und T62.size (H.os 1) (by omega) (by omega))) ?_
      refine s_nil ⟨(H.pk [0]), ?_⟩
      refine t_l rfl ?_;refine t_ow 1 j (l.getD (Int.toNat (j - 1)) default) H Sz61 (by omega) (by omega) rfl rfl rfl ?_;intro cL H
      refine s_nil ⟨(H.pk [0]), ?_⟩
      refine t_l rfl <| s_val (x_ix (v := vat aa 2 (Int.toNat (j - 1))) rfl rfl (Sl.ix (α := Dem) T62.und T62.size (H.os 1) (by omega) (by omega))) ?_
      refine s_nil ⟨(H.pk [0]), ?_⟩
      refine t_l rfl ?_;refine t_ow 1 (j - 1) (l.getD (Int.toNat j) default) H Sz61 (by omega) (by omega) rfl rfl rfl ?_;intro cM H
      refine s_nil ⟨(H.pk [0]), ?_⟩
      refine t_nil <| W.region rfl <| zM (I j) rfl <| zR j 1 (j - 1) rfl rfl rfl (by omega) <| zA (I (j - 1)) rfl <| s_nil ?_
      exact ⟨ai, aj, (l.set (Int.toNat j) (l.getD (Int.toNat (j - 1)) default)).set (Int.toNat (j - 1)) (l.getD (Int.toNat j) default), j - 1, ay, _, upds_of _ _ ⟨rfl, rfl, rfl, rfl, rfl, rfl, trivial⟩, M.e_inl hM ah, (H.pk [1, 0])⟩
     skip
     refine s_val (x_ld (v := .agg #[I ((l.getD (Int.toNat j) default).spring), I ((l.getD (Int.toNat j) default).town)]) rfl (ld_ag Ag61 Sz61 (At.mono (Dem_atA (H.os 1) (i := j) (by omega) (by omega)) (H.ol 1)))) ?_
     refine s_nil ⟨(H.pk [0]), ?_⟩
     refine t_l rfl <| s_val (x_ld (v := .agg #[I ((l.getD (Int.toNat (j - 1)) default).spring), I ((l.getD (Int.toNat (j - 1)) default).town)]) rfl (ld_ag Ag61 Sz61 (At.mono (Dem_atA (H.os 1) (i := j - 1) (by omega) (by omega)) (H.ol 1)))) ?_
     refine s_nil ⟨(H.pk [0]), ?_⟩
     refine t_l rfl <| s_val (x_ix (v := vat aa 2 (Int.toNat j)) rfl rfl (Sl.ix (α := Dem) T62.und T62.size (H.os 1) (by omega) (by omega))) ?_
     refine s_nil ⟨(H.pk [0]), ?_⟩
     refine t_l rfl ?_;refine t_ow 1 j (l.getD (Int.toNat (j - 1)) default) H Sz61 (by omega) (by omega) rfl rfl rfl ?_;intro cN H
     refine s_nil ⟨(H.pk [0]), ?_⟩
     refine t_l rfl <| s_val (x_ix (v := vat aa 2 (Int.toNat (j - 1))) rfl rfl (Sl.ix (α := Dem) T62.und T62.size (H.os 1) (by omega) (by omega))) ?_
     refine s_nil ⟨(H.pk [0]), ?_⟩
     refine t_l rfl ?_;refine t_ow 1 (j - 1) (l.getD (Int.toNat j) default) H Sz61 (by omega) (by omega) rfl rfl rfl ?_;intro cO H
     refine s_nil ⟨(H.pk [0]), ?_⟩
     refine t_nil <| W.region rfl <| zM (I j) rfl <| zR j 1 (j - 1) rfl rfl rfl (by omega) <| zA (I (j - 1)) rfl <| s_nil ?_
     exact ⟨ai, aj, (l.set (Int.toNat j) (l.getD (Int.toNat (j - 1)) default)).set (Int.toNat (j - 1)) (l.getD (Int.toNat j) default), j - 1, ay, _, upds_of _ _ ⟨rfl, rfl, rfl, rfl, rfl, rfl, trivial⟩, M.e_inl hM ah, (H.pk [1, 0])⟩
    skip
    refine s_val (x_ld (v := .agg #[I ((l.getD (Int.toNat j) default).spring), I ((l.getD (Int.toNat j) default).town)]) rfl (ld_ag Ag61 Sz61 (At.mono (Dem_atA (H.os 1) (i := j) (by omega) (by omega)) (H.ol 1)))) ?_
    refine s_nil ⟨(H.pk [0]), ?_⟩
    refine t_l rfl <| s_val (x_ix (v := vat aa 2 (Int.toNat (j - 1))) rfl rfl (Sl.ix (α := Dem) T62.und T62.size (H.os 1) (by omega) (by omega))) ?_
    refine s_nil ⟨(H.pk [0]), ?_⟩
    refine t_l rfl <| s_val (x_ld (v := .agg #[I ((l.getD (Int.toNat (j - 1)) default).spring), I ((l.getD (Int.toNat (j - 1)) default).town)]) rfl (ld_ag Ag61 Sz61 (At.mono (Dem_atA (H.os 1) (i := j - 1) (by omega) (by omega)) (H.ol 1)))) ?_
    refine s_nil ⟨(H.pk [0]), ?_⟩
    refine t_l rfl <| s_val (x_ix (v := vat aa 2 (Int.toNat j)) rfl rfl (Sl.ix (α := Dem) T62.und T62.size (H.os 1) (by omega) (by omega))) ?_
    refine s_nil ⟨(H.pk [0]), ?_⟩
    refine t_l rfl ?_;refine t_ow 1 j (l.getD (Int.toNat (j - 1)) default) H Sz61 (by omega) (by omega) rfl rfl rfl ?_;intro cP H
    refine s_nil ⟨(H.pk [0]), ?_⟩
    refine t_l rfl <| s_val (x_ix (v := vat aa 2 (Int.toNat (j - 1))) rfl rfl (Sl.ix (α := Dem) T62.und T62.size (H.os 1) (by omega) (by omega))) ?_
    refine s_nil ⟨(H.pk [0]), ?_⟩
    refine t_l rfl ?_;refine t_ow 1 (j - 1) (l.getD (Int.toNat j) default) H Sz61 (by omega) (by omega) rfl rfl rfl ?_;intro cQ H
    refine s_nil ⟨(H.pk [0]), ?_⟩
    refine t_nil <| W.region rfl <| zM (I j) rfl <| zR j 1 (j - 1) rfl rfl rfl (by omega) <| zA (I (j - 1)) rfl <| s_nil ?_
    exact ⟨ai, aj, (l.set (Int.toNat j) (l.getD (Int.toNat (j - 1)) default)).set (Int.toNat (j - 1)) (l.getD (Int.toNat j) default), j - 1, ay, _, upds_of _ _ ⟨rfl, rfl, rfl, rfl, rfl, rfl, trivial⟩, M.e_inl hM ah, (H.pk [1, 0])⟩
   replace hM := M.e_f hM aO;refine W.exit ?_
   have ca := M.e_inr hM ah
   subst ca;replace hM := bu;(try dsimp only at hM);refine W.region rfl <| zM (I i) rfl ?_;obtain ⟨cR, hM⟩ := M.e_gd hM;refine zR i 1 (i + 1) rfl rfl rfl (by omega) <| zA (I (i + 1)) rfl <| s_nil ?_
   exact ⟨br, bt, l, i + 1, ay, _, upds_of _ _ ⟨rfl, rfl, rfl, rfl, rfl, trivial⟩, M.e_inl hM aM, (H.pk [1, 0])⟩
  replace hM := M.e_f hM aD
  refine s_nil ⟨(H.pk [0]), ?_⟩
  refine d_qg (decide (a < j)) rfl (gy_t rfl) (fun hg => (fun w' H => x_cmp (kd := .i64) (r := decide ((0 : Int) < 0)) (gd_of hg (I 0)) rfl rfl)) <| d_q rfl (fun w' H => x_pand (b := decide (a < j)) (r := decide ((0 : Int) < 0)) rfl (fun hb => gd_of (c := decide (a < j)) (by first | exact hb | (rw [hb]; rfl) | simp_all) (B (decide ((0 : Int) < 0)))) rfl) ?_;refine d_nil ?_
  refine W.cond ((decide (a < j)) && (decide ((0 : Int) < 0))) rfl (fun aP => ?_) (fun aP => ?_)
  ·replace hM := M.e_t hM aP;refine W.skip <| W.seq <| W.block ?_;refine W.drawT (fun W => St w W [cMem encDm az B_mem (zaa al am ao aq au av aw)] R) (.q 0 (.q 1 (.q 2 (.q 3 (.q 4 (.q 5 (.q 6 (.q 7 (.q 10 (.q 11 (.l2 8 (.l2 9 (.l 12 (.l 13 (.l 14 (.l 15 (.l 16 (.l 17 .nil)))))) 12 (.l2 9 (.l 13 (.l 14 (.l 15 (.l 16 (.l 17 .nil))))) 13 (.l 9 (.l 14 (.l 15 (.l 16 (.l 17 .nil))))))) 12 (.l2 8 (.l2 9 (.l 13 (.l 14 (.l 15 (.l 16 (.l 17 .nil))))) 13 (.l 9 (.l 14 (.l 15 (.l 16 (.l 17 .nil)))))) 13 (.l 8 (.l 9 (.l 14 (.l 15 (.l 16 (.l 17 .nil)))))))))))))))))) mixed (by decide +kernel) rfl ?_;intro cS ac;replace H := H.ext ac;clear ac
   refine ⟨(H.pk [1]), ?_⟩
   refine t_q rfl (fun w' H => x_mv (v := aa) rfl) <| t_q rfl (fun w' H => x_mv (v := I j) rfl) <| t_q rfl (fun w' H => x_mv (v := aa) rfl) <| t_q rfl (fun w' H => x_mv (v := I j) rfl) ?_;obtain ⟨cT, hM⟩ := M.e_gd hM;refine t_q rfl (fun w' H => x_ari (r := j - 1) rfl rfl rfl (by omega)) <| t_q rfl (fun w' H => x_mv (v := aa) rfl) <| t_q rfl (fun w' H => x_mv (v := I j) rfl) <| t_q rfl (fun w' H => x_ari (r := j - 1) rfl rfl rfl (by omega)) <| t_q rfl (fun w' H => x_mv (v := aa) rfl) <| t_q rfl (fun w' H => x_mv (v := I j) rfl) ?_;obtain ⟨cU, hM⟩ := M.e_gd hM;obtain ⟨cV, hM⟩ := M.e_gd hM;obtain ⟨cW, hM⟩ := M.e_gd hM;refine t_l2 rfl rfl ?_ ?_
   ·skip
    refine s_val (x_ix (v := vat aa 2 (Int.toNat (j - 1))) rfl rfl (Sl.ix (α := Dem) T62.und T62.size (H.os 0) (by omega) (by omega))) ?_
    have cX := Sl.cells (H.os 0)
    have cY := Sl.oc (H.os 0)
    refine s_nil ⟨(H.pk [1]), ?_⟩
    refine t_l2 rfl rfl ?_ ?_
    ·skip
     refine s_val (x_ld (v := .agg #[I ((l.getD (Int.toNat (j - 1)) default).spring), I ((l.getD (Int.toNat (j - 1)) default).town)]) rfl (ld_ag Ag61 Sz61 (At.mono (Dem_atA (H.os 0) (i := j - 1) (by omega) (by omega)) (H.ol 0)))) ?_
     refine s_nil ⟨(H.pk [1]), ?_⟩
     refine t_l rfl <| s_val (x_ix (v := vat aa 2 (Int.toNat j)) rfl rfl (Sl.ix (α := Dem) T62.und T62.size (H.os 0) (by omega) (by omega))) ?_
     refine s_nil ⟨(H.pk [1]), ?_⟩
     refine t_l rfl <| s_val (x_ld (v := .agg #[I ((l.getD (Int.toNat j) default).spring), I ((l.getD (Int.toNat j) default).town)]) rfl (ld_ag Ag61 Sz61 (At.mono (Dem_atA (H.os 0) (i := j) (by omega) (by omega)) (H.ol 0)))) ?_
     refine s_nil ⟨(H.pk [1]), ?_⟩
     refine t_l rfl <| s_val (x_ix (v := vat aa 2 (Int.toNat j)) rfl rfl (Sl.ix (α := Dem) T62.und T62.size (H.os 0) (by omega) (by omega))) ?_
     refine s_nil ⟨(H.pk [1]), ?_⟩
     refine t_l rfl ?_;refine t_ow 0 j (l.getD (Int.toNat (j - 1)) default) H Sz61 (by omega) (by omega) rfl rfl rfl ?_;intro cZ H
     refine s_nil ⟨(H.pk [1]), ?_⟩
     refine t_l rfl <| s_val (x_ix (v := vat aa 2 (Int.toNat (j - 1))) rfl rfl (Sl.ix (α := Dem) T62.und T62.size (H.os 0) (by omega) (by omega))) ?_
     refine s_nil ⟨(H.pk [1]), ?_⟩
     refine t_l rfl ?_;refine t_ow 0 (j - 1) (l.getD (Int.toNat j) default) H Sz61 (by omega) (by omega) rfl rfl rfl ?_;intro c6 H
     refine s_nil ⟨(H.pk [1]), ?_⟩
     refine t_nil <| W.region rfl <| zM (I j) rfl <| zR j 1 (j - 1) rfl rfl rfl (by omega) <| zA (I (j - 1)) rfl <| s_nil ?_
     exact ⟨ai, aj, (l.set (Int.toNat j) (l.getD (Int.toNat (j - 1)) default)).set (Int.toNat (j - 1)) (l.getD (Int.toNat j) default), j - 1, B_mem, _, upds_of _ _ ⟨rfl, rfl, rfl, rfl, rfl, rfl, trivial⟩, M.e_inl hM ah, H⟩
    skip
    refine s_val (x_ix (v := vat aa 2 (Int.toNat j)) rfl rfl (Sl.ix (α := Dem) T62.und T62.size (H.os 0) (by omega) (by omega))) ?_
    refine s_nil ⟨(H.pk [1]), ?_⟩
    refine t_l2 rfl rfl ?_ ?_
    ·skip
     refine s_val (x_ld (v := .agg #[I ((l.getD (Int.toNat (j - 1)) default).spring), I ((l.getD (Int.toNat (j - 1)) default).town)]) rfl (ld_ag Ag61 Sz61 (At.mono (Dem_atA (H.os 0) (i := j - 1) (by omega) (by omega)) (H.ol 0)))) ?_
     refine s_nil ⟨(H.pk [1]), ?_⟩
     refine t_l rfl <| s_val (x_ld (v := .agg #[I ((l.getD (Int.toNat j) default).spring), I ((l.getD (Int.toNat j) default).town)]) rfl (ld_ag Ag61 Sz61 (At.mono (Dem_atA (H.os 0) (i := j) (by omega) (by omega)) (H.ol 0)))) ?_
     refine s_nil ⟨(H.pk [1]), ?_⟩
     refine t_l rfl <| s_val (x_ix (v := vat aa 2 (Int.toNat j)) rfl rfl (Sl.ix (α := Dem) T62.und T62.size (H.os 0) (by omega) (by omega))) ?_
     refine s_nil ⟨(H.pk [1]), ?_⟩
     refine t_l rfl ?_;refine t_ow 0 j (l.getD (Int.toNat (j - 1)) default) H Sz61 (by omega) (by omega) rfl rfl rfl ?_;intro c7 H
     refine s_nil ⟨(H.pk [1]), ?_⟩
     refine t_l rfl <| s_val (x_ix (v := vat aa 2 (Int.toNat (j - 1))) rfl rfl (Sl.ix (α := Dem) T62.und T62.size (H.os 0) (by omega) (by omega))) ?_
     refine s_nil ⟨(H.pk [1]), ?_⟩
     refine t_l rfl ?_;refine t_ow 0 (j - 1) (l.getD (Int.toNat j) default) H Sz61 (by omega) (by omega) rfl rfl rfl ?_;intro c8 H
     refine s_nil ⟨(H.pk [1]), ?_⟩
     refine t_nil <| W.region rfl <| zM (I j) rfl <| zR j 1 (j - 1) rfl rfl rfl (by omega) <| zA (I (j - 1)) rfl <| s_nil ?_
     exact ⟨ai, aj, (l.set (Int.toNat j) (l.getD (Int.toNat (j - 1)) default)).set (Int.toNat (j - 1)) (l.getD (Int.toNat j) default), j - 1, B_mem, _, upds_of _ _ ⟨rfl, rfl, rfl, rfl, rfl, rfl, trivial⟩, M.e_inl hM ah, H⟩
    skip
    refine s_val (x_ld (v := .agg #[I ((l.getD (Int.toNat j) default).spring), I ((l.getD (Int.toNat j) default).town)]) rfl (ld_ag Ag61 Sz61 (At.mono (Dem_atA (H.os 0) (i := j) (by omega) (by omega)) (H.ol 0)))) ?_
    refine s_nil ⟨(H.pk [1]), ?_⟩
    refine t_l rfl <| s_val (x_ld (v := .agg #[I ((l.getD (Int.toNat (j - 1)) default).spring), I ((l.getD (Int.toNat (j - 1)) default).town)]) rfl (ld_ag Ag61 Sz61 (At.mono (Dem_atA (H.os 0) (i := j - 1) (by omega) (by omega)) (H.ol 0)))) ?_
    refine s_nil ⟨(H.pk [1]), ?_⟩
    refine t_l rfl <| s_val (x_ix (v := vat aa 2 (Int.toNat j)) rfl rfl (Sl.ix (α := Dem) T62.und T62.size (H.os 0) (by omega) (by omega))) ?_
    refine s_nil ⟨(H.pk [1]), ?_⟩
    refine t_l rfl ?_;refine t_ow 0 j (l.getD (Int.toNat (j - 1)) default) H Sz61 (by omega) (by omega) rfl rfl rfl ?_;intro c9 H
    refine s_nil ⟨(H.pk [1]), ?_⟩
    refine t_l rfl <| s_val (x_ix (v := vat aa 2 (Int.toNat (j - 1))) rfl rfl (Sl.ix (α := Dem) T62.und T62.size (H.os 0) (by omega) (by omega))) ?_
    refine s_nil ⟨(H.pk [1]), ?_⟩
    refine t_l rfl ?_;refine t_ow 0 (j - 1) (l.getD (Int.toNat j) default) H Sz61 (by omega) (by omega) rfl rfl rfl ?_;intro da H
    refine s_nil ⟨(H.pk [1]), ?_⟩
    refine t_nil <| W.region rfl <| zM (I j) rfl <| zR j 1 (j - 1) rfl rfl rfl (by omega) <| zA (I (j - 1)) rfl <| s_nil ?_
    exact ⟨ai, aj, (l.set (Int.toNat j) (l.getD (Int.toNat (j - 1)) default)).set (Int.toNat (j - 1)) (l.getD (Int.toNat j) default), j - 1, B_mem, _, upds_of _ _ ⟨rfl, rfl, rfl, rfl, rfl, rfl, trivial⟩, M.e_inl hM ah, H⟩
   skip
   refine s_val (x_ix (v := vat aa 2 (Int.toNat j)) rfl rfl (Sl.ix (α := Dem) T62.und T62.size (H.os 0) (by omega) (by omega))) ?_
   have db := Sl.cells (H.os 0)
   have dc := Sl.oc (H.os 0)
   refine s_nil ⟨(H.pk [1]), ?_⟩
   refine t_l2 rfl rfl ?_ ?_
   ·skip
    refine s_val (x_ix (v := vat aa 2 (Int.toNat (j - 1))) rfl rfl (Sl.ix (α := Dem) T62.und T62.size (H.os 0) (by omega) (by omega))) ?_
    refine s_nil ⟨(H.pk [1]), ?_⟩
    refine t_l2 rfl rfl ?_ ?_
    ·skip
     refine s_val (x_ld (v := .agg #[I ((l.getD (Int.toNat (j - 1)) default).spring), I ((l.getD (Int.toNat (j - 1)) default).town)]) rfl (ld_ag Ag61 Sz61 (At.mono (Dem_atA (H.os 0) (i := j - 1) (by omega) (by omega)) (H.ol 0)))) ?_
     refine s_nil ⟨(H.pk [1]), ?_⟩
     refine t_l rfl <| s_val (x_ld (v := .agg #[I ((l.getD (Int.toNat j) default).spring), I ((l.getD (Int.toNat j) default).town)]) rfl (ld_ag Ag61 Sz61 (At.mono (Dem_atA (H.os 0) (i := j) (by omega) (by omega)) (H.ol 0)))) ?_
     refine s_nil ⟨(H.pk [1]), ?_⟩
     refine t_l rfl <| s_val (x_ix (v := vat aa 2 (Int.toNat j)) rfl rfl (Sl.ix (α := Dem) T62.und T62.size (H.os 0) (by omega) (by omega))) ?_
     refine s_nil ⟨(H.pk [1]), ?_⟩
     refine t_l rfl ?_;refine t_ow 0 j (l.getD (Int.toNat (j - 1)) default) H Sz61 (by omega) (by omega) rfl rfl rfl ?_;intro dd H
     refine s_nil ⟨(H.pk [1]), ?_⟩
     refine t_l rfl <| s_val (x_ix (v := vat aa 2 (Int.toNat (j - 1))) rfl rfl (Sl.ix (α := Dem) T62.und T62.size (H.os 0) (by omega) (by omega))) ?_
     refine s_nil ⟨(H.pk [1]), ?_⟩
     refine t_l rfl ?_;refine t_ow 0 (j - 1) (l.getD (Int.toNat j) default) H Sz61 (by omega) (by omega) rfl rfl rfl ?_;intro de H
     refine s_nil ⟨(H.pk [1]), ?_⟩
     refine t_nil <| W.region rfl <| zM (I j) rfl <| zR j 1 (j - 1) rfl rfl rfl (by omega) <| zA (I (j - 1)) rfl <| s_nil ?_
     exact ⟨ai, aj, (l.set (Int.toNat j) (l.getD (Int.toNat (j - 1)) default)).set (Int.toNat (j - 1)) (l.getD (Int.toNat j) default), j - 1, B_mem, _, upds_of _ _ ⟨rfl, rfl, rfl, rfl, rfl, rfl, trivial⟩, M.e_inl hM ah, H⟩
    skip
    refine s_val (x_ld (v := .agg #[I ((l.getD (Int.toNat j) default).spring), I ((l.getD (Int.toNat j) default).town)]) rfl (ld_ag Ag61 Sz61 (At.mono (Dem_atA (H.os 0) (i := j) (by omega) (by omega)) (H.ol 0)))) ?_
    refine s_nil ⟨(H.pk [1]), ?_⟩
    refine t_l rfl <| s_val (x_ld (v := .agg #[I ((l.getD (Int.toNat (j - 1)) default).spring), I ((l.getD (Int.toNat (j - 1)) default).town)]) rfl (ld_ag Ag61 Sz61 (At.mono (Dem_atA (H.os 0) (i := j - 1) (by omega) (by omega)) (H.ol 0)))) ?_
    refine s_nil ⟨(H.pk [1]), ?_⟩
    refine t_l rfl <| s_val (x_ix (v := vat aa 2 (Int.toNat j)) rfl rfl (Sl.ix (α := Dem) T62.und T62.size (H.os 0) (by omega) (by omega))) ?_
    refine s_nil ⟨(H.pk [1]), ?_⟩
    refine t_l rfl ?_;refine t_ow 0 j (l.getD (Int.toNat (j - 1)) default) H Sz61 (by omega) (by omega) rfl rfl rfl ?_;intro dg H
    refine s_nil ⟨(H.pk [1]), ?_⟩
    refine t_l rfl <| s_val (x_ix (v := vat aa 2 (Int.toNat (j - 1))) rfl rfl (Sl.ix (α := Dem) T62.und T62.size (H.os 0) (by omega) (by omega))) ?_
    refine s_nil ⟨(H.pk [1]), ?_⟩
    refine t_l rfl ?_;refine t_ow 0 (j - 1) (l.getD (Int.toNat j) default) H Sz61 (by omega) (by omega) rfl rfl rfl ?_;intro di H
    refine s_nil ⟨(H.pk [1]), ?_⟩
    refine t_nil <| W.region rfl <| zM (I j) rfl <| zR j 1 (j - 1) rfl rfl rfl (by omega) <| zA (I (j - 1)) rfl <| s_nil ?_
    exact ⟨ai, aj, (l.set (Int.toNat j) (l.getD (Int.toNat (j - 1)) default)).set (Int.toNat (j - 1)) (l.getD (Int.toNat j) default), j - 1, B_mem, _, upds_of _ _ ⟨rfl, rfl, rfl, rfl, rfl, rfl, trivial⟩, M.e_inl hM ah, H⟩
   skip
   refine s_val (x_ld (v := .agg #[I ((l.getD (Int.toNat j) default).spring), I ((l.getD (Int.toNat j) default).town)]) rfl (ld_ag Ag61 Sz61 (At.mono (Dem_atA (H.os 0) (i := j) (by omega) (by omega)) (H.ol 0)))) ?_
   refine s_nil ⟨(H.pk [1]), ?_⟩
   refine t_l rfl <| s_val (x_ix (v := vat aa 2 (Int.toNat (j - 1))) rfl rfl (Sl.ix (α := Dem) T62.und T62.size (H.os 0) (by omega) (by omega))) ?_
   refine s_nil ⟨(H.pk [1]), ?_⟩
   refine t_l rfl <| s_val (x_ld (v := .agg #[I ((l.getD (Int.toNat (j - 1)) default).spring), I ((l.getD (Int.toNat (j - 1)) default).town)]) rfl (ld_ag Ag61 Sz61 (At.mono (Dem_atA (H.os 0) (i := j - 1) (by omega) (by omega)) (H.ol 0)))) ?_
   refine s_nil ⟨(H.pk [1]), ?_⟩
   refine t_l rfl <| s_val (x_ix (v := vat aa 2 (Int.toNat j)) rfl rfl (Sl.ix (α := Dem) T62.und T62.size (H.os 0) (by omega) (by omega))) ?_
   refine s_nil ⟨(H.pk [1]), ?_⟩
   refine t_l rfl ?_;refine t_ow 0 j (l.getD (Int.toNat (j - 1)) default) H Sz61 (by omega) (by omega) rfl rfl rfl ?_;intro dk H
   refine s_nil ⟨(H.pk [1]), ?_⟩
   refine t_l rfl <| s_val (x_ix (v := vat aa 2 (Int.toNat (j - 1))) rfl rfl (Sl.ix (α := Dem) T62.und T62.size (H.os 0) (by omega) (by omega))) ?_
   refine s_nil ⟨(H.pk [1]), ?_⟩
   refine t_l rfl ?_;refine t_ow 0 (j - 1) (l.getD (Int.toNat j) default) H Sz61 (by omega) (by omega) rfl rfl rfl ?_;intro dq H
   refine s_nil ⟨(H.pk [1]), ?_⟩
   refine t_nil <| W.region rfl <| zM (I j) rfl <| zR j 1 (j - 1) rfl rfl rfl (by omega) <| zA (I (j - 1)) rfl <| s_nil ?_
   exact ⟨ai, aj, (l.set (Int.toNat j) (l.getD (Int.toNat (j - 1)) default)).set (Int.toNat (j - 1)) (l.getD (Int.toNat j) default), j - 1, B_mem, _, upds_of _ _ ⟨rfl, rfl, rfl, rfl, rfl, rfl, trivial⟩, M.e_inl hM ah, H⟩
  replace hM := M.e_f hM aP;refine W.exit ?_
  have cb := M.e_inr hM ah
  subst cb;replace hM := bu;(try dsimp only at hM);refine W.region rfl <| zM (I i) rfl ?_;obtain ⟨dr, hM⟩ := M.e_gd hM;refine zR i 1 (i + 1) rfl rfl rfl (by omega) <| zA (I (i + 1)) rfl <| s_nil ?_
  exact ⟨br, bt, l, i + 1, B_mem, _, upds_of _ _ ⟨rfl, rfl, rfl, rfl, rfl, trivial⟩, M.e_inl hM aM, H⟩
 replace hM := M.e_f hM aA
 replace aA := dI aA
 refine W.exit ?_
 have cc := M.e_inr hM aM
 subst cc;replace hM := b4;(try dsimp only at hM)
 have ce := M.e_pure hM
 exact ⟨_, resE_tmp0 rfl, ⟨l4, B_mem2, ce, rfl, H⟩⟩

def zbK (a b n : Int) : ((List Dem) × Nat) -> M (((List Dem) × Nat) ⊕ (List Dem)) := fun (l, i) =>
  bif decide ((i : Int) < n) then (
  M.grd (decide ((-9223372036854775808 : Int) <= (a + (i : Int))) && decide ((a + (i : Int)) <= (9223372036854775807 : Int))) <|
  M.grd (decide ((-9223372036854775808 : Int) <= (b + (i : Int))) && decide ((b + (i : Int)) <= (9223372036854775807 : Int))) <|
  M.grd (decide ((0 : Int) <= (b + (i : Int))) && decide ((b + (i : Int)) < (l.length : Int))) <|
  M.grd (decide ((0 : Int) <= (a + (i : Int))) && decide ((a + (i : Int)) < (l.length : Int))) <|
  M.grd (decide ((0 : Int) <= (b + (i : Int))) && decide ((b + (i : Int)) < ((l.set (Int.toNat (a + (i : Int))) (l.getD (Int.toNat (b + (i : Int))) default)).length : Int))) <|
  M.grd (decide ((-9223372036854775808 : Int) <= ((i : Int) + 1)) && decide (((i : Int) + 1) <= (9223372036854775807 : Int))) <|
  M.pure (.inl ((l.set (Int.toNat (a + (i : Int))) (l.getD (Int.toNat (b + (i : Int))) default)).set (Int.toNat (b + (i : Int))) (l.getD (Int.toNat (a + (i : Int))) default), i + 1)))
  else (
  M.pure (.inr l))
def zba (data : List Dem) (a b n : Int) (aa : List Int) (ab : List Span) (ac : List Int) (ae : List Town) (ag ah : Int) (ai : List Flood) (aj : List Int) (ak : List Span) (al : List Int) (am : List Town) (ao aq : Int) (au : List Flood) : M (List Dem) :=
  M.bind (M.iter (zbK a b n) (data, 0)) fun l2 =>
  M.pure l2
theorem zc9 {R : List Chunk} {aa : Value} {ai : Nat} {aj : Nat} {ak : Nat} {al : Cells} {am : Value} {ao : Cells} {aq : Value} {au : Cells} {av : Value} {aw : Cells} {ax : Value} {ay : Cells} {az : Value} {a8 : Nat} {aA : Nat} {aB : Nat} {aC : Cells} {aD : Value} {aE : Cells} {aF : Value} {aG : Cells} {aH : Value} {aI : Cells} {aJ : Value} {aK : Cells} {aL : Value} {ba : Nat} (data : List Dem) (a : Int) (b : Int) (n : Int) (aM : List Int) (aN : List Span) (aO : List Int) (aP : List Town) (aQ : Int) (aR : Int) (aS : List Flood) (aT : List Int) (aU : List Span) (aV : List Int) (aW : List Town) (aX : Int) (aY : Int) (aZ : List Flood) (bi : Reads R al) (bj : Sl al am aM) (bm : Reads R ao) (bn : Sl ao aq aN) (bo : Reads R au) (bp : Sl au av aO) (bq : Reads R aw) (br : Sl aw ax aP) (bt : Reads R ay) (bu : Sl ay az aS) (bv : Has R (cBlk ak [am, aq, av, ax, I aQ, I aR, az, .map (some a8)] 111)) (bw : Has R (cBlk aj [.func (.func 81) #[Pq ak] #[]] 134)) (bx : Reads R aC) (bz : Sl aC aD aT) (bA : Reads R aE) (bB : Sl aE aF aU) (bC : Reads R aG) (bD : Sl aG aH aV) (bE : Reads R aI) (bF : Sl aI aJ aW) (bG : Reads R aK) (bH : Sl aK aL aZ) (bI : Has R (cBlk aB [aD, aF, aH, aJ, I aX, I aY, aL, .map (some ba)] 111)) (bJ : Has R (cBlk aA [Pq aB] 94)) (bK : Has R (cBlk ai [.func (.func 102) #[] #[Pq aj, Pq aA]] 146)) {r : (List Dem)} (hM : (zba data a b n aM aN aO aP aQ aR aS aT aU aV aW aX aY aZ).Ends r) (w : World) (H : St w w [cOwn (α := Dem) 61 aa data] R) : Ret Tryz.prog 132 #[aa, I a, I b, I n, .func (.func 104) #[] #[Pq ai]] w fun v w' => ∃ (y0 : List Dem), y0 = r /\ v = .tuple #[] /\ St w w' [cOwn (α := Dem) 61 aa y0] R := by
 refine ret_of_W Tryz.func132 rfl rfl rfl <| W.seq <| W.region rfl <| zA (I 0) rfl <| s_nil <| W.block ?_;obtain ⟨bc, ah, bf⟩ := M.e_bind hM
 obtain ⟨bL, ah⟩ := M.e_iter ah
 refine W.loop (fun m σ W => ∃ (l : List Dem) (i : Nat) (ρ : Env), σ = upds ρ [(0, aa), (1, I a), (2, I b), (3, I n), (10, I (i : Int))] /\ M.iterN (zbK a b n) m (l, i) = some bc /\ St w W [cOwn (α := Dem) 61 aa l] R) ?_ ?_
 ·exact ⟨_, data, 0, _, upds_of _ _ ⟨rfl, rfl, rfl, rfl, rfl, trivial⟩, ah, H⟩
 rintro bM σ bN ⟨l, i, ρ, rfl, a6, H⟩
 obtain ⟨ae, ag, bO, hM, ab⟩ := M.e_iterN a6
 simp only [zbK] at hM
 clear a6;refine W.seq <| W.seq <| W.region rfl <| zM (I (i : Int)) rfl <| zM (I n) rfl <| zC (i : Int) n (decide ((i : Int) < n)) rfl rfl rfl <| s_nil ?_
 refine W.cond (decide ((i : Int) < n)) rfl (fun ac => ?_) (fun ac => ?_)
 ·replace hM := M.e_t hM ac
  replace ac := dI ac
  refine W.skip <| W.seq <| W.block ?_;refine W.drawT (fun W => St w W [] R) (.q 0 (.q 1 (.q 2 (.q 3 (.q 4 (.q 5 (.q 6 (.q 7 (.q 8 (.q 9 (.q 10 (.q 11 (.q 14 (.q 15 (.q 16 (.q 17 (.l2 12 (.l2 13 (.l 18 (.l 19 (.l 20 (.l 21 (.l 22 (.l 23 .nil)))))) 18 (.l2 13 (.l 19 (.l 20 (.l 21 (.l 22 (.l 23 .nil))))) 19 (.l 13 (.l 20 (.l 21 (.l 22 (.l 23 .nil))))))) 18 (.l2 12 (.l2 13 (.l 19 (.l 20 (.l 21 (.l 22 (.l 23 .nil))))) 19 (.l 13 (.l 20 (.l 21 (.l 22 (.l 23 .nil)))))) 19 (.l 12 (.l 13 (.l 20 (.l 21 (.l 22 (.l 23 .nil)))))))))))))))))))))))) mixed (by decide +kernel) rfl ?_;intro bP a7;replace H := H.ext a7;clear a7
  refine ⟨(H.pk []), ?_⟩
  refine t_q rfl (fun w' H => x_mv (v := aa) rfl) <| t_q rfl (fun w' H => x_mv (v := I a) rfl) <| t_q rfl (fun w' H => x_mv (v := I (i : Int)) rfl) ?_;obtain ⟨bQ, hM⟩ := M.e_gd hM;refine t_q rfl (fun w' H => x_ari (r := a + (i : Int)) rfl rfl rfl (by omega)) <| t_q rfl (fun w' H => x_mv (v := aa) rfl) <| t_q rfl (fun w' H => x_mv (v := I b) rfl) <| t_q rfl (fun w' H => x_mv (v := I (i : Int)) rfl) ?_;obtain ⟨bR, hM⟩ := M.e_gd hM;refine t_q rfl (fun w' H => x_ari (r := b + (i : Int)) rfl rfl rfl (by omega)) <| t_q rfl (fun w' H => x_mv (v := aa) rfl) <| t_q rfl (fun w' H => x_mv (v := I b) rfl) <| t_q rfl (fun w' H => x_mv (v := I (i : Int)) rfl) <| t_q rfl (fun w' H => x_ari (r := b + (i : Int)) rfl rfl rfl (by omega)) <| t_q rfl (fun w' H => x_mv (v := aa) rfl) <| t_q rfl (fun w' H => x_mv (v := I a) rfl) <| t_q rfl (fun w' H => x_mv (v := I (i : Int)) rfl) <| t_q rfl (fun w' H => x_ari (r := a + (i : Int)) rfl rfl rfl (by omega)) ?_;obtain ⟨bS, hM⟩ := M.e_gd hM;obtain ⟨bT, hM⟩ := M.e_gd hM;obtain ⟨bU, hM⟩ := M.e_gd hM;refine t_l2 rfl rfl ?_ ?_
  ·skip
   refine s_val (x_ix (v := vat aa 2 (Int.toNat (b + (i : Int)))) rfl rfl (Sl.ix (α := Dem) T62.und T62.size (H.os 0) (by omega) (by omega))) ?_
   have bV := Sl.cells (H.os 0)
   have bW := Sl.oc (H.os 0)
   refine s_nil ⟨(H.pk []), ?_⟩
   refine t_l2 rfl rfl ?_ ?_
   ·skip
    refine s_val (x_ld (v := .agg #[I ((l.getD (Int.toNat (b + (i : Int))) default).spring), I ((l.getD (Int.toNat (b + (i : Int))) default).town)]) rfl (ld_ag Ag61 Sz61 (At.mono (Dem_atA (H.os 0) (i := b + (i : Int)) (by omega) (by omega)) (H.ol 0)))) ?_
    refine s_nil ⟨(H.pk []), ?_⟩
    refine t_l rfl <| s_val (x_ix (v := vat aa 2 (Int.toNat (a + (i : Int)))) rfl rfl (Sl.ix (α := Dem) T62.und T62.size (H.os 0) (by omega) (by omega))) ?_
    refine s_nil ⟨(H.pk []), ?_⟩
    refine t_l rfl <| s_val (x_ld (v := .agg #[I ((l.getD (Int.toNat (a + (i : Int))) default).spring), I ((l.getD (Int.toNat (a + (i : Int))) default).town)]) rfl (ld_ag Ag61 Sz61 (At.mono (Dem_atA (H.os 0) (i := a + (i : Int)) (by omega) (by omega)) (H.ol 0)))) ?_
    refine s_nil ⟨(H.pk []), ?_⟩
    refine t_l rfl <| s_val (x_ix (v := vat aa 2 (Int.toNat (a + (i : Int)))) rfl rfl (Sl.ix (α := Dem) T62.und T62.size (H.os 0) (by omega) (by omega))) ?_
    refine s_nil ⟨(H.pk []), ?_⟩
    refine t_l rfl ?_;refine t_ow 0 (a + (i : Int)) (l.getD (Int.toNat (b + (i : Int))) default) H Sz61 (by omega) (by omega) rfl rfl rfl ?_;intro bX H
    refine s_nil ⟨(H.pk []), ?_⟩
    refine t_l rfl <| s_val (x_ix (v := vat aa 2 (Int.toNat (b + (i : Int)))) rfl rfl (Sl.ix (α := Dem) T62.und T62.size (H.os 0) (by omega) (by omega))) ?_
    refine s_nil ⟨(H.pk []), ?_⟩
    refine t_l rfl ?_;refine t_ow 0 (b + (i : Int)) (l.getD (Int.toNat (a + (i : Int))) default) H Sz61 (by omega) (by omega) rfl rfl rfl ?_;intro bY H
    refine s_nil ⟨(H.pk []), ?_⟩
    refine t_nil <| W.region rfl <| zM (I (i : Int)) rfl ?_;obtain ⟨bZ, hM⟩ := M.e_gd hM;refine zR (i : Int) 1 ((i : Int) + 1) rfl rfl rfl (by omega) <| zA (I ((i : Int) + 1)) rfl <| s_nil ?_
    exact ⟨ae, ag, (l.set (Int.toNat (a + (i : Int))) (l.getD (Int.toNat (b + (i : Int))) default)).set (Int.toNat (b + (i : Int))) (l.getD (Int.toNat (a + (i : Int))) default), i + 1, _, upds_of _ _ ⟨rfl, rfl, rfl, rfl, rfl, trivial⟩, M.e_inl hM ab, H⟩
   skip
   refine s_val (x_ix (v := vat aa 2 (Int.toNat (a + (i : Int)))) rfl rfl (Sl.ix (α := Dem) T62.und T62.size (H.os 0) (by omega) (by omega))) ?_
   refine s_nil ⟨(H.pk []), ?_⟩
   refine t_l2 rfl rfl ?_ ?_
   ·skip
    refine s_val (x_ld (v := .agg #[I ((l.getD (Int.toNat (b + (i : Int))) default).spring), I ((l.getD (Int.toNat (b + (i : Int))) default).town)]) rfl (ld_ag Ag61 Sz61 (At.mono (Dem_atA (H.os 0) (i := b + (i : Int)) (by omega) (by omega)) (H.ol 0)))) ?_
    refine s_nil ⟨(H.pk []), ?_⟩
    refine t_l rfl <| s_val (x_ld (v := .agg #[I ((l.getD (Int.toNat (a + (i : Int))) default).spring), I ((l.getD (Int.toNat (a + (i : Int))) default).town)]) rfl (ld_ag Ag61 Sz61 (At.mono (Dem_atA (H.os 0) (i := a + (i : Int)) (by omega) (by omega)) (H.ol 0)))) ?_
    refine s_nil ⟨(H.pk []), ?_⟩
    refine t_l rfl <| s_val (x_ix (v := vat aa 2 (Int.toNat (a + (i : Int)))) rfl rfl (Sl.ix (α := Dem) T62.und T62.size (H.os 0) (by omega) (by omega))) ?_
    refine s_nil ⟨(H.pk []), ?_⟩
    refine t_l rfl ?_;refine t_ow 0 (a + (i : Int)) (l.getD (Int.toNat (b + (i : Int))) default) H Sz61 (by omega) (by omega) rfl rfl rfl ?_;intro b4 H
    refine s_nil ⟨(H.pk []), ?_⟩
    refine t_l rfl <| s_val (x_ix (v := vat aa 2 (Int.toNat (b + (i : Int)))) rfl rfl (Sl.ix (α := Dem) T62.und T62.size (H.os 0) (by omega) (by omega))) ?_
    refine s_nil ⟨(H.pk []), ?_⟩
    refine t_l rfl ?_;refine t_ow 0 (b + (i : Int)) (l.getD (Int.toNat (a + (i : Int))) default) H Sz61 (by omega) (by omega) rfl rfl rfl ?_;intro b7 H
    refine s_nil ⟨(H.pk []), ?_⟩
    refine t_nil <| W.region rfl <| zM (I (i : Int)) rfl ?_;obtain ⟨b8, hM⟩ := M.e_gd hM;refine zR (i : Int) 1 ((i : Int) + 1) rfl rfl rfl (by omega) <| zA (I ((i : Int) + 1)) rfl <| s_nil ?_
    exact ⟨ae, ag, (l.set (Int.toNat (a + (i : Int))) (l.getD (Int.toNat (b + (i : Int))) default)).set (Int.toNat (b + (i : Int))) (l.getD (Int.toNat (a + (i : Int))) default), i + 1, _, upds_of _ _ ⟨rfl, rfl, rfl, rfl, rfl, trivial⟩, M.e_inl hM ab, H⟩
   skip
   refine s_val (x_ld (v := .agg #[I ((l.getD (Int.toNat (a + (i : Int))) default).spring), I ((l.getD (Int.toNat (a + (i : Int))) default).town)]) rfl (ld_ag Ag61 Sz61 (At.mono (Dem_atA (H.os 0) (i := a + (i : Int)) (by omega) (by omega)) (H.ol 0)))) ?_
   refine s_nil ⟨(H.pk []), ?_⟩
   refine t_l rfl <| s_val (x_ld (v := .agg #[I ((l.getD (Int.toNat (b + (i : Int))) default).spring), I ((l.getD (Int.toNat (b + (i : Int))) default).town)]) rfl (ld_ag Ag61 Sz61 (At.mono (Dem_atA (H.os 0) (i := b + (i : Int)) (by omega) (by omega)) (H.ol 0)))) ?_
   refine s_nil ⟨(H.pk []), ?_⟩
   refine t_l rfl <| s_val (x_ix (v := vat aa 2 (Int.toNat (a + (i : Int)))) rfl rfl (Sl.ix (α := Dem) T62.und T62.size (H.os 0) (by omega) (by omega))) ?_
   refine s_nil ⟨(H.pk []), ?_⟩
   refine t_l rfl ?_;refine t_ow 0 (a + (i : Int)) (l.getD (Int.toNat (b + (i : Int))) default) H Sz61 (by omega) (by omega) rfl rfl rfl ?_;intro b9 H
   refine s_nil ⟨(H.pk []), ?_⟩
   refine t_l rfl <| s_val (x_ix (v := vat aa 2 (Int.toNat (b + (i : Int)))) rfl rfl (Sl.ix (α := Dem) T62.und T62.size (H.os 0) (by omega) (by omega))) ?_
   refine s_nil ⟨(H.pk []), ?_⟩
   refine t_l rfl ?_;refine t_ow 0 (b + (i : Int)) (l.getD (Int.toNat (a + (i : Int))) default) H Sz61 (by omega) (by omega) rfl rfl rfl ?_;intro ca H
   refine s_nil ⟨(H.pk []), ?_⟩
   refine t_nil <| W.region rfl <| zM (I (i : Int)) rfl ?_;obtain ⟨cb, hM⟩ := M.e_gd hM;refine zR (i : Int) 1 ((i : Int) + 1) rfl rfl rfl (by omega) <| zA (I ((i : Int) + 1)) rfl <| s_nil ?_
   exact ⟨ae, ag, (l.set (Int.toNat (a + (i : Int))) (l.getD (Int.toNat (b + (i : Int))) default)).set (Int.toNat (b + (i : Int))) (l.getD (Int.toNat (a + (i : Int))) default), i + 1, _, upds_of _ _ ⟨rfl, rfl, rfl, rfl, rfl, trivial⟩, M.e_inl hM ab, H⟩
  skip
  refine s_val (x_ix (v := vat aa 2 (Int.toNat (a + (i : Int)))) rfl rfl (Sl.ix (α := Dem) T62.und T62.size (H.os 0) (by omega) (by omega))) ?_
  have cc := Sl.cells (H.os 0)
  have ce := Sl.oc (H.os 0)
  refine s_nil ⟨(H.pk []), ?_⟩
  refine t_l2 rfl rfl ?_ ?_
  ·skip
   refine s_val (x_ix (v := vat aa 2 (Int.toNat (b + (i : Int)))) rfl rfl (Sl.ix (α := Dem) T62.und T62.size (H.os 0) (by omega) (by omega))) ?_
   refine s_nil ⟨(H.pk []), ?_⟩
   refine t_l2 rfl rfl ?_ ?_
   ·skip
    refine s_val (x_ld (v := .agg #[I ((l.getD (Int.toNat (b + (i : Int))) default).spring), I ((l.getD (Int.toNat (b + (i : Int))) default).town)]) rfl (ld_ag Ag61 Sz61 (At.mono (Dem_atA (H.os 0) (i := b + (i : Int)) (by omega) (by omega)) (H.ol 0)))) ?_
    refine s_nil ⟨(H.pk []), ?_⟩
    refine t_l rfl <| s_val (x_ld (v := .agg #[I ((l.getD (Int.toNat (a + (i : Int))) default).spring), I ((l.getD (Int.toNat (a + (i : Int))) default).town)]) rfl (ld_ag Ag61 Sz61 (At.mono (Dem_atA (H.os 0) (i := a + (i : Int)) (by omega) (by omega)) (H.ol 0)))) ?_
    refine s_nil ⟨(H.pk []), ?_⟩
    refine t_l rfl <| s_val (x_ix (v := vat aa 2 (Int.toNat (a + (i : Int)))) rfl rfl (Sl.ix (α := Dem) T62.und T62.size (H.os 0) (by omega) (by omega))) ?_
    refine s_nil ⟨(H.pk []), ?_⟩
    refine t_l rfl ?_;refine t_ow 0 (a + (i : Int)) (l.getD (Int.toNat (b + (i : Int))) default) H Sz61 (by omega) (by omega) rfl rfl rfl ?_;intro cf H
    refine s_nil ⟨(H.pk []), ?_⟩
    refine t_l rfl <| s_val (x_ix (v := vat aa 2 (Int.toNat (b + (i : Int)))) rfl rfl (Sl.ix (α := Dem) T62.und T62.size (H.os 0) (by omega) (by omega))) ?_
    refine s_nil ⟨(H.pk []), ?_⟩
    refine t_l rfl ?_;refine t_ow 0 (b + (i : Int)) (l.getD (Int.toNat (a + (i : Int))) default) H Sz61 (by omega) (by omega) rfl rfl rfl ?_;intro cg H
    refine s_nil ⟨(H.pk []), ?_⟩
    refine t_nil <| W.region rfl <| zM (I (i : Int)) rfl ?_;obtain ⟨ck, hM⟩ := M.e_gd hM;refine zR (i : Int) 1 ((i : Int) + 1) rfl rfl rfl (by omega) <| zA (I ((i : Int) + 1)) rfl <| s_nil ?_
    exact ⟨ae, ag, (l.set (Int.toNat (a + (i : Int))) (l.getD (Int.toNat (b + (i : Int))) default)).set (Int.toNat (b + (i : Int))) (l.getD (Int.toNat (a + (i : Int))) default), i + 1, _, upds_of _ _ ⟨rfl, rfl, rfl, rfl, rfl, trivial⟩, M.e_inl hM ab, H⟩
   skip
   refine s_val (x_ld (v := .agg #[I ((l.getD (Int.toNat (a + (i : Int))) default).spring), I ((l.getD (Int.toNat (a + (i : Int))) default).town)]) rfl (ld_ag Ag61 Sz61 (At.mono (Dem_atA (H.os 0) (i := a + (i : Int)) (by omega) (by omega)) (H.ol 0)))) ?_
   refine s_nil ⟨(H.pk []), ?_⟩
   refine t_l rfl <| s_val (x_ld (v := .agg #[I ((l.getD (Int.toNat (b + (i : Int))) default).spring), I ((l.getD (Int.toNat (b + (i : Int))) default).town)]) rfl (ld_ag Ag61 Sz61 (At.mono (Dem_atA (H.os 0) (i := b + (i : Int)) (by omega) (by omega)) (H.ol 0)))) ?_
   refine s_nil ⟨(H.pk []), ?_⟩
   refine t_l rfl <| s_val (x_ix (v := vat aa 2 (Int.toNat (a + (i : Int)))) rfl rfl (Sl.ix (α := Dem) T62.und T62.size (H.os 0) (by omega) (by omega))) ?_
   refine s_nil ⟨(H.pk []), ?_⟩
   refine t_l rfl ?_;refine t_ow 0 (a + (i : Int)) (l.getD (Int.toNat (b + (i : Int))) default) H Sz61 (by omega) (by omega) rfl rfl rfl ?_;intro cl H
   refine s_nil ⟨(H.pk []), ?_⟩
   refine t_l rfl <| s_val (x_ix (v := vat aa 2 (Int.toNat (b + (i : Int)))) rfl rfl (Sl.ix (α := Dem) T62.und T62.size (H.os 0) (by omega) (by omega))) ?_
   refine s_nil ⟨(H.pk []), ?_⟩
   refine t_l rfl ?_;refine t_ow 0 (b + (i : Int)) (l.getD (Int.toNat (a + (i : Int))) default) H Sz61 (by omega) (by omega) rfl rfl rfl ?_;intro cm H
   refine s_nil ⟨(H.pk []), ?_⟩
   refine t_nil <| W.region rfl <| zM (I (i : Int)) rfl ?_;obtain ⟨cn, hM⟩ := M.e_gd hM;refine zR (i : Int) 1 ((i : Int) + 1) rfl rfl rfl (by omega) <| zA (I ((i : Int) + 1)) rfl <| s_nil ?_
   exact ⟨ae, ag, (l.set (Int.toNat (a + (i : Int))) (l.getD (Int.toNat (b + (i : Int))) default)).set (Int.toNat (b + (i : Int))) (l.getD (Int.toNat (a + (i : Int))) default), i + 1, _, upds_of _ _ ⟨rfl, rfl, rfl, rfl, rfl, trivial⟩, M.e_inl hM ab, H⟩
  skip
  refine s_val (x_ld (v := .agg #[I ((l.getD (Int.toNat (a + (i : Int))) default).spring), I ((l.getD (Int.toNat (a + (i : Int))) default).town)]) rfl (ld_ag Ag61 Sz61 (At.mono (Dem_atA (H.os 0) (i := a + (i : Int)) (by omega) (by omega)) (H.ol 0)))) ?_
  refine s_nil ⟨(H.pk []), ?_⟩
  refine t_l rfl <| s_val (x_ix (v := vat aa 2 (Int.toNat (b + (i : Int)))) rfl rfl (Sl.ix (α := Dem) T62.und T62.size (H.os 0) (by omega) (by omega))) ?_
  refine s_nil ⟨(H.pk []), ?_⟩
  refine t_l rfl <| s_val (x_ld (v := .agg #[I ((l.getD (Int.toNat (b + (i : Int))) default).spring), I ((l.getD (Int.toNat (b + (i : Int))) default).town)]) rfl (ld_ag Ag61 Sz61 (At.mono (Dem_atA (H.os 0) (i := b + (i : Int)) (by omega) (by omega)) (H.ol 0)))) ?_
  refine s_nil ⟨(H.pk []), ?_⟩
  refine t_l rfl <| s_val (x_ix (v := vat aa 2 (Int.toNat (a + (i : Int)))) rfl rfl (Sl.ix (α := Dem) T62.und T62.size (H.os 0) (by omega) (by omega))) ?_
  refine s_nil ⟨(H.pk []), ?_⟩
  refine t_l rfl ?_;refine t_ow 0 (a + (i : Int)) (l.getD (Int.toNat (b + (i : Int))) default) H Sz61 (by omega) (by omega) rfl rfl rfl ?_;intro co H
  refine s_nil ⟨(H.pk []), ?_⟩
  refine t_l rfl <| s_val (x_ix (v := vat aa 2 (Int.toNat (b + (i : Int)))) rfl rfl (Sl.ix (α := Dem) T62.und T62.size (H.os 0) (by omega) (by omega))) ?_
  refine s_nil ⟨(H.pk []), ?_⟩
  refine t_l rfl ?_;refine t_ow 0 (b + (i : Int)) (l.getD (Int.toNat (a + (i : Int))) default) H Sz61 (by omega) (by omega) rfl rfl rfl ?_;intro cp H
  refine s_nil ⟨(H.pk []), ?_⟩
  refine t_nil <| W.region rfl <| zM (I (i : Int)) rfl ?_;obtain ⟨cq, hM⟩ := M.e_gd hM;refine zR (i : Int) 1 ((i : Int) + 1) rfl rfl rfl (by omega) <| zA (I ((i : Int) + 1)) rfl <| s_nil ?_
  exact ⟨ae, ag, (l.set (Int.toNat (a + (i : Int))) (l.getD (Int.toNat (b + (i : Int))) default)).set (Int.toNat (b + (i : Int))) (l.getD (Int.toNat (a + (i : Int))) default), i + 1, _, upds_of _ _ ⟨rfl, rfl, rfl, rfl, rfl, trivial⟩, M.e_inl hM ab, H⟩
 replace hM := M.e_f hM ac
 replace ac := dI ac
 refine W.exit ?_
 have bg := M.e_inr hM ab
 subst bg;replace hM := bf;(try dsimp only at hM)
 have bh := M.e_pure hM
 exact ⟨_, resE_tmp0 rfl, ⟨l, bh, rfl, H⟩⟩

def zcY (m_ : Int) (aa : List Int) (ab : List Span) (ac : List Int) (ae : List Town) (ag ah : Int) (ai : List Flood) (aj : List Int) (ak : List Span) (al : List Int) (am : List Town) (ao aq : Int) (au : List Flood) : ((List Dem) × Int × Int) -> M (((List Dem) × Int × Int) ⊕ ((List Dem) × Int × (List Dem))) := fun (l, i, j) =>
  bif i != j then (
  bif decide (j < i) then (
  M.grd (decide ((-9223372036854775808 : Int) <= (m_ - i)) && decide ((m_ - i) <= (9223372036854775807 : Int))) <|
  M.bind (zba l (m_ - i) m_ j aa ab ac ae ag ah ai aj ak al am ao aq au) fun l_data =>
  M.grd (decide ((-9223372036854775808 : Int) <= (i - j)) && decide ((i - j) <= (9223372036854775807 : Int))) <|
  M.pure (.inl (l_data, i - j, j)))
  else (
  M.grd (decide ((-9223372036854775808 : Int) <= (m_ - i)) && decide ((m_ - i) <= (9223372036854775807 : Int))) <|
  M.grd (decide ((-9223372036854775808 : Int) <= (m_ + j)) && decide ((m_ + j) <= (9223372036854775807 : Int))) <|
  M.grd (decide ((-9223372036854775808 : Int) <= ((m_ + j) - i)) && decide (((m_ + j) - i) <= (9223372036854775807 : Int))) <|
  M.bind (zba l (m_ - i) ((m_ + j) - i) i aa ab ac ae ag ah ai aj ak al am ao aq au) fun l_data2 =>
  M.grd (decide ((-9223372036854775808 : Int) <= (j - i)) && decide ((j - i) <= (9223372036854775807 : Int))) <|
  M.pure (.inl (l_data2, i, j - i))))
  else (
  M.pure (.inr (l, i, l)))
def zcL (data : List Dem) (a m_ b : Int) (aa : List Int) (ab : List Span) (ac : List Int) (ae : List Town) (ag ah : Int) (ai : List Flood) (aj : List Int) (ak : List Span) (al : List Int) (am : List Town) (ao aq : Int) (au : List Flood) : M (List Dem) :=
  M.grd (decide ((-9223372036854775808 : Int) <= (m_ - a)) && decide ((m_ - a) <= (9223372036854775807 : Int))) <|
  M.grd (decide ((-9223372036854775808 : Int) <= (b - m_)) && decide ((b - m_) <= (9223372036854775807 : Int))) <|
  M.bind (M.iter (zcY m_ aa ab ac ae ag ah ai aj ak al am ao aq au) (data, m_ - a, b - m_)) fun (l2, i2, l3) =>
  M.grd (decide ((-9223372036854775808 : Int) <= (m_ - i2)) && decide ((m_ - i2) <= (9223372036854775807 : Int))) <|
  M.bind (zba l3 (m_ - i2) m_ i2 aa ab ac ae ag ah ai aj ak al am ao aq au) fun l_data3 =>
  M.pure l_data3
theorem zd8 {R : List Chunk} {aa : Value} {ab : Nat} {a7 : Nat} {a8 : Nat} {ba : Cells} {bc : Value} {bf : Cells} {bg : Value} {bh : Cells} {bi : Value} {bj : Cells} {bm : Value} {bn : Cells} {bo : Value} {bG : Nat} {bp : Nat} {bq : Nat} {br : Cells} {bt : Value} {bu : Cells} {bv : Value} {bw : Cells} {bx : Value} {bz : Cells} {bA : Value} {bB : Cells} {bC : Value} {bH : Nat} (data : List Dem) (a : Int) (m_ : Int) (b : Int) (ah : List Int) (ai : List Span) (aj : List Int) (ak : List Town) (al : Int) (am : Int) (ao : List Flood) (aq : List Int) (au : List Span) (av : List Int) (aw : List Town) (ax : Int) (ay : Int) (az : List Flood) (aA : Reads R ba) (aB : Sl ba bc ah) (aC : Reads R bf) (aD : Sl bf bg ai) (aE : Reads R bh) (aF : Sl bh bi aj) (aG : Reads R bj) (aH : Sl bj bm ak) (aI : Reads R bn) (aJ : Sl bn bo ao) (aK : Has R (cBlk a8 [bc, bg, bi, bm, I al, I am, bo, .map (some bG)] 111)) (aL : Has R (cBlk a7 [.func (.func 81) #[Pq a8] #[]] 134)) (aM : Reads R br) (aN : Sl br bt aq) (aO : Reads R bu) (aP : Sl bu bv au) (aQ : Reads R bw) (aR : Sl bw bx av) (aS : Reads R bz) (aT : Sl bz bA aw) (aU : Reads R bB) (aV : Sl bB bC az) (aW : Has R (cBlk bq [bt, bv, bx, bA, I ax, I ay, bC, .map (some bH)] 111)) (aX : Has R (cBlk bp [Pq bq] 94)) (aY : Has R (cBlk ab [.func (.func 102) #[] #[Pq a7, Pq bp]] 146)) {r : (List Dem)} (hM : (zcL data a m_ b ah ai aj ak al am ao aq au av aw ax ay az).Ends r) (w : World) (H : St w w [cOwn (α := Dem) 61 aa data] R) : Ret Tryz.prog 126 #[aa, I a, I m_, I b, .func (.func 104) #[] #[Pq ab]] w fun v w' => ∃ (y0 : List Dem), y0 = r /\ v = .tuple #[] /\ St w w' [cOwn (α := Dem) 61 aa y0] R := by
 refine ret_of_W Tryz.func126 rfl rfl rfl <| W.seq <| W.region rfl <| zM (I m_) rfl <| zM (I a) rfl ?_;obtain ⟨bP, hM⟩ := M.e_gd hM;refine zR m_ a (m_ - a) rfl rfl rfl (by omega) <| zA (I (m_ - a)) rfl <| s_nil <| W.seq <| W.region rfl <| zM (I b) rfl <| zM (I m_) rfl ?_;obtain ⟨bQ, hM⟩ := M.e_gd hM;refine zR b m_ (b - m_) rfl rfl rfl (by omega) <| zA (I (b - m_)) rfl <| s_nil <| W.seq <| W.block ?_;obtain ⟨bI, aZ, bJ⟩ := M.e_bind hM
 obtain ⟨bR, aZ⟩ := M.e_iter aZ
 refine W.loop (fun m σ W => ∃ (l : List Dem) (i : Int) (j : Int) (ρ : Env), σ = upds ρ [(0, aa), (2, I m_), (4, .func (.func 104) #[] #[Pq ab]), (10, I i), (11, I j)] /\ M.iterN (zcY m_ ah ai aj ak al am ao aq au av aw ax ay az) m (l, i, j) = some bI /\ St w W [cOwn (α := Dem) 61 aa l] R) ?_ ?_
 ·exact ⟨_, data, m_ - a, b - m_, _, upds_of _ _ ⟨rfl, rfl, rfl, rfl, rfl, trivial⟩, aZ, H⟩
 rintro bS σ bT ⟨l, i, j, ρ, rfl, bD, H⟩
 obtain ⟨bE, bF, bU, hM, a6⟩ := M.e_iterN bD
 simp only [zcY] at hM
 clear bD;refine W.seq <| W.seq <| W.region rfl <| zM (I i) rfl <| zM (I j) rfl <| zC i j (i != j) rfl rfl rfl <| s_nil ?_
 refine W.cond (i != j) rfl (fun ae => ?_) (fun ae => ?_)
 ·replace hM := M.e_t hM ae
  replace ae := dI ae
  refine W.skip <| W.block <| W.seq <| W.region rfl <| zM (I i) rfl <| zM (I j) rfl <| zC i j (decide (j < i)) rfl rfl rfl <| s_nil ?_
  refine W.cond (decide (j < i)) rfl (fun ag => ?_) (fun ag => ?_)
  ·replace hM := M.e_t hM ag
   replace ag := dI ag
   refine W.seq <| W.region rfl <| zM aa rfl <| zM (I m_) rfl <| zM (I i) rfl ?_;obtain ⟨bV, hM⟩ := M.e_gd hM;refine zR m_ i (m_ - i) rfl rfl rfl (by omega) <| zM (I m_) rfl <| zM (I j) rfl <| zM (.func (.func 104) #[] #[Pq ab]) rfl ?_;obtain ⟨bW, bK, hM⟩ := M.e_bind hM;refine s_call cf132 [aa, I (m_ - i), I m_, I j, .func (.func 104) #[] #[Pq ab]] rfl (zc9 l (m_ - i) m_ j ah ai aj ak al am ao aq au av aw ax ay az (aA.app _) aB (aC.app _) aD (aE.app _) aF (aG.app _) aH (aI.app _) aJ (aK.app _) (aL.app _) (aM.app _) aN (aO.app _) aP (aQ.app _) aR (aS.app _) aT (aU.app _) aV (aW.app _) (aX.app _) (aY.app _) bK _ (H.gt 0)) ?_
   rintro vq bX ⟨l_data, rfl, hvq, ac⟩
   subst vq;(try dsimp only at hM);replace H := H.bk ac;clear ac;refine s_nil <| W.region rfl <| zM (I i) rfl <| zM (I j) rfl ?_;obtain ⟨bY, hM⟩ := M.e_gd hM;refine zR i j (i - j) rfl rfl rfl (by omega) <| zA (I (i - j)) rfl <| s_nil ?_
   exact ⟨bE, bF, l_data, i - j, j, _, upds_of _ _ ⟨rfl, rfl, rfl, rfl, rfl, trivial⟩, M.e_inl hM a6, H⟩
  replace hM := M.e_f hM ag
  replace ag := dI ag
  refine W.seq <| W.region rfl <| zM aa rfl <| zM (I m_) rfl <| zM (I i) rfl ?_;obtain ⟨bZ, hM⟩ := M.e_gd hM;refine zR m_ i (m_ - i) rfl rfl rfl (by omega) <| zM (I m_) rfl <| zM (I j) rfl ?_;obtain ⟨b4, hM⟩ := M.e_gd hM;refine zR m_ j (m_ + j) rfl rfl rfl (by omega) <| zM (I i) rfl ?_;obtain ⟨b7, hM⟩ := M.e_gd hM;refine zR (m_ + j) i ((m_ + j) - i) rfl rfl rfl (by omega) <| zM (I i) rfl <| zM (.func (.func 104) #[] #[Pq ab]) rfl ?_;obtain ⟨b8, bL, hM⟩ := M.e_bind hM;refine s_call cf132 [aa, I (m_ - i), I ((m_ + j) - i), I i, .func (.func 104) #[] #[Pq ab]] rfl (zc9 l (m_ - i) ((m_ + j) - i) i ah ai aj ak al am ao aq au av aw ax ay az (aA.app _) aB (aC.app _) aD (aE.app _) aF (aG.app _) aH (aI.app _) aJ (aK.app _) (aL.app _) (aM.app _) aN (aO.app _) aP (aQ.app _) aR (aS.app _) aT (aU.app _) aV (aW.app _) (aX.app _) (aY.app _) bL _ (H.gt 0)) ?_
  rintro vq b9 ⟨l_data2, rfl, hvq, ac⟩
  subst vq;(try dsimp only at hM);replace H := H.bk ac;clear ac;refine s_nil <| W.region rfl <| zM (I j) rfl <| zM (I i) rfl ?_;obtain ⟨ca, hM⟩ := M.e_gd hM;refine zR j i (j - i) rfl rfl rfl (by omega) <| zA (I (j - i)) rfl <| s_nil ?_
  exact ⟨bE, bF, l_data2, i, j - i, _, upds_of _ _ ⟨rfl, rfl, rfl, rfl, rfl, trivial⟩, M.e_inl hM a6, H⟩
 replace hM := M.e_f hM ae
 replace ae := dI ae
 refine W.exit ?_
 have bM := M.e_inr hM a6
 subst bM;replace hM := bJ;(try dsimp only at hM);refine W.region rfl <| zM aa rfl <| zM (I m_) rfl <| zM (I i) rfl ?_;obtain ⟨cb, hM⟩ := M.e_gd hM;refine zR m_ i (m_ - i) rfl rfl rfl (by omega) <| zM (I m_) rfl <| zM (I i) rfl <| zM (.func (.func 104) #[] #[Pq ab]) rfl ?_;obtain ⟨cc, bN, hM⟩ := M.e_bind hM;refine s_call cf132 [aa, I (m_ - i), I m_, I i, .func (.func 104) #[] #[Pq ab]] rfl (zc9 l (m_ - i) m_ i ah ai aj ak al am ao aq au av aw ax ay az (aA.app _) aB (aC.app _) aD (aE.app _) aF (aG.app _) aH (aI.app _) aJ (aK.app _) (aL.app _) (aM.app _) aN (aO.app _) aP (aQ.app _) aR (aS.app _) aT (aU.app _) aV (aW.app _) (aX.app _) (aY.app _) bN _ (H.gt 0)) ?_
 rintro vq ce ⟨l_data3, rfl, hvq, ac⟩
 subst vq;(try dsimp only at hM);replace H := H.bk ac;clear ac;refine s_nil ?_
 have bO := M.e_pure hM
 exact ⟨_, resE_tmp0 rfl, ⟨l_data3, bO, rfl, H⟩⟩

end Go.Proofs.YtbaehghammbjdaaGreat
end
section
set_option maxRecDepth 100000
set_option maxHeartbeats 16000000
namespace Go.Proofs.YtbaehghammbjdaaGreat
open Go Go.Nm
def zbq (data : List Dem) (a : Int) (aa : List Int) (ab : List Span) (ac : List Int) (ae : List Town) (ag ah : Int) (ai : List Flood) (aj : List Int) (ak : List Span) (al : List Int) (am : List Town) (ao aq : Int) (au : List Flood) : (Int × Int) -> M ((Int × Int) ⊕ Int) := fun (i, j) =>
  bif decide (i < j) then (
  M.grd (decide ((-9223372036854775808 : Int) <= (i + j)) && decide ((i + j) <= (9223372036854775807 : Int))) <|
  M.grd (decide ((0 : Int) <= (i + j)) && decide ((i + j) <= (9223372036854775807 : Int))) <|
  M.grd (decide ((0 : Int) <= ((i + j) / 2)) && decide (((i + j) / 2) <= (9223372036854775807 : Int))) <|
  M.grd (decide ((0 : Int) <= ((i + j) / 2)) && decide (((i + j) / 2) < (data.length : Int))) <|
  M.grd (decide ((0 : Int) <= a) && decide (a < (data.length : Int))) <|
  M.bind (zaD (data.getD (Int.toNat ((i + j) / 2)) default) (data.getD (Int.toNat a) default) aa ab ac ae ag ah ai aj ak al am ao aq au) fun r2 =>
  bif decide (r2 < 0) then (
  M.pure (.inl (((i + j) / 2) + 1, j)))
  else (
  M.pure (.inl (i, (i + j) / 2))))
  else (
  M.pure (.inr i))
def za3 (i2 : Int) : ((List Dem) × Int) -> M (((List Dem) × Int) ⊕ (List Dem)) := fun (l, k) =>
  M.grd (decide ((-9223372036854775808 : Int) <= (i2 - 1)) && decide ((i2 - 1) <= (9223372036854775807 : Int))) <|
  bif decide (k < (i2 - 1)) then (
  M.grd (decide ((-9223372036854775808 : Int) <= (k + 1)) && decide ((k + 1) <= (9223372036854775807 : Int))) <|
  M.grd (decide ((0 : Int) <= (k + 1)) && decide ((k + 1) < (l.length : Int))) <|
  M.grd (decide ((0 : Int) <= k) && decide (k < (l.length : Int))) <|
  M.grd (decide ((0 : Int) <= (k + 1)) && decide ((k + 1) < ((l.set (Int.toNat k) (l.getD (Int.toNat (k + 1)) default)).length : Int))) <|
  M.pure (.inl ((l.set (Int.toNat k) (l.getD (Int.toNat (k + 1)) default)).set (Int.toNat (k + 1)) (l.getD (Int.toNat k) default), k + 1)))
  else (
  M.pure (.inr l))
def zbb (data : List Dem) (m_ : Int) (aa : List Int) (ab : List Span) (ac : List Int) (ae : List Town) (ag ah : Int) (ai : List Flood) (aj : List Int) (ak : List Span) (al : List Int) (am : List Town) (ao aq : Int) (au : List Flood) : (Int × Int) -> M ((Int × Int) ⊕ Int) := fun (i3, j2) =>
  bif decide (i3 < j2) then (
  M.grd (decide ((-9223372036854775808 : Int) <= (i3 + j2)) && decide ((i3 + j2) <= (9223372036854775807 : Int))) <|
  M.grd (decide ((0 : Int) <= (i3 + j2)) && decide ((i3 + j2) <= (9223372036854775807 : Int))) <|
  M.grd (decide ((0 : Int) <= ((i3 + j2) / 2)) && decide (((i3 + j2) / 2) <= (9223372036854775807 : Int))) <|
  M.grd (decide ((0 : Int) <= m_) && decide (m_ < (data.length : Int))) <|
  M.grd (decide ((0 : Int) <= ((i3 + j2) / 2)) && decide (((i3 + j2) / 2) < (data.length : Int))) <|
  M.bind (zaD (data.getD (Int.toNat m_) default) (data.getD (Int.toNat ((i3 + j2) / 2)) default) aa ab ac ae ag ah ai aj ak al am ao aq au) fun r3 =>
  bif !(decide (r3 < 0)) then (
  M.pure (.inl (((i3 + j2) / 2) + 1, j2)))
  else (
  M.pure (.inl (i3, (i3 + j2) / 2))))
  else (
  M.pure (.inr i3))
def za1 (i4 : Int) : ((List Dem) × Int) -> M (((List Dem) × Int) ⊕ (List Dem)) := fun (l3, k2) =>
  bif decide (i4 < k2) then (
  M.grd (decide ((-9223372036854775808 : Int) <= (k2 - 1)) && decide ((k2 - 1) <= (9223372036854775807 : Int))) <|
  M.grd (decide ((0 : Int) <= (k2 - 1)) && decide ((k2 - 1) < (l3.length : Int))) <|
  M.grd (decide ((0 : Int) <= k2) && decide (k2 < (l3.length : Int))) <|
  M.grd (decide ((0 : Int) <= (k2 - 1)) && decide ((k2 - 1) < ((l3.set (Int.toNat k2) (l3.getD (Int.toNat (k2 - 1)) default)).length : Int))) <|
  M.pure (.inl ((l3.set (Int.toNat k2) (l3.getD (Int.toNat (k2 - 1)) default)).set (Int.toNat (k2 - 1)) (l3.getD (Int.toNat k2) default), k2 - 1)))
  else (
  M.pure (.inr l3))
def zbr (data : List Dem) (a m_ b : Int) (aa : List Int) (ab : List Span) (ac : List Int) (ae : List Town) (ag ah : Int) (ai : List Flood) (aj : List Int) (ak : List Span) (al : List Int) (am : List Town) (ao aq : Int) (au : List Flood) : (Int × Int) -> M ((Int × Int) ⊕ Int) := fun (start2, r6) =>
  bif decide (start2 < r6) then (
  M.grd (decide ((-9223372036854775808 : Int) <= (start2 + r6)) && decide ((start2 + r6) <= (9223372036854775807 : Int))) <|
  M.grd (decide ((0 : Int) <= (start2 + r6)) && decide ((start2 + r6) <= (9223372036854775807 : Int))) <|
  M.grd (decide ((0 : Int) <= ((start2 + r6) / 2)) && decide (((start2 + r6) / 2) <= (9223372036854775807 : Int))) <|
  M.grd (decide ((-9223372036854775808 : Int) <= (((((a + b) / 2) + m_) - 1) - ((start2 + r6) / 2))) && decide ((((((a + b) / 2) + m_) - 1) - ((start2 + r6) / 2)) <= (9223372036854775807 : Int))) <|
  M.grd (decide ((0 : Int) <= (((((a + b) / 2) + m_) - 1) - ((start2 + r6) / 2))) && decide ((((((a + b) / 2) + m_) - 1) - ((start2 + r6) / 2)) < (data.length : Int))) <|
  M.grd (decide ((0 : Int) <= ((start2 + r6) / 2)) && decide (((start2 + r6) / 2) < (data.length : Int))) <|
  M.bind (zaD (data.getD (Int.toNat (((((a + b) / 2) + m_) - 1) - ((start2 + r6) / 2))) default) (data.getD (Int.toNat ((start2 + r6) / 2)) default) aa ab ac ae ag ah ai aj ak al am ao aq au) fun r5 =>
  bif !(decide (r5 < 0)) then (
  M.pure (.inl (((start2 + r6) / 2) + 1, r6)))
  else (
  M.pure (.inl (start2, (start2 + r6) / 2))))
  else (
  M.pure (.inr start2))
def zaR (a m_ b : Int) (aa : List Int) (ab : List Span) (ac : List Int) (ae : List Town) (ag ah : Int) (ai : List Flood) (aj : List Int) (ak : List Span) (al : List Int) (am : List Town) (ao aq : Int) (au : List Flood) (av : ((List Dem) × Int × Int × Int × (List Int) × (List Span) × (List Int) × (List Town) × Int × Int × (List Flood) × (List Int) × (List Span) × (List Int) × (List Town) × Int × Int × (List Flood)) -> M (List Dem)) (start3 : Int) (l6 : List Dem) : M (List Dem) :=
  bif ((decide (((a + b) / 2) < ((((a + b) / 2) + m_) - start3))) && (decide (((((a + b) / 2) + m_) - start3) < b))) then (
  M.bind (av (l6, ((a + b) / 2), ((((a + b) / 2) + m_) - start3), b, aa, ab, ac, ae, ag, ah, ai, aj, ak, al, am, ao, aq, au)) fun l_data3 =>
  M.pure l_data3)
  else (
  M.pure l6)
def za0 (a m_ b : Int) (aa : List Int) (ab : List Span) (ac : List Int) (ae : List Town) (ag ah : Int) (ai : List Flood) (aj : List Int) (ak : List Span) (al : List Int) (am : List Town) (ao aq : Int) (au : List Flood) (av : ((List Dem) × Int × Int × Int × (List Int) × (List Span) × (List Int) × (List Town) × Int × Int × (List Flood) × (List Int) × (List Span) × (List Int) × (List Town) × Int × Int × (List Flood)) -> M (List Dem)) (start3 : Int) (l5 : List Dem) : M (List Dem) :=
  bif ((decide (a < start3)) && (decide (start3 < ((a + b) / 2)))) then (
  M.bind (av (l5, a, start3, ((a + b) / 2), aa, ab, ac, ae, ag, ah, ai, aj, ak, al, am, ao, aq, au)) fun l_data2 =>
  zaR a m_ b aa ab ac ae ag ah ai aj ak al am ao aq au av start3 l_data2)
  else (
  zaR a m_ b aa ab ac ae ag ah ai aj ak al am ao aq au av start3 l5)
def zaX (data : List Dem) (a m_ b : Int) (aa : List Int) (ab : List Span) (ac : List Int) (ae : List Town) (ag ah : Int) (ai : List Flood) (aj : List Int) (ak : List Span) (al : List Int) (am : List Town) (ao aq : Int) (au : List Flood) (av : ((List Dem) × Int × Int × Int × (List Int) × (List Span) × (List Int) × (List Town) × Int × Int × (List Flood) × (List Int) × (List Span) × (List Int) × (List Town) × Int × Int × (List Flood)) -> M (List Dem)) (start r4 : Int) : M (List Dem) :=
  M.grd (decide ((-9223372036854775808 : Int) <= ((((a + b) / 2) + m_) - 1)) && decide (((((a + b) / 2) + m_) - 1) <= (9223372036854775807 : Int))) <|
  M.bind (M.iter (zbr data a m_ b aa ab ac ae ag ah ai aj ak al am ao aq au) (start, r4)) fun start3 =>
  M.grd (decide ((-9223372036854775808 : Int) <= ((((a + b) / 2) + m_) - start3)) && decide (((((a + b) / 2) + m_) - start3) <= (9223372036854775807 : Int))) <|
  bif ((decide (start3 < m_)) && (decide (m_ < ((((a + b) / 2) + m_) - start3)))) then (
  M.bind (zcL data start3 m_ ((((a + b) / 2) + m_) - start3) aa ab ac ae ag ah ai aj ak al am ao aq au) fun l_data =>
  za0 a m_ b aa ab ac ae ag ah ai aj ak al am ao aq au av start3 l_data)
  else (
  za0 a m_ b aa ab ac ae ag ah ai aj ak al am ao aq au av start3 data)
def zan (av : ((List Dem) × Int × Int × Int × (List Int) × (List Span) × (List Int) × (List Town) × Int × Int × (List Flood) × (List Int) × (List Span) × (List Int) × (List Town) × Int × Int × (List Flood)) -> M (List Dem)) : ((List Dem) × Int × Int × Int × (List Int) × (List Span) × (List Int) × (List Town) × Int × Int × (List Flood) × (List Int) × (List Span) × (List Int) × (List Town) × Int × Int × (List Flood)) -> M (List Dem) := fun (data, a, m_, b, aa, ab, ac, ae, ag, ah, ai, aj, ak, al, am, ao, aq, au) =>
  M.grd (decide ((-9223372036854775808 : Int) <= (m_ - a)) && decide ((m_ - a) <= (9223372036854775807 : Int))) <|
  bif (m_ - a) == 1 then (
  M.bind (M.iter (zbq data a aa ab ac ae ag ah ai aj ak al am ao aq au) (m_, b)) fun i2 =>
  M.bind (M.iter (za3 i2) (data, a)) fun l2 =>
  M.pure l2)
  else (
  M.grd (decide ((-9223372036854775808 : Int) <= (b - m_)) && decide ((b - m_) <= (9223372036854775807 : Int))) <|
  bif (b - m_) == 1 then (
  M.bind (M.iter (zbb data m_ aa ab ac ae ag ah ai aj ak al am ao aq au) (a, m_)) fun i4 =>
  M.bind (M.iter (za1 i4) (data, m_)) fun l4 =>
  M.pure l4)
  else (
  M.grd (decide ((-9223372036854775808 : Int) <= (a + b)) && decide ((a + b) <= (9223372036854775807 : Int))) <|
  M.grd (decide ((0 : Int) <= (a + b)) && decide ((a + b) <= (9223372036854775807 : Int))) <|
  M.grd (decide ((0 : Int) <= ((a + b) / 2)) && decide (((a + b) / 2) <= (9223372036854775807 : Int))) <|
  M.grd (decide ((-9223372036854775808 : Int) <= (((a + b) / 2) + m_)) && decide ((((a + b) / 2) + m_) <= (9223372036854775807 : Int))) <|
  bif decide (((a + b) / 2) < m_) then (
  M.grd (decide ((-9223372036854775808 : Int) <= ((((a + b) / 2) + m_) - b)) && decide (((((a + b) / 2) + m_) - b) <= (9223372036854775807 : Int))) <|
  zaX data a m_ b aa ab ac ae ag ah ai aj ak al am ao aq au av ((((a + b) / 2) + m_) - b) ((a + b) / 2))
  else (
  zaX data a m_ b aa ab ac ae ag ah ai aj ak al am ao aq au av a m_)))
theorem zdw  : M.Mon zan := by
  intro n f g h a
  obtain ⟨data, a, m_, b, aa, ab, ac, ae, ag, ah, ai, aj, ak, al, am, ao, aq, au⟩ := a
  simp only [zan, zbq, za3, zbb, za1, zbr, zaR, za0, zaX]
  repeat' (first | exact M.le_same _ _ | exact h _ | refine M.le_grd ?_ | refine M.le_if ?_ ?_ | refine M.le_bind ?_ (fun x => ?_) | refine M.le_opt ?_ | refine M.le_iter (fun x => ?_) _ | refine zei (M.le_yl (fun s_ a_ => ?_)) _ _ _ _ _ _ _ _ _ | (rename_i x; cases x) | (rename_i x; obtain ⟨_, _⟩ := x))
def zbN (data : List Dem) (a m_ b : Int) (aa : List Int) (ab : List Span) (ac : List Int) (ae : List Town) (ag ah : Int) (ai : List Flood) (aj : List Int) (ak : List Span) (al : List Int) (am : List Town) (ao aq : Int) (au : List Flood) : M (List Dem) := M.fix zan zdw (data, a, m_, b, aa, ab, ac, ae, ag, ah, ai, aj, ak, al, am, ao, aq, au)
theorem zey (n_ : Nat) : ∀ {R : List Chunk} {aa : Value} {ak : Nat} {br : Nat} {bt : Nat} {bu : Cells} {bv : Value} {bw : Cells} {bx : Value} {bz : Cells} {bA : Value} {bB : Cells} {bC : Value} {bD : Cells} {bE : Value} {ay : Nat} {B_b_cmp2020207 : Base} {bF : Nat} {bG : Nat} {bH : Cells} {bI : Value} {bJ : Cells} {bK : Value} {bL : Cells} {bM : Value} {bN : Cells} {bO : Value} {bP : Cells} {bQ : Value} {bS : Nat} (data : List Dem) (a : Int) (m_ : Int) (b : Int) (ab : List Int) (ac : List Span) (ae : List Int) (ag : List Town) (ah : Int) (ai : Int) (aj : List Flood) (am : List Int) (ao : List Span) (aq : List Int) (au : List Town) (av : Int) (aw : Int) (ax : List Flood) (aA : Reads R bu) (aB : Sl bu bv ab) (aC : Reads R bw) (aD : Sl bw bx ac) (aE : Reads R bz) (aF : Sl bz bA ae) (aG : Reads R bB) (aH : Sl bB bC ag) (aI : Reads R bD) (aJ : Sl bD bE aj) (aK : Has R (cBlk bt [bv, bx, bA, bC, I ah, I ai, bE, .map (some ay)] 111)) (aL : Has R (cBlk br [.func (.func 81) #[Pq bt] #[]] 134)) (aM : Reads R bH) (aN : Sl bH bI am) (aO : Reads R bJ) (aP : Sl bJ bK ao) (aQ : Reads R bL) (aR : Sl bL bM aq) (aS : Reads R bN) (aT : Sl bN bO au) (aU : Reads R bP) (aV : Sl bP bQ ax) (aW : Has R (cBlk bG [bI, bK, bM, bO, I av, I aw, bQ, .map (some bS)] 111)) (aX : Has R (cBlk bF [Pq bG] 94)) (aY : Has R (cBlk ak [.func (.func 102) #[] #[Pq br, Pq bF]] 146)) {r : (List Dem)} (hM : (M.fixN zan n_ (data, a, m_, b, ab, ac, ae, ag, ah, ai, aj, am, ao, aq, au, av, aw, ax)).Ends r) (w : World) (H : St w w [cOwn (α := Dem) 61 aa data, cMem encDm ay B_b_cmp2020207 (zaa ab ac ae ag ah ai aj)] R), Ret Tryz.prog 114 #[aa, I a, I m_, I b, .func (.func 104) #[] #[Pq ak]] w fun v w' => ∃ (y0 : List Dem) (cy : Base), y0 = r /\ v = .tuple #[] /\ St w w' [cOwn (α := Dem) 61 aa y0, cMem encDm ay cy (zaa ab ac ae ag ah ai aj)] R := by
  induction n_ with
  | zero => intro R aa ak br bt bu bv bw bx bz bA bB bC bD bE ay B_b_cmp2020207 bF bG bH bI bJ bK bL bM bN bO bP bQ bS data a m_ b ab ac ae ag ah ai aj am ao aq au av aw ax aA aB aC aD aE aF aG aH aI aJ aK aL aM aN aO aP aQ aR aS aT aU aV aW aX aY r hM w H; exact (M.e_fail hM).elim
  | succ n_ ih =>
    intro R aa ak br bt bu bv bw bx bz bA bB bC bD bE ay B_b_cmp2020207 bF bG bH bI bJ bK bL bM bN bO bP bQ bS data a m_ b ab ac ae ag ah ai aj am ao aq au av aw ax aA aB aC aD aE aF aG aH aI aJ aK aL aM aN aO aP aQ aR aS aT aU aV aW aX aY r hM w H;refine ret_of_W Tryz.func114 rfl rfl rfl <| W.seq <| W.seq <| W.region rfl <| zM (I m_) rfl <| zM (I a) rfl ?_;obtain ⟨cW, hM⟩ := M.e_gd hM;refine zR m_ a (m_ - a) rfl rfl rfl (by omega) <| zC (m_ - a) 1 ((m_ - a) == 1) rfl rfl rfl <| s_nil ?_
    refine W.cond ((m_ - a) == 1) rfl (fun aZ => ?_) (fun aZ => ?_)
    ·replace hM := M.e_t hM aZ
     replace aZ := dI aZ
     refine W.seq <| W.region rfl <| zM (I m_) rfl <| zA (I m_) rfl <| s_nil <| W.seq <| W.region rfl <| zM (I b) rfl <| zA (I b) rfl <| s_nil ?_;refine W.seq <| W.block ?_;obtain ⟨cz, bT, cA⟩ := M.e_bind hM
     obtain ⟨bR, bT⟩ := M.e_iter bT
     refine W.loop (fun m σ W => ∃ (i : Int) (j : Int) (B_mem : Base) (ρ : Env), σ = upds ρ [(0, aa), (1, I a), (4, .func (.func 104) #[] #[Pq ak]), (10, I i), (11, I j)] /\ M.iterN (zbq data a ab ac ae ag ah ai aj am ao aq au av aw ax) m (i, j) = some cz /\ St w W [cOwn (α := Dem) 61 aa data, cMem encDm ay B_mem (zaa ab ac ae ag ah ai aj)] R) ?_ ?_
     ·exact ⟨_, m_, b, B_b_cmp2020207, _, upds_of _ _ ⟨rfl, rfl, rfl, rfl, rfl, trivial⟩, bT, H⟩
     rintro cX σ cY ⟨i, j, B_mem, ρ, rfl, cc, H⟩
     obtain ⟨ce, cf, cZ, hM, bU⟩ := M.e_iterN cc
     simp only [zbq] at hM
     clear cc;refine W.seq <| W.seq <| W.region rfl <| zM (I i) rfl <| zM (I j) rfl <| zC i j (decide (i < j)) rfl rfl rfl <| s_nil ?_
     refine W.cond (decide (i < j)) rfl (fun a6 => ?_) (fun a6 => ?_)
     ·replace hM := M.e_t hM a6
      replace a6 := dI a6
      refine W.skip <| W.block <| W.seq <| W.region rfl <| zM (I i) rfl <| zM (I j) rfl ?_;obtain ⟨c6, hM⟩ := M.e_gd hM;refine zR i j (i + j) rfl rfl rfl (by omega) ?_;obtain ⟨c7, hM⟩ := M.e_gd hM;refine s_val (x_convU (kd := .i64) (a := i + j) Tryz.underlying3 Tryz.underlying155 rfl (by omega)) <| s_val (x_ushr1 (a := i + j) rfl rfl) ?_;obtain ⟨c8, hM⟩ := M.e_gd hM;refine s_val (x_conv64 (kd := .u64) (a := (i + j) / 2) Tryz.underlying155 Tryz.underlying3 rfl (by omega)) <| zA (I ((i + j) / 2)) rfl <| s_nil <| W.seq ?_;refine W.draw (fun W => St w W [cOwn (α := Dem) 61 aa data] R) [(0, true), (1, true), (2, true), (3, true), (4, true), (5, true), (6, true), (7, true), (8, true), (9, false), (10, true)] mixed (by decide +kernel) rfl ?_;intro c9 az;replace H := H.ext az;clear az
      refine ⟨(H.pk [0]), ?_⟩
      refine d_q rfl (fun w' H => x_mv (v := .func (.func 104) #[] #[Pq ak]) rfl) <| d_q rfl (fun w' H => x_mv (v := aa) rfl) <| d_q rfl (fun w' H => x_mv (v := I ((i + j) / 2)) rfl) ?_;obtain ⟨da, hM⟩ := M.e_gd hM;refine d_q rfl (fun w' H => x_ix (v := vat aa 2 (Int.toNat ((i + j) / 2))) rfl rfl (Sl.ix (α := Dem) T62.und T62.size (H.os 0) (by omega) (by omega))) <| d_q rfl (fun w' H => x_ld (v := .agg #[I ((data.getD (Int.toNat ((i + j) / 2)) default).spring), I ((data.getD (Int.toNat ((i + j) / 2)) default).town)]) rfl (ld_ag Ag61 Sz61 (At.mono (Dem_atA (H.os 0) (i := (i + j) / 2) (by omega) (by omega)) (H.ol 0)))) <| d_q rfl (fun w' H => x_mv (v := aa) rfl) <| d_q rfl (fun w' H => x_mv (v := I a) rfl) ?_;obtain ⟨db, hM⟩ := M.e_gd hM;refine d_q rfl (fun w' H => x_ix (v := vat aa 2 (Int.toNat a)) rfl rfl (Sl.ix (α := Dem) T62.und T62.size (H.os 0) (by omega) (by omega))) <| d_q rfl (fun w' H => x_ld (v := .agg #[I ((data.getD (Int.toNat a) default).spring), I ((data.getD (Int.toNat a) default).town)]) rfl (ld_ag Ag61 Sz61 (At.mono (Dem_atA (H.os 0) (i := a) (by omega) (by omega)) (H.ol 0)))) <| d_l rfl ?_;obtain ⟨dc, cB, hM⟩ := M.e_bind hM;refine s_callv (f := 104) rfl cf104 [.agg #[I ((data.getD (Int.toNat ((i + j) / 2)) default).spring), I ((data.getD (Int.toNat ((i + j) / 2)) default).town)], .agg #[I ((data.getD (Int.toNat a) default).spring), I ((data.getD (Int.toNat a) default).town)]] rfl (zcU (data.getD (Int.toNat ((i + j) / 2)) default) (data.getD (Int.toNat a) default) ab ac ae ag ah ai aj am ao aq au av aw ax (aA.app _) aB (aC.app _) aD (aE.app _) aF (aG.app _) aH (aI.app _) aJ (aK.app _) (aL.app _) (aM.app _) aN (aO.app _) aP (aQ.app _) aR (aS.app _) aT (aU.app _) aV (aW.app _) (aX.app _) (aY.app _) cB _ ((H.pk [1, 0]).gt 1)) ?_
      rintro vq dd ⟨r2, cg, rfl, hvq, al⟩
      subst vq;(try dsimp only at hM)
      replace H := H.pk [1, 0] |>.bk al
      clear al
      refine s_nil ⟨(H.pk [1]), ?_⟩
      refine d_q rfl (fun w' H => x_cmp (kd := .i64) (r := decide (r2 < 0)) rfl rfl rfl) ?_;refine d_nil ?_
      refine W.cond (decide (r2 < 0)) rfl (fun a7 => ?_) (fun a7 => ?_)
      ·replace hM := M.e_t hM a7
       replace a7 := dI a7
       refine W.region rfl <| zM (I ((i + j) / 2)) rfl <| zR ((i + j) / 2) 1 (((i + j) / 2) + 1) rfl rfl rfl (by omega) <| zA (I (((i + j) / 2) + 1)) rfl <| s_nil ?_
       exact ⟨ce, cf, ((i + j) / 2) + 1, j, cg, _, upds_of _ _ ⟨rfl, rfl, rfl, rfl, rfl, trivial⟩, M.e_inl hM bU, (H.pk [1, 0])⟩
      replace hM := M.e_f hM a7
      replace a7 := dI a7
      refine W.region rfl <| zM (I ((i + j) / 2)) rfl <| zA (I ((i + j) / 2)) rfl <| s_nil ?_
      exact ⟨ce, cf, i, (i + j) / 2, cg, _, upds_of _ _ ⟨rfl, rfl, rfl, rfl, rfl, trivial⟩, M.e_inl hM bU, (H.pk [1, 0])⟩
     replace hM := M.e_f hM a6
     replace a6 := dI a6
     refine W.exit ?_
     have cC := M.e_inr hM bU
     subst cC;replace hM := cA;(try dsimp only at hM);refine W.seq <| W.seq <| W.region rfl <| zM (I a) rfl <| zA (I a) rfl <| s_nil <| W.block ?_;obtain ⟨cD, bV, cE⟩ := M.e_bind hM
     obtain ⟨bR, bV⟩ := M.e_iter bV
     refine W.loop (fun m σ W => ∃ (l : List Dem) (k : Int) (ρ : Env), σ = upds ρ [(0, aa), (10, I i), (13, I k)] /\ M.iterN (za3 i) m (l, k) = some cD /\ St w W [cOwn (α := Dem) 61 aa l, cMem encDm ay B_mem (zaa ab ac ae ag ah ai aj)] R) ?_ ?_
     ·exact ⟨_, data, a, _, upds_of _ _ ⟨rfl, rfl, rfl, trivial⟩, bV, H⟩
     rintro de σ dg ⟨l, k, ρ, rfl, ck, H⟩
     obtain ⟨bn, bo, di, hM, a8⟩ := M.e_iterN ck
     simp only [za3] at hM
     clear ck;refine W.seq <| W.seq <| W.region rfl <| zM (I k) rfl <| zM (I i) rfl ?_;obtain ⟨dk, hM⟩ := M.e_gd hM;refine zR i 1 (i - 1) rfl rfl rfl (by omega) <| zC k (i - 1) (decide (k < (i - 1))) rfl rfl rfl <| s_nil ?_
     refine W.cond (decide (k < (i - 1))) rfl (fun ba => ?_) (fun ba => ?_)
     ·replace hM := M.e_t hM ba
      replace ba := dI ba
      refine W.skip <| W.seq <| W.block ?_;refine W.drawT (fun W => St w W [cMem encDm ay B_mem (zaa ab ac ae ag ah ai aj)] R) (.q 0 (.q 1 (.q 2 (.q 3 (.q 4 (.q 5 (.q 6 (.q 7 (.q 10 (.q 11 (.l2 8 (.l2 9 (.l 12 (.l 13 (.l 14 (.l 15 (.l 16 (.l 17 .nil)))))) 12 (.l2 9 (.l 13 (.l 14 (.l 15 (.l 16 (.l 17 .nil))))) 13 (.l 9 (.l 14 (.l 15 (.l 16 (.l 17 .nil))))))) 12 (.l2 8 (.l2 9 (.l 13 (.l 14 (.l 15 (.l 16 (.l 17 .nil))))) 13 (.l 9 (.l 14 (.l 15 (.l 16 (.l 17 .nil)))))) 13 (.l 8 (.l 9 (.l 14 (.l 15 (.l 16 (.l 17 .nil)))))))))))))))))) mixed (by decide +kernel) rfl ?_;intro dq az;replace H := H.ext az;clear az
      refine ⟨(H.pk [1]), ?_⟩
      refine t_q rfl (fun w' H => x_mv (v := aa) rfl) <| t_q rfl (fun w' H => x_mv (v := I k) rfl) <| t_q rfl (fun w' H => x_mv (v := aa) rfl) <| t_q rfl (fun w' H => x_mv (v := I k) rfl) ?_;obtain ⟨dr, hM⟩ := M.e_gd hM;refine t_q rfl (fun w' H => x_ari (r := k + 1) rfl rfl rfl (by omega)) <| t_q rfl (fun w' H => x_mv (v := aa) rfl) <| t_q rfl (fun w' H => x_mv (v := I k) rfl) <| t_q rfl (fun w' H => x_ari (r := k + 1) rfl rfl rfl (by omega)) <| t_q rfl (fun w' H => x_mv (v := aa) rfl) <| t_q rfl (fun w' H => x_mv (v := I k) rfl) ?_;obtain ⟨dt, hM⟩ := M.e_gd hM;obtain ⟨du, hM⟩ := M.e_gd hM;obtain ⟨dv, hM⟩ := M.e_gd hM;refine t_l2 rfl rfl ?_ ?_
      ·skip
       refine s_val (x_ix (v := vat aa 2 (Int.toNat (k + 1))) rfl rfl (Sl.ix (α := Dem) T62.und T62.size (H.os 0) (by omega) (by omega))) ?_
       have dw := Sl.cells (H.os 0)
       have dx := Sl.oc (H.os 0)
       refine s_nil ⟨(H.pk [1]), ?_⟩
       refine t_l2 rfl rfl ?_ ?_
       ·skip
        refine s_val (x_ld (v := .agg #[I ((l.getD (Int.toNat (k + 1)) default).spring), I ((l.getD (Int.toNat (k + 1)) default).town)]) rfl (ld_ag Ag61 Sz61 (At.mono (Dem_atA (H.os 0) (i := k + 1) (by omega) (by omega)) (H.ol 0)))) ?_
        refine s_nil ⟨(H.pk [1]), ?_⟩
        refine t_l rfl <| s_val (x_ix (v := vat aa 2 (Int.toNat k)) rfl rfl (Sl.ix (α := Dem) T62.und T62.size (H.os 0) (by omega) (by omega))) ?_
        refine s_nil ⟨(H.pk [1]), ?_⟩
        refine t_l rfl <| s_val (x_ld (v := .agg #[I ((l.getD (Int.toNat k) default).spring), I ((l.getD (Int.toNat k) default).town)]) rfl (ld_ag Ag61 Sz61 (At.mono (Dem_atA (H.os 0) (i := k) (by omega) (by omega)) (H.ol 0)))) ?_
        refine s_nil ⟨(H.pk [1]), ?_⟩
        refine t_l rfl <| s_val (x_ix (v := vat aa 2 (Int.toNat k)) rfl rfl (Sl.ix (α := Dem) T62.und T62.size (H.os 0) (by omega) (by omega))) ?_
        refine s_nil ⟨(H.pk [1]), ?_⟩
        refine t_l rfl ?_;refine t_ow 0 k (l.getD (Int.toNat (k + 1)) default) H Sz61 (by omega) (by omega) rfl rfl rfl ?_;intro dy H
        refine s_nil ⟨(H.pk [1]), ?_⟩
        refine t_l rfl <| s_val (x_ix (v := vat aa 2 (Int.toNat (k + 1))) rfl rfl (Sl.ix (α := Dem) T62.und T62.size (H.os 0) (by omega) (by omega))) ?_
        refine s_nil ⟨(H.pk [1]), ?_⟩
        refine t_l rfl ?_;refine t_ow 0 (k + 1) (l.getD (Int.toNat k) default) H Sz61 (by omega) (by omega) rfl rfl rfl ?_;intro dz H
        refine s_nil ⟨(H.pk [1]), ?_⟩
        refine t_nil <| W.region rfl <| zM (I k) rfl <| zR k 1 (k + 1) rfl rfl rfl (by omega) <| zA (I (k + 1)) rfl <| s_nil ?_
        exact ⟨bn, bo, (l.set (Int.toNat k) (l.getD (Int.toNat (k + 1)) default)).set (Int.toNat (k + 1)) (l.getD (Int.toNat k) default), k + 1, _, upds_of _ _ ⟨rfl, rfl, rfl, trivial⟩, M.e_inl hM a8, H⟩
       skip
       refine s_val (x_ix (v := vat aa 2 (Int.toNat k)) rfl rfl (Sl.ix (α := Dem) T62.und T62.size (H.os 0) (by omega) (by omega))) ?_
       refine s_nil ⟨(H.pk [1]), ?_⟩
       refine t_l2 rfl rfl ?_ ?_
       ·skip
        refine s_val (x_ld (v := .agg #[I ((l.getD (Int.toNat (k + 1)) default).spring), I ((l.getD (Int.toNat (k + 1)) default).town)]) rfl (ld_ag Ag61 Sz61 (At.mono (Dem_atA (H.os 0) (i := k + 1) (by omega) (by omega)) (H.ol 0)))) ?_
        refine s_nil ⟨(H.pk [1]), ?_⟩
        refine t_l rfl <| s_val (x_ld (v := .agg #[I ((l.getD (Int.toNat k) default).spring), I ((l.getD (Int.toNat k) default).town)]) rfl (ld_ag Ag61 Sz61 (At.mono (Dem_atA (H.os 0) (i := k) (by omega) (by omega)) (H.ol 0)))) ?_
        refine s_nil ⟨(H.pk [1]), ?_⟩
        refine t_l rfl <| s_val (x_ix (v := vat aa 2 (Int.toNat k)) rfl rfl (Sl.ix (α := Dem) T62.und T62.size (H.os 0) (by omega) (by omega))) ?_
        refine s_nil ⟨(H.pk [1]), ?_⟩
        refine t_l rfl ?_;refine t_ow 0 k (l.getD (Int.toNat (k + 1)) default) H Sz61 (by omega) (by omega) rfl rfl rfl ?_;intro dA H
        refine s_nil ⟨(H.pk [1]), ?_⟩
        refine t_l rfl <| s_val (x_ix (v := vat aa 2 (Int.toNat (k + 1))) rfl rfl (Sl.ix (α := Dem) T62.und T62.size (H.os 0) (by omega) (by omega))) ?_
        refine s_nil ⟨(H.pk [1]), ?_⟩
        refine t_l rfl ?_;refine t_ow 0 (k + 1) (l.getD (Int.toNat k) default) H Sz61 (by omega) (by omega) rfl rfl rfl ?_;intro dB H
        refine s_nil ⟨(H.pk [1]), ?_⟩
        refine t_nil <| W.region rfl <| zM (I k) rfl <| zR k 1 (k + 1) rfl rfl rfl (by omega) <| zA (I (k + 1)) rfl <| s_nil ?_
        exact ⟨bn, bo, (l.set (Int.toNat k) (l.getD (Int.toNat (k + 1)) default)).set (Int.toNat (k + 1)) (l.getD (Int.toNat k) default), k + 1, _, upds_of _ _ ⟨rfl, rfl, rfl, trivial⟩, M.e_inl hM a8, H⟩
       skip
       refine s_val (x_ld (v := .agg #[I ((l.getD (Int.toNat k) default).spring), I ((l.getD (Int.toNat k) default).town)]) rfl (ld_ag Ag61 Sz61 (At.mono (Dem_atA (H.os 0) (i := k) (by omega) (by omega)) (H.ol 0)))) ?_
       refine s_nil ⟨(H.pk [1]), ?_⟩
       refine t_l rfl <| s_val (x_ld (v := .agg #[I ((l.getD (Int.toNat (k + 1)) default).spring), I ((l.getD (Int.toNat (k + 1)) default).town)]) rfl (ld_ag Ag61 Sz61 (At.mono (Dem_atA (H.os 0) (i := k + 1) (by omega) (by omega)) (H.ol 0)))) ?_
       refine s_nil ⟨(H.pk [1]), ?_⟩
       refine t_l rfl <| s_val (x_ix (v := vat aa 2 (Int.toNat k)) rfl rfl (Sl.ix (α := Dem) T62.und T62.size (H.os 0) (by omega) (by omega))) ?_
       refine s_nil ⟨(H.pk [1]), ?_⟩
       refine t_l rfl ?_;refine t_ow 0 k (l.getD (Int.toNat (k + 1)) default) H Sz61 (by omega) (by omega) rfl rfl rfl ?_;intro dC H
       refine s_nil ⟨(H.pk [1]), ?_⟩
       refine t_l rfl <| s_val (x_ix (v := vat aa 2 (Int.toNat (k + 1))) rfl rfl (Sl.ix (α := Dem) T62.und T62.size (H.os 0) (by omega) (by omega))) ?_
       refine s_nil ⟨(H.pk [1]), ?_⟩
       refine t_l rfl ?_;refine t_ow 0 (k + 1) (l.getD (Int.toNat k) default) H Sz61 (by omega) (by omega) rfl rfl rfl ?_;intro dD H
       refine s_nil ⟨(H.pk [1]), ?_⟩
       refine t_nil <| W.region rfl <| zM (I k) rfl <| zR k 1 (k + 1) rfl rfl rfl (by omega) <| zA (I (k + 1)) rfl <| s_nil ?_
       exact ⟨bn, bo, (l.set (Int.toNat k) (l.getD (Int.toNat (k + 1)) default)).set (Int.toNat (k + 1)) (l.getD (Int.toNat k) default), k + 1, _, upds_of _ _ ⟨rfl, rfl, rfl, trivial⟩, M.e_inl hM a8, H⟩
      skip
      refine s_val (x_ix (v := vat aa 2 (Int.toNat k)) rfl rfl (Sl.ix (α := Dem) T62.und T62.size (H.os 0) (by omega) (by omega))) ?_
      have dE := Sl.cells (H.os 0)
      have dF := Sl.oc (H.os 0)
      refine s_nil ⟨(H.pk [1]), ?_⟩
      refine t_l2 rfl rfl ?_ ?_
      ·skip
       refine s_val (x_ix (v := vat aa 2 (Int.toNat (k + 1))) rfl rfl (Sl.ix (α := Dem) T62.und T62.size (H.os 0) (by omega) (by omega))) ?_
       refine s_nil ⟨(H.pk [1]), ?_⟩
       refine t_l2 rfl rfl ?_ ?_
       ·skip
        refine s_val (x_ld (v := .agg #[I ((l.getD (Int.toNat (k + 1)) default).spring), I ((l.getD (Int.toNat (k + 1)) default).town)]) rfl (ld_ag Ag61 Sz61 (At.mono (Dem_atA (H.os 0) (i := k + 1) (by omega) (by omega)) (H.ol 0)))) ?_
        refine s_nil ⟨(H.pk [1]), ?_⟩
        refine t_l rfl <| s_val (x_ld (v := .agg #[I ((l.getD (Int.toNat k) default).spring), I ((l.getD (Int.toNat k) default).town)]) rfl (ld_ag Ag61 Sz61 (At.mono (Dem_atA (H.os 0) (i := k) (by omega) (by omega)) (H.ol 0)))) ?_
        refine s_nil ⟨(H.pk [1]), ?_⟩
        refine t_l rfl <| s_val (x_ix (v := vat aa 2 (Int.toNat k)) rfl rfl (Sl.ix (α := Dem) T62.und T62.size (H.os 0) (by omega) (by omega))) ?_
        refine s_nil ⟨(H.pk [1]), ?_⟩
        refine t_l rfl ?_;refine t_ow 0 k (l.getD (Int.toNat (k + 1)) default) H Sz61 (by omega) (by omega) rfl rfl rfl ?_;intro dG H
        refine s_nil ⟨(H.pk [1]), ?_⟩
        refine t_l rfl <| s_val (x_ix (v := vat aa 2 (Int.toNat (k + 1))) rfl rfl (Sl.ix (α := Dem) T62.und T62.size (H.os 0) (by omega) (by omega))) ?_
        refine s_nil ⟨(H.pk [1]), ?_⟩
        refine t_l rfl ?_;refine t_ow 0 (k + 1) (l.getD (Int.toNat k) default) H Sz61 (by omega) (by omega) rfl rfl rfl ?_;intro dH H
        refine s_nil ⟨(H.pk [1]), ?_⟩
        refine t_nil <| W.region rfl <| zM (I k) rfl <| zR k 1 (k + 1) rfl rfl rfl (by omega) <| zA (I (k + 1)) rfl <| s_nil ?_
        exact ⟨bn, bo, (l.set (Int.toNat k) (l.getD (Int.toNat (k + 1)) default)).set (Int.toNat (k + 1)) (l.getD (Int.toNat k) default), k + 1, _, upds_of _ _ ⟨rfl, rfl, rfl, trivial⟩, M.e_inl hM a8, H⟩
       skip
       refine s_val (x_ld (v := .agg #[I ((l.getD (Int.toNat k) default).spring), I ((l.getD (Int.toNat k) default).town)]) rfl (ld_ag Ag61 Sz61 (At.mono (Dem_atA (H.os 0) (i := k) (by omega) (by omega)) (H.ol 0)))) ?_
       refine s_nil ⟨(H.pk [1]), ?_⟩
       refine t_l rfl <| s_val (x_ld (v := .agg #[I ((l.getD (Int.toNat (k + 1)) default).spring), I ((l.getD (Int.toNat (k + 1)) default).town)]) rfl (ld_ag Ag61 Sz61 (At.mono (Dem_atA (H.os 0) (i := k + 1) (by omega) (by omega)) (H.ol 0)))) ?_
       refine s_nil ⟨(H.pk [1]), ?_⟩
       refine t_l rfl <| s_val (x_ix (v := vat aa 2 (Int.toNat k)) rfl rfl (Sl.ix (α := Dem) T62.und T62.size (H.os 0) (by omega) (by omega))) ?_
       refine s_nil ⟨(H.pk [1]), ?_⟩
       refine t_l rfl ?_;refine t_ow 0 k (l.getD (Int.toNat (k + 1)) default) H Sz61 (by omega) (by omega) rfl rfl rfl ?_;intro dJ H
       refine s_nil ⟨(H.pk [1]), ?_⟩
       refine t_l rfl <| s_val (x_ix (v := vat aa 2 (Int.toNat (k + 1))) rfl rfl (Sl.ix (α := Dem) T62.und T62.size (H.os 0) (by omega) (by omega))) ?_
       refine s_nil ⟨(H.pk [1]), ?_⟩
       refine t_l rfl ?_;refine t_ow 0 (k + 1) (l.getD (Int.toNat k) default) H Sz61 (by omega) (by omega) rfl rfl rfl ?_;intro dK H
       refine s_nil ⟨(H.pk [1]), ?_⟩
       refine t_nil <| W.region rfl <| zM (I k) rfl <| zR k 1 (k + 1) rfl rfl rfl (by omega) <| zA (I (k + 1)) rfl <| s_nil ?_
       exact ⟨bn, bo, (l.set (Int.toNat k) (l.getD (Int.toNat (k + 1)) default)).set (Int.toNat (k + 1)) (l.getD (Int.toNat k) default), k + 1, _, upds_of _ _ ⟨rfl, rfl, rfl, trivial⟩, M.e_inl hM a8, H⟩
      skip
      refine s_val (x_ld (v := .agg #[I ((l.getD (Int.toNat k) default).spring), I ((l.getD (Int.toNat k) default).town)]) rfl (ld_ag Ag61 Sz61 (At.mono (Dem_atA (H.os 0) (i := k) (by omega) (by omega)) (H.ol 0)))) ?_
      refine s_nil ⟨(H.pk [1]), ?_⟩
      refine t_l rfl <| s_val (x_ix (v := vat aa 2 (Int.toNat (k + 1))) rfl rfl (Sl.ix (α := Dem) T62.und T62.size (H.os 0) (by omega) (by omega))) ?_
      refine s_nil ⟨(H.pk [1]), ?_⟩
      refine t_l rfl <| s_val (x_ld (v := .agg #[I ((l.getD (Int.toNat (k + 1)) default).spring), I ((l.getD (Int.toNat (k + 1)) default).town)]) rfl (ld_ag Ag61 Sz61 (At.mono (Dem_atA (H.os 0) (i := k + 1) (by omega) (by omega)) (H.ol 0)))) ?_
      refine s_nil ⟨(H.pk [1]), ?_⟩
      refine t_l rfl <| s_val (x_ix (v := vat aa 2 (Int.toNat k)) rfl rfl (Sl.ix (α := Dem) T62.und T62.size (H.os 0) (by omega) (by omega))) ?_
      refine s_nil ⟨(H.pk [1]), ?_⟩
      refine t_l rfl ?_;refine t_ow 0 k (l.getD (Int.toNat (k + 1)) default) H Sz61 (by omega) (by omega) rfl rfl rfl ?_;intro dL H
      refine s_nil ⟨(H.pk [1]), ?_⟩
      refine t_l rfl <| s_val (x_ix (v := vat aa 2 (Int.toNat (k + 1))) rfl rfl (Sl.ix (α := Dem) T62.und T62.size (H.os 0) (by omega) (by omega))) ?_
      refine s_nil ⟨(H.pk [1]), ?_⟩
      refine t_l rfl ?_;refine t_ow 0 (k + 1) (l.getD (Int.toNat k) default) H Sz61 (by omega) (by omega) rfl rfl rfl ?_;intro dM H
      refine s_nil ⟨(H.pk [1]), ?_⟩
      refine t_nil <| W.region rfl <| zM (I k) rfl <| zR k 1 (k + 1) rfl rfl rfl (by omega) <| zA (I (k + 1)) rfl <| s_nil ?_
      exact ⟨bn, bo, (l.set (Int.toNat k) (l.getD (Int.toNat (k + 1)) default)).set (Int.toNat (k + 1)) (l.getD (Int.toNat k) default), k + 1, _, upds_of _ _ ⟨rfl, rfl, rfl, trivial⟩, M.e_inl hM a8, H⟩
     replace hM := M.e_f hM ba
     replace ba := dI ba
     refine W.exit ?_
     have cF := M.e_inr hM a8
     subst cF;replace hM := cE;(try dsimp only at hM);refine W.ret ?_
     have bc := M.e_pure hM
     exact ⟨_, resE_tmp0 rfl, ⟨l, B_mem, bc, rfl, H⟩⟩
    replace hM := M.e_f hM aZ
    replace aZ := dI aZ
    refine W.skip <| W.seq <| W.seq <| W.region rfl <| zM (I b) rfl <| zM (I m_) rfl ?_;obtain ⟨dN, hM⟩ := M.e_gd hM;refine zR b m_ (b - m_) rfl rfl rfl (by omega) <| zC (b - m_) 1 ((b - m_) == 1) rfl rfl rfl <| s_nil ?_
    refine W.cond ((b - m_) == 1) rfl (fun bf => ?_) (fun bf => ?_)
    ·replace hM := M.e_t hM bf
     replace bf := dI bf
     refine W.seq <| W.region rfl <| zM (I a) rfl <| zA (I a) rfl <| s_nil <| W.seq <| W.region rfl <| zM (I m_) rfl <| zA (I m_) rfl <| s_nil ?_;refine W.seq <| W.block ?_;obtain ⟨cG, bW, cH⟩ := M.e_bind hM
     obtain ⟨bR, bW⟩ := M.e_iter bW
     refine W.loop (fun m σ W => ∃ (i3 : Int) (j2 : Int) (B_mem2 : Base) (ρ : Env), σ = upds ρ [(0, aa), (2, I m_), (4, .func (.func 104) #[] #[Pq ak]), (14, I i3), (15, I j2)] /\ M.iterN (zbb data m_ ab ac ae ag ah ai aj am ao aq au av aw ax) m (i3, j2) = some cG /\ St w W [cOwn (α := Dem) 61 aa data, cMem encDm ay B_mem2 (zaa ab ac ae ag ah ai aj)] R) ?_ ?_
     ·exact ⟨_, a, m_, B_b_cmp2020207, _, upds_of _ _ ⟨rfl, rfl, rfl, rfl, rfl, trivial⟩, bW, H⟩
     rintro dO σ dP ⟨i3, j2, B_mem2, ρ, rfl, cl, H⟩
     obtain ⟨cm, cn, dQ, hM, bX⟩ := M.e_iterN cl
     simp only [zbb] at hM
     clear cl;refine W.seq <| W.seq <| W.region rfl <| zM (I i3) rfl <| zM (I j2) rfl <| zC i3 j2 (decide (i3 < j2)) rfl rfl rfl <| s_nil ?_
     refine W.cond (decide (i3 < j2)) rfl (fun bg => ?_) (fun bg => ?_)
     ·replace hM := M.e_t hM bg
      replace bg := dI bg
      refine W.skip <| W.block <| W.seq <| W.region rfl <| zM (I i3) rfl <| zM (I j2) rfl ?_;obtain ⟨dR, hM⟩ := M.e_gd hM;refine zR i3 j2 (i3 + j2) rfl rfl rfl (by omega) ?_;obtain ⟨dS, hM⟩ := M.e_gd hM;refine s_val (x_convU (kd := .i64) (a := i3 + j2) Tryz.underlying3 Tryz.underlying155 rfl (by omega)) <| s_val (x_ushr1 (a := i3 + j2) rfl rfl) ?_;obtain ⟨dT, hM⟩ := M.e_gd hM;refine s_val (x_conv64 (kd := .u64) (a := (i3 + j2) / 2) Tryz.underlying155 Tryz.underlying3 rfl (by omega)) <| zA (I ((i3 + j2) / 2)) rfl <| s_nil <| W.seq ?_;refine W.draw (fun W => St w W [cOwn (α := Dem) 61 aa data] R) [(0, true), (1, true), (2, true), (3, true), (4, true), (5, true), (6, true), (7, true), (8, true), (9, false), (10, true), (11, true)] mixed (by decide +kernel) rfl ?_;intro dU az;replace H := H.ext az;clear az
      refine ⟨(H.pk [0]), ?_⟩
      refine d_q rfl (fun w' H => x_mv (v := .func (.func 104) #[] #[Pq ak]) rfl) <| d_q rfl (fun w' H => x_mv (v := aa) rfl) <| d_q rfl (fun w' H => x_mv (v := I m_) rfl) ?_;obtain ⟨dV, hM⟩ := M.e_gd hM;refine d_q rfl (fun w' H => x_ix (v := vat aa 2 (Int.toNat m_)) rfl rfl (Sl.ix (α := Dem) T62.und T62.size (H.os 0) (by omega) (by omega))) <| d_q rfl (fun w' H => x_ld (v := .agg #[I ((data.getD (Int.toNat m_) default).spring), I ((data.getD (Int.toNat m_) default).town)]) rfl (ld_ag Ag61 Sz61 (At.mono (Dem_atA (H.os 0) (i := m_) (by omega) (by omega)) (H.ol 0)))) <| d_q rfl (fun w' H => x_mv (v := aa) rfl) <| d_q rfl (fun w' H => x_mv (v := I ((i3 + j2) / 2)) rfl) ?_;obtain ⟨dW, hM⟩ := M.e_gd hM;refine d_q rfl (fun w' H => x_ix (v := vat aa 2 (Int.toNat ((i3 + j2) / 2))) rfl rfl (Sl.ix (α := Dem) T62.und T62.size (H.os 0) (by omega) (by omega))) <| d_q rfl (fun w' H => x_ld (v := .agg #[I ((data.getD (Int.toNat ((i3 + j2) / 2)) default).spring), I ((data.getD (Int.toNat ((i3 + j2) / 2)) default).town)]) rfl (ld_ag Ag61 Sz61 (At.mono (Dem_atA (H.os 0) (i := (i3 + j2) / 2) (by omega) (by omega)) (H.ol 0)))) <| d_l rfl ?_;obtain ⟨dX, cI, hM⟩ := M.e_bind hM;refine s_callv (f := 104) rfl cf104 [.agg #[I ((data.getD (Int.toNat m_) default).spring), I ((data.getD (Int.toNat m_) default).town)], .agg #[I ((data.getD (Int.toNat ((i3 + j2) / 2)) default).spring), I ((data.getD (Int.toNat ((i3 + j2) / 2)) default).town)]] rfl (zcU (data.getD (Int.toNat m_) default) (data.getD (Int.toNat ((i3 + j2) / 2)) default) ab ac ae ag ah ai aj am ao aq au av aw ax (aA.app _) aB (aC.app _) aD (aE.app _) aF (aG.app _) aH (aI.app _) aJ (aK.app _) (aL.app _) (aM.app _) aN (aO.app _) aP (aQ.app _) aR (aS.app _) aT (aU.app _) aV (aW.app _) (aX.app _) (aY.app _) cI _ ((H.pk [1, 0]).gt 1)) ?_
      rintro vq dY ⟨r3, co, rfl, hvq, al⟩
      subst vq;(try dsimp only at hM)
      replace H := H.pk [1, 0] |>.bk al
      clear al
      refine s_nil ⟨(H.pk [1]), ?_⟩
      refine d_q rfl (fun w' H => x_cmp (kd := .i64) (r := decide (r3 < 0)) rfl rfl rfl) <| d_q rfl (fun w' H => x_not (b := decide (r3 < 0)) rfl) ?_;refine d_nil ?_
      refine W.cond (!(decide (r3 < 0))) rfl (fun bY => ?_) (fun bY => ?_)
      ·replace hM := M.e_t hM bY;refine W.region rfl <| zM (I ((i3 + j2) / 2)) rfl <| zR ((i3 + j2) / 2) 1 (((i3 + j2) / 2) + 1) rfl rfl rfl (by omega) <| zA (I (((i3 + j2) / 2) + 1)) rfl <| s_nil ?_
       exact ⟨cm, cn, ((i3 + j2) / 2) + 1, j2, co, _, upds_of _ _ ⟨rfl, rfl, rfl, rfl, rfl, trivial⟩, M.e_inl hM bX, (H.pk [1, 0])⟩
      replace hM := M.e_f hM bY;refine W.region rfl <| zM (I ((i3 + j2) / 2)) rfl <| zA (I ((i3 + j2) / 2)) rfl <| s_nil ?_
      exact ⟨cm, cn, i3, (i3 + j2) / 2, co, _, upds_of _ _ ⟨rfl, rfl, rfl, rfl, rfl, trivial⟩, M.e_inl hM bX, (H.pk [1, 0])⟩
     replace hM := M.e_f hM bg
     replace bg := dI bg
     refine W.exit ?_
     have cJ := M.e_inr hM bX
     subst cJ;replace hM := cH;(try dsimp only at hM);refine W.seq <| W.seq <| W.region rfl <| zM (I m_) rfl <| zA (I m_) rfl <| s_nil <| W.block ?_;obtain ⟨cK, bZ, cL⟩ := M.e_bind hM
     obtain ⟨bR, bZ⟩ := M.e_iter bZ
     refine W.loop (fun m σ W => ∃ (l3 : List Dem) (k2 : Int) (ρ : Env), σ = upds ρ [(0, aa), (14, I i3), (17, I k2)] /\ M.iterN (za1 i3) m (l3, k2) = some cK /\ St w W [cOwn (α := Dem) 61 aa l3, cMem encDm ay B_mem2 (zaa ab ac ae ag ah ai aj)] R) ?_ ?_
     ·exact ⟨_, data, m_, _, upds_of _ _ ⟨rfl, rfl, rfl, trivial⟩, bZ, H⟩
     rintro dZ σ d6 ⟨l3, k2, ρ, rfl, cp, H⟩
     obtain ⟨bp, bq, d7, hM, bh⟩ := M.e_iterN cp
     simp only [za1] at hM
     clear cp;refine W.seq <| W.seq <| W.region rfl <| zM (I k2) rfl <| zM (I i3) rfl <| zC k2 i3 (decide (i3 < k2)) rfl rfl rfl <| s_nil ?_
     refine W.cond (decide (i3 < k2)) rfl (fun bi => ?_) (fun bi => ?_)
     ·replace hM := M.e_t hM bi
      replace bi := dI bi
      refine W.skip <| W.seq <| W.block ?_;refine W.drawT (fun W => St w W [cMem encDm ay B_mem2 (zaa ab ac ae ag ah ai aj)] R) (.q 0 (.q 1 (.q 2 (.q 3 (.q 4 (.q 5 (.q 6 (.q 7 (.q 10 (.q 11 (.l2 8 (.l2 9 (.l 12 (.l 13 (.l 14 (.l 15 (.l 16 (.l 17 .nil)))))) 12 (.l2 9 (.l 13 (.l 14 (.l 15 (.l 16 (.l 17 .nil))))) 13 (.l 9 (.l 14 (.l 15 (.l 16 (.l 17 .nil))))))) 12 (.l2 8 (.l2 9 (.l 13 (.l 14 (.l 15 (.l 16 (.l 17 .nil))))) 13 (.l 9 (.l 14 (.l 15 (.l 16 (.l 17 .nil)))))) 13 (.l 8 (.l 9 (.l 14 (.l 15 (.l 16 (.l 17 .nil)))))))))))))))))) mixed (by decide +kernel) rfl ?_;intro d8 az;replace H := H.ext az;clear az
      refine ⟨(H.pk [1]), ?_⟩
      refine t_q rfl (fun w' H => x_mv (v := aa) rfl) <| t_q rfl (fun w' H => x_mv (v := I k2) rfl) <| t_q rfl (fun w' H => x_mv (v := aa) rfl) <| t_q rfl (fun w' H => x_mv (v := I k2) rfl) ?_;obtain ⟨d9, hM⟩ := M.e_gd hM;refine t_q rfl (fun w' H => x_ari (r := k2 - 1) rfl rfl rfl (by omega)) <| t_q rfl (fun w' H => x_mv (v := aa) rfl) <| t_q rfl (fun w' H => x_mv (v := I k2) rfl) <| t_q rfl (fun w' H => x_ari (r := k2 - 1) rfl rfl rfl (by omega)) <| t_q rfl (fun w' H => x_mv (v := aa) rfl) <| t_q rfl (fun w' H => x_mv (v := I k2) rfl) ?_;obtain ⟨ea, hM⟩ := M.e_gd hM;obtain ⟨eb, hM⟩ := M.e_gd hM;obtain ⟨ec, hM⟩ := M.e_gd hM;refine t_l2 rfl rfl ?_ ?_
      ·skip
       refine s_val (x_ix (v := vat aa 2 (Int.toNat (k2 - 1))) rfl rfl (Sl.ix (α := Dem) T62.und T62.size (H.os 0) (by omega) (by omega))) ?_
       have ed := Sl.cells (H.os 0)
       have ee := Sl.oc (H.os 0)
       refine s_nil ⟨(H.pk [1]), ?_⟩
       refine t_l2 rfl rfl ?_ ?_
       ·skip
        refine s_val (x_ld (v := .agg #[I ((l3.getD (Int.toNat (k2 - 1)) default).spring), I ((l3.getD (Int.toNat (k2 - 1)) default).town)]) rfl (ld_ag Ag61 Sz61 (At.mono (Dem_atA (H.os 0) (i := k2 - 1) (by omega) (by omega)) (H.ol 0)))) ?_
        refine s_nil ⟨(H.pk [1]), ?_⟩
        refine t_l rfl <| s_val (x_ix (v := vat aa 2 (Int.toNat k2)) rfl rfl (Sl.ix (α := Dem) T62.und T62.size (H.os 0) (by omega) (by omega))) ?_
        refine s_nil ⟨(H.pk [1]), ?_⟩
        refine t_l rfl <| s_val (x_ld (v := .agg #[I ((l3.getD (Int.toNat k2) default).spring), I ((l3.getD (Int.toNat k2) default).town)]) rfl (ld_ag Ag61 Sz61 (At.mono (Dem_atA (H.os 0) (i := k2) (by omega) (by omega)) (H.ol 0)))) ?_
        refine s_nil ⟨(H.pk [1]), ?_⟩
        refine t_l rfl <| s_val (x_ix (v := vat aa 2 (Int.toNat k2)) rfl rfl (Sl.ix (α := Dem) T62.und T62.size (H.os 0) (by omega) (by omega))) ?_
        refine s_nil ⟨(H.pk [1]), ?_⟩
        refine t_l rfl ?_;refine t_ow 0 k2 (l3.getD (Int.toNat (k2 - 1)) default) H Sz61 (by omega) (by omega) rfl rfl rfl ?_;intro ef H
        refine s_nil ⟨(H.pk [1]), ?_⟩
        refine t_l rfl <| s_val (x_ix (v := vat aa 2 (Int.toNat (k2 - 1))) rfl rfl (Sl.ix (α := Dem) T62.und T62.size (H.os 0) (by omega) (by omega))) ?_
        refine s_nil ⟨(H.pk [1]), ?_⟩
        refine t_l rfl ?_;refine t_ow 0 (k2 - 1) (l3.getD (Int.toNat k2) default) H Sz61 (by omega) (by omega) rfl rfl rfl ?_;intro eg H
        refine s_nil ⟨(H.pk [1]), ?_⟩
        refine t_nil <| W.region rfl <| zM (I k2) rfl <| zR k2 1 (k2 - 1) rfl rfl rfl (by omega) <| zA (I (k2 - 1)) rfl <| s_nil ?_
        exact ⟨bp, bq, (l3.set (Int.toNat k2) (l3.getD (Int.toNat (k2 - 1)) default)).set (Int.toNat (k2 - 1)) (l3.getD (Int.toNat k2) default), k2 - 1, _, upds_of _ _ ⟨rfl, rfl, rfl, trivial⟩, M.e_inl hM bh, H⟩
       skip
       refine s_val (x_ix (v := vat aa 2 (Int.toNat k2)) rfl rfl (Sl.ix (α := Dem) T62.und T62.size (H.os 0) (by omega) (by omega))) ?_
       refine s_nil ⟨(H.pk [1]), ?_⟩
       refine t_l2 rfl rfl ?_ ?_
       ·skip
        refine s_val (x_ld (v := .agg #[I ((l3.getD (Int.toNat (k2 - 1)) default).spring), I ((l3.getD (Int.toNat (k2 - 1)) default).town)]) rfl (ld_ag Ag61 Sz61 (At.mono (Dem_atA (H.os 0) (i := k2 - 1) (by omega) (by omega)) (H.ol 0)))) ?_
        refine s_nil ⟨(H.pk [1]), ?_⟩
        refine t_l rfl <| s_val (x_ld (v := .agg #[I ((l3.getD (Int.toNat k2) default).spring), I ((l3.getD (Int.toNat k2) default).town)]) rfl (ld_ag Ag61 Sz61 (At.mono (Dem_atA (H.os 0) (i := k2) (by omega) (by omega)) (H.ol 0)))) ?_
        refine s_nil ⟨(H.pk [1]), ?_⟩
        refine t_l rfl <| s_val (x_ix (v := vat aa 2 (Int.toNat k2)) rfl rfl (Sl.ix (α := Dem) T62.und T62.size (H.os 0) (by omega) (by omega))) ?_
        refine s_nil ⟨(H.pk [1]), ?_⟩
        refine t_l rfl ?_;refine t_ow 0 k2 (l3.getD (Int.toNat (k2 - 1)) default) H Sz61 (by omega) (by omega) rfl rfl rfl ?_;intro eh H
        refine s_nil ⟨(H.pk [1]), ?_⟩
        refine t_l rfl <| s_val (x_ix (v := vat aa 2 (Int.toNat (k2 - 1))) rfl rfl (Sl.ix (α := Dem) T62.und T62.size (H.os 0) (by omega) (by omega))) ?_
        refine s_nil ⟨(H.pk [1]), ?_⟩
        refine t_l rfl ?_;refine t_ow 0 (k2 - 1) (l3.getD (Int.toNat k2) default) H Sz61 (by omega) (by omega) rfl rfl rfl ?_;intro ei H
        refine s_nil ⟨(H.pk [1]), ?_⟩
        refine t_nil <| W.region rfl <| zM (I k2) rfl <| zR k2 1 (k2 - 1) rfl rfl rfl (by omega) <| zA (I (k2 - 1)) rfl <| s_nil ?_
        exact ⟨bp, bq, (l3.set (Int.toNat k2) (l3.getD (Int.toNat (k2 - 1)) default)).set (Int.toNat (k2 - 1)) (l3.getD (Int.toNat k2) default), k2 - 1, _, upds_of _ _ ⟨rfl, rfl, rfl, trivial⟩, M.e_inl hM bh, H⟩
       skip
       refine s_val (x_ld (v := .agg #[I ((l3.getD (Int.toNat k2) default).spring), I ((l3.getD (Int.toNat k2) default).town)]) rfl (ld_ag Ag61 Sz61 (At.mono (Dem_atA (H.os 0) (i := k2) (by omega) (by omega)) (H.ol 0)))) ?_
       refine s_nil ⟨(H.pk [1]), ?_⟩
       refine t_l rfl <| s_val (x_ld (v := .agg #[I ((l3.getD (Int.toNat (k2 - 1)) default).spring), I ((l3.getD (Int.toNat (k2 - 1)) default).town)]) rfl (ld_ag Ag61 Sz61 (At.mono (Dem_atA (H.os 0) (i := k2 - 1) (by omega) (by omega)) (H.ol 0)))) ?_
       refine s_nil ⟨(H.pk [1]), ?_⟩
       refine t_l rfl <| s_val (x_ix (v := vat aa 2 (Int.toNat k2)) rfl rfl (Sl.ix (α := Dem) T62.und T62.size (H.os 0) (by omega) (by omega))) ?_
       refine s_nil ⟨(H.pk [1]), ?_⟩
       refine t_l rfl ?_;refine t_ow 0 k2 (l3.getD (Int.toNat (k2 - 1)) default) H Sz61 (by omega) (by omega) rfl rfl rfl ?_;intro ej H
       refine s_nil ⟨(H.pk [1]), ?_⟩
       refine t_l rfl <| s_val (x_ix (v := vat aa 2 (Int.toNat (k2 - 1))) rfl rfl (Sl.ix (α := Dem) T62.und T62.size (H.os 0) (by omega) (by omega))) ?_
       refine s_nil ⟨(H.pk [1]), ?_⟩
       refine t_l rfl ?_;refine t_ow 0 (k2 - 1) (l3.getD (Int.toNat k2) default) H Sz61 (by omega) (by omega) rfl rfl rfl ?_;intro em H
       refine s_nil ⟨(H.pk [1]), ?_⟩
       refine t_nil <| W.region rfl <| zM (I k2) rfl <| zR k2 1 (k2 - 1) rfl rfl rfl (by omega) <| zA (I (k2 - 1)) rfl <| s_nil ?_
       exact ⟨bp, bq, (l3.set (Int.toNat k2) (l3.getD (Int.toNat (k2 - 1)) default)).set (Int.toNat (k2 - 1)) (l3.getD (Int.toNat k2) default), k2 - 1, _, upds_of _ _ ⟨rfl, rfl, rfl, trivial⟩, M.e_inl hM bh, H⟩
      skip
      refine s_val (x_ix (v := vat aa 2 (Int.toNat k2)) rfl rfl (Sl.ix (α := Dem) T62.und T62.size (H.os 0) (by omega) (by omega))) ?_
      have en := Sl.cells (H.os 0)
      have eo := Sl.oc (H.os 0)
      refine s_nil ⟨(H.pk [1]), ?_⟩
      refine t_l2 rfl rfl ?_ ?_
      ·skip
       refine s_val (x_ix (v := vat aa 2 (Int.toNat (k2 - 1))) rfl rfl (Sl.ix (α := Dem) T62.und T62.size (H.os 0) (by omega) (by omega))) ?_
       refine s_nil ⟨(H.pk [1]), ?_⟩
       refine t_l2 rfl rfl ?_ ?_
       ·skip
        refine s_val (x_ld (v := .agg #[I ((l3.getD (Int.toNat (k2 - 1)) default).spring), I ((l3.getD (Int.toNat (k2 - 1)) default).town)]) rfl (ld_ag Ag61 Sz61 (At.mono (Dem_atA (H.os 0) (i := k2 - 1) (by omega) (by omega)) (H.ol 0)))) ?_
        refine s_nil ⟨(H.pk [1]), ?_⟩
        refine t_l rfl <| s_val (x_ld (v := .agg #[I ((l3.getD (Int.toNat k2) default).spring), I ((l3.getD (Int.toNat k2) default).town)]) rfl (ld_ag Ag61 Sz61 (At.mono (Dem_atA (H.os 0) (i := k2) (by omega) (by omega)) (H.ol 0)))) ?_
        refine s_nil ⟨(H.pk [1]), ?_⟩
        refine t_l rfl <| s_val (x_ix (v := vat aa 2 (Int.toNat k2)) rfl rfl (Sl.ix (α := Dem) T62.und T62.size (H.os 0) (by omega) (by omega))) ?_
        refine s_nil ⟨(H.pk [1]), ?_⟩
        refine t_l rfl ?_;refine t_ow 0 k2 (l3.getD (Int.toNat (k2 - 1)) default) H Sz61 (by omega) (by omega) rfl rfl rfl ?_;intro ep H
        refine s_nil ⟨(H.pk [1]), ?_⟩
        refine t_l rfl <| s_val (x_ix (v := vat aa 2 (Int.toNat (k2 - 1))) rfl rfl (Sl.ix (α := Dem) T62.und T62.size (H.os 0) (by omega) (by omega))) ?_
        refine s_nil ⟨(H.pk [1]), ?_⟩
        refine t_l rfl ?_;refine t_ow 0 (k2 - 1) (l3.getD (Int.toNat k2) default) H Sz61 (by omega) (by omega) rfl rfl rfl ?_;intro eq H
        refine s_nil ⟨(H.pk [1]), ?_⟩
        refine t_nil <| W.region rfl <| zM (I k2) rfl <| zR k2 1 (k2 - 1) rfl rfl rfl (by omega) <| zA (I (k2 - 1)) rfl <| s_nil ?_
        exact ⟨bp, bq, (l3.set (Int.toNat k2) (l3.getD (Int.toNat (k2 - 1)) default)).set (Int.toNat (k2 - 1)) (l3.getD (Int.toNat k2) default), k2 - 1, _, upds_of _ _ ⟨rfl, rfl, rfl, trivial⟩, M.e_inl hM bh, H⟩
       skip
       refine s_val (x_ld (v := .agg #[I ((l3.getD (Int.toNat k2) default).spring), I ((l3.getD (Int.toNat k2) default).town)]) rfl (ld_ag Ag61 Sz61 (At.mono (Dem_atA (H.os 0) (i := k2) (by omega) (by omega)) (H.ol 0)))) ?_
       refine s_nil ⟨(H.pk [1]), ?_⟩
       refine t_l rfl <| s_val (x_ld (v := .agg #[I ((l3.getD (Int.toNat (k2 - 1)) default).spring), I ((l3.getD (Int.toNat (k2 - 1)) default).town)]) rfl (ld_ag Ag61 Sz61 (At.mono (Dem_atA (H.os 0) (i := k2 - 1) (by omega) (by omega)) (H.ol 0)))) ?_
       refine s_nil ⟨(H.pk [1]), ?_⟩
       refine t_l rfl <| s_val (x_ix (v := vat aa 2 (Int.toNat k2)) rfl rfl (Sl.ix (α := Dem) T62.und T62.size (H.os 0) (by omega) (by omega))) ?_
       refine s_nil ⟨(H.pk [1]), ?_⟩
       refine t_l rfl ?_;refine t_ow 0 k2 (l3.getD (Int.toNat (k2 - 1)) default) H Sz61 (by omega) (by omega) rfl rfl rfl ?_;intro er H
       refine s_nil ⟨(H.pk [1]), ?_⟩
       refine t_l rfl <| s_val (x_ix (v := vat aa 2 (Int.toNat (k2 - 1))) rfl rfl (Sl.ix (α := Dem) T62.und T62.size (H.os 0) (by omega) (by omega))) ?_
       refine s_nil ⟨(H.pk [1]), ?_⟩
       refine t_l rfl ?_;refine t_ow 0 (k2 - 1) (l3.getD (Int.toNat k2) default) H Sz61 (by omega) (by omega) rfl rfl rfl ?_;intro eu H
       refine s_nil ⟨(H.pk [1]), ?_⟩
       refine t_nil <| W.region rfl <| zM (I k2) rfl <| zR k2 1 (k2 - 1) rfl rfl rfl (by omega) <| zA (I (k2 - 1)) rfl <| s_nil ?_
       exact ⟨bp, bq, (l3.set (Int.toNat k2) (l3.getD (Int.toNat (k2 - 1)) default)).set (Int.toNat (k2 - 1)) (l3.getD (Int.toNat k2) default), k2 - 1, _, upds_of _ _ ⟨rfl, rfl, rfl, trivial⟩, M.e_inl hM bh, H⟩
      skip
      refine s_val (x_ld (v := .agg #[I ((l3.getD (Int.toNat k2) default).spring), I ((l3.getD (Int.toNat k2) default).town)]) rfl (ld_ag Ag61 Sz61 (At.mono (Dem_atA (H.os 0) (i := k2) (by omega) (by omega)) (H.ol 0)))) ?_
      refine s_nil ⟨(H.pk [1]), ?_⟩
      refine t_l rfl <| s_val (x_ix (v := vat aa 2 (Int.toNat (k2 - 1))) rfl rfl (Sl.ix (α := Dem) T62.und T62.size (H.os 0) (by omega) (by omega))) ?_
      refine s_nil ⟨(H.pk [1]), ?_⟩
      refine t_l rfl <| s_val (x_ld (v := .agg #[I ((l3.getD (Int.toNat (k2 - 1)) default).spring), I ((l3.getD (Int.toNat (k2 - 1)) default).town)]) rfl (ld_ag Ag61 Sz61 (At.mono (Dem_atA (H.os 0) (i := k2 - 1) (by omega) (by omega)) (H.ol 0)))) ?_
      refine s_nil ⟨(H.pk [1]), ?_⟩
      refine t_l rfl <| s_val (x_ix (v := vat aa 2 (Int.toNat k2)) rfl rfl (Sl.ix (α := Dem) T62.und T62.size (H.os 0) (by omega) (by omega))) ?_
      refine s_nil ⟨(H.pk [1]), ?_⟩
      refine t_l rfl ?_;refine t_ow 0 k2 (l3.getD (Int.toNat (k2 - 1)) default) H Sz61 (by omega) (by omega) rfl rfl rfl ?_;intro ew H
      refine s_nil ⟨(H.pk [1]), ?_⟩
      refine t_l rfl <| s_val (x_ix (v := vat aa 2 (Int.toNat (k2 - 1))) rfl rfl (Sl.ix (α := Dem) T62.und T62.size (H.os 0) (by omega) (by omega))) ?_
      refine s_nil ⟨(H.pk [1]), ?_⟩
      refine t_l rfl ?_;refine t_ow 0 (k2 - 1) (l3.getD (Int.toNat k2) default) H Sz61 (by omega) (by omega) rfl rfl rfl ?_;intro ez H
      refine s_nil ⟨(H.pk [1]), ?_⟩
      refine t_nil <| W.region rfl <| zM (I k2) rfl <| zR k2 1 (k2 - 1) rfl rfl rfl (by omega) <| zA (I (k2 - 1)) rfl <| s_nil ?_
      exact ⟨bp, bq, (l3.set (Int.toNat k2) (l3.getD (Int.toNat (k2 - 1)) default)).set (Int.toNat (k2 - 1)) (l3.getD (Int.toNat k2) default), k2 - 1, _, upds_of _ _ ⟨rfl, rfl, rfl, trivial⟩, M.e_inl hM bh, H⟩
     replace hM := M.e_f hM bi
     replace bi := dI bi
     refine W.exit ?_
     have cM := M.e_inr hM bh
     subst cM;replace hM := cL;(try dsimp only at hM);refine W.ret ?_
     have bc := M.e_pure hM
     exact ⟨_, resE_tmp0 rfl, ⟨l3, B_mem2, bc, rfl, H⟩⟩
    replace hM := M.e_f hM bf
    replace bf := dI bf
    refine W.skip <| W.seq <| W.region rfl <| zM (I a) rfl <| zM (I b) rfl ?_;obtain ⟨eA, hM⟩ := M.e_gd hM;refine zR a b (a + b) rfl rfl rfl (by omega) ?_;obtain ⟨eB, hM⟩ := M.e_gd hM;refine s_val (x_convU (kd := .i64) (a := a + b) Tryz.underlying3 Tryz.underlying155 rfl (by omega)) <| s_val (x_ushr1 (a := a + b) rfl rfl) ?_;obtain ⟨eC, hM⟩ := M.e_gd hM;refine s_val (x_conv64 (kd := .u64) (a := (a + b) / 2) Tryz.underlying155 Tryz.underlying3 rfl (by omega)) <| zA (I ((a + b) / 2)) rfl <| s_nil <| W.seq <| W.region rfl <| zM (I ((a + b) / 2)) rfl <| zM (I m_) rfl ?_;obtain ⟨eD, hM⟩ := M.e_gd hM;refine zR ((a + b) / 2) m_ (((a + b) / 2) + m_) rfl rfl rfl (by omega) <| zA (I (((a + b) / 2) + m_)) rfl <| s_nil <| W.seq <| W.region rfl <| zA (I 0) rfl <| zA (I 0) rfl <| s_nil ?_;refine W.seqJ (fun σ W => ∃ (start : Int) (r4 : Int) (ρ : Env), σ = upds ρ [(0, aa), (1, I a), (2, I m_), (3, I b), (4, .func (.func 104) #[] #[Pq ak]), (18, I ((a + b) / 2)), (19, I (((a + b) / 2) + m_)), (20, I start), (21, I r4)] /\ (zaX data a m_ b ab ac ae ag ah ai aj am ao aq au av aw ax (M.fixN zan n_) start r4).Ends r /\ St w W [cOwn (α := Dem) 61 aa data, cMem encDm ay B_b_cmp2020207 (zaa ab ac ae ag ah ai aj)] R) ?_ ?_
    ·skip
     refine W.seq <| W.region rfl <| zM (I m_) rfl <| zM (I ((a + b) / 2)) rfl <| zC m_ ((a + b) / 2) (decide (((a + b) / 2) < m_)) rfl rfl rfl <| s_nil ?_
     refine W.cond (decide (((a + b) / 2) < m_)) rfl (fun bj => ?_) (fun bj => ?_)
     ·replace hM := M.e_t hM bj
      replace bj := dI bj
      refine W.seq <| W.region rfl <| zM (I (((a + b) / 2) + m_)) rfl <| zM (I b) rfl ?_;obtain ⟨eE, hM⟩ := M.e_gd hM;refine zR (((a + b) / 2) + m_) b ((((a + b) / 2) + m_) - b) rfl rfl rfl (by omega) <| zA (I ((((a + b) / 2) + m_) - b)) rfl <| s_nil <| W.region rfl <| zM (I ((a + b) / 2)) rfl <| zA (I ((a + b) / 2)) rfl <| s_nil ?_
      exact ⟨(((a + b) / 2) + m_) - b, (a + b) / 2, _, upds_of _ _ ⟨rfl, rfl, rfl, rfl, rfl, rfl, rfl, rfl, rfl, trivial⟩, hM, H⟩
     replace hM := M.e_f hM bj
     replace bj := dI bj
     refine W.seq <| W.region rfl <| zM (I a) rfl <| zA (I a) rfl <| s_nil <| W.region rfl <| zM (I m_) rfl <| zA (I m_) rfl <| s_nil ?_
     exact ⟨a, m_, _, upds_of _ _ ⟨rfl, rfl, rfl, rfl, rfl, rfl, rfl, rfl, rfl, trivial⟩, hM, H⟩
    rintro _ eF ⟨start, r4, ρ, rfl, hM, H⟩
    unfold zaX at hM
    refine W.seq <| W.region rfl <| zM (I (((a + b) / 2) + m_)) rfl ?_;obtain ⟨eG, hM⟩ := M.e_gd hM;refine zR (((a + b) / 2) + m_) 1 ((((a + b) / 2) + m_) - 1) rfl rfl rfl (by omega) <| zA (I ((((a + b) / 2) + m_) - 1)) rfl <| s_nil <| W.seq <| W.block ?_;obtain ⟨cN, b4, cO⟩ := M.e_bind hM
    obtain ⟨bR, b4⟩ := M.e_iter b4
    refine W.loop (fun m σ W => ∃ (start2 : Int) (r6 : Int) (B_mem3 : Base) (ρ : Env), σ = upds ρ [(0, aa), (1, I a), (2, I m_), (3, I b), (4, .func (.func 104) #[] #[Pq ak]), (18, I ((a + b) / 2)), (19, I (((a + b) / 2) + m_)), (20, I start2), (21, I r6), (22, I ((((a + b) / 2) + m_) - 1))] /\ M.iterN (zbr data a m_ b ab ac ae ag ah ai aj am ao aq au av aw ax) m (start2, r6) = some cN /\ St w W [cOwn (α := Dem) 61 aa data, cMem encDm ay B_mem3 (zaa ab ac ae ag ah ai aj)] R) ?_ ?_
    ·exact ⟨_, start, r4, B_b_cmp2020207, _, upds_of _ _ ⟨rfl, rfl, rfl, rfl, rfl, rfl, rfl, rfl, rfl, rfl, trivial⟩, b4, H⟩
    rintro eH σ eI ⟨start2, r6, B_mem3, ρ, rfl, cq, H⟩
    obtain ⟨cu, cw, eJ, hM, b7⟩ := M.e_iterN cq
    simp only [zbr] at hM
    clear cq;refine W.seq <| W.seq <| W.region rfl <| zM (I start2) rfl <| zM (I r6) rfl <| zC start2 r6 (decide (start2 < r6)) rfl rfl rfl <| s_nil ?_
    refine W.cond (decide (start2 < r6)) rfl (fun bm => ?_) (fun bm => ?_)
    ·replace hM := M.e_t hM bm
     replace bm := dI bm
     refine W.skip <| W.block <| W.seq <| W.region rfl <| zM (I start2) rfl <| zM (I r6) rfl ?_;obtain ⟨eK, hM⟩ := M.e_gd hM;refine zR start2 r6 (start2 + r6) rfl rfl rfl (by omega) ?_;obtain ⟨eL, hM⟩ := M.e_gd hM;refine s_val (x_convU (kd := .i64) (a := start2 + r6) Tryz.underlying3 Tryz.underlying155 rfl (by omega)) <| s_val (x_ushr1 (a := start2 + r6) rfl rfl) ?_;obtain ⟨eM, hM⟩ := M.e_gd hM;refine s_val (x_conv64 (kd := .u64) (a := (start2 + r6) / 2) Tryz.underlying155 Tryz.underlying3 rfl (by omega)) <| zA (I ((start2 + r6) / 2)) rfl <| s_nil <| W.seq ?_;refine W.draw (fun W => St w W [cOwn (α := Dem) 61 aa data] R) [(0, true), (1, true), (2, true), (3, true), (4, true), (5, true), (6, true), (7, true), (8, true), (9, true), (10, true), (11, false), (12, true), (13, true)] mixed (by decide +kernel) rfl ?_;intro eN az;replace H := H.ext az;clear az
     refine ⟨(H.pk [0]), ?_⟩
     refine d_q rfl (fun w' H => x_mv (v := .func (.func 104) #[] #[Pq ak]) rfl) <| d_q rfl (fun w' H => x_mv (v := aa) rfl) <| d_q rfl (fun w' H => x_mv (v := I ((((a + b) / 2) + m_) - 1)) rfl) <| d_q rfl (fun w' H => x_mv (v := I ((start2 + r6) / 2)) rfl) ?_;obtain ⟨eO, hM⟩ := M.e_gd hM;refine d_q rfl (fun w' H => x_ari (r := ((((a + b) / 2) + m_) - 1) - ((start2 + r6) / 2)) rfl rfl rfl (by omega)) ?_;obtain ⟨eP, hM⟩ := M.e_gd hM;refine d_q rfl (fun w' H => x_ix (v := vat aa 2 (Int.toNat (((((a + b) / 2) + m_) - 1) - ((start2 + r6) / 2)))) rfl rfl (Sl.ix (α := Dem) T62.und T62.size (H.os 0) (by omega) (by omega))) <| d_q rfl (fun w' H => x_ld (v := .agg #[I ((data.getD (Int.toNat (((((a + b) / 2) + m_) - 1) - ((start2 + r6) / 2))) default).spring), I ((data.getD (Int.toNat (((((a + b) / 2) + m_) - 1) - ((start2 + r6) / 2))) default).town)]) rfl (ld_ag Ag61 Sz61 (At.mono (Dem_atA (H.os 0) (i := ((((a + b) / 2) + m_) - 1) - ((start2 + r6) / 2)) (by omega) (by omega)) (H.ol 0)))) <| d_q rfl (fun w' H => x_mv (v := aa) rfl) <| d_q rfl (fun w' H => x_mv (v := I ((start2 + r6) / 2)) rfl) ?_;obtain ⟨eQ, hM⟩ := M.e_gd hM;refine d_q rfl (fun w' H => x_ix (v := vat aa 2 (Int.toNat ((start2 + r6) / 2))) rfl rfl (Sl.ix (α := Dem) T62.und T62.size (H.os 0) (by omega) (by omega))) <| d_q rfl (fun w' H => x_ld (v := .agg #[I ((data.getD (Int.toNat ((start2 + r6) / 2)) default).spring), I ((data.getD (Int.toNat ((start2 + r6) / 2)) default).town)]) rfl (ld_ag Ag61 Sz61 (At.mono (Dem_atA (H.os 0) (i := (start2 + r6) / 2) (by omega) (by omega)) (H.ol 0)))) <| d_l rfl ?_;obtain ⟨eR, cP, hM⟩ := M.e_bind hM;refine s_callv (f := 104) rfl cf104 [.agg #[I ((data.getD (Int.toNat (((((a + b) / 2) + m_) - 1) - ((start2 + r6) / 2))) default).spring), I ((data.getD (Int.toNat (((((a + b) / 2) + m_) - 1) - ((start2 + r6) / 2))) default).town)], .agg #[I ((data.getD (Int.toNat ((start2 + r6) / 2)) default).spring), I ((data.getD (Int.toNat ((start2 + r6) / 2)) default).town)]] rfl (zcU (data.getD (Int.toNat (((((a + b) / 2) + m_) - 1) - ((start2 + r6) / 2))) default) (data.getD (Int.toNat ((start2 + r6) / 2)) default) ab ac ae ag ah ai aj am ao aq au av aw ax (aA.app _) aB (aC.app _) aD (aE.app _) aF (aG.app _) aH (aI.app _) aJ (aK.app _) (aL.app _) (aM.app _) aN (aO.app _) aP (aQ.app _) aR (aS.app _) aT (aU.app _) aV (aW.app _) (aX.app _) (aY.app _) cP _ ((H.pk [1, 0]).gt 1)) ?_
     rintro vq eS ⟨r5, cx, rfl, hvq, al⟩
     subst vq;(try dsimp only at hM)
     replace H := H.pk [1, 0] |>.bk al
     clear al
     refine s_nil ⟨(H.pk [1]), ?_⟩
     refine d_q rfl (fun w' H => x_cmp (kd := .i64) (r := decide (r5 < 0)) rfl rfl rfl) <| d_q rfl (fun w' H => x_not (b := decide (r5 < 0)) rfl) ?_;refine d_nil ?_
     refine W.cond (!(decide (r5 < 0))) rfl (fun b8 => ?_) (fun b8 => ?_)
     ·replace hM := M.e_t hM b8;refine W.region rfl <| zM (I ((start2 + r6) / 2)) rfl <| zR ((start2 + r6) / 2) 1 (((start2 + r6) / 2) + 1) rfl rfl rfl (by omega) <| zA (I (((start2 + r6) / 2) + 1)) rfl <| s_nil ?_
      exact ⟨cu, cw, ((start2 + r6) / 2) + 1, r6, cx, _, upds_of _ _ ⟨rfl, rfl, rfl, rfl, rfl, rfl, rfl, rfl, rfl, rfl, trivial⟩, M.e_inl hM b7, (H.pk [1, 0])⟩
     replace hM := M.e_f hM b8;refine W.region rfl <| zM (I ((start2 + r6) / 2)) rfl <| zA (I ((start2 + r6) / 2)) rfl <| s_nil ?_
     exact ⟨cu, cw, start2, (start2 + r6) / 2, cx, _, upds_of _ _ ⟨rfl, rfl, rfl, rfl, rfl, rfl, rfl, rfl, rfl, rfl, trivial⟩, M.e_inl hM b7, (H.pk [1, 0])⟩
    replace hM := M.e_f hM bm
    replace bm := dI bm
    refine W.exit ?_
    have cQ := M.e_inr hM b7
    subst cQ;replace hM := cO;(try dsimp only at hM);refine W.seq <| W.region rfl <| zM (I (((a + b) / 2) + m_)) rfl <| zM (I start2) rfl ?_;obtain ⟨eT, hM⟩ := M.e_gd hM;refine zR (((a + b) / 2) + m_) start2 ((((a + b) / 2) + m_) - start2) rfl rfl rfl (by omega) <| zA (I ((((a + b) / 2) + m_) - start2)) rfl <| s_nil ?_;refine W.seqJ (fun σ W => ∃ (l5 : List Dem) (ρ : Env), σ = upds ρ [(0, aa), (1, I a), (3, I b), (4, .func (.func 104) #[] #[Pq ak]), (18, I ((a + b) / 2)), (20, I start2), (24, I ((((a + b) / 2) + m_) - start2))] /\ (za0 a m_ b ab ac ae ag ah ai aj am ao aq au av aw ax (M.fixN zan n_) start2 l5).Ends r /\ St w W [cOwn (α := Dem) 61 aa l5, cMem encDm ay B_mem3 (zaa ab ac ae ag ah ai aj)] R) ?_ ?_
    ·skip
     refine W.seq <| W.region rfl <| zM (I start2) rfl <| zM (I m_) rfl <| zC start2 m_ (decide (start2 < m_)) rfl rfl rfl <| zM (B (decide (start2 < m_))) rfl <| g_val (decide (start2 < m_)) (gy_t rfl) (fun hg => x_mv (v := I m_) rfl) <| g_val (decide (start2 < m_)) (gy_t rfl) (fun hg => x_mv (v := I ((((a + b) / 2) + m_) - start2)) rfl) <| g_val (decide (start2 < m_)) (gy_t rfl) (fun hg => x_cmp (kd := .i64) (r := decide (m_ < ((((a + b) / 2) + m_) - start2))) (gd_of hg (I m_)) (gd_of hg (I ((((a + b) / 2) + m_) - start2))) rfl) <| s_val (x_pand (b := decide (start2 < m_)) (r := decide (m_ < ((((a + b) / 2) + m_) - start2))) rfl (fun hb => gd_of (c := decide (start2 < m_)) (by first | exact hb | (rw [hb]; rfl) | simp_all) (B (decide (m_ < ((((a + b) / 2) + m_) - start2))))) rfl) ?_;refine s_nil ?_
     refine W.cond ((decide (start2 < m_)) && (decide (m_ < ((((a + b) / 2) + m_) - start2)))) rfl (fun b9 => ?_) (fun b9 => ?_)
     ·replace hM := M.e_t hM b9;refine W.region rfl <| zM aa rfl <| zM (I start2) rfl <| zM (I m_) rfl <| zM (I ((((a + b) / 2) + m_) - start2)) rfl <| zM (.func (.func 104) #[] #[Pq ak]) rfl ?_;obtain ⟨eU, cR, hM⟩ := M.e_bind hM;refine s_call cf126 [aa, I start2, I m_, I ((((a + b) / 2) + m_) - start2), .func (.func 104) #[] #[Pq ak]] rfl (zd8 data start2 m_ ((((a + b) / 2) + m_) - start2) ab ac ae ag ah ai aj am ao aq au av aw ax (aA.app _) aB (aC.app _) aD (aE.app _) aF (aG.app _) aH (aI.app _) aJ (aK.app _) (aL.app _) (aM.app _) aN (aO.app _) aP (aQ.app _) aR (aS.app _) aT (aU.app _) aV (aW.app _) (aX.app _) (aY.app _) cR _ (H.gt 1)) ?_
      rintro vq eV ⟨l_data, rfl, hvq, al⟩
      subst vq;(try dsimp only at hM);replace H := H.bk al;clear al;refine s_nil ?_
      exact ⟨l_data, _, upds_of _ _ ⟨rfl, rfl, rfl, rfl, rfl, rfl, rfl, trivial⟩, hM, H⟩
     replace hM := M.e_f hM b9;refine W.skip ?_
     exact ⟨data, _, upds_of _ _ ⟨rfl, rfl, rfl, rfl, rfl, rfl, rfl, trivial⟩, hM, H⟩
    rintro _ eW ⟨l5, ρ, rfl, hM, H⟩
    unfold za0 at hM
    refine W.seqJ (fun σ W => ∃ (l6 : List Dem) (B_mem4 : Base) (ρ : Env), σ = upds ρ [(0, aa), (3, I b), (4, .func (.func 104) #[] #[Pq ak]), (18, I ((a + b) / 2)), (24, I ((((a + b) / 2) + m_) - start2))] /\ (zaR a m_ b ab ac ae ag ah ai aj am ao aq au av aw ax (M.fixN zan n_) start2 l6).Ends r /\ St w W [cOwn (α := Dem) 61 aa l6, cMem encDm ay B_mem4 (zaa ab ac ae ag ah ai aj)] R) ?_ ?_
    ·skip
     refine W.seq <| W.region rfl <| zM (I a) rfl <| zM (I start2) rfl <| zC a start2 (decide (a < start2)) rfl rfl rfl <| zM (B (decide (a < start2))) rfl <| g_val (decide (a < start2)) (gy_t rfl) (fun hg => x_mv (v := I start2) rfl) <| g_val (decide (a < start2)) (gy_t rfl) (fun hg => x_mv (v := I ((a + b) / 2)) rfl) <| g_val (decide (a < start2)) (gy_t rfl) (fun hg => x_cmp (kd := .i64) (r := decide (start2 < ((a + b) / 2))) (gd_of hg (I start2)) (gd_of hg (I ((a + b) / 2))) rfl) <| s_val (x_pand (b := decide (a < start2)) (r := decide (start2 < ((a + b) / 2))) rfl (fun hb => gd_of (c := decide (a < start2)) (by first | exact hb | (rw [hb]; rfl) | simp_all) (B (decide (start2 < ((a + b) / 2))))) rfl) ?_;refine s_nil ?_
     refine W.cond ((decide (a < start2)) && (decide (start2 < ((a + b) / 2)))) rfl (fun ca => ?_) (fun ca => ?_)
     ·replace hM := M.e_t hM ca;refine W.region rfl <| zM aa rfl <| zM (I a) rfl <| zM (I start2) rfl <| zM (I ((a + b) / 2)) rfl <| zM (.func (.func 104) #[] #[Pq ak]) rfl ?_;obtain ⟨eX, cS, hM⟩ := M.e_bind hM;refine s_call cf114 [aa, I a, I start2, I ((a + b) / 2), .func (.func 104) #[] #[Pq ak]] rfl (ih l5 a start2 ((a + b) / 2) ab ac ae ag ah ai aj am ao aq au av aw ax (aA.app _) aB (aC.app _) aD (aE.app _) aF (aG.app _) aH (aI.app _) aJ (aK.app _) (aL.app _) (aM.app _) aN (aO.app _) aP (aQ.app _) aR (aS.app _) aT (aU.app _) aV (aW.app _) (aX.app _) (aY.app _) cS _ (H.gt 0)) ?_
      rintro vq eY ⟨l_data2, cT, rfl, hvq, al⟩
      subst vq;(try dsimp only at hM);replace H := H.bk al;clear al;refine s_nil ?_
      exact ⟨l_data2, cT, _, upds_of _ _ ⟨rfl, rfl, rfl, rfl, rfl, trivial⟩, hM, H⟩
     replace hM := M.e_f hM ca;refine W.skip ?_
     exact ⟨l5, B_mem3, _, upds_of _ _ ⟨rfl, rfl, rfl, rfl, rfl, trivial⟩, hM, H⟩
    rintro _ eZ ⟨l6, B_mem4, ρ, rfl, hM, H⟩
    unfold zaR at hM
    refine W.seq <| W.region rfl <| zM (I ((a + b) / 2)) rfl <| zM (I ((((a + b) / 2) + m_) - start2)) rfl <| zC ((a + b) / 2) ((((a + b) / 2) + m_) - start2) (decide (((a + b) / 2) < ((((a + b) / 2) + m_) - start2))) rfl rfl rfl <| zM (B (decide (((a + b) / 2) < ((((a + b) / 2) + m_) - start2)))) rfl <| g_val (decide (((a + b) / 2) < ((((a + b) / 2) + m_) - start2))) (gy_t rfl) (fun hg => x_mv (v := I ((((a + b) / 2) + m_) - start2)) rfl) <| g_val (decide (((a + b) / 2) < ((((a + b) / 2) + m_) - start2))) (gy_t rfl) (fun hg => x_mv (v := I b) rfl) <| g_val (decide (((a + b) / 2) < ((((a + b) / 2) + m_) - start2))) (gy_t rfl) (fun hg => x_cmp (kd := .i64) (r := decide (((((a + b) / 2) + m_) - start2) < b)) (gd_of hg (I ((((a + b) / 2) + m_) - start2))) (gd_of hg (I b)) rfl) <| s_val (x_pand (b := decide (((a + b) / 2) < ((((a + b) / 2) + m_) - start2))) (r := decide (((((a + b) / 2) + m_) - start2) < b)) rfl (fun hb => gd_of (c := decide (((a + b) / 2) < ((((a + b) / 2) + m_) - start2))) (by first | exact hb | (rw [hb]; rfl) | simp_all) (B (decide (((((a + b) / 2) + m_) - start2) < b)))) rfl) ?_;refine s_nil ?_
    refine W.cond ((decide (((a + b) / 2) < ((((a + b) / 2) + m_) - start2))) && (decide (((((a + b) / 2) + m_) - start2) < b))) rfl (fun cb => ?_) (fun cb => ?_)
    ·replace hM := M.e_t hM cb;refine W.region rfl <| zM aa rfl <| zM (I ((a + b) / 2)) rfl <| zM (I ((((a + b) / 2) + m_) - start2)) rfl <| zM (I b) rfl <| zM (.func (.func 104) #[] #[Pq ak]) rfl ?_;obtain ⟨e7, cU, hM⟩ := M.e_bind hM;refine s_call cf114 [aa, I ((a + b) / 2), I ((((a + b) / 2) + m_) - start2), I b, .func (.func 104) #[] #[Pq ak]] rfl (ih l6 ((a + b) / 2) ((((a + b) / 2) + m_) - start2) b ab ac ae ag ah ai aj am ao aq au av aw ax (aA.app _) aB (aC.app _) aD (aE.app _) aF (aG.app _) aH (aI.app _) aJ (aK.app _) (aL.app _) (aM.app _) aN (aO.app _) aP (aQ.app _) aR (aS.app _) aT (aU.app _) aV (aW.app _) (aX.app _) (aY.app _) cU _ (H.gt 0)) ?_
     rintro vq e8 ⟨l_data3, cV, rfl, hvq, al⟩
     subst vq;(try dsimp only at hM);replace H := H.bk al;clear al;refine s_nil ?_
     have bc := M.e_pure hM
     exact ⟨_, resE_tmp0 rfl, ⟨l_data3, cV, bc, rfl, H⟩⟩
    replace hM := M.e_f hM cb;refine W.skip ?_
    have bc := M.e_pure hM
    exact ⟨_, resE_tmp0 rfl, ⟨l6, B_mem4, bc, rfl, H⟩⟩
theorem zdL {R : List Chunk} {aj : Value} {ax : Nat} {ay : Nat} {az : Nat} {aA : Cells} {aB : Value} {aC : Cells} {aD : Value} {aE : Cells} {aF : Value} {aG : Cells} {aH : Value} {aI : Cells} {aJ : Value} {ak : Nat} {B_b_cmp2020207 : Base} {aK : Nat} {aL : Nat} {aM : Cells} {aN : Value} {aO : Cells} {aP : Value} {aQ : Cells} {aR : Value} {aS : Cells} {aT : Value} {aU : Cells} {aV : Value} {aW : Nat} (data : List Dem) (a : Int) (m_ : Int) (b : Int) (aa : List Int) (ab : List Span) (ac : List Int) (ae : List Town) (ag : Int) (ah : Int) (ai : List Flood) (al : List Int) (am : List Span) (ao : List Int) (aq : List Town) (au : Int) (av : Int) (aw : List Flood) (aX : Reads R aA) (aY : Sl aA aB aa) (aZ : Reads R aC) (a6 : Sl aC aD ab) (a7 : Reads R aE) (a8 : Sl aE aF ac) (ba : Reads R aG) (bc : Sl aG aH ae) (bf : Reads R aI) (bg : Sl aI aJ ai) (bh : Has R (cBlk az [aB, aD, aF, aH, I ag, I ah, aJ, .map (some ak)] 111)) (bi : Has R (cBlk ay [.func (.func 81) #[Pq az] #[]] 134)) (bj : Reads R aM) (bm : Sl aM aN al) (bn : Reads R aO) (bo : Sl aO aP am) (bp : Reads R aQ) (bq : Sl aQ aR ao) (br : Reads R aS) (bt : Sl aS aT aq) (bu : Reads R aU) (bv : Sl aU aV aw) (bw : Has R (cBlk aL [aN, aP, aR, aT, I au, I av, aV, .map (some aW)] 111)) (bx : Has R (cBlk aK [Pq aL] 94)) (bz : Has R (cBlk ax [.func (.func 102) #[] #[Pq ay, Pq aK]] 146)) {r : (List Dem)} (hM : (zbN data a m_ b aa ab ac ae ag ah ai al am ao aq au av aw).Ends r) (w : World) (H : St w w [cOwn (α := Dem) 61 aj data, cMem encDm ak B_b_cmp2020207 (zaa aa ab ac ae ag ah ai)] R) : Ret Tryz.prog 114 #[aj, I a, I m_, I b, .func (.func 104) #[] #[Pq ax]] w fun v w' => ∃ (y0 : List Dem) (bA : Base), y0 = r /\ v = .tuple #[] /\ St w w' [cOwn (α := Dem) 61 aj y0, cMem encDm ak bA (zaa aa ab ac ae ag ah ai)] R := by
  obtain ⟨n_, hM⟩ := M.e_fix hM
  exact zey n_ data a m_ b aa ab ac ae ag ah ai al am ao aq au av aw aX aY aZ a6 a7 a8 ba bc bf bg bh bi bj bm bn bo bp bq br bt bu bv bw bx bz hM w H

def zcD (n : Int) (aa : List Int) (ab : List Span) (ac : List Int) (ae : List Town) (ag ah : Int) (ai : List Flood) (aj : List Int) (ak : List Span) (al : List Int) (am : List Town) (ao aq : Int) (au : List Flood) : ((List Dem) × Int × Int) -> M (((List Dem) × Int × Int) ⊕ ((List Dem) × Int × (List Dem))) := fun (l, a, b) =>
  bif decide (b <= n) then (
  M.bind (zcm l a b aa ab ac ae ag ah ai aj ak al am ao aq au) fun l_data =>
  M.grd (decide ((-9223372036854775808 : Int) <= (b + 20)) && decide ((b + 20) <= (9223372036854775807 : Int))) <|
  M.pure (.inl (l_data, b, b + 20)))
  else (
  M.pure (.inr (l, a, l)))
def zc0 (n : Int) (aa : List Int) (ab : List Span) (ac : List Int) (ae : List Town) (ag ah : Int) (ai : List Flood) (aj : List Int) (ak : List Span) (al : List Int) (am : List Town) (ao aq : Int) (au : List Flood) (blockSize : Int) : ((List Dem) × Int × Int) -> M (((List Dem) × Int × Int) ⊕ ((List Dem) × Int × (List Dem))) := fun (l4, a3, b2) =>
  bif decide (b2 <= n) then (
  M.grd (decide ((-9223372036854775808 : Int) <= (a3 + blockSize)) && decide ((a3 + blockSize) <= (9223372036854775807 : Int))) <|
  M.bind (zbN l4 a3 (a3 + blockSize) b2 aa ab ac ae ag ah ai aj ak al am ao aq au) fun l_data3 =>
  M.grd (decide ((-9223372036854775808 : Int) <= (b2 + (2 * blockSize))) && decide ((b2 + (2 * blockSize)) <= (9223372036854775807 : Int))) <|
  M.pure (.inl (l_data3, b2, b2 + (2 * blockSize))))
  else (
  M.pure (.inr (l4, a3, l4)))
def zcP (n : Int) (aa : List Int) (ab : List Span) (ac : List Int) (ae : List Town) (ag ah : Int) (ai : List Flood) (aj : List Int) (ak : List Span) (al : List Int) (am : List Town) (ao aq : Int) (au : List Flood) : ((List Dem) × Int) -> M (((List Dem) × Int) ⊕ (List Dem)) := fun (l8, blockSize) =>
  bif decide (blockSize < n) then (
  M.grd (decide ((-9223372036854775808 : Int) <= (2 * blockSize)) && decide ((2 * blockSize) <= (9223372036854775807 : Int))) <|
  M.bind (M.iter (zc0 n aa ab ac ae ag ah ai aj ak al am ao aq au blockSize) (l8, 0, 2 * blockSize)) fun (l5, a4, l6) =>
  M.grd (decide ((-9223372036854775808 : Int) <= (a4 + blockSize)) && decide ((a4 + blockSize) <= (9223372036854775807 : Int))) <|
  bif decide ((a4 + blockSize) < n) then (
  M.bind (zbN l6 a4 (a4 + blockSize) n aa ab ac ae ag ah ai aj ak al am ao aq au) fun l_data4 =>
  M.grd (decide ((-9223372036854775808 : Int) <= (blockSize * 2)) && decide ((blockSize * 2) <= (9223372036854775807 : Int))) <|
  M.pure (.inl (l_data4, blockSize * 2)))
  else (
  M.grd (decide ((-9223372036854775808 : Int) <= (blockSize * 2)) && decide ((blockSize * 2) <= (9223372036854775807 : Int))) <|
  M.pure (.inl (l6, blockSize * 2))))
  else (
  M.pure (.inr l8))
def zcQ (data : List Dem) (n : Int) (aa : List Int) (ab : List Span) (ac : List Int) (ae : List Town) (ag ah : Int) (ai : List Flood) (aj : List Int) (ak : List Span) (al : List Int) (am : List Town) (ao aq : Int) (au : List Flood) : M (List Dem) :=
  M.bind (M.iter (zcD n aa ab ac ae ag ah ai aj ak al am ao aq au) (data, 0, 20)) fun (l2, a2, l3) =>
  M.bind (zcm l3 a2 n aa ab ac ae ag ah ai aj ak al am ao aq au) fun l_data2 =>
  M.bind (M.iter (zcP n aa ab ac ae ag ah ai aj ak al am ao aq au) (l_data2, 20)) fun l9 =>
  M.pure l9
theorem zeC {R : List Chunk} {aa : Value} {ak : Nat} {bg : Nat} {bh : Nat} {bi : Cells} {bj : Value} {bm : Cells} {bn : Value} {bo : Cells} {bp : Value} {bq : Cells} {br : Value} {bt : Cells} {bu : Value} {aC : Nat} {B_b_cmp2020207 : Base} {bv : Nat} {bw : Nat} {bx : Cells} {bz : Value} {bA : Cells} {bB : Value} {bC : Cells} {bD : Value} {bE : Cells} {bF : Value} {bG : Cells} {bH : Value} {bQ : Nat} (data : List Dem) (n : Int) (ab : List Int) (ac : List Span) (ae : List Int) (ag : List Town) (ah : Int) (ai : Int) (aj : List Flood) (am : List Int) (ao : List Span) (aq : List Int) (au : List Town) (av : Int) (aw : Int) (ax : List Flood) (aD : Reads R bi) (aE : Sl bi bj ab) (aF : Reads R bm) (aG : Sl bm bn ac) (aH : Reads R bo) (aI : Sl bo bp ae) (aJ : Reads R bq) (aK : Sl bq br ag) (aL : Reads R bt) (aM : Sl bt bu aj) (aN : Has R (cBlk bh [bj, bn, bp, br, I ah, I ai, bu, .map (some aC)] 111)) (aO : Has R (cBlk bg [.func (.func 81) #[Pq bh] #[]] 134)) (aP : Reads R bx) (aQ : Sl bx bz am) (aR : Reads R bA) (aS : Sl bA bB ao) (aT : Reads R bC) (aU : Sl bC bD aq) (aV : Reads R bE) (aW : Sl bE bF au) (aX : Reads R bG) (aY : Sl bG bH ax) (aZ : Has R (cBlk bw [bz, bB, bD, bF, I av, I aw, bH, .map (some bQ)] 111)) (a6 : Has R (cBlk bv [Pq bw] 94)) (a7 : Has R (cBlk ak [.func (.func 102) #[] #[Pq bg, Pq bv]] 146)) {r : (List Dem)} (hM : (zcQ data n ab ac ae ag ah ai aj am ao aq au av aw ax).Ends r) (w : World) (H : St w w [cOwn (α := Dem) 61 aa data, cMem encDm aC B_b_cmp2020207 (zaa ab ac ae ag ah ai aj)] R) : Ret Tryz.prog 109 #[aa, I n, .func (.func 104) #[] #[Pq ak]] w fun v w' => ∃ (y0 : List Dem) (bR : Base), y0 = r /\ v = .tuple #[] /\ St w w' [cOwn (α := Dem) 61 aa y0, cMem encDm aC bR (zaa ab ac ae ag ah ai aj)] R := by
 refine ret_of_W Tryz.func109 rfl rfl rfl <| W.seq <| W.region rfl <| zA (I 20) rfl <| s_nil <| W.seq <| W.region rfl <| zM (I 20) rfl <| zA (I 0) rfl <| zA (I 20) rfl <| s_nil ?_;refine W.seq <| W.block ?_;obtain ⟨bS, a8, bT⟩ := M.e_bind hM
 obtain ⟨bI, a8⟩ := M.e_iter a8
 refine W.loop (fun m σ W => ∃ (l : List Dem) (a : Int) (b : Int) (B_mem : Base) (ρ : Env), σ = upds ρ [(0, aa), (1, I n), (2, .func (.func 104) #[] #[Pq ak]), (6, I 20), (7, I a), (8, I b)] /\ M.iterN (zcD n ab ac ae ag ah ai aj am ao aq au av aw ax) m (l, a, b) = some bS /\ St w W [cOwn (α := Dem) 61 aa l, cMem encDm aC B_mem (zaa ab ac ae ag ah ai aj)] R) ?_ ?_
 ·exact ⟨_, data, 0, 20, B_b_cmp2020207, _, upds_of _ _ ⟨rfl, rfl, rfl, rfl, rfl, rfl, trivial⟩, a8, H⟩
 rintro co σ cp ⟨l, a, b, B_mem, ρ, rfl, bJ, H⟩
 obtain ⟨bU, bV, cq, hM, bK⟩ := M.e_iterN bJ
 simp only [zcD] at hM
 clear bJ;refine W.seq <| W.seq <| W.region rfl <| zM (I b) rfl <| zM (I n) rfl <| zC b n (decide (b <= n)) rfl rfl rfl <| s_nil ?_
 refine W.cond (decide (b <= n)) rfl (fun ay => ?_) (fun ay => ?_)
 ·replace hM := M.e_t hM ay
  replace ay := dI ay
  refine W.skip <| W.block <| W.seq <| W.region rfl <| zM aa rfl <| zM (I a) rfl <| zM (I b) rfl <| zM (.func (.func 104) #[] #[Pq ak]) rfl ?_;obtain ⟨cu, bW, hM⟩ := M.e_bind hM;refine s_call cf113 [aa, I a, I b, .func (.func 104) #[] #[Pq ak]] rfl (zdR l a b ab ac ae ag ah ai aj am ao aq au av aw ax (aD.app _) aE (aF.app _) aG (aH.app _) aI (aJ.app _) aK (aL.app _) aM (aN.app _) (aO.app _) (aP.app _) aQ (aR.app _) aS (aT.app _) aU (aV.app _) aW (aX.app _) aY (aZ.app _) (a6.app _) (a7.app _) bW _ (H.gt 0)) ?_
  rintro vq cw ⟨l_data, bX, rfl, hvq, al⟩
  subst vq;(try dsimp only at hM);replace H := H.bk al;clear al;refine s_nil <| W.seq <| W.region rfl <| zM (I b) rfl <| zA (I b) rfl <| s_nil <| W.region rfl <| zM (I b) rfl <| zM (I 20) rfl ?_;obtain ⟨cx, hM⟩ := M.e_gd hM;refine zR b 20 (b + 20) rfl rfl rfl (by omega) <| zA (I (b + 20)) rfl <| s_nil ?_
  exact ⟨bU, bV, l_data, b, b + 20, bX, _, upds_of _ _ ⟨rfl, rfl, rfl, rfl, rfl, rfl, trivial⟩, M.e_inl hM bK, H⟩
 replace hM := M.e_f hM ay
 replace ay := dI ay
 refine W.exit ?_
 have bY := M.e_inr hM bK
 subst bY;replace hM := bT;(try dsimp only at hM);refine W.seq <| W.region rfl <| zM aa rfl <| zM (I a) rfl <| zM (I n) rfl <| zM (.func (.func 104) #[] #[Pq ak]) rfl ?_;obtain ⟨cy, bZ, hM⟩ := M.e_bind hM;refine s_call cf113 [aa, I a, I n, .func (.func 104) #[] #[Pq ak]] rfl (zdR l a n ab ac ae ag ah ai aj am ao aq au av aw ax (aD.app _) aE (aF.app _) aG (aH.app _) aI (aJ.app _) aK (aL.app _) aM (aN.app _) (aO.app _) (aP.app _) aQ (aR.app _) aS (aT.app _) aU (aV.app _) aW (aX.app _) aY (aZ.app _) (a6.app _) (a7.app _) bZ _ (H.gt 0)) ?_
 rintro vq cz ⟨l_data2, b4, rfl, hvq, al⟩
 subst vq;(try dsimp only at hM);replace H := H.bk al;clear al;refine s_nil <| W.block ?_;obtain ⟨b7, ba, b8⟩ := M.e_bind hM
 obtain ⟨bI, ba⟩ := M.e_iter ba
 refine W.loop (fun m σ W => ∃ (l8 : List Dem) (blockSize : Int) (B_mem4 : Base) (ρ : Env), σ = upds ρ [(0, aa), (1, I n), (2, .func (.func 104) #[] #[Pq ak]), (6, I blockSize)] /\ M.iterN (zcP n ab ac ae ag ah ai aj am ao aq au av aw ax) m (l8, blockSize) = some b7 /\ St w W [cOwn (α := Dem) 61 aa l8, cMem encDm aC B_mem4 (zaa ab ac ae ag ah ai aj)] R) ?_ ?_
 ·exact ⟨_, l_data2, 20, b4, _, upds_of _ _ ⟨rfl, rfl, rfl, rfl, trivial⟩, ba, H⟩
 rintro cA σ cB ⟨l8, blockSize, B_mem4, ρ, rfl, bL, H⟩
 obtain ⟨bM, bN, cC, hM, bc⟩ := M.e_iterN bL
 simp only [zcP] at hM
 clear bL;refine W.seq <| W.seq <| W.region rfl <| zM (I blockSize) rfl <| zM (I n) rfl <| zC blockSize n (decide (blockSize < n)) rfl rfl rfl <| s_nil ?_
 refine W.cond (decide (blockSize < n)) rfl (fun az => ?_) (fun az => ?_)
 ·replace hM := M.e_t hM az
  replace az := dI az
  refine W.skip <| W.block <| W.seq <| W.region rfl <| zM (I blockSize) rfl ?_;obtain ⟨cD, hM⟩ := M.e_gd hM;refine zR 2 blockSize (2 * blockSize) rfl rfl rfl (by omega) <| zA (I 0) rfl <| zA (I (2 * blockSize)) rfl <| s_nil <| W.seq <| W.block ?_;obtain ⟨b9, bf, ca⟩ := M.e_bind hM
  obtain ⟨bI, bf⟩ := M.e_iter bf
  refine W.loop (fun m σ W => ∃ (l4 : List Dem) (a3 : Int) (b2 : Int) (B_mem2 : Base) (ρ : Env), σ = upds ρ [(0, aa), (1, I n), (2, .func (.func 104) #[] #[Pq ak]), (6, I blockSize), (7, I a3), (8, I b2)] /\ M.iterN (zc0 n ab ac ae ag ah ai aj am ao aq au av aw ax blockSize) m (l4, a3, b2) = some b9 /\ St w W [cOwn (α := Dem) 61 aa l4, cMem encDm aC B_mem2 (zaa ab ac ae ag ah ai aj)] R) ?_ ?_
  ·exact ⟨_, l8, 0, 2 * blockSize, B_mem4, _, upds_of _ _ ⟨rfl, rfl, rfl, rfl, rfl, rfl, trivial⟩, bf, H⟩
  rintro cE σ cF ⟨l4, a3, b2, B_mem2, ρ, rfl, bO, H⟩
  obtain ⟨cb, cc, cG, hM, bP⟩ := M.e_iterN bO
  simp only [zc0] at hM
  clear bO;refine W.seq <| W.seq <| W.region rfl <| zM (I b2) rfl <| zM (I n) rfl <| zC b2 n (decide (b2 <= n)) rfl rfl rfl <| s_nil ?_
  refine W.cond (decide (b2 <= n)) rfl (fun aA => ?_) (fun aA => ?_)
  ·replace hM := M.e_t hM aA
   replace aA := dI aA
   refine W.skip <| W.block <| W.seq <| W.region rfl <| zM aa rfl <| zM (I a3) rfl <| zM (I a3) rfl <| zM (I blockSize) rfl ?_;obtain ⟨cH, hM⟩ := M.e_gd hM;refine zR a3 blockSize (a3 + blockSize) rfl rfl rfl (by omega) <| zM (I b2) rfl <| zM (.func (.func 104) #[] #[Pq ak]) rfl ?_;obtain ⟨cI, ce, hM⟩ := M.e_bind hM;refine s_call cf114 [aa, I a3, I (a3 + blockSize), I b2, .func (.func 104) #[] #[Pq ak]] rfl (zdL l4 a3 (a3 + blockSize) b2 ab ac ae ag ah ai aj am ao aq au av aw ax (aD.app _) aE (aF.app _) aG (aH.app _) aI (aJ.app _) aK (aL.app _) aM (aN.app _) (aO.app _) (aP.app _) aQ (aR.app _) aS (aT.app _) aU (aV.app _) aW (aX.app _) aY (aZ.app _) (a6.app _) (a7.app _) ce _ (H.gt 0)) ?_
   rintro vq cJ ⟨l_data3, cf, rfl, hvq, al⟩
   subst vq;(try dsimp only at hM);replace H := H.bk al;clear al;refine s_nil <| W.seq <| W.region rfl <| zM (I b2) rfl <| zA (I b2) rfl <| s_nil <| W.region rfl <| zM (I b2) rfl <| zM (I blockSize) rfl <| zR 2 blockSize (2 * blockSize) rfl rfl rfl (by omega) ?_;obtain ⟨cK, hM⟩ := M.e_gd hM;refine zR b2 (2 * blockSize) (b2 + (2 * blockSize)) rfl rfl rfl (by omega) <| zA (I (b2 + (2 * blockSize))) rfl <| s_nil ?_
   exact ⟨cb, cc, l_data3, b2, b2 + (2 * blockSize), cf, _, upds_of _ _ ⟨rfl, rfl, rfl, rfl, rfl, rfl, trivial⟩, M.e_inl hM bP, H⟩
  replace hM := M.e_f hM aA
  replace aA := dI aA
  refine W.exit ?_
  have cg := M.e_inr hM bP
  subst cg;replace hM := ca;(try dsimp only at hM);refine W.seq <| W.seq <| W.region rfl <| zM (I a3) rfl <| zM (I blockSize) rfl ?_;obtain ⟨cL, hM⟩ := M.e_gd hM;refine zR a3 blockSize (a3 + blockSize) rfl rfl rfl (by omega) <| zA (I (a3 + blockSize)) rfl <| s_nil <| W.seq <| W.region rfl <| zM (I (a3 + blockSize)) rfl <| zM (I n) rfl <| zC (a3 + blockSize) n (decide ((a3 + blockSize) < n)) rfl rfl rfl <| s_nil ?_
  refine W.cond (decide ((a3 + blockSize) < n)) rfl (fun aB => ?_) (fun aB => ?_)
  ·replace hM := M.e_t hM aB
   replace aB := dI aB
   refine W.region rfl <| zM aa rfl <| zM (I a3) rfl <| zM (I (a3 + blockSize)) rfl <| zM (I n) rfl <| zM (.func (.func 104) #[] #[Pq ak]) rfl ?_;obtain ⟨cM, ck, hM⟩ := M.e_bind hM;refine s_call cf114 [aa, I a3, I (a3 + blockSize), I n, .func (.func 104) #[] #[Pq ak]] rfl (zdL l4 a3 (a3 + blockSize) n ab ac ae ag ah ai aj am ao aq au av aw ax (aD.app _) aE (aF.app _) aG (aH.app _) aI (aJ.app _) aK (aL.app _) aM (aN.app _) (aO.app _) (aP.app _) aQ (aR.app _) aS (aT.app _) aU (aV.app _) aW (aX.app _) aY (aZ.app _) (a6.app _) (a7.app _) ck _ (H.gt 0)) ?_
   rintro vq cN ⟨l_data4, cl, rfl, hvq, al⟩
   subst vq;(try dsimp only at hM);replace H := H.bk al;clear al;refine s_nil <| W.region rfl <| zM (I blockSize) rfl ?_;obtain ⟨cO, hM⟩ := M.e_gd hM;refine zR blockSize 2 (blockSize * 2) rfl rfl rfl (by omega) <| zA (I (blockSize * 2)) rfl <| s_nil ?_
   exact ⟨bM, bN, l_data4, blockSize * 2, cl, _, upds_of _ _ ⟨rfl, rfl, rfl, rfl, trivial⟩, M.e_inl hM bc, H⟩
  replace hM := M.e_f hM aB
  replace aB := dI aB
  refine W.skip <| W.region rfl <| zM (I blockSize) rfl ?_;obtain ⟨cP, hM⟩ := M.e_gd hM;refine zR blockSize 2 (blockSize * 2) rfl rfl rfl (by omega) <| zA (I (blockSize * 2)) rfl <| s_nil ?_
  exact ⟨bM, bN, l4, blockSize * 2, B_mem2, _, upds_of _ _ ⟨rfl, rfl, rfl, rfl, trivial⟩, M.e_inl hM bc, H⟩
 replace hM := M.e_f hM az
 replace az := dI az
 refine W.exit ?_
 have cm := M.e_inr hM bc
 subst cm;replace hM := b8;(try dsimp only at hM)
 have cn := M.e_pure hM
 exact ⟨_, resE_tmp0 rfl, ⟨l8, B_mem4, cn, rfl, H⟩⟩

def zc5 (x : List Dem) (aa : List Int) (ab : List Span) (ac : List Int) (ae : List Town) (ag ah : Int) (ai : List Flood) (aj : List Int) (ak : List Span) (al : List Int) (am : List Town) (ao aq : Int) (au : List Flood) : M (List Dem) :=
  M.bind (zcQ x (x.length : Int) aa ab ac ae ag ah ai aj ak al am ao aq au) fun l_data =>
  M.pure l_data
theorem zes {R : List Chunk} {aa : Value} {ak : Nat} {ay : Nat} {az : Nat} {aA : Cells} {aB : Value} {aC : Cells} {aD : Value} {aE : Cells} {aF : Value} {aG : Cells} {aH : Value} {aI : Cells} {aJ : Value} {al : Nat} {B_b_cmp2020207 : Base} {aK : Nat} {aL : Nat} {aM : Cells} {aN : Value} {aO : Cells} {aP : Value} {aQ : Cells} {aR : Value} {aS : Cells} {aT : Value} {aU : Cells} {aV : Value} {aX : Nat} (x : List Dem) (ab : List Int) (ac : List Span) (ae : List Int) (ag : List Town) (ah : Int) (ai : Int) (aj : List Flood) (am : List Int) (ao : List Span) (aq : List Int) (au : List Town) (av : Int) (aw : Int) (ax : List Flood) (aY : Reads R aA) (aZ : Sl aA aB ab) (a6 : Reads R aC) (a7 : Sl aC aD ac) (a8 : Reads R aE) (ba : Sl aE aF ae) (bc : Reads R aG) (bf : Sl aG aH ag) (bg : Reads R aI) (bh : Sl aI aJ aj) (bi : Has R (cBlk az [aB, aD, aF, aH, I ah, I ai, aJ, .map (some al)] 111)) (bj : Has R (cBlk ay [.func (.func 81) #[Pq az] #[]] 134)) (bm : Reads R aM) (bn : Sl aM aN am) (bo : Reads R aO) (bp : Sl aO aP ao) (bq : Reads R aQ) (br : Sl aQ aR aq) (bt : Reads R aS) (bu : Sl aS aT au) (bv : Reads R aU) (bw : Sl aU aV ax) (bx : Has R (cBlk aL [aN, aP, aR, aT, I av, I aw, aV, .map (some aX)] 111)) (bz : Has R (cBlk aK [Pq aL] 94)) (bA : Has R (cBlk ak [.func (.func 102) #[] #[Pq ay, Pq aK]] 146)) {r : (List Dem)} (hM : (zc5 x ab ac ae ag ah ai aj am ao aq au av aw ax).Ends r) (w : World) (H : St w w [cOwn (α := Dem) 61 aa x, cMem encDm al B_b_cmp2020207 (zaa ab ac ae ag ah ai aj)] R) : Ret Tryz.prog 103 #[aa, .func (.func 104) #[] #[Pq ak]] w fun v w' => ∃ (y0 : List Dem) (bB : Base), y0 = r /\ v = .tuple #[] /\ St w w' [cOwn (α := Dem) 61 aa y0, cMem encDm al bB (zaa ab ac ae ag ah ai aj)] R := by
 refine ret_of_W Tryz.func103 rfl rfl rfl <| W.region rfl <| zM aa rfl <| zM aa rfl ?_
 have bF := ((H.os 0)).len_le
 refine s_val (x_lenS T62.und rfl (H.os 0)) <| zM (.func (.func 104) #[] #[Pq ak]) rfl ?_;obtain ⟨bG, bC, hM⟩ := M.e_bind hM;refine s_call cf109 [aa, I (x.length : Int), .func (.func 104) #[] #[Pq ak]] rfl (zeC x (x.length : Int) ab ac ae ag ah ai aj am ao aq au av aw ax (aY.app _) aZ (a6.app _) a7 (a8.app _) ba (bc.app _) bf (bg.app _) bh (bi.app _) (bj.app _) (bm.app _) bn (bo.app _) bp (bq.app _) br (bt.app _) bu (bv.app _) bw (bx.app _) (bz.app _) (bA.app _) bC _ (H.gt 0)) ?_
 rintro vq bH ⟨l_data, bD, rfl, hvq, aW⟩
 subst vq;(try dsimp only at hM);replace H := H.bk aW;clear aW;refine s_nil ?_
 have bE := M.e_pure hM
 exact ⟨_, resE_tmp0 rfl, ⟨l_data, bD, bE, rfl, H⟩⟩

end Go.Proofs.YtbaehghammbjdaaGreat
end
section
set_option maxRecDepth 100000
set_option maxHeartbeats 16000000
namespace Go.Proofs.YtbaehghammbjdaaGreat
open Go Go.Nm
def zbB (ar : List Bool) (r4 : List Int) : Nat -> M (Nat ⊕ (Unit ⊕ Unit)) := fun s =>
  bif decide ((s : Int) < (r4.length : Int)) then (
  M.grd (decide ((s : Int) < (r4.length : Int))) <|
  M.grd (decide ((0 : Int) <= (r4.getD s 0)) && decide ((r4.getD s 0) < (12 : Int))) <|
  bif ar.getD (Int.toNat (r4.getD s 0)) false then (
  M.pure (.inr (.inl ())))
  else (
  M.pure (.inl (s + 1))))
  else (
  M.pure (.inr (.inr ())))
def zbz (aa : List Int) (ab : List Span) (ac : List Int) (ae : List Town) (ag ah : Int) (ai : List Flood) (l_x : List Dem) : (Nat × (List Bool) × (List Int) × (List Dem)) -> M ((Nat × (List Bool) × (List Int) × (List Dem)) ⊕ ((List Int) × (List Dem) × (List Int) × (List Dem) × (List Bool))) := fun (s2, ar, l, l2) =>
  bif decide ((s2 : Int) < (l_x.length : Int)) then (
  M.grd (decide ((s2 : Int) < (l_x.length : Int))) <|
  M.bind (zaa aa ab ac ae ag ah ai (l_x.getD s2 default)) fun r4 =>
  M.bind (M.iter (zbB ar r4) 0) fun x_ => match x_ with
  | (.inl (_ : Unit)) => (
  M.pure (.inl (s2 + 1, ar, l, l2)))
  | (.inr (_ : Unit)) => (
  M.grd (decide ((0 : Int) <= ((r4.length : Int) - 1)) && decide (((r4.length : Int) - 1) < (r4.length : Int))) <|
  M.grd (decide ((0 : Int) <= (r4.getD (Int.toNat ((r4.length : Int) - 1)) 0)) && decide ((r4.getD (Int.toNat ((r4.length : Int) - 1)) 0) < (12 : Int))) <|
  M.grd (decide ((l.length + ([(r4.getD (Int.toNat ((r4.length : Int) - 1)) 0 : Int)]).length) * 8 <= 140737488355328)) <|
  M.grd (decide ((l2.length + ([(l_x.getD s2 default)]).length) * 16 <= 140737488355328)) <|
  M.pure (.inl (s2 + 1, ar.set (Int.toNat (r4.getD (Int.toNat ((r4.length : Int) - 1)) 0)) true, l ++ ([(r4.getD (Int.toNat ((r4.length : Int) - 1)) 0 : Int)]), l2 ++ ([(l_x.getD s2 default)])))))
  else (
  M.pure (.inr (l, l2, l, l2, ar)))
def zaz (aa : List Int) (ab : List Span) (ac : List Int) (ae : List Town) (ag ah : Int) (ai : List Flood) : M ((List Int) × (List Dem) × Bool) :=
  M.bind (zao aa ab ac ae ag ah ai) fun r2 =>
  M.bind (zcV r2 aa ab ac ae ag ah ai) fun r3 =>
  bif !r3 then (
  M.pure (([]), ([]), false))
  else (
  M.bind (zc5 r2 aa ab ac ae ag ah ai aa ab ac ae ag ah ai) fun l_x =>
  M.bind (M.iter (zbz aa ab ac ae ag ah ai l_x) (0, List.replicate 12 false, [], [])) fun (l3, l4, l5, l6, aj) =>
  M.grd (decide (l5.length <= 1000000)) <|
  M.pure ((isort l5), l6, true))
theorem zd2 {R : List Chunk} {aa : Nat} {aZ : Cells} {a6 : Value} {a7 : Cells} {a8 : Value} {ba : Cells} {bc : Value} {bf : Cells} {bg : Value} {bh : Cells} {bi : Value} {av : Nat} {bC : Base} (ab : List Int) (ac : List Span) (ae : List Int) (ag : List Town) (ah : Int) (ai : Int) (aj : List Flood) (aB : Reads R aZ) (aC : Sl aZ a6 ab) (aD : Reads R a7) (aE : Sl a7 a8 ac) (aF : Reads R ba) (aG : Sl ba bc ae) (aH : Reads R bf) (aI : Sl bf bg ag) (aJ : Reads R bh) (aK : Sl bh bi aj) (aL : Has R (cBlk aa [a6, a8, bc, bg, I ah, I ai, bi, .map (some av)] 111)) {r : ((List Int) × (List Dem) × Bool)} (hM : (zaz ab ac ae ag ah ai aj).Ends r) (w : World) (H : St w w [cMem encDm av bC (zaa ab ac ae ag ah ai aj)] R) : Ret Tryz.prog 89 #[Pq aa] w fun v w' => ∃ (y0 : List Int) (y1 : List Dem) (y2 : Bool) (u0 : Value) (u1 : Value) (bD : Base), (y0, y1, y2) = r /\ v = .tuple #[u0, u1, B y2] /\ St w w' [cOwn (α := Int) 3 u0 y0, cOwn (α := Dem) 61 u1 y1, cMem encDm av bD (zaa ab ac ae ag ah ai aj)] R := by
 refine ret_of_W Tryz.func89 rfl rfl rfl <| W.seq <| W.region rfl ?_;refine t_b1 (Pq aa) H rfl rfl ?_;intro aR b4 H;refine zA (.slice none 0 0) rfl <| zA (.slice none 0 0) rfl <| zA (B false) rfl <| s_nil <| W.scope <| W.seq <| W.region rfl <| s_val (x_ld (v := Pq aa) rfl (ldb_sc Sc94 (H.bl 0) rfl)) ?_;obtain ⟨b7, bE, hM⟩ := M.e_bind hM;refine s_call cf77 [Pq aa] rfl (zc1 ab ac ae ag ah ai aj (aB.app _) aC (aD.app _) aE (aF.app _) aG (aH.app _) aI (aJ.app _) aK (aL.app _) bE _ (H.gt 2)) ?_
 rintro vq b8 ⟨r2, al, rfl, hvq, ao⟩
 subst vq;(try dsimp only at hM);replace H := H.bk ao;clear ao;refine zA al rfl <| s_nil <| W.seq <| W.region rfl <| s_val (x_ld (v := Pq aa) rfl (ldb_sc Sc94 (H.bl 1) rfl)) <| s_val (x_mf (fs := [Pq aa]) (cs := []) rfl rfl) ?_;refine t_alloc (cs := [.nilFunc]) H Al134 rfl ?_;intro aq b9 H;refine t_sw 0 0 [.func (.func 81) #[Pq aa] #[]] (.func (.func 81) #[Pq aa] #[]) H rfl rfl Sz134 rfl rfl rfl rfl ?_;intro ca H;refine s_nil <| W.seq <| W.seq <| W.region rfl <| zM al rfl <| s_val (x_mf (fs := []) (cs := [Pq aq]) rfl rfl) ?_;obtain ⟨cb, bF, hM⟩ := M.e_bind hM;refine s_call cf90 [al, .func (.func 101) #[] #[Pq aq]] rfl (zeh r2 ab ac ae ag ah ai aj (rdo 1) (H.os 1) (aB.app _) aC (aD.app _) aE (aF.app _) aG (aH.app _) aI (aJ.app _) aK (aL.app _) (Has.here (k := 0) rfl) bF _ ((H.pk [3, 0, 1, 2]).gt 3)) ?_
 rintro vq cc ⟨r3, bG, rfl, hvq, ao⟩
 subst vq;(try dsimp only at hM)
 replace H := H.pk [3, 0, 1, 2] |>.bk ao
 clear ao;refine s_val (x_not (b := r3) rfl) <| s_nil ?_
 refine W.cond (!r3) rfl (fun aS => ?_) (fun aS => ?_)
 ·replace hM := M.e_t hM aS;refine W.seq <| W.region rfl <| zA (.slice none 0 0) rfl <| zA (.slice none 0 0) rfl <| zA (B false) rfl <| s_nil ?_;replace H := H.pk [0];refine W.ret ?_
  have aT := M.e_pure hM
  replace H := H.nilOwn (α := Int) 3
  replace H := H.nilOwn (α := Dem) 61
  exact ⟨_, resE_tmp3 rfl, ⟨([]), ([]), false, (.slice none 0 0), (.slice none 0 0), bG, aT, rfl, (H.pk [1, 0, 2])⟩⟩
 replace hM := M.e_f hM aS;refine W.skip <| W.seq <| W.region rfl <| s_val (x_mf (fs := []) (cs := [Pq aq, Pq aR]) rfl rfl) ?_;refine t_alloc (cs := [.nilFunc]) H Al146 rfl ?_;intro bj ce H;refine t_sw 0 0 [.func (.func 102) #[] #[Pq aq, Pq aR]] (.func (.func 102) #[] #[Pq aq, Pq aR]) H rfl rfl Sz146 rfl rfl rfl rfl ?_;intro cf H;refine s_nil <| W.seq <| W.region rfl <| zM al rfl <| s_val (x_mf (fs := []) (cs := [Pq bj]) rfl rfl) ?_;obtain ⟨cg, bH, hM⟩ := M.e_bind hM;refine s_call cf103 [al, .func (.func 104) #[] #[Pq bj]] rfl (zes r2 ab ac ae ag ah ai aj ab ac ae ag ah ai aj (aB.app _) aC (aD.app _) aE (aF.app _) aG (aH.app _) aI (aJ.app _) aK (aL.app _) (Has.here (k := 1) rfl) (aB.app _) aC (aD.app _) aE (aF.app _) aG (aH.app _) aI (aJ.app _) aK (aL.app _) (Has.here (k := 2) rfl) (Has.here (k := 0) rfl) bH _ ((H.pk [3, 1, 0, 2, 4]).gt 3)) ?_
 rintro vq ck ⟨l_x, bI, rfl, hvq, ao⟩
 subst vq;(try dsimp only at hM)
 replace H := H.pk [3, 1, 0, 2, 4] |>.bk ao
 clear ao;refine s_nil ?_;replace H := H.pk [0, 1, 3];refine W.seq <| W.region rfl ?_;refine t_alloc (cs := encB (List.replicate 12 false)) H Al96 rfl ?_;intro au cl H
 have bJ : (List.replicate 12 false).length = 12 := by simp
 refine s_nil <| W.seq <| W.region rfl <| zA (.slice none 0 0) rfl <| s_nil <| W.seq <| W.region rfl <| zA (.slice none 0 0) rfl <| s_nil <| W.seq ?_;refine W.label <| W.seq <| W.seq <| W.region rfl <| zM al rfl ?_
 have cm := ((H.os 1)).len_le
 refine s_val (x_lenS T62.und rfl (H.os 1)) <| zM (I 0) rfl <| s_nil <| W.block ?_
 replace H := H.nilOwn (α := Dem) 61
 replace H := H.nilOwn (α := Int) 3
 obtain ⟨bK, aU, bL⟩ := M.e_bind hM
 obtain ⟨bM, aU⟩ := M.e_iter aU
 refine W.loop (fun m σ W => ∃ (s2 : Nat) (ar : List Bool) (l : List Int) (l2 : List Dem) (ak : Value) (am : Value) (B_mem : Base) (ρ : Env), σ = upds ρ [(6, Pq aq), (8, Pq au), (9, ak), (10, am), (29, al), (30, I (l_x.length : Int)), (31, I (s2 : Int))] /\ M.iterN (zbz ab ac ae ag ah ai aj l_x) m (s2, ar, l, l2) = some bK /\ St w W [cOwn (α := Int) 3 ak l, cOwn (α := Dem) 61 am l2, cBlk au (encB ar) 96, cOwn (α := Dem) 61 al l_x, cMem encDm av B_mem (zaa ab ac ae ag ah ai aj), cBlk aq [.func (.func 81) #[Pq aa] #[]] 134] R /\ ar.length = 12) ?_ ?_
 ·exact ⟨_, 0, List.replicate 12 false, [], [], (.slice none 0 0), (.slice none 0 0), bI, _, upds_of _ _ ⟨rfl, rfl, rfl, rfl, rfl, rfl, rfl, trivial⟩, aU, H, bJ⟩
 rintro cn σ co ⟨s2, ar, l, l2, ak, am, B_mem, ρ, rfl, bm, H, aN⟩
 obtain ⟨aO, aP, cp, hM, aM⟩ := M.e_iterN bm
 simp only [zbz] at hM
 clear bm;refine W.seq <| W.region rfl <| zC (s2 : Int) (l_x.length : Int) (decide ((s2 : Int) < (l_x.length : Int))) rfl rfl rfl <| s_nil <| W.seq ?_
 refine W.cond (decide ((s2 : Int) < (l_x.length : Int))) rfl (fun ay => ?_) (fun ay => ?_)
 ·replace hM := M.e_t hM ay
  replace ay := dI ay
  refine W.skip <| W.seq <| W.block <| W.seq <| W.region rfl ?_;obtain ⟨cq, hM⟩ := M.e_gd hM;refine s_val (x_ix (v := vat al 2 (Int.toNat (s2 : Int))) rfl rfl (Sl.ix (α := Dem) T62.und T62.size (H.os 3) (by omega) (by omega))) <| s_val (x_ld (v := .agg #[I ((l_x.getD s2 default).spring), I ((l_x.getD s2 default).town)]) rfl (ld_ag Ag61 Sz61 (At.mono (Dem_atA (H.os 3) (i := (s2 : Int)) (by omega) (by omega)) (H.ol 3)))) ?_;refine t_alloc (cs := [I 0, I 0]) H Al61 rfl ?_;intro aQ cu H;refine t_sw 0 0 [I ((l_x.getD s2 default).spring), I ((l_x.getD s2 default).town)] (.agg #[I ((l_x.getD s2 default).spring), I ((l_x.getD s2 default).town)]) H rfl rfl Sz61 rfl rfl rfl rfl ?_;intro cw H;refine s_nil <| W.seq <| W.region rfl <| s_val (x_ld (v := .func (.func 81) #[Pq aa] #[]) rfl (ldb_sc Sc134 (H.bl 6) rfl)) <| s_val (x_ld (v := .agg #[I ((l_x.getD s2 default).spring), I ((l_x.getD s2 default).town)]) rfl (ldb_ag (ds := [I ((l_x.getD s2 default).spring), I ((l_x.getD s2 default).town)]) Ag61 Sz61 (H.bl 0) rfl rfl)) ?_;obtain ⟨cx, bN, hM⟩ := M.e_bind hM;refine s_callm (f := 81) (fs := [Pq aa]) rfl cf81 [.agg #[I ((l_x.getD s2 default).spring), I ((l_x.getD s2 default).town)]] rfl (zbH ab ac ae ag ah ai aj (l_x.getD s2 default) (aB.app _) aC (aD.app _) aE (aF.app _) aG (aH.app _) aI (aJ.app _) aK (aL.app _) bN _ ((H.pk [5, 0, 1, 2, 3, 4, 6]).gt 6)) ?_
  rintro vq cy ⟨r4, aw, az, rfl, hvq, ao, ax⟩
  subst vq;(try dsimp only at hM)
  replace H := H.pk [5, 0, 1, 2, 3, 4, 6] |>.bk ao
  clear ao;refine zA aw rfl <| s_nil <| W.seq <| W.seq <| W.region rfl <| zM aw rfl ?_
  have cz := (ax).len_le
  refine s_val (x_lenS T22.und rfl ax) <| zM (I 0) rfl <| s_nil <| W.block ?_;obtain ⟨bO, aV, bn⟩ := M.e_bind hM
  obtain ⟨bM, aV⟩ := M.e_iter aV
  refine W.loop (fun m σ W => ∃ (s : Nat) (ρ : Env), σ = upds ρ [(6, Pq aq), (8, Pq au), (9, ak), (10, am), (12, Pq aQ), (13, aw), (29, al), (30, I (l_x.length : Int)), (31, I (s2 : Int)), (38, aw), (39, I (r4.length : Int)), (40, I (s : Int))] /\ M.iterN (zbB ar r4) m s = some bO /\ St w W [cMem encDm av az (zaa ab ac ae ag ah ai aj), cBlk aQ [I ((l_x.getD s2 default).spring), I ((l_x.getD s2 default).town)] 61, cOwn (α := Int) 3 ak l, cOwn (α := Dem) 61 am l2, cBlk au (encB ar) 96, cOwn (α := Dem) 61 al l_x, cBlk aq [.func (.func 81) #[Pq aa] #[]] 134] R) ?_ ?_
  ·exact ⟨_, 0, _, upds_of _ _ ⟨rfl, rfl, rfl, rfl, rfl, rfl, rfl, rfl, rfl, rfl, rfl, rfl, trivial⟩, aV, H⟩
  rintro cA σ cB ⟨s, ρ, rfl, bo, H⟩
  obtain ⟨bP, bQ, cC, hM, aW⟩ := M.e_iterN bo
  simp only [zbB] at hM
  clear bo;refine W.seq <| W.region rfl <| zC (s : Int) (r4.length : Int) (decide ((s : Int) < (r4.length : Int))) rfl rfl rfl <| s_nil <| W.seq ?_
  refine W.cond (decide ((s : Int) < (r4.length : Int))) rfl (fun aA => ?_) (fun aA => ?_)
  ·replace hM := M.e_t hM aA
   replace aA := dI aA
   refine W.skip <| W.seq <| W.block <| W.seq <| W.region rfl ?_;obtain ⟨cD, hM⟩ := M.e_gd hM;refine s_val (x_ix (v := vat aw 1 (Int.toNat (s : Int))) rfl rfl (Sl.ix (α := Int) T22.und T22.size ax (by omega) (by omega))) <| s_val (x_ld (v := I (r4.getD s 0)) rfl (ld_sc Sc3 (At.mono (Int_at ax (i := (s : Int)) (by omega) (by omega)) (memLe _ (H.get (k := 0) rfl))))) <| zA (I (r4.getD s 0)) rfl <| s_nil <| W.seq <| W.region rfl <| zM (I (r4.getD s 0)) rfl ?_;obtain ⟨cE, hM⟩ := M.e_gd hM;refine s_val (x_ix (v := .pointer (some ⟨au, 0 + Int.toNat (r4.getD s 0), none⟩)) rfl rfl (run_indexArr Tryz.underlying96 Sz4 (by omega) (by omega))) <| s_val (x_ld (v := B (ar.getD (Int.toNat (r4.getD s 0)) false)) rfl (ldArr Sc4 (H.bl 4) (by omega) (by have bR := aN; omega))) <| s_nil ?_
   refine W.cond (ar.getD (Int.toNat (r4.getD s 0)) false) rfl (fun aX => ?_) (fun aX => ?_)
   ·replace hM := M.e_t hM aX;refine W.exit ?_
    have bS := M.e_inr hM aW
    subst bS;replace hM := bn;(try dsimp only at hM);refine W.region rfl <| zR (s2 : Int) 1 ((s2 : Int) + 1) rfl rfl rfl (by omega) <| zM (I ((s2 : Int) + 1)) rfl <| s_nil ?_
    exact ⟨aO, aP, s2 + 1, ar, l, l2, ak, am, az, _, upds_of _ _ ⟨rfl, rfl, rfl, rfl, rfl, rfl, rfl, trivial⟩, M.e_inl hM aM, (H.pk [2, 3, 4, 5, 0, 6]), aN⟩
   replace hM := M.e_f hM aX;refine W.skip <| W.region rfl <| zR (s : Int) 1 ((s : Int) + 1) rfl rfl rfl (by omega) <| zM (I ((s : Int) + 1)) rfl <| s_nil ?_
   exact ⟨bP, bQ, s + 1, _, upds_of _ _ ⟨rfl, rfl, rfl, rfl, rfl, rfl, rfl, rfl, rfl, rfl, rfl, rfl, trivial⟩, M.e_inl hM aW, H⟩
  replace hM := M.e_f hM aA
  replace aA := dI aA
  refine W.exit ?_
  have bT := M.e_inr hM aW
  subst bT;replace hM := bn;(try dsimp only at hM);refine W.seq <| W.region rfl <| zM aw rfl <| zM aw rfl ?_
  have cF := (ax).len_le
  refine s_val (x_lenS T22.und rfl ax) <| zR (r4.length : Int) 1 ((r4.length : Int) - 1) rfl rfl rfl (by omega) ?_;obtain ⟨cG, hM⟩ := M.e_gd hM;refine s_val (x_ix (v := vat aw 1 (Int.toNat ((r4.length : Int) - 1))) rfl rfl (Sl.ix (α := Int) T22.und T22.size ax (by omega) (by omega))) <| s_val (x_ld (v := I (r4.getD (Int.toNat ((r4.length : Int) - 1)) 0)) rfl (ld_sc Sc3 (At.mono (Int_at ax (i := (r4.length : Int) - 1) (by omega) (by omega)) (memLe _ (H.get (k := 0) rfl))))) <| zA (I (r4.getD (Int.toNat ((r4.length : Int) - 1)) 0)) rfl <| s_nil <| W.seq <| W.region rfl <| zM (I (r4.getD (Int.toNat ((r4.length : Int) - 1)) 0)) rfl ?_;obtain ⟨cH, hM⟩ := M.e_gd hM;refine s_val (x_ix (v := .pointer (some ⟨au, 0 + Int.toNat (r4.getD (Int.toNat ((r4.length : Int) - 1)) 0), none⟩)) rfl rfl (run_indexArr Tryz.underlying96 Sz4 (by omega) (by omega))) ?_;refine t_stArr (k := 4) (b := au) (l := ar) (l' := ar.set (Int.toNat (r4.getD (Int.toNat ((r4.length : Int) - 1)) 0)) true) (i := r4.getD (Int.toNat ((r4.length : Int) - 1)) 0) (v := true) (L' := [cMem encDm av az (zaa ab ac ae ag ah ai aj), cBlk aQ [I ((l_x.getD s2 default).spring), I ((l_x.getD s2 default).town)] 61, cOwn (α := Int) 3 ak l, cOwn (α := Dem) 61 am l2, cBlk au (encB (ar.set (Int.toNat (r4.getD (Int.toNat ((r4.length : Int) - 1)) 0)) true)) 96, cOwn (α := Dem) 61 al l_x, cBlk aq [.func (.func 81) #[Pq aa] #[]] 134]) H rfl rfl rfl Sz4 (by omega) (by have bR := aN; omega) rfl rfl ?_;intro cI H
  have aY : (ar.set (Int.toNat (r4.getD (Int.toNat ((r4.length : Int) - 1)) 0)) true).length = 12 := List.length_set.trans aN
  refine s_nil ?_;refine W.drawT (fun W => St w W [cMem encDm av az (zaa ab ac ae ag ah ai aj), cBlk aQ [I ((l_x.getD s2 default).spring), I ((l_x.getD s2 default).town)] 61, cBlk au (encB (ar.set (Int.toNat (r4.getD (Int.toNat ((r4.length : Int) - 1)) 0)) true)) 96, cOwn (α := Dem) 61 al l_x, cBlk aq [.func (.func 81) #[Pq aa] #[]] 134] R) (.q 0 (.q 1 (.q 4 (.q 5 (.l2 2 (.l2 3 (.l 6 (.l 7 (.q 8 (.q 9 .nil)))) 6 (.l 3 (.l 7 (.q 8 (.q 9 .nil))))) 6 (.l 2 (.l 3 (.l 7 (.q 8 (.q 9 .nil)))))))))) mixed (by decide +kernel) rfl ?_;intro cJ bp;replace H := H.ext bp;clear bp
  refine ⟨(H.pk [0, 1, 4, 5, 6]), ?_⟩
  refine t_q rfl (fun w' H => x_mv (v := ak) rfl) <| t_q rfl (fun w' H => x_mv (v := I (r4.getD (Int.toNat ((r4.length : Int) - 1)) 0)) rfl) <| t_q rfl (fun w' H => x_mv (v := am) rfl) <| t_q rfl (fun w' H => x_ld (v := .agg #[I ((l_x.getD s2 default).spring), I ((l_x.getD s2 default).town)]) rfl (ldb_ag (ds := [I ((l_x.getD s2 default).spring), I ((l_x.getD s2 default).town)]) Ag61 Sz61 (H.bl 1) rfl rfl)) ?_;obtain ⟨cK, hM⟩ := M.e_gd hM;obtain ⟨cL, hM⟩ := M.e_gd hM;refine t_l2 rfl rfl ?_ ?_
  ·skip
   refine t_bs (α := Int) T22 [I (r4.getD (Int.toNat ((r4.length : Int) - 1)) 0)] [(r4.getD (Int.toNat ((r4.length : Int) - 1)) 0 : Int)] H rfl (.cons rfl (Flat.rep_enc _ (r4.getD (Int.toNat ((r4.length : Int) - 1)) 0 : Int)) <| .nil) rfl rfl rfl ?_;intro bq cM H
   have cN := Sl.cells (H.os 0)
   have cO := Sl.oc (H.os 0)
   have cP := Sl.cells (H.os 3)
   have cQ := Sl.oc (H.os 3)
   have cR := Sl.cells (H.os 4)
   have cS := Sl.oc (H.os 4)
   refine s_nil ⟨(H.pk [1, 2, 5, 6, 7]), ?_⟩
   refine t_l2 rfl rfl ?_ ?_
   ·skip
    refine t_app (α := Int) (k := 3) (l := l) (l2 := [(r4.getD (Int.toNat ((r4.length : Int) - 1)) 0 : Int)]) (l' := l ++ ([(r4.getD (Int.toNat ((r4.length : Int) - 1)) 0 : Int)])) (vy := bq) T22 rfl H rfl rfl rfl (H.os 0) (H.ol 0) (rfl) (by first | omega | (simp only [List.length_nil] at *; omega)) ?_;intro br cT H;replace H := H.nf
    have cU := Sl.cells (H.os 3)
    have cV := Sl.oc (H.os 3)
    refine s_nil ⟨(H.pk [1, 2, 5, 6, 7]), ?_⟩
    refine t_l rfl ?_;refine t_bs (α := Dem) T62 [.agg #[I ((l_x.getD s2 default).spring), I ((l_x.getD s2 default).town)]] [(l_x.getD s2 default)] H rfl (.cons rfl (Flat.rep_enc _ (l_x.getD s2 default)) <| .nil) rfl rfl rfl ?_;intro bU cW H
    have cX := Sl.cells (H.os 0)
    have cY := Sl.oc (H.os 0)
    refine s_nil ⟨(H.pk [2, 3, 6, 7, 8]), ?_⟩
    refine t_l rfl ?_;refine t_app (α := Dem) (k := 5) (l := l2) (l2 := [(l_x.getD s2 default)]) (l' := l2 ++ ([(l_x.getD s2 default)])) (vy := bU) T62 rfl H rfl rfl rfl (H.os 0) (H.ol 0) (rfl) (by first | omega | (simp only [List.length_nil] at *; omega)) ?_;intro bt cZ H;replace H := H.nf
    have c6 := Sl.cells (H.os 5)
    have c7 := Sl.oc (H.os 5)
    refine s_nil ⟨(H.pk [2, 3, 6, 7, 8]), ?_⟩
    refine t_q rfl (fun w' H => x_as (v := br) rfl) <| t_q rfl (fun w' H => x_as (v := bt) rfl) ?_;refine t_nil ?_;replace H := H.pk [2, 4, 5, 6, 7, 8];refine W.region rfl <| zR (s2 : Int) 1 ((s2 : Int) + 1) rfl rfl rfl (by omega) <| zM (I ((s2 : Int) + 1)) rfl <| s_nil ?_
    exact ⟨aO, aP, s2 + 1, ar.set (Int.toNat (r4.getD (Int.toNat ((r4.length : Int) - 1)) 0)) true, l ++ ([(r4.getD (Int.toNat ((r4.length : Int) - 1)) 0 : Int)]), l2 ++ ([(l_x.getD s2 default)]), br, bt, az, _, upds_of _ _ ⟨rfl, rfl, rfl, rfl, rfl, rfl, rfl, trivial⟩, M.e_inl hM aM, (H.pk [1, 2, 3, 4, 0, 5]), aY⟩
   skip
   refine t_bs (α := Dem) T62 [.agg #[I ((l_x.getD s2 default).spring), I ((l_x.getD s2 default).town)]] [(l_x.getD s2 default)] H rfl (.cons rfl (Flat.rep_enc _ (l_x.getD s2 default)) <| .nil) rfl rfl rfl ?_;intro bV c8 H
   have c9 := Sl.cells (H.os 0)
   have da := Sl.oc (H.os 0)
   refine s_nil ⟨(H.pk [2, 3, 6, 7, 8]), ?_⟩
   refine t_l rfl ?_;refine t_app (α := Int) (k := 4) (l := l) (l2 := [(r4.getD (Int.toNat ((r4.length : Int) - 1)) 0 : Int)]) (l' := l ++ ([(r4.getD (Int.toNat ((r4.length : Int) - 1)) 0 : Int)])) (vy := bq) T22 rfl H rfl rfl rfl (H.os 1) (H.ol 1) (rfl) (by first | omega | (simp only [List.length_nil] at *; omega)) ?_;intro bu db H;replace H := H.nf
   have dc := Sl.cells (H.os 4)
   have dd := Sl.oc (H.os 4)
   refine s_nil ⟨(H.pk [2, 3, 6, 7, 8]), ?_⟩
   refine t_l rfl ?_;refine t_app (α := Dem) (k := 5) (l := l2) (l2 := [(l_x.getD s2 default)]) (l' := l2 ++ ([(l_x.getD s2 default)])) (vy := bV) T62 rfl H rfl rfl rfl (H.os 0) (H.ol 0) (rfl) (by first | omega | (simp only [List.length_nil] at *; omega)) ?_;intro bv de H;replace H := H.nf
   have dg := Sl.cells (H.os 5)
   have di := Sl.oc (H.os 5)
   refine s_nil ⟨(H.pk [2, 3, 6, 7, 8]), ?_⟩
   refine t_q rfl (fun w' H => x_as (v := bu) rfl) <| t_q rfl (fun w' H => x_as (v := bv) rfl) ?_;refine t_nil ?_;replace H := H.pk [2, 4, 5, 6, 7, 8];refine W.region rfl <| zR (s2 : Int) 1 ((s2 : Int) + 1) rfl rfl rfl (by omega) <| zM (I ((s2 : Int) + 1)) rfl <| s_nil ?_
   exact ⟨aO, aP, s2 + 1, ar.set (Int.toNat (r4.getD (Int.toNat ((r4.length : Int) - 1)) 0)) true, l ++ ([(r4.getD (Int.toNat ((r4.length : Int) - 1)) 0 : Int)]), l2 ++ ([(l_x.getD s2 default)]), bu, bv, az, _, upds_of _ _ ⟨rfl, rfl, rfl, rfl, rfl, rfl, rfl, trivial⟩, M.e_inl hM aM, (H.pk [1, 2, 3, 4, 0, 5]), aY⟩
  skip
  refine t_bs (α := Dem) T62 [.agg #[I ((l_x.getD s2 default).spring), I ((l_x.getD s2 default).town)]] [(l_x.getD s2 default)] H rfl (.cons rfl (Flat.rep_enc _ (l_x.getD s2 default)) <| .nil) rfl rfl rfl ?_;intro bW dk H
  have dq := Sl.cells (H.os 0)
  have dr := Sl.oc (H.os 0)
  have dt := Sl.cells (H.os 3)
  have du := Sl.oc (H.os 3)
  have dv := Sl.cells (H.os 4)
  have dw := Sl.oc (H.os 4)
  refine s_nil ⟨(H.pk [1, 2, 5, 6, 7]), ?_⟩
  refine t_l rfl ?_;refine t_bs (α := Int) T22 [I (r4.getD (Int.toNat ((r4.length : Int) - 1)) 0)] [(r4.getD (Int.toNat ((r4.length : Int) - 1)) 0 : Int)] H rfl (.cons rfl (Flat.rep_enc _ (r4.getD (Int.toNat ((r4.length : Int) - 1)) 0 : Int)) <| .nil) rfl rfl rfl ?_;intro bX dx H
  have dy := Sl.cells (H.os 0)
  have dz := Sl.oc (H.os 0)
  refine s_nil ⟨(H.pk [2, 3, 6, 7, 8]), ?_⟩
  refine t_l rfl ?_;refine t_app (α := Int) (k := 4) (l := l) (l2 := [(r4.getD (Int.toNat ((r4.length : Int) - 1)) 0 : Int)]) (l' := l ++ ([(r4.getD (Int.toNat ((r4.length : Int) - 1)) 0 : Int)])) (vy := bX) T22 rfl H rfl rfl rfl (H.os 0) (H.ol 0) (rfl) (by first | omega | (simp only [List.length_nil] at *; omega)) ?_;intro bw dA H;replace H := H.nf
  have dB := Sl.cells (H.os 4)
  have dC := Sl.oc (H.os 4)
  refine s_nil ⟨(H.pk [2, 3, 6, 7, 8]), ?_⟩
  refine t_l rfl ?_;refine t_app (α := Dem) (k := 5) (l := l2) (l2 := [(l_x.getD s2 default)]) (l' := l2 ++ ([(l_x.getD s2 default)])) (vy := bW) T62 rfl H rfl rfl rfl (H.os 1) (H.ol 1) (rfl) (by first | omega | (simp only [List.length_nil] at *; omega)) ?_;intro bx dD H;replace H := H.nf
  have dE := Sl.cells (H.os 5)
  have dF := Sl.oc (H.os 5)
  refine s_nil ⟨(H.pk [2, 3, 6, 7, 8]), ?_⟩
  refine t_q rfl (fun w' H => x_as (v := bw) rfl) <| t_q rfl (fun w' H => x_as (v := bx) rfl) ?_;refine t_nil ?_;replace H := H.pk [2, 4, 5, 6, 7, 8];refine W.region rfl <| zR (s2 : Int) 1 ((s2 : Int) + 1) rfl rfl rfl (by omega) <| zM (I ((s2 : Int) + 1)) rfl <| s_nil ?_
  exact ⟨aO, aP, s2 + 1, ar.set (Int.toNat (r4.getD (Int.toNat ((r4.length : Int) - 1)) 0)) true, l ++ ([(r4.getD (Int.toNat ((r4.length : Int) - 1)) 0 : Int)]), l2 ++ ([(l_x.getD s2 default)]), bw, bx, az, _, upds_of _ _ ⟨rfl, rfl, rfl, rfl, rfl, rfl, rfl, trivial⟩, M.e_inl hM aM, (H.pk [1, 2, 3, 4, 0, 5]), aY⟩
 replace hM := M.e_f hM ay
 replace ay := dI ay
 refine W.exit ?_
 have bY := M.e_inr hM aM
 subst bY;replace hM := bL;(try dsimp only at hM);replace H := H.pk [0, 1, 4];refine W.seq <| W.region rfl <| zM ak rfl ?_;obtain ⟨dG, hM⟩ := M.e_gd hM;refine s_call cf106 [ak] rfl (sort_any (H.get (k := 0) rfl) (by omega)) ?_
 rintro _ bZ ⟨rfl, bz, bA, bB⟩
 replace H : St w bZ [cOwn (α := Int) 3 ak (isort l), cOwn (α := Dem) 61 am l2, cMem encDm av B_mem (zaa ab ac ae ag ah ai aj)] R := H.sorted (k := 0) rfl bz bA bB rfl
 clear bz bA bB
 refine s_nil <| W.seq <| W.region rfl <| zM ak rfl <| zM am rfl <| zA ak rfl <| zA am rfl <| zA (B true) rfl <| s_nil ?_;refine W.ret ?_
 have aT := M.e_pure hM
 exact ⟨_, resE_tmp3 rfl, ⟨(isort l), l2, true, ak, am, B_mem, aT, rfl, H⟩⟩

def zas (aa : List Int) (ab : List Span) (ac : List Int) (ae : List Town) (ah ai : Int) (ag : List Flood) : M ((List Int) × Int) :=
  M.bind (zak aa ab ac ae ah ai ag) fun x_ => match x_ with
  | (.inl r1) => (
  bif r1 != 0 then (
  M.pure (([]), r1))
  else (
  M.fail))
  | (.inr (aj, ak, al)) => (
  bif al != 0 then (
  M.fail)
  else (
  M.bind (zaz aa ab ac ae aj ak ag) fun (r0, am, r2) =>
  bif !r2 then (
  M.pure (([]), 6))
  else (
  M.pure (r0, 0))))
theorem zc3 {R : List Chunk} {aC : Cells} {ai : Value} {aD : Cells} {aj : Value} {aE : Cells} {ak : Value} {aF : Cells} {al : Value} {aG : Cells} {am : Value} (aw : List Int) (ax : List Span) (ay : List Int) (az : List Town) (ae : Int) (ag : Int) (aA : List Flood) (aH : Reads R aC) (aI : Sl aC ai aw) (aJ : Reads R aD) (aK : Sl aD aj ax) (aL : Reads R aE) (aM : Sl aE ak ay) (aN : Reads R aF) (aO : Sl aF al az) (aP : Reads R aG) (aQ : Sl aG am aA) {r : ((List Int) × Int)} (hM : (zas aw ax ay az ae ag aA).Ends r) (w : World) (H : St w w [] R) : Ret Tryz.prog 36 #[.agg #[ai, aj, ak, al, I ae, I ag, am]] w fun v w' => ∃ (y0 : List Int) (y1 : Int) (u0 : Value), (y0, y1) = r /\ v = .tuple #[u0, I y1] /\ St w w' [cOwn (α := Int) 3 u0 y0] R := by
 refine ret_of_W Tryz.func36 rfl rfl rfl <| W.seq <| W.region rfl ?_;refine t_bx [ai, aj, ak, al, I ae, I ag, am] H rfl ?_;intro aX aY H;refine zA (.slice none 0 0) rfl <| zA (I 0) rfl <| s_nil <| W.seq <| W.region rfl <| s_val (x_ld (v := .agg #[ai, aj, ak, al, I ae, I ag, am]) rfl (ldb_ag (ds := [ai, aj, ak, al, I ae, I ag, am]) Ag29 Sz29 (H.bl 0) rfl rfl)) ?_;obtain ⟨aZ, aR, hM⟩ := M.e_bind hM;refine s_call cf72 [.agg #[ai, aj, ak, al, I ae, I ag, am]] rfl (zaJ aw ax ay az ae ag aA (aH.app _) aI (aJ.app _) aK (aL.app _) aM (aN.app _) aO (aP.app _) aQ aR _ (H.gt 1)) ?_
 rintro vq a6 (⟨r1, aS, hvq, ac⟩ | ⟨aT, aU, aa, ah, a7, a8, aV, hvq, ac⟩)
 ·subst aS;subst vq;(try dsimp only at hM);replace H := H.bk ac;clear ac;refine zM (.tuple #[.pointer none, I r1]) rfl <| zX [.pointer none, I r1] (.pointer none) rfl rfl <| zX [.pointer none, I r1] (I r1) rfl rfl <| zA (.pointer none) rfl <| zA (I r1) rfl <| s_nil <| W.seq <| W.seq <| W.region rfl <| zM (I r1) rfl ?_;refine zC r1 0 (r1 != 0) rfl rfl rfl <| s_nil ?_
  refine W.cond (r1 != 0) rfl (fun aq => ?_) (fun aq => ?_)
  ·replace hM := M.e_t hM aq
   replace aq := dI aq
   refine W.seq <| W.region rfl <| zM (I r1) rfl <| zA (.slice none 0 0) rfl <| zA (I r1) rfl <| s_nil ?_;refine W.ret ?_
   have au := M.e_pure hM
   replace H := H.nilOwn (α := Int) 3
   exact ⟨_, resE_tmp2 rfl, ⟨([]), r1, (.slice none 0 0), au, rfl, (H.pk [0])⟩⟩
  replace hM := M.e_f hM aq
  exact (M.e_fail hM).elim
 subst aV;subst vq;(try dsimp only at hM);replace H := H.bk ac;clear ac;refine zM (.tuple #[Pq ah, I aa]) rfl <| zX [Pq ah, I aa] (Pq ah) rfl rfl <| zX [Pq ah, I aa] (I aa) rfl rfl <| zA (Pq ah) rfl <| zA (I aa) rfl <| s_nil <| W.seq <| W.seq <| W.region rfl <| zM (I aa) rfl ?_;refine zC aa 0 (aa != 0) rfl rfl rfl <| s_nil ?_
 refine W.cond (aa != 0) rfl (fun av => ?_) (fun av => ?_)
 ·replace hM := M.e_t hM av
  exact (M.e_fail hM).elim
 replace hM := M.e_f hM av
 replace av := dI av
 refine W.skip <| W.seq <| W.region rfl <| zM (Pq ah) rfl ?_;obtain ⟨ba, aW, hM⟩ := M.e_bind hM;refine s_call cf89 [Pq ah] rfl (zd2 aw ax ay az aT aU aA (aH.app _) aI (aJ.app _) aK (aL.app _) aM (aN.app _) aO (aP.app _) aQ (Has.here (k := 0) rfl) aW _ ((H.pk [1, 0, 2]).gt 2)) ?_
 rintro vq bc ⟨r0, bf, r2, ab, ao, bg, rfl, hvq, ac⟩
 subst vq;(try dsimp only at hM)
 replace H := H.pk [1, 0, 2] |>.bk ac
 clear ac;refine zM (.tuple #[ab, ao, B r2]) rfl <| zX [ab, ao, B r2] ab rfl rfl <| zX [ab, ao, B r2] ao rfl rfl <| zX [ab, ao, B r2] (B r2) rfl rfl <| zA ab rfl <| zA ao rfl <| zA (B r2) rfl <| s_nil ?_;replace H := H.pk [0];refine W.seq <| W.seq <| W.region rfl <| zM (B r2) rfl <| s_val (x_not (b := r2) rfl) <| s_nil ?_
 refine W.cond (!r2) rfl (fun aB => ?_) (fun aB => ?_)
 ·replace hM := M.e_t hM aB;refine W.seq <| W.region rfl <| zA (.slice none 0 0) rfl <| zA (I 6) rfl <| s_nil ?_;refine W.ret ?_
  have au := M.e_pure hM
  replace H := H.nilOwn (α := Int) 3
  exact ⟨_, resE_tmp2 rfl, ⟨([]), 6, (.slice none 0 0), au, rfl, (H.pk [0])⟩⟩
 replace hM := M.e_f hM aB;refine W.skip <| W.seq <| W.region rfl <| zM ab rfl <| zA ab rfl <| zA (I 0) rfl <| s_nil ?_;refine W.ret ?_
 have au := M.e_pure hM
 exact ⟨_, resE_tmp2 rfl, ⟨r0, 0, ab, au, rfl, H⟩⟩

def zdU (aa : List Int) (ab : List Span) (ac : List Int) (ae : List Town) (ag ah : Int) (ai : List Flood) (n : Int) : M Bool :=
  M.bind (zac n 0 ((aa.length : Int) - 1)) fun r2 =>
  M.pure r2
theorem zem {R : List Chunk} {aa : Nat} {ae : Cells} {ac : Value} {ag : Cells} {ah : Value} {ai : Cells} {aj : Value} {ak : Cells} {al : Value} {am : Cells} {ao : Value} {aB : Nat} (ab : List Int) (aq : List Span) (au : List Int) (av : List Town) (aw : Int) (ax : Int) (ay : List Flood) (n : Int) (aF : Reads R ae) (az : Sl ae ac ab) (aG : Reads R ag) (aH : Sl ag ah aq) (aI : Reads R ai) (aJ : Sl ai aj au) (aK : Reads R ak) (aL : Sl ak al av) (aM : Reads R am) (aN : Sl am ao ay) (aC : Has R (cBlk aa [ac, ah, aj, al, I aw, I ax, ao, .map (some aB)] 111)) {r : Bool} (hM : (zdU ab aq au av aw ax ay n).Ends r) (w : World) (H : St w w [] R) : Ret Tryz.prog 73 #[Pq aa, I n] w fun v w' => ∃ (y0 : Bool), y0 = r /\ v = B y0 /\ St w w' [] R := by
 refine ret_of_W Tryz.func73 rfl rfl rfl <| W.seq <| W.region rfl <| zA (B false) rfl <| s_nil <| W.seq <| W.region rfl <| zM (I n) rfl <| zM (Pq aa) rfl <| s_val (x_nc (a := ⟨aa, 0, none⟩) rfl) <| s_val (x_fa (v := Pq aa) rfl (fa_blk (o := 0) Fd111_0 Sz29)) ?_;refine s_val (x_fa (v := Pq aa) rfl (fa_blk (o := 0) Fd29_0 Sz22)) <| s_val (x_ld (v := ac) rfl (ldb_sc Sc22 (aC.blk H) rfl)) ?_
 have aO := (az).len_le
 refine s_val (x_lenS T22.und rfl az) <| zR (ab.length : Int) 1 ((ab.length : Int) - 1) rfl rfl rfl (by omega) ?_;obtain ⟨aP, aD, hM⟩ := M.e_bind hM;refine s_call cf47 [I n, I 0, I ((ab.length : Int) - 1)] rfl (zal n 0 ((ab.length : Int) - 1) aD _ (H.gt 0)) ?_
 rintro vq aQ ⟨r2, rfl, hvq, aA⟩
 subst vq;(try dsimp only at hM);replace H := H.bk aA;clear aA;refine zA (B r2) rfl <| s_nil ?_;refine W.ret ?_
 have aE := M.e_pure hM
 exact ⟨_, resE_tmp rfl, ⟨r2, aE, rfl, H⟩⟩

def zdQ (ae : List Int) (ag : List Span) (ah : List Int) (aa : List Town) (ab ac : Int) (ai : List Flood) (watch town : Int) : M (Int × Int × Int) :=
  M.bind (zak ae ag ah aa ab ac ai) fun x_ => match x_ with
  | (.inl r1) => (
  bif r1 != 0 then (
  M.pure (0, 0, r1))
  else (
  M.fail))
  | (.inr (aj, ak, al)) => (
  bif al != 0 then (
  M.fail)
  else (
  M.bind (zdU ae ag ah aa aj ak ai watch) fun r2 =>
  M.bind (M.opt (!(!r2)) (zac town 0 ((aa.length : Int) - 1)) false) fun r3 =>
  bif ((!r2) || (!r3)) then (
  M.pure (0, 0, 2))
  else (
  M.grd (decide ((0 : Int) <= town) && decide (town < (aa.length : Int))) <|
  M.bind (za2 ae ag ah aa aj ak ai watch ((aa.getD (Int.toNat town) default).station)) fun (am, ao, aq) =>
  bif !aq then (
  M.pure (0, 0, 5))
  else (
  M.grd (decide (-9223372036854775807 <= ac) && decide (ac <= 9223372036854775807)) <|
  M.grd (decide (-9223372036854775807 <= ab) && decide (ab <= 9223372036854775807)) <|
  M.bind (zbT ([(⟨(am : Int), (ao : Int)⟩ : Span), (⟨(-ac : Int), (-ab : Int)⟩ : Span)])) fun (r0, au) =>
  M.pure (r0, au, 0)))))
theorem zeO {R : List Chunk} {aQ : Cells} {au : Value} {aR : Cells} {av : Value} {aS : Cells} {aw : Value} {aT : Cells} {ai : Value} {aU : Cells} {ax : Value} (az : List Int) (aA : List Span) (aB : List Int) (ae : List Town) (aa : Int) (ab : Int) (aC : List Flood) (watch : Int) (town : Int) (aG : Reads R aQ) (aH : Sl aQ au az) (aI : Reads R aR) (aJ : Sl aR av aA) (aK : Reads R aS) (aL : Sl aS aw aB) (aF : Reads R aT) (am : Sl aT ai ae) (aM : Reads R aU) (aN : Sl aU ax aC) {r : (Int × Int × Int)} (hM : (zdQ az aA aB ae aa ab aC watch town).Ends r) (w : World) (H : St w w [] R) : Ret Tryz.prog 25 #[.agg #[au, av, aw, ai, I aa, I ab, ax], I watch, I town] w fun v w' => ∃ (y0 : Int) (y1 : Int) (y2 : Int), (y0, y1, y2) = r /\ v = .tuple #[.agg #[I y0, I y1], I y2] /\ St w w' [] R := by
 refine ret_of_W Tryz.func25 rfl rfl rfl <| W.seq <| W.region rfl ?_;refine t_bx [au, av, aw, ai, I aa, I ab, ax] H rfl ?_;intro aq bn H;refine t_alloc (cs := [I 0, I 0]) H Al26 rfl ?_;intro bo bp H;refine zA (I 0) rfl <| s_nil <| W.seq <| W.region rfl <| s_val (x_ld (v := .agg #[au, av, aw, ai, I aa, I ab, ax]) rfl (ldb_ag (ds := [au, av, aw, ai, I aa, I ab, ax]) Ag29 Sz29 (H.bl 1) rfl rfl)) ?_;obtain ⟨bq, aX, hM⟩ := M.e_bind hM;refine s_call cf72 [.agg #[au, av, aw, ai, I aa, I ab, ax]] rfl (zaJ az aA aB ae aa ab aC (aG.app _) aH (aI.app _) aJ (aK.app _) aL (aF.app _) am (aM.app _) aN aX _ (H.gt 2)) ?_
 rintro vq br (⟨r1, aY, hvq, ac⟩ | ⟨aV, aW, aj, ak, bt, bu, aZ, hvq, ac⟩)
 ·subst aY;subst vq;(try dsimp only at hM);replace H := H.bk ac;clear ac;refine zM (.tuple #[.pointer none, I r1]) rfl <| zX [.pointer none, I r1] (.pointer none) rfl rfl <| zX [.pointer none, I r1] (I r1) rfl rfl <| zA (.pointer none) rfl <| zA (I r1) rfl <| s_nil <| W.seq <| W.block <| W.seq <| W.region rfl ?_;refine zM (I r1) rfl <| zC r1 0 (r1 != 0) rfl rfl rfl <| zA (B (r1 != 0)) rfl <| s_nil ?_
  refine W.cond (r1 != 0) rfl (fun aD => ?_) (fun aD => ?_)
  ·replace hM := M.e_t hM aD
   replace aD := dI aD
   refine W.seq <| W.region rfl <| s_val (x_bld (ps := []) (zs := [I 0, I 0]) (L' := [I 0, I 0]) rfl Tryz.underlying26 Al26 rfl (Bd26 Tryz.underlying26) (.nil)) <| zM (I r1) rfl ?_;refine t_sw 0 0 [I 0, I 0] (.agg #[I 0, I 0]) H rfl rfl Sz26 rfl rfl rfl rfl ?_;intro bv H;refine zA (I r1) rfl <| s_nil ?_;refine W.ret ?_
   have a6 := (H.bl 0)
   have al := M.e_pure hM
   exact ⟨_, (resE_ofn (vs := [.agg #[I 0, I 0], I r1]) rfl rfl (.cell (v := .agg #[I 0, I 0]) rfl (run_loadVar_ag (ds := [I 0, I 0]) Ag26 Sz26 a6 rfl rfl) <| .tmp (v := I r1) rfl <| .nil)), ⟨0, 0, r1, al, rfl, (H.pk [])⟩⟩
  replace hM := M.e_f hM aD
  exact (M.e_fail hM).elim
 subst aZ;subst vq;(try dsimp only at hM);replace H := H.bk ac;clear ac;refine zM (.tuple #[Pq ak, I aj]) rfl <| zX [Pq ak, I aj] (Pq ak) rfl rfl <| zX [Pq ak, I aj] (I aj) rfl rfl <| zA (Pq ak) rfl <| zA (I aj) rfl <| s_nil <| W.seq <| W.block <| W.seq <| W.region rfl ?_;refine zM (I aj) rfl <| zC aj 0 (aj != 0) rfl rfl rfl <| zA (B (aj != 0)) rfl <| s_nil ?_
 refine W.cond (aj != 0) rfl (fun aE => ?_) (fun aE => ?_)
 ·replace hM := M.e_t hM aE
  exact (M.e_fail hM).elim
 replace hM := M.e_f hM aE
 replace aE := dI aE
 refine W.seq <| W.region rfl <| zM (Pq ak) rfl <| zM (I watch) rfl ?_;obtain ⟨bw, a7, hM⟩ := M.e_bind hM;refine s_call cf73 [Pq ak, I watch] rfl (zem az aA aB ae aV aW aC watch (aG.app _) aH (aI.app _) aJ (aK.app _) aL (aF.app _) am (aM.app _) aN (Has.here (k := 0) rfl) a7 _ (H.gt 4)) ?_
 rintro vq bx ⟨r2, rfl, hvq, ac⟩
 subst vq;(try dsimp only at hM);replace H := H.bk ac;clear ac;refine s_val (x_not (b := r2) rfl) <| zM (B (!r2)) rfl <| g_val (!(!r2)) (gy_f rfl) (fun hg => x_mv (v := I town) rfl) <| g_val (!(!r2)) (gy_f rfl) (fun hg => x_fa (v := Oq aq 3) rfl (fa_blk (o := 0) Fd29_3 Sz24)) <| g_val (!(!r2)) (gy_f rfl) (fun hg => x_ld (v := ai) (gd_of hg (Oq aq 3)) (ldb_sc Sc24 (H.bl 3) rfl)) ?_
 have bz := (am).len_le
 refine g_val (!(!r2)) (gy_f rfl) (fun hg => x_lenS T24.und (gd_of hg (ai)) am) <| g_val (!(!r2)) (gy_f rfl) (fun hg => x_ari (r := (ae.length : Int) - 1) (gd_of hg (I (ae.length : Int))) rfl rfl (by first | omega | (have a8 := hg; simp at a8; omega))) ?_;obtain ⟨r3, ba, hM⟩ := M.e_bind hM;refine t_gcall (!(!r2)) (gy_f rfl) cf47 (B r3) (fun _ => [I town, I 0, I ((ae.length : Int) - 1)]) (fun hg => lst3 (gd_of hg (I town)) rfl (gd_of hg (I ((ae.length : Int) - 1)))) H (fun hg => (zal town 0 ((ae.length : Int) - 1) (M.e_opt ba hg) _ (H.give (A := []) rfl)).mono fun v_ w_ ⟨y_, al, bc, H_⟩ => by subst al; exact ⟨bc, H.via H_⟩) ?_;intro bA H;refine g_val (!(!r2)) (gy_f rfl) (fun hg => x_not (b := r3) (gd_of hg (B r3))) <| s_val (x_por (b := !r2) (r := !r3) rfl rfl (fun hb => gd_of (c := !(!r2)) (by first | exact hb | (rw [hb]; rfl) | simp_all) (B (!r3)))) <| zA (B ((!r2) || (!r3))) rfl <| s_nil ?_
 refine W.cond ((!r2) || (!r3)) rfl (fun aO => ?_) (fun aO => ?_)
 ·replace hM := M.e_t hM aO;refine W.seq <| W.region rfl <| s_val (x_bld (ps := []) (zs := [I 0, I 0]) (L' := [I 0, I 0]) rfl Tryz.underlying26 Al26 rfl (Bd26 Tryz.underlying26) (.nil)) ?_;refine t_sw 2 0 [I 0, I 0] (.agg #[I 0, I 0]) H rfl rfl Sz26 rfl rfl rfl rfl ?_;intro bB H;refine zA (I 2) rfl <| s_nil ?_;replace H := H.pk [2];refine W.ret ?_
  have bf := (H.bl 0)
  have al := M.e_pure hM
  exact ⟨_, (resE_ofn (vs := [.agg #[I 0, I 0], I 2]) rfl rfl (.cell (v := .agg #[I 0, I 0]) rfl (run_loadVar_ag (ds := [I 0, I 0]) Ag26 Sz26 bf rfl rfl) <| .tmp (v := I 2) rfl <| .nil)), ⟨0, 0, 2, al, rfl, (H.pk [])⟩⟩
 replace hM := M.e_f hM aO;refine W.skip <| W.seq <| W.region rfl <| zM (Pq ak) rfl <| zM (I watch) rfl <| s_val (x_fa (v := Oq aq 3) rfl (fa_blk (o := 0) Fd29_3 Sz24)) <| s_val (x_ld (v := ai) rfl (ldb_sc Sc24 (H.bl 3) rfl)) <| zM (I town) rfl ?_;obtain ⟨bC, hM⟩ := M.e_gd hM;refine s_val (x_ix (v := vat ai 3 (Int.toNat town)) rfl rfl (Sl.ix (α := Town) T24.und T24.size am (by omega) (by omega))) <| s_val (x_fa (v := fat (vat ai 3 (Int.toNat town)) 0) rfl (fa_pl Fd91_0 Sz3 (Sl.pl (i := town) am (by omega) (by omega)))) <| s_val (x_ld (v := I ((ae.getD (Int.toNat town) default).station)) rfl (ld_sc Sc3 (At.mono (Town_at0 am (i := town) (by omega) (by omega)) (aF.at H)))) ?_;obtain ⟨bD, bg, hM⟩ := M.e_bind hM;refine s_call cf74 [Pq ak, I watch, I ((ae.getD (Int.toNat town) default).station)] rfl (zdx az aA aB ae aV aW aC watch ((ae.getD (Int.toNat town) default).station) (aG.app _) aH (aI.app _) aJ (aK.app _) aL (aF.app _) am (aM.app _) aN (Has.here (k := 0) rfl) bg _ (H.gt 4)) ?_
 rintro vq bE ⟨ag, ah, ao, rfl, hvq, ac⟩
 subst vq;(try dsimp only at hM);replace H := H.bk ac;clear ac;refine zM (.tuple #[.agg #[I ag, I ah], B ao]) rfl <| zX [.agg #[I ag, I ah], B ao] (.agg #[I ag, I ah]) rfl rfl <| zX [.agg #[I ag, I ah], B ao] (B ao) rfl rfl ?_;refine t_alloc (cs := [I 0, I 0]) H Al26 rfl ?_;intro bF bG H;refine t_sw 0 0 [I ag, I ah] (.agg #[I ag, I ah]) H rfl rfl Sz26 rfl rfl rfl rfl ?_;intro bH H;refine zA (B ao) rfl <| s_nil ?_;replace H := H.pk [0, 3, 4];refine W.seq <| W.seq <| W.region rfl <| zM (B ao) rfl <| s_val (x_not (b := ao) rfl) <| s_nil ?_
 refine W.cond (!ao) rfl (fun aP => ?_) (fun aP => ?_)
 ·replace hM := M.e_t hM aP;refine W.seq <| W.region rfl <| s_val (x_bld (ps := []) (zs := [I 0, I 0]) (L' := [I 0, I 0]) rfl Tryz.underlying26 Al26 rfl (Bd26 Tryz.underlying26) (.nil)) ?_;refine t_sw 1 0 [I 0, I 0] (.agg #[I 0, I 0]) H rfl rfl Sz26 rfl rfl rfl rfl ?_;intro bI H;refine zA (I 5) rfl <| s_nil ?_;replace H := H.pk [1];refine W.ret ?_
  have bh := (H.bl 0)
  have al := M.e_pure hM
  exact ⟨_, (resE_ofn (vs := [.agg #[I 0, I 0], I 5]) rfl rfl (.cell (v := .agg #[I 0, I 0]) rfl (run_loadVar_ag (ds := [I 0, I 0]) Ag26 Sz26 bh rfl rfl) <| .tmp (v := I 5) rfl <| .nil)), ⟨0, 0, 5, al, rfl, (H.pk [])⟩⟩
 replace hM := M.e_f hM aP;refine W.skip <| W.seq <| W.region rfl <| s_val (x_ld (v := .agg #[I ag, I ah]) rfl (ldb_ag (ds := [I ag, I ah]) Ag26 Sz26 (H.bl 0) rfl rfl)) <| s_val (x_fa (v := Oq aq 4) rfl (fa_blk (o := 0) Fd29_4 Sz26)) <| s_val (x_fa (v := Oq aq 5) rfl (fa_blk (o := 4) Fd26_1 Sz3)) <| s_val (x_ld (v := I ab) rfl (ldb_sc Sc3 (H.bl 2) rfl)) ?_;obtain ⟨bJ, hM⟩ := M.e_gd hM;refine s_val (x_neg (a := ab) rfl (by omega)) <| s_val (x_fa (v := Oq aq 4) rfl (fa_blk (o := 0) Fd29_4 Sz26)) <| s_val (x_fa (v := Oq aq 4) rfl (fa_blk (o := 4) Fd26_0 Sz3)) <| s_val (x_ld (v := I aa) rfl (ldb_sc Sc3 (H.bl 2) rfl)) ?_;obtain ⟨bK, hM⟩ := M.e_gd hM;refine s_val (x_neg (a := aa) rfl (by omega)) <| s_val (x_bld (ps := [(0, I (-ab)), (1, I (-aa))]) (zs := [I 0, I 0]) (L' := [I (-ab), I (-aa)]) rfl Tryz.underlying26 Al26 rfl (Bd26 Tryz.underlying26) (.cons (cs := [I (-ab)]) rfl rfl rfl rfl rfl <| .cons (cs := [I (-aa)]) rfl rfl rfl rfl rfl <| .nil)) ?_;refine t_bs (α := Span) T23 [.agg #[I ag, I ah], .agg #[I (-ab), I (-aa)]] [(⟨(ag : Int), (ah : Int)⟩ : Span), (⟨(-ab : Int), (-aa : Int)⟩ : Span)] H rfl (.cons rfl (Flat.rep_enc _ (⟨(ag : Int), (ah : Int)⟩ : Span)) <| .cons rfl (Flat.rep_enc _ (⟨(-ab : Int), (-aa : Int)⟩ : Span)) <| .nil) rfl rfl rfl ?_;intro bi bL H;obtain ⟨bM, bj, hM⟩ := M.e_bind hM;refine s_call cf76 [bi] rfl (zdS ([(⟨(ag : Int), (ah : Int)⟩ : Span), (⟨(-ab : Int), (-aa : Int)⟩ : Span)]) (rdo 0) (H.os 0) bj _ (H.gt 4)) ?_
 rintro vq bN ⟨r0, ay, rfl, hvq, ac⟩
 subst vq;(try dsimp only at hM);replace H := H.bk ac;clear ac;refine t_sw 2 0 [I r0, I ay] (.agg #[I r0, I ay]) H rfl rfl Sz26 rfl rfl rfl rfl ?_;intro bO H;refine zA (I 0) rfl <| s_nil ?_;replace H := H.pk [2];refine W.ret ?_
 have bm := (H.bl 0)
 have al := M.e_pure hM
 exact ⟨_, (resE_ofn (vs := [.agg #[I r0, I ay], I 0]) rfl rfl (.cell (v := .agg #[I r0, I ay]) rfl (run_loadVar_ag (ds := [I r0, I ay]) Ag26 Sz26 bm rfl rfl) <| .tmp (v := I 0) rfl <| .nil)), ⟨r0, ay, 0, al, rfl, (H.pk [])⟩⟩

def zbX (a b : List Int) : Nat -> M (Nat ⊕ (Unit ⊕ Unit)) := fun i =>
  bif decide ((i : Int) < (a.length : Int)) then (
  M.grd (decide ((i : Int) < (a.length : Int))) <|
  M.grd (decide ((i : Int) < (b.length : Int))) <|
  bif (a.getD i 0) != (b.getD i 0) then (
  M.pure (.inr (.inl ())))
  else (
  M.pure (.inl (i + 1))))
  else (
  M.pure (.inr (.inr ())))
def zab (a b : List Int) : M Bool :=
  bif (a.length : Int) != (b.length : Int) then (
  M.pure false)
  else (
  M.bind (M.iter (zbX a b) 0) fun x_ => match x_ with
  | (.inl (_ : Unit)) => (
  M.pure false)
  | (.inr (_ : Unit)) => (
  M.pure true))
theorem zaf {R : List Chunk} {am : Cells} {aa : Value} {ao : Cells} {ag : Value} (a : List Int) (b : List Int) (aw : Reads R am) (ah : Sl am aa a) (ax : Reads R ao) (aj : Sl ao ag b) {r : Bool} (hM : (zab a b).Ends r) (w : World) (H : St w w [] R) : Ret Tryz.prog 15 #[aa, ag] w fun v w' => ∃ (y0 : Bool), y0 = r /\ v = B y0 /\ St w w' [] R := by
 refine ret_of_W Tryz.func15 rfl rfl rfl <| W.seq <| W.region rfl <| zA (B false) rfl <| s_nil <| W.seq <| W.seq <| W.region rfl <| zM aa rfl ?_
 have aD := (ah).len_le
 refine s_val (x_lenS T22.und rfl ah) <| zM ag rfl ?_
 have aE := (aj).len_le
 refine s_val (x_lenS T22.und rfl aj) <| zC (a.length : Int) (b.length : Int) ((a.length : Int) != (b.length : Int)) rfl rfl rfl <| s_nil ?_
 refine W.cond ((a.length : Int) != (b.length : Int)) rfl (fun ab => ?_) (fun ab => ?_)
 ·replace hM := M.e_t hM ab
  replace ab := dI ab
  refine W.seq <| W.region rfl <| zA (B false) rfl <| s_nil ?_;refine W.ret ?_
  have ai := M.e_pure hM
  exact ⟨_, resE_tmp rfl, ⟨false, ai, rfl, H⟩⟩
 replace hM := M.e_f hM ab
 replace ab := dI ab
 refine W.skip <| W.seq <| W.seq <| W.region rfl <| zA (I 0) rfl <| s_nil <| W.block ?_;obtain ⟨ay, ak, aq⟩ := M.e_bind hM
 obtain ⟨aF, ak⟩ := M.e_iter ak
 refine W.loop (fun m σ W => ∃ (i : Nat) (ρ : Env), σ = upds ρ [(0, aa), (1, ag), (5, I (i : Int))] /\ M.iterN (zbX a b) m i = some ay /\ St w W [] R) ?_ ?_
 ·exact ⟨_, 0, _, upds_of _ _ ⟨rfl, rfl, rfl, trivial⟩, ak, H⟩
 rintro aG σ aH ⟨i, ρ, rfl, au, H⟩
 obtain ⟨az, aA, aI, hM, al⟩ := M.e_iterN au
 simp only [zbX] at hM
 clear au;refine W.seq <| W.seq <| W.region rfl <| zM (I (i : Int)) rfl <| zM aa rfl ?_
 have aJ := (ah).len_le
 refine s_val (x_lenS T22.und rfl ah) <| zC (i : Int) (a.length : Int) (decide ((i : Int) < (a.length : Int))) rfl rfl rfl <| s_nil ?_
 refine W.cond (decide ((i : Int) < (a.length : Int))) rfl (fun ac => ?_) (fun ac => ?_)
 ·replace hM := M.e_t hM ac
  replace ac := dI ac
  refine W.skip <| W.seq <| W.block <| W.seq ?_;refine W.draw (fun W => St w W [] R) [(0, true), (1, true), (2, true), (3, true), (4, true), (5, true), (6, true), (7, true), (8, true)] mixed (by decide +kernel) rfl ?_;intro aK av;replace H := H.ext av;clear av
  refine ⟨(H.pk []), ?_⟩
  refine d_q rfl (fun w' H => x_mv (v := aa) rfl) <| d_q rfl (fun w' H => x_mv (v := I (i : Int)) rfl) ?_;obtain ⟨aL, hM⟩ := M.e_gd hM;refine d_q rfl (fun w' H => x_ix (v := vat aa 1 (Int.toNat (i : Int))) rfl rfl (Sl.ix (α := Int) T22.und T22.size ah (by omega) (by omega))) <| d_q rfl (fun w' H => x_ld (v := I (a.getD i 0)) rfl (ld_sc Sc3 (At.mono (Int_at ah (i := (i : Int)) (by omega) (by omega)) (aw.at H)))) <| d_q rfl (fun w' H => x_mv (v := ag) rfl) <| d_q rfl (fun w' H => x_mv (v := I (i : Int)) rfl) ?_;obtain ⟨aM, hM⟩ := M.e_gd hM;refine d_q rfl (fun w' H => x_ix (v := vat ag 1 (Int.toNat (i : Int))) rfl rfl (Sl.ix (α := Int) T22.und T22.size aj (by omega) (by omega))) <| d_q rfl (fun w' H => x_ld (v := I (b.getD i 0)) rfl (ld_sc Sc3 (At.mono (Int_at aj (i := (i : Int)) (by omega) (by omega)) (ax.at H)))) <| d_q rfl (fun w' H => x_cmp (kd := .i64) (r := (a.getD i 0) != (b.getD i 0)) rfl rfl rfl) ?_;refine d_nil ?_
  refine W.cond ((a.getD i 0) != (b.getD i 0)) rfl (fun ae => ?_) (fun ae => ?_)
  ·replace hM := M.e_t hM ae
   replace ae := dI ae
   refine W.seq <| W.region rfl <| zA (B false) rfl <| s_nil ?_;refine W.ret ?_
   have aB := M.e_inr hM al
   subst aB;replace hM := aq;(try dsimp only at hM)
   have ai := M.e_pure hM
   exact ⟨_, resE_tmp rfl, ⟨false, ai, rfl, H⟩⟩
  replace hM := M.e_f hM ae
  replace ae := dI ae
  refine W.skip <| W.region rfl <| zM (I (i : Int)) rfl <| zR (i : Int) 1 ((i : Int) + 1) rfl rfl rfl (by omega) <| zA (I ((i : Int) + 1)) rfl <| s_nil ?_
  exact ⟨az, aA, i + 1, _, upds_of _ _ ⟨rfl, rfl, rfl, trivial⟩, M.e_inl hM al, H⟩
 replace hM := M.e_f hM ac
 replace ac := dI ac
 refine W.exit ?_
 have aC := M.e_inr hM al
 subst aC;replace hM := aq;(try dsimp only at hM);refine W.seq <| W.region rfl <| zA (B true) rfl <| s_nil ?_;refine W.ret ?_
 have ai := M.e_pure hM
 exact ⟨_, resE_tmp rfl, ⟨true, ai, rfl, H⟩⟩

def zdv (watches : List Int) : ((List Bool) × Nat) -> M (((List Bool) × Nat) ⊕ (List Bool)) := fun (ar, s) =>
  bif decide ((s : Int) < (watches.length : Int)) then (
  M.grd (decide ((s : Int) < (watches.length : Int))) <|
  M.grd (decide ((0 : Int) <= (watches.getD s 0)) && decide ((watches.getD s 0) < (12 : Int))) <|
  M.pure (.inl (ar.set (Int.toNat (watches.getD s 0)) true, s + 1)))
  else (
  M.pure (.inr ar))
def zbM (ab ac : Int) (watches : List Int) (e : Int) : M (((List Bool) × Int) ⊕ (Int × Int × (List Bool) × Int)) :=
  bif e != 0 then (
  M.pure (.inl ((List.replicate 12 false), e)))
  else (
  M.bind (M.iter (zdv watches) (List.replicate 12 false, 0)) fun aa =>
  M.pure (.inl (aa, 0)))
def zbS (watches : List Int) : ((List Bool) × Nat) -> M (((List Bool) × Nat) ⊕ (List Bool)) := fun (ar, s) =>
  bif decide ((s : Int) < (watches.length : Int)) then (
  M.grd (decide ((s : Int) < (watches.length : Int))) <|
  M.grd (decide ((0 : Int) <= (watches.getD s 0)) && decide ((watches.getD s 0) < (12 : Int))) <|
  M.pure (.inl (ar.set (Int.toNat (watches.getD s 0)) true, s + 1)))
  else (
  M.pure (.inr ar))
def zbI (ae : List Int) (ag : List Span) (ah : List Int) (ai : List Town) (aj ak : Int) (al : List Flood) (watches : List Int) (aa ab e2 : Int) : M (((List Bool) × Int) ⊕ (Int × Int × (List Bool) × Int)) :=
  bif e2 != 0 then (
  M.pure (.inl ((List.replicate 12 false), e2)))
  else (
  M.bind (M.iter (zbS watches) (List.replicate 12 false, 0)) fun ac =>
  M.pure (.inr (aa, ab, ac, 0)))
def zaH (aa : List Int) (ae : List Span) (ag : List Int) (ah : List Town) (ab ac : Int) (ai : List Flood) (watches : List Int) : M (((List Bool) × Int) ⊕ (Int × Int × (List Bool) × Int)) :=
  M.bind (zak aa ae ag ah ab ac ai) fun x_ => match x_ with
  | (.inl r1) => (
  M.bind (M.opt (r1 == 0) (zaA watches (aa.length : Int)) false) fun r2 =>
  bif ((r1 == 0) && (!r2)) then (
  zbM ab ac watches 2)
  else (
  zbM ab ac watches r1))
  | (.inr (ak, al, aj)) => (
  M.bind (M.opt (aj == 0) (zaA watches (aa.length : Int)) false) fun r2 =>
  bif ((aj == 0) && (!r2)) then (
  zbI aa ae ag ah ab ac ai watches ak al 2)
  else (
  zbI aa ae ag ah ab ac ai watches ak al aj))
theorem zdd {R : List Chunk} {aV : Cells} {aa : Value} {aW : Cells} {ab : Value} {aX : Cells} {ac : Value} {aY : Cells} {ae : Value} {aZ : Cells} {ag : Value} {a6 : Cells} {au : Value} (am : List Int) (az : List Span) (aA : List Int) (aB : List Town) (ah : Int) (ai : Int) (aC : List Flood) (watches : List Int) (bh : Reads R aV) (aM : Sl aV aa am) (bi : Reads R aW) (bj : Sl aW ab az) (bm : Reads R aX) (bn : Sl aX ac aA) (bo : Reads R aY) (bp : Sl aY ae aB) (bq : Reads R aZ) (br : Sl aZ ag aC) (aO : Reads R a6) (aF : Sl a6 au watches) {r : (((List Bool) × Int) ⊕ (Int × Int × (List Bool) × Int))} (hM : (zaH am az aA aB ah ai aC watches).Ends r) (w : World) (H : St w w [] R) : Ret Tryz.prog 46 #[.agg #[aa, ab, ac, ae, I ah, I ai, ag], au] w fun v w' => (∃ (y0 : List Bool) (y1 : Int), (.inl (y0, y1)) = r /\ v = .tuple #[.pointer none, .agg (encB y0).toArray, I y1] /\ St w w' [] R /\ y0.length = 12) ∨ (∃ (y0 : Int) (y1 : Int) (y2 : List Bool) (y3 : Int) (a7 : Nat) (a8 : Nat) (bt : Base), (.inr (y0, y1, y2, y3)) = r /\ v = .tuple #[Pq a7, .agg (encB y2).toArray, I y3] /\ St w w' [cBlk a7 [aa, ab, ac, ae, I y0, I y1, ag, .map (some a8)] 111, cMem encDm a8 bt (zaa am az aA aB y0 y1 aC)] R /\ y2.length = 12) := by
 refine ret_of_W Tryz.func46 rfl rfl rfl <| W.seq <| W.region rfl ?_;refine t_bx [aa, ab, ac, ae, I ah, I ai, ag] H rfl ?_;intro ao bS H;refine zA (.pointer none) rfl ?_;refine t_alloc (cs := encB (List.replicate 12 false)) H Al96 rfl ?_;intro aq bT H
 have aP : (List.replicate 12 false).length = 12 := by simp
 refine zA (I 0) rfl <| s_nil <| W.seq <| W.region rfl ?_;refine t_alloc (cs := encB (List.replicate 12 false)) H Al96 rfl ?_;intro aj bU H
 have aG : (List.replicate 12 false).length = 12 := by simp
 refine s_nil <| W.seq <| W.region rfl <| s_val (x_ld (v := .agg #[aa, ab, ac, ae, I ah, I ai, ag]) rfl (ldb_ag (ds := [aa, ab, ac, ae, I ah, I ai, ag]) Ag29 Sz29 (H.bl 2) rfl rfl)) ?_;obtain ⟨bV, bu, hM⟩ := M.e_bind hM;refine s_call cf72 [.agg #[aa, ab, ac, ae, I ah, I ai, ag]] rfl (zaJ am az aA aB ah ai aC (bh.app _) aM (bi.app _) bj (bm.app _) bn (bo.app _) bp (bq.app _) br bu _ (H.gt 3)) ?_
 rintro vq bW (⟨r1, bv, hvq, aN⟩ | ⟨av, aw, ak, al, ax, aH, bw, hvq, aN⟩)
 ·subst bv;subst vq;(try dsimp only at hM);replace H := H.bk aN;clear aN;refine zM (.tuple #[.pointer none, I r1]) rfl <| zX [.pointer none, I r1] (.pointer none) rfl rfl <| zX [.pointer none, I r1] (I r1) rfl rfl <| zA (.pointer none) rfl <| zA (I r1) rfl <| s_nil ?_;refine W.seqJ (fun σ W => ∃ (e : Int) (ρ : Env), σ = upds ρ [(1, au), (5, Pq aq), (7, Pq aj), (8, .pointer none), (9, I e)] /\ (zbM ah ai watches e).Ends r /\ St w W [cBlk aj (encB (List.replicate 12 false)) 96, cBlk aq (encB (List.replicate 12 false)) 96, cBlk ao [aa, ab, ac, ae, I ah, I ai, ag] 29] R) ?_ ?_
  ·skip
   refine W.seq <| W.region rfl <| zM (I r1) rfl <| zC r1 0 (r1 == 0) rfl rfl rfl <| zM (B (r1 == 0)) rfl <| g_val (r1 == 0) (gy_t rfl) (fun hg => x_mv (v := au) rfl) <| g_val (r1 == 0) (gy_t rfl) (fun hg => x_fa (v := Pq ao) rfl (fa_blk (o := 0) Fd29_0 Sz22)) <| g_val (r1 == 0) (gy_t rfl) (fun hg => x_ld (v := aa) (gd_of hg (Pq ao)) (ldb_sc Sc22 (H.bl 2) rfl)) ?_
   have bX := (aM).len_le
   refine g_val (r1 == 0) (gy_t rfl) (fun hg => x_lenS T22.und (gd_of hg (aa)) aM) ?_;obtain ⟨r2, bx, hM⟩ := M.e_bind hM;refine t_gcall (r1 == 0) (gy_t rfl) cf62 (B r2) (fun _ => [au, I (am.length : Int)]) (fun hg => lst2 (gd_of hg (au)) (gd_of hg (I (am.length : Int)))) H (fun hg => (zds watches (am.length : Int) (aO.app _) aF (M.e_opt bx hg) _ (H.give (A := []) rfl)).mono fun v_ w_ ⟨y_, aD, aQ, H_⟩ => by subst aD; exact ⟨aQ, H.via H_⟩) ?_;intro bY H;refine g_val (r1 == 0) (gy_t rfl) (fun hg => x_not (b := r2) (gd_of hg (B r2))) <| s_val (x_pand (b := r1 == 0) (r := !r2) rfl (fun hb => gd_of (c := r1 == 0) (by first | exact hb | (rw [hb]; rfl) | simp_all) (B (!r2))) rfl) <| s_nil ?_
   refine W.cond ((r1 == 0) && (!r2)) rfl (fun aR => ?_) (fun aR => ?_)
   ·replace hM := M.e_t hM aR;refine W.region rfl <| zA (I 2) rfl <| s_nil ?_
    exact ⟨2, _, upds_of _ _ ⟨rfl, rfl, rfl, rfl, rfl, trivial⟩, hM, H⟩
   replace hM := M.e_f hM aR;refine W.skip ?_
   exact ⟨r1, _, upds_of _ _ ⟨rfl, rfl, rfl, rfl, rfl, trivial⟩, hM, H⟩
  rintro _ bZ ⟨e, ρ, rfl, hM, H⟩
  unfold zbM at hM
  refine W.seq <| W.seq <| W.region rfl <| zM (I e) rfl <| zC e 0 (e != 0) rfl rfl rfl <| s_nil ?_
  refine W.cond (e != 0) rfl (fun aI => ?_) (fun aI => ?_)
  ·replace hM := M.e_t hM aI
   replace aI := dI aI
   refine W.seq ?_;refine W.draw (fun W => St w W [cBlk aj (encB (List.replicate 12 false)) 96, cBlk ao [aa, ab, ac, ae, I ah, I ai, ag] 29] R) [(0, true), (1, true), (2, true), (3, false), (4, true)] mixed (by decide +kernel) rfl ?_;intro b4 aE;replace H := H.ext aE;clear aE
   refine ⟨(H.pk [0, 2]), ?_⟩
   refine d_q rfl (fun w' H => x_ld (v := .agg (encB (List.replicate 12 false)).toArray) rfl (ldArrA Ag96 Sz96 aG (H.bl 0))) <| d_q rfl (fun w' H => x_mv (v := I e) rfl) <| d_q rfl (fun w' H => x_as (v := .pointer none) rfl) <| d_l rfl ?_;refine t_stArrA (k := 1) (b := aq) (l := List.replicate 12 false) (l' := List.replicate 12 false) (L' := [cBlk aj (encB (List.replicate 12 false)) 96, cBlk aq (encB (List.replicate 12 false)) 96, cBlk ao [aa, ab, ac, ae, I ah, I ai, ag] 29]) H rfl rfl rfl Sz96 aP aG rfl ?_;intro b7 H
   refine s_nil ⟨(H.pk [0, 2]), ?_⟩
   refine d_q rfl (fun w' H => x_as (v := I e) rfl) ?_;refine d_nil ?_;replace H := H.pk [1];refine W.ret ?_
   have bz := (H.bl 0)
   have aD := M.e_pure hM
   exact ⟨_, (resE_ofn (vs := [.pointer none, .agg (encB (List.replicate 12 false)).toArray, I e]) rfl rfl (.tmp (v := .pointer none) rfl <| .cell (v := .agg (encB (List.replicate 12 false)).toArray) rfl (run_loadVar_arr Ag96 Sz96 aG bz) <| .tmp (v := I e) rfl <| .nil)), .inl (⟨(List.replicate 12 false), e, aD, rfl, (H.pk []), aG⟩)⟩
  replace hM := M.e_f hM aI
  replace aI := dI aI
  refine W.skip <| W.seq <| W.seq <| W.region rfl <| zM au rfl ?_
  have b8 := (aF).len_le
  refine s_val (x_lenS T22.und rfl aF) <| zM (I 0) rfl <| s_nil <| W.block ?_;obtain ⟨bA, aS, bB⟩ := M.e_bind hM
  obtain ⟨bC, aS⟩ := M.e_iter aS
  refine W.loop (fun m σ W => ∃ (ar : List Bool) (s : Nat) (ρ : Env), σ = upds ρ [(5, Pq aq), (7, Pq aj), (8, .pointer none), (31, au), (32, I (watches.length : Int)), (33, I (s : Int))] /\ M.iterN (zdv watches) m (ar, s) = some bA /\ St w W [cBlk aj (encB ar) 96, cBlk aq (encB (List.replicate 12 false)) 96, cBlk ao [aa, ab, ac, ae, I ah, I ai, ag] 29] R /\ ar.length = 12) ?_ ?_
  ·exact ⟨_, List.replicate 12 false, 0, _, upds_of _ _ ⟨rfl, rfl, rfl, rfl, rfl, rfl, trivial⟩, aS, H, aG⟩
  rintro b9 σ ca ⟨ar, s, ρ, rfl, ba, H, ay⟩
  obtain ⟨bD, bE, cb, hM, bc⟩ := M.e_iterN ba
  simp only [zdv] at hM
  clear ba;refine W.seq <| W.region rfl <| zC (s : Int) (watches.length : Int) (decide ((s : Int) < (watches.length : Int))) rfl rfl rfl <| s_nil <| W.seq ?_
  refine W.cond (decide ((s : Int) < (watches.length : Int))) rfl (fun aJ => ?_) (fun aJ => ?_)
  ·replace hM := M.e_t hM aJ
   replace aJ := dI aJ
   refine W.skip <| W.seq <| W.block <| W.seq <| W.region rfl ?_;obtain ⟨cc, hM⟩ := M.e_gd hM;refine s_val (x_ix (v := vat au 1 (Int.toNat (s : Int))) rfl rfl (Sl.ix (α := Int) T22.und T22.size aF (by omega) (by omega))) <| s_val (x_ld (v := I (watches.getD s 0)) rfl (ld_sc Sc3 (At.mono (Int_at aF (i := (s : Int)) (by omega) (by omega)) (aO.at H)))) <| zA (I (watches.getD s 0)) rfl <| s_nil <| W.region rfl <| zM (I (watches.getD s 0)) rfl ?_;obtain ⟨ce, hM⟩ := M.e_gd hM;refine s_val (x_ix (v := .pointer (some ⟨aj, 0 + Int.toNat (watches.getD s 0), none⟩)) rfl rfl (run_indexArr Tryz.underlying96 Sz4 (by omega) (by omega))) ?_;refine t_stArr (k := 0) (b := aj) (l := ar) (l' := ar.set (Int.toNat (watches.getD s 0)) true) (i := watches.getD s 0) (v := true) (L' := [cBlk aj (encB (ar.set (Int.toNat (watches.getD s 0)) true)) 96, cBlk aq (encB (List.replicate 12 false)) 96, cBlk ao [aa, ab, ac, ae, I ah, I ai, ag] 29]) H rfl rfl rfl Sz4 (by omega) (by have bF := ay; omega) rfl rfl ?_;intro cf H
   have bG : (ar.set (Int.toNat (watches.getD s 0)) true).length = 12 := List.length_set.trans ay
   refine s_nil <| W.region rfl <| zR (s : Int) 1 ((s : Int) + 1) rfl rfl rfl (by omega) <| zM (I ((s : Int) + 1)) rfl <| s_nil ?_
   exact ⟨bD, bE, ar.set (Int.toNat (watches.getD s 0)) true, s + 1, _, upds_of _ _ ⟨rfl, rfl, rfl, rfl, rfl, rfl, trivial⟩, M.e_inl hM bc, H, bG⟩
  replace hM := M.e_f hM aJ
  replace aJ := dI aJ
  refine W.exit ?_
  have bH := M.e_inr hM bc
  subst bH;replace hM := bB;(try dsimp only at hM);refine W.seq ?_;refine W.draw (fun W => St w W [cBlk aj (encB ar) 96, cBlk ao [aa, ab, ac, ae, I ah, I ai, ag] 29] R) [(0, true), (1, true), (2, true), (3, false), (4, true)] mixed (by decide +kernel) rfl ?_;intro cg aE;replace H := H.ext aE;clear aE
  refine ⟨(H.pk [0, 2]), ?_⟩
  refine d_q rfl (fun w' H => x_mv (v := .pointer none) rfl) <| d_q rfl (fun w' H => x_ld (v := .agg (encB ar).toArray) rfl (ldArrA Ag96 Sz96 ay (H.bl 0))) <| d_q rfl (fun w' H => x_as (v := .pointer none) rfl) <| d_l rfl ?_;refine t_stArrA (k := 1) (b := aq) (l := List.replicate 12 false) (l' := ar) (L' := [cBlk aj (encB ar) 96, cBlk aq (encB ar) 96, cBlk ao [aa, ab, ac, ae, I ah, I ai, ag] 29]) H rfl rfl rfl Sz96 aP ay rfl ?_;intro ck H
  refine s_nil ⟨(H.pk [0, 2]), ?_⟩
  refine d_q rfl (fun w' H => x_as (v := I 0) rfl) ?_;refine d_nil ?_;replace H := H.pk [1];refine W.ret ?_
  have bI := (H.bl 0)
  have aD := M.e_pure hM
  exact ⟨_, (resE_ofn (vs := [.pointer none, .agg (encB ar).toArray, I 0]) rfl rfl (.tmp (v := .pointer none) rfl <| .cell (v := .agg (encB ar).toArray) rfl (run_loadVar_arr Ag96 Sz96 ay bI) <| .tmp (v := I 0) rfl <| .nil)), .inl (⟨ar, 0, aD, rfl, (H.pk []), ay⟩)⟩
 subst bw;subst vq;(try dsimp only at hM);replace H := H.bk aN;clear aN;refine zM (.tuple #[Pq al, I ak]) rfl <| zX [Pq al, I ak] (Pq al) rfl rfl <| zX [Pq al, I ak] (I ak) rfl rfl <| zA (Pq al) rfl <| zA (I ak) rfl <| s_nil ?_;refine W.seqJ (fun σ W => ∃ (e2 : Int) (ρ : Env), σ = upds ρ [(1, au), (5, Pq aq), (7, Pq aj), (8, Pq al), (9, I e2)] /\ (zbI am az aA aB ah ai aC watches av aw e2).Ends r /\ St w W [cBlk al [aa, ab, ac, ae, I av, I aw, ag, .map (some ax)] 111, cMem encDm ax aH (zaa am az aA aB av aw aC), cBlk aj (encB (List.replicate 12 false)) 96, cBlk aq (encB (List.replicate 12 false)) 96, cBlk ao [aa, ab, ac, ae, I ah, I ai, ag] 29] R) ?_ ?_
 ·skip
  refine W.seq <| W.region rfl <| zM (I ak) rfl <| zC ak 0 (ak == 0) rfl rfl rfl <| zM (B (ak == 0)) rfl <| g_val (ak == 0) (gy_t rfl) (fun hg => x_mv (v := au) rfl) <| g_val (ak == 0) (gy_t rfl) (fun hg => x_fa (v := Pq ao) rfl (fa_blk (o := 0) Fd29_0 Sz22)) <| g_val (ak == 0) (gy_t rfl) (fun hg => x_ld (v := aa) (gd_of hg (Pq ao)) (ldb_sc Sc22 (H.bl 4) rfl)) ?_
  have cl := (aM).len_le
  refine g_val (ak == 0) (gy_t rfl) (fun hg => x_lenS T22.und (gd_of hg (aa)) aM) ?_;obtain ⟨r2, bJ, hM⟩ := M.e_bind hM;refine t_gcall (ak == 0) (gy_t rfl) cf62 (B r2) (fun _ => [au, I (am.length : Int)]) (fun hg => lst2 (gd_of hg (au)) (gd_of hg (I (am.length : Int)))) H (fun hg => (zds watches (am.length : Int) (aO.app _) aF (M.e_opt bJ hg) _ (H.give (A := []) rfl)).mono fun v_ w_ ⟨y_, aD, aQ, H_⟩ => by subst aD; exact ⟨aQ, H.via H_⟩) ?_;intro cm H;refine g_val (ak == 0) (gy_t rfl) (fun hg => x_not (b := r2) (gd_of hg (B r2))) <| s_val (x_pand (b := ak == 0) (r := !r2) rfl (fun hb => gd_of (c := ak == 0) (by first | exact hb | (rw [hb]; rfl) | simp_all) (B (!r2))) rfl) <| s_nil ?_
  refine W.cond ((ak == 0) && (!r2)) rfl (fun aT => ?_) (fun aT => ?_)
  ·replace hM := M.e_t hM aT;refine W.region rfl <| zA (I 2) rfl <| s_nil ?_
   exact ⟨2, _, upds_of _ _ ⟨rfl, rfl, rfl, rfl, rfl, trivial⟩, hM, H⟩
  replace hM := M.e_f hM aT;refine W.skip ?_
  exact ⟨ak, _, upds_of _ _ ⟨rfl, rfl, rfl, rfl, rfl, trivial⟩, hM, H⟩
 rintro _ cn ⟨e2, ρ, rfl, hM, H⟩
 unfold zbI at hM
 refine W.seq <| W.seq <| W.region rfl <| zM (I e2) rfl <| zC e2 0 (e2 != 0) rfl rfl rfl <| s_nil ?_
 refine W.cond (e2 != 0) rfl (fun aK => ?_) (fun aK => ?_)
 ·replace hM := M.e_t hM aK
  replace aK := dI aK
  refine W.seq ?_;refine W.draw (fun W => St w W [cBlk al [aa, ab, ac, ae, I av, I aw, ag, .map (some ax)] 111, cMem encDm ax aH (zaa am az aA aB av aw aC), cBlk aj (encB (List.replicate 12 false)) 96, cBlk ao [aa, ab, ac, ae, I ah, I ai, ag] 29] R) [(0, true), (1, true), (2, true), (3, false), (4, true)] mixed (by decide +kernel) rfl ?_;intro co aE;replace H := H.ext aE;clear aE
  refine ⟨(H.pk [0, 1, 2, 4]), ?_⟩
  refine d_q rfl (fun w' H => x_ld (v := .agg (encB (List.replicate 12 false)).toArray) rfl (ldArrA Ag96 Sz96 aG (H.bl 2))) <| d_q rfl (fun w' H => x_mv (v := I e2) rfl) <| d_q rfl (fun w' H => x_as (v := .pointer none) rfl) <| d_l rfl ?_;refine t_stArrA (k := 3) (b := aq) (l := List.replicate 12 false) (l' := List.replicate 12 false) (L' := [cBlk al [aa, ab, ac, ae, I av, I aw, ag, .map (some ax)] 111, cMem encDm ax aH (zaa am az aA aB av aw aC), cBlk aj (encB (List.replicate 12 false)) 96, cBlk aq (encB (List.replicate 12 false)) 96, cBlk ao [aa, ab, ac, ae, I ah, I ai, ag] 29]) H rfl rfl rfl Sz96 aP aG rfl ?_;intro cp H
  refine s_nil ⟨(H.pk [0, 1, 2, 4]), ?_⟩
  refine d_q rfl (fun w' H => x_as (v := I e2) rfl) ?_;refine d_nil ?_;replace H := H.pk [3];refine W.ret ?_
  have bK := (H.bl 0)
  have aD := M.e_pure hM
  exact ⟨_, (resE_ofn (vs := [.pointer none, .agg (encB (List.replicate 12 false)).toArray, I e2]) rfl rfl (.tmp (v := .pointer none) rfl <| .cell (v := .agg (encB (List.replicate 12 false)).toArray) rfl (run_loadVar_arr Ag96 Sz96 aG bK) <| .tmp (v := I e2) rfl <| .nil)), .inl (⟨(List.replicate 12 false), e2, aD, rfl, (H.pk []), aG⟩)⟩
 replace hM := M.e_f hM aK
 replace aK := dI aK
 refine W.skip <| W.seq <| W.seq <| W.region rfl <| zM au rfl ?_
 have cq := (aF).len_le
 refine s_val (x_lenS T22.und rfl aF) <| zM (I 0) rfl <| s_nil <| W.block ?_;obtain ⟨bL, aU, bM⟩ := M.e_bind hM
 obtain ⟨bC, aU⟩ := M.e_iter aU
 refine W.loop (fun m σ W => ∃ (ar : List Bool) (s : Nat) (ρ : Env), σ = upds ρ [(5, Pq aq), (7, Pq aj), (8, Pq al), (31, au), (32, I (watches.length : Int)), (33, I (s : Int))] /\ M.iterN (zbS watches) m (ar, s) = some bL /\ St w W [cBlk al [aa, ab, ac, ae, I av, I aw, ag, .map (some ax)] 111, cMem encDm ax aH (zaa am az aA aB av aw aC), cBlk aj (encB ar) 96, cBlk aq (encB (List.replicate 12 false)) 96, cBlk ao [aa, ab, ac, ae, I ah, I ai, ag] 29] R /\ ar.length = 12) ?_ ?_
 ·exact ⟨_, List.replicate 12 false, 0, _, upds_of _ _ ⟨rfl, rfl, rfl, rfl, rfl, rfl, trivial⟩, aU, H, aG⟩
 rintro cu σ cw ⟨ar, s, ρ, rfl, bf, H, ay⟩
 obtain ⟨bN, bO, cx, hM, bg⟩ := M.e_iterN bf
 simp only [zbS] at hM
 clear bf;refine W.seq <| W.region rfl <| zC (s : Int) (watches.length : Int) (decide ((s : Int) < (watches.length : Int))) rfl rfl rfl <| s_nil <| W.seq ?_
 refine W.cond (decide ((s : Int) < (watches.length : Int))) rfl (fun aL => ?_) (fun aL => ?_)
 ·replace hM := M.e_t hM aL
  replace aL := dI aL
  refine W.skip <| W.seq <| W.block <| W.seq <| W.region rfl ?_;obtain ⟨cy, hM⟩ := M.e_gd hM;refine s_val (x_ix (v := vat au 1 (Int.toNat (s : Int))) rfl rfl (Sl.ix (α := Int) T22.und T22.size aF (by omega) (by omega))) <| s_val (x_ld (v := I (watches.getD s 0)) rfl (ld_sc Sc3 (At.mono (Int_at aF (i := (s : Int)) (by omega) (by omega)) (aO.at H)))) <| zA (I (watches.getD s 0)) rfl <| s_nil <| W.region rfl <| zM (I (watches.getD s 0)) rfl ?_;obtain ⟨cz, hM⟩ := M.e_gd hM;refine s_val (x_ix (v := .pointer (some ⟨aj, 0 + Int.toNat (watches.getD s 0), none⟩)) rfl rfl (run_indexArr Tryz.underlying96 Sz4 (by omega) (by omega))) ?_;refine t_stArr (k := 2) (b := aj) (l := ar) (l' := ar.set (Int.toNat (watches.getD s 0)) true) (i := watches.getD s 0) (v := true) (L' := [cBlk al [aa, ab, ac, ae, I av, I aw, ag, .map (some ax)] 111, cMem encDm ax aH (zaa am az aA aB av aw aC), cBlk aj (encB (ar.set (Int.toNat (watches.getD s 0)) true)) 96, cBlk aq (encB (List.replicate 12 false)) 96, cBlk ao [aa, ab, ac, ae, I ah, I ai, ag] 29]) H rfl rfl rfl Sz4 (by omega) (by have bF := ay; omega) rfl rfl ?_;intro cA H
  have bP : (ar.set (Int.toNat (watches.getD s 0)) true).length = 12 := List.length_set.trans ay
  refine s_nil <| W.region rfl <| zR (s : Int) 1 ((s : Int) + 1) rfl rfl rfl (by omega) <| zM (I ((s : Int) + 1)) rfl <| s_nil ?_
  exact ⟨bN, bO, ar.set (Int.toNat (watches.getD s 0)) true, s + 1, _, upds_of _ _ ⟨rfl, rfl, rfl, rfl, rfl, rfl, trivial⟩, M.e_inl hM bg, H, bP⟩
 replace hM := M.e_f hM aL
 replace aL := dI aL
 refine W.exit ?_
 have bQ := M.e_inr hM bg
 subst bQ;replace hM := bM;(try dsimp only at hM);refine W.seq ?_;refine W.draw (fun W => St w W [cBlk al [aa, ab, ac, ae, I av, I aw, ag, .map (some ax)] 111, cMem encDm ax aH (zaa am az aA aB av aw aC), cBlk aj (encB ar) 96, cBlk ao [aa, ab, ac, ae, I ah, I ai, ag] 29] R) [(0, true), (1, true), (2, true), (3, false), (4, true)] mixed (by decide +kernel) rfl ?_;intro cB aE;replace H := H.ext aE;clear aE
 refine ⟨(H.pk [0, 1, 2, 4]), ?_⟩
 refine d_q rfl (fun w' H => x_mv (v := Pq al) rfl) <| d_q rfl (fun w' H => x_ld (v := .agg (encB ar).toArray) rfl (ldArrA Ag96 Sz96 ay (H.bl 2))) <| d_q rfl (fun w' H => x_as (v := Pq al) rfl) <| d_l rfl ?_;refine t_stArrA (k := 3) (b := aq) (l := List.replicate 12 false) (l' := ar) (L' := [cBlk al [aa, ab, ac, ae, I av, I aw, ag, .map (some ax)] 111, cMem encDm ax aH (zaa am az aA aB av aw aC), cBlk aj (encB ar) 96, cBlk aq (encB ar) 96, cBlk ao [aa, ab, ac, ae, I ah, I ai, ag] 29]) H rfl rfl rfl Sz96 aP ay rfl ?_;intro cC H
 refine s_nil ⟨(H.pk [0, 1, 2, 4]), ?_⟩
 refine d_q rfl (fun w' H => x_as (v := I 0) rfl) ?_;refine d_nil ?_;replace H := H.pk [0, 1, 3];refine W.ret ?_
 have bR := (H.bl 2)
 have aD := M.e_pure hM
 exact ⟨_, (resE_ofn (vs := [Pq al, .agg (encB ar).toArray, I 0]) rfl rfl (.tmp (v := Pq al) rfl <| .cell (v := .agg (encB ar).toArray) rfl (run_loadVar_arr Ag96 Sz96 ay bR) <| .tmp (v := I 0) rfl <| .nil)), .inr (⟨av, aw, ar, 0, al, ax, aH, aD, rfl, (H.pk [0, 1]), ay⟩)⟩

def zco (t : Town) (ab ae : Int) (ac : List Int) (aa : Int) : M Bool :=
  M.grd ((!(t.station == ab) || (decide ((0 : Int) <= aa) && decide (aa < (ac.length : Int))))) <|
  M.pure ((t.station == ab) && (decide (t.alarm <= (ac.getD (Int.toNat aa) 0))))
theorem zdJ {R : List Chunk} {al : Nat} {aj : Nat} {am : Cells} {ai : Value} {ao : Nat} (t : Town) (aa : Int) (aq : Int) (ag : List Int) (ac : Int) (av : Has R (cBlk al [I aa] 3)) (aw : Reads R am) (au : Sl am ai ag) (ax : Has R (cBlk aj [I aq, ai] 85)) (ay : Has R (cBlk ao [I ac] 3)) {r : Bool} (hM : (zco t aa aq ag ac).Ends r) (w : World) (H : St w w [] R) : Ret Tryz.prog 93 #[.agg #[I t.station, I t.lead, I t.alarm], Pq al, Pq aj, Pq ao] w fun v w' => ∃ (y0 : Bool), y0 = r /\ v = B y0 /\ St w w' [] R := by
 refine ret_of_W Tryz.func93 rfl rfl rfl <| W.seq <| W.region rfl ?_;refine t_bx [I t.station, I t.lead, I t.alarm] H rfl ?_;intro ak aA H;refine zA (B false) rfl <| s_nil <| W.seq ?_;refine W.draw (fun W => St w W [cBlk ak [I t.station, I t.lead, I t.alarm] 91] R) [(0, true), (1, true), (2, true), (3, true), (4, true), (5, true), (6, true), (7, true), (8, true), (9, true), (10, true), (11, true), (12, true), (13, true), (14, true)] mixed (by decide +kernel) rfl ?_;intro aB ae;replace H := H.ext ae;clear ae
 refine ⟨(H.pk [0]), ?_⟩
 refine d_q rfl (fun w' H => x_fa (v := Pq ak) rfl (fa_blk (o := 0) Fd91_0 Sz3)) <| d_q rfl (fun w' H => x_ld (v := I t.station) rfl (ldb_sc Sc3 (H.bl 0) rfl)) <| d_q rfl (fun w' H => x_ld (v := I aa) rfl (ldb_sc Sc3 (av.blk H) rfl)) <| d_q rfl (fun w' H => x_cmp (kd := .i64) (r := t.station == aa) rfl rfl rfl) <| d_q rfl (fun w' H => x_mv (v := B (t.station == aa)) rfl) <| d_qg (t.station == aa) rfl (gy_t rfl) (fun hg => (fun w' H => x_fa (v := Oq aj 1) rfl (fa_blk (o := 0) Fd85_1 Sz22))) <| d_qg (t.station == aa) rfl (gy_t rfl) (fun hg => (fun w' H => x_ld (v := ai) (gd_of hg (Oq aj 1)) (ldb_sc Sc22 (ax.blk H) rfl))) <| d_qg (t.station == aa) rfl (gy_t rfl) (fun hg => (fun w' H => x_ld (v := I ac) rfl (ldb_sc Sc3 (ay.blk H) rfl))) ?_;obtain ⟨ah, hM⟩ := M.e_grd hM
 replace ah := M.imp_of ah
 simp only [Bool.and_eq_true, decide_eq_true_eq] at ah
 refine d_qg (t.station == aa) rfl (gy_t rfl) (fun hg => (fun w' H => x_ix (v := vat ai 1 (Int.toNat ac)) (gd_of hg (ai)) (gd_of hg (I ac)) (Sl.ix (α := Int) T22.und T22.size au (by have ab := ah.resolve_left (by rw [hg]; decide); first | exact ab | exact ab.1 | exact ab.2 | omega | (have ae := hg; simp at ae; omega)) (by have ab := ah.resolve_left (by rw [hg]; decide); first | exact ab | exact ab.1 | exact ab.2 | omega | (have ae := hg; simp at ae; omega))))) <| d_qg (t.station == aa) rfl (gy_t rfl) (fun hg => (fun w' H => x_ld (v := I (ag.getD (Int.toNat ac) 0)) (gd_of hg (vat ai 1 (Int.toNat ac))) (ld_sc Sc3 (At.mono (Int_at au (i := ac) (by have ab := ah.resolve_left (by rw [hg]; decide); first | exact ab | exact ab.1 | exact ab.2 | omega | (have ae := hg; simp at ae; omega)) (by have ab := ah.resolve_left (by rw [hg]; decide); first | exact ab | exact ab.1 | exact ab.2 | omega | (have ae := hg; simp at ae; omega))) (aw.at H))))) <| d_qg (t.station == aa) rfl (gy_t rfl) (fun hg => (fun w' H => x_fa (v := Oq ak 2) rfl (fa_blk (o := 0) Fd91_2 Sz3))) <| d_qg (t.station == aa) rfl (gy_t rfl) (fun hg => (fun w' H => x_ld (v := I t.alarm) (gd_of hg (Oq ak 2)) (ldb_sc Sc3 (H.bl 0) rfl))) <| d_qg (t.station == aa) rfl (gy_t rfl) (fun hg => (fun w' H => x_cmp (kd := .i64) (r := decide (t.alarm <= (ag.getD (Int.toNat ac) 0))) (gd_of hg (I (ag.getD (Int.toNat ac) 0))) (gd_of hg (I t.alarm)) rfl)) <| d_q rfl (fun w' H => x_pand (b := t.station == aa) (r := decide (t.alarm <= (ag.getD (Int.toNat ac) 0))) rfl (fun hb => gd_of (c := t.station == aa) (by first | exact hb | (rw [hb]; rfl) | simp_all) (B (decide (t.alarm <= (ag.getD (Int.toNat ac) 0))))) rfl) <| d_q rfl (fun w' H => x_as (v := B ((t.station == aa) && (decide (t.alarm <= (ag.getD (Int.toNat ac) 0))))) rfl) ?_;refine d_nil ?_;refine W.ret ?_
 have az := M.e_pure hM
 exact ⟨_, resE_tmp rfl, ⟨((t.station == aa) && (decide (t.alarm <= (ag.getD (Int.toNat ac) 0)))), az, rfl, (H.pk [])⟩⟩

def zbk (ab : List Town) (f : Flood) (p : List Bool) : (Int × Int × Bool) -> (Int × Int) -> M ((Int × Int × Bool) ⊕ Unit) := fun (s3, s4, s5) (x, x2) =>
  M.grd (decide ((0 : Int) <= x2) && decide (x2 < (12 : Int))) <|
  bif ((p.getD (Int.toNat x2) false) && (s3 == (-1))) then (
  M.grd (decide ((0 : Int) <= x) && decide (x < (f.stages.length : Int))) <|
  M.bind (zbG ab (fun aa => zco aa x2 f.spring f.stages x)) fun r2 =>
  bif r2 then (
  M.pure (.inl (x2, f.stages.getD (Int.toNat x) 0, true)))
  else (
  M.pure (.inl (x2, f.stages.getD (Int.toNat x) 0, s5))))
  else (
  M.bind (zbG ab (fun aa => zco aa x2 f.spring f.stages x)) fun r2 =>
  bif r2 then (
  M.pure (.inl (s3, s4, true)))
  else (
  M.pure (.inl (s3, s4, s5))))
def zbc (ab : List Int) (ac : List Span) (ae : List Int) (aa : List Town) (ah ai : Int) (ag : List Flood) (f : Flood) (p : List Bool) : M (Int × Int × Bool) :=
  M.bind (zam ab ac ae aa ah ai ag f.spring) fun (aj, ak, al) =>
  M.bind (zai (M.yl (zbk aa f p)) (.inl (-1, 0, false)) aj ab ac ae aa ak al ag) fun x_ => match x_ with
  | (.inl (s3, s4, s5), q0) => (
  M.pure (s3, s4, s5))
  | (.inr _, _) => M.fail
theorem zca {R : List Chunk} {aa : Nat} {bq : Cells} {ah : Value} {br : Cells} {ai : Value} {bt : Cells} {aj : Value} {bu : Cells} {ac : Value} {bv : Cells} {ak : Value} {bz : Nat} {bw : Cells} {ag : Value} (aM : List Int) (aN : List Span) (aO : List Int) (am : List Town) (aC : Int) (aD : Int) (aP : List Flood) (f : Flood) (p : List Bool) (aQ : Reads R bq) (aY : Sl bq ah aM) (aR : Reads R br) (aZ : Sl br ai aN) (aS : Reads R bt) (a6 : Sl bt aj aO) (aE : Reads R bu) (aF : Sl bu ac am) (aT : Reads R bv) (a7 : Sl bv ak aP) (aG : Has R (cBlk aa [ah, ai, aj, ac, I aC, I aD, ak, .map (some bz)] 111)) (aH : Reads R bw) (aI : Sl bw ag f.stages) (bA : p.length = 12) {r : (Int × Int × Bool)} (hM : (zbc aM aN aO am aC aD aP f p).Ends r) (w : World) (H : St w w [] R) : Ret Tryz.prog 48 #[Pq aa, .agg #[I f.spring, ag], .agg (encB p).toArray] w fun v w' => ∃ (y0 : Int) (y1 : Int) (y2 : Bool), (y0, y1, y2) = r /\ v = .agg #[I y0, I y1, B y2] /\ St w w' [] R := by
 refine ret_of_WD Tryz.func48 rfl rfl rfl ?_
 replace H : St w w [cMk ([])] R := H.mk0
 have bQ := aY.len_le
 have bR := aZ.len_le
 have bS := a6.len_le
 have bT := aF.len_le
 have bU := a7.len_le
 have bV := aI.len_le
 unfold zbc at hM
 refine WD.seq <| WD.of <| W.region rfl ?_;refine t_b1 (Pq aa) H rfl rfl ?_;intro aw bW H;refine t_bx [I f.spring, ag] H rfl ?_;intro ae bX H;refine t_box (v := .agg (encB p).toArray) (cs := encB p) H rfl rfl ?_;intro aq bY H;refine t_alloc (cs := [I 0, I 0, B false]) H Al101 rfl ?_;intro ax bZ H;refine s_nil <| WD.seq <| WD.of <| W.region rfl <| s_val (x_bld (ps := [(0, I (-1))]) (zs := [I 0, I 0, B false]) (L' := [I (-1), I 0, B false]) rfl Tryz.underlying101 Al101 rfl (Bd101 Tryz.underlying101) (.cons (cs := [I (-1)]) rfl rfl rfl rfl rfl <| .nil)) ?_;refine t_alloc (cs := [I 0, I 0, B false]) H Al101 rfl ?_;intro ab b4 H;refine t_sw 0 0 [I (-1), I 0, B false] (.agg #[I (-1), I 0, B false]) H rfl rfl Sz101 rfl rfl rfl rfl ?_;intro b7 H;refine s_nil <| WD.seq <| WD.seq <| WD.of ?_;refine W.draw (fun W => St w W [cBlk ab [I (-1), I 0, B false] 101, cBlk ax [I 0, I 0, B false] 101, cBlk aq (encB p) 96, cBlk ae [I f.spring, ag] 85, cBlk aw [Pq aa] 94, cMk ([])] R) [(0, true), (1, true), (2, true), (3, true), (4, true), (5, true), (6, false)] mixed (by decide +kernel) rfl ?_;intro b8 aJ;replace H := H.ext aJ;clear aJ
 refine ⟨(H.pk [0, 1, 2, 3, 4, 5]), ?_⟩
 refine d_q rfl (fun w' H => x_ld (v := Pq aa) rfl (ldb_sc Sc94 (H.bl 4) rfl)) <| d_q rfl (fun w' H => x_nc (a := ⟨aa, 0, none⟩) rfl) <| d_q rfl (fun w' H => x_fa (v := Pq aa) rfl (fa_blk (o := 0) Fd111_0 Sz29)) <| d_q rfl (fun w' H => x_ld (v := .agg #[ah, ai, aj, ac, I aC, I aD, ak]) rfl (ldb_ag (ds := [ah, ai, aj, ac, I aC, I aD, ak]) Ag29 Sz29 (aG.blk H) rfl rfl)) <| d_q rfl (fun w' H => x_fa (v := Pq ae) rfl (fa_blk (o := 0) Fd85_0 Sz3)) <| d_q rfl (fun w' H => x_ld (v := I f.spring) rfl (ldb_sc Sc3 (H.bl 3) rfl)) <| d_l rfl ?_;obtain ⟨b9, bB, hM⟩ := M.e_bind hM;refine s_call cf66 [.agg #[ah, ai, aj, ac, I aC, I aD, ak], I f.spring] rfl (zce aM aN aO am aC aD aP f.spring (aQ.app _) aY (aR.app _) aZ (aS.app _) a6 (aE.app _) aF (aT.app _) a7 bB _ (H.gt 6)) ?_
 rintro vq ca ⟨aU, ay, az, aK, aA, rfl, hvq, al⟩
 subst vq;(try dsimp only at hM);replace H := H.bk al;clear al
 refine s_nil ⟨(H.pk [2, 3, 4, 5, 6, 7]), ?_⟩
 refine d_nil <| WD.block ?_;obtain ⟨cb, bC, hM⟩ := M.e_bind hM;refine WD.range (L := [cBlk ab [I (-1), I 0, B false] 101, cBlk aA [ah, ai, aj, ac, I ay, I az, ak] 29, cBlk ax [I 0, I 0, B false] 101, cBlk aq (encB p) 96, cBlk ae [I f.spring, ag] 85, cBlk aw [Pq aa] 94, cBlk aK [I aU] 3]) [Pq aK, Pq aA] (H.pk [7, 2, 1, 3, 4, 5, 6, 0]) rfl cf96 ?_;intro aV aW a8 bD ba H
 have hYC : YieldC Tryz.prog ([cMk (aW :: ([])), cBlk aA [ah, ai, aj, ac, I ay, I az, ak] 29, cBlk ax [I 0, I 0, B false] 101, cBlk aq (encB p) 96, cBlk ae [I f.spring, ag] 85, cBlk aw [Pq aa] 94] ++ R) arII (yJ aV a8 (fun (s3, s4, s5) aX => aX = [cBlk ab [I s3, I s4, B s5] 101]) (fun (_ : Unit) _ => False) (fun _ => .ret)) (.func (.yield aV) #[] #[]) (M.yl (zbk am f p)) := by
  refine YieldC.mk2 ba (fun (s3, s4, s5) aX => aX = [cBlk ab [I s3, I s4, B s5] 101]) (fun (_ : Unit) _ => False) (fun _ => .ret) (zbk am f p) (by rintro ⟨s3, s4, s5⟩ _ h_; obtain ⟨rfl⟩ := h_; rfl) (fun _ _ h_ => h_.elim) rfl (arII_len rfl) ?_;intro C_ cc x_ bE
  obtain ⟨x, x2⟩ := x_
  obtain rfl := bE
  intro w R ao aX s_ r bF hM H
  obtain ⟨s3, s4, s5⟩ := s_
  obtain ⟨rfl⟩ := bF
  replace H := H.nf;refine W.seq <| W.region rfl ?_;refine t_alloc (cs := [I 0]) H Al3 rfl ?_;intro au ce H;refine t_sw 0 0 [I x] (I x) H rfl rfl Sz3 rfl rfl rfl rfl ?_;intro cf H;refine s_nil <| W.region rfl ?_;refine t_alloc (cs := [I 0]) H Al3 rfl ?_;intro av cg H;refine t_sw 0 0 [I x2] (I x2) H rfl rfl Sz3 rfl rfl rfl rfl ?_;intro ck H;refine s_nil ?_
  refine ⟨rfl, [cBlk av [I x2] 3, cBlk au [I x] 3], H.pick [0, 1, 2, 3, 4, 5, 6, 7, 8] (by decide) rfl, ?_⟩
  clear H ao
  intro w R ao H
  replace aQ := aQ.sub ao
  replace aR := aR.sub ao
  replace aS := aS.sub ao
  replace aE := aE.sub ao
  replace aT := aT.sub ao
  replace aG := aG.sub ao
  replace aH := aH.sub ao
  replace hM : (zbk am f p (s3, s4, s5) (x, x2)).Ends r := hM
  simp only [zbk] at hM
  replace H := H.nf;refine W.block <| W.seq <| W.seq <| W.region rfl <| s_val (x_ld (v := I x2) rfl (ldb_sc Sc3 (H.bl 0) rfl)) ?_;obtain ⟨cl, hM⟩ := M.e_gd hM;refine s_val (x_ix (v := .pointer (some ⟨aq, 0 + Int.toNat x2, none⟩)) rfl rfl (run_indexArr Tryz.underlying96 Sz4 (by omega) (by omega))) <| s_val (x_ld (v := B (p.getD (Int.toNat x2) false)) rfl (ldArr Sc4 (H.bl 6) (by omega) (by have cm := bA; omega))) <| zM (B (p.getD (Int.toNat x2) false)) rfl <| g_val (p.getD (Int.toNat x2) false) (gy_t rfl) (fun hg => x_fa (v := Pq ab) rfl (fa_blk (o := 0) Fd101_0 Sz3)) <| g_val (p.getD (Int.toNat x2) false) (gy_t rfl) (fun hg => x_ld (v := I s3) (gd_of hg (Pq ab)) (ldb_sc Sc3 (H.bl 2) rfl)) <| g_val (p.getD (Int.toNat x2) false) (gy_t rfl) (fun hg => x_cmp (kd := .i64) (r := s3 == (-1)) (gd_of hg (I s3)) rfl rfl) <| s_val (x_pand (b := p.getD (Int.toNat x2) false) (r := s3 == (-1)) rfl (fun hb => gd_of (c := p.getD (Int.toNat x2) false) (by first | exact hb | (rw [hb]; rfl) | simp_all) (B (s3 == (-1)))) rfl) <| s_nil ?_
  refine W.cond ((p.getD (Int.toNat x2) false) && (s3 == (-1))) rfl (fun bc => ?_) (fun bc => ?_)
  ·replace hM := M.e_t hM bc;refine W.draw (fun W => St w W [cBlk av [I x2] 3, cBlk au [I x] 3, cMk (aW :: ([])), cBlk aA [ah, ai, aj, ac, I ay, I az, ak] 29, cBlk ax [I 0, I 0, B false] 101, cBlk aq (encB p) 96, cBlk ae [I f.spring, ag] 85, cBlk aw [Pq aa] 94] R) [(0, true), (1, true), (2, true), (3, true), (4, true), (5, true), (6, true), (7, false), (8, true), (9, false)] mixed (by decide +kernel) rfl ?_;intro cn aJ;replace H := H.ext aJ;clear aJ
   refine ⟨(H.pk [0, 1, 3, 4, 5, 6, 7, 8]), ?_⟩
   refine d_q rfl (fun w' H => x_ld (v := I x2) rfl (ldb_sc Sc3 (H.bl 0) rfl)) <| d_q rfl (fun w' H => x_fa (v := Oq ae 1) rfl (fa_blk (o := 0) Fd85_1 Sz22)) <| d_q rfl (fun w' H => x_ld (v := ag) rfl (ldb_sc Sc22 (H.bl 6) rfl)) <| d_q rfl (fun w' H => x_ld (v := I x) rfl (ldb_sc Sc3 (H.bl 1) rfl)) ?_;obtain ⟨co, hM⟩ := M.e_gd hM;refine d_q rfl (fun w' H => x_ix (v := vat ag 1 (Int.toNat x)) rfl rfl (Sl.ix (α := Int) T22.und T22.size aI (by omega) (by omega))) <| d_q rfl (fun w' H => x_ld (v := I (f.stages.getD (Int.toNat x) 0)) rfl (ld_sc Sc3 (At.mono (Int_at aI (i := x) (by omega) (by omega)) (aH.at H)))) <| d_q rfl (fun w' H => x_fa (v := Pq ab) rfl (fa_blk (o := 0) Fd101_0 Sz3)) <| d_l rfl ?_;refine t_sw 2 0 [I x2] (I x2) H rfl rfl Sz3 rfl rfl rfl rfl ?_;intro cp H
   refine s_nil ⟨(H.pk [0, 1, 3, 4, 5, 6, 7, 8]), ?_⟩
   refine d_q rfl (fun w' H => x_fa (v := Oq ab 1) rfl (fa_blk (o := 0) Fd101_1 Sz3)) <| d_l rfl ?_;refine t_sw 2 1 [I (f.stages.getD (Int.toNat x) 0)] (I (f.stages.getD (Int.toNat x) 0)) H rfl rfl Sz3 rfl rfl rfl rfl ?_;intro cq H
   refine s_nil ⟨(H.pk [0, 1, 3, 4, 5, 6, 7, 8]), ?_⟩
   refine d_nil <| W.seq <| W.region rfl <| s_val (x_ld (v := Pq aa) rfl (ldb_sc Sc94 (H.bl 8) rfl)) <| s_val (x_nc (a := ⟨aa, 0, none⟩) rfl) <| s_val (x_fa (v := Pq aa) rfl (fa_blk (o := 0) Fd111_0 Sz29)) <| s_val (x_fa (v := Oq aa 3) rfl (fa_blk (o := 0) Fd29_3 Sz24)) <| s_val (x_ld (v := ac) rfl (ldb_sc Sc24 (aG.blk H) rfl)) <| s_val (x_mf (fs := []) (cs := [Pq av, Pq ae, Pq au]) rfl rfl) ?_;obtain ⟨cu, bG, hM⟩ := M.e_bind hM;refine s_call cf92 [ac, .func (.func 93) #[] #[Pq av, Pq ae, Pq au]] rfl (zdo am (fun aB => zco aB x2 f.spring f.stages x) (aE.app _) aF ⟨93, [Pq av, Pq ae, Pq au], rfl, cf93, fun aL bH bI bf aB bJ bg bK bh bi => by obtain rfl := Town_arg bh; exact (zdJ aB x2 f.spring f.stages x (Has.app (Has.here (k := 0) rfl) _) (Reads.app (aH.app _) _) aI (Has.app (Has.here (k := 7) rfl) _) (Has.app (Has.here (k := 1) rfl) _) bi aL (St.refl bg)).mono fun bf aL ⟨bL, bj, bm, bn⟩ => by subst bj; exact ⟨bm, bn⟩⟩ bG _ (H.gt 9)) ?_
   rintro vq cw ⟨r2, rfl, hvq, al⟩
   subst vq;(try dsimp only at hM);replace H := H.bk al;clear al;refine s_nil ?_
   refine W.cond r2 rfl (fun bo => ?_) (fun bo => ?_)
   ·replace hM := M.e_t hM bo;refine W.region rfl <| s_val (x_fa (v := Oq ab 2) rfl (fa_blk (o := 0) Fd101_2 Sz4)) ?_;refine t_sw 2 2 [B true] (B true) H rfl rfl Sz4 rfl rfl rfl rfl ?_;intro cx H;refine s_nil ?_
    exact ⟨(x2, f.stages.getD (Int.toNat x) 0, true), [cBlk ab [I x2, I (f.stages.getD (Int.toNat x) 0), B true] 101], (M.e_pure hM).symm, rfl, H.pick [2, 3, 4, 5, 6, 7, 8] (by decide) rfl⟩
   replace hM := M.e_f hM bo;refine W.skip ?_
   exact ⟨(x2, f.stages.getD (Int.toNat x) 0, s5), [cBlk ab [I x2, I (f.stages.getD (Int.toNat x) 0), B s5] 101], (M.e_pure hM).symm, rfl, H.pick [2, 3, 4, 5, 6, 7, 8] (by decide) rfl⟩
  replace hM := M.e_f hM bc;refine W.skip <| W.seq <| W.region rfl <| s_val (x_ld (v := Pq aa) rfl (ldb_sc Sc94 (H.bl 8) rfl)) <| s_val (x_nc (a := ⟨aa, 0, none⟩) rfl) <| s_val (x_fa (v := Pq aa) rfl (fa_blk (o := 0) Fd111_0 Sz29)) <| s_val (x_fa (v := Oq aa 3) rfl (fa_blk (o := 0) Fd29_3 Sz24)) <| s_val (x_ld (v := ac) rfl (ldb_sc Sc24 (aG.blk H) rfl)) <| s_val (x_mf (fs := []) (cs := [Pq av, Pq ae, Pq au]) rfl rfl) ?_;obtain ⟨cy, bM, hM⟩ := M.e_bind hM;refine s_call cf92 [ac, .func (.func 93) #[] #[Pq av, Pq ae, Pq au]] rfl (zdo am (fun aB => zco aB x2 f.spring f.stages x) (aE.app _) aF ⟨93, [Pq av, Pq ae, Pq au], rfl, cf93, fun aL bH bI bf aB bJ bg bK bh bi => by obtain rfl := Town_arg bh; exact (zdJ aB x2 f.spring f.stages x (Has.app (Has.here (k := 0) rfl) _) (Reads.app (aH.app _) _) aI (Has.app (Has.here (k := 7) rfl) _) (Has.app (Has.here (k := 1) rfl) _) bi aL (St.refl bg)).mono fun bf aL ⟨bL, bj, bm, bn⟩ => by subst bj; exact ⟨bm, bn⟩⟩ bM _ (H.gt 9)) ?_
  rintro vq cz ⟨r2, rfl, hvq, al⟩
  subst vq;(try dsimp only at hM);replace H := H.bk al;clear al;refine s_nil ?_
  refine W.cond r2 rfl (fun bp => ?_) (fun bp => ?_)
  ·replace hM := M.e_t hM bp;refine W.region rfl <| s_val (x_fa (v := Oq ab 2) rfl (fa_blk (o := 0) Fd101_2 Sz4)) ?_;refine t_sw 2 2 [B true] (B true) H rfl rfl Sz4 rfl rfl rfl rfl ?_;intro cA H;refine s_nil ?_
   exact ⟨(s3, s4, true), [cBlk ab [I s3, I s4, B true] 101], (M.e_pure hM).symm, rfl, H.pick [2, 3, 4, 5, 6, 7, 8] (by decide) rfl⟩
  replace hM := M.e_f hM bp;refine W.skip ?_
  exact ⟨(s3, s4, s5), [cBlk ab [I s3, I s4, B s5] 101], (M.e_pure hM).symm, rfl, H.pick [2, 3, 4, 5, 6, 7, 8] (by decide) rfl⟩
 replace H : St w bD (cAll (cObj aV (.loop a8) :: [cBlk ab [I (-1), I 0, B false] 101]) :: [cBlk aK [I aU] 3, cMk (aW :: ([])), cBlk aA [ah, ai, aj, ac, I ay, I az, ak] 29, cBlk ax [I 0, I 0, B false] 101, cBlk aq (encB p) 96, cBlk ae [I f.spring, ag] 85, cBlk aw [Pq aa] 94]) R := St.bundleB (A := cObj aV (.loop a8) :: [cBlk ab [I (-1), I 0, B false] 101]) (T := [cBlk aK [I aU] 3, cMk (aW :: ([])), cBlk aA [ah, ai, aj, ac, I ay, I az, ak] 29, cBlk ax [I 0, I 0, B false] 101, cBlk aq (encB p) 96, cBlk ae [I f.spring, ag] 85, cBlk aw [Pq aa] 94]) rfl (H.pk [0, 2, 8, 1, 3, 4, 5, 6, 7])
 refine (zcb (M.yl (zbk am f p)) (.inl (-1, 0, false)) aU aM aN aO am ay az aP hYC ⟨_, rfl, rfl⟩ (aQ.app _) aY (aR.app _) aZ (aS.app _) a6 (aE.app _) aF (aT.app _) a7 (Has.here (k := 1) rfl) bC _ (H.gt 6)).mono ?_
 rintro vq cB ⟨bN, q0, cC, rfl, hvq, al, bx⟩
 replace H := H.back al rfl
 clear al hYC
 rcases bN with ⟨s3, s4, s5⟩ | _
 ·(try dsimp only at hM)
  obtain ⟨_, rfl, rfl⟩ := bx
  refine ⟨_, [cBlk ab [I s3, I s4, B s5] 101, cBlk aA [ah, ai, aj, ac, I ay, I az, ak] 29, cBlk ax [I 0, I 0, B false] 101, cBlk aq (encB p) 96, cBlk ae [I f.spring, ag] 85, cBlk aw [Pq aa] 94, cBlk aK [I q0] 3], H.unbundle.pick [0, 3, 1, 4, 5, 6, 7, 8, 2] (by decide) rfl, ba.nb, ?_⟩
  intro cD H
  rw [ba.pd]
  replace H := H.nf
  try simp only []
  replace H := H.pk [0, 1, 3];refine WD.seq <| WD.of <| W.region rfl <| s_val (x_ld (v := .agg #[I s3, I s4, B s5]) rfl (ldb_ag (ds := [I s3, I s4, B s5]) Ag101 Sz101 (H.bl 1) rfl rfl)) ?_;refine t_sw 2 0 [I s3, I s4, B s5] (.agg #[I s3, I s4, B s5]) H rfl rfl Sz101 rfl rfl rfl rfl ?_;intro cE H;refine s_nil <| WD.of ?_;refine W.ret ?_;refine bodyD_r (H.pk [0, 1, 2]) ?_;intro cF H;replace H := H.nf
  have bO := (H.bl 1)
  have bP := M.e_pure hM
  exact ⟨_, (resE_of1 (v := .agg #[I s3, I s4, B s5]) rfl (.cell (v := .agg #[I s3, I s4, B s5]) rfl (run_loadVar_ag (ds := [I s3, I s4, B s5]) Ag101 Sz101 bO rfl rfl) <| .nil)), ⟨s3, s4, s5, bP, rfl, (H.pk [])⟩⟩
 obtain ⟨_, _, h_⟩ := bx; exact h_.elim

def zdz (x : Rpt) (aa : Int) : M Bool :=
  M.pure (x.danger && (x.watch == aa))
theorem zew {R : List Chunk} {ac : Nat} (x : Rpt) (aa : Int) (ae : Has R (cBlk ac [I aa] 3)) {r : Bool} (hM : (zdz x aa).Ends r) (w : World) (H : St w w [] R) : Ret Tryz.prog 52 #[.agg #[I x.watch, I x.stage, B x.danger], Pq ac] w fun v w' => ∃ (y0 : Bool), y0 = r /\ v = B y0 /\ St w w' [] R := by
 refine ret_of_W Tryz.func52 rfl rfl rfl <| W.seq <| W.region rfl ?_;refine t_bx [I x.watch, I x.stage, B x.danger] H rfl ?_;intro ab ah H;refine zA (B false) rfl <| s_nil <| W.seq <| W.region rfl <| s_val (x_fa (v := Oq ab 2) rfl (fa_blk (o := 0) Fd101_2 Sz4)) <| s_val (x_ld (v := B x.danger) rfl (ldb_sc Sc4 (H.bl 0) rfl)) <| zM (B x.danger) rfl <| g_val x.danger (gy_t rfl) (fun hg => x_fa (v := Pq ab) rfl (fa_blk (o := 0) Fd101_0 Sz3)) <| g_val x.danger (gy_t rfl) (fun hg => x_ld (v := I x.watch) (gd_of hg (Pq ab)) (ldb_sc Sc3 (H.bl 0) rfl)) <| g_val x.danger (gy_t rfl) (fun hg => x_ld (v := I aa) rfl (ldb_sc Sc3 (ae.blk H) rfl)) ?_;refine g_val x.danger (gy_t rfl) (fun hg => x_cmp (kd := .i64) (r := x.watch == aa) (gd_of hg (I x.watch)) (gd_of hg (I aa)) rfl) <| s_val (x_pand (b := x.danger) (r := x.watch == aa) rfl (fun hb => gd_of (c := x.danger) (by first | exact hb | (rw [hb]; rfl) | simp_all) (B (x.watch == aa))) rfl) <| zA (B (x.danger && (x.watch == aa))) rfl <| s_nil ?_;refine W.ret ?_
 have ag := M.e_pure hM
 exact ⟨_, resE_tmp rfl, ⟨(x.danger && (x.watch == aa)), ag, rfl, (H.pk [])⟩⟩

def zdl (ab : List Int) (ac : List Span) (ae : List Int) (ag : List Town) (ah ai : Int) (aa : List Flood) (p : List Bool) (aj : Int) : (Nat × (List Int)) -> M ((Nat × (List Int)) ⊕ ((List Int) × (List Int))) := fun (s, l) =>
  bif decide ((s : Int) < (aa.length : Int)) then (
  M.grd (decide ((s : Int) < (aa.length : Int))) <|
  M.bind (zbc ab ac ae ag ah ai aa (aa.getD s default) p) fun (r0, r1, r2) =>
  M.bind (zdz (⟨(r0 : Int), (r1 : Int), r2⟩ : Rpt) aj) fun r3 =>
  bif r3 then (
  M.grd (decide ((l.length + ([(s : Int)]).length) * 8 <= 140737488355328)) <|
  M.pure (.inl (s + 1, l ++ ([(s : Int)]))))
  else (
  M.pure (.inl (s + 1, l))))
  else (
  M.pure (.inr (l, l)))
def zdH (aa : List Int) (ab : List Span) (ac : List Int) (ae : List Town) (ag ah : Int) (ai : List Flood) (p : List Bool) (aj : Int) : M (List Int) :=
  M.bind (M.iter (zdl aa ab ac ae ag ah ai p aj) (0, [])) fun (l2, l3) =>
  M.pure l3
theorem zeg {R : List Chunk} {ab : Nat} {aE : Cells} {aF : Value} {aG : Cells} {aH : Value} {aI : Cells} {aJ : Value} {aK : Cells} {aL : Value} {aM : Cells} {ai : Value} {aU : Nat} {ah : Nat} (am : List Int) (ao : List Span) (aq : List Int) (au : List Town) (av : Int) (aw : Int) (aa : List Flood) (p : List Bool) (ax : Int) (aV : Reads R aE) (aW : Sl aE aF am) (aX : Reads R aG) (aY : Sl aG aH ao) (aZ : Reads R aI) (a6 : Sl aI aJ aq) (a7 : Reads R aK) (a8 : Sl aK aL au) (az : Reads R aM) (aj : Sl aM ai aa) (aN : Has R (cBlk ab [aF, aH, aJ, aL, I av, I aw, ai, .map (some aU)] 111)) (aO : p.length = 12) (ba : Has R (cBlk ah [I ax] 3)) {r : (List Int)} (hM : (zdH am ao aq au av aw aa p ax).Ends r) (w : World) (H : St w w [] R) : Ret Tryz.prog 51 #[Pq ab, .agg (encB p).toArray, .agg #[.func (.func 52) #[] #[Pq ah]]] w fun v w' => ∃ (y0 : List Int) (u0 : Value), y0 = r /\ v = u0 /\ St w w' [cOwn (α := Int) 3 u0 y0] R := by
 refine ret_of_W Tryz.func51 rfl rfl rfl <| W.seq <| W.region rfl ?_;refine t_box (v := .agg (encB p).toArray) (cs := encB p) H rfl rfl ?_;intro aA bp H;refine t_bx [.func (.func 52) #[] #[Pq ah]] H rfl ?_;intro ay bq H;refine zA (.slice none 0 0) rfl <| s_nil <| W.seq <| W.region rfl <| zA (.slice none 0 0) rfl <| s_nil <| W.seq <| W.seq <| W.region rfl <| zM (Pq ab) rfl ?_;refine s_val (x_nc (a := ⟨ab, 0, none⟩) rfl) <| s_val (x_fa (v := Pq ab) rfl (fa_blk (o := 0) Fd111_0 Sz29)) <| s_val (x_fa (v := Oq ab 6) rfl (fa_blk (o := 0) Fd29_5 Sz27)) <| s_val (x_ld (v := ai) rfl (ldb_sc Sc27 (aN.blk H) rfl)) ?_
 have br := (aj).len_le
 refine s_val (x_lenS T27.und rfl aj) <| zM (I 0) rfl <| s_nil <| W.block ?_
 replace H := H.nilOwn (α := Int) 3
 obtain ⟨bc, aB, bf⟩ := M.e_bind hM
 obtain ⟨bt, aB⟩ := M.e_iter aB
 refine W.loop (fun m σ W => ∃ (s : Nat) (l : List Int) (ac : Value) (ρ : Env), σ = upds ρ [(0, Pq ab), (4, Pq aA), (5, Pq ay), (7, ac), (14, ai), (15, I (aa.length : Int)), (16, I (s : Int))] /\ M.iterN (zdl am ao aq au av aw aa p ax) m (s, l) = some bc /\ St w W [cOwn (α := Int) 3 ac l, cBlk ay [.func (.func 52) #[] #[Pq ah]] 108, cBlk aA (encB p) 96] R) ?_ ?_
 ·exact ⟨_, 0, [], (.slice none 0 0), _, upds_of _ _ ⟨rfl, rfl, rfl, rfl, rfl, rfl, rfl, trivial⟩, aB, H⟩
 rintro bu σ bv ⟨s, l, ac, ρ, rfl, aP, H⟩
 obtain ⟨aQ, aR, bw, hM, aC⟩ := M.e_iterN aP
 simp only [zdl] at hM
 clear aP;refine W.seq <| W.region rfl <| zC (s : Int) (aa.length : Int) (decide ((s : Int) < (aa.length : Int))) rfl rfl rfl <| s_nil <| W.seq ?_
 refine W.cond (decide ((s : Int) < (aa.length : Int))) rfl (fun ag => ?_) (fun ag => ?_)
 ·replace hM := M.e_t hM ag
  replace ag := dI ag
  refine W.skip <| W.seq <| W.block <| W.seq <| W.region rfl <| zM (I (s : Int)) rfl ?_;obtain ⟨bx, hM⟩ := M.e_gd hM;refine s_val (x_ix (v := vat ai 2 (Int.toNat (s : Int))) rfl rfl (Sl.ix (α := Flood) T27.und T27.size aj (by omega) (by omega))) ?_
  obtain ⟨ae, bg, ak⟩ := Flood_atA aj (i := (s : Int)) (by omega) (by omega)
  replace ak : Sl _ ae (aa.getD s default).stages := ak
  have bz := ak.len_le
  refine s_val (x_ld (v := .agg #[I ((aa.getD s default).spring), ae]) rfl (ld_ag Ag85 Sz85 (At.mono bg (az.at H)))) ?_;refine t_alloc (cs := [I 0, .slice none 0 0]) H Al85 rfl ?_;intro bh bA H;refine zA (I (s : Int)) rfl ?_;refine t_sw 0 0 [I ((aa.getD s default).spring), ae] (.agg #[I ((aa.getD s default).spring), ae]) H rfl rfl Sz85 rfl rfl rfl (by simp only [List.all_cons, List.all_nil, Bool.true_and, Bool.and_true, Sl.oc ak]; try rfl) ?_;intro bB H;refine s_nil <| W.seq ?_;refine W.draw (fun W => St w W [cBlk bh [I ((aa.getD s default).spring), ae] 85, cOwn (α := Int) 3 ac l, cBlk ay [.func (.func 52) #[] #[Pq ah]] 108, cBlk aA (encB p) 96] R) [(0, true), (1, true), (2, true), (3, true), (4, true), (5, false), (6, false)] mixed (by decide +kernel) rfl ?_;intro bC aS;replace H := H.ext aS;clear aS
  refine ⟨(H.pk [0, 1, 2, 3]), ?_⟩
  refine d_q rfl (fun w' H => x_fa (v := Pq ay) rfl (fa_blk (o := 0) Fd108_0 Sz106)) <| d_q rfl (fun w' H => x_ld (v := .func (.func 52) #[] #[Pq ah]) rfl (ldb_sc Sc106 (H.bl 2) rfl)) <| d_q rfl (fun w' H => x_mv (v := Pq ab) rfl) <| d_q rfl (fun w' H => x_ld (v := .agg #[I ((aa.getD s default).spring), ae]) rfl (ldb_ag (ds := [I ((aa.getD s default).spring), ae]) Ag85 Sz85 (H.bl 0) rfl rfl)) <| d_q rfl (fun w' H => x_ld (v := .agg (encB p).toArray) rfl (ldArrA Ag96 Sz96 aO (H.bl 3))) <| d_l rfl ?_;obtain ⟨bD, bi, hM⟩ := M.e_bind hM;refine s_call cf48 [Pq ab, .agg #[I ((aa.getD s default).spring), ae], .agg (encB p).toArray] rfl (zca am ao aq au av aw aa (aa.getD s default) p (aV.app _) aW (aX.app _) aY (aZ.app _) a6 (a7.app _) a8 (az.app _) aj (aN.app _) (az.app _) ak aO bi _ (H.gt 4)) ?_
  rintro vq bE ⟨r0, r1, r2, rfl, hvq, al⟩
  subst vq;(try dsimp only at hM);replace H := H.bk al;clear al
  refine s_nil ⟨(H.pk [0, 1, 2, 3]), ?_⟩
  refine d_l rfl ?_;obtain ⟨bF, bj, hM⟩ := M.e_bind hM;refine s_callv (f := 52) rfl cf52 [.agg #[I r0, I r1, B r2]] rfl (zew (⟨(r0 : Int), (r1 : Int), r2⟩ : Rpt) ax (ba.app _) bj _ (H.gt 4)) ?_
  rintro vq bG ⟨r3, rfl, hvq, al⟩
  subst vq;(try dsimp only at hM);replace H := H.bk al;clear al
  refine s_nil ⟨(H.pk [0, 1, 2, 3]), ?_⟩
  refine d_nil ?_
  refine W.cond r3 rfl (fun aD => ?_) (fun aD => ?_)
  ·replace hM := M.e_t hM aD;refine W.region rfl <| zM ac rfl <| zM (I (s : Int)) rfl ?_;refine t_bs (α := Int) T22 [I (s : Int)] [(s : Int)] H rfl (.cons rfl (Flat.rep_enc _ (s : Int)) <| .nil) rfl rfl rfl ?_;intro bm bH H;obtain ⟨bI, hM⟩ := M.e_gd hM;refine t_app (α := Int) (k := 2) (l := l) (l2 := [(s : Int)]) (l' := l ++ ([(s : Int)])) (vy := bm) T22 rfl H rfl rfl rfl (H.os 0) (H.ol 0) (rfl) (by first | omega | (simp only [List.length_nil] at *; omega)) ?_;intro aT bJ H;replace H := H.nf;refine zA aT rfl <| s_nil ?_;replace H := H.pk [2, 3, 4];refine W.region rfl <| zR (s : Int) 1 ((s : Int) + 1) rfl rfl rfl (by omega) <| zM (I ((s : Int) + 1)) rfl <| s_nil ?_
   exact ⟨aQ, aR, s + 1, l ++ ([(s : Int)]), aT, _, upds_of _ _ ⟨rfl, rfl, rfl, rfl, rfl, rfl, rfl, trivial⟩, M.e_inl hM aC, H⟩
  replace hM := M.e_f hM aD;refine W.skip <| W.region rfl <| zR (s : Int) 1 ((s : Int) + 1) rfl rfl rfl (by omega) <| zM (I ((s : Int) + 1)) rfl <| s_nil ?_
  exact ⟨aQ, aR, s + 1, l, ac, _, upds_of _ _ ⟨rfl, rfl, rfl, rfl, rfl, rfl, rfl, trivial⟩, M.e_inl hM aC, (H.pk [1, 2, 3])⟩
 replace hM := M.e_f hM ag
 replace ag := dI ag
 refine W.exit ?_
 have bn := M.e_inr hM aC
 subst bn;replace hM := bf;(try dsimp only at hM);replace H := H.pk [0];refine W.seq <| W.region rfl <| zM ac rfl <| zA ac rfl <| s_nil ?_;refine W.ret ?_
 have bo := M.e_pure hM
 exact ⟨_, resE_tmp rfl, ⟨l, ac, bo, rfl, H⟩⟩

end Go.Proofs.YtbaehghammbjdaaGreat
end
