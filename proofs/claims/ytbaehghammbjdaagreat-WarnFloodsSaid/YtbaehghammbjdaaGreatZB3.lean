/- Part 3 of the texts on which the proof rests. Conditions: none. -/
import Derived.Test.YtbaehghammbjdaaGreatZB2
set_option linter.unusedVariables false
set_option linter.unusedSimpArgs false
set_option linter.unusedSectionVars false
section
set_option maxRecDepth 100000
set_option maxHeartbeats 16000000
namespace Go.Proofs.YtbaehghammbjdaaGreat
open Go Go.Nm
def zcj (a : Int) (aa : List Int) (ab : List Span) (ac : List Int) (ae : List Town) (ag : Int) (ah : Int) (ai : List Flood) (aj : List Int) (ak : List Span) (am : List Int) (ao : List Town) (ap : Int) (aq : Int) (au : List Flood) : ((List Dem) × Int) -> M (((List Dem) × Int) ⊕ ((List Dem) × (List Dem))) := fun (l, j) =>
  M.grd ((!(decide (a < j)) || (decide ((0 : Int) <= j) && decide (j < (l.length : Int))))) <|
  M.grd ((!(decide (a < j)) || (decide ((-9223372036854775808 : Int) <= (j - 1)) && decide ((j - 1) <= (9223372036854775807 : Int))))) <|
  M.grd ((!(decide (a < j)) || (decide ((0 : Int) <= (j - 1)) && decide ((j - 1) < (l.length : Int))))) <|
  bif decide (a < j) then (
  M.bind (zcO (l.getD (Int.toNat j) default) (l.getD (Int.toNat (j - 1)) default) aa ab ac ae ag ah ai aj ak am ao ap aq au) fun r2 =>
  bif ((decide (a < j)) && (decide (r2 < 0))) then (
  M.grd (decide ((-9223372036854775808 : Int) <= (j - 1)) && decide ((j - 1) <= (9223372036854775807 : Int))) <|
  M.grd (decide ((0 : Int) <= (j - 1)) && decide ((j - 1) < (l.length : Int))) <|
  M.grd (decide ((0 : Int) <= j) && decide (j < (l.length : Int))) <|
  M.grd (decide ((0 : Int) <= (j - 1)) && decide ((j - 1) < ((l.set (Int.toNat j) (l.getD (Int.toNat (j - 1)) default)).length : Int))) <|
  M.pure (.inl ((l.set (Int.toNat j) (l.getD (Int.toNat (j - 1)) default)).set (Int.toNat (j - 1)) (l.getD (Int.toNat j) default), j - 1)))
  else (
  M.pure (.inr (l, l))))
  else (
  bif ((decide (a < j)) && (decide ((0 : Int) < 0))) then (
  M.grd (decide ((-9223372036854775808 : Int) <= (j - 1)) && decide ((j - 1) <= (9223372036854775807 : Int))) <|
  M.grd (decide ((0 : Int) <= (j - 1)) && decide ((j - 1) < (l.length : Int))) <|
  M.grd (decide ((0 : Int) <= j) && decide (j < (l.length : Int))) <|
  M.grd (decide ((0 : Int) <= (j - 1)) && decide ((j - 1) < ((l.set (Int.toNat j) (l.getD (Int.toNat (j - 1)) default)).length : Int))) <|
  M.pure (.inl ((l.set (Int.toNat j) (l.getD (Int.toNat (j - 1)) default)).set (Int.toNat (j - 1)) (l.getD (Int.toNat j) default), j - 1)))
  else (
  M.pure (.inr (l, l))))
def zcr (a : Int) (b : Int) (aa : List Int) (ab : List Span) (ac : List Int) (ae : List Town) (ag : Int) (ah : Int) (ai : List Flood) (aj : List Int) (ak : List Span) (am : List Int) (ao : List Town) (ap : Int) (aq : Int) (au : List Flood) : ((List Dem) × Int) -> M (((List Dem) × Int) ⊕ (List Dem)) := fun (l4, i) =>
  bif decide (i < b) then (
  M.bind (M.iter (zcj a aa ab ac ae ag ah ai aj ak am ao ap aq au) (l4, i)) fun (l2, l3) =>
  M.grd (decide ((-9223372036854775808 : Int) <= (i + 1)) && decide ((i + 1) <= (9223372036854775807 : Int))) <|
  M.pure (.inl (l3, i + 1)))
  else (
  M.pure (.inr l4))
def zcz (data : List Dem) (a : Int) (b : Int) (aa : List Int) (ab : List Span) (ac : List Int) (ae : List Town) (ag : Int) (ah : Int) (ai : List Flood) (aj : List Int) (ak : List Span) (am : List Int) (ao : List Town) (ap : Int) (aq : Int) (au : List Flood) : M (List Dem) :=
  M.grd (decide ((-9223372036854775808 : Int) <= (a + 1)) && decide ((a + 1) <= (9223372036854775807 : Int))) <|
  M.bind (M.iter (zcr a b aa ab ac ae ag ah ai aj ak am ao ap aq au) (data, a + 1)) fun l5 =>
  M.pure l5
theorem zcQ {R : List Chunk} {aa : Value} {aB : Nat} {aQ : Nat} {aR : Nat} {aS : Cells} {aT : Value} {aU : Cells} {aV : Value} {aW : Cells} {aX : Value} {aY : Cells} {aZ : Value} {a6 : Cells} {a7 : Value} {am : Nat} {B_b_cmp2020207 : Base} {a8 : Nat} {ba : Nat} {bc : Cells} {bf : Value} {bg : Cells} {bh : Value} {bi : Cells} {bj : Value} {bm : Cells} {bn : Value} {bo : Cells} {bp : Value} {bx : Nat} (data : List Dem) (a : Int) (b : Int) (ab : List Int) (ac : List Span) (ae : List Int) (ag : List Town) (ah : Int) (ai : Int) (aj : List Flood) (aD : List Int) (aE : List Span) (aF : List Int) (aG : List Town) (aH : Int) (aI : Int) (aJ : List Flood) (bz : Reads R aS) (bA : Sl aS aT ab) (bB : Reads R aU) (bC : Sl aU aV ac) (bD : Reads R aW) (bE : Sl aW aX ae) (bF : Reads R aY) (bG : Sl aY aZ ag) (bH : Reads R a6) (bI : Sl a6 a7 aj) (bJ : Has R (cBlk aR [aT, aV, aX, aZ, I ah, I ai, a7, .map (some am)] 111)) (bK : Has R (cBlk aQ [.func (.func 81) #[Pq aR] #[]] 134)) (bL : Reads R bc) (bM : Sl bc bf aD) (bN : Reads R bg) (bO : Sl bg bh aE) (bP : Reads R bi) (bQ : Sl bi bj aF) (bR : Reads R bm) (bS : Sl bm bn aG) (bT : Reads R bo) (bU : Sl bo bp aJ) (bV : Has R (cBlk ba [bf, bh, bj, bn, I aH, I aI, bp, .map (some bx)] 111)) (bW : Has R (cBlk a8 [Pq ba] 94)) (bX : Has R (cBlk aB [.func (.func 102) #[] #[Pq aQ, Pq a8]] 146)) {r : (List Dem)} (hM : (zcz data a b ab ac ae ag ah ai aj aD aE aF aG aH aI aJ).Ends r) (w : World) (H : St w w [cOwn (α := Dem) 61 aa data, cMem encDm am B_b_cmp2020207 (zaa ab ac ae ag ah ai aj)] R) : Ret Tryz.prog 113 #[aa, I a, I b, .func (.func 104) #[] #[Pq aB]] w fun v w' => ∃ (y0 : List Dem) (bY : Base), y0 = r /\ v = .tuple #[] /\ St w w' [cOwn (α := Dem) 61 aa y0, cMem encDm am bY (zaa ab ac ae ag ah ai aj)] R := by
 refine ret_of_W Tryz.func113 rfl rfl rfl ?_
 refine W.seq ?_
 refine W.region rfl ?_
 refine zM (I a) rfl ?_
 obtain ⟨bZ, hM⟩ := M.e_grd hM
 simp only [Bool.and_eq_true, decide_eq_true_eq] at bZ
 refine zR a 1 (a + 1) rfl rfl rfl (by omega) ?_
 refine zA (I (a + 1)) rfl ?_
 refine s_nil ?_
 refine W.block ?_
 obtain ⟨b3, aL, b4⟩ := M.e_bind hM
 obtain ⟨b5, aL⟩ := M.e_iter aL
 refine W.loop (fun m σ W => ∃ (l4 : List Dem) (i : Int) (B_mem2 : Base) (ρ : Env), σ = upds ρ [(0, aa), (1, I a), (2, I b), (3, .func (.func 104) #[] #[Pq aB]), (8, I i)] /\ M.iterN (zcr a b ab ac ae ag ah ai aj aD aE aF aG aH aI aJ) m (l4, i) = some b3 /\ St w W [cOwn (α := Dem) 61 aa l4, cMem encDm am B_mem2 (zaa ab ac ae ag ah ai aj)] R) ?_ ?_
 ·exact ⟨_, data, a + 1, B_b_cmp2020207, _, upds_of _ _ ⟨rfl, rfl, rfl, rfl, rfl, trivial⟩, aL, H⟩
 rintro cp σ cq ⟨l4, i, B_mem2, ρ, rfl, bq, H⟩
 obtain ⟨br, bt, cr, hM, aM⟩ := M.e_iterN bq
 simp only [zcr] at hM
 clear bq
 refine W.seq ?_
 refine W.seq ?_
 refine W.region rfl ?_
 refine zM (I i) rfl ?_
 refine zM (I b) rfl ?_
 refine zC i b (decide (i < b)) rfl rfl rfl ?_
 refine s_nil ?_
 refine W.cond (decide (i < b)) rfl (fun aK => ?_) (fun aK => ?_)
 ·replace hM := M.e_t hM aK
  simp only [qy1, qy2, qy3, qy4, qy5, qy6, ne_eq, qy7] at aK
  refine W.skip ?_
  refine W.seq ?_
  refine W.block ?_
  refine W.seq ?_
  refine W.region rfl ?_
  refine zM (I i) rfl ?_
  refine zA (I i) rfl ?_
  refine s_nil ?_
  refine W.block ?_
  obtain ⟨b6, aN, bu⟩ := M.e_bind hM
  obtain ⟨b5, aN⟩ := M.e_iter aN
  refine W.loop (fun m σ W => ∃ (l : List Dem) (j : Int) (B_mem : Base) (ρ : Env), σ = upds ρ [(0, aa), (1, I a), (2, I b), (3, .func (.func 104) #[] #[Pq aB]), (8, I i), (9, I j)] /\ M.iterN (zcj a ab ac ae ag ah ai aj aD aE aF aG aH aI aJ) m (l, j) = some b6 /\ St w W [cOwn (α := Dem) 61 aa l, cMem encDm am B_mem (zaa ab ac ae ag ah ai aj)] R) ?_ ?_
  ·exact ⟨_, l4, i, B_mem2, _, upds_of _ _ ⟨rfl, rfl, rfl, rfl, rfl, rfl, trivial⟩, aN, H⟩
  rintro cu σ cv ⟨l, j, B_mem, ρ, rfl, bv, H⟩
  obtain ⟨aw, ax, cw, hM, av⟩ := M.e_iterN bv
  simp only [zcj] at hM
  clear bv
  refine W.seq ?_
  refine W.seq ?_
  refine W.draw (fun W => St w W [cOwn (α := Dem) 61 aa l] R) [(0, true), (1, true), (2, true), (3, true), (4, true), (5, true), (6, true), (7, true), (8, true), (9, true), (10, true), (11, true), (12, true), (13, true), (14, false), (15, true), (16, true)] mixed (by decide +kernel) rfl ?_
  intro cx ao
  replace H := H.ext ao
  clear ao
  refine ⟨(H.pk [0]), ?_⟩
  refine d_q rfl (fun w' H => x_mv (v := I j) rfl) ?_
  refine d_q rfl (fun w' H => x_mv (v := I a) rfl) ?_
  refine d_q rfl (fun w' H => x_cmp (kd := .i64) (a := j) (b := a) (r := decide (a < j)) rfl rfl rfl) ?_
  refine d_q rfl (fun w' H => x_mv (v := B (decide (a < j))) rfl) ?_
  refine d_qg (decide (a < j)) rfl (gy_t rfl) (fun hg => (fun w' H => x_mv (v := .func (.func 104) #[] #[Pq aB]) rfl)) ?_
  refine d_qg (decide (a < j)) rfl (gy_t rfl) (fun hg => (fun w' H => x_mv (v := aa) rfl)) ?_
  refine d_qg (decide (a < j)) rfl (gy_t rfl) (fun hg => (fun w' H => x_mv (v := I j) rfl)) ?_
  obtain ⟨ay, hM⟩ := M.e_grd hM
  replace ay := M.imp_of ay
  simp only [Bool.and_eq_true, decide_eq_true_eq] at ay
  refine d_qg (decide (a < j)) rfl (gy_t rfl) (fun hg => (fun w' H => x_ix (a := aa) (b := I j) (v := vat aa 2 (Int.toNat j)) (gd_of (c := decide (a < j)) hg (aa)) (gd_of (c := decide (a < j)) hg (I j)) (Sl.ix (α := Dem) T62.und T62.size (H.os 0) (by have ak := ay.resolve_left (by rw [hg]; decide); first | exact ak | exact ak.1 | exact ak.2 | omega | (have ao := hg; simp at ao; omega)) (by have ak := ay.resolve_left (by rw [hg]; decide); first | exact ak | exact ak.1 | exact ak.2 | omega | (have ao := hg; simp at ao; omega))))) ?_
  refine d_qg (decide (a < j)) rfl (gy_t rfl) (fun hg => (fun w' H => x_ld (p := vat aa 2 (Int.toNat j)) (v := .agg #[I ((l.getD (Int.toNat j) default).spring), I ((l.getD (Int.toNat j) default).town)]) (gd_of (c := decide (a < j)) hg (vat aa 2 (Int.toNat j))) (ld_ag Ag61 Sz61 (At.mono (Dem_atA (H.os 0) (i := j) (by have ak := ay.resolve_left (by rw [hg]; decide); first | exact ak | exact ak.1 | exact ak.2 | omega | (have ao := hg; simp at ao; omega)) (by have ak := ay.resolve_left (by rw [hg]; decide); first | exact ak | exact ak.1 | exact ak.2 | omega | (have ao := hg; simp at ao; omega))) (H.ol 0))))) ?_
  refine d_qg (decide (a < j)) rfl (gy_t rfl) (fun hg => (fun w' H => x_mv (v := aa) rfl)) ?_
  refine d_qg (decide (a < j)) rfl (gy_t rfl) (fun hg => (fun w' H => x_mv (v := I j) rfl)) ?_
  obtain ⟨az, hM⟩ := M.e_grd hM
  replace az := M.imp_of az
  simp only [Bool.and_eq_true, decide_eq_true_eq] at az
  refine d_qg (decide (a < j)) rfl (gy_t rfl) (fun hg => (fun w' H => x_ari (a := j) (b := 1) (r := j - 1) (gd_of (c := decide (a < j)) hg (I j)) rfl rfl (by have ak := ay.resolve_left (by rw [hg]; decide); have aq := az.resolve_left (by rw [hg]; decide); first | exact ak | exact ak.1 | exact ak.2 | exact aq | exact aq.1 | exact aq.2 | omega | (have ao := hg; simp at ao; omega)))) ?_
  obtain ⟨aA, hM⟩ := M.e_grd hM
  replace aA := M.imp_of aA
  simp only [Bool.and_eq_true, decide_eq_true_eq] at aA
  refine d_qg (decide (a < j)) rfl (gy_t rfl) (fun hg => (fun w' H => x_ix (a := aa) (b := I (j - 1)) (v := vat aa 2 (Int.toNat (j - 1))) (gd_of (c := decide (a < j)) hg (aa)) (gd_of (c := decide (a < j)) hg (I (j - 1))) (Sl.ix (α := Dem) T62.und T62.size (H.os 0) (by have ak := ay.resolve_left (by rw [hg]; decide); have aq := az.resolve_left (by rw [hg]; decide); have au := aA.resolve_left (by rw [hg]; decide); first | exact ak | exact ak.1 | exact ak.2 | exact aq | exact aq.1 | exact aq.2 | exact au | exact au.1 | exact au.2 | omega | (have ao := hg; simp at ao; omega)) (by have ak := ay.resolve_left (by rw [hg]; decide); have aq := az.resolve_left (by rw [hg]; decide); have au := aA.resolve_left (by rw [hg]; decide); first | exact ak | exact ak.1 | exact ak.2 | exact aq | exact aq.1 | exact aq.2 | exact au | exact au.1 | exact au.2 | omega | (have ao := hg; simp at ao; omega))))) ?_
  refine d_qg (decide (a < j)) rfl (gy_t rfl) (fun hg => (fun w' H => x_ld (p := vat aa 2 (Int.toNat (j - 1))) (v := .agg #[I ((l.getD (Int.toNat (j - 1)) default).spring), I ((l.getD (Int.toNat (j - 1)) default).town)]) (gd_of (c := decide (a < j)) hg (vat aa 2 (Int.toNat (j - 1)))) (ld_ag Ag61 Sz61 (At.mono (Dem_atA (H.os 0) (i := j - 1) (by have ak := ay.resolve_left (by rw [hg]; decide); have aq := az.resolve_left (by rw [hg]; decide); have au := aA.resolve_left (by rw [hg]; decide); first | exact ak | exact ak.1 | exact ak.2 | exact aq | exact aq.1 | exact aq.2 | exact au | exact au.1 | exact au.2 | omega | (have ao := hg; simp at ao; omega)) (by have ak := ay.resolve_left (by rw [hg]; decide); have aq := az.resolve_left (by rw [hg]; decide); have au := aA.resolve_left (by rw [hg]; decide); first | exact ak | exact ak.1 | exact ak.2 | exact aq | exact aq.1 | exact aq.2 | exact au | exact au.1 | exact au.2 | omega | (have ao := hg; simp at ao; omega))) (H.ol 0))))) ?_
  refine d_l rfl ?_
  refine g_splitV (decide (a < j)) (I 0) (gy_t rfl) (fun aC => ?_) (fun aC => ?_)
  ·replace hM := M.e_t hM aC
   obtain ⟨cy, b7, hM⟩ := M.e_bind hM
   refine s_callv (f := 104) (by exact (gd_of (c := decide (a < j)) aC (.func (.func 104) #[] #[Pq aB]))) cf104 [.agg #[I ((l.getD (Int.toNat j) default).spring), I ((l.getD (Int.toNat j) default).town)], .agg #[I ((l.getD (Int.toNat (j - 1)) default).spring), I ((l.getD (Int.toNat (j - 1)) default).town)]] (by exact (lst2 (gd_of (c := decide (a < j)) aC (.agg #[I ((l.getD (Int.toNat j) default).spring), I ((l.getD (Int.toNat j) default).town)])) (gd_of (c := decide (a < j)) aC (.agg #[I ((l.getD (Int.toNat (j - 1)) default).spring), I ((l.getD (Int.toNat (j - 1)) default).town)])))) (zdx (l.getD (Int.toNat j) default) (l.getD (Int.toNat (j - 1)) default) ab ac ae ag ah ai aj aD aE aF aG aH aI aJ (bz.app _) bA (bB.app _) bC (bD.app _) bE (bF.app _) bG (bH.app _) bI (bJ.app _) (bK.app _) (bL.app _) bM (bN.app _) bO (bP.app _) bQ (bR.app _) bS (bT.app _) bU (bV.app _) (bW.app _) (bX.app _) b7 _ ((H.pk [1, 0]).gt 1)) ?_
   rintro vq cz ⟨r2, ap, b8, hvq, bw⟩
   subst b8
   subst vq
   try dsimp only at hM
   replace H := H.pk [1, 0] |>.bk bw
   clear bw
   refine s_nil ⟨(H.pk [1]), ?_⟩
   refine d_qg (decide (a < j)) rfl (gy_t rfl) (fun hg => (fun w' H => x_cmp (kd := .i64) (a := r2) (b := 0) (r := decide (r2 < 0)) rfl rfl rfl)) ?_
   refine d_q rfl (fun w' H => x_pand (b := decide (a < j)) (r := decide (r2 < 0)) rfl (fun hb => gd_of (c := decide (a < j)) (by first | exact hb | (rw [hb]; rfl) | simp_all) (B (decide (r2 < 0)))) rfl) ?_
   refine d_nil ?_
   refine W.cond ((decide (a < j)) && (decide (r2 < 0))) rfl (fun aO => ?_) (fun aO => ?_)
   ·replace hM := M.e_t hM aO
    refine W.skip ?_
    refine W.seq ?_
    refine W.block ?_
    refine W.drawT (fun W => St w W [cMem encDm am ap (zaa ab ac ae ag ah ai aj)] R) (.q 0 (.q 1 (.q 2 (.q 3 (.q 4 (.q 5 (.q 6 (.q 7 (.q 10 (.q 11 (.l2 8 (.l2 9 (.l 12 (.l 13 (.l 14 (.l 15 (.l 16 (.l 17 .nil)))))) 12 (.l2 9 (.l 13 (.l 14 (.l 15 (.l 16 (.l 17 .nil))))) 13 (.l 9 (.l 14 (.l 15 (.l 16 (.l 17 .nil))))))) 12 (.l2 8 (.l2 9 (.l 13 (.l 14 (.l 15 (.l 16 (.l 17 .nil))))) 13 (.l 9 (.l 14 (.l 15 (.l 16 (.l 17 .nil)))))) 13 (.l 8 (.l 9 (.l 14 (.l 15 (.l 16 (.l 17 .nil)))))))))))))))))) mixed (by decide +kernel) rfl ?_
    intro cA ao
    replace H := H.ext ao
    clear ao
    refine ⟨(H.pk [0]), ?_⟩
    refine t_q rfl (fun w' H => x_mv (v := aa) rfl) ?_
    refine t_q rfl (fun w' H => x_mv (v := I j) rfl) ?_
    refine t_q rfl (fun w' H => x_mv (v := aa) rfl) ?_
    refine t_q rfl (fun w' H => x_mv (v := I j) rfl) ?_
    obtain ⟨b9, hM⟩ := M.e_grd hM
    simp only [Bool.and_eq_true, decide_eq_true_eq] at b9
    refine t_q rfl (fun w' H => x_ari (a := j) (b := 1) (r := j - 1) rfl rfl rfl (by omega)) ?_
    refine t_q rfl (fun w' H => x_mv (v := aa) rfl) ?_
    refine t_q rfl (fun w' H => x_mv (v := I j) rfl) ?_
    refine t_q rfl (fun w' H => x_ari (a := j) (b := 1) (r := j - 1) rfl rfl rfl (by omega)) ?_
    refine t_q rfl (fun w' H => x_mv (v := aa) rfl) ?_
    refine t_q rfl (fun w' H => x_mv (v := I j) rfl) ?_
    obtain ⟨ca, hM⟩ := M.e_grd hM
    simp only [Bool.and_eq_true, decide_eq_true_eq] at ca
    obtain ⟨cb, hM⟩ := M.e_grd hM
    simp only [Bool.and_eq_true, decide_eq_true_eq] at cb
    obtain ⟨cc, hM⟩ := M.e_grd hM
    simp only [Bool.and_eq_true, decide_eq_true_eq] at cc
    refine t_l2 rfl rfl ?_ ?_
    ·skip
     refine s_val (x_ix (a := aa) (b := I (j - 1)) (v := vat aa 2 (Int.toNat (j - 1))) rfl rfl (Sl.ix (α := Dem) T62.und T62.size (H.os 1) (by omega) (by omega))) ?_
     have cB := Sl.cells (H.os 1)
     have cC := Sl.oc (H.os 1)
     refine s_nil ⟨(H.pk [0]), ?_⟩
     refine t_l2 rfl rfl ?_ ?_
     ·skip
      refine s_val (x_ld (p := vat aa 2 (Int.toNat (j - 1))) (v := .agg #[I ((l.getD (Int.toNat (j - 1)) default).spring), I ((l.getD (Int.toNat (j - 1)) default).town)]) rfl (ld_ag Ag61 Sz61 (At.mono (Dem_atA (H.os 1) (i := j - 1) (by omega) (by omega)) (H.ol 1)))) ?_
      refine s_nil ⟨(H.pk [0]), ?_⟩
      refine t_l rfl ?_
      refine s_val (x_ix (a := aa) (b := I j) (v := vat aa 2 (Int.toNat j)) rfl rfl (Sl.ix (α := Dem) T62.und T62.size (H.os 1) (by omega) (by omega))) ?_
      refine s_nil ⟨(H.pk [0]), ?_⟩
      refine t_l rfl ?_
      refine s_val (x_ld (p := vat aa 2 (Int.toNat j)) (v := .agg #[I ((l.getD (Int.toNat j) default).spring), I ((l.getD (Int.toNat j) default).town)]) rfl (ld_ag Ag61 Sz61 (At.mono (Dem_atA (H.os 1) (i := j) (by omega) (by omega)) (H.ol 1)))) ?_
      refine s_nil ⟨(H.pk [0]), ?_⟩
      refine t_l rfl ?_
      refine s_val (x_ix (a := aa) (b := I j) (v := vat aa 2 (Int.toNat j)) rfl rfl (Sl.ix (α := Dem) T62.und T62.size (H.os 1) (by omega) (by omega))) ?_
      refine s_nil ⟨(H.pk [0]), ?_⟩
      refine t_l rfl ?_
      refine t_ost (k := 1) (i := j) (l := l) (l' := l.set (Int.toNat j) (l.getD (Int.toNat (j - 1)) default)) (val := .agg #[I ((l.getD (Int.toNat (j - 1)) default).spring), I ((l.getD (Int.toNat (j - 1)) default).town)]) (L' := [cMem encDm am ap (zaa ab ac ae ag ah ai aj), cOwn (α := Dem) 61 aa (l.set (Int.toNat j) (l.getD (Int.toNat (j - 1)) default))]) H rfl Sz61 (by omega) (by omega) (l.getD (Int.toNat (j - 1)) default) rfl rfl rfl rfl rfl ?_
      intro cD H
      refine s_nil ⟨(H.pk [0]), ?_⟩
      refine t_l rfl ?_
      refine s_val (x_ix (a := aa) (b := I (j - 1)) (v := vat aa 2 (Int.toNat (j - 1))) rfl rfl (Sl.ix (α := Dem) T62.und T62.size (H.os 1) (by omega) (by omega))) ?_
      refine s_nil ⟨(H.pk [0]), ?_⟩
      refine t_l rfl ?_
      refine t_ost (k := 1) (i := j - 1) (l := l.set (Int.toNat j) (l.getD (Int.toNat (j - 1)) default)) (l' := (l.set (Int.toNat j) (l.getD (Int.toNat (j - 1)) default)).set (Int.toNat (j - 1)) (l.getD (Int.toNat j) default)) (val := .agg #[I ((l.getD (Int.toNat j) default).spring), I ((l.getD (Int.toNat j) default).town)]) (L' := [cMem encDm am ap (zaa ab ac ae ag ah ai aj), cOwn (α := Dem) 61 aa ((l.set (Int.toNat j) (l.getD (Int.toNat (j - 1)) default)).set (Int.toNat (j - 1)) (l.getD (Int.toNat j) default))]) H rfl Sz61 (by omega) (by omega) (l.getD (Int.toNat j) default) rfl rfl rfl rfl rfl ?_
      intro cE H
      refine s_nil ⟨(H.pk [0]), ?_⟩
      refine t_nil ?_
      refine W.region rfl ?_
      refine zM (I j) rfl ?_
      refine zR j 1 (j - 1) rfl rfl rfl (by omega) ?_
      refine zA (I (j - 1)) rfl ?_
      refine s_nil ?_
      exact ⟨aw, ax, (l.set (Int.toNat j) (l.getD (Int.toNat (j - 1)) default)).set (Int.toNat (j - 1)) (l.getD (Int.toNat j) default), j - 1, ap, _, upds_of _ _ ⟨rfl, rfl, rfl, rfl, rfl, rfl, trivial⟩, M.e_inl hM av, (H.pk [1, 0])⟩
     skip
     refine s_val (x_ix (a := aa) (b := I j) (v := vat aa 2 (Int.toNat j)) rfl rfl (Sl.ix (α := Dem) T62.und T62.size (H.os 1) (by omega) (by omega))) ?_
     refine s_nil ⟨(H.pk [0]), ?_⟩
     refine t_l2 rfl rfl ?_ ?_
     ·skip
      refine s_val (x_ld (p := vat aa 2 (Int.toNat (j - 1))) (v := .agg #[I ((l.getD (Int.toNat (j - 1)) default).spring), I ((l.getD (Int.toNat (j - 1)) default).town)]) rfl (ld_ag Ag61 Sz61 (At.mono (Dem_atA (H.os 1) (i := j - 1) (by omega) (by omega)) (H.ol 1)))) ?_
      refine s_nil ⟨(H.pk [0]), ?_⟩
      refine t_l rfl ?_
      refine s_val (x_ld (p := vat aa 2 (Int.toNat j)) (v := .agg #[I ((l.getD (Int.toNat j) default).spring), I ((l.getD (Int.toNat j) default).town)]) rfl (ld_ag Ag61 Sz61 (At.mono (Dem_atA (H.os 1) (i := j) (by omega) (by omega)) (H.ol 1)))) ?_
      refine s_nil ⟨(H.pk [0]), ?_⟩
      refine t_l rfl ?_
      refine s_val (x_ix (a := aa) (b := I j) (v := vat aa 2 (Int.toNat j)) rfl rfl (Sl.ix (α := Dem) T62.und T62.size (H.os 1) (by omega) (by omega))) ?_
      refine s_nil ⟨(H.pk [0]), ?_⟩
      refine t_l rfl ?_
      refine t_ost (k := 1) (i := j) (l := l) (l' := l.set (Int.toNat j) (l.getD (Int.toNat (j - 1)) default)) (val := .agg #[I ((l.getD (Int.toNat (j - 1)) default).spring), I ((l.getD (Int.toNat (j - 1)) default).town)]) (L' := [cMem encDm am ap (zaa ab ac ae ag ah ai aj), cOwn (α := Dem) 61 aa (l.set (Int.toNat j) (l.getD (Int.toNat (j - 1)) default))]) H rfl Sz61 (by omega) (by omega) (l.getD (Int.toNat (j - 1)) default) rfl rfl rfl rfl rfl ?_
      intro cF H
      refine s_nil ⟨(H.pk [0]), ?_⟩
      refine t_l rfl ?_
      refine s_val (x_ix (a := aa) (b := I (j - 1)) (v := vat aa 2 (Int.toNat (j - 1))) rfl rfl (Sl.ix (α := Dem) T62.und T62.size (H.os 1) (by omega) (by omega))) ?_
      refine s_nil ⟨(H.pk [0]), ?_⟩
      refine t_l rfl ?_
      refine t_ost (k := 1) (i := j - 1) (l := l.set (Int.toNat j) (l.getD (Int.toNat (j - 1)) default)) (l' := (l.set (Int.toNat j) (l.getD (Int.toNat (j - 1)) default)).set (Int.toNat (j - 1)) (l.getD (Int.toNat j) default)) (val := .agg #[I ((l.getD (Int.toNat j) default).spring), I ((l.getD (Int.toNat j) default).town)]) (L' := [cMem encDm am ap (zaa ab ac ae ag ah ai aj), cOwn (α := Dem) 61 aa ((l.set (Int.toNat j) (l.getD (Int.toNat (j - 1)) default)).set (Int.toNat (j - 1)) (l.getD (Int.toNat j) default))]) H rfl Sz61 (by omega) (by omega) (l.getD (Int.toNat j) default) rfl rfl rfl rfl rfl ?_
      intro cG H
      refine s_nil ⟨(H.pk [0]), ?_⟩
      refine t_nil ?_
      refine W.region rfl ?_
      refine zM (I j) rfl ?_
      refine zR j 1 (j - 1) rfl rfl rfl (by omega) ?_
      refine zA (I (j - 1)) rfl ?_
      refine s_nil ?_
      exact ⟨aw, ax, (l.set (Int.toNat j) (l.getD (Int.toNat (j - 1)) default)).set (Int.toNat (j - 1)) (l.getD (Int.toNat j) default), j - 1, ap, _, upds_of _ _ ⟨rfl, rfl, rfl, rfl, rfl, rfl, trivial⟩, M.e_inl hM av, (H.pk [1, 0])⟩
     skip
     refine s_val (x_ld (p := vat aa 2 (Int.toNat j)) (v := .agg #[I ((l.getD (Int.toNat j) default).spring), I ((l.getD (Int.toNat j) default).town)]) rfl (ld_ag Ag61 Sz61 (At.mono (Dem_atA (H.os 1) (i := j) (by omega) (by omega)) (H.ol 1)))) ?_
     refine s_nil ⟨(H.pk [0]), ?_⟩
     refine t_l rfl ?_
     refine s_val (x_ld (p := vat aa 2 (Int.toNat (j - 1))) (v := .agg #[I ((l.getD (Int.toNat (j - 1)) default).spring), I ((l.getD (Int.toNat (j - 1)) default).town)]) rfl (ld_ag Ag61 Sz61 (At.mono (Dem_atA (H.os 1) (i := j - 1) (by omega) (by omega)) (H.ol 1)))) ?_
     refine s_nil ⟨(H.pk [0]), ?_⟩
     refine t_l rfl ?_
     refine s_val (x_ix (a := aa) (b := I j) (v := vat aa 2 (Int.toNat j)) rfl rfl (Sl.ix (α := Dem) T62.und T62.size (H.os 1) (by omega) (by omega))) ?_
     refine s_nil ⟨(H.pk [0]), ?_⟩
     refine t_l rfl ?_
     refine t_ost (k := 1) (i := j) (l := l) (l' := l.set (Int.toNat j) (l.getD (Int.toNat (j - 1)) default)) (val := .agg #[I ((l.getD (Int.toNat (j - 1)) default).spring), I ((l.getD (Int.toNat (j - 1)) default).town)]) (L' := [cMem encDm am ap (zaa ab ac ae ag ah ai aj), cOwn (α := Dem) 61 aa (l.set (Int.toNat j) (l.getD (Int.toNat (j - 1)) default))]) H rfl Sz61 (by omega) (by omega) (l.getD (Int.toNat (j - 1)) default) rfl rfl rfl rfl rfl ?_
     intro cH H
     refine s_nil ⟨(H.pk [0]), ?_⟩
     refine t_l rfl ?_
     refine s_val (x_ix (a := aa) (b := I (j - 1)) (v := vat aa 2 (Int.toNat (j - 1))) rfl rfl (Sl.ix (α := Dem) T62.und T62.size (H.os 1) (by omega) (by omega))) ?_
     refine s_nil ⟨(H.pk [0]), ?_⟩
     refine t_l rfl ?_
     refine t_ost (k := 1) (i := j - 1) (l := l.set (Int.toNat j) (l.getD (Int.toNat (j - 1)) default)) (l' := (l.set (Int.toNat j) (l.getD (Int.toNat (j - 1)) default)).set (Int.toNat (j - 1)) (l.getD (Int.toNat j) default)) (val := .agg #[I ((l.getD (Int.toNat j) default).spring), I ((l.getD (Int.toNat j) default).town)]) (L' := [cMem encDm am ap (zaa ab ac ae ag ah ai aj), cOwn (α := Dem) 61 aa ((l.set (Int.toNat j) (l.getD (Int.toNat (j - 1)) default)).set (Int.toNat (j - 1)) (l.getD (Int.toNat j) default))]) H rfl Sz61 (by omega) (by omega) (l.getD (Int.toNat j) default) rfl rfl rfl rfl rfl ?_
     intro cI H
     refine s_nil ⟨(H.pk [0]), ?_⟩
     refine t_nil ?_
     refine W.region rfl ?_
     refine zM (I j) rfl ?_
     refine zR j 1 (j - 1) rfl rfl rfl (by omega) ?_
     refine zA (I (j - 1)) rfl ?_
     refine s_nil ?_
     exact ⟨aw, ax, (l.set (Int.toNat j) (l.getD (Int.toNat (j - 1)) default)).set (Int.toNat (j - 1)) (l.getD (Int.toNat j) default), j - 1, ap, _, upds_of _ _ ⟨rfl, rfl, rfl, rfl, rfl, rfl, trivial⟩, M.e_inl hM av, (H.pk [1, 0])⟩
    skip
    refine s_val (x_ix (a := aa) (b := I j) (v := vat aa 2 (Int.toNat j)) rfl rfl (Sl.ix (α := Dem) T62.und T62.size (H.os 1) (by omega) (by omega))) ?_
    have cJ := Sl.cells (H.os 1)
    have cK := Sl.oc (H.os 1)
    refine s_nil ⟨(H.pk [0]), ?_⟩
    refine t_l2 rfl rfl ?_ ?_
    ·skip
     refine s_val (x_ix (a := aa) (b := I (j - 1)) (v := vat aa 2 (Int.toNat (j - 1))) rfl rfl (Sl.ix (α := Dem) T62.und T62.size (H.os 1) (by omega) (by omega))) ?_
     refine s_nil ⟨(H.pk [0]), ?_⟩
     refine t_l2 rfl rfl ?_ ?_
     ·skip
      refine s_val (x_ld (p := vat aa 2 (Int.toNat (j - 1))) (v := .agg #[I ((l.getD (Int.toNat (j - 1)) default).spring), I ((l.getD (Int.toNat (j - 1)) default).town)]) rfl (ld_ag Ag61 Sz61 (At.mono (Dem_atA (H.os 1) (i := j - 1) (by omega) (by omega)) (H.ol 1)))) ?_
      refine s_nil ⟨(H.pk [0]), ?_⟩
      refine t_l rfl ?_
      refine s_val (x_ld (p := vat aa 2 (Int.toNat j)) (v := .agg #[I ((l.getD (Int.toNat j) default).spring), I ((l.getD (Int.toNat j) default).town)]) rfl (ld_ag Ag61 Sz61 (At.mono (Dem_atA (H.os 1) (i := j) (by omega) (by omega)) (H.ol 1)))) ?_
      refine s_nil ⟨(H.pk [0]), ?_⟩
      refine t_l rfl ?_
      refine s_val (x_ix (a := aa) (b := I j) (v := vat aa 2 (Int.toNat j)) rfl rfl (Sl.ix (α := Dem) T62.und T62.size (H.os 1) (by omega) (by omega))) ?_
      refine s_nil ⟨(H.pk [0]), ?_⟩
      refine t_l rfl ?_
      refine t_ost (k := 1) (i := j) (l := l) (l' := l.set (Int.toNat j) (l.getD (Int.toNat (j - 1)) default)) (val := .agg #[I ((l.getD (Int.toNat (j - 1)) default).spring), I ((l.getD (Int.toNat (j - 1)) default).town)]) (L' := [cMem encDm am ap (zaa ab ac ae ag ah ai aj), cOwn (α := Dem) 61 aa (l.set (Int.toNat j) (l.getD (Int.toNat (j - 1)) default))]) H rfl Sz61 (by omega) (by omega) (l.getD (Int.toNat (j - 1)) default) rfl rfl rfl rfl rfl ?_
      intro cL H
      refine s_nil ⟨(H.pk [0]), ?_⟩
      refine t_l rfl ?_
      refine s_val (x_ix (a := aa) (b := I (j - 1)) (v := vat aa 2 (Int.toNat (j - 1))) rfl rfl (Sl.ix (α := Dem) T62.und T62.size (H.os 1) (by omega) (by omega))) ?_
      refine s_nil ⟨(H.pk [0]), ?_⟩
      refine t_l rfl ?_
      refine t_ost (k := 1) (i := j - 1) (l := l.set (Int.toNat j) (l.getD (Int.toNat (j - 1)) default)) (l' := (l.set (Int.toNat j) (l.getD (Int.toNat (j - 1)) default)).set (Int.toNat (j - 1)) (l.getD (Int.toNat j) default)) (val := .agg #[I ((l.getD (Int.toNat j) default).spring), I ((l.getD (Int.toNat j) default).town)]) (L' := [cMem encDm am ap (zaa ab ac ae ag ah ai aj), cOwn (α := Dem) 61 aa ((l.set (Int.toNat j) (l.getD (Int.toNat (j - 1)) default)).set (Int.toNat (j - 1)) (l.getD (Int.toNat j) default))]) H rfl Sz61 (by omega) (by omega) (l.getD (Int.toNat j) default) rfl rfl rfl rfl rfl ?_
      intro cM H
      refine s_nil ⟨(H.pk [0]), ?_⟩
      refine t_nil ?_
      refine W.region rfl ?_
      refine zM (I j) rfl ?_
      refine zR j 1 (j - 1) rfl rfl rfl (by omega) ?_
      refine zA (I (j - 1)) rfl ?_
      refine s_nil ?_
      exact ⟨aw, ax, (l.set (Int.toNat j) (l.getD (Int.toNat (j - 1)) default)).set (Int.toNat (j - 1)) (l.getD (Int.toNat j) default), j - 1, ap, _, upds_of _ _ ⟨rfl, rfl, rfl, rfl, rfl, rfl, trivial⟩, M.e_inl hM av, (H.pk [1, 0])⟩
     skip
     refine s_val (x_ld (p := vat aa 2 (Int.toNat j)) (v := .agg #[I ((l.getD (Int.toNat j) default).spring), I ((l.getD (Int.toNat j) default).town)]) rfl (ld_ag Ag61 Sz61 (At.mono (Dem_atA (H.os 1) (i := j) (by omega) (by omega)) (H.ol 1)))) ?_
     refine s_nil ⟨(H.pk [0]), ?_⟩
     refine t_l rfl ?_
     refine s_val (x_ld (p := vat aa 2 (Int.toNat (j - 1))) (v := .agg #[I ((l.getD (Int.toNat (j - 1)) default).spring), I ((l.getD (Int.toNat (j - 1)) default).town)]) rfl (ld_ag Ag61 Sz61 (At.mono (Dem_atA (H.os 1) (i := j - 1) (by omega) (by omega)) (H.ol 1)))) ?_
     refine s_nil ⟨(H.pk [0]), ?_⟩
     refine t_l rfl ?_
     refine s_val (x_ix (a := aa) (b := I j) (v := vat aa 2 (Int.toNat j)) rfl rfl (Sl.ix (α := Dem) T62.und T62.size (H.os 1) (by omega) (by omega))) ?_
     refine s_nil ⟨(H.pk [0]), ?_⟩
     refine t_l rfl ?_
     refine t_ost (k := 1) (i := j) (l := l) (l' := l.set (Int.toNat j) (l.getD (Int.toNat (j - 1)) default)) (val := .agg #[I ((l.getD (Int.toNat (j - 1)) default).spring), I ((l.getD (Int.toNat (j - 1)) default).town)]) (L' := [cMem encDm am ap (zaa ab ac ae ag ah ai aj), cOwn (α := Dem) 61 aa (l.set (Int.toNat j) (l.getD (Int.toNat (j - 1)) default))]) H rfl Sz61 (by omega) (by omega) (l.getD (Int.toNat (j - 1)) default) rfl rfl rfl rfl rfl ?_
     intro cN H
     refine s_nil ⟨(H.pk [0]), ?_⟩
     refine t_l rfl ?_
     refine s_val (x_ix (a := aa) (b := I (j - 1)) (v := vat aa 2 (Int.toNat (j - 1))) rfl rfl (Sl.ix (α := Dem) T62.und T62.size (H.os 1) (by omega) (by omega))) ?_
     refine s_nil ⟨(H.pk [0]), ?_⟩
     refine t_l rfl ?_
     refine t_ost (k := 1) (i := j - 1) (l := l.set (Int.toNat j) (l.getD (Int.toNat (j - 1)) default)) (l' := (l.set (Int.toNat j) (l.getD (Int.toNat (j - 1)) default)).set (Int.toNat (j - 1)) (l.getD (Int.toNat j) default)) (val := .agg #[I ((l.getD (Int.toNat j) default).spring), I ((l.getD (Int.toNat j) default).town)]) (L' := [cMem encDm am ap (zaa ab ac ae ag ah ai aj), cOwn (α := Dem) 61 aa ((l.set (Int.toNat j) (l.getD (Int.toNat (j - 1)) default)).set (Int.toNat (j - 1)) (l.getD (Int.toNat j) default))]) H rfl Sz61 (by omega) (by omega) (l.getD (Int.toNat j) default) rfl rfl rfl rfl rfl ?_
     intro cO H
     refine s_nil ⟨(H.pk [0]), ?_⟩
     refine t_nil ?_
     refine W.region rfl ?_
     refine zM (I j) rfl ?_
     refine zR j 1 (j - 1) rfl rfl rfl (by omega) ?_
     refine zA (I (j - 1)) rfl ?_
     refine s_nil ?_
     exact ⟨aw, ax, (l.set (Int.toNat j) (l.getD (Int.toNat (j - 1)) default)).set (Int.toNat (j - 1)) (l.getD (Int.toNat j) default), j - 1, ap, _, upds_of _ _ ⟨rfl, rfl, rfl, rfl, rfl, rfl, trivial⟩, M.e_inl hM av, (H.pk [1, 0])⟩
    skip
    refine s_val (x_ld (p := vat aa 2 (Int.toNat j)) (v := .agg #[I ((l.getD (Int.toNat j) default).spring), I ((l.getD (Int.toNat j) default).town)]) rfl (ld_ag Ag61 Sz61 (At.mono (Dem_atA (H.os 1) (i := j) (by omega) (by omega)) (H.ol 1)))) ?_
    refine s_nil ⟨(H.pk [0]), ?_⟩
    refine t_l rfl ?_
    refine s_val (x_ix (a := aa) (b := I (j - 1)) (v := vat aa 2 (Int.toNat (j - 1))) rfl rfl (Sl.ix (α := Dem) T62.und T62.size (H.os 1) (by omega) (by omega))) ?_
    refine s_nil ⟨(H.pk [0]), ?_⟩
    refine t_l rfl ?_
    refine s_val (x_ld (p := vat aa 2 (Int.toNat (j - 1))) (v := .agg #[I ((l.getD (Int.toNat (j - 1)) default).spring), I ((l.getD (Int.toNat (j - 1)) default).town)]) rfl (ld_ag Ag61 Sz61 (At.mono (Dem_atA (H.os 1) (i := j - 1) (by omega) (by omega)) (H.ol 1)))) ?_
    refine s_nil ⟨(H.pk [0]), ?_⟩
    refine t_l rfl ?_
    refine s_val (x_ix (a := aa) (b := I j) (v := vat aa 2 (Int.toNat j)) rfl rfl (Sl.ix (α := Dem) T62.und T62.size (H.os 1) (by omega) (by omega))) ?_
    refine s_nil ⟨(H.pk [0]), ?_⟩
    refine t_l rfl ?_
    refine t_ost (k := 1) (i := j) (l := l) (l' := l.set (Int.toNat j) (l.getD (Int.toNat (j - 1)) default)) (val := .agg #[I ((l.getD (Int.toNat (j - 1)) default).spring), I ((l.getD (Int.toNat (j - 1)) default).town)]) (L' := [cMem encDm am ap (zaa ab ac ae ag ah ai aj), cOwn (α := Dem) 61 aa (l.set (Int.toNat j) (l.getD (Int.toNat (j - 1)) default))]) H rfl Sz61 (by omega) (by omega) (l.getD (Int.toNat (j - 1)) default) rfl rfl rfl rfl rfl ?_
    intro cP H
    refine s_nil ⟨(H.pk [0]), ?_⟩
    refine t_l rfl ?_
    refine s_val (x_ix (a := aa) (b := I (j - 1)) (v := vat aa 2 (Int.toNat (j - 1))) rfl rfl (Sl.ix (α := Dem) T62.und T62.size (H.os 1) (by omega) (by omega))) ?_
    refine s_nil ⟨(H.pk [0]), ?_⟩
    refine t_l rfl ?_
    refine t_ost (k := 1) (i := j - 1) (l := l.set (Int.toNat j) (l.getD (Int.toNat (j - 1)) default)) (l' := (l.set (Int.toNat j) (l.getD (Int.toNat (j - 1)) default)).set (Int.toNat (j - 1)) (l.getD (Int.toNat j) default)) (val := .agg #[I ((l.getD (Int.toNat j) default).spring), I ((l.getD (Int.toNat j) default).town)]) (L' := [cMem encDm am ap (zaa ab ac ae ag ah ai aj), cOwn (α := Dem) 61 aa ((l.set (Int.toNat j) (l.getD (Int.toNat (j - 1)) default)).set (Int.toNat (j - 1)) (l.getD (Int.toNat j) default))]) H rfl Sz61 (by omega) (by omega) (l.getD (Int.toNat j) default) rfl rfl rfl rfl rfl ?_
    intro cQ H
    refine s_nil ⟨(H.pk [0]), ?_⟩
    refine t_nil ?_
    refine W.region rfl ?_
    refine zM (I j) rfl ?_
    refine zR j 1 (j - 1) rfl rfl rfl (by omega) ?_
    refine zA (I (j - 1)) rfl ?_
    refine s_nil ?_
    exact ⟨aw, ax, (l.set (Int.toNat j) (l.getD (Int.toNat (j - 1)) default)).set (Int.toNat (j - 1)) (l.getD (Int.toNat j) default), j - 1, ap, _, upds_of _ _ ⟨rfl, rfl, rfl, rfl, rfl, rfl, trivial⟩, M.e_inl hM av, (H.pk [1, 0])⟩
   replace hM := M.e_f hM aO
   refine W.exit ?_
   have ce := M.e_inr hM av
   subst ce
   replace hM := bu
   try dsimp only at hM
   refine W.region rfl ?_
   refine zM (I i) rfl ?_
   obtain ⟨cf, hM⟩ := M.e_grd hM
   simp only [Bool.and_eq_true, decide_eq_true_eq] at cf
   refine zR i 1 (i + 1) rfl rfl rfl (by omega) ?_
   refine zA (I (i + 1)) rfl ?_
   refine s_nil ?_
   exact ⟨br, bt, l, i + 1, ap, _, upds_of _ _ ⟨rfl, rfl, rfl, rfl, rfl, trivial⟩, M.e_inl hM aM, (H.pk [1, 0])⟩
  replace hM := M.e_f hM aC
  refine s_nil ⟨(H.pk [0]), ?_⟩
  refine d_qg (decide (a < j)) rfl (gy_t rfl) (fun hg => (fun w' H => x_cmp (kd := .i64) (a := 0) (b := 0) (r := decide ((0 : Int) < 0)) (gd_of (c := decide (a < j)) hg (I 0)) rfl rfl)) ?_
  refine d_q rfl (fun w' H => x_pand (b := decide (a < j)) (r := decide ((0 : Int) < 0)) rfl (fun hb => gd_of (c := decide (a < j)) (by first | exact hb | (rw [hb]; rfl) | simp_all) (B (decide ((0 : Int) < 0)))) rfl) ?_
  refine d_nil ?_
  refine W.cond ((decide (a < j)) && (decide ((0 : Int) < 0))) rfl (fun aP => ?_) (fun aP => ?_)
  ·replace hM := M.e_t hM aP
   refine W.skip ?_
   refine W.seq ?_
   refine W.block ?_
   refine W.drawT (fun W => St w W [cMem encDm am B_mem (zaa ab ac ae ag ah ai aj)] R) (.q 0 (.q 1 (.q 2 (.q 3 (.q 4 (.q 5 (.q 6 (.q 7 (.q 10 (.q 11 (.l2 8 (.l2 9 (.l 12 (.l 13 (.l 14 (.l 15 (.l 16 (.l 17 .nil)))))) 12 (.l2 9 (.l 13 (.l 14 (.l 15 (.l 16 (.l 17 .nil))))) 13 (.l 9 (.l 14 (.l 15 (.l 16 (.l 17 .nil))))))) 12 (.l2 8 (.l2 9 (.l 13 (.l 14 (.l 15 (.l 16 (.l 17 .nil))))) 13 (.l 9 (.l 14 (.l 15 (.l 16 (.l 17 .nil)))))) 13 (.l 8 (.l 9 (.l 14 (.l 15 (.l 16 (.l 17 .nil)))))))))))))))))) mixed (by decide +kernel) rfl ?_
   intro cR ao
   replace H := H.ext ao
   clear ao
   refine ⟨(H.pk [1]), ?_⟩
   refine t_q rfl (fun w' H => x_mv (v := aa) rfl) ?_
   refine t_q rfl (fun w' H => x_mv (v := I j) rfl) ?_
   refine t_q rfl (fun w' H => x_mv (v := aa) rfl) ?_
   refine t_q rfl (fun w' H => x_mv (v := I j) rfl) ?_
   obtain ⟨cg, hM⟩ := M.e_grd hM
   simp only [Bool.and_eq_true, decide_eq_true_eq] at cg
   refine t_q rfl (fun w' H => x_ari (a := j) (b := 1) (r := j - 1) rfl rfl rfl (by omega)) ?_
   refine t_q rfl (fun w' H => x_mv (v := aa) rfl) ?_
   refine t_q rfl (fun w' H => x_mv (v := I j) rfl) ?_
   refine t_q rfl (fun w' H => x_ari (a := j) (b := 1) (r := j - 1) rfl rfl rfl (by omega)) ?_
   refine t_q rfl (fun w' H => x_mv (v := aa) rfl) ?_
   refine t_q rfl (fun w' H => x_mv (v := I j) rfl) ?_
   obtain ⟨ci, hM⟩ := M.e_grd hM
   simp only [Bool.and_eq_true, decide_eq_true_eq] at ci
   obtain ⟨cj, hM⟩ := M.e_grd hM
   simp only [Bool.and_eq_true, decide_eq_true_eq] at cj
   obtain ⟨ck, hM⟩ := M.e_grd hM
   simp only [Bool.and_eq_true, decide_eq_true_eq] at ck
   refine t_l2 rfl rfl ?_ ?_
   ·skip
    refine s_val (x_ix (a := aa) (b := I (j - 1)) (v := vat aa 2 (Int.toNat (j - 1))) rfl rfl (Sl.ix (α := Dem) T62.und T62.size (H.os 0) (by omega) (by omega))) ?_
    have cS := Sl.cells (H.os 0)
    have cT := Sl.oc (H.os 0)
    refine s_nil ⟨(H.pk [1]), ?_⟩
    refine t_l2 rfl rfl ?_ ?_
    ·skip
     refine s_val (x_ld (p := vat aa 2 (Int.toNat (j - 1))) (v := .agg #[I ((l.getD (Int.toNat (j - 1)) default).spring), I ((l.getD (Int.toNat (j - 1)) default).town)]) rfl (ld_ag Ag61 Sz61 (At.mono (Dem_atA (H.os 0) (i := j - 1) (by omega) (by omega)) (H.ol 0)))) ?_
     refine s_nil ⟨(H.pk [1]), ?_⟩
     refine t_l rfl ?_
     refine s_val (x_ix (a := aa) (b := I j) (v := vat aa 2 (Int.toNat j)) rfl rfl (Sl.ix (α := Dem) T62.und T62.size (H.os 0) (by omega) (by omega))) ?_
     refine s_nil ⟨(H.pk [1]), ?_⟩
     refine t_l rfl ?_
     refine s_val (x_ld (p := vat aa 2 (Int.toNat j)) (v := .agg #[I ((l.getD (Int.toNat j) default).spring), I ((l.getD (Int.toNat j) default).town)]) rfl (ld_ag Ag61 Sz61 (At.mono (Dem_atA (H.os 0) (i := j) (by omega) (by omega)) (H.ol 0)))) ?_
     refine s_nil ⟨(H.pk [1]), ?_⟩
     refine t_l rfl ?_
     refine s_val (x_ix (a := aa) (b := I j) (v := vat aa 2 (Int.toNat j)) rfl rfl (Sl.ix (α := Dem) T62.und T62.size (H.os 0) (by omega) (by omega))) ?_
     refine s_nil ⟨(H.pk [1]), ?_⟩
     refine t_l rfl ?_
     refine t_ost (k := 0) (i := j) (l := l) (l' := l.set (Int.toNat j) (l.getD (Int.toNat (j - 1)) default)) (val := .agg #[I ((l.getD (Int.toNat (j - 1)) default).spring), I ((l.getD (Int.toNat (j - 1)) default).town)]) (L' := [cOwn (α := Dem) 61 aa (l.set (Int.toNat j) (l.getD (Int.toNat (j - 1)) default)), cMem encDm am B_mem (zaa ab ac ae ag ah ai aj)]) H rfl Sz61 (by omega) (by omega) (l.getD (Int.toNat (j - 1)) default) rfl rfl rfl rfl rfl ?_
     intro cU H
     refine s_nil ⟨(H.pk [1]), ?_⟩
     refine t_l rfl ?_
     refine s_val (x_ix (a := aa) (b := I (j - 1)) (v := vat aa 2 (Int.toNat (j - 1))) rfl rfl (Sl.ix (α := Dem) T62.und T62.size (H.os 0) (by omega) (by omega))) ?_
     refine s_nil ⟨(H.pk [1]), ?_⟩
     refine t_l rfl ?_
     refine t_ost (k := 0) (i := j - 1) (l := l.set (Int.toNat j) (l.getD (Int.toNat (j - 1)) default)) (l' := (l.set (Int.toNat j) (l.getD (Int.toNat (j - 1)) default)).set (Int.toNat (j - 1)) (l.getD (Int.toNat j) default)) (val := .agg #[I ((l.getD (Int.toNat j) default).spring), I ((l.getD (Int.toNat j) default).town)]) (L' := [cOwn (α := Dem) 61 aa ((l.set (Int.toNat j) (l.getD (Int.toNat (j - 1)) default)).set (Int.toNat (j - 1)) (l.getD (Int.toNat j) default)), cMem encDm am B_mem (zaa ab ac ae ag ah ai aj)]) H rfl Sz61 (by omega) (by omega) (l.getD (Int.toNat j) default) rfl rfl rfl rfl rfl ?_
     intro cV H
     refine s_nil ⟨(H.pk [1]), ?_⟩
     refine t_nil ?_
     refine W.region rfl ?_
     refine zM (I j) rfl ?_
     refine zR j 1 (j - 1) rfl rfl rfl (by omega) ?_
     refine zA (I (j - 1)) rfl ?_
     refine s_nil ?_
     exact ⟨aw, ax, (l.set (Int.toNat j) (l.getD (Int.toNat (j - 1)) default)).set (Int.toNat (j - 1)) (l.getD (Int.toNat j) default), j - 1, B_mem, _, upds_of _ _ ⟨rfl, rfl, rfl, rfl, rfl, rfl, trivial⟩, M.e_inl hM av, H⟩
    skip
    refine s_val (x_ix (a := aa) (b := I j) (v := vat aa 2 (Int.toNat j)) rfl rfl (Sl.ix (α := Dem) T62.und T62.size (H.os 0) (by omega) (by omega))) ?_
    refine s_nil ⟨(H.pk [1]), ?_⟩
    refine t_l2 rfl rfl ?_ ?_
    ·skip
     refine s_val (x_ld (p := vat aa 2 (Int.toNat (j - 1))) (v := .agg #[I ((l.getD (Int.toNat (j - 1)) default).spring), I ((l.getD (Int.toNat (j - 1)) default).town)]) rfl (ld_ag Ag61 Sz61 (At.mono (Dem_atA (H.os 0) (i := j - 1) (by omega) (by omega)) (H.ol 0)))) ?_
     refine s_nil ⟨(H.pk [1]), ?_⟩
     refine t_l rfl ?_
     refine s_val (x_ld (p := vat aa 2 (Int.toNat j)) (v := .agg #[I ((l.getD (Int.toNat j) default).spring), I ((l.getD (Int.toNat j) default).town)]) rfl (ld_ag Ag61 Sz61 (At.mono (Dem_atA (H.os 0) (i := j) (by omega) (by omega)) (H.ol 0)))) ?_
     refine s_nil ⟨(H.pk [1]), ?_⟩
     refine t_l rfl ?_
     refine s_val (x_ix (a := aa) (b := I j) (v := vat aa 2 (Int.toNat j)) rfl rfl (Sl.ix (α := Dem) T62.und T62.size (H.os 0) (by omega) (by omega))) ?_
     refine s_nil ⟨(H.pk [1]), ?_⟩
     refine t_l rfl ?_
     refine t_ost (k := 0) (i := j) (l := l) (l' := l.set (Int.toNat j) (l.getD (Int.toNat (j - 1)) default)) (val := .agg #[I ((l.getD (Int.toNat (j - 1)) default).spring), I ((l.getD (Int.toNat (j - 1)) default).town)]) (L' := [cOwn (α := Dem) 61 aa (l.set (Int.toNat j) (l.getD (Int.toNat (j - 1)) default)), cMem encDm am B_mem (zaa ab ac ae ag ah ai aj)]) H rfl Sz61 (by omega) (by omega) (l.getD (Int.toNat (j - 1)) default) rfl rfl rfl rfl rfl ?_
     intro cW H
     refine s_nil ⟨(H.pk [1]), ?_⟩
     refine t_l rfl ?_
     refine s_val (x_ix (a := aa) (b := I (j - 1)) (v := vat aa 2 (Int.toNat (j - 1))) rfl rfl (Sl.ix (α := Dem) T62.und T62.size (H.os 0) (by omega) (by omega))) ?_
     refine s_nil ⟨(H.pk [1]), ?_⟩
     refine t_l rfl ?_
     refine t_ost (k := 0) (i := j - 1) (l := l.set (Int.toNat j) (l.getD (Int.toNat (j - 1)) default)) (l' := (l.set (Int.toNat j) (l.getD (Int.toNat (j - 1)) default)).set (Int.toNat (j - 1)) (l.getD (Int.toNat j) default)) (val := .agg #[I ((l.getD (Int.toNat j) default).spring), I ((l.getD (Int.toNat j) default).town)]) (L' := [cOwn (α := Dem) 61 aa ((l.set (Int.toNat j) (l.getD (Int.toNat (j - 1)) default)).set (Int.toNat (j - 1)) (l.getD (Int.toNat j) default)), cMem encDm am B_mem (zaa ab ac ae ag ah ai aj)]) H rfl Sz61 (by omega) (by omega) (l.getD (Int.toNat j) default) rfl rfl rfl rfl rfl ?_
     intro cX H
     refine s_nil ⟨(H.pk [1]), ?_⟩
     refine t_nil ?_
     refine W.region rfl ?_
     refine zM (I j) rfl ?_
     refine zR j 1 (j - 1) rfl rfl rfl (by omega) ?_
     refine zA (I (j - 1)) rfl ?_
     refine s_nil ?_
     exact ⟨aw, ax, (l.set (Int.toNat j) (l.getD (Int.toNat (j - 1)) default)).set (Int.toNat (j - 1)) (l.getD (Int.toNat j) default), j - 1, B_mem, _, upds_of _ _ ⟨rfl, rfl, rfl, rfl, rfl, rfl, trivial⟩, M.e_inl hM av, H⟩
    skip
    refine s_val (x_ld (p := vat aa 2 (Int.toNat j)) (v := .agg #[I ((l.getD (Int.toNat j) default).spring), I ((l.getD (Int.toNat j) default).town)]) rfl (ld_ag Ag61 Sz61 (At.mono (Dem_atA (H.os 0) (i := j) (by omega) (by omega)) (H.ol 0)))) ?_
    refine s_nil ⟨(H.pk [1]), ?_⟩
    refine t_l rfl ?_
    refine s_val (x_ld (p := vat aa 2 (Int.toNat (j - 1))) (v := .agg #[I ((l.getD (Int.toNat (j - 1)) default).spring), I ((l.getD (Int.toNat (j - 1)) default).town)]) rfl (ld_ag Ag61 Sz61 (At.mono (Dem_atA (H.os 0) (i := j - 1) (by omega) (by omega)) (H.ol 0)))) ?_
    refine s_nil ⟨(H.pk [1]), ?_⟩
    refine t_l rfl ?_
    refine s_val (x_ix (a := aa) (b := I j) (v := vat aa 2 (Int.toNat j)) rfl rfl (Sl.ix (α := Dem) T62.und T62.size (H.os 0) (by omega) (by omega))) ?_
    refine s_nil ⟨(H.pk [1]), ?_⟩
    refine t_l rfl ?_
    refine t_ost (k := 0) (i := j) (l := l) (l' := l.set (Int.toNat j) (l.getD (Int.toNat (j - 1)) default)) (val := .agg #[I ((l.getD (Int.toNat (j - 1)) default).spring), I ((l.getD (Int.toNat (j - 1)) default).town)]) (L' := [cOwn (α := Dem) 61 aa (l.set (Int.toNat j) (l.getD (Int.toNat (j - 1)) default)), cMem encDm am B_mem (zaa ab ac ae ag ah ai aj)]) H rfl Sz61 (by omega) (by omega) (l.getD (Int.toNat (j - 1)) default) rfl rfl rfl rfl rfl ?_
    intro cY H
    refine s_nil ⟨(H.pk [1]), ?_⟩
    refine t_l rfl ?_
    refine s_val (x_ix (a := aa) (b := I (j - 1)) (v := vat aa 2 (Int.toNat (j - 1))) rfl rfl (Sl.ix (α := Dem) T62.und T62.size (H.os 0) (by omega) (by omega))) ?_
    refine s_nil ⟨(H.pk [1]), ?_⟩
    refine t_l rfl ?_
    refine t_ost (k := 0) (i := j - 1) (l := l.set (Int.toNat j) (l.getD (Int.toNat (j - 1)) default)) (l' := (l.set (Int.toNat j) (l.getD (Int.toNat (j - 1)) default)).set (Int.toNat (j - 1)) (l.getD (Int.toNat j) default)) (val := .agg #[I ((l.getD (Int.toNat j) default).spring), I ((l.getD (Int.toNat j) default).town)]) (L' := [cOwn (α := Dem) 61 aa ((l.set (Int.toNat j) (l.getD (Int.toNat (j - 1)) default)).set (Int.toNat (j - 1)) (l.getD (Int.toNat j) default)), cMem encDm am B_mem (zaa ab ac ae ag ah ai aj)]) H rfl Sz61 (by omega) (by omega) (l.getD (Int.toNat j) default) rfl rfl rfl rfl rfl ?_
    intro cZ H
    refine s_nil ⟨(H.pk [1]), ?_⟩
    refine t_nil ?_
    refine W.region rfl ?_
    refine zM (I j) rfl ?_
    refine zR j 1 (j - 1) rfl rfl rfl (by omega) ?_
    refine zA (I (j - 1)) rfl ?_
    refine s_nil ?_
    exact ⟨aw, ax, (l.set (Int.toNat j) (l.getD (Int.toNat (j - 1)) default)).set (Int.toNat (j - 1)) (l.getD (Int.toNat j) default), j - 1, B_mem, _, upds_of _ _ ⟨rfl, rfl, rfl, rfl, rfl, rfl, trivial⟩, M.e_inl hM av, H⟩
   skip
   refine s_val (x_ix (a := aa) (b := I j) (v := vat aa 2 (Int.toNat j)) rfl rfl (Sl.ix (α := Dem) T62.und T62.size (H.os 0) (by omega) (by omega))) ?_
   have c6 := Sl.cells (H.os 0)
   have c7 := Sl.oc (H.os 0)
   refine s_nil ⟨(H.pk [1]), ?_⟩
   refine t_l2 rfl rfl ?_ ?_
   ·skip
    refine s_val (x_ix (a := aa) (b := I (j - 1)) (v := vat aa 2 (Int.toNat (j - 1))) rfl rfl (Sl.ix (α := Dem) T62.und T62.size (H.os 0) (by omega) (by omega))) ?_
    refine s_nil ⟨(H.pk [1]), ?_⟩
    refine t_l2 rfl rfl ?_ ?_
    ·skip
     refine s_val (x_ld (p := vat aa 2 (Int.toNat (j - 1))) (v := .agg #[I ((l.getD (Int.toNat (j - 1)) default).spring), I ((l.getD (Int.toNat (j - 1)) default).town)]) rfl (ld_ag Ag61 Sz61 (At.mono (Dem_atA (H.os 0) (i := j - 1) (by omega) (by omega)) (H.ol 0)))) ?_
     refine s_nil ⟨(H.pk [1]), ?_⟩
     refine t_l rfl ?_
     refine s_val (x_ld (p := vat aa 2 (Int.toNat j)) (v := .agg #[I ((l.getD (Int.toNat j) default).spring), I ((l.getD (Int.toNat j) default).town)]) rfl (ld_ag Ag61 Sz61 (At.mono (Dem_atA (H.os 0) (i := j) (by omega) (by omega)) (H.ol 0)))) ?_
     refine s_nil ⟨(H.pk [1]), ?_⟩
     refine t_l rfl ?_
     refine s_val (x_ix (a := aa) (b := I j) (v := vat aa 2 (Int.toNat j)) rfl rfl (Sl.ix (α := Dem) T62.und T62.size (H.os 0) (by omega) (by omega))) ?_
     refine s_nil ⟨(H.pk [1]), ?_⟩
     refine t_l rfl ?_
     refine t_ost (k := 0) (i := j) (l := l) (l' := l.set (Int.toNat j) (l.getD (Int.toNat (j - 1)) default)) (val := .agg #[I ((l.getD (Int.toNat (j - 1)) default).spring), I ((l.getD (Int.toNat (j - 1)) default).town)]) (L' := [cOwn (α := Dem) 61 aa (l.set (Int.toNat j) (l.getD (Int.toNat (j - 1)) default)), cMem encDm am B_mem (zaa ab ac ae ag ah ai aj)]) H rfl Sz61 (by omega) (by omega) (l.getD (Int.toNat (j - 1)) default) rfl rfl rfl rfl rfl ?_
     intro c8 H
     refine s_nil ⟨(H.pk [1]), ?_⟩
     refine t_l rfl ?_
     refine s_val (x_ix (a := aa) (b := I (j - 1)) (v := vat aa 2 (Int.toNat (j - 1))) rfl rfl (Sl.ix (α := Dem) T62.und T62.size (H.os 0) (by omega) (by omega))) ?_
     refine s_nil ⟨(H.pk [1]), ?_⟩
     refine t_l rfl ?_
     refine t_ost (k := 0) (i := j - 1) (l := l.set (Int.toNat j) (l.getD (Int.toNat (j - 1)) default)) (l' := (l.set (Int.toNat j) (l.getD (Int.toNat (j - 1)) default)).set (Int.toNat (j - 1)) (l.getD (Int.toNat j) default)) (val := .agg #[I ((l.getD (Int.toNat j) default).spring), I ((l.getD (Int.toNat j) default).town)]) (L' := [cOwn (α := Dem) 61 aa ((l.set (Int.toNat j) (l.getD (Int.toNat (j - 1)) default)).set (Int.toNat (j - 1)) (l.getD (Int.toNat j) default)), cMem encDm am B_mem (zaa ab ac ae ag ah ai aj)]) H rfl Sz61 (by omega) (by omega) (l.getD (Int.toNat j) default) rfl rfl rfl rfl rfl ?_
     intro c9 H
     refine s_nil ⟨(H.pk [1]), ?_⟩
     refine t_nil ?_
     refine W.region rfl ?_
     refine zM (I j) rfl ?_
     refine zR j 1 (j - 1) rfl rfl rfl (by omega) ?_
     refine zA (I (j - 1)) rfl ?_
     refine s_nil ?_
     exact ⟨aw, ax, (l.set (Int.toNat j) (l.getD (Int.toNat (j - 1)) default)).set (Int.toNat (j - 1)) (l.getD (Int.toNat j) default), j - 1, B_mem, _, upds_of _ _ ⟨rfl, rfl, rfl, rfl, rfl, rfl, trivial⟩, M.e_inl hM av, H⟩
    skip
    refine s_val (x_ld (p := vat aa 2 (Int.toNat j)) (v := .agg #[I ((l.getD (Int.toNat j) default).spring), I ((l.getD (Int.toNat j) default).town)]) rfl (ld_ag Ag61 Sz61 (At.mono (Dem_atA (H.os 0) (i := j) (by omega) (by omega)) (H.ol 0)))) ?_
    refine s_nil ⟨(H.pk [1]), ?_⟩
    refine t_l rfl ?_
    refine s_val (x_ld (p := vat aa 2 (Int.toNat (j - 1))) (v := .agg #[I ((l.getD (Int.toNat (j - 1)) default).spring), I ((l.getD (Int.toNat (j - 1)) default).town)]) rfl (ld_ag Ag61 Sz61 (At.mono (Dem_atA (H.os 0) (i := j - 1) (by omega) (by omega)) (H.ol 0)))) ?_
    refine s_nil ⟨(H.pk [1]), ?_⟩
    refine t_l rfl ?_
    refine s_val (x_ix (a := aa) (b := I j) (v := vat aa 2 (Int.toNat j)) rfl rfl (Sl.ix (α := Dem) T62.und T62.size (H.os 0) (by omega) (by omega))) ?_
    refine s_nil ⟨(H.pk [1]), ?_⟩
    refine t_l rfl ?_
    refine t_ost (k := 0) (i := j) (l := l) (l' := l.set (Int.toNat j) (l.getD (Int.toNat (j - 1)) default)) (val := .agg #[I ((l.getD (Int.toNat (j - 1)) default).spring), I ((l.getD (Int.toNat (j - 1)) default).town)]) (L' := [cOwn (α := Dem) 61 aa (l.set (Int.toNat j) (l.getD (Int.toNat (j - 1)) default)), cMem encDm am B_mem (zaa ab ac ae ag ah ai aj)]) H rfl Sz61 (by omega) (by omega) (l.getD (Int.toNat (j - 1)) default) rfl rfl rfl rfl rfl ?_
    intro da H
    refine s_nil ⟨(H.pk [1]), ?_⟩
    refine t_l rfl ?_
    refine s_val (x_ix (a := aa) (b := I (j - 1)) (v := vat aa 2 (Int.toNat (j - 1))) rfl rfl (Sl.ix (α := Dem) T62.und T62.size (H.os 0) (by omega) (by omega))) ?_
    refine s_nil ⟨(H.pk [1]), ?_⟩
    refine t_l rfl ?_
    refine t_ost (k := 0) (i := j - 1) (l := l.set (Int.toNat j) (l.getD (Int.toNat (j - 1)) default)) (l' := (l.set (Int.toNat j) (l.getD (Int.toNat (j - 1)) default)).set (Int.toNat (j - 1)) (l.getD (Int.toNat j) default)) (val := .agg #[I ((l.getD (Int.toNat j) default).spring), I ((l.getD (Int.toNat j) default).town)]) (L' := [cOwn (α := Dem) 61 aa ((l.set (Int.toNat j) (l.getD (Int.toNat (j - 1)) default)).set (Int.toNat (j - 1)) (l.getD (Int.toNat j) default)), cMem encDm am B_mem (zaa ab ac ae ag ah ai aj)]) H rfl Sz61 (by omega) (by omega) (l.getD (Int.toNat j) default) rfl rfl rfl rfl rfl ?_
    intro db H
    refine s_nil ⟨(H.pk [1]), ?_⟩
    refine t_nil ?_
    refine W.region rfl ?_
    refine zM (I j) rfl ?_
    refine zR j 1 (j - 1) rfl rfl rfl (by omega) ?_
    refine zA (I (j - 1)) rfl ?_
    refine s_nil ?_
    exact ⟨aw, ax, (l.set (Int.toNat j) (l.getD (Int.toNat (j - 1)) default)).set (Int.toNat (j - 1)) (l.getD (Int.toNat j) default), j - 1, B_mem, _, upds_of _ _ ⟨rfl, rfl, rfl, rfl, rfl, rfl, trivial⟩, M.e_inl hM av, H⟩
   skip
   refine s_val (x_ld (p := vat aa 2 (Int.toNat j)) (v := .agg #[I ((l.getD (Int.toNat j) default).spring), I ((l.getD (Int.toNat j) default).town)]) rfl (ld_ag Ag61 Sz61 (At.mono (Dem_atA (H.os 0) (i := j) (by omega) (by omega)) (H.ol 0)))) ?_
   refine s_nil ⟨(H.pk [1]), ?_⟩
   refine t_l rfl ?_
   refine s_val (x_ix (a := aa) (b := I (j - 1)) (v := vat aa 2 (Int.toNat (j - 1))) rfl rfl (Sl.ix (α := Dem) T62.und T62.size (H.os 0) (by omega) (by omega))) ?_
   refine s_nil ⟨(H.pk [1]), ?_⟩
   refine t_l rfl ?_
   refine s_val (x_ld (p := vat aa 2 (Int.toNat (j - 1))) (v := .agg #[I ((l.getD (Int.toNat (j - 1)) default).spring), I ((l.getD (Int.toNat (j - 1)) default).town)]) rfl (ld_ag Ag61 Sz61 (At.mono (Dem_atA (H.os 0) (i := j - 1) (by omega) (by omega)) (H.ol 0)))) ?_
   refine s_nil ⟨(H.pk [1]), ?_⟩
   refine t_l rfl ?_
   refine s_val (x_ix (a := aa) (b := I j) (v := vat aa 2 (Int.toNat j)) rfl rfl (Sl.ix (α := Dem) T62.und T62.size (H.os 0) (by omega) (by omega))) ?_
   refine s_nil ⟨(H.pk [1]), ?_⟩
   refine t_l rfl ?_
   refine t_ost (k := 0) (i := j) (l := l) (l' := l.set (Int.toNat j) (l.getD (Int.toNat (j - 1)) default)) (val := .agg #[I ((l.getD (Int.toNat (j - 1)) default).spring), I ((l.getD (Int.toNat (j - 1)) default).town)]) (L' := [cOwn (α := Dem) 61 aa (l.set (Int.toNat j) (l.getD (Int.toNat (j - 1)) default)), cMem encDm am B_mem (zaa ab ac ae ag ah ai aj)]) H rfl Sz61 (by omega) (by omega) (l.getD (Int.toNat (j - 1)) default) rfl rfl rfl rfl rfl ?_
   intro dc H
   refine s_nil ⟨(H.pk [1]), ?_⟩
   refine t_l rfl ?_
   refine s_val (x_ix (a := aa) (b := I (j - 1)) (v := vat aa 2 (Int.toNat (j - 1))) rfl rfl (Sl.ix (α := Dem) T62.und T62.size (H.os 0) (by omega) (by omega))) ?_
   refine s_nil ⟨(H.pk [1]), ?_⟩
   refine t_l rfl ?_
   refine t_ost (k := 0) (i := j - 1) (l := l.set (Int.toNat j) (l.getD (Int.toNat (j - 1)) default)) (l' := (l.set (Int.toNat j) (l.getD (Int.toNat (j - 1)) default)).set (Int.toNat (j - 1)) (l.getD (Int.toNat j) default)) (val := .agg #[I ((l.getD (Int.toNat j) default).spring), I ((l.getD (Int.toNat j) default).town)]) (L' := [cOwn (α := Dem) 61 aa ((l.set (Int.toNat j) (l.getD (Int.toNat (j - 1)) default)).set (Int.toNat (j - 1)) (l.getD (Int.toNat j) default)), cMem encDm am B_mem (zaa ab ac ae ag ah ai aj)]) H rfl Sz61 (by omega) (by omega) (l.getD (Int.toNat j) default) rfl rfl rfl rfl rfl ?_
   intro dd H
   refine s_nil ⟨(H.pk [1]), ?_⟩
   refine t_nil ?_
   refine W.region rfl ?_
   refine zM (I j) rfl ?_
   refine zR j 1 (j - 1) rfl rfl rfl (by omega) ?_
   refine zA (I (j - 1)) rfl ?_
   refine s_nil ?_
   exact ⟨aw, ax, (l.set (Int.toNat j) (l.getD (Int.toNat (j - 1)) default)).set (Int.toNat (j - 1)) (l.getD (Int.toNat j) default), j - 1, B_mem, _, upds_of _ _ ⟨rfl, rfl, rfl, rfl, rfl, rfl, trivial⟩, M.e_inl hM av, H⟩
  replace hM := M.e_f hM aP
  refine W.exit ?_
  have cl := M.e_inr hM av
  subst cl
  replace hM := bu
  try dsimp only at hM
  refine W.region rfl ?_
  refine zM (I i) rfl ?_
  obtain ⟨cm, hM⟩ := M.e_grd hM
  simp only [Bool.and_eq_true, decide_eq_true_eq] at cm
  refine zR i 1 (i + 1) rfl rfl rfl (by omega) ?_
  refine zA (I (i + 1)) rfl ?_
  refine s_nil ?_
  exact ⟨br, bt, l, i + 1, B_mem, _, upds_of _ _ ⟨rfl, rfl, rfl, rfl, rfl, trivial⟩, M.e_inl hM aM, H⟩
 replace hM := M.e_f hM aK
 simp only [qy1, qy2, qy3, qy4, qy5, qy6, ne_eq, qy7] at aK
 refine W.exit ?_
 have cn := M.e_inr hM aM
 subst cn
 replace hM := b4
 try dsimp only at hM
 have co := M.e_pure hM
 exact ⟨_, resE_tmp0 rfl, ⟨l4, B_mem2, co, rfl, H⟩⟩

def zcA (n : Int) (aa : List Int) (ab : List Span) (ac : List Int) (ae : List Town) (ag : Int) (ah : Int) (ai : List Flood) (aj : List Int) (ak : List Span) (am : List Int) (ao : List Town) (ap : Int) (aq : Int) (au : List Flood) : ((List Dem) × Int × Int) -> M (((List Dem) × Int × Int) ⊕ ((List Dem) × Int × (List Dem))) := fun (l, a, b) =>
  bif decide (b <= n) then (
  M.bind (zcz l a b aa ab ac ae ag ah ai aj ak am ao ap aq au) fun l_data =>
  M.grd (decide ((-9223372036854775808 : Int) <= (b + 20)) && decide ((b + 20) <= (9223372036854775807 : Int))) <|
  M.pure (.inl (l_data, b, b + 20)))
  else (
  M.pure (.inr (l, a, l)))
def zcF (n : Int) (blockSize : Int) : Unit -> M (Unit ⊕ Unit) := fun (_ : Unit) =>
  bif decide ((2 * blockSize) <= n) then (
  M.grd (decide ((-9223372036854775808 : Int) <= (0 + blockSize)) && decide ((0 + blockSize) <= (9223372036854775807 : Int))) <|
  M.fail)
  else (
  M.pure (.inr ()))
def zcB (n : Int) : Int -> M (Int ⊕ Unit) := fun blockSize =>
  bif decide (blockSize < n) then (
  M.grd (decide ((-9223372036854775808 : Int) <= (2 * blockSize)) && decide ((2 * blockSize) <= (9223372036854775807 : Int))) <|
  M.bind (M.iter (zcF n blockSize) ()) fun (_ : Unit) =>
  M.grd (decide ((-9223372036854775808 : Int) <= (0 + blockSize)) && decide ((0 + blockSize) <= (9223372036854775807 : Int))) <|
  bif decide ((0 + blockSize) < n) then (
  M.fail)
  else (
  M.grd (decide ((-9223372036854775808 : Int) <= (blockSize * 2)) && decide ((blockSize * 2) <= (9223372036854775807 : Int))) <|
  M.pure (.inl (blockSize * 2))))
  else (
  M.pure (.inr ()))
def zc9 (data : List Dem) (n : Int) (aa : List Int) (ab : List Span) (ac : List Int) (ae : List Town) (ag : Int) (ah : Int) (ai : List Flood) (aj : List Int) (ak : List Span) (am : List Int) (ao : List Town) (ap : Int) (aq : Int) (au : List Flood) : M (List Dem) :=
  M.bind (M.iter (zcA n aa ab ac ae ag ah ai aj ak am ao ap aq au) (data, 0, 20)) fun (l2, a2, l3) =>
  M.bind (zcz l3 a2 n aa ab ac ae ag ah ai aj ak am ao ap aq au) fun l_data2 =>
  M.bind (M.iter (zcB n) 20) fun (_ : Unit) =>
  M.pure l_data2
theorem zdy {R : List Chunk} {aa : Value} {ab : Nat} {aH : Nat} {aI : Nat} {aJ : Cells} {aK : Value} {aL : Cells} {aM : Value} {aN : Cells} {aO : Value} {aP : Cells} {aQ : Value} {aR : Cells} {aS : Value} {am : Nat} {B_b_cmp2020207 : Base} {aT : Nat} {aU : Nat} {aV : Cells} {aW : Value} {aX : Cells} {aY : Value} {aZ : Cells} {a6 : Value} {a7 : Cells} {a8 : Value} {ba : Cells} {bc : Value} {bO : Nat} (data : List Dem) (n : Int) (ac : List Int) (ae : List Span) (ag : List Int) (ah : List Town) (ai : Int) (aj : Int) (ak : List Flood) (ao : List Int) (ap : List Span) (aq : List Int) (au : List Town) (av : Int) (aw : Int) (ax : List Flood) (bf : Reads R aJ) (bg : Sl aJ aK ac) (bh : Reads R aL) (bi : Sl aL aM ae) (bj : Reads R aN) (bm : Sl aN aO ag) (bn : Reads R aP) (bo : Sl aP aQ ah) (bp : Reads R aR) (bq : Sl aR aS ak) (br : Has R (cBlk aI [aK, aM, aO, aQ, I ai, I aj, aS, .map (some am)] 111)) (bt : Has R (cBlk aH [.func (.func 81) #[Pq aI] #[]] 134)) (bu : Reads R aV) (bv : Sl aV aW ao) (bw : Reads R aX) (bx : Sl aX aY ap) (bz : Reads R aZ) (bA : Sl aZ a6 aq) (bB : Reads R a7) (bC : Sl a7 a8 au) (bD : Reads R ba) (bE : Sl ba bc ax) (bF : Has R (cBlk aU [aW, aY, a6, a8, I av, I aw, bc, .map (some bO)] 111)) (bG : Has R (cBlk aT [Pq aU] 94)) (bH : Has R (cBlk ab [.func (.func 102) #[] #[Pq aH, Pq aT]] 146)) {r : (List Dem)} (hM : (zc9 data n ac ae ag ah ai aj ak ao ap aq au av aw ax).Ends r) (w : World) (H : St w w [cOwn (α := Dem) 61 aa data, cMem encDm am B_b_cmp2020207 (zaa ac ae ag ah ai aj ak)] R) : Ret Tryz.prog 109 #[aa, I n, .func (.func 104) #[] #[Pq ab]] w fun v w' => ∃ (y0 : List Dem) (bP : Base), y0 = r /\ v = .tuple #[] /\ St w w' [cOwn (α := Dem) 61 aa y0, cMem encDm am bP (zaa ac ae ag ah ai aj ak)] R := by
 refine ret_of_W Tryz.func109 rfl rfl rfl ?_
 refine W.seq ?_
 refine W.region rfl ?_
 refine zA (I 20) rfl ?_
 refine s_nil ?_
 refine W.seq ?_
 refine W.region rfl ?_
 refine zM (I 20) rfl ?_
 refine zA (I 0) rfl ?_
 refine zA (I 20) rfl ?_
 refine s_nil ?_
 refine W.seq ?_
 refine W.block ?_
 obtain ⟨bQ, aD, bR⟩ := M.e_bind hM
 obtain ⟨bI, aD⟩ := M.e_iter aD
 refine W.loop (fun m σ W => ∃ (l : List Dem) (a : Int) (b : Int) (B_mem : Base) (ρ : Env), σ = upds ρ [(0, aa), (1, I n), (2, .func (.func 104) #[] #[Pq ab]), (6, I 20), (7, I a), (8, I b)] /\ M.iterN (zcA n ac ae ag ah ai aj ak ao ap aq au av aw ax) m (l, a, b) = some bQ /\ St w W [cOwn (α := Dem) 61 aa l, cMem encDm am B_mem (zaa ac ae ag ah ai aj ak)] R) ?_ ?_
 ·exact ⟨_, data, 0, 20, B_b_cmp2020207, _, upds_of _ _ ⟨rfl, rfl, rfl, rfl, rfl, rfl, trivial⟩, aD, H⟩
 rintro ck σ cl ⟨l, a, b, B_mem, ρ, rfl, bJ, H⟩
 obtain ⟨bS, bT, cm, hM, bK⟩ := M.e_iterN bJ
 simp only [zcA] at hM
 clear bJ
 refine W.seq ?_
 refine W.seq ?_
 refine W.region rfl ?_
 refine zM (I b) rfl ?_
 refine zM (I n) rfl ?_
 refine zC b n (decide (b <= n)) rfl rfl rfl ?_
 refine s_nil ?_
 refine W.cond (decide (b <= n)) rfl (fun ay => ?_) (fun ay => ?_)
 ·replace hM := M.e_t hM ay
  simp only [qy1, qy2, qy3, qy4, qy5, qy6, ne_eq, qy7] at ay
  refine W.skip ?_
  refine W.block ?_
  refine W.seq ?_
  refine W.region rfl ?_
  refine zM aa rfl ?_
  refine zM (I a) rfl ?_
  refine zM (I b) rfl ?_
  refine zM (.func (.func 104) #[] #[Pq ab]) rfl ?_
  obtain ⟨cn, bU, hM⟩ := M.e_bind hM
  refine s_call cf113 [aa, I a, I b, .func (.func 104) #[] #[Pq ab]] rfl (zcQ l a b ac ae ag ah ai aj ak ao ap aq au av aw ax (bf.app _) bg (bh.app _) bi (bj.app _) bm (bn.app _) bo (bp.app _) bq (br.app _) (bt.app _) (bu.app _) bv (bw.app _) bx (bz.app _) bA (bB.app _) bC (bD.app _) bE (bF.app _) (bG.app _) (bH.app _) bU _ (H.gt 0)) ?_
  rintro vq co ⟨l_data, bV, bW, hvq, az⟩
  subst bW
  subst vq
  try dsimp only at hM
  replace H := H.bk az
  clear az
  refine s_nil ?_
  refine W.seq ?_
  refine W.region rfl ?_
  refine zM (I b) rfl ?_
  refine zA (I b) rfl ?_
  refine s_nil ?_
  refine W.region rfl ?_
  refine zM (I b) rfl ?_
  refine zM (I 20) rfl ?_
  obtain ⟨bX, hM⟩ := M.e_grd hM
  simp only [Bool.and_eq_true, decide_eq_true_eq] at bX
  refine zR b 20 (b + 20) rfl rfl rfl (by omega) ?_
  refine zA (I (b + 20)) rfl ?_
  refine s_nil ?_
  exact ⟨bS, bT, l_data, b, b + 20, bV, _, upds_of _ _ ⟨rfl, rfl, rfl, rfl, rfl, rfl, trivial⟩, M.e_inl hM bK, H⟩
 replace hM := M.e_f hM ay
 simp only [qy1, qy2, qy3, qy4, qy5, qy6, ne_eq, qy7] at ay
 refine W.exit ?_
 have bY := M.e_inr hM bK
 subst bY
 replace hM := bR
 try dsimp only at hM
 refine W.seq ?_
 refine W.region rfl ?_
 refine zM aa rfl ?_
 refine zM (I a) rfl ?_
 refine zM (I n) rfl ?_
 refine zM (.func (.func 104) #[] #[Pq ab]) rfl ?_
 obtain ⟨cp, bZ, hM⟩ := M.e_bind hM
 refine s_call cf113 [aa, I a, I n, .func (.func 104) #[] #[Pq ab]] rfl (zcQ l a n ac ae ag ah ai aj ak ao ap aq au av aw ax (bf.app _) bg (bh.app _) bi (bj.app _) bm (bn.app _) bo (bp.app _) bq (br.app _) (bt.app _) (bu.app _) bv (bw.app _) bx (bz.app _) bA (bB.app _) bC (bD.app _) bE (bF.app _) (bG.app _) (bH.app _) bZ _ (H.gt 0)) ?_
 rintro vq cq ⟨l_data2, aE, b3, hvq, az⟩
 subst b3
 subst vq
 try dsimp only at hM
 replace H := H.bk az
 clear az
 refine s_nil ?_
 refine W.block ?_
 obtain ⟨b4, aF, b5⟩ := M.e_bind hM
 obtain ⟨bI, aF⟩ := M.e_iter aF
 refine W.loop (fun m σ W => ∃ (blockSize : Int) (ρ : Env), σ = upds ρ [(0, aa), (1, I n), (2, .func (.func 104) #[] #[Pq ab]), (6, I blockSize)] /\ M.iterN (zcB n) m blockSize = some b4 /\ St w W [cOwn (α := Dem) 61 aa l_data2, cMem encDm am aE (zaa ac ae ag ah ai aj ak)] R) ?_ ?_
 ·exact ⟨_, 20, _, upds_of _ _ ⟨rfl, rfl, rfl, rfl, trivial⟩, aF, H⟩
 rintro cr σ cu ⟨blockSize, ρ, rfl, bL, H⟩
 obtain ⟨b6, b7, cv, hM, bM⟩ := M.e_iterN bL
 simp only [zcB] at hM
 clear bL
 refine W.seq ?_
 refine W.seq ?_
 refine W.region rfl ?_
 refine zM (I blockSize) rfl ?_
 refine zM (I n) rfl ?_
 refine zC blockSize n (decide (blockSize < n)) rfl rfl rfl ?_
 refine s_nil ?_
 refine W.cond (decide (blockSize < n)) rfl (fun aA => ?_) (fun aA => ?_)
 ·replace hM := M.e_t hM aA
  simp only [qy1, qy2, qy3, qy4, qy5, qy6, ne_eq, qy7] at aA
  refine W.skip ?_
  refine W.block ?_
  refine W.seq ?_
  refine W.region rfl ?_
  refine zM (I blockSize) rfl ?_
  obtain ⟨b8, hM⟩ := M.e_grd hM
  simp only [Bool.and_eq_true, decide_eq_true_eq] at b8
  refine zR 2 blockSize (2 * blockSize) rfl rfl rfl (by omega) ?_
  refine zA (I 0) rfl ?_
  refine zA (I (2 * blockSize)) rfl ?_
  refine s_nil ?_
  refine W.seq ?_
  refine W.block ?_
  obtain ⟨b9, aG, ca⟩ := M.e_bind hM
  obtain ⟨bI, aG⟩ := M.e_iter aG
  refine W.loop (fun m σ W => ∃ (ρ : Env), σ = upds ρ [(0, aa), (1, I n), (2, .func (.func 104) #[] #[Pq ab]), (6, I blockSize), (7, I 0), (8, I (2 * blockSize))] /\ M.iterN (zcF n blockSize) m () = some b9 /\ St w W [cOwn (α := Dem) 61 aa l_data2, cMem encDm am aE (zaa ac ae ag ah ai aj ak)] R) ?_ ?_
  ·exact ⟨_, _, upds_of _ _ ⟨rfl, rfl, rfl, rfl, rfl, rfl, trivial⟩, aG, H⟩
  rintro cw σ cx ⟨ρ, rfl, bN, H⟩
  obtain ⟨cy, cz, cA, hM, cb⟩ := M.e_iterN bN
  simp only [zcF] at hM
  clear bN
  refine W.seq ?_
  refine W.seq ?_
  refine W.region rfl ?_
  refine zM (I (2 * blockSize)) rfl ?_
  refine zM (I n) rfl ?_
  refine zC (2 * blockSize) n (decide ((2 * blockSize) <= n)) rfl rfl rfl ?_
  refine s_nil ?_
  refine W.cond (decide ((2 * blockSize) <= n)) rfl (fun aB => ?_) (fun aB => ?_)
  ·replace hM := M.e_t hM aB
   simp only [qy1, qy2, qy3, qy4, qy5, qy6, ne_eq, qy7] at aB
   refine W.skip ?_
   refine W.block ?_
   refine W.seq ?_
   refine W.region rfl ?_
   refine zM aa rfl ?_
   refine zM (I 0) rfl ?_
   refine zM (I 0) rfl ?_
   refine zM (I blockSize) rfl ?_
   obtain ⟨cc, hM⟩ := M.e_grd hM
   simp only [Bool.and_eq_true, decide_eq_true_eq] at cc
   refine zR 0 blockSize (0 + blockSize) rfl rfl rfl (by omega) ?_
   refine zM (I (2 * blockSize)) rfl ?_
   refine zM (.func (.func 104) #[] #[Pq ab]) rfl ?_
   exact (M.e_fail hM).elim
  replace hM := M.e_f hM aB
  simp only [qy1, qy2, qy3, qy4, qy5, qy6, ne_eq, qy7] at aB
  refine W.exit ?_
  have ce := M.e_inr hM cb
  subst ce
  replace hM := ca
  try dsimp only at hM
  refine W.seq ?_
  refine W.seq ?_
  refine W.region rfl ?_
  refine zM (I 0) rfl ?_
  refine zM (I blockSize) rfl ?_
  obtain ⟨cf, hM⟩ := M.e_grd hM
  simp only [Bool.and_eq_true, decide_eq_true_eq] at cf
  refine zR 0 blockSize (0 + blockSize) rfl rfl rfl (by omega) ?_
  refine zA (I (0 + blockSize)) rfl ?_
  refine s_nil ?_
  refine W.seq ?_
  refine W.region rfl ?_
  refine zM (I (0 + blockSize)) rfl ?_
  refine zM (I n) rfl ?_
  refine zC (0 + blockSize) n (decide ((0 + blockSize) < n)) rfl rfl rfl ?_
  refine s_nil ?_
  refine W.cond (decide ((0 + blockSize) < n)) rfl (fun aC => ?_) (fun aC => ?_)
  ·replace hM := M.e_t hM aC
   simp only [qy1, qy2, qy3, qy4, qy5, qy6, ne_eq, qy7] at aC
   refine W.region rfl ?_
   refine zM aa rfl ?_
   refine zM (I 0) rfl ?_
   refine zM (I (0 + blockSize)) rfl ?_
   refine zM (I n) rfl ?_
   refine zM (.func (.func 104) #[] #[Pq ab]) rfl ?_
   exact (M.e_fail hM).elim
  replace hM := M.e_f hM aC
  simp only [qy1, qy2, qy3, qy4, qy5, qy6, ne_eq, qy7] at aC
  refine W.skip ?_
  refine W.region rfl ?_
  refine zM (I blockSize) rfl ?_
  obtain ⟨cg, hM⟩ := M.e_grd hM
  simp only [Bool.and_eq_true, decide_eq_true_eq] at cg
  refine zR blockSize 2 (blockSize * 2) rfl rfl rfl (by omega) ?_
  refine zA (I (blockSize * 2)) rfl ?_
  refine s_nil ?_
  exact ⟨b6, b7, blockSize * 2, _, upds_of _ _ ⟨rfl, rfl, rfl, rfl, trivial⟩, M.e_inl hM bM, H⟩
 replace hM := M.e_f hM aA
 simp only [qy1, qy2, qy3, qy4, qy5, qy6, ne_eq, qy7] at aA
 refine W.exit ?_
 have ci := M.e_inr hM bM
 subst ci
 replace hM := b5
 try dsimp only at hM
 have cj := M.e_pure hM
 exact ⟨_, resE_tmp0 rfl, ⟨l_data2, aE, cj, rfl, H⟩⟩

def zc8 (x : List Dem) (aa : List Int) (ab : List Span) (ac : List Int) (ae : List Town) (ag : Int) (ah : Int) (ai : List Flood) (aj : List Int) (ak : List Span) (am : List Int) (ao : List Town) (ap : Int) (aq : Int) (au : List Flood) : M (List Dem) :=
  M.bind (zc9 x (x.length : Int) aa ab ac ae ag ah ai aj ak am ao ap aq au) fun l_data =>
  M.pure l_data
theorem zdF {R : List Chunk} {aa : Value} {ak : Nat} {ay : Nat} {az : Nat} {aA : Cells} {aB : Value} {aC : Cells} {aD : Value} {aE : Cells} {aF : Value} {aG : Cells} {aH : Value} {aI : Cells} {aJ : Value} {am : Nat} {B_b_cmp2020207 : Base} {aK : Nat} {aL : Nat} {aM : Cells} {aN : Value} {aO : Cells} {aP : Value} {aQ : Cells} {aR : Value} {aS : Cells} {aT : Value} {aU : Cells} {aV : Value} {aX : Nat} (x : List Dem) (ab : List Int) (ac : List Span) (ae : List Int) (ag : List Town) (ah : Int) (ai : Int) (aj : List Flood) (ao : List Int) (ap : List Span) (aq : List Int) (au : List Town) (av : Int) (aw : Int) (ax : List Flood) (aY : Reads R aA) (aZ : Sl aA aB ab) (a6 : Reads R aC) (a7 : Sl aC aD ac) (a8 : Reads R aE) (ba : Sl aE aF ae) (bc : Reads R aG) (bf : Sl aG aH ag) (bg : Reads R aI) (bh : Sl aI aJ aj) (bi : Has R (cBlk az [aB, aD, aF, aH, I ah, I ai, aJ, .map (some am)] 111)) (bj : Has R (cBlk ay [.func (.func 81) #[Pq az] #[]] 134)) (bm : Reads R aM) (bn : Sl aM aN ao) (bo : Reads R aO) (bp : Sl aO aP ap) (bq : Reads R aQ) (br : Sl aQ aR aq) (bt : Reads R aS) (bu : Sl aS aT au) (bv : Reads R aU) (bw : Sl aU aV ax) (bx : Has R (cBlk aL [aN, aP, aR, aT, I av, I aw, aV, .map (some aX)] 111)) (bz : Has R (cBlk aK [Pq aL] 94)) (bA : Has R (cBlk ak [.func (.func 102) #[] #[Pq ay, Pq aK]] 146)) {r : (List Dem)} (hM : (zc8 x ab ac ae ag ah ai aj ao ap aq au av aw ax).Ends r) (w : World) (H : St w w [cOwn (α := Dem) 61 aa x, cMem encDm am B_b_cmp2020207 (zaa ab ac ae ag ah ai aj)] R) : Ret Tryz.prog 103 #[aa, .func (.func 104) #[] #[Pq ak]] w fun v w' => ∃ (y0 : List Dem) (bB : Base), y0 = r /\ v = .tuple #[] /\ St w w' [cOwn (α := Dem) 61 aa y0, cMem encDm am bB (zaa ab ac ae ag ah ai aj)] R := by
 refine ret_of_W Tryz.func103 rfl rfl rfl ?_
 refine W.region rfl ?_
 refine zM aa rfl ?_
 refine zM aa rfl ?_
 have bG := ((H.os 0)).len_le
 refine s_val (x_lenS T62.und rfl (H.os 0)) ?_
 refine zM (.func (.func 104) #[] #[Pq ak]) rfl ?_
 obtain ⟨bH, bC, hM⟩ := M.e_bind hM
 refine s_call cf109 [aa, I (x.length : Int), .func (.func 104) #[] #[Pq ak]] rfl (zdy x (x.length : Int) ab ac ae ag ah ai aj ao ap aq au av aw ax (aY.app _) aZ (a6.app _) a7 (a8.app _) ba (bc.app _) bf (bg.app _) bh (bi.app _) (bj.app _) (bm.app _) bn (bo.app _) bp (bq.app _) br (bt.app _) bu (bv.app _) bw (bx.app _) (bz.app _) (bA.app _) bC _ (H.gt 0)) ?_
 rintro vq bI ⟨l_data, bD, bE, hvq, aW⟩
 subst bE
 subst vq
 try dsimp only at hM
 replace H := H.bk aW
 clear aW
 refine s_nil ?_
 have bF := M.e_pure hM
 exact ⟨_, resE_tmp0 rfl, ⟨l_data, bD, bF, rfl, H⟩⟩

def zcf (ar : List Bool) (r4 : List Int) : Nat -> M (Nat ⊕ (Unit ⊕ Unit)) := fun s =>
  bif decide ((s : Int) < (r4.length : Int)) then (
  M.grd (decide ((s : Int) < (r4.length : Int))) <|
  M.grd (decide ((0 : Int) <= (r4.getD s 0)) && decide ((r4.getD s 0) < (12 : Int))) <|
  bif ar.getD (Int.toNat (r4.getD s 0)) false then (
  M.pure (.inr (.inl ())))
  else (
  M.pure (.inl (s + 1))))
  else (
  M.pure (.inr (.inr ())))
def zcw (aa : List Int) (ab : List Span) (ac : List Int) (ae : List Town) (ag : Int) (ah : Int) (ai : List Flood) (l_x : List Dem) : (Nat × (List Bool) × (List Int) × (List Dem)) -> M ((Nat × (List Bool) × (List Int) × (List Dem)) ⊕ ((List Int) × (List Dem) × (List Int) × (List Dem) × (List Bool))) := fun (s2, ar, l, l2) =>
  bif decide ((s2 : Int) < (l_x.length : Int)) then (
  M.grd (decide ((s2 : Int) < (l_x.length : Int))) <|
  M.bind (zaa aa ab ac ae ag ah ai (l_x.getD s2 default)) fun r4 =>
  M.bind (M.iter (zcf ar r4) 0) fun x_ => match x_ with
  | (.inl (_ : Unit)) => (
  M.pure (.inl (s2 + 1, ar, l, l2)))
  | (.inr (_ : Unit)) => (
  M.grd (decide ((0 : Int) <= ((r4.length : Int) - 1)) && decide (((r4.length : Int) - 1) < (r4.length : Int))) <|
  M.grd (decide ((0 : Int) <= (r4.getD (Int.toNat ((r4.length : Int) - 1)) 0)) && decide ((r4.getD (Int.toNat ((r4.length : Int) - 1)) 0) < (12 : Int))) <|
  M.grd (decide ((l.length + ([(r4.getD (Int.toNat ((r4.length : Int) - 1)) 0 : Int)]).length) * 8 <= 140737488355328)) <|
  M.grd (decide ((l2.length + ([(l_x.getD s2 default)]).length) * 16 <= 140737488355328)) <|
  M.pure (.inl (s2 + 1, ar.set (Int.toNat (r4.getD (Int.toNat ((r4.length : Int) - 1)) 0)) true, l ++ ([(r4.getD (Int.toNat ((r4.length : Int) - 1)) 0 : Int)]), l2 ++ ([(l_x.getD s2 default)])))))
  else (
  M.pure (.inr (l, l2, l, l2, ar)))
def zcH (aa : List Int) (ab : List Span) (ac : List Int) (ae : List Town) (ag : Int) (ah : Int) (ai : List Flood) : M ((List Int) × (List Dem) × Bool) :=
  M.bind (zcC aa ab ac ae ag ah ai) fun r2 =>
  M.bind (zcW r2 aa ab ac ae ag ah ai) fun r3 =>
  bif !r3 then (
  M.pure (([]), ([]), false))
  else (
  M.bind (zc8 r2 aa ab ac ae ag ah ai aa ab ac ae ag ah ai) fun l_x =>
  M.bind (M.iter (zcw aa ab ac ae ag ah ai l_x) (0, List.replicate 12 false, [], [])) fun (l3, l4, l5, l6, aj) =>
  M.grd (decide (l5.length <= 1000000)) <|
  M.pure ((isort l5), l6, true))
theorem zdK {R : List Chunk} {aa : Nat} {aZ : Cells} {a6 : Value} {a7 : Cells} {a8 : Value} {ba : Cells} {bc : Value} {bf : Cells} {bg : Value} {bh : Cells} {bi : Value} {aw : Nat} {bC : Base} (ab : List Int) (ac : List Span) (ae : List Int) (ag : List Town) (ah : Int) (ai : Int) (aj : List Flood) (aA : Reads R aZ) (aB : Sl aZ a6 ab) (aC : Reads R a7) (aD : Sl a7 a8 ac) (aE : Reads R ba) (aF : Sl ba bc ae) (aG : Reads R bf) (aH : Sl bf bg ag) (aI : Reads R bh) (aJ : Sl bh bi aj) (aK : Has R (cBlk aa [a6, a8, bc, bg, I ah, I ai, bi, .map (some aw)] 111)) {r : ((List Int) × (List Dem) × Bool)} (hM : (zcH ab ac ae ag ah ai aj).Ends r) (w : World) (H : St w w [cMem encDm aw bC (zaa ab ac ae ag ah ai aj)] R) : Ret Tryz.prog 89 #[Pq aa] w fun v w' => ∃ (y0 : List Int) (y1 : List Dem) (y2 : Bool) (u0 : Value) (u1 : Value) (bD : Base), (y0, y1, y2) = r /\ v = .tuple #[u0, u1, B y2] /\ St w w' [cOwn (α := Int) 3 u0 y0, cOwn (α := Dem) 61 u1 y1, cMem encDm aw bD (zaa ab ac ae ag ah ai aj)] R := by
 refine ret_of_W Tryz.func89 rfl rfl rfl ?_
 refine W.seq ?_
 refine W.region rfl ?_
 refine t_box (v := Pq aa) (cs := [Pq aa]) H rfl rfl ?_
 intro aL cg H
 refine zA (.slice none 0 0) rfl ?_
 refine zA (.slice none 0 0) rfl ?_
 refine zA (B false) rfl ?_
 refine s_nil ?_
 refine W.scope ?_
 refine W.seq ?_
 refine W.region rfl ?_
 refine s_val (x_ld (p := Pq aL) (v := Pq aa) rfl (ldb_sc Sc94 (H.bl 0) rfl)) ?_
 obtain ⟨ci, bE, hM⟩ := M.e_bind hM
 refine s_call cf77 [Pq aa] rfl (zcJ ab ac ae ag ah ai aj (aA.app _) aB (aC.app _) aD (aE.app _) aF (aG.app _) aH (aI.app _) aJ (aK.app _) bE _ (H.gt 2)) ?_
 rintro vq cj ⟨r2, ak, bF, hvq, av⟩
 subst bF
 subst vq
 try dsimp only at hM
 replace H := H.bk av
 clear av
 refine zA ak rfl ?_
 refine s_nil ?_
 refine W.seq ?_
 refine W.region rfl ?_
 refine s_val (x_ld (p := Pq aL) (v := Pq aa) rfl (ldb_sc Sc94 (H.bl 1) rfl)) ?_
 refine s_val (x_mf (fs := [Pq aa]) (cs := []) rfl rfl) ?_
 refine t_alloc (cs := [.nilFunc]) H Al134 rfl ?_
 intro ao ck H
 refine t_sw 0 0 [.func (.func 81) #[Pq aa] #[]] (.func (.func 81) #[Pq aa] #[]) H rfl rfl Sz134 rfl rfl rfl rfl ?_
 intro cl H
 refine s_nil ?_
 refine W.seq ?_
 refine W.seq ?_
 refine W.region rfl ?_
 refine zM ak rfl ?_
 refine s_val (x_mf (fs := []) (cs := [Pq ao]) rfl rfl) ?_
 obtain ⟨cm, bG, hM⟩ := M.e_bind hM
 refine s_call cf90 [ak, .func (.func 101) #[] #[Pq ao]] rfl (zdd r2 ab ac ae ag ah ai aj (rdo 1) (H.os 1) (aA.app _) aB (aC.app _) aD (aE.app _) aF (aG.app _) aH (aI.app _) aJ (aK.app _) (Has.here (k := 0) rfl) bG _ ((H.pk [3, 0, 1, 2]).gt 3)) ?_
 rintro vq cn ⟨r3, bH, bI, hvq, av⟩
 subst bI
 subst vq
 try dsimp only at hM
 replace H := H.pk [3, 0, 1, 2] |>.bk av
 clear av
 refine s_val (x_not (b := r3) rfl) ?_
 refine s_nil ?_
 refine W.cond (!r3) rfl (fun aS => ?_) (fun aS => ?_)
 ·replace hM := M.e_t hM aS
  refine W.seq ?_
  refine W.region rfl ?_
  refine zA (.slice none 0 0) rfl ?_
  refine zA (.slice none 0 0) rfl ?_
  refine zA (B false) rfl ?_
  refine s_nil ?_
  replace H := H.pk [0]
  refine W.ret ?_
  have aT := M.e_pure hM
  replace H := H.nilOwn (α := Int) 3
  replace H := H.nilOwn (α := Dem) 61
  exact ⟨_, resE_tmp3 rfl, ⟨([]), ([]), false, (.slice none 0 0), (.slice none 0 0), bH, aT, rfl, (H.pk [1, 0, 2])⟩⟩
 replace hM := M.e_f hM aS
 refine W.skip ?_
 refine W.seq ?_
 refine W.region rfl ?_
 refine s_val (x_mf (fs := []) (cs := [Pq ao, Pq aL]) rfl rfl) ?_
 refine t_alloc (cs := [.nilFunc]) H Al146 rfl ?_
 intro bj co H
 refine t_sw 0 0 [.func (.func 102) #[] #[Pq ao, Pq aL]] (.func (.func 102) #[] #[Pq ao, Pq aL]) H rfl rfl Sz146 rfl rfl rfl rfl ?_
 intro cp H
 refine s_nil ?_
 refine W.seq ?_
 refine W.region rfl ?_
 refine zM ak rfl ?_
 refine s_val (x_mf (fs := []) (cs := [Pq bj]) rfl rfl) ?_
 obtain ⟨cq, bJ, hM⟩ := M.e_bind hM
 refine s_call cf103 [ak, .func (.func 104) #[] #[Pq bj]] rfl (zdF r2 ab ac ae ag ah ai aj ab ac ae ag ah ai aj (aA.app _) aB (aC.app _) aD (aE.app _) aF (aG.app _) aH (aI.app _) aJ (aK.app _) (Has.here (k := 1) rfl) (aA.app _) aB (aC.app _) aD (aE.app _) aF (aG.app _) aH (aI.app _) aJ (aK.app _) (Has.here (k := 2) rfl) (Has.here (k := 0) rfl) bJ _ ((H.pk [3, 1, 0, 2, 4]).gt 3)) ?_
 rintro vq cr ⟨l_x, bK, bL, hvq, av⟩
 subst bL
 subst vq
 try dsimp only at hM
 replace H := H.pk [3, 1, 0, 2, 4] |>.bk av
 clear av
 refine s_nil ?_
 replace H := H.pk [0, 1, 3]
 refine W.seq ?_
 refine W.region rfl ?_
 refine t_alloc (cs := encB (List.replicate 12 false)) H Al96 rfl ?_
 intro ap cu H
 have bM : (List.replicate 12 false).length = 12 := by simp
 refine s_nil ?_
 refine W.seq ?_
 refine W.region rfl ?_
 refine zA (.slice none 0 0) rfl ?_
 refine s_nil ?_
 refine W.seq ?_
 refine W.region rfl ?_
 refine zA (.slice none 0 0) rfl ?_
 refine s_nil ?_
 refine W.seq ?_
 refine W.label ?_
 refine W.seq ?_
 refine W.seq ?_
 refine W.region rfl ?_
 refine zM ak rfl ?_
 have cv := ((H.os 1)).len_le
 refine s_val (x_lenS T62.und rfl (H.os 1)) ?_
 refine zM (I 0) rfl ?_
 refine s_nil ?_
 refine W.block ?_
 replace H := H.nilOwn (α := Dem) 61
 replace H := H.nilOwn (α := Int) 3
 obtain ⟨bN, aU, bO⟩ := M.e_bind hM
 obtain ⟨bP, aU⟩ := M.e_iter aU
 refine W.loop (fun m σ W => ∃ (s2 : Nat) (ar : List Bool) (l : List Int) (l2 : List Dem) (am : Value) (aq : Value) (B_mem : Base) (ρ : Env), σ = upds ρ [(6, Pq ao), (8, Pq ap), (9, am), (10, aq), (29, ak), (30, I (l_x.length : Int)), (31, I (s2 : Int))] /\ M.iterN (zcw ab ac ae ag ah ai aj l_x) m (s2, ar, l, l2) = some bN /\ St w W [cOwn (α := Int) 3 am l, cOwn (α := Dem) 61 aq l2, cBlk ap (encB ar) 96, cOwn (α := Dem) 61 ak l_x, cMem encDm aw B_mem (zaa ab ac ae ag ah ai aj), cBlk ao [.func (.func 81) #[Pq aa] #[]] 134] R /\ ar.length = 12) ?_ ?_
 ·exact ⟨_, 0, List.replicate 12 false, [], [], (.slice none 0 0), (.slice none 0 0), bK, _, upds_of _ _ ⟨rfl, rfl, rfl, rfl, rfl, rfl, rfl, trivial⟩, aU, H, bM⟩
 rintro cw σ cx ⟨s2, ar, l, l2, am, aq, B_mem, ρ, rfl, bm, H, aP⟩
 obtain ⟨aQ, aR, cy, hM, aM⟩ := M.e_iterN bm
 simp only [zcw] at hM
 clear bm
 refine W.seq ?_
 refine W.region rfl ?_
 refine zC (s2 : Int) (l_x.length : Int) (decide ((s2 : Int) < (l_x.length : Int))) rfl rfl rfl ?_
 refine s_nil ?_
 refine W.seq ?_
 refine W.cond (decide ((s2 : Int) < (l_x.length : Int))) rfl (fun aN => ?_) (fun aN => ?_)
 ·replace hM := M.e_t hM aN
  simp only [qy1, qy2, qy3, qy4, qy5, qy6, ne_eq, qy7] at aN
  refine W.skip ?_
  refine W.seq ?_
  refine W.block ?_
  refine W.seq ?_
  refine W.region rfl ?_
  obtain ⟨bQ, hM⟩ := M.e_grd hM
  simp only [Bool.and_eq_true, decide_eq_true_eq] at bQ
  refine s_val (x_ix (a := ak) (b := I (s2 : Int)) (v := vat ak 2 (Int.toNat (s2 : Int))) rfl rfl (Sl.ix (α := Dem) T62.und T62.size (H.os 3) (by omega) (by omega))) ?_
  refine s_val (x_ld (p := vat ak 2 (Int.toNat (s2 : Int))) (v := .agg #[I ((l_x.getD s2 default).spring), I ((l_x.getD s2 default).town)]) rfl (ld_ag Ag61 Sz61 (At.mono (Dem_atA (H.os 3) (i := (s2 : Int)) (by omega) (by omega)) (H.ol 3)))) ?_
  refine t_alloc (cs := [I 0, I 0]) H Al61 rfl ?_
  intro az cz H
  refine t_sw 0 0 [I ((l_x.getD s2 default).spring), I ((l_x.getD s2 default).town)] (.agg #[I ((l_x.getD s2 default).spring), I ((l_x.getD s2 default).town)]) H rfl rfl Sz61 rfl rfl rfl rfl ?_
  intro cA H
  refine s_nil ?_
  refine W.seq ?_
  refine W.region rfl ?_
  refine s_val (x_ld (p := Pq ao) (v := .func (.func 81) #[Pq aa] #[]) rfl (ldb_sc Sc134 (H.bl 6) rfl)) ?_
  refine s_val (x_ld (p := Pq az) (v := .agg #[I ((l_x.getD s2 default).spring), I ((l_x.getD s2 default).town)]) rfl (ldb_ag (ds := [I ((l_x.getD s2 default).spring), I ((l_x.getD s2 default).town)]) Ag61 Sz61 (H.bl 0) rfl rfl)) ?_
  obtain ⟨cB, bR, hM⟩ := M.e_bind hM
  refine s_callm (f := 81) (fs := [Pq aa]) rfl cf81 [.agg #[I ((l_x.getD s2 default).spring), I ((l_x.getD s2 default).town)]] rfl (zbS ab ac ae ag ah ai aj (l_x.getD s2 default) (aA.app _) aB (aC.app _) aD (aE.app _) aF (aG.app _) aH (aI.app _) aJ (aK.app _) bR _ ((H.pk [5, 0, 1, 2, 3, 4, 6]).gt 6)) ?_
  rintro vq cC ⟨r4, au, ay, bS, hvq, av, ax⟩
  subst bS
  subst vq
  try dsimp only at hM
  replace H := H.pk [5, 0, 1, 2, 3, 4, 6] |>.bk av
  clear av
  refine zA au rfl ?_
  refine s_nil ?_
  refine W.seq ?_
  refine W.seq ?_
  refine W.region rfl ?_
  refine zM au rfl ?_
  have cD := (ax).len_le
  refine s_val (x_lenS T22.und rfl ax) ?_
  refine zM (I 0) rfl ?_
  refine s_nil ?_
  refine W.block ?_
  obtain ⟨bT, aV, bn⟩ := M.e_bind hM
  obtain ⟨bP, aV⟩ := M.e_iter aV
  refine W.loop (fun m σ W => ∃ (s : Nat) (ρ : Env), σ = upds ρ [(6, Pq ao), (8, Pq ap), (9, am), (10, aq), (12, Pq az), (13, au), (29, ak), (30, I (l_x.length : Int)), (31, I (s2 : Int)), (38, au), (39, I (r4.length : Int)), (40, I (s : Int))] /\ M.iterN (zcf ar r4) m s = some bT /\ St w W [cMem encDm aw ay (zaa ab ac ae ag ah ai aj), cBlk az [I ((l_x.getD s2 default).spring), I ((l_x.getD s2 default).town)] 61, cOwn (α := Int) 3 am l, cOwn (α := Dem) 61 aq l2, cBlk ap (encB ar) 96, cOwn (α := Dem) 61 ak l_x, cBlk ao [.func (.func 81) #[Pq aa] #[]] 134] R) ?_ ?_
  ·exact ⟨_, 0, _, upds_of _ _ ⟨rfl, rfl, rfl, rfl, rfl, rfl, rfl, rfl, rfl, rfl, rfl, rfl, trivial⟩, aV, H⟩
  rintro cE σ cF ⟨s, ρ, rfl, bo, H⟩
  obtain ⟨bU, bV, cG, hM, aW⟩ := M.e_iterN bo
  simp only [zcf] at hM
  clear bo
  refine W.seq ?_
  refine W.region rfl ?_
  refine zC (s : Int) (r4.length : Int) (decide ((s : Int) < (r4.length : Int))) rfl rfl rfl ?_
  refine s_nil ?_
  refine W.seq ?_
  refine W.cond (decide ((s : Int) < (r4.length : Int))) rfl (fun aO => ?_) (fun aO => ?_)
  ·replace hM := M.e_t hM aO
   simp only [qy1, qy2, qy3, qy4, qy5, qy6, ne_eq, qy7] at aO
   refine W.skip ?_
   refine W.seq ?_
   refine W.block ?_
   refine W.seq ?_
   refine W.region rfl ?_
   obtain ⟨bW, hM⟩ := M.e_grd hM
   simp only [Bool.and_eq_true, decide_eq_true_eq] at bW
   refine s_val (x_ix (a := au) (b := I (s : Int)) (v := vat au 1 (Int.toNat (s : Int))) rfl rfl (Sl.ix (α := Int) T22.und T22.size ax (by omega) (by omega))) ?_
   refine s_val (x_ld (p := vat au 1 (Int.toNat (s : Int))) (v := I (r4.getD s 0)) rfl (ld_sc Sc3 (At.mono (Int_at ax (i := (s : Int)) (by omega) (by omega)) (memLe _ (H.get (k := 0) rfl))))) ?_
   refine zA (I (r4.getD s 0)) rfl ?_
   refine s_nil ?_
   refine W.seq ?_
   refine W.region rfl ?_
   refine zM (I (r4.getD s 0)) rfl ?_
   obtain ⟨bX, hM⟩ := M.e_grd hM
   simp only [Bool.and_eq_true, decide_eq_true_eq] at bX
   refine s_val (x_ix (a := Pq ap) (b := I (r4.getD s 0)) (v := .pointer (some ⟨ap, 0 + Int.toNat (r4.getD s 0), none⟩)) rfl rfl (run_indexArr Tryz.underlying96 Sz4 (by omega) (by omega))) ?_
   refine s_val (x_ld (p := .pointer (some ⟨ap, 0 + Int.toNat (r4.getD s 0), none⟩)) (v := B (ar.getD (Int.toNat (r4.getD s 0)) false)) rfl (ldArr Sc4 (H.bl 4) (by omega) (by have bY := aP; omega))) ?_
   refine s_nil ?_
   refine W.cond (ar.getD (Int.toNat (r4.getD s 0)) false) rfl (fun aX => ?_) (fun aX => ?_)
   ·replace hM := M.e_t hM aX
    refine W.exit ?_
    have bZ := M.e_inr hM aW
    subst bZ
    replace hM := bn
    try dsimp only at hM
    refine W.region rfl ?_
    refine zR (s2 : Int) 1 ((s2 : Int) + 1) rfl rfl rfl (by omega) ?_
    refine zM (I ((s2 : Int) + 1)) rfl ?_
    refine s_nil ?_
    exact ⟨aQ, aR, s2 + 1, ar, l, l2, am, aq, ay, _, upds_of _ _ ⟨rfl, rfl, rfl, rfl, rfl, rfl, rfl, trivial⟩, M.e_inl hM aM, (H.pk [2, 3, 4, 5, 0, 6]), aP⟩
   replace hM := M.e_f hM aX
   refine W.skip ?_
   refine W.region rfl ?_
   refine zR (s : Int) 1 ((s : Int) + 1) rfl rfl rfl (by omega) ?_
   refine zM (I ((s : Int) + 1)) rfl ?_
   refine s_nil ?_
   exact ⟨bU, bV, s + 1, _, upds_of _ _ ⟨rfl, rfl, rfl, rfl, rfl, rfl, rfl, rfl, rfl, rfl, rfl, rfl, trivial⟩, M.e_inl hM aW, H⟩
  replace hM := M.e_f hM aO
  simp only [qy1, qy2, qy3, qy4, qy5, qy6, ne_eq, qy7] at aO
  refine W.exit ?_
  have b3 := M.e_inr hM aW
  subst b3
  replace hM := bn
  try dsimp only at hM
  refine W.seq ?_
  refine W.region rfl ?_
  refine zM au rfl ?_
  refine zM au rfl ?_
  have cH := (ax).len_le
  refine s_val (x_lenS T22.und rfl ax) ?_
  refine zR (r4.length : Int) 1 ((r4.length : Int) - 1) rfl rfl rfl (by omega) ?_
  obtain ⟨b4, hM⟩ := M.e_grd hM
  simp only [Bool.and_eq_true, decide_eq_true_eq] at b4
  refine s_val (x_ix (a := au) (b := I ((r4.length : Int) - 1)) (v := vat au 1 (Int.toNat ((r4.length : Int) - 1))) rfl rfl (Sl.ix (α := Int) T22.und T22.size ax (by omega) (by omega))) ?_
  refine s_val (x_ld (p := vat au 1 (Int.toNat ((r4.length : Int) - 1))) (v := I (r4.getD (Int.toNat ((r4.length : Int) - 1)) 0)) rfl (ld_sc Sc3 (At.mono (Int_at ax (i := (r4.length : Int) - 1) (by omega) (by omega)) (memLe _ (H.get (k := 0) rfl))))) ?_
  refine zA (I (r4.getD (Int.toNat ((r4.length : Int) - 1)) 0)) rfl ?_
  refine s_nil ?_
  refine W.seq ?_
  refine W.region rfl ?_
  refine zM (I (r4.getD (Int.toNat ((r4.length : Int) - 1)) 0)) rfl ?_
  obtain ⟨b5, hM⟩ := M.e_grd hM
  simp only [Bool.and_eq_true, decide_eq_true_eq] at b5
  refine s_val (x_ix (a := Pq ap) (b := I (r4.getD (Int.toNat ((r4.length : Int) - 1)) 0)) (v := .pointer (some ⟨ap, 0 + Int.toNat (r4.getD (Int.toNat ((r4.length : Int) - 1)) 0), none⟩)) rfl rfl (run_indexArr Tryz.underlying96 Sz4 (by omega) (by omega))) ?_
  refine t_stArr (k := 4) (b := ap) (l := ar) (l' := ar.set (Int.toNat (r4.getD (Int.toNat ((r4.length : Int) - 1)) 0)) true) (i := r4.getD (Int.toNat ((r4.length : Int) - 1)) 0) (v := true) (L' := [cMem encDm aw ay (zaa ab ac ae ag ah ai aj), cBlk az [I ((l_x.getD s2 default).spring), I ((l_x.getD s2 default).town)] 61, cOwn (α := Int) 3 am l, cOwn (α := Dem) 61 aq l2, cBlk ap (encB (ar.set (Int.toNat (r4.getD (Int.toNat ((r4.length : Int) - 1)) 0)) true)) 96, cOwn (α := Dem) 61 ak l_x, cBlk ao [.func (.func 81) #[Pq aa] #[]] 134]) H rfl rfl rfl Sz4 (by omega) (by have bY := aP; omega) rfl rfl ?_
  intro cI H
  have aY : (ar.set (Int.toNat (r4.getD (Int.toNat ((r4.length : Int) - 1)) 0)) true).length = 12 := List.length_set.trans aP
  refine s_nil ?_
  refine W.drawT (fun W => St w W [cMem encDm aw ay (zaa ab ac ae ag ah ai aj), cBlk az [I ((l_x.getD s2 default).spring), I ((l_x.getD s2 default).town)] 61, cBlk ap (encB (ar.set (Int.toNat (r4.getD (Int.toNat ((r4.length : Int) - 1)) 0)) true)) 96, cOwn (α := Dem) 61 ak l_x, cBlk ao [.func (.func 81) #[Pq aa] #[]] 134] R) (.q 0 (.q 1 (.q 4 (.q 5 (.l2 2 (.l2 3 (.l 6 (.l 7 (.q 8 (.q 9 .nil)))) 6 (.l 3 (.l 7 (.q 8 (.q 9 .nil))))) 6 (.l 2 (.l 3 (.l 7 (.q 8 (.q 9 .nil)))))))))) mixed (by decide +kernel) rfl ?_
  intro cJ bp
  replace H := H.ext bp
  clear bp
  refine ⟨(H.pk [0, 1, 4, 5, 6]), ?_⟩
  refine t_q rfl (fun w' H => x_mv (v := am) rfl) ?_
  refine t_q rfl (fun w' H => x_mv (v := I (r4.getD (Int.toNat ((r4.length : Int) - 1)) 0)) rfl) ?_
  refine t_q rfl (fun w' H => x_mv (v := aq) rfl) ?_
  refine t_q rfl (fun w' H => x_ld (p := Pq az) (v := .agg #[I ((l_x.getD s2 default).spring), I ((l_x.getD s2 default).town)]) rfl (ldb_ag (ds := [I ((l_x.getD s2 default).spring), I ((l_x.getD s2 default).town)]) Ag61 Sz61 (H.bl 1) rfl rfl)) ?_
  obtain ⟨b6, hM⟩ := M.e_grd hM
  simp only [Bool.and_eq_true, decide_eq_true_eq] at b6
  obtain ⟨b7, hM⟩ := M.e_grd hM
  simp only [Bool.and_eq_true, decide_eq_true_eq] at b7
  refine t_l2 rfl rfl ?_ ?_
  ·skip
   refine t_bs (α := Int) T22 [I (r4.getD (Int.toNat ((r4.length : Int) - 1)) 0)] [(r4.getD (Int.toNat ((r4.length : Int) - 1)) 0 : Int)] H rfl (.cons rfl (Flat.rep_enc _ (r4.getD (Int.toNat ((r4.length : Int) - 1)) 0 : Int)) <| .nil) rfl rfl rfl ?_
   intro bq cK H
   have cL := Sl.cells (H.os 0)
   have cM := Sl.oc (H.os 0)
   have cN := Sl.cells (H.os 3)
   have cO := Sl.oc (H.os 3)
   have cP := Sl.cells (H.os 4)
   have cQ := Sl.oc (H.os 4)
   refine s_nil ⟨(H.pk [1, 2, 5, 6, 7]), ?_⟩
   refine t_l2 rfl rfl ?_ ?_
   ·skip
    refine t_app (α := Int) (k := 3) (l := l) (l2 := [(r4.getD (Int.toNat ((r4.length : Int) - 1)) 0 : Int)]) (l' := l ++ ([(r4.getD (Int.toNat ((r4.length : Int) - 1)) 0 : Int)])) (vy := bq) T22 rfl H rfl rfl rfl (H.os 0) (H.ol 0) (rfl) (by first | omega | (simp only [List.length_nil] at *; omega)) ?_
    intro br cR H
    replace H := H.nf
    have cS := Sl.cells (H.os 3)
    have cT := Sl.oc (H.os 3)
    refine s_nil ⟨(H.pk [1, 2, 5, 6, 7]), ?_⟩
    refine t_l rfl ?_
    refine t_bs (α := Dem) T62 [.agg #[I ((l_x.getD s2 default).spring), I ((l_x.getD s2 default).town)]] [(l_x.getD s2 default)] H rfl (.cons rfl (Flat.rep_enc _ (l_x.getD s2 default)) <| .nil) rfl rfl rfl ?_
    intro b8 cU H
    have cV := Sl.cells (H.os 0)
    have cW := Sl.oc (H.os 0)
    refine s_nil ⟨(H.pk [2, 3, 6, 7, 8]), ?_⟩
    refine t_l rfl ?_
    refine t_app (α := Dem) (k := 5) (l := l2) (l2 := [(l_x.getD s2 default)]) (l' := l2 ++ ([(l_x.getD s2 default)])) (vy := b8) T62 rfl H rfl rfl rfl (H.os 0) (H.ol 0) (rfl) (by first | omega | (simp only [List.length_nil] at *; omega)) ?_
    intro bt cX H
    replace H := H.nf
    have cY := Sl.cells (H.os 5)
    have cZ := Sl.oc (H.os 5)
    refine s_nil ⟨(H.pk [2, 3, 6, 7, 8]), ?_⟩
    refine t_q rfl (fun w' H => x_as (v := br) rfl) ?_
    refine t_q rfl (fun w' H => x_as (v := bt) rfl) ?_
    refine t_nil ?_
    replace H := H.pk [2, 4, 5, 6, 7, 8]
    refine W.region rfl ?_
    refine zR (s2 : Int) 1 ((s2 : Int) + 1) rfl rfl rfl (by omega) ?_
    refine zM (I ((s2 : Int) + 1)) rfl ?_
    refine s_nil ?_
    exact ⟨aQ, aR, s2 + 1, ar.set (Int.toNat (r4.getD (Int.toNat ((r4.length : Int) - 1)) 0)) true, l ++ ([(r4.getD (Int.toNat ((r4.length : Int) - 1)) 0 : Int)]), l2 ++ ([(l_x.getD s2 default)]), br, bt, ay, _, upds_of _ _ ⟨rfl, rfl, rfl, rfl, rfl, rfl, rfl, trivial⟩, M.e_inl hM aM, (H.pk [1, 2, 3, 4, 0, 5]), aY⟩
   skip
   refine t_bs (α := Dem) T62 [.agg #[I ((l_x.getD s2 default).spring), I ((l_x.getD s2 default).town)]] [(l_x.getD s2 default)] H rfl (.cons rfl (Flat.rep_enc _ (l_x.getD s2 default)) <| .nil) rfl rfl rfl ?_
   intro b9 c6 H
   have c7 := Sl.cells (H.os 0)
   have c8 := Sl.oc (H.os 0)
   refine s_nil ⟨(H.pk [2, 3, 6, 7, 8]), ?_⟩
   refine t_l rfl ?_
   refine t_app (α := Int) (k := 4) (l := l) (l2 := [(r4.getD (Int.toNat ((r4.length : Int) - 1)) 0 : Int)]) (l' := l ++ ([(r4.getD (Int.toNat ((r4.length : Int) - 1)) 0 : Int)])) (vy := bq) T22 rfl H rfl rfl rfl (H.os 1) (H.ol 1) (rfl) (by first | omega | (simp only [List.length_nil] at *; omega)) ?_
   intro bu c9 H
   replace H := H.nf
   have da := Sl.cells (H.os 4)
   have db := Sl.oc (H.os 4)
   refine s_nil ⟨(H.pk [2, 3, 6, 7, 8]), ?_⟩
   refine t_l rfl ?_
   refine t_app (α := Dem) (k := 5) (l := l2) (l2 := [(l_x.getD s2 default)]) (l' := l2 ++ ([(l_x.getD s2 default)])) (vy := b9) T62 rfl H rfl rfl rfl (H.os 0) (H.ol 0) (rfl) (by first | omega | (simp only [List.length_nil] at *; omega)) ?_
   intro bv dc H
   replace H := H.nf
   have dd := Sl.cells (H.os 5)
   have de := Sl.oc (H.os 5)
   refine s_nil ⟨(H.pk [2, 3, 6, 7, 8]), ?_⟩
   refine t_q rfl (fun w' H => x_as (v := bu) rfl) ?_
   refine t_q rfl (fun w' H => x_as (v := bv) rfl) ?_
   refine t_nil ?_
   replace H := H.pk [2, 4, 5, 6, 7, 8]
   refine W.region rfl ?_
   refine zR (s2 : Int) 1 ((s2 : Int) + 1) rfl rfl rfl (by omega) ?_
   refine zM (I ((s2 : Int) + 1)) rfl ?_
   refine s_nil ?_
   exact ⟨aQ, aR, s2 + 1, ar.set (Int.toNat (r4.getD (Int.toNat ((r4.length : Int) - 1)) 0)) true, l ++ ([(r4.getD (Int.toNat ((r4.length : Int) - 1)) 0 : Int)]), l2 ++ ([(l_x.getD s2 default)]), bu, bv, ay, _, upds_of _ _ ⟨rfl, rfl, rfl, rfl, rfl, rfl, rfl, trivial⟩, M.e_inl hM aM, (H.pk [1, 2, 3, 4, 0, 5]), aY⟩
  skip
  refine t_bs (α := Dem) T62 [.agg #[I ((l_x.getD s2 default).spring), I ((l_x.getD s2 default).town)]] [(l_x.getD s2 default)] H rfl (.cons rfl (Flat.rep_enc _ (l_x.getD s2 default)) <| .nil) rfl rfl rfl ?_
  intro ca dg H
  have di := Sl.cells (H.os 0)
  have dj := Sl.oc (H.os 0)
  have dk := Sl.cells (H.os 3)
  have dm := Sl.oc (H.os 3)
  have dp := Sl.cells (H.os 4)
  have dq := Sl.oc (H.os 4)
  refine s_nil ⟨(H.pk [1, 2, 5, 6, 7]), ?_⟩
  refine t_l rfl ?_
  refine t_bs (α := Int) T22 [I (r4.getD (Int.toNat ((r4.length : Int) - 1)) 0)] [(r4.getD (Int.toNat ((r4.length : Int) - 1)) 0 : Int)] H rfl (.cons rfl (Flat.rep_enc _ (r4.getD (Int.toNat ((r4.length : Int) - 1)) 0 : Int)) <| .nil) rfl rfl rfl ?_
  intro cb dr H
  have dt := Sl.cells (H.os 0)
  have du := Sl.oc (H.os 0)
  refine s_nil ⟨(H.pk [2, 3, 6, 7, 8]), ?_⟩
  refine t_l rfl ?_
  refine t_app (α := Int) (k := 4) (l := l) (l2 := [(r4.getD (Int.toNat ((r4.length : Int) - 1)) 0 : Int)]) (l' := l ++ ([(r4.getD (Int.toNat ((r4.length : Int) - 1)) 0 : Int)])) (vy := cb) T22 rfl H rfl rfl rfl (H.os 0) (H.ol 0) (rfl) (by first | omega | (simp only [List.length_nil] at *; omega)) ?_
  intro bw dv H
  replace H := H.nf
  have dw := Sl.cells (H.os 4)
  have dx := Sl.oc (H.os 4)
  refine s_nil ⟨(H.pk [2, 3, 6, 7, 8]), ?_⟩
  refine t_l rfl ?_
  refine t_app (α := Dem) (k := 5) (l := l2) (l2 := [(l_x.getD s2 default)]) (l' := l2 ++ ([(l_x.getD s2 default)])) (vy := ca) T62 rfl H rfl rfl rfl (H.os 1) (H.ol 1) (rfl) (by first | omega | (simp only [List.length_nil] at *; omega)) ?_
  intro bx dy H
  replace H := H.nf
  have dz := Sl.cells (H.os 5)
  have dA := Sl.oc (H.os 5)
  refine s_nil ⟨(H.pk [2, 3, 6, 7, 8]), ?_⟩
  refine t_q rfl (fun w' H => x_as (v := bw) rfl) ?_
  refine t_q rfl (fun w' H => x_as (v := bx) rfl) ?_
  refine t_nil ?_
  replace H := H.pk [2, 4, 5, 6, 7, 8]
  refine W.region rfl ?_
  refine zR (s2 : Int) 1 ((s2 : Int) + 1) rfl rfl rfl (by omega) ?_
  refine zM (I ((s2 : Int) + 1)) rfl ?_
  refine s_nil ?_
  exact ⟨aQ, aR, s2 + 1, ar.set (Int.toNat (r4.getD (Int.toNat ((r4.length : Int) - 1)) 0)) true, l ++ ([(r4.getD (Int.toNat ((r4.length : Int) - 1)) 0 : Int)]), l2 ++ ([(l_x.getD s2 default)]), bw, bx, ay, _, upds_of _ _ ⟨rfl, rfl, rfl, rfl, rfl, rfl, rfl, trivial⟩, M.e_inl hM aM, (H.pk [1, 2, 3, 4, 0, 5]), aY⟩
 replace hM := M.e_f hM aN
 simp only [qy1, qy2, qy3, qy4, qy5, qy6, ne_eq, qy7] at aN
 refine W.exit ?_
 have cc := M.e_inr hM aM
 subst cc
 replace hM := bO
 try dsimp only at hM
 replace H := H.pk [0, 1, 4]
 refine W.seq ?_
 refine W.region rfl ?_
 refine zM am rfl ?_
 obtain ⟨ce, hM⟩ := M.e_grd hM
 simp only [Bool.and_eq_true, decide_eq_true_eq] at ce
 refine s_call cf106 [am] rfl (sort_any (H.get (k := 0) rfl) (by omega)) ?_
 rintro _ cf ⟨rfl, bz, bA, bB⟩
 replace H : St w cf [cOwn (α := Int) 3 am (isort l), cOwn (α := Dem) 61 aq l2, cMem encDm aw B_mem (zaa ab ac ae ag ah ai aj)] R := H.sorted (k := 0) rfl bz bA bB rfl
 clear bz bA bB
 refine s_nil ?_
 refine W.seq ?_
 refine W.region rfl ?_
 refine zM am rfl ?_
 refine zM aq rfl ?_
 refine zA am rfl ?_
 refine zA aq rfl ?_
 refine zA (B true) rfl ?_
 refine s_nil ?_
 refine W.ret ?_
 have aT := M.e_pure hM
 exact ⟨_, resE_tmp3 rfl, ⟨(isort l), l2, true, am, aq, B_mem, aT, rfl, H⟩⟩

def zb5 (aa : List Int) (ab : List Span) (ac : List Int) (ae : List Town) (ah : Int) (ai : Int) (ag : List Flood) : M ((List Int) × Int) :=
  M.bind (zau aa ab ac ae ah ai ag) fun x_ => match x_ with
  | (.inl r1) => (
  bif r1 != 0 then (
  M.pure (([]), r1))
  else (
  M.fail))
  | (.inr (aj, ak, am)) => (
  bif am != 0 then (
  M.fail)
  else (
  M.bind (zcH aa ab ac ae aj ak ag) fun (r0, ao, r2) =>
  bif !r2 then (
  M.pure (([]), 6))
  else (
  M.pure (r0, 0))))
theorem zcg {R : List Chunk} {aC : Cells} {ah : Value} {aD : Cells} {ai : Value} {aE : Cells} {aj : Value} {aF : Cells} {ak : Value} {aG : Cells} {am : Value} (au : List Int) (av : List Span) (aw : List Int) (ax : List Town) (ac : Int) (ae : Int) (ay : List Flood) (aH : Reads R aC) (aI : Sl aC ah au) (aJ : Reads R aD) (aK : Sl aD ai av) (aL : Reads R aE) (aM : Sl aE aj aw) (aN : Reads R aF) (aO : Sl aF ak ax) (aP : Reads R aG) (aQ : Sl aG am ay) {r : ((List Int) × Int)} (hM : (zb5 au av aw ax ac ae ay).Ends r) (w : World) (H : St w w [] R) : Ret Tryz.prog 36 #[.agg #[ah, ai, aj, ak, I ac, I ae, am]] w fun v w' => ∃ (y0 : List Int) (y1 : Int) (u0 : Value), (y0, y1) = r /\ v = .tuple #[u0, I y1] /\ St w w' [cOwn (α := Int) 3 u0 y0] R := by
 refine ret_of_W Tryz.func36 rfl rfl rfl ?_
 refine W.seq ?_
 refine W.region rfl ?_
 refine t_box (v := .agg #[ah, ai, aj, ak, I ac, I ae, am]) (cs := [ah, ai, aj, ak, I ac, I ae, am]) H rfl rfl ?_
 intro aR aZ H
 refine zA (.slice none 0 0) rfl ?_
 refine zA (I 0) rfl ?_
 refine s_nil ?_
 refine W.seq ?_
 refine W.region rfl ?_
 refine s_val (x_ld (p := Pq aR) (v := .agg #[ah, ai, aj, ak, I ac, I ae, am]) rfl (ldb_ag (ds := [ah, ai, aj, ak, I ac, I ae, am]) Ag29 Sz29 (H.bl 0) rfl rfl)) ?_
 obtain ⟨a6, aS, hM⟩ := M.e_bind hM
 refine s_call cf72 [.agg #[ah, ai, aj, ak, I ac, I ae, am]] rfl (zbQ au av aw ax ac ae ay (aH.app _) aI (aJ.app _) aK (aL.app _) aM (aN.app _) aO (aP.app _) aQ aS _ (H.gt 1)) ?_
 rintro vq a7 (⟨r1, aT, hvq, ag⟩ | ⟨aU, aV, aa, ao, a8, ba, aW, hvq, ag⟩)
 ·subst aT
  subst vq
  try dsimp only at hM
  replace H := H.bk ag
  clear ag
  refine zM (.tuple #[.pointer none, I r1]) rfl ?_
  refine zX [.pointer none, I r1] (.pointer none) rfl rfl ?_
  refine zX [.pointer none, I r1] (I r1) rfl rfl ?_
  refine zA (.pointer none) rfl ?_
  refine zA (I r1) rfl ?_
  refine s_nil ?_
  refine W.seq ?_
  refine W.seq ?_
  refine W.region rfl ?_
  refine zM (I r1) rfl ?_
  refine zC r1 0 (r1 != 0) rfl rfl rfl ?_
  refine s_nil ?_
  refine W.cond (r1 != 0) rfl (fun az => ?_) (fun az => ?_)
  ·replace hM := M.e_t hM az
   simp only [qy1, qy2, qy3, qy4, qy5, qy6, ne_eq, qy7] at az
   refine W.seq ?_
   refine W.region rfl ?_
   refine zM (I r1) rfl ?_
   refine zA (.slice none 0 0) rfl ?_
   refine zA (I r1) rfl ?_
   refine s_nil ?_
   refine W.ret ?_
   have aq := M.e_pure hM
   replace H := H.nilOwn (α := Int) 3
   exact ⟨_, resE_tmp2 rfl, ⟨([]), r1, (.slice none 0 0), aq, rfl, (H.pk [0])⟩⟩
  replace hM := M.e_f hM az
  exact (M.e_fail hM).elim
 subst aW
 subst vq
 try dsimp only at hM
 replace H := H.bk ag
 clear ag
 refine zM (.tuple #[Pq ao, I aa]) rfl ?_
 refine zX [Pq ao, I aa] (Pq ao) rfl rfl ?_
 refine zX [Pq ao, I aa] (I aa) rfl rfl ?_
 refine zA (Pq ao) rfl ?_
 refine zA (I aa) rfl ?_
 refine s_nil ?_
 refine W.seq ?_
 refine W.seq ?_
 refine W.region rfl ?_
 refine zM (I aa) rfl ?_
 refine zC aa 0 (aa != 0) rfl rfl rfl ?_
 refine s_nil ?_
 refine W.cond (aa != 0) rfl (fun aA => ?_) (fun aA => ?_)
 ·replace hM := M.e_t hM aA
  exact (M.e_fail hM).elim
 replace hM := M.e_f hM aA
 simp only [qy1, qy2, qy3, qy4, qy5, qy6, ne_eq, qy7] at aA
 refine W.skip ?_
 refine W.seq ?_
 refine W.region rfl ?_
 refine zM (Pq ao) rfl ?_
 obtain ⟨bc, aX, hM⟩ := M.e_bind hM
 refine s_call cf89 [Pq ao] rfl (zdK au av aw ax aU aV ay (aH.app _) aI (aJ.app _) aK (aL.app _) aM (aN.app _) aO (aP.app _) aQ (Has.here (k := 0) rfl) aX _ ((H.pk [1, 0, 2]).gt 2)) ?_
 rintro vq bf ⟨r0, bg, r2, ab, ap, bh, aY, hvq, ag⟩
 subst aY
 subst vq
 try dsimp only at hM
 replace H := H.pk [1, 0, 2] |>.bk ag
 clear ag
 refine zM (.tuple #[ab, ap, B r2]) rfl ?_
 refine zX [ab, ap, B r2] ab rfl rfl ?_
 refine zX [ab, ap, B r2] ap rfl rfl ?_
 refine zX [ab, ap, B r2] (B r2) rfl rfl ?_
 refine zA ab rfl ?_
 refine zA ap rfl ?_
 refine zA (B r2) rfl ?_
 refine s_nil ?_
 replace H := H.pk [0]
 refine W.seq ?_
 refine W.seq ?_
 refine W.region rfl ?_
 refine zM (B r2) rfl ?_
 refine s_val (x_not (b := r2) rfl) ?_
 refine s_nil ?_
 refine W.cond (!r2) rfl (fun aB => ?_) (fun aB => ?_)
 ·replace hM := M.e_t hM aB
  refine W.seq ?_
  refine W.region rfl ?_
  refine zA (.slice none 0 0) rfl ?_
  refine zA (I 6) rfl ?_
  refine s_nil ?_
  refine W.ret ?_
  have aq := M.e_pure hM
  replace H := H.nilOwn (α := Int) 3
  exact ⟨_, resE_tmp2 rfl, ⟨([]), 6, (.slice none 0 0), aq, rfl, (H.pk [0])⟩⟩
 replace hM := M.e_f hM aB
 refine W.skip ?_
 refine W.seq ?_
 refine W.region rfl ?_
 refine zM ab rfl ?_
 refine zA ab rfl ?_
 refine zA (I 0) rfl ?_
 refine s_nil ?_
 refine W.ret ?_
 have aq := M.e_pure hM
 exact ⟨_, resE_tmp2 rfl, ⟨r0, 0, ab, aq, rfl, H⟩⟩

def zda (aa : List Int) (ab : List Span) (ac : List Int) (ae : List Town) (ag : Int) (ah : Int) (ai : List Flood) (n : Int) : M Bool :=
  M.bind (zad n 0 ((aa.length : Int) - 1)) fun r2 =>
  M.pure r2
theorem zdH {R : List Chunk} {aa : Nat} {ae : Cells} {ac : Value} {ag : Cells} {ah : Value} {ai : Cells} {aj : Value} {ak : Cells} {am : Value} {ao : Cells} {ap : Value} {aB : Nat} (ab : List Int) (aq : List Span) (au : List Int) (av : List Town) (aw : Int) (ax : Int) (ay : List Flood) (n : Int) (aG : Reads R ae) (az : Sl ae ac ab) (aH : Reads R ag) (aI : Sl ag ah aq) (aJ : Reads R ai) (aK : Sl ai aj au) (aL : Reads R ak) (aM : Sl ak am av) (aN : Reads R ao) (aO : Sl ao ap ay) (aC : Has R (cBlk aa [ac, ah, aj, am, I aw, I ax, ap, .map (some aB)] 111)) {r : Bool} (hM : (zda ab aq au av aw ax ay n).Ends r) (w : World) (H : St w w [] R) : Ret Tryz.prog 73 #[Pq aa, I n] w fun v w' => ∃ (y0 : Bool), y0 = r /\ v = B y0 /\ St w w' [] R := by
 refine ret_of_W Tryz.func73 rfl rfl rfl ?_
 refine W.seq ?_
 refine W.region rfl ?_
 refine zA (B false) rfl ?_
 refine s_nil ?_
 refine W.seq ?_
 refine W.region rfl ?_
 refine zM (I n) rfl ?_
 refine zM (Pq aa) rfl ?_
 refine s_val (x_nc (a := ⟨aa, 0, none⟩) rfl) ?_
 refine s_val (x_fa (a := Pq aa) (v := Pq aa) rfl (fa_blk (o := 0) Fd111_0 Sz29)) ?_
 refine s_val (x_fa (a := Pq aa) (v := Pq aa) rfl (fa_blk (o := 0) Fd29_0 Sz22)) ?_
 refine s_val (x_ld (p := Pq aa) (v := ac) rfl (ldb_sc Sc22 (aC.blk H) rfl)) ?_
 have aP := (az).len_le
 refine s_val (x_lenS T22.und rfl az) ?_
 refine zR (ab.length : Int) 1 ((ab.length : Int) - 1) rfl rfl rfl (by omega) ?_
 obtain ⟨aQ, aD, hM⟩ := M.e_bind hM
 refine s_call cf47 [I n, I 0, I ((ab.length : Int) - 1)] rfl (zaj n 0 ((ab.length : Int) - 1) aD _ (H.gt 0)) ?_
 rintro vq aR ⟨r2, aE, hvq, aA⟩
 subst aE
 subst vq
 try dsimp only at hM
 replace H := H.bk aA
 clear aA
 refine zA (B r2) rfl ?_
 refine s_nil ?_
 refine W.ret ?_
 have aF := M.e_pure hM
 exact ⟨_, resE_tmp rfl, ⟨r2, aF, rfl, H⟩⟩

def zc2 (ae : List Int) (ag : List Span) (ah : List Int) (aa : List Town) (ab : Int) (ac : Int) (ai : List Flood) (watch : Int) (town : Int) : M (Int × Int × Int) :=
  M.bind (zau ae ag ah aa ab ac ai) fun x_ => match x_ with
  | (.inl r1) => (
  bif r1 != 0 then (
  M.pure (0, 0, r1))
  else (
  M.fail))
  | (.inr (aj, ak, am)) => (
  bif am != 0 then (
  M.fail)
  else (
  M.bind (zda ae ag ah aa aj ak ai watch) fun r2 =>
  M.bind (M.opt (!(!r2)) (zad town 0 ((aa.length : Int) - 1)) false) fun r3 =>
  bif ((!r2) || (!r3)) then (
  M.pure (0, 0, 2))
  else (
  M.grd (decide ((0 : Int) <= town) && decide (town < (aa.length : Int))) <|
  M.bind (zbj ae ag ah aa aj ak ai watch ((aa.getD (Int.toNat town) default).station)) fun (ao, ap, aq) =>
  bif !aq then (
  M.pure (0, 0, 5))
  else (
  M.grd (decide (-9223372036854775807 <= ac) && decide (ac <= 9223372036854775807)) <|
  M.grd (decide (-9223372036854775807 <= ab) && decide (ab <= 9223372036854775807)) <|
  M.bind (zco ([(⟨(ao : Int), (ap : Int)⟩ : Span), (⟨(-ac : Int), (-ab : Int)⟩ : Span)])) fun (r0, au) =>
  M.pure (r0, au, 0)))))
theorem zdU {R : List Chunk} {aQ : Cells} {au : Value} {aR : Cells} {av : Value} {aS : Cells} {aw : Value} {aT : Cells} {ae : Value} {aU : Cells} {ax : Value} (az : List Int) (aA : List Span) (aB : List Int) (ag : List Town) (ab : Int) (ac : Int) (aC : List Flood) (watch : Int) (town : Int) (aG : Reads R aQ) (aH : Sl aQ au az) (aI : Reads R aR) (aJ : Sl aR av aA) (aK : Reads R aS) (aL : Sl aS aw aB) (aD : Reads R aT) (ap : Sl aT ae ag) (aM : Reads R aU) (aN : Sl aU ax aC) {r : (Int × Int × Int)} (hM : (zc2 az aA aB ag ab ac aC watch town).Ends r) (w : World) (H : St w w [] R) : Ret Tryz.prog 25 #[.agg #[au, av, aw, ae, I ab, I ac, ax], I watch, I town] w fun v w' => ∃ (y0 : Int) (y1 : Int) (y2 : Int), (y0, y1, y2) = r /\ v = .tuple #[.agg #[I y0, I y1], I y2] /\ St w w' [] R := by
 refine ret_of_W Tryz.func25 rfl rfl rfl ?_
 refine W.seq ?_
 refine W.region rfl ?_
 refine t_box (v := .agg #[au, av, aw, ae, I ab, I ac, ax]) (cs := [au, av, aw, ae, I ab, I ac, ax]) H rfl rfl ?_
 intro aa bv H
 refine t_alloc (cs := [I 0, I 0]) H Al26 rfl ?_
 intro bw bx H
 refine zA (I 0) rfl ?_
 refine s_nil ?_
 refine W.seq ?_
 refine W.region rfl ?_
 refine s_val (x_ld (p := Pq aa) (v := .agg #[au, av, aw, ae, I ab, I ac, ax]) rfl (ldb_ag (ds := [au, av, aw, ae, I ab, I ac, ax]) Ag29 Sz29 (H.bl 1) rfl rfl)) ?_
 obtain ⟨bz, aX, hM⟩ := M.e_bind hM
 refine s_call cf72 [.agg #[au, av, aw, ae, I ab, I ac, ax]] rfl (zbQ az aA aB ag ab ac aC (aG.app _) aH (aI.app _) aJ (aK.app _) aL (aD.app _) ap (aM.app _) aN aX _ (H.gt 2)) ?_
 rintro vq bA (⟨r1, aY, hvq, ah⟩ | ⟨aV, aW, ak, am, bB, bC, aZ, hvq, ah⟩)
 ·subst aY
  subst vq
  try dsimp only at hM
  replace H := H.bk ah
  clear ah
  refine zM (.tuple #[.pointer none, I r1]) rfl ?_
  refine zX [.pointer none, I r1] (.pointer none) rfl rfl ?_
  refine zX [.pointer none, I r1] (I r1) rfl rfl ?_
  refine zA (.pointer none) rfl ?_
  refine zA (I r1) rfl ?_
  refine s_nil ?_
  refine W.seq ?_
  refine W.block ?_
  refine W.seq ?_
  refine W.region rfl ?_
  refine zM (I r1) rfl ?_
  refine zC r1 0 (r1 != 0) rfl rfl rfl ?_
  refine zA (B (r1 != 0)) rfl ?_
  refine s_nil ?_
  refine W.cond (r1 != 0) rfl (fun aE => ?_) (fun aE => ?_)
  ·replace hM := M.e_t hM aE
   simp only [qy1, qy2, qy3, qy4, qy5, qy6, ne_eq, qy7] at aE
   refine W.seq ?_
   refine W.region rfl ?_
   refine s_val (x_bld (ps := []) (zs := [I 0, I 0]) (L' := [I 0, I 0]) rfl Tryz.underlying26 Al26 rfl (Bd26 Tryz.underlying26) (.nil)) ?_
   refine zM (I r1) rfl ?_
   refine t_sw 0 0 [I 0, I 0] (.agg #[I 0, I 0]) H rfl rfl Sz26 rfl rfl rfl rfl ?_
   intro bD H
   refine zA (I r1) rfl ?_
   refine s_nil ?_
   refine W.ret ?_
   have a6 := (H.bl 0)
   have ao := M.e_pure hM
   exact ⟨_, (resE_ofn (vs := [.agg #[I 0, I 0], I r1]) rfl rfl (.cell (v := .agg #[I 0, I 0]) rfl (run_loadVar_ag (ds := [I 0, I 0]) Ag26 Sz26 a6 rfl rfl) <| .tmp (v := I r1) rfl <| .nil)), ⟨0, 0, r1, ao, rfl, (H.pk [])⟩⟩
  replace hM := M.e_f hM aE
  exact (M.e_fail hM).elim
 subst aZ
 subst vq
 try dsimp only at hM
 replace H := H.bk ah
 clear ah
 refine zM (.tuple #[Pq am, I ak]) rfl ?_
 refine zX [Pq am, I ak] (Pq am) rfl rfl ?_
 refine zX [Pq am, I ak] (I ak) rfl rfl ?_
 refine zA (Pq am) rfl ?_
 refine zA (I ak) rfl ?_
 refine s_nil ?_
 refine W.seq ?_
 refine W.block ?_
 refine W.seq ?_
 refine W.region rfl ?_
 refine zM (I ak) rfl ?_
 refine zC ak 0 (ak != 0) rfl rfl rfl ?_
 refine zA (B (ak != 0)) rfl ?_
 refine s_nil ?_
 refine W.cond (ak != 0) rfl (fun aF => ?_) (fun aF => ?_)
 ·replace hM := M.e_t hM aF
  exact (M.e_fail hM).elim
 replace hM := M.e_f hM aF
 simp only [qy1, qy2, qy3, qy4, qy5, qy6, ne_eq, qy7] at aF
 refine W.seq ?_
 refine W.region rfl ?_
 refine zM (Pq am) rfl ?_
 refine zM (I watch) rfl ?_
 obtain ⟨bE, a7, hM⟩ := M.e_bind hM
 refine s_call cf73 [Pq am, I watch] rfl (zdH az aA aB ag aV aW aC watch (aG.app _) aH (aI.app _) aJ (aK.app _) aL (aD.app _) ap (aM.app _) aN (Has.here (k := 0) rfl) a7 _ (H.gt 4)) ?_
 rintro vq bF ⟨r2, a8, hvq, ah⟩
 subst a8
 subst vq
 try dsimp only at hM
 replace H := H.bk ah
 clear ah
 refine s_val (x_not (b := r2) rfl) ?_
 refine zM (B (!r2)) rfl ?_
 refine g_val (!(!r2)) (gy_f rfl) (fun hg => x_mv (v := I town) rfl) ?_
 refine g_val (!(!r2)) (gy_f rfl) (fun hg => x_fa (a := Pq aa) (v := Oq aa 3) rfl (fa_blk (o := 0) Fd29_3 Sz24)) ?_
 refine g_val (!(!r2)) (gy_f rfl) (fun hg => x_ld (p := Oq aa 3) (v := ae) (gd_of (c := !(!r2)) hg (Oq aa 3)) (ldb_sc Sc24 (H.bl 3) rfl)) ?_
 have bG := (ap).len_le
 refine g_val (!(!r2)) (gy_f rfl) (fun hg => x_lenS T24.und (gd_of (c := !(!r2)) hg (ae)) ap) ?_
 refine g_val (!(!r2)) (gy_f rfl) (fun hg => x_ari (a := (ag.length : Int)) (b := 1) (r := (ag.length : Int) - 1) (gd_of (c := !(!r2)) hg (I (ag.length : Int))) rfl rfl (by first | omega | (have ba := hg; simp at ba; omega))) ?_
 obtain ⟨r3, bc, hM⟩ := M.e_bind hM
 refine t_gcall (!(!r2)) (gy_f rfl) cf47 (B r3) (fun _ => [I town, I 0, I ((ag.length : Int) - 1)]) (fun hg => lst3 (gd_of (c := !(!r2)) hg (I town)) rfl (gd_of (c := !(!r2)) hg (I ((ag.length : Int) - 1)))) H (fun hg => (zaj town 0 ((ag.length : Int) - 1) (M.e_opt bc hg) _ (H.give (A := []) rfl)).mono fun v_ w_ ⟨y_, ao, bf, H_⟩ => by subst ao; exact ⟨bf, H.via H_⟩) ?_
 intro bH H
 refine g_val (!(!r2)) (gy_f rfl) (fun hg => x_not (b := r3) (gd_of (c := !(!r2)) hg (B r3))) ?_
 refine s_val (x_por (b := !r2) (r := !r3) rfl rfl (fun hb => gd_of (c := !(!r2)) (by first | exact hb | (rw [hb]; rfl) | simp_all) (B (!r3)))) ?_
 refine zA (B ((!r2) || (!r3))) rfl ?_
 refine s_nil ?_
 refine W.cond ((!r2) || (!r3)) rfl (fun aO => ?_) (fun aO => ?_)
 ·replace hM := M.e_t hM aO
  refine W.seq ?_
  refine W.region rfl ?_
  refine s_val (x_bld (ps := []) (zs := [I 0, I 0]) (L' := [I 0, I 0]) rfl Tryz.underlying26 Al26 rfl (Bd26 Tryz.underlying26) (.nil)) ?_
  refine t_sw 2 0 [I 0, I 0] (.agg #[I 0, I 0]) H rfl rfl Sz26 rfl rfl rfl rfl ?_
  intro bI H
  refine zA (I 2) rfl ?_
  refine s_nil ?_
  replace H := H.pk [2]
  refine W.ret ?_
  have bg := (H.bl 0)
  have ao := M.e_pure hM
  exact ⟨_, (resE_ofn (vs := [.agg #[I 0, I 0], I 2]) rfl rfl (.cell (v := .agg #[I 0, I 0]) rfl (run_loadVar_ag (ds := [I 0, I 0]) Ag26 Sz26 bg rfl rfl) <| .tmp (v := I 2) rfl <| .nil)), ⟨0, 0, 2, ao, rfl, (H.pk [])⟩⟩
 replace hM := M.e_f hM aO
 refine W.skip ?_
 refine W.seq ?_
 refine W.region rfl ?_
 refine zM (Pq am) rfl ?_
 refine zM (I watch) rfl ?_
 refine s_val (x_fa (a := Pq aa) (v := Oq aa 3) rfl (fa_blk (o := 0) Fd29_3 Sz24)) ?_
 refine s_val (x_ld (p := Oq aa 3) (v := ae) rfl (ldb_sc Sc24 (H.bl 3) rfl)) ?_
 refine zM (I town) rfl ?_
 obtain ⟨bh, hM⟩ := M.e_grd hM
 simp only [Bool.and_eq_true, decide_eq_true_eq] at bh
 refine s_val (x_ix (a := ae) (b := I town) (v := vat ae 3 (Int.toNat town)) rfl rfl (Sl.ix (α := Town) T24.und T24.size ap (by omega) (by omega))) ?_
 refine s_val (x_fa (a := vat ae 3 (Int.toNat town)) (v := fat (vat ae 3 (Int.toNat town)) 0) rfl (fa_pl Fd91_0 Sz3 (Sl.pl (i := town) ap (by omega) (by omega)))) ?_
 refine s_val (x_ld (p := fat (vat ae 3 (Int.toNat town)) 0) (v := I ((ag.getD (Int.toNat town) default).station)) rfl (ld_sc Sc3 (At.mono (Town_at0 ap (i := town) (by omega) (by omega)) (aD.at H)))) ?_
 obtain ⟨bJ, bi, hM⟩ := M.e_bind hM
 refine s_call cf74 [Pq am, I watch, I ((ag.getD (Int.toNat town) default).station)] rfl (zcy az aA aB ag aV aW aC watch ((ag.getD (Int.toNat town) default).station) (aG.app _) aH (aI.app _) aJ (aK.app _) aL (aD.app _) ap (aM.app _) aN (Has.here (k := 0) rfl) bi _ (H.gt 4)) ?_
 rintro vq bK ⟨ai, aj, aq, bj, hvq, ah⟩
 subst bj
 subst vq
 try dsimp only at hM
 replace H := H.bk ah
 clear ah
 refine zM (.tuple #[.agg #[I ai, I aj], B aq]) rfl ?_
 refine zX [.agg #[I ai, I aj], B aq] (.agg #[I ai, I aj]) rfl rfl ?_
 refine zX [.agg #[I ai, I aj], B aq] (B aq) rfl rfl ?_
 refine t_alloc (cs := [I 0, I 0]) H Al26 rfl ?_
 intro bm bL H
 refine t_sw 0 0 [I ai, I aj] (.agg #[I ai, I aj]) H rfl rfl Sz26 rfl rfl rfl rfl ?_
 intro bM H
 refine zA (B aq) rfl ?_
 refine s_nil ?_
 replace H := H.pk [0, 3, 4]
 refine W.seq ?_
 refine W.seq ?_
 refine W.region rfl ?_
 refine zM (B aq) rfl ?_
 refine s_val (x_not (b := aq) rfl) ?_
 refine s_nil ?_
 refine W.cond (!aq) rfl (fun aP => ?_) (fun aP => ?_)
 ·replace hM := M.e_t hM aP
  refine W.seq ?_
  refine W.region rfl ?_
  refine s_val (x_bld (ps := []) (zs := [I 0, I 0]) (L' := [I 0, I 0]) rfl Tryz.underlying26 Al26 rfl (Bd26 Tryz.underlying26) (.nil)) ?_
  refine t_sw 1 0 [I 0, I 0] (.agg #[I 0, I 0]) H rfl rfl Sz26 rfl rfl rfl rfl ?_
  intro bN H
  refine zA (I 5) rfl ?_
  refine s_nil ?_
  replace H := H.pk [1]
  refine W.ret ?_
  have bn := (H.bl 0)
  have ao := M.e_pure hM
  exact ⟨_, (resE_ofn (vs := [.agg #[I 0, I 0], I 5]) rfl rfl (.cell (v := .agg #[I 0, I 0]) rfl (run_loadVar_ag (ds := [I 0, I 0]) Ag26 Sz26 bn rfl rfl) <| .tmp (v := I 5) rfl <| .nil)), ⟨0, 0, 5, ao, rfl, (H.pk [])⟩⟩
 replace hM := M.e_f hM aP
 refine W.skip ?_
 refine W.seq ?_
 refine W.region rfl ?_
 refine s_val (x_ld (p := Pq bm) (v := .agg #[I ai, I aj]) rfl (ldb_ag (ds := [I ai, I aj]) Ag26 Sz26 (H.bl 0) rfl rfl)) ?_
 refine s_val (x_fa (a := Pq aa) (v := Oq aa 4) rfl (fa_blk (o := 0) Fd29_4 Sz26)) ?_
 refine s_val (x_fa (a := Oq aa 4) (v := Oq aa 5) rfl (fa_blk (o := 4) Fd26_1 Sz3)) ?_
 refine s_val (x_ld (p := Oq aa 5) (v := I ac) rfl (ldb_sc Sc3 (H.bl 2) rfl)) ?_
 obtain ⟨bo, hM⟩ := M.e_grd hM
 simp only [Bool.and_eq_true, decide_eq_true_eq] at bo
 refine s_val (x_neg (a := ac) rfl (by omega)) ?_
 refine s_val (x_fa (a := Pq aa) (v := Oq aa 4) rfl (fa_blk (o := 0) Fd29_4 Sz26)) ?_
 refine s_val (x_fa (a := Oq aa 4) (v := Oq aa 4) rfl (fa_blk (o := 4) Fd26_0 Sz3)) ?_
 refine s_val (x_ld (p := Oq aa 4) (v := I ab) rfl (ldb_sc Sc3 (H.bl 2) rfl)) ?_
 obtain ⟨bp, hM⟩ := M.e_grd hM
 simp only [Bool.and_eq_true, decide_eq_true_eq] at bp
 refine s_val (x_neg (a := ab) rfl (by omega)) ?_
 refine s_val (x_bld (ps := [(0, I (-ac)), (1, I (-ab))]) (zs := [I 0, I 0]) (L' := [I (-ac), I (-ab)]) rfl Tryz.underlying26 Al26 rfl (Bd26 Tryz.underlying26) (.cons (cs := [I (-ac)]) rfl rfl rfl rfl rfl <| .cons (cs := [I (-ab)]) rfl rfl rfl rfl rfl <| .nil)) ?_
 refine t_bs (α := Span) T23 [.agg #[I ai, I aj], .agg #[I (-ac), I (-ab)]] [(⟨(ai : Int), (aj : Int)⟩ : Span), (⟨(-ac : Int), (-ab : Int)⟩ : Span)] H rfl (.cons rfl (Flat.rep_enc _ (⟨(ai : Int), (aj : Int)⟩ : Span)) <| .cons rfl (Flat.rep_enc _ (⟨(-ac : Int), (-ab : Int)⟩ : Span)) <| .nil) rfl rfl rfl ?_
 intro bq bO H
 obtain ⟨bP, br, hM⟩ := M.e_bind hM
 refine s_call cf76 [bq] rfl (zcY ([(⟨(ai : Int), (aj : Int)⟩ : Span), (⟨(-ac : Int), (-ab : Int)⟩ : Span)]) (rdo 0) (H.os 0) br _ (H.gt 4)) ?_
 rintro vq bQ ⟨r0, ay, bt, hvq, ah⟩
 subst bt
 subst vq
 try dsimp only at hM
 replace H := H.bk ah
 clear ah
 refine t_sw 2 0 [I r0, I ay] (.agg #[I r0, I ay]) H rfl rfl Sz26 rfl rfl rfl rfl ?_
 intro bR H
 refine zA (I 0) rfl ?_
 refine s_nil ?_
 replace H := H.pk [2]
 refine W.ret ?_
 have bu := (H.bl 0)
 have ao := M.e_pure hM
 exact ⟨_, (resE_ofn (vs := [.agg #[I r0, I ay], I 0]) rfl rfl (.cell (v := .agg #[I r0, I ay]) rfl (run_loadVar_ag (ds := [I r0, I ay]) Ag26 Sz26 bu rfl rfl) <| .tmp (v := I 0) rfl <| .nil)), ⟨r0, ay, 0, ao, rfl, (H.pk [])⟩⟩

def zbq (a : List Int) (b : List Int) : Nat -> M (Nat ⊕ (Unit ⊕ Unit)) := fun i =>
  bif decide ((i : Int) < (a.length : Int)) then (
  M.grd (decide ((i : Int) < (a.length : Int))) <|
  M.grd (decide ((i : Int) < (b.length : Int))) <|
  bif (a.getD i 0) != (b.getD i 0) then (
  M.pure (.inr (.inl ())))
  else (
  M.pure (.inl (i + 1))))
  else (
  M.pure (.inr (.inr ())))
def zab (a : List Int) (b : List Int) : M Bool :=
  bif (a.length : Int) != (b.length : Int) then (
  M.pure false)
  else (
  M.bind (M.iter (zbq a b) 0) fun x_ => match x_ with
  | (.inl (_ : Unit)) => (
  M.pure false)
  | (.inr (_ : Unit)) => (
  M.pure true))
theorem zac {R : List Chunk} {ao : Cells} {aa : Value} {ap : Cells} {ab : Value} (a : List Int) (b : List Int) (aw : Reads R ao) (ac : Sl ao aa a) (ax : Reads R ap) (aj : Sl ap ab b) {r : Bool} (hM : (zab a b).Ends r) (w : World) (H : St w w [] R) : Ret Tryz.prog 15 #[aa, ab] w fun v w' => ∃ (y0 : Bool), y0 = r /\ v = B y0 /\ St w w' [] R := by
 refine ret_of_W Tryz.func15 rfl rfl rfl ?_
 refine W.seq ?_
 refine W.region rfl ?_
 refine zA (B false) rfl ?_
 refine s_nil ?_
 refine W.seq ?_
 refine W.seq ?_
 refine W.region rfl ?_
 refine zM aa rfl ?_
 have aF := (ac).len_le
 refine s_val (x_lenS T22.und rfl ac) ?_
 refine zM ab rfl ?_
 have aG := (aj).len_le
 refine s_val (x_lenS T22.und rfl aj) ?_
 refine zC (a.length : Int) (b.length : Int) ((a.length : Int) != (b.length : Int)) rfl rfl rfl ?_
 refine s_nil ?_
 refine W.cond ((a.length : Int) != (b.length : Int)) rfl (fun ae => ?_) (fun ae => ?_)
 ·replace hM := M.e_t hM ae
  simp only [qy1, qy2, qy3, qy4, qy5, qy6, ne_eq, qy7] at ae
  refine W.seq ?_
  refine W.region rfl ?_
  refine zA (B false) rfl ?_
  refine s_nil ?_
  refine W.ret ?_
  have ag := M.e_pure hM
  exact ⟨_, resE_tmp rfl, ⟨false, ag, rfl, H⟩⟩
 replace hM := M.e_f hM ae
 simp only [qy1, qy2, qy3, qy4, qy5, qy6, ne_eq, qy7] at ae
 refine W.skip ?_
 refine W.seq ?_
 refine W.seq ?_
 refine W.region rfl ?_
 refine zA (I 0) rfl ?_
 refine s_nil ?_
 refine W.block ?_
 obtain ⟨ay, ak, aq⟩ := M.e_bind hM
 obtain ⟨aH, ak⟩ := M.e_iter ak
 refine W.loop (fun m σ W => ∃ (i : Nat) (ρ : Env), σ = upds ρ [(0, aa), (1, ab), (5, I (i : Int))] /\ M.iterN (zbq a b) m i = some ay /\ St w W [] R) ?_ ?_
 ·exact ⟨_, 0, _, upds_of _ _ ⟨rfl, rfl, rfl, trivial⟩, ak, H⟩
 rintro aI σ aJ ⟨i, ρ, rfl, au, H⟩
 obtain ⟨az, aA, aK, hM, am⟩ := M.e_iterN au
 simp only [zbq] at hM
 clear au
 refine W.seq ?_
 refine W.seq ?_
 refine W.region rfl ?_
 refine zM (I (i : Int)) rfl ?_
 refine zM aa rfl ?_
 have aL := (ac).len_le
 refine s_val (x_lenS T22.und rfl ac) ?_
 refine zC (i : Int) (a.length : Int) (decide ((i : Int) < (a.length : Int))) rfl rfl rfl ?_
 refine s_nil ?_
 refine W.cond (decide ((i : Int) < (a.length : Int))) rfl (fun ah => ?_) (fun ah => ?_)
 ·replace hM := M.e_t hM ah
  simp only [qy1, qy2, qy3, qy4, qy5, qy6, ne_eq, qy7] at ah
  refine W.skip ?_
  refine W.seq ?_
  refine W.block ?_
  refine W.seq ?_
  refine W.draw (fun W => St w W [] R) [(0, true), (1, true), (2, true), (3, true), (4, true), (5, true), (6, true), (7, true), (8, true)] mixed (by decide +kernel) rfl ?_
  intro aM av
  replace H := H.ext av
  clear av
  refine ⟨(H.pk []), ?_⟩
  refine d_q rfl (fun w' H => x_mv (v := aa) rfl) ?_
  refine d_q rfl (fun w' H => x_mv (v := I (i : Int)) rfl) ?_
  obtain ⟨aB, hM⟩ := M.e_grd hM
  simp only [Bool.and_eq_true, decide_eq_true_eq] at aB
  refine d_q rfl (fun w' H => x_ix (a := aa) (b := I (i : Int)) (v := vat aa 1 (Int.toNat (i : Int))) rfl rfl (Sl.ix (α := Int) T22.und T22.size ac (by omega) (by omega))) ?_
  refine d_q rfl (fun w' H => x_ld (p := vat aa 1 (Int.toNat (i : Int))) (v := I (a.getD i 0)) rfl (ld_sc Sc3 (At.mono (Int_at ac (i := (i : Int)) (by omega) (by omega)) (aw.at H)))) ?_
  refine d_q rfl (fun w' H => x_mv (v := ab) rfl) ?_
  refine d_q rfl (fun w' H => x_mv (v := I (i : Int)) rfl) ?_
  obtain ⟨aC, hM⟩ := M.e_grd hM
  simp only [Bool.and_eq_true, decide_eq_true_eq] at aC
  refine d_q rfl (fun w' H => x_ix (a := ab) (b := I (i : Int)) (v := vat ab 1 (Int.toNat (i : Int))) rfl rfl (Sl.ix (α := Int) T22.und T22.size aj (by omega) (by omega))) ?_
  refine d_q rfl (fun w' H => x_ld (p := vat ab 1 (Int.toNat (i : Int))) (v := I (b.getD i 0)) rfl (ld_sc Sc3 (At.mono (Int_at aj (i := (i : Int)) (by omega) (by omega)) (ax.at H)))) ?_
  refine d_q rfl (fun w' H => x_cmp (kd := .i64) (a := a.getD i 0) (b := b.getD i 0) (r := (a.getD i 0) != (b.getD i 0)) rfl rfl rfl) ?_
  refine d_nil ?_
  refine W.cond ((a.getD i 0) != (b.getD i 0)) rfl (fun ai => ?_) (fun ai => ?_)
  ·replace hM := M.e_t hM ai
   simp only [qy1, qy2, qy3, qy4, qy5, qy6, ne_eq, qy7] at ai
   refine W.seq ?_
   refine W.region rfl ?_
   refine zA (B false) rfl ?_
   refine s_nil ?_
   refine W.ret ?_
   have aD := M.e_inr hM am
   subst aD
   replace hM := aq
   try dsimp only at hM
   have ag := M.e_pure hM
   exact ⟨_, resE_tmp rfl, ⟨false, ag, rfl, H⟩⟩
  replace hM := M.e_f hM ai
  simp only [qy1, qy2, qy3, qy4, qy5, qy6, ne_eq, qy7] at ai
  refine W.skip ?_
  refine W.region rfl ?_
  refine zM (I (i : Int)) rfl ?_
  refine zR (i : Int) 1 ((i : Int) + 1) rfl rfl rfl (by omega) ?_
  refine zA (I ((i : Int) + 1)) rfl ?_
  refine s_nil ?_
  exact ⟨az, aA, i + 1, _, upds_of _ _ ⟨rfl, rfl, rfl, trivial⟩, M.e_inl hM am, H⟩
 replace hM := M.e_f hM ah
 simp only [qy1, qy2, qy3, qy4, qy5, qy6, ne_eq, qy7] at ah
 refine W.exit ?_
 have aE := M.e_inr hM am
 subst aE
 replace hM := aq
 try dsimp only at hM
 refine W.seq ?_
 refine W.region rfl ?_
 refine zA (B true) rfl ?_
 refine s_nil ?_
 refine W.ret ?_
 have ag := M.e_pure hM
 exact ⟨_, resE_tmp rfl, ⟨true, ag, rfl, H⟩⟩

end Go.Proofs.YtbaehghammbjdaaGreat
end
section
set_option maxRecDepth 100000
set_option maxHeartbeats 16000000
namespace Go.Proofs.YtbaehghammbjdaaGreat
open Go Go.Nm
def zcu (watches : List Int) : ((List Bool) × Nat) -> M (((List Bool) × Nat) ⊕ (List Bool)) := fun (ar, s) =>
  bif decide ((s : Int) < (watches.length : Int)) then (
  M.grd (decide ((s : Int) < (watches.length : Int))) <|
  M.grd (decide ((0 : Int) <= (watches.getD s 0)) && decide ((watches.getD s 0) < (12 : Int))) <|
  M.pure (.inl (ar.set (Int.toNat (watches.getD s 0)) true, s + 1)))
  else (
  M.pure (.inr ar))
def zbs (ab : Int) (ac : Int) (watches : List Int) (e : Int) : M (((List Bool) × Int) ⊕ (Int × Int × (List Bool) × Int)) :=
  bif e != 0 then (
  M.pure (.inl ((List.replicate 12 false), e)))
  else (
  M.bind (M.iter (zcu watches) (List.replicate 12 false, 0)) fun aa =>
  M.pure (.inl (aa, 0)))
def zbo (watches : List Int) : ((List Bool) × Nat) -> M (((List Bool) × Nat) ⊕ (List Bool)) := fun (ar, s) =>
  bif decide ((s : Int) < (watches.length : Int)) then (
  M.grd (decide ((s : Int) < (watches.length : Int))) <|
  M.grd (decide ((0 : Int) <= (watches.getD s 0)) && decide ((watches.getD s 0) < (12 : Int))) <|
  M.pure (.inl (ar.set (Int.toNat (watches.getD s 0)) true, s + 1)))
  else (
  M.pure (.inr ar))
def zaZ (ae : List Int) (ag : List Span) (ah : List Int) (ai : List Town) (aj : Int) (ak : Int) (am : List Flood) (watches : List Int) (aa : Int) (ab : Int) (e2 : Int) : M (((List Bool) × Int) ⊕ (Int × Int × (List Bool) × Int)) :=
  bif e2 != 0 then (
  M.pure (.inl ((List.replicate 12 false), e2)))
  else (
  M.bind (M.iter (zbo watches) (List.replicate 12 false, 0)) fun ac =>
  M.pure (.inr (aa, ab, ac, 0)))
def zam (aa : List Int) (ae : List Span) (ag : List Int) (ah : List Town) (ab : Int) (ac : Int) (ai : List Flood) (watches : List Int) : M (((List Bool) × Int) ⊕ (Int × Int × (List Bool) × Int)) :=
  M.bind (zau aa ae ag ah ab ac ai) fun x_ => match x_ with
  | (.inl r1) => (
  M.bind (M.opt (r1 == 0) (zay watches (aa.length : Int)) false) fun r2 =>
  bif ((r1 == 0) && (!r2)) then (
  zbs ab ac watches 2)
  else (
  zbs ab ac watches r1))
  | (.inr (ak, am, aj)) => (
  M.bind (M.opt (aj == 0) (zay watches (aa.length : Int)) false) fun r2 =>
  bif ((aj == 0) && (!r2)) then (
  zaZ aa ae ag ah ab ac ai watches ak am 2)
  else (
  zaZ aa ae ag ah ab ac ai watches ak am aj))
theorem zcp {R : List Chunk} {aV : Cells} {aa : Value} {aW : Cells} {ab : Value} {aX : Cells} {ac : Value} {aY : Cells} {ae : Value} {aZ : Cells} {ag : Value} {a6 : Cells} {ao : Value} (aq : List Int) (az : List Span) (aA : List Int) (aB : List Town) (ai : Int) (aj : Int) (aC : List Flood) (watches : List Int) (bh : Reads R aV) (aI : Sl aV aa aq) (bi : Reads R aW) (bj : Sl aW ab az) (bm : Reads R aX) (bn : Sl aX ac aA) (bo : Reads R aY) (bp : Sl aY ae aB) (bq : Reads R aZ) (br : Sl aZ ag aC) (aO : Reads R a6) (aF : Sl a6 ao watches) {r : (((List Bool) × Int) ⊕ (Int × Int × (List Bool) × Int))} (hM : (zam aq az aA aB ai aj aC watches).Ends r) (w : World) (H : St w w [] R) : Ret Tryz.prog 46 #[.agg #[aa, ab, ac, ae, I ai, I aj, ag], ao] w fun v w' => (∃ (y0 : List Bool) (y1 : Int), (.inl (y0, y1)) = r /\ v = .tuple #[.pointer none, .agg (encB y0).toArray, I y1] /\ St w w' [] R /\ y0.length = 12) ∨ (∃ (y0 : Int) (y1 : Int) (y2 : List Bool) (y3 : Int) (a7 : Nat) (a8 : Nat) (bt : Base), (.inr (y0, y1, y2, y3)) = r /\ v = .tuple #[Pq a7, .agg (encB y2).toArray, I y3] /\ St w w' [cBlk a7 [aa, ab, ac, ae, I y0, I y1, ag, .map (some a8)] 111, cMem encDm a8 bt (zaa aq az aA aB y0 y1 aC)] R /\ y2.length = 12) := by
 refine ret_of_W Tryz.func46 rfl rfl rfl ?_
 refine W.seq ?_
 refine W.region rfl ?_
 refine t_box (v := .agg #[aa, ab, ac, ae, I ai, I aj, ag]) (cs := [aa, ab, ac, ae, I ai, I aj, ag]) H rfl rfl ?_
 intro am bW H
 refine zA (.pointer none) rfl ?_
 refine t_alloc (cs := encB (List.replicate 12 false)) H Al96 rfl ?_
 intro au bX H
 have aP : (List.replicate 12 false).length = 12 := by simp
 refine zA (I 0) rfl ?_
 refine s_nil ?_
 refine W.seq ?_
 refine W.region rfl ?_
 refine t_alloc (cs := encB (List.replicate 12 false)) H Al96 rfl ?_
 intro ah bY H
 have aG : (List.replicate 12 false).length = 12 := by simp
 refine s_nil ?_
 refine W.seq ?_
 refine W.region rfl ?_
 refine s_val (x_ld (p := Pq am) (v := .agg #[aa, ab, ac, ae, I ai, I aj, ag]) rfl (ldb_ag (ds := [aa, ab, ac, ae, I ai, I aj, ag]) Ag29 Sz29 (H.bl 2) rfl rfl)) ?_
 obtain ⟨bZ, bu, hM⟩ := M.e_bind hM
 refine s_call cf72 [.agg #[aa, ab, ac, ae, I ai, I aj, ag]] rfl (zbQ aq az aA aB ai aj aC (bh.app _) aI (bi.app _) bj (bm.app _) bn (bo.app _) bp (bq.app _) br bu _ (H.gt 3)) ?_
 rintro vq b3 (⟨r1, bv, hvq, aJ⟩ | ⟨av, aw, ak, ap, ax, aH, bw, hvq, aJ⟩)
 ·subst bv
  subst vq
  try dsimp only at hM
  replace H := H.bk aJ
  clear aJ
  refine zM (.tuple #[.pointer none, I r1]) rfl ?_
  refine zX [.pointer none, I r1] (.pointer none) rfl rfl ?_
  refine zX [.pointer none, I r1] (I r1) rfl rfl ?_
  refine zA (.pointer none) rfl ?_
  refine zA (I r1) rfl ?_
  refine s_nil ?_
  refine W.seqJ (fun σ W => ∃ (e : Int) (ρ : Env), σ = upds ρ [(1, ao), (5, Pq au), (7, Pq ah), (8, .pointer none), (9, I e)] /\ (zbs ai aj watches e).Ends r /\ St w W [cBlk ah (encB (List.replicate 12 false)) 96, cBlk au (encB (List.replicate 12 false)) 96, cBlk am [aa, ab, ac, ae, I ai, I aj, ag] 29] R) ?_ ?_
  ·skip
   refine W.seq ?_
   refine W.region rfl ?_
   refine zM (I r1) rfl ?_
   refine zC r1 0 (r1 == 0) rfl rfl rfl ?_
   refine zM (B (r1 == 0)) rfl ?_
   refine g_val (r1 == 0) (gy_t rfl) (fun hg => x_mv (v := ao) rfl) ?_
   refine g_val (r1 == 0) (gy_t rfl) (fun hg => x_fa (a := Pq am) (v := Pq am) rfl (fa_blk (o := 0) Fd29_0 Sz22)) ?_
   refine g_val (r1 == 0) (gy_t rfl) (fun hg => x_ld (p := Pq am) (v := aa) (gd_of (c := r1 == 0) hg (Pq am)) (ldb_sc Sc22 (H.bl 2) rfl)) ?_
   have b4 := (aI).len_le
   refine g_val (r1 == 0) (gy_t rfl) (fun hg => x_lenS T22.und (gd_of (c := r1 == 0) hg (aa)) aI) ?_
   obtain ⟨r2, bx, hM⟩ := M.e_bind hM
   refine t_gcall (r1 == 0) (gy_t rfl) cf62 (B r2) (fun _ => [ao, I (aq.length : Int)]) (fun hg => lst2 (gd_of (c := r1 == 0) hg (ao)) (gd_of (c := r1 == 0) hg (I (aq.length : Int)))) H (fun hg => (zcv watches (aq.length : Int) (aO.app _) aF (M.e_opt bx hg) _ (H.give (A := []) rfl)).mono fun v_ w_ ⟨y_, aD, aQ, H_⟩ => by subst aD; exact ⟨aQ, H.via H_⟩) ?_
   intro b5 H
   refine g_val (r1 == 0) (gy_t rfl) (fun hg => x_not (b := r2) (gd_of (c := r1 == 0) hg (B r2))) ?_
   refine s_val (x_pand (b := r1 == 0) (r := !r2) rfl (fun hb => gd_of (c := r1 == 0) (by first | exact hb | (rw [hb]; rfl) | simp_all) (B (!r2))) rfl) ?_
   refine s_nil ?_
   refine W.cond ((r1 == 0) && (!r2)) rfl (fun aR => ?_) (fun aR => ?_)
   ·replace hM := M.e_t hM aR
    refine W.region rfl ?_
    refine zA (I 2) rfl ?_
    refine s_nil ?_
    exact ⟨2, _, upds_of _ _ ⟨rfl, rfl, rfl, rfl, rfl, trivial⟩, hM, H⟩
   replace hM := M.e_f hM aR
   refine W.skip ?_
   exact ⟨r1, _, upds_of _ _ ⟨rfl, rfl, rfl, rfl, rfl, trivial⟩, hM, H⟩
  rintro _ b6 ⟨e, ρ, rfl, hM, H⟩
  unfold zbs at hM
  refine W.seq ?_
  refine W.seq ?_
  refine W.region rfl ?_
  refine zM (I e) rfl ?_
  refine zC e 0 (e != 0) rfl rfl rfl ?_
  refine s_nil ?_
  refine W.cond (e != 0) rfl (fun aK => ?_) (fun aK => ?_)
  ·replace hM := M.e_t hM aK
   simp only [qy1, qy2, qy3, qy4, qy5, qy6, ne_eq, qy7] at aK
   refine W.seq ?_
   refine W.draw (fun W => St w W [cBlk ah (encB (List.replicate 12 false)) 96, cBlk am [aa, ab, ac, ae, I ai, I aj, ag] 29] R) [(0, true), (1, true), (2, true), (3, false), (4, true)] mixed (by decide +kernel) rfl ?_
   intro b7 aE
   replace H := H.ext aE
   clear aE
   refine ⟨(H.pk [0, 2]), ?_⟩
   refine d_q rfl (fun w' H => x_ld (p := Pq ah) (v := .agg (encB (List.replicate 12 false)).toArray) rfl (ldArrA Ag96 Sz96 aG (H.bl 0))) ?_
   refine d_q rfl (fun w' H => x_mv (v := I e) rfl) ?_
   refine d_q rfl (fun w' H => x_as (v := .pointer none) rfl) ?_
   refine d_l rfl ?_
   refine t_stArrA (k := 1) (b := au) (l := List.replicate 12 false) (l' := List.replicate 12 false) (L' := [cBlk ah (encB (List.replicate 12 false)) 96, cBlk au (encB (List.replicate 12 false)) 96, cBlk am [aa, ab, ac, ae, I ai, I aj, ag] 29]) H rfl rfl rfl Sz96 aP aG rfl ?_
   intro b8 H
   refine s_nil ⟨(H.pk [0, 2]), ?_⟩
   refine d_q rfl (fun w' H => x_as (v := I e) rfl) ?_
   refine d_nil ?_
   replace H := H.pk [1]
   refine W.ret ?_
   have bz := (H.bl 0)
   have aD := M.e_pure hM
   exact ⟨_, (resE_ofn (vs := [.pointer none, .agg (encB (List.replicate 12 false)).toArray, I e]) rfl rfl (.tmp (v := .pointer none) rfl <| .cell (v := .agg (encB (List.replicate 12 false)).toArray) rfl (run_loadVar_arr Ag96 Sz96 aG bz) <| .tmp (v := I e) rfl <| .nil)), .inl (⟨(List.replicate 12 false), e, aD, rfl, (H.pk []), aG⟩)⟩
  replace hM := M.e_f hM aK
  simp only [qy1, qy2, qy3, qy4, qy5, qy6, ne_eq, qy7] at aK
  refine W.skip ?_
  refine W.seq ?_
  refine W.seq ?_
  refine W.region rfl ?_
  refine zM ao rfl ?_
  have b9 := (aF).len_le
  refine s_val (x_lenS T22.und rfl aF) ?_
  refine zM (I 0) rfl ?_
  refine s_nil ?_
  refine W.block ?_
  obtain ⟨bA, aS, bB⟩ := M.e_bind hM
  obtain ⟨bC, aS⟩ := M.e_iter aS
  refine W.loop (fun m σ W => ∃ (ar : List Bool) (s : Nat) (ρ : Env), σ = upds ρ [(5, Pq au), (7, Pq ah), (8, .pointer none), (31, ao), (32, I (watches.length : Int)), (33, I (s : Int))] /\ M.iterN (zcu watches) m (ar, s) = some bA /\ St w W [cBlk ah (encB ar) 96, cBlk au (encB (List.replicate 12 false)) 96, cBlk am [aa, ab, ac, ae, I ai, I aj, ag] 29] R /\ ar.length = 12) ?_ ?_
  ·exact ⟨_, List.replicate 12 false, 0, _, upds_of _ _ ⟨rfl, rfl, rfl, rfl, rfl, rfl, trivial⟩, aS, H, aG⟩
  rintro ca σ cb ⟨ar, s, ρ, rfl, ba, H, ay⟩
  obtain ⟨bD, bE, cc, hM, bc⟩ := M.e_iterN ba
  simp only [zcu] at hM
  clear ba
  refine W.seq ?_
  refine W.region rfl ?_
  refine zC (s : Int) (watches.length : Int) (decide ((s : Int) < (watches.length : Int))) rfl rfl rfl ?_
  refine s_nil ?_
  refine W.seq ?_
  refine W.cond (decide ((s : Int) < (watches.length : Int))) rfl (fun aL => ?_) (fun aL => ?_)
  ·replace hM := M.e_t hM aL
   simp only [qy1, qy2, qy3, qy4, qy5, qy6, ne_eq, qy7] at aL
   refine W.skip ?_
   refine W.seq ?_
   refine W.block ?_
   refine W.seq ?_
   refine W.region rfl ?_
   obtain ⟨bF, hM⟩ := M.e_grd hM
   simp only [Bool.and_eq_true, decide_eq_true_eq] at bF
   refine s_val (x_ix (a := ao) (b := I (s : Int)) (v := vat ao 1 (Int.toNat (s : Int))) rfl rfl (Sl.ix (α := Int) T22.und T22.size aF (by omega) (by omega))) ?_
   refine s_val (x_ld (p := vat ao 1 (Int.toNat (s : Int))) (v := I (watches.getD s 0)) rfl (ld_sc Sc3 (At.mono (Int_at aF (i := (s : Int)) (by omega) (by omega)) (aO.at H)))) ?_
   refine zA (I (watches.getD s 0)) rfl ?_
   refine s_nil ?_
   refine W.region rfl ?_
   refine zM (I (watches.getD s 0)) rfl ?_
   obtain ⟨bG, hM⟩ := M.e_grd hM
   simp only [Bool.and_eq_true, decide_eq_true_eq] at bG
   refine s_val (x_ix (a := Pq ah) (b := I (watches.getD s 0)) (v := .pointer (some ⟨ah, 0 + Int.toNat (watches.getD s 0), none⟩)) rfl rfl (run_indexArr Tryz.underlying96 Sz4 (by omega) (by omega))) ?_
   refine t_stArr (k := 0) (b := ah) (l := ar) (l' := ar.set (Int.toNat (watches.getD s 0)) true) (i := watches.getD s 0) (v := true) (L' := [cBlk ah (encB (ar.set (Int.toNat (watches.getD s 0)) true)) 96, cBlk au (encB (List.replicate 12 false)) 96, cBlk am [aa, ab, ac, ae, I ai, I aj, ag] 29]) H rfl rfl rfl Sz4 (by omega) (by have bH := ay; omega) rfl rfl ?_
   intro ce H
   have bI : (ar.set (Int.toNat (watches.getD s 0)) true).length = 12 := List.length_set.trans ay
   refine s_nil ?_
   refine W.region rfl ?_
   refine zR (s : Int) 1 ((s : Int) + 1) rfl rfl rfl (by omega) ?_
   refine zM (I ((s : Int) + 1)) rfl ?_
   refine s_nil ?_
   exact ⟨bD, bE, ar.set (Int.toNat (watches.getD s 0)) true, s + 1, _, upds_of _ _ ⟨rfl, rfl, rfl, rfl, rfl, rfl, trivial⟩, M.e_inl hM bc, H, bI⟩
  replace hM := M.e_f hM aL
  simp only [qy1, qy2, qy3, qy4, qy5, qy6, ne_eq, qy7] at aL
  refine W.exit ?_
  have bJ := M.e_inr hM bc
  subst bJ
  replace hM := bB
  try dsimp only at hM
  refine W.seq ?_
  refine W.draw (fun W => St w W [cBlk ah (encB ar) 96, cBlk am [aa, ab, ac, ae, I ai, I aj, ag] 29] R) [(0, true), (1, true), (2, true), (3, false), (4, true)] mixed (by decide +kernel) rfl ?_
  intro cf aE
  replace H := H.ext aE
  clear aE
  refine ⟨(H.pk [0, 2]), ?_⟩
  refine d_q rfl (fun w' H => x_mv (v := .pointer none) rfl) ?_
  refine d_q rfl (fun w' H => x_ld (p := Pq ah) (v := .agg (encB ar).toArray) rfl (ldArrA Ag96 Sz96 ay (H.bl 0))) ?_
  refine d_q rfl (fun w' H => x_as (v := .pointer none) rfl) ?_
  refine d_l rfl ?_
  refine t_stArrA (k := 1) (b := au) (l := List.replicate 12 false) (l' := ar) (L' := [cBlk ah (encB ar) 96, cBlk au (encB ar) 96, cBlk am [aa, ab, ac, ae, I ai, I aj, ag] 29]) H rfl rfl rfl Sz96 aP ay rfl ?_
  intro cg H
  refine s_nil ⟨(H.pk [0, 2]), ?_⟩
  refine d_q rfl (fun w' H => x_as (v := I 0) rfl) ?_
  refine d_nil ?_
  replace H := H.pk [1]
  refine W.ret ?_
  have bK := (H.bl 0)
  have aD := M.e_pure hM
  exact ⟨_, (resE_ofn (vs := [.pointer none, .agg (encB ar).toArray, I 0]) rfl rfl (.tmp (v := .pointer none) rfl <| .cell (v := .agg (encB ar).toArray) rfl (run_loadVar_arr Ag96 Sz96 ay bK) <| .tmp (v := I 0) rfl <| .nil)), .inl (⟨ar, 0, aD, rfl, (H.pk []), ay⟩)⟩
 subst bw
 subst vq
 try dsimp only at hM
 replace H := H.bk aJ
 clear aJ
 refine zM (.tuple #[Pq ap, I ak]) rfl ?_
 refine zX [Pq ap, I ak] (Pq ap) rfl rfl ?_
 refine zX [Pq ap, I ak] (I ak) rfl rfl ?_
 refine zA (Pq ap) rfl ?_
 refine zA (I ak) rfl ?_
 refine s_nil ?_
 refine W.seqJ (fun σ W => ∃ (e2 : Int) (ρ : Env), σ = upds ρ [(1, ao), (5, Pq au), (7, Pq ah), (8, Pq ap), (9, I e2)] /\ (zaZ aq az aA aB ai aj aC watches av aw e2).Ends r /\ St w W [cBlk ap [aa, ab, ac, ae, I av, I aw, ag, .map (some ax)] 111, cMem encDm ax aH (zaa aq az aA aB av aw aC), cBlk ah (encB (List.replicate 12 false)) 96, cBlk au (encB (List.replicate 12 false)) 96, cBlk am [aa, ab, ac, ae, I ai, I aj, ag] 29] R) ?_ ?_
 ·skip
  refine W.seq ?_
  refine W.region rfl ?_
  refine zM (I ak) rfl ?_
  refine zC ak 0 (ak == 0) rfl rfl rfl ?_
  refine zM (B (ak == 0)) rfl ?_
  refine g_val (ak == 0) (gy_t rfl) (fun hg => x_mv (v := ao) rfl) ?_
  refine g_val (ak == 0) (gy_t rfl) (fun hg => x_fa (a := Pq am) (v := Pq am) rfl (fa_blk (o := 0) Fd29_0 Sz22)) ?_
  refine g_val (ak == 0) (gy_t rfl) (fun hg => x_ld (p := Pq am) (v := aa) (gd_of (c := ak == 0) hg (Pq am)) (ldb_sc Sc22 (H.bl 4) rfl)) ?_
  have ci := (aI).len_le
  refine g_val (ak == 0) (gy_t rfl) (fun hg => x_lenS T22.und (gd_of (c := ak == 0) hg (aa)) aI) ?_
  obtain ⟨r2, bL, hM⟩ := M.e_bind hM
  refine t_gcall (ak == 0) (gy_t rfl) cf62 (B r2) (fun _ => [ao, I (aq.length : Int)]) (fun hg => lst2 (gd_of (c := ak == 0) hg (ao)) (gd_of (c := ak == 0) hg (I (aq.length : Int)))) H (fun hg => (zcv watches (aq.length : Int) (aO.app _) aF (M.e_opt bL hg) _ (H.give (A := []) rfl)).mono fun v_ w_ ⟨y_, aD, aQ, H_⟩ => by subst aD; exact ⟨aQ, H.via H_⟩) ?_
  intro cj H
  refine g_val (ak == 0) (gy_t rfl) (fun hg => x_not (b := r2) (gd_of (c := ak == 0) hg (B r2))) ?_
  refine s_val (x_pand (b := ak == 0) (r := !r2) rfl (fun hb => gd_of (c := ak == 0) (by first | exact hb | (rw [hb]; rfl) | simp_all) (B (!r2))) rfl) ?_
  refine s_nil ?_
  refine W.cond ((ak == 0) && (!r2)) rfl (fun aT => ?_) (fun aT => ?_)
  ·replace hM := M.e_t hM aT
   refine W.region rfl ?_
   refine zA (I 2) rfl ?_
   refine s_nil ?_
   exact ⟨2, _, upds_of _ _ ⟨rfl, rfl, rfl, rfl, rfl, trivial⟩, hM, H⟩
  replace hM := M.e_f hM aT
  refine W.skip ?_
  exact ⟨ak, _, upds_of _ _ ⟨rfl, rfl, rfl, rfl, rfl, trivial⟩, hM, H⟩
 rintro _ ck ⟨e2, ρ, rfl, hM, H⟩
 unfold zaZ at hM
 refine W.seq ?_
 refine W.seq ?_
 refine W.region rfl ?_
 refine zM (I e2) rfl ?_
 refine zC e2 0 (e2 != 0) rfl rfl rfl ?_
 refine s_nil ?_
 refine W.cond (e2 != 0) rfl (fun aM => ?_) (fun aM => ?_)
 ·replace hM := M.e_t hM aM
  simp only [qy1, qy2, qy3, qy4, qy5, qy6, ne_eq, qy7] at aM
  refine W.seq ?_
  refine W.draw (fun W => St w W [cBlk ap [aa, ab, ac, ae, I av, I aw, ag, .map (some ax)] 111, cMem encDm ax aH (zaa aq az aA aB av aw aC), cBlk ah (encB (List.replicate 12 false)) 96, cBlk am [aa, ab, ac, ae, I ai, I aj, ag] 29] R) [(0, true), (1, true), (2, true), (3, false), (4, true)] mixed (by decide +kernel) rfl ?_
  intro cl aE
  replace H := H.ext aE
  clear aE
  refine ⟨(H.pk [0, 1, 2, 4]), ?_⟩
  refine d_q rfl (fun w' H => x_ld (p := Pq ah) (v := .agg (encB (List.replicate 12 false)).toArray) rfl (ldArrA Ag96 Sz96 aG (H.bl 2))) ?_
  refine d_q rfl (fun w' H => x_mv (v := I e2) rfl) ?_
  refine d_q rfl (fun w' H => x_as (v := .pointer none) rfl) ?_
  refine d_l rfl ?_
  refine t_stArrA (k := 3) (b := au) (l := List.replicate 12 false) (l' := List.replicate 12 false) (L' := [cBlk ap [aa, ab, ac, ae, I av, I aw, ag, .map (some ax)] 111, cMem encDm ax aH (zaa aq az aA aB av aw aC), cBlk ah (encB (List.replicate 12 false)) 96, cBlk au (encB (List.replicate 12 false)) 96, cBlk am [aa, ab, ac, ae, I ai, I aj, ag] 29]) H rfl rfl rfl Sz96 aP aG rfl ?_
  intro cm H
  refine s_nil ⟨(H.pk [0, 1, 2, 4]), ?_⟩
  refine d_q rfl (fun w' H => x_as (v := I e2) rfl) ?_
  refine d_nil ?_
  replace H := H.pk [3]
  refine W.ret ?_
  have bM := (H.bl 0)
  have aD := M.e_pure hM
  exact ⟨_, (resE_ofn (vs := [.pointer none, .agg (encB (List.replicate 12 false)).toArray, I e2]) rfl rfl (.tmp (v := .pointer none) rfl <| .cell (v := .agg (encB (List.replicate 12 false)).toArray) rfl (run_loadVar_arr Ag96 Sz96 aG bM) <| .tmp (v := I e2) rfl <| .nil)), .inl (⟨(List.replicate 12 false), e2, aD, rfl, (H.pk []), aG⟩)⟩
 replace hM := M.e_f hM aM
 simp only [qy1, qy2, qy3, qy4, qy5, qy6, ne_eq, qy7] at aM
 refine W.skip ?_
 refine W.seq ?_
 refine W.seq ?_
 refine W.region rfl ?_
 refine zM ao rfl ?_
 have cn := (aF).len_le
 refine s_val (x_lenS T22.und rfl aF) ?_
 refine zM (I 0) rfl ?_
 refine s_nil ?_
 refine W.block ?_
 obtain ⟨bN, aU, bO⟩ := M.e_bind hM
 obtain ⟨bC, aU⟩ := M.e_iter aU
 refine W.loop (fun m σ W => ∃ (ar : List Bool) (s : Nat) (ρ : Env), σ = upds ρ [(5, Pq au), (7, Pq ah), (8, Pq ap), (31, ao), (32, I (watches.length : Int)), (33, I (s : Int))] /\ M.iterN (zbo watches) m (ar, s) = some bN /\ St w W [cBlk ap [aa, ab, ac, ae, I av, I aw, ag, .map (some ax)] 111, cMem encDm ax aH (zaa aq az aA aB av aw aC), cBlk ah (encB ar) 96, cBlk au (encB (List.replicate 12 false)) 96, cBlk am [aa, ab, ac, ae, I ai, I aj, ag] 29] R /\ ar.length = 12) ?_ ?_
 ·exact ⟨_, List.replicate 12 false, 0, _, upds_of _ _ ⟨rfl, rfl, rfl, rfl, rfl, rfl, trivial⟩, aU, H, aG⟩
 rintro co σ cp ⟨ar, s, ρ, rfl, bf, H, ay⟩
 obtain ⟨bP, bQ, cq, hM, bg⟩ := M.e_iterN bf
 simp only [zbo] at hM
 clear bf
 refine W.seq ?_
 refine W.region rfl ?_
 refine zC (s : Int) (watches.length : Int) (decide ((s : Int) < (watches.length : Int))) rfl rfl rfl ?_
 refine s_nil ?_
 refine W.seq ?_
 refine W.cond (decide ((s : Int) < (watches.length : Int))) rfl (fun aN => ?_) (fun aN => ?_)
 ·replace hM := M.e_t hM aN
  simp only [qy1, qy2, qy3, qy4, qy5, qy6, ne_eq, qy7] at aN
  refine W.skip ?_
  refine W.seq ?_
  refine W.block ?_
  refine W.seq ?_
  refine W.region rfl ?_
  obtain ⟨bR, hM⟩ := M.e_grd hM
  simp only [Bool.and_eq_true, decide_eq_true_eq] at bR
  refine s_val (x_ix (a := ao) (b := I (s : Int)) (v := vat ao 1 (Int.toNat (s : Int))) rfl rfl (Sl.ix (α := Int) T22.und T22.size aF (by omega) (by omega))) ?_
  refine s_val (x_ld (p := vat ao 1 (Int.toNat (s : Int))) (v := I (watches.getD s 0)) rfl (ld_sc Sc3 (At.mono (Int_at aF (i := (s : Int)) (by omega) (by omega)) (aO.at H)))) ?_
  refine zA (I (watches.getD s 0)) rfl ?_
  refine s_nil ?_
  refine W.region rfl ?_
  refine zM (I (watches.getD s 0)) rfl ?_
  obtain ⟨bS, hM⟩ := M.e_grd hM
  simp only [Bool.and_eq_true, decide_eq_true_eq] at bS
  refine s_val (x_ix (a := Pq ah) (b := I (watches.getD s 0)) (v := .pointer (some ⟨ah, 0 + Int.toNat (watches.getD s 0), none⟩)) rfl rfl (run_indexArr Tryz.underlying96 Sz4 (by omega) (by omega))) ?_
  refine t_stArr (k := 2) (b := ah) (l := ar) (l' := ar.set (Int.toNat (watches.getD s 0)) true) (i := watches.getD s 0) (v := true) (L' := [cBlk ap [aa, ab, ac, ae, I av, I aw, ag, .map (some ax)] 111, cMem encDm ax aH (zaa aq az aA aB av aw aC), cBlk ah (encB (ar.set (Int.toNat (watches.getD s 0)) true)) 96, cBlk au (encB (List.replicate 12 false)) 96, cBlk am [aa, ab, ac, ae, I ai, I aj, ag] 29]) H rfl rfl rfl Sz4 (by omega) (by have bH := ay; omega) rfl rfl ?_
  intro cr H
  have bT : (ar.set (Int.toNat (watches.getD s 0)) true).length = 12 := List.length_set.trans ay
  refine s_nil ?_
  refine W.region rfl ?_
  refine zR (s : Int) 1 ((s : Int) + 1) rfl rfl rfl (by omega) ?_
  refine zM (I ((s : Int) + 1)) rfl ?_
  refine s_nil ?_
  exact ⟨bP, bQ, ar.set (Int.toNat (watches.getD s 0)) true, s + 1, _, upds_of _ _ ⟨rfl, rfl, rfl, rfl, rfl, rfl, trivial⟩, M.e_inl hM bg, H, bT⟩
 replace hM := M.e_f hM aN
 simp only [qy1, qy2, qy3, qy4, qy5, qy6, ne_eq, qy7] at aN
 refine W.exit ?_
 have bU := M.e_inr hM bg
 subst bU
 replace hM := bO
 try dsimp only at hM
 refine W.seq ?_
 refine W.draw (fun W => St w W [cBlk ap [aa, ab, ac, ae, I av, I aw, ag, .map (some ax)] 111, cMem encDm ax aH (zaa aq az aA aB av aw aC), cBlk ah (encB ar) 96, cBlk am [aa, ab, ac, ae, I ai, I aj, ag] 29] R) [(0, true), (1, true), (2, true), (3, false), (4, true)] mixed (by decide +kernel) rfl ?_
 intro cu aE
 replace H := H.ext aE
 clear aE
 refine ⟨(H.pk [0, 1, 2, 4]), ?_⟩
 refine d_q rfl (fun w' H => x_mv (v := Pq ap) rfl) ?_
 refine d_q rfl (fun w' H => x_ld (p := Pq ah) (v := .agg (encB ar).toArray) rfl (ldArrA Ag96 Sz96 ay (H.bl 2))) ?_
 refine d_q rfl (fun w' H => x_as (v := Pq ap) rfl) ?_
 refine d_l rfl ?_
 refine t_stArrA (k := 3) (b := au) (l := List.replicate 12 false) (l' := ar) (L' := [cBlk ap [aa, ab, ac, ae, I av, I aw, ag, .map (some ax)] 111, cMem encDm ax aH (zaa aq az aA aB av aw aC), cBlk ah (encB ar) 96, cBlk au (encB ar) 96, cBlk am [aa, ab, ac, ae, I ai, I aj, ag] 29]) H rfl rfl rfl Sz96 aP ay rfl ?_
 intro cv H
 refine s_nil ⟨(H.pk [0, 1, 2, 4]), ?_⟩
 refine d_q rfl (fun w' H => x_as (v := I 0) rfl) ?_
 refine d_nil ?_
 replace H := H.pk [0, 1, 3]
 refine W.ret ?_
 have bV := (H.bl 2)
 have aD := M.e_pure hM
 exact ⟨_, (resE_ofn (vs := [Pq ap, .agg (encB ar).toArray, I 0]) rfl rfl (.tmp (v := Pq ap) rfl <| .cell (v := .agg (encB ar).toArray) rfl (run_loadVar_arr Ag96 Sz96 ay bV) <| .tmp (v := I 0) rfl <| .nil)), .inr (⟨av, aw, ar, 0, ap, ax, aH, aD, rfl, (H.pk [0, 1]), ay⟩)⟩

def zaS (t : Town) (ab : Int) (ae : Int) (ac : List Int) (aa : Int) : M Bool :=
  M.grd ((!(t.station == ab) || (decide ((0 : Int) <= aa) && decide (aa < (ac.length : Int))))) <|
  M.pure ((t.station == ab) && (decide (t.alarm <= (ac.getD (Int.toNat aa) 0))))
theorem zcU {R : List Chunk} {am : Nat} {ak : Nat} {ap : Cells} {ah : Value} {ao : Nat} (t : Town) (aa : Int) (aq : Int) (ae : List Int) (ab : Int) (av : Has R (cBlk am [I aa] 3)) (aw : Reads R ap) (au : Sl ap ah ae) (ax : Has R (cBlk ak [I aq, ah] 85)) (ay : Has R (cBlk ao [I ab] 3)) {r : Bool} (hM : (zaS t aa aq ae ab).Ends r) (w : World) (H : St w w [] R) : Ret Tryz.prog 93 #[.agg #[I t.station, I t.lead, I t.alarm], Pq am, Pq ak, Pq ao] w fun v w' => ∃ (y0 : Bool), y0 = r /\ v = B y0 /\ St w w' [] R := by
 refine ret_of_W Tryz.func93 rfl rfl rfl ?_
 refine W.seq ?_
 refine W.region rfl ?_
 refine t_box (v := .agg #[I t.station, I t.lead, I t.alarm]) (cs := [I t.station, I t.lead, I t.alarm]) H rfl rfl ?_
 intro ai aA H
 refine zA (B false) rfl ?_
 refine s_nil ?_
 refine W.seq ?_
 refine W.draw (fun W => St w W [cBlk ai [I t.station, I t.lead, I t.alarm] 91] R) [(0, true), (1, true), (2, true), (3, true), (4, true), (5, true), (6, true), (7, true), (8, true), (9, true), (10, true), (11, true), (12, true), (13, true), (14, true)] mixed (by decide +kernel) rfl ?_
 intro aB ag
 replace H := H.ext ag
 clear ag
 refine ⟨(H.pk [0]), ?_⟩
 refine d_q rfl (fun w' H => x_fa (a := Pq ai) (v := Pq ai) rfl (fa_blk (o := 0) Fd91_0 Sz3)) ?_
 refine d_q rfl (fun w' H => x_ld (p := Pq ai) (v := I t.station) rfl (ldb_sc Sc3 (H.bl 0) rfl)) ?_
 refine d_q rfl (fun w' H => x_ld (p := Pq am) (v := I aa) rfl (ldb_sc Sc3 (av.blk H) rfl)) ?_
 refine d_q rfl (fun w' H => x_cmp (kd := .i64) (a := t.station) (b := aa) (r := t.station == aa) rfl rfl rfl) ?_
 refine d_q rfl (fun w' H => x_mv (v := B (t.station == aa)) rfl) ?_
 refine d_qg (t.station == aa) rfl (gy_t rfl) (fun hg => (fun w' H => x_fa (a := Pq ak) (v := Oq ak 1) rfl (fa_blk (o := 0) Fd85_1 Sz22))) ?_
 refine d_qg (t.station == aa) rfl (gy_t rfl) (fun hg => (fun w' H => x_ld (p := Oq ak 1) (v := ah) (gd_of (c := t.station == aa) hg (Oq ak 1)) (ldb_sc Sc22 (ax.blk H) rfl))) ?_
 refine d_qg (t.station == aa) rfl (gy_t rfl) (fun hg => (fun w' H => x_ld (p := Pq ao) (v := I ab) rfl (ldb_sc Sc3 (ay.blk H) rfl))) ?_
 obtain ⟨aj, hM⟩ := M.e_grd hM
 replace aj := M.imp_of aj
 simp only [Bool.and_eq_true, decide_eq_true_eq] at aj
 refine d_qg (t.station == aa) rfl (gy_t rfl) (fun hg => (fun w' H => x_ix (a := ah) (b := I ab) (v := vat ah 1 (Int.toNat ab)) (gd_of (c := t.station == aa) hg (ah)) (gd_of (c := t.station == aa) hg (I ab)) (Sl.ix (α := Int) T22.und T22.size au (by have ac := aj.resolve_left (by rw [hg]; decide); first | exact ac | exact ac.1 | exact ac.2 | omega | (have ag := hg; simp at ag; omega)) (by have ac := aj.resolve_left (by rw [hg]; decide); first | exact ac | exact ac.1 | exact ac.2 | omega | (have ag := hg; simp at ag; omega))))) ?_
 refine d_qg (t.station == aa) rfl (gy_t rfl) (fun hg => (fun w' H => x_ld (p := vat ah 1 (Int.toNat ab)) (v := I (ae.getD (Int.toNat ab) 0)) (gd_of (c := t.station == aa) hg (vat ah 1 (Int.toNat ab))) (ld_sc Sc3 (At.mono (Int_at au (i := ab) (by have ac := aj.resolve_left (by rw [hg]; decide); first | exact ac | exact ac.1 | exact ac.2 | omega | (have ag := hg; simp at ag; omega)) (by have ac := aj.resolve_left (by rw [hg]; decide); first | exact ac | exact ac.1 | exact ac.2 | omega | (have ag := hg; simp at ag; omega))) (aw.at H))))) ?_
 refine d_qg (t.station == aa) rfl (gy_t rfl) (fun hg => (fun w' H => x_fa (a := Pq ai) (v := Oq ai 2) rfl (fa_blk (o := 0) Fd91_2 Sz3))) ?_
 refine d_qg (t.station == aa) rfl (gy_t rfl) (fun hg => (fun w' H => x_ld (p := Oq ai 2) (v := I t.alarm) (gd_of (c := t.station == aa) hg (Oq ai 2)) (ldb_sc Sc3 (H.bl 0) rfl))) ?_
 refine d_qg (t.station == aa) rfl (gy_t rfl) (fun hg => (fun w' H => x_cmp (kd := .i64) (a := ae.getD (Int.toNat ab) 0) (b := t.alarm) (r := decide (t.alarm <= (ae.getD (Int.toNat ab) 0))) (gd_of (c := t.station == aa) hg (I (ae.getD (Int.toNat ab) 0))) (gd_of (c := t.station == aa) hg (I t.alarm)) rfl)) ?_
 refine d_q rfl (fun w' H => x_pand (b := t.station == aa) (r := decide (t.alarm <= (ae.getD (Int.toNat ab) 0))) rfl (fun hb => gd_of (c := t.station == aa) (by first | exact hb | (rw [hb]; rfl) | simp_all) (B (decide (t.alarm <= (ae.getD (Int.toNat ab) 0))))) rfl) ?_
 refine d_q rfl (fun w' H => x_as (v := B ((t.station == aa) && (decide (t.alarm <= (ae.getD (Int.toNat ab) 0))))) rfl) ?_
 refine d_nil ?_
 refine W.ret ?_
 have az := M.e_pure hM
 exact ⟨_, resE_tmp rfl, ⟨((t.station == aa) && (decide (t.alarm <= (ae.getD (Int.toNat ab) 0)))), az, rfl, (H.pk [])⟩⟩

def zaP (ab : List Town) (f : Flood) (p : List Bool) : (Int × Int × Bool) -> (Int × Int) -> M ((Int × Int × Bool) ⊕ Unit) := fun (s3, s4, s5) (x, x2) =>
  M.grd (decide ((0 : Int) <= x2) && decide (x2 < (12 : Int))) <|
  bif ((p.getD (Int.toNat x2) false) && (s3 == (-1))) then (
  M.grd (decide ((0 : Int) <= x) && decide (x < (f.stages.length : Int))) <|
  M.bind (zar ab (fun aa => zaS aa x2 f.spring f.stages x)) fun r2 =>
  bif r2 then (
  M.pure (.inl (x2, f.stages.getD (Int.toNat x) 0, true)))
  else (
  M.pure (.inl (x2, f.stages.getD (Int.toNat x) 0, s5))))
  else (
  M.bind (zar ab (fun aa => zaS aa x2 f.spring f.stages x)) fun r2 =>
  bif r2 then (
  M.pure (.inl (s3, s4, true)))
  else (
  M.pure (.inl (s3, s4, s5))))
def zak (ab : List Int) (ac : List Span) (ae : List Int) (aa : List Town) (ah : Int) (ai : Int) (ag : List Flood) (f : Flood) (p : List Bool) : M (Int × Int × Bool) :=
  M.bind (zap ab ac ae aa ah ai ag f.spring) fun (aj, ak, am) =>
  M.bind (zan (M.yl (zaP aa f p)) (.inl (-1, 0, false)) aj ab ac ae aa ak am ag) fun x_ => match x_ with
  | (.inl (s3, s4, s5), q0) => (
  M.pure (s3, s4, s5))
  | (.inr _, _) => M.fail
theorem zaL {R : List Chunk} {aa : Nat} {bq : Cells} {ah : Value} {br : Cells} {ai : Value} {bt : Cells} {aj : Value} {bu : Cells} {ae : Value} {bv : Cells} {ak : Value} {bz : Nat} {bw : Cells} {ag : Value} (aM : List Int) (aN : List Span) (aO : List Int) (ao : List Town) (aC : Int) (aD : Int) (aP : List Flood) (f : Flood) (p : List Bool) (aQ : Reads R bq) (aY : Sl bq ah aM) (aR : Reads R br) (aZ : Sl br ai aN) (aS : Reads R bt) (a6 : Sl bt aj aO) (aE : Reads R bu) (aF : Sl bu ae ao) (aT : Reads R bv) (a7 : Sl bv ak aP) (aG : Has R (cBlk aa [ah, ai, aj, ae, I aC, I aD, ak, .map (some bz)] 111)) (aH : Reads R bw) (aI : Sl bw ag f.stages) (bA : p.length = 12) {r : (Int × Int × Bool)} (hM : (zak aM aN aO ao aC aD aP f p).Ends r) (w : World) (H : St w w [] R) : Ret Tryz.prog 48 #[Pq aa, .agg #[I f.spring, ag], .agg (encB p).toArray] w fun v w' => ∃ (y0 : Int) (y1 : Int) (y2 : Bool), (y0, y1, y2) = r /\ v = .agg #[I y0, I y1, B y2] /\ St w w' [] R := by
 refine ret_of_WD Tryz.func48 rfl rfl rfl ?_
 replace H : St w w [cMk ([])] R := H.mk0
 have bW := aY.len_le
 have bX := aZ.len_le
 have bY := a6.len_le
 have bZ := aF.len_le
 have b3 := a7.len_le
 have b4 := aI.len_le
 unfold zak at hM
 refine WD.seq ?_
 refine WD.of ?_
 refine W.region rfl ?_
 refine t_box (v := Pq aa) (cs := [Pq aa]) H rfl rfl ?_
 intro ap b5 H
 refine t_box (v := .agg #[I f.spring, ag]) (cs := [I f.spring, ag]) H rfl rfl ?_
 intro ac b6 H
 refine t_box (v := .agg (encB p).toArray) (cs := encB p) H rfl rfl ?_
 intro aq b7 H
 refine t_alloc (cs := [I 0, I 0, B false]) H Al101 rfl ?_
 intro ax b8 H
 refine s_nil ?_
 refine WD.seq ?_
 refine WD.of ?_
 refine W.region rfl ?_
 refine s_val (x_bld (ps := [(0, I (-1))]) (zs := [I 0, I 0, B false]) (L' := [I (-1), I 0, B false]) rfl Tryz.underlying101 Al101 rfl (Bd101 Tryz.underlying101) (.cons (cs := [I (-1)]) rfl rfl rfl rfl rfl <| .nil)) ?_
 refine t_alloc (cs := [I 0, I 0, B false]) H Al101 rfl ?_
 intro ab b9 H
 refine t_sw 0 0 [I (-1), I 0, B false] (.agg #[I (-1), I 0, B false]) H rfl rfl Sz101 rfl rfl rfl rfl ?_
 intro ca H
 refine s_nil ?_
 refine WD.seq ?_
 refine WD.seq ?_
 refine WD.of ?_
 refine W.draw (fun W => St w W [cBlk ab [I (-1), I 0, B false] 101, cBlk ax [I 0, I 0, B false] 101, cBlk aq (encB p) 96, cBlk ac [I f.spring, ag] 85, cBlk ap [Pq aa] 94, cMk ([])] R) [(0, true), (1, true), (2, true), (3, true), (4, true), (5, true), (6, false)] mixed (by decide +kernel) rfl ?_
 intro cb aJ
 replace H := H.ext aJ
 clear aJ
 refine ⟨(H.pk [0, 1, 2, 3, 4, 5]), ?_⟩
 refine d_q rfl (fun w' H => x_ld (p := Pq ap) (v := Pq aa) rfl (ldb_sc Sc94 (H.bl 4) rfl)) ?_
 refine d_q rfl (fun w' H => x_nc (a := ⟨aa, 0, none⟩) rfl) ?_
 refine d_q rfl (fun w' H => x_fa (a := Pq aa) (v := Pq aa) rfl (fa_blk (o := 0) Fd111_0 Sz29)) ?_
 refine d_q rfl (fun w' H => x_ld (p := Pq aa) (v := .agg #[ah, ai, aj, ae, I aC, I aD, ak]) rfl (ldb_ag (ds := [ah, ai, aj, ae, I aC, I aD, ak]) Ag29 Sz29 (aG.blk H) rfl rfl)) ?_
 refine d_q rfl (fun w' H => x_fa (a := Pq ac) (v := Pq ac) rfl (fa_blk (o := 0) Fd85_0 Sz3)) ?_
 refine d_q rfl (fun w' H => x_ld (p := Pq ac) (v := I f.spring) rfl (ldb_sc Sc3 (H.bl 3) rfl)) ?_
 refine d_l rfl ?_
 obtain ⟨cc, bB, hM⟩ := M.e_bind hM
 refine s_call cf66 [.agg #[ah, ai, aj, ae, I aC, I aD, ak], I f.spring] rfl (zbG aM aN aO ao aC aD aP f.spring (aQ.app _) aY (aR.app _) aZ (aS.app _) a6 (aE.app _) aF (aT.app _) a7 bB _ (H.gt 6)) ?_
 rintro vq ce ⟨aU, ay, az, aK, aA, bC, hvq, am⟩
 subst bC
 subst vq
 try dsimp only at hM
 replace H := H.bk am
 clear am
 refine s_nil ⟨(H.pk [2, 3, 4, 5, 6, 7]), ?_⟩
 refine d_nil ?_
 refine WD.block ?_
 obtain ⟨cf, bD, hM⟩ := M.e_bind hM
 refine WD.range (L := [cBlk ab [I (-1), I 0, B false] 101, cBlk aA [ah, ai, aj, ae, I ay, I az, ak] 29, cBlk ax [I 0, I 0, B false] 101, cBlk aq (encB p) 96, cBlk ac [I f.spring, ag] 85, cBlk ap [Pq aa] 94, cBlk aK [I aU] 3]) [Pq aK, Pq aA] (H.pk [7, 2, 1, 3, 4, 5, 6, 0]) rfl cf96 ?_
 intro aV aW a8 bE ba H
 have hYC : YieldC Tryz.prog ([cMk (aW :: ([])), cBlk aA [ah, ai, aj, ae, I ay, I az, ak] 29, cBlk ax [I 0, I 0, B false] 101, cBlk aq (encB p) 96, cBlk ac [I f.spring, ag] 85, cBlk ap [Pq aa] 94] ++ R) arII (yJ aV a8 (fun (s3, s4, s5) aX => aX = [cBlk ab [I s3, I s4, B s5] 101]) (fun (_ : Unit) _ => False) (fun _ => .ret)) (.func (.yield aV) #[] #[]) (M.yl (zaP ao f p)) := by
  refine YieldC.mk2 ba (fun (s3, s4, s5) aX => aX = [cBlk ab [I s3, I s4, B s5] 101]) (fun (_ : Unit) _ => False) (fun _ => .ret) (zaP ao f p) (by rintro ⟨s3, s4, s5⟩ _ h_; obtain ⟨rfl⟩ := h_; rfl) (fun _ _ h_ => h_.elim) rfl (arII_len rfl) ?_
  intro C_ cg x_ bF
  obtain ⟨x, x2⟩ := x_
  obtain rfl := bF
  intro w R av aX s_ r bG hM H
  obtain ⟨s3, s4, s5⟩ := s_
  obtain ⟨rfl⟩ := bG
  replace H := H.nf
  refine W.seq ?_
  refine W.region rfl ?_
  refine t_alloc (cs := [I 0]) H Al3 rfl ?_
  intro aw ci H
  refine t_sw 0 0 [I x] (I x) H rfl rfl Sz3 rfl rfl rfl rfl ?_
  intro cj H
  refine s_nil ?_
  refine W.region rfl ?_
  refine t_alloc (cs := [I 0]) H Al3 rfl ?_
  intro au ck H
  refine t_sw 0 0 [I x2] (I x2) H rfl rfl Sz3 rfl rfl rfl rfl ?_
  intro cl H
  refine s_nil ?_
  refine ⟨rfl, [cBlk au [I x2] 3, cBlk aw [I x] 3], H.pick [0, 1, 2, 3, 4, 5, 6, 7, 8] (by decide) rfl, ?_⟩
  clear H av
  intro w R av H
  replace aQ := aQ.sub av
  replace aR := aR.sub av
  replace aS := aS.sub av
  replace aE := aE.sub av
  replace aT := aT.sub av
  replace aG := aG.sub av
  replace aH := aH.sub av
  replace hM : (zaP ao f p (s3, s4, s5) (x, x2)).Ends r := hM
  simp only [zaP] at hM
  replace H := H.nf
  refine W.block ?_
  refine W.seq ?_
  refine W.seq ?_
  refine W.region rfl ?_
  refine s_val (x_ld (p := Pq au) (v := I x2) rfl (ldb_sc Sc3 (H.bl 0) rfl)) ?_
  obtain ⟨bH, hM⟩ := M.e_grd hM
  simp only [Bool.and_eq_true, decide_eq_true_eq] at bH
  refine s_val (x_ix (a := Pq aq) (b := I x2) (v := .pointer (some ⟨aq, 0 + Int.toNat x2, none⟩)) rfl rfl (run_indexArr Tryz.underlying96 Sz4 (by omega) (by omega))) ?_
  refine s_val (x_ld (p := .pointer (some ⟨aq, 0 + Int.toNat x2, none⟩)) (v := B (p.getD (Int.toNat x2) false)) rfl (ldArr Sc4 (H.bl 6) (by omega) (by have cm := bA; omega))) ?_
  refine zM (B (p.getD (Int.toNat x2) false)) rfl ?_
  refine g_val (p.getD (Int.toNat x2) false) (gy_t rfl) (fun hg => x_fa (a := Pq ab) (v := Pq ab) rfl (fa_blk (o := 0) Fd101_0 Sz3)) ?_
  refine g_val (p.getD (Int.toNat x2) false) (gy_t rfl) (fun hg => x_ld (p := Pq ab) (v := I s3) (gd_of (c := p.getD (Int.toNat x2) false) hg (Pq ab)) (ldb_sc Sc3 (H.bl 2) rfl)) ?_
  refine g_val (p.getD (Int.toNat x2) false) (gy_t rfl) (fun hg => x_cmp (kd := .i64) (a := s3) (b := -1) (r := s3 == (-1)) (gd_of (c := p.getD (Int.toNat x2) false) hg (I s3)) rfl rfl) ?_
  refine s_val (x_pand (b := p.getD (Int.toNat x2) false) (r := s3 == (-1)) rfl (fun hb => gd_of (c := p.getD (Int.toNat x2) false) (by first | exact hb | (rw [hb]; rfl) | simp_all) (B (s3 == (-1)))) rfl) ?_
  refine s_nil ?_
  refine W.cond ((p.getD (Int.toNat x2) false) && (s3 == (-1))) rfl (fun bc => ?_) (fun bc => ?_)
  ·replace hM := M.e_t hM bc
   refine W.draw (fun W => St w W [cBlk au [I x2] 3, cBlk aw [I x] 3, cMk (aW :: ([])), cBlk aA [ah, ai, aj, ae, I ay, I az, ak] 29, cBlk ax [I 0, I 0, B false] 101, cBlk aq (encB p) 96, cBlk ac [I f.spring, ag] 85, cBlk ap [Pq aa] 94] R) [(0, true), (1, true), (2, true), (3, true), (4, true), (5, true), (6, true), (7, false), (8, true), (9, false)] mixed (by decide +kernel) rfl ?_
   intro cn aJ
   replace H := H.ext aJ
   clear aJ
   refine ⟨(H.pk [0, 1, 3, 4, 5, 6, 7, 8]), ?_⟩
   refine d_q rfl (fun w' H => x_ld (p := Pq au) (v := I x2) rfl (ldb_sc Sc3 (H.bl 0) rfl)) ?_
   refine d_q rfl (fun w' H => x_fa (a := Pq ac) (v := Oq ac 1) rfl (fa_blk (o := 0) Fd85_1 Sz22)) ?_
   refine d_q rfl (fun w' H => x_ld (p := Oq ac 1) (v := ag) rfl (ldb_sc Sc22 (H.bl 6) rfl)) ?_
   refine d_q rfl (fun w' H => x_ld (p := Pq aw) (v := I x) rfl (ldb_sc Sc3 (H.bl 1) rfl)) ?_
   obtain ⟨bI, hM⟩ := M.e_grd hM
   simp only [Bool.and_eq_true, decide_eq_true_eq] at bI
   refine d_q rfl (fun w' H => x_ix (a := ag) (b := I x) (v := vat ag 1 (Int.toNat x)) rfl rfl (Sl.ix (α := Int) T22.und T22.size aI (by omega) (by omega))) ?_
   refine d_q rfl (fun w' H => x_ld (p := vat ag 1 (Int.toNat x)) (v := I (f.stages.getD (Int.toNat x) 0)) rfl (ld_sc Sc3 (At.mono (Int_at aI (i := x) (by omega) (by omega)) (aH.at H)))) ?_
   refine d_q rfl (fun w' H => x_fa (a := Pq ab) (v := Pq ab) rfl (fa_blk (o := 0) Fd101_0 Sz3)) ?_
   refine d_l rfl ?_
   refine t_sw 2 0 [I x2] (I x2) H rfl rfl Sz3 rfl rfl rfl rfl ?_
   intro co H
   refine s_nil ⟨(H.pk [0, 1, 3, 4, 5, 6, 7, 8]), ?_⟩
   refine d_q rfl (fun w' H => x_fa (a := Pq ab) (v := Oq ab 1) rfl (fa_blk (o := 0) Fd101_1 Sz3)) ?_
   refine d_l rfl ?_
   refine t_sw 2 1 [I (f.stages.getD (Int.toNat x) 0)] (I (f.stages.getD (Int.toNat x) 0)) H rfl rfl Sz3 rfl rfl rfl rfl ?_
   intro cp H
   refine s_nil ⟨(H.pk [0, 1, 3, 4, 5, 6, 7, 8]), ?_⟩
   refine d_nil ?_
   refine W.seq ?_
   refine W.region rfl ?_
   refine s_val (x_ld (p := Pq ap) (v := Pq aa) rfl (ldb_sc Sc94 (H.bl 8) rfl)) ?_
   refine s_val (x_nc (a := ⟨aa, 0, none⟩) rfl) ?_
   refine s_val (x_fa (a := Pq aa) (v := Pq aa) rfl (fa_blk (o := 0) Fd111_0 Sz29)) ?_
   refine s_val (x_fa (a := Pq aa) (v := Oq aa 3) rfl (fa_blk (o := 0) Fd29_3 Sz24)) ?_
   refine s_val (x_ld (p := Oq aa 3) (v := ae) rfl (ldb_sc Sc24 (aG.blk H) rfl)) ?_
   refine s_val (x_mf (fs := []) (cs := [Pq au, Pq ac, Pq aw]) rfl rfl) ?_
   obtain ⟨cq, bJ, hM⟩ := M.e_bind hM
   refine s_call cf92 [ae, .func (.func 93) #[] #[Pq au, Pq ac, Pq aw]] rfl (zcn ao (fun aB => zaS aB x2 f.spring f.stages x) (aE.app _) aF ⟨93, [Pq au, Pq ac, Pq aw], rfl, cf93, fun aL bK bL bf aB bM bg bN bh bi => by obtain rfl := Town_arg bh; exact (zcU aB x2 f.spring f.stages x (Has.app (Has.here (k := 0) rfl) _) (Reads.app (aH.app _) _) aI (Has.app (Has.here (k := 7) rfl) _) (Has.app (Has.here (k := 1) rfl) _) bi aL (St.refl bg)).mono fun bf aL ⟨bO, bj, bm, bn⟩ => by subst bj; exact ⟨bm, bn⟩⟩ bJ _ (H.gt 9)) ?_
   rintro vq cr ⟨r2, bP, hvq, am⟩
   subst bP
   subst vq
   try dsimp only at hM
   replace H := H.bk am
   clear am
   refine s_nil ?_
   refine W.cond r2 rfl (fun bo => ?_) (fun bo => ?_)
   ·replace hM := M.e_t hM bo
    refine W.region rfl ?_
    refine s_val (x_fa (a := Pq ab) (v := Oq ab 2) rfl (fa_blk (o := 0) Fd101_2 Sz4)) ?_
    refine t_sw 2 2 [B true] (B true) H rfl rfl Sz4 rfl rfl rfl rfl ?_
    intro cu H
    refine s_nil ?_
    exact ⟨(x2, f.stages.getD (Int.toNat x) 0, true), [cBlk ab [I x2, I (f.stages.getD (Int.toNat x) 0), B true] 101], (M.e_pure hM).symm, rfl, H.pick [2, 3, 4, 5, 6, 7, 8] (by decide) rfl⟩
   replace hM := M.e_f hM bo
   refine W.skip ?_
   exact ⟨(x2, f.stages.getD (Int.toNat x) 0, s5), [cBlk ab [I x2, I (f.stages.getD (Int.toNat x) 0), B s5] 101], (M.e_pure hM).symm, rfl, H.pick [2, 3, 4, 5, 6, 7, 8] (by decide) rfl⟩
  replace hM := M.e_f hM bc
  refine W.skip ?_
  refine W.seq ?_
  refine W.region rfl ?_
  refine s_val (x_ld (p := Pq ap) (v := Pq aa) rfl (ldb_sc Sc94 (H.bl 8) rfl)) ?_
  refine s_val (x_nc (a := ⟨aa, 0, none⟩) rfl) ?_
  refine s_val (x_fa (a := Pq aa) (v := Pq aa) rfl (fa_blk (o := 0) Fd111_0 Sz29)) ?_
  refine s_val (x_fa (a := Pq aa) (v := Oq aa 3) rfl (fa_blk (o := 0) Fd29_3 Sz24)) ?_
  refine s_val (x_ld (p := Oq aa 3) (v := ae) rfl (ldb_sc Sc24 (aG.blk H) rfl)) ?_
  refine s_val (x_mf (fs := []) (cs := [Pq au, Pq ac, Pq aw]) rfl rfl) ?_
  obtain ⟨cv, bQ, hM⟩ := M.e_bind hM
  refine s_call cf92 [ae, .func (.func 93) #[] #[Pq au, Pq ac, Pq aw]] rfl (zcn ao (fun aB => zaS aB x2 f.spring f.stages x) (aE.app _) aF ⟨93, [Pq au, Pq ac, Pq aw], rfl, cf93, fun aL bK bL bf aB bM bg bN bh bi => by obtain rfl := Town_arg bh; exact (zcU aB x2 f.spring f.stages x (Has.app (Has.here (k := 0) rfl) _) (Reads.app (aH.app _) _) aI (Has.app (Has.here (k := 7) rfl) _) (Has.app (Has.here (k := 1) rfl) _) bi aL (St.refl bg)).mono fun bf aL ⟨bO, bj, bm, bn⟩ => by subst bj; exact ⟨bm, bn⟩⟩ bQ _ (H.gt 9)) ?_
  rintro vq cw ⟨r2, bR, hvq, am⟩
  subst bR
  subst vq
  try dsimp only at hM
  replace H := H.bk am
  clear am
  refine s_nil ?_
  refine W.cond r2 rfl (fun bp => ?_) (fun bp => ?_)
  ·replace hM := M.e_t hM bp
   refine W.region rfl ?_
   refine s_val (x_fa (a := Pq ab) (v := Oq ab 2) rfl (fa_blk (o := 0) Fd101_2 Sz4)) ?_
   refine t_sw 2 2 [B true] (B true) H rfl rfl Sz4 rfl rfl rfl rfl ?_
   intro cx H
   refine s_nil ?_
   exact ⟨(s3, s4, true), [cBlk ab [I s3, I s4, B true] 101], (M.e_pure hM).symm, rfl, H.pick [2, 3, 4, 5, 6, 7, 8] (by decide) rfl⟩
  replace hM := M.e_f hM bp
  refine W.skip ?_
  exact ⟨(s3, s4, s5), [cBlk ab [I s3, I s4, B s5] 101], (M.e_pure hM).symm, rfl, H.pick [2, 3, 4, 5, 6, 7, 8] (by decide) rfl⟩
 replace H : St w bE (cAll (cObj aV (.loop a8) :: [cBlk ab [I (-1), I 0, B false] 101]) :: [cBlk aK [I aU] 3, cMk (aW :: ([])), cBlk aA [ah, ai, aj, ae, I ay, I az, ak] 29, cBlk ax [I 0, I 0, B false] 101, cBlk aq (encB p) 96, cBlk ac [I f.spring, ag] 85, cBlk ap [Pq aa] 94]) R := St.bundleB (A := cObj aV (.loop a8) :: [cBlk ab [I (-1), I 0, B false] 101]) (T := [cBlk aK [I aU] 3, cMk (aW :: ([])), cBlk aA [ah, ai, aj, ae, I ay, I az, ak] 29, cBlk ax [I 0, I 0, B false] 101, cBlk aq (encB p) 96, cBlk ac [I f.spring, ag] 85, cBlk ap [Pq aa] 94]) rfl (H.pk [0, 2, 8, 1, 3, 4, 5, 6, 7])
 refine (zbL (M.yl (zaP ao f p)) (.inl (-1, 0, false)) aU aM aN aO ao ay az aP hYC ⟨_, rfl, rfl⟩ (aQ.app _) aY (aR.app _) aZ (aS.app _) a6 (aE.app _) aF (aT.app _) a7 (Has.here (k := 1) rfl) bD _ (H.gt 6)).mono ?_
 rintro vq cy ⟨bS, q0, cz, bT, hvq, am, bx⟩
 subst bT
 replace H := H.back am rfl
 clear am hYC
 rcases bS with ⟨s3, s4, s5⟩ | _
 ·try dsimp only at hM
  obtain ⟨_, rfl, rfl⟩ := bx
  refine ⟨_, [cBlk ab [I s3, I s4, B s5] 101, cBlk aA [ah, ai, aj, ae, I ay, I az, ak] 29, cBlk ax [I 0, I 0, B false] 101, cBlk aq (encB p) 96, cBlk ac [I f.spring, ag] 85, cBlk ap [Pq aa] 94, cBlk aK [I q0] 3], H.unbundle.pick [0, 3, 1, 4, 5, 6, 7, 8, 2] (by decide) rfl, ba.nb, ?_⟩
  intro cA H
  rw [ba.pd]
  replace H := H.nf
  try simp only []
  replace H := H.pk [0, 1, 3]
  refine WD.seq ?_
  refine WD.of ?_
  refine W.region rfl ?_
  refine s_val (x_ld (p := Pq ab) (v := .agg #[I s3, I s4, B s5]) rfl (ldb_ag (ds := [I s3, I s4, B s5]) Ag101 Sz101 (H.bl 1) rfl rfl)) ?_
  refine t_sw 2 0 [I s3, I s4, B s5] (.agg #[I s3, I s4, B s5]) H rfl rfl Sz101 rfl rfl rfl rfl ?_
  intro cB H
  refine s_nil ?_
  refine WD.of ?_
  refine W.ret ?_
  refine bodyD_r (H.pk [0, 1, 2]) ?_
  intro cC H
  replace H := H.nf
  have bU := (H.bl 1)
  have bV := M.e_pure hM
  exact ⟨_, (resE_of1 (v := .agg #[I s3, I s4, B s5]) rfl (.cell (v := .agg #[I s3, I s4, B s5]) rfl (run_loadVar_ag (ds := [I s3, I s4, B s5]) Ag101 Sz101 bU rfl rfl) <| .nil)), ⟨s3, s4, s5, bV, rfl, (H.pk [])⟩⟩
 obtain ⟨_, _, h_⟩ := bx; exact h_.elim

def zcX (x : Rpt) (aa : Int) : M Bool :=
  M.pure (x.danger && (x.watch == aa))
theorem zdq {R : List Chunk} {ac : Nat} (x : Rpt) (aa : Int) (ae : Has R (cBlk ac [I aa] 3)) {r : Bool} (hM : (zcX x aa).Ends r) (w : World) (H : St w w [] R) : Ret Tryz.prog 52 #[.agg #[I x.watch, I x.stage, B x.danger], Pq ac] w fun v w' => ∃ (y0 : Bool), y0 = r /\ v = B y0 /\ St w w' [] R := by
 refine ret_of_W Tryz.func52 rfl rfl rfl ?_
 refine W.seq ?_
 refine W.region rfl ?_
 refine t_box (v := .agg #[I x.watch, I x.stage, B x.danger]) (cs := [I x.watch, I x.stage, B x.danger]) H rfl rfl ?_
 intro ab ah H
 refine zA (B false) rfl ?_
 refine s_nil ?_
 refine W.seq ?_
 refine W.region rfl ?_
 refine s_val (x_fa (a := Pq ab) (v := Oq ab 2) rfl (fa_blk (o := 0) Fd101_2 Sz4)) ?_
 refine s_val (x_ld (p := Oq ab 2) (v := B x.danger) rfl (ldb_sc Sc4 (H.bl 0) rfl)) ?_
 refine zM (B x.danger) rfl ?_
 refine g_val x.danger (gy_t rfl) (fun hg => x_fa (a := Pq ab) (v := Pq ab) rfl (fa_blk (o := 0) Fd101_0 Sz3)) ?_
 refine g_val x.danger (gy_t rfl) (fun hg => x_ld (p := Pq ab) (v := I x.watch) (gd_of (c := x.danger) hg (Pq ab)) (ldb_sc Sc3 (H.bl 0) rfl)) ?_
 refine g_val x.danger (gy_t rfl) (fun hg => x_ld (p := Pq ac) (v := I aa) rfl (ldb_sc Sc3 (ae.blk H) rfl)) ?_
 refine g_val x.danger (gy_t rfl) (fun hg => x_cmp (kd := .i64) (a := x.watch) (b := aa) (r := x.watch == aa) (gd_of (c := x.danger) hg (I x.watch)) (gd_of (c := x.danger) hg (I aa)) rfl) ?_
 refine s_val (x_pand (b := x.danger) (r := x.watch == aa) rfl (fun hb => gd_of (c := x.danger) (by first | exact hb | (rw [hb]; rfl) | simp_all) (B (x.watch == aa))) rfl) ?_
 refine zA (B (x.danger && (x.watch == aa))) rfl ?_
 refine s_nil ?_
 refine W.ret ?_
 have ag := M.e_pure hM
 exact ⟨_, resE_tmp rfl, ⟨(x.danger && (x.watch == aa)), ag, rfl, (H.pk [])⟩⟩

def zbF (ab : List Int) (ac : List Span) (ae : List Int) (ag : List Town) (ah : Int) (ai : Int) (aa : List Flood) (p : List Bool) (aj : Int) : (Nat × (List Int)) -> M ((Nat × (List Int)) ⊕ ((List Int) × (List Int))) := fun (s, l) =>
  bif decide ((s : Int) < (aa.length : Int)) then (
  M.grd (decide ((s : Int) < (aa.length : Int))) <|
  M.bind (zak ab ac ae ag ah ai aa (aa.getD s default) p) fun (r0, r1, r2) =>
  M.bind (zcX (⟨(r0 : Int), (r1 : Int), r2⟩ : Rpt) aj) fun r3 =>
  bif r3 then (
  M.grd (decide ((l.length + ([(s : Int)]).length) * 8 <= 140737488355328)) <|
  M.pure (.inl (s + 1, l ++ ([(s : Int)]))))
  else (
  M.pure (.inl (s + 1, l))))
  else (
  M.pure (.inr (l, l)))
def zbX (aa : List Int) (ab : List Span) (ac : List Int) (ae : List Town) (ag : Int) (ah : Int) (ai : List Flood) (p : List Bool) (aj : Int) : M (List Int) :=
  M.bind (M.iter (zbF aa ab ac ae ag ah ai p aj) (0, [])) fun (l2, l3) =>
  M.pure l3
theorem zdG {R : List Chunk} {ab : Nat} {aE : Cells} {aF : Value} {aG : Cells} {aH : Value} {aI : Cells} {aJ : Value} {aK : Cells} {aL : Value} {aM : Cells} {ag : Value} {aV : Nat} {ah : Nat} (ap : List Int) (aq : List Span) (au : List Int) (av : List Town) (aw : Int) (ax : Int) (aa : List Flood) (p : List Bool) (ay : Int) (aW : Reads R aE) (aX : Sl aE aF ap) (aY : Reads R aG) (aZ : Sl aG aH aq) (a6 : Reads R aI) (a7 : Sl aI aJ au) (a8 : Reads R aK) (ba : Sl aK aL av) (aA : Reads R aM) (aj : Sl aM ag aa) (aN : Has R (cBlk ab [aF, aH, aJ, aL, I aw, I ax, ag, .map (some aV)] 111)) (aO : p.length = 12) (bc : Has R (cBlk ah [I ay] 3)) {r : (List Int)} (hM : (zbX ap aq au av aw ax aa p ay).Ends r) (w : World) (H : St w w [] R) : Ret Tryz.prog 51 #[Pq ab, .agg (encB p).toArray, .agg #[.func (.func 52) #[] #[Pq ah]]] w fun v w' => ∃ (y0 : List Int) (u0 : Value), y0 = r /\ v = u0 /\ St w w' [cOwn (α := Int) 3 u0 y0] R := by
 refine ret_of_W Tryz.func51 rfl rfl rfl ?_
 refine W.seq ?_
 refine W.region rfl ?_
 refine t_box (v := .agg (encB p).toArray) (cs := encB p) H rfl rfl ?_
 intro az bu H
 refine t_box (v := .agg #[.func (.func 52) #[] #[Pq ah]]) (cs := [.func (.func 52) #[] #[Pq ah]]) H rfl rfl ?_
 intro ai bv H
 refine zA (.slice none 0 0) rfl ?_
 refine s_nil ?_
 refine W.seq ?_
 refine W.region rfl ?_
 refine zA (.slice none 0 0) rfl ?_
 refine s_nil ?_
 refine W.seq ?_
 refine W.seq ?_
 refine W.region rfl ?_
 refine zM (Pq ab) rfl ?_
 refine s_val (x_nc (a := ⟨ab, 0, none⟩) rfl) ?_
 refine s_val (x_fa (a := Pq ab) (v := Pq ab) rfl (fa_blk (o := 0) Fd111_0 Sz29)) ?_
 refine s_val (x_fa (a := Pq ab) (v := Oq ab 6) rfl (fa_blk (o := 0) Fd29_5 Sz27)) ?_
 refine s_val (x_ld (p := Oq ab 6) (v := ag) rfl (ldb_sc Sc27 (aN.blk H) rfl)) ?_
 have bw := (aj).len_le
 refine s_val (x_lenS T27.und rfl aj) ?_
 refine zM (I 0) rfl ?_
 refine s_nil ?_
 refine W.block ?_
 replace H := H.nilOwn (α := Int) 3
 obtain ⟨bf, aB, bg⟩ := M.e_bind hM
 obtain ⟨bx, aB⟩ := M.e_iter aB
 refine W.loop (fun m σ W => ∃ (s : Nat) (l : List Int) (ac : Value) (ρ : Env), σ = upds ρ [(0, Pq ab), (4, Pq az), (5, Pq ai), (7, ac), (14, ag), (15, I (aa.length : Int)), (16, I (s : Int))] /\ M.iterN (zbF ap aq au av aw ax aa p ay) m (s, l) = some bf /\ St w W [cOwn (α := Int) 3 ac l, cBlk ai [.func (.func 52) #[] #[Pq ah]] 108, cBlk az (encB p) 96] R) ?_ ?_
 ·exact ⟨_, 0, [], (.slice none 0 0), _, upds_of _ _ ⟨rfl, rfl, rfl, rfl, rfl, rfl, rfl, trivial⟩, aB, H⟩
 rintro bz σ bA ⟨s, l, ac, ρ, rfl, aP, H⟩
 obtain ⟨aQ, aR, bB, hM, aC⟩ := M.e_iterN aP
 simp only [zbF] at hM
 clear aP
 refine W.seq ?_
 refine W.region rfl ?_
 refine zC (s : Int) (aa.length : Int) (decide ((s : Int) < (aa.length : Int))) rfl rfl rfl ?_
 refine s_nil ?_
 refine W.seq ?_
 refine W.cond (decide ((s : Int) < (aa.length : Int))) rfl (fun ak => ?_) (fun ak => ?_)
 ·replace hM := M.e_t hM ak
  simp only [qy1, qy2, qy3, qy4, qy5, qy6, ne_eq, qy7] at ak
  refine W.skip ?_
  refine W.seq ?_
  refine W.block ?_
  refine W.seq ?_
  refine W.region rfl ?_
  refine zM (I (s : Int)) rfl ?_
  obtain ⟨bh, hM⟩ := M.e_grd hM
  simp only [Bool.and_eq_true, decide_eq_true_eq] at bh
  refine s_val (x_ix (a := ag) (b := I (s : Int)) (v := vat ag 2 (Int.toNat (s : Int))) rfl rfl (Sl.ix (α := Flood) T27.und T27.size aj (by omega) (by omega))) ?_
  obtain ⟨ae, bi, am⟩ := Flood_atA aj (i := (s : Int)) (by omega) (by omega)
  replace am : Sl _ ae (aa.getD s default).stages := am
  have bC := am.len_le
  refine s_val (x_ld (p := vat ag 2 (Int.toNat (s : Int))) (v := .agg #[I ((aa.getD s default).spring), ae]) rfl (ld_ag Ag85 Sz85 (At.mono bi (aA.at H)))) ?_
  refine t_alloc (cs := [I 0, .slice none 0 0]) H Al85 rfl ?_
  intro aS bD H
  refine zA (I (s : Int)) rfl ?_
  refine t_sw 0 0 [I ((aa.getD s default).spring), ae] (.agg #[I ((aa.getD s default).spring), ae]) H rfl rfl Sz85 rfl rfl rfl (by simp only [List.all_cons, List.all_nil, Bool.true_and, Bool.and_true, Sl.oc am]; try rfl) ?_
  intro bE H
  refine s_nil ?_
  refine W.seq ?_
  refine W.draw (fun W => St w W [cBlk aS [I ((aa.getD s default).spring), ae] 85, cOwn (α := Int) 3 ac l, cBlk ai [.func (.func 52) #[] #[Pq ah]] 108, cBlk az (encB p) 96] R) [(0, true), (1, true), (2, true), (3, true), (4, true), (5, false), (6, false)] mixed (by decide +kernel) rfl ?_
  intro bF aT
  replace H := H.ext aT
  clear aT
  refine ⟨(H.pk [0, 1, 2, 3]), ?_⟩
  refine d_q rfl (fun w' H => x_fa (a := Pq ai) (v := Pq ai) rfl (fa_blk (o := 0) Fd108_0 Sz106)) ?_
  refine d_q rfl (fun w' H => x_ld (p := Pq ai) (v := .func (.func 52) #[] #[Pq ah]) rfl (ldb_sc Sc106 (H.bl 2) rfl)) ?_
  refine d_q rfl (fun w' H => x_mv (v := Pq ab) rfl) ?_
  refine d_q rfl (fun w' H => x_ld (p := Pq aS) (v := .agg #[I ((aa.getD s default).spring), ae]) rfl (ldb_ag (ds := [I ((aa.getD s default).spring), ae]) Ag85 Sz85 (H.bl 0) rfl rfl)) ?_
  refine d_q rfl (fun w' H => x_ld (p := Pq az) (v := .agg (encB p).toArray) rfl (ldArrA Ag96 Sz96 aO (H.bl 3))) ?_
  refine d_l rfl ?_
  obtain ⟨bG, bj, hM⟩ := M.e_bind hM
  refine s_call cf48 [Pq ab, .agg #[I ((aa.getD s default).spring), ae], .agg (encB p).toArray] rfl (zaL ap aq au av aw ax aa (aa.getD s default) p (aW.app _) aX (aY.app _) aZ (a6.app _) a7 (a8.app _) ba (aA.app _) aj (aN.app _) (aA.app _) am aO bj _ (H.gt 4)) ?_
  rintro vq bH ⟨r0, r1, r2, bm, hvq, ao⟩
  subst bm
  subst vq
  try dsimp only at hM
  replace H := H.bk ao
  clear ao
  refine s_nil ⟨(H.pk [0, 1, 2, 3]), ?_⟩
  refine d_l rfl ?_
  obtain ⟨bI, bn, hM⟩ := M.e_bind hM
  refine s_callv (f := 52) rfl cf52 [.agg #[I r0, I r1, B r2]] rfl (zdq (⟨(r0 : Int), (r1 : Int), r2⟩ : Rpt) ay (bc.app _) bn _ (H.gt 4)) ?_
  rintro vq bJ ⟨r3, bo, hvq, ao⟩
  subst bo
  subst vq
  try dsimp only at hM
  replace H := H.bk ao
  clear ao
  refine s_nil ⟨(H.pk [0, 1, 2, 3]), ?_⟩
  refine d_nil ?_
  refine W.cond r3 rfl (fun aD => ?_) (fun aD => ?_)
  ·replace hM := M.e_t hM aD
   refine W.region rfl ?_
   refine zM ac rfl ?_
   refine zM (I (s : Int)) rfl ?_
   refine t_bs (α := Int) T22 [I (s : Int)] [(s : Int)] H rfl (.cons rfl (Flat.rep_enc _ (s : Int)) <| .nil) rfl rfl rfl ?_
   intro bp bK H
   obtain ⟨bq, hM⟩ := M.e_grd hM
   simp only [Bool.and_eq_true, decide_eq_true_eq] at bq
   refine t_app (α := Int) (k := 2) (l := l) (l2 := [(s : Int)]) (l' := l ++ ([(s : Int)])) (vy := bp) T22 rfl H rfl rfl rfl (H.os 0) (H.ol 0) (rfl) (by first | omega | (simp only [List.length_nil] at *; omega)) ?_
   intro aU bL H
   replace H := H.nf
   refine zA aU rfl ?_
   refine s_nil ?_
   replace H := H.pk [2, 3, 4]
   refine W.region rfl ?_
   refine zR (s : Int) 1 ((s : Int) + 1) rfl rfl rfl (by omega) ?_
   refine zM (I ((s : Int) + 1)) rfl ?_
   refine s_nil ?_
   exact ⟨aQ, aR, s + 1, l ++ ([(s : Int)]), aU, _, upds_of _ _ ⟨rfl, rfl, rfl, rfl, rfl, rfl, rfl, trivial⟩, M.e_inl hM aC, H⟩
  replace hM := M.e_f hM aD
  refine W.skip ?_
  refine W.region rfl ?_
  refine zR (s : Int) 1 ((s : Int) + 1) rfl rfl rfl (by omega) ?_
  refine zM (I ((s : Int) + 1)) rfl ?_
  refine s_nil ?_
  exact ⟨aQ, aR, s + 1, l, ac, _, upds_of _ _ ⟨rfl, rfl, rfl, rfl, rfl, rfl, rfl, trivial⟩, M.e_inl hM aC, (H.pk [1, 2, 3])⟩
 replace hM := M.e_f hM ak
 simp only [qy1, qy2, qy3, qy4, qy5, qy6, ne_eq, qy7] at ak
 refine W.exit ?_
 have br := M.e_inr hM aC
 subst br
 replace hM := bg
 try dsimp only at hM
 replace H := H.pk [0]
 refine W.seq ?_
 refine W.region rfl ?_
 refine zM ac rfl ?_
 refine zA ac rfl ?_
 refine s_nil ?_
 refine W.ret ?_
 have bt := M.e_pure hM
 exact ⟨_, resE_tmp rfl, ⟨l, ac, bt, rfl, H⟩⟩

def zaC (ae : List Int) (ag : List Span) (ah : List Int) (ai : List Town) (aa : List Flood) (aj : Int) (ak : Int) (am : List Bool) (r3 : List Int) : (Int × Int × Nat) -> M ((Int × Int × Nat) ⊕ (Int × Int)) := fun (ab, flood, s) =>
  bif decide ((s : Int) < (r3.length : Int)) then (
  M.grd (decide ((s : Int) < (r3.length : Int))) <|
  M.grd (decide ((0 : Int) <= (r3.getD s 0)) && decide ((r3.getD s 0) < (aa.length : Int))) <|
  M.bind (zak ae ag ah ai aj ak aa (aa.getD (Int.toNat (r3.getD s 0)) default) am) fun (r0, ac, ao) =>
  bif decide (ac < ab) then (
  M.pure (.inl (ac, r3.getD s 0, s + 1)))
  else (
  M.pure (.inl (ab, flood, s + 1))))
  else (
  M.pure (.inr (ab, flood)))
def zbh (aa : List Int) (ab : List Span) (ac : List Int) (ae : List Town) (ag : List Flood) (watches : List Int) (ah : Int) (ai : Int) (aj : List Bool) : (Nat × (List Int) × (List Int)) -> M ((Nat × (List Int) × (List Int)) ⊕ ((List Int) × (List Int) × (List Int) × (List Int))) := fun (s2, l, l2) =>
  bif decide ((s2 : Int) < (watches.length : Int)) then (
  M.grd (decide ((s2 : Int) < (watches.length : Int))) <|
  M.bind (zbX aa ab ac ae ah ai ag aj (watches.getD s2 0)) fun r3 =>
  M.bind (M.iter (zaC aa ab ac ae ag ah ai aj r3) (2001, -1, 0)) fun (ak, flood2) =>
  M.grd (decide ((l.length + ([(ak : Int)]).length) * 8 <= 140737488355328)) <|
  M.grd (decide ((l2.length + ([(flood2 : Int)]).length) * 8 <= 140737488355328)) <|
  M.pure (.inl (s2 + 1, l ++ ([(ak : Int)]), l2 ++ ([(flood2 : Int)]))))
  else (
  M.pure (.inr (l, l2, l2, l)))
def zaQ (aa : List Int) (ab : List Span) (ac : List Int) (ae : List Town) (ah : Int) (ai : Int) (ag : List Flood) (watches : List Int) : M ((List Int) × (List Int) × Int) :=
  M.bind (zam aa ab ac ae ah ai ag watches) fun x_ => match x_ with
  | (.inl (r1, r2)) => (
  bif r2 != 0 then (
  M.pure (([]), ([]), r2))
  else (
  M.fail))
  | (.inr (aj, ak, am, ao)) => (
  bif ao != 0 then (
  M.fail)
  else (
  M.bind (M.iter (zbh aa ab ac ae ag watches aj ak am) (0, [], [])) fun (l3, l4, l5, l6) =>
  M.pure (l6, l5, 0)))
theorem zcD {R : List Chunk} {bp : Cells} {ai : Value} {bq : Cells} {aj : Value} {br : Cells} {ak : Value} {bt : Cells} {am : Value} {bu : Cells} {ab : Value} {bv : Cells} {aC : Value} (ax : List Int) (ay : List Span) (az : List Int) (aA : List Town) (ap : Int) (aq : Int) (ah : List Flood) (watches : List Int) (aV : Reads R bp) (aW : Sl bp ai ax) (aX : Reads R bq) (aY : Sl bq aj ay) (aZ : Reads R br) (a6 : Sl br ak az) (a7 : Reads R bt) (a8 : Sl bt am aA) (aH : Reads R bu) (aJ : Sl bu ab ah) (bw : Reads R bv) (aN : Sl bv aC watches) {r : ((List Int) × (List Int) × Int)} (hM : (zaQ ax ay az aA ap aq ah watches).Ends r) (w : World) (H : St w w [] R) : Ret Tryz.prog 13 #[.agg #[ai, aj, ak, am, I ap, I aq, ab], aC] w fun v w' => ∃ (y0 : List Int) (y1 : List Int) (y2 : Int) (u0 : Value) (u1 : Value), (y0, y1, y2) = r /\ v = .tuple #[u0, u1, I y2] /\ St w w' [cOwn (α := Int) 3 u0 y0, cOwn (α := Int) 3 u1 y1] R := by
 refine ret_of_W Tryz.func13 rfl rfl rfl ?_
 refine W.seq ?_
 refine W.region rfl ?_
 refine t_box (v := .agg #[ai, aj, ak, am, I ap, I aq, ab]) (cs := [ai, aj, ak, am, I ap, I aq, ab]) H rfl rfl ?_
 intro aK b8 H
 refine zA (.slice none 0 0) rfl ?_
 refine zA (.slice none 0 0) rfl ?_
 refine zA (I 0) rfl ?_
 refine s_nil ?_
 refine W.seq ?_
 refine W.region rfl ?_
 refine s_val (x_ld (p := Pq aK) (v := .agg #[ai, aj, ak, am, I ap, I aq, ab]) rfl (ldb_ag (ds := [ai, aj, ak, am, I ap, I aq, ab]) Ag29 Sz29 (H.bl 0) rfl rfl)) ?_
 refine zM aC rfl ?_
 obtain ⟨b9, bE, hM⟩ := M.e_bind hM
 refine s_call cf46 [.agg #[ai, aj, ak, am, I ap, I aq, ab], aC] rfl (zcp ax ay az aA ap aq ah watches (aV.app _) aW (aX.app _) aY (aZ.app _) a6 (a7.app _) a8 (aH.app _) aJ (bw.app _) aN bE _ (H.gt 1)) ?_
 rintro vq ca (⟨r1, r2, bF, hvq, ao, bG⟩ | ⟨au, av, ac, aD, aa, aG, ba, bH, hvq, ao, aL⟩)
 ·subst bF
  subst vq
  try dsimp only at hM
  replace H := H.bk ao
  clear ao
  refine zM (.tuple #[.pointer none, .agg (encB r1).toArray, I r2]) rfl ?_
  refine zX [.pointer none, .agg (encB r1).toArray, I r2] (.pointer none) rfl rfl ?_
  refine zX [.pointer none, .agg (encB r1).toArray, I r2] (.agg (encB r1).toArray) rfl rfl ?_
  refine zX [.pointer none, .agg (encB r1).toArray, I r2] (I r2) rfl rfl ?_
  refine t_alloc (cs := encB (List.replicate 12 false)) H Al96 rfl ?_
  intro aB cb H
  have bj : (List.replicate 12 false).length = 12 := by simp
  refine zA (.pointer none) rfl ?_
  refine t_stArrA (k := 0) (b := aB) (l := List.replicate 12 false) (l' := r1) (L' := [cBlk aB (encB r1) 96, cBlk aK [ai, aj, ak, am, I ap, I aq, ab] 29]) H rfl rfl rfl Sz96 bj bG rfl ?_
  intro cc H
  refine zA (I r2) rfl ?_
  refine s_nil ?_
  refine W.seq ?_
  refine W.seq ?_
  refine W.region rfl ?_
  refine zM (I r2) rfl ?_
  refine zC r2 0 (r2 != 0) rfl rfl rfl ?_
  refine s_nil ?_
  refine W.cond (r2 != 0) rfl (fun bc => ?_) (fun bc => ?_)
  ·replace hM := M.e_t hM bc
   simp only [qy1, qy2, qy3, qy4, qy5, qy6, ne_eq, qy7] at bc
   refine W.seq ?_
   refine W.region rfl ?_
   refine zM (I r2) rfl ?_
   refine zA (.slice none 0 0) rfl ?_
   refine zA (.slice none 0 0) rfl ?_
   refine zA (I r2) rfl ?_
   refine s_nil ?_
   replace H := H.pk []
   refine W.ret ?_
   have bm := M.e_pure hM
   replace H := H.nilOwn (α := Int) 3
   replace H := H.nilOwn (α := Int) 3
   exact ⟨_, resE_tmp3 rfl, ⟨([]), ([]), r2, (.slice none 0 0), (.slice none 0 0), bm, rfl, (H.pk [1, 0])⟩⟩
  replace hM := M.e_f hM bc
  exact (M.e_fail hM).elim
 subst bH
 subst vq
 try dsimp only at hM
 replace H := H.bk ao
 clear ao
 refine zM (.tuple #[Pq aa, .agg (encB ac).toArray, I aD]) rfl ?_
 refine zX [Pq aa, .agg (encB ac).toArray, I aD] (Pq aa) rfl rfl ?_
 refine zX [Pq aa, .agg (encB ac).toArray, I aD] (.agg (encB ac).toArray) rfl rfl ?_
 refine zX [Pq aa, .agg (encB ac).toArray, I aD] (I aD) rfl rfl ?_
 refine t_alloc (cs := encB (List.replicate 12 false)) H Al96 rfl ?_
 intro aB ce H
 have bj : (List.replicate 12 false).length = 12 := by simp
 refine zA (Pq aa) rfl ?_
 refine t_stArrA (k := 0) (b := aB) (l := List.replicate 12 false) (l' := ac) (L' := [cBlk aB (encB ac) 96, cBlk aa [ai, aj, ak, am, I au, I av, ab, .map (some aG)] 111, cMem encDm aG ba (zaa ax ay az aA au av ah), cBlk aK [ai, aj, ak, am, I ap, I aq, ab] 29]) H rfl rfl rfl Sz96 bj aL rfl ?_
 intro cf H
 refine zA (I aD) rfl ?_
 refine s_nil ?_
 refine W.seq ?_
 refine W.seq ?_
 refine W.region rfl ?_
 refine zM (I aD) rfl ?_
 refine zC aD 0 (aD != 0) rfl rfl rfl ?_
 refine s_nil ?_
 refine W.cond (aD != 0) rfl (fun bf => ?_) (fun bf => ?_)
 ·replace hM := M.e_t hM bf
  exact (M.e_fail hM).elim
 replace hM := M.e_f hM bf
 simp only [qy1, qy2, qy3, qy4, qy5, qy6, ne_eq, qy7] at bf
 refine W.skip ?_
 refine W.seq ?_
 refine W.seq ?_
 refine W.region rfl ?_
 refine zM aC rfl ?_
 have cg := (aN).len_le
 refine s_val (x_lenS T22.und rfl aN) ?_
 refine zM (I 0) rfl ?_
 refine s_nil ?_
 refine W.block ?_
 replace H := H.nilOwn (α := Int) 3
 replace H := H.nilOwn (α := Int) 3
 obtain ⟨bI, bn, bJ⟩ := M.e_bind hM
 obtain ⟨bK, bn⟩ := M.e_iter bn
 refine W.loop (fun m σ W => ∃ (s2 : Nat) (l : List Int) (l2 : List Int) (aE : Value) (aF : Value) (ρ : Env), σ = upds ρ [(4, aE), (5, aF), (7, Pq aa), (8, Pq aB), (26, aC), (27, I (watches.length : Int)), (28, I (s2 : Int))] /\ M.iterN (zbh ax ay az aA ah watches au av ac) m (s2, l, l2) = some bI /\ St w W [cOwn (α := Int) 3 aF l2, cOwn (α := Int) 3 aE l, cBlk aB (encB ac) 96, cBlk aa [ai, aj, ak, am, I au, I av, ab, .map (some aG)] 111, cMem encDm aG ba (zaa ax ay az aA au av ah), cBlk aK [ai, aj, ak, am, I ap, I aq, ab] 29] R) ?_ ?_
 ·exact ⟨_, 0, [], [], (.slice none 0 0), (.slice none 0 0), _, upds_of _ _ ⟨rfl, rfl, rfl, rfl, rfl, rfl, rfl, trivial⟩, bn, H⟩
 rintro ci σ cj ⟨s2, l, l2, aE, aF, ρ, rfl, bx, H⟩
 obtain ⟨bL, bM, ck, hM, bz⟩ := M.e_iterN bx
 simp only [zbh] at hM
 clear bx
 refine W.seq ?_
 refine W.region rfl ?_
 refine zC (s2 : Int) (watches.length : Int) (decide ((s2 : Int) < (watches.length : Int))) rfl rfl rfl ?_
 refine s_nil ?_
 refine W.seq ?_
 refine W.cond (decide ((s2 : Int) < (watches.length : Int))) rfl (fun aO => ?_) (fun aO => ?_)
 ·replace hM := M.e_t hM aO
  simp only [qy1, qy2, qy3, qy4, qy5, qy6, ne_eq, qy7] at aO
  refine W.skip ?_
  refine W.seq ?_
  refine W.block ?_
  refine W.seq ?_
  refine W.region rfl ?_
  obtain ⟨bN, hM⟩ := M.e_grd hM
  simp only [Bool.and_eq_true, decide_eq_true_eq] at bN
  refine s_val (x_ix (a := aC) (b := I (s2 : Int)) (v := vat aC 1 (Int.toNat (s2 : Int))) rfl rfl (Sl.ix (α := Int) T22.und T22.size aN (by omega) (by omega))) ?_
  refine s_val (x_ld (p := vat aC 1 (Int.toNat (s2 : Int))) (v := I (watches.getD s2 0)) rfl (ld_sc Sc3 (At.mono (Int_at aN (i := (s2 : Int)) (by omega) (by omega)) (bw.at H)))) ?_
  refine t_alloc (cs := [I 0]) H Al3 rfl ?_
  intro aI cl H
  refine t_sw 0 0 [I (watches.getD s2 0)] (I (watches.getD s2 0)) H rfl rfl Sz3 rfl rfl rfl rfl ?_
  intro cm H
  refine s_nil ?_
  refine W.seq ?_
  refine W.region rfl ?_
  refine zA (I 2001) rfl ?_
  refine zA (I (-1)) rfl ?_
  refine s_nil ?_
  refine W.seq ?_
  refine W.seq ?_
  refine W.region rfl ?_
  refine zM (Pq aa) rfl ?_
  refine s_val (x_ld (p := Pq aB) (v := .agg (encB ac).toArray) rfl (ldArrA Ag96 Sz96 aL (H.bl 3))) ?_
  refine s_val (x_mf (fs := []) (cs := [Pq aI]) rfl rfl) ?_
  refine s_val (x_bld (ps := [(0, .func (.func 52) #[] #[Pq aI])]) (zs := [.nilFunc]) (L' := [.func (.func 52) #[] #[Pq aI]]) rfl Tryz.underlying108 Al108 rfl (Bd108 Tryz.underlying108) (.cons (cs := [.func (.func 52) #[] #[Pq aI]]) rfl rfl rfl rfl rfl <| .nil)) ?_
  obtain ⟨cn, bO, hM⟩ := M.e_bind hM
  refine s_call cf51 [Pq aa, .agg (encB ac).toArray, .agg #[.func (.func 52) #[] #[Pq aI]]] rfl (zdG ax ay az aA au av ah ac (watches.getD s2 0) (aV.app _) aW (aX.app _) aY (aZ.app _) a6 (a7.app _) a8 (aH.app _) aJ (Has.here (k := 4) rfl) aL (Has.here (k := 0) rfl) bO _ (H.gt 7)) ?_
  rintro vq co ⟨r3, aM, bP, hvq, ao⟩
  subst bP
  subst vq
  try dsimp only at hM
  replace H := H.bk ao
  clear ao
  have cp := ((H.os 0)).len_le
  refine s_val (x_lenS T22.und rfl (H.os 0)) ?_
  refine zM (I 0) rfl ?_
  refine s_nil ?_
  refine W.block ?_
  obtain ⟨bQ, bo, bR⟩ := M.e_bind hM
  obtain ⟨bK, bo⟩ := M.e_iter bo
  refine W.loop (fun m σ W => ∃ (ae : Int) (flood : Int) (s : Nat) (ρ : Env), σ = upds ρ [(4, aE), (5, aF), (7, Pq aa), (8, Pq aB), (11, I ae), (12, I flood), (26, aC), (27, I (watches.length : Int)), (28, I (s2 : Int)), (36, aM), (37, I (r3.length : Int)), (38, I (s : Int))] /\ M.iterN (zaC ax ay az aA ah au av ac r3) m (ae, flood, s) = some bQ /\ St w W [cOwn (α := Int) 3 aM r3, cBlk aI [I (watches.getD s2 0)] 3, cOwn (α := Int) 3 aF l2, cOwn (α := Int) 3 aE l, cBlk aB (encB ac) 96, cBlk aa [ai, aj, ak, am, I au, I av, ab, .map (some aG)] 111, cMem encDm aG ba (zaa ax ay az aA au av ah), cBlk aK [ai, aj, ak, am, I ap, I aq, ab] 29] R) ?_ ?_
  ·exact ⟨_, 2001, -1, 0, _, upds_of _ _ ⟨rfl, rfl, rfl, rfl, rfl, rfl, rfl, rfl, rfl, rfl, rfl, rfl, trivial⟩, bo, H⟩
  rintro cq σ cr ⟨ae, flood, s, ρ, rfl, bA, H⟩
  obtain ⟨bg, bh, cu, hM, aP⟩ := M.e_iterN bA
  simp only [zaC] at hM
  clear bA
  refine W.seq ?_
  refine W.region rfl ?_
  refine zC (s : Int) (r3.length : Int) (decide ((s : Int) < (r3.length : Int))) rfl rfl rfl ?_
  refine s_nil ?_
  refine W.seq ?_
  refine W.cond (decide ((s : Int) < (r3.length : Int))) rfl (fun aQ => ?_) (fun aQ => ?_)
  ·replace hM := M.e_t hM aQ
   simp only [qy1, qy2, qy3, qy4, qy5, qy6, ne_eq, qy7] at aQ
   refine W.skip ?_
   refine W.seq ?_
   refine W.block ?_
   refine W.seq ?_
   refine W.region rfl ?_
   obtain ⟨bS, hM⟩ := M.e_grd hM
   simp only [Bool.and_eq_true, decide_eq_true_eq] at bS
   refine s_val (x_ix (a := aM) (b := I (s : Int)) (v := vat aM 1 (Int.toNat (s : Int))) rfl rfl (Sl.ix (α := Int) T22.und T22.size (H.os 0) (by omega) (by omega))) ?_
   refine s_val (x_ld (p := vat aM 1 (Int.toNat (s : Int))) (v := I (r3.getD s 0)) rfl (ld_sc Sc3 (At.mono (Int_at (H.os 0) (i := (s : Int)) (by omega) (by omega)) (H.ol 0)))) ?_
   refine zA (I (r3.getD s 0)) rfl ?_
   refine s_nil ?_
   refine W.seq ?_
   refine W.drawT (fun W => St w W [cOwn (α := Int) 3 aM r3, cBlk aI [I (watches.getD s2 0)] 3, cOwn (α := Int) 3 aF l2, cOwn (α := Int) 3 aE l, cBlk aB (encB ac) 96, cBlk aa [ai, aj, ak, am, I au, I av, ab, .map (some aG)] 111, cMem encDm aG ba (zaa ax ay az aA au av ah), cBlk aK [ai, aj, ak, am, I ap, I aq, ab] 29] R) (.q 0 (.q 1 (.q 2 (.q 3 (.q 4 (.q 5 (.q 6 (.q 7 (.q 8 (.q 9 (.l2 10 (.l 11 (.l 12 .nil)) 11 (.l 10 (.l 12 .nil))))))))))))) mixed (by decide +kernel) rfl ?_
   intro cv bB
   replace H := H.ext bB
   clear bB
   refine ⟨(H.pk [0, 1, 2, 3, 4, 5, 6, 7]), ?_⟩
   refine t_q rfl (fun w' H => x_mv (v := Pq aa) rfl) ?_
   refine t_q rfl (fun w' H => x_mv (v := Pq aa) rfl) ?_
   refine t_q rfl (fun w' H => x_nc (a := ⟨aa, 0, none⟩) rfl) ?_
   refine t_q rfl (fun w' H => x_fa (a := Pq aa) (v := Pq aa) rfl (fa_blk (o := 0) Fd111_0 Sz29)) ?_
   refine t_q rfl (fun w' H => x_fa (a := Pq aa) (v := Oq aa 6) rfl (fa_blk (o := 0) Fd29_5 Sz27)) ?_
   refine t_q rfl (fun w' H => x_ld (p := Oq aa 6) (v := ab) rfl (ldb_sc Sc27 (H.bl 5) rfl)) ?_
   refine t_q rfl (fun w' H => x_mv (v := I (r3.getD s 0)) rfl) ?_
   obtain ⟨bT, hM⟩ := M.e_grd hM
   simp only [Bool.and_eq_true, decide_eq_true_eq] at bT
   refine t_q rfl (fun w' H => x_ix (a := ab) (b := I (r3.getD s 0)) (v := vat ab 2 (Int.toNat (r3.getD s 0))) rfl rfl (Sl.ix (α := Flood) T27.und T27.size aJ (by omega) (by omega))) ?_
   obtain ⟨bi, bU, aR⟩ := Flood_atA aJ (i := r3.getD s 0) (by omega) (by omega)
   replace aR : Sl _ bi (ah.getD (Int.toNat (r3.getD s 0)) default).stages := aR
   have cw := aR.len_le
   refine t_q rfl (fun w' H => x_ld (p := vat ab 2 (Int.toNat (r3.getD s 0))) (v := .agg #[I ((ah.getD (Int.toNat (r3.getD s 0)) default).spring), bi]) rfl (ld_ag Ag85 Sz85 (At.mono bU (aH.at H)))) ?_
   refine t_q rfl (fun w' H => x_ld (p := Pq aB) (v := .agg (encB ac).toArray) rfl (ldArrA Ag96 Sz96 aL (H.bl 4))) ?_
   refine t_l2 rfl rfl ?_ ?_
   ·skip
    obtain ⟨cx, bV, hM⟩ := M.e_bind hM
    refine s_call cf48 [Pq aa, .agg #[I ((ah.getD (Int.toNat (r3.getD s 0)) default).spring), bi], .agg (encB ac).toArray] rfl (zaL ax ay az aA au av ah (ah.getD (Int.toNat (r3.getD s 0)) default) ac (aV.app _) aW (aX.app _) aY (aZ.app _) a6 (a7.app _) a8 (aH.app _) aJ (Has.here (k := 5) rfl) (aH.app _) aR aL bV _ (H.gt 8)) ?_
    rintro vq cy ⟨r0, ag, aS, bW, hvq, ao⟩
    subst bW
    subst vq
    try dsimp only at hM
    replace H := H.bk ao
    clear ao
    refine s_nil ⟨(H.pk [0, 1, 2, 3, 4, 5, 6, 7]), ?_⟩
    refine t_l rfl ?_
    refine t_alloc (cs := [I 0, I 0, B false]) H Al101 rfl ?_
    intro aw cz H
    refine s_nil ⟨(H.pk [1, 2, 3, 4, 5, 6, 7, 8]), ?_⟩
    refine t_l rfl ?_
    refine t_sw 0 0 [I r0, I ag, B aS] (.agg #[I r0, I ag, B aS]) H rfl rfl Sz101 rfl rfl rfl rfl ?_
    intro cA H
    refine s_nil ⟨(H.pk [1, 2, 3, 4, 5, 6, 7, 8]), ?_⟩
    refine t_nil ?_
    refine W.seq ?_
    refine W.region rfl ?_
    refine s_val (x_fa (a := Pq aw) (v := Oq aw 1) rfl (fa_blk (o := 0) Fd101_1 Sz3)) ?_
    refine s_val (x_ld (p := Oq aw 1) (v := I ag) rfl (ldb_sc Sc3 (H.bl 0) rfl)) ?_
    refine zM (I ae) rfl ?_
    refine zC ag ae (decide (ag < ae)) rfl rfl rfl ?_
    refine s_nil ?_
    refine W.cond (decide (ag < ae)) rfl (fun aT => ?_) (fun aT => ?_)
    ·replace hM := M.e_t hM aT
     simp only [qy1, qy2, qy3, qy4, qy5, qy6, ne_eq, qy7] at aT
     refine W.region rfl ?_
     refine s_val (x_fa (a := Pq aw) (v := Oq aw 1) rfl (fa_blk (o := 0) Fd101_1 Sz3)) ?_
     refine s_val (x_ld (p := Oq aw 1) (v := I ag) rfl (ldb_sc Sc3 (H.bl 0) rfl)) ?_
     refine zM (I (r3.getD s 0)) rfl ?_
     refine zA (I ag) rfl ?_
     refine zA (I (r3.getD s 0)) rfl ?_
     refine s_nil ?_
     refine W.region rfl ?_
     refine zR (s : Int) 1 ((s : Int) + 1) rfl rfl rfl (by omega) ?_
     refine zM (I ((s : Int) + 1)) rfl ?_
     refine s_nil ?_
     exact ⟨bg, bh, ag, r3.getD s 0, s + 1, _, upds_of _ _ ⟨rfl, rfl, rfl, rfl, rfl, rfl, rfl, rfl, rfl, rfl, rfl, rfl, trivial⟩, M.e_inl hM aP, (H.pk [1, 2, 3, 4, 5, 6, 7, 8])⟩
    replace hM := M.e_f hM aT
    simp only [qy1, qy2, qy3, qy4, qy5, qy6, ne_eq, qy7] at aT
    refine W.skip ?_
    refine W.region rfl ?_
    refine zR (s : Int) 1 ((s : Int) + 1) rfl rfl rfl (by omega) ?_
    refine zM (I ((s : Int) + 1)) rfl ?_
    refine s_nil ?_
    exact ⟨bg, bh, ae, flood, s + 1, _, upds_of _ _ ⟨rfl, rfl, rfl, rfl, rfl, rfl, rfl, rfl, rfl, rfl, rfl, rfl, trivial⟩, M.e_inl hM aP, (H.pk [1, 2, 3, 4, 5, 6, 7, 8])⟩
   skip
   refine t_alloc (cs := [I 0, I 0, B false]) H Al101 rfl ?_
   intro aw cB H
   refine s_nil ⟨(H.pk [1, 2, 3, 4, 5, 6, 7, 8]), ?_⟩
   refine t_l rfl ?_
   obtain ⟨cC, bX, hM⟩ := M.e_bind hM
   refine s_call cf48 [Pq aa, .agg #[I ((ah.getD (Int.toNat (r3.getD s 0)) default).spring), bi], .agg (encB ac).toArray] rfl (zaL ax ay az aA au av ah (ah.getD (Int.toNat (r3.getD s 0)) default) ac (aV.app _) aW (aX.app _) aY (aZ.app _) a6 (a7.app _) a8 (aH.app _) aJ (Has.here (k := 6) rfl) (aH.app _) aR aL bX _ (H.gt 9)) ?_
   rintro vq cD ⟨r0, ag, aS, bY, hvq, ao⟩
   subst bY
   subst vq
   try dsimp only at hM
   replace H := H.bk ao
   clear ao
   refine s_nil ⟨(H.pk [1, 2, 3, 4, 5, 6, 7, 8]), ?_⟩
   refine t_l rfl ?_
   refine t_sw 0 0 [I r0, I ag, B aS] (.agg #[I r0, I ag, B aS]) H rfl rfl Sz101 rfl rfl rfl rfl ?_
   intro cE H
   refine s_nil ⟨(H.pk [1, 2, 3, 4, 5, 6, 7, 8]), ?_⟩
   refine t_nil ?_
   refine W.seq ?_
   refine W.region rfl ?_
   refine s_val (x_fa (a := Pq aw) (v := Oq aw 1) rfl (fa_blk (o := 0) Fd101_1 Sz3)) ?_
   refine s_val (x_ld (p := Oq aw 1) (v := I ag) rfl (ldb_sc Sc3 (H.bl 0) rfl)) ?_
   refine zM (I ae) rfl ?_
   refine zC ag ae (decide (ag < ae)) rfl rfl rfl ?_
   refine s_nil ?_
   refine W.cond (decide (ag < ae)) rfl (fun aU => ?_) (fun aU => ?_)
   ·replace hM := M.e_t hM aU
    simp only [qy1, qy2, qy3, qy4, qy5, qy6, ne_eq, qy7] at aU
    refine W.region rfl ?_
    refine s_val (x_fa (a := Pq aw) (v := Oq aw 1) rfl (fa_blk (o := 0) Fd101_1 Sz3)) ?_
    refine s_val (x_ld (p := Oq aw 1) (v := I ag) rfl (ldb_sc Sc3 (H.bl 0) rfl)) ?_
    refine zM (I (r3.getD s 0)) rfl ?_
    refine zA (I ag) rfl ?_
    refine zA (I (r3.getD s 0)) rfl ?_
    refine s_nil ?_
    refine W.region rfl ?_
    refine zR (s : Int) 1 ((s : Int) + 1) rfl rfl rfl (by omega) ?_
    refine zM (I ((s : Int) + 1)) rfl ?_
    refine s_nil ?_
    exact ⟨bg, bh, ag, r3.getD s 0, s + 1, _, upds_of _ _ ⟨rfl, rfl, rfl, rfl, rfl, rfl, rfl, rfl, rfl, rfl, rfl, rfl, trivial⟩, M.e_inl hM aP, (H.pk [1, 2, 3, 4, 5, 6, 7, 8])⟩
   replace hM := M.e_f hM aU
   simp only [qy1, qy2, qy3, qy4, qy5, qy6, ne_eq, qy7] at aU
   refine W.skip ?_
   refine W.region rfl ?_
   refine zR (s : Int) 1 ((s : Int) + 1) rfl rfl rfl (by omega) ?_
   refine zM (I ((s : Int) + 1)) rfl ?_
   refine s_nil ?_
   exact ⟨bg, bh, ae, flood, s + 1, _, upds_of _ _ ⟨rfl, rfl, rfl, rfl, rfl, rfl, rfl, rfl, rfl, rfl, rfl, rfl, trivial⟩, M.e_inl hM aP, (H.pk [1, 2, 3, 4, 5, 6, 7, 8])⟩
  replace hM := M.e_f hM aQ
  simp only [qy1, qy2, qy3, qy4, qy5, qy6, ne_eq, qy7] at aQ
  refine W.exit ?_
  have bZ := M.e_inr hM aP
  subst bZ
  replace hM := bR
  try dsimp only at hM
  replace H := H.pk [2, 3, 4, 5, 6, 7]
  refine W.region rfl ?_
  refine zM aE rfl ?_
  refine zM (I ae) rfl ?_
  refine t_bs (α := Int) T22 [I ae] [(ae : Int)] H rfl (.cons rfl (Flat.rep_enc _ (ae : Int)) <| .nil) rfl rfl rfl ?_
  intro b3 cF H
  obtain ⟨b4, hM⟩ := M.e_grd hM
  simp only [Bool.and_eq_true, decide_eq_true_eq] at b4
  refine t_app (α := Int) (k := 2) (l := l) (l2 := [(ae : Int)]) (l' := l ++ ([(ae : Int)])) (vy := b3) T22 rfl H rfl rfl rfl (H.os 0) (H.ol 0) (rfl) (by first | omega | (simp only [List.length_nil] at *; omega)) ?_
  intro bC cG H
  replace H := H.nf
  refine zM aF rfl ?_
  refine zM (I flood) rfl ?_
  refine t_bs (α := Int) T22 [I flood] [(flood : Int)] H rfl (.cons rfl (Flat.rep_enc _ (flood : Int)) <| .nil) rfl rfl rfl ?_
  intro b5 cH H
  obtain ⟨b6, hM⟩ := M.e_grd hM
  simp only [Bool.and_eq_true, decide_eq_true_eq] at b6
  refine t_app (α := Int) (k := 2) (l := l2) (l2 := [(flood : Int)]) (l' := l2 ++ ([(flood : Int)])) (vy := b5) T22 rfl H rfl rfl rfl (H.os 0) (H.ol 0) (rfl) (by first | omega | (simp only [List.length_nil] at *; omega)) ?_
  intro bD cI H
  replace H := H.nf
  refine zA bC rfl ?_
  refine zA bD rfl ?_
  refine s_nil ?_
  replace H := H.pk [2, 3, 4, 5, 6, 7]
  refine W.region rfl ?_
  refine zR (s2 : Int) 1 ((s2 : Int) + 1) rfl rfl rfl (by omega) ?_
  refine zM (I ((s2 : Int) + 1)) rfl ?_
  refine s_nil ?_
  exact ⟨bL, bM, s2 + 1, l ++ ([(ae : Int)]), l2 ++ ([(flood : Int)]), bC, bD, _, upds_of _ _ ⟨rfl, rfl, rfl, rfl, rfl, rfl, rfl, trivial⟩, M.e_inl hM bz, H⟩
 replace hM := M.e_f hM aO
 simp only [qy1, qy2, qy3, qy4, qy5, qy6, ne_eq, qy7] at aO
 refine W.exit ?_
 have b7 := M.e_inr hM bz
 subst b7
 replace hM := bJ
 try dsimp only at hM
 replace H := H.pk [0, 1]
 refine W.seq ?_
 refine W.region rfl ?_
 refine zM aE rfl ?_
 refine zM aF rfl ?_
 refine zA aE rfl ?_
 refine zA aF rfl ?_
 refine zA (I 0) rfl ?_
 refine s_nil ?_
 refine W.ret ?_
 have bm := M.e_pure hM
 exact ⟨_, resE_tmp3 rfl, ⟨l, l2, 0, aE, aF, bm, rfl, (H.pk [1, 0])⟩⟩

def zbb (n : Int) : M Bool :=
  M.bind (zad n 0 2001) fun r2 =>
  M.pure r2
theorem zdW {R : List Chunk}  (n : Int)  {r : Bool} (hM : (zbb n).Ends r) (w : World) (H : St w w [] R) : Ret Tryz.prog 54 #[I n] w fun v w' => ∃ (y0 : Bool), y0 = r /\ v = B y0 /\ St w w' [] R := by
 refine ret_of_W Tryz.func54 rfl rfl rfl ?_
 refine W.seq ?_
 refine W.region rfl ?_
 refine zA (B false) rfl ?_
 refine s_nil ?_
 refine W.seq ?_
 refine W.region rfl ?_
 refine zM (I n) rfl ?_
 obtain ⟨ag, ab, hM⟩ := M.e_bind hM
 refine s_call cf47 [I n, I 0, I 2001] rfl (zaj n 0 2001 ab _ (H.gt 0)) ?_
 rintro vq ah ⟨r2, ac, hvq, aa⟩
 subst ac
 subst vq
 try dsimp only at hM
 replace H := H.bk aa
 clear aa
 refine zA (B r2) rfl ?_
 refine s_nil ?_
 refine W.ret ?_
 have ae := M.e_pure hM
 exact ⟨_, resE_tmp rfl, ⟨r2, ae, rfl, H⟩⟩

def zbN (x : Rpt) (ab : List Int) (aa : List Int) : M Bool :=
  M.bind (zaB ab x.watch) fun r2 =>
  M.grd ((!(decide (0 <= r2)) || (decide ((0 : Int) <= r2) && decide (r2 < (aa.length : Int))))) <|
  M.pure ((decide (0 <= r2)) && (decide ((aa.getD (Int.toNat r2) 0) <= x.stage)))
theorem zc7 {R : List Chunk} {aj : Nat} {ao : Cells} {ai : Value} {ak : Nat} {ap : Cells} {ae : Value} (x : Rpt) (am : List Int) (ab : List Int) (av : Reads R ao) (aw : Sl ao ai am) (ax : Has R (cBlk aj [ai] 22)) (ay : Reads R ap) (aq : Sl ap ae ab) (az : Has R (cBlk ak [ae] 22)) {r : Bool} (hM : (zbN x am ab).Ends r) (w : World) (H : St w w [] R) : Ret Tryz.prog 55 #[.agg #[I x.watch, I x.stage, B x.danger], Pq aj, Pq ak] w fun v w' => ∃ (y0 : Bool), y0 = r /\ v = B y0 /\ St w w' [] R := by
 refine ret_of_W Tryz.func55 rfl rfl rfl ?_
 refine W.seq ?_
 refine W.region rfl ?_
 refine t_box (v := .agg #[I x.watch, I x.stage, B x.danger]) (cs := [I x.watch, I x.stage, B x.danger]) H rfl rfl ?_
 intro ag aD H
 refine zA (B false) rfl ?_
 refine s_nil ?_
 refine W.seq ?_
 refine W.region rfl ?_
 refine s_val (x_ld (p := Pq aj) (v := ai) rfl (ldb_sc Sc22 (ax.blk H) rfl)) ?_
 refine s_val (x_fa (a := Pq ag) (v := Pq ag) rfl (fa_blk (o := 0) Fd101_0 Sz3)) ?_
 refine s_val (x_ld (p := Pq ag) (v := I x.watch) rfl (ldb_sc Sc3 (H.bl 0) rfl)) ?_
 obtain ⟨aE, aA, hM⟩ := M.e_bind hM
 refine s_call cf56 [ai, I x.watch] rfl (zcN am x.watch (av.app _) aw aA _ (H.gt 1)) ?_
 rintro vq aF ⟨r2, aB, hvq, au⟩
 subst aB
 subst vq
 try dsimp only at hM
 replace H := H.bk au
 clear au
 refine zA (I r2) rfl ?_
 refine s_nil ?_
 refine W.seq ?_
 refine W.draw (fun W => St w W [cBlk ag [I x.watch, I x.stage, B x.danger] 101] R) [(0, true), (1, true), (2, true), (3, true), (4, true), (5, true), (6, true), (7, true), (8, true), (9, true), (10, true), (11, true)] mixed (by decide +kernel) rfl ?_
 intro aG ac
 replace H := H.ext ac
 clear ac
 refine ⟨(H.pk [0]), ?_⟩
 refine d_q rfl (fun w' H => x_mv (v := I r2) rfl) ?_
 refine d_q rfl (fun w' H => x_cmp (kd := .i64) (a := r2) (b := 0) (r := decide (0 <= r2)) rfl rfl rfl) ?_
 refine d_q rfl (fun w' H => x_mv (v := B (decide (0 <= r2))) rfl) ?_
 refine d_qg (decide (0 <= r2)) rfl (gy_t rfl) (fun hg => (fun w' H => x_fa (a := Pq ag) (v := Oq ag 1) rfl (fa_blk (o := 0) Fd101_1 Sz3))) ?_
 refine d_qg (decide (0 <= r2)) rfl (gy_t rfl) (fun hg => (fun w' H => x_ld (p := Oq ag 1) (v := I x.stage) (gd_of (c := decide (0 <= r2)) hg (Oq ag 1)) (ldb_sc Sc3 (H.bl 0) rfl))) ?_
 refine d_qg (decide (0 <= r2)) rfl (gy_t rfl) (fun hg => (fun w' H => x_ld (p := Pq ak) (v := ae) rfl (ldb_sc Sc22 (az.blk H) rfl))) ?_
 refine d_qg (decide (0 <= r2)) rfl (gy_t rfl) (fun hg => (fun w' H => x_mv (v := I r2) rfl)) ?_
 obtain ⟨ah, hM⟩ := M.e_grd hM
 replace ah := M.imp_of ah
 simp only [Bool.and_eq_true, decide_eq_true_eq] at ah
 refine d_qg (decide (0 <= r2)) rfl (gy_t rfl) (fun hg => (fun w' H => x_ix (a := ae) (b := I r2) (v := vat ae 1 (Int.toNat r2)) (gd_of (c := decide (0 <= r2)) hg (ae)) (gd_of (c := decide (0 <= r2)) hg (I r2)) (Sl.ix (α := Int) T22.und T22.size aq (by have aa := ah.resolve_left (by rw [hg]; decide); first | exact aa | exact aa.1 | exact aa.2 | omega | (have ac := hg; simp at ac; omega)) (by have aa := ah.resolve_left (by rw [hg]; decide); first | exact aa | exact aa.1 | exact aa.2 | omega | (have ac := hg; simp at ac; omega))))) ?_
 refine d_qg (decide (0 <= r2)) rfl (gy_t rfl) (fun hg => (fun w' H => x_ld (p := vat ae 1 (Int.toNat r2)) (v := I (ab.getD (Int.toNat r2) 0)) (gd_of (c := decide (0 <= r2)) hg (vat ae 1 (Int.toNat r2))) (ld_sc Sc3 (At.mono (Int_at aq (i := r2) (by have aa := ah.resolve_left (by rw [hg]; decide); first | exact aa | exact aa.1 | exact aa.2 | omega | (have ac := hg; simp at ac; omega)) (by have aa := ah.resolve_left (by rw [hg]; decide); first | exact aa | exact aa.1 | exact aa.2 | omega | (have ac := hg; simp at ac; omega))) (ay.at H))))) ?_
 refine d_qg (decide (0 <= r2)) rfl (gy_t rfl) (fun hg => (fun w' H => x_cmp (kd := .i64) (a := x.stage) (b := ab.getD (Int.toNat r2) 0) (r := decide ((ab.getD (Int.toNat r2) 0) <= x.stage)) (gd_of (c := decide (0 <= r2)) hg (I x.stage)) (gd_of (c := decide (0 <= r2)) hg (I (ab.getD (Int.toNat r2) 0))) rfl)) ?_
 refine d_q rfl (fun w' H => x_pand (b := decide (0 <= r2)) (r := decide ((ab.getD (Int.toNat r2) 0) <= x.stage)) rfl (fun hb => gd_of (c := decide (0 <= r2)) (by first | exact hb | (rw [hb]; rfl) | simp_all) (B (decide ((ab.getD (Int.toNat r2) 0) <= x.stage)))) rfl) ?_
 refine d_q rfl (fun w' H => x_as (v := B ((decide (0 <= r2)) && (decide ((ab.getD (Int.toNat r2) 0) <= x.stage)))) rfl) ?_
 refine d_nil ?_
 refine W.ret ?_
 have aC := M.e_pure hM
 exact ⟨_, resE_tmp rfl, ⟨((decide (0 <= r2)) && (decide ((ab.getD (Int.toNat r2) 0) <= x.stage))), aC, rfl, (H.pk [])⟩⟩

def zcl (x : Rpt) (aa : List Int) (ab : List Int) : M Bool :=
  M.bind (M.opt x.danger (zbN x aa ab) false) fun r2 =>
  M.pure (x.danger && (!r2))
theorem zdg {R : List Chunk} {ae : Nat} {aa : Nat} {aj : Cells} {ak : Value} {ab : Nat} {am : Cells} {ao : Value} (x : Rpt) (ag : List Int) (ah : List Int) (ap : Reads R aj) (aq : Sl aj ak ag) (au : Has R (cBlk aa [ak] 22)) (av : Reads R am) (aw : Sl am ao ah) (ax : Has R (cBlk ab [ao] 22)) (ay : Has R (cBlk ae [.func (.func 55) #[] #[Pq aa, Pq ab]] 106)) {r : Bool} (hM : (zcl x ag ah).Ends r) (w : World) (H : St w w [] R) : Ret Tryz.prog 57 #[.agg #[I x.watch, I x.stage, B x.danger], Pq ae] w fun v w' => ∃ (y0 : Bool), y0 = r /\ v = B y0 /\ St w w' [] R := by
 refine ret_of_W Tryz.func57 rfl rfl rfl ?_
 refine W.seq ?_
 refine W.region rfl ?_
 refine t_box (v := .agg #[I x.watch, I x.stage, B x.danger]) (cs := [I x.watch, I x.stage, B x.danger]) H rfl rfl ?_
 intro ac aB H
 refine zA (B false) rfl ?_
 refine s_nil ?_
 refine W.seq ?_
 refine W.region rfl ?_
 refine s_val (x_fa (a := Pq ac) (v := Oq ac 2) rfl (fa_blk (o := 0) Fd101_2 Sz4)) ?_
 refine s_val (x_ld (p := Oq ac 2) (v := B x.danger) rfl (ldb_sc Sc4 (H.bl 0) rfl)) ?_
 refine zM (B x.danger) rfl ?_
 refine g_val x.danger (gy_t rfl) (fun hg => x_ld (p := Pq ae) (v := .func (.func 55) #[] #[Pq aa, Pq ab]) rfl (ldb_sc Sc106 (ay.blk H) rfl)) ?_
 refine g_val x.danger (gy_t rfl) (fun hg => x_ld (p := Pq ac) (v := .agg #[I x.watch, I x.stage, B x.danger]) rfl (ldb_ag (ds := [I x.watch, I x.stage, B x.danger]) Ag101 Sz101 (H.bl 0) rfl rfl)) ?_
 obtain ⟨r2, az, hM⟩ := M.e_bind hM
 refine t_gcallv (cap := [Pq aa, Pq ab]) x.danger (gy_t rfl) cf55 (fun hg => (gd_of (c := x.danger) hg (.func (.func 55) #[] #[Pq aa, Pq ab]))) (B r2) (fun _ => [.agg #[I x.watch, I x.stage, B x.danger]]) (fun hg => lst1 (gd_of (c := x.danger) hg (.agg #[I x.watch, I x.stage, B x.danger]))) H (fun hg => (zc7 x ag ah (ap.app _) aq (au.app _) (av.app _) aw (ax.app _) (M.e_opt az hg) _ (H.give (A := []) rfl)).mono fun v_ w_ ⟨y_, ai, aA, H_⟩ => by subst ai; exact ⟨aA, H.via H_⟩) ?_
 intro aC H
 refine g_val x.danger (gy_t rfl) (fun hg => x_not (b := r2) (gd_of (c := x.danger) hg (B r2))) ?_
 refine s_val (x_pand (b := x.danger) (r := !r2) rfl (fun hb => gd_of (c := x.danger) (by first | exact hb | (rw [hb]; rfl) | simp_all) (B (!r2))) rfl) ?_
 refine zA (B (x.danger && (!r2))) rfl ?_
 refine s_nil ?_
 refine W.ret ?_
 have ai := M.e_pure hM
 exact ⟨_, resE_tmp rfl, ⟨(x.danger && (!r2)), ai, rfl, (H.pk [])⟩⟩

def zbk (ab : List Int) (ac : List Span) (ae : List Int) (ag : List Town) (ah : Int) (ai : Int) (aa : List Flood) (p : List Bool) (aj : List Int) (ak : List Int) : (Nat × (List Int)) -> M ((Nat × (List Int)) ⊕ ((List Int) × (List Int))) := fun (s, l) =>
  bif decide ((s : Int) < (aa.length : Int)) then (
  M.grd (decide ((s : Int) < (aa.length : Int))) <|
  M.bind (zak ab ac ae ag ah ai aa (aa.getD s default) p) fun (r0, r1, r2) =>
  M.bind (zcl (⟨(r0 : Int), (r1 : Int), r2⟩ : Rpt) aj ak) fun r3 =>
  bif r3 then (
  M.grd (decide ((l.length + ([(s : Int)]).length) * 8 <= 140737488355328)) <|
  M.pure (.inl (s + 1, l ++ ([(s : Int)]))))
  else (
  M.pure (.inl (s + 1, l))))
  else (
  M.pure (.inr (l, l)))
def zb6 (aa : List Int) (ab : List Span) (ac : List Int) (ae : List Town) (ag : Int) (ah : Int) (ai : List Flood) (p : List Bool) (aj : List Int) (ak : List Int) : M (List Int) :=
  M.bind (M.iter (zbk aa ab ac ae ag ah ai p aj ak) (0, [])) fun (l2, l3) =>
  M.pure l3
theorem zdr {R : List Chunk} {ab : Nat} {aF : Cells} {aG : Value} {aH : Cells} {aI : Value} {aJ : Cells} {aK : Value} {aL : Cells} {aM : Value} {aN : Cells} {ag : Value} {a8 : Nat} {ah : Nat} {aO : Nat} {aP : Cells} {aQ : Value} {aR : Nat} {aS : Cells} {aT : Value} (ap : List Int) (aq : List Span) (au : List Int) (av : List Town) (aw : Int) (ax : Int) (aa : List Flood) (p : List Bool) (ay : List Int) (az : List Int) (ba : Reads R aF) (bc : Sl aF aG ap) (bf : Reads R aH) (bg : Sl aH aI aq) (bh : Reads R aJ) (bi : Sl aJ aK au) (bj : Reads R aL) (bm : Sl aL aM av) (aB : Reads R aN) (aj : Sl aN ag aa) (aU : Has R (cBlk ab [aG, aI, aK, aM, I aw, I ax, ag, .map (some a8)] 111)) (aV : p.length = 12) (bn : Reads R aP) (bo : Sl aP aQ ay) (bp : Has R (cBlk aO [aQ] 22)) (bq : Reads R aS) (br : Sl aS aT az) (bt : Has R (cBlk aR [aT] 22)) (bu : Has R (cBlk ah [.func (.func 55) #[] #[Pq aO, Pq aR]] 106)) {r : (List Int)} (hM : (zb6 ap aq au av aw ax aa p ay az).Ends r) (w : World) (H : St w w [] R) : Ret Tryz.prog 51 #[Pq ab, .agg (encB p).toArray, .agg #[.func (.func 57) #[] #[Pq ah]]] w fun v w' => ∃ (y0 : List Int) (u0 : Value), y0 = r /\ v = u0 /\ St w w' [cOwn (α := Int) 3 u0 y0] R := by
 refine ret_of_W Tryz.func51 rfl rfl rfl ?_
 refine W.seq ?_
 refine W.region rfl ?_
 refine t_box (v := .agg (encB p).toArray) (cs := encB p) H rfl rfl ?_
 intro aA bI H
 refine t_box (v := .agg #[.func (.func 57) #[] #[Pq ah]]) (cs := [.func (.func 57) #[] #[Pq ah]]) H rfl rfl ?_
 intro ai bJ H
 refine zA (.slice none 0 0) rfl ?_
 refine s_nil ?_
 refine W.seq ?_
 refine W.region rfl ?_
 refine zA (.slice none 0 0) rfl ?_
 refine s_nil ?_
 refine W.seq ?_
 refine W.seq ?_
 refine W.region rfl ?_
 refine zM (Pq ab) rfl ?_
 refine s_val (x_nc (a := ⟨ab, 0, none⟩) rfl) ?_
 refine s_val (x_fa (a := Pq ab) (v := Pq ab) rfl (fa_blk (o := 0) Fd111_0 Sz29)) ?_
 refine s_val (x_fa (a := Pq ab) (v := Oq ab 6) rfl (fa_blk (o := 0) Fd29_5 Sz27)) ?_
 refine s_val (x_ld (p := Oq ab 6) (v := ag) rfl (ldb_sc Sc27 (aU.blk H) rfl)) ?_
 have bK := (aj).len_le
 refine s_val (x_lenS T27.und rfl aj) ?_
 refine zM (I 0) rfl ?_
 refine s_nil ?_
 refine W.block ?_
 replace H := H.nilOwn (α := Int) 3
 obtain ⟨bv, aC, bw⟩ := M.e_bind hM
 obtain ⟨bL, aC⟩ := M.e_iter aC
 refine W.loop (fun m σ W => ∃ (s : Nat) (l : List Int) (ac : Value) (ρ : Env), σ = upds ρ [(0, Pq ab), (4, Pq aA), (5, Pq ai), (7, ac), (14, ag), (15, I (aa.length : Int)), (16, I (s : Int))] /\ M.iterN (zbk ap aq au av aw ax aa p ay az) m (s, l) = some bv /\ St w W [cOwn (α := Int) 3 ac l, cBlk ai [.func (.func 57) #[] #[Pq ah]] 108, cBlk aA (encB p) 96] R) ?_ ?_
 ·exact ⟨_, 0, [], (.slice none 0 0), _, upds_of _ _ ⟨rfl, rfl, rfl, rfl, rfl, rfl, rfl, trivial⟩, aC, H⟩
 rintro bM σ bN ⟨s, l, ac, ρ, rfl, aW, H⟩
 obtain ⟨aX, aY, bO, hM, aD⟩ := M.e_iterN aW
 simp only [zbk] at hM
 clear aW
 refine W.seq ?_
 refine W.region rfl ?_
 refine zC (s : Int) (aa.length : Int) (decide ((s : Int) < (aa.length : Int))) rfl rfl rfl ?_
 refine s_nil ?_
 refine W.seq ?_
 refine W.cond (decide ((s : Int) < (aa.length : Int))) rfl (fun ak => ?_) (fun ak => ?_)
 ·replace hM := M.e_t hM ak
  simp only [qy1, qy2, qy3, qy4, qy5, qy6, ne_eq, qy7] at ak
  refine W.skip ?_
  refine W.seq ?_
  refine W.block ?_
  refine W.seq ?_
  refine W.region rfl ?_
  refine zM (I (s : Int)) rfl ?_
  obtain ⟨bx, hM⟩ := M.e_grd hM
  simp only [Bool.and_eq_true, decide_eq_true_eq] at bx
  refine s_val (x_ix (a := ag) (b := I (s : Int)) (v := vat ag 2 (Int.toNat (s : Int))) rfl rfl (Sl.ix (α := Flood) T27.und T27.size aj (by omega) (by omega))) ?_
  obtain ⟨ae, bz, am⟩ := Flood_atA aj (i := (s : Int)) (by omega) (by omega)
  replace am : Sl _ ae (aa.getD s default).stages := am
  have bP := am.len_le
  refine s_val (x_ld (p := vat ag 2 (Int.toNat (s : Int))) (v := .agg #[I ((aa.getD s default).spring), ae]) rfl (ld_ag Ag85 Sz85 (At.mono bz (aB.at H)))) ?_
  refine t_alloc (cs := [I 0, .slice none 0 0]) H Al85 rfl ?_
  intro aZ bQ H
  refine zA (I (s : Int)) rfl ?_
  refine t_sw 0 0 [I ((aa.getD s default).spring), ae] (.agg #[I ((aa.getD s default).spring), ae]) H rfl rfl Sz85 rfl rfl rfl (by simp only [List.all_cons, List.all_nil, Bool.true_and, Bool.and_true, Sl.oc am]; try rfl) ?_
  intro bR H
  refine s_nil ?_
  refine W.seq ?_
  refine W.draw (fun W => St w W [cBlk aZ [I ((aa.getD s default).spring), ae] 85, cOwn (α := Int) 3 ac l, cBlk ai [.func (.func 57) #[] #[Pq ah]] 108, cBlk aA (encB p) 96] R) [(0, true), (1, true), (2, true), (3, true), (4, true), (5, false), (6, false)] mixed (by decide +kernel) rfl ?_
  intro bS a6
  replace H := H.ext a6
  clear a6
  refine ⟨(H.pk [0, 1, 2, 3]), ?_⟩
  refine d_q rfl (fun w' H => x_fa (a := Pq ai) (v := Pq ai) rfl (fa_blk (o := 0) Fd108_0 Sz106)) ?_
  refine d_q rfl (fun w' H => x_ld (p := Pq ai) (v := .func (.func 57) #[] #[Pq ah]) rfl (ldb_sc Sc106 (H.bl 2) rfl)) ?_
  refine d_q rfl (fun w' H => x_mv (v := Pq ab) rfl) ?_
  refine d_q rfl (fun w' H => x_ld (p := Pq aZ) (v := .agg #[I ((aa.getD s default).spring), ae]) rfl (ldb_ag (ds := [I ((aa.getD s default).spring), ae]) Ag85 Sz85 (H.bl 0) rfl rfl)) ?_
  refine d_q rfl (fun w' H => x_ld (p := Pq aA) (v := .agg (encB p).toArray) rfl (ldArrA Ag96 Sz96 aV (H.bl 3))) ?_
  refine d_l rfl ?_
  obtain ⟨bT, bA, hM⟩ := M.e_bind hM
  refine s_call cf48 [Pq ab, .agg #[I ((aa.getD s default).spring), ae], .agg (encB p).toArray] rfl (zaL ap aq au av aw ax aa (aa.getD s default) p (ba.app _) bc (bf.app _) bg (bh.app _) bi (bj.app _) bm (aB.app _) aj (aU.app _) (aB.app _) am aV bA _ (H.gt 4)) ?_
  rintro vq bU ⟨r0, r1, r2, bB, hvq, ao⟩
  subst bB
  subst vq
  try dsimp only at hM
  replace H := H.bk ao
  clear ao
  refine s_nil ⟨(H.pk [0, 1, 2, 3]), ?_⟩
  refine d_l rfl ?_
  obtain ⟨bV, bC, hM⟩ := M.e_bind hM
  refine s_callv (f := 57) rfl cf57 [.agg #[I r0, I r1, B r2]] rfl (zdg (⟨(r0 : Int), (r1 : Int), r2⟩ : Rpt) ay az (bn.app _) bo (bp.app _) (bq.app _) br (bt.app _) (bu.app _) bC _ (H.gt 4)) ?_
  rintro vq bW ⟨r3, bD, hvq, ao⟩
  subst bD
  subst vq
  try dsimp only at hM
  replace H := H.bk ao
  clear ao
  refine s_nil ⟨(H.pk [0, 1, 2, 3]), ?_⟩
  refine d_nil ?_
  refine W.cond r3 rfl (fun aE => ?_) (fun aE => ?_)
  ·replace hM := M.e_t hM aE
   refine W.region rfl ?_
   refine zM ac rfl ?_
   refine zM (I (s : Int)) rfl ?_
   refine t_bs (α := Int) T22 [I (s : Int)] [(s : Int)] H rfl (.cons rfl (Flat.rep_enc _ (s : Int)) <| .nil) rfl rfl rfl ?_
   intro bE bX H
   obtain ⟨bF, hM⟩ := M.e_grd hM
   simp only [Bool.and_eq_true, decide_eq_true_eq] at bF
   refine t_app (α := Int) (k := 2) (l := l) (l2 := [(s : Int)]) (l' := l ++ ([(s : Int)])) (vy := bE) T22 rfl H rfl rfl rfl (H.os 0) (H.ol 0) (rfl) (by first | omega | (simp only [List.length_nil] at *; omega)) ?_
   intro a7 bY H
   replace H := H.nf
   refine zA a7 rfl ?_
   refine s_nil ?_
   replace H := H.pk [2, 3, 4]
   refine W.region rfl ?_
   refine zR (s : Int) 1 ((s : Int) + 1) rfl rfl rfl (by omega) ?_
   refine zM (I ((s : Int) + 1)) rfl ?_
   refine s_nil ?_
   exact ⟨aX, aY, s + 1, l ++ ([(s : Int)]), a7, _, upds_of _ _ ⟨rfl, rfl, rfl, rfl, rfl, rfl, rfl, trivial⟩, M.e_inl hM aD, H⟩
  replace hM := M.e_f hM aE
  refine W.skip ?_
  refine W.region rfl ?_
  refine zR (s : Int) 1 ((s : Int) + 1) rfl rfl rfl (by omega) ?_
  refine zM (I ((s : Int) + 1)) rfl ?_
  refine s_nil ?_
  exact ⟨aX, aY, s + 1, l, ac, _, upds_of _ _ ⟨rfl, rfl, rfl, rfl, rfl, rfl, rfl, trivial⟩, M.e_inl hM aD, (H.pk [1, 2, 3])⟩
 replace hM := M.e_f hM ak
 simp only [qy1, qy2, qy3, qy4, qy5, qy6, ne_eq, qy7] at ak
 refine W.exit ?_
 have bG := M.e_inr hM aD
 subst bG
 replace hM := bw
 try dsimp only at hM
 replace H := H.pk [0]
 refine W.seq ?_
 refine W.region rfl ?_
 refine zM ac rfl ?_
 refine zA ac rfl ?_
 refine s_nil ?_
 refine W.ret ?_
 have bH := M.e_pure hM
 exact ⟨_, resE_tmp rfl, ⟨l, ac, bH, rfl, H⟩⟩

def zce (x : Rpt) (aa : List Int) (ab : List Int) : M Bool :=
  M.bind (M.opt (!x.danger) (zbN x aa ab) false) fun r2 =>
  M.pure ((!x.danger) && r2)
theorem zdt {R : List Chunk} {ae : Nat} {aa : Nat} {aj : Cells} {ak : Value} {ab : Nat} {am : Cells} {ao : Value} (x : Rpt) (ag : List Int) (ah : List Int) (ap : Reads R aj) (aq : Sl aj ak ag) (au : Has R (cBlk aa [ak] 22)) (av : Reads R am) (aw : Sl am ao ah) (ax : Has R (cBlk ab [ao] 22)) (ay : Has R (cBlk ae [.func (.func 55) #[] #[Pq aa, Pq ab]] 106)) {r : Bool} (hM : (zce x ag ah).Ends r) (w : World) (H : St w w [] R) : Ret Tryz.prog 58 #[.agg #[I x.watch, I x.stage, B x.danger], Pq ae] w fun v w' => ∃ (y0 : Bool), y0 = r /\ v = B y0 /\ St w w' [] R := by
 refine ret_of_W Tryz.func58 rfl rfl rfl ?_
 refine W.seq ?_
 refine W.region rfl ?_
 refine t_box (v := .agg #[I x.watch, I x.stage, B x.danger]) (cs := [I x.watch, I x.stage, B x.danger]) H rfl rfl ?_
 intro ac aB H
 refine zA (B false) rfl ?_
 refine s_nil ?_
 refine W.seq ?_
 refine W.region rfl ?_
 refine s_val (x_fa (a := Pq ac) (v := Oq ac 2) rfl (fa_blk (o := 0) Fd101_2 Sz4)) ?_
 refine s_val (x_ld (p := Oq ac 2) (v := B x.danger) rfl (ldb_sc Sc4 (H.bl 0) rfl)) ?_
 refine s_val (x_not (b := x.danger) rfl) ?_
 refine zM (B (!x.danger)) rfl ?_
 refine g_val (!x.danger) (gy_t rfl) (fun hg => x_ld (p := Pq ae) (v := .func (.func 55) #[] #[Pq aa, Pq ab]) rfl (ldb_sc Sc106 (ay.blk H) rfl)) ?_
 refine g_val (!x.danger) (gy_t rfl) (fun hg => x_ld (p := Pq ac) (v := .agg #[I x.watch, I x.stage, B x.danger]) rfl (ldb_ag (ds := [I x.watch, I x.stage, B x.danger]) Ag101 Sz101 (H.bl 0) rfl rfl)) ?_
 obtain ⟨r2, az, hM⟩ := M.e_bind hM
 refine t_gcallv (cap := [Pq aa, Pq ab]) (!x.danger) (gy_t rfl) cf55 (fun hg => (gd_of (c := !x.danger) hg (.func (.func 55) #[] #[Pq aa, Pq ab]))) (B r2) (fun _ => [.agg #[I x.watch, I x.stage, B x.danger]]) (fun hg => lst1 (gd_of (c := !x.danger) hg (.agg #[I x.watch, I x.stage, B x.danger]))) H (fun hg => (zc7 x ag ah (ap.app _) aq (au.app _) (av.app _) aw (ax.app _) (M.e_opt az hg) _ (H.give (A := []) rfl)).mono fun v_ w_ ⟨y_, ai, aA, H_⟩ => by subst ai; exact ⟨aA, H.via H_⟩) ?_
 intro aC H
 refine s_val (x_pand (b := !x.danger) (r := r2) rfl (fun hb => gd_of (c := !x.danger) (by first | exact hb | (rw [hb]; rfl) | simp_all) (B r2)) rfl) ?_
 refine zA (B ((!x.danger) && r2)) rfl ?_
 refine s_nil ?_
 refine W.ret ?_
 have ai := M.e_pure hM
 exact ⟨_, resE_tmp rfl, ⟨((!x.danger) && r2), ai, rfl, (H.pk [])⟩⟩

def zbm (ab : List Int) (ac : List Span) (ae : List Int) (ag : List Town) (ah : Int) (ai : Int) (aa : List Flood) (p : List Bool) (aj : List Int) (ak : List Int) : (Nat × (List Int)) -> M ((Nat × (List Int)) ⊕ ((List Int) × (List Int))) := fun (s, l) =>
  bif decide ((s : Int) < (aa.length : Int)) then (
  M.grd (decide ((s : Int) < (aa.length : Int))) <|
  M.bind (zak ab ac ae ag ah ai aa (aa.getD s default) p) fun (r0, r1, r2) =>
  M.bind (zce (⟨(r0 : Int), (r1 : Int), r2⟩ : Rpt) aj ak) fun r3 =>
  bif r3 then (
  M.grd (decide ((l.length + ([(s : Int)]).length) * 8 <= 140737488355328)) <|
  M.pure (.inl (s + 1, l ++ ([(s : Int)]))))
  else (
  M.pure (.inl (s + 1, l))))
  else (
  M.pure (.inr (l, l)))
def zbP (aa : List Int) (ab : List Span) (ac : List Int) (ae : List Town) (ag : Int) (ah : Int) (ai : List Flood) (p : List Bool) (aj : List Int) (ak : List Int) : M (List Int) :=
  M.bind (M.iter (zbm aa ab ac ae ag ah ai p aj ak) (0, [])) fun (l2, l3) =>
  M.pure l3
theorem zdT {R : List Chunk} {ab : Nat} {aF : Cells} {aG : Value} {aH : Cells} {aI : Value} {aJ : Cells} {aK : Value} {aL : Cells} {aM : Value} {aN : Cells} {ag : Value} {a8 : Nat} {ah : Nat} {aO : Nat} {aP : Cells} {aQ : Value} {aR : Nat} {aS : Cells} {aT : Value} (ap : List Int) (aq : List Span) (au : List Int) (av : List Town) (aw : Int) (ax : Int) (aa : List Flood) (p : List Bool) (ay : List Int) (az : List Int) (ba : Reads R aF) (bc : Sl aF aG ap) (bf : Reads R aH) (bg : Sl aH aI aq) (bh : Reads R aJ) (bi : Sl aJ aK au) (bj : Reads R aL) (bm : Sl aL aM av) (aB : Reads R aN) (aj : Sl aN ag aa) (aU : Has R (cBlk ab [aG, aI, aK, aM, I aw, I ax, ag, .map (some a8)] 111)) (aV : p.length = 12) (bn : Reads R aP) (bo : Sl aP aQ ay) (bp : Has R (cBlk aO [aQ] 22)) (bq : Reads R aS) (br : Sl aS aT az) (bt : Has R (cBlk aR [aT] 22)) (bu : Has R (cBlk ah [.func (.func 55) #[] #[Pq aO, Pq aR]] 106)) {r : (List Int)} (hM : (zbP ap aq au av aw ax aa p ay az).Ends r) (w : World) (H : St w w [] R) : Ret Tryz.prog 51 #[Pq ab, .agg (encB p).toArray, .agg #[.func (.func 58) #[] #[Pq ah]]] w fun v w' => ∃ (y0 : List Int) (u0 : Value), y0 = r /\ v = u0 /\ St w w' [cOwn (α := Int) 3 u0 y0] R := by
 refine ret_of_W Tryz.func51 rfl rfl rfl ?_
 refine W.seq ?_
 refine W.region rfl ?_
 refine t_box (v := .agg (encB p).toArray) (cs := encB p) H rfl rfl ?_
 intro aA bI H
 refine t_box (v := .agg #[.func (.func 58) #[] #[Pq ah]]) (cs := [.func (.func 58) #[] #[Pq ah]]) H rfl rfl ?_
 intro ai bJ H
 refine zA (.slice none 0 0) rfl ?_
 refine s_nil ?_
 refine W.seq ?_
 refine W.region rfl ?_
 refine zA (.slice none 0 0) rfl ?_
 refine s_nil ?_
 refine W.seq ?_
 refine W.seq ?_
 refine W.region rfl ?_
 refine zM (Pq ab) rfl ?_
 refine s_val (x_nc (a := ⟨ab, 0, none⟩) rfl) ?_
 refine s_val (x_fa (a := Pq ab) (v := Pq ab) rfl (fa_blk (o := 0) Fd111_0 Sz29)) ?_
 refine s_val (x_fa (a := Pq ab) (v := Oq ab 6) rfl (fa_blk (o := 0) Fd29_5 Sz27)) ?_
 refine s_val (x_ld (p := Oq ab 6) (v := ag) rfl (ldb_sc Sc27 (aU.blk H) rfl)) ?_
 have bK := (aj).len_le
 refine s_val (x_lenS T27.und rfl aj) ?_
 refine zM (I 0) rfl ?_
 refine s_nil ?_
 refine W.block ?_
 replace H := H.nilOwn (α := Int) 3
 obtain ⟨bv, aC, bw⟩ := M.e_bind hM
 obtain ⟨bL, aC⟩ := M.e_iter aC
 refine W.loop (fun m σ W => ∃ (s : Nat) (l : List Int) (ac : Value) (ρ : Env), σ = upds ρ [(0, Pq ab), (4, Pq aA), (5, Pq ai), (7, ac), (14, ag), (15, I (aa.length : Int)), (16, I (s : Int))] /\ M.iterN (zbm ap aq au av aw ax aa p ay az) m (s, l) = some bv /\ St w W [cOwn (α := Int) 3 ac l, cBlk ai [.func (.func 58) #[] #[Pq ah]] 108, cBlk aA (encB p) 96] R) ?_ ?_
 ·exact ⟨_, 0, [], (.slice none 0 0), _, upds_of _ _ ⟨rfl, rfl, rfl, rfl, rfl, rfl, rfl, trivial⟩, aC, H⟩
 rintro bM σ bN ⟨s, l, ac, ρ, rfl, aW, H⟩
 obtain ⟨aX, aY, bO, hM, aD⟩ := M.e_iterN aW
 simp only [zbm] at hM
 clear aW
 refine W.seq ?_
 refine W.region rfl ?_
 refine zC (s : Int) (aa.length : Int) (decide ((s : Int) < (aa.length : Int))) rfl rfl rfl ?_
 refine s_nil ?_
 refine W.seq ?_
 refine W.cond (decide ((s : Int) < (aa.length : Int))) rfl (fun ak => ?_) (fun ak => ?_)
 ·replace hM := M.e_t hM ak
  simp only [qy1, qy2, qy3, qy4, qy5, qy6, ne_eq, qy7] at ak
  refine W.skip ?_
  refine W.seq ?_
  refine W.block ?_
  refine W.seq ?_
  refine W.region rfl ?_
  refine zM (I (s : Int)) rfl ?_
  obtain ⟨bx, hM⟩ := M.e_grd hM
  simp only [Bool.and_eq_true, decide_eq_true_eq] at bx
  refine s_val (x_ix (a := ag) (b := I (s : Int)) (v := vat ag 2 (Int.toNat (s : Int))) rfl rfl (Sl.ix (α := Flood) T27.und T27.size aj (by omega) (by omega))) ?_
  obtain ⟨ae, bz, am⟩ := Flood_atA aj (i := (s : Int)) (by omega) (by omega)
  replace am : Sl _ ae (aa.getD s default).stages := am
  have bP := am.len_le
  refine s_val (x_ld (p := vat ag 2 (Int.toNat (s : Int))) (v := .agg #[I ((aa.getD s default).spring), ae]) rfl (ld_ag Ag85 Sz85 (At.mono bz (aB.at H)))) ?_
  refine t_alloc (cs := [I 0, .slice none 0 0]) H Al85 rfl ?_
  intro aZ bQ H
  refine zA (I (s : Int)) rfl ?_
  refine t_sw 0 0 [I ((aa.getD s default).spring), ae] (.agg #[I ((aa.getD s default).spring), ae]) H rfl rfl Sz85 rfl rfl rfl (by simp only [List.all_cons, List.all_nil, Bool.true_and, Bool.and_true, Sl.oc am]; try rfl) ?_
  intro bR H
  refine s_nil ?_
  refine W.seq ?_
  refine W.draw (fun W => St w W [cBlk aZ [I ((aa.getD s default).spring), ae] 85, cOwn (α := Int) 3 ac l, cBlk ai [.func (.func 58) #[] #[Pq ah]] 108, cBlk aA (encB p) 96] R) [(0, true), (1, true), (2, true), (3, true), (4, true), (5, false), (6, false)] mixed (by decide +kernel) rfl ?_
  intro bS a6
  replace H := H.ext a6
  clear a6
  refine ⟨(H.pk [0, 1, 2, 3]), ?_⟩
  refine d_q rfl (fun w' H => x_fa (a := Pq ai) (v := Pq ai) rfl (fa_blk (o := 0) Fd108_0 Sz106)) ?_
  refine d_q rfl (fun w' H => x_ld (p := Pq ai) (v := .func (.func 58) #[] #[Pq ah]) rfl (ldb_sc Sc106 (H.bl 2) rfl)) ?_
  refine d_q rfl (fun w' H => x_mv (v := Pq ab) rfl) ?_
  refine d_q rfl (fun w' H => x_ld (p := Pq aZ) (v := .agg #[I ((aa.getD s default).spring), ae]) rfl (ldb_ag (ds := [I ((aa.getD s default).spring), ae]) Ag85 Sz85 (H.bl 0) rfl rfl)) ?_
  refine d_q rfl (fun w' H => x_ld (p := Pq aA) (v := .agg (encB p).toArray) rfl (ldArrA Ag96 Sz96 aV (H.bl 3))) ?_
  refine d_l rfl ?_
  obtain ⟨bT, bA, hM⟩ := M.e_bind hM
  refine s_call cf48 [Pq ab, .agg #[I ((aa.getD s default).spring), ae], .agg (encB p).toArray] rfl (zaL ap aq au av aw ax aa (aa.getD s default) p (ba.app _) bc (bf.app _) bg (bh.app _) bi (bj.app _) bm (aB.app _) aj (aU.app _) (aB.app _) am aV bA _ (H.gt 4)) ?_
  rintro vq bU ⟨r0, r1, r2, bB, hvq, ao⟩
  subst bB
  subst vq
  try dsimp only at hM
  replace H := H.bk ao
  clear ao
  refine s_nil ⟨(H.pk [0, 1, 2, 3]), ?_⟩
  refine d_l rfl ?_
  obtain ⟨bV, bC, hM⟩ := M.e_bind hM
  refine s_callv (f := 58) rfl cf58 [.agg #[I r0, I r1, B r2]] rfl (zdt (⟨(r0 : Int), (r1 : Int), r2⟩ : Rpt) ay az (bn.app _) bo (bp.app _) (bq.app _) br (bt.app _) (bu.app _) bC _ (H.gt 4)) ?_
  rintro vq bW ⟨r3, bD, hvq, ao⟩
  subst bD
  subst vq
  try dsimp only at hM
  replace H := H.bk ao
  clear ao
  refine s_nil ⟨(H.pk [0, 1, 2, 3]), ?_⟩
  refine d_nil ?_
  refine W.cond r3 rfl (fun aE => ?_) (fun aE => ?_)
  ·replace hM := M.e_t hM aE
   refine W.region rfl ?_
   refine zM ac rfl ?_
   refine zM (I (s : Int)) rfl ?_
   refine t_bs (α := Int) T22 [I (s : Int)] [(s : Int)] H rfl (.cons rfl (Flat.rep_enc _ (s : Int)) <| .nil) rfl rfl rfl ?_
   intro bE bX H
   obtain ⟨bF, hM⟩ := M.e_grd hM
   simp only [Bool.and_eq_true, decide_eq_true_eq] at bF
   refine t_app (α := Int) (k := 2) (l := l) (l2 := [(s : Int)]) (l' := l ++ ([(s : Int)])) (vy := bE) T22 rfl H rfl rfl rfl (H.os 0) (H.ol 0) (rfl) (by first | omega | (simp only [List.length_nil] at *; omega)) ?_
   intro a7 bY H
   replace H := H.nf
   refine zA a7 rfl ?_
   refine s_nil ?_
   replace H := H.pk [2, 3, 4]
   refine W.region rfl ?_
   refine zR (s : Int) 1 ((s : Int) + 1) rfl rfl rfl (by omega) ?_
   refine zM (I ((s : Int) + 1)) rfl ?_
   refine s_nil ?_
   exact ⟨aX, aY, s + 1, l ++ ([(s : Int)]), a7, _, upds_of _ _ ⟨rfl, rfl, rfl, rfl, rfl, rfl, rfl, trivial⟩, M.e_inl hM aD, H⟩
  replace hM := M.e_f hM aE
  refine W.skip ?_
  refine W.region rfl ?_
  refine zR (s : Int) 1 ((s : Int) + 1) rfl rfl rfl (by omega) ?_
  refine zM (I ((s : Int) + 1)) rfl ?_
  refine s_nil ?_
  exact ⟨aX, aY, s + 1, l, ac, _, upds_of _ _ ⟨rfl, rfl, rfl, rfl, rfl, rfl, rfl, trivial⟩, M.e_inl hM aD, (H.pk [1, 2, 3])⟩
 replace hM := M.e_f hM ak
 simp only [qy1, qy2, qy3, qy4, qy5, qy6, ne_eq, qy7] at ak
 refine W.exit ?_
 have bG := M.e_inr hM aD
 subst bG
 replace hM := bw
 try dsimp only at hM
 replace H := H.pk [0]
 refine W.seq ?_
 refine W.region rfl ?_
 refine zM ac rfl ?_
 refine zA ac rfl ?_
 refine s_nil ?_
 refine W.ret ?_
 have bH := M.e_pure hM
 exact ⟨_, resE_tmp rfl, ⟨l, ac, bH, rfl, H⟩⟩

end Go.Proofs.YtbaehghammbjdaaGreat
end
