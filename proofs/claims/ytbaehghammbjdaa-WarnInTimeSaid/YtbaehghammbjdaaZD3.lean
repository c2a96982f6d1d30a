/- Part 3 of the texts on which the proof rests. Conditions: none. -/
import Derived.Test.YtbaehghammbjdaaZD2
set_option linter.unusedVariables false
set_option linter.unusedSimpArgs false
set_option linter.unusedSectionVars false
section
set_option maxRecDepth 100000
set_option maxHeartbeats 16000000
namespace Go.Proofs.Ytbaehghammbjdaa
open Go Go.Nm
def zbO (a : Int) (aa : List Int) (ab : List Span) (ac : List Int) (ae : List Town) (ah : Int) (ai : Int) (aj : List Flood) (ak : List Int) (al : List Span) (am : List Int) (ao : List Town) (aq : Int) (au : Int) (av : List Flood) : ((List Dem) × Int) -> M (((List Dem) × Int) ⊕ ((List Dem) × (List Dem))) := fun (l, j) =>
  M.grd ((!(decide (a < j)) || (decide ((0 : Int) <= j) && decide (j < (l.length : Int))))) <|
  M.grd ((!(decide (a < j)) || (decide ((-9223372036854775808 : Int) <= (j - 1)) && decide ((j - 1) <= (9223372036854775807 : Int))))) <|
  M.grd ((!(decide (a < j)) || (decide ((0 : Int) <= (j - 1)) && decide ((j - 1) < (l.length : Int))))) <|
  bif decide (a < j) then (
  M.bind (zau (l.getD (Int.toNat j) default) (l.getD (Int.toNat (j - 1)) default) aa ab ac ae ah ai aj ak al am ao aq au av) fun r2 =>
  bif ((decide (a < j)) && (decide (r2 < 0))) then (
  M.grd (decide ((-9223372036854775808 : Int) <= (j - 1)) && decide ((j - 1) <= (9223372036854775807 : Int))) <|
  M.grd (decide ((0 : Int) <= (j - 1)) && decide ((j - 1) < (l.length : Int))) <|
  M.grd (decide ((0 : Int) <= j) && decide (j < (l.length : Int))) <|
  M.grd (decide ((0 : Int) <= (j - 1)) && decide ((j - 1) < ((l.set (Int.toNat j) (l.getD (Int.toNat (j - 1)) default)).length : Int))) <|
  M.pure (.inl ((l.set (Int.toNat j) (l.getD (Int.toNat (j - 1)) default)).set (Int.toNat (j - 1)) (l.getD (Int.toNat j) default), j - 1)))
  else (
  M.pure (.inr (l, l))))
  else (
  bif ((decide (a < j)) && (decide ((0 : Int) < 0))) then (
  M.grd (decide ((-9223372036854775808 : Int) <= (j - 1)) && decide ((j - 1) <= (9223372036854775807 : Int))) <|
  M.grd (decide ((0 : Int) <= (j - 1)) && decide ((j - 1) < (l.length : Int))) <|
  M.grd (decide ((0 : Int) <= j) && decide (j < (l.length : Int))) <|
  M.grd (decide ((0 : Int) <= (j - 1)) && decide ((j - 1) < ((l.set (Int.toNat j) (l.getD (Int.toNat (j - 1)) default)).length : Int))) <|
  M.pure (.inl ((l.set (Int.toNat j) (l.getD (Int.toNat (j - 1)) default)).set (Int.toNat (j - 1)) (l.getD (Int.toNat j) default), j - 1)))
  else (
  M.pure (.inr (l, l))))
def za6 (a : Int) (b : Int) (aa : List Int) (ab : List Span) (ac : List Int) (ae : List Town) (ah : Int) (ai : Int) (aj : List Flood) (ak : List Int) (al : List Span) (am : List Int) (ao : List Town) (aq : Int) (au : Int) (av : List Flood) : ((List Dem) × Int) -> M (((List Dem) × Int) ⊕ (List Dem)) := fun (l4, i) =>
  bif decide (i < b) then (
  M.bind (M.iter (zbO a aa ab ac ae ah ai aj ak al am ao aq au av) (l4, i)) fun (l2, l3) =>
  M.grd (decide ((-9223372036854775808 : Int) <= (i + 1)) && decide ((i + 1) <= (9223372036854775807 : Int))) <|
  M.pure (.inl (l3, i + 1)))
  else (
  M.pure (.inr l4))
def zbj (data : List Dem) (a : Int) (b : Int) (aa : List Int) (ab : List Span) (ac : List Int) (ae : List Town) (ah : Int) (ai : Int) (aj : List Flood) (ak : List Int) (al : List Span) (am : List Int) (ao : List Town) (aq : Int) (au : Int) (av : List Flood) : M (List Dem) :=
  M.grd (decide ((-9223372036854775808 : Int) <= (a + 1)) && decide ((a + 1) <= (9223372036854775807 : Int))) <|
  M.bind (M.iter (za6 a b aa ab ac ae ah ai aj ak al am ao aq au av) (data, a + 1)) fun l5 =>
  M.pure l5
theorem zc0 {R : List Chunk} {aa : Value} {aC : Nat} {aR : Nat} {aS : Nat} {aT : Cells} {aU : Value} {aV : Cells} {aW : Value} {aX : Cells} {aY : Value} {aZ : Cells} {a8 : Value} {ba : Cells} {bb : Value} {am : Nat} {B_b_cmp2020207 : Base} {bc : Nat} {bf : Nat} {bg : Cells} {bh : Value} {bi : Cells} {bj : Value} {bm : Cells} {bn : Value} {bo : Cells} {bp : Value} {bq : Cells} {br : Value} {bA : Nat} (data : List Dem) (a : Int) (b : Int) (ab : List Int) (ac : List Span) (ae : List Int) (ah : List Town) (ai : Int) (aj : Int) (ak : List Flood) (aE : List Int) (aF : List Span) (aG : List Int) (aH : List Town) (aI : Int) (aJ : Int) (aK : List Flood) (bB : Reads R aT) (bC : Sl aT aU ab) (bD : Reads R aV) (bE : Sl aV aW ac) (bF : Reads R aX) (bG : Sl aX aY ae) (bH : Reads R aZ) (bI : Sl aZ a8 ah) (bJ : Reads R ba) (bK : Sl ba bb ak) (bL : Has R (cBlk aS [aU, aW, aY, a8, I ai, I aj, bb, .map (some am)] 86)) (bM : Has R (cBlk aR [.func (.func 54) #[Pq aS] #[]] 106)) (bN : Reads R bg) (bO : Sl bg bh aE) (bP : Reads R bi) (bQ : Sl bi bj aF) (bR : Reads R bm) (bS : Sl bm bn aG) (bT : Reads R bo) (bU : Sl bo bp aH) (bV : Reads R bq) (bW : Sl bq br aK) (bX : Has R (cBlk bf [bh, bj, bn, bp, I aI, I aJ, br, .map (some bA)] 86)) (bY : Has R (cBlk bc [Pq bf] 72)) (bZ : Has R (cBlk aC [.func (.func 69) #[] #[Pq aR, Pq bc]] 114)) {r : (List Dem)} (hM : (zbj data a b ab ac ae ah ai aj ak aE aF aG aH aI aJ aK).Ends r) (w : World) (H : St w w [cOwn (α := Dem) 62 aa data, cMem encDm am B_b_cmp2020207 (zaa ab ac ae ah ai aj ak)] R) : Ret Try.prog 91 #[aa, I a, I b, .func (.func 71) #[] #[Pq aC]] w fun v w' => ∃ (y0 : List Dem) (b4 : Base), y0 = r /\ v = .tuple #[] /\ St w w' [cOwn (α := Dem) 62 aa y0, cMem encDm am b4 (zaa ab ac ae ah ai aj ak)] R := by
 refine ret_of_W Try.func91 rfl rfl rfl ?_
 refine W.seq ?_
 refine W.region rfl ?_
 refine zM (I a) rfl ?_
 obtain ⟨b5, hM⟩ := M.e_grd hM
 simp only [Bool.and_eq_true, decide_eq_true_eq] at b5
 refine zR a 1 (a + 1) rfl rfl rfl (by omega) ?_
 refine zA (I (a + 1)) rfl ?_
 refine s_nil ?_
 refine W.block ?_
 obtain ⟨b6, aM, b7⟩ := M.e_bind hM
 obtain ⟨b8, aM⟩ := M.e_iter aM
 refine W.loop (fun m σ W => ∃ (l4 : List Dem) (i : Int) (B_mem2 : Base) (ρ : Env), σ = upds ρ [(0, aa), (1, I a), (2, I b), (3, .func (.func 71) #[] #[Pq aC]), (8, I i)] /\ M.iterN (za6 a b ab ac ae ah ai aj ak aE aF aG aH aI aJ aK) m (l4, i) = some b6 /\ St w W [cOwn (α := Dem) 62 aa l4, cMem encDm am B_mem2 (zaa ab ac ae ah ai aj ak)] R) ?_ ?_
 ·exact ⟨_, data, a + 1, B_b_cmp2020207, _, upds_of _ _ ⟨rfl, rfl, rfl, rfl, rfl, trivial⟩, aM, H⟩
 rintro cu σ cw ⟨l4, i, B_mem2, ρ, rfl, bt, H⟩
 obtain ⟨bu, bv, cx, hM, aN⟩ := M.e_iterN bt
 simp only [za6] at hM
 clear bt
 refine W.seq ?_
 refine W.seq ?_
 refine W.region rfl ?_
 refine zM (I i) rfl ?_
 refine zM (I b) rfl ?_
 refine zC i b (decide (i < b)) rfl rfl rfl ?_
 refine s_nil ?_
 refine W.cond (decide (i < b)) rfl (fun aL => ?_) (fun aL => ?_)
 ·replace hM := M.e_t hM aL
  simp only [qy1, qy2, qy3, qy4, qy5, qy6, ne_eq, qy7] at aL
  refine W.skip ?_
  refine W.seq ?_
  refine W.block ?_
  refine W.seq ?_
  refine W.region rfl ?_
  refine zM (I i) rfl ?_
  refine zA (I i) rfl ?_
  refine s_nil ?_
  refine W.block ?_
  obtain ⟨b9, aO, bw⟩ := M.e_bind hM
  obtain ⟨b8, aO⟩ := M.e_iter aO
  refine W.loop (fun m σ W => ∃ (l : List Dem) (j : Int) (B_mem : Base) (ρ : Env), σ = upds ρ [(0, aa), (1, I a), (2, I b), (3, .func (.func 71) #[] #[Pq aC]), (8, I i), (9, I j)] /\ M.iterN (zbO a ab ac ae ah ai aj ak aE aF aG aH aI aJ aK) m (l, j) = some b9 /\ St w W [cOwn (α := Dem) 62 aa l, cMem encDm am B_mem (zaa ab ac ae ah ai aj ak)] R) ?_ ?_
  ·exact ⟨_, l4, i, B_mem2, _, upds_of _ _ ⟨rfl, rfl, rfl, rfl, rfl, rfl, trivial⟩, aO, H⟩
  rintro cy σ cz ⟨l, j, B_mem, ρ, rfl, bx, H⟩
  obtain ⟨ax, ay, cA, hM, aw⟩ := M.e_iterN bx
  simp only [zbO] at hM
  clear bx
  refine W.seq ?_
  refine W.seq ?_
  refine W.draw (fun W => St w W [cOwn (α := Dem) 62 aa l] R) [(0, true), (1, true), (2, true), (3, true), (4, true), (5, true), (6, true), (7, true), (8, true), (9, true), (10, true), (11, true), (12, true), (13, true), (14, false), (15, true), (16, true)] mixed (by decide +kernel) rfl ?_
  intro cB ao
  replace H := H.ext ao
  clear ao
  refine ⟨(H.pk [0]), ?_⟩
  refine d_q rfl (fun w' H => x_mv (v := I j) rfl) ?_
  refine d_q rfl (fun w' H => x_mv (v := I a) rfl) ?_
  refine d_q rfl (fun w' H => x_cmp (kd := .i64) (a := j) (b := a) (r := decide (a < j)) rfl rfl rfl) ?_
  refine d_q rfl (fun w' H => x_mv (v := B (decide (a < j))) rfl) ?_
  refine d_qg (decide (a < j)) rfl (gy_t rfl) (fun hg => (fun w' H => x_mv (v := .func (.func 71) #[] #[Pq aC]) rfl)) ?_
  refine d_qg (decide (a < j)) rfl (gy_t rfl) (fun hg => (fun w' H => x_mv (v := aa) rfl)) ?_
  refine d_qg (decide (a < j)) rfl (gy_t rfl) (fun hg => (fun w' H => x_mv (v := I j) rfl)) ?_
  obtain ⟨az, hM⟩ := M.e_grd hM
  replace az := M.imp_of az
  simp only [Bool.and_eq_true, decide_eq_true_eq] at az
  refine d_qg (decide (a < j)) rfl (gy_t rfl) (fun hg => (fun w' H => x_ix (a := aa) (b := I j) (v := vat aa 2 (Int.toNat j)) (gd_of (c := decide (a < j)) hg (aa)) (gd_of (c := decide (a < j)) hg (I j)) (Sl.ix (α := Dem) T57.und T57.size (H.os 0) (by have al := az.resolve_left (by rw [hg]; decide); first | exact al | exact al.1 | exact al.2 | omega | (have ao := hg; simp at ao; omega)) (by have al := az.resolve_left (by rw [hg]; decide); first | exact al | exact al.1 | exact al.2 | omega | (have ao := hg; simp at ao; omega))))) ?_
  refine d_qg (decide (a < j)) rfl (gy_t rfl) (fun hg => (fun w' H => x_ld (p := vat aa 2 (Int.toNat j)) (v := .agg #[I ((l.getD (Int.toNat j) default).spring), I ((l.getD (Int.toNat j) default).town)]) (gd_of (c := decide (a < j)) hg (vat aa 2 (Int.toNat j))) (ld_ag Ag62 Sz62 (At.mono (Dem_atA (H.os 0) (i := j) (by have al := az.resolve_left (by rw [hg]; decide); first | exact al | exact al.1 | exact al.2 | omega | (have ao := hg; simp at ao; omega)) (by have al := az.resolve_left (by rw [hg]; decide); first | exact al | exact al.1 | exact al.2 | omega | (have ao := hg; simp at ao; omega))) (H.ol 0))))) ?_
  refine d_qg (decide (a < j)) rfl (gy_t rfl) (fun hg => (fun w' H => x_mv (v := aa) rfl)) ?_
  refine d_qg (decide (a < j)) rfl (gy_t rfl) (fun hg => (fun w' H => x_mv (v := I j) rfl)) ?_
  obtain ⟨aA, hM⟩ := M.e_grd hM
  replace aA := M.imp_of aA
  simp only [Bool.and_eq_true, decide_eq_true_eq] at aA
  refine d_qg (decide (a < j)) rfl (gy_t rfl) (fun hg => (fun w' H => x_ari (a := j) (b := 1) (r := j - 1) (gd_of (c := decide (a < j)) hg (I j)) rfl rfl (by have al := az.resolve_left (by rw [hg]; decide); have au := aA.resolve_left (by rw [hg]; decide); first | exact al | exact al.1 | exact al.2 | exact au | exact au.1 | exact au.2 | omega | (have ao := hg; simp at ao; omega)))) ?_
  obtain ⟨aB, hM⟩ := M.e_grd hM
  replace aB := M.imp_of aB
  simp only [Bool.and_eq_true, decide_eq_true_eq] at aB
  refine d_qg (decide (a < j)) rfl (gy_t rfl) (fun hg => (fun w' H => x_ix (a := aa) (b := I (j - 1)) (v := vat aa 2 (Int.toNat (j - 1))) (gd_of (c := decide (a < j)) hg (aa)) (gd_of (c := decide (a < j)) hg (I (j - 1))) (Sl.ix (α := Dem) T57.und T57.size (H.os 0) (by have al := az.resolve_left (by rw [hg]; decide); have au := aA.resolve_left (by rw [hg]; decide); have av := aB.resolve_left (by rw [hg]; decide); first | exact al | exact al.1 | exact al.2 | exact au | exact au.1 | exact au.2 | exact av | exact av.1 | exact av.2 | omega | (have ao := hg; simp at ao; omega)) (by have al := az.resolve_left (by rw [hg]; decide); have au := aA.resolve_left (by rw [hg]; decide); have av := aB.resolve_left (by rw [hg]; decide); first | exact al | exact al.1 | exact al.2 | exact au | exact au.1 | exact au.2 | exact av | exact av.1 | exact av.2 | omega | (have ao := hg; simp at ao; omega))))) ?_
  refine d_qg (decide (a < j)) rfl (gy_t rfl) (fun hg => (fun w' H => x_ld (p := vat aa 2 (Int.toNat (j - 1))) (v := .agg #[I ((l.getD (Int.toNat (j - 1)) default).spring), I ((l.getD (Int.toNat (j - 1)) default).town)]) (gd_of (c := decide (a < j)) hg (vat aa 2 (Int.toNat (j - 1)))) (ld_ag Ag62 Sz62 (At.mono (Dem_atA (H.os 0) (i := j - 1) (by have al := az.resolve_left (by rw [hg]; decide); have au := aA.resolve_left (by rw [hg]; decide); have av := aB.resolve_left (by rw [hg]; decide); first | exact al | exact al.1 | exact al.2 | exact au | exact au.1 | exact au.2 | exact av | exact av.1 | exact av.2 | omega | (have ao := hg; simp at ao; omega)) (by have al := az.resolve_left (by rw [hg]; decide); have au := aA.resolve_left (by rw [hg]; decide); have av := aB.resolve_left (by rw [hg]; decide); first | exact al | exact al.1 | exact al.2 | exact au | exact au.1 | exact au.2 | exact av | exact av.1 | exact av.2 | omega | (have ao := hg; simp at ao; omega))) (H.ol 0))))) ?_
  refine d_l rfl ?_
  refine g_splitV (decide (a < j)) (I 0) (gy_t rfl) (fun aD => ?_) (fun aD => ?_)
  ·replace hM := M.e_t hM aD
   obtain ⟨cC, ca, hM⟩ := M.e_bind hM
   refine s_callv (f := 71) (by exact (gd_of (c := decide (a < j)) aD (.func (.func 71) #[] #[Pq aC]))) cf71 [.agg #[I ((l.getD (Int.toNat j) default).spring), I ((l.getD (Int.toNat j) default).town)], .agg #[I ((l.getD (Int.toNat (j - 1)) default).spring), I ((l.getD (Int.toNat (j - 1)) default).town)]] (by exact (lst2 (gd_of (c := decide (a < j)) aD (.agg #[I ((l.getD (Int.toNat j) default).spring), I ((l.getD (Int.toNat j) default).town)])) (gd_of (c := decide (a < j)) aD (.agg #[I ((l.getD (Int.toNat (j - 1)) default).spring), I ((l.getD (Int.toNat (j - 1)) default).town)])))) (zb5 (l.getD (Int.toNat j) default) (l.getD (Int.toNat (j - 1)) default) ab ac ae ah ai aj ak aE aF aG aH aI aJ aK (bB.app _) bC (bD.app _) bE (bF.app _) bG (bH.app _) bI (bJ.app _) bK (bL.app _) (bM.app _) (bN.app _) bO (bP.app _) bQ (bR.app _) bS (bT.app _) bU (bV.app _) bW (bX.app _) (bY.app _) (bZ.app _) ca _ ((H.pk [1, 0]).gt 1)) ?_
   rintro vq cD ⟨r2, aq, cb, hvq, bz⟩
   subst cb
   subst vq
   try dsimp only at hM
   replace H := H.pk [1, 0] |>.bk bz
   clear bz
   refine s_nil ⟨(H.pk [1]), ?_⟩
   refine d_qg (decide (a < j)) rfl (gy_t rfl) (fun hg => (fun w' H => x_cmp (kd := .i64) (a := r2) (b := 0) (r := decide (r2 < 0)) rfl rfl rfl)) ?_
   refine d_q rfl (fun w' H => x_pand (b := decide (a < j)) (r := decide (r2 < 0)) rfl (fun hb => gd_of (c := decide (a < j)) (by first | exact hb | (rw [hb]; rfl) | simp_all) (B (decide (r2 < 0)))) rfl) ?_
   refine d_nil ?_
   refine W.cond ((decide (a < j)) && (decide (r2 < 0))) rfl (fun aP => ?_) (fun aP => ?_)
   ·replace hM := M.e_t hM aP
    refine W.skip ?_
    refine W.seq ?_
    refine W.block ?_
    refine W.drawT (fun W => St w W [cMem encDm am aq (zaa ab ac ae ah ai aj ak)] R) (.q 0 (.q 1 (.q 2 (.q 3 (.q 4 (.q 5 (.q 6 (.q 7 (.q 10 (.q 11 (.l2 8 (.l2 9 (.l 12 (.l 13 (.l 14 (.l 15 (.l 16 (.l 17 .nil)))))) 12 (.l2 9 (.l 13 (.l 14 (.l 15 (.l 16 (.l 17 .nil))))) 13 (.l 9 (.l 14 (.l 15 (.l 16 (.l 17 .nil))))))) 12 (.l2 8 (.l2 9 (.l 13 (.l 14 (.l 15 (.l 16 (.l 17 .nil))))) 13 (.l 9 (.l 14 (.l 15 (.l 16 (.l 17 .nil)))))) 13 (.l 8 (.l 9 (.l 14 (.l 15 (.l 16 (.l 17 .nil)))))))))))))))))) mixed (by decide +kernel) rfl ?_
    intro cE ao
    replace H := H.ext ao
    clear ao
    refine ⟨(H.pk [0]), ?_⟩
    refine t_q rfl (fun w' H => x_mv (v := aa) rfl) ?_
    refine t_q rfl (fun w' H => x_mv (v := I j) rfl) ?_
    refine t_q rfl (fun w' H => x_mv (v := aa) rfl) ?_
    refine t_q rfl (fun w' H => x_mv (v := I j) rfl) ?_
    obtain ⟨cc, hM⟩ := M.e_grd hM
    simp only [Bool.and_eq_true, decide_eq_true_eq] at cc
    refine t_q rfl (fun w' H => x_ari (a := j) (b := 1) (r := j - 1) rfl rfl rfl (by omega)) ?_
    refine t_q rfl (fun w' H => x_mv (v := aa) rfl) ?_
    refine t_q rfl (fun w' H => x_mv (v := I j) rfl) ?_
    refine t_q rfl (fun w' H => x_ari (a := j) (b := 1) (r := j - 1) rfl rfl rfl (by omega)) ?_
    refine t_q rfl (fun w' H => x_mv (v := aa) rfl) ?_
    refine t_q rfl (fun w' H => x_mv (v := I j) rfl) ?_
    obtain ⟨cd, hM⟩ := M.e_grd hM
    simp only [Bool.and_eq_true, decide_eq_true_eq] at cd
    obtain ⟨ce, hM⟩ := M.e_grd hM
    simp only [Bool.and_eq_true, decide_eq_true_eq] at ce
    obtain ⟨cf, hM⟩ := M.e_grd hM
    simp only [Bool.and_eq_true, decide_eq_true_eq] at cf
    refine t_l2 rfl rfl ?_ ?_
    ·skip
     refine s_val (x_ix (a := aa) (b := I (j - 1)) (v := vat aa 2 (Int.toNat (j - 1))) rfl rfl (Sl.ix (α := Dem) T57.und T57.size (H.os 1) (by omega) (by omega))) ?_
     have cF := Sl.cells (H.os 1)
     have cG := Sl.oc (H.os 1)
     refine s_nil ⟨(H.pk [0]), ?_⟩
     refine t_l2 rfl rfl ?_ ?_
     ·skip
      refine s_val (x_ld (p := vat aa 2 (Int.toNat (j - 1))) (v := .agg #[I ((l.getD (Int.toNat (j - 1)) default).spring), I ((l.getD (Int.toNat (j - 1)) default).town)]) rfl (ld_ag Ag62 Sz62 (At.mono (Dem_atA (H.os 1) (i := j - 1) (by omega) (by omega)) (H.ol 1)))) ?_
      refine s_nil ⟨(H.pk [0]), ?_⟩
      refine t_l rfl ?_
      refine s_val (x_ix (a := aa) (b := I j) (v := vat aa 2 (Int.toNat j)) rfl rfl (Sl.ix (α := Dem) T57.und T57.size (H.os 1) (by omega) (by omega))) ?_
      refine s_nil ⟨(H.pk [0]), ?_⟩
      refine t_l rfl ?_
      refine s_val (x_ld (p := vat aa 2 (Int.toNat j)) (v := .agg #[I ((l.getD (Int.toNat j) default).spring), I ((l.getD (Int.toNat j) default).town)]) rfl (ld_ag Ag62 Sz62 (At.mono (Dem_atA (H.os 1) (i := j) (by omega) (by omega)) (H.ol 1)))) ?_
      refine s_nil ⟨(H.pk [0]), ?_⟩
      refine t_l rfl ?_
      refine s_val (x_ix (a := aa) (b := I j) (v := vat aa 2 (Int.toNat j)) rfl rfl (Sl.ix (α := Dem) T57.und T57.size (H.os 1) (by omega) (by omega))) ?_
      refine s_nil ⟨(H.pk [0]), ?_⟩
      refine t_l rfl ?_
      refine t_ost (k := 1) (i := j) (l := l) (l' := l.set (Int.toNat j) (l.getD (Int.toNat (j - 1)) default)) (val := .agg #[I ((l.getD (Int.toNat (j - 1)) default).spring), I ((l.getD (Int.toNat (j - 1)) default).town)]) (L' := [cMem encDm am aq (zaa ab ac ae ah ai aj ak), cOwn (α := Dem) 62 aa (l.set (Int.toNat j) (l.getD (Int.toNat (j - 1)) default))]) H rfl Sz62 (by omega) (by omega) (l.getD (Int.toNat (j - 1)) default) rfl rfl rfl rfl rfl ?_
      intro cH H
      refine s_nil ⟨(H.pk [0]), ?_⟩
      refine t_l rfl ?_
      refine s_val (x_ix (a := aa) (b := I (j - 1)) (v := vat aa 2 (Int.toNat (j - 1))) rfl rfl (Sl.ix (α := Dem) T57.und T57.size (H.os 1) (by omega) (by omega))) ?_
      refine s_nil ⟨(H.pk [0]), ?_⟩
      refine t_l rfl ?_
      refine t_ost (k := 1) (i := j - 1) (l := l.set (Int.toNat j) (l.getD (Int.toNat (j - 1)) default)) (l' := (l.set (Int.toNat j) (l.getD (Int.toNat (j - 1)) default)).set (Int.toNat (j - 1)) (l.getD (Int.toNat j) default)) (val := .agg #[I ((l.getD (Int.toNat j) default).spring), I ((l.getD (Int.toNat j) default).town)]) (L' := [cMem encDm am aq (zaa ab ac ae ah ai aj ak), cOwn (α := Dem) 62 aa ((l.set (Int.toNat j) (l.getD (Int.toNat (j - 1)) default)).set (Int.toNat (j - 1)) (l.getD (Int.toNat j) default))]) H rfl Sz62 (by omega) (by omega) (l.getD (Int.toNat j) default) rfl rfl rfl rfl rfl ?_
      intro cI H
      refine s_nil ⟨(H.pk [0]), ?_⟩
      refine t_nil ?_
      refine W.region rfl ?_
      refine zM (I j) rfl ?_
      refine zR j 1 (j - 1) rfl rfl rfl (by omega) ?_
      refine zA (I (j - 1)) rfl ?_
      refine s_nil ?_
      exact ⟨ax, ay, (l.set (Int.toNat j) (l.getD (Int.toNat (j - 1)) default)).set (Int.toNat (j - 1)) (l.getD (Int.toNat j) default), j - 1, aq, _, upds_of _ _ ⟨rfl, rfl, rfl, rfl, rfl, rfl, trivial⟩, M.e_inl hM aw, (H.pk [1, 0])⟩
     skip
     refine s_val (x_ix (a := aa) (b := I j) (v := vat aa 2 (Int.toNat j)) rfl rfl (Sl.ix (α := Dem) T57.und T57.size (H.os 1) (by omega) (by omega))) ?_
     refine s_nil ⟨(H.pk [0]), ?_⟩
     refine t_l2 rfl rfl ?_ ?_
     ·skip
      refine s_val (x_ld (p := vat aa 2 (Int.toNat (j - 1))) (v := .agg #[I ((l.getD (Int.toNat (j - 1)) default).spring), I ((l.getD (Int.toNat (j - 1)) default).town)]) rfl (ld_ag Ag62 Sz62 (At.mono (Dem_atA (H.os 1) (i := j - 1) (by omega) (by omega)) (H.ol 1)))) ?_
      refine s_nil ⟨(H.pk [0]), ?_⟩
      refine t_l rfl ?_
      refine s_val (x_ld (p := vat aa 2 (Int.toNat j)) (v := .agg #[I ((l.getD (Int.toNat j) default).spring), I ((l.getD (Int.toNat j) default).town)]) rfl (ld_ag Ag62 Sz62 (At.mono (Dem_atA (H.os 1) (i := j) (by omega) (by omega)) (H.ol 1)))) ?_
      refine s_nil ⟨(H.pk [0]), ?_⟩
      refine t_l rfl ?_
      refine s_val (x_ix (a := aa) (b := I j) (v := vat aa 2 (Int.toNat j)) rfl rfl (Sl.ix (α := Dem) T57.und T57.size (H.os 1) (by omega) (by omega))) ?_
      refine s_nil ⟨(H.pk [0]), ?_⟩
      refine t_l rfl ?_
      refine t_ost (k := 1) (i := j) (l := l) (l' := l.set (Int.toNat j) (l.getD (Int.toNat (j - 1)) default)) (val := .agg #[I ((l.getD (Int.toNat (j - 1)) default).spring), I ((l.getD (Int.toNat (j - 1)) default).town)]) (L' := [cMem encDm am aq (zaa ab ac ae ah ai aj ak), cOwn (α := Dem) 62 aa (l.set (Int.toNat j) (l.getD (Int.toNat (j - 1)) default))]) H rfl Sz62 (by omega) (by omega) (l.getD (Int.toNat (j - 1)) default) rfl rfl rfl rfl rfl ?_
      intro cJ H
      refine s_nil ⟨(H.pk [0]), ?_⟩
      refine t_l rfl ?_
      refine s_val (x_ix (a := aa) (b := I (j - 1)) (v := vat aa 2 (Int.toNat (j - 1))) rfl rfl (Sl.ix (α := Dem) T57.und T57.size (H.os 1) (by omega) (by omega))) ?_
      refine s_nil ⟨(H.pk [0]), ?_⟩
      refine t_l rfl ?_
      refine t_ost (k := 1) (i := j - 1) (l := l.set (Int.toNat j) (l.getD (Int.toNat (j - 1)) default)) (l' := (l.set (Int.toNat j) (l.getD (Int.toNat (j - 1)) default)).set (Int.toNat (j - 1)) (l.getD (Int.toNat j) default)) (val := .agg #[I ((l.getD (Int.toNat j) default).spring), I ((l.getD (Int.toNat j) default).town)]) (L' := [cMem encDm am aq (zaa ab ac ae ah ai aj ak), cOwn (α := Dem) 62 aa ((l.set (Int.toNat j) (l.getD (Int.toNat (j - 1)) default)).set (Int.toNat (j - 1)) (l.getD (Int.toNat j) default))]) H rfl Sz62 (by omega) (by omega) (l.getD (Int.toNat j) default) rfl rfl rfl rfl rfl ?_
      intro cK H
      refine s_nil ⟨(H.pk [0]), ?_⟩
      refine t_nil ?_
      refine W.region rfl ?_
      refine zM (I j) rfl ?_
      refine zR j 1 (j - 1) rfl rfl rfl (by omega) ?_
      refine zA (I (j - 1)) rfl ?_
      refine s_nil ?_
      exact ⟨ax, ay, (l.set (Int.toNat j) (l.getD (Int.toNat (j - 1)) default)).set (Int.toNat (j - 1)) (l.getD (Int.toNat j) default), j - 1, aq, _, upds_of _ _ ⟨rfl, rfl, rfl, rfl, rfl, rfl, trivial⟩, M.e_inl hM aw, (H.pk [1, 0])⟩
     skip
     refine s_val (x_ld (p := vat aa 2 (Int.toNat j)) (v := .agg #[I ((l.getD (Int.toNat j) default).spring), I ((l.getD (Int.toNat j) default).town)]) rfl (ld_ag Ag62 Sz62 (At.mono (Dem_atA (H.os 1) (i := j) (by omega) (by omega)) (H.ol 1)))) ?_
     refine s_nil ⟨(H.pk [0]), ?_⟩
     refine t_l rfl ?_
     refine s_val (x_ld (p := vat aa 2 (Int.toNat (j - 1))) (v := .agg #[I ((l.getD (Int.toNat (j - 1)) default).spring), I ((l.getD (Int.toNat (j - 1)) default).town)]) rfl (ld_ag Ag62 Sz62 (At.mono (Dem_atA (H.os 1) (i := j - 1) (by omega) (by omega)) (H.ol 1)))) ?_
     refine s_nil ⟨(H.pk [0]), ?_⟩
     refine t_l rfl ?_
     refine s_val (x_ix (a := aa) (b := I j) (v := vat aa 2 (Int.toNat j)) rfl rfl (Sl.ix (α := Dem) T57.und T57.size (H.os 1) (by omega) (by omega))) ?_
     refine s_nil ⟨(H.pk [0]), ?_⟩
     refine t_l rfl ?_
     refine t_ost (k := 1) (i := j) (l := l) (l' := l.set (Int.toNat j) (l.getD (Int.toNat (j - 1)) default)) (val := .agg #[I ((l.getD (Int.toNat (j - 1)) default).spring), I ((l.getD (Int.toNat (j - 1)) default).town)]) (L' := [cMem encDm am aq (zaa ab ac ae ah ai aj ak), cOwn (α := Dem) 62 aa (l.set (Int.toNat j) (l.getD (Int.toNat (j - 1)) default))]) H rfl Sz62 (by omega) (by omega) (l.getD (Int.toNat (j - 1)) default) rfl rfl rfl rfl rfl ?_
     intro cL H
     refine s_nil ⟨(H.pk [0]), ?_⟩
     refine t_l rfl ?_
     refine s_val (x_ix (a := aa) (b := I (j - 1)) (v := vat aa 2 (Int.toNat (j - 1))) rfl rfl (Sl.ix (α := Dem) T57.und T57.size (H.os 1) (by omega) (by omega))) ?_
     refine s_nil ⟨(H.pk [0]), ?_⟩
     refine t_l rfl ?_
     refine t_ost (k := 1) (i := j - 1) (l := l.set (Int.toNat j) (l.getD (Int.toNat (j - 1)) default)) (l' := (l.set (Int.toNat j) (l.getD (Int.toNat (j - 1)) default)).set (Int.toNat (j - 1)) (l.getD (Int.toNat j) default)) (val := .agg #[I ((l.getD (Int.toNat j) default).spring), I ((l.getD (Int.toNat j) default).town)]) (L' := [cMem encDm am aq (zaa ab ac ae ah ai aj ak), cOwn (α := Dem) 62 aa ((l.set (Int.toNat j) (l.getD (Int.toNat (j - 1)) default)).set (Int.toNat (j - 1)) (l.getD (Int.toNat j) default))]) H rfl Sz62 (by omega) (by omega) (l.getD (Int.toNat j) default) rfl rfl rfl rfl rfl ?_
     intro cM H
     refine s_nil ⟨(H.pk [0]), ?_⟩
     refine t_nil ?_
     refine W.region rfl ?_
     refine zM (I j) rfl ?_
     refine zR j 1 (j - 1) rfl rfl rfl (by omega) ?_
     refine zA (I (j - 1)) rfl ?_
     refine s_nil ?_
     exact ⟨ax, ay, (l.set (Int.toNat j) (l.getD (Int.toNat (j - 1)) default)).set (Int.toNat (j - 1)) (l.getD (Int.toNat j) default), j - 1, aq, _, upds_of _ _ ⟨rfl, rfl, rfl, rfl, rfl, rfl, trivial⟩, M.e_inl hM aw, (H.pk [1, 0])⟩
    skip
    refine s_val (x_ix (a := aa) (b := I j) (v := vat aa 2 (Int.toNat j)) rfl rfl (Sl.ix (α := Dem) T57.und T57.size (H.os 1) (by omega) (by omega))) ?_
    have cN := Sl.cells (H.os 1)
    have cO := Sl.oc (H.os 1)
    refine s_nil ⟨(H.pk [0]), ?_⟩
    refine t_l2 rfl rfl ?_ ?_
    ·skip
     refine s_val (x_ix (a := aa) (b := I (j - 1)) (v := vat aa 2 (Int.toNat (j - 1))) rfl rfl (Sl.ix (α := Dem) T57.und T57.size (H.os 1) (by omega) (by omega))) ?_
     refine s_nil ⟨(H.pk [0]), ?_⟩
     refine t_l2 rfl rfl ?_ ?_
     ·skip
      refine s_val (x_ld (p := vat aa 2 (Int.toNat (j - 1))) (v := .agg #[I ((l.getD (Int.toNat (j - 1)) default).spring), I ((l.getD (Int.toNat (j - 1)) default).town)]) rfl (ld_ag Ag62 Sz62 (At.mono (Dem_atA (H.os 1) (i := j - 1) (by omega) (by omega)) (H.ol 1)))) ?_
      refine s_nil ⟨(H.pk [0]), ?_⟩
      refine t_l rfl ?_
      refine s_val (x_ld (p := vat aa 2 (Int.toNat j)) (v := .agg #[I ((l.getD (Int.toNat j) default).spring), I ((l.getD (Int.toNat j) default).town)]) rfl (ld_ag Ag62 Sz62 (At.mono (Dem_atA (H.os 1) (i := j) (by omega) (by omega)) (H.ol 1)))) ?_
      refine s_nil ⟨(H.pk [0]), ?_⟩
      refine t_l rfl ?_
      refine s_val (x_ix (a := aa) (b := I j) (v := vat aa 2 (Int.toNat j)) rfl rfl (Sl.ix (α := Dem) T57.und T57.size (H.os 1) (by omega) (by omega))) ?_
      refine s_nil ⟨(H.pk [0]), ?_⟩
      refine t_l rfl ?_
      refine t_ost (k := 1) (i := j) (l := l) (l' := l.set (Int.toNat j) (l.getD (Int.toNat (j - 1)) default)) (val := .agg #[I ((l.getD (Int.toNat (j - 1)) default).spring), I ((l.getD (Int.toNat (j - 1)) default).town)]) (L' := [cMem encDm am aq (zaa ab ac ae ah ai aj ak), cOwn (α := Dem) 62 aa (l.set (Int.toNat j) (l.getD (Int.toNat (j - 1)) default))]) H rfl Sz62 (by omega) (by omega) (l.getD (Int.toNat (j - 1)) default) rfl rfl rfl rfl rfl ?_
      intro cP H
      refine s_nil ⟨(H.pk [0]), ?_⟩
      refine t_l rfl ?_
      refine s_val (x_ix (a := aa) (b := I (j - 1)) (v := vat aa 2 (Int.toNat (j - 1))) rfl rfl (Sl.ix (α := Dem) T57.und T57.size (H.os 1) (by omega) (by omega))) ?_
      refine s_nil ⟨(H.pk [0]), ?_⟩
      refine t_l rfl ?_
      refine t_ost (k := 1) (i := j - 1) (l := l.set (Int.toNat j) (l.getD (Int.toNat (j - 1)) default)) (l' := (l.set (Int.toNat j) (l.getD (Int.toNat (j - 1)) default)).set (Int.toNat (j - 1)) (l.getD (Int.toNat j) default)) (val := .agg #[I ((l.getD (Int.toNat j) default).spring), I ((l.getD (Int.toNat j) default).town)]) (L' := [cMem encDm am aq (zaa ab ac ae ah ai aj ak), cOwn (α := Dem) 62 aa ((l.set (Int.toNat j) (l.getD (Int.toNat (j - 1)) default)).set (Int.toNat (j - 1)) (l.getD (Int.toNat j) default))]) H rfl Sz62 (by omega) (by omega) (l.getD (Int.toNat j) default) rfl rfl rfl rfl rfl ?_
      intro cQ H
      refine s_nil ⟨(H.pk [0]), ?_⟩
      refine t_nil ?_
      refine W.region rfl ?_
      refine zM (I j) rfl ?_
      refine zR j 1 (j - 1) rfl rfl rfl (by omega) ?_
      refine zA (I (j - 1)) rfl ?_
      refine s_nil ?_
      exact ⟨ax, ay, (l.set (Int.toNat j) (l.getD (Int.toNat (j - 1)) default)).set (Int.toNat (j - 1)) (l.getD (Int.toNat j) default), j - 1, aq, _, upds_of _ _ ⟨rfl, rfl, rfl, rfl, rfl, rfl, trivial⟩, M.e_inl hM aw, (H.pk [1, 0])⟩
     skip
     refine s_val (x_ld (p := vat aa 2 (Int.toNat j)) (v := .agg #[I ((l.getD (Int.toNat j) default).spring), I ((l.getD (Int.toNat j) default).town)]) rfl (ld_ag Ag62 Sz62 (At.mono (Dem_atA (H.os 1) (i := j) (by omega) (by omega)) (H.ol 1)))) ?_
     refine s_nil ⟨(H.pk [0]), ?_⟩
     refine t_l rfl ?_
     refine s_val (x_ld (p := vat aa 2 (Int.toNat (j - 1))) (v := .agg #[I ((l.getD (Int.toNat (j - 1)) default).spring), I ((l.getD (Int.toNat (j - 1)) default).town)]) rfl (ld_ag Ag62 Sz62 (At.mono (Dem_atA (H.os 1) (i := j - 1) (by omega) (by omega)) (H.ol 1)))) ?_
     refine s_nil ⟨(H.pk [0]), ?_⟩
     refine t_l rfl ?_
     refine s_val (x_ix (a := aa) (b := I j) (v := vat aa 2 (Int.toNat j)) rfl rfl (Sl.ix (α := Dem) T57.und T57.size (H.os 1) (by omega) (by omega))) ?_
     refine s_nil ⟨(H.pk [0]), ?_⟩
     refine t_l rfl ?_
     refine t_ost (k := 1) (i := j) (l := l) (l' := l.set (Int.toNat j) (l.getD (Int.toNat (j - 1)) default)) (val := .agg #[I ((l.getD (Int.toNat (j - 1)) default).spring), I ((l.getD (Int.toNat (j - 1)) default).town)]) (L' := [cMem encDm am aq (zaa ab ac ae ah ai aj ak), cOwn (α := Dem) 62 aa (l.set (Int.toNat j) (l.getD (Int.toNat (j - 1)) default))]) H rfl Sz62 (by omega) (by omega) (l.getD (Int.toNat (j - 1)) default) rfl rfl rfl rfl rfl ?_
     intro cR H
     refine s_nil ⟨(H.pk [0]), ?_⟩
     refine t_l rfl ?_
     refine s_val (x_ix (a := aa) (b := I (j - 1)) (v := vat aa 2 (Int.toNat (j - 1))) rfl rfl (Sl.ix (α := Dem) T57.und T57.size (H.os 1) (by omega) (by omega))) ?_
     refine s_nil ⟨(H.pk [0]), ?_⟩
     refine t_l rfl ?_
     refine t_ost (k := 1) (i := j - 1) (l := l.set (Int.toNat j) (l.getD (Int.toNat (j - 1)) default)) (l' := (l.set (Int.toNat j) (l.getD (Int.toNat (j - 1)) default)).set (Int.toNat (j - 1)) (l.getD (Int.toNat j) default)) (val := .agg #[I ((l.getD (Int.toNat j) default).spring), I ((l.getD (Int.toNat j) default).town)]) (L' := [cMem encDm am aq (zaa ab ac ae ah ai aj ak), cOwn (α := Dem) 62 aa ((l.set (Int.toNat j) (l.getD (Int.toNat (j - 1)) default)).set (Int.toNat (j - 1)) (l.getD (Int.toNat j) default))]) H rfl Sz62 (by omega) (by omega) (l.getD (Int.toNat j) default) rfl rfl rfl rfl rfl ?_
     intro cS H
     refine s_nil ⟨(H.pk [0]), ?_⟩
     refine t_nil ?_
     refine W.region rfl ?_
     refine zM (I j) rfl ?_
     refine zR j 1 (j - 1) rfl rfl rfl (by omega) ?_
     refine zA (I (j - 1)) rfl ?_
     refine s_nil ?_
     exact ⟨ax, ay, (l.set (Int.toNat j) (l.getD (Int.toNat (j - 1)) default)).set (Int.toNat (j - 1)) (l.getD (Int.toNat j) default), j - 1, aq, _, upds_of _ _ ⟨rfl, rfl, rfl, rfl, rfl, rfl, trivial⟩, M.e_inl hM aw, (H.pk [1, 0])⟩
    skip
    refine s_val (x_ld (p := vat aa 2 (Int.toNat j)) (v := .agg #[I ((l.getD (Int.toNat j) default).spring), I ((l.getD (Int.toNat j) default).town)]) rfl (ld_ag Ag62 Sz62 (At.mono (Dem_atA (H.os 1) (i := j) (by omega) (by omega)) (H.ol 1)))) ?_
    refine s_nil ⟨(H.pk [0]), ?_⟩
    refine t_l rfl ?_
    refine s_val (x_ix (a := aa) (b := I (j - 1)) (v := vat aa 2 (Int.toNat (j - 1))) rfl rfl (Sl.ix (α := Dem) T57.und T57.size (H.os 1) (by omega) (by omega))) ?_
    refine s_nil ⟨(H.pk [0]), ?_⟩
    refine t_l rfl ?_
    refine s_val (x_ld (p := vat aa 2 (Int.toNat (j - 1))) (v := .agg #[I ((l.getD (Int.toNat (j - 1)) default).spring), I ((l.getD (Int.toNat (j - 1)) default).town)]) rfl (ld_ag Ag62 Sz62 (At.mono (Dem_atA (H.os 1) (i := j - 1) (by omega) (by omega)) (H.ol 1)))) ?_
    refine s_nil ⟨(H.pk [0]), ?_⟩
    refine t_l rfl ?_
    refine s_val (x_ix (a := aa) (b := I j) (v := vat aa 2 (Int.toNat j)) rfl rfl (Sl.ix (α := Dem) T57.und T57.size (H.os 1) (by omega) (by omega))) ?_
    refine s_nil ⟨(H.pk [0]), ?_⟩
    refine t_l rfl ?_
    refine t_ost (k := 1) (i := j) (l := l) (l' := l.set (Int.toNat j) (l.getD (Int.toNat (j - 1)) default)) (val := .agg #[I ((l.getD (Int.toNat (j - 1)) default).spring), I ((l.getD (Int.toNat (j - 1)) default).town)]) (L' := [cMem encDm am aq (zaa ab ac ae ah ai aj ak), cOwn (α := Dem) 62 aa (l.set (Int.toNat j) (l.getD (Int.toNat (j - 1)) default))]) H rfl Sz62 (by omega) (by omega) (l.getD (Int.toNat (j - 1)) default) rfl rfl rfl rfl rfl ?_
    intro cT H
    refine s_nil ⟨(H.pk [0]), ?_⟩
    refine t_l rfl ?_
    refine s_val (x_ix (a := aa) (b := I (j - 1)) (v := vat aa 2 (Int.toNat (j - 1))) rfl rfl (Sl.ix (α := Dem) T57.und T57.size (H.os 1) (by omega) (by omega))) ?_
    refine s_nil ⟨(H.pk [0]), ?_⟩
    refine t_l rfl ?_
    refine t_ost (k := 1) (i := j - 1) (l := l.set (Int.toNat j) (l.getD (Int.toNat (j - 1)) default)) (l' := (l.set (Int.toNat j) (l.getD (Int.toNat (j - 1)) default)).set (Int.toNat (j - 1)) (l.getD (Int.toNat j) default)) (val := .agg #[I ((l.getD (Int.toNat j) default).spring), I ((l.getD (Int.toNat j) default).town)]) (L' := [cMem encDm am aq (zaa ab ac ae ah ai aj ak), cOwn (α := Dem) 62 aa ((l.set (Int.toNat j) (l.getD (Int.toNat (j - 1)) default)).set (Int.toNat (j - 1)) (l.getD (Int.toNat j) default))]) H rfl Sz62 (by omega) (by omega) (l.getD (Int.toNat j) default) rfl rfl rfl rfl rfl ?_
    intro cU H
    refine s_nil ⟨(H.pk [0]), ?_⟩
    refine t_nil ?_
    refine W.region rfl ?_
    refine zM (I j) rfl ?_
    refine zR j 1 (j - 1) rfl rfl rfl (by omega) ?_
    refine zA (I (j - 1)) rfl ?_
    refine s_nil ?_
    exact ⟨ax, ay, (l.set (Int.toNat j) (l.getD (Int.toNat (j - 1)) default)).set (Int.toNat (j - 1)) (l.getD (Int.toNat j) default), j - 1, aq, _, upds_of _ _ ⟨rfl, rfl, rfl, rfl, rfl, rfl, trivial⟩, M.e_inl hM aw, (H.pk [1, 0])⟩
   replace hM := M.e_f hM aP
   refine W.exit ?_
   have cg := M.e_inr hM aw
   subst cg
   replace hM := bw
   try dsimp only at hM
   refine W.region rfl ?_
   refine zM (I i) rfl ?_
   obtain ⟨ch, hM⟩ := M.e_grd hM
   simp only [Bool.and_eq_true, decide_eq_true_eq] at ch
   refine zR i 1 (i + 1) rfl rfl rfl (by omega) ?_
   refine zA (I (i + 1)) rfl ?_
   refine s_nil ?_
   exact ⟨bu, bv, l, i + 1, aq, _, upds_of _ _ ⟨rfl, rfl, rfl, rfl, rfl, trivial⟩, M.e_inl hM aN, (H.pk [1, 0])⟩
  replace hM := M.e_f hM aD
  refine s_nil ⟨(H.pk [0]), ?_⟩
  refine d_qg (decide (a < j)) rfl (gy_t rfl) (fun hg => (fun w' H => x_cmp (kd := .i64) (a := 0) (b := 0) (r := decide ((0 : Int) < 0)) (gd_of (c := decide (a < j)) hg (I 0)) rfl rfl)) ?_
  refine d_q rfl (fun w' H => x_pand (b := decide (a < j)) (r := decide ((0 : Int) < 0)) rfl (fun hb => gd_of (c := decide (a < j)) (by first | exact hb | (rw [hb]; rfl) | simp_all) (B (decide ((0 : Int) < 0)))) rfl) ?_
  refine d_nil ?_
  refine W.cond ((decide (a < j)) && (decide ((0 : Int) < 0))) rfl (fun aQ => ?_) (fun aQ => ?_)
  ·replace hM := M.e_t hM aQ
   refine W.skip ?_
   refine W.seq ?_
   refine W.block ?_
   refine W.drawT (fun W => St w W [cMem encDm am B_mem (zaa ab ac ae ah ai aj ak)] R) (.q 0 (.q 1 (.q 2 (.q 3 (.q 4 (.q 5 (.q 6 (.q 7 (.q 10 (.q 11 (.l2 8 (.l2 9 (.l 12 (.l 13 (.l 14 (.l 15 (.l 16 (.l 17 .nil)))))) 12 (.l2 9 (.l 13 (.l 14 (.l 15 (.l 16 (.l 17 .nil))))) 13 (.l 9 (.l 14 (.l 15 (.l 16 (.l 17 .nil))))))) 12 (.l2 8 (.l2 9 (.l 13 (.l 14 (.l 15 (.l 16 (.l 17 .nil))))) 13 (.l 9 (.l 14 (.l 15 (.l 16 (.l 17 .nil)))))) 13 (.l 8 (.l 9 (.l 14 (.l 15 (.l 16 (.l 17 .nil)))))))))))))))))) mixed (by decide +kernel) rfl ?_
   intro cV ao
   replace H := H.ext ao
   clear ao
   refine ⟨(H.pk [1]), ?_⟩
   refine t_q rfl (fun w' H => x_mv (v := aa) rfl) ?_
   refine t_q rfl (fun w' H => x_mv (v := I j) rfl) ?_
   refine t_q rfl (fun w' H => x_mv (v := aa) rfl) ?_
   refine t_q rfl (fun w' H => x_mv (v := I j) rfl) ?_
   obtain ⟨ck, hM⟩ := M.e_grd hM
   simp only [Bool.and_eq_true, decide_eq_true_eq] at ck
   refine t_q rfl (fun w' H => x_ari (a := j) (b := 1) (r := j - 1) rfl rfl rfl (by omega)) ?_
   refine t_q rfl (fun w' H => x_mv (v := aa) rfl) ?_
   refine t_q rfl (fun w' H => x_mv (v := I j) rfl) ?_
   refine t_q rfl (fun w' H => x_ari (a := j) (b := 1) (r := j - 1) rfl rfl rfl (by omega)) ?_
   refine t_q rfl (fun w' H => x_mv (v := aa) rfl) ?_
   refine t_q rfl (fun w' H => x_mv (v := I j) rfl) ?_
   obtain ⟨cl, hM⟩ := M.e_grd hM
   simp only [Bool.and_eq_true, decide_eq_true_eq] at cl
   obtain ⟨cm, hM⟩ := M.e_grd hM
   simp only [Bool.and_eq_true, decide_eq_true_eq] at cm
   obtain ⟨cn, hM⟩ := M.e_grd hM
   simp only [Bool.and_eq_true, decide_eq_true_eq] at cn
   refine t_l2 rfl rfl ?_ ?_
   ·skip
    refine s_val (x_ix (a := aa) (b := I (j - 1)) (v := vat aa 2 (Int.toNat (j - 1))) rfl rfl (Sl.ix (α := Dem) T57.und T57.size (H.os 0) (by omega) (by omega))) ?_
    have cW := Sl.cells (H.os 0)
    have cX := Sl.oc (H.os 0)
    refine s_nil ⟨(H.pk [1]), ?_⟩
    refine t_l2 rfl rfl ?_ ?_
    ·skip
     refine s_val (x_ld (p := vat aa 2 (Int.toNat (j - 1))) (v := .agg #[I ((l.getD (Int.toNat (j - 1)) default).spring), I ((l.getD (Int.toNat (j - 1)) default).town)]) rfl (ld_ag Ag62 Sz62 (At.mono (Dem_atA (H.os 0) (i := j - 1) (by omega) (by omega)) (H.ol 0)))) ?_
     refine s_nil ⟨(H.pk [1]), ?_⟩
     refine t_l rfl ?_
     refine s_val (x_ix (a := aa) (b := I j) (v := vat aa 2 (Int.toNat j)) rfl rfl (Sl.ix (α := Dem) T57.und T57.size (H.os 0) (by omega) (by omega))) ?_
     refine s_nil ⟨(H.pk [1]), ?_⟩
     refine t_l rfl ?_
     refine s_val (x_ld (p := vat aa 2 (Int.toNat j)) (v := .agg #[I ((l.getD (Int.toNat j) default).spring), I ((l.getD (Int.toNat j) default).town)]) rfl (ld_ag Ag62 Sz62 (At.mono (Dem_atA (H.os 0) (i := j) (by omega) (by omega)) (H.ol 0)))) ?_
     refine s_nil ⟨(H.pk [1]), ?_⟩
     refine t_l rfl ?_
     refine s_val (x_ix (a := aa) (b := I j) (v := vat aa 2 (Int.toNat j)) rfl rfl (Sl.ix (α := Dem) T57.und T57.size (H.os 0) (by omega) (by omega))) ?_
     refine s_nil ⟨(H.pk [1]), ?_⟩
     refine t_l rfl ?_
     refine t_ost (k := 0) (i := j) (l := l) (l' := l.set (Int.toNat j) (l.getD (Int.toNat (j - 1)) default)) (val := .agg #[I ((l.getD (Int.toNat (j - 1)) default).spring), I ((l.getD (Int.toNat (j - 1)) default).town)]) (L' := [cOwn (α := Dem) 62 aa (l.set (Int.toNat j) (l.getD (Int.toNat (j - 1)) default)), cMem encDm am B_mem (zaa ab ac ae ah ai aj ak)]) H rfl Sz62 (by omega) (by omega) (l.getD (Int.toNat (j - 1)) default) rfl rfl rfl rfl rfl ?_
     intro cY H
     refine s_nil ⟨(H.pk [1]), ?_⟩
     refine t_l rfl ?_
     refine s_val (x_ix (a := aa) (b := I (j - 1)) (v := vat aa 2 (Int.toNat (j - 1))) rfl rfl (Sl.ix (α := Dem) T57.und T57.size (H.os 0) (by omega) (by omega))) ?_
     refine s_nil ⟨(H.pk [1]), ?_⟩
     refine t_l rfl ?_
     refine t_ost (k := 0) (i := j - 1) (l := l.set (Int.toNat j) (l.getD (Int.toNat (j - 1)) default)) (l' := (l.set (Int.toNat j) (l.getD (Int.toNat (j - 1)) default)).set (Int.toNat (j - 1)) (l.getD (Int.toNat j) default)) (val := .agg #[I ((l.getD (Int.toNat j) default).spring), I ((l.getD (Int.toNat j) default).town)]) (L' := [cOwn (α := Dem) 62 aa ((l.set (Int.toNat j) (l.getD (Int.toNat (j - 1)) default)).set (Int.toNat (j - 1)) (l.getD (Int.toNat j) default)), cMem encDm am B_mem (zaa ab ac ae ah ai aj ak)]) H rfl Sz62 (by omega) (by omega) (l.getD (Int.toNat j) default) rfl rfl rfl rfl rfl ?_
     intro cZ H
     refine s_nil ⟨(H.pk [1]), ?_⟩
     refine t_nil ?_
     refine W.region rfl ?_
     refine zM (I j) rfl ?_
     refine zR j 1 (j - 1) rfl rfl rfl (by omega) ?_
     refine zA (I (j - 1)) rfl ?_
     refine s_nil ?_
     exact ⟨ax, ay, (l.set (Int.toNat j) (l.getD (Int.toNat (j - 1)) default)).set (Int.toNat (j - 1)) (l.getD (Int.toNat j) default), j - 1, B_mem, _, upds_of _ _ ⟨rfl, rfl, rfl, rfl, rfl, rfl, trivial⟩, M.e_inl hM aw, H⟩
    skip
    refine s_val (x_ix (a := aa) (b := I j) (v := vat aa 2 (Int.toNat j)) rfl rfl (Sl.ix (α := Dem) T57.und T57.size (H.os 0) (by omega) (by omega))) ?_
    refine s_nil ⟨(H.pk [1]), ?_⟩
    refine t_l2 rfl rfl ?_ ?_
    ·skip
     refine s_val (x_ld (p := vat aa 2 (Int.toNat (j - 1))) (v := .agg #[I ((l.getD (Int.toNat (j - 1)) default).spring), I ((l.getD (Int.toNat (j - 1)) default).town)]) rfl (ld_ag Ag62 Sz62 (At.mono (Dem_atA (H.os 0) (i := j - 1) (by omega) (by omega)) (H.ol 0)))) ?_
     refine s_nil ⟨(H.pk [1]), ?_⟩
     refine t_l rfl ?_
     refine s_val (x_ld (p := vat aa 2 (Int.toNat j)) (v := .agg #[I ((l.getD (Int.toNat j) default).spring), I ((l.getD (Int.toNat j) default).town)]) rfl (ld_ag Ag62 Sz62 (At.mono (Dem_atA (H.os 0) (i := j) (by omega) (by omega)) (H.ol 0)))) ?_
     refine s_nil ⟨(H.pk [1]), ?_⟩
     refine t_l rfl ?_
     refine s_val (x_ix (a := aa) (b := I j) (v := vat aa 2 (Int.toNat j)) rfl rfl (Sl.ix (α := Dem) T57.und T57.size (H.os 0) (by omega) (by omega))) ?_
     refine s_nil ⟨(H.pk [1]), ?_⟩
     refine t_l rfl ?_
     refine t_ost (k := 0) (i := j) (l := l) (l' := l.set (Int.toNat j) (l.getD (Int.toNat (j - 1)) default)) (val := .agg #[I ((l.getD (Int.toNat (j - 1)) default).spring), I ((l.getD (Int.toNat (j - 1)) default).town)]) (L' := [cOwn (α := Dem) 62 aa (l.set (Int.toNat j) (l.getD (Int.toNat (j - 1)) default)), cMem encDm am B_mem (zaa ab ac ae ah ai aj ak)]) H rfl Sz62 (by omega) (by omega) (l.getD (Int.toNat (j - 1)) default) rfl rfl rfl rfl rfl ?_
     intro c0 H
     refine s_nil ⟨(H.pk [1]), ?_⟩
     refine t_l rfl ?_
     refine s_val (x_ix (a := aa) (b := I (j - 1)) (v := vat aa 2 (Int.toNat (j - 1))) rfl rfl (Sl.ix (α := Dem) T57.und T57.size (H.os 0) (by omega) (by omega))) ?_
     refine s_nil ⟨(H.pk [1]), ?_⟩
     refine t_l rfl ?_
     refine t_ost (k := 0) (i := j - 1) (l := l.set (Int.toNat j) (l.getD (Int.toNat (j - 1)) default)) (l' := (l.set (Int.toNat j) (l.getD (Int.toNat (j - 1)) default)).set (Int.toNat (j - 1)) (l.getD (Int.toNat j) default)) (val := .agg #[I ((l.getD (Int.toNat j) default).spring), I ((l.getD (Int.toNat j) default).town)]) (L' := [cOwn (α := Dem) 62 aa ((l.set (Int.toNat j) (l.getD (Int.toNat (j - 1)) default)).set (Int.toNat (j - 1)) (l.getD (Int.toNat j) default)), cMem encDm am B_mem (zaa ab ac ae ah ai aj ak)]) H rfl Sz62 (by omega) (by omega) (l.getD (Int.toNat j) default) rfl rfl rfl rfl rfl ?_
     intro c6 H
     refine s_nil ⟨(H.pk [1]), ?_⟩
     refine t_nil ?_
     refine W.region rfl ?_
     refine zM (I j) rfl ?_
     refine zR j 1 (j - 1) rfl rfl rfl (by omega) ?_
     refine zA (I (j - 1)) rfl ?_
     refine s_nil ?_
     exact ⟨ax, ay, (l.set (Int.toNat j) (l.getD (Int.toNat (j - 1)) default)).set (Int.toNat (j - 1)) (l.getD (Int.toNat j) default), j - 1, B_mem, _, upds_of _ _ ⟨rfl, rfl, rfl, rfl, rfl, rfl, trivial⟩, M.e_inl hM aw, H⟩
    skip
    refine s_val (x_ld (p := vat aa 2 (Int.toNat j)) (v := .agg #[I ((l.getD (Int.toNat j) default).spring), I ((l.getD (Int.toNat j) default).town)]) rfl (ld_ag Ag62 Sz62 (At.mono (Dem_atA (H.os 0) (i := j) (by omega) (by omega)) (H.ol 0)))) ?_
    refine s_nil ⟨(H.pk [1]), ?_⟩
    refine t_l rfl ?_
    refine s_val (x_ld (p := vat aa 2 (Int.toNat (j - 1))) (v := .agg #[I ((l.getD (Int.toNat (j - 1)) default).spring), I ((l.getD (Int.toNat (j - 1)) default).town)]) rfl (ld_ag Ag62 Sz62 (At.mono (Dem_atA (H.os 0) (i := j - 1) (by omega) (by omega)) (H.ol 0)))) ?_
    refine s_nil ⟨(H.pk [1]), ?_⟩
    refine t_l rfl ?_
    refine s_val (x_ix (a := aa) (b := I j) (v := vat aa 2 (Int.toNat j)) rfl rfl (Sl.ix (α := Dem) T57.und T57.size (H.os 0) (by omega) (by omega))) ?_
    refine s_nil ⟨(H.pk [1]), ?_⟩
    refine t_l rfl ?_
    refine t_ost (k := 0) (i := j) (l := l) (l' := l.set (Int.toNat j) (l.getD (Int.toNat (j - 1)) default)) (val := .agg #[I ((l.getD (Int.toNat (j - 1)) default).spring), I ((l.getD (Int.toNat (j - 1)) default).town)]) (L' := [cOwn (α := Dem) 62 aa (l.set (Int.toNat j) (l.getD (Int.toNat (j - 1)) default)), cMem encDm am B_mem (zaa ab ac ae ah ai aj ak)]) H rfl Sz62 (by omega) (by omega) (l.getD (Int.toNat (j - 1)) default) rfl rfl rfl rfl rfl ?_
    intro c7 H
    refine s_nil ⟨(H.pk [1]), ?_⟩
    refine t_l rfl ?_
    refine s_val (x_ix (a := aa) (b := I (j - 1)) (v := vat aa 2 (Int.toNat (j - 1))) rfl rfl (Sl.ix (α := Dem) T57.und T57.size (H.os 0) (by omega) (by omega))) ?_
    refine s_nil ⟨(H.pk [1]), ?_⟩
    refine t_l rfl ?_
    refine t_ost (k := 0) (i := j - 1) (l := l.set (Int.toNat j) (l.getD (Int.toNat (j - 1)) default)) (l' := (l.set (Int.toNat j) (l.getD (Int.toNat (j - 1)) default)).set (Int.toNat (j - 1)) (l.getD (Int.toNat j) default)) (val := .agg #[I ((l.getD (Int.toNat j) default).spring), I ((l.getD (Int.toNat j) default).town)]) (L' := [cOwn (α := Dem) 62 aa ((l.set (Int.toNat j) (l.getD (Int.toNat (j - 1)) default)).set (Int.toNat (j - 1)) (l.getD (Int.toNat j) default)), cMem encDm am B_mem (zaa ab ac ae ah ai aj ak)]) H rfl Sz62 (by omega) (by omega) (l.getD (Int.toNat j) default) rfl rfl rfl rfl rfl ?_
    intro c8 H
    refine s_nil ⟨(H.pk [1]), ?_⟩
    refine t_nil ?_
    refine W.region rfl ?_
    refine zM (I j) rfl ?_
    refine zR j 1 (j - 1) rfl rfl rfl (by omega) ?_
    refine zA (I (j - 1)) rfl ?_
    refine s_nil ?_
    exact ⟨ax, ay, (l.set (Int.toNat j) (l.getD (Int.toNat (j - 1)) default)).set (Int.toNat (j - 1)) (l.getD (Int.toNat j) default), j - 1, B_mem, _, upds_of _ _ ⟨rfl, rfl, rfl, rfl, rfl, rfl, trivial⟩, M.e_inl hM aw, H⟩
   skip
   refine s_val (x_ix (a := aa) (b := I j) (v := vat aa 2 (Int.toNat j)) rfl rfl (Sl.ix (α := Dem) T57.und T57.size (H.os 0) (by omega) (by omega))) ?_
   have c9 := Sl.cells (H.os 0)
   have da := Sl.oc (H.os 0)
   refine s_nil ⟨(H.pk [1]), ?_⟩
   refine t_l2 rfl rfl ?_ ?_
   ·skip
    refine s_val (x_ix (a := aa) (b := I (j - 1)) (v := vat aa 2 (Int.toNat (j - 1))) rfl rfl (Sl.ix (α := Dem) T57.und T57.size (H.os 0) (by omega) (by omega))) ?_
    refine s_nil ⟨(H.pk [1]), ?_⟩
    refine t_l2 rfl rfl ?_ ?_
    ·skip
     refine s_val (x_ld (p := vat aa 2 (Int.toNat (j - 1))) (v := .agg #[I ((l.getD (Int.toNat (j - 1)) default).spring), I ((l.getD (Int.toNat (j - 1)) default).town)]) rfl (ld_ag Ag62 Sz62 (At.mono (Dem_atA (H.os 0) (i := j - 1) (by omega) (by omega)) (H.ol 0)))) ?_
     refine s_nil ⟨(H.pk [1]), ?_⟩
     refine t_l rfl ?_
     refine s_val (x_ld (p := vat aa 2 (Int.toNat j)) (v := .agg #[I ((l.getD (Int.toNat j) default).spring), I ((l.getD (Int.toNat j) default).town)]) rfl (ld_ag Ag62 Sz62 (At.mono (Dem_atA (H.os 0) (i := j) (by omega) (by omega)) (H.ol 0)))) ?_
     refine s_nil ⟨(H.pk [1]), ?_⟩
     refine t_l rfl ?_
     refine s_val (x_ix (a := aa) (b := I j) (v := vat aa 2 (Int.toNat j)) rfl rfl (Sl.ix (α := Dem) T57.und T57.size (H.os 0) (by omega) (by omega))) ?_
     refine s_nil ⟨(H.pk [1]), ?_⟩
     refine t_l rfl ?_
     refine t_ost (k := 0) (i := j) (l := l) (l' := l.set (Int.toNat j) (l.getD (Int.toNat (j - 1)) default)) (val := .agg #[I ((l.getD (Int.toNat (j - 1)) default).spring), I ((l.getD (Int.toNat (j - 1)) default).town)]) (L' := [cOwn (α := Dem) 62 aa (l.set (Int.toNat j) (l.getD (Int.toNat (j - 1)) default)), cMem encDm am B_mem (zaa ab ac ae ah ai aj ak)]) H rfl Sz62 (by omega) (by omega) (l.getD (Int.toNat (j - 1)) default) rfl rfl rfl rfl rfl ?_
     intro db H
     refine s_nil ⟨(H.pk [1]), ?_⟩
     refine t_l rfl ?_
     refine s_val (x_ix (a := aa) (b := I (j - 1)) (v := vat aa 2 (Int.toNat (j - 1))) rfl rfl (Sl.ix (α := Dem) T57.und T57.size (H.os 0) (by omega) (by omega))) ?_
     refine s_nil ⟨(H.pk [1]), ?_⟩
     refine t_l rfl ?_
     refine t_ost (k := 0) (i := j - 1) (l := l.set (Int.toNat j) (l.getD (Int.toNat (j - 1)) default)) (l' := (l.set (Int.toNat j) (l.getD (Int.toNat (j - 1)) default)).set (Int.toNat (j - 1)) (l.getD (Int.toNat j) default)) (val := .agg #[I ((l.getD (Int.toNat j) default).spring), I ((l.getD (Int.toNat j) default).town)]) (L' := [cOwn (α := Dem) 62 aa ((l.set (Int.toNat j) (l.getD (Int.toNat (j - 1)) default)).set (Int.toNat (j - 1)) (l.getD (Int.toNat j) default)), cMem encDm am B_mem (zaa ab ac ae ah ai aj ak)]) H rfl Sz62 (by omega) (by omega) (l.getD (Int.toNat j) default) rfl rfl rfl rfl rfl ?_
     intro dc H
     refine s_nil ⟨(H.pk [1]), ?_⟩
     refine t_nil ?_
     refine W.region rfl ?_
     refine zM (I j) rfl ?_
     refine zR j 1 (j - 1) rfl rfl rfl (by omega) ?_
     refine zA (I (j - 1)) rfl ?_
     refine s_nil ?_
     exact ⟨ax, ay, (l.set (Int.toNat j) (l.getD (Int.toNat (j - 1)) default)).set (Int.toNat (j - 1)) (l.getD (Int.toNat j) default), j - 1, B_mem, _, upds_of _ _ ⟨rfl, rfl, rfl, rfl, rfl, rfl, trivial⟩, M.e_inl hM aw, H⟩
    skip
    refine s_val (x_ld (p := vat aa 2 (Int.toNat j)) (v := .agg #[I ((l.getD (Int.toNat j) default).spring), I ((l.getD (Int.toNat j) default).town)]) rfl (ld_ag Ag62 Sz62 (At.mono (Dem_atA (H.os 0) (i := j) (by omega) (by omega)) (H.ol 0)))) ?_
    refine s_nil ⟨(H.pk [1]), ?_⟩
    refine t_l rfl ?_
    refine s_val (x_ld (p := vat aa 2 (Int.toNat (j - 1))) (v := .agg #[I ((l.getD (Int.toNat (j - 1)) default).spring), I ((l.getD (Int.toNat (j - 1)) default).town)]) rfl (ld_ag Ag62 Sz62 (At.mono (Dem_atA (H.os 0) (i := j - 1) (by omega) (by omega)) (H.ol 0)))) ?_
    refine s_nil ⟨(H.pk [1]), ?_⟩
    refine t_l rfl ?_
    refine s_val (x_ix (a := aa) (b := I j) (v := vat aa 2 (Int.toNat j)) rfl rfl (Sl.ix (α := Dem) T57.und T57.size (H.os 0) (by omega) (by omega))) ?_
    refine s_nil ⟨(H.pk [1]), ?_⟩
    refine t_l rfl ?_
    refine t_ost (k := 0) (i := j) (l := l) (l' := l.set (Int.toNat j) (l.getD (Int.toNat (j - 1)) default)) (val := .agg #[I ((l.getD (Int.toNat (j - 1)) default).spring), I ((l.getD (Int.toNat (j - 1)) default).town)]) (L' := [cOwn (α := Dem) 62 aa (l.set (Int.toNat j) (l.getD (Int.toNat (j - 1)) default)), cMem encDm am B_mem (zaa ab ac ae ah ai aj ak)]) H rfl Sz62 (by omega) (by omega) (l.getD (Int.toNat (j - 1)) default) rfl rfl rfl rfl rfl ?_
    intro dd H
    refine s_nil ⟨(H.pk [1]), ?_⟩
    refine t_l rfl ?_
    refine s_val (x_ix (a := aa) (b := I (j - 1)) (v := vat aa 2 (Int.toNat (j - 1))) rfl rfl (Sl.ix (α := Dem) T57.und T57.size (H.os 0) (by omega) (by omega))) ?_
    refine s_nil ⟨(H.pk [1]), ?_⟩
    refine t_l rfl ?_
    refine t_ost (k := 0) (i := j - 1) (l := l.set (Int.toNat j) (l.getD (Int.toNat (j - 1)) default)) (l' := (l.set (Int.toNat j) (l.getD (Int.toNat (j - 1)) default)).set (Int.toNat (j - 1)) (l.getD (Int.toNat j) default)) (val := .agg #[I ((l.getD (Int.toNat j) default).spring), I ((l.getD (Int.toNat j) default).town)]) (L' := [cOwn (α := Dem) 62 aa ((l.set (Int.toNat j) (l.getD (Int.toNat (j - 1)) default)).set (Int.toNat (j - 1)) (l.getD (Int.toNat j) default)), cMem encDm am B_mem (zaa ab ac ae ah ai aj ak)]) H rfl Sz62 (by omega) (by omega) (l.getD (Int.toNat j) default) rfl rfl rfl rfl rfl ?_
    intro de H
    refine s_nil ⟨(H.pk [1]), ?_⟩
    refine t_nil ?_
    refine W.region rfl ?_
    refine zM (I j) rfl ?_
    refine zR j 1 (j - 1) rfl rfl rfl (by omega) ?_
    refine zA (I (j - 1)) rfl ?_
    refine s_nil ?_
    exact ⟨ax, ay, (l.set (Int.toNat j) (l.getD (Int.toNat (j - 1)) default)).set (Int.toNat (j - 1)) (l.getD (Int.toNat j) default), j - 1, B_mem, _, upds_of _ _ ⟨rfl, rfl, rfl, rfl, rfl, rfl, trivial⟩, M.e_inl hM aw, H⟩
   skip
   refine s_val (x_ld (p := vat aa 2 (Int.toNat j)) (v := .agg #[I ((l.getD (Int.toNat j) default).spring), I ((l.getD (Int.toNat j) default).town)]) rfl (ld_ag Ag62 Sz62 (At.mono (Dem_atA (H.os 0) (i := j) (by omega) (by omega)) (H.ol 0)))) ?_
   refine s_nil ⟨(H.pk [1]), ?_⟩
   refine t_l rfl ?_
   refine s_val (x_ix (a := aa) (b := I (j - 1)) (v := vat aa 2 (Int.toNat (j - 1))) rfl rfl (Sl.ix (α := Dem) T57.und T57.size (H.os 0) (by omega) (by omega))) ?_
   refine s_nil ⟨(H.pk [1]), ?_⟩
   refine t_l rfl ?_
   refine s_val (x_ld (p := vat aa 2 (Int.toNat (j - 1))) (v := .agg #[I ((l.getD (Int.toNat (j - 1)) default).spring), I ((l.getD (Int.toNat (j - 1)) default).town)]) rfl (ld_ag Ag62 Sz62 (At.mono (Dem_atA (H.os 0) (i := j - 1) (by omega) (by omega)) (H.ol 0)))) ?_
   refine s_nil ⟨(H.pk [1]), ?_⟩
   refine t_l rfl ?_
   refine s_val (x_ix (a := aa) (b := I j) (v := vat aa 2 (Int.toNat j)) rfl rfl (Sl.ix (α := Dem) T57.und T57.size (H.os 0) (by omega) (by omega))) ?_
   refine s_nil ⟨(H.pk [1]), ?_⟩
   refine t_l rfl ?_
   refine t_ost (k := 0) (i := j) (l := l) (l' := l.set (Int.toNat j) (l.getD (Int.toNat (j - 1)) default)) (val := .agg #[I ((l.getD (Int.toNat (j - 1)) default).spring), I ((l.getD (Int.toNat (j - 1)) default).town)]) (L' := [cOwn (α := Dem) 62 aa (l.set (Int.toNat j) (l.getD (Int.toNat (j - 1)) default)), cMem encDm am B_mem (zaa ab ac ae ah ai aj ak)]) H rfl Sz62 (by omega) (by omega) (l.getD (Int.toNat (j - 1)) default) rfl rfl rfl rfl rfl ?_
   intro dg H
   refine s_nil ⟨(H.pk [1]), ?_⟩
   refine t_l rfl ?_
   refine s_val (x_ix (a := aa) (b := I (j - 1)) (v := vat aa 2 (Int.toNat (j - 1))) rfl rfl (Sl.ix (α := Dem) T57.und T57.size (H.os 0) (by omega) (by omega))) ?_
   refine s_nil ⟨(H.pk [1]), ?_⟩
   refine t_l rfl ?_
   refine t_ost (k := 0) (i := j - 1) (l := l.set (Int.toNat j) (l.getD (Int.toNat (j - 1)) default)) (l' := (l.set (Int.toNat j) (l.getD (Int.toNat (j - 1)) default)).set (Int.toNat (j - 1)) (l.getD (Int.toNat j) default)) (val := .agg #[I ((l.getD (Int.toNat j) default).spring), I ((l.getD (Int.toNat j) default).town)]) (L' := [cOwn (α := Dem) 62 aa ((l.set (Int.toNat j) (l.getD (Int.toNat (j - 1)) default)).set (Int.toNat (j - 1)) (l.getD (Int.toNat j) default)), cMem encDm am B_mem (zaa ab ac ae ah ai aj ak)]) H rfl Sz62 (by omega) (by omega) (l.getD (Int.toNat j) default) rfl rfl rfl rfl rfl ?_
   intro di H
   refine s_nil ⟨(H.pk [1]), ?_⟩
   refine t_nil ?_
   refine W.region rfl ?_
   refine zM (I j) rfl ?_
   refine zR j 1 (j - 1) rfl rfl rfl (by omega) ?_
   refine zA (I (j - 1)) rfl ?_
   refine s_nil ?_
   exact ⟨ax, ay, (l.set (Int.toNat j) (l.getD (Int.toNat (j - 1)) default)).set (Int.toNat (j - 1)) (l.getD (Int.toNat j) default), j - 1, B_mem, _, upds_of _ _ ⟨rfl, rfl, rfl, rfl, rfl, rfl, trivial⟩, M.e_inl hM aw, H⟩
  replace hM := M.e_f hM aQ
  refine W.exit ?_
  have co := M.e_inr hM aw
  subst co
  replace hM := bw
  try dsimp only at hM
  refine W.region rfl ?_
  refine zM (I i) rfl ?_
  obtain ⟨cp, hM⟩ := M.e_grd hM
  simp only [Bool.and_eq_true, decide_eq_true_eq] at cp
  refine zR i 1 (i + 1) rfl rfl rfl (by omega) ?_
  refine zA (I (i + 1)) rfl ?_
  refine s_nil ?_
  exact ⟨bu, bv, l, i + 1, B_mem, _, upds_of _ _ ⟨rfl, rfl, rfl, rfl, rfl, trivial⟩, M.e_inl hM aN, H⟩
 replace hM := M.e_f hM aL
 simp only [qy1, qy2, qy3, qy4, qy5, qy6, ne_eq, qy7] at aL
 refine W.exit ?_
 have cq := M.e_inr hM aN
 subst cq
 replace hM := b7
 try dsimp only at hM
 have ct := M.e_pure hM
 exact ⟨_, resE_tmp0 rfl, ⟨l4, B_mem2, ct, rfl, H⟩⟩

def zbv (a : Int) (b : Int) (n : Int) : ((List Dem) × Nat) -> M (((List Dem) × Nat) ⊕ (List Dem)) := fun (l, i) =>
  bif decide ((i : Int) < n) then (
  M.grd (decide ((-9223372036854775808 : Int) <= (a + (i : Int))) && decide ((a + (i : Int)) <= (9223372036854775807 : Int))) <|
  M.grd (decide ((-9223372036854775808 : Int) <= (b + (i : Int))) && decide ((b + (i : Int)) <= (9223372036854775807 : Int))) <|
  M.grd (decide ((0 : Int) <= (b + (i : Int))) && decide ((b + (i : Int)) < (l.length : Int))) <|
  M.grd (decide ((0 : Int) <= (a + (i : Int))) && decide ((a + (i : Int)) < (l.length : Int))) <|
  M.grd (decide ((0 : Int) <= (b + (i : Int))) && decide ((b + (i : Int)) < ((l.set (Int.toNat (a + (i : Int))) (l.getD (Int.toNat (b + (i : Int))) default)).length : Int))) <|
  M.grd (decide ((-9223372036854775808 : Int) <= ((i : Int) + 1)) && decide (((i : Int) + 1) <= (9223372036854775807 : Int))) <|
  M.pure (.inl ((l.set (Int.toNat (a + (i : Int))) (l.getD (Int.toNat (b + (i : Int))) default)).set (Int.toNat (b + (i : Int))) (l.getD (Int.toNat (a + (i : Int))) default), i + 1)))
  else (
  M.pure (.inr l))
def zaT (data : List Dem) (a : Int) (b : Int) (n : Int) (aa : List Int) (ab : List Span) (ac : List Int) (ae : List Town) (ah : Int) (ai : Int) (aj : List Flood) (ak : List Int) (al : List Span) (am : List Int) (ao : List Town) (aq : Int) (au : Int) (av : List Flood) : M (List Dem) :=
  M.bind (M.iter (zbv a b n) (data, 0)) fun l2 =>
  M.pure l2
theorem zcG {R : List Chunk} {aa : Value} {aj : Nat} {ak : Nat} {al : Nat} {am : Cells} {ao : Value} {aq : Cells} {au : Value} {av : Cells} {aw : Value} {ax : Cells} {ay : Value} {az : Cells} {aA : Value} {bc : Nat} {aB : Nat} {aC : Nat} {aD : Cells} {aE : Value} {aF : Cells} {aG : Value} {aH : Cells} {aI : Value} {aJ : Cells} {aK : Value} {aL : Cells} {aM : Value} {bf : Nat} (data : List Dem) (a : Int) (b : Int) (n : Int) (aN : List Int) (aO : List Span) (aP : List Int) (aQ : List Town) (aR : Int) (aS : Int) (aT : List Flood) (aU : List Int) (aV : List Span) (aW : List Int) (aX : List Town) (aY : Int) (aZ : Int) (a8 : List Flood) (bz : Reads R am) (bA : Sl am ao aN) (bB : Reads R aq) (bC : Sl aq au aO) (bD : Reads R av) (bE : Sl av aw aP) (bF : Reads R ax) (bG : Sl ax ay aQ) (bH : Reads R az) (bI : Sl az aA aT) (bJ : Has R (cBlk al [ao, au, aw, ay, I aR, I aS, aA, .map (some bc)] 86)) (bK : Has R (cBlk ak [.func (.func 54) #[Pq al] #[]] 106)) (bL : Reads R aD) (bM : Sl aD aE aU) (bN : Reads R aF) (bO : Sl aF aG aV) (bP : Reads R aH) (bQ : Sl aH aI aW) (bR : Reads R aJ) (bS : Sl aJ aK aX) (bT : Reads R aL) (bU : Sl aL aM a8) (bV : Has R (cBlk aC [aE, aG, aI, aK, I aY, I aZ, aM, .map (some bf)] 86)) (bW : Has R (cBlk aB [Pq aC] 72)) (bX : Has R (cBlk aj [.func (.func 69) #[] #[Pq ak, Pq aB]] 114)) {r : (List Dem)} (hM : (zaT data a b n aN aO aP aQ aR aS aT aU aV aW aX aY aZ a8).Ends r) (w : World) (H : St w w [cOwn (α := Dem) 62 aa data] R) : Ret Try.prog 110 #[aa, I a, I b, I n, .func (.func 71) #[] #[Pq aj]] w fun v w' => ∃ (y0 : List Dem), y0 = r /\ v = .tuple #[] /\ St w w' [cOwn (α := Dem) 62 aa y0] R := by
 refine ret_of_W Try.func110 rfl rfl rfl ?_
 refine W.seq ?_
 refine W.region rfl ?_
 refine zA (I 0) rfl ?_
 refine s_nil ?_
 refine W.block ?_
 obtain ⟨bg, ai, bh⟩ := M.e_bind hM
 obtain ⟨bY, ai⟩ := M.e_iter ai
 refine W.loop (fun m σ W => ∃ (l : List Dem) (i : Nat) (ρ : Env), σ = upds ρ [(0, aa), (1, I a), (2, I b), (3, I n), (10, I (i : Int))] /\ M.iterN (zbv a b n) m (l, i) = some bg /\ St w W [cOwn (α := Dem) 62 aa l] R) ?_ ?_
 ·exact ⟨_, data, 0, _, upds_of _ _ ⟨rfl, rfl, rfl, rfl, rfl, trivial⟩, ai, H⟩
 rintro bZ σ b4 ⟨l, i, ρ, rfl, ba, H⟩
 obtain ⟨ac, ae, b5, hM, ab⟩ := M.e_iterN ba
 simp only [zbv] at hM
 clear ba
 refine W.seq ?_
 refine W.seq ?_
 refine W.region rfl ?_
 refine zM (I (i : Int)) rfl ?_
 refine zM (I n) rfl ?_
 refine zC (i : Int) n (decide ((i : Int) < n)) rfl rfl rfl ?_
 refine s_nil ?_
 refine W.cond (decide ((i : Int) < n)) rfl (fun ah => ?_) (fun ah => ?_)
 ·replace hM := M.e_t hM ah
  simp only [qy1, qy2, qy3, qy4, qy5, qy6, ne_eq, qy7] at ah
  refine W.skip ?_
  refine W.seq ?_
  refine W.block ?_
  refine W.drawT (fun W => St w W [] R) (.q 0 (.q 1 (.q 2 (.q 3 (.q 4 (.q 5 (.q 6 (.q 7 (.q 8 (.q 9 (.q 10 (.q 11 (.q 14 (.q 15 (.q 16 (.q 17 (.l2 12 (.l2 13 (.l 18 (.l 19 (.l 20 (.l 21 (.l 22 (.l 23 .nil)))))) 18 (.l2 13 (.l 19 (.l 20 (.l 21 (.l 22 (.l 23 .nil))))) 19 (.l 13 (.l 20 (.l 21 (.l 22 (.l 23 .nil))))))) 18 (.l2 12 (.l2 13 (.l 19 (.l 20 (.l 21 (.l 22 (.l 23 .nil))))) 19 (.l 13 (.l 20 (.l 21 (.l 22 (.l 23 .nil)))))) 19 (.l 12 (.l 13 (.l 20 (.l 21 (.l 22 (.l 23 .nil)))))))))))))))))))))))) mixed (by decide +kernel) rfl ?_
  intro b6 bb
  replace H := H.ext bb
  clear bb
  refine ⟨(H.pk []), ?_⟩
  refine t_q rfl (fun w' H => x_mv (v := aa) rfl) ?_
  refine t_q rfl (fun w' H => x_mv (v := I a) rfl) ?_
  refine t_q rfl (fun w' H => x_mv (v := I (i : Int)) rfl) ?_
  obtain ⟨bi, hM⟩ := M.e_grd hM
  simp only [Bool.and_eq_true, decide_eq_true_eq] at bi
  refine t_q rfl (fun w' H => x_ari (a := a) (b := (i : Int)) (r := a + (i : Int)) rfl rfl rfl (by omega)) ?_
  refine t_q rfl (fun w' H => x_mv (v := aa) rfl) ?_
  refine t_q rfl (fun w' H => x_mv (v := I b) rfl) ?_
  refine t_q rfl (fun w' H => x_mv (v := I (i : Int)) rfl) ?_
  obtain ⟨bj, hM⟩ := M.e_grd hM
  simp only [Bool.and_eq_true, decide_eq_true_eq] at bj
  refine t_q rfl (fun w' H => x_ari (a := b) (b := (i : Int)) (r := b + (i : Int)) rfl rfl rfl (by omega)) ?_
  refine t_q rfl (fun w' H => x_mv (v := aa) rfl) ?_
  refine t_q rfl (fun w' H => x_mv (v := I b) rfl) ?_
  refine t_q rfl (fun w' H => x_mv (v := I (i : Int)) rfl) ?_
  refine t_q rfl (fun w' H => x_ari (a := b) (b := (i : Int)) (r := b + (i : Int)) rfl rfl rfl (by omega)) ?_
  refine t_q rfl (fun w' H => x_mv (v := aa) rfl) ?_
  refine t_q rfl (fun w' H => x_mv (v := I a) rfl) ?_
  refine t_q rfl (fun w' H => x_mv (v := I (i : Int)) rfl) ?_
  refine t_q rfl (fun w' H => x_ari (a := a) (b := (i : Int)) (r := a + (i : Int)) rfl rfl rfl (by omega)) ?_
  obtain ⟨bm, hM⟩ := M.e_grd hM
  simp only [Bool.and_eq_true, decide_eq_true_eq] at bm
  obtain ⟨bn, hM⟩ := M.e_grd hM
  simp only [Bool.and_eq_true, decide_eq_true_eq] at bn
  obtain ⟨bo, hM⟩ := M.e_grd hM
  simp only [Bool.and_eq_true, decide_eq_true_eq] at bo
  refine t_l2 rfl rfl ?_ ?_
  ·skip
   refine s_val (x_ix (a := aa) (b := I (b + (i : Int))) (v := vat aa 2 (Int.toNat (b + (i : Int)))) rfl rfl (Sl.ix (α := Dem) T57.und T57.size (H.os 0) (by omega) (by omega))) ?_
   have b7 := Sl.cells (H.os 0)
   have b8 := Sl.oc (H.os 0)
   refine s_nil ⟨(H.pk []), ?_⟩
   refine t_l2 rfl rfl ?_ ?_
   ·skip
    refine s_val (x_ld (p := vat aa 2 (Int.toNat (b + (i : Int)))) (v := .agg #[I ((l.getD (Int.toNat (b + (i : Int))) default).spring), I ((l.getD (Int.toNat (b + (i : Int))) default).town)]) rfl (ld_ag Ag62 Sz62 (At.mono (Dem_atA (H.os 0) (i := b + (i : Int)) (by omega) (by omega)) (H.ol 0)))) ?_
    refine s_nil ⟨(H.pk []), ?_⟩
    refine t_l rfl ?_
    refine s_val (x_ix (a := aa) (b := I (a + (i : Int))) (v := vat aa 2 (Int.toNat (a + (i : Int)))) rfl rfl (Sl.ix (α := Dem) T57.und T57.size (H.os 0) (by omega) (by omega))) ?_
    refine s_nil ⟨(H.pk []), ?_⟩
    refine t_l rfl ?_
    refine s_val (x_ld (p := vat aa 2 (Int.toNat (a + (i : Int)))) (v := .agg #[I ((l.getD (Int.toNat (a + (i : Int))) default).spring), I ((l.getD (Int.toNat (a + (i : Int))) default).town)]) rfl (ld_ag Ag62 Sz62 (At.mono (Dem_atA (H.os 0) (i := a + (i : Int)) (by omega) (by omega)) (H.ol 0)))) ?_
    refine s_nil ⟨(H.pk []), ?_⟩
    refine t_l rfl ?_
    refine s_val (x_ix (a := aa) (b := I (a + (i : Int))) (v := vat aa 2 (Int.toNat (a + (i : Int)))) rfl rfl (Sl.ix (α := Dem) T57.und T57.size (H.os 0) (by omega) (by omega))) ?_
    refine s_nil ⟨(H.pk []), ?_⟩
    refine t_l rfl ?_
    refine t_ost (k := 0) (i := a + (i : Int)) (l := l) (l' := l.set (Int.toNat (a + (i : Int))) (l.getD (Int.toNat (b + (i : Int))) default)) (val := .agg #[I ((l.getD (Int.toNat (b + (i : Int))) default).spring), I ((l.getD (Int.toNat (b + (i : Int))) default).town)]) (L' := [cOwn (α := Dem) 62 aa (l.set (Int.toNat (a + (i : Int))) (l.getD (Int.toNat (b + (i : Int))) default))]) H rfl Sz62 (by omega) (by omega) (l.getD (Int.toNat (b + (i : Int))) default) rfl rfl rfl rfl rfl ?_
    intro b9 H
    refine s_nil ⟨(H.pk []), ?_⟩
    refine t_l rfl ?_
    refine s_val (x_ix (a := aa) (b := I (b + (i : Int))) (v := vat aa 2 (Int.toNat (b + (i : Int)))) rfl rfl (Sl.ix (α := Dem) T57.und T57.size (H.os 0) (by omega) (by omega))) ?_
    refine s_nil ⟨(H.pk []), ?_⟩
    refine t_l rfl ?_
    refine t_ost (k := 0) (i := b + (i : Int)) (l := l.set (Int.toNat (a + (i : Int))) (l.getD (Int.toNat (b + (i : Int))) default)) (l' := (l.set (Int.toNat (a + (i : Int))) (l.getD (Int.toNat (b + (i : Int))) default)).set (Int.toNat (b + (i : Int))) (l.getD (Int.toNat (a + (i : Int))) default)) (val := .agg #[I ((l.getD (Int.toNat (a + (i : Int))) default).spring), I ((l.getD (Int.toNat (a + (i : Int))) default).town)]) (L' := [cOwn (α := Dem) 62 aa ((l.set (Int.toNat (a + (i : Int))) (l.getD (Int.toNat (b + (i : Int))) default)).set (Int.toNat (b + (i : Int))) (l.getD (Int.toNat (a + (i : Int))) default))]) H rfl Sz62 (by omega) (by omega) (l.getD (Int.toNat (a + (i : Int))) default) rfl rfl rfl rfl rfl ?_
    intro ca H
    refine s_nil ⟨(H.pk []), ?_⟩
    refine t_nil ?_
    refine W.region rfl ?_
    refine zM (I (i : Int)) rfl ?_
    obtain ⟨bp, hM⟩ := M.e_grd hM
    simp only [Bool.and_eq_true, decide_eq_true_eq] at bp
    refine zR (i : Int) 1 ((i : Int) + 1) rfl rfl rfl (by omega) ?_
    refine zA (I ((i : Int) + 1)) rfl ?_
    refine s_nil ?_
    exact ⟨ac, ae, (l.set (Int.toNat (a + (i : Int))) (l.getD (Int.toNat (b + (i : Int))) default)).set (Int.toNat (b + (i : Int))) (l.getD (Int.toNat (a + (i : Int))) default), i + 1, _, upds_of _ _ ⟨rfl, rfl, rfl, rfl, rfl, trivial⟩, M.e_inl hM ab, H⟩
   skip
   refine s_val (x_ix (a := aa) (b := I (a + (i : Int))) (v := vat aa 2 (Int.toNat (a + (i : Int)))) rfl rfl (Sl.ix (α := Dem) T57.und T57.size (H.os 0) (by omega) (by omega))) ?_
   refine s_nil ⟨(H.pk []), ?_⟩
   refine t_l2 rfl rfl ?_ ?_
   ·skip
    refine s_val (x_ld (p := vat aa 2 (Int.toNat (b + (i : Int)))) (v := .agg #[I ((l.getD (Int.toNat (b + (i : Int))) default).spring), I ((l.getD (Int.toNat (b + (i : Int))) default).town)]) rfl (ld_ag Ag62 Sz62 (At.mono (Dem_atA (H.os 0) (i := b + (i : Int)) (by omega) (by omega)) (H.ol 0)))) ?_
    refine s_nil ⟨(H.pk []), ?_⟩
    refine t_l rfl ?_
    refine s_val (x_ld (p := vat aa 2 (Int.toNat (a + (i : Int)))) (v := .agg #[I ((l.getD (Int.toNat (a + (i : Int))) default).spring), I ((l.getD (Int.toNat (a + (i : Int))) default).town)]) rfl (ld_ag Ag62 Sz62 (At.mono (Dem_atA (H.os 0) (i := a + (i : Int)) (by omega) (by omega)) (H.ol 0)))) ?_
    refine s_nil ⟨(H.pk []), ?_⟩
    refine t_l rfl ?_
    refine s_val (x_ix (a := aa) (b := I (a + (i : Int))) (v := vat aa 2 (Int.toNat (a + (i : Int)))) rfl rfl (Sl.ix (α := Dem) T57.und T57.size (H.os 0) (by omega) (by omega))) ?_
    refine s_nil ⟨(H.pk []), ?_⟩
    refine t_l rfl ?_
    refine t_ost (k := 0) (i := a + (i : Int)) (l := l) (l' := l.set (Int.toNat (a + (i : Int))) (l.getD (Int.toNat (b + (i : Int))) default)) (val := .agg #[I ((l.getD (Int.toNat (b + (i : Int))) default).spring), I ((l.getD (Int.toNat (b + (i : Int))) default).town)]) (L' := [cOwn (α := Dem) 62 aa (l.set (Int.toNat (a + (i : Int))) (l.getD (Int.toNat (b + (i : Int))) default))]) H rfl Sz62 (by omega) (by omega) (l.getD (Int.toNat (b + (i : Int))) default) rfl rfl rfl rfl rfl ?_
    intro cb H
    refine s_nil ⟨(H.pk []), ?_⟩
    refine t_l rfl ?_
    refine s_val (x_ix (a := aa) (b := I (b + (i : Int))) (v := vat aa 2 (Int.toNat (b + (i : Int)))) rfl rfl (Sl.ix (α := Dem) T57.und T57.size (H.os 0) (by omega) (by omega))) ?_
    refine s_nil ⟨(H.pk []), ?_⟩
    refine t_l rfl ?_
    refine t_ost (k := 0) (i := b + (i : Int)) (l := l.set (Int.toNat (a + (i : Int))) (l.getD (Int.toNat (b + (i : Int))) default)) (l' := (l.set (Int.toNat (a + (i : Int))) (l.getD (Int.toNat (b + (i : Int))) default)).set (Int.toNat (b + (i : Int))) (l.getD (Int.toNat (a + (i : Int))) default)) (val := .agg #[I ((l.getD (Int.toNat (a + (i : Int))) default).spring), I ((l.getD (Int.toNat (a + (i : Int))) default).town)]) (L' := [cOwn (α := Dem) 62 aa ((l.set (Int.toNat (a + (i : Int))) (l.getD (Int.toNat (b + (i : Int))) default)).set (Int.toNat (b + (i : Int))) (l.getD (Int.toNat (a + (i : Int))) default))]) H rfl Sz62 (by omega) (by omega) (l.getD (Int.toNat (a + (i : Int))) default) rfl rfl rfl rfl rfl ?_
    intro cc H
    refine s_nil ⟨(H.pk []), ?_⟩
    refine t_nil ?_
    refine W.region rfl ?_
    refine zM (I (i : Int)) rfl ?_
    obtain ⟨bq, hM⟩ := M.e_grd hM
    simp only [Bool.and_eq_true, decide_eq_true_eq] at bq
    refine zR (i : Int) 1 ((i : Int) + 1) rfl rfl rfl (by omega) ?_
    refine zA (I ((i : Int) + 1)) rfl ?_
    refine s_nil ?_
    exact ⟨ac, ae, (l.set (Int.toNat (a + (i : Int))) (l.getD (Int.toNat (b + (i : Int))) default)).set (Int.toNat (b + (i : Int))) (l.getD (Int.toNat (a + (i : Int))) default), i + 1, _, upds_of _ _ ⟨rfl, rfl, rfl, rfl, rfl, trivial⟩, M.e_inl hM ab, H⟩
   skip
   refine s_val (x_ld (p := vat aa 2 (Int.toNat (a + (i : Int)))) (v := .agg #[I ((l.getD (Int.toNat (a + (i : Int))) default).spring), I ((l.getD (Int.toNat (a + (i : Int))) default).town)]) rfl (ld_ag Ag62 Sz62 (At.mono (Dem_atA (H.os 0) (i := a + (i : Int)) (by omega) (by omega)) (H.ol 0)))) ?_
   refine s_nil ⟨(H.pk []), ?_⟩
   refine t_l rfl ?_
   refine s_val (x_ld (p := vat aa 2 (Int.toNat (b + (i : Int)))) (v := .agg #[I ((l.getD (Int.toNat (b + (i : Int))) default).spring), I ((l.getD (Int.toNat (b + (i : Int))) default).town)]) rfl (ld_ag Ag62 Sz62 (At.mono (Dem_atA (H.os 0) (i := b + (i : Int)) (by omega) (by omega)) (H.ol 0)))) ?_
   refine s_nil ⟨(H.pk []), ?_⟩
   refine t_l rfl ?_
   refine s_val (x_ix (a := aa) (b := I (a + (i : Int))) (v := vat aa 2 (Int.toNat (a + (i : Int)))) rfl rfl (Sl.ix (α := Dem) T57.und T57.size (H.os 0) (by omega) (by omega))) ?_
   refine s_nil ⟨(H.pk []), ?_⟩
   refine t_l rfl ?_
   refine t_ost (k := 0) (i := a + (i : Int)) (l := l) (l' := l.set (Int.toNat (a + (i : Int))) (l.getD (Int.toNat (b + (i : Int))) default)) (val := .agg #[I ((l.getD (Int.toNat (b + (i : Int))) default).spring), I ((l.getD (Int.toNat (b + (i : Int))) default).town)]) (L' := [cOwn (α := Dem) 62 aa (l.set (Int.toNat (a + (i : Int))) (l.getD (Int.toNat (b + (i : Int))) default))]) H rfl Sz62 (by omega) (by omega) (l.getD (Int.toNat (b + (i : Int))) default) rfl rfl rfl rfl rfl ?_
   intro cd H
   refine s_nil ⟨(H.pk []), ?_⟩
   refine t_l rfl ?_
   refine s_val (x_ix (a := aa) (b := I (b + (i : Int))) (v := vat aa 2 (Int.toNat (b + (i : Int)))) rfl rfl (Sl.ix (α := Dem) T57.und T57.size (H.os 0) (by omega) (by omega))) ?_
   refine s_nil ⟨(H.pk []), ?_⟩
   refine t_l rfl ?_
   refine t_ost (k := 0) (i := b + (i : Int)) (l := l.set (Int.toNat (a + (i : Int))) (l.getD (Int.toNat (b + (i : Int))) default)) (l' := (l.set (Int.toNat (a + (i : Int))) (l.getD (Int.toNat (b + (i : Int))) default)).set (Int.toNat (b + (i : Int))) (l.getD (Int.toNat (a + (i : Int))) default)) (val := .agg #[I ((l.getD (Int.toNat (a + (i : Int))) default).spring), I ((l.getD (Int.toNat (a + (i : Int))) default).town)]) (L' := [cOwn (α := Dem) 62 aa ((l.set (Int.toNat (a + (i : Int))) (l.getD (Int.toNat (b + (i : Int))) default)).set (Int.toNat (b + (i : Int))) (l.getD (Int.toNat (a + (i : Int))) default))]) H rfl Sz62 (by omega) (by omega) (l.getD (Int.toNat (a + (i : Int))) default) rfl rfl rfl rfl rfl ?_
   intro ce H
   refine s_nil ⟨(H.pk []), ?_⟩
   refine t_nil ?_
   refine W.region rfl ?_
   refine zM (I (i : Int)) rfl ?_
   obtain ⟨br, hM⟩ := M.e_grd hM
   simp only [Bool.and_eq_true, decide_eq_true_eq] at br
   refine zR (i : Int) 1 ((i : Int) + 1) rfl rfl rfl (by omega) ?_
   refine zA (I ((i : Int) + 1)) rfl ?_
   refine s_nil ?_
   exact ⟨ac, ae, (l.set (Int.toNat (a + (i : Int))) (l.getD (Int.toNat (b + (i : Int))) default)).set (Int.toNat (b + (i : Int))) (l.getD (Int.toNat (a + (i : Int))) default), i + 1, _, upds_of _ _ ⟨rfl, rfl, rfl, rfl, rfl, trivial⟩, M.e_inl hM ab, H⟩
  skip
  refine s_val (x_ix (a := aa) (b := I (a + (i : Int))) (v := vat aa 2 (Int.toNat (a + (i : Int)))) rfl rfl (Sl.ix (α := Dem) T57.und T57.size (H.os 0) (by omega) (by omega))) ?_
  have cf := Sl.cells (H.os 0)
  have cg := Sl.oc (H.os 0)
  refine s_nil ⟨(H.pk []), ?_⟩
  refine t_l2 rfl rfl ?_ ?_
  ·skip
   refine s_val (x_ix (a := aa) (b := I (b + (i : Int))) (v := vat aa 2 (Int.toNat (b + (i : Int)))) rfl rfl (Sl.ix (α := Dem) T57.und T57.size (H.os 0) (by omega) (by omega))) ?_
   refine s_nil ⟨(H.pk []), ?_⟩
   refine t_l2 rfl rfl ?_ ?_
   ·skip
    refine s_val (x_ld (p := vat aa 2 (Int.toNat (b + (i : Int)))) (v := .agg #[I ((l.getD (Int.toNat (b + (i : Int))) default).spring), I ((l.getD (Int.toNat (b + (i : Int))) default).town)]) rfl (ld_ag Ag62 Sz62 (At.mono (Dem_atA (H.os 0) (i := b + (i : Int)) (by omega) (by omega)) (H.ol 0)))) ?_
    refine s_nil ⟨(H.pk []), ?_⟩
    refine t_l rfl ?_
    refine s_val (x_ld (p := vat aa 2 (Int.toNat (a + (i : Int)))) (v := .agg #[I ((l.getD (Int.toNat (a + (i : Int))) default).spring), I ((l.getD (Int.toNat (a + (i : Int))) default).town)]) rfl (ld_ag Ag62 Sz62 (At.mono (Dem_atA (H.os 0) (i := a + (i : Int)) (by omega) (by omega)) (H.ol 0)))) ?_
    refine s_nil ⟨(H.pk []), ?_⟩
    refine t_l rfl ?_
    refine s_val (x_ix (a := aa) (b := I (a + (i : Int))) (v := vat aa 2 (Int.toNat (a + (i : Int)))) rfl rfl (Sl.ix (α := Dem) T57.und T57.size (H.os 0) (by omega) (by omega))) ?_
    refine s_nil ⟨(H.pk []), ?_⟩
    refine t_l rfl ?_
    refine t_ost (k := 0) (i := a + (i : Int)) (l := l) (l' := l.set (Int.toNat (a + (i : Int))) (l.getD (Int.toNat (b + (i : Int))) default)) (val := .agg #[I ((l.getD (Int.toNat (b + (i : Int))) default).spring), I ((l.getD (Int.toNat (b + (i : Int))) default).town)]) (L' := [cOwn (α := Dem) 62 aa (l.set (Int.toNat (a + (i : Int))) (l.getD (Int.toNat (b + (i : Int))) default))]) H rfl Sz62 (by omega) (by omega) (l.getD (Int.toNat (b + (i : Int))) default) rfl rfl rfl rfl rfl ?_
    intro ch H
    refine s_nil ⟨(H.pk []), ?_⟩
    refine t_l rfl ?_
    refine s_val (x_ix (a := aa) (b := I (b + (i : Int))) (v := vat aa 2 (Int.toNat (b + (i : Int)))) rfl rfl (Sl.ix (α := Dem) T57.und T57.size (H.os 0) (by omega) (by omega))) ?_
    refine s_nil ⟨(H.pk []), ?_⟩
    refine t_l rfl ?_
    refine t_ost (k := 0) (i := b + (i : Int)) (l := l.set (Int.toNat (a + (i : Int))) (l.getD (Int.toNat (b + (i : Int))) default)) (l' := (l.set (Int.toNat (a + (i : Int))) (l.getD (Int.toNat (b + (i : Int))) default)).set (Int.toNat (b + (i : Int))) (l.getD (Int.toNat (a + (i : Int))) default)) (val := .agg #[I ((l.getD (Int.toNat (a + (i : Int))) default).spring), I ((l.getD (Int.toNat (a + (i : Int))) default).town)]) (L' := [cOwn (α := Dem) 62 aa ((l.set (Int.toNat (a + (i : Int))) (l.getD (Int.toNat (b + (i : Int))) default)).set (Int.toNat (b + (i : Int))) (l.getD (Int.toNat (a + (i : Int))) default))]) H rfl Sz62 (by omega) (by omega) (l.getD (Int.toNat (a + (i : Int))) default) rfl rfl rfl rfl rfl ?_
    intro ck H
    refine s_nil ⟨(H.pk []), ?_⟩
    refine t_nil ?_
    refine W.region rfl ?_
    refine zM (I (i : Int)) rfl ?_
    obtain ⟨bt, hM⟩ := M.e_grd hM
    simp only [Bool.and_eq_true, decide_eq_true_eq] at bt
    refine zR (i : Int) 1 ((i : Int) + 1) rfl rfl rfl (by omega) ?_
    refine zA (I ((i : Int) + 1)) rfl ?_
    refine s_nil ?_
    exact ⟨ac, ae, (l.set (Int.toNat (a + (i : Int))) (l.getD (Int.toNat (b + (i : Int))) default)).set (Int.toNat (b + (i : Int))) (l.getD (Int.toNat (a + (i : Int))) default), i + 1, _, upds_of _ _ ⟨rfl, rfl, rfl, rfl, rfl, trivial⟩, M.e_inl hM ab, H⟩
   skip
   refine s_val (x_ld (p := vat aa 2 (Int.toNat (a + (i : Int)))) (v := .agg #[I ((l.getD (Int.toNat (a + (i : Int))) default).spring), I ((l.getD (Int.toNat (a + (i : Int))) default).town)]) rfl (ld_ag Ag62 Sz62 (At.mono (Dem_atA (H.os 0) (i := a + (i : Int)) (by omega) (by omega)) (H.ol 0)))) ?_
   refine s_nil ⟨(H.pk []), ?_⟩
   refine t_l rfl ?_
   refine s_val (x_ld (p := vat aa 2 (Int.toNat (b + (i : Int)))) (v := .agg #[I ((l.getD (Int.toNat (b + (i : Int))) default).spring), I ((l.getD (Int.toNat (b + (i : Int))) default).town)]) rfl (ld_ag Ag62 Sz62 (At.mono (Dem_atA (H.os 0) (i := b + (i : Int)) (by omega) (by omega)) (H.ol 0)))) ?_
   refine s_nil ⟨(H.pk []), ?_⟩
   refine t_l rfl ?_
   refine s_val (x_ix (a := aa) (b := I (a + (i : Int))) (v := vat aa 2 (Int.toNat (a + (i : Int)))) rfl rfl (Sl.ix (α := Dem) T57.und T57.size (H.os 0) (by omega) (by omega))) ?_
   refine s_nil ⟨(H.pk []), ?_⟩
   refine t_l rfl ?_
   refine t_ost (k := 0) (i := a + (i : Int)) (l := l) (l' := l.set (Int.toNat (a + (i : Int))) (l.getD (Int.toNat (b + (i : Int))) default)) (val := .agg #[I ((l.getD (Int.toNat (b + (i : Int))) default).spring), I ((l.getD (Int.toNat (b + (i : Int))) default).town)]) (L' := [cOwn (α := Dem) 62 aa (l.set (Int.toNat (a + (i : Int))) (l.getD (Int.toNat (b + (i : Int))) default))]) H rfl Sz62 (by omega) (by omega) (l.getD (Int.toNat (b + (i : Int))) default) rfl rfl rfl rfl rfl ?_
   intro cl H
   refine s_nil ⟨(H.pk []), ?_⟩
   refine t_l rfl ?_
   refine s_val (x_ix (a := aa) (b := I (b + (i : Int))) (v := vat aa 2 (Int.toNat (b + (i : Int)))) rfl rfl (Sl.ix (α := Dem) T57.und T57.size (H.os 0) (by omega) (by omega))) ?_
   refine s_nil ⟨(H.pk []), ?_⟩
   refine t_l rfl ?_
   refine t_ost (k := 0) (i := b + (i : Int)) (l := l.set (Int.toNat (a + (i : Int))) (l.getD (Int.toNat (b + (i : Int))) default)) (l' := (l.set (Int.toNat (a + (i : Int))) (l.getD (Int.toNat (b + (i : Int))) default)).set (Int.toNat (b + (i : Int))) (l.getD (Int.toNat (a + (i : Int))) default)) (val := .agg #[I ((l.getD (Int.toNat (a + (i : Int))) default).spring), I ((l.getD (Int.toNat (a + (i : Int))) default).town)]) (L' := [cOwn (α := Dem) 62 aa ((l.set (Int.toNat (a + (i : Int))) (l.getD (Int.toNat (b + (i : Int))) default)).set (Int.toNat (b + (i : Int))) (l.getD (Int.toNat (a + (i : Int))) default))]) H rfl Sz62 (by omega) (by omega) (l.getD (Int.toNat (a + (i : Int))) default) rfl rfl rfl rfl rfl ?_
   intro cm H
   refine s_nil ⟨(H.pk []), ?_⟩
   refine t_nil ?_
   refine W.region rfl ?_
   refine zM (I (i : Int)) rfl ?_
   obtain ⟨bu, hM⟩ := M.e_grd hM
   simp only [Bool.and_eq_true, decide_eq_true_eq] at bu
   refine zR (i : Int) 1 ((i : Int) + 1) rfl rfl rfl (by omega) ?_
   refine zA (I ((i : Int) + 1)) rfl ?_
   refine s_nil ?_
   exact ⟨ac, ae, (l.set (Int.toNat (a + (i : Int))) (l.getD (Int.toNat (b + (i : Int))) default)).set (Int.toNat (b + (i : Int))) (l.getD (Int.toNat (a + (i : Int))) default), i + 1, _, upds_of _ _ ⟨rfl, rfl, rfl, rfl, rfl, trivial⟩, M.e_inl hM ab, H⟩
  skip
  refine s_val (x_ld (p := vat aa 2 (Int.toNat (a + (i : Int)))) (v := .agg #[I ((l.getD (Int.toNat (a + (i : Int))) default).spring), I ((l.getD (Int.toNat (a + (i : Int))) default).town)]) rfl (ld_ag Ag62 Sz62 (At.mono (Dem_atA (H.os 0) (i := a + (i : Int)) (by omega) (by omega)) (H.ol 0)))) ?_
  refine s_nil ⟨(H.pk []), ?_⟩
  refine t_l rfl ?_
  refine s_val (x_ix (a := aa) (b := I (b + (i : Int))) (v := vat aa 2 (Int.toNat (b + (i : Int)))) rfl rfl (Sl.ix (α := Dem) T57.und T57.size (H.os 0) (by omega) (by omega))) ?_
  refine s_nil ⟨(H.pk []), ?_⟩
  refine t_l rfl ?_
  refine s_val (x_ld (p := vat aa 2 (Int.toNat (b + (i : Int)))) (v := .agg #[I ((l.getD (Int.toNat (b + (i : Int))) default).spring), I ((l.getD (Int.toNat (b + (i : Int))) default).town)]) rfl (ld_ag Ag62 Sz62 (At.mono (Dem_atA (H.os 0) (i := b + (i : Int)) (by omega) (by omega)) (H.ol 0)))) ?_
  refine s_nil ⟨(H.pk []), ?_⟩
  refine t_l rfl ?_
  refine s_val (x_ix (a := aa) (b := I (a + (i : Int))) (v := vat aa 2 (Int.toNat (a + (i : Int)))) rfl rfl (Sl.ix (α := Dem) T57.und T57.size (H.os 0) (by omega) (by omega))) ?_
  refine s_nil ⟨(H.pk []), ?_⟩
  refine t_l rfl ?_
  refine t_ost (k := 0) (i := a + (i : Int)) (l := l) (l' := l.set (Int.toNat (a + (i : Int))) (l.getD (Int.toNat (b + (i : Int))) default)) (val := .agg #[I ((l.getD (Int.toNat (b + (i : Int))) default).spring), I ((l.getD (Int.toNat (b + (i : Int))) default).town)]) (L' := [cOwn (α := Dem) 62 aa (l.set (Int.toNat (a + (i : Int))) (l.getD (Int.toNat (b + (i : Int))) default))]) H rfl Sz62 (by omega) (by omega) (l.getD (Int.toNat (b + (i : Int))) default) rfl rfl rfl rfl rfl ?_
  intro cn H
  refine s_nil ⟨(H.pk []), ?_⟩
  refine t_l rfl ?_
  refine s_val (x_ix (a := aa) (b := I (b + (i : Int))) (v := vat aa 2 (Int.toNat (b + (i : Int)))) rfl rfl (Sl.ix (α := Dem) T57.und T57.size (H.os 0) (by omega) (by omega))) ?_
  refine s_nil ⟨(H.pk []), ?_⟩
  refine t_l rfl ?_
  refine t_ost (k := 0) (i := b + (i : Int)) (l := l.set (Int.toNat (a + (i : Int))) (l.getD (Int.toNat (b + (i : Int))) default)) (l' := (l.set (Int.toNat (a + (i : Int))) (l.getD (Int.toNat (b + (i : Int))) default)).set (Int.toNat (b + (i : Int))) (l.getD (Int.toNat (a + (i : Int))) default)) (val := .agg #[I ((l.getD (Int.toNat (a + (i : Int))) default).spring), I ((l.getD (Int.toNat (a + (i : Int))) default).town)]) (L' := [cOwn (α := Dem) 62 aa ((l.set (Int.toNat (a + (i : Int))) (l.getD (Int.toNat (b + (i : Int))) default)).set (Int.toNat (b + (i : Int))) (l.getD (Int.toNat (a + (i : Int))) default))]) H rfl Sz62 (by omega) (by omega) (l.getD (Int.toNat (a + (i : Int))) default) rfl rfl rfl rfl rfl ?_
  intro co H
  refine s_nil ⟨(H.pk []), ?_⟩
  refine t_nil ?_
  refine W.region rfl ?_
  refine zM (I (i : Int)) rfl ?_
  obtain ⟨bv, hM⟩ := M.e_grd hM
  simp only [Bool.and_eq_true, decide_eq_true_eq] at bv
  refine zR (i : Int) 1 ((i : Int) + 1) rfl rfl rfl (by omega) ?_
  refine zA (I ((i : Int) + 1)) rfl ?_
  refine s_nil ?_
  exact ⟨ac, ae, (l.set (Int.toNat (a + (i : Int))) (l.getD (Int.toNat (b + (i : Int))) default)).set (Int.toNat (b + (i : Int))) (l.getD (Int.toNat (a + (i : Int))) default), i + 1, _, upds_of _ _ ⟨rfl, rfl, rfl, rfl, rfl, trivial⟩, M.e_inl hM ab, H⟩
 replace hM := M.e_f hM ah
 simp only [qy1, qy2, qy3, qy4, qy5, qy6, ne_eq, qy7] at ah
 refine W.exit ?_
 have bw := M.e_inr hM ab
 subst bw
 replace hM := bh
 try dsimp only at hM
 have bx := M.e_pure hM
 exact ⟨_, resE_tmp0 rfl, ⟨l, bx, rfl, H⟩⟩

def zbW (m_ : Int) (aa : List Int) (ab : List Span) (ac : List Int) (ae : List Town) (ah : Int) (ai : Int) (aj : List Flood) (ak : List Int) (al : List Span) (am : List Int) (ao : List Town) (aq : Int) (au : Int) (av : List Flood) : ((List Dem) × Int × Int) -> M (((List Dem) × Int × Int) ⊕ ((List Dem) × Int × (List Dem))) := fun (l, i, j) =>
  bif i != j then (
  bif decide (j < i) then (
  M.grd (decide ((-9223372036854775808 : Int) <= (m_ - i)) && decide ((m_ - i) <= (9223372036854775807 : Int))) <|
  M.bind (zaT l (m_ - i) m_ j aa ab ac ae ah ai aj ak al am ao aq au av) fun l_data =>
  M.grd (decide ((-9223372036854775808 : Int) <= (i - j)) && decide ((i - j) <= (9223372036854775807 : Int))) <|
  M.pure (.inl (l_data, i - j, j)))
  else (
  M.grd (decide ((-9223372036854775808 : Int) <= (m_ - i)) && decide ((m_ - i) <= (9223372036854775807 : Int))) <|
  M.grd (decide ((-9223372036854775808 : Int) <= (m_ + j)) && decide ((m_ + j) <= (9223372036854775807 : Int))) <|
  M.grd (decide ((-9223372036854775808 : Int) <= ((m_ + j) - i)) && decide (((m_ + j) - i) <= (9223372036854775807 : Int))) <|
  M.bind (zaT l (m_ - i) ((m_ + j) - i) i aa ab ac ae ah ai aj ak al am ao aq au av) fun l_data2 =>
  M.grd (decide ((-9223372036854775808 : Int) <= (j - i)) && decide ((j - i) <= (9223372036854775807 : Int))) <|
  M.pure (.inl (l_data2, i, j - i))))
  else (
  M.pure (.inr (l, i, l)))
def zbR (data : List Dem) (a : Int) (m_ : Int) (b : Int) (aa : List Int) (ab : List Span) (ac : List Int) (ae : List Town) (ah : Int) (ai : Int) (aj : List Flood) (ak : List Int) (al : List Span) (am : List Int) (ao : List Town) (aq : Int) (au : Int) (av : List Flood) : M (List Dem) :=
  M.grd (decide ((-9223372036854775808 : Int) <= (m_ - a)) && decide ((m_ - a) <= (9223372036854775807 : Int))) <|
  M.grd (decide ((-9223372036854775808 : Int) <= (b - m_)) && decide ((b - m_) <= (9223372036854775807 : Int))) <|
  M.bind (M.iter (zbW m_ aa ab ac ae ah ai aj ak al am ao aq au av) (data, m_ - a, b - m_)) fun (l2, i2, l3) =>
  M.grd (decide ((-9223372036854775808 : Int) <= (m_ - i2)) && decide ((m_ - i2) <= (9223372036854775807 : Int))) <|
  M.bind (zaT l3 (m_ - i2) m_ i2 aa ab ac ae ah ai aj ak al am ao aq au av) fun l_data3 =>
  M.pure l_data3
theorem zdk {R : List Chunk} {aa : Value} {ab : Nat} {bb : Nat} {bc : Nat} {bf : Cells} {bg : Value} {bh : Cells} {bi : Value} {bj : Cells} {bm : Value} {bn : Cells} {bo : Value} {bp : Cells} {bq : Value} {bI : Nat} {br : Nat} {bt : Nat} {bu : Cells} {bv : Value} {bw : Cells} {bx : Value} {bz : Cells} {bA : Value} {bB : Cells} {bC : Value} {bD : Cells} {bE : Value} {bJ : Nat} (data : List Dem) (a : Int) (m_ : Int) (b : Int) (ae : List Int) (ah : List Span) (ai : List Int) (aj : List Town) (ak : Int) (al : Int) (am : List Flood) (ao : List Int) (aq : List Span) (au : List Int) (av : List Town) (aw : Int) (ax : Int) (ay : List Flood) (aB : Reads R bf) (aC : Sl bf bg ae) (aD : Reads R bh) (aE : Sl bh bi ah) (aF : Reads R bj) (aG : Sl bj bm ai) (aH : Reads R bn) (aI : Sl bn bo aj) (aJ : Reads R bp) (aK : Sl bp bq am) (aL : Has R (cBlk bc [bg, bi, bm, bo, I ak, I al, bq, .map (some bI)] 86)) (aM : Has R (cBlk bb [.func (.func 54) #[Pq bc] #[]] 106)) (aN : Reads R bu) (aO : Sl bu bv ao) (aP : Reads R bw) (aQ : Sl bw bx aq) (aR : Reads R bz) (aS : Sl bz bA au) (aT : Reads R bB) (aU : Sl bB bC av) (aV : Reads R bD) (aW : Sl bD bE ay) (aX : Has R (cBlk bt [bv, bx, bA, bC, I aw, I ax, bE, .map (some bJ)] 86)) (aY : Has R (cBlk br [Pq bt] 72)) (aZ : Has R (cBlk ab [.func (.func 69) #[] #[Pq bb, Pq br]] 114)) {r : (List Dem)} (hM : (zbR data a m_ b ae ah ai aj ak al am ao aq au av aw ax ay).Ends r) (w : World) (H : St w w [cOwn (α := Dem) 62 aa data] R) : Ret Try.prog 104 #[aa, I a, I m_, I b, .func (.func 71) #[] #[Pq ab]] w fun v w' => ∃ (y0 : List Dem), y0 = r /\ v = .tuple #[] /\ St w w' [cOwn (α := Dem) 62 aa y0] R := by
 refine ret_of_W Try.func104 rfl rfl rfl ?_
 refine W.seq ?_
 refine W.region rfl ?_
 refine zM (I m_) rfl ?_
 refine zM (I a) rfl ?_
 obtain ⟨bK, hM⟩ := M.e_grd hM
 simp only [Bool.and_eq_true, decide_eq_true_eq] at bK
 refine zR m_ a (m_ - a) rfl rfl rfl (by omega) ?_
 refine zA (I (m_ - a)) rfl ?_
 refine s_nil ?_
 refine W.seq ?_
 refine W.region rfl ?_
 refine zM (I b) rfl ?_
 refine zM (I m_) rfl ?_
 obtain ⟨bL, hM⟩ := M.e_grd hM
 simp only [Bool.and_eq_true, decide_eq_true_eq] at bL
 refine zR b m_ (b - m_) rfl rfl rfl (by omega) ?_
 refine zA (I (b - m_)) rfl ?_
 refine s_nil ?_
 refine W.seq ?_
 refine W.block ?_
 obtain ⟨bM, a8, bN⟩ := M.e_bind hM
 obtain ⟨b7, a8⟩ := M.e_iter a8
 refine W.loop (fun m σ W => ∃ (l : List Dem) (i : Int) (j : Int) (ρ : Env), σ = upds ρ [(0, aa), (2, I m_), (4, .func (.func 71) #[] #[Pq ab]), (10, I i), (11, I j)] /\ M.iterN (zbW m_ ae ah ai aj ak al am ao aq au av aw ax ay) m (l, i, j) = some bM /\ St w W [cOwn (α := Dem) 62 aa l] R) ?_ ?_
 ·exact ⟨_, data, m_ - a, b - m_, _, upds_of _ _ ⟨rfl, rfl, rfl, rfl, rfl, trivial⟩, a8, H⟩
 rintro b8 σ b9 ⟨l, i, j, ρ, rfl, bF, H⟩
 obtain ⟨bG, bH, ca, hM, ba⟩ := M.e_iterN bF
 simp only [zbW] at hM
 clear bF
 refine W.seq ?_
 refine W.seq ?_
 refine W.region rfl ?_
 refine zM (I i) rfl ?_
 refine zM (I j) rfl ?_
 refine zC i j (i != j) rfl rfl rfl ?_
 refine s_nil ?_
 refine W.cond (i != j) rfl (fun az => ?_) (fun az => ?_)
 ·replace hM := M.e_t hM az
  simp only [qy1, qy2, qy3, qy4, qy5, qy6, ne_eq, qy7] at az
  refine W.skip ?_
  refine W.block ?_
  refine W.seq ?_
  refine W.region rfl ?_
  refine zM (I i) rfl ?_
  refine zM (I j) rfl ?_
  refine zC i j (decide (j < i)) rfl rfl rfl ?_
  refine s_nil ?_
  refine W.cond (decide (j < i)) rfl (fun aA => ?_) (fun aA => ?_)
  ·replace hM := M.e_t hM aA
   simp only [qy1, qy2, qy3, qy4, qy5, qy6, ne_eq, qy7] at aA
   refine W.seq ?_
   refine W.region rfl ?_
   refine zM aa rfl ?_
   refine zM (I m_) rfl ?_
   refine zM (I i) rfl ?_
   obtain ⟨bO, hM⟩ := M.e_grd hM
   simp only [Bool.and_eq_true, decide_eq_true_eq] at bO
   refine zR m_ i (m_ - i) rfl rfl rfl (by omega) ?_
   refine zM (I m_) rfl ?_
   refine zM (I j) rfl ?_
   refine zM (.func (.func 71) #[] #[Pq ab]) rfl ?_
   obtain ⟨cb, bP, hM⟩ := M.e_bind hM
   refine s_call cf110 [aa, I (m_ - i), I m_, I j, .func (.func 71) #[] #[Pq ab]] rfl (zcG l (m_ - i) m_ j ae ah ai aj ak al am ao aq au av aw ax ay (aB.app _) aC (aD.app _) aE (aF.app _) aG (aH.app _) aI (aJ.app _) aK (aL.app _) (aM.app _) (aN.app _) aO (aP.app _) aQ (aR.app _) aS (aT.app _) aU (aV.app _) aW (aX.app _) (aY.app _) (aZ.app _) bP _ (H.gt 0)) ?_
   rintro vq cc ⟨l_data, bQ, hvq, ac⟩
   subst bQ
   subst vq
   try dsimp only at hM
   replace H := H.bk ac
   clear ac
   refine s_nil ?_
   refine W.region rfl ?_
   refine zM (I i) rfl ?_
   refine zM (I j) rfl ?_
   obtain ⟨bR, hM⟩ := M.e_grd hM
   simp only [Bool.and_eq_true, decide_eq_true_eq] at bR
   refine zR i j (i - j) rfl rfl rfl (by omega) ?_
   refine zA (I (i - j)) rfl ?_
   refine s_nil ?_
   exact ⟨bG, bH, l_data, i - j, j, _, upds_of _ _ ⟨rfl, rfl, rfl, rfl, rfl, trivial⟩, M.e_inl hM ba, H⟩
  replace hM := M.e_f hM aA
  simp only [qy1, qy2, qy3, qy4, qy5, qy6, ne_eq, qy7] at aA
  refine W.seq ?_
  refine W.region rfl ?_
  refine zM aa rfl ?_
  refine zM (I m_) rfl ?_
  refine zM (I i) rfl ?_
  obtain ⟨bS, hM⟩ := M.e_grd hM
  simp only [Bool.and_eq_true, decide_eq_true_eq] at bS
  refine zR m_ i (m_ - i) rfl rfl rfl (by omega) ?_
  refine zM (I m_) rfl ?_
  refine zM (I j) rfl ?_
  obtain ⟨bT, hM⟩ := M.e_grd hM
  simp only [Bool.and_eq_true, decide_eq_true_eq] at bT
  refine zR m_ j (m_ + j) rfl rfl rfl (by omega) ?_
  refine zM (I i) rfl ?_
  obtain ⟨bU, hM⟩ := M.e_grd hM
  simp only [Bool.and_eq_true, decide_eq_true_eq] at bU
  refine zR (m_ + j) i ((m_ + j) - i) rfl rfl rfl (by omega) ?_
  refine zM (I i) rfl ?_
  refine zM (.func (.func 71) #[] #[Pq ab]) rfl ?_
  obtain ⟨cd, bV, hM⟩ := M.e_bind hM
  refine s_call cf110 [aa, I (m_ - i), I ((m_ + j) - i), I i, .func (.func 71) #[] #[Pq ab]] rfl (zcG l (m_ - i) ((m_ + j) - i) i ae ah ai aj ak al am ao aq au av aw ax ay (aB.app _) aC (aD.app _) aE (aF.app _) aG (aH.app _) aI (aJ.app _) aK (aL.app _) (aM.app _) (aN.app _) aO (aP.app _) aQ (aR.app _) aS (aT.app _) aU (aV.app _) aW (aX.app _) (aY.app _) (aZ.app _) bV _ (H.gt 0)) ?_
  rintro vq ce ⟨l_data2, bW, hvq, ac⟩
  subst bW
  subst vq
  try dsimp only at hM
  replace H := H.bk ac
  clear ac
  refine s_nil ?_
  refine W.region rfl ?_
  refine zM (I j) rfl ?_
  refine zM (I i) rfl ?_
  obtain ⟨bX, hM⟩ := M.e_grd hM
  simp only [Bool.and_eq_true, decide_eq_true_eq] at bX
  refine zR j i (j - i) rfl rfl rfl (by omega) ?_
  refine zA (I (j - i)) rfl ?_
  refine s_nil ?_
  exact ⟨bG, bH, l_data2, i, j - i, _, upds_of _ _ ⟨rfl, rfl, rfl, rfl, rfl, trivial⟩, M.e_inl hM ba, H⟩
 replace hM := M.e_f hM az
 simp only [qy1, qy2, qy3, qy4, qy5, qy6, ne_eq, qy7] at az
 refine W.exit ?_
 have bY := M.e_inr hM ba
 subst bY
 replace hM := bN
 try dsimp only at hM
 refine W.region rfl ?_
 refine zM aa rfl ?_
 refine zM (I m_) rfl ?_
 refine zM (I i) rfl ?_
 obtain ⟨bZ, hM⟩ := M.e_grd hM
 simp only [Bool.and_eq_true, decide_eq_true_eq] at bZ
 refine zR m_ i (m_ - i) rfl rfl rfl (by omega) ?_
 refine zM (I m_) rfl ?_
 refine zM (I i) rfl ?_
 refine zM (.func (.func 71) #[] #[Pq ab]) rfl ?_
 obtain ⟨cf, b4, hM⟩ := M.e_bind hM
 refine s_call cf110 [aa, I (m_ - i), I m_, I i, .func (.func 71) #[] #[Pq ab]] rfl (zcG l (m_ - i) m_ i ae ah ai aj ak al am ao aq au av aw ax ay (aB.app _) aC (aD.app _) aE (aF.app _) aG (aH.app _) aI (aJ.app _) aK (aL.app _) (aM.app _) (aN.app _) aO (aP.app _) aQ (aR.app _) aS (aT.app _) aU (aV.app _) aW (aX.app _) (aY.app _) (aZ.app _) b4 _ (H.gt 0)) ?_
 rintro vq cg ⟨l_data3, b5, hvq, ac⟩
 subst b5
 subst vq
 try dsimp only at hM
 replace H := H.bk ac
 clear ac
 refine s_nil ?_
 have b6 := M.e_pure hM
 exact ⟨_, resE_tmp0 rfl, ⟨l_data3, b6, rfl, H⟩⟩

end Go.Proofs.Ytbaehghammbjdaa
end
section
set_option maxRecDepth 100000
set_option maxHeartbeats 16000000
namespace Go.Proofs.Ytbaehghammbjdaa
open Go Go.Nm
def zaN (data : List Dem) (a : Int) (aa : List Int) (ab : List Span) (ac : List Int) (ae : List Town) (ah : Int) (ai : Int) (aj : List Flood) (ak : List Int) (al : List Span) (am : List Int) (ao : List Town) (aq : Int) (au : Int) (av : List Flood) : (Int × Int) -> M ((Int × Int) ⊕ Int) := fun (i, j) =>
  bif decide (i < j) then (
  M.grd (decide ((-9223372036854775808 : Int) <= (i + j)) && decide ((i + j) <= (9223372036854775807 : Int))) <|
  M.grd (decide ((0 : Int) <= (i + j)) && decide ((i + j) <= (9223372036854775807 : Int))) <|
  M.grd (decide ((0 : Int) <= ((i + j) / 2)) && decide (((i + j) / 2) <= (9223372036854775807 : Int))) <|
  M.grd (decide ((0 : Int) <= ((i + j) / 2)) && decide (((i + j) / 2) < (data.length : Int))) <|
  M.grd (decide ((0 : Int) <= a) && decide (a < (data.length : Int))) <|
  M.bind (zau (data.getD (Int.toNat ((i + j) / 2)) default) (data.getD (Int.toNat a) default) aa ab ac ae ah ai aj ak al am ao aq au av) fun r2 =>
  bif decide (r2 < 0) then (
  M.pure (.inl (((i + j) / 2) + 1, j)))
  else (
  M.pure (.inl (i, (i + j) / 2))))
  else (
  M.pure (.inr i))
def zaJ (i2 : Int) : ((List Dem) × Int) -> M (((List Dem) × Int) ⊕ (List Dem)) := fun (l, k) =>
  M.grd (decide ((-9223372036854775808 : Int) <= (i2 - 1)) && decide ((i2 - 1) <= (9223372036854775807 : Int))) <|
  bif decide (k < (i2 - 1)) then (
  M.grd (decide ((-9223372036854775808 : Int) <= (k + 1)) && decide ((k + 1) <= (9223372036854775807 : Int))) <|
  M.grd (decide ((0 : Int) <= (k + 1)) && decide ((k + 1) < (l.length : Int))) <|
  M.grd (decide ((0 : Int) <= k) && decide (k < (l.length : Int))) <|
  M.grd (decide ((0 : Int) <= (k + 1)) && decide ((k + 1) < ((l.set (Int.toNat k) (l.getD (Int.toNat (k + 1)) default)).length : Int))) <|
  M.pure (.inl ((l.set (Int.toNat k) (l.getD (Int.toNat (k + 1)) default)).set (Int.toNat (k + 1)) (l.getD (Int.toNat k) default), k + 1)))
  else (
  M.pure (.inr l))
def za3 (data : List Dem) (m_ : Int) (aa : List Int) (ab : List Span) (ac : List Int) (ae : List Town) (ah : Int) (ai : Int) (aj : List Flood) (ak : List Int) (al : List Span) (am : List Int) (ao : List Town) (aq : Int) (au : Int) (av : List Flood) : (Int × Int) -> M ((Int × Int) ⊕ Int) := fun (i3, j2) =>
  bif decide (i3 < j2) then (
  M.grd (decide ((-9223372036854775808 : Int) <= (i3 + j2)) && decide ((i3 + j2) <= (9223372036854775807 : Int))) <|
  M.grd (decide ((0 : Int) <= (i3 + j2)) && decide ((i3 + j2) <= (9223372036854775807 : Int))) <|
  M.grd (decide ((0 : Int) <= ((i3 + j2) / 2)) && decide (((i3 + j2) / 2) <= (9223372036854775807 : Int))) <|
  M.grd (decide ((0 : Int) <= m_) && decide (m_ < (data.length : Int))) <|
  M.grd (decide ((0 : Int) <= ((i3 + j2) / 2)) && decide (((i3 + j2) / 2) < (data.length : Int))) <|
  M.bind (zau (data.getD (Int.toNat m_) default) (data.getD (Int.toNat ((i3 + j2) / 2)) default) aa ab ac ae ah ai aj ak al am ao aq au av) fun r3 =>
  bif !(decide (r3 < 0)) then (
  M.pure (.inl (((i3 + j2) / 2) + 1, j2)))
  else (
  M.pure (.inl (i3, (i3 + j2) / 2))))
  else (
  M.pure (.inr i3))
def zaH (i4 : Int) : ((List Dem) × Int) -> M (((List Dem) × Int) ⊕ (List Dem)) := fun (l3, k2) =>
  bif decide (i4 < k2) then (
  M.grd (decide ((-9223372036854775808 : Int) <= (k2 - 1)) && decide ((k2 - 1) <= (9223372036854775807 : Int))) <|
  M.grd (decide ((0 : Int) <= (k2 - 1)) && decide ((k2 - 1) < (l3.length : Int))) <|
  M.grd (decide ((0 : Int) <= k2) && decide (k2 < (l3.length : Int))) <|
  M.grd (decide ((0 : Int) <= (k2 - 1)) && decide ((k2 - 1) < ((l3.set (Int.toNat k2) (l3.getD (Int.toNat (k2 - 1)) default)).length : Int))) <|
  M.pure (.inl ((l3.set (Int.toNat k2) (l3.getD (Int.toNat (k2 - 1)) default)).set (Int.toNat (k2 - 1)) (l3.getD (Int.toNat k2) default), k2 - 1)))
  else (
  M.pure (.inr l3))
def za5 (data : List Dem) (a : Int) (m_ : Int) (b : Int) (aa : List Int) (ab : List Span) (ac : List Int) (ae : List Town) (ah : Int) (ai : Int) (aj : List Flood) (ak : List Int) (al : List Span) (am : List Int) (ao : List Town) (aq : Int) (au : Int) (av : List Flood) : (Int × Int) -> M ((Int × Int) ⊕ Int) := fun (start2, r6) =>
  bif decide (start2 < r6) then (
  M.grd (decide ((-9223372036854775808 : Int) <= (start2 + r6)) && decide ((start2 + r6) <= (9223372036854775807 : Int))) <|
  M.grd (decide ((0 : Int) <= (start2 + r6)) && decide ((start2 + r6) <= (9223372036854775807 : Int))) <|
  M.grd (decide ((0 : Int) <= ((start2 + r6) / 2)) && decide (((start2 + r6) / 2) <= (9223372036854775807 : Int))) <|
  M.grd (decide ((-9223372036854775808 : Int) <= (((((a + b) / 2) + m_) - 1) - ((start2 + r6) / 2))) && decide ((((((a + b) / 2) + m_) - 1) - ((start2 + r6) / 2)) <= (9223372036854775807 : Int))) <|
  M.grd (decide ((0 : Int) <= (((((a + b) / 2) + m_) - 1) - ((start2 + r6) / 2))) && decide ((((((a + b) / 2) + m_) - 1) - ((start2 + r6) / 2)) < (data.length : Int))) <|
  M.grd (decide ((0 : Int) <= ((start2 + r6) / 2)) && decide (((start2 + r6) / 2) < (data.length : Int))) <|
  M.bind (zau (data.getD (Int.toNat (((((a + b) / 2) + m_) - 1) - ((start2 + r6) / 2))) default) (data.getD (Int.toNat ((start2 + r6) / 2)) default) aa ab ac ae ah ai aj ak al am ao aq au av) fun r5 =>
  bif !(decide (r5 < 0)) then (
  M.pure (.inl (((start2 + r6) / 2) + 1, r6)))
  else (
  M.pure (.inl (start2, (start2 + r6) / 2))))
  else (
  M.pure (.inr start2))
def zaM (a : Int) (m_ : Int) (b : Int) (aa : List Int) (ab : List Span) (ac : List Int) (ae : List Town) (ah : Int) (ai : Int) (aj : List Flood) (ak : List Int) (al : List Span) (am : List Int) (ao : List Town) (aq : Int) (au : Int) (av : List Flood) (aw : ((List Dem) × Int × Int × Int × (List Int) × (List Span) × (List Int) × (List Town) × Int × Int × (List Flood) × (List Int) × (List Span) × (List Int) × (List Town) × Int × Int × (List Flood)) -> M (List Dem)) (start3 : Int) (l6 : List Dem) : M (List Dem) :=
  bif ((decide (((a + b) / 2) < ((((a + b) / 2) + m_) - start3))) && (decide (((((a + b) / 2) + m_) - start3) < b))) then (
  M.bind (aw (l6, ((a + b) / 2), ((((a + b) / 2) + m_) - start3), b, aa, ab, ac, ae, ah, ai, aj, ak, al, am, ao, aq, au, av)) fun l_data3 =>
  M.pure l_data3)
  else (
  M.pure l6)
def zay (a : Int) (m_ : Int) (b : Int) (aa : List Int) (ab : List Span) (ac : List Int) (ae : List Town) (ah : Int) (ai : Int) (aj : List Flood) (ak : List Int) (al : List Span) (am : List Int) (ao : List Town) (aq : Int) (au : Int) (av : List Flood) (aw : ((List Dem) × Int × Int × Int × (List Int) × (List Span) × (List Int) × (List Town) × Int × Int × (List Flood) × (List Int) × (List Span) × (List Int) × (List Town) × Int × Int × (List Flood)) -> M (List Dem)) (start3 : Int) (l5 : List Dem) : M (List Dem) :=
  bif ((decide (a < start3)) && (decide (start3 < ((a + b) / 2)))) then (
  M.bind (aw (l5, a, start3, ((a + b) / 2), aa, ab, ac, ae, ah, ai, aj, ak, al, am, ao, aq, au, av)) fun l_data2 =>
  zaM a m_ b aa ab ac ae ah ai aj ak al am ao aq au av aw start3 l_data2)
  else (
  zaM a m_ b aa ab ac ae ah ai aj ak al am ao aq au av aw start3 l5)
def zaw (data : List Dem) (a : Int) (m_ : Int) (b : Int) (aa : List Int) (ab : List Span) (ac : List Int) (ae : List Town) (ah : Int) (ai : Int) (aj : List Flood) (ak : List Int) (al : List Span) (am : List Int) (ao : List Town) (aq : Int) (au : Int) (av : List Flood) (aw : ((List Dem) × Int × Int × Int × (List Int) × (List Span) × (List Int) × (List Town) × Int × Int × (List Flood) × (List Int) × (List Span) × (List Int) × (List Town) × Int × Int × (List Flood)) -> M (List Dem)) (start : Int) (r4 : Int) : M (List Dem) :=
  M.grd (decide ((-9223372036854775808 : Int) <= ((((a + b) / 2) + m_) - 1)) && decide (((((a + b) / 2) + m_) - 1) <= (9223372036854775807 : Int))) <|
  M.bind (M.iter (za5 data a m_ b aa ab ac ae ah ai aj ak al am ao aq au av) (start, r4)) fun start3 =>
  M.grd (decide ((-9223372036854775808 : Int) <= ((((a + b) / 2) + m_) - start3)) && decide (((((a + b) / 2) + m_) - start3) <= (9223372036854775807 : Int))) <|
  bif ((decide (start3 < m_)) && (decide (m_ < ((((a + b) / 2) + m_) - start3)))) then (
  M.bind (zbR data start3 m_ ((((a + b) / 2) + m_) - start3) aa ab ac ae ah ai aj ak al am ao aq au av) fun l_data =>
  zay a m_ b aa ab ac ae ah ai aj ak al am ao aq au av aw start3 l_data)
  else (
  zay a m_ b aa ab ac ae ah ai aj ak al am ao aq au av aw start3 data)
def zal (aw : ((List Dem) × Int × Int × Int × (List Int) × (List Span) × (List Int) × (List Town) × Int × Int × (List Flood) × (List Int) × (List Span) × (List Int) × (List Town) × Int × Int × (List Flood)) -> M (List Dem)) : ((List Dem) × Int × Int × Int × (List Int) × (List Span) × (List Int) × (List Town) × Int × Int × (List Flood) × (List Int) × (List Span) × (List Int) × (List Town) × Int × Int × (List Flood)) -> M (List Dem) := fun (data, a, m_, b, aa, ab, ac, ae, ah, ai, aj, ak, al, am, ao, aq, au, av) =>
  M.grd (decide ((-9223372036854775808 : Int) <= (m_ - a)) && decide ((m_ - a) <= (9223372036854775807 : Int))) <|
  bif (m_ - a) == 1 then (
  M.bind (M.iter (zaN data a aa ab ac ae ah ai aj ak al am ao aq au av) (m_, b)) fun i2 =>
  M.bind (M.iter (zaJ i2) (data, a)) fun l2 =>
  M.pure l2)
  else (
  M.grd (decide ((-9223372036854775808 : Int) <= (b - m_)) && decide ((b - m_) <= (9223372036854775807 : Int))) <|
  bif (b - m_) == 1 then (
  M.bind (M.iter (za3 data m_ aa ab ac ae ah ai aj ak al am ao aq au av) (a, m_)) fun i4 =>
  M.bind (M.iter (zaH i4) (data, m_)) fun l4 =>
  M.pure l4)
  else (
  M.grd (decide ((-9223372036854775808 : Int) <= (a + b)) && decide ((a + b) <= (9223372036854775807 : Int))) <|
  M.grd (decide ((0 : Int) <= (a + b)) && decide ((a + b) <= (9223372036854775807 : Int))) <|
  M.grd (decide ((0 : Int) <= ((a + b) / 2)) && decide (((a + b) / 2) <= (9223372036854775807 : Int))) <|
  M.grd (decide ((-9223372036854775808 : Int) <= (((a + b) / 2) + m_)) && decide ((((a + b) / 2) + m_) <= (9223372036854775807 : Int))) <|
  bif decide (((a + b) / 2) < m_) then (
  M.grd (decide ((-9223372036854775808 : Int) <= ((((a + b) / 2) + m_) - b)) && decide (((((a + b) / 2) + m_) - b) <= (9223372036854775807 : Int))) <|
  zaw data a m_ b aa ab ac ae ah ai aj ak al am ao aq au av aw ((((a + b) / 2) + m_) - b) ((a + b) / 2))
  else (
  zaw data a m_ b aa ab ac ae ah ai aj ak al am ao aq au av aw a m_)))
theorem zcp : M.Mon zal := by
  intro n f g h a
  obtain ⟨data, a, m_, b, aa, ab, ac, ae, ah, ai, aj, ak, al, am, ao, aq, au, av⟩ := a
  simp only [zal, zaN, zaJ, za3, zaH, za5, zaM, zay, zaw]
  repeat' (first | exact M.le_same _ _ | exact h _ | refine M.le_grd ?_ | refine M.le_if ?_ ?_ | refine M.le_bind ?_ (fun x => ?_) | refine M.le_opt ?_ | refine M.le_iter (fun x => ?_) _ | refine zdJ (M.le_yl (fun s_ a_ => ?_)) _ _ _ _ _ _ _ _ _ | (rename_i x; cases x) | (rename_i x; obtain ⟨_, _⟩ := x))
def zby (data : List Dem) (a : Int) (m_ : Int) (b : Int) (aa : List Int) (ab : List Span) (ac : List Int) (ae : List Town) (ah : Int) (ai : Int) (aj : List Flood) (ak : List Int) (al : List Span) (am : List Int) (ao : List Town) (aq : Int) (au : Int) (av : List Flood) : M (List Dem) := M.fix zal zcp (data, a, m_, b, aa, ab, ac, ae, ah, ai, aj, ak, al, am, ao, aq, au, av)
theorem zdI (n_ : Nat) : ∀ {R : List Chunk} {aa : Value} {am : Nat} {bu : Nat} {bv : Nat} {bw : Cells} {bx : Value} {bz : Cells} {bA : Value} {bB : Cells} {bC : Value} {bD : Cells} {bE : Value} {bF : Cells} {bG : Value} {al : Nat} {B_b_cmp2020207 : Base} {bH : Nat} {bI : Nat} {bJ : Cells} {bK : Value} {bL : Cells} {bM : Value} {bN : Cells} {bO : Value} {bP : Cells} {bQ : Value} {bR : Cells} {bS : Value} {bU : Nat} (data : List Dem) (a : Int) (m_ : Int) (b : Int) (ab : List Int) (ac : List Span) (ae : List Int) (ah : List Town) (ai : Int) (aj : Int) (ak : List Flood) (aq : List Int) (au : List Span) (av : List Int) (aw : List Town) (ax : Int) (ay : Int) (az : List Flood) (aB : Reads R bw) (aC : Sl bw bx ab) (aD : Reads R bz) (aE : Sl bz bA ac) (aF : Reads R bB) (aG : Sl bB bC ae) (aH : Reads R bD) (aI : Sl bD bE ah) (aJ : Reads R bF) (aK : Sl bF bG ak) (aL : Has R (cBlk bv [bx, bA, bC, bE, I ai, I aj, bG, .map (some al)] 86)) (aM : Has R (cBlk bu [.func (.func 54) #[Pq bv] #[]] 106)) (aN : Reads R bJ) (aO : Sl bJ bK aq) (aP : Reads R bL) (aQ : Sl bL bM au) (aR : Reads R bN) (aS : Sl bN bO av) (aT : Reads R bP) (aU : Sl bP bQ aw) (aV : Reads R bR) (aW : Sl bR bS az) (aX : Has R (cBlk bI [bK, bM, bO, bQ, I ax, I ay, bS, .map (some bU)] 86)) (aY : Has R (cBlk bH [Pq bI] 72)) (aZ : Has R (cBlk am [.func (.func 69) #[] #[Pq bu, Pq bH]] 114)) {r : (List Dem)} (hM : (M.fixN zal n_ (data, a, m_, b, ab, ac, ae, ah, ai, aj, ak, aq, au, av, aw, ax, ay, az)).Ends r) (w : World) (H : St w w [cOwn (α := Dem) 62 aa data, cMem encDm al B_b_cmp2020207 (zaa ab ac ae ah ai aj ak)] R), Ret Try.prog 92 #[aa, I a, I m_, I b, .func (.func 71) #[] #[Pq am]] w fun v w' => ∃ (y0 : List Dem) (cu : Base), y0 = r /\ v = .tuple #[] /\ St w w' [cOwn (α := Dem) 62 aa y0, cMem encDm al cu (zaa ab ac ae ah ai aj ak)] R := by
  induction n_ with
  | zero => intro R aa am bu bv bw bx bz bA bB bC bD bE bF bG al B_b_cmp2020207 bH bI bJ bK bL bM bN bO bP bQ bR bS bU data a m_ b ab ac ae ah ai aj ak aq au av aw ax ay az aB aC aD aE aF aG aH aI aJ aK aL aM aN aO aP aQ aR aS aT aU aV aW aX aY aZ r hM w H; exact (M.e_fail hM).elim
  | succ n_ ih =>
    intro R aa am bu bv bw bx bz bA bB bC bD bE bF bG al B_b_cmp2020207 bH bI bJ bK bL bM bN bO bP bQ bR bS bU data a m_ b ab ac ae ah ai aj ak aq au av aw ax ay az aB aC aD aE aF aG aH aI aJ aK aL aM aN aO aP aQ aR aS aT aU aV aW aX aY aZ r hM w H
    refine ret_of_W Try.func92 rfl rfl rfl ?_
    refine W.seq ?_
    refine W.seq ?_
    refine W.region rfl ?_
    refine zM (I m_) rfl ?_
    refine zM (I a) rfl ?_
    obtain ⟨cw, hM⟩ := M.e_grd hM
    simp only [Bool.and_eq_true, decide_eq_true_eq] at cw
    refine zR m_ a (m_ - a) rfl rfl rfl (by omega) ?_
    refine zC (m_ - a) 1 ((m_ - a) == 1) rfl rfl rfl ?_
    refine s_nil ?_
    refine W.cond ((m_ - a) == 1) rfl (fun bi => ?_) (fun bi => ?_)
    ·replace hM := M.e_t hM bi
     simp only [qy1, qy2, qy3, qy4, qy5, qy6, ne_eq, qy7] at bi
     refine W.seq ?_
     refine W.region rfl ?_
     refine zM (I m_) rfl ?_
     refine zA (I m_) rfl ?_
     refine s_nil ?_
     refine W.seq ?_
     refine W.region rfl ?_
     refine zM (I b) rfl ?_
     refine zA (I b) rfl ?_
     refine s_nil ?_
     refine W.seq ?_
     refine W.block ?_
     obtain ⟨cx, bV, cy⟩ := M.e_bind hM
     obtain ⟨bT, bV⟩ := M.e_iter bV
     refine W.loop (fun m σ W => ∃ (i : Int) (j : Int) (B_mem : Base) (ρ : Env), σ = upds ρ [(0, aa), (1, I a), (4, .func (.func 71) #[] #[Pq am]), (10, I i), (11, I j)] /\ M.iterN (zaN data a ab ac ae ah ai aj ak aq au av aw ax ay az) m (i, j) = some cx /\ St w W [cOwn (α := Dem) 62 aa data, cMem encDm al B_mem (zaa ab ac ae ah ai aj ak)] R) ?_ ?_
     ·exact ⟨_, m_, b, B_b_cmp2020207, _, upds_of _ _ ⟨rfl, rfl, rfl, rfl, rfl, trivial⟩, bV, H⟩
     rintro dK σ dL ⟨i, j, B_mem, ρ, rfl, cc, H⟩
     obtain ⟨cd, ce, dM, hM, bW⟩ := M.e_iterN cc
     simp only [zaN] at hM
     clear cc
     refine W.seq ?_
     refine W.seq ?_
     refine W.region rfl ?_
     refine zM (I i) rfl ?_
     refine zM (I j) rfl ?_
     refine zC i j (decide (i < j)) rfl rfl rfl ?_
     refine s_nil ?_
     refine W.cond (decide (i < j)) rfl (fun bj => ?_) (fun bj => ?_)
     ·replace hM := M.e_t hM bj
      simp only [qy1, qy2, qy3, qy4, qy5, qy6, ne_eq, qy7] at bj
      refine W.skip ?_
      refine W.block ?_
      refine W.seq ?_
      refine W.region rfl ?_
      refine zM (I i) rfl ?_
      refine zM (I j) rfl ?_
      obtain ⟨cz, hM⟩ := M.e_grd hM
      simp only [Bool.and_eq_true, decide_eq_true_eq] at cz
      refine zR i j (i + j) rfl rfl rfl (by omega) ?_
      obtain ⟨cA, hM⟩ := M.e_grd hM
      simp only [Bool.and_eq_true, decide_eq_true_eq] at cA
      refine s_val (x_convU (kd := .i64) (a := i + j) Try.underlying3 Try.underlying126 rfl (by omega)) ?_
      refine s_val (x_ushr1 (a := i + j) rfl rfl) ?_
      obtain ⟨cB, hM⟩ := M.e_grd hM
      simp only [Bool.and_eq_true, decide_eq_true_eq] at cB
      refine s_val (x_conv64 (kd := .u64) (a := (i + j) / 2) Try.underlying126 Try.underlying3 rfl (by omega)) ?_
      refine zA (I ((i + j) / 2)) rfl ?_
      refine s_nil ?_
      refine W.seq ?_
      refine W.draw (fun W => St w W [cOwn (α := Dem) 62 aa data] R) [(0, true), (1, true), (2, true), (3, true), (4, true), (5, true), (6, true), (7, true), (8, true), (9, false), (10, true)] mixed (by decide +kernel) rfl ?_
      intro dN aA
      replace H := H.ext aA
      clear aA
      refine ⟨(H.pk [0]), ?_⟩
      refine d_q rfl (fun w' H => x_mv (v := .func (.func 71) #[] #[Pq am]) rfl) ?_
      refine d_q rfl (fun w' H => x_mv (v := aa) rfl) ?_
      refine d_q rfl (fun w' H => x_mv (v := I ((i + j) / 2)) rfl) ?_
      obtain ⟨cC, hM⟩ := M.e_grd hM
      simp only [Bool.and_eq_true, decide_eq_true_eq] at cC
      refine d_q rfl (fun w' H => x_ix (a := aa) (b := I ((i + j) / 2)) (v := vat aa 2 (Int.toNat ((i + j) / 2))) rfl rfl (Sl.ix (α := Dem) T57.und T57.size (H.os 0) (by omega) (by omega))) ?_
      refine d_q rfl (fun w' H => x_ld (p := vat aa 2 (Int.toNat ((i + j) / 2))) (v := .agg #[I ((data.getD (Int.toNat ((i + j) / 2)) default).spring), I ((data.getD (Int.toNat ((i + j) / 2)) default).town)]) rfl (ld_ag Ag62 Sz62 (At.mono (Dem_atA (H.os 0) (i := (i + j) / 2) (by omega) (by omega)) (H.ol 0)))) ?_
      refine d_q rfl (fun w' H => x_mv (v := aa) rfl) ?_
      refine d_q rfl (fun w' H => x_mv (v := I a) rfl) ?_
      obtain ⟨cD, hM⟩ := M.e_grd hM
      simp only [Bool.and_eq_true, decide_eq_true_eq] at cD
      refine d_q rfl (fun w' H => x_ix (a := aa) (b := I a) (v := vat aa 2 (Int.toNat a)) rfl rfl (Sl.ix (α := Dem) T57.und T57.size (H.os 0) (by omega) (by omega))) ?_
      refine d_q rfl (fun w' H => x_ld (p := vat aa 2 (Int.toNat a)) (v := .agg #[I ((data.getD (Int.toNat a) default).spring), I ((data.getD (Int.toNat a) default).town)]) rfl (ld_ag Ag62 Sz62 (At.mono (Dem_atA (H.os 0) (i := a) (by omega) (by omega)) (H.ol 0)))) ?_
      refine d_l rfl ?_
      obtain ⟨dO, cE, hM⟩ := M.e_bind hM
      refine s_callv (f := 71) rfl cf71 [.agg #[I ((data.getD (Int.toNat ((i + j) / 2)) default).spring), I ((data.getD (Int.toNat ((i + j) / 2)) default).town)], .agg #[I ((data.getD (Int.toNat a) default).spring), I ((data.getD (Int.toNat a) default).town)]] rfl (zb5 (data.getD (Int.toNat ((i + j) / 2)) default) (data.getD (Int.toNat a) default) ab ac ae ah ai aj ak aq au av aw ax ay az (aB.app _) aC (aD.app _) aE (aF.app _) aG (aH.app _) aI (aJ.app _) aK (aL.app _) (aM.app _) (aN.app _) aO (aP.app _) aQ (aR.app _) aS (aT.app _) aU (aV.app _) aW (aX.app _) (aY.app _) (aZ.app _) cE _ ((H.pk [1, 0]).gt 1)) ?_
      rintro vq dP ⟨r2, cf, cF, hvq, ao⟩
      subst cF
      subst vq
      try dsimp only at hM
      replace H := H.pk [1, 0] |>.bk ao
      clear ao
      refine s_nil ⟨(H.pk [1]), ?_⟩
      refine d_q rfl (fun w' H => x_cmp (kd := .i64) (a := r2) (b := 0) (r := decide (r2 < 0)) rfl rfl rfl) ?_
      refine d_nil ?_
      refine W.cond (decide (r2 < 0)) rfl (fun bm => ?_) (fun bm => ?_)
      ·replace hM := M.e_t hM bm
       simp only [qy1, qy2, qy3, qy4, qy5, qy6, ne_eq, qy7] at bm
       refine W.region rfl ?_
       refine zM (I ((i + j) / 2)) rfl ?_
       refine zR ((i + j) / 2) 1 (((i + j) / 2) + 1) rfl rfl rfl (by omega) ?_
       refine zA (I (((i + j) / 2) + 1)) rfl ?_
       refine s_nil ?_
       exact ⟨cd, ce, ((i + j) / 2) + 1, j, cf, _, upds_of _ _ ⟨rfl, rfl, rfl, rfl, rfl, trivial⟩, M.e_inl hM bW, (H.pk [1, 0])⟩
      replace hM := M.e_f hM bm
      simp only [qy1, qy2, qy3, qy4, qy5, qy6, ne_eq, qy7] at bm
      refine W.region rfl ?_
      refine zM (I ((i + j) / 2)) rfl ?_
      refine zA (I ((i + j) / 2)) rfl ?_
      refine s_nil ?_
      exact ⟨cd, ce, i, (i + j) / 2, cf, _, upds_of _ _ ⟨rfl, rfl, rfl, rfl, rfl, trivial⟩, M.e_inl hM bW, (H.pk [1, 0])⟩
     replace hM := M.e_f hM bj
     simp only [qy1, qy2, qy3, qy4, qy5, qy6, ne_eq, qy7] at bj
     refine W.exit ?_
     have cG := M.e_inr hM bW
     subst cG
     replace hM := cy
     try dsimp only at hM
     refine W.seq ?_
     refine W.seq ?_
     refine W.region rfl ?_
     refine zM (I a) rfl ?_
     refine zA (I a) rfl ?_
     refine s_nil ?_
     refine W.block ?_
     obtain ⟨cH, bX, cI⟩ := M.e_bind hM
     obtain ⟨bT, bX⟩ := M.e_iter bX
     refine W.loop (fun m σ W => ∃ (l : List Dem) (k : Int) (ρ : Env), σ = upds ρ [(0, aa), (10, I i), (13, I k)] /\ M.iterN (zaJ i) m (l, k) = some cH /\ St w W [cOwn (α := Dem) 62 aa l, cMem encDm al B_mem (zaa ab ac ae ah ai aj ak)] R) ?_ ?_
     ·exact ⟨_, data, a, _, upds_of _ _ ⟨rfl, rfl, rfl, trivial⟩, bX, H⟩
     rintro dQ σ dR ⟨l, k, ρ, rfl, cg, H⟩
     obtain ⟨bc, bf, dS, hM, a8⟩ := M.e_iterN cg
     simp only [zaJ] at hM
     clear cg
     refine W.seq ?_
     refine W.seq ?_
     refine W.region rfl ?_
     refine zM (I k) rfl ?_
     refine zM (I i) rfl ?_
     obtain ⟨cJ, hM⟩ := M.e_grd hM
     simp only [Bool.and_eq_true, decide_eq_true_eq] at cJ
     refine zR i 1 (i - 1) rfl rfl rfl (by omega) ?_
     refine zC k (i - 1) (decide (k < (i - 1))) rfl rfl rfl ?_
     refine s_nil ?_
     refine W.cond (decide (k < (i - 1))) rfl (fun bn => ?_) (fun bn => ?_)
     ·replace hM := M.e_t hM bn
      simp only [qy1, qy2, qy3, qy4, qy5, qy6, ne_eq, qy7] at bn
      refine W.skip ?_
      refine W.seq ?_
      refine W.block ?_
      refine W.drawT (fun W => St w W [cMem encDm al B_mem (zaa ab ac ae ah ai aj ak)] R) (.q 0 (.q 1 (.q 2 (.q 3 (.q 4 (.q 5 (.q 6 (.q 7 (.q 10 (.q 11 (.l2 8 (.l2 9 (.l 12 (.l 13 (.l 14 (.l 15 (.l 16 (.l 17 .nil)))))) 12 (.l2 9 (.l 13 (.l 14 (.l 15 (.l 16 (.l 17 .nil))))) 13 (.l 9 (.l 14 (.l 15 (.l 16 (.l 17 .nil))))))) 12 (.l2 8 (.l2 9 (.l 13 (.l 14 (.l 15 (.l 16 (.l 17 .nil))))) 13 (.l 9 (.l 14 (.l 15 (.l 16 (.l 17 .nil)))))) 13 (.l 8 (.l 9 (.l 14 (.l 15 (.l 16 (.l 17 .nil)))))))))))))))))) mixed (by decide +kernel) rfl ?_
      intro dT aA
      replace H := H.ext aA
      clear aA
      refine ⟨(H.pk [1]), ?_⟩
      refine t_q rfl (fun w' H => x_mv (v := aa) rfl) ?_
      refine t_q rfl (fun w' H => x_mv (v := I k) rfl) ?_
      refine t_q rfl (fun w' H => x_mv (v := aa) rfl) ?_
      refine t_q rfl (fun w' H => x_mv (v := I k) rfl) ?_
      obtain ⟨cK, hM⟩ := M.e_grd hM
      simp only [Bool.and_eq_true, decide_eq_true_eq] at cK
      refine t_q rfl (fun w' H => x_ari (a := k) (b := 1) (r := k + 1) rfl rfl rfl (by omega)) ?_
      refine t_q rfl (fun w' H => x_mv (v := aa) rfl) ?_
      refine t_q rfl (fun w' H => x_mv (v := I k) rfl) ?_
      refine t_q rfl (fun w' H => x_ari (a := k) (b := 1) (r := k + 1) rfl rfl rfl (by omega)) ?_
      refine t_q rfl (fun w' H => x_mv (v := aa) rfl) ?_
      refine t_q rfl (fun w' H => x_mv (v := I k) rfl) ?_
      obtain ⟨cL, hM⟩ := M.e_grd hM
      simp only [Bool.and_eq_true, decide_eq_true_eq] at cL
      obtain ⟨cM, hM⟩ := M.e_grd hM
      simp only [Bool.and_eq_true, decide_eq_true_eq] at cM
      obtain ⟨cN, hM⟩ := M.e_grd hM
      simp only [Bool.and_eq_true, decide_eq_true_eq] at cN
      refine t_l2 rfl rfl ?_ ?_
      ·skip
       refine s_val (x_ix (a := aa) (b := I (k + 1)) (v := vat aa 2 (Int.toNat (k + 1))) rfl rfl (Sl.ix (α := Dem) T57.und T57.size (H.os 0) (by omega) (by omega))) ?_
       have dU := Sl.cells (H.os 0)
       have dV := Sl.oc (H.os 0)
       refine s_nil ⟨(H.pk [1]), ?_⟩
       refine t_l2 rfl rfl ?_ ?_
       ·skip
        refine s_val (x_ld (p := vat aa 2 (Int.toNat (k + 1))) (v := .agg #[I ((l.getD (Int.toNat (k + 1)) default).spring), I ((l.getD (Int.toNat (k + 1)) default).town)]) rfl (ld_ag Ag62 Sz62 (At.mono (Dem_atA (H.os 0) (i := k + 1) (by omega) (by omega)) (H.ol 0)))) ?_
        refine s_nil ⟨(H.pk [1]), ?_⟩
        refine t_l rfl ?_
        refine s_val (x_ix (a := aa) (b := I k) (v := vat aa 2 (Int.toNat k)) rfl rfl (Sl.ix (α := Dem) T57.und T57.size (H.os 0) (by omega) (by omega))) ?_
        refine s_nil ⟨(H.pk [1]), ?_⟩
        refine t_l rfl ?_
        refine s_val (x_ld (p := vat aa 2 (Int.toNat k)) (v := .agg #[I ((l.getD (Int.toNat k) default).spring), I ((l.getD (Int.toNat k) default).town)]) rfl (ld_ag Ag62 Sz62 (At.mono (Dem_atA (H.os 0) (i := k) (by omega) (by omega)) (H.ol 0)))) ?_
        refine s_nil ⟨(H.pk [1]), ?_⟩
        refine t_l rfl ?_
        refine s_val (x_ix (a := aa) (b := I k) (v := vat aa 2 (Int.toNat k)) rfl rfl (Sl.ix (α := Dem) T57.und T57.size (H.os 0) (by omega) (by omega))) ?_
        refine s_nil ⟨(H.pk [1]), ?_⟩
        refine t_l rfl ?_
        refine t_ost (k := 0) (i := k) (l := l) (l' := l.set (Int.toNat k) (l.getD (Int.toNat (k + 1)) default)) (val := .agg #[I ((l.getD (Int.toNat (k + 1)) default).spring), I ((l.getD (Int.toNat (k + 1)) default).town)]) (L' := [cOwn (α := Dem) 62 aa (l.set (Int.toNat k) (l.getD (Int.toNat (k + 1)) default)), cMem encDm al B_mem (zaa ab ac ae ah ai aj ak)]) H rfl Sz62 (by omega) (by omega) (l.getD (Int.toNat (k + 1)) default) rfl rfl rfl rfl rfl ?_
        intro dW H
        refine s_nil ⟨(H.pk [1]), ?_⟩
        refine t_l rfl ?_
        refine s_val (x_ix (a := aa) (b := I (k + 1)) (v := vat aa 2 (Int.toNat (k + 1))) rfl rfl (Sl.ix (α := Dem) T57.und T57.size (H.os 0) (by omega) (by omega))) ?_
        refine s_nil ⟨(H.pk [1]), ?_⟩
        refine t_l rfl ?_
        refine t_ost (k := 0) (i := k + 1) (l := l.set (Int.toNat k) (l.getD (Int.toNat (k + 1)) default)) (l' := (l.set (Int.toNat k) (l.getD (Int.toNat (k + 1)) default)).set (Int.toNat (k + 1)) (l.getD (Int.toNat k) default)) (val := .agg #[I ((l.getD (Int.toNat k) default).spring), I ((l.getD (Int.toNat k) default).town)]) (L' := [cOwn (α := Dem) 62 aa ((l.set (Int.toNat k) (l.getD (Int.toNat (k + 1)) default)).set (Int.toNat (k + 1)) (l.getD (Int.toNat k) default)), cMem encDm al B_mem (zaa ab ac ae ah ai aj ak)]) H rfl Sz62 (by omega) (by omega) (l.getD (Int.toNat k) default) rfl rfl rfl rfl rfl ?_
        intro dX H
        refine s_nil ⟨(H.pk [1]), ?_⟩
        refine t_nil ?_
        refine W.region rfl ?_
        refine zM (I k) rfl ?_
        refine zR k 1 (k + 1) rfl rfl rfl (by omega) ?_
        refine zA (I (k + 1)) rfl ?_
        refine s_nil ?_
        exact ⟨bc, bf, (l.set (Int.toNat k) (l.getD (Int.toNat (k + 1)) default)).set (Int.toNat (k + 1)) (l.getD (Int.toNat k) default), k + 1, _, upds_of _ _ ⟨rfl, rfl, rfl, trivial⟩, M.e_inl hM a8, H⟩
       skip
       refine s_val (x_ix (a := aa) (b := I k) (v := vat aa 2 (Int.toNat k)) rfl rfl (Sl.ix (α := Dem) T57.und T57.size (H.os 0) (by omega) (by omega))) ?_
       refine s_nil ⟨(H.pk [1]), ?_⟩
       refine t_l2 rfl rfl ?_ ?_
       ·skip
        refine s_val (x_ld (p := vat aa 2 (Int.toNat (k + 1))) (v := .agg #[I ((l.getD (Int.toNat (k + 1)) default).spring), I ((l.getD (Int.toNat (k + 1)) default).town)]) rfl (ld_ag Ag62 Sz62 (At.mono (Dem_atA (H.os 0) (i := k + 1) (by omega) (by omega)) (H.ol 0)))) ?_
        refine s_nil ⟨(H.pk [1]), ?_⟩
        refine t_l rfl ?_
        refine s_val (x_ld (p := vat aa 2 (Int.toNat k)) (v := .agg #[I ((l.getD (Int.toNat k) default).spring), I ((l.getD (Int.toNat k) default).town)]) rfl (ld_ag Ag62 Sz62 (At.mono (Dem_atA (H.os 0) (i := k) (by omega) (by omega)) (H.ol 0)))) ?_
        refine s_nil ⟨(H.pk [1]), ?_⟩
        refine t_l rfl ?_
        refine s_val (x_ix (a := aa) (b := I k) (v := vat aa 2 (Int.toNat k)) rfl rfl (Sl.ix (α := Dem) T57.und T57.size (H.os 0) (by omega) (by omega))) ?_
        refine s_nil ⟨(H.pk [1]), ?_⟩
        refine t_l rfl ?_
        refine t_ost (k := 0) (i := k) (l := l) (l' := l.set (Int.toNat k) (l.getD (Int.toNat (k + 1)) default)) (val := .agg #[I ((l.getD (Int.toNat (k + 1)) default).spring), I ((l.getD (Int.toNat (k + 1)) default).town)]) (L' := [cOwn (α := Dem) 62 aa (l.set (Int.toNat k) (l.getD (Int.toNat (k + 1)) default)), cMem encDm al B_mem (zaa ab ac ae ah ai aj ak)]) H rfl Sz62 (by omega) (by omega) (l.getD (Int.toNat (k + 1)) default) rfl rfl rfl rfl rfl ?_
        intro dY H
        refine s_nil ⟨(H.pk [1]), ?_⟩
        refine t_l rfl ?_
        refine s_val (x_ix (a := aa) (b := I (k + 1)) (v := vat aa 2 (Int.toNat (k + 1))) rfl rfl (Sl.ix (α := Dem) T57.und T57.size (H.os 0) (by omega) (by omega))) ?_
        refine s_nil ⟨(H.pk [1]), ?_⟩
        refine t_l rfl ?_
        refine t_ost (k := 0) (i := k + 1) (l := l.set (Int.toNat k) (l.getD (Int.toNat (k + 1)) default)) (l' := (l.set (Int.toNat k) (l.getD (Int.toNat (k + 1)) default)).set (Int.toNat (k + 1)) (l.getD (Int.toNat k) default)) (val := .agg #[I ((l.getD (Int.toNat k) default).spring), I ((l.getD (Int.toNat k) default).town)]) (L' := [cOwn (α := Dem) 62 aa ((l.set (Int.toNat k) (l.getD (Int.toNat (k + 1)) default)).set (Int.toNat (k + 1)) (l.getD (Int.toNat k) default)), cMem encDm al B_mem (zaa ab ac ae ah ai aj ak)]) H rfl Sz62 (by omega) (by omega) (l.getD (Int.toNat k) default) rfl rfl rfl rfl rfl ?_
        intro dZ H
        refine s_nil ⟨(H.pk [1]), ?_⟩
        refine t_nil ?_
        refine W.region rfl ?_
        refine zM (I k) rfl ?_
        refine zR k 1 (k + 1) rfl rfl rfl (by omega) ?_
        refine zA (I (k + 1)) rfl ?_
        refine s_nil ?_
        exact ⟨bc, bf, (l.set (Int.toNat k) (l.getD (Int.toNat (k + 1)) default)).set (Int.toNat (k + 1)) (l.getD (Int.toNat k) default), k + 1, _, upds_of _ _ ⟨rfl, rfl, rfl, trivial⟩, M.e_inl hM a8, H⟩
       skip
       refine s_val (x_ld (p := vat aa 2 (Int.toNat k)) (v := .agg #[I ((l.getD (Int.toNat k) default).spring), I ((l.getD (Int.toNat k) default).town)]) rfl (ld_ag Ag62 Sz62 (At.mono (Dem_atA (H.os 0) (i := k) (by omega) (by omega)) (H.ol 0)))) ?_
       refine s_nil ⟨(H.pk [1]), ?_⟩
       refine t_l rfl ?_
       refine s_val (x_ld (p := vat aa 2 (Int.toNat (k + 1))) (v := .agg #[I ((l.getD (Int.toNat (k + 1)) default).spring), I ((l.getD (Int.toNat (k + 1)) default).town)]) rfl (ld_ag Ag62 Sz62 (At.mono (Dem_atA (H.os 0) (i := k + 1) (by omega) (by omega)) (H.ol 0)))) ?_
       refine s_nil ⟨(H.pk [1]), ?_⟩
       refine t_l rfl ?_
       refine s_val (x_ix (a := aa) (b := I k) (v := vat aa 2 (Int.toNat k)) rfl rfl (Sl.ix (α := Dem) T57.und T57.size (H.os 0) (by omega) (by omega))) ?_
       refine s_nil ⟨(H.pk [1]), ?_⟩
       refine t_l rfl ?_
       refine t_ost (k := 0) (i := k) (l := l) (l' := l.set (Int.toNat k) (l.getD (Int.toNat (k + 1)) default)) (val := .agg #[I ((l.getD (Int.toNat (k + 1)) default).spring), I ((l.getD (Int.toNat (k + 1)) default).town)]) (L' := [cOwn (α := Dem) 62 aa (l.set (Int.toNat k) (l.getD (Int.toNat (k + 1)) default)), cMem encDm al B_mem (zaa ab ac ae ah ai aj ak)]) H rfl Sz62 (by omega) (by omega) (l.getD (Int.toNat (k + 1)) default) rfl rfl rfl rfl rfl ?_
       intro d3 H
       refine s_nil ⟨(H.pk [1]), ?_⟩
       refine t_l rfl ?_
       refine s_val (x_ix (a := aa) (b := I (k + 1)) (v := vat aa 2 (Int.toNat (k + 1))) rfl rfl (Sl.ix (α := Dem) T57.und T57.size (H.os 0) (by omega) (by omega))) ?_
       refine s_nil ⟨(H.pk [1]), ?_⟩
       refine t_l rfl ?_
       refine t_ost (k := 0) (i := k + 1) (l := l.set (Int.toNat k) (l.getD (Int.toNat (k + 1)) default)) (l' := (l.set (Int.toNat k) (l.getD (Int.toNat (k + 1)) default)).set (Int.toNat (k + 1)) (l.getD (Int.toNat k) default)) (val := .agg #[I ((l.getD (Int.toNat k) default).spring), I ((l.getD (Int.toNat k) default).town)]) (L' := [cOwn (α := Dem) 62 aa ((l.set (Int.toNat k) (l.getD (Int.toNat (k + 1)) default)).set (Int.toNat (k + 1)) (l.getD (Int.toNat k) default)), cMem encDm al B_mem (zaa ab ac ae ah ai aj ak)]) H rfl Sz62 (by omega) (by omega) (l.getD (Int.toNat k) default) rfl rfl rfl rfl rfl ?_
       intro d4 H
       refine s_nil ⟨(H.pk [1]), ?_⟩
       refine t_nil ?_
       refine W.region rfl ?_
       refine zM (I k) rfl ?_
       refine zR k 1 (k + 1) rfl rfl rfl (by omega) ?_
       refine zA (I (k + 1)) rfl ?_
       refine s_nil ?_
       exact ⟨bc, bf, (l.set (Int.toNat k) (l.getD (Int.toNat (k + 1)) default)).set (Int.toNat (k + 1)) (l.getD (Int.toNat k) default), k + 1, _, upds_of _ _ ⟨rfl, rfl, rfl, trivial⟩, M.e_inl hM a8, H⟩
      skip
      refine s_val (x_ix (a := aa) (b := I k) (v := vat aa 2 (Int.toNat k)) rfl rfl (Sl.ix (α := Dem) T57.und T57.size (H.os 0) (by omega) (by omega))) ?_
      have d5 := Sl.cells (H.os 0)
      have d6 := Sl.oc (H.os 0)
      refine s_nil ⟨(H.pk [1]), ?_⟩
      refine t_l2 rfl rfl ?_ ?_
      ·skip
       refine s_val (x_ix (a := aa) (b := I (k + 1)) (v := vat aa 2 (Int.toNat (k + 1))) rfl rfl (Sl.ix (α := Dem) T57.und T57.size (H.os 0) (by omega) (by omega))) ?_
       refine s_nil ⟨(H.pk [1]), ?_⟩
       refine t_l2 rfl rfl ?_ ?_
       ·skip
        refine s_val (x_ld (p := vat aa 2 (Int.toNat (k + 1))) (v := .agg #[I ((l.getD (Int.toNat (k + 1)) default).spring), I ((l.getD (Int.toNat (k + 1)) default).town)]) rfl (ld_ag Ag62 Sz62 (At.mono (Dem_atA (H.os 0) (i := k + 1) (by omega) (by omega)) (H.ol 0)))) ?_
        refine s_nil ⟨(H.pk [1]), ?_⟩
        refine t_l rfl ?_
        refine s_val (x_ld (p := vat aa 2 (Int.toNat k)) (v := .agg #[I ((l.getD (Int.toNat k) default).spring), I ((l.getD (Int.toNat k) default).town)]) rfl (ld_ag Ag62 Sz62 (At.mono (Dem_atA (H.os 0) (i := k) (by omega) (by omega)) (H.ol 0)))) ?_
        refine s_nil ⟨(H.pk [1]), ?_⟩
        refine t_l rfl ?_
        refine s_val (x_ix (a := aa) (b := I k) (v := vat aa 2 (Int.toNat k)) rfl rfl (Sl.ix (α := Dem) T57.und T57.size (H.os 0) (by omega) (by omega))) ?_
        refine s_nil ⟨(H.pk [1]), ?_⟩
        refine t_l rfl ?_
        refine t_ost (k := 0) (i := k) (l := l) (l' := l.set (Int.toNat k) (l.getD (Int.toNat (k + 1)) default)) (val := .agg #[I ((l.getD (Int.toNat (k + 1)) default).spring), I ((l.getD (Int.toNat (k + 1)) default).town)]) (L' := [cOwn (α := Dem) 62 aa (l.set (Int.toNat k) (l.getD (Int.toNat (k + 1)) default)), cMem encDm al B_mem (zaa ab ac ae ah ai aj ak)]) H rfl Sz62 (by omega) (by omega) (l.getD (Int.toNat (k + 1)) default) rfl rfl rfl rfl rfl ?_
        intro d7 H
        refine s_nil ⟨(H.pk [1]), ?_⟩
        refine t_l rfl ?_
        refine s_val (x_ix (a := aa) (b := I (k + 1)) (v := vat aa 2 (Int.toNat (k + 1))) rfl rfl (Sl.ix (α := Dem) T57.und T57.size (H.os 0) (by omega) (by omega))) ?_
        refine s_nil ⟨(H.pk [1]), ?_⟩
        refine t_l rfl ?_
        refine t_ost (k := 0) (i := k + 1) (l := l.set (Int.toNat k) (l.getD (Int.toNat (k + 1)) default)) (l' := (l.set (Int.toNat k) (l.getD (Int.toNat (k + 1)) default)).set (Int.toNat (k + 1)) (l.getD (Int.toNat k) default)) (val := .agg #[I ((l.getD (Int.toNat k) default).spring), I ((l.getD (Int.toNat k) default).town)]) (L' := [cOwn (α := Dem) 62 aa ((l.set (Int.toNat k) (l.getD (Int.toNat (k + 1)) default)).set (Int.toNat (k + 1)) (l.getD (Int.toNat k) default)), cMem encDm al B_mem (zaa ab ac ae ah ai aj ak)]) H rfl Sz62 (by omega) (by omega) (l.getD (Int.toNat k) default) rfl rfl rfl rfl rfl ?_
        intro d8 H
        refine s_nil ⟨(H.pk [1]), ?_⟩
        refine t_nil ?_
        refine W.region rfl ?_
        refine zM (I k) rfl ?_
        refine zR k 1 (k + 1) rfl rfl rfl (by omega) ?_
        refine zA (I (k + 1)) rfl ?_
        refine s_nil ?_
        exact ⟨bc, bf, (l.set (Int.toNat k) (l.getD (Int.toNat (k + 1)) default)).set (Int.toNat (k + 1)) (l.getD (Int.toNat k) default), k + 1, _, upds_of _ _ ⟨rfl, rfl, rfl, trivial⟩, M.e_inl hM a8, H⟩
       skip
       refine s_val (x_ld (p := vat aa 2 (Int.toNat k)) (v := .agg #[I ((l.getD (Int.toNat k) default).spring), I ((l.getD (Int.toNat k) default).town)]) rfl (ld_ag Ag62 Sz62 (At.mono (Dem_atA (H.os 0) (i := k) (by omega) (by omega)) (H.ol 0)))) ?_
       refine s_nil ⟨(H.pk [1]), ?_⟩
       refine t_l rfl ?_
       refine s_val (x_ld (p := vat aa 2 (Int.toNat (k + 1))) (v := .agg #[I ((l.getD (Int.toNat (k + 1)) default).spring), I ((l.getD (Int.toNat (k + 1)) default).town)]) rfl (ld_ag Ag62 Sz62 (At.mono (Dem_atA (H.os 0) (i := k + 1) (by omega) (by omega)) (H.ol 0)))) ?_
       refine s_nil ⟨(H.pk [1]), ?_⟩
       refine t_l rfl ?_
       refine s_val (x_ix (a := aa) (b := I k) (v := vat aa 2 (Int.toNat k)) rfl rfl (Sl.ix (α := Dem) T57.und T57.size (H.os 0) (by omega) (by omega))) ?_
       refine s_nil ⟨(H.pk [1]), ?_⟩
       refine t_l rfl ?_
       refine t_ost (k := 0) (i := k) (l := l) (l' := l.set (Int.toNat k) (l.getD (Int.toNat (k + 1)) default)) (val := .agg #[I ((l.getD (Int.toNat (k + 1)) default).spring), I ((l.getD (Int.toNat (k + 1)) default).town)]) (L' := [cOwn (α := Dem) 62 aa (l.set (Int.toNat k) (l.getD (Int.toNat (k + 1)) default)), cMem encDm al B_mem (zaa ab ac ae ah ai aj ak)]) H rfl Sz62 (by omega) (by omega) (l.getD (Int.toNat (k + 1)) default) rfl rfl rfl rfl rfl ?_
       intro d9 H
       refine s_nil ⟨(H.pk [1]), ?_⟩
       refine t_l rfl ?_
       refine s_val (x_ix (a := aa) (b := I (k + 1)) (v := vat aa 2 (Int.toNat (k + 1))) rfl rfl (Sl.ix (α := Dem) T57.und T57.size (H.os 0) (by omega) (by omega))) ?_
       refine s_nil ⟨(H.pk [1]), ?_⟩
       refine t_l rfl ?_
       refine t_ost (k := 0) (i := k + 1) (l := l.set (Int.toNat k) (l.getD (Int.toNat (k + 1)) default)) (l' := (l.set (Int.toNat k) (l.getD (Int.toNat (k + 1)) default)).set (Int.toNat (k + 1)) (l.getD (Int.toNat k) default)) (val := .agg #[I ((l.getD (Int.toNat k) default).spring), I ((l.getD (Int.toNat k) default).town)]) (L' := [cOwn (α := Dem) 62 aa ((l.set (Int.toNat k) (l.getD (Int.toNat (k + 1)) default)).set (Int.toNat (k + 1)) (l.getD (Int.toNat k) default)), cMem encDm al B_mem (zaa ab ac ae ah ai aj ak)]) H rfl Sz62 (by omega) (by omega) (l.getD (Int.toNat k) default) rfl rfl rfl rfl rfl ?_
       intro ea H
       refine s_nil ⟨(H.pk [1]), ?_⟩
       refine t_nil ?_
       refine W.region rfl ?_
       refine zM (I k) rfl ?_
       refine zR k 1 (k + 1) rfl rfl rfl (by omega) ?_
       refine zA (I (k + 1)) rfl ?_
       refine s_nil ?_
       exact ⟨bc, bf, (l.set (Int.toNat k) (l.getD (Int.toNat (k + 1)) default)).set (Int.toNat (k + 1)) (l.getD (Int.toNat k) default), k + 1, _, upds_of _ _ ⟨rfl, rfl, rfl, trivial⟩, M.e_inl hM a8, H⟩
      skip
      refine s_val (x_ld (p := vat aa 2 (Int.toNat k)) (v := .agg #[I ((l.getD (Int.toNat k) default).spring), I ((l.getD (Int.toNat k) default).town)]) rfl (ld_ag Ag62 Sz62 (At.mono (Dem_atA (H.os 0) (i := k) (by omega) (by omega)) (H.ol 0)))) ?_
      refine s_nil ⟨(H.pk [1]), ?_⟩
      refine t_l rfl ?_
      refine s_val (x_ix (a := aa) (b := I (k + 1)) (v := vat aa 2 (Int.toNat (k + 1))) rfl rfl (Sl.ix (α := Dem) T57.und T57.size (H.os 0) (by omega) (by omega))) ?_
      refine s_nil ⟨(H.pk [1]), ?_⟩
      refine t_l rfl ?_
      refine s_val (x_ld (p := vat aa 2 (Int.toNat (k + 1))) (v := .agg #[I ((l.getD (Int.toNat (k + 1)) default).spring), I ((l.getD (Int.toNat (k + 1)) default).town)]) rfl (ld_ag Ag62 Sz62 (At.mono (Dem_atA (H.os 0) (i := k + 1) (by omega) (by omega)) (H.ol 0)))) ?_
      refine s_nil ⟨(H.pk [1]), ?_⟩
      refine t_l rfl ?_
      refine s_val (x_ix (a := aa) (b := I k) (v := vat aa 2 (Int.toNat k)) rfl rfl (Sl.ix (α := Dem) T57.und T57.size (H.os 0) (by omega) (by omega))) ?_
      refine s_nil ⟨(H.pk [1]), ?_⟩
      refine t_l rfl ?_
      refine t_ost (k := 0) (i := k) (l := l) (l' := l.set (Int.toNat k) (l.getD (Int.toNat (k + 1)) default)) (val := .agg #[I ((l.getD (Int.toNat (k + 1)) default).spring), I ((l.getD (Int.toNat (k + 1)) default).town)]) (L' := [cOwn (α := Dem) 62 aa (l.set (Int.toNat k) (l.getD (Int.toNat (k + 1)) default)), cMem encDm al B_mem (zaa ab ac ae ah ai aj ak)]) H rfl Sz62 (by omega) (by omega) (l.getD (Int.toNat (k + 1)) default) rfl rfl rfl rfl rfl ?_
      intro eb H
      refine s_nil ⟨(H.pk [1]), ?_⟩
      refine t_l rfl ?_
      refine s_val (x_ix (a := aa) (b := I (k + 1)) (v := vat aa 2 (Int.toNat (k + 1))) rfl rfl (Sl.ix (α := Dem) T57.und T57.size (H.os 0) (by omega) (by omega))) ?_
      refine s_nil ⟨(H.pk [1]), ?_⟩
      refine t_l rfl ?_
      refine t_ost (k := 0) (i := k + 1) (l := l.set (Int.toNat k) (l.getD (Int.toNat (k + 1)) default)) (l' := (l.set (Int.toNat k) (l.getD (Int.toNat (k + 1)) default)).set (Int.toNat (k + 1)) (l.getD (Int.toNat k) default)) (val := .agg #[I ((l.getD (Int.toNat k) default).spring), I ((l.getD (Int.toNat k) default).town)]) (L' := [cOwn (α := Dem) 62 aa ((l.set (Int.toNat k) (l.getD (Int.toNat (k + 1)) default)).set (Int.toNat (k + 1)) (l.getD (Int.toNat k) default)), cMem encDm al B_mem (zaa ab ac ae ah ai aj ak)]) H rfl Sz62 (by omega) (by omega) (l.getD (Int.toNat k) default) rfl rfl rfl rfl rfl ?_
      intro ec H
      refine s_nil ⟨(H.pk [1]), ?_⟩
      refine t_nil ?_
      refine W.region rfl ?_
      refine zM (I k) rfl ?_
      refine zR k 1 (k + 1) rfl rfl rfl (by omega) ?_
      refine zA (I (k + 1)) rfl ?_
      refine s_nil ?_
      exact ⟨bc, bf, (l.set (Int.toNat k) (l.getD (Int.toNat (k + 1)) default)).set (Int.toNat (k + 1)) (l.getD (Int.toNat k) default), k + 1, _, upds_of _ _ ⟨rfl, rfl, rfl, trivial⟩, M.e_inl hM a8, H⟩
     replace hM := M.e_f hM bn
     simp only [qy1, qy2, qy3, qy4, qy5, qy6, ne_eq, qy7] at bn
     refine W.exit ?_
     have cO := M.e_inr hM a8
     subst cO
     replace hM := cI
     try dsimp only at hM
     refine W.ret ?_
     have ba := M.e_pure hM
     exact ⟨_, resE_tmp0 rfl, ⟨l, B_mem, ba, rfl, H⟩⟩
    replace hM := M.e_f hM bi
    simp only [qy1, qy2, qy3, qy4, qy5, qy6, ne_eq, qy7] at bi
    refine W.skip ?_
    refine W.seq ?_
    refine W.seq ?_
    refine W.region rfl ?_
    refine zM (I b) rfl ?_
    refine zM (I m_) rfl ?_
    obtain ⟨cP, hM⟩ := M.e_grd hM
    simp only [Bool.and_eq_true, decide_eq_true_eq] at cP
    refine zR b m_ (b - m_) rfl rfl rfl (by omega) ?_
    refine zC (b - m_) 1 ((b - m_) == 1) rfl rfl rfl ?_
    refine s_nil ?_
    refine W.cond ((b - m_) == 1) rfl (fun bo => ?_) (fun bo => ?_)
    ·replace hM := M.e_t hM bo
     simp only [qy1, qy2, qy3, qy4, qy5, qy6, ne_eq, qy7] at bo
     refine W.seq ?_
     refine W.region rfl ?_
     refine zM (I a) rfl ?_
     refine zA (I a) rfl ?_
     refine s_nil ?_
     refine W.seq ?_
     refine W.region rfl ?_
     refine zM (I m_) rfl ?_
     refine zA (I m_) rfl ?_
     refine s_nil ?_
     refine W.seq ?_
     refine W.block ?_
     obtain ⟨cQ, bY, cR⟩ := M.e_bind hM
     obtain ⟨bT, bY⟩ := M.e_iter bY
     refine W.loop (fun m σ W => ∃ (i3 : Int) (j2 : Int) (B_mem2 : Base) (ρ : Env), σ = upds ρ [(0, aa), (2, I m_), (4, .func (.func 71) #[] #[Pq am]), (14, I i3), (15, I j2)] /\ M.iterN (za3 data m_ ab ac ae ah ai aj ak aq au av aw ax ay az) m (i3, j2) = some cQ /\ St w W [cOwn (α := Dem) 62 aa data, cMem encDm al B_mem2 (zaa ab ac ae ah ai aj ak)] R) ?_ ?_
     ·exact ⟨_, a, m_, B_b_cmp2020207, _, upds_of _ _ ⟨rfl, rfl, rfl, rfl, rfl, trivial⟩, bY, H⟩
     rintro ed σ ee ⟨i3, j2, B_mem2, ρ, rfl, ch, H⟩
     obtain ⟨ck, cl, ef, hM, bZ⟩ := M.e_iterN ch
     simp only [za3] at hM
     clear ch
     refine W.seq ?_
     refine W.seq ?_
     refine W.region rfl ?_
     refine zM (I i3) rfl ?_
     refine zM (I j2) rfl ?_
     refine zC i3 j2 (decide (i3 < j2)) rfl rfl rfl ?_
     refine s_nil ?_
     refine W.cond (decide (i3 < j2)) rfl (fun bp => ?_) (fun bp => ?_)
     ·replace hM := M.e_t hM bp
      simp only [qy1, qy2, qy3, qy4, qy5, qy6, ne_eq, qy7] at bp
      refine W.skip ?_
      refine W.block ?_
      refine W.seq ?_
      refine W.region rfl ?_
      refine zM (I i3) rfl ?_
      refine zM (I j2) rfl ?_
      obtain ⟨cS, hM⟩ := M.e_grd hM
      simp only [Bool.and_eq_true, decide_eq_true_eq] at cS
      refine zR i3 j2 (i3 + j2) rfl rfl rfl (by omega) ?_
      obtain ⟨cT, hM⟩ := M.e_grd hM
      simp only [Bool.and_eq_true, decide_eq_true_eq] at cT
      refine s_val (x_convU (kd := .i64) (a := i3 + j2) Try.underlying3 Try.underlying126 rfl (by omega)) ?_
      refine s_val (x_ushr1 (a := i3 + j2) rfl rfl) ?_
      obtain ⟨cU, hM⟩ := M.e_grd hM
      simp only [Bool.and_eq_true, decide_eq_true_eq] at cU
      refine s_val (x_conv64 (kd := .u64) (a := (i3 + j2) / 2) Try.underlying126 Try.underlying3 rfl (by omega)) ?_
      refine zA (I ((i3 + j2) / 2)) rfl ?_
      refine s_nil ?_
      refine W.seq ?_
      refine W.draw (fun W => St w W [cOwn (α := Dem) 62 aa data] R) [(0, true), (1, true), (2, true), (3, true), (4, true), (5, true), (6, true), (7, true), (8, true), (9, false), (10, true), (11, true)] mixed (by decide +kernel) rfl ?_
      intro eg aA
      replace H := H.ext aA
      clear aA
      refine ⟨(H.pk [0]), ?_⟩
      refine d_q rfl (fun w' H => x_mv (v := .func (.func 71) #[] #[Pq am]) rfl) ?_
      refine d_q rfl (fun w' H => x_mv (v := aa) rfl) ?_
      refine d_q rfl (fun w' H => x_mv (v := I m_) rfl) ?_
      obtain ⟨cV, hM⟩ := M.e_grd hM
      simp only [Bool.and_eq_true, decide_eq_true_eq] at cV
      refine d_q rfl (fun w' H => x_ix (a := aa) (b := I m_) (v := vat aa 2 (Int.toNat m_)) rfl rfl (Sl.ix (α := Dem) T57.und T57.size (H.os 0) (by omega) (by omega))) ?_
      refine d_q rfl (fun w' H => x_ld (p := vat aa 2 (Int.toNat m_)) (v := .agg #[I ((data.getD (Int.toNat m_) default).spring), I ((data.getD (Int.toNat m_) default).town)]) rfl (ld_ag Ag62 Sz62 (At.mono (Dem_atA (H.os 0) (i := m_) (by omega) (by omega)) (H.ol 0)))) ?_
      refine d_q rfl (fun w' H => x_mv (v := aa) rfl) ?_
      refine d_q rfl (fun w' H => x_mv (v := I ((i3 + j2) / 2)) rfl) ?_
      obtain ⟨cW, hM⟩ := M.e_grd hM
      simp only [Bool.and_eq_true, decide_eq_true_eq] at cW
      refine d_q rfl (fun w' H => x_ix (a := aa) (b := I ((i3 + j2) / 2)) (v := vat aa 2 (Int.toNat ((i3 + j2) / 2))) rfl rfl (Sl.ix (α := Dem) T57.und T57.size (H.os 0) (by omega) (by omega))) ?_
      refine d_q rfl (fun w' H => x_ld (p := vat aa 2 (Int.toNat ((i3 + j2) / 2))) (v := .agg #[I ((data.getD (Int.toNat ((i3 + j2) / 2)) default).spring), I ((data.getD (Int.toNat ((i3 + j2) / 2)) default).town)]) rfl (ld_ag Ag62 Sz62 (At.mono (Dem_atA (H.os 0) (i := (i3 + j2) / 2) (by omega) (by omega)) (H.ol 0)))) ?_
      refine d_l rfl ?_
      obtain ⟨eh, cX, hM⟩ := M.e_bind hM
      refine s_callv (f := 71) rfl cf71 [.agg #[I ((data.getD (Int.toNat m_) default).spring), I ((data.getD (Int.toNat m_) default).town)], .agg #[I ((data.getD (Int.toNat ((i3 + j2) / 2)) default).spring), I ((data.getD (Int.toNat ((i3 + j2) / 2)) default).town)]] rfl (zb5 (data.getD (Int.toNat m_) default) (data.getD (Int.toNat ((i3 + j2) / 2)) default) ab ac ae ah ai aj ak aq au av aw ax ay az (aB.app _) aC (aD.app _) aE (aF.app _) aG (aH.app _) aI (aJ.app _) aK (aL.app _) (aM.app _) (aN.app _) aO (aP.app _) aQ (aR.app _) aS (aT.app _) aU (aV.app _) aW (aX.app _) (aY.app _) (aZ.app _) cX _ ((H.pk [1, 0]).gt 1)) ?_
      rintro vq ei ⟨r3, cm, cY, hvq, ao⟩
      subst cY
      subst vq
      try dsimp only at hM
      replace H := H.pk [1, 0] |>.bk ao
      clear ao
      refine s_nil ⟨(H.pk [1]), ?_⟩
      refine d_q rfl (fun w' H => x_cmp (kd := .i64) (a := r3) (b := 0) (r := decide (r3 < 0)) rfl rfl rfl) ?_
      refine d_q rfl (fun w' H => x_not (b := decide (r3 < 0)) rfl) ?_
      refine d_nil ?_
      refine W.cond (!(decide (r3 < 0))) rfl (fun b4 => ?_) (fun b4 => ?_)
      ·replace hM := M.e_t hM b4
       refine W.region rfl ?_
       refine zM (I ((i3 + j2) / 2)) rfl ?_
       refine zR ((i3 + j2) / 2) 1 (((i3 + j2) / 2) + 1) rfl rfl rfl (by omega) ?_
       refine zA (I (((i3 + j2) / 2) + 1)) rfl ?_
       refine s_nil ?_
       exact ⟨ck, cl, ((i3 + j2) / 2) + 1, j2, cm, _, upds_of _ _ ⟨rfl, rfl, rfl, rfl, rfl, trivial⟩, M.e_inl hM bZ, (H.pk [1, 0])⟩
      replace hM := M.e_f hM b4
      refine W.region rfl ?_
      refine zM (I ((i3 + j2) / 2)) rfl ?_
      refine zA (I ((i3 + j2) / 2)) rfl ?_
      refine s_nil ?_
      exact ⟨ck, cl, i3, (i3 + j2) / 2, cm, _, upds_of _ _ ⟨rfl, rfl, rfl, rfl, rfl, trivial⟩, M.e_inl hM bZ, (H.pk [1, 0])⟩
     replace hM := M.e_f hM bp
     simp only [qy1, qy2, qy3, qy4, qy5, qy6, ne_eq, qy7] at bp
     refine W.exit ?_
     have cZ := M.e_inr hM bZ
     subst cZ
     replace hM := cR
     try dsimp only at hM
     refine W.seq ?_
     refine W.seq ?_
     refine W.region rfl ?_
     refine zM (I m_) rfl ?_
     refine zA (I m_) rfl ?_
     refine s_nil ?_
     refine W.block ?_
     obtain ⟨c0, b5, c6⟩ := M.e_bind hM
     obtain ⟨bT, b5⟩ := M.e_iter b5
     refine W.loop (fun m σ W => ∃ (l3 : List Dem) (k2 : Int) (ρ : Env), σ = upds ρ [(0, aa), (14, I i3), (17, I k2)] /\ M.iterN (zaH i3) m (l3, k2) = some c0 /\ St w W [cOwn (α := Dem) 62 aa l3, cMem encDm al B_mem2 (zaa ab ac ae ah ai aj ak)] R) ?_ ?_
     ·exact ⟨_, data, m_, _, upds_of _ _ ⟨rfl, rfl, rfl, trivial⟩, b5, H⟩
     rintro ej σ em ⟨l3, k2, ρ, rfl, cn, H⟩
     obtain ⟨bg, bh, en, hM, bb⟩ := M.e_iterN cn
     simp only [zaH] at hM
     clear cn
     refine W.seq ?_
     refine W.seq ?_
     refine W.region rfl ?_
     refine zM (I k2) rfl ?_
     refine zM (I i3) rfl ?_
     refine zC k2 i3 (decide (i3 < k2)) rfl rfl rfl ?_
     refine s_nil ?_
     refine W.cond (decide (i3 < k2)) rfl (fun bq => ?_) (fun bq => ?_)
     ·replace hM := M.e_t hM bq
      simp only [qy1, qy2, qy3, qy4, qy5, qy6, ne_eq, qy7] at bq
      refine W.skip ?_
      refine W.seq ?_
      refine W.block ?_
      refine W.drawT (fun W => St w W [cMem encDm al B_mem2 (zaa ab ac ae ah ai aj ak)] R) (.q 0 (.q 1 (.q 2 (.q 3 (.q 4 (.q 5 (.q 6 (.q 7 (.q 10 (.q 11 (.l2 8 (.l2 9 (.l 12 (.l 13 (.l 14 (.l 15 (.l 16 (.l 17 .nil)))))) 12 (.l2 9 (.l 13 (.l 14 (.l 15 (.l 16 (.l 17 .nil))))) 13 (.l 9 (.l 14 (.l 15 (.l 16 (.l 17 .nil))))))) 12 (.l2 8 (.l2 9 (.l 13 (.l 14 (.l 15 (.l 16 (.l 17 .nil))))) 13 (.l 9 (.l 14 (.l 15 (.l 16 (.l 17 .nil)))))) 13 (.l 8 (.l 9 (.l 14 (.l 15 (.l 16 (.l 17 .nil)))))))))))))))))) mixed (by decide +kernel) rfl ?_
      intro eo aA
      replace H := H.ext aA
      clear aA
      refine ⟨(H.pk [1]), ?_⟩
      refine t_q rfl (fun w' H => x_mv (v := aa) rfl) ?_
      refine t_q rfl (fun w' H => x_mv (v := I k2) rfl) ?_
      refine t_q rfl (fun w' H => x_mv (v := aa) rfl) ?_
      refine t_q rfl (fun w' H => x_mv (v := I k2) rfl) ?_
      obtain ⟨c7, hM⟩ := M.e_grd hM
      simp only [Bool.and_eq_true, decide_eq_true_eq] at c7
      refine t_q rfl (fun w' H => x_ari (a := k2) (b := 1) (r := k2 - 1) rfl rfl rfl (by omega)) ?_
      refine t_q rfl (fun w' H => x_mv (v := aa) rfl) ?_
      refine t_q rfl (fun w' H => x_mv (v := I k2) rfl) ?_
      refine t_q rfl (fun w' H => x_ari (a := k2) (b := 1) (r := k2 - 1) rfl rfl rfl (by omega)) ?_
      refine t_q rfl (fun w' H => x_mv (v := aa) rfl) ?_
      refine t_q rfl (fun w' H => x_mv (v := I k2) rfl) ?_
      obtain ⟨c8, hM⟩ := M.e_grd hM
      simp only [Bool.and_eq_true, decide_eq_true_eq] at c8
      obtain ⟨c9, hM⟩ := M.e_grd hM
      simp only [Bool.and_eq_true, decide_eq_true_eq] at c9
      obtain ⟨da, hM⟩ := M.e_grd hM
      simp only [Bool.and_eq_true, decide_eq_true_eq] at da
      refine t_l2 rfl rfl ?_ ?_
      ·skip
       refine s_val (x_ix (a := aa) (b := I (k2 - 1)) (v := vat aa 2 (Int.toNat (k2 - 1))) rfl rfl (Sl.ix (α := Dem) T57.und T57.size (H.os 0) (by omega) (by omega))) ?_
       have ep := Sl.cells (H.os 0)
       have eq := Sl.oc (H.os 0)
       refine s_nil ⟨(H.pk [1]), ?_⟩
       refine t_l2 rfl rfl ?_ ?_
       ·skip
        refine s_val (x_ld (p := vat aa 2 (Int.toNat (k2 - 1))) (v := .agg #[I ((l3.getD (Int.toNat (k2 - 1)) default).spring), I ((l3.getD (Int.toNat (k2 - 1)) default).town)]) rfl (ld_ag Ag62 Sz62 (At.mono (Dem_atA (H.os 0) (i := k2 - 1) (by omega) (by omega)) (H.ol 0)))) ?_
        refine s_nil ⟨(H.pk [1]), ?_⟩
        refine t_l rfl ?_
        refine s_val (x_ix (a := aa) (b := I k2) (v := vat aa 2 (Int.toNat k2)) rfl rfl (Sl.ix (α := Dem) T57.und T57.size (H.os 0) (by omega) (by omega))) ?_
        refine s_nil ⟨(H.pk [1]), ?_⟩
        refine t_l rfl ?_
        refine s_val (x_ld (p := vat aa 2 (Int.toNat k2)) (v := .agg #[I ((l3.getD (Int.toNat k2) default).spring), I ((l3.getD (Int.toNat k2) default).town)]) rfl (ld_ag Ag62 Sz62 (At.mono (Dem_atA (H.os 0) (i := k2) (by omega) (by omega)) (H.ol 0)))) ?_
        refine s_nil ⟨(H.pk [1]), ?_⟩
        refine t_l rfl ?_
        refine s_val (x_ix (a := aa) (b := I k2) (v := vat aa 2 (Int.toNat k2)) rfl rfl (Sl.ix (α := Dem) T57.und T57.size (H.os 0) (by omega) (by omega))) ?_
        refine s_nil ⟨(H.pk [1]), ?_⟩
        refine t_l rfl ?_
        refine t_ost (k := 0) (i := k2) (l := l3) (l' := l3.set (Int.toNat k2) (l3.getD (Int.toNat (k2 - 1)) default)) (val := .agg #[I ((l3.getD (Int.toNat (k2 - 1)) default).spring), I ((l3.getD (Int.toNat (k2 - 1)) default).town)]) (L' := [cOwn (α := Dem) 62 aa (l3.set (Int.toNat k2) (l3.getD (Int.toNat (k2 - 1)) default)), cMem encDm al B_mem2 (zaa ab ac ae ah ai aj ak)]) H rfl Sz62 (by omega) (by omega) (l3.getD (Int.toNat (k2 - 1)) default) rfl rfl rfl rfl rfl ?_
        intro er H
        refine s_nil ⟨(H.pk [1]), ?_⟩
        refine t_l rfl ?_
        refine s_val (x_ix (a := aa) (b := I (k2 - 1)) (v := vat aa 2 (Int.toNat (k2 - 1))) rfl rfl (Sl.ix (α := Dem) T57.und T57.size (H.os 0) (by omega) (by omega))) ?_
        refine s_nil ⟨(H.pk [1]), ?_⟩
        refine t_l rfl ?_
        refine t_ost (k := 0) (i := k2 - 1) (l := l3.set (Int.toNat k2) (l3.getD (Int.toNat (k2 - 1)) default)) (l' := (l3.set (Int.toNat k2) (l3.getD (Int.toNat (k2 - 1)) default)).set (Int.toNat (k2 - 1)) (l3.getD (Int.toNat k2) default)) (val := .agg #[I ((l3.getD (Int.toNat k2) default).spring), I ((l3.getD (Int.toNat k2) default).town)]) (L' := [cOwn (α := Dem) 62 aa ((l3.set (Int.toNat k2) (l3.getD (Int.toNat (k2 - 1)) default)).set (Int.toNat (k2 - 1)) (l3.getD (Int.toNat k2) default)), cMem encDm al B_mem2 (zaa ab ac ae ah ai aj ak)]) H rfl Sz62 (by omega) (by omega) (l3.getD (Int.toNat k2) default) rfl rfl rfl rfl rfl ?_
        intro eu H
        refine s_nil ⟨(H.pk [1]), ?_⟩
        refine t_nil ?_
        refine W.region rfl ?_
        refine zM (I k2) rfl ?_
        refine zR k2 1 (k2 - 1) rfl rfl rfl (by omega) ?_
        refine zA (I (k2 - 1)) rfl ?_
        refine s_nil ?_
        exact ⟨bg, bh, (l3.set (Int.toNat k2) (l3.getD (Int.toNat (k2 - 1)) default)).set (Int.toNat (k2 - 1)) (l3.getD (Int.toNat k2) default), k2 - 1, _, upds_of _ _ ⟨rfl, rfl, rfl, trivial⟩, M.e_inl hM bb, H⟩
       skip
       refine s_val (x_ix (a := aa) (b := I k2) (v := vat aa 2 (Int.toNat k2)) rfl rfl (Sl.ix (α := Dem) T57.und T57.size (H.os 0) (by omega) (by omega))) ?_
       refine s_nil ⟨(H.pk [1]), ?_⟩
       refine t_l2 rfl rfl ?_ ?_
       ·skip
        refine s_val (x_ld (p := vat aa 2 (Int.toNat (k2 - 1))) (v := .agg #[I ((l3.getD (Int.toNat (k2 - 1)) default).spring), I ((l3.getD (Int.toNat (k2 - 1)) default).town)]) rfl (ld_ag Ag62 Sz62 (At.mono (Dem_atA (H.os 0) (i := k2 - 1) (by omega) (by omega)) (H.ol 0)))) ?_
        refine s_nil ⟨(H.pk [1]), ?_⟩
        refine t_l rfl ?_
        refine s_val (x_ld (p := vat aa 2 (Int.toNat k2)) (v := .agg #[I ((l3.getD (Int.toNat k2) default).spring), I ((l3.getD (Int.toNat k2) default).town)]) rfl (ld_ag Ag62 Sz62 (At.mono (Dem_atA (H.os 0) (i := k2) (by omega) (by omega)) (H.ol 0)))) ?_
        refine s_nil ⟨(H.pk [1]), ?_⟩
        refine t_l rfl ?_
        refine s_val (x_ix (a := aa) (b := I k2) (v := vat aa 2 (Int.toNat k2)) rfl rfl (Sl.ix (α := Dem) T57.und T57.size (H.os 0) (by omega) (by omega))) ?_
        refine s_nil ⟨(H.pk [1]), ?_⟩
        refine t_l rfl ?_
        refine t_ost (k := 0) (i := k2) (l := l3) (l' := l3.set (Int.toNat k2) (l3.getD (Int.toNat (k2 - 1)) default)) (val := .agg #[I ((l3.getD (Int.toNat (k2 - 1)) default).spring), I ((l3.getD (Int.toNat (k2 - 1)) default).town)]) (L' := [cOwn (α := Dem) 62 aa (l3.set (Int.toNat k2) (l3.getD (Int.toNat (k2 - 1)) default)), cMem encDm al B_mem2 (zaa ab ac ae ah ai aj ak)]) H rfl Sz62 (by omega) (by omega) (l3.getD (Int.toNat (k2 - 1)) default) rfl rfl rfl rfl rfl ?_
        intro ew H
        refine s_nil ⟨(H.pk [1]), ?_⟩
        refine t_l rfl ?_
        refine s_val (x_ix (a := aa) (b := I (k2 - 1)) (v := vat aa 2 (Int.toNat (k2 - 1))) rfl rfl (Sl.ix (α := Dem) T57.und T57.size (H.os 0) (by omega) (by omega))) ?_
        refine s_nil ⟨(H.pk [1]), ?_⟩
        refine t_l rfl ?_
        refine t_ost (k := 0) (i := k2 - 1) (l := l3.set (Int.toNat k2) (l3.getD (Int.toNat (k2 - 1)) default)) (l' := (l3.set (Int.toNat k2) (l3.getD (Int.toNat (k2 - 1)) default)).set (Int.toNat (k2 - 1)) (l3.getD (Int.toNat k2) default)) (val := .agg #[I ((l3.getD (Int.toNat k2) default).spring), I ((l3.getD (Int.toNat k2) default).town)]) (L' := [cOwn (α := Dem) 62 aa ((l3.set (Int.toNat k2) (l3.getD (Int.toNat (k2 - 1)) default)).set (Int.toNat (k2 - 1)) (l3.getD (Int.toNat k2) default)), cMem encDm al B_mem2 (zaa ab ac ae ah ai aj ak)]) H rfl Sz62 (by omega) (by omega) (l3.getD (Int.toNat k2) default) rfl rfl rfl rfl rfl ?_
        intro ez H
        refine s_nil ⟨(H.pk [1]), ?_⟩
        refine t_nil ?_
        refine W.region rfl ?_
        refine zM (I k2) rfl ?_
        refine zR k2 1 (k2 - 1) rfl rfl rfl (by omega) ?_
        refine zA (I (k2 - 1)) rfl ?_
        refine s_nil ?_
        exact ⟨bg, bh, (l3.set (Int.toNat k2) (l3.getD (Int.toNat (k2 - 1)) default)).set (Int.toNat (k2 - 1)) (l3.getD (Int.toNat k2) default), k2 - 1, _, upds_of _ _ ⟨rfl, rfl, rfl, trivial⟩, M.e_inl hM bb, H⟩
       skip
       refine s_val (x_ld (p := vat aa 2 (Int.toNat k2)) (v := .agg #[I ((l3.getD (Int.toNat k2) default).spring), I ((l3.getD (Int.toNat k2) default).town)]) rfl (ld_ag Ag62 Sz62 (At.mono (Dem_atA (H.os 0) (i := k2) (by omega) (by omega)) (H.ol 0)))) ?_
       refine s_nil ⟨(H.pk [1]), ?_⟩
       refine t_l rfl ?_
       refine s_val (x_ld (p := vat aa 2 (Int.toNat (k2 - 1))) (v := .agg #[I ((l3.getD (Int.toNat (k2 - 1)) default).spring), I ((l3.getD (Int.toNat (k2 - 1)) default).town)]) rfl (ld_ag Ag62 Sz62 (At.mono (Dem_atA (H.os 0) (i := k2 - 1) (by omega) (by omega)) (H.ol 0)))) ?_
       refine s_nil ⟨(H.pk [1]), ?_⟩
       refine t_l rfl ?_
       refine s_val (x_ix (a := aa) (b := I k2) (v := vat aa 2 (Int.toNat k2)) rfl rfl (Sl.ix (α := Dem) T57.und T57.size (H.os 0) (by omega) (by omega))) ?_
       refine s_nil ⟨(H.pk [1]), ?_⟩
       refine t_l rfl ?_
       refine t_ost (k := 0) (i := k2) (l := l3) (l' := l3.set (Int.toNat k2) (l3.getD (Int.toNat (k2 - 1)) default)) (val := .agg #[I ((l3.getD (Int.toNat (k2 - 1)) default).spring), I ((l3.getD (Int.toNat (k2 - 1)) default).town)]) (L' := [cOwn (α := Dem) 62 aa (l3.set (Int.toNat k2) (l3.getD (Int.toNat (k2 - 1)) default)), cMem encDm al B_mem2 (zaa ab ac ae ah ai aj ak)]) H rfl Sz62 (by omega) (by omega) (l3.getD (Int.toNat (k2 - 1)) default) rfl rfl rfl rfl rfl ?_
       intro eA H
       refine s_nil ⟨(H.pk [1]), ?_⟩
       refine t_l rfl ?_
       refine s_val (x_ix (a := aa) (b := I (k2 - 1)) (v := vat aa 2 (Int.toNat (k2 - 1))) rfl rfl (Sl.ix (α := Dem) T57.und T57.size (H.os 0) (by omega) (by omega))) ?_
       refine s_nil ⟨(H.pk [1]), ?_⟩
       refine t_l rfl ?_
       refine t_ost (k := 0) (i := k2 - 1) (l := l3.set (Int.toNat k2) (l3.getD (Int.toNat (k2 - 1)) default)) (l' := (l3.set (Int.toNat k2) (l3.getD (Int.toNat (k2 - 1)) default)).set (Int.toNat (k2 - 1)) (l3.getD (Int.toNat k2) default)) (val := .agg #[I ((l3.getD (Int.toNat k2) default).spring), I ((l3.getD (Int.toNat k2) default).town)]) (L' := [cOwn (α := Dem) 62 aa ((l3.set (Int.toNat k2) (l3.getD (Int.toNat (k2 - 1)) default)).set (Int.toNat (k2 - 1)) (l3.getD (Int.toNat k2) default)), cMem encDm al B_mem2 (zaa ab ac ae ah ai aj ak)]) H rfl Sz62 (by omega) (by omega) (l3.getD (Int.toNat k2) default) rfl rfl rfl rfl rfl ?_
       intro eB H
       refine s_nil ⟨(H.pk [1]), ?_⟩
       refine t_nil ?_
       refine W.region rfl ?_
       refine zM (I k2) rfl ?_
       refine zR k2 1 (k2 - 1) rfl rfl rfl (by omega) ?_
       refine zA (I (k2 - 1)) rfl ?_
       refine s_nil ?_
       exact ⟨bg, bh, (l3.set (Int.toNat k2) (l3.getD (Int.toNat (k2 - 1)) default)).set (Int.toNat (k2 - 1)) (l3.getD (Int.toNat k2) default), k2 - 1, _, upds_of _ _ ⟨rfl, rfl, rfl, trivial⟩, M.e_inl hM bb, H⟩
      skip
      refine s_val (x_ix (a := aa) (b := I k2) (v := vat aa 2 (Int.toNat k2)) rfl rfl (Sl.ix (α := Dem) T57.und T57.size (H.os 0) (by omega) (by omega))) ?_
      have eC := Sl.cells (H.os 0)
      have eD := Sl.oc (H.os 0)
      refine s_nil ⟨(H.pk [1]), ?_⟩
      refine t_l2 rfl rfl ?_ ?_
      ·skip
       refine s_val (x_ix (a := aa) (b := I (k2 - 1)) (v := vat aa 2 (Int.toNat (k2 - 1))) rfl rfl (Sl.ix (α := Dem) T57.und T57.size (H.os 0) (by omega) (by omega))) ?_
       refine s_nil ⟨(H.pk [1]), ?_⟩
       refine t_l2 rfl rfl ?_ ?_
       ·skip
        refine s_val (x_ld (p := vat aa 2 (Int.toNat (k2 - 1))) (v := .agg #[I ((l3.getD (Int.toNat (k2 - 1)) default).spring), I ((l3.getD (Int.toNat (k2 - 1)) default).town)]) rfl (ld_ag Ag62 Sz62 (At.mono (Dem_atA (H.os 0) (i := k2 - 1) (by omega) (by omega)) (H.ol 0)))) ?_
        refine s_nil ⟨(H.pk [1]), ?_⟩
        refine t_l rfl ?_
        refine s_val (x_ld (p := vat aa 2 (Int.toNat k2)) (v := .agg #[I ((l3.getD (Int.toNat k2) default).spring), I ((l3.getD (Int.toNat k2) default).town)]) rfl (ld_ag Ag62 Sz62 (At.mono (Dem_atA (H.os 0) (i := k2) (by omega) (by omega)) (H.ol 0)))) ?_
        refine s_nil ⟨(H.pk [1]), ?_⟩
        refine t_l rfl ?_
        refine s_val (x_ix (a := aa) (b := I k2) (v := vat aa 2 (Int.toNat k2)) rfl rfl (Sl.ix (α := Dem) T57.und T57.size (H.os 0) (by omega) (by omega))) ?_
        refine s_nil ⟨(H.pk [1]), ?_⟩
        refine t_l rfl ?_
        refine t_ost (k := 0) (i := k2) (l := l3) (l' := l3.set (Int.toNat k2) (l3.getD (Int.toNat (k2 - 1)) default)) (val := .agg #[I ((l3.getD (Int.toNat (k2 - 1)) default).spring), I ((l3.getD (Int.toNat (k2 - 1)) default).town)]) (L' := [cOwn (α := Dem) 62 aa (l3.set (Int.toNat k2) (l3.getD (Int.toNat (k2 - 1)) default)), cMem encDm al B_mem2 (zaa ab ac ae ah ai aj ak)]) H rfl Sz62 (by omega) (by omega) (l3.getD (Int.toNat (k2 - 1)) default) rfl rfl rfl rfl rfl ?_
        intro eE H
        refine s_nil ⟨(H.pk [1]), ?_⟩
        refine t_l rfl ?_
        refine s_val (x_ix (a := aa) (b := I (k2 - 1)) (v := vat aa 2 (Int.toNat (k2 - 1))) rfl rfl (Sl.ix (α := Dem) T57.und T57.size (H.os 0) (by omega) (by omega))) ?_
        refine s_nil ⟨(H.pk [1]), ?_⟩
        refine t_l rfl ?_
        refine t_ost (k := 0) (i := k2 - 1) (l := l3.set (Int.toNat k2) (l3.getD (Int.toNat (k2 - 1)) default)) (l' := (l3.set (Int.toNat k2) (l3.getD (Int.toNat (k2 - 1)) default)).set (Int.toNat (k2 - 1)) (l3.getD (Int.toNat k2) default)) (val := .agg #[I ((l3.getD (Int.toNat k2) default).spring), I ((l3.getD (Int.toNat k2) default).town)]) (L' := [cOwn (α := Dem) 62 aa ((l3.set (Int.toNat k2) (l3.getD (Int.toNat (k2 - 1)) default)).set (Int.toNat (k2 - 1)) (l3.getD (Int.toNat k2) default)), cMem encDm al B_mem2 (zaa ab ac ae ah ai aj ak)]) H rfl Sz62 (by omega) (by omega) (l3.getD (Int.toNat k2) default) rfl rfl rfl rfl rfl ?_
        intro eF H
        refine s_nil ⟨(H.pk [1]), ?_⟩
        refine t_nil ?_
        refine W.region rfl ?_
        refine zM (I k2) rfl ?_
        refine zR k2 1 (k2 - 1) rfl rfl rfl (by omega) ?_
        refine zA (I (k2 - 1)) rfl ?_
        refine s_nil ?_
        exact ⟨bg, bh, (l3.set (Int.toNat k2) (l3.getD (Int.toNat (k2 - 1)) default)).set (Int.toNat (k2 - 1)) (l3.getD (Int.toNat k2) default), k2 - 1, _, upds_of _ _ ⟨rfl, rfl, rfl, trivial⟩, M.e_inl hM bb, H⟩
       skip
       refine s_val (x_ld (p := vat aa 2 (Int.toNat k2)) (v := .agg #[I ((l3.getD (Int.toNat k2) default).spring), I ((l3.getD (Int.toNat k2) default).town)]) rfl (ld_ag Ag62 Sz62 (At.mono (Dem_atA (H.os 0) (i := k2) (by omega) (by omega)) (H.ol 0)))) ?_
       refine s_nil ⟨(H.pk [1]), ?_⟩
       refine t_l rfl ?_
       refine s_val (x_ld (p := vat aa 2 (Int.toNat (k2 - 1))) (v := .agg #[I ((l3.getD (Int.toNat (k2 - 1)) default).spring), I ((l3.getD (Int.toNat (k2 - 1)) default).town)]) rfl (ld_ag Ag62 Sz62 (At.mono (Dem_atA (H.os 0) (i := k2 - 1) (by omega) (by omega)) (H.ol 0)))) ?_
       refine s_nil ⟨(H.pk [1]), ?_⟩
       refine t_l rfl ?_
       refine s_val (x_ix (a := aa) (b := I k2) (v := vat aa 2 (Int.toNat k2)) rfl rfl (Sl.ix (α := Dem) T57.und T57.size (H.os 0) (by omega) (by omega))) ?_
       refine s_nil ⟨(H.pk [1]), ?_⟩
       refine t_l rfl ?_
       refine t_ost (k := 0) (i := k2) (l := l3) (l' := l3.set (Int.toNat k2) (l3.getD (Int.toNat (k2 - 1)) default)) (val := .agg #[I ((l3.getD (Int.toNat (k2 - 1)) default).spring), I ((l3.getD (Int.toNat (k2 - 1)) default).town)]) (L' := [cOwn (α := Dem) 62 aa (l3.set (Int.toNat k2) (l3.getD (Int.toNat (k2 - 1)) default)), cMem encDm al B_mem2 (zaa ab ac ae ah ai aj ak)]) H rfl Sz62 (by omega) (by omega) (l3.getD (Int.toNat (k2 - 1)) default) rfl rfl rfl rfl rfl ?_
       intro eG H
       refine s_nil ⟨(H.pk [1]), ?_⟩
       refine t_l rfl ?_
       refine s_val (x_ix (a := aa) (b := I (k2 - 1)) (v := vat aa 2 (Int.toNat (k2 - 1))) rfl rfl (Sl.ix (α := Dem) T57.und T57.size (H.os 0) (by omega) (by omega))) ?_
       refine s_nil ⟨(H.pk [1]), ?_⟩
       refine t_l rfl ?_
       refine t_ost (k := 0) (i := k2 - 1) (l := l3.set (Int.toNat k2) (l3.getD (Int.toNat (k2 - 1)) default)) (l' := (l3.set (Int.toNat k2) (l3.getD (Int.toNat (k2 - 1)) default)).set (Int.toNat (k2 - 1)) (l3.getD (Int.toNat k2) default)) (val := .agg #[I ((l3.getD (Int.toNat k2) default).spring), I ((l3.getD (Int.toNat k2) default).town)]) (L' := [cOwn (α := Dem) 62 aa ((l3.set (Int.toNat k2) (l3.getD (Int.toNat (k2 - 1)) default)).set (Int.toNat (k2 - 1)) (l3.getD (Int.toNat k2) default)), cMem encDm al B_mem2 (zaa ab ac ae ah ai aj ak)]) H rfl Sz62 (by omega) (by omega) (l3.getD (Int.toNat k2) default) rfl rfl rfl rfl rfl ?_
       intro eH H
       refine s_nil ⟨(H.pk [1]), ?_⟩
       refine t_nil ?_
       refine W.region rfl ?_
       refine zM (I k2) rfl ?_
       refine zR k2 1 (k2 - 1) rfl rfl rfl (by omega) ?_
       refine zA (I (k2 - 1)) rfl ?_
       refine s_nil ?_
       exact ⟨bg, bh, (l3.set (Int.toNat k2) (l3.getD (Int.toNat (k2 - 1)) default)).set (Int.toNat (k2 - 1)) (l3.getD (Int.toNat k2) default), k2 - 1, _, upds_of _ _ ⟨rfl, rfl, rfl, trivial⟩, M.e_inl hM bb, H⟩
      skip
      refine s_val (x_ld (p := vat aa 2 (Int.toNat k2)) (v := .agg #[I ((l3.getD (Int.toNat k2) default).spring), I ((l3.getD (Int.toNat k2) default).town)]) rfl (ld_ag Ag62 Sz62 (At.mono (Dem_atA (H.os 0) (i := k2) (by omega) (by omega)) (H.ol 0)))) ?_
      refine s_nil ⟨(H.pk [1]), ?_⟩
      refine t_l rfl ?_
      refine s_val (x_ix (a := aa) (b := I (k2 - 1)) (v := vat aa 2 (Int.toNat (k2 - 1))) rfl rfl (Sl.ix (α := Dem) T57.und T57.size (H.os 0) (by omega) (by omega))) ?_
      refine s_nil ⟨(H.pk [1]), ?_⟩
      refine t_l rfl ?_
      refine s_val (x_ld (p := vat aa 2 (Int.toNat (k2 - 1))) (v := .agg #[I ((l3.getD (Int.toNat (k2 - 1)) default).spring), I ((l3.getD (Int.toNat (k2 - 1)) default).town)]) rfl (ld_ag Ag62 Sz62 (At.mono (Dem_atA (H.os 0) (i := k2 - 1) (by omega) (by omega)) (H.ol 0)))) ?_
      refine s_nil ⟨(H.pk [1]), ?_⟩
      refine t_l rfl ?_
      refine s_val (x_ix (a := aa) (b := I k2) (v := vat aa 2 (Int.toNat k2)) rfl rfl (Sl.ix (α := Dem) T57.und T57.size (H.os 0) (by omega) (by omega))) ?_
      refine s_nil ⟨(H.pk [1]), ?_⟩
      refine t_l rfl ?_
      refine t_ost (k := 0) (i := k2) (l := l3) (l' := l3.set (Int.toNat k2) (l3.getD (Int.toNat (k2 - 1)) default)) (val := .agg #[I ((l3.getD (Int.toNat (k2 - 1)) default).spring), I ((l3.getD (Int.toNat (k2 - 1)) default).town)]) (L' := [cOwn (α := Dem) 62 aa (l3.set (Int.toNat k2) (l3.getD (Int.toNat (k2 - 1)) default)), cMem encDm al B_mem2 (zaa ab ac ae ah ai aj ak)]) H rfl Sz62 (by omega) (by omega) (l3.getD (Int.toNat (k2 - 1)) default) rfl rfl rfl rfl rfl ?_
      intro eI H
      refine s_nil ⟨(H.pk [1]), ?_⟩
      refine t_l rfl ?_
      refine s_val (x_ix (a := aa) (b := I (k2 - 1)) (v := vat aa 2 (Int.toNat (k2 - 1))) rfl rfl (Sl.ix (α := Dem) T57.und T57.size (H.os 0) (by omega) (by omega))) ?_
      refine s_nil ⟨(H.pk [1]), ?_⟩
      refine t_l rfl ?_
      refine t_ost (k := 0) (i := k2 - 1) (l := l3.set (Int.toNat k2) (l3.getD (Int.toNat (k2 - 1)) default)) (l' := (l3.set (Int.toNat k2) (l3.getD (Int.toNat (k2 - 1)) default)).set (Int.toNat (k2 - 1)) (l3.getD (Int.toNat k2) default)) (val := .agg #[I ((l3.getD (Int.toNat k2) default).spring), I ((l3.getD (Int.toNat k2) default).town)]) (L' := [cOwn (α := Dem) 62 aa ((l3.set (Int.toNat k2) (l3.getD (Int.toNat (k2 - 1)) default)).set (Int.toNat (k2 - 1)) (l3.getD (Int.toNat k2) default)), cMem encDm al B_mem2 (zaa ab ac ae ah ai aj ak)]) H rfl Sz62 (by omega) (by omega) (l3.getD (Int.toNat k2) default) rfl rfl rfl rfl rfl ?_
      intro eJ H
      refine s_nil ⟨(H.pk [1]), ?_⟩
      refine t_nil ?_
      refine W.region rfl ?_
      refine zM (I k2) rfl ?_
      refine zR k2 1 (k2 - 1) rfl rfl rfl (by omega) ?_
      refine zA (I (k2 - 1)) rfl ?_
      refine s_nil ?_
      exact ⟨bg, bh, (l3.set (Int.toNat k2) (l3.getD (Int.toNat (k2 - 1)) default)).set (Int.toNat (k2 - 1)) (l3.getD (Int.toNat k2) default), k2 - 1, _, upds_of _ _ ⟨rfl, rfl, rfl, trivial⟩, M.e_inl hM bb, H⟩
     replace hM := M.e_f hM bq
     simp only [qy1, qy2, qy3, qy4, qy5, qy6, ne_eq, qy7] at bq
     refine W.exit ?_
     have db := M.e_inr hM bb
     subst db
     replace hM := c6
     try dsimp only at hM
     refine W.ret ?_
     have ba := M.e_pure hM
     exact ⟨_, resE_tmp0 rfl, ⟨l3, B_mem2, ba, rfl, H⟩⟩
    replace hM := M.e_f hM bo
    simp only [qy1, qy2, qy3, qy4, qy5, qy6, ne_eq, qy7] at bo
    refine W.skip ?_
    refine W.seq ?_
    refine W.region rfl ?_
    refine zM (I a) rfl ?_
    refine zM (I b) rfl ?_
    obtain ⟨dc, hM⟩ := M.e_grd hM
    simp only [Bool.and_eq_true, decide_eq_true_eq] at dc
    refine zR a b (a + b) rfl rfl rfl (by omega) ?_
    obtain ⟨dd, hM⟩ := M.e_grd hM
    simp only [Bool.and_eq_true, decide_eq_true_eq] at dd
    refine s_val (x_convU (kd := .i64) (a := a + b) Try.underlying3 Try.underlying126 rfl (by omega)) ?_
    refine s_val (x_ushr1 (a := a + b) rfl rfl) ?_
    obtain ⟨de, hM⟩ := M.e_grd hM
    simp only [Bool.and_eq_true, decide_eq_true_eq] at de
    refine s_val (x_conv64 (kd := .u64) (a := (a + b) / 2) Try.underlying126 Try.underlying3 rfl (by omega)) ?_
    refine zA (I ((a + b) / 2)) rfl ?_
    refine s_nil ?_
    refine W.seq ?_
    refine W.region rfl ?_
    refine zM (I ((a + b) / 2)) rfl ?_
    refine zM (I m_) rfl ?_
    obtain ⟨dg, hM⟩ := M.e_grd hM
    simp only [Bool.and_eq_true, decide_eq_true_eq] at dg
    refine zR ((a + b) / 2) m_ (((a + b) / 2) + m_) rfl rfl rfl (by omega) ?_
    refine zA (I (((a + b) / 2) + m_)) rfl ?_
    refine s_nil ?_
    refine W.seq ?_
    refine W.region rfl ?_
    refine zA (I 0) rfl ?_
    refine zA (I 0) rfl ?_
    refine s_nil ?_
    refine W.seqJ (fun σ W => ∃ (start : Int) (r4 : Int) (ρ : Env), σ = upds ρ [(0, aa), (1, I a), (2, I m_), (3, I b), (4, .func (.func 71) #[] #[Pq am]), (18, I ((a + b) / 2)), (19, I (((a + b) / 2) + m_)), (20, I start), (21, I r4)] /\ (zaw data a m_ b ab ac ae ah ai aj ak aq au av aw ax ay az (M.fixN zal n_) start r4).Ends r /\ St w W [cOwn (α := Dem) 62 aa data, cMem encDm al B_b_cmp2020207 (zaa ab ac ae ah ai aj ak)] R) ?_ ?_
    ·skip
     refine W.seq ?_
     refine W.region rfl ?_
     refine zM (I m_) rfl ?_
     refine zM (I ((a + b) / 2)) rfl ?_
     refine zC m_ ((a + b) / 2) (decide (((a + b) / 2) < m_)) rfl rfl rfl ?_
     refine s_nil ?_
     refine W.cond (decide (((a + b) / 2) < m_)) rfl (fun br => ?_) (fun br => ?_)
     ·replace hM := M.e_t hM br
      simp only [qy1, qy2, qy3, qy4, qy5, qy6, ne_eq, qy7] at br
      refine W.seq ?_
      refine W.region rfl ?_
      refine zM (I (((a + b) / 2) + m_)) rfl ?_
      refine zM (I b) rfl ?_
      obtain ⟨di, hM⟩ := M.e_grd hM
      simp only [Bool.and_eq_true, decide_eq_true_eq] at di
      refine zR (((a + b) / 2) + m_) b ((((a + b) / 2) + m_) - b) rfl rfl rfl (by omega) ?_
      refine zA (I ((((a + b) / 2) + m_) - b)) rfl ?_
      refine s_nil ?_
      refine W.region rfl ?_
      refine zM (I ((a + b) / 2)) rfl ?_
      refine zA (I ((a + b) / 2)) rfl ?_
      refine s_nil ?_
      exact ⟨(((a + b) / 2) + m_) - b, (a + b) / 2, _, upds_of _ _ ⟨rfl, rfl, rfl, rfl, rfl, rfl, rfl, rfl, rfl, trivial⟩, hM, H⟩
     replace hM := M.e_f hM br
     simp only [qy1, qy2, qy3, qy4, qy5, qy6, ne_eq, qy7] at br
     refine W.seq ?_
     refine W.region rfl ?_
     refine zM (I a) rfl ?_
     refine zA (I a) rfl ?_
     refine s_nil ?_
     refine W.region rfl ?_
     refine zM (I m_) rfl ?_
     refine zA (I m_) rfl ?_
     refine s_nil ?_
     exact ⟨a, m_, _, upds_of _ _ ⟨rfl, rfl, rfl, rfl, rfl, rfl, rfl, rfl, rfl, trivial⟩, hM, H⟩
    rintro _ eK ⟨start, r4, ρ, rfl, hM, H⟩
    unfold zaw at hM
    refine W.seq ?_
    refine W.region rfl ?_
    refine zM (I (((a + b) / 2) + m_)) rfl ?_
    obtain ⟨dk, hM⟩ := M.e_grd hM
    simp only [Bool.and_eq_true, decide_eq_true_eq] at dk
    refine zR (((a + b) / 2) + m_) 1 ((((a + b) / 2) + m_) - 1) rfl rfl rfl (by omega) ?_
    refine zA (I ((((a + b) / 2) + m_) - 1)) rfl ?_
    refine s_nil ?_
    refine W.seq ?_
    refine W.block ?_
    obtain ⟨dm, b6, dq⟩ := M.e_bind hM
    obtain ⟨bT, b6⟩ := M.e_iter b6
    refine W.loop (fun m σ W => ∃ (start2 : Int) (r6 : Int) (B_mem3 : Base) (ρ : Env), σ = upds ρ [(0, aa), (1, I a), (2, I m_), (3, I b), (4, .func (.func 71) #[] #[Pq am]), (18, I ((a + b) / 2)), (19, I (((a + b) / 2) + m_)), (20, I start2), (21, I r6), (22, I ((((a + b) / 2) + m_) - 1))] /\ M.iterN (za5 data a m_ b ab ac ae ah ai aj ak aq au av aw ax ay az) m (start2, r6) = some dm /\ St w W [cOwn (α := Dem) 62 aa data, cMem encDm al B_mem3 (zaa ab ac ae ah ai aj ak)] R) ?_ ?_
    ·exact ⟨_, start, r4, B_b_cmp2020207, _, upds_of _ _ ⟨rfl, rfl, rfl, rfl, rfl, rfl, rfl, rfl, rfl, rfl, trivial⟩, b6, H⟩
    rintro eL σ eM ⟨start2, r6, B_mem3, ρ, rfl, co, H⟩
    obtain ⟨cp, cq, eN, hM, b7⟩ := M.e_iterN co
    simp only [za5] at hM
    clear co
    refine W.seq ?_
    refine W.seq ?_
    refine W.region rfl ?_
    refine zM (I start2) rfl ?_
    refine zM (I r6) rfl ?_
    refine zC start2 r6 (decide (start2 < r6)) rfl rfl rfl ?_
    refine s_nil ?_
    refine W.cond (decide (start2 < r6)) rfl (fun bt => ?_) (fun bt => ?_)
    ·replace hM := M.e_t hM bt
     simp only [qy1, qy2, qy3, qy4, qy5, qy6, ne_eq, qy7] at bt
     refine W.skip ?_
     refine W.block ?_
     refine W.seq ?_
     refine W.region rfl ?_
     refine zM (I start2) rfl ?_
     refine zM (I r6) rfl ?_
     obtain ⟨dr, hM⟩ := M.e_grd hM
     simp only [Bool.and_eq_true, decide_eq_true_eq] at dr
     refine zR start2 r6 (start2 + r6) rfl rfl rfl (by omega) ?_
     obtain ⟨dt, hM⟩ := M.e_grd hM
     simp only [Bool.and_eq_true, decide_eq_true_eq] at dt
     refine s_val (x_convU (kd := .i64) (a := start2 + r6) Try.underlying3 Try.underlying126 rfl (by omega)) ?_
     refine s_val (x_ushr1 (a := start2 + r6) rfl rfl) ?_
     obtain ⟨du, hM⟩ := M.e_grd hM
     simp only [Bool.and_eq_true, decide_eq_true_eq] at du
     refine s_val (x_conv64 (kd := .u64) (a := (start2 + r6) / 2) Try.underlying126 Try.underlying3 rfl (by omega)) ?_
     refine zA (I ((start2 + r6) / 2)) rfl ?_
     refine s_nil ?_
     refine W.seq ?_
     refine W.draw (fun W => St w W [cOwn (α := Dem) 62 aa data] R) [(0, true), (1, true), (2, true), (3, true), (4, true), (5, true), (6, true), (7, true), (8, true), (9, true), (10, true), (11, false), (12, true), (13, true)] mixed (by decide +kernel) rfl ?_
     intro eO aA
     replace H := H.ext aA
     clear aA
     refine ⟨(H.pk [0]), ?_⟩
     refine d_q rfl (fun w' H => x_mv (v := .func (.func 71) #[] #[Pq am]) rfl) ?_
     refine d_q rfl (fun w' H => x_mv (v := aa) rfl) ?_
     refine d_q rfl (fun w' H => x_mv (v := I ((((a + b) / 2) + m_) - 1)) rfl) ?_
     refine d_q rfl (fun w' H => x_mv (v := I ((start2 + r6) / 2)) rfl) ?_
     obtain ⟨dv, hM⟩ := M.e_grd hM
     simp only [Bool.and_eq_true, decide_eq_true_eq] at dv
     refine d_q rfl (fun w' H => x_ari (a := (((a + b) / 2) + m_) - 1) (b := (start2 + r6) / 2) (r := ((((a + b) / 2) + m_) - 1) - ((start2 + r6) / 2)) rfl rfl rfl (by omega)) ?_
     obtain ⟨dw, hM⟩ := M.e_grd hM
     simp only [Bool.and_eq_true, decide_eq_true_eq] at dw
     refine d_q rfl (fun w' H => x_ix (a := aa) (b := I (((((a + b) / 2) + m_) - 1) - ((start2 + r6) / 2))) (v := vat aa 2 (Int.toNat (((((a + b) / 2) + m_) - 1) - ((start2 + r6) / 2)))) rfl rfl (Sl.ix (α := Dem) T57.und T57.size (H.os 0) (by omega) (by omega))) ?_
     refine d_q rfl (fun w' H => x_ld (p := vat aa 2 (Int.toNat (((((a + b) / 2) + m_) - 1) - ((start2 + r6) / 2)))) (v := .agg #[I ((data.getD (Int.toNat (((((a + b) / 2) + m_) - 1) - ((start2 + r6) / 2))) default).spring), I ((data.getD (Int.toNat (((((a + b) / 2) + m_) - 1) - ((start2 + r6) / 2))) default).town)]) rfl (ld_ag Ag62 Sz62 (At.mono (Dem_atA (H.os 0) (i := ((((a + b) / 2) + m_) - 1) - ((start2 + r6) / 2)) (by omega) (by omega)) (H.ol 0)))) ?_
     refine d_q rfl (fun w' H => x_mv (v := aa) rfl) ?_
     refine d_q rfl (fun w' H => x_mv (v := I ((start2 + r6) / 2)) rfl) ?_
     obtain ⟨dx, hM⟩ := M.e_grd hM
     simp only [Bool.and_eq_true, decide_eq_true_eq] at dx
     refine d_q rfl (fun w' H => x_ix (a := aa) (b := I ((start2 + r6) / 2)) (v := vat aa 2 (Int.toNat ((start2 + r6) / 2))) rfl rfl (Sl.ix (α := Dem) T57.und T57.size (H.os 0) (by omega) (by omega))) ?_
     refine d_q rfl (fun w' H => x_ld (p := vat aa 2 (Int.toNat ((start2 + r6) / 2))) (v := .agg #[I ((data.getD (Int.toNat ((start2 + r6) / 2)) default).spring), I ((data.getD (Int.toNat ((start2 + r6) / 2)) default).town)]) rfl (ld_ag Ag62 Sz62 (At.mono (Dem_atA (H.os 0) (i := (start2 + r6) / 2) (by omega) (by omega)) (H.ol 0)))) ?_
     refine d_l rfl ?_
     obtain ⟨eP, dy, hM⟩ := M.e_bind hM
     refine s_callv (f := 71) rfl cf71 [.agg #[I ((data.getD (Int.toNat (((((a + b) / 2) + m_) - 1) - ((start2 + r6) / 2))) default).spring), I ((data.getD (Int.toNat (((((a + b) / 2) + m_) - 1) - ((start2 + r6) / 2))) default).town)], .agg #[I ((data.getD (Int.toNat ((start2 + r6) / 2)) default).spring), I ((data.getD (Int.toNat ((start2 + r6) / 2)) default).town)]] rfl (zb5 (data.getD (Int.toNat (((((a + b) / 2) + m_) - 1) - ((start2 + r6) / 2))) default) (data.getD (Int.toNat ((start2 + r6) / 2)) default) ab ac ae ah ai aj ak aq au av aw ax ay az (aB.app _) aC (aD.app _) aE (aF.app _) aG (aH.app _) aI (aJ.app _) aK (aL.app _) (aM.app _) (aN.app _) aO (aP.app _) aQ (aR.app _) aS (aT.app _) aU (aV.app _) aW (aX.app _) (aY.app _) (aZ.app _) dy _ ((H.pk [1, 0]).gt 1)) ?_
     rintro vq eQ ⟨r5, ct, dz, hvq, ao⟩
     subst dz
     subst vq
     try dsimp only at hM
     replace H := H.pk [1, 0] |>.bk ao
     clear ao
     refine s_nil ⟨(H.pk [1]), ?_⟩
     refine d_q rfl (fun w' H => x_cmp (kd := .i64) (a := r5) (b := 0) (r := decide (r5 < 0)) rfl rfl rfl) ?_
     refine d_q rfl (fun w' H => x_not (b := decide (r5 < 0)) rfl) ?_
     refine d_nil ?_
     refine W.cond (!(decide (r5 < 0))) rfl (fun b8 => ?_) (fun b8 => ?_)
     ·replace hM := M.e_t hM b8
      refine W.region rfl ?_
      refine zM (I ((start2 + r6) / 2)) rfl ?_
      refine zR ((start2 + r6) / 2) 1 (((start2 + r6) / 2) + 1) rfl rfl rfl (by omega) ?_
      refine zA (I (((start2 + r6) / 2) + 1)) rfl ?_
      refine s_nil ?_
      exact ⟨cp, cq, ((start2 + r6) / 2) + 1, r6, ct, _, upds_of _ _ ⟨rfl, rfl, rfl, rfl, rfl, rfl, rfl, rfl, rfl, rfl, trivial⟩, M.e_inl hM b7, (H.pk [1, 0])⟩
     replace hM := M.e_f hM b8
     refine W.region rfl ?_
     refine zM (I ((start2 + r6) / 2)) rfl ?_
     refine zA (I ((start2 + r6) / 2)) rfl ?_
     refine s_nil ?_
     exact ⟨cp, cq, start2, (start2 + r6) / 2, ct, _, upds_of _ _ ⟨rfl, rfl, rfl, rfl, rfl, rfl, rfl, rfl, rfl, rfl, trivial⟩, M.e_inl hM b7, (H.pk [1, 0])⟩
    replace hM := M.e_f hM bt
    simp only [qy1, qy2, qy3, qy4, qy5, qy6, ne_eq, qy7] at bt
    refine W.exit ?_
    have dA := M.e_inr hM b7
    subst dA
    replace hM := dq
    try dsimp only at hM
    refine W.seq ?_
    refine W.region rfl ?_
    refine zM (I (((a + b) / 2) + m_)) rfl ?_
    refine zM (I start2) rfl ?_
    obtain ⟨dB, hM⟩ := M.e_grd hM
    simp only [Bool.and_eq_true, decide_eq_true_eq] at dB
    refine zR (((a + b) / 2) + m_) start2 ((((a + b) / 2) + m_) - start2) rfl rfl rfl (by omega) ?_
    refine zA (I ((((a + b) / 2) + m_) - start2)) rfl ?_
    refine s_nil ?_
    refine W.seqJ (fun σ W => ∃ (l5 : List Dem) (ρ : Env), σ = upds ρ [(0, aa), (1, I a), (3, I b), (4, .func (.func 71) #[] #[Pq am]), (18, I ((a + b) / 2)), (20, I start2), (24, I ((((a + b) / 2) + m_) - start2))] /\ (zay a m_ b ab ac ae ah ai aj ak aq au av aw ax ay az (M.fixN zal n_) start2 l5).Ends r /\ St w W [cOwn (α := Dem) 62 aa l5, cMem encDm al B_mem3 (zaa ab ac ae ah ai aj ak)] R) ?_ ?_
    ·skip
     refine W.seq ?_
     refine W.region rfl ?_
     refine zM (I start2) rfl ?_
     refine zM (I m_) rfl ?_
     refine zC start2 m_ (decide (start2 < m_)) rfl rfl rfl ?_
     refine zM (B (decide (start2 < m_))) rfl ?_
     refine g_val (decide (start2 < m_)) (gy_t rfl) (fun hg => x_mv (v := I m_) rfl) ?_
     refine g_val (decide (start2 < m_)) (gy_t rfl) (fun hg => x_mv (v := I ((((a + b) / 2) + m_) - start2)) rfl) ?_
     refine g_val (decide (start2 < m_)) (gy_t rfl) (fun hg => x_cmp (kd := .i64) (a := m_) (b := (((a + b) / 2) + m_) - start2) (r := decide (m_ < ((((a + b) / 2) + m_) - start2))) (gd_of (c := decide (start2 < m_)) hg (I m_)) (gd_of (c := decide (start2 < m_)) hg (I ((((a + b) / 2) + m_) - start2))) rfl) ?_
     refine s_val (x_pand (b := decide (start2 < m_)) (r := decide (m_ < ((((a + b) / 2) + m_) - start2))) rfl (fun hb => gd_of (c := decide (start2 < m_)) (by first | exact hb | (rw [hb]; rfl) | simp_all) (B (decide (m_ < ((((a + b) / 2) + m_) - start2))))) rfl) ?_
     refine s_nil ?_
     refine W.cond ((decide (start2 < m_)) && (decide (m_ < ((((a + b) / 2) + m_) - start2)))) rfl (fun b9 => ?_) (fun b9 => ?_)
     ·replace hM := M.e_t hM b9
      refine W.region rfl ?_
      refine zM aa rfl ?_
      refine zM (I start2) rfl ?_
      refine zM (I m_) rfl ?_
      refine zM (I ((((a + b) / 2) + m_) - start2)) rfl ?_
      refine zM (.func (.func 71) #[] #[Pq am]) rfl ?_
      obtain ⟨eR, dC, hM⟩ := M.e_bind hM
      refine s_call cf104 [aa, I start2, I m_, I ((((a + b) / 2) + m_) - start2), .func (.func 71) #[] #[Pq am]] rfl (zdk data start2 m_ ((((a + b) / 2) + m_) - start2) ab ac ae ah ai aj ak aq au av aw ax ay az (aB.app _) aC (aD.app _) aE (aF.app _) aG (aH.app _) aI (aJ.app _) aK (aL.app _) (aM.app _) (aN.app _) aO (aP.app _) aQ (aR.app _) aS (aT.app _) aU (aV.app _) aW (aX.app _) (aY.app _) (aZ.app _) dC _ (H.gt 1)) ?_
      rintro vq eS ⟨l_data, dD, hvq, ao⟩
      subst dD
      subst vq
      try dsimp only at hM
      replace H := H.bk ao
      clear ao
      refine s_nil ?_
      exact ⟨l_data, _, upds_of _ _ ⟨rfl, rfl, rfl, rfl, rfl, rfl, rfl, trivial⟩, hM, H⟩
     replace hM := M.e_f hM b9
     refine W.skip ?_
     exact ⟨data, _, upds_of _ _ ⟨rfl, rfl, rfl, rfl, rfl, rfl, rfl, trivial⟩, hM, H⟩
    rintro _ eT ⟨l5, ρ, rfl, hM, H⟩
    unfold zay at hM
    refine W.seqJ (fun σ W => ∃ (l6 : List Dem) (B_mem4 : Base) (ρ : Env), σ = upds ρ [(0, aa), (3, I b), (4, .func (.func 71) #[] #[Pq am]), (18, I ((a + b) / 2)), (24, I ((((a + b) / 2) + m_) - start2))] /\ (zaM a m_ b ab ac ae ah ai aj ak aq au av aw ax ay az (M.fixN zal n_) start2 l6).Ends r /\ St w W [cOwn (α := Dem) 62 aa l6, cMem encDm al B_mem4 (zaa ab ac ae ah ai aj ak)] R) ?_ ?_
    ·skip
     refine W.seq ?_
     refine W.region rfl ?_
     refine zM (I a) rfl ?_
     refine zM (I start2) rfl ?_
     refine zC a start2 (decide (a < start2)) rfl rfl rfl ?_
     refine zM (B (decide (a < start2))) rfl ?_
     refine g_val (decide (a < start2)) (gy_t rfl) (fun hg => x_mv (v := I start2) rfl) ?_
     refine g_val (decide (a < start2)) (gy_t rfl) (fun hg => x_mv (v := I ((a + b) / 2)) rfl) ?_
     refine g_val (decide (a < start2)) (gy_t rfl) (fun hg => x_cmp (kd := .i64) (a := start2) (b := (a + b) / 2) (r := decide (start2 < ((a + b) / 2))) (gd_of (c := decide (a < start2)) hg (I start2)) (gd_of (c := decide (a < start2)) hg (I ((a + b) / 2))) rfl) ?_
     refine s_val (x_pand (b := decide (a < start2)) (r := decide (start2 < ((a + b) / 2))) rfl (fun hb => gd_of (c := decide (a < start2)) (by first | exact hb | (rw [hb]; rfl) | simp_all) (B (decide (start2 < ((a + b) / 2))))) rfl) ?_
     refine s_nil ?_
     refine W.cond ((decide (a < start2)) && (decide (start2 < ((a + b) / 2)))) rfl (fun ca => ?_) (fun ca => ?_)
     ·replace hM := M.e_t hM ca
      refine W.region rfl ?_
      refine zM aa rfl ?_
      refine zM (I a) rfl ?_
      refine zM (I start2) rfl ?_
      refine zM (I ((a + b) / 2)) rfl ?_
      refine zM (.func (.func 71) #[] #[Pq am]) rfl ?_
      obtain ⟨eU, dE, hM⟩ := M.e_bind hM
      refine s_call cf92 [aa, I a, I start2, I ((a + b) / 2), .func (.func 71) #[] #[Pq am]] rfl (ih l5 a start2 ((a + b) / 2) ab ac ae ah ai aj ak aq au av aw ax ay az (aB.app _) aC (aD.app _) aE (aF.app _) aG (aH.app _) aI (aJ.app _) aK (aL.app _) (aM.app _) (aN.app _) aO (aP.app _) aQ (aR.app _) aS (aT.app _) aU (aV.app _) aW (aX.app _) (aY.app _) (aZ.app _) dE _ (H.gt 0)) ?_
      rintro vq eV ⟨l_data2, dF, dG, hvq, ao⟩
      subst dG
      subst vq
      try dsimp only at hM
      replace H := H.bk ao
      clear ao
      refine s_nil ?_
      exact ⟨l_data2, dF, _, upds_of _ _ ⟨rfl, rfl, rfl, rfl, rfl, trivial⟩, hM, H⟩
     replace hM := M.e_f hM ca
     refine W.skip ?_
     exact ⟨l5, B_mem3, _, upds_of _ _ ⟨rfl, rfl, rfl, rfl, rfl, trivial⟩, hM, H⟩
    rintro _ eW ⟨l6, B_mem4, ρ, rfl, hM, H⟩
    unfold zaM at hM
    refine W.seq ?_
    refine W.region rfl ?_
    refine zM (I ((a + b) / 2)) rfl ?_
    refine zM (I ((((a + b) / 2) + m_) - start2)) rfl ?_
    refine zC ((a + b) / 2) ((((a + b) / 2) + m_) - start2) (decide (((a + b) / 2) < ((((a + b) / 2) + m_) - start2))) rfl rfl rfl ?_
    refine zM (B (decide (((a + b) / 2) < ((((a + b) / 2) + m_) - start2)))) rfl ?_
    refine g_val (decide (((a + b) / 2) < ((((a + b) / 2) + m_) - start2))) (gy_t rfl) (fun hg => x_mv (v := I ((((a + b) / 2) + m_) - start2)) rfl) ?_
    refine g_val (decide (((a + b) / 2) < ((((a + b) / 2) + m_) - start2))) (gy_t rfl) (fun hg => x_mv (v := I b) rfl) ?_
    refine g_val (decide (((a + b) / 2) < ((((a + b) / 2) + m_) - start2))) (gy_t rfl) (fun hg => x_cmp (kd := .i64) (a := (((a + b) / 2) + m_) - start2) (b := b) (r := decide (((((a + b) / 2) + m_) - start2) < b)) (gd_of (c := decide (((a + b) / 2) < ((((a + b) / 2) + m_) - start2))) hg (I ((((a + b) / 2) + m_) - start2))) (gd_of (c := decide (((a + b) / 2) < ((((a + b) / 2) + m_) - start2))) hg (I b)) rfl) ?_
    refine s_val (x_pand (b := decide (((a + b) / 2) < ((((a + b) / 2) + m_) - start2))) (r := decide (((((a + b) / 2) + m_) - start2) < b)) rfl (fun hb => gd_of (c := decide (((a + b) / 2) < ((((a + b) / 2) + m_) - start2))) (by first | exact hb | (rw [hb]; rfl) | simp_all) (B (decide (((((a + b) / 2) + m_) - start2) < b)))) rfl) ?_
    refine s_nil ?_
    refine W.cond ((decide (((a + b) / 2) < ((((a + b) / 2) + m_) - start2))) && (decide (((((a + b) / 2) + m_) - start2) < b))) rfl (fun cb => ?_) (fun cb => ?_)
    ·replace hM := M.e_t hM cb
     refine W.region rfl ?_
     refine zM aa rfl ?_
     refine zM (I ((a + b) / 2)) rfl ?_
     refine zM (I ((((a + b) / 2) + m_) - start2)) rfl ?_
     refine zM (I b) rfl ?_
     refine zM (.func (.func 71) #[] #[Pq am]) rfl ?_
     obtain ⟨eX, dH, hM⟩ := M.e_bind hM
     refine s_call cf92 [aa, I ((a + b) / 2), I ((((a + b) / 2) + m_) - start2), I b, .func (.func 71) #[] #[Pq am]] rfl (ih l6 ((a + b) / 2) ((((a + b) / 2) + m_) - start2) b ab ac ae ah ai aj ak aq au av aw ax ay az (aB.app _) aC (aD.app _) aE (aF.app _) aG (aH.app _) aI (aJ.app _) aK (aL.app _) (aM.app _) (aN.app _) aO (aP.app _) aQ (aR.app _) aS (aT.app _) aU (aV.app _) aW (aX.app _) (aY.app _) (aZ.app _) dH _ (H.gt 0)) ?_
     rintro vq eY ⟨l_data3, dI, dJ, hvq, ao⟩
     subst dJ
     subst vq
     try dsimp only at hM
     replace H := H.bk ao
     clear ao
     refine s_nil ?_
     have ba := M.e_pure hM
     exact ⟨_, resE_tmp0 rfl, ⟨l_data3, dI, ba, rfl, H⟩⟩
    replace hM := M.e_f hM cb
    refine W.skip ?_
    have ba := M.e_pure hM
    exact ⟨_, resE_tmp0 rfl, ⟨l6, B_mem4, ba, rfl, H⟩⟩
theorem zcT {R : List Chunk} {ak : Value} {ay : Nat} {az : Nat} {aA : Nat} {aB : Cells} {aC : Value} {aD : Cells} {aE : Value} {aF : Cells} {aG : Value} {aH : Cells} {aI : Value} {aJ : Cells} {aK : Value} {al : Nat} {B_b_cmp2020207 : Base} {aL : Nat} {aM : Nat} {aN : Cells} {aO : Value} {aP : Cells} {aQ : Value} {aR : Cells} {aS : Value} {aT : Cells} {aU : Value} {aV : Cells} {aW : Value} {aX : Nat} (data : List Dem) (a : Int) (m_ : Int) (b : Int) (aa : List Int) (ab : List Span) (ac : List Int) (ae : List Town) (ah : Int) (ai : Int) (aj : List Flood) (am : List Int) (ao : List Span) (aq : List Int) (au : List Town) (av : Int) (aw : Int) (ax : List Flood) (aY : Reads R aB) (aZ : Sl aB aC aa) (a8 : Reads R aD) (ba : Sl aD aE ab) (bb : Reads R aF) (bc : Sl aF aG ac) (bf : Reads R aH) (bg : Sl aH aI ae) (bh : Reads R aJ) (bi : Sl aJ aK aj) (bj : Has R (cBlk aA [aC, aE, aG, aI, I ah, I ai, aK, .map (some al)] 86)) (bm : Has R (cBlk az [.func (.func 54) #[Pq aA] #[]] 106)) (bn : Reads R aN) (bo : Sl aN aO am) (bp : Reads R aP) (bq : Sl aP aQ ao) (br : Reads R aR) (bt : Sl aR aS aq) (bu : Reads R aT) (bv : Sl aT aU au) (bw : Reads R aV) (bx : Sl aV aW ax) (bz : Has R (cBlk aM [aO, aQ, aS, aU, I av, I aw, aW, .map (some aX)] 86)) (bA : Has R (cBlk aL [Pq aM] 72)) (bB : Has R (cBlk ay [.func (.func 69) #[] #[Pq az, Pq aL]] 114)) {r : (List Dem)} (hM : (zby data a m_ b aa ab ac ae ah ai aj am ao aq au av aw ax).Ends r) (w : World) (H : St w w [cOwn (α := Dem) 62 ak data, cMem encDm al B_b_cmp2020207 (zaa aa ab ac ae ah ai aj)] R) : Ret Try.prog 92 #[ak, I a, I m_, I b, .func (.func 71) #[] #[Pq ay]] w fun v w' => ∃ (y0 : List Dem) (bC : Base), y0 = r /\ v = .tuple #[] /\ St w w' [cOwn (α := Dem) 62 ak y0, cMem encDm al bC (zaa aa ab ac ae ah ai aj)] R := by
  obtain ⟨n_, hM⟩ := M.e_fix hM
  exact zdI n_ data a m_ b aa ab ac ae ah ai aj am ao aq au av aw ax aY aZ a8 ba bb bc bf bg bh bi bj bm bn bo bp bq br bt bu bv bw bx bz bA bB hM w H

def zbQ (n : Int) (aa : List Int) (ab : List Span) (ac : List Int) (ae : List Town) (ah : Int) (ai : Int) (aj : List Flood) (ak : List Int) (al : List Span) (am : List Int) (ao : List Town) (aq : Int) (au : Int) (av : List Flood) : ((List Dem) × Int × Int) -> M (((List Dem) × Int × Int) ⊕ ((List Dem) × Int × (List Dem))) := fun (l, a, b) =>
  bif decide (b <= n) then (
  M.bind (zbj l a b aa ab ac ae ah ai aj ak al am ao aq au av) fun l_data =>
  M.grd (decide ((-9223372036854775808 : Int) <= (b + 20)) && decide ((b + 20) <= (9223372036854775807 : Int))) <|
  M.pure (.inl (l_data, b, b + 20)))
  else (
  M.pure (.inr (l, a, l)))
def zb6 (n : Int) (aa : List Int) (ab : List Span) (ac : List Int) (ae : List Town) (ah : Int) (ai : Int) (aj : List Flood) (ak : List Int) (al : List Span) (am : List Int) (ao : List Town) (aq : Int) (au : Int) (av : List Flood) (blockSize : Int) : ((List Dem) × Int × Int) -> M (((List Dem) × Int × Int) ⊕ ((List Dem) × Int × (List Dem))) := fun (l4, a3, b2) =>
  bif decide (b2 <= n) then (
  M.grd (decide ((-9223372036854775808 : Int) <= (a3 + blockSize)) && decide ((a3 + blockSize) <= (9223372036854775807 : Int))) <|
  M.bind (zby l4 a3 (a3 + blockSize) b2 aa ab ac ae ah ai aj ak al am ao aq au av) fun l_data3 =>
  M.grd (decide ((-9223372036854775808 : Int) <= (b2 + (2 * blockSize))) && decide ((b2 + (2 * blockSize)) <= (9223372036854775807 : Int))) <|
  M.pure (.inl (l_data3, b2, b2 + (2 * blockSize))))
  else (
  M.pure (.inr (l4, a3, l4)))
def zcd (n : Int) (aa : List Int) (ab : List Span) (ac : List Int) (ae : List Town) (ah : Int) (ai : Int) (aj : List Flood) (ak : List Int) (al : List Span) (am : List Int) (ao : List Town) (aq : Int) (au : Int) (av : List Flood) : ((List Dem) × Int) -> M (((List Dem) × Int) ⊕ (List Dem)) := fun (l8, blockSize) =>
  bif decide (blockSize < n) then (
  M.grd (decide ((-9223372036854775808 : Int) <= (2 * blockSize)) && decide ((2 * blockSize) <= (9223372036854775807 : Int))) <|
  M.bind (M.iter (zb6 n aa ab ac ae ah ai aj ak al am ao aq au av blockSize) (l8, 0, 2 * blockSize)) fun (l5, a4, l6) =>
  M.grd (decide ((-9223372036854775808 : Int) <= (a4 + blockSize)) && decide ((a4 + blockSize) <= (9223372036854775807 : Int))) <|
  bif decide ((a4 + blockSize) < n) then (
  M.bind (zby l6 a4 (a4 + blockSize) n aa ab ac ae ah ai aj ak al am ao aq au av) fun l_data4 =>
  M.grd (decide ((-9223372036854775808 : Int) <= (blockSize * 2)) && decide ((blockSize * 2) <= (9223372036854775807 : Int))) <|
  M.pure (.inl (l_data4, blockSize * 2)))
  else (
  M.grd (decide ((-9223372036854775808 : Int) <= (blockSize * 2)) && decide ((blockSize * 2) <= (9223372036854775807 : Int))) <|
  M.pure (.inl (l6, blockSize * 2))))
  else (
  M.pure (.inr l8))
def zci (data : List Dem) (n : Int) (aa : List Int) (ab : List Span) (ac : List Int) (ae : List Town) (ah : Int) (ai : Int) (aj : List Flood) (ak : List Int) (al : List Span) (am : List Int) (ao : List Town) (aq : Int) (au : Int) (av : List Flood) : M (List Dem) :=
  M.bind (M.iter (zbQ n aa ab ac ae ah ai aj ak al am ao aq au av) (data, 0, 20)) fun (l2, a2, l3) =>
  M.bind (zbj l3 a2 n aa ab ac ae ah ai aj ak al am ao aq au av) fun l_data2 =>
  M.bind (M.iter (zcd n aa ab ac ae ah ai aj ak al am ao aq au av) (l_data2, 20)) fun l9 =>
  M.pure l9
theorem zdh {R : List Chunk} {aa : Value} {al : Nat} {bi : Nat} {bj : Nat} {bm : Cells} {bn : Value} {bo : Cells} {bp : Value} {bq : Cells} {br : Value} {bt : Cells} {bu : Value} {bv : Cells} {bw : Value} {az : Nat} {B_b_cmp2020207 : Base} {bx : Nat} {bz : Nat} {bA : Cells} {bB : Value} {bC : Cells} {bD : Value} {bE : Cells} {bF : Value} {bG : Cells} {bH : Value} {bI : Cells} {bJ : Value} {bS : Nat} (data : List Dem) (n : Int) (ab : List Int) (ac : List Span) (ae : List Int) (ah : List Town) (ai : Int) (aj : Int) (ak : List Flood) (ao : List Int) (aq : List Span) (au : List Int) (av : List Town) (aw : Int) (ax : Int) (ay : List Flood) (aE : Reads R bm) (aF : Sl bm bn ab) (aG : Reads R bo) (aH : Sl bo bp ac) (aI : Reads R bq) (aJ : Sl bq br ae) (aK : Reads R bt) (aL : Sl bt bu ah) (aM : Reads R bv) (aN : Sl bv bw ak) (aO : Has R (cBlk bj [bn, bp, br, bu, I ai, I aj, bw, .map (some az)] 86)) (aP : Has R (cBlk bi [.func (.func 54) #[Pq bj] #[]] 106)) (aQ : Reads R bA) (aR : Sl bA bB ao) (aS : Reads R bC) (aT : Sl bC bD aq) (aU : Reads R bE) (aV : Sl bE bF au) (aW : Reads R bG) (aX : Sl bG bH av) (aY : Reads R bI) (aZ : Sl bI bJ ay) (a8 : Has R (cBlk bz [bB, bD, bF, bH, I aw, I ax, bJ, .map (some bS)] 86)) (ba : Has R (cBlk bx [Pq bz] 72)) (bb : Has R (cBlk al [.func (.func 69) #[] #[Pq bi, Pq bx]] 114)) {r : (List Dem)} (hM : (zci data n ab ac ae ah ai aj ak ao aq au av aw ax ay).Ends r) (w : World) (H : St w w [cOwn (α := Dem) 62 aa data, cMem encDm az B_b_cmp2020207 (zaa ab ac ae ah ai aj ak)] R) : Ret Try.prog 86 #[aa, I n, .func (.func 71) #[] #[Pq al]] w fun v w' => ∃ (y0 : List Dem) (bT : Base), y0 = r /\ v = .tuple #[] /\ St w w' [cOwn (α := Dem) 62 aa y0, cMem encDm az bT (zaa ab ac ae ah ai aj ak)] R := by
 refine ret_of_W Try.func86 rfl rfl rfl ?_
 refine W.seq ?_
 refine W.region rfl ?_
 refine zA (I 20) rfl ?_
 refine s_nil ?_
 refine W.seq ?_
 refine W.region rfl ?_
 refine zM (I 20) rfl ?_
 refine zA (I 0) rfl ?_
 refine zA (I 20) rfl ?_
 refine s_nil ?_
 refine W.seq ?_
 refine W.block ?_
 obtain ⟨bU, bc, bV⟩ := M.e_bind hM
 obtain ⟨bK, bc⟩ := M.e_iter bc
 refine W.loop (fun m σ W => ∃ (l : List Dem) (a : Int) (b : Int) (B_mem : Base) (ρ : Env), σ = upds ρ [(0, aa), (1, I n), (2, .func (.func 71) #[] #[Pq al]), (6, I 20), (7, I a), (8, I b)] /\ M.iterN (zbQ n ab ac ae ah ai aj ak ao aq au av aw ax ay) m (l, a, b) = some bU /\ St w W [cOwn (α := Dem) 62 aa l, cMem encDm az B_mem (zaa ab ac ae ah ai aj ak)] R) ?_ ?_
 ·exact ⟨_, data, 0, 20, B_b_cmp2020207, _, upds_of _ _ ⟨rfl, rfl, rfl, rfl, rfl, rfl, trivial⟩, bc, H⟩
 rintro cA σ cB ⟨l, a, b, B_mem, ρ, rfl, bL, H⟩
 obtain ⟨bW, bX, cC, hM, bM⟩ := M.e_iterN bL
 simp only [zbQ] at hM
 clear bL
 refine W.seq ?_
 refine W.seq ?_
 refine W.region rfl ?_
 refine zM (I b) rfl ?_
 refine zM (I n) rfl ?_
 refine zC b n (decide (b <= n)) rfl rfl rfl ?_
 refine s_nil ?_
 refine W.cond (decide (b <= n)) rfl (fun aA => ?_) (fun aA => ?_)
 ·replace hM := M.e_t hM aA
  simp only [qy1, qy2, qy3, qy4, qy5, qy6, ne_eq, qy7] at aA
  refine W.skip ?_
  refine W.block ?_
  refine W.seq ?_
  refine W.region rfl ?_
  refine zM aa rfl ?_
  refine zM (I a) rfl ?_
  refine zM (I b) rfl ?_
  refine zM (.func (.func 71) #[] #[Pq al]) rfl ?_
  obtain ⟨cD, bY, hM⟩ := M.e_bind hM
  refine s_call cf91 [aa, I a, I b, .func (.func 71) #[] #[Pq al]] rfl (zc0 l a b ab ac ae ah ai aj ak ao aq au av aw ax ay (aE.app _) aF (aG.app _) aH (aI.app _) aJ (aK.app _) aL (aM.app _) aN (aO.app _) (aP.app _) (aQ.app _) aR (aS.app _) aT (aU.app _) aV (aW.app _) aX (aY.app _) aZ (a8.app _) (ba.app _) (bb.app _) bY _ (H.gt 0)) ?_
  rintro vq cE ⟨l_data, bZ, b4, hvq, am⟩
  subst b4
  subst vq
  try dsimp only at hM
  replace H := H.bk am
  clear am
  refine s_nil ?_
  refine W.seq ?_
  refine W.region rfl ?_
  refine zM (I b) rfl ?_
  refine zA (I b) rfl ?_
  refine s_nil ?_
  refine W.region rfl ?_
  refine zM (I b) rfl ?_
  refine zM (I 20) rfl ?_
  obtain ⟨b5, hM⟩ := M.e_grd hM
  simp only [Bool.and_eq_true, decide_eq_true_eq] at b5
  refine zR b 20 (b + 20) rfl rfl rfl (by omega) ?_
  refine zA (I (b + 20)) rfl ?_
  refine s_nil ?_
  exact ⟨bW, bX, l_data, b, b + 20, bZ, _, upds_of _ _ ⟨rfl, rfl, rfl, rfl, rfl, rfl, trivial⟩, M.e_inl hM bM, H⟩
 replace hM := M.e_f hM aA
 simp only [qy1, qy2, qy3, qy4, qy5, qy6, ne_eq, qy7] at aA
 refine W.exit ?_
 have b6 := M.e_inr hM bM
 subst b6
 replace hM := bV
 try dsimp only at hM
 refine W.seq ?_
 refine W.region rfl ?_
 refine zM aa rfl ?_
 refine zM (I a) rfl ?_
 refine zM (I n) rfl ?_
 refine zM (.func (.func 71) #[] #[Pq al]) rfl ?_
 obtain ⟨cF, b7, hM⟩ := M.e_bind hM
 refine s_call cf91 [aa, I a, I n, .func (.func 71) #[] #[Pq al]] rfl (zc0 l a n ab ac ae ah ai aj ak ao aq au av aw ax ay (aE.app _) aF (aG.app _) aH (aI.app _) aJ (aK.app _) aL (aM.app _) aN (aO.app _) (aP.app _) (aQ.app _) aR (aS.app _) aT (aU.app _) aV (aW.app _) aX (aY.app _) aZ (a8.app _) (ba.app _) (bb.app _) b7 _ (H.gt 0)) ?_
 rintro vq cG ⟨l_data2, b8, b9, hvq, am⟩
 subst b9
 subst vq
 try dsimp only at hM
 replace H := H.bk am
 clear am
 refine s_nil ?_
 refine W.block ?_
 obtain ⟨ca, bf, cb⟩ := M.e_bind hM
 obtain ⟨bK, bf⟩ := M.e_iter bf
 refine W.loop (fun m σ W => ∃ (l8 : List Dem) (blockSize : Int) (B_mem4 : Base) (ρ : Env), σ = upds ρ [(0, aa), (1, I n), (2, .func (.func 71) #[] #[Pq al]), (6, I blockSize)] /\ M.iterN (zcd n ab ac ae ah ai aj ak ao aq au av aw ax ay) m (l8, blockSize) = some ca /\ St w W [cOwn (α := Dem) 62 aa l8, cMem encDm az B_mem4 (zaa ab ac ae ah ai aj ak)] R) ?_ ?_
 ·exact ⟨_, l_data2, 20, b8, _, upds_of _ _ ⟨rfl, rfl, rfl, rfl, trivial⟩, bf, H⟩
 rintro cH σ cI ⟨l8, blockSize, B_mem4, ρ, rfl, bN, H⟩
 obtain ⟨bO, bP, cJ, hM, bg⟩ := M.e_iterN bN
 simp only [zcd] at hM
 clear bN
 refine W.seq ?_
 refine W.seq ?_
 refine W.region rfl ?_
 refine zM (I blockSize) rfl ?_
 refine zM (I n) rfl ?_
 refine zC blockSize n (decide (blockSize < n)) rfl rfl rfl ?_
 refine s_nil ?_
 refine W.cond (decide (blockSize < n)) rfl (fun aB => ?_) (fun aB => ?_)
 ·replace hM := M.e_t hM aB
  simp only [qy1, qy2, qy3, qy4, qy5, qy6, ne_eq, qy7] at aB
  refine W.skip ?_
  refine W.block ?_
  refine W.seq ?_
  refine W.region rfl ?_
  refine zM (I blockSize) rfl ?_
  obtain ⟨cc, hM⟩ := M.e_grd hM
  simp only [Bool.and_eq_true, decide_eq_true_eq] at cc
  refine zR 2 blockSize (2 * blockSize) rfl rfl rfl (by omega) ?_
  refine zA (I 0) rfl ?_
  refine zA (I (2 * blockSize)) rfl ?_
  refine s_nil ?_
  refine W.seq ?_
  refine W.block ?_
  obtain ⟨cd, bh, ce⟩ := M.e_bind hM
  obtain ⟨bK, bh⟩ := M.e_iter bh
  refine W.loop (fun m σ W => ∃ (l4 : List Dem) (a3 : Int) (b2 : Int) (B_mem2 : Base) (ρ : Env), σ = upds ρ [(0, aa), (1, I n), (2, .func (.func 71) #[] #[Pq al]), (6, I blockSize), (7, I a3), (8, I b2)] /\ M.iterN (zb6 n ab ac ae ah ai aj ak ao aq au av aw ax ay blockSize) m (l4, a3, b2) = some cd /\ St w W [cOwn (α := Dem) 62 aa l4, cMem encDm az B_mem2 (zaa ab ac ae ah ai aj ak)] R) ?_ ?_
  ·exact ⟨_, l8, 0, 2 * blockSize, B_mem4, _, upds_of _ _ ⟨rfl, rfl, rfl, rfl, rfl, rfl, trivial⟩, bh, H⟩
  rintro cK σ cL ⟨l4, a3, b2, B_mem2, ρ, rfl, bQ, H⟩
  obtain ⟨cf, cg, cM, hM, bR⟩ := M.e_iterN bQ
  simp only [zb6] at hM
  clear bQ
  refine W.seq ?_
  refine W.seq ?_
  refine W.region rfl ?_
  refine zM (I b2) rfl ?_
  refine zM (I n) rfl ?_
  refine zC b2 n (decide (b2 <= n)) rfl rfl rfl ?_
  refine s_nil ?_
  refine W.cond (decide (b2 <= n)) rfl (fun aC => ?_) (fun aC => ?_)
  ·replace hM := M.e_t hM aC
   simp only [qy1, qy2, qy3, qy4, qy5, qy6, ne_eq, qy7] at aC
   refine W.skip ?_
   refine W.block ?_
   refine W.seq ?_
   refine W.region rfl ?_
   refine zM aa rfl ?_
   refine zM (I a3) rfl ?_
   refine zM (I a3) rfl ?_
   refine zM (I blockSize) rfl ?_
   obtain ⟨ch, hM⟩ := M.e_grd hM
   simp only [Bool.and_eq_true, decide_eq_true_eq] at ch
   refine zR a3 blockSize (a3 + blockSize) rfl rfl rfl (by omega) ?_
   refine zM (I b2) rfl ?_
   refine zM (.func (.func 71) #[] #[Pq al]) rfl ?_
   obtain ⟨cN, ck, hM⟩ := M.e_bind hM
   refine s_call cf92 [aa, I a3, I (a3 + blockSize), I b2, .func (.func 71) #[] #[Pq al]] rfl (zcT l4 a3 (a3 + blockSize) b2 ab ac ae ah ai aj ak ao aq au av aw ax ay (aE.app _) aF (aG.app _) aH (aI.app _) aJ (aK.app _) aL (aM.app _) aN (aO.app _) (aP.app _) (aQ.app _) aR (aS.app _) aT (aU.app _) aV (aW.app _) aX (aY.app _) aZ (a8.app _) (ba.app _) (bb.app _) ck _ (H.gt 0)) ?_
   rintro vq cO ⟨l_data3, cl, cm, hvq, am⟩
   subst cm
   subst vq
   try dsimp only at hM
   replace H := H.bk am
   clear am
   refine s_nil ?_
   refine W.seq ?_
   refine W.region rfl ?_
   refine zM (I b2) rfl ?_
   refine zA (I b2) rfl ?_
   refine s_nil ?_
   refine W.region rfl ?_
   refine zM (I b2) rfl ?_
   refine zM (I blockSize) rfl ?_
   refine zR 2 blockSize (2 * blockSize) rfl rfl rfl (by omega) ?_
   obtain ⟨cn, hM⟩ := M.e_grd hM
   simp only [Bool.and_eq_true, decide_eq_true_eq] at cn
   refine zR b2 (2 * blockSize) (b2 + (2 * blockSize)) rfl rfl rfl (by omega) ?_
   refine zA (I (b2 + (2 * blockSize))) rfl ?_
   refine s_nil ?_
   exact ⟨cf, cg, l_data3, b2, b2 + (2 * blockSize), cl, _, upds_of _ _ ⟨rfl, rfl, rfl, rfl, rfl, rfl, trivial⟩, M.e_inl hM bR, H⟩
  replace hM := M.e_f hM aC
  simp only [qy1, qy2, qy3, qy4, qy5, qy6, ne_eq, qy7] at aC
  refine W.exit ?_
  have co := M.e_inr hM bR
  subst co
  replace hM := ce
  try dsimp only at hM
  refine W.seq ?_
  refine W.seq ?_
  refine W.region rfl ?_
  refine zM (I a3) rfl ?_
  refine zM (I blockSize) rfl ?_
  obtain ⟨cp, hM⟩ := M.e_grd hM
  simp only [Bool.and_eq_true, decide_eq_true_eq] at cp
  refine zR a3 blockSize (a3 + blockSize) rfl rfl rfl (by omega) ?_
  refine zA (I (a3 + blockSize)) rfl ?_
  refine s_nil ?_
  refine W.seq ?_
  refine W.region rfl ?_
  refine zM (I (a3 + blockSize)) rfl ?_
  refine zM (I n) rfl ?_
  refine zC (a3 + blockSize) n (decide ((a3 + blockSize) < n)) rfl rfl rfl ?_
  refine s_nil ?_
  refine W.cond (decide ((a3 + blockSize) < n)) rfl (fun aD => ?_) (fun aD => ?_)
  ·replace hM := M.e_t hM aD
   simp only [qy1, qy2, qy3, qy4, qy5, qy6, ne_eq, qy7] at aD
   refine W.region rfl ?_
   refine zM aa rfl ?_
   refine zM (I a3) rfl ?_
   refine zM (I (a3 + blockSize)) rfl ?_
   refine zM (I n) rfl ?_
   refine zM (.func (.func 71) #[] #[Pq al]) rfl ?_
   obtain ⟨cP, cq, hM⟩ := M.e_bind hM
   refine s_call cf92 [aa, I a3, I (a3 + blockSize), I n, .func (.func 71) #[] #[Pq al]] rfl (zcT l4 a3 (a3 + blockSize) n ab ac ae ah ai aj ak ao aq au av aw ax ay (aE.app _) aF (aG.app _) aH (aI.app _) aJ (aK.app _) aL (aM.app _) aN (aO.app _) (aP.app _) (aQ.app _) aR (aS.app _) aT (aU.app _) aV (aW.app _) aX (aY.app _) aZ (a8.app _) (ba.app _) (bb.app _) cq _ (H.gt 0)) ?_
   rintro vq cQ ⟨l_data4, ct, cu, hvq, am⟩
   subst cu
   subst vq
   try dsimp only at hM
   replace H := H.bk am
   clear am
   refine s_nil ?_
   refine W.region rfl ?_
   refine zM (I blockSize) rfl ?_
   obtain ⟨cw, hM⟩ := M.e_grd hM
   simp only [Bool.and_eq_true, decide_eq_true_eq] at cw
   refine zR blockSize 2 (blockSize * 2) rfl rfl rfl (by omega) ?_
   refine zA (I (blockSize * 2)) rfl ?_
   refine s_nil ?_
   exact ⟨bO, bP, l_data4, blockSize * 2, ct, _, upds_of _ _ ⟨rfl, rfl, rfl, rfl, trivial⟩, M.e_inl hM bg, H⟩
  replace hM := M.e_f hM aD
  simp only [qy1, qy2, qy3, qy4, qy5, qy6, ne_eq, qy7] at aD
  refine W.skip ?_
  refine W.region rfl ?_
  refine zM (I blockSize) rfl ?_
  obtain ⟨cx, hM⟩ := M.e_grd hM
  simp only [Bool.and_eq_true, decide_eq_true_eq] at cx
  refine zR blockSize 2 (blockSize * 2) rfl rfl rfl (by omega) ?_
  refine zA (I (blockSize * 2)) rfl ?_
  refine s_nil ?_
  exact ⟨bO, bP, l4, blockSize * 2, B_mem2, _, upds_of _ _ ⟨rfl, rfl, rfl, rfl, trivial⟩, M.e_inl hM bg, H⟩
 replace hM := M.e_f hM aB
 simp only [qy1, qy2, qy3, qy4, qy5, qy6, ne_eq, qy7] at aB
 refine W.exit ?_
 have cy := M.e_inr hM bg
 subst cy
 replace hM := cb
 try dsimp only at hM
 have cz := M.e_pure hM
 exact ⟨_, resE_tmp0 rfl, ⟨l8, B_mem4, cz, rfl, H⟩⟩

def zcg (x : List Dem) (aa : List Int) (ab : List Span) (ac : List Int) (ae : List Town) (ah : Int) (ai : Int) (aj : List Flood) (ak : List Int) (al : List Span) (am : List Int) (ao : List Town) (aq : Int) (au : Int) (av : List Flood) : M (List Dem) :=
  M.bind (zci x (x.length : Int) aa ab ac ae ah ai aj ak al am ao aq au av) fun l_data =>
  M.pure l_data
theorem zdC {R : List Chunk} {aa : Value} {al : Nat} {az : Nat} {aA : Nat} {aB : Cells} {aC : Value} {aD : Cells} {aE : Value} {aF : Cells} {aG : Value} {aH : Cells} {aI : Value} {aJ : Cells} {aK : Value} {am : Nat} {B_b_cmp2020207 : Base} {aL : Nat} {aM : Nat} {aN : Cells} {aO : Value} {aP : Cells} {aQ : Value} {aR : Cells} {aS : Value} {aT : Cells} {aU : Value} {aV : Cells} {aW : Value} {aY : Nat} (x : List Dem) (ab : List Int) (ac : List Span) (ae : List Int) (ah : List Town) (ai : Int) (aj : Int) (ak : List Flood) (ao : List Int) (aq : List Span) (au : List Int) (av : List Town) (aw : Int) (ax : Int) (ay : List Flood) (aZ : Reads R aB) (a8 : Sl aB aC ab) (ba : Reads R aD) (bb : Sl aD aE ac) (bc : Reads R aF) (bf : Sl aF aG ae) (bg : Reads R aH) (bh : Sl aH aI ah) (bi : Reads R aJ) (bj : Sl aJ aK ak) (bm : Has R (cBlk aA [aC, aE, aG, aI, I ai, I aj, aK, .map (some am)] 86)) (bn : Has R (cBlk az [.func (.func 54) #[Pq aA] #[]] 106)) (bo : Reads R aN) (bp : Sl aN aO ao) (bq : Reads R aP) (br : Sl aP aQ aq) (bt : Reads R aR) (bu : Sl aR aS au) (bv : Reads R aT) (bw : Sl aT aU av) (bx : Reads R aV) (bz : Sl aV aW ay) (bA : Has R (cBlk aM [aO, aQ, aS, aU, I aw, I ax, aW, .map (some aY)] 86)) (bB : Has R (cBlk aL [Pq aM] 72)) (bC : Has R (cBlk al [.func (.func 69) #[] #[Pq az, Pq aL]] 114)) {r : (List Dem)} (hM : (zcg x ab ac ae ah ai aj ak ao aq au av aw ax ay).Ends r) (w : World) (H : St w w [cOwn (α := Dem) 62 aa x, cMem encDm am B_b_cmp2020207 (zaa ab ac ae ah ai aj ak)] R) : Ret Try.prog 70 #[aa, .func (.func 71) #[] #[Pq al]] w fun v w' => ∃ (y0 : List Dem) (bD : Base), y0 = r /\ v = .tuple #[] /\ St w w' [cOwn (α := Dem) 62 aa y0, cMem encDm am bD (zaa ab ac ae ah ai aj ak)] R := by
 refine ret_of_W Try.func70 rfl rfl rfl ?_
 refine W.region rfl ?_
 refine zM aa rfl ?_
 refine zM aa rfl ?_
 have bI := ((H.os 0)).len_le
 refine s_val (x_lenS T57.und rfl (H.os 0)) ?_
 refine zM (.func (.func 71) #[] #[Pq al]) rfl ?_
 obtain ⟨bJ, bE, hM⟩ := M.e_bind hM
 refine s_call cf86 [aa, I (x.length : Int), .func (.func 71) #[] #[Pq al]] rfl (zdh x (x.length : Int) ab ac ae ah ai aj ak ao aq au av aw ax ay (aZ.app _) a8 (ba.app _) bb (bc.app _) bf (bg.app _) bh (bi.app _) bj (bm.app _) (bn.app _) (bo.app _) bp (bq.app _) br (bt.app _) bu (bv.app _) bw (bx.app _) bz (bA.app _) (bB.app _) (bC.app _) bE _ (H.gt 0)) ?_
 rintro vq bK ⟨l_data, bF, bG, hvq, aX⟩
 subst bG
 subst vq
 try dsimp only at hM
 replace H := H.bk aX
 clear aX
 refine s_nil ?_
 have bH := M.e_pure hM
 exact ⟨_, resE_tmp0 rfl, ⟨l_data, bF, bH, rfl, H⟩⟩

end Go.Proofs.Ytbaehghammbjdaa
end
