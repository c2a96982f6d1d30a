/- Part 3 of the texts on which the proof rests. Conditions: none. -/
import Derived.Test.YtbaehghammbjdaaZC2
set_option linter.unusedVariables false
set_option linter.unusedSimpArgs false
set_option linter.unusedSectionVars false
section
set_option maxRecDepth 100000
set_option maxHeartbeats 16000000
namespace Go.Proofs.Ytbaehghammbjdaa
open Go Go.Nm
def zb7 (a : Int) (aa : List Int) (ab : List Span) (ac : List Int) (ae : List Town) (ah : Int) (ai : Int) (aj : List Flood) (ak : List Int) (al : List Span) (am : List Int) (ao : List Town) (aq : Int) (au : Int) (av : List Flood) : ((List Dem) × Int) -> M (((List Dem) × Int) ⊕ ((List Dem) × (List Dem))) := fun (l, j) =>
  M.grd ((!(decide (a < j)) || (decide ((0 : Int) <= j) && decide (j < (l.length : Int))))) <|
  M.grd ((!(decide (a < j)) || (decide ((-9223372036854775808 : Int) <= (j - 1)) && decide ((j - 1) <= (9223372036854775807 : Int))))) <|
  M.grd ((!(decide (a < j)) || (decide ((0 : Int) <= (j - 1)) && decide ((j - 1) < (l.length : Int))))) <|
  bif decide (a < j) then (
  M.bind (zao (l.getD (Int.toNat j) default) (l.getD (Int.toNat (j - 1)) default) aa ab ac ae ah ai aj ak al am ao aq au av) fun r2 =>
  bif ((decide (a < j)) && (decide (r2 < 0))) then (
  M.grd (decide ((-9223372036854775808 : Int) <= (j - 1)) && decide ((j - 1) <= (9223372036854775807 : Int))) <|
  M.grd (decide ((0 : Int) <= (j - 1)) && decide ((j - 1) < (l.length : Int))) <|
  M.grd (decide ((0 : Int) <= j) && decide (j < (l.length : Int))) <|
  M.grd (decide ((0 : Int) <= (j - 1)) && decide ((j - 1) < ((l.set (Int.toNat j) (l.getD (Int.toNat (j - 1)) default)).length : Int))) <|
  M.pure (.inl ((l.set (Int.toNat j) (l.getD (Int.toNat (j - 1)) default)).set (Int.toNat (j - 1)) (l.getD (Int.toNat j) default), j - 1)))
  else (
  M.pure (.inr (l, l))))
  else (
  bif ((decide (a < j)) && (decide ((0 : Int) < 0))) then (
  M.grd (decide ((-9223372036854775808 : Int) <= (j - 1)) && decide ((j - 1) <= (9223372036854775807 : Int))) <|
  M.grd (decide ((0 : Int) <= (j - 1)) && decide ((j - 1) < (l.length : Int))) <|
  M.grd (decide ((0 : Int) <= j) && decide (j < (l.length : Int))) <|
  M.grd (decide ((0 : Int) <= (j - 1)) && decide ((j - 1) < ((l.set (Int.toNat j) (l.getD (Int.toNat (j - 1)) default)).length : Int))) <|
  M.pure (.inl ((l.set (Int.toNat j) (l.getD (Int.toNat (j - 1)) default)).set (Int.toNat (j - 1)) (l.getD (Int.toNat j) default), j - 1)))
  else (
  M.pure (.inr (l, l))))
def za2 (a : Int) (b : Int) (aa : List Int) (ab : List Span) (ac : List Int) (ae : List Town) (ah : Int) (ai : Int) (aj : List Flood) (ak : List Int) (al : List Span) (am : List Int) (ao : List Town) (aq : Int) (au : Int) (av : List Flood) : ((List Dem) × Int) -> M (((List Dem) × Int) ⊕ (List Dem)) := fun (l4, i) =>
  bif decide (i < b) then (
  M.bind (M.iter (zb7 a aa ab ac ae ah ai aj ak al am ao aq au av) (l4, i)) fun (l2, l3) =>
  M.grd (decide ((-9223372036854775808 : Int) <= (i + 1)) && decide ((i + 1) <= (9223372036854775807 : Int))) <|
  M.pure (.inl (l3, i + 1)))
  else (
  M.pure (.inr l4))
def zbw (data : List Dem) (a : Int) (b : Int) (aa : List Int) (ab : List Span) (ac : List Int) (ae : List Town) (ah : Int) (ai : Int) (aj : List Flood) (ak : List Int) (al : List Span) (am : List Int) (ao : List Town) (aq : Int) (au : Int) (av : List Flood) : M (List Dem) :=
  M.grd (decide ((-9223372036854775808 : Int) <= (a + 1)) && decide ((a + 1) <= (9223372036854775807 : Int))) <|
  M.bind (M.iter (za2 a b aa ab ac ae ah ai aj ak al am ao aq au av) (data, a + 1)) fun l5 =>
  M.pure l5
theorem zcO {R : List Chunk} {aa : Value} {aC : Nat} {aR : Nat} {aS : Nat} {aT : Cells} {aU : Value} {aV : Cells} {aW : Value} {aX : Cells} {aY : Value} {aZ : Cells} {a6 : Value} {a7 : Cells} {a8 : Value} {am : Nat} {B_b_cmp2020207 : Base} {ba : Nat} {bb : Nat} {bc : Cells} {bf : Value} {bg : Cells} {bh : Value} {bi : Cells} {bj : Value} {bm : Cells} {bn : Value} {bo : Cells} {bp : Value} {bx : Nat} (data : List Dem) (a : Int) (b : Int) (ab : List Int) (ac : List Span) (ae : List Int) (ah : List Town) (ai : Int) (aj : Int) (ak : List Flood) (aE : List Int) (aF : List Span) (aG : List Int) (aH : List Town) (aI : Int) (aJ : Int) (aK : List Flood) (bz : Reads R aT) (bA : Sl aT aU ab) (bB : Reads R aV) (bC : Sl aV aW ac) (bD : Reads R aX) (bE : Sl aX aY ae) (bF : Reads R aZ) (bG : Sl aZ a6 ah) (bH : Reads R a7) (bI : Sl a7 a8 ak) (bJ : Has R (cBlk aS [aU, aW, aY, a6, I ai, I aj, a8, .map (some am)] 86)) (bK : Has R (cBlk aR [.func (.func 54) #[Pq aS] #[]] 106)) (bL : Reads R bc) (bM : Sl bc bf aE) (bN : Reads R bg) (bO : Sl bg bh aF) (bP : Reads R bi) (bQ : Sl bi bj aG) (bR : Reads R bm) (bS : Sl bm bn aH) (bT : Reads R bo) (bU : Sl bo bp aK) (bV : Has R (cBlk bb [bf, bh, bj, bn, I aI, I aJ, bp, .map (some bx)] 86)) (bW : Has R (cBlk ba [Pq bb] 72)) (bX : Has R (cBlk aC [.func (.func 69) #[] #[Pq aR, Pq ba]] 114)) {r : (List Dem)} (hM : (zbw data a b ab ac ae ah ai aj ak aE aF aG aH aI aJ aK).Ends r) (w : World) (H : St w w [cOwn (α := Dem) 62 aa data, cMem encDm am B_b_cmp2020207 (zaa ab ac ae ah ai aj ak)] R) : Ret Try.prog 91 #[aa, I a, I b, .func (.func 71) #[] #[Pq aC]] w fun v w' => ∃ (y0 : List Dem) (bY : Base), y0 = r /\ v = .tuple #[] /\ St w w' [cOwn (α := Dem) 62 aa y0, cMem encDm am bY (zaa ab ac ae ah ai aj ak)] R := by
 refine ret_of_W Try.func91 rfl rfl rfl ?_
 refine W.seq ?_
 refine W.region rfl ?_
 refine zM (I a) rfl ?_
 obtain ⟨bZ, hM⟩ := M.e_grd hM
 simp only [Bool.and_eq_true, decide_eq_true_eq] at bZ
 refine zR a 1 (a + 1) rfl rfl rfl (by omega) ?_
 refine zA (I (a + 1)) rfl ?_
 refine s_nil ?_
 refine W.block ?_
 obtain ⟨b4, aM, b5⟩ := M.e_bind hM
 obtain ⟨b6, aM⟩ := M.e_iter aM
 refine W.loop (fun m σ W => ∃ (l4 : List Dem) (i : Int) (B_mem2 : Base) (ρ : Env), σ = upds ρ [(0, aa), (1, I a), (2, I b), (3, .func (.func 71) #[] #[Pq aC]), (8, I i)] /\ M.iterN (za2 a b ab ac ae ah ai aj ak aE aF aG aH aI aJ aK) m (l4, i) = some b4 /\ St w W [cOwn (α := Dem) 62 aa l4, cMem encDm am B_mem2 (zaa ab ac ae ah ai aj ak)] R) ?_ ?_
 ·exact ⟨_, data, a + 1, B_b_cmp2020207, _, upds_of _ _ ⟨rfl, rfl, rfl, rfl, rfl, trivial⟩, aM, H⟩
 rintro cq σ ct ⟨l4, i, B_mem2, ρ, rfl, bq, H⟩
 obtain ⟨br, bt, cu, hM, aN⟩ := M.e_iterN bq
 simp only [za2] at hM
 clear bq
 refine W.seq ?_
 refine W.seq ?_
 refine W.region rfl ?_
 refine zM (I i) rfl ?_
 refine zM (I b) rfl ?_
 refine zC i b (decide (i < b)) rfl rfl rfl ?_
 refine s_nil ?_
 refine W.cond (decide (i < b)) rfl (fun aL => ?_) (fun aL => ?_)
 ·replace hM := M.e_t hM aL
  simp only [qy1, qy2, qy3, qy4, qy5, qy6, ne_eq, qy7] at aL
  refine W.skip ?_
  refine W.seq ?_
  refine W.block ?_
  refine W.seq ?_
  refine W.region rfl ?_
  refine zM (I i) rfl ?_
  refine zA (I i) rfl ?_
  refine s_nil ?_
  refine W.block ?_
  obtain ⟨b7, aO, bu⟩ := M.e_bind hM
  obtain ⟨b6, aO⟩ := M.e_iter aO
  refine W.loop (fun m σ W => ∃ (l : List Dem) (j : Int) (B_mem : Base) (ρ : Env), σ = upds ρ [(0, aa), (1, I a), (2, I b), (3, .func (.func 71) #[] #[Pq aC]), (8, I i), (9, I j)] /\ M.iterN (zb7 a ab ac ae ah ai aj ak aE aF aG aH aI aJ aK) m (l, j) = some b7 /\ St w W [cOwn (α := Dem) 62 aa l, cMem encDm am B_mem (zaa ab ac ae ah ai aj ak)] R) ?_ ?_
  ·exact ⟨_, l4, i, B_mem2, _, upds_of _ _ ⟨rfl, rfl, rfl, rfl, rfl, rfl, trivial⟩, aO, H⟩
  rintro cw σ cx ⟨l, j, B_mem, ρ, rfl, bv, H⟩
  obtain ⟨ax, ay, cy, hM, aw⟩ := M.e_iterN bv
  simp only [zb7] at hM
  clear bv
  refine W.seq ?_
  refine W.seq ?_
  refine W.draw (fun W => St w W [cOwn (α := Dem) 62 aa l] R) [(0, true), (1, true), (2, true), (3, true), (4, true), (5, true), (6, true), (7, true), (8, true), (9, true), (10, true), (11, true), (12, true), (13, true), (14, false), (15, true), (16, true)] mixed (by decide +kernel) rfl ?_
  intro cz ao
  replace H := H.ext ao
  clear ao
  refine ⟨(H.pk [0]), ?_⟩
  refine d_q rfl (fun w' H => x_mv (v := I j) rfl) ?_
  refine d_q rfl (fun w' H => x_mv (v := I a) rfl) ?_
  refine d_q rfl (fun w' H => x_cmp (kd := .i64) (a := j) (b := a) (r := decide (a < j)) rfl rfl rfl) ?_
  refine d_q rfl (fun w' H => x_mv (v := B (decide (a < j))) rfl) ?_
  refine d_qg (decide (a < j)) rfl (gy_t rfl) (fun hg => (fun w' H => x_mv (v := .func (.func 71) #[] #[Pq aC]) rfl)) ?_
  refine d_qg (decide (a < j)) rfl (gy_t rfl) (fun hg => (fun w' H => x_mv (v := aa) rfl)) ?_
  refine d_qg (decide (a < j)) rfl (gy_t rfl) (fun hg => (fun w' H => x_mv (v := I j) rfl)) ?_
  obtain ⟨az, hM⟩ := M.e_grd hM
  replace az := M.imp_of az
  simp only [Bool.and_eq_true, decide_eq_true_eq] at az
  refine d_qg (decide (a < j)) rfl (gy_t rfl) (fun hg => (fun w' H => x_ix (a := aa) (b := I j) (v := vat aa 2 (Int.toNat j)) (gd_of (c := decide (a < j)) hg (aa)) (gd_of (c := decide (a < j)) hg (I j)) (Sl.ix (α := Dem) T57.und T57.size (H.os 0) (by have al := az.resolve_left (by rw [hg]; decide); first | exact al | exact al.1 | exact al.2 | omega | (have ao := hg; simp at ao; omega)) (by have al := az.resolve_left (by rw [hg]; decide); first | exact al | exact al.1 | exact al.2 | omega | (have ao := hg; simp at ao; omega))))) ?_
  refine d_qg (decide (a < j)) rfl (gy_t rfl) (fun hg => (fun w' H => x_ld (p := vat aa 2 (Int.toNat j)) (v := .agg #[I ((l.getD (Int.toNat j) default).spring), I ((l.getD (Int.toNat j) default).town)]) (gd_of (c := decide (a < j)) hg (vat aa 2 (Int.toNat j))) (ld_ag Ag62 Sz62 (At.mono (Dem_atA (H.os 0) (i := j) (by have al := az.resolve_left (by rw [hg]; decide); first | exact al | exact al.1 | exact al.2 | omega | (have ao := hg; simp at ao; omega)) (by have al := az.resolve_left (by rw [hg]; decide); first | exact al | exact al.1 | exact al.2 | omega | (have ao := hg; simp at ao; omega))) (H.ol 0))))) ?_
  refine d_qg (decide (a < j)) rfl (gy_t rfl) (fun hg => (fun w' H => x_mv (v := aa) rfl)) ?_
  refine d_qg (decide (a < j)) rfl (gy_t rfl) (fun hg => (fun w' H => x_mv (v := I j) rfl)) ?_
  obtain ⟨aA, hM⟩ := M.e_grd hM
  replace aA := M.imp_of aA
  simp only [Bool.and_eq_true, decide_eq_true_eq] at aA
  refine d_qg (decide (a < j)) rfl (gy_t rfl) (fun hg => (fun w' H => x_ari (a := j) (b := 1) (r := j - 1) (gd_of (c := decide (a < j)) hg (I j)) rfl rfl (by have al := az.resolve_left (by rw [hg]; decide); have au := aA.resolve_left (by rw [hg]; decide); first | exact al | exact al.1 | exact al.2 | exact au | exact au.1 | exact au.2 | omega | (have ao := hg; simp at ao; omega)))) ?_
  obtain ⟨aB, hM⟩ := M.e_grd hM
  replace aB := M.imp_of aB
  simp only [Bool.and_eq_true, decide_eq_true_eq] at aB
  refine d_qg (decide (a < j)) rfl (gy_t rfl) (fun hg => (fun w' H => x_ix (a := aa) (b := I (j - 1)) (v := vat aa 2 (Int.toNat (j - 1))) (gd_of (c := decide (a < j)) hg (aa)) (gd_of (c := decide (a < j)) hg (I (j - 1))) (Sl.ix (α := Dem) T57.und T57.size (H.os 0) (by have al := az.resolve_left (by rw [hg]; decide); have au := aA.resolve_left (by rw [hg]; decide); have av := aB.resolve_left (by rw [hg]; decide); first | exact al | exact al.1 | exact al.2 | exact au | exact au.1 | exact au.2 | exact av | exact av.1 | exact av.2 | omega | (have ao := hg; simp at ao; omega)) (by have al := az.resolve_left (by rw [hg]; decide); have au := aA.resolve_left (by rw [hg]; decide); have av := aB.resolve_left (by rw [hg]; decide); first | exact al | exact al.1 | exact al.2 | exact au | exact au.1 | exact au.2 | exact av | exact av.1 | exact av.2 | omega | (have ao := hg; simp at ao; omega))))) ?_
  refine d_qg (decide (a < j)) rfl (gy_t rfl) (fun hg => (fun w' H => x_ld (p := vat aa 2 (Int.toNat (j - 1))) (v := .agg #[I ((l.getD (Int.toNat (j - 1)) default).spring), I ((l.getD (Int.toNat (j - 1)) default).town)]) (gd_of (c := decide (a < j)) hg (vat aa 2 (Int.toNat (j - 1)))) (ld_ag Ag62 Sz62 (At.mono (Dem_atA (H.os 0) (i := j - 1) (by have al := az.resolve_left (by rw [hg]; decide); have au := aA.resolve_left (by rw [hg]; decide); have av := aB.resolve_left (by rw [hg]; decide); first | exact al | exact al.1 | exact al.2 | exact au | exact au.1 | exact au.2 | exact av | exact av.1 | exact av.2 | omega | (have ao := hg; simp at ao; omega)) (by have al := az.resolve_left (by rw [hg]; decide); have au := aA.resolve_left (by rw [hg]; decide); have av := aB.resolve_left (by rw [hg]; decide); first | exact al | exact al.1 | exact al.2 | exact au | exact au.1 | exact au.2 | exact av | exact av.1 | exact av.2 | omega | (have ao := hg; simp at ao; omega))) (H.ol 0))))) ?_
  refine d_l rfl ?_
  refine g_splitV (decide (a < j)) (I 0) (gy_t rfl) (fun aD => ?_) (fun aD => ?_)
  ·replace hM := M.e_t hM aD
   obtain ⟨cA, b8, hM⟩ := M.e_bind hM
   refine s_callv (f := 71) (by exact (gd_of (c := decide (a < j)) aD (.func (.func 71) #[] #[Pq aC]))) cf71 [.agg #[I ((l.getD (Int.toNat j) default).spring), I ((l.getD (Int.toNat j) default).town)], .agg #[I ((l.getD (Int.toNat (j - 1)) default).spring), I ((l.getD (Int.toNat (j - 1)) default).town)]] (by exact (lst2 (gd_of (c := decide (a < j)) aD (.agg #[I ((l.getD (Int.toNat j) default).spring), I ((l.getD (Int.toNat j) default).town)])) (gd_of (c := decide (a < j)) aD (.agg #[I ((l.getD (Int.toNat (j - 1)) default).spring), I ((l.getD (Int.toNat (j - 1)) default).town)])))) (zb0 (l.getD (Int.toNat j) default) (l.getD (Int.toNat (j - 1)) default) ab ac ae ah ai aj ak aE aF aG aH aI aJ aK (bz.app _) bA (bB.app _) bC (bD.app _) bE (bF.app _) bG (bH.app _) bI (bJ.app _) (bK.app _) (bL.app _) bM (bN.app _) bO (bP.app _) bQ (bR.app _) bS (bT.app _) bU (bV.app _) (bW.app _) (bX.app _) b8 _ ((H.pk [1, 0]).gt 1)) ?_
   rintro vq cB ⟨r2, aq, b9, hvq, bw⟩
   subst b9
   subst vq
   try dsimp only at hM
   replace H := H.pk [1, 0] |>.bk bw
   clear bw
   refine s_nil ⟨(H.pk [1]), ?_⟩
   refine d_qg (decide (a < j)) rfl (gy_t rfl) (fun hg => (fun w' H => x_cmp (kd := .i64) (a := r2) (b := 0) (r := decide (r2 < 0)) rfl rfl rfl)) ?_
   refine d_q rfl (fun w' H => x_pand (b := decide (a < j)) (r := decide (r2 < 0)) rfl (fun hb => gd_of (c := decide (a < j)) (by first | exact hb | (rw [hb]; rfl) | simp_all) (B (decide (r2 < 0)))) rfl) ?_
   refine d_nil ?_
   refine W.cond ((decide (a < j)) && (decide (r2 < 0))) rfl (fun aP => ?_) (fun aP => ?_)
   ·replace hM := M.e_t hM aP
    refine W.skip ?_
    refine W.seq ?_
    refine W.block ?_
    refine W.drawT (fun W => St w W [cMem encDm am aq (zaa ab ac ae ah ai aj ak)] R) (.q 0 (.q 1 (.q 2 (.q 3 (.q 4 (.q 5 (.q 6 (.q 7 (.q 10 (.q 11 (.l2 8 (.l2 9 (.l 12 (.l 13 (.l 14 (.l 15 (.l 16 (.l 17 .nil)))))) 12 (.l2 9 (.l 13 (.l 14 (.l 15 (.l 16 (.l 17 .nil))))) 13 (.l 9 (.l 14 (.l 15 (.l 16 (.l 17 .nil))))))) 12 (.l2 8 (.l2 9 (.l 13 (.l 14 (.l 15 (.l 16 (.l 17 .nil))))) 13 (.l 9 (.l 14 (.l 15 (.l 16 (.l 17 .nil)))))) 13 (.l 8 (.l 9 (.l 14 (.l 15 (.l 16 (.l 17 .nil)))))))))))))))))) mixed (by decide +kernel) rfl ?_
    intro cC ao
    replace H := H.ext ao
    clear ao
    refine ⟨(H.pk [0]), ?_⟩
    refine t_q rfl (fun w' H => x_mv (v := aa) rfl) ?_
    refine t_q rfl (fun w' H => x_mv (v := I j) rfl) ?_
    refine t_q rfl (fun w' H => x_mv (v := aa) rfl) ?_
    refine t_q rfl (fun w' H => x_mv (v := I j) rfl) ?_
    obtain ⟨ca, hM⟩ := M.e_grd hM
    simp only [Bool.and_eq_true, decide_eq_true_eq] at ca
    refine t_q rfl (fun w' H => x_ari (a := j) (b := 1) (r := j - 1) rfl rfl rfl (by omega)) ?_
    refine t_q rfl (fun w' H => x_mv (v := aa) rfl) ?_
    refine t_q rfl (fun w' H => x_mv (v := I j) rfl) ?_
    refine t_q rfl (fun w' H => x_ari (a := j) (b := 1) (r := j - 1) rfl rfl rfl (by omega)) ?_
    refine t_q rfl (fun w' H => x_mv (v := aa) rfl) ?_
    refine t_q rfl (fun w' H => x_mv (v := I j) rfl) ?_
    obtain ⟨cb, hM⟩ := M.e_grd hM
    simp only [Bool.and_eq_true, decide_eq_true_eq] at cb
    obtain ⟨cc, hM⟩ := M.e_grd hM
    simp only [Bool.and_eq_true, decide_eq_true_eq] at cc
    obtain ⟨cd, hM⟩ := M.e_grd hM
    simp only [Bool.and_eq_true, decide_eq_true_eq] at cd
    refine t_l2 rfl rfl ?_ ?_
    ·skip
     refine s_val (x_ix (a := aa) (b := I (j - 1)) (v := vat aa 2 (Int.toNat (j - 1))) rfl rfl (Sl.ix (α := Dem) T57.und T57.size (H.os 1) (by omega) (by omega))) ?_
     have cD := Sl.cells (H.os 1)
     have cE := Sl.oc (H.os 1)
     refine s_nil ⟨(H.pk [0]), ?_⟩
     refine t_l2 rfl rfl ?_ ?_
     ·skip
      refine s_val (x_ld (p := vat aa 2 (Int.toNat (j - 1))) (v := .agg #[I ((l.getD (Int.toNat (j - 1)) default).spring), I ((l.getD (Int.toNat (j - 1)) default).town)]) rfl (ld_ag Ag62 Sz62 (At.mono (Dem_atA (H.os 1) (i := j - 1) (by omega) (by omega)) (H.ol 1)))) ?_
      refine s_nil ⟨(H.pk [0]), ?_⟩
      refine t_l rfl ?_
      refine s_val (x_ix (a := aa) (b := I j) (v := vat aa 2 (Int.toNat j)) rfl rfl (Sl.ix (α := Dem) T57.und T57.size (H.os 1) (by omega) (by omega))) ?_
      refine s_nil ⟨(H.pk [0]), ?_⟩
      refine t_l rfl ?_
      refine s_val (x_ld (p := vat aa 2 (Int.toNat j)) (v := .agg #[I ((l.getD (Int.toNat j) default).spring), I ((l.getD (Int.toNat j) default).town)]) rfl (ld_ag Ag62 Sz62 (At.mono (Dem_atA (H.os 1) (i := j) (by omega) (by omega)) (H.ol 1)))) ?_
      refine s_nil ⟨(H.pk [0]), ?_⟩
      refine t_l rfl ?_
      refine s_val (x_ix (a := aa) (b := I j) (v := vat aa 2 (Int.toNat j)) rfl rfl (Sl.ix (α := Dem) T57.und T57.size (H.os 1) (by omega) (by omega))) ?_
      refine s_nil ⟨(H.pk [0]), ?_⟩
      refine t_l rfl ?_
      refine t_ost (k := 1) (i := j) (l := l) (l' := l.set (Int.toNat j) (l.getD (Int.toNat (j - 1)) default)) (val := .agg #[I ((l.getD (Int.toNat (j - 1)) default).spring), I ((l.getD (Int.toNat (j - 1)) default).town)]) (L' := [cMem encDm am aq (zaa ab ac ae ah ai aj ak), cOwn (α := Dem) 62 aa (l.set (Int.toNat j) (l.getD (Int.toNat (j - 1)) default))]) H rfl Sz62 (by omega) (by omega) (l.getD (Int.toNat (j - 1)) default) rfl rfl rfl rfl rfl ?_
      intro cF H
      refine s_nil ⟨(H.pk [0]), ?_⟩
      refine t_l rfl ?_
      refine s_val (x_ix (a := aa) (b := I (j - 1)) (v := vat aa 2 (Int.toNat (j - 1))) rfl rfl (Sl.ix (α := Dem) T57.und T57.size (H.os 1) (by omega) (by omega))) ?_
      refine s_nil ⟨(H.pk [0]), ?_⟩
      refine t_l rfl ?_
      refine t_ost (k := 1) (i := j - 1) (l := l.set (Int.toNat j) (l.getD (Int.toNat (j - 1)) default)) (l' := (l.set (Int.toNat j) (l.getD (Int.toNat (j - 1)) default)).set (Int.toNat (j - 1)) (l.getD (Int.toNat j) default)) (val := .agg #[I ((l.getD (Int.toNat j) default).spring), I ((l.getD (Int.toNat j) default).town)]) (L' := [cMem encDm am aq (zaa ab ac ae ah ai aj ak), cOwn (α := Dem) 62 aa ((l.set (Int.toNat j) (l.getD (Int.toNat (j - 1)) default)).set (Int.toNat (j - 1)) (l.getD (Int.toNat j) default))]) H rfl Sz62 (by omega) (by omega) (l.getD (Int.toNat j) default) rfl rfl rfl rfl rfl ?_
      intro cG H
      refine s_nil ⟨(H.pk [0]), ?_⟩
      refine t_nil ?_
      refine W.region rfl ?_
      refine zM (I j) rfl ?_
      refine zR j 1 (j - 1) rfl rfl rfl (by omega) ?_
      refine zA (I (j - 1)) rfl ?_
      refine s_nil ?_
      exact ⟨ax, ay, (l.set (Int.toNat j) (l.getD (Int.toNat (j - 1)) default)).set (Int.toNat (j - 1)) (l.getD (Int.toNat j) default), j - 1, aq, _, upds_of _ _ ⟨rfl, rfl, rfl, rfl, rfl, rfl, trivial⟩, M.e_inl hM aw, (H.pk [1, 0])⟩
     skip
     refine s_val (x_ix (a := aa) (b := I j) (v := vat aa 2 (Int.toNat j)) rfl rfl (Sl.ix (α := Dem) T57.und T57.size (H.os 1) (by omega) (by omega))) ?_
     refine s_nil ⟨(H.pk [0]), ?_⟩
     refine t_l2 rfl rfl ?_ ?_
     ·skip
      refine s_val (x_ld (p := vat aa 2 (Int.toNat (j - 1))) (v := .agg #[I ((l.getD (Int.toNat (j - 1)) default).spring), I ((l.getD (Int.toNat (j - 1)) default).town)]) rfl (ld_ag Ag62 Sz62 (At.mono (Dem_atA (H.os 1) (i := j - 1) (by omega) (by omega)) (H.ol 1)))) ?_
      refine s_nil ⟨(H.pk [0]), ?_⟩
      refine t_l rfl ?_
      refine s_val (x_ld (p := vat aa 2 (Int.toNat j)) (v := .agg #[I ((l.getD (Int.toNat j) default).spring), I ((l.getD (Int.toNat j) default).town)]) rfl (ld_ag Ag62 Sz62 (At.mono (Dem_atA (H.os 1) (i := j) (by omega) (by omega)) (H.ol 1)))) ?_
      refine s_nil ⟨(H.pk [0]), ?_⟩
      refine t_l rfl ?_
      refine s_val (x_ix (a := aa) (b := I j) (v := vat aa 2 (Int.toNat j)) rfl rfl (Sl.ix (α := Dem) T57.und T57.size (H.os 1) (by omega) (by omega))) ?_
      refine s_nil ⟨(H.pk [0]), ?_⟩
      refine t_l rfl ?_
      refine t_ost (k := 1) (i := j) (l := l) (l' := l.set (Int.toNat j) (l.getD (Int.toNat (j - 1)) default)) (val := .agg #[I ((l.getD (Int.toNat (j - 1)) default).spring), I ((l.getD (Int.toNat (j - 1)) default).town)]) (L' := [cMem encDm am aq (zaa ab ac ae ah ai aj ak), cOwn (α := Dem) 62 aa (l.set (Int.toNat j) (l.getD (Int.toNat (j - 1)) default))]) H rfl Sz62 (by omega) (by omega) (l.getD (Int.toNat (j - 1)) default) rfl rfl rfl rfl rfl ?_
      intro cH H
      refine s_nil ⟨(H.pk [0]), ?_⟩
      refine t_l rfl ?_
      refine s_val (x_ix (a := aa) (b := I (j - 1)) (v := vat aa 2 (Int.toNat (j - 1))) rfl rfl (Sl.ix (α := Dem) T57.und T57.size (H.os 1) (by omega) (by omega))) ?_
      refine s_nil ⟨(H.pk [0]), ?_⟩
      refine t_l rfl ?_
      refine t_ost (k := 1) (i := j - 1) (l := l.set (Int.toNat j) (l.getD (Int.toNat (j - 1)) default)) (l' := (l.set (Int.toNat j) (l.getD (Int.toNat (j - 1)) default)).set (Int.toNat (j - 1)) (l.getD (Int.toNat j) default)) (val := .agg #[I ((l.getD (Int.toNat j) default).spring), I ((l.getD (Int.toNat j) default).town)]) (L' := [cMem encDm am aq (zaa ab ac ae ah ai aj ak), cOwn (α := Dem) 62 aa ((l.set (Int.toNat j) (l.getD (Int.toNat (j - 1)) default)).set (Int.toNat (j - 1)) (l.getD (Int.toNat j) default))]) H rfl Sz62 (by omega) (by omega) (l.getD (Int.toNat j) default) rfl rfl rfl rfl rfl ?_
      intro cI H
      refine s_nil ⟨(H.pk [0]), ?_⟩
      refine t_nil ?_
      refine W.region rfl ?_
      refine zM (I j) rfl ?_
      refine zR j 1 (j - 1) rfl rfl rfl (by omega) ?_
      refine zA (I (j - 1)) rfl ?_
      refine s_nil ?_
      exact ⟨ax, ay, (l.set (Int.toNat j) (l.getD (Int.toNat (j - 1)) default)).set (Int.toNat (j - 1)) (l.getD (Int.toNat j) default), j - 1, aq, _, upds_of _ _ ⟨rfl, rfl, rfl, rfl, rfl, rfl, trivial⟩, M.e_inl hM aw, (H.pk [1, 0])⟩
     skip
     refine s_val (x_ld (p := vat aa 2 (Int.toNat j)) (v := .agg #[I ((l.getD (Int.toNat j) default).spring), I ((l.getD (Int.toNat j) default).town)]) rfl (ld_ag Ag62 Sz62 (At.mono (Dem_atA (H.os 1) (i := j) (by omega) (by omega)) (H.ol 1)))) ?_
     refine s_nil ⟨(H.pk [0]), ?_⟩
     refine t_l rfl ?_
     refine s_val (x_ld (p := vat aa 2 (Int.toNat (j - 1))) (v := .agg #[I ((l.getD (Int.toNat (j - 1)) default).spring), I ((l.getD (Int.toNat (j - 1)) default).town)]) rfl (ld_ag Ag62 Sz62 (At.mono (Dem_atA (H.os 1) (i := j - 1) (by omega) (by omega)) (H.ol 1)))) ?_
     refine s_nil ⟨(H.pk [0]), ?_⟩
     refine t_l rfl ?_
     refine s_val (x_ix (a := aa) (b := I j) (v := vat aa 2 (Int.toNat j)) rfl rfl (Sl.ix (α := Dem) T57.und T57.size (H.os 1) (by omega) (by omega))) ?_
     refine s_nil ⟨(H.pk [0]), ?_⟩
     refine t_l rfl ?_
     refine t_ost (k := 1) (i := j) (l := l) (l' := l.set (Int.toNat j) (l.getD (Int.toNat (j - 1)) default)) (val := .agg #[I ((l.getD (Int.toNat (j - 1)) default).spring), I ((l.getD (Int.toNat (j - 1)) default).town)]) (L' := [cMem encDm am aq (zaa ab ac ae ah ai aj ak), cOwn (α := Dem) 62 aa (l.set (Int.toNat j) (l.getD (Int.toNat (j - 1)) default))]) H rfl Sz62 (by omega) (by omega) (l.getD (Int.toNat (j - 1)) default) rfl rfl rfl rfl rfl ?_
     intro cJ H
     refine s_nil ⟨(H.pk [0]), ?_⟩
     refine t_l rfl ?_
     refine s_val (x_ix (a := aa) (b := I (j - 1)) (v := vat aa 2 (Int.toNat (j - 1))) rfl rfl (Sl.ix (α := Dem) T57.und T57.size (H.os 1) (by omega) (by omega))) ?_
     refine s_nil ⟨(H.pk [0]), ?_⟩
     refine t_l rfl ?_
     refine t_ost (k := 1) (i := j - 1) (l := l.set (Int.toNat j) (l.getD (Int.toNat (j - 1)) default)) (l' := (l.set (Int.toNat j) (l.getD (Int.toNat (j - 1)) default)).set (Int.toNat (j - 1)) (l.getD (Int.toNat j) default)) (val := .agg #[I ((l.getD (Int.toNat j) default).spring), I ((l.getD (Int.toNat j) default).town)]) (L' := [cMem encDm am aq (zaa ab ac ae ah ai aj ak), cOwn (α := Dem) 62 aa ((l.set (Int.toNat j) (l.getD (Int.toNat (j - 1)) default)).set (Int.toNat (j - 1)) (l.getD (Int.toNat j) default))]) H rfl Sz62 (by omega) (by omega) (l.getD (Int.toNat j) default) rfl rfl rfl rfl rfl ?_
     intro cK H
     refine s_nil ⟨(H.pk [0]), ?_⟩
     refine t_nil ?_
     refine W.region rfl ?_
     refine zM (I j) rfl ?_
     refine zR j 1 (j - 1) rfl rfl rfl (by omega) ?_
     refine zA (I (j - 1)) rfl ?_
     refine s_nil ?_
     exact ⟨ax, ay, (l.set (Int.toNat j) (l.getD (Int.toNat (j - 1)) default)).set (Int.toNat (j - 1)) (l.getD (Int.toNat j) default), j - 1, aq, _, upds_of _ _ ⟨rfl, rfl, rfl, rfl, rfl, rfl, trivial⟩, M.e_inl hM aw, (H.pk [1, 0])⟩
    skip
    refine s_val (x_ix (a := aa) (b := I j) (v := vat aa 2 (Int.toNat j)) rfl rfl (Sl.ix (α := Dem) T57.und T57.size (H.os 1) (by omega) (by omega))) ?_
    have cL := Sl.cells (H.os 1)
    have cM := Sl.oc (H.os 1)
    refine s_nil ⟨(H.pk [0]), ?_⟩
    refine t_l2 rfl rfl ?_ ?_
    ·skip
     refine s_val (x_ix (a := aa) (b := I (j - 1)) (v := vat aa 2 (Int.toNat (j - 1))) rfl rfl (Sl.ix (α := Dem) T57.und T57.size (H.os 1) (by omega) (by omega))) ?_
     refine s_nil ⟨(H.pk [0]), ?_⟩
     refine t_l2 rfl rfl ?_ ?_
     ·skip
      refine s_val (x_ld (p := vat aa 2 (Int.toNat (j - 1))) (v := .agg #[I ((l.getD (Int.toNat (j - 1)) default).spring), I ((l.getD (Int.toNat (j - 1)) default).town)]) rfl (ld_ag Ag62 Sz62 (At.mono (Dem_atA (H.os 1) (i := j - 1) (by omega) (by omega)) (H.ol 1)))) ?_
      refine s_nil ⟨(H.pk [0]), ?_⟩
      refine t_l rfl ?_
      refine s_val (x_ld (p := vat aa 2 (Int.toNat j)) (v := .agg #[I ((l.getD (Int.toNat j) default).spring), I ((l.getD (Int.toNat j) default).town)]) rfl (ld_ag Ag62 Sz62 (At.mono (Dem_atA (H.os 1) (i := j) (by omega) (by omega)) (H.ol 1)))) ?_
      refine s_nil ⟨(H.pk [0]), ?_⟩
      refine t_l rfl ?_
      refine s_val (x_ix (a := aa) (b := I j) (v := vat aa 2 (Int.toNat j)) rfl rfl (Sl.ix (α := Dem) T57.und T57.size (H.os 1) (by omega) (by omega))) ?_
      refine s_nil ⟨(H.pk [0]), ?_⟩
      refine t_l rfl ?_
      refine t_ost (k := 1) (i := j) (l := l) (l' := l.set (Int.toNat j) (l.getD (Int.toNat (j - 1)) default)) (val := .agg #[I ((l.getD (Int.toNat (j - 1)) default).spring), I ((l.getD (Int.toNat (j - 1)) default).town)]) (L' := [cMem encDm am aq (zaa ab ac ae ah ai aj ak), cOwn (α := Dem) 62 aa (l.set (Int.toNat j) (l.getD (Int.toNat (j - 1)) default))]) H rfl Sz62 (by omega) (by omega) (l.getD (Int.toNat (j - 1)) default) rfl rfl rfl rfl rfl ?_
      intro cN H
      refine s_nil ⟨(H.pk [0]), ?_⟩
      refine t_l rfl ?_
      refine s_val (x_ix (a := aa) (b := I (j - 1)) (v := vat aa 2 (Int.toNat (j - 1))) rfl rfl (Sl.ix (α := Dem) T57.und T57.size (H.os 1) (by omega) (by omega))) ?_
      refine s_nil ⟨(H.pk [0]), ?_⟩
      refine t_l rfl ?_
      refine t_ost (k := 1) (i := j - 1) (l := l.set (Int.toNat j) (l.getD (Int.toNat (j - 1)) default)) (l' := (l.set (Int.toNat j) (l.getD (Int.toNat (j - 1)) default)).set (Int.toNat (j - 1)) (l.getD (Int.toNat j) default)) (val := .agg #[I ((l.getD (Int.toNat j) default).spring), I ((l.getD (Int.toNat j) default).town)]) (L' := [cMem encDm am aq (zaa ab ac ae ah ai aj ak), cOwn (α := Dem) 62 aa ((l.set (Int.toNat j) (l.getD (Int.toNat (j - 1)) default)).set (Int.toNat (j - 1)) (l.getD (Int.toNat j) default))]) H rfl Sz62 (by omega) (by omega) (l.getD (Int.toNat j) default) rfl rfl rfl rfl rfl ?_
      intro cO H
      refine s_nil ⟨(H.pk [0]), ?_⟩
      refine t_nil ?_
      refine W.region rfl ?_
      refine zM (I j) rfl ?_
      refine zR j 1 (j - 1) rfl rfl rfl (by omega) ?_
      refine zA (I (j - 1)) rfl ?_
      refine s_nil ?_
      exact ⟨ax, ay, (l.set (Int.toNat j) (l.getD (Int.toNat (j - 1)) default)).set (Int.toNat (j - 1)) (l.getD (Int.toNat j) default), j - 1, aq, _, upds_of _ _ ⟨rfl, rfl, rfl, rfl, rfl, rfl, trivial⟩, M.e_inl hM aw, (H.pk [1, 0])⟩
     skip
     refine s_val (x_ld (p := vat aa 2 (Int.toNat j)) (v := .agg #[I ((l.getD (Int.toNat j) default).spring), I ((l.getD (Int.toNat j) default).town)]) rfl (ld_ag Ag62 Sz62 (At.mono (Dem_atA (H.os 1) (i := j) (by omega) (by omega)) (H.ol 1)))) ?_
     refine s_nil ⟨(H.pk [0]), ?_⟩
     refine t_l rfl ?_
     refine s_val (x_ld (p := vat aa 2 (Int.toNat (j - 1))) (v := .agg #[I ((l.getD (Int.toNat (j - 1)) default).spring), I ((l.getD (Int.toNat (j - 1)) default).town)]) rfl (ld_ag Ag62 Sz62 (At.mono (Dem_atA (H.os 1) (i := j - 1) (by omega) (by omega)) (H.ol 1)))) ?_
     refine s_nil ⟨(H.pk [0]), ?_⟩
     refine t_l rfl ?_
     refine s_val (x_ix (a := aa) (b := I j) (v := vat aa 2 (Int.toNat j)) rfl rfl (Sl.ix (α := Dem) T57.und T57.size (H.os 1) (by omega) (by omega))) ?_
     refine s_nil ⟨(H.pk [0]), ?_⟩
     refine t_l rfl ?_
     refine t_ost (k := 1) (i := j) (l := l) (l' := l.set (Int.toNat j) (l.getD (Int.toNat (j - 1)) default)) (val := .agg #[I ((l.getD (Int.toNat (j - 1)) default).spring), I ((l.getD (Int.toNat (j - 1)) default).town)]) (L' := [cMem encDm am aq (zaa ab ac ae ah ai aj ak), cOwn (α := Dem) 62 aa (l.set (Int.toNat j) (l.getD (Int.toNat (j - 1)) default))]) H rfl Sz62 (by omega) (by omega) (l.getD (Int.toNat (j - 1)) default) rfl rfl rfl rfl rfl ?_
     intro cP H
     refine s_nil ⟨(H.pk [0]), ?_⟩
     refine t_l rfl ?_
     refine s_val (x_ix (a := aa) (b := I (j - 1)) (v := vat aa 2 (Int.toNat (j - 1))) rfl rfl (Sl.ix (α := Dem) T57.und T57.size (H.os 1) (by omega) (by omega))) ?_
     refine s_nil ⟨(H.pk [0]), ?_⟩
     refine t_l rfl ?_
     refine t_ost (k := 1) (i := j - 1) (l := l.set (Int.toNat j) (l.getD (Int.toNat (j - 1)) default)) (l' := (l.set (Int.toNat j) (l.getD (Int.toNat (j - 1)) default)).set (Int.toNat (j - 1)) (l.getD (Int.toNat j) default)) (val := .agg #[I ((l.getD (Int.toNat j) default).spring), I ((l.getD (Int.toNat j) default).town)]) (L' := [cMem encDm am aq (zaa ab ac ae ah ai aj ak), cOwn (α := Dem) 62 aa ((l.set (Int.toNat j) (l.getD (Int.toNat (j - 1)) default)).set (Int.toNat (j - 1)) (l.getD (Int.toNat j) default))]) H rfl Sz62 (by omega) (by omega) (l.getD (Int.toNat j) default) rfl rfl rfl rfl rfl ?_
     intro cQ H
     refine s_nil ⟨(H.pk [0]), ?_⟩
     refine t_nil ?_
     refine W.region rfl ?_
     refine zM (I j) rfl ?_
     refine zR j 1 (j - 1) rfl rfl rfl (by omega) ?_
     refine zA (I (j - 1)) rfl ?_
     refine s_nil ?_
     exact ⟨ax, ay, (l.set (Int.toNat j) (l.getD (Int.toNat (j - 1)) default)).set (Int.toNat (j - 1)) (l.getD (Int.toNat j) default), j - 1, aq, _, upds_of _ _ ⟨rfl, rfl, rfl, rfl, rfl, rfl, trivial⟩, M.e_inl hM aw, (H.pk [1, 0])⟩
    skip
    refine s_val (x_ld (p := vat aa 2 (Int.toNat j)) (v := .agg #[I ((l.getD (Int.toNat j) default).spring), I ((l.getD (Int.toNat j) default).town)]) rfl (ld_ag Ag62 Sz62 (At.mono (Dem_atA (H.os 1) (i := j) (by omega) (by omega)) (H.ol 1)))) ?_
    refine s_nil ⟨(H.pk [0]), ?_⟩
    refine t_l rfl ?_
    refine s_val (x_ix (a := aa) (b := I (j - 1)) (v := vat aa 2 (Int.toNat (j - 1))) rfl rfl (Sl.ix (α := Dem) T57.und T57.size (H.os 1) (by omega) (by omega))) ?_
    refine s_nil ⟨(H.pk [0]), ?_⟩
    refine t_l rfl ?_
    refine s_val (x_ld (p := vat aa 2 (Int.toNat (j - 1))) (v := .agg #[I ((l.getD (Int.toNat (j - 1)) default).spring), I ((l.getD (Int.toNat (j - 1)) default).town)]) rfl (ld_ag Ag62 Sz62 (At.mono (Dem_atA (H.os 1) (i := j - 1) (by omega) (by omega)) (H.ol 1)))) ?_
    refine s_nil ⟨(H.pk [0]), ?_⟩
    refine t_l rfl ?_
    refine s_val (x_ix (a := aa) (b := I j) (v := vat aa 2 (Int.toNat j)) rfl rfl (Sl.ix (α := Dem) T57.und T57.size (H.os 1) (by omega) (by omega))) ?_
    refine s_nil ⟨(H.pk [0]), ?_⟩
    refine t_l rfl ?_
    refine t_ost (k := 1) (i := j) (l := l) (l' := l.set (Int.toNat j) (l.getD (Int.toNat (j - 1)) default)) (val := .agg #[I ((l.getD (Int.toNat (j - 1)) default).spring), I ((l.getD (Int.toNat (j - 1)) default).town)]) (L' := [cMem encDm am aq (zaa ab ac ae ah ai aj ak), cOwn (α := Dem) 62 aa (l.set (Int.toNat j) (l.getD (Int.toNat (j - 1)) default))]) H rfl Sz62 (by omega) (by omega) (l.getD (Int.toNat (j - 1)) default) rfl rfl rfl rfl rfl ?_
    intro cR H
    refine s_nil ⟨(H.pk [0]), ?_⟩
    refine t_l rfl ?_
    refine s_val (x_ix (a := aa) (b := I (j - 1)) (v := vat aa 2 (Int.toNat (j - 1))) rfl rfl (Sl.ix (α := Dem) T57.und T57.size (H.os 1) (by omega) (by omega))) ?_
    refine s_nil ⟨(H.pk [0]), ?_⟩
    refine t_l rfl ?_
    refine t_ost (k := 1) (i := j - 1) (l := l.set (Int.toNat j) (l.getD (Int.toNat (j - 1)) default)) (l' := (l.set (Int.toNat j) (l.getD (Int.toNat (j - 1)) default)).set (Int.toNat (j - 1)) (l.getD (Int.toNat j) default)) (val := .agg #[I ((l.getD (Int.toNat j) default).spring), I ((l.getD (Int.toNat j) default).town)]) (L' := [cMem encDm am aq (zaa ab ac ae ah ai aj ak), cOwn (α := Dem) 62 aa ((l.set (Int.toNat j) (l.getD (Int.toNat (j - 1)) default)).set (Int.toNat (j - 1)) (l.getD (Int.toNat j) default))]) H rfl Sz62 (by omega) (by omega) (l.getD (Int.toNat j) default) rfl rfl rfl rfl rfl ?_
    intro cS H
    refine s_nil ⟨(H.pk [0]), ?_⟩
    refine t_nil ?_
    refine W.region rfl ?_
    refine zM (I j) rfl ?_
    refine zR j 1 (j - 1) rfl rfl rfl (by omega) ?_
    refine zA (I (j - 1)) rfl ?_
    refine s_nil ?_
    exact ⟨ax, ay, (l.set (Int.toNat j) (l.getD (Int.toNat (j - 1)) default)).set (Int.toNat (j - 1)) (l.getD (Int.toNat j) default), j - 1, aq, _, upds_of _ _ ⟨rfl, rfl, rfl, rfl, rfl, rfl, trivial⟩, M.e_inl hM aw, (H.pk [1, 0])⟩
   replace hM := M.e_f hM aP
   refine W.exit ?_
   have ce := M.e_inr hM aw
   subst ce
   replace hM := bu
   try dsimp only at hM
   refine W.region rfl ?_
   refine zM (I i) rfl ?_
   obtain ⟨cf, hM⟩ := M.e_grd hM
   simp only [Bool.and_eq_true, decide_eq_true_eq] at cf
   refine zR i 1 (i + 1) rfl rfl rfl (by omega) ?_
   refine zA (I (i + 1)) rfl ?_
   refine s_nil ?_
   exact ⟨br, bt, l, i + 1, aq, _, upds_of _ _ ⟨rfl, rfl, rfl, rfl, rfl, trivial⟩, M.e_inl hM aN, (H.pk [1, 0])⟩
  replace hM := M.e_f hM aD
  refine s_nil ⟨(H.pk [0]), ?_⟩
  refine d_qg (decide (a < j)) rfl (gy_t rfl) (fun hg => (fun w' H => x_cmp (kd := .i64) (a := 0) (b := 0) (r := decide ((0 : Int) < 0)) (gd_of (c := decide (a < j)) hg (I 0)) rfl rfl)) ?_
  refine d_q rfl (fun w' H => x_pand (b := decide (a < j)) (r := decide ((0 : Int) < 0)) rfl (fun hb => gd_of (c := decide (a < j)) (by first | exact hb | (rw [hb]; rfl) | simp_all) (B (decide ((0 : Int) < 0)))) rfl) ?_
  refine d_nil ?_
  refine W.cond ((decide (a < j)) && (decide ((0 : Int) < 0))) rfl (fun aQ => ?_) (fun aQ => ?_)
  ·replace hM := M.e_t hM aQ
   refine W.skip ?_
   refine W.seq ?_
   refine W.block ?_
   refine W.drawT (fun W => St w W [cMem encDm am B_mem (zaa ab ac ae ah ai aj ak)] R) (.q 0 (.q 1 (.q 2 (.q 3 (.q 4 (.q 5 (.q 6 (.q 7 (.q 10 (.q 11 (.l2 8 (.l2 9 (.l 12 (.l 13 (.l 14 (.l 15 (.l 16 (.l 17 .nil)))))) 12 (.l2 9 (.l 13 (.l 14 (.l 15 (.l 16 (.l 17 .nil))))) 13 (.l 9 (.l 14 (.l 15 (.l 16 (.l 17 .nil))))))) 12 (.l2 8 (.l2 9 (.l 13 (.l 14 (.l 15 (.l 16 (.l 17 .nil))))) 13 (.l 9 (.l 14 (.l 15 (.l 16 (.l 17 .nil)))))) 13 (.l 8 (.l 9 (.l 14 (.l 15 (.l 16 (.l 17 .nil)))))))))))))))))) mixed (by decide +kernel) rfl ?_
   intro cT ao
   replace H := H.ext ao
   clear ao
   refine ⟨(H.pk [1]), ?_⟩
   refine t_q rfl (fun w' H => x_mv (v := aa) rfl) ?_
   refine t_q rfl (fun w' H => x_mv (v := I j) rfl) ?_
   refine t_q rfl (fun w' H => x_mv (v := aa) rfl) ?_
   refine t_q rfl (fun w' H => x_mv (v := I j) rfl) ?_
   obtain ⟨cg, hM⟩ := M.e_grd hM
   simp only [Bool.and_eq_true, decide_eq_true_eq] at cg
   refine t_q rfl (fun w' H => x_ari (a := j) (b := 1) (r := j - 1) rfl rfl rfl (by omega)) ?_
   refine t_q rfl (fun w' H => x_mv (v := aa) rfl) ?_
   refine t_q rfl (fun w' H => x_mv (v := I j) rfl) ?_
   refine t_q rfl (fun w' H => x_ari (a := j) (b := 1) (r := j - 1) rfl rfl rfl (by omega)) ?_
   refine t_q rfl (fun w' H => x_mv (v := aa) rfl) ?_
   refine t_q rfl (fun w' H => x_mv (v := I j) rfl) ?_
   obtain ⟨ch, hM⟩ := M.e_grd hM
   simp only [Bool.and_eq_true, decide_eq_true_eq] at ch
   obtain ⟨ck, hM⟩ := M.e_grd hM
   simp only [Bool.and_eq_true, decide_eq_true_eq] at ck
   obtain ⟨cl, hM⟩ := M.e_grd hM
   simp only [Bool.and_eq_true, decide_eq_true_eq] at cl
   refine t_l2 rfl rfl ?_ ?_
   ·skip
    refine s_val (x_ix (a := aa) (b := I (j - 1)) (v := vat aa 2 (Int.toNat (j - 1))) rfl rfl (Sl.ix (α := Dem) T57.und T57.size (H.os 0) (by omega) (by omega))) ?_
    have cU := Sl.cells (H.os 0)
    have cV := Sl.oc (H.os 0)
    refine s_nil ⟨(H.pk [1]), ?_⟩
    refine t_l2 rfl rfl ?_ ?_
    ·skip
     refine s_val (x_ld (p := vat aa 2 (Int.toNat (j - 1))) (v := .agg #[I ((l.getD (Int.toNat (j - 1)) default).spring), I ((l.getD (Int.toNat (j - 1)) default).town)]) rfl (ld_ag Ag62 Sz62 (At.mono (Dem_atA (H.os 0) (i := j - 1) (by omega) (by omega)) (H.ol 0)))) ?_
     refine s_nil ⟨(H.pk [1]), ?_⟩
     refine t_l rfl ?_
     refine s_val (x_ix (a := aa) (b := I j) (v := vat aa 2 (Int.toNat j)) rfl rfl (Sl.ix (α := Dem) T57.und T57.size (H.os 0) (by omega) (by omega))) ?_
     refine s_nil ⟨(H.pk [1]), ?_⟩
     refine t_l rfl ?_
     refine s_val (x_ld (p := vat aa 2 (Int.toNat j)) (v := .agg #[I ((l.getD (Int.toNat j) default).spring), I ((l.getD (Int.toNat j) default).town)]) rfl (ld_ag Ag62 Sz62 (At.mono (Dem_atA (H.os 0) (i := j) (by omega) (by omega)) (H.ol 0)))) ?_
     refine s_nil ⟨(H.pk [1]), ?_⟩
     refine t_l rfl ?_
     refine s_val (x_ix (a := aa) (b := I j) (v := vat aa 2 (Int.toNat j)) rfl rfl (Sl.ix (α := Dem) T57.und T57.size (H.os 0) (by omega) (by omega))) ?_
     refine s_nil ⟨(H.pk [1]), ?_⟩
     refine t_l rfl ?_
     refine t_ost (k := 0) (i := j) (l := l) (l' := l.set (Int.toNat j) (l.getD (Int.toNat (j - 1)) default)) (val := .agg #[I ((l.getD (Int.toNat (j - 1)) default).spring), I ((l.getD (Int.toNat (j - 1)) default).town)]) (L' := [cOwn (α := Dem) 62 aa (l.set (Int.toNat j) (l.getD (Int.toNat (j - 1)) default)), cMem encDm am B_mem (zaa ab ac ae ah ai aj ak)]) H rfl Sz62 (by omega) (by omega) (l.getD (Int.toNat (j - 1)) default) rfl rfl rfl rfl rfl ?_
     intro cW H
     refine s_nil ⟨(H.pk [1]), ?_⟩
     refine t_l rfl ?_
     refine s_val (x_ix (a := aa) (b := I (j - 1)) (v := vat aa 2 (Int.toNat (j - 1))) rfl rfl (Sl.ix (α := Dem) T57.und T57.size (H.os 0) (by omega) (by omega))) ?_
     refine s_nil ⟨(H.pk [1]), ?_⟩
     refine t_l rfl ?_
     refine t_ost (k := 0) (i := j - 1) (l := l.set (Int.toNat j) (l.getD (Int.toNat (j - 1)) default)) (l' := (l.set (Int.toNat j) (l.getD (Int.toNat (j - 1)) default)).set (Int.toNat (j - 1)) (l.getD (Int.toNat j) default)) (val := .agg #[I ((l.getD (Int.toNat j) default).spring), I ((l.getD (Int.toNat j) default).town)]) (L' := [cOwn (α := Dem) 62 aa ((l.set (Int.toNat j) (l.getD (Int.toNat (j - 1)) default)).set (Int.toNat (j - 1)) (l.getD (Int.toNat j) default)), cMem encDm am B_mem (zaa ab ac ae ah ai aj ak)]) H rfl Sz62 (by omega) (by omega) (l.getD (Int.toNat j) default) rfl rfl rfl rfl rfl ?_
     intro cX H
     refine s_nil ⟨(H.pk [1]), ?_⟩
     refine t_nil ?_
     refine W.region rfl ?_
     refine zM (I j) rfl ?_
     refine zR j 1 (j - 1) rfl rfl rfl (by omega) ?_
     refine zA (I (j - 1)) rfl ?_
     refine s_nil ?_
     exact ⟨ax, ay, (l.set (Int.toNat j) (l.getD (Int.toNat (j - 1)) default)).set (Int.toNat (j - 1)) (l.getD (Int.toNat j) default), j - 1, B_mem, _, upds_of _ _ ⟨rfl, rfl, rfl, rfl, rfl, rfl, trivial⟩, M.e_inl hM aw, H⟩
    skip
    refine s_val (x_ix (a := aa) (b := I j) (v := vat aa 2 (Int.toNat j)) rfl rfl (Sl.ix (α := Dem) T57.und T57.size (H.os 0) (by omega) (by omega))) ?_
    refine s_nil ⟨(H.pk [1]), ?_⟩
    refine t_l2 rfl rfl ?_ ?_
    ·skip
     refine s_val (x_ld (p := vat aa 2 (Int.toNat (j - 1))) (v := .agg #[I ((l.getD (Int.toNat (j - 1)) default).spring), I ((l.getD (Int.toNat (j - 1)) default).town)]) rfl (ld_ag Ag62 Sz62 (At.mono (Dem_atA (H.os 0) (i := j - 1) (by omega) (by omega)) (H.ol 0)))) ?_
     refine s_nil ⟨(H.pk [1]), ?_⟩
     refine t_l rfl ?_
     refine s_val (x_ld (p := vat aa 2 (Int.toNat j)) (v := .agg #[I ((l.getD (Int.toNat j) default).spring), I ((l.getD (Int.toNat j) default).town)]) rfl (ld_ag Ag62 Sz62 (At.mono (Dem_atA (H.os 0) (i := j) (by omega) (by omega)) (H.ol 0)))) ?_
     refine s_nil ⟨(H.pk [1]), ?_⟩
     refine t_l rfl ?_
     refine s_val (x_ix (a := aa) (b := I j) (v := vat aa 2 (Int.toNat j)) rfl rfl (Sl.ix (α := Dem) T57.und T57.size (H.os 0) (by omega) (by omega))) ?_
     refine s_nil ⟨(H.pk [1]), ?_⟩
     refine t_l rfl ?_
     refine t_ost (k := 0) (i := j) (l := l) (l' := l.set (Int.toNat j) (l.getD (Int.toNat (j - 1)) default)) (val := .agg #[I ((l.getD (Int.toNat (j - 1)) default).spring), I ((l.getD (Int.toNat (j - 1)) default).town)]) (L' := [cOwn (α := Dem) 62 aa (l.set (Int.toNat j) (l.getD (Int.toNat (j - 1)) default)), cMem encDm am B_mem (zaa ab ac ae ah ai aj ak)]) H rfl Sz62 (by omega) (by omega) (l.getD (Int.toNat (j - 1)) default) rfl rfl rfl rfl rfl ?_
     intro cY H
     refine s_nil ⟨(H.pk [1]), ?_⟩
     refine t_l rfl ?_
     refine s_val (x_ix (a := aa) (b := I (j - 1)) (v := vat aa 2 (Int.toNat (j - 1))) rfl rfl (Sl.ix (α := Dem) T57.und T57.size (H.os 0) (by omega) (by omega))) ?_
     refine s_nil ⟨(H.pk [1]), ?_⟩
     refine t_l rfl ?_
     refine t_ost (k := 0) (i := j - 1) (l := l.set (Int.toNat j) (l.getD (Int.toNat (j - 1)) default)) (l' := (l.set (Int.toNat j) (l.getD (Int.toNat (j - 1)) default)).set (Int.toNat (j - 1)) (l.getD (Int.toNat j) default)) (val := .agg #[I ((l.getD (Int.toNat j) default).spring), I ((l.getD (Int.toNat j) default).town)]) (L' := [cOwn (α := Dem) 62 aa ((l.set (Int.toNat j) (l.getD (Int.toNat (j - 1)) default)).set (Int.toNat (j - 1)) (l.getD (Int.toNat j) default)), cMem encDm am B_mem (zaa ab ac ae ah ai aj ak)]) H rfl Sz62 (by omega) (by omega) (l.getD (Int.toNat j) default) rfl rfl rfl rfl rfl ?_
     intro cZ H
     refine s_nil ⟨(H.pk [1]), ?_⟩
     refine t_nil ?_
     refine W.region rfl ?_
     refine zM (I j) rfl ?_
     refine zR j 1 (j - 1) rfl rfl rfl (by omega) ?_
     refine zA (I (j - 1)) rfl ?_
     refine s_nil ?_
     exact ⟨ax, ay, (l.set (Int.toNat j) (l.getD (Int.toNat (j - 1)) default)).set (Int.toNat (j - 1)) (l.getD (Int.toNat j) default), j - 1, B_mem, _, upds_of _ _ ⟨rfl, rfl, rfl, rfl, rfl, rfl, trivial⟩, M.e_inl hM aw, H⟩
    skip
    refine s_val (x_ld (p := vat aa 2 (Int.toNat j)) (v := .agg #[I ((l.getD (Int.toNat j) default).spring), I ((l.getD (Int.toNat j) default).town)]) rfl (ld_ag Ag62 Sz62 (At.mono (Dem_atA (H.os 0) (i := j) (by omega) (by omega)) (H.ol 0)))) ?_
    refine s_nil ⟨(H.pk [1]), ?_⟩
    refine t_l rfl ?_
    refine s_val (x_ld (p := vat aa 2 (Int.toNat (j - 1))) (v := .agg #[I ((l.getD (Int.toNat (j - 1)) default).spring), I ((l.getD (Int.toNat (j - 1)) default).town)]) rfl (ld_ag Ag62 Sz62 (At.mono (Dem_atA (H.os 0) (i := j - 1) (by omega) (by omega)) (H.ol 0)))) ?_
    refine s_nil ⟨(H.pk [1]), ?_⟩
    refine t_l rfl ?_
    refine s_val (x_ix (a := aa) (b := I j) (v := vat aa 2 (Int.toNat j)) rfl rfl (Sl.ix (α := Dem) T57.und T57.size (H.os 0) (by omega) (by omega))) ?_
    refine s_nil ⟨(H.pk [1]), ?_⟩
    refine t_l rfl ?_
    refine t_ost (k := 0) (i := j) (l := l) (l' := l.set (Int.toNat j) (l.getD (Int.toNat (j - 1)) default)) (val := .agg #[I ((l.getD (Int.toNat (j - 1)) default).spring), I ((l.getD (Int.toNat (j - 1)) default).town)]) (L' := [cOwn (α := Dem) 62 aa (l.set (Int.toNat j) (l.getD (Int.toNat (j - 1)) default)), cMem encDm am B_mem (zaa ab ac ae ah ai aj ak)]) H rfl Sz62 (by omega) (by omega) (l.getD (Int.toNat (j - 1)) default) rfl rfl rfl rfl rfl ?_
    intro c0 H
    refine s_nil ⟨(H.pk [1]), ?_⟩
    refine t_l rfl ?_
    refine s_val (x_ix (a := aa) (b := I (j - 1)) (v := vat aa 2 (Int.toNat (j - 1))) rfl rfl (Sl.ix (α := Dem) T57.und T57.size (H.os 0) (by omega) (by omega))) ?_
    refine s_nil ⟨(H.pk [1]), ?_⟩
    refine t_l rfl ?_
    refine t_ost (k := 0) (i := j - 1) (l := l.set (Int.toNat j) (l.getD (Int.toNat (j - 1)) default)) (l' := (l.set (Int.toNat j) (l.getD (Int.toNat (j - 1)) default)).set (Int.toNat (j - 1)) (l.getD (Int.toNat j) default)) (val := .agg #[I ((l.getD (Int.toNat j) default).spring), I ((l.getD (Int.toNat j) default).town)]) (L' := [cOwn (α := Dem) 62 aa ((l.set (Int.toNat j) (l.getD (Int.toNat (j - 1)) default)).set (Int.toNat (j - 1)) (l.getD (Int.toNat j) default)), cMem encDm am B_mem (zaa ab ac ae ah ai aj ak)]) H rfl Sz62 (by omega) (by omega) (l.getD (Int.toNat j) default) rfl rfl rfl rfl rfl ?_
    intro c6 H
    refine s_nil ⟨(H.pk [1]), ?_⟩
    refine t_nil ?_
    refine W.region rfl ?_
    refine zM (I j) rfl ?_
    refine zR j 1 (j - 1) rfl rfl rfl (by omega) ?_
    refine zA (I (j - 1)) rfl ?_
    refine s_nil ?_
    exact ⟨ax, ay, (l.set (Int.toNat j) (l.getD (Int.toNat (j - 1)) default)).set (Int.toNat (j - 1)) (l.getD (Int.toNat j) default), j - 1, B_mem, _, upds_of _ _ ⟨rfl, rfl, rfl, rfl, rfl, rfl, trivial⟩, M.e_inl hM aw, H⟩
   skip
   refine s_val (x_ix (a := aa) (b := I j) (v := vat aa 2 (Int.toNat j)) rfl rfl (Sl.ix (α := Dem) T57.und T57.size (H.os 0) (by omega) (by omega))) ?_
   have c7 := Sl.cells (H.os 0)
   have c8 := Sl.oc (H.os 0)
   refine s_nil ⟨(H.pk [1]), ?_⟩
   refine t_l2 rfl rfl ?_ ?_
   ·skip
    refine s_val (x_ix (a := aa) (b := I (j - 1)) (v := vat aa 2 (Int.toNat (j - 1))) rfl rfl (Sl.ix (α := Dem) T57.und T57.size (H.os 0) (by omega) (by omega))) ?_
    refine s_nil ⟨(H.pk [1]), ?_⟩
    refine t_l2 rfl rfl ?_ ?_
    ·skip
     refine s_val (x_ld (p := vat aa 2 (Int.toNat (j - 1))) (v := .agg #[I ((l.getD (Int.toNat (j - 1)) default).spring), I ((l.getD (Int.toNat (j - 1)) default).town)]) rfl (ld_ag Ag62 Sz62 (At.mono (Dem_atA (H.os 0) (i := j - 1) (by omega) (by omega)) (H.ol 0)))) ?_
     refine s_nil ⟨(H.pk [1]), ?_⟩
     refine t_l rfl ?_
     refine s_val (x_ld (p := vat aa 2 (Int.toNat j)) (v := .agg #[I ((l.getD (Int.toNat j) default).spring), I ((l.getD (Int.toNat j) default).town)]) rfl (ld_ag Ag62 Sz62 (At.mono (Dem_atA (H.os 0) (i := j) (by omega) (by omega)) (H.ol 0)))) ?_
     refine s_nil ⟨(H.pk [1]), ?_⟩
     refine t_l rfl ?_
     refine s_val (x_ix (a := aa) (b := I j) (v := vat aa 2 (Int.toNat j)) rfl rfl (Sl.ix (α := Dem) T57.und T57.size (H.os 0) (by omega) (by omega))) ?_
     refine s_nil ⟨(H.pk [1]), ?_⟩
     refine t_l rfl ?_
     refine t_ost (k := 0) (i := j) (l := l) (l' := l.set (Int.toNat j) (l.getD (Int.toNat (j - 1)) default)) (val := .agg #[I ((l.getD (Int.toNat (j - 1)) default).spring), I ((l.getD (Int.toNat (j - 1)) default).town)]) (L' := [cOwn (α := Dem) 62 aa (l.set (Int.toNat j) (l.getD (Int.toNat (j - 1)) default)), cMem encDm am B_mem (zaa ab ac ae ah ai aj ak)]) H rfl Sz62 (by omega) (by omega) (l.getD (Int.toNat (j - 1)) default) rfl rfl rfl rfl rfl ?_
     intro c9 H
     refine s_nil ⟨(H.pk [1]), ?_⟩
     refine t_l rfl ?_
     refine s_val (x_ix (a := aa) (b := I (j - 1)) (v := vat aa 2 (Int.toNat (j - 1))) rfl rfl (Sl.ix (α := Dem) T57.und T57.size (H.os 0) (by omega) (by omega))) ?_
     refine s_nil ⟨(H.pk [1]), ?_⟩
     refine t_l rfl ?_
     refine t_ost (k := 0) (i := j - 1) (l := l.set (Int.toNat j) (l.getD (Int.toNat (j - 1)) default)) (l' := (l.set (Int.toNat j) (l.getD (Int.toNat (j - 1)) default)).set (Int.toNat (j - 1)) (l.getD (Int.toNat j) default)) (val := .agg #[I ((l.getD (Int.toNat j) default).spring), I ((l.getD (Int.toNat j) default).town)]) (L' := [cOwn (α := Dem) 62 aa ((l.set (Int.toNat j) (l.getD (Int.toNat (j - 1)) default)).set (Int.toNat (j - 1)) (l.getD (Int.toNat j) default)), cMem encDm am B_mem (zaa ab ac ae ah ai aj ak)]) H rfl Sz62 (by omega) (by omega) (l.getD (Int.toNat j) default) rfl rfl rfl rfl rfl ?_
     intro da H
     refine s_nil ⟨(H.pk [1]), ?_⟩
     refine t_nil ?_
     refine W.region rfl ?_
     refine zM (I j) rfl ?_
     refine zR j 1 (j - 1) rfl rfl rfl (by omega) ?_
     refine zA (I (j - 1)) rfl ?_
     refine s_nil ?_
     exact ⟨ax, ay, (l.set (Int.toNat j) (l.getD (Int.toNat (j - 1)) default)).set (Int.toNat (j - 1)) (l.getD (Int.toNat j) default), j - 1, B_mem, _, upds_of _ _ ⟨rfl, rfl, rfl, rfl, rfl, rfl, trivial⟩, M.e_inl hM aw, H⟩
    skip
    refine s_val (x_ld (p := vat aa 2 (Int.toNat j)) (v := .agg #[I ((l.getD (Int.toNat j) default).spring), I ((l.getD (Int.toNat j) default).town)]) rfl (ld_ag Ag62 Sz62 (At.mono (Dem_atA (H.os 0) (i := j) (by omega) (by omega)) (H.ol 0)))) ?_
    refine s_nil ⟨(H.pk [1]), ?_⟩
    refine t_l rfl ?_
    refine s_val (x_ld (p := vat aa 2 (Int.toNat (j - 1))) (v := .agg #[I ((l.getD (Int.toNat (j - 1)) default).spring), I ((l.getD (Int.toNat (j - 1)) default).town)]) rfl (ld_ag Ag62 Sz62 (At.mono (Dem_atA (H.os 0) (i := j - 1) (by omega) (by omega)) (H.ol 0)))) ?_
    refine s_nil ⟨(H.pk [1]), ?_⟩
    refine t_l rfl ?_
    refine s_val (x_ix (a := aa) (b := I j) (v := vat aa 2 (Int.toNat j)) rfl rfl (Sl.ix (α := Dem) T57.und T57.size (H.os 0) (by omega) (by omega))) ?_
    refine s_nil ⟨(H.pk [1]), ?_⟩
    refine t_l rfl ?_
    refine t_ost (k := 0) (i := j) (l := l) (l' := l.set (Int.toNat j) (l.getD (Int.toNat (j - 1)) default)) (val := .agg #[I ((l.getD (Int.toNat (j - 1)) default).spring), I ((l.getD (Int.toNat (j - 1)) default).town)]) (L' := [cOwn (α := Dem) 62 aa (l.set (Int.toNat j) (l.getD (Int.toNat (j - 1)) default)), cMem encDm am B_mem (zaa ab ac ae ah ai aj ak)]) H rfl Sz62 (by omega) (by omega) (l.getD (Int.toNat (j - 1)) default) rfl rfl rfl rfl rfl ?_
    intro db H
    refine s_nil ⟨(H.pk [1]), ?_⟩
    refine t_l rfl ?_
    refine s_val (x_ix (a := aa) (b := I (j - 1)) (v := vat aa 2 (Int.toNat (j - 1))) rfl rfl (Sl.ix (α := Dem) T57.und T57.size (H.os 0) (by omega) (by omega))) ?_
    refine s_nil ⟨(H.pk [1]), ?_⟩
    refine t_l rfl ?_
    refine t_ost (k := 0) (i := j - 1) (l := l.set (Int.toNat j) (l.getD (Int.toNat (j - 1)) default)) (l' := (l.set (Int.toNat j) (l.getD (Int.toNat (j - 1)) default)).set (Int.toNat (j - 1)) (l.getD (Int.toNat j) default)) (val := .agg #[I ((l.getD (Int.toNat j) default).spring), I ((l.getD (Int.toNat j) default).town)]) (L' := [cOwn (α := Dem) 62 aa ((l.set (Int.toNat j) (l.getD (Int.toNat (j - 1)) default)).set (Int.toNat (j - 1)) (l.getD (Int.toNat j) default)), cMem encDm am B_mem (zaa ab ac ae ah ai aj ak)]) H rfl Sz62 (by omega) (by omega) (l.getD (Int.toNat j) default) rfl rfl rfl rfl rfl ?_
    intro dc H
    refine s_nil ⟨(H.pk [1]), ?_⟩
    refine t_nil ?_
    refine W.region rfl ?_
    refine zM (I j) rfl ?_
    refine zR j 1 (j - 1) rfl rfl rfl (by omega) ?_
    refine zA (I (j - 1)) rfl ?_
    refine s_nil ?_
    exact ⟨ax, ay, (l.set (Int.toNat j) (l.getD (Int.toNat (j - 1)) default)).set (Int.toNat (j - 1)) (l.getD (Int.toNat j) default), j - 1, B_mem, _, upds_of _ _ ⟨rfl, rfl, rfl, rfl, rfl, rfl, trivial⟩, M.e_inl hM aw, H⟩
   skip
   refine s_val (x_ld (p := vat aa 2 (Int.toNat j)) (v := .agg #[I ((l.getD (Int.toNat j) default).spring), I ((l.getD (Int.toNat j) default).town)]) rfl (ld_ag Ag62 Sz62 (At.mono (Dem_atA (H.os 0) (i := j) (by omega) (by omega)) (H.ol 0)))) ?_
   refine s_nil ⟨(H.pk [1]), ?_⟩
   refine t_l rfl ?_
   refine s_val (x_ix (a := aa) (b := I (j - 1)) (v := vat aa 2 (Int.toNat (j - 1))) rfl rfl (Sl.ix (α := Dem) T57.und T57.size (H.os 0) (by omega) (by omega))) ?_
   refine s_nil ⟨(H.pk [1]), ?_⟩
   refine t_l rfl ?_
   refine s_val (x_ld (p := vat aa 2 (Int.toNat (j - 1))) (v := .agg #[I ((l.getD (Int.toNat (j - 1)) default).spring), I ((l.getD (Int.toNat (j - 1)) default).town)]) rfl (ld_ag Ag62 Sz62 (At.mono (Dem_atA (H.os 0) (i := j - 1) (by omega) (by omega)) (H.ol 0)))) ?_
   refine s_nil ⟨(H.pk [1]), ?_⟩
   refine t_l rfl ?_
   refine s_val (x_ix (a := aa) (b := I j) (v := vat aa 2 (Int.toNat j)) rfl rfl (Sl.ix (α := Dem) T57.und T57.size (H.os 0) (by omega) (by omega))) ?_
   refine s_nil ⟨(H.pk [1]), ?_⟩
   refine t_l rfl ?_
   refine t_ost (k := 0) (i := j) (l := l) (l' := l.set (Int.toNat j) (l.getD (Int.toNat (j - 1)) default)) (val := .agg #[I ((l.getD (Int.toNat (j - 1)) default).spring), I ((l.getD (Int.toNat (j - 1)) default).town)]) (L' := [cOwn (α := Dem) 62 aa (l.set (Int.toNat j) (l.getD (Int.toNat (j - 1)) default)), cMem encDm am B_mem (zaa ab ac ae ah ai aj ak)]) H rfl Sz62 (by omega) (by omega) (l.getD (Int.toNat (j - 1)) default) rfl rfl rfl rfl rfl ?_
   intro dd H
   refine s_nil ⟨(H.pk [1]), ?_⟩
   refine t_l rfl ?_
   refine s_val (x_ix (a := aa) (b := I (j - 1)) (v := vat aa 2 (Int.toNat (j - 1))) rfl rfl (Sl.ix (α := Dem) T57.und T57.size (H.os 0) (by omega) (by omega))) ?_
   refine s_nil ⟨(H.pk [1]), ?_⟩
   refine t_l rfl ?_
   refine t_ost (k := 0) (i := j - 1) (l := l.set (Int.toNat j) (l.getD (Int.toNat (j - 1)) default)) (l' := (l.set (Int.toNat j) (l.getD (Int.toNat (j - 1)) default)).set (Int.toNat (j - 1)) (l.getD (Int.toNat j) default)) (val := .agg #[I ((l.getD (Int.toNat j) default).spring), I ((l.getD (Int.toNat j) default).town)]) (L' := [cOwn (α := Dem) 62 aa ((l.set (Int.toNat j) (l.getD (Int.toNat (j - 1)) default)).set (Int.toNat (j - 1)) (l.getD (Int.toNat j) default)), cMem encDm am B_mem (zaa ab ac ae ah ai aj ak)]) H rfl Sz62 (by omega) (by omega) (l.getD (Int.toNat j) default) rfl rfl rfl rfl rfl ?_
   intro de H
   refine s_nil ⟨(H.pk [1]), ?_⟩
   refine t_nil ?_
   refine W.region rfl ?_
   refine zM (I j) rfl ?_
   refine zR j 1 (j - 1) rfl rfl rfl (by omega) ?_
   refine zA (I (j - 1)) rfl ?_
   refine s_nil ?_
   exact ⟨ax, ay, (l.set (Int.toNat j) (l.getD (Int.toNat (j - 1)) default)).set (Int.toNat (j - 1)) (l.getD (Int.toNat j) default), j - 1, B_mem, _, upds_of _ _ ⟨rfl, rfl, rfl, rfl, rfl, rfl, trivial⟩, M.e_inl hM aw, H⟩
  replace hM := M.e_f hM aQ
  refine W.exit ?_
  have cm := M.e_inr hM aw
  subst cm
  replace hM := bu
  try dsimp only at hM
  refine W.region rfl ?_
  refine zM (I i) rfl ?_
  obtain ⟨cn, hM⟩ := M.e_grd hM
  simp only [Bool.and_eq_true, decide_eq_true_eq] at cn
  refine zR i 1 (i + 1) rfl rfl rfl (by omega) ?_
  refine zA (I (i + 1)) rfl ?_
  refine s_nil ?_
  exact ⟨br, bt, l, i + 1, B_mem, _, upds_of _ _ ⟨rfl, rfl, rfl, rfl, rfl, trivial⟩, M.e_inl hM aN, H⟩
 replace hM := M.e_f hM aL
 simp only [qy1, qy2, qy3, qy4, qy5, qy6, ne_eq, qy7] at aL
 refine W.exit ?_
 have co := M.e_inr hM aN
 subst co
 replace hM := b5
 try dsimp only at hM
 have cp := M.e_pure hM
 exact ⟨_, resE_tmp0 rfl, ⟨l4, B_mem2, cp, rfl, H⟩⟩

def zbr (a : Int) (b : Int) (n : Int) : ((List Dem) × Nat) -> M (((List Dem) × Nat) ⊕ (List Dem)) := fun (l, i) =>
  bif decide ((i : Int) < n) then (
  M.grd (decide ((-9223372036854775808 : Int) <= (a + (i : Int))) && decide ((a + (i : Int)) <= (9223372036854775807 : Int))) <|
  M.grd (decide ((-9223372036854775808 : Int) <= (b + (i : Int))) && decide ((b + (i : Int)) <= (9223372036854775807 : Int))) <|
  M.grd (decide ((0 : Int) <= (b + (i : Int))) && decide ((b + (i : Int)) < (l.length : Int))) <|
  M.grd (decide ((0 : Int) <= (a + (i : Int))) && decide ((a + (i : Int)) < (l.length : Int))) <|
  M.grd (decide ((0 : Int) <= (b + (i : Int))) && decide ((b + (i : Int)) < ((l.set (Int.toNat (a + (i : Int))) (l.getD (Int.toNat (b + (i : Int))) default)).length : Int))) <|
  M.grd (decide ((-9223372036854775808 : Int) <= ((i : Int) + 1)) && decide (((i : Int) + 1) <= (9223372036854775807 : Int))) <|
  M.pure (.inl ((l.set (Int.toNat (a + (i : Int))) (l.getD (Int.toNat (b + (i : Int))) default)).set (Int.toNat (b + (i : Int))) (l.getD (Int.toNat (a + (i : Int))) default), i + 1)))
  else (
  M.pure (.inr l))
def za6 (data : List Dem) (a : Int) (b : Int) (n : Int) (aa : List Int) (ab : List Span) (ac : List Int) (ae : List Town) (ah : Int) (ai : Int) (aj : List Flood) (ak : List Int) (al : List Span) (am : List Int) (ao : List Town) (aq : Int) (au : Int) (av : List Flood) : M (List Dem) :=
  M.bind (M.iter (zbr a b n) (data, 0)) fun l2 =>
  M.pure l2
theorem zco {R : List Chunk} {aa : Value} {aj : Nat} {ak : Nat} {al : Nat} {am : Cells} {ao : Value} {aq : Cells} {au : Value} {av : Cells} {aw : Value} {ax : Cells} {ay : Value} {az : Cells} {aA : Value} {ba : Nat} {aB : Nat} {aC : Nat} {aD : Cells} {aE : Value} {aF : Cells} {aG : Value} {aH : Cells} {aI : Value} {aJ : Cells} {aK : Value} {aL : Cells} {aM : Value} {bb : Nat} (data : List Dem) (a : Int) (b : Int) (n : Int) (aN : List Int) (aO : List Span) (aP : List Int) (aQ : List Town) (aR : Int) (aS : Int) (aT : List Flood) (aU : List Int) (aV : List Span) (aW : List Int) (aX : List Town) (aY : Int) (aZ : Int) (a6 : List Flood) (bw : Reads R am) (bx : Sl am ao aN) (bz : Reads R aq) (bA : Sl aq au aO) (bB : Reads R av) (bC : Sl av aw aP) (bD : Reads R ax) (bE : Sl ax ay aQ) (bF : Reads R az) (bG : Sl az aA aT) (bH : Has R (cBlk al [ao, au, aw, ay, I aR, I aS, aA, .map (some ba)] 86)) (bI : Has R (cBlk ak [.func (.func 54) #[Pq al] #[]] 106)) (bJ : Reads R aD) (bK : Sl aD aE aU) (bL : Reads R aF) (bM : Sl aF aG aV) (bN : Reads R aH) (bO : Sl aH aI aW) (bP : Reads R aJ) (bQ : Sl aJ aK aX) (bR : Reads R aL) (bS : Sl aL aM a6) (bT : Has R (cBlk aC [aE, aG, aI, aK, I aY, I aZ, aM, .map (some bb)] 86)) (bU : Has R (cBlk aB [Pq aC] 72)) (bV : Has R (cBlk aj [.func (.func 69) #[] #[Pq ak, Pq aB]] 114)) {r : (List Dem)} (hM : (za6 data a b n aN aO aP aQ aR aS aT aU aV aW aX aY aZ a6).Ends r) (w : World) (H : St w w [cOwn (α := Dem) 62 aa data] R) : Ret Try.prog 110 #[aa, I a, I b, I n, .func (.func 71) #[] #[Pq aj]] w fun v w' => ∃ (y0 : List Dem), y0 = r /\ v = .tuple #[] /\ St w w' [cOwn (α := Dem) 62 aa y0] R := by
 refine ret_of_W Try.func110 rfl rfl rfl ?_
 refine W.seq ?_
 refine W.region rfl ?_
 refine zA (I 0) rfl ?_
 refine s_nil ?_
 refine W.block ?_
 obtain ⟨bc, ai, bf⟩ := M.e_bind hM
 obtain ⟨bW, ai⟩ := M.e_iter ai
 refine W.loop (fun m σ W => ∃ (l : List Dem) (i : Nat) (ρ : Env), σ = upds ρ [(0, aa), (1, I a), (2, I b), (3, I n), (10, I (i : Int))] /\ M.iterN (zbr a b n) m (l, i) = some bc /\ St w W [cOwn (α := Dem) 62 aa l] R) ?_ ?_
 ·exact ⟨_, data, 0, _, upds_of _ _ ⟨rfl, rfl, rfl, rfl, rfl, trivial⟩, ai, H⟩
 rintro bX σ bY ⟨l, i, ρ, rfl, a7, H⟩
 obtain ⟨ac, ae, bZ, hM, ab⟩ := M.e_iterN a7
 simp only [zbr] at hM
 clear a7
 refine W.seq ?_
 refine W.seq ?_
 refine W.region rfl ?_
 refine zM (I (i : Int)) rfl ?_
 refine zM (I n) rfl ?_
 refine zC (i : Int) n (decide ((i : Int) < n)) rfl rfl rfl ?_
 refine s_nil ?_
 refine W.cond (decide ((i : Int) < n)) rfl (fun ah => ?_) (fun ah => ?_)
 ·replace hM := M.e_t hM ah
  simp only [qy1, qy2, qy3, qy4, qy5, qy6, ne_eq, qy7] at ah
  refine W.skip ?_
  refine W.seq ?_
  refine W.block ?_
  refine W.drawT (fun W => St w W [] R) (.q 0 (.q 1 (.q 2 (.q 3 (.q 4 (.q 5 (.q 6 (.q 7 (.q 8 (.q 9 (.q 10 (.q 11 (.q 14 (.q 15 (.q 16 (.q 17 (.l2 12 (.l2 13 (.l 18 (.l 19 (.l 20 (.l 21 (.l 22 (.l 23 .nil)))))) 18 (.l2 13 (.l 19 (.l 20 (.l 21 (.l 22 (.l 23 .nil))))) 19 (.l 13 (.l 20 (.l 21 (.l 22 (.l 23 .nil))))))) 18 (.l2 12 (.l2 13 (.l 19 (.l 20 (.l 21 (.l 22 (.l 23 .nil))))) 19 (.l 13 (.l 20 (.l 21 (.l 22 (.l 23 .nil)))))) 19 (.l 12 (.l 13 (.l 20 (.l 21 (.l 22 (.l 23 .nil)))))))))))))))))))))))) mixed (by decide +kernel) rfl ?_
  intro b4 a8
  replace H := H.ext a8
  clear a8
  refine ⟨(H.pk []), ?_⟩
  refine t_q rfl (fun w' H => x_mv (v := aa) rfl) ?_
  refine t_q rfl (fun w' H => x_mv (v := I a) rfl) ?_
  refine t_q rfl (fun w' H => x_mv (v := I (i : Int)) rfl) ?_
  obtain ⟨bg, hM⟩ := M.e_grd hM
  simp only [Bool.and_eq_true, decide_eq_true_eq] at bg
  refine t_q rfl (fun w' H => x_ari (a := a) (b := (i : Int)) (r := a + (i : Int)) rfl rfl rfl (by omega)) ?_
  refine t_q rfl (fun w' H => x_mv (v := aa) rfl) ?_
  refine t_q rfl (fun w' H => x_mv (v := I b) rfl) ?_
  refine t_q rfl (fun w' H => x_mv (v := I (i : Int)) rfl) ?_
  obtain ⟨bh, hM⟩ := M.e_grd hM
  simp only [Bool.and_eq_true, decide_eq_true_eq] at bh
  refine t_q rfl (fun w' H => x_ari (a := b) (b := (i : Int)) (r := b + (i : Int)) rfl rfl rfl (by omega)) ?_
  refine t_q rfl (fun w' H => x_mv (v := aa) rfl) ?_
  refine t_q rfl (fun w' H => x_mv (v := I b) rfl) ?_
  refine t_q rfl (fun w' H => x_mv (v := I (i : Int)) rfl) ?_
  refine t_q rfl (fun w' H => x_ari (a := b) (b := (i : Int)) (r := b + (i : Int)) rfl rfl rfl (by omega)) ?_
  refine t_q rfl (fun w' H => x_mv (v := aa) rfl) ?_
  refine t_q rfl (fun w' H => x_mv (v := I a) rfl) ?_
  refine t_q rfl (fun w' H => x_mv (v := I (i : Int)) rfl) ?_
  refine t_q rfl (fun w' H => x_ari (a := a) (b := (i : Int)) (r := a + (i : Int)) rfl rfl rfl (by omega)) ?_
  obtain ⟨bi, hM⟩ := M.e_grd hM
  simp only [Bool.and_eq_true, decide_eq_true_eq] at bi
  obtain ⟨bj, hM⟩ := M.e_grd hM
  simp only [Bool.and_eq_true, decide_eq_true_eq] at bj
  obtain ⟨bm, hM⟩ := M.e_grd hM
  simp only [Bool.and_eq_true, decide_eq_true_eq] at bm
  refine t_l2 rfl rfl ?_ ?_
  ·skip
   refine s_val (x_ix (a := aa) (b := I (b + (i : Int))) (v := vat aa 2 (Int.toNat (b + (i : Int)))) rfl rfl (Sl.ix (α := Dem) T57.und T57.size (H.os 0) (by omega) (by omega))) ?_
   have b5 := Sl.cells (H.os 0)
   have b6 := Sl.oc (H.os 0)
   refine s_nil ⟨(H.pk []), ?_⟩
   refine t_l2 rfl rfl ?_ ?_
   ·skip
    refine s_val (x_ld (p := vat aa 2 (Int.toNat (b + (i : Int)))) (v := .agg #[I ((l.getD (Int.toNat (b + (i : Int))) default).spring), I ((l.getD (Int.toNat (b + (i : Int))) default).town)]) rfl (ld_ag Ag62 Sz62 (At.mono (Dem_atA (H.os 0) (i := b + (i : Int)) (by omega) (by omega)) (H.ol 0)))) ?_
    refine s_nil ⟨(H.pk []), ?_⟩
    refine t_l rfl ?_
    refine s_val (x_ix (a := aa) (b := I (a + (i : Int))) (v := vat aa 2 (Int.toNat (a + (i : Int)))) rfl rfl (Sl.ix (α := Dem) T57.und T57.size (H.os 0) (by omega) (by omega))) ?_
    refine s_nil ⟨(H.pk []), ?_⟩
    refine t_l rfl ?_
    refine s_val (x_ld (p := vat aa 2 (Int.toNat (a + (i : Int)))) (v := .agg #[I ((l.getD (Int.toNat (a + (i : Int))) default).spring), I ((l.getD (Int.toNat (a + (i : Int))) default).town)]) rfl (ld_ag Ag62 Sz62 (At.mono (Dem_atA (H.os 0) (i := a + (i : Int)) (by omega) (by omega)) (H.ol 0)))) ?_
    refine s_nil ⟨(H.pk []), ?_⟩
    refine t_l rfl ?_
    refine s_val (x_ix (a := aa) (b := I (a + (i : Int))) (v := vat aa 2 (Int.toNat (a + (i : Int)))) rfl rfl (Sl.ix (α := Dem) T57.und T57.size (H.os 0) (by omega) (by omega))) ?_
    refine s_nil ⟨(H.pk []), ?_⟩
    refine t_l rfl ?_
    refine t_ost (k := 0) (i := a + (i : Int)) (l := l) (l' := l.set (Int.toNat (a + (i : Int))) (l.getD (Int.toNat (b + (i : Int))) default)) (val := .agg #[I ((l.getD (Int.toNat (b + (i : Int))) default).spring), I ((l.getD (Int.toNat (b + (i : Int))) default).town)]) (L' := [cOwn (α := Dem) 62 aa (l.set (Int.toNat (a + (i : Int))) (l.getD (Int.toNat (b + (i : Int))) default))]) H rfl Sz62 (by omega) (by omega) (l.getD (Int.toNat (b + (i : Int))) default) rfl rfl rfl rfl rfl ?_
    intro b7 H
    refine s_nil ⟨(H.pk []), ?_⟩
    refine t_l rfl ?_
    refine s_val (x_ix (a := aa) (b := I (b + (i : Int))) (v := vat aa 2 (Int.toNat (b + (i : Int)))) rfl rfl (Sl.ix (α := Dem) T57.und T57.size (H.os 0) (by omega) (by omega))) ?_
    refine s_nil ⟨(H.pk []), ?_⟩
    refine t_l rfl ?_
    refine t_ost (k := 0) (i := b + (i : Int)) (l := l.set (Int.toNat (a + (i : Int))) (l.getD (Int.toNat (b + (i : Int))) default)) (l' := (l.set (Int.toNat (a + (i : Int))) (l.getD (Int.toNat (b + (i : Int))) default)).set (Int.toNat (b + (i : Int))) (l.getD (Int.toNat (a + (i : Int))) default)) (val := .agg #[I ((l.getD (Int.toNat (a + (i : Int))) default).spring), I ((l.getD (Int.toNat (a + (i : Int))) default).town)]) (L' := [cOwn (α := Dem) 62 aa ((l.set (Int.toNat (a + (i : Int))) (l.getD (Int.toNat (b + (i : Int))) default)).set (Int.toNat (b + (i : Int))) (l.getD (Int.toNat (a + (i : Int))) default))]) H rfl Sz62 (by omega) (by omega) (l.getD (Int.toNat (a + (i : Int))) default) rfl rfl rfl rfl rfl ?_
    intro b8 H
    refine s_nil ⟨(H.pk []), ?_⟩
    refine t_nil ?_
    refine W.region rfl ?_
    refine zM (I (i : Int)) rfl ?_
    obtain ⟨bn, hM⟩ := M.e_grd hM
    simp only [Bool.and_eq_true, decide_eq_true_eq] at bn
    refine zR (i : Int) 1 ((i : Int) + 1) rfl rfl rfl (by omega) ?_
    refine zA (I ((i : Int) + 1)) rfl ?_
    refine s_nil ?_
    exact ⟨ac, ae, (l.set (Int.toNat (a + (i : Int))) (l.getD (Int.toNat (b + (i : Int))) default)).set (Int.toNat (b + (i : Int))) (l.getD (Int.toNat (a + (i : Int))) default), i + 1, _, upds_of _ _ ⟨rfl, rfl, rfl, rfl, rfl, trivial⟩, M.e_inl hM ab, H⟩
   skip
   refine s_val (x_ix (a := aa) (b := I (a + (i : Int))) (v := vat aa 2 (Int.toNat (a + (i : Int)))) rfl rfl (Sl.ix (α := Dem) T57.und T57.size (H.os 0) (by omega) (by omega))) ?_
   refine s_nil ⟨(H.pk []), ?_⟩
   refine t_l2 rfl rfl ?_ ?_
   ·skip
    refine s_val (x_ld (p := vat aa 2 (Int.toNat (b + (i : Int)))) (v := .agg #[I ((l.getD (Int.toNat (b + (i : Int))) default).spring), I ((l.getD (Int.toNat (b + (i : Int))) default).town)]) rfl (ld_ag Ag62 Sz62 (At.mono (Dem_atA (H.os 0) (i := b + (i : Int)) (by omega) (by omega)) (H.ol 0)))) ?_
    refine s_nil ⟨(H.pk []), ?_⟩
    refine t_l rfl ?_
    refine s_val (x_ld (p := vat aa 2 (Int.toNat (a + (i : Int)))) (v := .agg #[I ((l.getD (Int.toNat (a + (i : Int))) default).spring), I ((l.getD (Int.toNat (a + (i : Int))) default).town)]) rfl (ld_ag Ag62 Sz62 (At.mono (Dem_atA (H.os 0) (i := a + (i : Int)) (by omega) (by omega)) (H.ol 0)))) ?_
    refine s_nil ⟨(H.pk []), ?_⟩
    refine t_l rfl ?_
    refine s_val (x_ix (a := aa) (b := I (a + (i : Int))) (v := vat aa 2 (Int.toNat (a + (i : Int)))) rfl rfl (Sl.ix (α := Dem) T57.und T57.size (H.os 0) (by omega) (by omega))) ?_
    refine s_nil ⟨(H.pk []), ?_⟩
    refine t_l rfl ?_
    refine t_ost (k := 0) (i := a + (i : Int)) (l := l) (l' := l.set (Int.toNat (a + (i : Int))) (l.getD (Int.toNat (b + (i : Int))) default)) (val := .agg #[I ((l.getD (Int.toNat (b + (i : Int))) default).spring), I ((l.getD (Int.toNat (b + (i : Int))) default).town)]) (L' := [cOwn (α := Dem) 62 aa (l.set (Int.toNat (a + (i : Int))) (l.getD (Int.toNat (b + (i : Int))) default))]) H rfl Sz62 (by omega) (by omega) (l.getD (Int.toNat (b + (i : Int))) default) rfl rfl rfl rfl rfl ?_
    intro b9 H
    refine s_nil ⟨(H.pk []), ?_⟩
    refine t_l rfl ?_
    refine s_val (x_ix (a := aa) (b := I (b + (i : Int))) (v := vat aa 2 (Int.toNat (b + (i : Int)))) rfl rfl (Sl.ix (α := Dem) T57.und T57.size (H.os 0) (by omega) (by omega))) ?_
    refine s_nil ⟨(H.pk []), ?_⟩
    refine t_l rfl ?_
    refine t_ost (k := 0) (i := b + (i : Int)) (l := l.set (Int.toNat (a + (i : Int))) (l.getD (Int.toNat (b + (i : Int))) default)) (l' := (l.set (Int.toNat (a + (i : Int))) (l.getD (Int.toNat (b + (i : Int))) default)).set (Int.toNat (b + (i : Int))) (l.getD (Int.toNat (a + (i : Int))) default)) (val := .agg #[I ((l.getD (Int.toNat (a + (i : Int))) default).spring), I ((l.getD (Int.toNat (a + (i : Int))) default).town)]) (L' := [cOwn (α := Dem) 62 aa ((l.set (Int.toNat (a + (i : Int))) (l.getD (Int.toNat (b + (i : Int))) default)).set (Int.toNat (b + (i : Int))) (l.getD (Int.toNat (a + (i : Int))) default))]) H rfl Sz62 (by omega) (by omega) (l.getD (Int.toNat (a + (i : Int))) default) rfl rfl rfl rfl rfl ?_
    intro ca H
    refine s_nil ⟨(H.pk []), ?_⟩
    refine t_nil ?_
    refine W.region rfl ?_
    refine zM (I (i : Int)) rfl ?_
    obtain ⟨bo, hM⟩ := M.e_grd hM
    simp only [Bool.and_eq_true, decide_eq_true_eq] at bo
    refine zR (i : Int) 1 ((i : Int) + 1) rfl rfl rfl (by omega) ?_
    refine zA (I ((i : Int) + 1)) rfl ?_
    refine s_nil ?_
    exact ⟨ac, ae, (l.set (Int.toNat (a + (i : Int))) (l.getD (Int.toNat (b + (i : Int))) default)).set (Int.toNat (b + (i : Int))) (l.getD (Int.toNat (a + (i : Int))) default), i + 1, _, upds_of _ _ ⟨rfl, rfl, rfl, rfl, rfl, trivial⟩, M.e_inl hM ab, H⟩
   skip
   refine s_val (x_ld (p := vat aa 2 (Int.toNat (a + (i : Int)))) (v := .agg #[I ((l.getD (Int.toNat (a + (i : Int))) default).spring), I ((l.getD (Int.toNat (a + (i : Int))) default).town)]) rfl (ld_ag Ag62 Sz62 (At.mono (Dem_atA (H.os 0) (i := a + (i : Int)) (by omega) (by omega)) (H.ol 0)))) ?_
   refine s_nil ⟨(H.pk []), ?_⟩
   refine t_l rfl ?_
   refine s_val (x_ld (p := vat aa 2 (Int.toNat (b + (i : Int)))) (v := .agg #[I ((l.getD (Int.toNat (b + (i : Int))) default).spring), I ((l.getD (Int.toNat (b + (i : Int))) default).town)]) rfl (ld_ag Ag62 Sz62 (At.mono (Dem_atA (H.os 0) (i := b + (i : Int)) (by omega) (by omega)) (H.ol 0)))) ?_
   refine s_nil ⟨(H.pk []), ?_⟩
   refine t_l rfl ?_
   refine s_val (x_ix (a := aa) (b := I (a + (i : Int))) (v := vat aa 2 (Int.toNat (a + (i : Int)))) rfl rfl (Sl.ix (α := Dem) T57.und T57.size (H.os 0) (by omega) (by omega))) ?_
   refine s_nil ⟨(H.pk []), ?_⟩
   refine t_l rfl ?_
   refine t_ost (k := 0) (i := a + (i : Int)) (l := l) (l' := l.set (Int.toNat (a + (i : Int))) (l.getD (Int.toNat (b + (i : Int))) default)) (val := .agg #[I ((l.getD (Int.toNat (b + (i : Int))) default).spring), I ((l.getD (Int.toNat (b + (i : Int))) default).town)]) (L' := [cOwn (α := Dem) 62 aa (l.set (Int.toNat (a + (i : Int))) (l.getD (Int.toNat (b + (i : Int))) default))]) H rfl Sz62 (by omega) (by omega) (l.getD (Int.toNat (b + (i : Int))) default) rfl rfl rfl rfl rfl ?_
   intro cb H
   refine s_nil ⟨(H.pk []), ?_⟩
   refine t_l rfl ?_
   refine s_val (x_ix (a := aa) (b := I (b + (i : Int))) (v := vat aa 2 (Int.toNat (b + (i : Int)))) rfl rfl (Sl.ix (α := Dem) T57.und T57.size (H.os 0) (by omega) (by omega))) ?_
   refine s_nil ⟨(H.pk []), ?_⟩
   refine t_l rfl ?_
   refine t_ost (k := 0) (i := b + (i : Int)) (l := l.set (Int.toNat (a + (i : Int))) (l.getD (Int.toNat (b + (i : Int))) default)) (l' := (l.set (Int.toNat (a + (i : Int))) (l.getD (Int.toNat (b + (i : Int))) default)).set (Int.toNat (b + (i : Int))) (l.getD (Int.toNat (a + (i : Int))) default)) (val := .agg #[I ((l.getD (Int.toNat (a + (i : Int))) default).spring), I ((l.getD (Int.toNat (a + (i : Int))) default).town)]) (L' := [cOwn (α := Dem) 62 aa ((l.set (Int.toNat (a + (i : Int))) (l.getD (Int.toNat (b + (i : Int))) default)).set (Int.toNat (b + (i : Int))) (l.getD (Int.toNat (a + (i : Int))) default))]) H rfl Sz62 (by omega) (by omega) (l.getD (Int.toNat (a + (i : Int))) default) rfl rfl rfl rfl rfl ?_
   intro cc H
   refine s_nil ⟨(H.pk []), ?_⟩
   refine t_nil ?_
   refine W.region rfl ?_
   refine zM (I (i : Int)) rfl ?_
   obtain ⟨bp, hM⟩ := M.e_grd hM
   simp only [Bool.and_eq_true, decide_eq_true_eq] at bp
   refine zR (i : Int) 1 ((i : Int) + 1) rfl rfl rfl (by omega) ?_
   refine zA (I ((i : Int) + 1)) rfl ?_
   refine s_nil ?_
   exact ⟨ac, ae, (l.set (Int.toNat (a + (i : Int))) (l.getD (Int.toNat (b + (i : Int))) default)).set (Int.toNat (b + (i : Int))) (l.getD (Int.toNat (a + (i : Int))) default), i + 1, _, upds_of _ _ ⟨rfl, rfl, rfl, rfl, rfl, trivial⟩, M.e_inl hM ab, H⟩
  skip
  refine s_val (x_ix (a := aa) (b := I (a + (i : Int))) (v := vat aa 2 (Int.toNat (a + (i : Int)))) rfl rfl (Sl.ix (α := Dem) T57.und T57.size (H.os 0) (by omega) (by omega))) ?_
  have cd := Sl.cells (H.os 0)
  have ce := Sl.oc (H.os 0)
  refine s_nil ⟨(H.pk []), ?_⟩
  refine t_l2 rfl rfl ?_ ?_
  ·skip
   refine s_val (x_ix (a := aa) (b := I (b + (i : Int))) (v := vat aa 2 (Int.toNat (b + (i : Int)))) rfl rfl (Sl.ix (α := Dem) T57.und T57.size (H.os 0) (by omega) (by omega))) ?_
   refine s_nil ⟨(H.pk []), ?_⟩
   refine t_l2 rfl rfl ?_ ?_
   ·skip
    refine s_val (x_ld (p := vat aa 2 (Int.toNat (b + (i : Int)))) (v := .agg #[I ((l.getD (Int.toNat (b + (i : Int))) default).spring), I ((l.getD (Int.toNat (b + (i : Int))) default).town)]) rfl (ld_ag Ag62 Sz62 (At.mono (Dem_atA (H.os 0) (i := b + (i : Int)) (by omega) (by omega)) (H.ol 0)))) ?_
    refine s_nil ⟨(H.pk []), ?_⟩
    refine t_l rfl ?_
    refine s_val (x_ld (p := vat aa 2 (Int.toNat (a + (i : Int)))) (v := .agg #[I ((l.getD (Int.toNat (a + (i : Int))) default).spring), I ((l.getD (Int.toNat (a + (i : Int))) default).town)]) rfl (ld_ag Ag62 Sz62 (At.mono (Dem_atA (H.os 0) (i := a + (i : Int)) (by omega) (by omega)) (H.ol 0)))) ?_
    refine s_nil ⟨(H.pk []), ?_⟩
    refine t_l rfl ?_
    refine s_val (x_ix (a := aa) (b := I (a + (i : Int))) (v := vat aa 2 (Int.toNat (a + (i : Int)))) rfl rfl (Sl.ix (α := Dem) T57.und T57.size (H.os 0) (by omega) (by omega))) ?_
    refine s_nil ⟨(H.pk []), ?_⟩
    refine t_l rfl ?_
    refine t_ost (k := 0) (i := a + (i : Int)) (l := l) (l' := l.set (Int.toNat (a + (i : Int))) (l.getD (Int.toNat (b + (i : Int))) default)) (val := .agg #[I ((l.getD (Int.toNat (b + (i : Int))) default).spring), I ((l.getD (Int.toNat (b + (i : Int))) default).town)]) (L' := [cOwn (α := Dem) 62 aa (l.set (Int.toNat (a + (i : Int))) (l.getD (Int.toNat (b + (i : Int))) default))]) H rfl Sz62 (by omega) (by omega) (l.getD (Int.toNat (b + (i : Int))) default) rfl rfl rfl rfl rfl ?_
    intro cf H
    refine s_nil ⟨(H.pk []), ?_⟩
    refine t_l rfl ?_
    refine s_val (x_ix (a := aa) (b := I (b + (i : Int))) (v := vat aa 2 (Int.toNat (b + (i : Int)))) rfl rfl (Sl.ix (α := Dem) T57.und T57.size (H.os 0) (by omega) (by omega))) ?_
    refine s_nil ⟨(H.pk []), ?_⟩
    refine t_l rfl ?_
    refine t_ost (k := 0) (i := b + (i : Int)) (l := l.set (Int.toNat (a + (i : Int))) (l.getD (Int.toNat (b + (i : Int))) default)) (l' := (l.set (Int.toNat (a + (i : Int))) (l.getD (Int.toNat (b + (i : Int))) default)).set (Int.toNat (b + (i : Int))) (l.getD (Int.toNat (a + (i : Int))) default)) (val := .agg #[I ((l.getD (Int.toNat (a + (i : Int))) default).spring), I ((l.getD (Int.toNat (a + (i : Int))) default).town)]) (L' := [cOwn (α := Dem) 62 aa ((l.set (Int.toNat (a + (i : Int))) (l.getD (Int.toNat (b + (i : Int))) default)).set (Int.toNat (b + (i : Int))) (l.getD (Int.toNat (a + (i : Int))) default))]) H rfl Sz62 (by omega) (by omega) (l.getD (Int.toNat (a + (i : Int))) default) rfl rfl rfl rfl rfl ?_
    intro cg H
    refine s_nil ⟨(H.pk []), ?_⟩
    refine t_nil ?_
    refine W.region rfl ?_
    refine zM (I (i : Int)) rfl ?_
    obtain ⟨bq, hM⟩ := M.e_grd hM
    simp only [Bool.and_eq_true, decide_eq_true_eq] at bq
    refine zR (i : Int) 1 ((i : Int) + 1) rfl rfl rfl (by omega) ?_
    refine zA (I ((i : Int) + 1)) rfl ?_
    refine s_nil ?_
    exact ⟨ac, ae, (l.set (Int.toNat (a + (i : Int))) (l.getD (Int.toNat (b + (i : Int))) default)).set (Int.toNat (b + (i : Int))) (l.getD (Int.toNat (a + (i : Int))) default), i + 1, _, upds_of _ _ ⟨rfl, rfl, rfl, rfl, rfl, trivial⟩, M.e_inl hM ab, H⟩
   skip
   refine s_val (x_ld (p := vat aa 2 (Int.toNat (a + (i : Int)))) (v := .agg #[I ((l.getD (Int.toNat (a + (i : Int))) default).spring), I ((l.getD (Int.toNat (a + (i : Int))) default).town)]) rfl (ld_ag Ag62 Sz62 (At.mono (Dem_atA (H.os 0) (i := a + (i : Int)) (by omega) (by omega)) (H.ol 0)))) ?_
   refine s_nil ⟨(H.pk []), ?_⟩
   refine t_l rfl ?_
   refine s_val (x_ld (p := vat aa 2 (Int.toNat (b + (i : Int)))) (v := .agg #[I ((l.getD (Int.toNat (b + (i : Int))) default).spring), I ((l.getD (Int.toNat (b + (i : Int))) default).town)]) rfl (ld_ag Ag62 Sz62 (At.mono (Dem_atA (H.os 0) (i := b + (i : Int)) (by omega) (by omega)) (H.ol 0)))) ?_
   refine s_nil ⟨(H.pk []), ?_⟩
   refine t_l rfl ?_
   refine s_val (x_ix (a := aa) (b := I (a + (i : Int))) (v := vat aa 2 (Int.toNat (a + (i : Int)))) rfl rfl (Sl.ix (α := Dem) T57.und T57.size (H.os 0) (by omega) (by omega))) ?_
   refine s_nil ⟨(H.pk []), ?_⟩
   refine t_l rfl ?_
   refine t_ost (k := 0) (i := a + (i : Int)) (l := l) (l' := l.set (Int.toNat (a + (i : Int))) (l.getD (Int.toNat (b + (i : Int))) default)) (val := .agg #[I ((l.getD (Int.toNat (b + (i : Int))) default).spring), I ((l.getD (Int.toNat (b + (i : Int))) default).town)]) (L' := [cOwn (α := Dem) 62 aa (l.set (Int.toNat (a + (i : Int))) (l.getD (Int.toNat (b + (i : Int))) default))]) H rfl Sz62 (by omega) (by omega) (l.getD (Int.toNat (b + (i : Int))) default) rfl rfl rfl rfl rfl ?_
   intro ch H
   refine s_nil ⟨(H.pk []), ?_⟩
   refine t_l rfl ?_
   refine s_val (x_ix (a := aa) (b := I (b + (i : Int))) (v := vat aa 2 (Int.toNat (b + (i : Int)))) rfl rfl (Sl.ix (α := Dem) T57.und T57.size (H.os 0) (by omega) (by omega))) ?_
   refine s_nil ⟨(H.pk []), ?_⟩
   refine t_l rfl ?_
   refine t_ost (k := 0) (i := b + (i : Int)) (l := l.set (Int.toNat (a + (i : Int))) (l.getD (Int.toNat (b + (i : Int))) default)) (l' := (l.set (Int.toNat (a + (i : Int))) (l.getD (Int.toNat (b + (i : Int))) default)).set (Int.toNat (b + (i : Int))) (l.getD (Int.toNat (a + (i : Int))) default)) (val := .agg #[I ((l.getD (Int.toNat (a + (i : Int))) default).spring), I ((l.getD (Int.toNat (a + (i : Int))) default).town)]) (L' := [cOwn (α := Dem) 62 aa ((l.set (Int.toNat (a + (i : Int))) (l.getD (Int.toNat (b + (i : Int))) default)).set (Int.toNat (b + (i : Int))) (l.getD (Int.toNat (a + (i : Int))) default))]) H rfl Sz62 (by omega) (by omega) (l.getD (Int.toNat (a + (i : Int))) default) rfl rfl rfl rfl rfl ?_
   intro ck H
   refine s_nil ⟨(H.pk []), ?_⟩
   refine t_nil ?_
   refine W.region rfl ?_
   refine zM (I (i : Int)) rfl ?_
   obtain ⟨br, hM⟩ := M.e_grd hM
   simp only [Bool.and_eq_true, decide_eq_true_eq] at br
   refine zR (i : Int) 1 ((i : Int) + 1) rfl rfl rfl (by omega) ?_
   refine zA (I ((i : Int) + 1)) rfl ?_
   refine s_nil ?_
   exact ⟨ac, ae, (l.set (Int.toNat (a + (i : Int))) (l.getD (Int.toNat (b + (i : Int))) default)).set (Int.toNat (b + (i : Int))) (l.getD (Int.toNat (a + (i : Int))) default), i + 1, _, upds_of _ _ ⟨rfl, rfl, rfl, rfl, rfl, trivial⟩, M.e_inl hM ab, H⟩
  skip
  refine s_val (x_ld (p := vat aa 2 (Int.toNat (a + (i : Int)))) (v := .agg #[I ((l.getD (Int.toNat (a + (i : Int))) default).spring), I ((l.getD (Int.toNat (a + (i : Int))) default).town)]) rfl (ld_ag Ag62 Sz62 (At.mono (Dem_atA (H.os 0) (i := a + (i : Int)) (by omega) (by omega)) (H.ol 0)))) ?_
  refine s_nil ⟨(H.pk []), ?_⟩
  refine t_l rfl ?_
  refine s_val (x_ix (a := aa) (b := I (b + (i : Int))) (v := vat aa 2 (Int.toNat (b + (i : Int)))) rfl rfl (Sl.ix (α := Dem) T57.und T57.size (H.os 0) (by omega) (by omega))) ?_
  refine s_nil ⟨(H.pk []), ?_⟩
  refine t_l rfl ?_
  refine s_val (x_ld (p := vat aa 2 (Int.toNat (b + (i : Int)))) (v := .agg #[I ((l.getD (Int.toNat (b + (i : Int))) default).spring), I ((l.getD (Int.toNat (b + (i : Int))) default).town)]) rfl (ld_ag Ag62 Sz62 (At.mono (Dem_atA (H.os 0) (i := b + (i : Int)) (by omega) (by omega)) (H.ol 0)))) ?_
  refine s_nil ⟨(H.pk []), ?_⟩
  refine t_l rfl ?_
  refine s_val (x_ix (a := aa) (b := I (a + (i : Int))) (v := vat aa 2 (Int.toNat (a + (i : Int)))) rfl rfl (Sl.ix (α := Dem) T57.und T57.size (H.os 0) (by omega) (by omega))) ?_
  refine s_nil ⟨(H.pk []), ?_⟩
  refine t_l rfl ?_
  refine t_ost (k := 0) (i := a + (i : Int)) (l := l) (l' := l.set (Int.toNat (a + (i : Int))) (l.getD (Int.toNat (b + (i : Int))) default)) (val := .agg #[I ((l.getD (Int.toNat (b + (i : Int))) default).spring), I ((l.getD (Int.toNat (b + (i : Int))) default).town)]) (L' := [cOwn (α := Dem) 62 aa (l.set (Int.toNat (a + (i : Int))) (l.getD (Int.toNat (b + (i : Int))) default))]) H rfl Sz62 (by omega) (by omega) (l.getD (Int.toNat (b + (i : Int))) default) rfl rfl rfl rfl rfl ?_
  intro cl H
  refine s_nil ⟨(H.pk []), ?_⟩
  refine t_l rfl ?_
  refine s_val (x_ix (a := aa) (b := I (b + (i : Int))) (v := vat aa 2 (Int.toNat (b + (i : Int)))) rfl rfl (Sl.ix (α := Dem) T57.und T57.size (H.os 0) (by omega) (by omega))) ?_
  refine s_nil ⟨(H.pk []), ?_⟩
  refine t_l rfl ?_
  refine t_ost (k := 0) (i := b + (i : Int)) (l := l.set (Int.toNat (a + (i : Int))) (l.getD (Int.toNat (b + (i : Int))) default)) (l' := (l.set (Int.toNat (a + (i : Int))) (l.getD (Int.toNat (b + (i : Int))) default)).set (Int.toNat (b + (i : Int))) (l.getD (Int.toNat (a + (i : Int))) default)) (val := .agg #[I ((l.getD (Int.toNat (a + (i : Int))) default).spring), I ((l.getD (Int.toNat (a + (i : Int))) default).town)]) (L' := [cOwn (α := Dem) 62 aa ((l.set (Int.toNat (a + (i : Int))) (l.getD (Int.toNat (b + (i : Int))) default)).set (Int.toNat (b + (i : Int))) (l.getD (Int.toNat (a + (i : Int))) default))]) H rfl Sz62 (by omega) (by omega) (l.getD (Int.toNat (a + (i : Int))) default) rfl rfl rfl rfl rfl ?_
  intro cm H
  refine s_nil ⟨(H.pk []), ?_⟩
  refine t_nil ?_
  refine W.region rfl ?_
  refine zM (I (i : Int)) rfl ?_
  obtain ⟨bt, hM⟩ := M.e_grd hM
  simp only [Bool.and_eq_true, decide_eq_true_eq] at bt
  refine zR (i : Int) 1 ((i : Int) + 1) rfl rfl rfl (by omega) ?_
  refine zA (I ((i : Int) + 1)) rfl ?_
  refine s_nil ?_
  exact ⟨ac, ae, (l.set (Int.toNat (a + (i : Int))) (l.getD (Int.toNat (b + (i : Int))) default)).set (Int.toNat (b + (i : Int))) (l.getD (Int.toNat (a + (i : Int))) default), i + 1, _, upds_of _ _ ⟨rfl, rfl, rfl, rfl, rfl, trivial⟩, M.e_inl hM ab, H⟩
 replace hM := M.e_f hM ah
 simp only [qy1, qy2, qy3, qy4, qy5, qy6, ne_eq, qy7] at ah
 refine W.exit ?_
 have bu := M.e_inr hM ab
 subst bu
 replace hM := bf
 try dsimp only at hM
 have bv := M.e_pure hM
 exact ⟨_, resE_tmp0 rfl, ⟨l, bv, rfl, H⟩⟩

def zbP (m_ : Int) (aa : List Int) (ab : List Span) (ac : List Int) (ae : List Town) (ah : Int) (ai : Int) (aj : List Flood) (ak : List Int) (al : List Span) (am : List Int) (ao : List Town) (aq : Int) (au : Int) (av : List Flood) : ((List Dem) × Int × Int) -> M (((List Dem) × Int × Int) ⊕ ((List Dem) × Int × (List Dem))) := fun (l, i, j) =>
  bif i != j then (
  bif decide (j < i) then (
  M.grd (decide ((-9223372036854775808 : Int) <= (m_ - i)) && decide ((m_ - i) <= (9223372036854775807 : Int))) <|
  M.bind (za6 l (m_ - i) m_ j aa ab ac ae ah ai aj ak al am ao aq au av) fun l_data =>
  M.grd (decide ((-9223372036854775808 : Int) <= (i - j)) && decide ((i - j) <= (9223372036854775807 : Int))) <|
  M.pure (.inl (l_data, i - j, j)))
  else (
  M.grd (decide ((-9223372036854775808 : Int) <= (m_ - i)) && decide ((m_ - i) <= (9223372036854775807 : Int))) <|
  M.grd (decide ((-9223372036854775808 : Int) <= (m_ + j)) && decide ((m_ + j) <= (9223372036854775807 : Int))) <|
  M.grd (decide ((-9223372036854775808 : Int) <= ((m_ + j) - i)) && decide (((m_ + j) - i) <= (9223372036854775807 : Int))) <|
  M.bind (za6 l (m_ - i) ((m_ + j) - i) i aa ab ac ae ah ai aj ak al am ao aq au av) fun l_data2 =>
  M.grd (decide ((-9223372036854775808 : Int) <= (j - i)) && decide ((j - i) <= (9223372036854775807 : Int))) <|
  M.pure (.inl (l_data2, i, j - i))))
  else (
  M.pure (.inr (l, i, l)))
def zb9 (data : List Dem) (a : Int) (m_ : Int) (b : Int) (aa : List Int) (ab : List Span) (ac : List Int) (ae : List Town) (ah : Int) (ai : Int) (aj : List Flood) (ak : List Int) (al : List Span) (am : List Int) (ao : List Town) (aq : Int) (au : Int) (av : List Flood) : M (List Dem) :=
  M.grd (decide ((-9223372036854775808 : Int) <= (m_ - a)) && decide ((m_ - a) <= (9223372036854775807 : Int))) <|
  M.grd (decide ((-9223372036854775808 : Int) <= (b - m_)) && decide ((b - m_) <= (9223372036854775807 : Int))) <|
  M.bind (M.iter (zbP m_ aa ab ac ae ah ai aj ak al am ao aq au av) (data, m_ - a, b - m_)) fun (l2, i2, l3) =>
  M.grd (decide ((-9223372036854775808 : Int) <= (m_ - i2)) && decide ((m_ - i2) <= (9223372036854775807 : Int))) <|
  M.bind (za6 l3 (m_ - i2) m_ i2 aa ab ac ae ah ai aj ak al am ao aq au av) fun l_data3 =>
  M.pure l_data3
theorem zdo {R : List Chunk} {aa : Value} {ab : Nat} {a8 : Nat} {ba : Nat} {bb : Cells} {bc : Value} {bf : Cells} {bg : Value} {bh : Cells} {bi : Value} {bj : Cells} {bm : Value} {bn : Cells} {bo : Value} {bG : Nat} {bp : Nat} {bq : Nat} {br : Cells} {bt : Value} {bu : Cells} {bv : Value} {bw : Cells} {bx : Value} {bz : Cells} {bA : Value} {bB : Cells} {bC : Value} {bH : Nat} (data : List Dem) (a : Int) (m_ : Int) (b : Int) (ae : List Int) (ah : List Span) (ai : List Int) (aj : List Town) (ak : Int) (al : Int) (am : List Flood) (ao : List Int) (aq : List Span) (au : List Int) (av : List Town) (aw : Int) (ax : Int) (ay : List Flood) (aB : Reads R bb) (aC : Sl bb bc ae) (aD : Reads R bf) (aE : Sl bf bg ah) (aF : Reads R bh) (aG : Sl bh bi ai) (aH : Reads R bj) (aI : Sl bj bm aj) (aJ : Reads R bn) (aK : Sl bn bo am) (aL : Has R (cBlk ba [bc, bg, bi, bm, I ak, I al, bo, .map (some bG)] 86)) (aM : Has R (cBlk a8 [.func (.func 54) #[Pq ba] #[]] 106)) (aN : Reads R br) (aO : Sl br bt ao) (aP : Reads R bu) (aQ : Sl bu bv aq) (aR : Reads R bw) (aS : Sl bw bx au) (aT : Reads R bz) (aU : Sl bz bA av) (aV : Reads R bB) (aW : Sl bB bC ay) (aX : Has R (cBlk bq [bt, bv, bx, bA, I aw, I ax, bC, .map (some bH)] 86)) (aY : Has R (cBlk bp [Pq bq] 72)) (aZ : Has R (cBlk ab [.func (.func 69) #[] #[Pq a8, Pq bp]] 114)) {r : (List Dem)} (hM : (zb9 data a m_ b ae ah ai aj ak al am ao aq au av aw ax ay).Ends r) (w : World) (H : St w w [cOwn (α := Dem) 62 aa data] R) : Ret Try.prog 104 #[aa, I a, I m_, I b, .func (.func 71) #[] #[Pq ab]] w fun v w' => ∃ (y0 : List Dem), y0 = r /\ v = .tuple #[] /\ St w w' [cOwn (α := Dem) 62 aa y0] R := by
 refine ret_of_W Try.func104 rfl rfl rfl ?_
 refine W.seq ?_
 refine W.region rfl ?_
 refine zM (I m_) rfl ?_
 refine zM (I a) rfl ?_
 obtain ⟨bI, hM⟩ := M.e_grd hM
 simp only [Bool.and_eq_true, decide_eq_true_eq] at bI
 refine zR m_ a (m_ - a) rfl rfl rfl (by omega) ?_
 refine zA (I (m_ - a)) rfl ?_
 refine s_nil ?_
 refine W.seq ?_
 refine W.region rfl ?_
 refine zM (I b) rfl ?_
 refine zM (I m_) rfl ?_
 obtain ⟨bJ, hM⟩ := M.e_grd hM
 simp only [Bool.and_eq_true, decide_eq_true_eq] at bJ
 refine zR b m_ (b - m_) rfl rfl rfl (by omega) ?_
 refine zA (I (b - m_)) rfl ?_
 refine s_nil ?_
 refine W.seq ?_
 refine W.block ?_
 obtain ⟨bK, a6, bL⟩ := M.e_bind hM
 obtain ⟨b5, a6⟩ := M.e_iter a6
 refine W.loop (fun m σ W => ∃ (l : List Dem) (i : Int) (j : Int) (ρ : Env), σ = upds ρ [(0, aa), (2, I m_), (4, .func (.func 71) #[] #[Pq ab]), (10, I i), (11, I j)] /\ M.iterN (zbP m_ ae ah ai aj ak al am ao aq au av aw ax ay) m (l, i, j) = some bK /\ St w W [cOwn (α := Dem) 62 aa l] R) ?_ ?_
 ·exact ⟨_, data, m_ - a, b - m_, _, upds_of _ _ ⟨rfl, rfl, rfl, rfl, rfl, trivial⟩, a6, H⟩
 rintro b6 σ b7 ⟨l, i, j, ρ, rfl, bD, H⟩
 obtain ⟨bE, bF, b8, hM, a7⟩ := M.e_iterN bD
 simp only [zbP] at hM
 clear bD
 refine W.seq ?_
 refine W.seq ?_
 refine W.region rfl ?_
 refine zM (I i) rfl ?_
 refine zM (I j) rfl ?_
 refine zC i j (i != j) rfl rfl rfl ?_
 refine s_nil ?_
 refine W.cond (i != j) rfl (fun az => ?_) (fun az => ?_)
 ·replace hM := M.e_t hM az
  simp only [qy1, qy2, qy3, qy4, qy5, qy6, ne_eq, qy7] at az
  refine W.skip ?_
  refine W.block ?_
  refine W.seq ?_
  refine W.region rfl ?_
  refine zM (I i) rfl ?_
  refine zM (I j) rfl ?_
  refine zC i j (decide (j < i)) rfl rfl rfl ?_
  refine s_nil ?_
  refine W.cond (decide (j < i)) rfl (fun aA => ?_) (fun aA => ?_)
  ·replace hM := M.e_t hM aA
   simp only [qy1, qy2, qy3, qy4, qy5, qy6, ne_eq, qy7] at aA
   refine W.seq ?_
   refine W.region rfl ?_
   refine zM aa rfl ?_
   refine zM (I m_) rfl ?_
   refine zM (I i) rfl ?_
   obtain ⟨bM, hM⟩ := M.e_grd hM
   simp only [Bool.and_eq_true, decide_eq_true_eq] at bM
   refine zR m_ i (m_ - i) rfl rfl rfl (by omega) ?_
   refine zM (I m_) rfl ?_
   refine zM (I j) rfl ?_
   refine zM (.func (.func 71) #[] #[Pq ab]) rfl ?_
   obtain ⟨b9, bN, hM⟩ := M.e_bind hM
   refine s_call cf110 [aa, I (m_ - i), I m_, I j, .func (.func 71) #[] #[Pq ab]] rfl (zco l (m_ - i) m_ j ae ah ai aj ak al am ao aq au av aw ax ay (aB.app _) aC (aD.app _) aE (aF.app _) aG (aH.app _) aI (aJ.app _) aK (aL.app _) (aM.app _) (aN.app _) aO (aP.app _) aQ (aR.app _) aS (aT.app _) aU (aV.app _) aW (aX.app _) (aY.app _) (aZ.app _) bN _ (H.gt 0)) ?_
   rintro vq ca ⟨l_data, bO, hvq, ac⟩
   subst bO
   subst vq
   try dsimp only at hM
   replace H := H.bk ac
   clear ac
   refine s_nil ?_
   refine W.region rfl ?_
   refine zM (I i) rfl ?_
   refine zM (I j) rfl ?_
   obtain ⟨bP, hM⟩ := M.e_grd hM
   simp only [Bool.and_eq_true, decide_eq_true_eq] at bP
   refine zR i j (i - j) rfl rfl rfl (by omega) ?_
   refine zA (I (i - j)) rfl ?_
   refine s_nil ?_
   exact ⟨bE, bF, l_data, i - j, j, _, upds_of _ _ ⟨rfl, rfl, rfl, rfl, rfl, trivial⟩, M.e_inl hM a7, H⟩
  replace hM := M.e_f hM aA
  simp only [qy1, qy2, qy3, qy4, qy5, qy6, ne_eq, qy7] at aA
  refine W.seq ?_
  refine W.region rfl ?_
  refine zM aa rfl ?_
  refine zM (I m_) rfl ?_
  refine zM (I i) rfl ?_
  obtain ⟨bQ, hM⟩ := M.e_grd hM
  simp only [Bool.and_eq_true, decide_eq_true_eq] at bQ
  refine zR m_ i (m_ - i) rfl rfl rfl (by omega) ?_
  refine zM (I m_) rfl ?_
  refine zM (I j) rfl ?_
  obtain ⟨bR, hM⟩ := M.e_grd hM
  simp only [Bool.and_eq_true, decide_eq_true_eq] at bR
  refine zR m_ j (m_ + j) rfl rfl rfl (by omega) ?_
  refine zM (I i) rfl ?_
  obtain ⟨bS, hM⟩ := M.e_grd hM
  simp only [Bool.and_eq_true, decide_eq_true_eq] at bS
  refine zR (m_ + j) i ((m_ + j) - i) rfl rfl rfl (by omega) ?_
  refine zM (I i) rfl ?_
  refine zM (.func (.func 71) #[] #[Pq ab]) rfl ?_
  obtain ⟨cb, bT, hM⟩ := M.e_bind hM
  refine s_call cf110 [aa, I (m_ - i), I ((m_ + j) - i), I i, .func (.func 71) #[] #[Pq ab]] rfl (zco l (m_ - i) ((m_ + j) - i) i ae ah ai aj ak al am ao aq au av aw ax ay (aB.app _) aC (aD.app _) aE (aF.app _) aG (aH.app _) aI (aJ.app _) aK (aL.app _) (aM.app _) (aN.app _) aO (aP.app _) aQ (aR.app _) aS (aT.app _) aU (aV.app _) aW (aX.app _) (aY.app _) (aZ.app _) bT _ (H.gt 0)) ?_
  rintro vq cc ⟨l_data2, bU, hvq, ac⟩
  subst bU
  subst vq
  try dsimp only at hM
  replace H := H.bk ac
  clear ac
  refine s_nil ?_
  refine W.region rfl ?_
  refine zM (I j) rfl ?_
  refine zM (I i) rfl ?_
  obtain ⟨bV, hM⟩ := M.e_grd hM
  simp only [Bool.and_eq_true, decide_eq_true_eq] at bV
  refine zR j i (j - i) rfl rfl rfl (by omega) ?_
  refine zA (I (j - i)) rfl ?_
  refine s_nil ?_
  exact ⟨bE, bF, l_data2, i, j - i, _, upds_of _ _ ⟨rfl, rfl, rfl, rfl, rfl, trivial⟩, M.e_inl hM a7, H⟩
 replace hM := M.e_f hM az
 simp only [qy1, qy2, qy3, qy4, qy5, qy6, ne_eq, qy7] at az
 refine W.exit ?_
 have bW := M.e_inr hM a7
 subst bW
 replace hM := bL
 try dsimp only at hM
 refine W.region rfl ?_
 refine zM aa rfl ?_
 refine zM (I m_) rfl ?_
 refine zM (I i) rfl ?_
 obtain ⟨bX, hM⟩ := M.e_grd hM
 simp only [Bool.and_eq_true, decide_eq_true_eq] at bX
 refine zR m_ i (m_ - i) rfl rfl rfl (by omega) ?_
 refine zM (I m_) rfl ?_
 refine zM (I i) rfl ?_
 refine zM (.func (.func 71) #[] #[Pq ab]) rfl ?_
 obtain ⟨cd, bY, hM⟩ := M.e_bind hM
 refine s_call cf110 [aa, I (m_ - i), I m_, I i, .func (.func 71) #[] #[Pq ab]] rfl (zco l (m_ - i) m_ i ae ah ai aj ak al am ao aq au av aw ax ay (aB.app _) aC (aD.app _) aE (aF.app _) aG (aH.app _) aI (aJ.app _) aK (aL.app _) (aM.app _) (aN.app _) aO (aP.app _) aQ (aR.app _) aS (aT.app _) aU (aV.app _) aW (aX.app _) (aY.app _) (aZ.app _) bY _ (H.gt 0)) ?_
 rintro vq ce ⟨l_data3, bZ, hvq, ac⟩
 subst bZ
 subst vq
 try dsimp only at hM
 replace H := H.bk ac
 clear ac
 refine s_nil ?_
 have b4 := M.e_pure hM
 exact ⟨_, resE_tmp0 rfl, ⟨l_data3, b4, rfl, H⟩⟩

end Go.Proofs.Ytbaehghammbjdaa
end
section
set_option maxRecDepth 100000
set_option maxHeartbeats 16000000
namespace Go.Proofs.Ytbaehghammbjdaa
open Go Go.Nm
def zaR (data : List Dem) (a : Int) (aa : List Int) (ab : List Span) (ac : List Int) (ae : List Town) (ah : Int) (ai : Int) (aj : List Flood) (ak : List Int) (al : List Span) (am : List Int) (ao : List Town) (aq : Int) (au : Int) (av : List Flood) : (Int × Int) -> M ((Int × Int) ⊕ Int) := fun (i, j) =>
  bif decide (i < j) then (
  M.grd (decide ((-9223372036854775808 : Int) <= (i + j)) && decide ((i + j) <= (9223372036854775807 : Int))) <|
  M.grd (decide ((0 : Int) <= (i + j)) && decide ((i + j) <= (9223372036854775807 : Int))) <|
  M.grd (decide ((0 : Int) <= ((i + j) / 2)) && decide (((i + j) / 2) <= (9223372036854775807 : Int))) <|
  M.grd (decide ((0 : Int) <= ((i + j) / 2)) && decide (((i + j) / 2) < (data.length : Int))) <|
  M.grd (decide ((0 : Int) <= a) && decide (a < (data.length : Int))) <|
  M.bind (zao (data.getD (Int.toNat ((i + j) / 2)) default) (data.getD (Int.toNat a) default) aa ab ac ae ah ai aj ak al am ao aq au av) fun r2 =>
  bif decide (r2 < 0) then (
  M.pure (.inl (((i + j) / 2) + 1, j)))
  else (
  M.pure (.inl (i, (i + j) / 2))))
  else (
  M.pure (.inr i))
def zay (i2 : Int) : ((List Dem) × Int) -> M (((List Dem) × Int) ⊕ (List Dem)) := fun (l, k) =>
  M.grd (decide ((-9223372036854775808 : Int) <= (i2 - 1)) && decide ((i2 - 1) <= (9223372036854775807 : Int))) <|
  bif decide (k < (i2 - 1)) then (
  M.grd (decide ((-9223372036854775808 : Int) <= (k + 1)) && decide ((k + 1) <= (9223372036854775807 : Int))) <|
  M.grd (decide ((0 : Int) <= (k + 1)) && decide ((k + 1) < (l.length : Int))) <|
  M.grd (decide ((0 : Int) <= k) && decide (k < (l.length : Int))) <|
  M.grd (decide ((0 : Int) <= (k + 1)) && decide ((k + 1) < ((l.set (Int.toNat k) (l.getD (Int.toNat (k + 1)) default)).length : Int))) <|
  M.pure (.inl ((l.set (Int.toNat k) (l.getD (Int.toNat (k + 1)) default)).set (Int.toNat (k + 1)) (l.getD (Int.toNat k) default), k + 1)))
  else (
  M.pure (.inr l))
def zaP (data : List Dem) (m_ : Int) (aa : List Int) (ab : List Span) (ac : List Int) (ae : List Town) (ah : Int) (ai : Int) (aj : List Flood) (ak : List Int) (al : List Span) (am : List Int) (ao : List Town) (aq : Int) (au : Int) (av : List Flood) : (Int × Int) -> M ((Int × Int) ⊕ Int) := fun (i3, j2) =>
  bif decide (i3 < j2) then (
  M.grd (decide ((-9223372036854775808 : Int) <= (i3 + j2)) && decide ((i3 + j2) <= (9223372036854775807 : Int))) <|
  M.grd (decide ((0 : Int) <= (i3 + j2)) && decide ((i3 + j2) <= (9223372036854775807 : Int))) <|
  M.grd (decide ((0 : Int) <= ((i3 + j2) / 2)) && decide (((i3 + j2) / 2) <= (9223372036854775807 : Int))) <|
  M.grd (decide ((0 : Int) <= m_) && decide (m_ < (data.length : Int))) <|
  M.grd (decide ((0 : Int) <= ((i3 + j2) / 2)) && decide (((i3 + j2) / 2) < (data.length : Int))) <|
  M.bind (zao (data.getD (Int.toNat m_) default) (data.getD (Int.toNat ((i3 + j2) / 2)) default) aa ab ac ae ah ai aj ak al am ao aq au av) fun r3 =>
  bif !(decide (r3 < 0)) then (
  M.pure (.inl (((i3 + j2) / 2) + 1, j2)))
  else (
  M.pure (.inl (i3, (i3 + j2) / 2))))
  else (
  M.pure (.inr i3))
def zaz (i4 : Int) : ((List Dem) × Int) -> M (((List Dem) × Int) ⊕ (List Dem)) := fun (l3, k2) =>
  bif decide (i4 < k2) then (
  M.grd (decide ((-9223372036854775808 : Int) <= (k2 - 1)) && decide ((k2 - 1) <= (9223372036854775807 : Int))) <|
  M.grd (decide ((0 : Int) <= (k2 - 1)) && decide ((k2 - 1) < (l3.length : Int))) <|
  M.grd (decide ((0 : Int) <= k2) && decide (k2 < (l3.length : Int))) <|
  M.grd (decide ((0 : Int) <= (k2 - 1)) && decide ((k2 - 1) < ((l3.set (Int.toNat k2) (l3.getD (Int.toNat (k2 - 1)) default)).length : Int))) <|
  M.pure (.inl ((l3.set (Int.toNat k2) (l3.getD (Int.toNat (k2 - 1)) default)).set (Int.toNat (k2 - 1)) (l3.getD (Int.toNat k2) default), k2 - 1)))
  else (
  M.pure (.inr l3))
def zaZ (data : List Dem) (a : Int) (m_ : Int) (b : Int) (aa : List Int) (ab : List Span) (ac : List Int) (ae : List Town) (ah : Int) (ai : Int) (aj : List Flood) (ak : List Int) (al : List Span) (am : List Int) (ao : List Town) (aq : Int) (au : Int) (av : List Flood) : (Int × Int) -> M ((Int × Int) ⊕ Int) := fun (start2, r6) =>
  bif decide (start2 < r6) then (
  M.grd (decide ((-9223372036854775808 : Int) <= (start2 + r6)) && decide ((start2 + r6) <= (9223372036854775807 : Int))) <|
  M.grd (decide ((0 : Int) <= (start2 + r6)) && decide ((start2 + r6) <= (9223372036854775807 : Int))) <|
  M.grd (decide ((0 : Int) <= ((start2 + r6) / 2)) && decide (((start2 + r6) / 2) <= (9223372036854775807 : Int))) <|
  M.grd (decide ((-9223372036854775808 : Int) <= (((((a + b) / 2) + m_) - 1) - ((start2 + r6) / 2))) && decide ((((((a + b) / 2) + m_) - 1) - ((start2 + r6) / 2)) <= (9223372036854775807 : Int))) <|
  M.grd (decide ((0 : Int) <= (((((a + b) / 2) + m_) - 1) - ((start2 + r6) / 2))) && decide ((((((a + b) / 2) + m_) - 1) - ((start2 + r6) / 2)) < (data.length : Int))) <|
  M.grd (decide ((0 : Int) <= ((start2 + r6) / 2)) && decide (((start2 + r6) / 2) < (data.length : Int))) <|
  M.bind (zao (data.getD (Int.toNat (((((a + b) / 2) + m_) - 1) - ((start2 + r6) / 2))) default) (data.getD (Int.toNat ((start2 + r6) / 2)) default) aa ab ac ae ah ai aj ak al am ao aq au av) fun r5 =>
  bif !(decide (r5 < 0)) then (
  M.pure (.inl (((start2 + r6) / 2) + 1, r6)))
  else (
  M.pure (.inl (start2, (start2 + r6) / 2))))
  else (
  M.pure (.inr start2))
def zax (a : Int) (m_ : Int) (b : Int) (aa : List Int) (ab : List Span) (ac : List Int) (ae : List Town) (ah : Int) (ai : Int) (aj : List Flood) (ak : List Int) (al : List Span) (am : List Int) (ao : List Town) (aq : Int) (au : Int) (av : List Flood) (aw : ((List Dem) × Int × Int × Int × (List Int) × (List Span) × (List Int) × (List Town) × Int × Int × (List Flood) × (List Int) × (List Span) × (List Int) × (List Town) × Int × Int × (List Flood)) -> M (List Dem)) (start3 : Int) (l6 : List Dem) : M (List Dem) :=
  bif ((decide (((a + b) / 2) < ((((a + b) / 2) + m_) - start3))) && (decide (((((a + b) / 2) + m_) - start3) < b))) then (
  M.bind (aw (l6, ((a + b) / 2), ((((a + b) / 2) + m_) - start3), b, aa, ab, ac, ae, ah, ai, aj, ak, al, am, ao, aq, au, av)) fun l_data3 =>
  M.pure l_data3)
  else (
  M.pure l6)
def zaA (a : Int) (m_ : Int) (b : Int) (aa : List Int) (ab : List Span) (ac : List Int) (ae : List Town) (ah : Int) (ai : Int) (aj : List Flood) (ak : List Int) (al : List Span) (am : List Int) (ao : List Town) (aq : Int) (au : Int) (av : List Flood) (aw : ((List Dem) × Int × Int × Int × (List Int) × (List Span) × (List Int) × (List Town) × Int × Int × (List Flood) × (List Int) × (List Span) × (List Int) × (List Town) × Int × Int × (List Flood)) -> M (List Dem)) (start3 : Int) (l5 : List Dem) : M (List Dem) :=
  bif ((decide (a < start3)) && (decide (start3 < ((a + b) / 2)))) then (
  M.bind (aw (l5, a, start3, ((a + b) / 2), aa, ab, ac, ae, ah, ai, aj, ak, al, am, ao, aq, au, av)) fun l_data2 =>
  zax a m_ b aa ab ac ae ah ai aj ak al am ao aq au av aw start3 l_data2)
  else (
  zax a m_ b aa ab ac ae ah ai aj ak al am ao aq au av aw start3 l5)
def zas (data : List Dem) (a : Int) (m_ : Int) (b : Int) (aa : List Int) (ab : List Span) (ac : List Int) (ae : List Town) (ah : Int) (ai : Int) (aj : List Flood) (ak : List Int) (al : List Span) (am : List Int) (ao : List Town) (aq : Int) (au : Int) (av : List Flood) (aw : ((List Dem) × Int × Int × Int × (List Int) × (List Span) × (List Int) × (List Town) × Int × Int × (List Flood) × (List Int) × (List Span) × (List Int) × (List Town) × Int × Int × (List Flood)) -> M (List Dem)) (start : Int) (r4 : Int) : M (List Dem) :=
  M.grd (decide ((-9223372036854775808 : Int) <= ((((a + b) / 2) + m_) - 1)) && decide (((((a + b) / 2) + m_) - 1) <= (9223372036854775807 : Int))) <|
  M.bind (M.iter (zaZ data a m_ b aa ab ac ae ah ai aj ak al am ao aq au av) (start, r4)) fun start3 =>
  M.grd (decide ((-9223372036854775808 : Int) <= ((((a + b) / 2) + m_) - start3)) && decide (((((a + b) / 2) + m_) - start3) <= (9223372036854775807 : Int))) <|
  bif ((decide (start3 < m_)) && (decide (m_ < ((((a + b) / 2) + m_) - start3)))) then (
  M.bind (zb9 data start3 m_ ((((a + b) / 2) + m_) - start3) aa ab ac ae ah ai aj ak al am ao aq au av) fun l_data =>
  zaA a m_ b aa ab ac ae ah ai aj ak al am ao aq au av aw start3 l_data)
  else (
  zaA a m_ b aa ab ac ae ah ai aj ak al am ao aq au av aw start3 data)
def zai (aw : ((List Dem) × Int × Int × Int × (List Int) × (List Span) × (List Int) × (List Town) × Int × Int × (List Flood) × (List Int) × (List Span) × (List Int) × (List Town) × Int × Int × (List Flood)) -> M (List Dem)) : ((List Dem) × Int × Int × Int × (List Int) × (List Span) × (List Int) × (List Town) × Int × Int × (List Flood) × (List Int) × (List Span) × (List Int) × (List Town) × Int × Int × (List Flood)) -> M (List Dem) := fun (data, a, m_, b, aa, ab, ac, ae, ah, ai, aj, ak, al, am, ao, aq, au, av) =>
  M.grd (decide ((-9223372036854775808 : Int) <= (m_ - a)) && decide ((m_ - a) <= (9223372036854775807 : Int))) <|
  bif (m_ - a) == 1 then (
  M.bind (M.iter (zaR data a aa ab ac ae ah ai aj ak al am ao aq au av) (m_, b)) fun i2 =>
  M.bind (M.iter (zay i2) (data, a)) fun l2 =>
  M.pure l2)
  else (
  M.grd (decide ((-9223372036854775808 : Int) <= (b - m_)) && decide ((b - m_) <= (9223372036854775807 : Int))) <|
  bif (b - m_) == 1 then (
  M.bind (M.iter (zaP data m_ aa ab ac ae ah ai aj ak al am ao aq au av) (a, m_)) fun i4 =>
  M.bind (M.iter (zaz i4) (data, m_)) fun l4 =>
  M.pure l4)
  else (
  M.grd (decide ((-9223372036854775808 : Int) <= (a + b)) && decide ((a + b) <= (9223372036854775807 : Int))) <|
  M.grd (decide ((0 : Int) <= (a + b)) && decide ((a + b) <= (9223372036854775807 : Int))) <|
  M.grd (decide ((0 : Int) <= ((a + b) / 2)) && decide (((a + b) / 2) <= (9223372036854775807 : Int))) <|
  M.grd (decide ((-9223372036854775808 : Int) <= (((a + b) / 2) + m_)) && decide ((((a + b) / 2) + m_) <= (9223372036854775807 : Int))) <|
  bif decide (((a + b) / 2) < m_) then (
  M.grd (decide ((-9223372036854775808 : Int) <= ((((a + b) / 2) + m_) - b)) && decide (((((a + b) / 2) + m_) - b) <= (9223372036854775807 : Int))) <|
  zas data a m_ b aa ab ac ae ah ai aj ak al am ao aq au av aw ((((a + b) / 2) + m_) - b) ((a + b) / 2))
  else (
  zas data a m_ b aa ab ac ae ah ai aj ak al am ao aq au av aw a m_)))
theorem zcz : M.Mon zai := by
  intro n f g h a
  obtain ⟨data, a, m_, b, aa, ab, ac, ae, ah, ai, aj, ak, al, am, ao, aq, au, av⟩ := a
  simp only [zai, zaR, zay, zaP, zaz, zaZ, zax, zaA, zas]
  repeat' (first | exact M.le_same _ _ | exact h _ | refine M.le_grd ?_ | refine M.le_if ?_ ?_ | refine M.le_bind ?_ (fun x => ?_) | refine M.le_opt ?_ | refine M.le_iter (fun x => ?_) _ | refine zdm (M.le_yl (fun s_ a_ => ?_)) _ _ _ _ _ _ _ _ _ | (rename_i x; cases x) | (rename_i x; obtain ⟨_, _⟩ := x))
def zbx (data : List Dem) (a : Int) (m_ : Int) (b : Int) (aa : List Int) (ab : List Span) (ac : List Int) (ae : List Town) (ah : Int) (ai : Int) (aj : List Flood) (ak : List Int) (al : List Span) (am : List Int) (ao : List Town) (aq : Int) (au : Int) (av : List Flood) : M (List Dem) := M.fix zai zcz (data, a, m_, b, aa, ab, ac, ae, ah, ai, aj, ak, al, am, ao, aq, au, av)
theorem zdg (n_ : Nat) : ∀ {R : List Chunk} {aa : Value} {am : Nat} {br : Nat} {bt : Nat} {bu : Cells} {bv : Value} {bw : Cells} {bx : Value} {bz : Cells} {bA : Value} {bB : Cells} {bC : Value} {bD : Cells} {bE : Value} {al : Nat} {B_b_cmp2020207 : Base} {bF : Nat} {bG : Nat} {bH : Cells} {bI : Value} {bJ : Cells} {bK : Value} {bL : Cells} {bM : Value} {bN : Cells} {bO : Value} {bP : Cells} {bQ : Value} {bS : Nat} (data : List Dem) (a : Int) (m_ : Int) (b : Int) (ab : List Int) (ac : List Span) (ae : List Int) (ah : List Town) (ai : Int) (aj : Int) (ak : List Flood) (aq : List Int) (au : List Span) (av : List Int) (aw : List Town) (ax : Int) (ay : Int) (az : List Flood) (aB : Reads R bu) (aC : Sl bu bv ab) (aD : Reads R bw) (aE : Sl bw bx ac) (aF : Reads R bz) (aG : Sl bz bA ae) (aH : Reads R bB) (aI : Sl bB bC ah) (aJ : Reads R bD) (aK : Sl bD bE ak) (aL : Has R (cBlk bt [bv, bx, bA, bC, I ai, I aj, bE, .map (some al)] 86)) (aM : Has R (cBlk br [.func (.func 54) #[Pq bt] #[]] 106)) (aN : Reads R bH) (aO : Sl bH bI aq) (aP : Reads R bJ) (aQ : Sl bJ bK au) (aR : Reads R bL) (aS : Sl bL bM av) (aT : Reads R bN) (aU : Sl bN bO aw) (aV : Reads R bP) (aW : Sl bP bQ az) (aX : Has R (cBlk bG [bI, bK, bM, bO, I ax, I ay, bQ, .map (some bS)] 86)) (aY : Has R (cBlk bF [Pq bG] 72)) (aZ : Has R (cBlk am [.func (.func 69) #[] #[Pq br, Pq bF]] 114)) {r : (List Dem)} (hM : (M.fixN zai n_ (data, a, m_, b, ab, ac, ae, ah, ai, aj, ak, aq, au, av, aw, ax, ay, az)).Ends r) (w : World) (H : St w w [cOwn (α := Dem) 62 aa data, cMem encDm al B_b_cmp2020207 (zaa ab ac ae ah ai aj ak)] R), Ret Try.prog 92 #[aa, I a, I m_, I b, .func (.func 71) #[] #[Pq am]] w fun v w' => ∃ (y0 : List Dem) (cq : Base), y0 = r /\ v = .tuple #[] /\ St w w' [cOwn (α := Dem) 62 aa y0, cMem encDm al cq (zaa ab ac ae ah ai aj ak)] R := by
  induction n_ with
  | zero => intro R aa am br bt bu bv bw bx bz bA bB bC bD bE al B_b_cmp2020207 bF bG bH bI bJ bK bL bM bN bO bP bQ bS data a m_ b ab ac ae ah ai aj ak aq au av aw ax ay az aB aC aD aE aF aG aH aI aJ aK aL aM aN aO aP aQ aR aS aT aU aV aW aX aY aZ r hM w H; exact (M.e_fail hM).elim
  | succ n_ ih =>
    intro R aa am br bt bu bv bw bx bz bA bB bC bD bE al B_b_cmp2020207 bF bG bH bI bJ bK bL bM bN bO bP bQ bS data a m_ b ab ac ae ah ai aj ak aq au av aw ax ay az aB aC aD aE aF aG aH aI aJ aK aL aM aN aO aP aQ aR aS aT aU aV aW aX aY aZ r hM w H
    refine ret_of_W Try.func92 rfl rfl rfl ?_
    refine W.seq ?_
    refine W.seq ?_
    refine W.region rfl ?_
    refine zM (I m_) rfl ?_
    refine zM (I a) rfl ?_
    obtain ⟨ct, hM⟩ := M.e_grd hM
    simp only [Bool.and_eq_true, decide_eq_true_eq] at ct
    refine zR m_ a (m_ - a) rfl rfl rfl (by omega) ?_
    refine zC (m_ - a) 1 ((m_ - a) == 1) rfl rfl rfl ?_
    refine s_nil ?_
    refine W.cond ((m_ - a) == 1) rfl (fun bg => ?_) (fun bg => ?_)
    ·replace hM := M.e_t hM bg
     simp only [qy1, qy2, qy3, qy4, qy5, qy6, ne_eq, qy7] at bg
     refine W.seq ?_
     refine W.region rfl ?_
     refine zM (I m_) rfl ?_
     refine zA (I m_) rfl ?_
     refine s_nil ?_
     refine W.seq ?_
     refine W.region rfl ?_
     refine zM (I b) rfl ?_
     refine zA (I b) rfl ?_
     refine s_nil ?_
     refine W.seq ?_
     refine W.block ?_
     obtain ⟨cu, bT, cw⟩ := M.e_bind hM
     obtain ⟨bR, bT⟩ := M.e_iter bT
     refine W.loop (fun m σ W => ∃ (i : Int) (j : Int) (B_mem : Base) (ρ : Env), σ = upds ρ [(0, aa), (1, I a), (4, .func (.func 71) #[] #[Pq am]), (10, I i), (11, I j)] /\ M.iterN (zaR data a ab ac ae ah ai aj ak aq au av aw ax ay az) m (i, j) = some cu /\ St w W [cOwn (α := Dem) 62 aa data, cMem encDm al B_mem (zaa ab ac ae ah ai aj ak)] R) ?_ ?_
     ·exact ⟨_, m_, b, B_b_cmp2020207, _, upds_of _ _ ⟨rfl, rfl, rfl, rfl, rfl, trivial⟩, bT, H⟩
     rintro dI σ dJ ⟨i, j, B_mem, ρ, rfl, ca, H⟩
     obtain ⟨cb, cc, dK, hM, bU⟩ := M.e_iterN ca
     simp only [zaR] at hM
     clear ca
     refine W.seq ?_
     refine W.seq ?_
     refine W.region rfl ?_
     refine zM (I i) rfl ?_
     refine zM (I j) rfl ?_
     refine zC i j (decide (i < j)) rfl rfl rfl ?_
     refine s_nil ?_
     refine W.cond (decide (i < j)) rfl (fun bh => ?_) (fun bh => ?_)
     ·replace hM := M.e_t hM bh
      simp only [qy1, qy2, qy3, qy4, qy5, qy6, ne_eq, qy7] at bh
      refine W.skip ?_
      refine W.block ?_
      refine W.seq ?_
      refine W.region rfl ?_
      refine zM (I i) rfl ?_
      refine zM (I j) rfl ?_
      obtain ⟨cx, hM⟩ := M.e_grd hM
      simp only [Bool.and_eq_true, decide_eq_true_eq] at cx
      refine zR i j (i + j) rfl rfl rfl (by omega) ?_
      obtain ⟨cy, hM⟩ := M.e_grd hM
      simp only [Bool.and_eq_true, decide_eq_true_eq] at cy
      refine s_val (x_convU (kd := .i64) (a := i + j) Try.underlying3 Try.underlying126 rfl (by omega)) ?_
      refine s_val (x_ushr1 (a := i + j) rfl rfl) ?_
      obtain ⟨cz, hM⟩ := M.e_grd hM
      simp only [Bool.and_eq_true, decide_eq_true_eq] at cz
      refine s_val (x_conv64 (kd := .u64) (a := (i + j) / 2) Try.underlying126 Try.underlying3 rfl (by omega)) ?_
      refine zA (I ((i + j) / 2)) rfl ?_
      refine s_nil ?_
      refine W.seq ?_
      refine W.draw (fun W => St w W [cOwn (α := Dem) 62 aa data] R) [(0, true), (1, true), (2, true), (3, true), (4, true), (5, true), (6, true), (7, true), (8, true), (9, false), (10, true)] mixed (by decide +kernel) rfl ?_
      intro dL aA
      replace H := H.ext aA
      clear aA
      refine ⟨(H.pk [0]), ?_⟩
      refine d_q rfl (fun w' H => x_mv (v := .func (.func 71) #[] #[Pq am]) rfl) ?_
      refine d_q rfl (fun w' H => x_mv (v := aa) rfl) ?_
      refine d_q rfl (fun w' H => x_mv (v := I ((i + j) / 2)) rfl) ?_
      obtain ⟨cA, hM⟩ := M.e_grd hM
      simp only [Bool.and_eq_true, decide_eq_true_eq] at cA
      refine d_q rfl (fun w' H => x_ix (a := aa) (b := I ((i + j) / 2)) (v := vat aa 2 (Int.toNat ((i + j) / 2))) rfl rfl (Sl.ix (α := Dem) T57.und T57.size (H.os 0) (by omega) (by omega))) ?_
      refine d_q rfl (fun w' H => x_ld (p := vat aa 2 (Int.toNat ((i + j) / 2))) (v := .agg #[I ((data.getD (Int.toNat ((i + j) / 2)) default).spring), I ((data.getD (Int.toNat ((i + j) / 2)) default).town)]) rfl (ld_ag Ag62 Sz62 (At.mono (Dem_atA (H.os 0) (i := (i + j) / 2) (by omega) (by omega)) (H.ol 0)))) ?_
      refine d_q rfl (fun w' H => x_mv (v := aa) rfl) ?_
      refine d_q rfl (fun w' H => x_mv (v := I a) rfl) ?_
      obtain ⟨cB, hM⟩ := M.e_grd hM
      simp only [Bool.and_eq_true, decide_eq_true_eq] at cB
      refine d_q rfl (fun w' H => x_ix (a := aa) (b := I a) (v := vat aa 2 (Int.toNat a)) rfl rfl (Sl.ix (α := Dem) T57.und T57.size (H.os 0) (by omega) (by omega))) ?_
      refine d_q rfl (fun w' H => x_ld (p := vat aa 2 (Int.toNat a)) (v := .agg #[I ((data.getD (Int.toNat a) default).spring), I ((data.getD (Int.toNat a) default).town)]) rfl (ld_ag Ag62 Sz62 (At.mono (Dem_atA (H.os 0) (i := a) (by omega) (by omega)) (H.ol 0)))) ?_
      refine d_l rfl ?_
      obtain ⟨dM, cC, hM⟩ := M.e_bind hM
      refine s_callv (f := 71) rfl cf71 [.agg #[I ((data.getD (Int.toNat ((i + j) / 2)) default).spring), I ((data.getD (Int.toNat ((i + j) / 2)) default).town)], .agg #[I ((data.getD (Int.toNat a) default).spring), I ((data.getD (Int.toNat a) default).town)]] rfl (zb0 (data.getD (Int.toNat ((i + j) / 2)) default) (data.getD (Int.toNat a) default) ab ac ae ah ai aj ak aq au av aw ax ay az (aB.app _) aC (aD.app _) aE (aF.app _) aG (aH.app _) aI (aJ.app _) aK (aL.app _) (aM.app _) (aN.app _) aO (aP.app _) aQ (aR.app _) aS (aT.app _) aU (aV.app _) aW (aX.app _) (aY.app _) (aZ.app _) cC _ ((H.pk [1, 0]).gt 1)) ?_
      rintro vq dN ⟨r2, cd, cD, hvq, ao⟩
      subst cD
      subst vq
      try dsimp only at hM
      replace H := H.pk [1, 0] |>.bk ao
      clear ao
      refine s_nil ⟨(H.pk [1]), ?_⟩
      refine d_q rfl (fun w' H => x_cmp (kd := .i64) (a := r2) (b := 0) (r := decide (r2 < 0)) rfl rfl rfl) ?_
      refine d_nil ?_
      refine W.cond (decide (r2 < 0)) rfl (fun bi => ?_) (fun bi => ?_)
      ·replace hM := M.e_t hM bi
       simp only [qy1, qy2, qy3, qy4, qy5, qy6, ne_eq, qy7] at bi
       refine W.region rfl ?_
       refine zM (I ((i + j) / 2)) rfl ?_
       refine zR ((i + j) / 2) 1 (((i + j) / 2) + 1) rfl rfl rfl (by omega) ?_
       refine zA (I (((i + j) / 2) + 1)) rfl ?_
       refine s_nil ?_
       exact ⟨cb, cc, ((i + j) / 2) + 1, j, cd, _, upds_of _ _ ⟨rfl, rfl, rfl, rfl, rfl, trivial⟩, M.e_inl hM bU, (H.pk [1, 0])⟩
      replace hM := M.e_f hM bi
      simp only [qy1, qy2, qy3, qy4, qy5, qy6, ne_eq, qy7] at bi
      refine W.region rfl ?_
      refine zM (I ((i + j) / 2)) rfl ?_
      refine zA (I ((i + j) / 2)) rfl ?_
      refine s_nil ?_
      exact ⟨cb, cc, i, (i + j) / 2, cd, _, upds_of _ _ ⟨rfl, rfl, rfl, rfl, rfl, trivial⟩, M.e_inl hM bU, (H.pk [1, 0])⟩
     replace hM := M.e_f hM bh
     simp only [qy1, qy2, qy3, qy4, qy5, qy6, ne_eq, qy7] at bh
     refine W.exit ?_
     have cE := M.e_inr hM bU
     subst cE
     replace hM := cw
     try dsimp only at hM
     refine W.seq ?_
     refine W.seq ?_
     refine W.region rfl ?_
     refine zM (I a) rfl ?_
     refine zA (I a) rfl ?_
     refine s_nil ?_
     refine W.block ?_
     obtain ⟨cF, bV, cG⟩ := M.e_bind hM
     obtain ⟨bR, bV⟩ := M.e_iter bV
     refine W.loop (fun m σ W => ∃ (l : List Dem) (k : Int) (ρ : Env), σ = upds ρ [(0, aa), (10, I i), (13, I k)] /\ M.iterN (zay i) m (l, k) = some cF /\ St w W [cOwn (α := Dem) 62 aa l, cMem encDm al B_mem (zaa ab ac ae ah ai aj ak)] R) ?_ ?_
     ·exact ⟨_, data, a, _, upds_of _ _ ⟨rfl, rfl, rfl, trivial⟩, bV, H⟩
     rintro dO σ dP ⟨l, k, ρ, rfl, ce, H⟩
     obtain ⟨ba, bb, dQ, hM, a6⟩ := M.e_iterN ce
     simp only [zay] at hM
     clear ce
     refine W.seq ?_
     refine W.seq ?_
     refine W.region rfl ?_
     refine zM (I k) rfl ?_
     refine zM (I i) rfl ?_
     obtain ⟨cH, hM⟩ := M.e_grd hM
     simp only [Bool.and_eq_true, decide_eq_true_eq] at cH
     refine zR i 1 (i - 1) rfl rfl rfl (by omega) ?_
     refine zC k (i - 1) (decide (k < (i - 1))) rfl rfl rfl ?_
     refine s_nil ?_
     refine W.cond (decide (k < (i - 1))) rfl (fun bj => ?_) (fun bj => ?_)
     ·replace hM := M.e_t hM bj
      simp only [qy1, qy2, qy3, qy4, qy5, qy6, ne_eq, qy7] at bj
      refine W.skip ?_
      refine W.seq ?_
      refine W.block ?_
      refine W.drawT (fun W => St w W [cMem encDm al B_mem (zaa ab ac ae ah ai aj ak)] R) (.q 0 (.q 1 (.q 2 (.q 3 (.q 4 (.q 5 (.q 6 (.q 7 (.q 10 (.q 11 (.l2 8 (.l2 9 (.l 12 (.l 13 (.l 14 (.l 15 (.l 16 (.l 17 .nil)))))) 12 (.l2 9 (.l 13 (.l 14 (.l 15 (.l 16 (.l 17 .nil))))) 13 (.l 9 (.l 14 (.l 15 (.l 16 (.l 17 .nil))))))) 12 (.l2 8 (.l2 9 (.l 13 (.l 14 (.l 15 (.l 16 (.l 17 .nil))))) 13 (.l 9 (.l 14 (.l 15 (.l 16 (.l 17 .nil)))))) 13 (.l 8 (.l 9 (.l 14 (.l 15 (.l 16 (.l 17 .nil)))))))))))))))))) mixed (by decide +kernel) rfl ?_
      intro dR aA
      replace H := H.ext aA
      clear aA
      refine ⟨(H.pk [1]), ?_⟩
      refine t_q rfl (fun w' H => x_mv (v := aa) rfl) ?_
      refine t_q rfl (fun w' H => x_mv (v := I k) rfl) ?_
      refine t_q rfl (fun w' H => x_mv (v := aa) rfl) ?_
      refine t_q rfl (fun w' H => x_mv (v := I k) rfl) ?_
      obtain ⟨cI, hM⟩ := M.e_grd hM
      simp only [Bool.and_eq_true, decide_eq_true_eq] at cI
      refine t_q rfl (fun w' H => x_ari (a := k) (b := 1) (r := k + 1) rfl rfl rfl (by omega)) ?_
      refine t_q rfl (fun w' H => x_mv (v := aa) rfl) ?_
      refine t_q rfl (fun w' H => x_mv (v := I k) rfl) ?_
      refine t_q rfl (fun w' H => x_ari (a := k) (b := 1) (r := k + 1) rfl rfl rfl (by omega)) ?_
      refine t_q rfl (fun w' H => x_mv (v := aa) rfl) ?_
      refine t_q rfl (fun w' H => x_mv (v := I k) rfl) ?_
      obtain ⟨cJ, hM⟩ := M.e_grd hM
      simp only [Bool.and_eq_true, decide_eq_true_eq] at cJ
      obtain ⟨cK, hM⟩ := M.e_grd hM
      simp only [Bool.and_eq_true, decide_eq_true_eq] at cK
      obtain ⟨cL, hM⟩ := M.e_grd hM
      simp only [Bool.and_eq_true, decide_eq_true_eq] at cL
      refine t_l2 rfl rfl ?_ ?_
      ·skip
       refine s_val (x_ix (a := aa) (b := I (k + 1)) (v := vat aa 2 (Int.toNat (k + 1))) rfl rfl (Sl.ix (α := Dem) T57.und T57.size (H.os 0) (by omega) (by omega))) ?_
       have dS := Sl.cells (H.os 0)
       have dT := Sl.oc (H.os 0)
       refine s_nil ⟨(H.pk [1]), ?_⟩
       refine t_l2 rfl rfl ?_ ?_
       ·skip
        refine s_val (x_ld (p := vat aa 2 (Int.toNat (k + 1))) (v := .agg #[I ((l.getD (Int.toNat (k + 1)) default).spring), I ((l.getD (Int.toNat (k + 1)) default).town)]) rfl (ld_ag Ag62 Sz62 (At.mono (Dem_atA (H.os 0) (i := k + 1) (by omega) (by omega)) (H.ol 0)))) ?_
        refine s_nil ⟨(H.pk [1]), ?_⟩
        refine t_l rfl ?_
        refine s_val (x_ix (a := aa) (b := I k) (v := vat aa 2 (Int.toNat k)) rfl rfl (Sl.ix (α := Dem) T57.und T57.size (H.os 0) (by omega) (by omega))) ?_
        refine s_nil ⟨(H.pk [1]), ?_⟩
        refine t_l rfl ?_
        refine s_val (x_ld (p := vat aa 2 (Int.toNat k)) (v := .agg #[I ((l.getD (Int.toNat k) default).spring), I ((l.getD (Int.toNat k) default).town)]) rfl (ld_ag Ag62 Sz62 (At.mono (Dem_atA (H.os 0) (i := k) (by omega) (by omega)) (H.ol 0)))) ?_
        refine s_nil ⟨(H.pk [1]), ?_⟩
        refine t_l rfl ?_
        refine s_val (x_ix (a := aa) (b := I k) (v := vat aa 2 (Int.toNat k)) rfl rfl (Sl.ix (α := Dem) T57.und T57.size (H.os 0) (by omega) (by omega))) ?_
        refine s_nil ⟨(H.pk [1]), ?_⟩
        refine t_l rfl ?_
        refine t_ost (k := 0) (i := k) (l := l) (l' := l.set (Int.toNat k) (l.getD (Int.toNat (k + 1)) default)) (val := .agg #[I ((l.getD (Int.toNat (k + 1)) default).spring), I ((l.getD (Int.toNat (k + 1)) default).town)]) (L' := [cOwn (α := Dem) 62 aa (l.set (Int.toNat k) (l.getD (Int.toNat (k + 1)) default)), cMem encDm al B_mem (zaa ab ac ae ah ai aj ak)]) H rfl Sz62 (by omega) (by omega) (l.getD (Int.toNat (k + 1)) default) rfl rfl rfl rfl rfl ?_
        intro dU H
        refine s_nil ⟨(H.pk [1]), ?_⟩
        refine t_l rfl ?_
        refine s_val (x_ix (a := aa) (b := I (k + 1)) (v := vat aa 2 (Int.toNat (k + 1))) rfl rfl (Sl.ix (α := Dem) T57.und T57.size (H.os 0) (by omega) (by omega))) ?_
        refine s_nil ⟨(H.pk [1]), ?_⟩
        refine t_l rfl ?_
        refine t_ost (k := 0) (i := k + 1) (l := l.set (Int.toNat k) (l.getD (Int.toNat (k + 1)) default)) (l' := (l.set (Int.toNat k) (l.getD (Int.toNat (k + 1)) default)).set (Int.toNat (k + 1)) (l.getD (Int.toNat k) default)) (val := .agg #[I ((l.getD (Int.toNat k) default).spring), I ((l.getD (Int.toNat k) default).town)]) (L' := [cOwn (α := Dem) 62 aa ((l.set (Int.toNat k) (l.getD (Int.toNat (k + 1)) default)).set (Int.toNat (k + 1)) (l.getD (Int.toNat k) default)), cMem encDm al B_mem (zaa ab ac ae ah ai aj ak)]) H rfl Sz62 (by omega) (by omega) (l.getD (Int.toNat k) default) rfl rfl rfl rfl rfl ?_
        intro dV H
        refine s_nil ⟨(H.pk [1]), ?_⟩
        refine t_nil ?_
        refine W.region rfl ?_
        refine zM (I k) rfl ?_
        refine zR k 1 (k + 1) rfl rfl rfl (by omega) ?_
        refine zA (I (k + 1)) rfl ?_
        refine s_nil ?_
        exact ⟨ba, bb, (l.set (Int.toNat k) (l.getD (Int.toNat (k + 1)) default)).set (Int.toNat (k + 1)) (l.getD (Int.toNat k) default), k + 1, _, upds_of _ _ ⟨rfl, rfl, rfl, trivial⟩, M.e_inl hM a6, H⟩
       skip
       refine s_val (x_ix (a := aa) (b := I k) (v := vat aa 2 (Int.toNat k)) rfl rfl (Sl.ix (α := Dem) T57.und T57.size (H.os 0) (by omega) (by omega))) ?_
       refine s_nil ⟨(H.pk [1]), ?_⟩
       refine t_l2 rfl rfl ?_ ?_
       ·skip
        refine s_val (x_ld (p := vat aa 2 (Int.toNat (k + 1))) (v := .agg #[I ((l.getD (Int.toNat (k + 1)) default).spring), I ((l.getD (Int.toNat (k + 1)) default).town)]) rfl (ld_ag Ag62 Sz62 (At.mono (Dem_atA (H.os 0) (i := k + 1) (by omega) (by omega)) (H.ol 0)))) ?_
        refine s_nil ⟨(H.pk [1]), ?_⟩
        refine t_l rfl ?_
        refine s_val (x_ld (p := vat aa 2 (Int.toNat k)) (v := .agg #[I ((l.getD (Int.toNat k) default).spring), I ((l.getD (Int.toNat k) default).town)]) rfl (ld_ag Ag62 Sz62 (At.mono (Dem_atA (H.os 0) (i := k) (by omega) (by omega)) (H.ol 0)))) ?_
        refine s_nil ⟨(H.pk [1]), ?_⟩
        refine t_l rfl ?_
        refine s_val (x_ix (a := aa) (b := I k) (v := vat aa 2 (Int.toNat k)) rfl rfl (Sl.ix (α := Dem) T57.und T57.size (H.os 0) (by omega) (by omega))) ?_
        refine s_nil ⟨(H.pk [1]), ?_⟩
        refine t_l rfl ?_
        refine t_ost (k := 0) (i := k) (l := l) (l' := l.set (Int.toNat k) (l.getD (Int.toNat (k + 1)) default)) (val := .agg #[I ((l.getD (Int.toNat (k + 1)) default).spring), I ((l.getD (Int.toNat (k + 1)) default).town)]) (L' := [cOwn (α := Dem) 62 aa (l.set (Int.toNat k) (l.getD (Int.toNat (k + 1)) default)), cMem encDm al B_mem (zaa ab ac ae ah ai aj ak)]) H rfl Sz62 (by omega) (by omega) (l.getD (Int.toNat (k + 1)) default) rfl rfl rfl rfl rfl ?_
        intro dW H
        refine s_nil ⟨(H.pk [1]), ?_⟩
        refine t_l rfl ?_
        refine s_val (x_ix (a := aa) (b := I (k + 1)) (v := vat aa 2 (Int.toNat (k + 1))) rfl rfl (Sl.ix (α := Dem) T57.und T57.size (H.os 0) (by omega) (by omega))) ?_
        refine s_nil ⟨(H.pk [1]), ?_⟩
        refine t_l rfl ?_
        refine t_ost (k := 0) (i := k + 1) (l := l.set (Int.toNat k) (l.getD (Int.toNat (k + 1)) default)) (l' := (l.set (Int.toNat k) (l.getD (Int.toNat (k + 1)) default)).set (Int.toNat (k + 1)) (l.getD (Int.toNat k) default)) (val := .agg #[I ((l.getD (Int.toNat k) default).spring), I ((l.getD (Int.toNat k) default).town)]) (L' := [cOwn (α := Dem) 62 aa ((l.set (Int.toNat k) (l.getD (Int.toNat (k + 1)) default)).set (Int.toNat (k + 1)) (l.getD (Int.toNat k) default)), cMem encDm al B_mem (zaa ab ac ae ah ai aj ak)]) H rfl Sz62 (by omega) (by omega) (l.getD (Int.toNat k) default) rfl rfl rfl rfl rfl ?_
        intro dX H
        refine s_nil ⟨(H.pk [1]), ?_⟩
        refine t_nil ?_
        refine W.region rfl ?_
        refine zM (I k) rfl ?_
        refine zR k 1 (k + 1) rfl rfl rfl (by omega) ?_
        refine zA (I (k + 1)) rfl ?_
        refine s_nil ?_
        exact ⟨ba, bb, (l.set (Int.toNat k) (l.getD (Int.toNat (k + 1)) default)).set (Int.toNat (k + 1)) (l.getD (Int.toNat k) default), k + 1, _, upds_of _ _ ⟨rfl, rfl, rfl, trivial⟩, M.e_inl hM a6, H⟩
       skip
       refine s_val (x_ld (p := vat aa 2 (Int.toNat k)) (v := .agg #[I ((l.getD (Int.toNat k) default).spring), I ((l.getD (Int.toNat k) default).town)]) rfl (ld_ag Ag62 Sz62 (At.mono (Dem_atA (H.os 0) (i := k) (by omega) (by omega)) (H.ol 0)))) ?_
       refine s_nil ⟨(H.pk [1]), ?_⟩
       refine t_l rfl ?_
       refine s_val (x_ld (p := vat aa 2 (Int.toNat (k + 1))) (v := .agg #[I ((l.getD (Int.toNat (k + 1)) default).spring), I ((l.getD (Int.toNat (k + 1)) default).town)]) rfl (ld_ag Ag62 Sz62 (At.mono (Dem_atA (H.os 0) (i := k + 1) (by omega) (by omega)) (H.ol 0)))) ?_
       refine s_nil ⟨(H.pk [1]), ?_⟩
       refine t_l rfl ?_
       refine s_val (x_ix (a := aa) (b := I k) (v := vat aa 2 (Int.toNat k)) rfl rfl (Sl.ix (α := Dem) T57.und T57.size (H.os 0) (by omega) (by omega))) ?_
       refine s_nil ⟨(H.pk [1]), ?_⟩
       refine t_l rfl ?_
       refine t_ost (k := 0) (i := k) (l := l) (l' := l.set (Int.toNat k) (l.getD (Int.toNat (k + 1)) default)) (val := .agg #[I ((l.getD (Int.toNat (k + 1)) default).spring), I ((l.getD (Int.toNat (k + 1)) default).town)]) (L' := [cOwn (α := Dem) 62 aa (l.set (Int.toNat k) (l.getD (Int.toNat (k + 1)) default)), cMem encDm al B_mem (zaa ab ac ae ah ai aj ak)]) H rfl Sz62 (by omega) (by omega) (l.getD (Int.toNat (k + 1)) default) rfl rfl rfl rfl rfl ?_
       intro dY H
       refine s_nil ⟨(H.pk [1]), ?_⟩
       refine t_l rfl ?_
       refine s_val (x_ix (a := aa) (b := I (k + 1)) (v := vat aa 2 (Int.toNat (k + 1))) rfl rfl (Sl.ix (α := Dem) T57.und T57.size (H.os 0) (by omega) (by omega))) ?_
       refine s_nil ⟨(H.pk [1]), ?_⟩
       refine t_l rfl ?_
       refine t_ost (k := 0) (i := k + 1) (l := l.set (Int.toNat k) (l.getD (Int.toNat (k + 1)) default)) (l' := (l.set (Int.toNat k) (l.getD (Int.toNat (k + 1)) default)).set (Int.toNat (k + 1)) (l.getD (Int.toNat k) default)) (val := .agg #[I ((l.getD (Int.toNat k) default).spring), I ((l.getD (Int.toNat k) default).town)]) (L' := [cOwn (α := Dem) 62 aa ((l.set (Int.toNat k) (l.getD (Int.toNat (k + 1)) default)).set (Int.toNat (k + 1)) (l.getD (Int.toNat k) default)), cMem encDm al B_mem (zaa ab ac ae ah ai aj ak)]) H rfl Sz62 (by omega) (by omega) (l.getD (Int.toNat k) default) rfl rfl rfl rfl rfl ?_
       intro dZ H
       refine s_nil ⟨(H.pk [1]), ?_⟩
       refine t_nil ?_
       refine W.region rfl ?_
       refine zM (I k) rfl ?_
       refine zR k 1 (k + 1) rfl rfl rfl (by omega) ?_
       refine zA (I (k + 1)) rfl ?_
       refine s_nil ?_
       exact ⟨ba, bb, (l.set (Int.toNat k) (l.getD (Int.toNat (k + 1)) default)).set (Int.toNat (k + 1)) (l.getD (Int.toNat k) default), k + 1, _, upds_of _ _ ⟨rfl, rfl, rfl, trivial⟩, M.e_inl hM a6, H⟩
      skip
      refine s_val (x_ix (a := aa) (b := I k) (v := vat aa 2 (Int.toNat k)) rfl rfl (Sl.ix (α := Dem) T57.und T57.size (H.os 0) (by omega) (by omega))) ?_
      have d3 := Sl.cells (H.os 0)
      have d4 := Sl.oc (H.os 0)
      refine s_nil ⟨(H.pk [1]), ?_⟩
      refine t_l2 rfl rfl ?_ ?_
      ·skip
       refine s_val (x_ix (a := aa) (b := I (k + 1)) (v := vat aa 2 (Int.toNat (k + 1))) rfl rfl (Sl.ix (α := Dem) T57.und T57.size (H.os 0) (by omega) (by omega))) ?_
       refine s_nil ⟨(H.pk [1]), ?_⟩
       refine t_l2 rfl rfl ?_ ?_
       ·skip
        refine s_val (x_ld (p := vat aa 2 (Int.toNat (k + 1))) (v := .agg #[I ((l.getD (Int.toNat (k + 1)) default).spring), I ((l.getD (Int.toNat (k + 1)) default).town)]) rfl (ld_ag Ag62 Sz62 (At.mono (Dem_atA (H.os 0) (i := k + 1) (by omega) (by omega)) (H.ol 0)))) ?_
        refine s_nil ⟨(H.pk [1]), ?_⟩
        refine t_l rfl ?_
        refine s_val (x_ld (p := vat aa 2 (Int.toNat k)) (v := .agg #[I ((l.getD (Int.toNat k) default).spring), I ((l.getD (Int.toNat k) default).town)]) rfl (ld_ag Ag62 Sz62 (At.mono (Dem_atA (H.os 0) (i := k) (by omega) (by omega)) (H.ol 0)))) ?_
        refine s_nil ⟨(H.pk [1]), ?_⟩
        refine t_l rfl ?_
        refine s_val (x_ix (a := aa) (b := I k) (v := vat aa 2 (Int.toNat k)) rfl rfl (Sl.ix (α := Dem) T57.und T57.size (H.os 0) (by omega) (by omega))) ?_
        refine s_nil ⟨(H.pk [1]), ?_⟩
        refine t_l rfl ?_
        refine t_ost (k := 0) (i := k) (l := l) (l' := l.set (Int.toNat k) (l.getD (Int.toNat (k + 1)) default)) (val := .agg #[I ((l.getD (Int.toNat (k + 1)) default).spring), I ((l.getD (Int.toNat (k + 1)) default).town)]) (L' := [cOwn (α := Dem) 62 aa (l.set (Int.toNat k) (l.getD (Int.toNat (k + 1)) default)), cMem encDm al B_mem (zaa ab ac ae ah ai aj ak)]) H rfl Sz62 (by omega) (by omega) (l.getD (Int.toNat (k + 1)) default) rfl rfl rfl rfl rfl ?_
        intro d5 H
        refine s_nil ⟨(H.pk [1]), ?_⟩
        refine t_l rfl ?_
        refine s_val (x_ix (a := aa) (b := I (k + 1)) (v := vat aa 2 (Int.toNat (k + 1))) rfl rfl (Sl.ix (α := Dem) T57.und T57.size (H.os 0) (by omega) (by omega))) ?_
        refine s_nil ⟨(H.pk [1]), ?_⟩
        refine t_l rfl ?_
        refine t_ost (k := 0) (i := k + 1) (l := l.set (Int.toNat k) (l.getD (Int.toNat (k + 1)) default)) (l' := (l.set (Int.toNat k) (l.getD (Int.toNat (k + 1)) default)).set (Int.toNat (k + 1)) (l.getD (Int.toNat k) default)) (val := .agg #[I ((l.getD (Int.toNat k) default).spring), I ((l.getD (Int.toNat k) default).town)]) (L' := [cOwn (α := Dem) 62 aa ((l.set (Int.toNat k) (l.getD (Int.toNat (k + 1)) default)).set (Int.toNat (k + 1)) (l.getD (Int.toNat k) default)), cMem encDm al B_mem (zaa ab ac ae ah ai aj ak)]) H rfl Sz62 (by omega) (by omega) (l.getD (Int.toNat k) default) rfl rfl rfl rfl rfl ?_
        intro d6 H
        refine s_nil ⟨(H.pk [1]), ?_⟩
        refine t_nil ?_
        refine W.region rfl ?_
        refine zM (I k) rfl ?_
        refine zR k 1 (k + 1) rfl rfl rfl (by omega) ?_
        refine zA (I (k + 1)) rfl ?_
        refine s_nil ?_
        exact ⟨ba, bb, (l.set (Int.toNat k) (l.getD (Int.toNat (k + 1)) default)).set (Int.toNat (k + 1)) (l.getD (Int.toNat k) default), k + 1, _, upds_of _ _ ⟨rfl, rfl, rfl, trivial⟩, M.e_inl hM a6, H⟩
       skip
       refine s_val (x_ld (p := vat aa 2 (Int.toNat k)) (v := .agg #[I ((l.getD (Int.toNat k) default).spring), I ((l.getD (Int.toNat k) default).town)]) rfl (ld_ag Ag62 Sz62 (At.mono (Dem_atA (H.os 0) (i := k) (by omega) (by omega)) (H.ol 0)))) ?_
       refine s_nil ⟨(H.pk [1]), ?_⟩
       refine t_l rfl ?_
       refine s_val (x_ld (p := vat aa 2 (Int.toNat (k + 1))) (v := .agg #[I ((l.getD (Int.toNat (k + 1)) default).spring), I ((l.getD (Int.toNat (k + 1)) default).town)]) rfl (ld_ag Ag62 Sz62 (At.mono (Dem_atA (H.os 0) (i := k + 1) (by omega) (by omega)) (H.ol 0)))) ?_
       refine s_nil ⟨(H.pk [1]), ?_⟩
       refine t_l rfl ?_
       refine s_val (x_ix (a := aa) (b := I k) (v := vat aa 2 (Int.toNat k)) rfl rfl (Sl.ix (α := Dem) T57.und T57.size (H.os 0) (by omega) (by omega))) ?_
       refine s_nil ⟨(H.pk [1]), ?_⟩
       refine t_l rfl ?_
       refine t_ost (k := 0) (i := k) (l := l) (l' := l.set (Int.toNat k) (l.getD (Int.toNat (k + 1)) default)) (val := .agg #[I ((l.getD (Int.toNat (k + 1)) default).spring), I ((l.getD (Int.toNat (k + 1)) default).town)]) (L' := [cOwn (α := Dem) 62 aa (l.set (Int.toNat k) (l.getD (Int.toNat (k + 1)) default)), cMem encDm al B_mem (zaa ab ac ae ah ai aj ak)]) H rfl Sz62 (by omega) (by omega) (l.getD (Int.toNat (k + 1)) default) rfl rfl rfl rfl rfl ?_
       intro d7 H
       refine s_nil ⟨(H.pk [1]), ?_⟩
       refine t_l rfl ?_
       refine s_val (x_ix (a := aa) (b := I (k + 1)) (v := vat aa 2 (Int.toNat (k + 1))) rfl rfl (Sl.ix (α := Dem) T57.und T57.size (H.os 0) (by omega) (by omega))) ?_
       refine s_nil ⟨(H.pk [1]), ?_⟩
       refine t_l rfl ?_
       refine t_ost (k := 0) (i := k + 1) (l := l.set (Int.toNat k) (l.getD (Int.toNat (k + 1)) default)) (l' := (l.set (Int.toNat k) (l.getD (Int.toNat (k + 1)) default)).set (Int.toNat (k + 1)) (l.getD (Int.toNat k) default)) (val := .agg #[I ((l.getD (Int.toNat k) default).spring), I ((l.getD (Int.toNat k) default).town)]) (L' := [cOwn (α := Dem) 62 aa ((l.set (Int.toNat k) (l.getD (Int.toNat (k + 1)) default)).set (Int.toNat (k + 1)) (l.getD (Int.toNat k) default)), cMem encDm al B_mem (zaa ab ac ae ah ai aj ak)]) H rfl Sz62 (by omega) (by omega) (l.getD (Int.toNat k) default) rfl rfl rfl rfl rfl ?_
       intro d8 H
       refine s_nil ⟨(H.pk [1]), ?_⟩
       refine t_nil ?_
       refine W.region rfl ?_
       refine zM (I k) rfl ?_
       refine zR k 1 (k + 1) rfl rfl rfl (by omega) ?_
       refine zA (I (k + 1)) rfl ?_
       refine s_nil ?_
       exact ⟨ba, bb, (l.set (Int.toNat k) (l.getD (Int.toNat (k + 1)) default)).set (Int.toNat (k + 1)) (l.getD (Int.toNat k) default), k + 1, _, upds_of _ _ ⟨rfl, rfl, rfl, trivial⟩, M.e_inl hM a6, H⟩
      skip
      refine s_val (x_ld (p := vat aa 2 (Int.toNat k)) (v := .agg #[I ((l.getD (Int.toNat k) default).spring), I ((l.getD (Int.toNat k) default).town)]) rfl (ld_ag Ag62 Sz62 (At.mono (Dem_atA (H.os 0) (i := k) (by omega) (by omega)) (H.ol 0)))) ?_
      refine s_nil ⟨(H.pk [1]), ?_⟩
      refine t_l rfl ?_
      refine s_val (x_ix (a := aa) (b := I (k + 1)) (v := vat aa 2 (Int.toNat (k + 1))) rfl rfl (Sl.ix (α := Dem) T57.und T57.size (H.os 0) (by omega) (by omega))) ?_
      refine s_nil ⟨(H.pk [1]), ?_⟩
      refine t_l rfl ?_
      refine s_val (x_ld (p := vat aa 2 (Int.toNat (k + 1))) (v := .agg #[I ((l.getD (Int.toNat (k + 1)) default).spring), I ((l.getD (Int.toNat (k + 1)) default).town)]) rfl (ld_ag Ag62 Sz62 (At.mono (Dem_atA (H.os 0) (i := k + 1) (by omega) (by omega)) (H.ol 0)))) ?_
      refine s_nil ⟨(H.pk [1]), ?_⟩
      refine t_l rfl ?_
      refine s_val (x_ix (a := aa) (b := I k) (v := vat aa 2 (Int.toNat k)) rfl rfl (Sl.ix (α := Dem) T57.und T57.size (H.os 0) (by omega) (by omega))) ?_
      refine s_nil ⟨(H.pk [1]), ?_⟩
      refine t_l rfl ?_
      refine t_ost (k := 0) (i := k) (l := l) (l' := l.set (Int.toNat k) (l.getD (Int.toNat (k + 1)) default)) (val := .agg #[I ((l.getD (Int.toNat (k + 1)) default).spring), I ((l.getD (Int.toNat (k + 1)) default).town)]) (L' := [cOwn (α := Dem) 62 aa (l.set (Int.toNat k) (l.getD (Int.toNat (k + 1)) default)), cMem encDm al B_mem (zaa ab ac ae ah ai aj ak)]) H rfl Sz62 (by omega) (by omega) (l.getD (Int.toNat (k + 1)) default) rfl rfl rfl rfl rfl ?_
      intro d9 H
      refine s_nil ⟨(H.pk [1]), ?_⟩
      refine t_l rfl ?_
      refine s_val (x_ix (a := aa) (b := I (k + 1)) (v := vat aa 2 (Int.toNat (k + 1))) rfl rfl (Sl.ix (α := Dem) T57.und T57.size (H.os 0) (by omega) (by omega))) ?_
      refine s_nil ⟨(H.pk [1]), ?_⟩
      refine t_l rfl ?_
      refine t_ost (k := 0) (i := k + 1) (l := l.set (Int.toNat k) (l.getD (Int.toNat (k + 1)) default)) (l' := (l.set (Int.toNat k) (l.getD (Int.toNat (k + 1)) default)).set (Int.toNat (k + 1)) (l.getD (Int.toNat k) default)) (val := .agg #[I ((l.getD (Int.toNat k) default).spring), I ((l.getD (Int.toNat k) default).town)]) (L' := [cOwn (α := Dem) 62 aa ((l.set (Int.toNat k) (l.getD (Int.toNat (k + 1)) default)).set (Int.toNat (k + 1)) (l.getD (Int.toNat k) default)), cMem encDm al B_mem (zaa ab ac ae ah ai aj ak)]) H rfl Sz62 (by omega) (by omega) (l.getD (Int.toNat k) default) rfl rfl rfl rfl rfl ?_
      intro ec H
      refine s_nil ⟨(H.pk [1]), ?_⟩
      refine t_nil ?_
      refine W.region rfl ?_
      refine zM (I k) rfl ?_
      refine zR k 1 (k + 1) rfl rfl rfl (by omega) ?_
      refine zA (I (k + 1)) rfl ?_
      refine s_nil ?_
      exact ⟨ba, bb, (l.set (Int.toNat k) (l.getD (Int.toNat (k + 1)) default)).set (Int.toNat (k + 1)) (l.getD (Int.toNat k) default), k + 1, _, upds_of _ _ ⟨rfl, rfl, rfl, trivial⟩, M.e_inl hM a6, H⟩
     replace hM := M.e_f hM bj
     simp only [qy1, qy2, qy3, qy4, qy5, qy6, ne_eq, qy7] at bj
     refine W.exit ?_
     have cM := M.e_inr hM a6
     subst cM
     replace hM := cG
     try dsimp only at hM
     refine W.ret ?_
     have a7 := M.e_pure hM
     exact ⟨_, resE_tmp0 rfl, ⟨l, B_mem, a7, rfl, H⟩⟩
    replace hM := M.e_f hM bg
    simp only [qy1, qy2, qy3, qy4, qy5, qy6, ne_eq, qy7] at bg
    refine W.skip ?_
    refine W.seq ?_
    refine W.seq ?_
    refine W.region rfl ?_
    refine zM (I b) rfl ?_
    refine zM (I m_) rfl ?_
    obtain ⟨cN, hM⟩ := M.e_grd hM
    simp only [Bool.and_eq_true, decide_eq_true_eq] at cN
    refine zR b m_ (b - m_) rfl rfl rfl (by omega) ?_
    refine zC (b - m_) 1 ((b - m_) == 1) rfl rfl rfl ?_
    refine s_nil ?_
    refine W.cond ((b - m_) == 1) rfl (fun bm => ?_) (fun bm => ?_)
    ·replace hM := M.e_t hM bm
     simp only [qy1, qy2, qy3, qy4, qy5, qy6, ne_eq, qy7] at bm
     refine W.seq ?_
     refine W.region rfl ?_
     refine zM (I a) rfl ?_
     refine zA (I a) rfl ?_
     refine s_nil ?_
     refine W.seq ?_
     refine W.region rfl ?_
     refine zM (I m_) rfl ?_
     refine zA (I m_) rfl ?_
     refine s_nil ?_
     refine W.seq ?_
     refine W.block ?_
     obtain ⟨cO, bW, cP⟩ := M.e_bind hM
     obtain ⟨bR, bW⟩ := M.e_iter bW
     refine W.loop (fun m σ W => ∃ (i3 : Int) (j2 : Int) (B_mem2 : Base) (ρ : Env), σ = upds ρ [(0, aa), (2, I m_), (4, .func (.func 71) #[] #[Pq am]), (14, I i3), (15, I j2)] /\ M.iterN (zaP data m_ ab ac ae ah ai aj ak aq au av aw ax ay az) m (i3, j2) = some cO /\ St w W [cOwn (α := Dem) 62 aa data, cMem encDm al B_mem2 (zaa ab ac ae ah ai aj ak)] R) ?_ ?_
     ·exact ⟨_, a, m_, B_b_cmp2020207, _, upds_of _ _ ⟨rfl, rfl, rfl, rfl, rfl, trivial⟩, bW, H⟩
     rintro ed σ ee ⟨i3, j2, B_mem2, ρ, rfl, cf, H⟩
     obtain ⟨cg, ch, ef, hM, bX⟩ := M.e_iterN cf
     simp only [zaP] at hM
     clear cf
     refine W.seq ?_
     refine W.seq ?_
     refine W.region rfl ?_
     refine zM (I i3) rfl ?_
     refine zM (I j2) rfl ?_
     refine zC i3 j2 (decide (i3 < j2)) rfl rfl rfl ?_
     refine s_nil ?_
     refine W.cond (decide (i3 < j2)) rfl (fun bn => ?_) (fun bn => ?_)
     ·replace hM := M.e_t hM bn
      simp only [qy1, qy2, qy3, qy4, qy5, qy6, ne_eq, qy7] at bn
      refine W.skip ?_
      refine W.block ?_
      refine W.seq ?_
      refine W.region rfl ?_
      refine zM (I i3) rfl ?_
      refine zM (I j2) rfl ?_
      obtain ⟨cQ, hM⟩ := M.e_grd hM
      simp only [Bool.and_eq_true, decide_eq_true_eq] at cQ
      refine zR i3 j2 (i3 + j2) rfl rfl rfl (by omega) ?_
      obtain ⟨cR, hM⟩ := M.e_grd hM
      simp only [Bool.and_eq_true, decide_eq_true_eq] at cR
      refine s_val (x_convU (kd := .i64) (a := i3 + j2) Try.underlying3 Try.underlying126 rfl (by omega)) ?_
      refine s_val (x_ushr1 (a := i3 + j2) rfl rfl) ?_
      obtain ⟨cS, hM⟩ := M.e_grd hM
      simp only [Bool.and_eq_true, decide_eq_true_eq] at cS
      refine s_val (x_conv64 (kd := .u64) (a := (i3 + j2) / 2) Try.underlying126 Try.underlying3 rfl (by omega)) ?_
      refine zA (I ((i3 + j2) / 2)) rfl ?_
      refine s_nil ?_
      refine W.seq ?_
      refine W.draw (fun W => St w W [cOwn (α := Dem) 62 aa data] R) [(0, true), (1, true), (2, true), (3, true), (4, true), (5, true), (6, true), (7, true), (8, true), (9, false), (10, true), (11, true)] mixed (by decide +kernel) rfl ?_
      intro eg aA
      replace H := H.ext aA
      clear aA
      refine ⟨(H.pk [0]), ?_⟩
      refine d_q rfl (fun w' H => x_mv (v := .func (.func 71) #[] #[Pq am]) rfl) ?_
      refine d_q rfl (fun w' H => x_mv (v := aa) rfl) ?_
      refine d_q rfl (fun w' H => x_mv (v := I m_) rfl) ?_
      obtain ⟨cT, hM⟩ := M.e_grd hM
      simp only [Bool.and_eq_true, decide_eq_true_eq] at cT
      refine d_q rfl (fun w' H => x_ix (a := aa) (b := I m_) (v := vat aa 2 (Int.toNat m_)) rfl rfl (Sl.ix (α := Dem) T57.und T57.size (H.os 0) (by omega) (by omega))) ?_
      refine d_q rfl (fun w' H => x_ld (p := vat aa 2 (Int.toNat m_)) (v := .agg #[I ((data.getD (Int.toNat m_) default).spring), I ((data.getD (Int.toNat m_) default).town)]) rfl (ld_ag Ag62 Sz62 (At.mono (Dem_atA (H.os 0) (i := m_) (by omega) (by omega)) (H.ol 0)))) ?_
      refine d_q rfl (fun w' H => x_mv (v := aa) rfl) ?_
      refine d_q rfl (fun w' H => x_mv (v := I ((i3 + j2) / 2)) rfl) ?_
      obtain ⟨cU, hM⟩ := M.e_grd hM
      simp only [Bool.and_eq_true, decide_eq_true_eq] at cU
      refine d_q rfl (fun w' H => x_ix (a := aa) (b := I ((i3 + j2) / 2)) (v := vat aa 2 (Int.toNat ((i3 + j2) / 2))) rfl rfl (Sl.ix (α := Dem) T57.und T57.size (H.os 0) (by omega) (by omega))) ?_
      refine d_q rfl (fun w' H => x_ld (p := vat aa 2 (Int.toNat ((i3 + j2) / 2))) (v := .agg #[I ((data.getD (Int.toNat ((i3 + j2) / 2)) default).spring), I ((data.getD (Int.toNat ((i3 + j2) / 2)) default).town)]) rfl (ld_ag Ag62 Sz62 (At.mono (Dem_atA (H.os 0) (i := (i3 + j2) / 2) (by omega) (by omega)) (H.ol 0)))) ?_
      refine d_l rfl ?_
      obtain ⟨eh, cV, hM⟩ := M.e_bind hM
      refine s_callv (f := 71) rfl cf71 [.agg #[I ((data.getD (Int.toNat m_) default).spring), I ((data.getD (Int.toNat m_) default).town)], .agg #[I ((data.getD (Int.toNat ((i3 + j2) / 2)) default).spring), I ((data.getD (Int.toNat ((i3 + j2) / 2)) default).town)]] rfl (zb0 (data.getD (Int.toNat m_) default) (data.getD (Int.toNat ((i3 + j2) / 2)) default) ab ac ae ah ai aj ak aq au av aw ax ay az (aB.app _) aC (aD.app _) aE (aF.app _) aG (aH.app _) aI (aJ.app _) aK (aL.app _) (aM.app _) (aN.app _) aO (aP.app _) aQ (aR.app _) aS (aT.app _) aU (aV.app _) aW (aX.app _) (aY.app _) (aZ.app _) cV _ ((H.pk [1, 0]).gt 1)) ?_
      rintro vq ei ⟨r3, ck, cW, hvq, ao⟩
      subst cW
      subst vq
      try dsimp only at hM
      replace H := H.pk [1, 0] |>.bk ao
      clear ao
      refine s_nil ⟨(H.pk [1]), ?_⟩
      refine d_q rfl (fun w' H => x_cmp (kd := .i64) (a := r3) (b := 0) (r := decide (r3 < 0)) rfl rfl rfl) ?_
      refine d_q rfl (fun w' H => x_not (b := decide (r3 < 0)) rfl) ?_
      refine d_nil ?_
      refine W.cond (!(decide (r3 < 0))) rfl (fun bY => ?_) (fun bY => ?_)
      ·replace hM := M.e_t hM bY
       refine W.region rfl ?_
       refine zM (I ((i3 + j2) / 2)) rfl ?_
       refine zR ((i3 + j2) / 2) 1 (((i3 + j2) / 2) + 1) rfl rfl rfl (by omega) ?_
       refine zA (I (((i3 + j2) / 2) + 1)) rfl ?_
       refine s_nil ?_
       exact ⟨cg, ch, ((i3 + j2) / 2) + 1, j2, ck, _, upds_of _ _ ⟨rfl, rfl, rfl, rfl, rfl, trivial⟩, M.e_inl hM bX, (H.pk [1, 0])⟩
      replace hM := M.e_f hM bY
      refine W.region rfl ?_
      refine zM (I ((i3 + j2) / 2)) rfl ?_
      refine zA (I ((i3 + j2) / 2)) rfl ?_
      refine s_nil ?_
      exact ⟨cg, ch, i3, (i3 + j2) / 2, ck, _, upds_of _ _ ⟨rfl, rfl, rfl, rfl, rfl, trivial⟩, M.e_inl hM bX, (H.pk [1, 0])⟩
     replace hM := M.e_f hM bn
     simp only [qy1, qy2, qy3, qy4, qy5, qy6, ne_eq, qy7] at bn
     refine W.exit ?_
     have cX := M.e_inr hM bX
     subst cX
     replace hM := cP
     try dsimp only at hM
     refine W.seq ?_
     refine W.seq ?_
     refine W.region rfl ?_
     refine zM (I m_) rfl ?_
     refine zA (I m_) rfl ?_
     refine s_nil ?_
     refine W.block ?_
     obtain ⟨cY, bZ, cZ⟩ := M.e_bind hM
     obtain ⟨bR, bZ⟩ := M.e_iter bZ
     refine W.loop (fun m σ W => ∃ (l3 : List Dem) (k2 : Int) (ρ : Env), σ = upds ρ [(0, aa), (14, I i3), (17, I k2)] /\ M.iterN (zaz i3) m (l3, k2) = some cY /\ St w W [cOwn (α := Dem) 62 aa l3, cMem encDm al B_mem2 (zaa ab ac ae ah ai aj ak)] R) ?_ ?_
     ·exact ⟨_, data, m_, _, upds_of _ _ ⟨rfl, rfl, rfl, trivial⟩, bZ, H⟩
     rintro ej σ em ⟨l3, k2, ρ, rfl, cl, H⟩
     obtain ⟨bc, bf, en, hM, a8⟩ := M.e_iterN cl
     simp only [zaz] at hM
     clear cl
     refine W.seq ?_
     refine W.seq ?_
     refine W.region rfl ?_
     refine zM (I k2) rfl ?_
     refine zM (I i3) rfl ?_
     refine zC k2 i3 (decide (i3 < k2)) rfl rfl rfl ?_
     refine s_nil ?_
     refine W.cond (decide (i3 < k2)) rfl (fun bo => ?_) (fun bo => ?_)
     ·replace hM := M.e_t hM bo
      simp only [qy1, qy2, qy3, qy4, qy5, qy6, ne_eq, qy7] at bo
      refine W.skip ?_
      refine W.seq ?_
      refine W.block ?_
      refine W.drawT (fun W => St w W [cMem encDm al B_mem2 (zaa ab ac ae ah ai aj ak)] R) (.q 0 (.q 1 (.q 2 (.q 3 (.q 4 (.q 5 (.q 6 (.q 7 (.q 10 (.q 11 (.l2 8 (.l2 9 (.l 12 (.l 13 (.l 14 (.l 15 (.l 16 (.l 17 .nil)))))) 12 (.l2 9 (.l 13 (.l 14 (.l 15 (.l 16 (.l 17 .nil))))) 13 (.l 9 (.l 14 (.l 15 (.l 16 (.l 17 .nil))))))) 12 (.l2 8 (.l2 9 (.l 13 (.l 14 (.l 15 (.l 16 (.l 17 .nil))))) 13 (.l 9 (.l 14 (.l 15 (.l 16 (.l 17 .nil)))))) 13 (.l 8 (.l 9 (.l 14 (.l 15 (.l 16 (.l 17 .nil)))))))))))))))))) mixed (by decide +kernel) rfl ?_
      intro eo aA
      replace H := H.ext aA
      clear aA
      refine ⟨(H.pk [1]), ?_⟩
      refine t_q rfl (fun w' H => x_mv (v := aa) rfl) ?_
      refine t_q rfl (fun w' H => x_mv (v := I k2) rfl) ?_
      refine t_q rfl (fun w' H => x_mv (v := aa) rfl) ?_
      refine t_q rfl (fun w' H => x_mv (v := I k2) rfl) ?_
      obtain ⟨c0, hM⟩ := M.e_grd hM
      simp only [Bool.and_eq_true, decide_eq_true_eq] at c0
      refine t_q rfl (fun w' H => x_ari (a := k2) (b := 1) (r := k2 - 1) rfl rfl rfl (by omega)) ?_
      refine t_q rfl (fun w' H => x_mv (v := aa) rfl) ?_
      refine t_q rfl (fun w' H => x_mv (v := I k2) rfl) ?_
      refine t_q rfl (fun w' H => x_ari (a := k2) (b := 1) (r := k2 - 1) rfl rfl rfl (by omega)) ?_
      refine t_q rfl (fun w' H => x_mv (v := aa) rfl) ?_
      refine t_q rfl (fun w' H => x_mv (v := I k2) rfl) ?_
      obtain ⟨c6, hM⟩ := M.e_grd hM
      simp only [Bool.and_eq_true, decide_eq_true_eq] at c6
      obtain ⟨c7, hM⟩ := M.e_grd hM
      simp only [Bool.and_eq_true, decide_eq_true_eq] at c7
      obtain ⟨c8, hM⟩ := M.e_grd hM
      simp only [Bool.and_eq_true, decide_eq_true_eq] at c8
      refine t_l2 rfl rfl ?_ ?_
      ·skip
       refine s_val (x_ix (a := aa) (b := I (k2 - 1)) (v := vat aa 2 (Int.toNat (k2 - 1))) rfl rfl (Sl.ix (α := Dem) T57.und T57.size (H.os 0) (by omega) (by omega))) ?_
       have ep := Sl.cells (H.os 0)
       have eq := Sl.oc (H.os 0)
       refine s_nil ⟨(H.pk [1]), ?_⟩
       refine t_l2 rfl rfl ?_ ?_
       ·skip
        refine s_val (x_ld (p := vat aa 2 (Int.toNat (k2 - 1))) (v := .agg #[I ((l3.getD (Int.toNat (k2 - 1)) default).spring), I ((l3.getD (Int.toNat (k2 - 1)) default).town)]) rfl (ld_ag Ag62 Sz62 (At.mono (Dem_atA (H.os 0) (i := k2 - 1) (by omega) (by omega)) (H.ol 0)))) ?_
        refine s_nil ⟨(H.pk [1]), ?_⟩
        refine t_l rfl ?_
        refine s_val (x_ix (a := aa) (b := I k2) (v := vat aa 2 (Int.toNat k2)) rfl rfl (Sl.ix (α := Dem) T57.und T57.size (H.os 0) (by omega) (by omega))) ?_
        refine s_nil ⟨(H.pk [1]), ?_⟩
        refine t_l rfl ?_
        refine s_val (x_ld (p := vat aa 2 (Int.toNat k2)) (v := .agg #[I ((l3.getD (Int.toNat k2) default).spring), I ((l3.getD (Int.toNat k2) default).town)]) rfl (ld_ag Ag62 Sz62 (At.mono (Dem_atA (H.os 0) (i := k2) (by omega) (by omega)) (H.ol 0)))) ?_
        refine s_nil ⟨(H.pk [1]), ?_⟩
        refine t_l rfl ?_
        refine s_val (x_ix (a := aa) (b := I k2) (v := vat aa 2 (Int.toNat k2)) rfl rfl (Sl.ix (α := Dem) T57.und T57.size (H.os 0) (by omega) (by omega))) ?_
        refine s_nil ⟨(H.pk [1]), ?_⟩
        refine t_l rfl ?_
        refine t_ost (k := 0) (i := k2) (l := l3) (l' := l3.set (Int.toNat k2) (l3.getD (Int.toNat (k2 - 1)) default)) (val := .agg #[I ((l3.getD (Int.toNat (k2 - 1)) default).spring), I ((l3.getD (Int.toNat (k2 - 1)) default).town)]) (L' := [cOwn (α := Dem) 62 aa (l3.set (Int.toNat k2) (l3.getD (Int.toNat (k2 - 1)) default)), cMem encDm al B_mem2 (zaa ab ac ae ah ai aj ak)]) H rfl Sz62 (by omega) (by omega) (l3.getD (Int.toNat (k2 - 1)) default) rfl rfl rfl rfl rfl ?_
        intro er H
        refine s_nil ⟨(H.pk [1]), ?_⟩
        refine t_l rfl ?_
        refine s_val (x_ix (a := aa) (b := I (k2 - 1)) (v := vat aa 2 (Int.toNat (k2 - 1))) rfl rfl (Sl.ix (α := Dem) T57.und T57.size (H.os 0) (by omega) (by omega))) ?_
        refine s_nil ⟨(H.pk [1]), ?_⟩
        refine t_l rfl ?_
        refine t_ost (k := 0) (i := k2 - 1) (l := l3.set (Int.toNat k2) (l3.getD (Int.toNat (k2 - 1)) default)) (l' := (l3.set (Int.toNat k2) (l3.getD (Int.toNat (k2 - 1)) default)).set (Int.toNat (k2 - 1)) (l3.getD (Int.toNat k2) default)) (val := .agg #[I ((l3.getD (Int.toNat k2) default).spring), I ((l3.getD (Int.toNat k2) default).town)]) (L' := [cOwn (α := Dem) 62 aa ((l3.set (Int.toNat k2) (l3.getD (Int.toNat (k2 - 1)) default)).set (Int.toNat (k2 - 1)) (l3.getD (Int.toNat k2) default)), cMem encDm al B_mem2 (zaa ab ac ae ah ai aj ak)]) H rfl Sz62 (by omega) (by omega) (l3.getD (Int.toNat k2) default) rfl rfl rfl rfl rfl ?_
        intro eu H
        refine s_nil ⟨(H.pk [1]), ?_⟩
        refine t_nil ?_
        refine W.region rfl ?_
        refine zM (I k2) rfl ?_
        refine zR k2 1 (k2 - 1) rfl rfl rfl (by omega) ?_
        refine zA (I (k2 - 1)) rfl ?_
        refine s_nil ?_
        exact ⟨bc, bf, (l3.set (Int.toNat k2) (l3.getD (Int.toNat (k2 - 1)) default)).set (Int.toNat (k2 - 1)) (l3.getD (Int.toNat k2) default), k2 - 1, _, upds_of _ _ ⟨rfl, rfl, rfl, trivial⟩, M.e_inl hM a8, H⟩
       skip
       refine s_val (x_ix (a := aa) (b := I k2) (v := vat aa 2 (Int.toNat k2)) rfl rfl (Sl.ix (α := Dem) T57.und T57.size (H.os 0) (by omega) (by omega))) ?_
       refine s_nil ⟨(H.pk [1]), ?_⟩
       refine t_l2 rfl rfl ?_ ?_
       ·skip
        refine s_val (x_ld (p := vat aa 2 (Int.toNat (k2 - 1))) (v := .agg #[I ((l3.getD (Int.toNat (k2 - 1)) default).spring), I ((l3.getD (Int.toNat (k2 - 1)) default).town)]) rfl (ld_ag Ag62 Sz62 (At.mono (Dem_atA (H.os 0) (i := k2 - 1) (by omega) (by omega)) (H.ol 0)))) ?_
        refine s_nil ⟨(H.pk [1]), ?_⟩
        refine t_l rfl ?_
        refine s_val (x_ld (p := vat aa 2 (Int.toNat k2)) (v := .agg #[I ((l3.getD (Int.toNat k2) default).spring), I ((l3.getD (Int.toNat k2) default).town)]) rfl (ld_ag Ag62 Sz62 (At.mono (Dem_atA (H.os 0) (i := k2) (by omega) (by omega)) (H.ol 0)))) ?_
        refine s_nil ⟨(H.pk [1]), ?_⟩
        refine t_l rfl ?_
        refine s_val (x_ix (a := aa) (b := I k2) (v := vat aa 2 (Int.toNat k2)) rfl rfl (Sl.ix (α := Dem) T57.und T57.size (H.os 0) (by omega) (by omega))) ?_
        refine s_nil ⟨(H.pk [1]), ?_⟩
        refine t_l rfl ?_
        refine t_ost (k := 0) (i := k2) (l := l3) (l' := l3.set (Int.toNat k2) (l3.getD (Int.toNat (k2 - 1)) default)) (val := .agg #[I ((l3.getD (Int.toNat (k2 - 1)) default).spring), I ((l3.getD (Int.toNat (k2 - 1)) default).town)]) (L' := [cOwn (α := Dem) 62 aa (l3.set (Int.toNat k2) (l3.getD (Int.toNat (k2 - 1)) default)), cMem encDm al B_mem2 (zaa ab ac ae ah ai aj ak)]) H rfl Sz62 (by omega) (by omega) (l3.getD (Int.toNat (k2 - 1)) default) rfl rfl rfl rfl rfl ?_
        intro ew H
        refine s_nil ⟨(H.pk [1]), ?_⟩
        refine t_l rfl ?_
        refine s_val (x_ix (a := aa) (b := I (k2 - 1)) (v := vat aa 2 (Int.toNat (k2 - 1))) rfl rfl (Sl.ix (α := Dem) T57.und T57.size (H.os 0) (by omega) (by omega))) ?_
        refine s_nil ⟨(H.pk [1]), ?_⟩
        refine t_l rfl ?_
        refine t_ost (k := 0) (i := k2 - 1) (l := l3.set (Int.toNat k2) (l3.getD (Int.toNat (k2 - 1)) default)) (l' := (l3.set (Int.toNat k2) (l3.getD (Int.toNat (k2 - 1)) default)).set (Int.toNat (k2 - 1)) (l3.getD (Int.toNat k2) default)) (val := .agg #[I ((l3.getD (Int.toNat k2) default).spring), I ((l3.getD (Int.toNat k2) default).town)]) (L' := [cOwn (α := Dem) 62 aa ((l3.set (Int.toNat k2) (l3.getD (Int.toNat (k2 - 1)) default)).set (Int.toNat (k2 - 1)) (l3.getD (Int.toNat k2) default)), cMem encDm al B_mem2 (zaa ab ac ae ah ai aj ak)]) H rfl Sz62 (by omega) (by omega) (l3.getD (Int.toNat k2) default) rfl rfl rfl rfl rfl ?_
        intro ez H
        refine s_nil ⟨(H.pk [1]), ?_⟩
        refine t_nil ?_
        refine W.region rfl ?_
        refine zM (I k2) rfl ?_
        refine zR k2 1 (k2 - 1) rfl rfl rfl (by omega) ?_
        refine zA (I (k2 - 1)) rfl ?_
        refine s_nil ?_
        exact ⟨bc, bf, (l3.set (Int.toNat k2) (l3.getD (Int.toNat (k2 - 1)) default)).set (Int.toNat (k2 - 1)) (l3.getD (Int.toNat k2) default), k2 - 1, _, upds_of _ _ ⟨rfl, rfl, rfl, trivial⟩, M.e_inl hM a8, H⟩
       skip
       refine s_val (x_ld (p := vat aa 2 (Int.toNat k2)) (v := .agg #[I ((l3.getD (Int.toNat k2) default).spring), I ((l3.getD (Int.toNat k2) default).town)]) rfl (ld_ag Ag62 Sz62 (At.mono (Dem_atA (H.os 0) (i := k2) (by omega) (by omega)) (H.ol 0)))) ?_
       refine s_nil ⟨(H.pk [1]), ?_⟩
       refine t_l rfl ?_
       refine s_val (x_ld (p := vat aa 2 (Int.toNat (k2 - 1))) (v := .agg #[I ((l3.getD (Int.toNat (k2 - 1)) default).spring), I ((l3.getD (Int.toNat (k2 - 1)) default).town)]) rfl (ld_ag Ag62 Sz62 (At.mono (Dem_atA (H.os 0) (i := k2 - 1) (by omega) (by omega)) (H.ol 0)))) ?_
       refine s_nil ⟨(H.pk [1]), ?_⟩
       refine t_l rfl ?_
       refine s_val (x_ix (a := aa) (b := I k2) (v := vat aa 2 (Int.toNat k2)) rfl rfl (Sl.ix (α := Dem) T57.und T57.size (H.os 0) (by omega) (by omega))) ?_
       refine s_nil ⟨(H.pk [1]), ?_⟩
       refine t_l rfl ?_
       refine t_ost (k := 0) (i := k2) (l := l3) (l' := l3.set (Int.toNat k2) (l3.getD (Int.toNat (k2 - 1)) default)) (val := .agg #[I ((l3.getD (Int.toNat (k2 - 1)) default).spring), I ((l3.getD (Int.toNat (k2 - 1)) default).town)]) (L' := [cOwn (α := Dem) 62 aa (l3.set (Int.toNat k2) (l3.getD (Int.toNat (k2 - 1)) default)), cMem encDm al B_mem2 (zaa ab ac ae ah ai aj ak)]) H rfl Sz62 (by omega) (by omega) (l3.getD (Int.toNat (k2 - 1)) default) rfl rfl rfl rfl rfl ?_
       intro eA H
       refine s_nil ⟨(H.pk [1]), ?_⟩
       refine t_l rfl ?_
       refine s_val (x_ix (a := aa) (b := I (k2 - 1)) (v := vat aa 2 (Int.toNat (k2 - 1))) rfl rfl (Sl.ix (α := Dem) T57.und T57.size (H.os 0) (by omega) (by omega))) ?_
       refine s_nil ⟨(H.pk [1]), ?_⟩
       refine t_l rfl ?_
       refine t_ost (k := 0) (i := k2 - 1) (l := l3.set (Int.toNat k2) (l3.getD (Int.toNat (k2 - 1)) default)) (l' := (l3.set (Int.toNat k2) (l3.getD (Int.toNat (k2 - 1)) default)).set (Int.toNat (k2 - 1)) (l3.getD (Int.toNat k2) default)) (val := .agg #[I ((l3.getD (Int.toNat k2) default).spring), I ((l3.getD (Int.toNat k2) default).town)]) (L' := [cOwn (α := Dem) 62 aa ((l3.set (Int.toNat k2) (l3.getD (Int.toNat (k2 - 1)) default)).set (Int.toNat (k2 - 1)) (l3.getD (Int.toNat k2) default)), cMem encDm al B_mem2 (zaa ab ac ae ah ai aj ak)]) H rfl Sz62 (by omega) (by omega) (l3.getD (Int.toNat k2) default) rfl rfl rfl rfl rfl ?_
       intro eB H
       refine s_nil ⟨(H.pk [1]), ?_⟩
       refine t_nil ?_
       refine W.region rfl ?_
       refine zM (I k2) rfl ?_
       refine zR k2 1 (k2 - 1) rfl rfl rfl (by omega) ?_
       refine zA (I (k2 - 1)) rfl ?_
       refine s_nil ?_
       exact ⟨bc, bf, (l3.set (Int.toNat k2) (l3.getD (Int.toNat (k2 - 1)) default)).set (Int.toNat (k2 - 1)) (l3.getD (Int.toNat k2) default), k2 - 1, _, upds_of _ _ ⟨rfl, rfl, rfl, trivial⟩, M.e_inl hM a8, H⟩
      skip
      refine s_val (x_ix (a := aa) (b := I k2) (v := vat aa 2 (Int.toNat k2)) rfl rfl (Sl.ix (α := Dem) T57.und T57.size (H.os 0) (by omega) (by omega))) ?_
      have eC := Sl.cells (H.os 0)
      have eD := Sl.oc (H.os 0)
      refine s_nil ⟨(H.pk [1]), ?_⟩
      refine t_l2 rfl rfl ?_ ?_
      ·skip
       refine s_val (x_ix (a := aa) (b := I (k2 - 1)) (v := vat aa 2 (Int.toNat (k2 - 1))) rfl rfl (Sl.ix (α := Dem) T57.und T57.size (H.os 0) (by omega) (by omega))) ?_
       refine s_nil ⟨(H.pk [1]), ?_⟩
       refine t_l2 rfl rfl ?_ ?_
       ·skip
        refine s_val (x_ld (p := vat aa 2 (Int.toNat (k2 - 1))) (v := .agg #[I ((l3.getD (Int.toNat (k2 - 1)) default).spring), I ((l3.getD (Int.toNat (k2 - 1)) default).town)]) rfl (ld_ag Ag62 Sz62 (At.mono (Dem_atA (H.os 0) (i := k2 - 1) (by omega) (by omega)) (H.ol 0)))) ?_
        refine s_nil ⟨(H.pk [1]), ?_⟩
        refine t_l rfl ?_
        refine s_val (x_ld (p := vat aa 2 (Int.toNat k2)) (v := .agg #[I ((l3.getD (Int.toNat k2) default).spring), I ((l3.getD (Int.toNat k2) default).town)]) rfl (ld_ag Ag62 Sz62 (At.mono (Dem_atA (H.os 0) (i := k2) (by omega) (by omega)) (H.ol 0)))) ?_
        refine s_nil ⟨(H.pk [1]), ?_⟩
        refine t_l rfl ?_
        refine s_val (x_ix (a := aa) (b := I k2) (v := vat aa 2 (Int.toNat k2)) rfl rfl (Sl.ix (α := Dem) T57.und T57.size (H.os 0) (by omega) (by omega))) ?_
        refine s_nil ⟨(H.pk [1]), ?_⟩
        refine t_l rfl ?_
        refine t_ost (k := 0) (i := k2) (l := l3) (l' := l3.set (Int.toNat k2) (l3.getD (Int.toNat (k2 - 1)) default)) (val := .agg #[I ((l3.getD (Int.toNat (k2 - 1)) default).spring), I ((l3.getD (Int.toNat (k2 - 1)) default).town)]) (L' := [cOwn (α := Dem) 62 aa (l3.set (Int.toNat k2) (l3.getD (Int.toNat (k2 - 1)) default)), cMem encDm al B_mem2 (zaa ab ac ae ah ai aj ak)]) H rfl Sz62 (by omega) (by omega) (l3.getD (Int.toNat (k2 - 1)) default) rfl rfl rfl rfl rfl ?_
        intro eE H
        refine s_nil ⟨(H.pk [1]), ?_⟩
        refine t_l rfl ?_
        refine s_val (x_ix (a := aa) (b := I (k2 - 1)) (v := vat aa 2 (Int.toNat (k2 - 1))) rfl rfl (Sl.ix (α := Dem) T57.und T57.size (H.os 0) (by omega) (by omega))) ?_
        refine s_nil ⟨(H.pk [1]), ?_⟩
        refine t_l rfl ?_
        refine t_ost (k := 0) (i := k2 - 1) (l := l3.set (Int.toNat k2) (l3.getD (Int.toNat (k2 - 1)) default)) (l' := (l3.set (Int.toNat k2) (l3.getD (Int.toNat (k2 - 1)) default)).set (Int.toNat (k2 - 1)) (l3.getD (Int.toNat k2) default)) (val := .agg #[I ((l3.getD (Int.toNat k2) default).spring), I ((l3.getD (Int.toNat k2) default).town)]) (L' := [cOwn (α := Dem) 62 aa ((l3.set (Int.toNat k2) (l3.getD (Int.toNat (k2 - 1)) default)).set (Int.toNat (k2 - 1)) (l3.getD (Int.toNat k2) default)), cMem encDm al B_mem2 (zaa ab ac ae ah ai aj ak)]) H rfl Sz62 (by omega) (by omega) (l3.getD (Int.toNat k2) default) rfl rfl rfl rfl rfl ?_
        intro eF H
        refine s_nil ⟨(H.pk [1]), ?_⟩
        refine t_nil ?_
        refine W.region rfl ?_
        refine zM (I k2) rfl ?_
        refine zR k2 1 (k2 - 1) rfl rfl rfl (by omega) ?_
        refine zA (I (k2 - 1)) rfl ?_
        refine s_nil ?_
        exact ⟨bc, bf, (l3.set (Int.toNat k2) (l3.getD (Int.toNat (k2 - 1)) default)).set (Int.toNat (k2 - 1)) (l3.getD (Int.toNat k2) default), k2 - 1, _, upds_of _ _ ⟨rfl, rfl, rfl, trivial⟩, M.e_inl hM a8, H⟩
       skip
       refine s_val (x_ld (p := vat aa 2 (Int.toNat k2)) (v := .agg #[I ((l3.getD (Int.toNat k2) default).spring), I ((l3.getD (Int.toNat k2) default).town)]) rfl (ld_ag Ag62 Sz62 (At.mono (Dem_atA (H.os 0) (i := k2) (by omega) (by omega)) (H.ol 0)))) ?_
       refine s_nil ⟨(H.pk [1]), ?_⟩
       refine t_l rfl ?_
       refine s_val (x_ld (p := vat aa 2 (Int.toNat (k2 - 1))) (v := .agg #[I ((l3.getD (Int.toNat (k2 - 1)) default).spring), I ((l3.getD (Int.toNat (k2 - 1)) default).town)]) rfl (ld_ag Ag62 Sz62 (At.mono (Dem_atA (H.os 0) (i := k2 - 1) (by omega) (by omega)) (H.ol 0)))) ?_
       refine s_nil ⟨(H.pk [1]), ?_⟩
       refine t_l rfl ?_
       refine s_val (x_ix (a := aa) (b := I k2) (v := vat aa 2 (Int.toNat k2)) rfl rfl (Sl.ix (α := Dem) T57.und T57.size (H.os 0) (by omega) (by omega))) ?_
       refine s_nil ⟨(H.pk [1]), ?_⟩
       refine t_l rfl ?_
       refine t_ost (k := 0) (i := k2) (l := l3) (l' := l3.set (Int.toNat k2) (l3.getD (Int.toNat (k2 - 1)) default)) (val := .agg #[I ((l3.getD (Int.toNat (k2 - 1)) default).spring), I ((l3.getD (Int.toNat (k2 - 1)) default).town)]) (L' := [cOwn (α := Dem) 62 aa (l3.set (Int.toNat k2) (l3.getD (Int.toNat (k2 - 1)) default)), cMem encDm al B_mem2 (zaa ab ac ae ah ai aj ak)]) H rfl Sz62 (by omega) (by omega) (l3.getD (Int.toNat (k2 - 1)) default) rfl rfl rfl rfl rfl ?_
       intro eG H
       refine s_nil ⟨(H.pk [1]), ?_⟩
       refine t_l rfl ?_
       refine s_val (x_ix (a := aa) (b := I (k2 - 1)) (v := vat aa 2 (Int.toNat (k2 - 1))) rfl rfl (Sl.ix (α := Dem) T57.und T57.size (H.os 0) (by omega) (by omega))) ?_
       refine s_nil ⟨(H.pk [1]), ?_⟩
       refine t_l rfl ?_
       refine t_ost (k := 0) (i := k2 - 1) (l := l3.set (Int.toNat k2) (l3.getD (Int.toNat (k2 - 1)) default)) (l' := (l3.set (Int.toNat k2) (l3.getD (Int.toNat (k2 - 1)) default)).set (Int.toNat (k2 - 1)) (l3.getD (Int.toNat k2) default)) (val := .agg #[I ((l3.getD (Int.toNat k2) default).spring), I ((l3.getD (Int.toNat k2) default).town)]) (L' := [cOwn (α := Dem) 62 aa ((l3.set (Int.toNat k2) (l3.getD (Int.toNat (k2 - 1)) default)).set (Int.toNat (k2 - 1)) (l3.getD (Int.toNat k2) default)), cMem encDm al B_mem2 (zaa ab ac ae ah ai aj ak)]) H rfl Sz62 (by omega) (by omega) (l3.getD (Int.toNat k2) default) rfl rfl rfl rfl rfl ?_
       intro eH H
       refine s_nil ⟨(H.pk [1]), ?_⟩
       refine t_nil ?_
       refine W.region rfl ?_
       refine zM (I k2) rfl ?_
       refine zR k2 1 (k2 - 1) rfl rfl rfl (by omega) ?_
       refine zA (I (k2 - 1)) rfl ?_
       refine s_nil ?_
       exact ⟨bc, bf, (l3.set (Int.toNat k2) (l3.getD (Int.toNat (k2 - 1)) default)).set (Int.toNat (k2 - 1)) (l3.getD (Int.toNat k2) default), k2 - 1, _, upds_of _ _ ⟨rfl, rfl, rfl, trivial⟩, M.e_inl hM a8, H⟩
      skip
      refine s_val (x_ld (p := vat aa 2 (Int.toNat k2)) (v := .agg #[I ((l3.getD (Int.toNat k2) default).spring), I ((l3.getD (Int.toNat k2) default).town)]) rfl (ld_ag Ag62 Sz62 (At.mono (Dem_atA (H.os 0) (i := k2) (by omega) (by omega)) (H.ol 0)))) ?_
      refine s_nil ⟨(H.pk [1]), ?_⟩
      refine t_l rfl ?_
      refine s_val (x_ix (a := aa) (b := I (k2 - 1)) (v := vat aa 2 (Int.toNat (k2 - 1))) rfl rfl (Sl.ix (α := Dem) T57.und T57.size (H.os 0) (by omega) (by omega))) ?_
      refine s_nil ⟨(H.pk [1]), ?_⟩
      refine t_l rfl ?_
      refine s_val (x_ld (p := vat aa 2 (Int.toNat (k2 - 1))) (v := .agg #[I ((l3.getD (Int.toNat (k2 - 1)) default).spring), I ((l3.getD (Int.toNat (k2 - 1)) default).town)]) rfl (ld_ag Ag62 Sz62 (At.mono (Dem_atA (H.os 0) (i := k2 - 1) (by omega) (by omega)) (H.ol 0)))) ?_
      refine s_nil ⟨(H.pk [1]), ?_⟩
      refine t_l rfl ?_
      refine s_val (x_ix (a := aa) (b := I k2) (v := vat aa 2 (Int.toNat k2)) rfl rfl (Sl.ix (α := Dem) T57.und T57.size (H.os 0) (by omega) (by omega))) ?_
      refine s_nil ⟨(H.pk [1]), ?_⟩
      refine t_l rfl ?_
      refine t_ost (k := 0) (i := k2) (l := l3) (l' := l3.set (Int.toNat k2) (l3.getD (Int.toNat (k2 - 1)) default)) (val := .agg #[I ((l3.getD (Int.toNat (k2 - 1)) default).spring), I ((l3.getD (Int.toNat (k2 - 1)) default).town)]) (L' := [cOwn (α := Dem) 62 aa (l3.set (Int.toNat k2) (l3.getD (Int.toNat (k2 - 1)) default)), cMem encDm al B_mem2 (zaa ab ac ae ah ai aj ak)]) H rfl Sz62 (by omega) (by omega) (l3.getD (Int.toNat (k2 - 1)) default) rfl rfl rfl rfl rfl ?_
      intro eI H
      refine s_nil ⟨(H.pk [1]), ?_⟩
      refine t_l rfl ?_
      refine s_val (x_ix (a := aa) (b := I (k2 - 1)) (v := vat aa 2 (Int.toNat (k2 - 1))) rfl rfl (Sl.ix (α := Dem) T57.und T57.size (H.os 0) (by omega) (by omega))) ?_
      refine s_nil ⟨(H.pk [1]), ?_⟩
      refine t_l rfl ?_
      refine t_ost (k := 0) (i := k2 - 1) (l := l3.set (Int.toNat k2) (l3.getD (Int.toNat (k2 - 1)) default)) (l' := (l3.set (Int.toNat k2) (l3.getD (Int.toNat (k2 - 1)) default)).set (Int.toNat (k2 - 1)) (l3.getD (Int.toNat k2) default)) (val := .agg #[I ((l3.getD (Int.toNat k2) default).spring), I ((l3.getD (Int.toNat k2) default).town)]) (L' := [cOwn (α := Dem) 62 aa ((l3.set (Int.toNat k2) (l3.getD (Int.toNat (k2 - 1)) default)).set (Int.toNat (k2 - 1)) (l3.getD (Int.toNat k2) default)), cMem encDm al B_mem2 (zaa ab ac ae ah ai aj ak)]) H rfl Sz62 (by omega) (by omega) (l3.getD (Int.toNat k2) default) rfl rfl rfl rfl rfl ?_
      intro eJ H
      refine s_nil ⟨(H.pk [1]), ?_⟩
      refine t_nil ?_
      refine W.region rfl ?_
      refine zM (I k2) rfl ?_
      refine zR k2 1 (k2 - 1) rfl rfl rfl (by omega) ?_
      refine zA (I (k2 - 1)) rfl ?_
      refine s_nil ?_
      exact ⟨bc, bf, (l3.set (Int.toNat k2) (l3.getD (Int.toNat (k2 - 1)) default)).set (Int.toNat (k2 - 1)) (l3.getD (Int.toNat k2) default), k2 - 1, _, upds_of _ _ ⟨rfl, rfl, rfl, trivial⟩, M.e_inl hM a8, H⟩
     replace hM := M.e_f hM bo
     simp only [qy1, qy2, qy3, qy4, qy5, qy6, ne_eq, qy7] at bo
     refine W.exit ?_
     have c9 := M.e_inr hM a8
     subst c9
     replace hM := cZ
     try dsimp only at hM
     refine W.ret ?_
     have a7 := M.e_pure hM
     exact ⟨_, resE_tmp0 rfl, ⟨l3, B_mem2, a7, rfl, H⟩⟩
    replace hM := M.e_f hM bm
    simp only [qy1, qy2, qy3, qy4, qy5, qy6, ne_eq, qy7] at bm
    refine W.skip ?_
    refine W.seq ?_
    refine W.region rfl ?_
    refine zM (I a) rfl ?_
    refine zM (I b) rfl ?_
    obtain ⟨da, hM⟩ := M.e_grd hM
    simp only [Bool.and_eq_true, decide_eq_true_eq] at da
    refine zR a b (a + b) rfl rfl rfl (by omega) ?_
    obtain ⟨db, hM⟩ := M.e_grd hM
    simp only [Bool.and_eq_true, decide_eq_true_eq] at db
    refine s_val (x_convU (kd := .i64) (a := a + b) Try.underlying3 Try.underlying126 rfl (by omega)) ?_
    refine s_val (x_ushr1 (a := a + b) rfl rfl) ?_
    obtain ⟨dc, hM⟩ := M.e_grd hM
    simp only [Bool.and_eq_true, decide_eq_true_eq] at dc
    refine s_val (x_conv64 (kd := .u64) (a := (a + b) / 2) Try.underlying126 Try.underlying3 rfl (by omega)) ?_
    refine zA (I ((a + b) / 2)) rfl ?_
    refine s_nil ?_
    refine W.seq ?_
    refine W.region rfl ?_
    refine zM (I ((a + b) / 2)) rfl ?_
    refine zM (I m_) rfl ?_
    obtain ⟨dd, hM⟩ := M.e_grd hM
    simp only [Bool.and_eq_true, decide_eq_true_eq] at dd
    refine zR ((a + b) / 2) m_ (((a + b) / 2) + m_) rfl rfl rfl (by omega) ?_
    refine zA (I (((a + b) / 2) + m_)) rfl ?_
    refine s_nil ?_
    refine W.seq ?_
    refine W.region rfl ?_
    refine zA (I 0) rfl ?_
    refine zA (I 0) rfl ?_
    refine s_nil ?_
    refine W.seqJ (fun σ W => ∃ (start : Int) (r4 : Int) (ρ : Env), σ = upds ρ [(0, aa), (1, I a), (2, I m_), (3, I b), (4, .func (.func 71) #[] #[Pq am]), (18, I ((a + b) / 2)), (19, I (((a + b) / 2) + m_)), (20, I start), (21, I r4)] /\ (zas data a m_ b ab ac ae ah ai aj ak aq au av aw ax ay az (M.fixN zai n_) start r4).Ends r /\ St w W [cOwn (α := Dem) 62 aa data, cMem encDm al B_b_cmp2020207 (zaa ab ac ae ah ai aj ak)] R) ?_ ?_
    ·skip
     refine W.seq ?_
     refine W.region rfl ?_
     refine zM (I m_) rfl ?_
     refine zM (I ((a + b) / 2)) rfl ?_
     refine zC m_ ((a + b) / 2) (decide (((a + b) / 2) < m_)) rfl rfl rfl ?_
     refine s_nil ?_
     refine W.cond (decide (((a + b) / 2) < m_)) rfl (fun bp => ?_) (fun bp => ?_)
     ·replace hM := M.e_t hM bp
      simp only [qy1, qy2, qy3, qy4, qy5, qy6, ne_eq, qy7] at bp
      refine W.seq ?_
      refine W.region rfl ?_
      refine zM (I (((a + b) / 2) + m_)) rfl ?_
      refine zM (I b) rfl ?_
      obtain ⟨de, hM⟩ := M.e_grd hM
      simp only [Bool.and_eq_true, decide_eq_true_eq] at de
      refine zR (((a + b) / 2) + m_) b ((((a + b) / 2) + m_) - b) rfl rfl rfl (by omega) ?_
      refine zA (I ((((a + b) / 2) + m_) - b)) rfl ?_
      refine s_nil ?_
      refine W.region rfl ?_
      refine zM (I ((a + b) / 2)) rfl ?_
      refine zA (I ((a + b) / 2)) rfl ?_
      refine s_nil ?_
      exact ⟨(((a + b) / 2) + m_) - b, (a + b) / 2, _, upds_of _ _ ⟨rfl, rfl, rfl, rfl, rfl, rfl, rfl, rfl, rfl, trivial⟩, hM, H⟩
     replace hM := M.e_f hM bp
     simp only [qy1, qy2, qy3, qy4, qy5, qy6, ne_eq, qy7] at bp
     refine W.seq ?_
     refine W.region rfl ?_
     refine zM (I a) rfl ?_
     refine zA (I a) rfl ?_
     refine s_nil ?_
     refine W.region rfl ?_
     refine zM (I m_) rfl ?_
     refine zA (I m_) rfl ?_
     refine s_nil ?_
     exact ⟨a, m_, _, upds_of _ _ ⟨rfl, rfl, rfl, rfl, rfl, rfl, rfl, rfl, rfl, trivial⟩, hM, H⟩
    rintro _ eK ⟨start, r4, ρ, rfl, hM, H⟩
    unfold zas at hM
    refine W.seq ?_
    refine W.region rfl ?_
    refine zM (I (((a + b) / 2) + m_)) rfl ?_
    obtain ⟨dg, hM⟩ := M.e_grd hM
    simp only [Bool.and_eq_true, decide_eq_true_eq] at dg
    refine zR (((a + b) / 2) + m_) 1 ((((a + b) / 2) + m_) - 1) rfl rfl rfl (by omega) ?_
    refine zA (I ((((a + b) / 2) + m_) - 1)) rfl ?_
    refine s_nil ?_
    refine W.seq ?_
    refine W.block ?_
    obtain ⟨di, b4, dk⟩ := M.e_bind hM
    obtain ⟨bR, b4⟩ := M.e_iter b4
    refine W.loop (fun m σ W => ∃ (start2 : Int) (r6 : Int) (B_mem3 : Base) (ρ : Env), σ = upds ρ [(0, aa), (1, I a), (2, I m_), (3, I b), (4, .func (.func 71) #[] #[Pq am]), (18, I ((a + b) / 2)), (19, I (((a + b) / 2) + m_)), (20, I start2), (21, I r6), (22, I ((((a + b) / 2) + m_) - 1))] /\ M.iterN (zaZ data a m_ b ab ac ae ah ai aj ak aq au av aw ax ay az) m (start2, r6) = some di /\ St w W [cOwn (α := Dem) 62 aa data, cMem encDm al B_mem3 (zaa ab ac ae ah ai aj ak)] R) ?_ ?_
    ·exact ⟨_, start, r4, B_b_cmp2020207, _, upds_of _ _ ⟨rfl, rfl, rfl, rfl, rfl, rfl, rfl, rfl, rfl, rfl, trivial⟩, b4, H⟩
    rintro eL σ eM ⟨start2, r6, B_mem3, ρ, rfl, cm, H⟩
    obtain ⟨cn, co, eN, hM, b5⟩ := M.e_iterN cm
    simp only [zaZ] at hM
    clear cm
    refine W.seq ?_
    refine W.seq ?_
    refine W.region rfl ?_
    refine zM (I start2) rfl ?_
    refine zM (I r6) rfl ?_
    refine zC start2 r6 (decide (start2 < r6)) rfl rfl rfl ?_
    refine s_nil ?_
    refine W.cond (decide (start2 < r6)) rfl (fun bq => ?_) (fun bq => ?_)
    ·replace hM := M.e_t hM bq
     simp only [qy1, qy2, qy3, qy4, qy5, qy6, ne_eq, qy7] at bq
     refine W.skip ?_
     refine W.block ?_
     refine W.seq ?_
     refine W.region rfl ?_
     refine zM (I start2) rfl ?_
     refine zM (I r6) rfl ?_
     obtain ⟨dm, hM⟩ := M.e_grd hM
     simp only [Bool.and_eq_true, decide_eq_true_eq] at dm
     refine zR start2 r6 (start2 + r6) rfl rfl rfl (by omega) ?_
     obtain ⟨dq, hM⟩ := M.e_grd hM
     simp only [Bool.and_eq_true, decide_eq_true_eq] at dq
     refine s_val (x_convU (kd := .i64) (a := start2 + r6) Try.underlying3 Try.underlying126 rfl (by omega)) ?_
     refine s_val (x_ushr1 (a := start2 + r6) rfl rfl) ?_
     obtain ⟨dr, hM⟩ := M.e_grd hM
     simp only [Bool.and_eq_true, decide_eq_true_eq] at dr
     refine s_val (x_conv64 (kd := .u64) (a := (start2 + r6) / 2) Try.underlying126 Try.underlying3 rfl (by omega)) ?_
     refine zA (I ((start2 + r6) / 2)) rfl ?_
     refine s_nil ?_
     refine W.seq ?_
     refine W.draw (fun W => St w W [cOwn (α := Dem) 62 aa data] R) [(0, true), (1, true), (2, true), (3, true), (4, true), (5, true), (6, true), (7, true), (8, true), (9, true), (10, true), (11, false), (12, true), (13, true)] mixed (by decide +kernel) rfl ?_
     intro eO aA
     replace H := H.ext aA
     clear aA
     refine ⟨(H.pk [0]), ?_⟩
     refine d_q rfl (fun w' H => x_mv (v := .func (.func 71) #[] #[Pq am]) rfl) ?_
     refine d_q rfl (fun w' H => x_mv (v := aa) rfl) ?_
     refine d_q rfl (fun w' H => x_mv (v := I ((((a + b) / 2) + m_) - 1)) rfl) ?_
     refine d_q rfl (fun w' H => x_mv (v := I ((start2 + r6) / 2)) rfl) ?_
     obtain ⟨dt, hM⟩ := M.e_grd hM
     simp only [Bool.and_eq_true, decide_eq_true_eq] at dt
     refine d_q rfl (fun w' H => x_ari (a := (((a + b) / 2) + m_) - 1) (b := (start2 + r6) / 2) (r := ((((a + b) / 2) + m_) - 1) - ((start2 + r6) / 2)) rfl rfl rfl (by omega)) ?_
     obtain ⟨du, hM⟩ := M.e_grd hM
     simp only [Bool.and_eq_true, decide_eq_true_eq] at du
     refine d_q rfl (fun w' H => x_ix (a := aa) (b := I (((((a + b) / 2) + m_) - 1) - ((start2 + r6) / 2))) (v := vat aa 2 (Int.toNat (((((a + b) / 2) + m_) - 1) - ((start2 + r6) / 2)))) rfl rfl (Sl.ix (α := Dem) T57.und T57.size (H.os 0) (by omega) (by omega))) ?_
     refine d_q rfl (fun w' H => x_ld (p := vat aa 2 (Int.toNat (((((a + b) / 2) + m_) - 1) - ((start2 + r6) / 2)))) (v := .agg #[I ((data.getD (Int.toNat (((((a + b) / 2) + m_) - 1) - ((start2 + r6) / 2))) default).spring), I ((data.getD (Int.toNat (((((a + b) / 2) + m_) - 1) - ((start2 + r6) / 2))) default).town)]) rfl (ld_ag Ag62 Sz62 (At.mono (Dem_atA (H.os 0) (i := ((((a + b) / 2) + m_) - 1) - ((start2 + r6) / 2)) (by omega) (by omega)) (H.ol 0)))) ?_
     refine d_q rfl (fun w' H => x_mv (v := aa) rfl) ?_
     refine d_q rfl (fun w' H => x_mv (v := I ((start2 + r6) / 2)) rfl) ?_
     obtain ⟨dv, hM⟩ := M.e_grd hM
     simp only [Bool.and_eq_true, decide_eq_true_eq] at dv
     refine d_q rfl (fun w' H => x_ix (a := aa) (b := I ((start2 + r6) / 2)) (v := vat aa 2 (Int.toNat ((start2 + r6) / 2))) rfl rfl (Sl.ix (α := Dem) T57.und T57.size (H.os 0) (by omega) (by omega))) ?_
     refine d_q rfl (fun w' H => x_ld (p := vat aa 2 (Int.toNat ((start2 + r6) / 2))) (v := .agg #[I ((data.getD (Int.toNat ((start2 + r6) / 2)) default).spring), I ((data.getD (Int.toNat ((start2 + r6) / 2)) default).town)]) rfl (ld_ag Ag62 Sz62 (At.mono (Dem_atA (H.os 0) (i := (start2 + r6) / 2) (by omega) (by omega)) (H.ol 0)))) ?_
     refine d_l rfl ?_
     obtain ⟨eP, dw, hM⟩ := M.e_bind hM
     refine s_callv (f := 71) rfl cf71 [.agg #[I ((data.getD (Int.toNat (((((a + b) / 2) + m_) - 1) - ((start2 + r6) / 2))) default).spring), I ((data.getD (Int.toNat (((((a + b) / 2) + m_) - 1) - ((start2 + r6) / 2))) default).town)], .agg #[I ((data.getD (Int.toNat ((start2 + r6) / 2)) default).spring), I ((data.getD (Int.toNat ((start2 + r6) / 2)) default).town)]] rfl (zb0 (data.getD (Int.toNat (((((a + b) / 2) + m_) - 1) - ((start2 + r6) / 2))) default) (data.getD (Int.toNat ((start2 + r6) / 2)) default) ab ac ae ah ai aj ak aq au av aw ax ay az (aB.app _) aC (aD.app _) aE (aF.app _) aG (aH.app _) aI (aJ.app _) aK (aL.app _) (aM.app _) (aN.app _) aO (aP.app _) aQ (aR.app _) aS (aT.app _) aU (aV.app _) aW (aX.app _) (aY.app _) (aZ.app _) dw _ ((H.pk [1, 0]).gt 1)) ?_
     rintro vq eQ ⟨r5, cp, dx, hvq, ao⟩
     subst dx
     subst vq
     try dsimp only at hM
     replace H := H.pk [1, 0] |>.bk ao
     clear ao
     refine s_nil ⟨(H.pk [1]), ?_⟩
     refine d_q rfl (fun w' H => x_cmp (kd := .i64) (a := r5) (b := 0) (r := decide (r5 < 0)) rfl rfl rfl) ?_
     refine d_q rfl (fun w' H => x_not (b := decide (r5 < 0)) rfl) ?_
     refine d_nil ?_
     refine W.cond (!(decide (r5 < 0))) rfl (fun b6 => ?_) (fun b6 => ?_)
     ·replace hM := M.e_t hM b6
      refine W.region rfl ?_
      refine zM (I ((start2 + r6) / 2)) rfl ?_
      refine zR ((start2 + r6) / 2) 1 (((start2 + r6) / 2) + 1) rfl rfl rfl (by omega) ?_
      refine zA (I (((start2 + r6) / 2) + 1)) rfl ?_
      refine s_nil ?_
      exact ⟨cn, co, ((start2 + r6) / 2) + 1, r6, cp, _, upds_of _ _ ⟨rfl, rfl, rfl, rfl, rfl, rfl, rfl, rfl, rfl, rfl, trivial⟩, M.e_inl hM b5, (H.pk [1, 0])⟩
     replace hM := M.e_f hM b6
     refine W.region rfl ?_
     refine zM (I ((start2 + r6) / 2)) rfl ?_
     refine zA (I ((start2 + r6) / 2)) rfl ?_
     refine s_nil ?_
     exact ⟨cn, co, start2, (start2 + r6) / 2, cp, _, upds_of _ _ ⟨rfl, rfl, rfl, rfl, rfl, rfl, rfl, rfl, rfl, rfl, trivial⟩, M.e_inl hM b5, (H.pk [1, 0])⟩
    replace hM := M.e_f hM bq
    simp only [qy1, qy2, qy3, qy4, qy5, qy6, ne_eq, qy7] at bq
    refine W.exit ?_
    have dy := M.e_inr hM b5
    subst dy
    replace hM := dk
    try dsimp only at hM
    refine W.seq ?_
    refine W.region rfl ?_
    refine zM (I (((a + b) / 2) + m_)) rfl ?_
    refine zM (I start2) rfl ?_
    obtain ⟨dz, hM⟩ := M.e_grd hM
    simp only [Bool.and_eq_true, decide_eq_true_eq] at dz
    refine zR (((a + b) / 2) + m_) start2 ((((a + b) / 2) + m_) - start2) rfl rfl rfl (by omega) ?_
    refine zA (I ((((a + b) / 2) + m_) - start2)) rfl ?_
    refine s_nil ?_
    refine W.seqJ (fun σ W => ∃ (l5 : List Dem) (ρ : Env), σ = upds ρ [(0, aa), (1, I a), (3, I b), (4, .func (.func 71) #[] #[Pq am]), (18, I ((a + b) / 2)), (20, I start2), (24, I ((((a + b) / 2) + m_) - start2))] /\ (zaA a m_ b ab ac ae ah ai aj ak aq au av aw ax ay az (M.fixN zai n_) start2 l5).Ends r /\ St w W [cOwn (α := Dem) 62 aa l5, cMem encDm al B_mem3 (zaa ab ac ae ah ai aj ak)] R) ?_ ?_
    ·skip
     refine W.seq ?_
     refine W.region rfl ?_
     refine zM (I start2) rfl ?_
     refine zM (I m_) rfl ?_
     refine zC start2 m_ (decide (start2 < m_)) rfl rfl rfl ?_
     refine zM (B (decide (start2 < m_))) rfl ?_
     refine g_val (decide (start2 < m_)) (gy_t rfl) (fun hg => x_mv (v := I m_) rfl) ?_
     refine g_val (decide (start2 < m_)) (gy_t rfl) (fun hg => x_mv (v := I ((((a + b) / 2) + m_) - start2)) rfl) ?_
     refine g_val (decide (start2 < m_)) (gy_t rfl) (fun hg => x_cmp (kd := .i64) (a := m_) (b := (((a + b) / 2) + m_) - start2) (r := decide (m_ < ((((a + b) / 2) + m_) - start2))) (gd_of (c := decide (start2 < m_)) hg (I m_)) (gd_of (c := decide (start2 < m_)) hg (I ((((a + b) / 2) + m_) - start2))) rfl) ?_
     refine s_val (x_pand (b := decide (start2 < m_)) (r := decide (m_ < ((((a + b) / 2) + m_) - start2))) rfl (fun hb => gd_of (c := decide (start2 < m_)) (by first | exact hb | (rw [hb]; rfl) | simp_all) (B (decide (m_ < ((((a + b) / 2) + m_) - start2))))) rfl) ?_
     refine s_nil ?_
     refine W.cond ((decide (start2 < m_)) && (decide (m_ < ((((a + b) / 2) + m_) - start2)))) rfl (fun b7 => ?_) (fun b7 => ?_)
     ·replace hM := M.e_t hM b7
      refine W.region rfl ?_
      refine zM aa rfl ?_
      refine zM (I start2) rfl ?_
      refine zM (I m_) rfl ?_
      refine zM (I ((((a + b) / 2) + m_) - start2)) rfl ?_
      refine zM (.func (.func 71) #[] #[Pq am]) rfl ?_
      obtain ⟨eR, dA, hM⟩ := M.e_bind hM
      refine s_call cf104 [aa, I start2, I m_, I ((((a + b) / 2) + m_) - start2), .func (.func 71) #[] #[Pq am]] rfl (zdo data start2 m_ ((((a + b) / 2) + m_) - start2) ab ac ae ah ai aj ak aq au av aw ax ay az (aB.app _) aC (aD.app _) aE (aF.app _) aG (aH.app _) aI (aJ.app _) aK (aL.app _) (aM.app _) (aN.app _) aO (aP.app _) aQ (aR.app _) aS (aT.app _) aU (aV.app _) aW (aX.app _) (aY.app _) (aZ.app _) dA _ (H.gt 1)) ?_
      rintro vq eS ⟨l_data, dB, hvq, ao⟩
      subst dB
      subst vq
      try dsimp only at hM
      replace H := H.bk ao
      clear ao
      refine s_nil ?_
      exact ⟨l_data, _, upds_of _ _ ⟨rfl, rfl, rfl, rfl, rfl, rfl, rfl, trivial⟩, hM, H⟩
     replace hM := M.e_f hM b7
     refine W.skip ?_
     exact ⟨data, _, upds_of _ _ ⟨rfl, rfl, rfl, rfl, rfl, rfl, rfl, trivial⟩, hM, H⟩
    rintro _ eT ⟨l5, ρ, rfl, hM, H⟩
    unfold zaA at hM
    refine W.seqJ (fun σ W => ∃ (l6 : List Dem) (B_mem4 : Base) (ρ : Env), σ = upds ρ [(0, aa), (3, I b), (4, .func (.func 71) #[] #[Pq am]), (18, I ((a + b) / 2)), (24, I ((((a + b) / 2) + m_) - start2))] /\ (zax a m_ b ab ac ae ah ai aj ak aq au av aw ax ay az (M.fixN zai n_) start2 l6).Ends r /\ St w W [cOwn (α := Dem) 62 aa l6, cMem encDm al B_mem4 (zaa ab ac ae ah ai aj ak)] R) ?_ ?_
    ·skip
     refine W.seq ?_
     refine W.region rfl ?_
     refine zM (I a) rfl ?_
     refine zM (I start2) rfl ?_
     refine zC a start2 (decide (a < start2)) rfl rfl rfl ?_
     refine zM (B (decide (a < start2))) rfl ?_
     refine g_val (decide (a < start2)) (gy_t rfl) (fun hg => x_mv (v := I start2) rfl) ?_
     refine g_val (decide (a < start2)) (gy_t rfl) (fun hg => x_mv (v := I ((a + b) / 2)) rfl) ?_
     refine g_val (decide (a < start2)) (gy_t rfl) (fun hg => x_cmp (kd := .i64) (a := start2) (b := (a + b) / 2) (r := decide (start2 < ((a + b) / 2))) (gd_of (c := decide (a < start2)) hg (I start2)) (gd_of (c := decide (a < start2)) hg (I ((a + b) / 2))) rfl) ?_
     refine s_val (x_pand (b := decide (a < start2)) (r := decide (start2 < ((a + b) / 2))) rfl (fun hb => gd_of (c := decide (a < start2)) (by first | exact hb | (rw [hb]; rfl) | simp_all) (B (decide (start2 < ((a + b) / 2))))) rfl) ?_
     refine s_nil ?_
     refine W.cond ((decide (a < start2)) && (decide (start2 < ((a + b) / 2)))) rfl (fun b8 => ?_) (fun b8 => ?_)
     ·replace hM := M.e_t hM b8
      refine W.region rfl ?_
      refine zM aa rfl ?_
      refine zM (I a) rfl ?_
      refine zM (I start2) rfl ?_
      refine zM (I ((a + b) / 2)) rfl ?_
      refine zM (.func (.func 71) #[] #[Pq am]) rfl ?_
      obtain ⟨eU, dC, hM⟩ := M.e_bind hM
      refine s_call cf92 [aa, I a, I start2, I ((a + b) / 2), .func (.func 71) #[] #[Pq am]] rfl (ih l5 a start2 ((a + b) / 2) ab ac ae ah ai aj ak aq au av aw ax ay az (aB.app _) aC (aD.app _) aE (aF.app _) aG (aH.app _) aI (aJ.app _) aK (aL.app _) (aM.app _) (aN.app _) aO (aP.app _) aQ (aR.app _) aS (aT.app _) aU (aV.app _) aW (aX.app _) (aY.app _) (aZ.app _) dC _ (H.gt 0)) ?_
      rintro vq eV ⟨l_data2, dD, dE, hvq, ao⟩
      subst dE
      subst vq
      try dsimp only at hM
      replace H := H.bk ao
      clear ao
      refine s_nil ?_
      exact ⟨l_data2, dD, _, upds_of _ _ ⟨rfl, rfl, rfl, rfl, rfl, trivial⟩, hM, H⟩
     replace hM := M.e_f hM b8
     refine W.skip ?_
     exact ⟨l5, B_mem3, _, upds_of _ _ ⟨rfl, rfl, rfl, rfl, rfl, trivial⟩, hM, H⟩
    rintro _ eW ⟨l6, B_mem4, ρ, rfl, hM, H⟩
    unfold zax at hM
    refine W.seq ?_
    refine W.region rfl ?_
    refine zM (I ((a + b) / 2)) rfl ?_
    refine zM (I ((((a + b) / 2) + m_) - start2)) rfl ?_
    refine zC ((a + b) / 2) ((((a + b) / 2) + m_) - start2) (decide (((a + b) / 2) < ((((a + b) / 2) + m_) - start2))) rfl rfl rfl ?_
    refine zM (B (decide (((a + b) / 2) < ((((a + b) / 2) + m_) - start2)))) rfl ?_
    refine g_val (decide (((a + b) / 2) < ((((a + b) / 2) + m_) - start2))) (gy_t rfl) (fun hg => x_mv (v := I ((((a + b) / 2) + m_) - start2)) rfl) ?_
    refine g_val (decide (((a + b) / 2) < ((((a + b) / 2) + m_) - start2))) (gy_t rfl) (fun hg => x_mv (v := I b) rfl) ?_
    refine g_val (decide (((a + b) / 2) < ((((a + b) / 2) + m_) - start2))) (gy_t rfl) (fun hg => x_cmp (kd := .i64) (a := (((a + b) / 2) + m_) - start2) (b := b) (r := decide (((((a + b) / 2) + m_) - start2) < b)) (gd_of (c := decide (((a + b) / 2) < ((((a + b) / 2) + m_) - start2))) hg (I ((((a + b) / 2) + m_) - start2))) (gd_of (c := decide (((a + b) / 2) < ((((a + b) / 2) + m_) - start2))) hg (I b)) rfl) ?_
    refine s_val (x_pand (b := decide (((a + b) / 2) < ((((a + b) / 2) + m_) - start2))) (r := decide (((((a + b) / 2) + m_) - start2) < b)) rfl (fun hb => gd_of (c := decide (((a + b) / 2) < ((((a + b) / 2) + m_) - start2))) (by first | exact hb | (rw [hb]; rfl) | simp_all) (B (decide (((((a + b) / 2) + m_) - start2) < b)))) rfl) ?_
    refine s_nil ?_
    refine W.cond ((decide (((a + b) / 2) < ((((a + b) / 2) + m_) - start2))) && (decide (((((a + b) / 2) + m_) - start2) < b))) rfl (fun b9 => ?_) (fun b9 => ?_)
    ·replace hM := M.e_t hM b9
     refine W.region rfl ?_
     refine zM aa rfl ?_
     refine zM (I ((a + b) / 2)) rfl ?_
     refine zM (I ((((a + b) / 2) + m_) - start2)) rfl ?_
     refine zM (I b) rfl ?_
     refine zM (.func (.func 71) #[] #[Pq am]) rfl ?_
     obtain ⟨eX, dF, hM⟩ := M.e_bind hM
     refine s_call cf92 [aa, I ((a + b) / 2), I ((((a + b) / 2) + m_) - start2), I b, .func (.func 71) #[] #[Pq am]] rfl (ih l6 ((a + b) / 2) ((((a + b) / 2) + m_) - start2) b ab ac ae ah ai aj ak aq au av aw ax ay az (aB.app _) aC (aD.app _) aE (aF.app _) aG (aH.app _) aI (aJ.app _) aK (aL.app _) (aM.app _) (aN.app _) aO (aP.app _) aQ (aR.app _) aS (aT.app _) aU (aV.app _) aW (aX.app _) (aY.app _) (aZ.app _) dF _ (H.gt 0)) ?_
     rintro vq eY ⟨l_data3, dG, dH, hvq, ao⟩
     subst dH
     subst vq
     try dsimp only at hM
     replace H := H.bk ao
     clear ao
     refine s_nil ?_
     have a7 := M.e_pure hM
     exact ⟨_, resE_tmp0 rfl, ⟨l_data3, dG, a7, rfl, H⟩⟩
    replace hM := M.e_f hM b9
    refine W.skip ?_
    have a7 := M.e_pure hM
    exact ⟨_, resE_tmp0 rfl, ⟨l6, B_mem4, a7, rfl, H⟩⟩
theorem zc8 {R : List Chunk} {ak : Value} {ay : Nat} {az : Nat} {aA : Nat} {aB : Cells} {aC : Value} {aD : Cells} {aE : Value} {aF : Cells} {aG : Value} {aH : Cells} {aI : Value} {aJ : Cells} {aK : Value} {al : Nat} {B_b_cmp2020207 : Base} {aL : Nat} {aM : Nat} {aN : Cells} {aO : Value} {aP : Cells} {aQ : Value} {aR : Cells} {aS : Value} {aT : Cells} {aU : Value} {aV : Cells} {aW : Value} {aX : Nat} (data : List Dem) (a : Int) (m_ : Int) (b : Int) (aa : List Int) (ab : List Span) (ac : List Int) (ae : List Town) (ah : Int) (ai : Int) (aj : List Flood) (am : List Int) (ao : List Span) (aq : List Int) (au : List Town) (av : Int) (aw : Int) (ax : List Flood) (aY : Reads R aB) (aZ : Sl aB aC aa) (a6 : Reads R aD) (a7 : Sl aD aE ab) (a8 : Reads R aF) (ba : Sl aF aG ac) (bb : Reads R aH) (bc : Sl aH aI ae) (bf : Reads R aJ) (bg : Sl aJ aK aj) (bh : Has R (cBlk aA [aC, aE, aG, aI, I ah, I ai, aK, .map (some al)] 86)) (bi : Has R (cBlk az [.func (.func 54) #[Pq aA] #[]] 106)) (bj : Reads R aN) (bm : Sl aN aO am) (bn : Reads R aP) (bo : Sl aP aQ ao) (bp : Reads R aR) (bq : Sl aR aS aq) (br : Reads R aT) (bt : Sl aT aU au) (bu : Reads R aV) (bv : Sl aV aW ax) (bw : Has R (cBlk aM [aO, aQ, aS, aU, I av, I aw, aW, .map (some aX)] 86)) (bx : Has R (cBlk aL [Pq aM] 72)) (bz : Has R (cBlk ay [.func (.func 69) #[] #[Pq az, Pq aL]] 114)) {r : (List Dem)} (hM : (zbx data a m_ b aa ab ac ae ah ai aj am ao aq au av aw ax).Ends r) (w : World) (H : St w w [cOwn (α := Dem) 62 ak data, cMem encDm al B_b_cmp2020207 (zaa aa ab ac ae ah ai aj)] R) : Ret Try.prog 92 #[ak, I a, I m_, I b, .func (.func 71) #[] #[Pq ay]] w fun v w' => ∃ (y0 : List Dem) (bA : Base), y0 = r /\ v = .tuple #[] /\ St w w' [cOwn (α := Dem) 62 ak y0, cMem encDm al bA (zaa aa ab ac ae ah ai aj)] R := by
  obtain ⟨n_, hM⟩ := M.e_fix hM
  exact zdg n_ data a m_ b aa ab ac ae ah ai aj am ao aq au av aw ax aY aZ a6 a7 a8 ba bb bc bf bg bh bi bj bm bn bo bp bq br bt bu bv bw bx bz hM w H

def zb6 (n : Int) (aa : List Int) (ab : List Span) (ac : List Int) (ae : List Town) (ah : Int) (ai : Int) (aj : List Flood) (ak : List Int) (al : List Span) (am : List Int) (ao : List Town) (aq : Int) (au : Int) (av : List Flood) : ((List Dem) × Int × Int) -> M (((List Dem) × Int × Int) ⊕ ((List Dem) × Int × (List Dem))) := fun (l, a, b) =>
  bif decide (b <= n) then (
  M.bind (zbw l a b aa ab ac ae ah ai aj ak al am ao aq au av) fun l_data =>
  M.grd (decide ((-9223372036854775808 : Int) <= (b + 20)) && decide ((b + 20) <= (9223372036854775807 : Int))) <|
  M.pure (.inl (l_data, b, b + 20)))
  else (
  M.pure (.inr (l, a, l)))
def zbR (n : Int) (aa : List Int) (ab : List Span) (ac : List Int) (ae : List Town) (ah : Int) (ai : Int) (aj : List Flood) (ak : List Int) (al : List Span) (am : List Int) (ao : List Town) (aq : Int) (au : Int) (av : List Flood) (blockSize : Int) : ((List Dem) × Int × Int) -> M (((List Dem) × Int × Int) ⊕ ((List Dem) × Int × (List Dem))) := fun (l4, a3, b2) =>
  bif decide (b2 <= n) then (
  M.grd (decide ((-9223372036854775808 : Int) <= (a3 + blockSize)) && decide ((a3 + blockSize) <= (9223372036854775807 : Int))) <|
  M.bind (zbx l4 a3 (a3 + blockSize) b2 aa ab ac ae ah ai aj ak al am ao aq au av) fun l_data3 =>
  M.grd (decide ((-9223372036854775808 : Int) <= (b2 + (2 * blockSize))) && decide ((b2 + (2 * blockSize)) <= (9223372036854775807 : Int))) <|
  M.pure (.inl (l_data3, b2, b2 + (2 * blockSize))))
  else (
  M.pure (.inr (l4, a3, l4)))
def zcd (n : Int) (aa : List Int) (ab : List Span) (ac : List Int) (ae : List Town) (ah : Int) (ai : Int) (aj : List Flood) (ak : List Int) (al : List Span) (am : List Int) (ao : List Town) (aq : Int) (au : Int) (av : List Flood) : ((List Dem) × Int) -> M (((List Dem) × Int) ⊕ (List Dem)) := fun (l8, blockSize) =>
  bif decide (blockSize < n) then (
  M.grd (decide ((-9223372036854775808 : Int) <= (2 * blockSize)) && decide ((2 * blockSize) <= (9223372036854775807 : Int))) <|
  M.bind (M.iter (zbR n aa ab ac ae ah ai aj ak al am ao aq au av blockSize) (l8, 0, 2 * blockSize)) fun (l5, a4, l6) =>
  M.grd (decide ((-9223372036854775808 : Int) <= (a4 + blockSize)) && decide ((a4 + blockSize) <= (9223372036854775807 : Int))) <|
  bif decide ((a4 + blockSize) < n) then (
  M.bind (zbx l6 a4 (a4 + blockSize) n aa ab ac ae ah ai aj ak al am ao aq au av) fun l_data4 =>
  M.grd (decide ((-9223372036854775808 : Int) <= (blockSize * 2)) && decide ((blockSize * 2) <= (9223372036854775807 : Int))) <|
  M.pure (.inl (l_data4, blockSize * 2)))
  else (
  M.grd (decide ((-9223372036854775808 : Int) <= (blockSize * 2)) && decide ((blockSize * 2) <= (9223372036854775807 : Int))) <|
  M.pure (.inl (l6, blockSize * 2))))
  else (
  M.pure (.inr l8))
def zcb (data : List Dem) (n : Int) (aa : List Int) (ab : List Span) (ac : List Int) (ae : List Town) (ah : Int) (ai : Int) (aj : List Flood) (ak : List Int) (al : List Span) (am : List Int) (ao : List Town) (aq : Int) (au : Int) (av : List Flood) : M (List Dem) :=
  M.bind (M.iter (zb6 n aa ab ac ae ah ai aj ak al am ao aq au av) (data, 0, 20)) fun (l2, a2, l3) =>
  M.bind (zbw l3 a2 n aa ab ac ae ah ai aj ak al am ao aq au av) fun l_data2 =>
  M.bind (M.iter (zcd n aa ab ac ae ah ai aj ak al am ao aq au av) (l_data2, 20)) fun l9 =>
  M.pure l9
theorem zdq {R : List Chunk} {aa : Value} {al : Nat} {bg : Nat} {bh : Nat} {bi : Cells} {bj : Value} {bm : Cells} {bn : Value} {bo : Cells} {bp : Value} {bq : Cells} {br : Value} {bt : Cells} {bu : Value} {az : Nat} {B_b_cmp2020207 : Base} {bv : Nat} {bw : Nat} {bx : Cells} {bz : Value} {bA : Cells} {bB : Value} {bC : Cells} {bD : Value} {bE : Cells} {bF : Value} {bG : Cells} {bH : Value} {bQ : Nat} (data : List Dem) (n : Int) (ab : List Int) (ac : List Span) (ae : List Int) (ah : List Town) (ai : Int) (aj : Int) (ak : List Flood) (ao : List Int) (aq : List Span) (au : List Int) (av : List Town) (aw : Int) (ax : Int) (ay : List Flood) (aE : Reads R bi) (aF : Sl bi bj ab) (aG : Reads R bm) (aH : Sl bm bn ac) (aI : Reads R bo) (aJ : Sl bo bp ae) (aK : Reads R bq) (aL : Sl bq br ah) (aM : Reads R bt) (aN : Sl bt bu ak) (aO : Has R (cBlk bh [bj, bn, bp, br, I ai, I aj, bu, .map (some az)] 86)) (aP : Has R (cBlk bg [.func (.func 54) #[Pq bh] #[]] 106)) (aQ : Reads R bx) (aR : Sl bx bz ao) (aS : Reads R bA) (aT : Sl bA bB aq) (aU : Reads R bC) (aV : Sl bC bD au) (aW : Reads R bE) (aX : Sl bE bF av) (aY : Reads R bG) (aZ : Sl bG bH ay) (a6 : Has R (cBlk bw [bz, bB, bD, bF, I aw, I ax, bH, .map (some bQ)] 86)) (a7 : Has R (cBlk bv [Pq bw] 72)) (a8 : Has R (cBlk al [.func (.func 69) #[] #[Pq bg, Pq bv]] 114)) {r : (List Dem)} (hM : (zcb data n ab ac ae ah ai aj ak ao aq au av aw ax ay).Ends r) (w : World) (H : St w w [cOwn (α := Dem) 62 aa data, cMem encDm az B_b_cmp2020207 (zaa ab ac ae ah ai aj ak)] R) : Ret Try.prog 86 #[aa, I n, .func (.func 71) #[] #[Pq al]] w fun v w' => ∃ (y0 : List Dem) (bR : Base), y0 = r /\ v = .tuple #[] /\ St w w' [cOwn (α := Dem) 62 aa y0, cMem encDm az bR (zaa ab ac ae ah ai aj ak)] R := by
 refine ret_of_W Try.func86 rfl rfl rfl ?_
 refine W.seq ?_
 refine W.region rfl ?_
 refine zA (I 20) rfl ?_
 refine s_nil ?_
 refine W.seq ?_
 refine W.region rfl ?_
 refine zM (I 20) rfl ?_
 refine zA (I 0) rfl ?_
 refine zA (I 20) rfl ?_
 refine s_nil ?_
 refine W.seq ?_
 refine W.block ?_
 obtain ⟨bS, ba, bT⟩ := M.e_bind hM
 obtain ⟨bI, ba⟩ := M.e_iter ba
 refine W.loop (fun m σ W => ∃ (l : List Dem) (a : Int) (b : Int) (B_mem : Base) (ρ : Env), σ = upds ρ [(0, aa), (1, I n), (2, .func (.func 71) #[] #[Pq al]), (6, I 20), (7, I a), (8, I b)] /\ M.iterN (zb6 n ab ac ae ah ai aj ak ao aq au av aw ax ay) m (l, a, b) = some bS /\ St w W [cOwn (α := Dem) 62 aa l, cMem encDm az B_mem (zaa ab ac ae ah ai aj ak)] R) ?_ ?_
 ·exact ⟨_, data, 0, 20, B_b_cmp2020207, _, upds_of _ _ ⟨rfl, rfl, rfl, rfl, rfl, rfl, trivial⟩, ba, H⟩
 rintro cy σ cz ⟨l, a, b, B_mem, ρ, rfl, bJ, H⟩
 obtain ⟨bU, bV, cA, hM, bK⟩ := M.e_iterN bJ
 simp only [zb6] at hM
 clear bJ
 refine W.seq ?_
 refine W.seq ?_
 refine W.region rfl ?_
 refine zM (I b) rfl ?_
 refine zM (I n) rfl ?_
 refine zC b n (decide (b <= n)) rfl rfl rfl ?_
 refine s_nil ?_
 refine W.cond (decide (b <= n)) rfl (fun aA => ?_) (fun aA => ?_)
 ·replace hM := M.e_t hM aA
  simp only [qy1, qy2, qy3, qy4, qy5, qy6, ne_eq, qy7] at aA
  refine W.skip ?_
  refine W.block ?_
  refine W.seq ?_
  refine W.region rfl ?_
  refine zM aa rfl ?_
  refine zM (I a) rfl ?_
  refine zM (I b) rfl ?_
  refine zM (.func (.func 71) #[] #[Pq al]) rfl ?_
  obtain ⟨cB, bW, hM⟩ := M.e_bind hM
  refine s_call cf91 [aa, I a, I b, .func (.func 71) #[] #[Pq al]] rfl (zcO l a b ab ac ae ah ai aj ak ao aq au av aw ax ay (aE.app _) aF (aG.app _) aH (aI.app _) aJ (aK.app _) aL (aM.app _) aN (aO.app _) (aP.app _) (aQ.app _) aR (aS.app _) aT (aU.app _) aV (aW.app _) aX (aY.app _) aZ (a6.app _) (a7.app _) (a8.app _) bW _ (H.gt 0)) ?_
  rintro vq cC ⟨l_data, bX, bY, hvq, am⟩
  subst bY
  subst vq
  try dsimp only at hM
  replace H := H.bk am
  clear am
  refine s_nil ?_
  refine W.seq ?_
  refine W.region rfl ?_
  refine zM (I b) rfl ?_
  refine zA (I b) rfl ?_
  refine s_nil ?_
  refine W.region rfl ?_
  refine zM (I b) rfl ?_
  refine zM (I 20) rfl ?_
  obtain ⟨bZ, hM⟩ := M.e_grd hM
  simp only [Bool.and_eq_true, decide_eq_true_eq] at bZ
  refine zR b 20 (b + 20) rfl rfl rfl (by omega) ?_
  refine zA (I (b + 20)) rfl ?_
  refine s_nil ?_
  exact ⟨bU, bV, l_data, b, b + 20, bX, _, upds_of _ _ ⟨rfl, rfl, rfl, rfl, rfl, rfl, trivial⟩, M.e_inl hM bK, H⟩
 replace hM := M.e_f hM aA
 simp only [qy1, qy2, qy3, qy4, qy5, qy6, ne_eq, qy7] at aA
 refine W.exit ?_
 have b4 := M.e_inr hM bK
 subst b4
 replace hM := bT
 try dsimp only at hM
 refine W.seq ?_
 refine W.region rfl ?_
 refine zM aa rfl ?_
 refine zM (I a) rfl ?_
 refine zM (I n) rfl ?_
 refine zM (.func (.func 71) #[] #[Pq al]) rfl ?_
 obtain ⟨cD, b5, hM⟩ := M.e_bind hM
 refine s_call cf91 [aa, I a, I n, .func (.func 71) #[] #[Pq al]] rfl (zcO l a n ab ac ae ah ai aj ak ao aq au av aw ax ay (aE.app _) aF (aG.app _) aH (aI.app _) aJ (aK.app _) aL (aM.app _) aN (aO.app _) (aP.app _) (aQ.app _) aR (aS.app _) aT (aU.app _) aV (aW.app _) aX (aY.app _) aZ (a6.app _) (a7.app _) (a8.app _) b5 _ (H.gt 0)) ?_
 rintro vq cE ⟨l_data2, b6, b7, hvq, am⟩
 subst b7
 subst vq
 try dsimp only at hM
 replace H := H.bk am
 clear am
 refine s_nil ?_
 refine W.block ?_
 obtain ⟨b8, bb, b9⟩ := M.e_bind hM
 obtain ⟨bI, bb⟩ := M.e_iter bb
 refine W.loop (fun m σ W => ∃ (l8 : List Dem) (blockSize : Int) (B_mem4 : Base) (ρ : Env), σ = upds ρ [(0, aa), (1, I n), (2, .func (.func 71) #[] #[Pq al]), (6, I blockSize)] /\ M.iterN (zcd n ab ac ae ah ai aj ak ao aq au av aw ax ay) m (l8, blockSize) = some b8 /\ St w W [cOwn (α := Dem) 62 aa l8, cMem encDm az B_mem4 (zaa ab ac ae ah ai aj ak)] R) ?_ ?_
 ·exact ⟨_, l_data2, 20, b6, _, upds_of _ _ ⟨rfl, rfl, rfl, rfl, trivial⟩, bb, H⟩
 rintro cF σ cG ⟨l8, blockSize, B_mem4, ρ, rfl, bL, H⟩
 obtain ⟨bM, bN, cH, hM, bc⟩ := M.e_iterN bL
 simp only [zcd] at hM
 clear bL
 refine W.seq ?_
 refine W.seq ?_
 refine W.region rfl ?_
 refine zM (I blockSize) rfl ?_
 refine zM (I n) rfl ?_
 refine zC blockSize n (decide (blockSize < n)) rfl rfl rfl ?_
 refine s_nil ?_
 refine W.cond (decide (blockSize < n)) rfl (fun aB => ?_) (fun aB => ?_)
 ·replace hM := M.e_t hM aB
  simp only [qy1, qy2, qy3, qy4, qy5, qy6, ne_eq, qy7] at aB
  refine W.skip ?_
  refine W.block ?_
  refine W.seq ?_
  refine W.region rfl ?_
  refine zM (I blockSize) rfl ?_
  obtain ⟨ca, hM⟩ := M.e_grd hM
  simp only [Bool.and_eq_true, decide_eq_true_eq] at ca
  refine zR 2 blockSize (2 * blockSize) rfl rfl rfl (by omega) ?_
  refine zA (I 0) rfl ?_
  refine zA (I (2 * blockSize)) rfl ?_
  refine s_nil ?_
  refine W.seq ?_
  refine W.block ?_
  obtain ⟨cb, bf, cc⟩ := M.e_bind hM
  obtain ⟨bI, bf⟩ := M.e_iter bf
  refine W.loop (fun m σ W => ∃ (l4 : List Dem) (a3 : Int) (b2 : Int) (B_mem2 : Base) (ρ : Env), σ = upds ρ [(0, aa), (1, I n), (2, .func (.func 71) #[] #[Pq al]), (6, I blockSize), (7, I a3), (8, I b2)] /\ M.iterN (zbR n ab ac ae ah ai aj ak ao aq au av aw ax ay blockSize) m (l4, a3, b2) = some cb /\ St w W [cOwn (α := Dem) 62 aa l4, cMem encDm az B_mem2 (zaa ab ac ae ah ai aj ak)] R) ?_ ?_
  ·exact ⟨_, l8, 0, 2 * blockSize, B_mem4, _, upds_of _ _ ⟨rfl, rfl, rfl, rfl, rfl, rfl, trivial⟩, bf, H⟩
  rintro cI σ cJ ⟨l4, a3, b2, B_mem2, ρ, rfl, bO, H⟩
  obtain ⟨cd, ce, cK, hM, bP⟩ := M.e_iterN bO
  simp only [zbR] at hM
  clear bO
  refine W.seq ?_
  refine W.seq ?_
  refine W.region rfl ?_
  refine zM (I b2) rfl ?_
  refine zM (I n) rfl ?_
  refine zC b2 n (decide (b2 <= n)) rfl rfl rfl ?_
  refine s_nil ?_
  refine W.cond (decide (b2 <= n)) rfl (fun aC => ?_) (fun aC => ?_)
  ·replace hM := M.e_t hM aC
   simp only [qy1, qy2, qy3, qy4, qy5, qy6, ne_eq, qy7] at aC
   refine W.skip ?_
   refine W.block ?_
   refine W.seq ?_
   refine W.region rfl ?_
   refine zM aa rfl ?_
   refine zM (I a3) rfl ?_
   refine zM (I a3) rfl ?_
   refine zM (I blockSize) rfl ?_
   obtain ⟨cf, hM⟩ := M.e_grd hM
   simp only [Bool.and_eq_true, decide_eq_true_eq] at cf
   refine zR a3 blockSize (a3 + blockSize) rfl rfl rfl (by omega) ?_
   refine zM (I b2) rfl ?_
   refine zM (.func (.func 71) #[] #[Pq al]) rfl ?_
   obtain ⟨cL, cg, hM⟩ := M.e_bind hM
   refine s_call cf92 [aa, I a3, I (a3 + blockSize), I b2, .func (.func 71) #[] #[Pq al]] rfl (zc8 l4 a3 (a3 + blockSize) b2 ab ac ae ah ai aj ak ao aq au av aw ax ay (aE.app _) aF (aG.app _) aH (aI.app _) aJ (aK.app _) aL (aM.app _) aN (aO.app _) (aP.app _) (aQ.app _) aR (aS.app _) aT (aU.app _) aV (aW.app _) aX (aY.app _) aZ (a6.app _) (a7.app _) (a8.app _) cg _ (H.gt 0)) ?_
   rintro vq cM ⟨l_data3, ch, ck, hvq, am⟩
   subst ck
   subst vq
   try dsimp only at hM
   replace H := H.bk am
   clear am
   refine s_nil ?_
   refine W.seq ?_
   refine W.region rfl ?_
   refine zM (I b2) rfl ?_
   refine zA (I b2) rfl ?_
   refine s_nil ?_
   refine W.region rfl ?_
   refine zM (I b2) rfl ?_
   refine zM (I blockSize) rfl ?_
   refine zR 2 blockSize (2 * blockSize) rfl rfl rfl (by omega) ?_
   obtain ⟨cl, hM⟩ := M.e_grd hM
   simp only [Bool.and_eq_true, decide_eq_true_eq] at cl
   refine zR b2 (2 * blockSize) (b2 + (2 * blockSize)) rfl rfl rfl (by omega) ?_
   refine zA (I (b2 + (2 * blockSize))) rfl ?_
   refine s_nil ?_
   exact ⟨cd, ce, l_data3, b2, b2 + (2 * blockSize), ch, _, upds_of _ _ ⟨rfl, rfl, rfl, rfl, rfl, rfl, trivial⟩, M.e_inl hM bP, H⟩
  replace hM := M.e_f hM aC
  simp only [qy1, qy2, qy3, qy4, qy5, qy6, ne_eq, qy7] at aC
  refine W.exit ?_
  have cm := M.e_inr hM bP
  subst cm
  replace hM := cc
  try dsimp only at hM
  refine W.seq ?_
  refine W.seq ?_
  refine W.region rfl ?_
  refine zM (I a3) rfl ?_
  refine zM (I blockSize) rfl ?_
  obtain ⟨cn, hM⟩ := M.e_grd hM
  simp only [Bool.and_eq_true, decide_eq_true_eq] at cn
  refine zR a3 blockSize (a3 + blockSize) rfl rfl rfl (by omega) ?_
  refine zA (I (a3 + blockSize)) rfl ?_
  refine s_nil ?_
  refine W.seq ?_
  refine W.region rfl ?_
  refine zM (I (a3 + blockSize)) rfl ?_
  refine zM (I n) rfl ?_
  refine zC (a3 + blockSize) n (decide ((a3 + blockSize) < n)) rfl rfl rfl ?_
  refine s_nil ?_
  refine W.cond (decide ((a3 + blockSize) < n)) rfl (fun aD => ?_) (fun aD => ?_)
  ·replace hM := M.e_t hM aD
   simp only [qy1, qy2, qy3, qy4, qy5, qy6, ne_eq, qy7] at aD
   refine W.region rfl ?_
   refine zM aa rfl ?_
   refine zM (I a3) rfl ?_
   refine zM (I (a3 + blockSize)) rfl ?_
   refine zM (I n) rfl ?_
   refine zM (.func (.func 71) #[] #[Pq al]) rfl ?_
   obtain ⟨cN, co, hM⟩ := M.e_bind hM
   refine s_call cf92 [aa, I a3, I (a3 + blockSize), I n, .func (.func 71) #[] #[Pq al]] rfl (zc8 l4 a3 (a3 + blockSize) n ab ac ae ah ai aj ak ao aq au av aw ax ay (aE.app _) aF (aG.app _) aH (aI.app _) aJ (aK.app _) aL (aM.app _) aN (aO.app _) (aP.app _) (aQ.app _) aR (aS.app _) aT (aU.app _) aV (aW.app _) aX (aY.app _) aZ (a6.app _) (a7.app _) (a8.app _) co _ (H.gt 0)) ?_
   rintro vq cO ⟨l_data4, cp, cq, hvq, am⟩
   subst cq
   subst vq
   try dsimp only at hM
   replace H := H.bk am
   clear am
   refine s_nil ?_
   refine W.region rfl ?_
   refine zM (I blockSize) rfl ?_
   obtain ⟨ct, hM⟩ := M.e_grd hM
   simp only [Bool.and_eq_true, decide_eq_true_eq] at ct
   refine zR blockSize 2 (blockSize * 2) rfl rfl rfl (by omega) ?_
   refine zA (I (blockSize * 2)) rfl ?_
   refine s_nil ?_
   exact ⟨bM, bN, l_data4, blockSize * 2, cp, _, upds_of _ _ ⟨rfl, rfl, rfl, rfl, trivial⟩, M.e_inl hM bc, H⟩
  replace hM := M.e_f hM aD
  simp only [qy1, qy2, qy3, qy4, qy5, qy6, ne_eq, qy7] at aD
  refine W.skip ?_
  refine W.region rfl ?_
  refine zM (I blockSize) rfl ?_
  obtain ⟨cu, hM⟩ := M.e_grd hM
  simp only [Bool.and_eq_true, decide_eq_true_eq] at cu
  refine zR blockSize 2 (blockSize * 2) rfl rfl rfl (by omega) ?_
  refine zA (I (blockSize * 2)) rfl ?_
  refine s_nil ?_
  exact ⟨bM, bN, l4, blockSize * 2, B_mem2, _, upds_of _ _ ⟨rfl, rfl, rfl, rfl, trivial⟩, M.e_inl hM bc, H⟩
 replace hM := M.e_f hM aB
 simp only [qy1, qy2, qy3, qy4, qy5, qy6, ne_eq, qy7] at aB
 refine W.exit ?_
 have cw := M.e_inr hM bc
 subst cw
 replace hM := b9
 try dsimp only at hM
 have cx := M.e_pure hM
 exact ⟨_, resE_tmp0 rfl, ⟨l8, B_mem4, cx, rfl, H⟩⟩

def zbZ (x : List Dem) (aa : List Int) (ab : List Span) (ac : List Int) (ae : List Town) (ah : Int) (ai : Int) (aj : List Flood) (ak : List Int) (al : List Span) (am : List Int) (ao : List Town) (aq : Int) (au : Int) (av : List Flood) : M (List Dem) :=
  M.bind (zcb x (x.length : Int) aa ab ac ae ah ai aj ak al am ao aq au av) fun l_data =>
  M.pure l_data
theorem zdE {R : List Chunk} {aa : Value} {al : Nat} {az : Nat} {aA : Nat} {aB : Cells} {aC : Value} {aD : Cells} {aE : Value} {aF : Cells} {aG : Value} {aH : Cells} {aI : Value} {aJ : Cells} {aK : Value} {am : Nat} {B_b_cmp2020207 : Base} {aL : Nat} {aM : Nat} {aN : Cells} {aO : Value} {aP : Cells} {aQ : Value} {aR : Cells} {aS : Value} {aT : Cells} {aU : Value} {aV : Cells} {aW : Value} {aY : Nat} (x : List Dem) (ab : List Int) (ac : List Span) (ae : List Int) (ah : List Town) (ai : Int) (aj : Int) (ak : List Flood) (ao : List Int) (aq : List Span) (au : List Int) (av : List Town) (aw : Int) (ax : Int) (ay : List Flood) (aZ : Reads R aB) (a6 : Sl aB aC ab) (a7 : Reads R aD) (a8 : Sl aD aE ac) (ba : Reads R aF) (bb : Sl aF aG ae) (bc : Reads R aH) (bf : Sl aH aI ah) (bg : Reads R aJ) (bh : Sl aJ aK ak) (bi : Has R (cBlk aA [aC, aE, aG, aI, I ai, I aj, aK, .map (some am)] 86)) (bj : Has R (cBlk az [.func (.func 54) #[Pq aA] #[]] 106)) (bm : Reads R aN) (bn : Sl aN aO ao) (bo : Reads R aP) (bp : Sl aP aQ aq) (bq : Reads R aR) (br : Sl aR aS au) (bt : Reads R aT) (bu : Sl aT aU av) (bv : Reads R aV) (bw : Sl aV aW ay) (bx : Has R (cBlk aM [aO, aQ, aS, aU, I aw, I ax, aW, .map (some aY)] 86)) (bz : Has R (cBlk aL [Pq aM] 72)) (bA : Has R (cBlk al [.func (.func 69) #[] #[Pq az, Pq aL]] 114)) {r : (List Dem)} (hM : (zbZ x ab ac ae ah ai aj ak ao aq au av aw ax ay).Ends r) (w : World) (H : St w w [cOwn (α := Dem) 62 aa x, cMem encDm am B_b_cmp2020207 (zaa ab ac ae ah ai aj ak)] R) : Ret Try.prog 70 #[aa, .func (.func 71) #[] #[Pq al]] w fun v w' => ∃ (y0 : List Dem) (bB : Base), y0 = r /\ v = .tuple #[] /\ St w w' [cOwn (α := Dem) 62 aa y0, cMem encDm am bB (zaa ab ac ae ah ai aj ak)] R := by
 refine ret_of_W Try.func70 rfl rfl rfl ?_
 refine W.region rfl ?_
 refine zM aa rfl ?_
 refine zM aa rfl ?_
 have bG := ((H.os 0)).len_le
 refine s_val (x_lenS T57.und rfl (H.os 0)) ?_
 refine zM (.func (.func 71) #[] #[Pq al]) rfl ?_
 obtain ⟨bH, bC, hM⟩ := M.e_bind hM
 refine s_call cf86 [aa, I (x.length : Int), .func (.func 71) #[] #[Pq al]] rfl (zdq x (x.length : Int) ab ac ae ah ai aj ak ao aq au av aw ax ay (aZ.app _) a6 (a7.app _) a8 (ba.app _) bb (bc.app _) bf (bg.app _) bh (bi.app _) (bj.app _) (bm.app _) bn (bo.app _) bp (bq.app _) br (bt.app _) bu (bv.app _) bw (bx.app _) (bz.app _) (bA.app _) bC _ (H.gt 0)) ?_
 rintro vq bI ⟨l_data, bD, bE, hvq, aX⟩
 subst bE
 subst vq
 try dsimp only at hM
 replace H := H.bk aX
 clear aX
 refine s_nil ?_
 have bF := M.e_pure hM
 exact ⟨_, resE_tmp0 rfl, ⟨l_data, bD, bF, rfl, H⟩⟩

end Go.Proofs.Ytbaehghammbjdaa
end
