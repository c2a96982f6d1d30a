/- Part 4 of the texts on which the proof rests. Conditions: none. -/
import Derived.Test.YtbaehghammbjdaaZF3
set_option linter.unusedVariables false
set_option linter.unusedSimpArgs false
set_option linter.unusedSectionVars false
section
set_option maxRecDepth 100000
set_option maxHeartbeats 16000000
namespace Go.Proofs.Ytbaehghammbjdaa
open Go Go.Nm
def za7 (data : List Dem) (a : Int) (aa : List Int) (ab : List Span) (ac : List Int) (ae : List Town) (ag : Int) (ah : Int) (ai : List Flood) (aj : List Int) (ak : List Span) (al : List Int) (am : List Town) (ao : Int) (aq : Int) (au : List Flood) : (Int × Int) -> M ((Int × Int) ⊕ Int) := fun (i, j) =>
  bif decide (i < j) then (
  M.grd (decide ((-9223372036854775808 : Int) <= (i + j)) && decide ((i + j) <= (9223372036854775807 : Int))) <|
  M.grd (decide ((0 : Int) <= (i + j)) && decide ((i + j) <= (9223372036854775807 : Int))) <|
  M.grd (decide ((0 : Int) <= ((i + j) / 2)) && decide (((i + j) / 2) <= (9223372036854775807 : Int))) <|
  M.grd (decide ((0 : Int) <= ((i + j) / 2)) && decide (((i + j) / 2) < (data.length : Int))) <|
  M.grd (decide ((0 : Int) <= a) && decide (a < (data.length : Int))) <|
  M.bind (zar (data.getD (Int.toNat ((i + j) / 2)) default) (data.getD (Int.toNat a) default) aa ab ac ae ag ah ai aj ak al am ao aq au) fun r2 =>
  bif decide (r2 < 0) then (
  M.pure (.inl (((i + j) / 2) + 1, j)))
  else (
  M.pure (.inl (i, (i + j) / 2))))
  else (
  M.pure (.inr i))
def zaG (i2 : Int) : ((List Dem) × Int) -> M (((List Dem) × Int) ⊕ (List Dem)) := fun (l, k) =>
  M.grd (decide ((-9223372036854775808 : Int) <= (i2 - 1)) && decide ((i2 - 1) <= (9223372036854775807 : Int))) <|
  bif decide (k < (i2 - 1)) then (
  M.grd (decide ((-9223372036854775808 : Int) <= (k + 1)) && decide ((k + 1) <= (9223372036854775807 : Int))) <|
  M.grd (decide ((0 : Int) <= (k + 1)) && decide ((k + 1) < (l.length : Int))) <|
  M.grd (decide ((0 : Int) <= k) && decide (k < (l.length : Int))) <|
  M.grd (decide ((0 : Int) <= (k + 1)) && decide ((k + 1) < ((l.set (Int.toNat k) (l.getD (Int.toNat (k + 1)) default)).length : Int))) <|
  M.pure (.inl ((l.set (Int.toNat k) (l.getD (Int.toNat (k + 1)) default)).set (Int.toNat (k + 1)) (l.getD (Int.toNat k) default), k + 1)))
  else (
  M.pure (.inr l))
def za3 (data : List Dem) (m_ : Int) (aa : List Int) (ab : List Span) (ac : List Int) (ae : List Town) (ag : Int) (ah : Int) (ai : List Flood) (aj : List Int) (ak : List Span) (al : List Int) (am : List Town) (ao : Int) (aq : Int) (au : List Flood) : (Int × Int) -> M ((Int × Int) ⊕ Int) := fun (i3, j2) =>
  bif decide (i3 < j2) then (
  M.grd (decide ((-9223372036854775808 : Int) <= (i3 + j2)) && decide ((i3 + j2) <= (9223372036854775807 : Int))) <|
  M.grd (decide ((0 : Int) <= (i3 + j2)) && decide ((i3 + j2) <= (9223372036854775807 : Int))) <|
  M.grd (decide ((0 : Int) <= ((i3 + j2) / 2)) && decide (((i3 + j2) / 2) <= (9223372036854775807 : Int))) <|
  M.grd (decide ((0 : Int) <= m_) && decide (m_ < (data.length : Int))) <|
  M.grd (decide ((0 : Int) <= ((i3 + j2) / 2)) && decide (((i3 + j2) / 2) < (data.length : Int))) <|
  M.bind (zar (data.getD (Int.toNat m_) default) (data.getD (Int.toNat ((i3 + j2) / 2)) default) aa ab ac ae ag ah ai aj ak al am ao aq au) fun r3 =>
  bif !(decide (r3 < 0)) then (
  M.pure (.inl (((i3 + j2) / 2) + 1, j2)))
  else (
  M.pure (.inl (i3, (i3 + j2) / 2))))
  else (
  M.pure (.inr i3))
def zaA (i4 : Int) : ((List Dem) × Int) -> M (((List Dem) × Int) ⊕ (List Dem)) := fun (l3, k2) =>
  bif decide (i4 < k2) then (
  M.grd (decide ((-9223372036854775808 : Int) <= (k2 - 1)) && decide ((k2 - 1) <= (9223372036854775807 : Int))) <|
  M.grd (decide ((0 : Int) <= (k2 - 1)) && decide ((k2 - 1) < (l3.length : Int))) <|
  M.grd (decide ((0 : Int) <= k2) && decide (k2 < (l3.length : Int))) <|
  M.grd (decide ((0 : Int) <= (k2 - 1)) && decide ((k2 - 1) < ((l3.set (Int.toNat k2) (l3.getD (Int.toNat (k2 - 1)) default)).length : Int))) <|
  M.pure (.inl ((l3.set (Int.toNat k2) (l3.getD (Int.toNat (k2 - 1)) default)).set (Int.toNat (k2 - 1)) (l3.getD (Int.toNat k2) default), k2 - 1)))
  else (
  M.pure (.inr l3))
def zaK (data : List Dem) (a : Int) (m_ : Int) (b : Int) (aa : List Int) (ab : List Span) (ac : List Int) (ae : List Town) (ag : Int) (ah : Int) (ai : List Flood) (aj : List Int) (ak : List Span) (al : List Int) (am : List Town) (ao : Int) (aq : Int) (au : List Flood) : (Int × Int) -> M ((Int × Int) ⊕ Int) := fun (start2, r6) =>
  bif decide (start2 < r6) then (
  M.grd (decide ((-9223372036854775808 : Int) <= (start2 + r6)) && decide ((start2 + r6) <= (9223372036854775807 : Int))) <|
  M.grd (decide ((0 : Int) <= (start2 + r6)) && decide ((start2 + r6) <= (9223372036854775807 : Int))) <|
  M.grd (decide ((0 : Int) <= ((start2 + r6) / 2)) && decide (((start2 + r6) / 2) <= (9223372036854775807 : Int))) <|
  M.grd (decide ((-9223372036854775808 : Int) <= (((((a + b) / 2) + m_) - 1) - ((start2 + r6) / 2))) && decide ((((((a + b) / 2) + m_) - 1) - ((start2 + r6) / 2)) <= (9223372036854775807 : Int))) <|
  M.grd (decide ((0 : Int) <= (((((a + b) / 2) + m_) - 1) - ((start2 + r6) / 2))) && decide ((((((a + b) / 2) + m_) - 1) - ((start2 + r6) / 2)) < (data.length : Int))) <|
  M.grd (decide ((0 : Int) <= ((start2 + r6) / 2)) && decide (((start2 + r6) / 2) < (data.length : Int))) <|
  M.bind (zar (data.getD (Int.toNat (((((a + b) / 2) + m_) - 1) - ((start2 + r6) / 2))) default) (data.getD (Int.toNat ((start2 + r6) / 2)) default) aa ab ac ae ag ah ai aj ak al am ao aq au) fun r5 =>
  bif !(decide (r5 < 0)) then (
  M.pure (.inl (((start2 + r6) / 2) + 1, r6)))
  else (
  M.pure (.inl (start2, (start2 + r6) / 2))))
  else (
  M.pure (.inr start2))
def zax (a : Int) (m_ : Int) (b : Int) (aa : List Int) (ab : List Span) (ac : List Int) (ae : List Town) (ag : Int) (ah : Int) (ai : List Flood) (aj : List Int) (ak : List Span) (al : List Int) (am : List Town) (ao : Int) (aq : Int) (au : List Flood) (av : ((List Dem) × Int × Int × Int × (List Int) × (List Span) × (List Int) × (List Town) × Int × Int × (List Flood) × (List Int) × (List Span) × (List Int) × (List Town) × Int × Int × (List Flood)) -> M (List Dem)) (start3 : Int) (l6 : List Dem) : M (List Dem) :=
  bif ((decide (((a + b) / 2) < ((((a + b) / 2) + m_) - start3))) && (decide (((((a + b) / 2) + m_) - start3) < b))) then (
  M.bind (av (l6, ((a + b) / 2), ((((a + b) / 2) + m_) - start3), b, aa, ab, ac, ae, ag, ah, ai, aj, ak, al, am, ao, aq, au)) fun l_data3 =>
  M.pure l_data3)
  else (
  M.pure l6)
def zaC (a : Int) (m_ : Int) (b : Int) (aa : List Int) (ab : List Span) (ac : List Int) (ae : List Town) (ag : Int) (ah : Int) (ai : List Flood) (aj : List Int) (ak : List Span) (al : List Int) (am : List Town) (ao : Int) (aq : Int) (au : List Flood) (av : ((List Dem) × Int × Int × Int × (List Int) × (List Span) × (List Int) × (List Town) × Int × Int × (List Flood) × (List Int) × (List Span) × (List Int) × (List Town) × Int × Int × (List Flood)) -> M (List Dem)) (start3 : Int) (l5 : List Dem) : M (List Dem) :=
  bif ((decide (a < start3)) && (decide (start3 < ((a + b) / 2)))) then (
  M.bind (av (l5, a, start3, ((a + b) / 2), aa, ab, ac, ae, ag, ah, ai, aj, ak, al, am, ao, aq, au)) fun l_data2 =>
  zax a m_ b aa ab ac ae ag ah ai aj ak al am ao aq au av start3 l_data2)
  else (
  zax a m_ b aa ab ac ae ag ah ai aj ak al am ao aq au av start3 l5)
def zau (data : List Dem) (a : Int) (m_ : Int) (b : Int) (aa : List Int) (ab : List Span) (ac : List Int) (ae : List Town) (ag : Int) (ah : Int) (ai : List Flood) (aj : List Int) (ak : List Span) (al : List Int) (am : List Town) (ao : Int) (aq : Int) (au : List Flood) (av : ((List Dem) × Int × Int × Int × (List Int) × (List Span) × (List Int) × (List Town) × Int × Int × (List Flood) × (List Int) × (List Span) × (List Int) × (List Town) × Int × Int × (List Flood)) -> M (List Dem)) (start : Int) (r4 : Int) : M (List Dem) :=
  M.grd (decide ((-9223372036854775808 : Int) <= ((((a + b) / 2) + m_) - 1)) && decide (((((a + b) / 2) + m_) - 1) <= (9223372036854775807 : Int))) <|
  M.bind (M.iter (zaK data a m_ b aa ab ac ae ag ah ai aj ak al am ao aq au) (start, r4)) fun start3 =>
  M.grd (decide ((-9223372036854775808 : Int) <= ((((a + b) / 2) + m_) - start3)) && decide (((((a + b) / 2) + m_) - start3) <= (9223372036854775807 : Int))) <|
  bif ((decide (start3 < m_)) && (decide (m_ < ((((a + b) / 2) + m_) - start3)))) then (
  M.bind (zb1 data start3 m_ ((((a + b) / 2) + m_) - start3) aa ab ac ae ag ah ai aj ak al am ao aq au) fun l_data =>
  zaC a m_ b aa ab ac ae ag ah ai aj ak al am ao aq au av start3 l_data)
  else (
  zaC a m_ b aa ab ac ae ag ah ai aj ak al am ao aq au av start3 data)
def zaj (av : ((List Dem) × Int × Int × Int × (List Int) × (List Span) × (List Int) × (List Town) × Int × Int × (List Flood) × (List Int) × (List Span) × (List Int) × (List Town) × Int × Int × (List Flood)) -> M (List Dem)) : ((List Dem) × Int × Int × Int × (List Int) × (List Span) × (List Int) × (List Town) × Int × Int × (List Flood) × (List Int) × (List Span) × (List Int) × (List Town) × Int × Int × (List Flood)) -> M (List Dem) := fun (data, a, m_, b, aa, ab, ac, ae, ag, ah, ai, aj, ak, al, am, ao, aq, au) =>
  M.grd (decide ((-9223372036854775808 : Int) <= (m_ - a)) && decide ((m_ - a) <= (9223372036854775807 : Int))) <|
  bif (m_ - a) == 1 then (
  M.bind (M.iter (za7 data a aa ab ac ae ag ah ai aj ak al am ao aq au) (m_, b)) fun i2 =>
  M.bind (M.iter (zaG i2) (data, a)) fun l2 =>
  M.pure l2)
  else (
  M.grd (decide ((-9223372036854775808 : Int) <= (b - m_)) && decide ((b - m_) <= (9223372036854775807 : Int))) <|
  bif (b - m_) == 1 then (
  M.bind (M.iter (za3 data m_ aa ab ac ae ag ah ai aj ak al am ao aq au) (a, m_)) fun i4 =>
  M.bind (M.iter (zaA i4) (data, m_)) fun l4 =>
  M.pure l4)
  else (
  M.grd (decide ((-9223372036854775808 : Int) <= (a + b)) && decide ((a + b) <= (9223372036854775807 : Int))) <|
  M.grd (decide ((0 : Int) <= (a + b)) && decide ((a + b) <= (9223372036854775807 : Int))) <|
  M.grd (decide ((0 : Int) <= ((a + b) / 2)) && decide (((a + b) / 2) <= (9223372036854775807 : Int))) <|
  M.grd (decide ((-9223372036854775808 : Int) <= (((a + b) / 2) + m_)) && decide ((((a + b) / 2) + m_) <= (9223372036854775807 : Int))) <|
  bif decide (((a + b) / 2) < m_) then (
  M.grd (decide ((-9223372036854775808 : Int) <= ((((a + b) / 2) + m_) - b)) && decide (((((a + b) / 2) + m_) - b) <= (9223372036854775807 : Int))) <|
  zau data a m_ b aa ab ac ae ag ah ai aj ak al am ao aq au av ((((a + b) / 2) + m_) - b) ((a + b) / 2))
  else (
  zau data a m_ b aa ab ac ae ag ah ai aj ak al am ao aq au av a m_)))
theorem zcF : M.Mon zaj := by
  intro n f g h a
  obtain ⟨data, a, m_, b, aa, ab, ac, ae, ag, ah, ai, aj, ak, al, am, ao, aq, au⟩ := a
  simp only [zaj, za7, zaG, za3, zaA, zaK, zax, zaC, zau]
  repeat' (first | exact M.le_same _ _ | exact h _ | refine M.le_grd ?_ | refine M.le_if ?_ ?_ | refine M.le_bind ?_ (fun x => ?_) | refine M.le_opt ?_ | refine M.le_iter (fun x => ?_) _ | refine zdr (M.le_yl (fun s_ a_ => ?_)) _ _ _ _ _ _ _ _ _ | (rename_i x; cases x) | (rename_i x; obtain ⟨_, _⟩ := x))
def zbD (data : List Dem) (a : Int) (m_ : Int) (b : Int) (aa : List Int) (ab : List Span) (ac : List Int) (ae : List Town) (ag : Int) (ah : Int) (ai : List Flood) (aj : List Int) (ak : List Span) (al : List Int) (am : List Town) (ao : Int) (aq : Int) (au : List Flood) : M (List Dem) := M.fix zaj zcF (data, a, m_, b, aa, ab, ac, ae, ag, ah, ai, aj, ak, al, am, ao, aq, au)
theorem zdp (n_ : Nat) : ∀ {R : List Chunk} {aa : Value} {al : Nat} {bq : Nat} {br : Nat} {bt : Cells} {bu : Value} {bv : Cells} {bw : Value} {bx : Cells} {bz : Value} {bA : Cells} {bB : Value} {bC : Cells} {bD : Value} {ak : Nat} {B_b_cmp2020207 : Base} {bE : Nat} {bF : Nat} {bG : Cells} {bH : Value} {bI : Cells} {bJ : Value} {bK : Cells} {bL : Value} {bM : Cells} {bN : Value} {bO : Cells} {bP : Value} {bR : Nat} (data : List Dem) (a : Int) (m_ : Int) (b : Int) (ab : List Int) (ac : List Span) (ae : List Int) (ag : List Town) (ah : Int) (ai : Int) (aj : List Flood) (ao : List Int) (aq : List Span) (au : List Int) (av : List Town) (aw : Int) (ax : Int) (ay : List Flood) (aA : Reads R bt) (aB : Sl bt bu ab) (aC : Reads R bv) (aD : Sl bv bw ac) (aE : Reads R bx) (aF : Sl bx bz ae) (aG : Reads R bA) (aH : Sl bA bB ag) (aI : Reads R bC) (aJ : Sl bC bD aj) (aK : Has R (cBlk br [bu, bw, bz, bB, I ah, I ai, bD, .map (some ak)] 86)) (aL : Has R (cBlk bq [.func (.func 54) #[Pq br] #[]] 106)) (aM : Reads R bG) (aN : Sl bG bH ao) (aO : Reads R bI) (aP : Sl bI bJ aq) (aQ : Reads R bK) (aR : Sl bK bL au) (aS : Reads R bM) (aT : Sl bM bN av) (aU : Reads R bO) (aV : Sl bO bP ay) (aW : Has R (cBlk bF [bH, bJ, bL, bN, I aw, I ax, bP, .map (some bR)] 86)) (aX : Has R (cBlk bE [Pq bF] 72)) (aY : Has R (cBlk al [.func (.func 69) #[] #[Pq bq, Pq bE]] 114)) {r : (List Dem)} (hM : (M.fixN zaj n_ (data, a, m_, b, ab, ac, ae, ag, ah, ai, aj, ao, aq, au, av, aw, ax, ay)).Ends r) (w : World) (H : St w w [cOwn (α := Dem) 62 aa data, cMem encDm ak B_b_cmp2020207 (zaa ab ac ae ag ah ai aj)] R), Ret Try.prog 92 #[aa, I a, I m_, I b, .func (.func 71) #[] #[Pq al]] w fun v w' => ∃ (y0 : List Dem) (cq : Base), y0 = r /\ v = .tuple #[] /\ St w w' [cOwn (α := Dem) 62 aa y0, cMem encDm ak cq (zaa ab ac ae ag ah ai aj)] R := by
  induction n_ with
  | zero => intro R aa al bq br bt bu bv bw bx bz bA bB bC bD ak B_b_cmp2020207 bE bF bG bH bI bJ bK bL bM bN bO bP bR data a m_ b ab ac ae ag ah ai aj ao aq au av aw ax ay aA aB aC aD aE aF aG aH aI aJ aK aL aM aN aO aP aQ aR aS aT aU aV aW aX aY r hM w H; exact (M.e_fail hM).elim
  | succ n_ ih =>
    intro R aa al bq br bt bu bv bw bx bz bA bB bC bD ak B_b_cmp2020207 bE bF bG bH bI bJ bK bL bM bN bO bP bR data a m_ b ab ac ae ag ah ai aj ao aq au av aw ax ay aA aB aC aD aE aF aG aH aI aJ aK aL aM aN aO aP aQ aR aS aT aU aV aW aX aY r hM w H
    refine ret_of_W Try.func92 rfl rfl rfl ?_
    refine W.seq ?_
    refine W.seq ?_
    refine W.region rfl ?_
    refine zM (I m_) rfl ?_
    refine zM (I a) rfl ?_
    obtain ⟨ct, hM⟩ := M.e_grd hM
    simp only [Bool.and_eq_true, decide_eq_true_eq] at ct
    refine zR m_ a (m_ - a) rfl rfl rfl (by omega) ?_
    refine zC (m_ - a) 1 ((m_ - a) == 1) rfl rfl rfl ?_
    refine s_nil ?_
    refine W.cond ((m_ - a) == 1) rfl (fun bf => ?_) (fun bf => ?_)
    ·replace hM := M.e_t hM bf
     simp only [qy1, qy2, qy3, qy4, qy5, qy6, ne_eq, qy7] at bf
     refine W.seq ?_
     refine W.region rfl ?_
     refine zM (I m_) rfl ?_
     refine zA (I m_) rfl ?_
     refine s_nil ?_
     refine W.seq ?_
     refine W.region rfl ?_
     refine zM (I b) rfl ?_
     refine zA (I b) rfl ?_
     refine s_nil ?_
     refine W.seq ?_
     refine W.block ?_
     obtain ⟨cu, bS, cw⟩ := M.e_bind hM
     obtain ⟨bQ, bS⟩ := M.e_iter bS
     refine W.loop (fun m σ W => ∃ (i : Int) (j : Int) (B_mem : Base) (ρ : Env), σ = upds ρ [(0, aa), (1, I a), (4, .func (.func 71) #[] #[Pq al]), (10, I i), (11, I j)] /\ M.iterN (za7 data a ab ac ae ag ah ai aj ao aq au av aw ax ay) m (i, j) = some cu /\ St w W [cOwn (α := Dem) 62 aa data, cMem encDm ak B_mem (zaa ab ac ae ag ah ai aj)] R) ?_ ?_
     ·exact ⟨_, m_, b, B_b_cmp2020207, _, upds_of _ _ ⟨rfl, rfl, rfl, rfl, rfl, trivial⟩, bS, H⟩
     rintro dI σ dJ ⟨i, j, B_mem, ρ, rfl, b9, H⟩
     obtain ⟨ca, cb, dK, hM, bT⟩ := M.e_iterN b9
     simp only [za7] at hM
     clear b9
     refine W.seq ?_
     refine W.seq ?_
     refine W.region rfl ?_
     refine zM (I i) rfl ?_
     refine zM (I j) rfl ?_
     refine zC i j (decide (i < j)) rfl rfl rfl ?_
     refine s_nil ?_
     refine W.cond (decide (i < j)) rfl (fun bg => ?_) (fun bg => ?_)
     ·replace hM := M.e_t hM bg
      simp only [qy1, qy2, qy3, qy4, qy5, qy6, ne_eq, qy7] at bg
      refine W.skip ?_
      refine W.block ?_
      refine W.seq ?_
      refine W.region rfl ?_
      refine zM (I i) rfl ?_
      refine zM (I j) rfl ?_
      obtain ⟨cx, hM⟩ := M.e_grd hM
      simp only [Bool.and_eq_true, decide_eq_true_eq] at cx
      refine zR i j (i + j) rfl rfl rfl (by omega) ?_
      obtain ⟨cy, hM⟩ := M.e_grd hM
      simp only [Bool.and_eq_true, decide_eq_true_eq] at cy
      refine s_val (x_convU (kd := .i64) (a := i + j) Try.underlying3 Try.underlying126 rfl (by omega)) ?_
      refine s_val (x_ushr1 (a := i + j) rfl rfl) ?_
      obtain ⟨cz, hM⟩ := M.e_grd hM
      simp only [Bool.and_eq_true, decide_eq_true_eq] at cz
      refine s_val (x_conv64 (kd := .u64) (a := (i + j) / 2) Try.underlying126 Try.underlying3 rfl (by omega)) ?_
      refine zA (I ((i + j) / 2)) rfl ?_
      refine s_nil ?_
      refine W.seq ?_
      refine W.draw (fun W => St w W [cOwn (α := Dem) 62 aa data] R) [(0, true), (1, true), (2, true), (3, true), (4, true), (5, true), (6, true), (7, true), (8, true), (9, false), (10, true)] mixed (by decide +kernel) rfl ?_
      intro dL az
      replace H := H.ext az
      clear az
      refine ⟨(H.pk [0]), ?_⟩
      refine d_q rfl (fun w' H => x_mv (v := .func (.func 71) #[] #[Pq al]) rfl) ?_
      refine d_q rfl (fun w' H => x_mv (v := aa) rfl) ?_
      refine d_q rfl (fun w' H => x_mv (v := I ((i + j) / 2)) rfl) ?_
      obtain ⟨cA, hM⟩ := M.e_grd hM
      simp only [Bool.and_eq_true, decide_eq_true_eq] at cA
      refine d_q rfl (fun w' H => x_ix (a := aa) (b := I ((i + j) / 2)) (v := vat aa 2 (Int.toNat ((i + j) / 2))) rfl rfl (Sl.ix (α := Dem) T57.und T57.size (H.os 0) (by omega) (by omega))) ?_
      refine d_q rfl (fun w' H => x_ld (p := vat aa 2 (Int.toNat ((i + j) / 2))) (v := .agg #[I ((data.getD (Int.toNat ((i + j) / 2)) default).spring), I ((data.getD (Int.toNat ((i + j) / 2)) default).town)]) rfl (ld_ag Ag62 Sz62 (At.mono (Dem_atA (H.os 0) (i := (i + j) / 2) (by omega) (by omega)) (H.ol 0)))) ?_
      refine d_q rfl (fun w' H => x_mv (v := aa) rfl) ?_
      refine d_q rfl (fun w' H => x_mv (v := I a) rfl) ?_
      obtain ⟨cB, hM⟩ := M.e_grd hM
      simp only [Bool.and_eq_true, decide_eq_true_eq] at cB
      refine d_q rfl (fun w' H => x_ix (a := aa) (b := I a) (v := vat aa 2 (Int.toNat a)) rfl rfl (Sl.ix (α := Dem) T57.und T57.size (H.os 0) (by omega) (by omega))) ?_
      refine d_q rfl (fun w' H => x_ld (p := vat aa 2 (Int.toNat a)) (v := .agg #[I ((data.getD (Int.toNat a) default).spring), I ((data.getD (Int.toNat a) default).town)]) rfl (ld_ag Ag62 Sz62 (At.mono (Dem_atA (H.os 0) (i := a) (by omega) (by omega)) (H.ol 0)))) ?_
      refine d_l rfl ?_
      obtain ⟨dM, cC, hM⟩ := M.e_bind hM
      refine s_callv (f := 71) rfl cf71 [.agg #[I ((data.getD (Int.toNat ((i + j) / 2)) default).spring), I ((data.getD (Int.toNat ((i + j) / 2)) default).town)], .agg #[I ((data.getD (Int.toNat a) default).spring), I ((data.getD (Int.toNat a) default).town)]] rfl (zb4 (data.getD (Int.toNat ((i + j) / 2)) default) (data.getD (Int.toNat a) default) ab ac ae ag ah ai aj ao aq au av aw ax ay (aA.app _) aB (aC.app _) aD (aE.app _) aF (aG.app _) aH (aI.app _) aJ (aK.app _) (aL.app _) (aM.app _) aN (aO.app _) aP (aQ.app _) aR (aS.app _) aT (aU.app _) aV (aW.app _) (aX.app _) (aY.app _) cC _ ((H.pk [1, 0]).gt 1)) ?_
      rintro vq dN ⟨r2, cc, cD, hvq, am⟩
      subst cD
      subst vq
      try dsimp only at hM
      replace H := H.pk [1, 0] |>.bk am
      clear am
      refine s_nil ⟨(H.pk [1]), ?_⟩
      refine d_q rfl (fun w' H => x_cmp (kd := .i64) (a := r2) (b := 0) (r := decide (r2 < 0)) rfl rfl rfl) ?_
      refine d_nil ?_
      refine W.cond (decide (r2 < 0)) rfl (fun bh => ?_) (fun bh => ?_)
      ·replace hM := M.e_t hM bh
       simp only [qy1, qy2, qy3, qy4, qy5, qy6, ne_eq, qy7] at bh
       refine W.region rfl ?_
       refine zM (I ((i + j) / 2)) rfl ?_
       refine zR ((i + j) / 2) 1 (((i + j) / 2) + 1) rfl rfl rfl (by omega) ?_
       refine zA (I (((i + j) / 2) + 1)) rfl ?_
       refine s_nil ?_
       exact ⟨ca, cb, ((i + j) / 2) + 1, j, cc, _, upds_of _ _ ⟨rfl, rfl, rfl, rfl, rfl, trivial⟩, M.e_inl hM bT, (H.pk [1, 0])⟩
      replace hM := M.e_f hM bh
      simp only [qy1, qy2, qy3, qy4, qy5, qy6, ne_eq, qy7] at bh
      refine W.region rfl ?_
      refine zM (I ((i + j) / 2)) rfl ?_
      refine zA (I ((i + j) / 2)) rfl ?_
      refine s_nil ?_
      exact ⟨ca, cb, i, (i + j) / 2, cc, _, upds_of _ _ ⟨rfl, rfl, rfl, rfl, rfl, trivial⟩, M.e_inl hM bT, (H.pk [1, 0])⟩
     replace hM := M.e_f hM bg
     simp only [qy1, qy2, qy3, qy4, qy5, qy6, ne_eq, qy7] at bg
     refine W.exit ?_
     have cE := M.e_inr hM bT
     subst cE
     replace hM := cw
     try dsimp only at hM
     refine W.seq ?_
     refine W.seq ?_
     refine W.region rfl ?_
     refine zM (I a) rfl ?_
     refine zA (I a) rfl ?_
     refine s_nil ?_
     refine W.block ?_
     obtain ⟨cF, bU, cG⟩ := M.e_bind hM
     obtain ⟨bQ, bU⟩ := M.e_iter bU
     refine W.loop (fun m σ W => ∃ (l : List Dem) (k : Int) (ρ : Env), σ = upds ρ [(0, aa), (10, I i), (13, I k)] /\ M.iterN (zaG i) m (l, k) = some cF /\ St w W [cOwn (α := Dem) 62 aa l, cMem encDm ak B_mem (zaa ab ac ae ag ah ai aj)] R) ?_ ?_
     ·exact ⟨_, data, a, _, upds_of _ _ ⟨rfl, rfl, rfl, trivial⟩, bU, H⟩
     rintro dO σ dP ⟨l, k, ρ, rfl, cd, H⟩
     obtain ⟨a8, ba, dQ, hM, aZ⟩ := M.e_iterN cd
     simp only [zaG] at hM
     clear cd
     refine W.seq ?_
     refine W.seq ?_
     refine W.region rfl ?_
     refine zM (I k) rfl ?_
     refine zM (I i) rfl ?_
     obtain ⟨cH, hM⟩ := M.e_grd hM
     simp only [Bool.and_eq_true, decide_eq_true_eq] at cH
     refine zR i 1 (i - 1) rfl rfl rfl (by omega) ?_
     refine zC k (i - 1) (decide (k < (i - 1))) rfl rfl rfl ?_
     refine s_nil ?_
     refine W.cond (decide (k < (i - 1))) rfl (fun bi => ?_) (fun bi => ?_)
     ·replace hM := M.e_t hM bi
      simp only [qy1, qy2, qy3, qy4, qy5, qy6, ne_eq, qy7] at bi
      refine W.skip ?_
      refine W.seq ?_
      refine W.block ?_
      refine W.drawT (fun W => St w W [cMem encDm ak B_mem (zaa ab ac ae ag ah ai aj)] R) (.q 0 (.q 1 (.q 2 (.q 3 (.q 4 (.q 5 (.q 6 (.q 7 (.q 10 (.q 11 (.l2 8 (.l2 9 (.l 12 (.l 13 (.l 14 (.l 15 (.l 16 (.l 17 .nil)))))) 12 (.l2 9 (.l 13 (.l 14 (.l 15 (.l 16 (.l 17 .nil))))) 13 (.l 9 (.l 14 (.l 15 (.l 16 (.l 17 .nil))))))) 12 (.l2 8 (.l2 9 (.l 13 (.l 14 (.l 15 (.l 16 (.l 17 .nil))))) 13 (.l 9 (.l 14 (.l 15 (.l 16 (.l 17 .nil)))))) 13 (.l 8 (.l 9 (.l 14 (.l 15 (.l 16 (.l 17 .nil)))))))))))))))))) mixed (by decide +kernel) rfl ?_
      intro dR az
      replace H := H.ext az
      clear az
      refine ⟨(H.pk [1]), ?_⟩
      refine t_q rfl (fun w' H => x_mv (v := aa) rfl) ?_
      refine t_q rfl (fun w' H => x_mv (v := I k) rfl) ?_
      refine t_q rfl (fun w' H => x_mv (v := aa) rfl) ?_
      refine t_q rfl (fun w' H => x_mv (v := I k) rfl) ?_
      obtain ⟨cI, hM⟩ := M.e_grd hM
      simp only [Bool.and_eq_true, decide_eq_true_eq] at cI
      refine t_q rfl (fun w' H => x_ari (a := k) (b := 1) (r := k + 1) rfl rfl rfl (by omega)) ?_
      refine t_q rfl (fun w' H => x_mv (v := aa) rfl) ?_
      refine t_q rfl (fun w' H => x_mv (v := I k) rfl) ?_
      refine t_q rfl (fun w' H => x_ari (a := k) (b := 1) (r := k + 1) rfl rfl rfl (by omega)) ?_
      refine t_q rfl (fun w' H => x_mv (v := aa) rfl) ?_
      refine t_q rfl (fun w' H => x_mv (v := I k) rfl) ?_
      obtain ⟨cJ, hM⟩ := M.e_grd hM
      simp only [Bool.and_eq_true, decide_eq_true_eq] at cJ
      obtain ⟨cK, hM⟩ := M.e_grd hM
      simp only [Bool.and_eq_true, decide_eq_true_eq] at cK
      obtain ⟨cL, hM⟩ := M.e_grd hM
      simp only [Bool.and_eq_true, decide_eq_true_eq] at cL
      refine t_l2 rfl rfl ?_ ?_
      ·skip
       refine s_val (x_ix (a := aa) (b := I (k + 1)) (v := vat aa 2 (Int.toNat (k + 1))) rfl rfl (Sl.ix (α := Dem) T57.und T57.size (H.os 0) (by omega) (by omega))) ?_
       have dS := Sl.cells (H.os 0)
       have dT := Sl.oc (H.os 0)
       refine s_nil ⟨(H.pk [1]), ?_⟩
       refine t_l2 rfl rfl ?_ ?_
       ·skip
        refine s_val (x_ld (p := vat aa 2 (Int.toNat (k + 1))) (v := .agg #[I ((l.getD (Int.toNat (k + 1)) default).spring), I ((l.getD (Int.toNat (k + 1)) default).town)]) rfl (ld_ag Ag62 Sz62 (At.mono (Dem_atA (H.os 0) (i := k + 1) (by omega) (by omega)) (H.ol 0)))) ?_
        refine s_nil ⟨(H.pk [1]), ?_⟩
        refine t_l rfl ?_
        refine s_val (x_ix (a := aa) (b := I k) (v := vat aa 2 (Int.toNat k)) rfl rfl (Sl.ix (α := Dem) T57.und T57.size (H.os 0) (by omega) (by omega))) ?_
        refine s_nil ⟨(H.pk [1]), ?_⟩
        refine t_l rfl ?_
        refine s_val (x_ld (p := vat aa 2 (Int.toNat k)) (v := .agg #[I ((l.getD (Int.toNat k) default).spring), I ((l.getD (Int.toNat k) default).town)]) rfl (ld_ag Ag62 Sz62 (At.mono (Dem_atA (H.os 0) (i := k) (by omega) (by omega)) (H.ol 0)))) ?_
        refine s_nil ⟨(H.pk [1]), ?_⟩
        refine t_l rfl ?_
        refine s_val (x_ix (a := aa) (b := I k) (v := vat aa 2 (Int.toNat k)) rfl rfl (Sl.ix (α := Dem) T57.und T57.size (H.os 0) (by omega) (by omega))) ?_
        refine s_nil ⟨(H.pk [1]), ?_⟩
        refine t_l rfl ?_
        refine t_ost (k := 0) (i := k) (l := l) (l' := l.set (Int.toNat k) (l.getD (Int.toNat (k + 1)) default)) (val := .agg #[I ((l.getD (Int.toNat (k + 1)) default).spring), I ((l.getD (Int.toNat (k + 1)) default).town)]) (L' := [cOwn (α := Dem) 62 aa (l.set (Int.toNat k) (l.getD (Int.toNat (k + 1)) default)), cMem encDm ak B_mem (zaa ab ac ae ag ah ai aj)]) H rfl Sz62 (by omega) (by omega) (l.getD (Int.toNat (k + 1)) default) rfl rfl rfl rfl rfl ?_
        intro dU H
        refine s_nil ⟨(H.pk [1]), ?_⟩
        refine t_l rfl ?_
        refine s_val (x_ix (a := aa) (b := I (k + 1)) (v := vat aa 2 (Int.toNat (k + 1))) rfl rfl (Sl.ix (α := Dem) T57.und T57.size (H.os 0) (by omega) (by omega))) ?_
        refine s_nil ⟨(H.pk [1]), ?_⟩
        refine t_l rfl ?_
        refine t_ost (k := 0) (i := k + 1) (l := l.set (Int.toNat k) (l.getD (Int.toNat (k + 1)) default)) (l' := (l.set (Int.toNat k) (l.getD (Int.toNat (k + 1)) default)).set (Int.toNat (k + 1)) (l.getD (Int.toNat k) default)) (val := .agg #[I ((l.getD (Int.toNat k) default).spring), I ((l.getD (Int.toNat k) default).town)]) (L' := [cOwn (α := Dem) 62 aa ((l.set (Int.toNat k) (l.getD (Int.toNat (k + 1)) default)).set (Int.toNat (k + 1)) (l.getD (Int.toNat k) default)), cMem encDm ak B_mem (zaa ab ac ae ag ah ai aj)]) H rfl Sz62 (by omega) (by omega) (l.getD (Int.toNat k) default) rfl rfl rfl rfl rfl ?_
        intro dV H
        refine s_nil ⟨(H.pk [1]), ?_⟩
        refine t_nil ?_
        refine W.region rfl ?_
        refine zM (I k) rfl ?_
        refine zR k 1 (k + 1) rfl rfl rfl (by omega) ?_
        refine zA (I (k + 1)) rfl ?_
        refine s_nil ?_
        exact ⟨a8, ba, (l.set (Int.toNat k) (l.getD (Int.toNat (k + 1)) default)).set (Int.toNat (k + 1)) (l.getD (Int.toNat k) default), k + 1, _, upds_of _ _ ⟨rfl, rfl, rfl, trivial⟩, M.e_inl hM aZ, H⟩
       skip
       refine s_val (x_ix (a := aa) (b := I k) (v := vat aa 2 (Int.toNat k)) rfl rfl (Sl.ix (α := Dem) T57.und T57.size (H.os 0) (by omega) (by omega))) ?_
       refine s_nil ⟨(H.pk [1]), ?_⟩
       refine t_l2 rfl rfl ?_ ?_
       ·skip
        refine s_val (x_ld (p := vat aa 2 (Int.toNat (k + 1))) (v := .agg #[I ((l.getD (Int.toNat (k + 1)) default).spring), I ((l.getD (Int.toNat (k + 1)) default).town)]) rfl (ld_ag Ag62 Sz62 (At.mono (Dem_atA (H.os 0) (i := k + 1) (by omega) (by omega)) (H.ol 0)))) ?_
        refine s_nil ⟨(H.pk [1]), ?_⟩
        refine t_l rfl ?_
        refine s_val (x_ld (p := vat aa 2 (Int.toNat k)) (v := .agg #[I ((l.getD (Int.toNat k) default).spring), I ((l.getD (Int.toNat k) default).town)]) rfl (ld_ag Ag62 Sz62 (At.mono (Dem_atA (H.os 0) (i := k) (by omega) (by omega)) (H.ol 0)))) ?_
        refine s_nil ⟨(H.pk [1]), ?_⟩
        refine t_l rfl ?_
        refine s_val (x_ix (a := aa) (b := I k) (v := vat aa 2 (Int.toNat k)) rfl rfl (Sl.ix (α := Dem) T57.und T57.size (H.os 0) (by omega) (by omega))) ?_
        refine s_nil ⟨(H.pk [1]), ?_⟩
        refine t_l rfl ?_
        refine t_ost (k := 0) (i := k) (l := l) (l' := l.set (Int.toNat k) (l.getD (Int.toNat (k + 1)) default)) (val := .agg #[I ((l.getD (Int.toNat (k + 1)) default).spring), I ((l.getD (Int.toNat (k + 1)) default).town)]) (L' := [cOwn (α := Dem) 62 aa (l.set (Int.toNat k) (l.getD (Int.toNat (k + 1)) default)), cMem encDm ak B_mem (zaa ab ac ae ag ah ai aj)]) H rfl Sz62 (by omega) (by omega) (l.getD (Int.toNat (k + 1)) default) rfl rfl rfl rfl rfl ?_
        intro dW H
        refine s_nil ⟨(H.pk [1]), ?_⟩
        refine t_l rfl ?_
        refine s_val (x_ix (a := aa) (b := I (k + 1)) (v := vat aa 2 (Int.toNat (k + 1))) rfl rfl (Sl.ix (α := Dem) T57.und T57.size (H.os 0) (by omega) (by omega))) ?_
        refine s_nil ⟨(H.pk [1]), ?_⟩
        refine t_l rfl ?_
        refine t_ost (k := 0) (i := k + 1) (l := l.set (Int.toNat k) (l.getD (Int.toNat (k + 1)) default)) (l' := (l.set (Int.toNat k) (l.getD (Int.toNat (k + 1)) default)).set (Int.toNat (k + 1)) (l.getD (Int.toNat k) default)) (val := .agg #[I ((l.getD (Int.toNat k) default).spring), I ((l.getD (Int.toNat k) default).town)]) (L' := [cOwn (α := Dem) 62 aa ((l.set (Int.toNat k) (l.getD (Int.toNat (k + 1)) default)).set (Int.toNat (k + 1)) (l.getD (Int.toNat k) default)), cMem encDm ak B_mem (zaa ab ac ae ag ah ai aj)]) H rfl Sz62 (by omega) (by omega) (l.getD (Int.toNat k) default) rfl rfl rfl rfl rfl ?_
        intro dX H
        refine s_nil ⟨(H.pk [1]), ?_⟩
        refine t_nil ?_
        refine W.region rfl ?_
        refine zM (I k) rfl ?_
        refine zR k 1 (k + 1) rfl rfl rfl (by omega) ?_
        refine zA (I (k + 1)) rfl ?_
        refine s_nil ?_
        exact ⟨a8, ba, (l.set (Int.toNat k) (l.getD (Int.toNat (k + 1)) default)).set (Int.toNat (k + 1)) (l.getD (Int.toNat k) default), k + 1, _, upds_of _ _ ⟨rfl, rfl, rfl, trivial⟩, M.e_inl hM aZ, H⟩
       skip
       refine s_val (x_ld (p := vat aa 2 (Int.toNat k)) (v := .agg #[I ((l.getD (Int.toNat k) default).spring), I ((l.getD (Int.toNat k) default).town)]) rfl (ld_ag Ag62 Sz62 (At.mono (Dem_atA (H.os 0) (i := k) (by omega) (by omega)) (H.ol 0)))) ?_
       refine s_nil ⟨(H.pk [1]), ?_⟩
       refine t_l rfl ?_
       refine s_val (x_ld (p := vat aa 2 (Int.toNat (k + 1))) (v := .agg #[I ((l.getD (Int.toNat (k + 1)) default).spring), I ((l.getD (Int.toNat (k + 1)) default).town)]) rfl (ld_ag Ag62 Sz62 (At.mono (Dem_atA (H.os 0) (i := k + 1) (by omega) (by omega)) (H.ol 0)))) ?_
       refine s_nil ⟨(H.pk [1]), ?_⟩
       refine t_l rfl ?_
       refine s_val (x_ix (a := aa) (b := I k) (v := vat aa 2 (Int.toNat k)) rfl rfl (Sl.ix (α := Dem) T57.und T57.size (H.os 0) (by omega) (by omega))) ?_
       refine s_nil ⟨(H.pk [1]), ?_⟩
       refine t_l rfl ?_
       refine t_ost (k := 0) (i := k) (l := l) (l' := l.set (Int.toNat k) (l.getD (Int.toNat (k + 1)) default)) (val := .agg #[I ((l.getD (Int.toNat (k + 1)) default).spring), I ((l.getD (Int.toNat (k + 1)) default).town)]) (L' := [cOwn (α := Dem) 62 aa (l.set (Int.toNat k) (l.getD (Int.toNat (k + 1)) default)), cMem encDm ak B_mem (zaa ab ac ae ag ah ai aj)]) H rfl Sz62 (by omega) (by omega) (l.getD (Int.toNat (k + 1)) default) rfl rfl rfl rfl rfl ?_
       intro dY H
       refine s_nil ⟨(H.pk [1]), ?_⟩
       refine t_l rfl ?_
       refine s_val (x_ix (a := aa) (b := I (k + 1)) (v := vat aa 2 (Int.toNat (k + 1))) rfl rfl (Sl.ix (α := Dem) T57.und T57.size (H.os 0) (by omega) (by omega))) ?_
       refine s_nil ⟨(H.pk [1]), ?_⟩
       refine t_l rfl ?_
       refine t_ost (k := 0) (i := k + 1) (l := l.set (Int.toNat k) (l.getD (Int.toNat (k + 1)) default)) (l' := (l.set (Int.toNat k) (l.getD (Int.toNat (k + 1)) default)).set (Int.toNat (k + 1)) (l.getD (Int.toNat k) default)) (val := .agg #[I ((l.getD (Int.toNat k) default).spring), I ((l.getD (Int.toNat k) default).town)]) (L' := [cOwn (α := Dem) 62 aa ((l.set (Int.toNat k) (l.getD (Int.toNat (k + 1)) default)).set (Int.toNat (k + 1)) (l.getD (Int.toNat k) default)), cMem encDm ak B_mem (zaa ab ac ae ag ah ai aj)]) H rfl Sz62 (by omega) (by omega) (l.getD (Int.toNat k) default) rfl rfl rfl rfl rfl ?_
       intro dZ H
       refine s_nil ⟨(H.pk [1]), ?_⟩
       refine t_nil ?_
       refine W.region rfl ?_
       refine zM (I k) rfl ?_
       refine zR k 1 (k + 1) rfl rfl rfl (by omega) ?_
       refine zA (I (k + 1)) rfl ?_
       refine s_nil ?_
       exact ⟨a8, ba, (l.set (Int.toNat k) (l.getD (Int.toNat (k + 1)) default)).set (Int.toNat (k + 1)) (l.getD (Int.toNat k) default), k + 1, _, upds_of _ _ ⟨rfl, rfl, rfl, trivial⟩, M.e_inl hM aZ, H⟩
      skip
      refine s_val (x_ix (a := aa) (b := I k) (v := vat aa 2 (Int.toNat k)) rfl rfl (Sl.ix (α := Dem) T57.und T57.size (H.os 0) (by omega) (by omega))) ?_
      have d3 := Sl.cells (H.os 0)
      have d4 := Sl.oc (H.os 0)
      refine s_nil ⟨(H.pk [1]), ?_⟩
      refine t_l2 rfl rfl ?_ ?_
      ·skip
       refine s_val (x_ix (a := aa) (b := I (k + 1)) (v := vat aa 2 (Int.toNat (k + 1))) rfl rfl (Sl.ix (α := Dem) T57.und T57.size (H.os 0) (by omega) (by omega))) ?_
       refine s_nil ⟨(H.pk [1]), ?_⟩
       refine t_l2 rfl rfl ?_ ?_
       ·skip
        refine s_val (x_ld (p := vat aa 2 (Int.toNat (k + 1))) (v := .agg #[I ((l.getD (Int.toNat (k + 1)) default).spring), I ((l.getD (Int.toNat (k + 1)) default).town)]) rfl (ld_ag Ag62 Sz62 (At.mono (Dem_atA (H.os 0) (i := k + 1) (by omega) (by omega)) (H.ol 0)))) ?_
        refine s_nil ⟨(H.pk [1]), ?_⟩
        refine t_l rfl ?_
        refine s_val (x_ld (p := vat aa 2 (Int.toNat k)) (v := .agg #[I ((l.getD (Int.toNat k) default).spring), I ((l.getD (Int.toNat k) default).town)]) rfl (ld_ag Ag62 Sz62 (At.mono (Dem_atA (H.os 0) (i := k) (by omega) (by omega)) (H.ol 0)))) ?_
        refine s_nil ⟨(H.pk [1]), ?_⟩
        refine t_l rfl ?_
        refine s_val (x_ix (a := aa) (b := I k) (v := vat aa 2 (Int.toNat k)) rfl rfl (Sl.ix (α := Dem) T57.und T57.size (H.os 0) (by omega) (by omega))) ?_
        refine s_nil ⟨(H.pk [1]), ?_⟩
        refine t_l rfl ?_
        refine t_ost (k := 0) (i := k) (l := l) (l' := l.set (Int.toNat k) (l.getD (Int.toNat (k + 1)) default)) (val := .agg #[I ((l.getD (Int.toNat (k + 1)) default).spring), I ((l.getD (Int.toNat (k + 1)) default).town)]) (L' := [cOwn (α := Dem) 62 aa (l.set (Int.toNat k) (l.getD (Int.toNat (k + 1)) default)), cMem encDm ak B_mem (zaa ab ac ae ag ah ai aj)]) H rfl Sz62 (by omega) (by omega) (l.getD (Int.toNat (k + 1)) default) rfl rfl rfl rfl rfl ?_
        intro d5 H
        refine s_nil ⟨(H.pk [1]), ?_⟩
        refine t_l rfl ?_
        refine s_val (x_ix (a := aa) (b := I (k + 1)) (v := vat aa 2 (Int.toNat (k + 1))) rfl rfl (Sl.ix (α := Dem) T57.und T57.size (H.os 0) (by omega) (by omega))) ?_
        refine s_nil ⟨(H.pk [1]), ?_⟩
        refine t_l rfl ?_
        refine t_ost (k := 0) (i := k + 1) (l := l.set (Int.toNat k) (l.getD (Int.toNat (k + 1)) default)) (l' := (l.set (Int.toNat k) (l.getD (Int.toNat (k + 1)) default)).set (Int.toNat (k + 1)) (l.getD (Int.toNat k) default)) (val := .agg #[I ((l.getD (Int.toNat k) default).spring), I ((l.getD (Int.toNat k) default).town)]) (L' := [cOwn (α := Dem) 62 aa ((l.set (Int.toNat k) (l.getD (Int.toNat (k + 1)) default)).set (Int.toNat (k + 1)) (l.getD (Int.toNat k) default)), cMem encDm ak B_mem (zaa ab ac ae ag ah ai aj)]) H rfl Sz62 (by omega) (by omega) (l.getD (Int.toNat k) default) rfl rfl rfl rfl rfl ?_
        intro d6 H
        refine s_nil ⟨(H.pk [1]), ?_⟩
        refine t_nil ?_
        refine W.region rfl ?_
        refine zM (I k) rfl ?_
        refine zR k 1 (k + 1) rfl rfl rfl (by omega) ?_
        refine zA (I (k + 1)) rfl ?_
        refine s_nil ?_
        exact ⟨a8, ba, (l.set (Int.toNat k) (l.getD (Int.toNat (k + 1)) default)).set (Int.toNat (k + 1)) (l.getD (Int.toNat k) default), k + 1, _, upds_of _ _ ⟨rfl, rfl, rfl, trivial⟩, M.e_inl hM aZ, H⟩
       skip
       refine s_val (x_ld (p := vat aa 2 (Int.toNat k)) (v := .agg #[I ((l.getD (Int.toNat k) default).spring), I ((l.getD (Int.toNat k) default).town)]) rfl (ld_ag Ag62 Sz62 (At.mono (Dem_atA (H.os 0) (i := k) (by omega) (by omega)) (H.ol 0)))) ?_
       refine s_nil ⟨(H.pk [1]), ?_⟩
       refine t_l rfl ?_
       refine s_val (x_ld (p := vat aa 2 (Int.toNat (k + 1))) (v := .agg #[I ((l.getD (Int.toNat (k + 1)) default).spring), I ((l.getD (Int.toNat (k + 1)) default).town)]) rfl (ld_ag Ag62 Sz62 (At.mono (Dem_atA (H.os 0) (i := k + 1) (by omega) (by omega)) (H.ol 0)))) ?_
       refine s_nil ⟨(H.pk [1]), ?_⟩
       refine t_l rfl ?_
       refine s_val (x_ix (a := aa) (b := I k) (v := vat aa 2 (Int.toNat k)) rfl rfl (Sl.ix (α := Dem) T57.und T57.size (H.os 0) (by omega) (by omega))) ?_
       refine s_nil ⟨(H.pk [1]), ?_⟩
       refine t_l rfl ?_
       refine t_ost (k := 0) (i := k) (l := l) (l' := l.set (Int.toNat k) (l.getD (Int.toNat (k + 1)) default)) (val := .agg #[I ((l.getD (Int.toNat (k + 1)) default).spring), I ((l.getD (Int.toNat (k + 1)) default).town)]) (L' := [cOwn (α := Dem) 62 aa (l.set (Int.toNat k) (l.getD (Int.toNat (k + 1)) default)), cMem encDm ak B_mem (zaa ab ac ae ag ah ai aj)]) H rfl Sz62 (by omega) (by omega) (l.getD (Int.toNat (k + 1)) default) rfl rfl rfl rfl rfl ?_
       intro d7 H
       refine s_nil ⟨(H.pk [1]), ?_⟩
       refine t_l rfl ?_
       refine s_val (x_ix (a := aa) (b := I (k + 1)) (v := vat aa 2 (Int.toNat (k + 1))) rfl rfl (Sl.ix (α := Dem) T57.und T57.size (H.os 0) (by omega) (by omega))) ?_
       refine s_nil ⟨(H.pk [1]), ?_⟩
       refine t_l rfl ?_
       refine t_ost (k := 0) (i := k + 1) (l := l.set (Int.toNat k) (l.getD (Int.toNat (k + 1)) default)) (l' := (l.set (Int.toNat k) (l.getD (Int.toNat (k + 1)) default)).set (Int.toNat (k + 1)) (l.getD (Int.toNat k) default)) (val := .agg #[I ((l.getD (Int.toNat k) default).spring), I ((l.getD (Int.toNat k) default).town)]) (L' := [cOwn (α := Dem) 62 aa ((l.set (Int.toNat k) (l.getD (Int.toNat (k + 1)) default)).set (Int.toNat (k + 1)) (l.getD (Int.toNat k) default)), cMem encDm ak B_mem (zaa ab ac ae ag ah ai aj)]) H rfl Sz62 (by omega) (by omega) (l.getD (Int.toNat k) default) rfl rfl rfl rfl rfl ?_
       intro d8 H
       refine s_nil ⟨(H.pk [1]), ?_⟩
       refine t_nil ?_
       refine W.region rfl ?_
       refine zM (I k) rfl ?_
       refine zR k 1 (k + 1) rfl rfl rfl (by omega) ?_
       refine zA (I (k + 1)) rfl ?_
       refine s_nil ?_
       exact ⟨a8, ba, (l.set (Int.toNat k) (l.getD (Int.toNat (k + 1)) default)).set (Int.toNat (k + 1)) (l.getD (Int.toNat k) default), k + 1, _, upds_of _ _ ⟨rfl, rfl, rfl, trivial⟩, M.e_inl hM aZ, H⟩
      skip
      refine s_val (x_ld (p := vat aa 2 (Int.toNat k)) (v := .agg #[I ((l.getD (Int.toNat k) default).spring), I ((l.getD (Int.toNat k) default).town)]) rfl (ld_ag Ag62 Sz62 (At.mono (Dem_atA (H.os 0) (i := k) (by omega) (by omega)) (H.ol 0)))) ?_
      refine s_nil ⟨(H.pk [1]), ?_⟩
      refine t_l rfl ?_
      refine s_val (x_ix (a := aa) (b := I (k + 1)) (v := vat aa 2 (Int.toNat (k + 1))) rfl rfl (Sl.ix (α := Dem) T57.und T57.size (H.os 0) (by omega) (by omega))) ?_
      refine s_nil ⟨(H.pk [1]), ?_⟩
      refine t_l rfl ?_
      refine s_val (x_ld (p := vat aa 2 (Int.toNat (k + 1))) (v := .agg #[I ((l.getD (Int.toNat (k + 1)) default).spring), I ((l.getD (Int.toNat (k + 1)) default).town)]) rfl (ld_ag Ag62 Sz62 (At.mono (Dem_atA (H.os 0) (i := k + 1) (by omega) (by omega)) (H.ol 0)))) ?_
      refine s_nil ⟨(H.pk [1]), ?_⟩
      refine t_l rfl ?_
      refine s_val (x_ix (a := aa) (b := I k) (v := vat aa 2 (Int.toNat k)) rfl rfl (Sl.ix (α := Dem) T57.und T57.size (H.os 0) (by omega) (by omega))) ?_
      refine s_nil ⟨(H.pk [1]), ?_⟩
      refine t_l rfl ?_
      refine t_ost (k := 0) (i := k) (l := l) (l' := l.set (Int.toNat k) (l.getD (Int.toNat (k + 1)) default)) (val := .agg #[I ((l.getD (Int.toNat (k + 1)) default).spring), I ((l.getD (Int.toNat (k + 1)) default).town)]) (L' := [cOwn (α := Dem) 62 aa (l.set (Int.toNat k) (l.getD (Int.toNat (k + 1)) default)), cMem encDm ak B_mem (zaa ab ac ae ag ah ai aj)]) H rfl Sz62 (by omega) (by omega) (l.getD (Int.toNat (k + 1)) default) rfl rfl rfl rfl rfl ?_
      intro d9 H
      refine s_nil ⟨(H.pk [1]), ?_⟩
      refine t_l rfl ?_
      refine s_val (x_ix (a := aa) (b := I (k + 1)) (v := vat aa 2 (Int.toNat (k + 1))) rfl rfl (Sl.ix (α := Dem) T57.und T57.size (H.os 0) (by omega) (by omega))) ?_
      refine s_nil ⟨(H.pk [1]), ?_⟩
      refine t_l rfl ?_
      refine t_ost (k := 0) (i := k + 1) (l := l.set (Int.toNat k) (l.getD (Int.toNat (k + 1)) default)) (l' := (l.set (Int.toNat k) (l.getD (Int.toNat (k + 1)) default)).set (Int.toNat (k + 1)) (l.getD (Int.toNat k) default)) (val := .agg #[I ((l.getD (Int.toNat k) default).spring), I ((l.getD (Int.toNat k) default).town)]) (L' := [cOwn (α := Dem) 62 aa ((l.set (Int.toNat k) (l.getD (Int.toNat (k + 1)) default)).set (Int.toNat (k + 1)) (l.getD (Int.toNat k) default)), cMem encDm ak B_mem (zaa ab ac ae ag ah ai aj)]) H rfl Sz62 (by omega) (by omega) (l.getD (Int.toNat k) default) rfl rfl rfl rfl rfl ?_
      intro ea H
      refine s_nil ⟨(H.pk [1]), ?_⟩
      refine t_nil ?_
      refine W.region rfl ?_
      refine zM (I k) rfl ?_
      refine zR k 1 (k + 1) rfl rfl rfl (by omega) ?_
      refine zA (I (k + 1)) rfl ?_
      refine s_nil ?_
      exact ⟨a8, ba, (l.set (Int.toNat k) (l.getD (Int.toNat (k + 1)) default)).set (Int.toNat (k + 1)) (l.getD (Int.toNat k) default), k + 1, _, upds_of _ _ ⟨rfl, rfl, rfl, trivial⟩, M.e_inl hM aZ, H⟩
     replace hM := M.e_f hM bi
     simp only [qy1, qy2, qy3, qy4, qy5, qy6, ne_eq, qy7] at bi
     refine W.exit ?_
     have cM := M.e_inr hM aZ
     subst cM
     replace hM := cG
     try dsimp only at hM
     refine W.ret ?_
     have a6 := M.e_pure hM
     exact ⟨_, resE_tmp0 rfl, ⟨l, B_mem, a6, rfl, H⟩⟩
    replace hM := M.e_f hM bf
    simp only [qy1, qy2, qy3, qy4, qy5, qy6, ne_eq, qy7] at bf
    refine W.skip ?_
    refine W.seq ?_
    refine W.seq ?_
    refine W.region rfl ?_
    refine zM (I b) rfl ?_
    refine zM (I m_) rfl ?_
    obtain ⟨cN, hM⟩ := M.e_grd hM
    simp only [Bool.and_eq_true, decide_eq_true_eq] at cN
    refine zR b m_ (b - m_) rfl rfl rfl (by omega) ?_
    refine zC (b - m_) 1 ((b - m_) == 1) rfl rfl rfl ?_
    refine s_nil ?_
    refine W.cond ((b - m_) == 1) rfl (fun bj => ?_) (fun bj => ?_)
    ·replace hM := M.e_t hM bj
     simp only [qy1, qy2, qy3, qy4, qy5, qy6, ne_eq, qy7] at bj
     refine W.seq ?_
     refine W.region rfl ?_
     refine zM (I a) rfl ?_
     refine zA (I a) rfl ?_
     refine s_nil ?_
     refine W.seq ?_
     refine W.region rfl ?_
     refine zM (I m_) rfl ?_
     refine zA (I m_) rfl ?_
     refine s_nil ?_
     refine W.seq ?_
     refine W.block ?_
     obtain ⟨cO, bV, cP⟩ := M.e_bind hM
     obtain ⟨bQ, bV⟩ := M.e_iter bV
     refine W.loop (fun m σ W => ∃ (i3 : Int) (j2 : Int) (B_mem2 : Base) (ρ : Env), σ = upds ρ [(0, aa), (2, I m_), (4, .func (.func 71) #[] #[Pq al]), (14, I i3), (15, I j2)] /\ M.iterN (za3 data m_ ab ac ae ag ah ai aj ao aq au av aw ax ay) m (i3, j2) = some cO /\ St w W [cOwn (α := Dem) 62 aa data, cMem encDm ak B_mem2 (zaa ab ac ae ag ah ai aj)] R) ?_ ?_
     ·exact ⟨_, a, m_, B_b_cmp2020207, _, upds_of _ _ ⟨rfl, rfl, rfl, rfl, rfl, trivial⟩, bV, H⟩
     rintro eb σ ec ⟨i3, j2, B_mem2, ρ, rfl, ce, H⟩
     obtain ⟨cf, cg, ed, hM, bW⟩ := M.e_iterN ce
     simp only [za3] at hM
     clear ce
     refine W.seq ?_
     refine W.seq ?_
     refine W.region rfl ?_
     refine zM (I i3) rfl ?_
     refine zM (I j2) rfl ?_
     refine zC i3 j2 (decide (i3 < j2)) rfl rfl rfl ?_
     refine s_nil ?_
     refine W.cond (decide (i3 < j2)) rfl (fun bm => ?_) (fun bm => ?_)
     ·replace hM := M.e_t hM bm
      simp only [qy1, qy2, qy3, qy4, qy5, qy6, ne_eq, qy7] at bm
      refine W.skip ?_
      refine W.block ?_
      refine W.seq ?_
      refine W.region rfl ?_
      refine zM (I i3) rfl ?_
      refine zM (I j2) rfl ?_
      obtain ⟨cQ, hM⟩ := M.e_grd hM
      simp only [Bool.and_eq_true, decide_eq_true_eq] at cQ
      refine zR i3 j2 (i3 + j2) rfl rfl rfl (by omega) ?_
      obtain ⟨cR, hM⟩ := M.e_grd hM
      simp only [Bool.and_eq_true, decide_eq_true_eq] at cR
      refine s_val (x_convU (kd := .i64) (a := i3 + j2) Try.underlying3 Try.underlying126 rfl (by omega)) ?_
      refine s_val (x_ushr1 (a := i3 + j2) rfl rfl) ?_
      obtain ⟨cS, hM⟩ := M.e_grd hM
      simp only [Bool.and_eq_true, decide_eq_true_eq] at cS
      refine s_val (x_conv64 (kd := .u64) (a := (i3 + j2) / 2) Try.underlying126 Try.underlying3 rfl (by omega)) ?_
      refine zA (I ((i3 + j2) / 2)) rfl ?_
      refine s_nil ?_
      refine W.seq ?_
      refine W.draw (fun W => St w W [cOwn (α := Dem) 62 aa data] R) [(0, true), (1, true), (2, true), (3, true), (4, true), (5, true), (6, true), (7, true), (8, true), (9, false), (10, true), (11, true)] mixed (by decide +kernel) rfl ?_
      intro ee az
      replace H := H.ext az
      clear az
      refine ⟨(H.pk [0]), ?_⟩
      refine d_q rfl (fun w' H => x_mv (v := .func (.func 71) #[] #[Pq al]) rfl) ?_
      refine d_q rfl (fun w' H => x_mv (v := aa) rfl) ?_
      refine d_q rfl (fun w' H => x_mv (v := I m_) rfl) ?_
      obtain ⟨cT, hM⟩ := M.e_grd hM
      simp only [Bool.and_eq_true, decide_eq_true_eq] at cT
      refine d_q rfl (fun w' H => x_ix (a := aa) (b := I m_) (v := vat aa 2 (Int.toNat m_)) rfl rfl (Sl.ix (α := Dem) T57.und T57.size (H.os 0) (by omega) (by omega))) ?_
      refine d_q rfl (fun w' H => x_ld (p := vat aa 2 (Int.toNat m_)) (v := .agg #[I ((data.getD (Int.toNat m_) default).spring), I ((data.getD (Int.toNat m_) default).town)]) rfl (ld_ag Ag62 Sz62 (At.mono (Dem_atA (H.os 0) (i := m_) (by omega) (by omega)) (H.ol 0)))) ?_
      refine d_q rfl (fun w' H => x_mv (v := aa) rfl) ?_
      refine d_q rfl (fun w' H => x_mv (v := I ((i3 + j2) / 2)) rfl) ?_
      obtain ⟨cU, hM⟩ := M.e_grd hM
      simp only [Bool.and_eq_true, decide_eq_true_eq] at cU
      refine d_q rfl (fun w' H => x_ix (a := aa) (b := I ((i3 + j2) / 2)) (v := vat aa 2 (Int.toNat ((i3 + j2) / 2))) rfl rfl (Sl.ix (α := Dem) T57.und T57.size (H.os 0) (by omega) (by omega))) ?_
      refine d_q rfl (fun w' H => x_ld (p := vat aa 2 (Int.toNat ((i3 + j2) / 2))) (v := .agg #[I ((data.getD (Int.toNat ((i3 + j2) / 2)) default).spring), I ((data.getD (Int.toNat ((i3 + j2) / 2)) default).town)]) rfl (ld_ag Ag62 Sz62 (At.mono (Dem_atA (H.os 0) (i := (i3 + j2) / 2) (by omega) (by omega)) (H.ol 0)))) ?_
      refine d_l rfl ?_
      obtain ⟨ef, cV, hM⟩ := M.e_bind hM
      refine s_callv (f := 71) rfl cf71 [.agg #[I ((data.getD (Int.toNat m_) default).spring), I ((data.getD (Int.toNat m_) default).town)], .agg #[I ((data.getD (Int.toNat ((i3 + j2) / 2)) default).spring), I ((data.getD (Int.toNat ((i3 + j2) / 2)) default).town)]] rfl (zb4 (data.getD (Int.toNat m_) default) (data.getD (Int.toNat ((i3 + j2) / 2)) default) ab ac ae ag ah ai aj ao aq au av aw ax ay (aA.app _) aB (aC.app _) aD (aE.app _) aF (aG.app _) aH (aI.app _) aJ (aK.app _) (aL.app _) (aM.app _) aN (aO.app _) aP (aQ.app _) aR (aS.app _) aT (aU.app _) aV (aW.app _) (aX.app _) (aY.app _) cV _ ((H.pk [1, 0]).gt 1)) ?_
      rintro vq eg ⟨r3, ch, cW, hvq, am⟩
      subst cW
      subst vq
      try dsimp only at hM
      replace H := H.pk [1, 0] |>.bk am
      clear am
      refine s_nil ⟨(H.pk [1]), ?_⟩
      refine d_q rfl (fun w' H => x_cmp (kd := .i64) (a := r3) (b := 0) (r := decide (r3 < 0)) rfl rfl rfl) ?_
      refine d_q rfl (fun w' H => x_not (b := decide (r3 < 0)) rfl) ?_
      refine d_nil ?_
      refine W.cond (!(decide (r3 < 0))) rfl (fun bX => ?_) (fun bX => ?_)
      ·replace hM := M.e_t hM bX
       refine W.region rfl ?_
       refine zM (I ((i3 + j2) / 2)) rfl ?_
       refine zR ((i3 + j2) / 2) 1 (((i3 + j2) / 2) + 1) rfl rfl rfl (by omega) ?_
       refine zA (I (((i3 + j2) / 2) + 1)) rfl ?_
       refine s_nil ?_
       exact ⟨cf, cg, ((i3 + j2) / 2) + 1, j2, ch, _, upds_of _ _ ⟨rfl, rfl, rfl, rfl, rfl, trivial⟩, M.e_inl hM bW, (H.pk [1, 0])⟩
      replace hM := M.e_f hM bX
      refine W.region rfl ?_
      refine zM (I ((i3 + j2) / 2)) rfl ?_
      refine zA (I ((i3 + j2) / 2)) rfl ?_
      refine s_nil ?_
      exact ⟨cf, cg, i3, (i3 + j2) / 2, ch, _, upds_of _ _ ⟨rfl, rfl, rfl, rfl, rfl, trivial⟩, M.e_inl hM bW, (H.pk [1, 0])⟩
     replace hM := M.e_f hM bm
     simp only [qy1, qy2, qy3, qy4, qy5, qy6, ne_eq, qy7] at bm
     refine W.exit ?_
     have cX := M.e_inr hM bW
     subst cX
     replace hM := cP
     try dsimp only at hM
     refine W.seq ?_
     refine W.seq ?_
     refine W.region rfl ?_
     refine zM (I m_) rfl ?_
     refine zA (I m_) rfl ?_
     refine s_nil ?_
     refine W.block ?_
     obtain ⟨cY, bY, cZ⟩ := M.e_bind hM
     obtain ⟨bQ, bY⟩ := M.e_iter bY
     refine W.loop (fun m σ W => ∃ (l3 : List Dem) (k2 : Int) (ρ : Env), σ = upds ρ [(0, aa), (14, I i3), (17, I k2)] /\ M.iterN (zaA i3) m (l3, k2) = some cY /\ St w W [cOwn (α := Dem) 62 aa l3, cMem encDm ak B_mem2 (zaa ab ac ae ag ah ai aj)] R) ?_ ?_
     ·exact ⟨_, data, m_, _, upds_of _ _ ⟨rfl, rfl, rfl, trivial⟩, bY, H⟩
     rintro eh σ ei ⟨l3, k2, ρ, rfl, ck, H⟩
     obtain ⟨bb, bc, ej, hM, a7⟩ := M.e_iterN ck
     simp only [zaA] at hM
     clear ck
     refine W.seq ?_
     refine W.seq ?_
     refine W.region rfl ?_
     refine zM (I k2) rfl ?_
     refine zM (I i3) rfl ?_
     refine zC k2 i3 (decide (i3 < k2)) rfl rfl rfl ?_
     refine s_nil ?_
     refine W.cond (decide (i3 < k2)) rfl (fun bn => ?_) (fun bn => ?_)
     ·replace hM := M.e_t hM bn
      simp only [qy1, qy2, qy3, qy4, qy5, qy6, ne_eq, qy7] at bn
      refine W.skip ?_
      refine W.seq ?_
      refine W.block ?_
      refine W.drawT (fun W => St w W [cMem encDm ak B_mem2 (zaa ab ac ae ag ah ai aj)] R) (.q 0 (.q 1 (.q 2 (.q 3 (.q 4 (.q 5 (.q 6 (.q 7 (.q 10 (.q 11 (.l2 8 (.l2 9 (.l 12 (.l 13 (.l 14 (.l 15 (.l 16 (.l 17 .nil)))))) 12 (.l2 9 (.l 13 (.l 14 (.l 15 (.l 16 (.l 17 .nil))))) 13 (.l 9 (.l 14 (.l 15 (.l 16 (.l 17 .nil))))))) 12 (.l2 8 (.l2 9 (.l 13 (.l 14 (.l 15 (.l 16 (.l 17 .nil))))) 13 (.l 9 (.l 14 (.l 15 (.l 16 (.l 17 .nil)))))) 13 (.l 8 (.l 9 (.l 14 (.l 15 (.l 16 (.l 17 .nil)))))))))))))))))) mixed (by decide +kernel) rfl ?_
      intro em az
      replace H := H.ext az
      clear az
      refine ⟨(H.pk [1]), ?_⟩
      refine t_q rfl (fun w' H => x_mv (v := aa) rfl) ?_
      refine t_q rfl (fun w' H => x_mv (v := I k2) rfl) ?_
      refine t_q rfl (fun w' H => x_mv (v := aa) rfl) ?_
      refine t_q rfl (fun w' H => x_mv (v := I k2) rfl) ?_
      obtain ⟨c0, hM⟩ := M.e_grd hM
      simp only [Bool.and_eq_true, decide_eq_true_eq] at c0
      refine t_q rfl (fun w' H => x_ari (a := k2) (b := 1) (r := k2 - 1) rfl rfl rfl (by omega)) ?_
      refine t_q rfl (fun w' H => x_mv (v := aa) rfl) ?_
      refine t_q rfl (fun w' H => x_mv (v := I k2) rfl) ?_
      refine t_q rfl (fun w' H => x_ari (a := k2) (b := 1) (r := k2 - 1) rfl rfl rfl (by omega)) ?_
      refine t_q rfl (fun w' H => x_mv (v := aa) rfl) ?_
      refine t_q rfl (fun w' H => x_mv (v := I k2) rfl) ?_
      obtain ⟨c6, hM⟩ := M.e_grd hM
      simp only [Bool.and_eq_true, decide_eq_true_eq] at c6
      obtain ⟨c7, hM⟩ := M.e_grd hM
      simp only [Bool.and_eq_true, decide_eq_true_eq] at c7
      obtain ⟨c8, hM⟩ := M.e_grd hM
      simp only [Bool.and_eq_true, decide_eq_true_eq] at c8
      refine t_l2 rfl rfl ?_ ?_
      ·skip
       refine s_val (x_ix (a := aa) (b := I (k2 - 1)) (v := vat aa 2 (Int.toNat (k2 - 1))) rfl rfl (Sl.ix (α := Dem) T57.und T57.size (H.os 0) (by omega) (by omega))) ?_
       have en := Sl.cells (H.os 0)
       have eo := Sl.oc (H.os 0)
       refine s_nil ⟨(H.pk [1]), ?_⟩
       refine t_l2 rfl rfl ?_ ?_
       ·skip
        refine s_val (x_ld (p := vat aa 2 (Int.toNat (k2 - 1))) (v := .agg #[I ((l3.getD (Int.toNat (k2 - 1)) default).spring), I ((l3.getD (Int.toNat (k2 - 1)) default).town)]) rfl (ld_ag Ag62 Sz62 (At.mono (Dem_atA (H.os 0) (i := k2 - 1) (by omega) (by omega)) (H.ol 0)))) ?_
        refine s_nil ⟨(H.pk [1]), ?_⟩
        refine t_l rfl ?_
        refine s_val (x_ix (a := aa) (b := I k2) (v := vat aa 2 (Int.toNat k2)) rfl rfl (Sl.ix (α := Dem) T57.und T57.size (H.os 0) (by omega) (by omega))) ?_
        refine s_nil ⟨(H.pk [1]), ?_⟩
        refine t_l rfl ?_
        refine s_val (x_ld (p := vat aa 2 (Int.toNat k2)) (v := .agg #[I ((l3.getD (Int.toNat k2) default).spring), I ((l3.getD (Int.toNat k2) default).town)]) rfl (ld_ag Ag62 Sz62 (At.mono (Dem_atA (H.os 0) (i := k2) (by omega) (by omega)) (H.ol 0)))) ?_
        refine s_nil ⟨(H.pk [1]), ?_⟩
        refine t_l rfl ?_
        refine s_val (x_ix (a := aa) (b := I k2) (v := vat aa 2 (Int.toNat k2)) rfl rfl (Sl.ix (α := Dem) T57.und T57.size (H.os 0) (by omega) (by omega))) ?_
        refine s_nil ⟨(H.pk [1]), ?_⟩
        refine t_l rfl ?_
        refine t_ost (k := 0) (i := k2) (l := l3) (l' := l3.set (Int.toNat k2) (l3.getD (Int.toNat (k2 - 1)) default)) (val := .agg #[I ((l3.getD (Int.toNat (k2 - 1)) default).spring), I ((l3.getD (Int.toNat (k2 - 1)) default).town)]) (L' := [cOwn (α := Dem) 62 aa (l3.set (Int.toNat k2) (l3.getD (Int.toNat (k2 - 1)) default)), cMem encDm ak B_mem2 (zaa ab ac ae ag ah ai aj)]) H rfl Sz62 (by omega) (by omega) (l3.getD (Int.toNat (k2 - 1)) default) rfl rfl rfl rfl rfl ?_
        intro ep H
        refine s_nil ⟨(H.pk [1]), ?_⟩
        refine t_l rfl ?_
        refine s_val (x_ix (a := aa) (b := I (k2 - 1)) (v := vat aa 2 (Int.toNat (k2 - 1))) rfl rfl (Sl.ix (α := Dem) T57.und T57.size (H.os 0) (by omega) (by omega))) ?_
        refine s_nil ⟨(H.pk [1]), ?_⟩
        refine t_l rfl ?_
        refine t_ost (k := 0) (i := k2 - 1) (l := l3.set (Int.toNat k2) (l3.getD (Int.toNat (k2 - 1)) default)) (l' := (l3.set (Int.toNat k2) (l3.getD (Int.toNat (k2 - 1)) default)).set (Int.toNat (k2 - 1)) (l3.getD (Int.toNat k2) default)) (val := .agg #[I ((l3.getD (Int.toNat k2) default).spring), I ((l3.getD (Int.toNat k2) default).town)]) (L' := [cOwn (α := Dem) 62 aa ((l3.set (Int.toNat k2) (l3.getD (Int.toNat (k2 - 1)) default)).set (Int.toNat (k2 - 1)) (l3.getD (Int.toNat k2) default)), cMem encDm ak B_mem2 (zaa ab ac ae ag ah ai aj)]) H rfl Sz62 (by omega) (by omega) (l3.getD (Int.toNat k2) default) rfl rfl rfl rfl rfl ?_
        intro eq H
        refine s_nil ⟨(H.pk [1]), ?_⟩
        refine t_nil ?_
        refine W.region rfl ?_
        refine zM (I k2) rfl ?_
        refine zR k2 1 (k2 - 1) rfl rfl rfl (by omega) ?_
        refine zA (I (k2 - 1)) rfl ?_
        refine s_nil ?_
        exact ⟨bb, bc, (l3.set (Int.toNat k2) (l3.getD (Int.toNat (k2 - 1)) default)).set (Int.toNat (k2 - 1)) (l3.getD (Int.toNat k2) default), k2 - 1, _, upds_of _ _ ⟨rfl, rfl, rfl, trivial⟩, M.e_inl hM a7, H⟩
       skip
       refine s_val (x_ix (a := aa) (b := I k2) (v := vat aa 2 (Int.toNat k2)) rfl rfl (Sl.ix (α := Dem) T57.und T57.size (H.os 0) (by omega) (by omega))) ?_
       refine s_nil ⟨(H.pk [1]), ?_⟩
       refine t_l2 rfl rfl ?_ ?_
       ·skip
        refine s_val (x_ld (p := vat aa 2 (Int.toNat (k2 - 1))) (v := .agg #[I ((l3.getD (Int.toNat (k2 - 1)) default).spring), I ((l3.getD (Int.toNat (k2 - 1)) default).town)]) rfl (ld_ag Ag62 Sz62 (At.mono (Dem_atA (H.os 0) (i := k2 - 1) (by omega) (by omega)) (H.ol 0)))) ?_
        refine s_nil ⟨(H.pk [1]), ?_⟩
        refine t_l rfl ?_
        refine s_val (x_ld (p := vat aa 2 (Int.toNat k2)) (v := .agg #[I ((l3.getD (Int.toNat k2) default).spring), I ((l3.getD (Int.toNat k2) default).town)]) rfl (ld_ag Ag62 Sz62 (At.mono (Dem_atA (H.os 0) (i := k2) (by omega) (by omega)) (H.ol 0)))) ?_
        refine s_nil ⟨(H.pk [1]), ?_⟩
        refine t_l rfl ?_
        refine s_val (x_ix (a := aa) (b := I k2) (v := vat aa 2 (Int.toNat k2)) rfl rfl (Sl.ix (α := Dem) T57.und T57.size (H.os 0) (by omega) (by omega))) ?_
        refine s_nil ⟨(H.pk [1]), ?_⟩
        refine t_l rfl ?_
        refine t_ost (k := 0) (i := k2) (l := l3) (l' := l3.set (Int.toNat k2) (l3.getD (Int.toNat (k2 - 1)) default)) (val := .agg #[I ((l3.getD (Int.toNat (k2 - 1)) default).spring), I ((l3.getD (Int.toNat (k2 - 1)) default).town)]) (L' := [cOwn (α := Dem) 62 aa (l3.set (Int.toNat k2) (l3.getD (Int.toNat (k2 - 1)) default)), cMem encDm ak B_mem2 (zaa ab ac ae ag ah ai aj)]) H rfl Sz62 (by omega) (by omega) (l3.getD (Int.toNat (k2 - 1)) default) rfl rfl rfl rfl rfl ?_
        intro eu H
        refine s_nil ⟨(H.pk [1]), ?_⟩
        refine t_l rfl ?_
        refine s_val (x_ix (a := aa) (b := I (k2 - 1)) (v := vat aa 2 (Int.toNat (k2 - 1))) rfl rfl (Sl.ix (α := Dem) T57.und T57.size (H.os 0) (by omega) (by omega))) ?_
        refine s_nil ⟨(H.pk [1]), ?_⟩
        refine t_l rfl ?_
        refine t_ost (k := 0) (i := k2 - 1) (l := l3.set (Int.toNat k2) (l3.getD (Int.toNat (k2 - 1)) default)) (l' := (l3.set (Int.toNat k2) (l3.getD (Int.toNat (k2 - 1)) default)).set (Int.toNat (k2 - 1)) (l3.getD (Int.toNat k2) default)) (val := .agg #[I ((l3.getD (Int.toNat k2) default).spring), I ((l3.getD (Int.toNat k2) default).town)]) (L' := [cOwn (α := Dem) 62 aa ((l3.set (Int.toNat k2) (l3.getD (Int.toNat (k2 - 1)) default)).set (Int.toNat (k2 - 1)) (l3.getD (Int.toNat k2) default)), cMem encDm ak B_mem2 (zaa ab ac ae ag ah ai aj)]) H rfl Sz62 (by omega) (by omega) (l3.getD (Int.toNat k2) default) rfl rfl rfl rfl rfl ?_
        intro ew H
        refine s_nil ⟨(H.pk [1]), ?_⟩
        refine t_nil ?_
        refine W.region rfl ?_
        refine zM (I k2) rfl ?_
        refine zR k2 1 (k2 - 1) rfl rfl rfl (by omega) ?_
        refine zA (I (k2 - 1)) rfl ?_
        refine s_nil ?_
        exact ⟨bb, bc, (l3.set (Int.toNat k2) (l3.getD (Int.toNat (k2 - 1)) default)).set (Int.toNat (k2 - 1)) (l3.getD (Int.toNat k2) default), k2 - 1, _, upds_of _ _ ⟨rfl, rfl, rfl, trivial⟩, M.e_inl hM a7, H⟩
       skip
       refine s_val (x_ld (p := vat aa 2 (Int.toNat k2)) (v := .agg #[I ((l3.getD (Int.toNat k2) default).spring), I ((l3.getD (Int.toNat k2) default).town)]) rfl (ld_ag Ag62 Sz62 (At.mono (Dem_atA (H.os 0) (i := k2) (by omega) (by omega)) (H.ol 0)))) ?_
       refine s_nil ⟨(H.pk [1]), ?_⟩
       refine t_l rfl ?_
       refine s_val (x_ld (p := vat aa 2 (Int.toNat (k2 - 1))) (v := .agg #[I ((l3.getD (Int.toNat (k2 - 1)) default).spring), I ((l3.getD (Int.toNat (k2 - 1)) default).town)]) rfl (ld_ag Ag62 Sz62 (At.mono (Dem_atA (H.os 0) (i := k2 - 1) (by omega) (by omega)) (H.ol 0)))) ?_
       refine s_nil ⟨(H.pk [1]), ?_⟩
       refine t_l rfl ?_
       refine s_val (x_ix (a := aa) (b := I k2) (v := vat aa 2 (Int.toNat k2)) rfl rfl (Sl.ix (α := Dem) T57.und T57.size (H.os 0) (by omega) (by omega))) ?_
       refine s_nil ⟨(H.pk [1]), ?_⟩
       refine t_l rfl ?_
       refine t_ost (k := 0) (i := k2) (l := l3) (l' := l3.set (Int.toNat k2) (l3.getD (Int.toNat (k2 - 1)) default)) (val := .agg #[I ((l3.getD (Int.toNat (k2 - 1)) default).spring), I ((l3.getD (Int.toNat (k2 - 1)) default).town)]) (L' := [cOwn (α := Dem) 62 aa (l3.set (Int.toNat k2) (l3.getD (Int.toNat (k2 - 1)) default)), cMem encDm ak B_mem2 (zaa ab ac ae ag ah ai aj)]) H rfl Sz62 (by omega) (by omega) (l3.getD (Int.toNat (k2 - 1)) default) rfl rfl rfl rfl rfl ?_
       intro ez H
       refine s_nil ⟨(H.pk [1]), ?_⟩
       refine t_l rfl ?_
       refine s_val (x_ix (a := aa) (b := I (k2 - 1)) (v := vat aa 2 (Int.toNat (k2 - 1))) rfl rfl (Sl.ix (α := Dem) T57.und T57.size (H.os 0) (by omega) (by omega))) ?_
       refine s_nil ⟨(H.pk [1]), ?_⟩
       refine t_l rfl ?_
       refine t_ost (k := 0) (i := k2 - 1) (l := l3.set (Int.toNat k2) (l3.getD (Int.toNat (k2 - 1)) default)) (l' := (l3.set (Int.toNat k2) (l3.getD (Int.toNat (k2 - 1)) default)).set (Int.toNat (k2 - 1)) (l3.getD (Int.toNat k2) default)) (val := .agg #[I ((l3.getD (Int.toNat k2) default).spring), I ((l3.getD (Int.toNat k2) default).town)]) (L' := [cOwn (α := Dem) 62 aa ((l3.set (Int.toNat k2) (l3.getD (Int.toNat (k2 - 1)) default)).set (Int.toNat (k2 - 1)) (l3.getD (Int.toNat k2) default)), cMem encDm ak B_mem2 (zaa ab ac ae ag ah ai aj)]) H rfl Sz62 (by omega) (by omega) (l3.getD (Int.toNat k2) default) rfl rfl rfl rfl rfl ?_
       intro eA H
       refine s_nil ⟨(H.pk [1]), ?_⟩
       refine t_nil ?_
       refine W.region rfl ?_
       refine zM (I k2) rfl ?_
       refine zR k2 1 (k2 - 1) rfl rfl rfl (by omega) ?_
       refine zA (I (k2 - 1)) rfl ?_
       refine s_nil ?_
       exact ⟨bb, bc, (l3.set (Int.toNat k2) (l3.getD (Int.toNat (k2 - 1)) default)).set (Int.toNat (k2 - 1)) (l3.getD (Int.toNat k2) default), k2 - 1, _, upds_of _ _ ⟨rfl, rfl, rfl, trivial⟩, M.e_inl hM a7, H⟩
      skip
      refine s_val (x_ix (a := aa) (b := I k2) (v := vat aa 2 (Int.toNat k2)) rfl rfl (Sl.ix (α := Dem) T57.und T57.size (H.os 0) (by omega) (by omega))) ?_
      have eB := Sl.cells (H.os 0)
      have eC := Sl.oc (H.os 0)
      refine s_nil ⟨(H.pk [1]), ?_⟩
      refine t_l2 rfl rfl ?_ ?_
      ·skip
       refine s_val (x_ix (a := aa) (b := I (k2 - 1)) (v := vat aa 2 (Int.toNat (k2 - 1))) rfl rfl (Sl.ix (α := Dem) T57.und T57.size (H.os 0) (by omega) (by omega))) ?_
       refine s_nil ⟨(H.pk [1]), ?_⟩
       refine t_l2 rfl rfl ?_ ?_
       ·skip
        refine s_val (x_ld (p := vat aa 2 (Int.toNat (k2 - 1))) (v := .agg #[I ((l3.getD (Int.toNat (k2 - 1)) default).spring), I ((l3.getD (Int.toNat (k2 - 1)) default).town)]) rfl (ld_ag Ag62 Sz62 (At.mono (Dem_atA (H.os 0) (i := k2 - 1) (by omega) (by omega)) (H.ol 0)))) ?_
        refine s_nil ⟨(H.pk [1]), ?_⟩
        refine t_l rfl ?_
        refine s_val (x_ld (p := vat aa 2 (Int.toNat k2)) (v := .agg #[I ((l3.getD (Int.toNat k2) default).spring), I ((l3.getD (Int.toNat k2) default).town)]) rfl (ld_ag Ag62 Sz62 (At.mono (Dem_atA (H.os 0) (i := k2) (by omega) (by omega)) (H.ol 0)))) ?_
        refine s_nil ⟨(H.pk [1]), ?_⟩
        refine t_l rfl ?_
        refine s_val (x_ix (a := aa) (b := I k2) (v := vat aa 2 (Int.toNat k2)) rfl rfl (Sl.ix (α := Dem) T57.und T57.size (H.os 0) (by omega) (by omega))) ?_
        refine s_nil ⟨(H.pk [1]), ?_⟩
        refine t_l rfl ?_
        refine t_ost (k := 0) (i := k2) (l := l3) (l' := l3.set (Int.toNat k2) (l3.getD (Int.toNat (k2 - 1)) default)) (val := .agg #[I ((l3.getD (Int.toNat (k2 - 1)) default).spring), I ((l3.getD (Int.toNat (k2 - 1)) default).town)]) (L' := [cOwn (α := Dem) 62 aa (l3.set (Int.toNat k2) (l3.getD (Int.toNat (k2 - 1)) default)), cMem encDm ak B_mem2 (zaa ab ac ae ag ah ai aj)]) H rfl Sz62 (by omega) (by omega) (l3.getD (Int.toNat (k2 - 1)) default) rfl rfl rfl rfl rfl ?_
        intro eD H
        refine s_nil ⟨(H.pk [1]), ?_⟩
        refine t_l rfl ?_
        refine s_val (x_ix (a := aa) (b := I (k2 - 1)) (v := vat aa 2 (Int.toNat (k2 - 1))) rfl rfl (Sl.ix (α := Dem) T57.und T57.size (H.os 0) (by omega) (by omega))) ?_
        refine s_nil ⟨(H.pk [1]), ?_⟩
        refine t_l rfl ?_
        refine t_ost (k := 0) (i := k2 - 1) (l := l3.set (Int.toNat k2) (l3.getD (Int.toNat (k2 - 1)) default)) (l' := (l3.set (Int.toNat k2) (l3.getD (Int.toNat (k2 - 1)) default)).set (Int.toNat (k2 - 1)) (l3.getD (Int.toNat k2) default)) (val := .agg #[I ((l3.getD (Int.toNat k2) default).spring), I ((l3.getD (Int.toNat k2) default).town)]) (L' := [cOwn (α := Dem) 62 aa ((l3.set (Int.toNat k2) (l3.getD (Int.toNat (k2 - 1)) default)).set (Int.toNat (k2 - 1)) (l3.getD (Int.toNat k2) default)), cMem encDm ak B_mem2 (zaa ab ac ae ag ah ai aj)]) H rfl Sz62 (by omega) (by omega) (l3.getD (Int.toNat k2) default) rfl rfl rfl rfl rfl ?_
        intro eE H
        refine s_nil ⟨(H.pk [1]), ?_⟩
        refine t_nil ?_
        refine W.region rfl ?_
        refine zM (I k2) rfl ?_
        refine zR k2 1 (k2 - 1) rfl rfl rfl (by omega) ?_
        refine zA (I (k2 - 1)) rfl ?_
        refine s_nil ?_
        exact ⟨bb, bc, (l3.set (Int.toNat k2) (l3.getD (Int.toNat (k2 - 1)) default)).set (Int.toNat (k2 - 1)) (l3.getD (Int.toNat k2) default), k2 - 1, _, upds_of _ _ ⟨rfl, rfl, rfl, trivial⟩, M.e_inl hM a7, H⟩
       skip
       refine s_val (x_ld (p := vat aa 2 (Int.toNat k2)) (v := .agg #[I ((l3.getD (Int.toNat k2) default).spring), I ((l3.getD (Int.toNat k2) default).town)]) rfl (ld_ag Ag62 Sz62 (At.mono (Dem_atA (H.os 0) (i := k2) (by omega) (by omega)) (H.ol 0)))) ?_
       refine s_nil ⟨(H.pk [1]), ?_⟩
       refine t_l rfl ?_
       refine s_val (x_ld (p := vat aa 2 (Int.toNat (k2 - 1))) (v := .agg #[I ((l3.getD (Int.toNat (k2 - 1)) default).spring), I ((l3.getD (Int.toNat (k2 - 1)) default).town)]) rfl (ld_ag Ag62 Sz62 (At.mono (Dem_atA (H.os 0) (i := k2 - 1) (by omega) (by omega)) (H.ol 0)))) ?_
       refine s_nil ⟨(H.pk [1]), ?_⟩
       refine t_l rfl ?_
       refine s_val (x_ix (a := aa) (b := I k2) (v := vat aa 2 (Int.toNat k2)) rfl rfl (Sl.ix (α := Dem) T57.und T57.size (H.os 0) (by omega) (by omega))) ?_
       refine s_nil ⟨(H.pk [1]), ?_⟩
       refine t_l rfl ?_
       refine t_ost (k := 0) (i := k2) (l := l3) (l' := l3.set (Int.toNat k2) (l3.getD (Int.toNat (k2 - 1)) default)) (val := .agg #[I ((l3.getD (Int.toNat (k2 - 1)) default).spring), I ((l3.getD (Int.toNat (k2 - 1)) default).town)]) (L' := [cOwn (α := Dem) 62 aa (l3.set (Int.toNat k2) (l3.getD (Int.toNat (k2 - 1)) default)), cMem encDm ak B_mem2 (zaa ab ac ae ag ah ai aj)]) H rfl Sz62 (by omega) (by omega) (l3.getD (Int.toNat (k2 - 1)) default) rfl rfl rfl rfl rfl ?_
       intro eF H
       refine s_nil ⟨(H.pk [1]), ?_⟩
       refine t_l rfl ?_
       refine s_val (x_ix (a := aa) (b := I (k2 - 1)) (v := vat aa 2 (Int.toNat (k2 - 1))) rfl rfl (Sl.ix (α := Dem) T57.und T57.size (H.os 0) (by omega) (by omega))) ?_
       refine s_nil ⟨(H.pk [1]), ?_⟩
       refine t_l rfl ?_
       refine t_ost (k := 0) (i := k2 - 1) (l := l3.set (Int.toNat k2) (l3.getD (Int.toNat (k2 - 1)) default)) (l' := (l3.set (Int.toNat k2) (l3.getD (Int.toNat (k2 - 1)) default)).set (Int.toNat (k2 - 1)) (l3.getD (Int.toNat k2) default)) (val := .agg #[I ((l3.getD (Int.toNat k2) default).spring), I ((l3.getD (Int.toNat k2) default).town)]) (L' := [cOwn (α := Dem) 62 aa ((l3.set (Int.toNat k2) (l3.getD (Int.toNat (k2 - 1)) default)).set (Int.toNat (k2 - 1)) (l3.getD (Int.toNat k2) default)), cMem encDm ak B_mem2 (zaa ab ac ae ag ah ai aj)]) H rfl Sz62 (by omega) (by omega) (l3.getD (Int.toNat k2) default) rfl rfl rfl rfl rfl ?_
       intro eG H
       refine s_nil ⟨(H.pk [1]), ?_⟩
       refine t_nil ?_
       refine W.region rfl ?_
       refine zM (I k2) rfl ?_
       refine zR k2 1 (k2 - 1) rfl rfl rfl (by omega) ?_
       refine zA (I (k2 - 1)) rfl ?_
       refine s_nil ?_
       exact ⟨bb, bc, (l3.set (Int.toNat k2) (l3.getD (Int.toNat (k2 - 1)) default)).set (Int.toNat (k2 - 1)) (l3.getD (Int.toNat k2) default), k2 - 1, _, upds_of _ _ ⟨rfl, rfl, rfl, trivial⟩, M.e_inl hM a7, H⟩
      skip
      refine s_val (x_ld (p := vat aa 2 (Int.toNat k2)) (v := .agg #[I ((l3.getD (Int.toNat k2) default).spring), I ((l3.getD (Int.toNat k2) default).town)]) rfl (ld_ag Ag62 Sz62 (At.mono (Dem_atA (H.os 0) (i := k2) (by omega) (by omega)) (H.ol 0)))) ?_
      refine s_nil ⟨(H.pk [1]), ?_⟩
      refine t_l rfl ?_
      refine s_val (x_ix (a := aa) (b := I (k2 - 1)) (v := vat aa 2 (Int.toNat (k2 - 1))) rfl rfl (Sl.ix (α := Dem) T57.und T57.size (H.os 0) (by omega) (by omega))) ?_
      refine s_nil ⟨(H.pk [1]), ?_⟩
      refine t_l rfl ?_
      refine s_val (x_ld (p := vat aa 2 (Int.toNat (k2 - 1))) (v := .agg #[I ((l3.getD (Int.toNat (k2 - 1)) default).spring), I ((l3.getD (Int.toNat (k2 - 1)) default).town)]) rfl (ld_ag Ag62 Sz62 (At.mono (Dem_atA (H.os 0) (i := k2 - 1) (by omega) (by omega)) (H.ol 0)))) ?_
      refine s_nil ⟨(H.pk [1]), ?_⟩
      refine t_l rfl ?_
      refine s_val (x_ix (a := aa) (b := I k2) (v := vat aa 2 (Int.toNat k2)) rfl rfl (Sl.ix (α := Dem) T57.und T57.size (H.os 0) (by omega) (by omega))) ?_
      refine s_nil ⟨(H.pk [1]), ?_⟩
      refine t_l rfl ?_
      refine t_ost (k := 0) (i := k2) (l := l3) (l' := l3.set (Int.toNat k2) (l3.getD (Int.toNat (k2 - 1)) default)) (val := .agg #[I ((l3.getD (Int.toNat (k2 - 1)) default).spring), I ((l3.getD (Int.toNat (k2 - 1)) default).town)]) (L' := [cOwn (α := Dem) 62 aa (l3.set (Int.toNat k2) (l3.getD (Int.toNat (k2 - 1)) default)), cMem encDm ak B_mem2 (zaa ab ac ae ag ah ai aj)]) H rfl Sz62 (by omega) (by omega) (l3.getD (Int.toNat (k2 - 1)) default) rfl rfl rfl rfl rfl ?_
      intro eH H
      refine s_nil ⟨(H.pk [1]), ?_⟩
      refine t_l rfl ?_
      refine s_val (x_ix (a := aa) (b := I (k2 - 1)) (v := vat aa 2 (Int.toNat (k2 - 1))) rfl rfl (Sl.ix (α := Dem) T57.und T57.size (H.os 0) (by omega) (by omega))) ?_
      refine s_nil ⟨(H.pk [1]), ?_⟩
      refine t_l rfl ?_
      refine t_ost (k := 0) (i := k2 - 1) (l := l3.set (Int.toNat k2) (l3.getD (Int.toNat (k2 - 1)) default)) (l' := (l3.set (Int.toNat k2) (l3.getD (Int.toNat (k2 - 1)) default)).set (Int.toNat (k2 - 1)) (l3.getD (Int.toNat k2) default)) (val := .agg #[I ((l3.getD (Int.toNat k2) default).spring), I ((l3.getD (Int.toNat k2) default).town)]) (L' := [cOwn (α := Dem) 62 aa ((l3.set (Int.toNat k2) (l3.getD (Int.toNat (k2 - 1)) default)).set (Int.toNat (k2 - 1)) (l3.getD (Int.toNat k2) default)), cMem encDm ak B_mem2 (zaa ab ac ae ag ah ai aj)]) H rfl Sz62 (by omega) (by omega) (l3.getD (Int.toNat k2) default) rfl rfl rfl rfl rfl ?_
      intro eI H
      refine s_nil ⟨(H.pk [1]), ?_⟩
      refine t_nil ?_
      refine W.region rfl ?_
      refine zM (I k2) rfl ?_
      refine zR k2 1 (k2 - 1) rfl rfl rfl (by omega) ?_
      refine zA (I (k2 - 1)) rfl ?_
      refine s_nil ?_
      exact ⟨bb, bc, (l3.set (Int.toNat k2) (l3.getD (Int.toNat (k2 - 1)) default)).set (Int.toNat (k2 - 1)) (l3.getD (Int.toNat k2) default), k2 - 1, _, upds_of _ _ ⟨rfl, rfl, rfl, trivial⟩, M.e_inl hM a7, H⟩
     replace hM := M.e_f hM bn
     simp only [qy1, qy2, qy3, qy4, qy5, qy6, ne_eq, qy7] at bn
     refine W.exit ?_
     have c9 := M.e_inr hM a7
     subst c9
     replace hM := cZ
     try dsimp only at hM
     refine W.ret ?_
     have a6 := M.e_pure hM
     exact ⟨_, resE_tmp0 rfl, ⟨l3, B_mem2, a6, rfl, H⟩⟩
    replace hM := M.e_f hM bj
    simp only [qy1, qy2, qy3, qy4, qy5, qy6, ne_eq, qy7] at bj
    refine W.skip ?_
    refine W.seq ?_
    refine W.region rfl ?_
    refine zM (I a) rfl ?_
    refine zM (I b) rfl ?_
    obtain ⟨da, hM⟩ := M.e_grd hM
    simp only [Bool.and_eq_true, decide_eq_true_eq] at da
    refine zR a b (a + b) rfl rfl rfl (by omega) ?_
    obtain ⟨db, hM⟩ := M.e_grd hM
    simp only [Bool.and_eq_true, decide_eq_true_eq] at db
    refine s_val (x_convU (kd := .i64) (a := a + b) Try.underlying3 Try.underlying126 rfl (by omega)) ?_
    refine s_val (x_ushr1 (a := a + b) rfl rfl) ?_
    obtain ⟨dc, hM⟩ := M.e_grd hM
    simp only [Bool.and_eq_true, decide_eq_true_eq] at dc
    refine s_val (x_conv64 (kd := .u64) (a := (a + b) / 2) Try.underlying126 Try.underlying3 rfl (by omega)) ?_
    refine zA (I ((a + b) / 2)) rfl ?_
    refine s_nil ?_
    refine W.seq ?_
    refine W.region rfl ?_
    refine zM (I ((a + b) / 2)) rfl ?_
    refine zM (I m_) rfl ?_
    obtain ⟨dd, hM⟩ := M.e_grd hM
    simp only [Bool.and_eq_true, decide_eq_true_eq] at dd
    refine zR ((a + b) / 2) m_ (((a + b) / 2) + m_) rfl rfl rfl (by omega) ?_
    refine zA (I (((a + b) / 2) + m_)) rfl ?_
    refine s_nil ?_
    refine W.seq ?_
    refine W.region rfl ?_
    refine zA (I 0) rfl ?_
    refine zA (I 0) rfl ?_
    refine s_nil ?_
    refine W.seqJ (fun σ W => ∃ (start : Int) (r4 : Int) (ρ : Env), σ = upds ρ [(0, aa), (1, I a), (2, I m_), (3, I b), (4, .func (.func 71) #[] #[Pq al]), (18, I ((a + b) / 2)), (19, I (((a + b) / 2) + m_)), (20, I start), (21, I r4)] /\ (zau data a m_ b ab ac ae ag ah ai aj ao aq au av aw ax ay (M.fixN zaj n_) start r4).Ends r /\ St w W [cOwn (α := Dem) 62 aa data, cMem encDm ak B_b_cmp2020207 (zaa ab ac ae ag ah ai aj)] R) ?_ ?_
    ·skip
     refine W.seq ?_
     refine W.region rfl ?_
     refine zM (I m_) rfl ?_
     refine zM (I ((a + b) / 2)) rfl ?_
     refine zC m_ ((a + b) / 2) (decide (((a + b) / 2) < m_)) rfl rfl rfl ?_
     refine s_nil ?_
     refine W.cond (decide (((a + b) / 2) < m_)) rfl (fun bo => ?_) (fun bo => ?_)
     ·replace hM := M.e_t hM bo
      simp only [qy1, qy2, qy3, qy4, qy5, qy6, ne_eq, qy7] at bo
      refine W.seq ?_
      refine W.region rfl ?_
      refine zM (I (((a + b) / 2) + m_)) rfl ?_
      refine zM (I b) rfl ?_
      obtain ⟨de, hM⟩ := M.e_grd hM
      simp only [Bool.and_eq_true, decide_eq_true_eq] at de
      refine zR (((a + b) / 2) + m_) b ((((a + b) / 2) + m_) - b) rfl rfl rfl (by omega) ?_
      refine zA (I ((((a + b) / 2) + m_) - b)) rfl ?_
      refine s_nil ?_
      refine W.region rfl ?_
      refine zM (I ((a + b) / 2)) rfl ?_
      refine zA (I ((a + b) / 2)) rfl ?_
      refine s_nil ?_
      exact ⟨(((a + b) / 2) + m_) - b, (a + b) / 2, _, upds_of _ _ ⟨rfl, rfl, rfl, rfl, rfl, rfl, rfl, rfl, rfl, trivial⟩, hM, H⟩
     replace hM := M.e_f hM bo
     simp only [qy1, qy2, qy3, qy4, qy5, qy6, ne_eq, qy7] at bo
     refine W.seq ?_
     refine W.region rfl ?_
     refine zM (I a) rfl ?_
     refine zA (I a) rfl ?_
     refine s_nil ?_
     refine W.region rfl ?_
     refine zM (I m_) rfl ?_
     refine zA (I m_) rfl ?_
     refine s_nil ?_
     exact ⟨a, m_, _, upds_of _ _ ⟨rfl, rfl, rfl, rfl, rfl, rfl, rfl, rfl, rfl, trivial⟩, hM, H⟩
    rintro _ eJ ⟨start, r4, ρ, rfl, hM, H⟩
    unfold zau at hM
    refine W.seq ?_
    refine W.region rfl ?_
    refine zM (I (((a + b) / 2) + m_)) rfl ?_
    obtain ⟨dg, hM⟩ := M.e_grd hM
    simp only [Bool.and_eq_true, decide_eq_true_eq] at dg
    refine zR (((a + b) / 2) + m_) 1 ((((a + b) / 2) + m_) - 1) rfl rfl rfl (by omega) ?_
    refine zA (I ((((a + b) / 2) + m_) - 1)) rfl ?_
    refine s_nil ?_
    refine W.seq ?_
    refine W.block ?_
    obtain ⟨di, bZ, dk⟩ := M.e_bind hM
    obtain ⟨bQ, bZ⟩ := M.e_iter bZ
    refine W.loop (fun m σ W => ∃ (start2 : Int) (r6 : Int) (B_mem3 : Base) (ρ : Env), σ = upds ρ [(0, aa), (1, I a), (2, I m_), (3, I b), (4, .func (.func 71) #[] #[Pq al]), (18, I ((a + b) / 2)), (19, I (((a + b) / 2) + m_)), (20, I start2), (21, I r6), (22, I ((((a + b) / 2) + m_) - 1))] /\ M.iterN (zaK data a m_ b ab ac ae ag ah ai aj ao aq au av aw ax ay) m (start2, r6) = some di /\ St w W [cOwn (α := Dem) 62 aa data, cMem encDm ak B_mem3 (zaa ab ac ae ag ah ai aj)] R) ?_ ?_
    ·exact ⟨_, start, r4, B_b_cmp2020207, _, upds_of _ _ ⟨rfl, rfl, rfl, rfl, rfl, rfl, rfl, rfl, rfl, rfl, trivial⟩, bZ, H⟩
    rintro eK σ eL ⟨start2, r6, B_mem3, ρ, rfl, cm, H⟩
    obtain ⟨cn, co, eM, hM, b4⟩ := M.e_iterN cm
    simp only [zaK] at hM
    clear cm
    refine W.seq ?_
    refine W.seq ?_
    refine W.region rfl ?_
    refine zM (I start2) rfl ?_
    refine zM (I r6) rfl ?_
    refine zC start2 r6 (decide (start2 < r6)) rfl rfl rfl ?_
    refine s_nil ?_
    refine W.cond (decide (start2 < r6)) rfl (fun bp => ?_) (fun bp => ?_)
    ·replace hM := M.e_t hM bp
     simp only [qy1, qy2, qy3, qy4, qy5, qy6, ne_eq, qy7] at bp
     refine W.skip ?_
     refine W.block ?_
     refine W.seq ?_
     refine W.region rfl ?_
     refine zM (I start2) rfl ?_
     refine zM (I r6) rfl ?_
     obtain ⟨dm, hM⟩ := M.e_grd hM
     simp only [Bool.and_eq_true, decide_eq_true_eq] at dm
     refine zR start2 r6 (start2 + r6) rfl rfl rfl (by omega) ?_
     obtain ⟨dq, hM⟩ := M.e_grd hM
     simp only [Bool.and_eq_true, decide_eq_true_eq] at dq
     refine s_val (x_convU (kd := .i64) (a := start2 + r6) Try.underlying3 Try.underlying126 rfl (by omega)) ?_
     refine s_val (x_ushr1 (a := start2 + r6) rfl rfl) ?_
     obtain ⟨dr, hM⟩ := M.e_grd hM
     simp only [Bool.and_eq_true, decide_eq_true_eq] at dr
     refine s_val (x_conv64 (kd := .u64) (a := (start2 + r6) / 2) Try.underlying126 Try.underlying3 rfl (by omega)) ?_
     refine zA (I ((start2 + r6) / 2)) rfl ?_
     refine s_nil ?_
     refine W.seq ?_
     refine W.draw (fun W => St w W [cOwn (α := Dem) 62 aa data] R) [(0, true), (1, true), (2, true), (3, true), (4, true), (5, true), (6, true), (7, true), (8, true), (9, true), (10, true), (11, false), (12, true), (13, true)] mixed (by decide +kernel) rfl ?_
     intro eN az
     replace H := H.ext az
     clear az
     refine ⟨(H.pk [0]), ?_⟩
     refine d_q rfl (fun w' H => x_mv (v := .func (.func 71) #[] #[Pq al]) rfl) ?_
     refine d_q rfl (fun w' H => x_mv (v := aa) rfl) ?_
     refine d_q rfl (fun w' H => x_mv (v := I ((((a + b) / 2) + m_) - 1)) rfl) ?_
     refine d_q rfl (fun w' H => x_mv (v := I ((start2 + r6) / 2)) rfl) ?_
     obtain ⟨dt, hM⟩ := M.e_grd hM
     simp only [Bool.and_eq_true, decide_eq_true_eq] at dt
     refine d_q rfl (fun w' H => x_ari (a := (((a + b) / 2) + m_) - 1) (b := (start2 + r6) / 2) (r := ((((a + b) / 2) + m_) - 1) - ((start2 + r6) / 2)) rfl rfl rfl (by omega)) ?_
     obtain ⟨du, hM⟩ := M.e_grd hM
     simp only [Bool.and_eq_true, decide_eq_true_eq] at du
     refine d_q rfl (fun w' H => x_ix (a := aa) (b := I (((((a + b) / 2) + m_) - 1) - ((start2 + r6) / 2))) (v := vat aa 2 (Int.toNat (((((a + b) / 2) + m_) - 1) - ((start2 + r6) / 2)))) rfl rfl (Sl.ix (α := Dem) T57.und T57.size (H.os 0) (by omega) (by omega))) ?_
     refine d_q rfl (fun w' H => x_ld (p := vat aa 2 (Int.toNat (((((a + b) / 2) + m_) - 1) - ((start2 + r6) / 2)))) (v := .agg #[I ((data.getD (Int.toNat (((((a + b) / 2) + m_) - 1) - ((start2 + r6) / 2))) default).spring), I ((data.getD (Int.toNat (((((a + b) / 2) + m_) - 1) - ((start2 + r6) / 2))) default).town)]) rfl (ld_ag Ag62 Sz62 (At.mono (Dem_atA (H.os 0) (i := ((((a + b) / 2) + m_) - 1) - ((start2 + r6) / 2)) (by omega) (by omega)) (H.ol 0)))) ?_
     refine d_q rfl (fun w' H => x_mv (v := aa) rfl) ?_
     refine d_q rfl (fun w' H => x_mv (v := I ((start2 + r6) / 2)) rfl) ?_
     obtain ⟨dv, hM⟩ := M.e_grd hM
     simp only [Bool.and_eq_true, decide_eq_true_eq] at dv
     refine d_q rfl (fun w' H => x_ix (a := aa) (b := I ((start2 + r6) / 2)) (v := vat aa 2 (Int.toNat ((start2 + r6) / 2))) rfl rfl (Sl.ix (α := Dem) T57.und T57.size (H.os 0) (by omega) (by omega))) ?_
     refine d_q rfl (fun w' H => x_ld (p := vat aa 2 (Int.toNat ((start2 + r6) / 2))) (v := .agg #[I ((data.getD (Int.toNat ((start2 + r6) / 2)) default).spring), I ((data.getD (Int.toNat ((start2 + r6) / 2)) default).town)]) rfl (ld_ag Ag62 Sz62 (At.mono (Dem_atA (H.os 0) (i := (start2 + r6) / 2) (by omega) (by omega)) (H.ol 0)))) ?_
     refine d_l rfl ?_
     obtain ⟨eO, dw, hM⟩ := M.e_bind hM
     refine s_callv (f := 71) rfl cf71 [.agg #[I ((data.getD (Int.toNat (((((a + b) / 2) + m_) - 1) - ((start2 + r6) / 2))) default).spring), I ((data.getD (Int.toNat (((((a + b) / 2) + m_) - 1) - ((start2 + r6) / 2))) default).town)], .agg #[I ((data.getD (Int.toNat ((start2 + r6) / 2)) default).spring), I ((data.getD (Int.toNat ((start2 + r6) / 2)) default).town)]] rfl (zb4 (data.getD (Int.toNat (((((a + b) / 2) + m_) - 1) - ((start2 + r6) / 2))) default) (data.getD (Int.toNat ((start2 + r6) / 2)) default) ab ac ae ag ah ai aj ao aq au av aw ax ay (aA.app _) aB (aC.app _) aD (aE.app _) aF (aG.app _) aH (aI.app _) aJ (aK.app _) (aL.app _) (aM.app _) aN (aO.app _) aP (aQ.app _) aR (aS.app _) aT (aU.app _) aV (aW.app _) (aX.app _) (aY.app _) dw _ ((H.pk [1, 0]).gt 1)) ?_
     rintro vq eP ⟨r5, cp, dx, hvq, am⟩
     subst dx
     subst vq
     try dsimp only at hM
     replace H := H.pk [1, 0] |>.bk am
     clear am
     refine s_nil ⟨(H.pk [1]), ?_⟩
     refine d_q rfl (fun w' H => x_cmp (kd := .i64) (a := r5) (b := 0) (r := decide (r5 < 0)) rfl rfl rfl) ?_
     refine d_q rfl (fun w' H => x_not (b := decide (r5 < 0)) rfl) ?_
     refine d_nil ?_
     refine W.cond (!(decide (r5 < 0))) rfl (fun b5 => ?_) (fun b5 => ?_)
     ·replace hM := M.e_t hM b5
      refine W.region rfl ?_
      refine zM (I ((start2 + r6) / 2)) rfl ?_
      refine zR ((start2 + r6) / 2) 1 (((start2 + r6) / 2) + 1) rfl rfl rfl (by omega) ?_
      refine zA (I (((start2 + r6) / 2) + 1)) rfl ?_
      refine s_nil ?_
      exact ⟨cn, co, ((start2 + r6) / 2) + 1, r6, cp, _, upds_of _ _ ⟨rfl, rfl, rfl, rfl, rfl, rfl, rfl, rfl, rfl, rfl, trivial⟩, M.e_inl hM b4, (H.pk [1, 0])⟩
     replace hM := M.e_f hM b5
     refine W.region rfl ?_
     refine zM (I ((start2 + r6) / 2)) rfl ?_
     refine zA (I ((start2 + r6) / 2)) rfl ?_
     refine s_nil ?_
     exact ⟨cn, co, start2, (start2 + r6) / 2, cp, _, upds_of _ _ ⟨rfl, rfl, rfl, rfl, rfl, rfl, rfl, rfl, rfl, rfl, trivial⟩, M.e_inl hM b4, (H.pk [1, 0])⟩
    replace hM := M.e_f hM bp
    simp only [qy1, qy2, qy3, qy4, qy5, qy6, ne_eq, qy7] at bp
    refine W.exit ?_
    have dy := M.e_inr hM b4
    subst dy
    replace hM := dk
    try dsimp only at hM
    refine W.seq ?_
    refine W.region rfl ?_
    refine zM (I (((a + b) / 2) + m_)) rfl ?_
    refine zM (I start2) rfl ?_
    obtain ⟨dz, hM⟩ := M.e_grd hM
    simp only [Bool.and_eq_true, decide_eq_true_eq] at dz
    refine zR (((a + b) / 2) + m_) start2 ((((a + b) / 2) + m_) - start2) rfl rfl rfl (by omega) ?_
    refine zA (I ((((a + b) / 2) + m_) - start2)) rfl ?_
    refine s_nil ?_
    refine W.seqJ (fun σ W => ∃ (l5 : List Dem) (ρ : Env), σ = upds ρ [(0, aa), (1, I a), (3, I b), (4, .func (.func 71) #[] #[Pq al]), (18, I ((a + b) / 2)), (20, I start2), (24, I ((((a + b) / 2) + m_) - start2))] /\ (zaC a m_ b ab ac ae ag ah ai aj ao aq au av aw ax ay (M.fixN zaj n_) start2 l5).Ends r /\ St w W [cOwn (α := Dem) 62 aa l5, cMem encDm ak B_mem3 (zaa ab ac ae ag ah ai aj)] R) ?_ ?_
    ·skip
     refine W.seq ?_
     refine W.region rfl ?_
     refine zM (I start2) rfl ?_
     refine zM (I m_) rfl ?_
     refine zC start2 m_ (decide (start2 < m_)) rfl rfl rfl ?_
     refine zM (B (decide (start2 < m_))) rfl ?_
     refine g_val (decide (start2 < m_)) (gy_t rfl) (fun hg => x_mv (v := I m_) rfl) ?_
     refine g_val (decide (start2 < m_)) (gy_t rfl) (fun hg => x_mv (v := I ((((a + b) / 2) + m_) - start2)) rfl) ?_
     refine g_val (decide (start2 < m_)) (gy_t rfl) (fun hg => x_cmp (kd := .i64) (a := m_) (b := (((a + b) / 2) + m_) - start2) (r := decide (m_ < ((((a + b) / 2) + m_) - start2))) (gd_of (c := decide (start2 < m_)) hg (I m_)) (gd_of (c := decide (start2 < m_)) hg (I ((((a + b) / 2) + m_) - start2))) rfl) ?_
     refine s_val (x_pand (b := decide (start2 < m_)) (r := decide (m_ < ((((a + b) / 2) + m_) - start2))) rfl (fun hb => gd_of (c := decide (start2 < m_)) (by first | exact hb | (rw [hb]; rfl) | simp_all) (B (decide (m_ < ((((a + b) / 2) + m_) - start2))))) rfl) ?_
     refine s_nil ?_
     refine W.cond ((decide (start2 < m_)) && (decide (m_ < ((((a + b) / 2) + m_) - start2)))) rfl (fun b6 => ?_) (fun b6 => ?_)
     ·replace hM := M.e_t hM b6
      refine W.region rfl ?_
      refine zM aa rfl ?_
      refine zM (I start2) rfl ?_
      refine zM (I m_) rfl ?_
      refine zM (I ((((a + b) / 2) + m_) - start2)) rfl ?_
      refine zM (.func (.func 71) #[] #[Pq al]) rfl ?_
      obtain ⟨eQ, dA, hM⟩ := M.e_bind hM
      refine s_call cf104 [aa, I start2, I m_, I ((((a + b) / 2) + m_) - start2), .func (.func 71) #[] #[Pq al]] rfl (zdw data start2 m_ ((((a + b) / 2) + m_) - start2) ab ac ae ag ah ai aj ao aq au av aw ax ay (aA.app _) aB (aC.app _) aD (aE.app _) aF (aG.app _) aH (aI.app _) aJ (aK.app _) (aL.app _) (aM.app _) aN (aO.app _) aP (aQ.app _) aR (aS.app _) aT (aU.app _) aV (aW.app _) (aX.app _) (aY.app _) dA _ (H.gt 1)) ?_
      rintro vq eR ⟨l_data, dB, hvq, am⟩
      subst dB
      subst vq
      try dsimp only at hM
      replace H := H.bk am
      clear am
      refine s_nil ?_
      exact ⟨l_data, _, upds_of _ _ ⟨rfl, rfl, rfl, rfl, rfl, rfl, rfl, trivial⟩, hM, H⟩
     replace hM := M.e_f hM b6
     refine W.skip ?_
     exact ⟨data, _, upds_of _ _ ⟨rfl, rfl, rfl, rfl, rfl, rfl, rfl, trivial⟩, hM, H⟩
    rintro _ eS ⟨l5, ρ, rfl, hM, H⟩
    unfold zaC at hM
    refine W.seqJ (fun σ W => ∃ (l6 : List Dem) (B_mem4 : Base) (ρ : Env), σ = upds ρ [(0, aa), (3, I b), (4, .func (.func 71) #[] #[Pq al]), (18, I ((a + b) / 2)), (24, I ((((a + b) / 2) + m_) - start2))] /\ (zax a m_ b ab ac ae ag ah ai aj ao aq au av aw ax ay (M.fixN zaj n_) start2 l6).Ends r /\ St w W [cOwn (α := Dem) 62 aa l6, cMem encDm ak B_mem4 (zaa ab ac ae ag ah ai aj)] R) ?_ ?_
    ·skip
     refine W.seq ?_
     refine W.region rfl ?_
     refine zM (I a) rfl ?_
     refine zM (I start2) rfl ?_
     refine zC a start2 (decide (a < start2)) rfl rfl rfl ?_
     refine zM (B (decide (a < start2))) rfl ?_
     refine g_val (decide (a < start2)) (gy_t rfl) (fun hg => x_mv (v := I start2) rfl) ?_
     refine g_val (decide (a < start2)) (gy_t rfl) (fun hg => x_mv (v := I ((a + b) / 2)) rfl) ?_
     refine g_val (decide (a < start2)) (gy_t rfl) (fun hg => x_cmp (kd := .i64) (a := start2) (b := (a + b) / 2) (r := decide (start2 < ((a + b) / 2))) (gd_of (c := decide (a < start2)) hg (I start2)) (gd_of (c := decide (a < start2)) hg (I ((a + b) / 2))) rfl) ?_
     refine s_val (x_pand (b := decide (a < start2)) (r := decide (start2 < ((a + b) / 2))) rfl (fun hb => gd_of (c := decide (a < start2)) (by first | exact hb | (rw [hb]; rfl) | simp_all) (B (decide (start2 < ((a + b) / 2))))) rfl) ?_
     refine s_nil ?_
     refine W.cond ((decide (a < start2)) && (decide (start2 < ((a + b) / 2)))) rfl (fun b7 => ?_) (fun b7 => ?_)
     ·replace hM := M.e_t hM b7
      refine W.region rfl ?_
      refine zM aa rfl ?_
      refine zM (I a) rfl ?_
      refine zM (I start2) rfl ?_
      refine zM (I ((a + b) / 2)) rfl ?_
      refine zM (.func (.func 71) #[] #[Pq al]) rfl ?_
      obtain ⟨eT, dC, hM⟩ := M.e_bind hM
      refine s_call cf92 [aa, I a, I start2, I ((a + b) / 2), .func (.func 71) #[] #[Pq al]] rfl (ih l5 a start2 ((a + b) / 2) ab ac ae ag ah ai aj ao aq au av aw ax ay (aA.app _) aB (aC.app _) aD (aE.app _) aF (aG.app _) aH (aI.app _) aJ (aK.app _) (aL.app _) (aM.app _) aN (aO.app _) aP (aQ.app _) aR (aS.app _) aT (aU.app _) aV (aW.app _) (aX.app _) (aY.app _) dC _ (H.gt 0)) ?_
      rintro vq eU ⟨l_data2, dD, dE, hvq, am⟩
      subst dE
      subst vq
      try dsimp only at hM
      replace H := H.bk am
      clear am
      refine s_nil ?_
      exact ⟨l_data2, dD, _, upds_of _ _ ⟨rfl, rfl, rfl, rfl, rfl, trivial⟩, hM, H⟩
     replace hM := M.e_f hM b7
     refine W.skip ?_
     exact ⟨l5, B_mem3, _, upds_of _ _ ⟨rfl, rfl, rfl, rfl, rfl, trivial⟩, hM, H⟩
    rintro _ eV ⟨l6, B_mem4, ρ, rfl, hM, H⟩
    unfold zax at hM
    refine W.seq ?_
    refine W.region rfl ?_
    refine zM (I ((a + b) / 2)) rfl ?_
    refine zM (I ((((a + b) / 2) + m_) - start2)) rfl ?_
    refine zC ((a + b) / 2) ((((a + b) / 2) + m_) - start2) (decide (((a + b) / 2) < ((((a + b) / 2) + m_) - start2))) rfl rfl rfl ?_
    refine zM (B (decide (((a + b) / 2) < ((((a + b) / 2) + m_) - start2)))) rfl ?_
    refine g_val (decide (((a + b) / 2) < ((((a + b) / 2) + m_) - start2))) (gy_t rfl) (fun hg => x_mv (v := I ((((a + b) / 2) + m_) - start2)) rfl) ?_
    refine g_val (decide (((a + b) / 2) < ((((a + b) / 2) + m_) - start2))) (gy_t rfl) (fun hg => x_mv (v := I b) rfl) ?_
    refine g_val (decide (((a + b) / 2) < ((((a + b) / 2) + m_) - start2))) (gy_t rfl) (fun hg => x_cmp (kd := .i64) (a := (((a + b) / 2) + m_) - start2) (b := b) (r := decide (((((a + b) / 2) + m_) - start2) < b)) (gd_of (c := decide (((a + b) / 2) < ((((a + b) / 2) + m_) - start2))) hg (I ((((a + b) / 2) + m_) - start2))) (gd_of (c := decide (((a + b) / 2) < ((((a + b) / 2) + m_) - start2))) hg (I b)) rfl) ?_
    refine s_val (x_pand (b := decide (((a + b) / 2) < ((((a + b) / 2) + m_) - start2))) (r := decide (((((a + b) / 2) + m_) - start2) < b)) rfl (fun hb => gd_of (c := decide (((a + b) / 2) < ((((a + b) / 2) + m_) - start2))) (by first | exact hb | (rw [hb]; rfl) | simp_all) (B (decide (((((a + b) / 2) + m_) - start2) < b)))) rfl) ?_
    refine s_nil ?_
    refine W.cond ((decide (((a + b) / 2) < ((((a + b) / 2) + m_) - start2))) && (decide (((((a + b) / 2) + m_) - start2) < b))) rfl (fun b8 => ?_) (fun b8 => ?_)
    ·replace hM := M.e_t hM b8
     refine W.region rfl ?_
     refine zM aa rfl ?_
     refine zM (I ((a + b) / 2)) rfl ?_
     refine zM (I ((((a + b) / 2) + m_) - start2)) rfl ?_
     refine zM (I b) rfl ?_
     refine zM (.func (.func 71) #[] #[Pq al]) rfl ?_
     obtain ⟨eW, dF, hM⟩ := M.e_bind hM
     refine s_call cf92 [aa, I ((a + b) / 2), I ((((a + b) / 2) + m_) - start2), I b, .func (.func 71) #[] #[Pq al]] rfl (ih l6 ((a + b) / 2) ((((a + b) / 2) + m_) - start2) b ab ac ae ag ah ai aj ao aq au av aw ax ay (aA.app _) aB (aC.app _) aD (aE.app _) aF (aG.app _) aH (aI.app _) aJ (aK.app _) (aL.app _) (aM.app _) aN (aO.app _) aP (aQ.app _) aR (aS.app _) aT (aU.app _) aV (aW.app _) (aX.app _) (aY.app _) dF _ (H.gt 0)) ?_
     rintro vq eX ⟨l_data3, dG, dH, hvq, am⟩
     subst dH
     subst vq
     try dsimp only at hM
     replace H := H.bk am
     clear am
     refine s_nil ?_
     have a6 := M.e_pure hM
     exact ⟨_, resE_tmp0 rfl, ⟨l_data3, dG, a6, rfl, H⟩⟩
    replace hM := M.e_f hM b8
    refine W.skip ?_
    have a6 := M.e_pure hM
    exact ⟨_, resE_tmp0 rfl, ⟨l6, B_mem4, a6, rfl, H⟩⟩
theorem zcR {R : List Chunk} {aj : Value} {ax : Nat} {ay : Nat} {az : Nat} {aA : Cells} {aB : Value} {aC : Cells} {aD : Value} {aE : Cells} {aF : Value} {aG : Cells} {aH : Value} {aI : Cells} {aJ : Value} {ak : Nat} {B_b_cmp2020207 : Base} {aK : Nat} {aL : Nat} {aM : Cells} {aN : Value} {aO : Cells} {aP : Value} {aQ : Cells} {aR : Value} {aS : Cells} {aT : Value} {aU : Cells} {aV : Value} {aW : Nat} (data : List Dem) (a : Int) (m_ : Int) (b : Int) (aa : List Int) (ab : List Span) (ac : List Int) (ae : List Town) (ag : Int) (ah : Int) (ai : List Flood) (al : List Int) (am : List Span) (ao : List Int) (aq : List Town) (au : Int) (av : Int) (aw : List Flood) (aX : Reads R aA) (aY : Sl aA aB aa) (aZ : Reads R aC) (a6 : Sl aC aD ab) (a7 : Reads R aE) (a8 : Sl aE aF ac) (ba : Reads R aG) (bb : Sl aG aH ae) (bc : Reads R aI) (bf : Sl aI aJ ai) (bg : Has R (cBlk az [aB, aD, aF, aH, I ag, I ah, aJ, .map (some ak)] 86)) (bh : Has R (cBlk ay [.func (.func 54) #[Pq az] #[]] 106)) (bi : Reads R aM) (bj : Sl aM aN al) (bm : Reads R aO) (bn : Sl aO aP am) (bo : Reads R aQ) (bp : Sl aQ aR ao) (bq : Reads R aS) (br : Sl aS aT aq) (bt : Reads R aU) (bu : Sl aU aV aw) (bv : Has R (cBlk aL [aN, aP, aR, aT, I au, I av, aV, .map (some aW)] 86)) (bw : Has R (cBlk aK [Pq aL] 72)) (bx : Has R (cBlk ax [.func (.func 69) #[] #[Pq ay, Pq aK]] 114)) {r : (List Dem)} (hM : (zbD data a m_ b aa ab ac ae ag ah ai al am ao aq au av aw).Ends r) (w : World) (H : St w w [cOwn (α := Dem) 62 aj data, cMem encDm ak B_b_cmp2020207 (zaa aa ab ac ae ag ah ai)] R) : Ret Try.prog 92 #[aj, I a, I m_, I b, .func (.func 71) #[] #[Pq ax]] w fun v w' => ∃ (y0 : List Dem) (bz : Base), y0 = r /\ v = .tuple #[] /\ St w w' [cOwn (α := Dem) 62 aj y0, cMem encDm ak bz (zaa aa ab ac ae ag ah ai)] R := by
  obtain ⟨n_, hM⟩ := M.e_fix hM
  exact zdp n_ data a m_ b aa ab ac ae ag ah ai al am ao aq au av aw aX aY aZ a6 a7 a8 ba bb bc bf bg bh bi bj bm bn bo bp bq br bt bu bv bw bx hM w H

def zbP (n : Int) (aa : List Int) (ab : List Span) (ac : List Int) (ae : List Town) (ag : Int) (ah : Int) (ai : List Flood) (aj : List Int) (ak : List Span) (al : List Int) (am : List Town) (ao : Int) (aq : Int) (au : List Flood) : ((List Dem) × Int × Int) -> M (((List Dem) × Int × Int) ⊕ ((List Dem) × Int × (List Dem))) := fun (l, a, b) =>
  bif decide (b <= n) then (
  M.bind (zbm l a b aa ab ac ae ag ah ai aj ak al am ao aq au) fun l_data =>
  M.grd (decide ((-9223372036854775808 : Int) <= (b + 20)) && decide ((b + 20) <= (9223372036854775807 : Int))) <|
  M.pure (.inl (l_data, b, b + 20)))
  else (
  M.pure (.inr (l, a, l)))
def zb6 (n : Int) (aa : List Int) (ab : List Span) (ac : List Int) (ae : List Town) (ag : Int) (ah : Int) (ai : List Flood) (aj : List Int) (ak : List Span) (al : List Int) (am : List Town) (ao : Int) (aq : Int) (au : List Flood) (blockSize : Int) : ((List Dem) × Int × Int) -> M (((List Dem) × Int × Int) ⊕ ((List Dem) × Int × (List Dem))) := fun (l4, a3, b2) =>
  bif decide (b2 <= n) then (
  M.grd (decide ((-9223372036854775808 : Int) <= (a3 + blockSize)) && decide ((a3 + blockSize) <= (9223372036854775807 : Int))) <|
  M.bind (zbD l4 a3 (a3 + blockSize) b2 aa ab ac ae ag ah ai aj ak al am ao aq au) fun l_data3 =>
  M.grd (decide ((-9223372036854775808 : Int) <= (b2 + (2 * blockSize))) && decide ((b2 + (2 * blockSize)) <= (9223372036854775807 : Int))) <|
  M.pure (.inl (l_data3, b2, b2 + (2 * blockSize))))
  else (
  M.pure (.inr (l4, a3, l4)))
def zbX (n : Int) (aa : List Int) (ab : List Span) (ac : List Int) (ae : List Town) (ag : Int) (ah : Int) (ai : List Flood) (aj : List Int) (ak : List Span) (al : List Int) (am : List Town) (ao : Int) (aq : Int) (au : List Flood) : ((List Dem) × Int) -> M (((List Dem) × Int) ⊕ (List Dem)) := fun (l8, blockSize) =>
  bif decide (blockSize < n) then (
  M.grd (decide ((-9223372036854775808 : Int) <= (2 * blockSize)) && decide ((2 * blockSize) <= (9223372036854775807 : Int))) <|
  M.bind (M.iter (zb6 n aa ab ac ae ag ah ai aj ak al am ao aq au blockSize) (l8, 0, 2 * blockSize)) fun (l5, a4, l6) =>
  M.grd (decide ((-9223372036854775808 : Int) <= (a4 + blockSize)) && decide ((a4 + blockSize) <= (9223372036854775807 : Int))) <|
  bif decide ((a4 + blockSize) < n) then (
  M.bind (zbD l6 a4 (a4 + blockSize) n aa ab ac ae ag ah ai aj ak al am ao aq au) fun l_data4 =>
  M.grd (decide ((-9223372036854775808 : Int) <= (blockSize * 2)) && decide ((blockSize * 2) <= (9223372036854775807 : Int))) <|
  M.pure (.inl (l_data4, blockSize * 2)))
  else (
  M.grd (decide ((-9223372036854775808 : Int) <= (blockSize * 2)) && decide ((blockSize * 2) <= (9223372036854775807 : Int))) <|
  M.pure (.inl (l6, blockSize * 2))))
  else (
  M.pure (.inr l8))
def zbY (data : List Dem) (n : Int) (aa : List Int) (ab : List Span) (ac : List Int) (ae : List Town) (ag : Int) (ah : Int) (ai : List Flood) (aj : List Int) (ak : List Span) (al : List Int) (am : List Town) (ao : Int) (aq : Int) (au : List Flood) : M (List Dem) :=
  M.bind (M.iter (zbP n aa ab ac ae ag ah ai aj ak al am ao aq au) (data, 0, 20)) fun (l2, a2, l3) =>
  M.bind (zbm l3 a2 n aa ab ac ae ag ah ai aj ak al am ao aq au) fun l_data2 =>
  M.bind (M.iter (zbX n aa ab ac ae ag ah ai aj ak al am ao aq au) (l_data2, 20)) fun l9 =>
  M.pure l9
theorem zdB {R : List Chunk} {aa : Value} {ak : Nat} {bf : Nat} {bg : Nat} {bh : Cells} {bi : Value} {bj : Cells} {bm : Value} {bn : Cells} {bo : Value} {bp : Cells} {bq : Value} {br : Cells} {bt : Value} {ay : Nat} {B_b_cmp2020207 : Base} {bu : Nat} {bv : Nat} {bw : Cells} {bx : Value} {bz : Cells} {bA : Value} {bB : Cells} {bC : Value} {bD : Cells} {bE : Value} {bF : Cells} {bG : Value} {bP : Nat} (data : List Dem) (n : Int) (ab : List Int) (ac : List Span) (ae : List Int) (ag : List Town) (ah : Int) (ai : Int) (aj : List Flood) (am : List Int) (ao : List Span) (aq : List Int) (au : List Town) (av : Int) (aw : Int) (ax : List Flood) (aD : Reads R bh) (aE : Sl bh bi ab) (aF : Reads R bj) (aG : Sl bj bm ac) (aH : Reads R bn) (aI : Sl bn bo ae) (aJ : Reads R bp) (aK : Sl bp bq ag) (aL : Reads R br) (aM : Sl br bt aj) (aN : Has R (cBlk bg [bi, bm, bo, bq, I ah, I ai, bt, .map (some ay)] 86)) (aO : Has R (cBlk bf [.func (.func 54) #[Pq bg] #[]] 106)) (aP : Reads R bw) (aQ : Sl bw bx am) (aR : Reads R bz) (aS : Sl bz bA ao) (aT : Reads R bB) (aU : Sl bB bC aq) (aV : Reads R bD) (aW : Sl bD bE au) (aX : Reads R bF) (aY : Sl bF bG ax) (aZ : Has R (cBlk bv [bx, bA, bC, bE, I av, I aw, bG, .map (some bP)] 86)) (a6 : Has R (cBlk bu [Pq bv] 72)) (a7 : Has R (cBlk ak [.func (.func 69) #[] #[Pq bf, Pq bu]] 114)) {r : (List Dem)} (hM : (zbY data n ab ac ae ag ah ai aj am ao aq au av aw ax).Ends r) (w : World) (H : St w w [cOwn (α := Dem) 62 aa data, cMem encDm ay B_b_cmp2020207 (zaa ab ac ae ag ah ai aj)] R) : Ret Try.prog 86 #[aa, I n, .func (.func 71) #[] #[Pq ak]] w fun v w' => ∃ (y0 : List Dem) (bQ : Base), y0 = r /\ v = .tuple #[] /\ St w w' [cOwn (α := Dem) 62 aa y0, cMem encDm ay bQ (zaa ab ac ae ag ah ai aj)] R := by
 refine ret_of_W Try.func86 rfl rfl rfl ?_
 refine W.seq ?_
 refine W.region rfl ?_
 refine zA (I 20) rfl ?_
 refine s_nil ?_
 refine W.seq ?_
 refine W.region rfl ?_
 refine zM (I 20) rfl ?_
 refine zA (I 0) rfl ?_
 refine zA (I 20) rfl ?_
 refine s_nil ?_
 refine W.seq ?_
 refine W.block ?_
 obtain ⟨bR, a8, bS⟩ := M.e_bind hM
 obtain ⟨bH, a8⟩ := M.e_iter a8
 refine W.loop (fun m σ W => ∃ (l : List Dem) (a : Int) (b : Int) (B_mem : Base) (ρ : Env), σ = upds ρ [(0, aa), (1, I n), (2, .func (.func 71) #[] #[Pq ak]), (6, I 20), (7, I a), (8, I b)] /\ M.iterN (zbP n ab ac ae ag ah ai aj am ao aq au av aw ax) m (l, a, b) = some bR /\ St w W [cOwn (α := Dem) 62 aa l, cMem encDm ay B_mem (zaa ab ac ae ag ah ai aj)] R) ?_ ?_
 ·exact ⟨_, data, 0, 20, B_b_cmp2020207, _, upds_of _ _ ⟨rfl, rfl, rfl, rfl, rfl, rfl, trivial⟩, a8, H⟩
 rintro cy σ cz ⟨l, a, b, B_mem, ρ, rfl, bI, H⟩
 obtain ⟨bT, bU, cA, hM, bJ⟩ := M.e_iterN bI
 simp only [zbP] at hM
 clear bI
 refine W.seq ?_
 refine W.seq ?_
 refine W.region rfl ?_
 refine zM (I b) rfl ?_
 refine zM (I n) rfl ?_
 refine zC b n (decide (b <= n)) rfl rfl rfl ?_
 refine s_nil ?_
 refine W.cond (decide (b <= n)) rfl (fun az => ?_) (fun az => ?_)
 ·replace hM := M.e_t hM az
  simp only [qy1, qy2, qy3, qy4, qy5, qy6, ne_eq, qy7] at az
  refine W.skip ?_
  refine W.block ?_
  refine W.seq ?_
  refine W.region rfl ?_
  refine zM aa rfl ?_
  refine zM (I a) rfl ?_
  refine zM (I b) rfl ?_
  refine zM (.func (.func 71) #[] #[Pq ak]) rfl ?_
  obtain ⟨cB, bV, hM⟩ := M.e_bind hM
  refine s_call cf91 [aa, I a, I b, .func (.func 71) #[] #[Pq ak]] rfl (zc3 l a b ab ac ae ag ah ai aj am ao aq au av aw ax (aD.app _) aE (aF.app _) aG (aH.app _) aI (aJ.app _) aK (aL.app _) aM (aN.app _) (aO.app _) (aP.app _) aQ (aR.app _) aS (aT.app _) aU (aV.app _) aW (aX.app _) aY (aZ.app _) (a6.app _) (a7.app _) bV _ (H.gt 0)) ?_
  rintro vq cC ⟨l_data, bW, bX, hvq, al⟩
  subst bX
  subst vq
  try dsimp only at hM
  replace H := H.bk al
  clear al
  refine s_nil ?_
  refine W.seq ?_
  refine W.region rfl ?_
  refine zM (I b) rfl ?_
  refine zA (I b) rfl ?_
  refine s_nil ?_
  refine W.region rfl ?_
  refine zM (I b) rfl ?_
  refine zM (I 20) rfl ?_
  obtain ⟨bY, hM⟩ := M.e_grd hM
  simp only [Bool.and_eq_true, decide_eq_true_eq] at bY
  refine zR b 20 (b + 20) rfl rfl rfl (by omega) ?_
  refine zA (I (b + 20)) rfl ?_
  refine s_nil ?_
  exact ⟨bT, bU, l_data, b, b + 20, bW, _, upds_of _ _ ⟨rfl, rfl, rfl, rfl, rfl, rfl, trivial⟩, M.e_inl hM bJ, H⟩
 replace hM := M.e_f hM az
 simp only [qy1, qy2, qy3, qy4, qy5, qy6, ne_eq, qy7] at az
 refine W.exit ?_
 have bZ := M.e_inr hM bJ
 subst bZ
 replace hM := bS
 try dsimp only at hM
 refine W.seq ?_
 refine W.region rfl ?_
 refine zM aa rfl ?_
 refine zM (I a) rfl ?_
 refine zM (I n) rfl ?_
 refine zM (.func (.func 71) #[] #[Pq ak]) rfl ?_
 obtain ⟨cD, b4, hM⟩ := M.e_bind hM
 refine s_call cf91 [aa, I a, I n, .func (.func 71) #[] #[Pq ak]] rfl (zc3 l a n ab ac ae ag ah ai aj am ao aq au av aw ax (aD.app _) aE (aF.app _) aG (aH.app _) aI (aJ.app _) aK (aL.app _) aM (aN.app _) (aO.app _) (aP.app _) aQ (aR.app _) aS (aT.app _) aU (aV.app _) aW (aX.app _) aY (aZ.app _) (a6.app _) (a7.app _) b4 _ (H.gt 0)) ?_
 rintro vq cE ⟨l_data2, b5, b6, hvq, al⟩
 subst b6
 subst vq
 try dsimp only at hM
 replace H := H.bk al
 clear al
 refine s_nil ?_
 refine W.block ?_
 obtain ⟨b7, ba, b8⟩ := M.e_bind hM
 obtain ⟨bH, ba⟩ := M.e_iter ba
 refine W.loop (fun m σ W => ∃ (l8 : List Dem) (blockSize : Int) (B_mem4 : Base) (ρ : Env), σ = upds ρ [(0, aa), (1, I n), (2, .func (.func 71) #[] #[Pq ak]), (6, I blockSize)] /\ M.iterN (zbX n ab ac ae ag ah ai aj am ao aq au av aw ax) m (l8, blockSize) = some b7 /\ St w W [cOwn (α := Dem) 62 aa l8, cMem encDm ay B_mem4 (zaa ab ac ae ag ah ai aj)] R) ?_ ?_
 ·exact ⟨_, l_data2, 20, b5, _, upds_of _ _ ⟨rfl, rfl, rfl, rfl, trivial⟩, ba, H⟩
 rintro cF σ cG ⟨l8, blockSize, B_mem4, ρ, rfl, bK, H⟩
 obtain ⟨bL, bM, cH, hM, bb⟩ := M.e_iterN bK
 simp only [zbX] at hM
 clear bK
 refine W.seq ?_
 refine W.seq ?_
 refine W.region rfl ?_
 refine zM (I blockSize) rfl ?_
 refine zM (I n) rfl ?_
 refine zC blockSize n (decide (blockSize < n)) rfl rfl rfl ?_
 refine s_nil ?_
 refine W.cond (decide (blockSize < n)) rfl (fun aA => ?_) (fun aA => ?_)
 ·replace hM := M.e_t hM aA
  simp only [qy1, qy2, qy3, qy4, qy5, qy6, ne_eq, qy7] at aA
  refine W.skip ?_
  refine W.block ?_
  refine W.seq ?_
  refine W.region rfl ?_
  refine zM (I blockSize) rfl ?_
  obtain ⟨b9, hM⟩ := M.e_grd hM
  simp only [Bool.and_eq_true, decide_eq_true_eq] at b9
  refine zR 2 blockSize (2 * blockSize) rfl rfl rfl (by omega) ?_
  refine zA (I 0) rfl ?_
  refine zA (I (2 * blockSize)) rfl ?_
  refine s_nil ?_
  refine W.seq ?_
  refine W.block ?_
  obtain ⟨ca, bc, cb⟩ := M.e_bind hM
  obtain ⟨bH, bc⟩ := M.e_iter bc
  refine W.loop (fun m σ W => ∃ (l4 : List Dem) (a3 : Int) (b2 : Int) (B_mem2 : Base) (ρ : Env), σ = upds ρ [(0, aa), (1, I n), (2, .func (.func 71) #[] #[Pq ak]), (6, I blockSize), (7, I a3), (8, I b2)] /\ M.iterN (zb6 n ab ac ae ag ah ai aj am ao aq au av aw ax blockSize) m (l4, a3, b2) = some ca /\ St w W [cOwn (α := Dem) 62 aa l4, cMem encDm ay B_mem2 (zaa ab ac ae ag ah ai aj)] R) ?_ ?_
  ·exact ⟨_, l8, 0, 2 * blockSize, B_mem4, _, upds_of _ _ ⟨rfl, rfl, rfl, rfl, rfl, rfl, trivial⟩, bc, H⟩
  rintro cI σ cJ ⟨l4, a3, b2, B_mem2, ρ, rfl, bN, H⟩
  obtain ⟨cc, cd, cK, hM, bO⟩ := M.e_iterN bN
  simp only [zb6] at hM
  clear bN
  refine W.seq ?_
  refine W.seq ?_
  refine W.region rfl ?_
  refine zM (I b2) rfl ?_
  refine zM (I n) rfl ?_
  refine zC b2 n (decide (b2 <= n)) rfl rfl rfl ?_
  refine s_nil ?_
  refine W.cond (decide (b2 <= n)) rfl (fun aB => ?_) (fun aB => ?_)
  ·replace hM := M.e_t hM aB
   simp only [qy1, qy2, qy3, qy4, qy5, qy6, ne_eq, qy7] at aB
   refine W.skip ?_
   refine W.block ?_
   refine W.seq ?_
   refine W.region rfl ?_
   refine zM aa rfl ?_
   refine zM (I a3) rfl ?_
   refine zM (I a3) rfl ?_
   refine zM (I blockSize) rfl ?_
   obtain ⟨ce, hM⟩ := M.e_grd hM
   simp only [Bool.and_eq_true, decide_eq_true_eq] at ce
   refine zR a3 blockSize (a3 + blockSize) rfl rfl rfl (by omega) ?_
   refine zM (I b2) rfl ?_
   refine zM (.func (.func 71) #[] #[Pq ak]) rfl ?_
   obtain ⟨cL, cf, hM⟩ := M.e_bind hM
   refine s_call cf92 [aa, I a3, I (a3 + blockSize), I b2, .func (.func 71) #[] #[Pq ak]] rfl (zcR l4 a3 (a3 + blockSize) b2 ab ac ae ag ah ai aj am ao aq au av aw ax (aD.app _) aE (aF.app _) aG (aH.app _) aI (aJ.app _) aK (aL.app _) aM (aN.app _) (aO.app _) (aP.app _) aQ (aR.app _) aS (aT.app _) aU (aV.app _) aW (aX.app _) aY (aZ.app _) (a6.app _) (a7.app _) cf _ (H.gt 0)) ?_
   rintro vq cM ⟨l_data3, cg, ch, hvq, al⟩
   subst ch
   subst vq
   try dsimp only at hM
   replace H := H.bk al
   clear al
   refine s_nil ?_
   refine W.seq ?_
   refine W.region rfl ?_
   refine zM (I b2) rfl ?_
   refine zA (I b2) rfl ?_
   refine s_nil ?_
   refine W.region rfl ?_
   refine zM (I b2) rfl ?_
   refine zM (I blockSize) rfl ?_
   refine zR 2 blockSize (2 * blockSize) rfl rfl rfl (by omega) ?_
   obtain ⟨ck, hM⟩ := M.e_grd hM
   simp only [Bool.and_eq_true, decide_eq_true_eq] at ck
   refine zR b2 (2 * blockSize) (b2 + (2 * blockSize)) rfl rfl rfl (by omega) ?_
   refine zA (I (b2 + (2 * blockSize))) rfl ?_
   refine s_nil ?_
   exact ⟨cc, cd, l_data3, b2, b2 + (2 * blockSize), cg, _, upds_of _ _ ⟨rfl, rfl, rfl, rfl, rfl, rfl, trivial⟩, M.e_inl hM bO, H⟩
  replace hM := M.e_f hM aB
  simp only [qy1, qy2, qy3, qy4, qy5, qy6, ne_eq, qy7] at aB
  refine W.exit ?_
  have cm := M.e_inr hM bO
  subst cm
  replace hM := cb
  try dsimp only at hM
  refine W.seq ?_
  refine W.seq ?_
  refine W.region rfl ?_
  refine zM (I a3) rfl ?_
  refine zM (I blockSize) rfl ?_
  obtain ⟨cn, hM⟩ := M.e_grd hM
  simp only [Bool.and_eq_true, decide_eq_true_eq] at cn
  refine zR a3 blockSize (a3 + blockSize) rfl rfl rfl (by omega) ?_
  refine zA (I (a3 + blockSize)) rfl ?_
  refine s_nil ?_
  refine W.seq ?_
  refine W.region rfl ?_
  refine zM (I (a3 + blockSize)) rfl ?_
  refine zM (I n) rfl ?_
  refine zC (a3 + blockSize) n (decide ((a3 + blockSize) < n)) rfl rfl rfl ?_
  refine s_nil ?_
  refine W.cond (decide ((a3 + blockSize) < n)) rfl (fun aC => ?_) (fun aC => ?_)
  ·replace hM := M.e_t hM aC
   simp only [qy1, qy2, qy3, qy4, qy5, qy6, ne_eq, qy7] at aC
   refine W.region rfl ?_
   refine zM aa rfl ?_
   refine zM (I a3) rfl ?_
   refine zM (I (a3 + blockSize)) rfl ?_
   refine zM (I n) rfl ?_
   refine zM (.func (.func 71) #[] #[Pq ak]) rfl ?_
   obtain ⟨cN, co, hM⟩ := M.e_bind hM
   refine s_call cf92 [aa, I a3, I (a3 + blockSize), I n, .func (.func 71) #[] #[Pq ak]] rfl (zcR l4 a3 (a3 + blockSize) n ab ac ae ag ah ai aj am ao aq au av aw ax (aD.app _) aE (aF.app _) aG (aH.app _) aI (aJ.app _) aK (aL.app _) aM (aN.app _) (aO.app _) (aP.app _) aQ (aR.app _) aS (aT.app _) aU (aV.app _) aW (aX.app _) aY (aZ.app _) (a6.app _) (a7.app _) co _ (H.gt 0)) ?_
   rintro vq cO ⟨l_data4, cp, cq, hvq, al⟩
   subst cq
   subst vq
   try dsimp only at hM
   replace H := H.bk al
   clear al
   refine s_nil ?_
   refine W.region rfl ?_
   refine zM (I blockSize) rfl ?_
   obtain ⟨ct, hM⟩ := M.e_grd hM
   simp only [Bool.and_eq_true, decide_eq_true_eq] at ct
   refine zR blockSize 2 (blockSize * 2) rfl rfl rfl (by omega) ?_
   refine zA (I (blockSize * 2)) rfl ?_
   refine s_nil ?_
   exact ⟨bL, bM, l_data4, blockSize * 2, cp, _, upds_of _ _ ⟨rfl, rfl, rfl, rfl, trivial⟩, M.e_inl hM bb, H⟩
  replace hM := M.e_f hM aC
  simp only [qy1, qy2, qy3, qy4, qy5, qy6, ne_eq, qy7] at aC
  refine W.skip ?_
  refine W.region rfl ?_
  refine zM (I blockSize) rfl ?_
  obtain ⟨cu, hM⟩ := M.e_grd hM
  simp only [Bool.and_eq_true, decide_eq_true_eq] at cu
  refine zR blockSize 2 (blockSize * 2) rfl rfl rfl (by omega) ?_
  refine zA (I (blockSize * 2)) rfl ?_
  refine s_nil ?_
  exact ⟨bL, bM, l4, blockSize * 2, B_mem2, _, upds_of _ _ ⟨rfl, rfl, rfl, rfl, trivial⟩, M.e_inl hM bb, H⟩
 replace hM := M.e_f hM aA
 simp only [qy1, qy2, qy3, qy4, qy5, qy6, ne_eq, qy7] at aA
 refine W.exit ?_
 have cw := M.e_inr hM bb
 subst cw
 replace hM := b8
 try dsimp only at hM
 have cx := M.e_pure hM
 exact ⟨_, resE_tmp0 rfl, ⟨l8, B_mem4, cx, rfl, H⟩⟩

def zb9 (x : List Dem) (aa : List Int) (ab : List Span) (ac : List Int) (ae : List Town) (ag : Int) (ah : Int) (ai : List Flood) (aj : List Int) (ak : List Span) (al : List Int) (am : List Town) (ao : Int) (aq : Int) (au : List Flood) : M (List Dem) :=
  M.bind (zbY x (x.length : Int) aa ab ac ae ag ah ai aj ak al am ao aq au) fun l_data =>
  M.pure l_data
theorem zdL {R : List Chunk} {aa : Value} {ak : Nat} {ay : Nat} {az : Nat} {aA : Cells} {aB : Value} {aC : Cells} {aD : Value} {aE : Cells} {aF : Value} {aG : Cells} {aH : Value} {aI : Cells} {aJ : Value} {al : Nat} {B_b_cmp2020207 : Base} {aK : Nat} {aL : Nat} {aM : Cells} {aN : Value} {aO : Cells} {aP : Value} {aQ : Cells} {aR : Value} {aS : Cells} {aT : Value} {aU : Cells} {aV : Value} {aX : Nat} (x : List Dem) (ab : List Int) (ac : List Span) (ae : List Int) (ag : List Town) (ah : Int) (ai : Int) (aj : List Flood) (am : List Int) (ao : List Span) (aq : List Int) (au : List Town) (av : Int) (aw : Int) (ax : List Flood) (aY : Reads R aA) (aZ : Sl aA aB ab) (a6 : Reads R aC) (a7 : Sl aC aD ac) (a8 : Reads R aE) (ba : Sl aE aF ae) (bb : Reads R aG) (bc : Sl aG aH ag) (bf : Reads R aI) (bg : Sl aI aJ aj) (bh : Has R (cBlk az [aB, aD, aF, aH, I ah, I ai, aJ, .map (some al)] 86)) (bi : Has R (cBlk ay [.func (.func 54) #[Pq az] #[]] 106)) (bj : Reads R aM) (bm : Sl aM aN am) (bn : Reads R aO) (bo : Sl aO aP ao) (bp : Reads R aQ) (bq : Sl aQ aR aq) (br : Reads R aS) (bt : Sl aS aT au) (bu : Reads R aU) (bv : Sl aU aV ax) (bw : Has R (cBlk aL [aN, aP, aR, aT, I av, I aw, aV, .map (some aX)] 86)) (bx : Has R (cBlk aK [Pq aL] 72)) (bz : Has R (cBlk ak [.func (.func 69) #[] #[Pq ay, Pq aK]] 114)) {r : (List Dem)} (hM : (zb9 x ab ac ae ag ah ai aj am ao aq au av aw ax).Ends r) (w : World) (H : St w w [cOwn (α := Dem) 62 aa x, cMem encDm al B_b_cmp2020207 (zaa ab ac ae ag ah ai aj)] R) : Ret Try.prog 70 #[aa, .func (.func 71) #[] #[Pq ak]] w fun v w' => ∃ (y0 : List Dem) (bA : Base), y0 = r /\ v = .tuple #[] /\ St w w' [cOwn (α := Dem) 62 aa y0, cMem encDm al bA (zaa ab ac ae ag ah ai aj)] R := by
 refine ret_of_W Try.func70 rfl rfl rfl ?_
 refine W.region rfl ?_
 refine zM aa rfl ?_
 refine zM aa rfl ?_
 have bF := ((H.os 0)).len_le
 refine s_val (x_lenS T57.und rfl (H.os 0)) ?_
 refine zM (.func (.func 71) #[] #[Pq ak]) rfl ?_
 obtain ⟨bG, bB, hM⟩ := M.e_bind hM
 refine s_call cf86 [aa, I (x.length : Int), .func (.func 71) #[] #[Pq ak]] rfl (zdB x (x.length : Int) ab ac ae ag ah ai aj am ao aq au av aw ax (aY.app _) aZ (a6.app _) a7 (a8.app _) ba (bb.app _) bc (bf.app _) bg (bh.app _) (bi.app _) (bj.app _) bm (bn.app _) bo (bp.app _) bq (br.app _) bt (bu.app _) bv (bw.app _) (bx.app _) (bz.app _) bB _ (H.gt 0)) ?_
 rintro vq bH ⟨l_data, bC, bD, hvq, aW⟩
 subst bD
 subst vq
 try dsimp only at hM
 replace H := H.bk aW
 clear aW
 refine s_nil ?_
 have bE := M.e_pure hM
 exact ⟨_, resE_tmp0 rfl, ⟨l_data, bC, bE, rfl, H⟩⟩

end Go.Proofs.Ytbaehghammbjdaa
end
section
set_option maxRecDepth 100000
set_option maxHeartbeats 16000000
namespace Go.Proofs.Ytbaehghammbjdaa
open Go Go.Nm
def zaO (ar : List Bool) (r4 : List Int) : Nat -> M (Nat ⊕ (Unit ⊕ Unit)) := fun s =>
  bif decide ((s : Int) < (r4.length : Int)) then (
  M.grd (decide ((s : Int) < (r4.length : Int))) <|
  M.grd (decide ((0 : Int) <= (r4.getD s 0)) && decide ((r4.getD s 0) < (12 : Int))) <|
  bif ar.getD (Int.toNat (r4.getD s 0)) false then (
  M.pure (.inr (.inl ())))
  else (
  M.pure (.inl (s + 1))))
  else (
  M.pure (.inr (.inr ())))
def zaI (aa : List Int) (ab : List Span) (ac : List Int) (ae : List Town) (ag : Int) (ah : Int) (ai : List Flood) (l_x : List Dem) : (Nat × (List Bool) × (List Int) × (List Dem)) -> M ((Nat × (List Bool) × (List Int) × (List Dem)) ⊕ ((List Int) × (List Dem) × (List Int) × (List Dem) × (List Bool))) := fun (s2, ar, l, l2) =>
  bif decide ((s2 : Int) < (l_x.length : Int)) then (
  M.grd (decide ((s2 : Int) < (l_x.length : Int))) <|
  M.bind (zaa aa ab ac ae ag ah ai (l_x.getD s2 default)) fun r4 =>
  M.bind (M.iter (zaO ar r4) 0) fun x_ => match x_ with
  | (.inl (_ : Unit)) => (
  M.pure (.inl (s2 + 1, ar, l, l2)))
  | (.inr (_ : Unit)) => (
  M.grd (decide ((0 : Int) <= ((r4.length : Int) - 1)) && decide (((r4.length : Int) - 1) < (r4.length : Int))) <|
  M.grd (decide ((0 : Int) <= (r4.getD (Int.toNat ((r4.length : Int) - 1)) 0)) && decide ((r4.getD (Int.toNat ((r4.length : Int) - 1)) 0) < (12 : Int))) <|
  M.grd (decide ((l.length + ([(r4.getD (Int.toNat ((r4.length : Int) - 1)) 0 : Int)]).length) * 8 <= 140737488355328)) <|
  M.grd (decide ((l2.length + ([(l_x.getD s2 default)]).length) * 16 <= 140737488355328)) <|
  M.pure (.inl (s2 + 1, ar.set (Int.toNat (r4.getD (Int.toNat ((r4.length : Int) - 1)) 0)) true, l ++ ([(r4.getD (Int.toNat ((r4.length : Int) - 1)) 0 : Int)]), l2 ++ ([(l_x.getD s2 default)])))))
  else (
  M.pure (.inr (l, l2, l, l2, ar)))
def zaz (aa : List Int) (ab : List Span) (ac : List Int) (ae : List Town) (ag : Int) (ah : Int) (ai : List Flood) : M ((List Int) × (List Dem) × Bool) :=
  M.bind (zal aa ab ac ae ag ah ai) fun r2 =>
  M.bind (zb2 r2 aa ab ac ae ag ah ai) fun r3 =>
  bif !r3 then (
  M.pure (([]), ([]), false))
  else (
  M.bind (zb9 r2 aa ab ac ae ag ah ai aa ab ac ae ag ah ai) fun l_x =>
  M.bind (M.iter (zaI aa ab ac ae ag ah ai l_x) (0, List.replicate 12 false, [], [])) fun (l3, l4, l5, l6, aj) =>
  M.grd (decide (l5.length <= 1000000)) <|
  M.pure ((isort l5), l6, true))
theorem zdO {R : List Chunk} {aa : Nat} {aZ : Cells} {a6 : Value} {a7 : Cells} {a8 : Value} {ba : Cells} {bb : Value} {bc : Cells} {bf : Value} {bg : Cells} {bh : Value} {aw : Nat} {bB : Base} (ab : List Int) (ac : List Span) (ae : List Int) (ag : List Town) (ah : Int) (ai : Int) (aj : List Flood) (aA : Reads R aZ) (aB : Sl aZ a6 ab) (aC : Reads R a7) (aD : Sl a7 a8 ac) (aE : Reads R ba) (aF : Sl ba bb ae) (aG : Reads R bc) (aH : Sl bc bf ag) (aI : Reads R bg) (aJ : Sl bg bh aj) (aK : Has R (cBlk aa [a6, a8, bb, bf, I ah, I ai, bh, .map (some aw)] 86)) {r : ((List Int) × (List Dem) × Bool)} (hM : (zaz ab ac ae ag ah ai aj).Ends r) (w : World) (H : St w w [cMem encDm aw bB (zaa ab ac ae ag ah ai aj)] R) : Ret Try.prog 50 #[Pq aa] w fun v w' => ∃ (y0 : List Int) (y1 : List Dem) (y2 : Bool) (u0 : Value) (u1 : Value) (bC : Base), (y0, y1, y2) = r /\ v = .tuple #[u0, u1, B y2] /\ St w w' [cOwn (α := Int) 3 u0 y0, cOwn (α := Dem) 62 u1 y1, cMem encDm aw bC (zaa ab ac ae ag ah ai aj)] R := by
 refine ret_of_W Try.func50 rfl rfl rfl ?_
 refine W.seq ?_
 refine W.region rfl ?_
 refine t_box (v := Pq aa) (cs := [Pq aa]) H rfl rfl ?_
 intro aL cf H
 refine zA (.slice none 0 0) rfl ?_
 refine zA (.slice none 0 0) rfl ?_
 refine zA (B false) rfl ?_
 refine s_nil ?_
 refine W.scope ?_
 refine W.seq ?_
 refine W.region rfl ?_
 refine s_val (x_ld (p := Pq aL) (v := Pq aa) rfl (ldb_sc Sc72 (H.bl 0) rfl)) ?_
 obtain ⟨cg, bD, hM⟩ := M.e_bind hM
 refine s_call cf51 [Pq aa] rfl (zbO ab ac ae ag ah ai aj (aA.app _) aB (aC.app _) aD (aE.app _) aF (aG.app _) aH (aI.app _) aJ (aK.app _) bD _ (H.gt 2)) ?_
 rintro vq ch ⟨r2, ak, bE, hvq, av⟩
 subst bE
 subst vq
 try dsimp only at hM
 replace H := H.bk av
 clear av
 refine zA ak rfl ?_
 refine s_nil ?_
 refine W.seq ?_
 refine W.region rfl ?_
 refine s_val (x_ld (p := Pq aL) (v := Pq aa) rfl (ldb_sc Sc72 (H.bl 1) rfl)) ?_
 refine s_val (x_mf (fs := [Pq aa]) (cs := []) rfl rfl) ?_
 refine t_alloc (cs := [.nilFunc]) H Al106 rfl ?_
 intro am ck H
 refine t_sw 0 0 [.func (.func 54) #[Pq aa] #[]] (.func (.func 54) #[Pq aa] #[]) H rfl rfl Sz106 rfl rfl rfl rfl ?_
 intro cm H
 refine s_nil ?_
 refine W.seq ?_
 refine W.seq ?_
 refine W.region rfl ?_
 refine zM ak rfl ?_
 refine s_val (x_mf (fs := []) (cs := [Pq am]) rfl rfl) ?_
 obtain ⟨cn, bF, hM⟩ := M.e_bind hM
 refine s_call cf60 [ak, .func (.func 68) #[] #[Pq am]] rfl (zdH r2 ab ac ae ag ah ai aj (rdo 1) (H.os 1) (aA.app _) aB (aC.app _) aD (aE.app _) aF (aG.app _) aH (aI.app _) aJ (aK.app _) (Has.here (k := 0) rfl) bF _ ((H.pk [3, 0, 1, 2]).gt 3)) ?_
 rintro vq co ⟨r3, bG, bH, hvq, av⟩
 subst bH
 subst vq
 try dsimp only at hM
 replace H := H.pk [3, 0, 1, 2] |>.bk av
 clear av
 refine s_val (x_not (b := r3) rfl) ?_
 refine s_nil ?_
 refine W.cond (!r3) rfl (fun aS => ?_) (fun aS => ?_)
 ·replace hM := M.e_t hM aS
  refine W.seq ?_
  refine W.region rfl ?_
  refine zA (.slice none 0 0) rfl ?_
  refine zA (.slice none 0 0) rfl ?_
  refine zA (B false) rfl ?_
  refine s_nil ?_
  replace H := H.pk [0]
  refine W.ret ?_
  have aT := M.e_pure hM
  replace H := H.nilOwn (α := Int) 3
  replace H := H.nilOwn (α := Dem) 62
  exact ⟨_, resE_tmp3 rfl, ⟨([]), ([]), false, (.slice none 0 0), (.slice none 0 0), bG, aT, rfl, (H.pk [1, 0, 2])⟩⟩
 replace hM := M.e_f hM aS
 refine W.skip ?_
 refine W.seq ?_
 refine W.region rfl ?_
 refine s_val (x_mf (fs := []) (cs := [Pq am, Pq aL]) rfl rfl) ?_
 refine t_alloc (cs := [.nilFunc]) H Al114 rfl ?_
 intro bi cp H
 refine t_sw 0 0 [.func (.func 69) #[] #[Pq am, Pq aL]] (.func (.func 69) #[] #[Pq am, Pq aL]) H rfl rfl Sz114 rfl rfl rfl rfl ?_
 intro cq H
 refine s_nil ?_
 refine W.seq ?_
 refine W.region rfl ?_
 refine zM ak rfl ?_
 refine s_val (x_mf (fs := []) (cs := [Pq bi]) rfl rfl) ?_
 obtain ⟨ct, bI, hM⟩ := M.e_bind hM
 refine s_call cf70 [ak, .func (.func 71) #[] #[Pq bi]] rfl (zdL r2 ab ac ae ag ah ai aj ab ac ae ag ah ai aj (aA.app _) aB (aC.app _) aD (aE.app _) aF (aG.app _) aH (aI.app _) aJ (aK.app _) (Has.here (k := 1) rfl) (aA.app _) aB (aC.app _) aD (aE.app _) aF (aG.app _) aH (aI.app _) aJ (aK.app _) (Has.here (k := 2) rfl) (Has.here (k := 0) rfl) bI _ ((H.pk [3, 1, 0, 2, 4]).gt 3)) ?_
 rintro vq cu ⟨l_x, bJ, bK, hvq, av⟩
 subst bK
 subst vq
 try dsimp only at hM
 replace H := H.pk [3, 1, 0, 2, 4] |>.bk av
 clear av
 refine s_nil ?_
 replace H := H.pk [0, 1, 3]
 refine W.seq ?_
 refine W.region rfl ?_
 refine t_alloc (cs := encB (List.replicate 12 false)) H Al74 rfl ?_
 intro ao cw H
 have bL : (List.replicate 12 false).length = 12 := by simp
 refine s_nil ?_
 refine W.seq ?_
 refine W.region rfl ?_
 refine zA (.slice none 0 0) rfl ?_
 refine s_nil ?_
 refine W.seq ?_
 refine W.region rfl ?_
 refine zA (.slice none 0 0) rfl ?_
 refine s_nil ?_
 refine W.seq ?_
 refine W.label ?_
 refine W.seq ?_
 refine W.seq ?_
 refine W.region rfl ?_
 refine zM ak rfl ?_
 have cx := ((H.os 1)).len_le
 refine s_val (x_lenS T57.und rfl (H.os 1)) ?_
 refine zM (I 0) rfl ?_
 refine s_nil ?_
 refine W.block ?_
 replace H := H.nilOwn (α := Dem) 62
 replace H := H.nilOwn (α := Int) 3
 obtain ⟨bM, aU, bN⟩ := M.e_bind hM
 obtain ⟨bO, aU⟩ := M.e_iter aU
 refine W.loop (fun m σ W => ∃ (s2 : Nat) (ar : List Bool) (l : List Int) (l2 : List Dem) (al : Value) (aq : Value) (B_mem : Base) (ρ : Env), σ = upds ρ [(6, Pq am), (8, Pq ao), (9, al), (10, aq), (29, ak), (30, I (l_x.length : Int)), (31, I (s2 : Int))] /\ M.iterN (zaI ab ac ae ag ah ai aj l_x) m (s2, ar, l, l2) = some bM /\ St w W [cOwn (α := Int) 3 al l, cOwn (α := Dem) 62 aq l2, cBlk ao (encB ar) 74, cOwn (α := Dem) 62 ak l_x, cMem encDm aw B_mem (zaa ab ac ae ag ah ai aj), cBlk am [.func (.func 54) #[Pq aa] #[]] 106] R /\ ar.length = 12) ?_ ?_
 ·exact ⟨_, 0, List.replicate 12 false, [], [], (.slice none 0 0), (.slice none 0 0), bJ, _, upds_of _ _ ⟨rfl, rfl, rfl, rfl, rfl, rfl, rfl, trivial⟩, aU, H, bL⟩
 rintro cy σ cz ⟨s2, ar, l, l2, al, aq, B_mem, ρ, rfl, bj, H, aP⟩
 obtain ⟨aQ, aR, cA, hM, aM⟩ := M.e_iterN bj
 simp only [zaI] at hM
 clear bj
 refine W.seq ?_
 refine W.region rfl ?_
 refine zC (s2 : Int) (l_x.length : Int) (decide ((s2 : Int) < (l_x.length : Int))) rfl rfl rfl ?_
 refine s_nil ?_
 refine W.seq ?_
 refine W.cond (decide ((s2 : Int) < (l_x.length : Int))) rfl (fun aN => ?_) (fun aN => ?_)
 ·replace hM := M.e_t hM aN
  simp only [qy1, qy2, qy3, qy4, qy5, qy6, ne_eq, qy7] at aN
  refine W.skip ?_
  refine W.seq ?_
  refine W.block ?_
  refine W.seq ?_
  refine W.region rfl ?_
  obtain ⟨bP, hM⟩ := M.e_grd hM
  simp only [Bool.and_eq_true, decide_eq_true_eq] at bP
  refine s_val (x_ix (a := ak) (b := I (s2 : Int)) (v := vat ak 2 (Int.toNat (s2 : Int))) rfl rfl (Sl.ix (α := Dem) T57.und T57.size (H.os 3) (by omega) (by omega))) ?_
  refine s_val (x_ld (p := vat ak 2 (Int.toNat (s2 : Int))) (v := .agg #[I ((l_x.getD s2 default).spring), I ((l_x.getD s2 default).town)]) rfl (ld_ag Ag62 Sz62 (At.mono (Dem_atA (H.os 3) (i := (s2 : Int)) (by omega) (by omega)) (H.ol 3)))) ?_
  refine t_alloc (cs := [I 0, I 0]) H Al62 rfl ?_
  intro az cB H
  refine t_sw 0 0 [I ((l_x.getD s2 default).spring), I ((l_x.getD s2 default).town)] (.agg #[I ((l_x.getD s2 default).spring), I ((l_x.getD s2 default).town)]) H rfl rfl Sz62 rfl rfl rfl rfl ?_
  intro cC H
  refine s_nil ?_
  refine W.seq ?_
  refine W.region rfl ?_
  refine s_val (x_ld (p := Pq am) (v := .func (.func 54) #[Pq aa] #[]) rfl (ldb_sc Sc106 (H.bl 6) rfl)) ?_
  refine s_val (x_ld (p := Pq az) (v := .agg #[I ((l_x.getD s2 default).spring), I ((l_x.getD s2 default).town)]) rfl (ldb_ag (ds := [I ((l_x.getD s2 default).spring), I ((l_x.getD s2 default).town)]) Ag62 Sz62 (H.bl 0) rfl rfl)) ?_
  obtain ⟨cD, bQ, hM⟩ := M.e_bind hM
  refine s_callm (f := 54) (fs := [Pq aa]) rfl cf54 [.agg #[I ((l_x.getD s2 default).spring), I ((l_x.getD s2 default).town)]] rfl (za9 ab ac ae ag ah ai aj (l_x.getD s2 default) (aA.app _) aB (aC.app _) aD (aE.app _) aF (aG.app _) aH (aI.app _) aJ (aK.app _) bQ _ ((H.pk [5, 0, 1, 2, 3, 4, 6]).gt 6)) ?_
  rintro vq cE ⟨r4, au, ay, bR, hvq, av, ax⟩
  subst bR
  subst vq
  try dsimp only at hM
  replace H := H.pk [5, 0, 1, 2, 3, 4, 6] |>.bk av
  clear av
  refine zA au rfl ?_
  refine s_nil ?_
  refine W.seq ?_
  refine W.seq ?_
  refine W.region rfl ?_
  refine zM au rfl ?_
  have cF := (ax).len_le
  refine s_val (x_lenS T23.und rfl ax) ?_
  refine zM (I 0) rfl ?_
  refine s_nil ?_
  refine W.block ?_
  obtain ⟨bS, aV, bm⟩ := M.e_bind hM
  obtain ⟨bO, aV⟩ := M.e_iter aV
  refine W.loop (fun m σ W => ∃ (s : Nat) (ρ : Env), σ = upds ρ [(6, Pq am), (8, Pq ao), (9, al), (10, aq), (12, Pq az), (13, au), (29, ak), (30, I (l_x.length : Int)), (31, I (s2 : Int)), (38, au), (39, I (r4.length : Int)), (40, I (s : Int))] /\ M.iterN (zaO ar r4) m s = some bS /\ St w W [cMem encDm aw ay (zaa ab ac ae ag ah ai aj), cBlk az [I ((l_x.getD s2 default).spring), I ((l_x.getD s2 default).town)] 62, cOwn (α := Int) 3 al l, cOwn (α := Dem) 62 aq l2, cBlk ao (encB ar) 74, cOwn (α := Dem) 62 ak l_x, cBlk am [.func (.func 54) #[Pq aa] #[]] 106] R) ?_ ?_
  ·exact ⟨_, 0, _, upds_of _ _ ⟨rfl, rfl, rfl, rfl, rfl, rfl, rfl, rfl, rfl, rfl, rfl, rfl, trivial⟩, aV, H⟩
  rintro cG σ cH ⟨s, ρ, rfl, bn, H⟩
  obtain ⟨bT, bU, cI, hM, aW⟩ := M.e_iterN bn
  simp only [zaO] at hM
  clear bn
  refine W.seq ?_
  refine W.region rfl ?_
  refine zC (s : Int) (r4.length : Int) (decide ((s : Int) < (r4.length : Int))) rfl rfl rfl ?_
  refine s_nil ?_
  refine W.seq ?_
  refine W.cond (decide ((s : Int) < (r4.length : Int))) rfl (fun aO => ?_) (fun aO => ?_)
  ·replace hM := M.e_t hM aO
   simp only [qy1, qy2, qy3, qy4, qy5, qy6, ne_eq, qy7] at aO
   refine W.skip ?_
   refine W.seq ?_
   refine W.block ?_
   refine W.seq ?_
   refine W.region rfl ?_
   obtain ⟨bV, hM⟩ := M.e_grd hM
   simp only [Bool.and_eq_true, decide_eq_true_eq] at bV
   refine s_val (x_ix (a := au) (b := I (s : Int)) (v := vat au 1 (Int.toNat (s : Int))) rfl rfl (Sl.ix (α := Int) T23.und T23.size ax (by omega) (by omega))) ?_
   refine s_val (x_ld (p := vat au 1 (Int.toNat (s : Int))) (v := I (r4.getD s 0)) rfl (ld_sc Sc3 (At.mono (Int_at ax (i := (s : Int)) (by omega) (by omega)) (memLe _ (H.get (k := 0) rfl))))) ?_
   refine zA (I (r4.getD s 0)) rfl ?_
   refine s_nil ?_
   refine W.seq ?_
   refine W.region rfl ?_
   refine zM (I (r4.getD s 0)) rfl ?_
   obtain ⟨bW, hM⟩ := M.e_grd hM
   simp only [Bool.and_eq_true, decide_eq_true_eq] at bW
   refine s_val (x_ix (a := Pq ao) (b := I (r4.getD s 0)) (v := .pointer (some ⟨ao, 0 + Int.toNat (r4.getD s 0), none⟩)) rfl rfl (run_indexArr Try.underlying74 Sz4 (by omega) (by omega))) ?_
   refine s_val (x_ld (p := .pointer (some ⟨ao, 0 + Int.toNat (r4.getD s 0), none⟩)) (v := B (ar.getD (Int.toNat (r4.getD s 0)) false)) rfl (ldArr Sc4 (H.bl 4) (by omega) (by have bX := aP; omega))) ?_
   refine s_nil ?_
   refine W.cond (ar.getD (Int.toNat (r4.getD s 0)) false) rfl (fun aX => ?_) (fun aX => ?_)
   ·replace hM := M.e_t hM aX
    refine W.exit ?_
    have bY := M.e_inr hM aW
    subst bY
    replace hM := bm
    try dsimp only at hM
    refine W.region rfl ?_
    refine zR (s2 : Int) 1 ((s2 : Int) + 1) rfl rfl rfl (by omega) ?_
    refine zM (I ((s2 : Int) + 1)) rfl ?_
    refine s_nil ?_
    exact ⟨aQ, aR, s2 + 1, ar, l, l2, al, aq, ay, _, upds_of _ _ ⟨rfl, rfl, rfl, rfl, rfl, rfl, rfl, trivial⟩, M.e_inl hM aM, (H.pk [2, 3, 4, 5, 0, 6]), aP⟩
   replace hM := M.e_f hM aX
   refine W.skip ?_
   refine W.region rfl ?_
   refine zR (s : Int) 1 ((s : Int) + 1) rfl rfl rfl (by omega) ?_
   refine zM (I ((s : Int) + 1)) rfl ?_
   refine s_nil ?_
   exact ⟨bT, bU, s + 1, _, upds_of _ _ ⟨rfl, rfl, rfl, rfl, rfl, rfl, rfl, rfl, rfl, rfl, rfl, rfl, trivial⟩, M.e_inl hM aW, H⟩
  replace hM := M.e_f hM aO
  simp only [qy1, qy2, qy3, qy4, qy5, qy6, ne_eq, qy7] at aO
  refine W.exit ?_
  have bZ := M.e_inr hM aW
  subst bZ
  replace hM := bm
  try dsimp only at hM
  refine W.seq ?_
  refine W.region rfl ?_
  refine zM au rfl ?_
  refine zM au rfl ?_
  have cJ := (ax).len_le
  refine s_val (x_lenS T23.und rfl ax) ?_
  refine zR (r4.length : Int) 1 ((r4.length : Int) - 1) rfl rfl rfl (by omega) ?_
  obtain ⟨b4, hM⟩ := M.e_grd hM
  simp only [Bool.and_eq_true, decide_eq_true_eq] at b4
  refine s_val (x_ix (a := au) (b := I ((r4.length : Int) - 1)) (v := vat au 1 (Int.toNat ((r4.length : Int) - 1))) rfl rfl (Sl.ix (α := Int) T23.und T23.size ax (by omega) (by omega))) ?_
  refine s_val (x_ld (p := vat au 1 (Int.toNat ((r4.length : Int) - 1))) (v := I (r4.getD (Int.toNat ((r4.length : Int) - 1)) 0)) rfl (ld_sc Sc3 (At.mono (Int_at ax (i := (r4.length : Int) - 1) (by omega) (by omega)) (memLe _ (H.get (k := 0) rfl))))) ?_
  refine zA (I (r4.getD (Int.toNat ((r4.length : Int) - 1)) 0)) rfl ?_
  refine s_nil ?_
  refine W.seq ?_
  refine W.region rfl ?_
  refine zM (I (r4.getD (Int.toNat ((r4.length : Int) - 1)) 0)) rfl ?_
  obtain ⟨b5, hM⟩ := M.e_grd hM
  simp only [Bool.and_eq_true, decide_eq_true_eq] at b5
  refine s_val (x_ix (a := Pq ao) (b := I (r4.getD (Int.toNat ((r4.length : Int) - 1)) 0)) (v := .pointer (some ⟨ao, 0 + Int.toNat (r4.getD (Int.toNat ((r4.length : Int) - 1)) 0), none⟩)) rfl rfl (run_indexArr Try.underlying74 Sz4 (by omega) (by omega))) ?_
  refine t_stArr (k := 4) (b := ao) (l := ar) (l' := ar.set (Int.toNat (r4.getD (Int.toNat ((r4.length : Int) - 1)) 0)) true) (i := r4.getD (Int.toNat ((r4.length : Int) - 1)) 0) (v := true) (L' := [cMem encDm aw ay (zaa ab ac ae ag ah ai aj), cBlk az [I ((l_x.getD s2 default).spring), I ((l_x.getD s2 default).town)] 62, cOwn (α := Int) 3 al l, cOwn (α := Dem) 62 aq l2, cBlk ao (encB (ar.set (Int.toNat (r4.getD (Int.toNat ((r4.length : Int) - 1)) 0)) true)) 74, cOwn (α := Dem) 62 ak l_x, cBlk am [.func (.func 54) #[Pq aa] #[]] 106]) H rfl rfl rfl Sz4 (by omega) (by have bX := aP; omega) rfl rfl ?_
  intro cK H
  have aY : (ar.set (Int.toNat (r4.getD (Int.toNat ((r4.length : Int) - 1)) 0)) true).length = 12 := List.length_set.trans aP
  refine s_nil ?_
  refine W.drawT (fun W => St w W [cMem encDm aw ay (zaa ab ac ae ag ah ai aj), cBlk az [I ((l_x.getD s2 default).spring), I ((l_x.getD s2 default).town)] 62, cBlk ao (encB (ar.set (Int.toNat (r4.getD (Int.toNat ((r4.length : Int) - 1)) 0)) true)) 74, cOwn (α := Dem) 62 ak l_x, cBlk am [.func (.func 54) #[Pq aa] #[]] 106] R) (.q 0 (.q 1 (.q 4 (.q 5 (.l2 2 (.l2 3 (.l 6 (.l 7 (.q 8 (.q 9 .nil)))) 6 (.l 3 (.l 7 (.q 8 (.q 9 .nil))))) 6 (.l 2 (.l 3 (.l 7 (.q 8 (.q 9 .nil)))))))))) mixed (by decide +kernel) rfl ?_
  intro cL bo
  replace H := H.ext bo
  clear bo
  refine ⟨(H.pk [0, 1, 4, 5, 6]), ?_⟩
  refine t_q rfl (fun w' H => x_mv (v := al) rfl) ?_
  refine t_q rfl (fun w' H => x_mv (v := I (r4.getD (Int.toNat ((r4.length : Int) - 1)) 0)) rfl) ?_
  refine t_q rfl (fun w' H => x_mv (v := aq) rfl) ?_
  refine t_q rfl (fun w' H => x_ld (p := Pq az) (v := .agg #[I ((l_x.getD s2 default).spring), I ((l_x.getD s2 default).town)]) rfl (ldb_ag (ds := [I ((l_x.getD s2 default).spring), I ((l_x.getD s2 default).town)]) Ag62 Sz62 (H.bl 1) rfl rfl)) ?_
  obtain ⟨b6, hM⟩ := M.e_grd hM
  simp only [Bool.and_eq_true, decide_eq_true_eq] at b6
  obtain ⟨b7, hM⟩ := M.e_grd hM
  simp only [Bool.and_eq_true, decide_eq_true_eq] at b7
  refine t_l2 rfl rfl ?_ ?_
  ·skip
   refine t_bs (α := Int) T23 [I (r4.getD (Int.toNat ((r4.length : Int) - 1)) 0)] [(r4.getD (Int.toNat ((r4.length : Int) - 1)) 0 : Int)] H rfl (.cons rfl (Flat.rep_enc _ (r4.getD (Int.toNat ((r4.length : Int) - 1)) 0 : Int)) <| .nil) rfl rfl rfl ?_
   intro bp cM H
   have cN := Sl.cells (H.os 0)
   have cO := Sl.oc (H.os 0)
   have cP := Sl.cells (H.os 3)
   have cQ := Sl.oc (H.os 3)
   have cR := Sl.cells (H.os 4)
   have cS := Sl.oc (H.os 4)
   refine s_nil ⟨(H.pk [1, 2, 5, 6, 7]), ?_⟩
   refine t_l2 rfl rfl ?_ ?_
   ·skip
    refine t_app (α := Int) (k := 3) (l := l) (l2 := [(r4.getD (Int.toNat ((r4.length : Int) - 1)) 0 : Int)]) (l' := l ++ ([(r4.getD (Int.toNat ((r4.length : Int) - 1)) 0 : Int)])) (vy := bp) T23 rfl H rfl rfl rfl (H.os 0) (H.ol 0) (rfl) (by first | omega | (simp only [List.length_nil] at *; omega)) ?_
    intro bq cT H
    replace H := H.nf
    have cU := Sl.cells (H.os 3)
    have cV := Sl.oc (H.os 3)
    refine s_nil ⟨(H.pk [1, 2, 5, 6, 7]), ?_⟩
    refine t_l rfl ?_
    refine t_bs (α := Dem) T57 [.agg #[I ((l_x.getD s2 default).spring), I ((l_x.getD s2 default).town)]] [(l_x.getD s2 default)] H rfl (.cons rfl (Flat.rep_enc _ (l_x.getD s2 default)) <| .nil) rfl rfl rfl ?_
    intro b8 cW H
    have cX := Sl.cells (H.os 0)
    have cY := Sl.oc (H.os 0)
    refine s_nil ⟨(H.pk [2, 3, 6, 7, 8]), ?_⟩
    refine t_l rfl ?_
    refine t_app (α := Dem) (k := 5) (l := l2) (l2 := [(l_x.getD s2 default)]) (l' := l2 ++ ([(l_x.getD s2 default)])) (vy := b8) T57 rfl H rfl rfl rfl (H.os 0) (H.ol 0) (rfl) (by first | omega | (simp only [List.length_nil] at *; omega)) ?_
    intro br cZ H
    replace H := H.nf
    have c0 := Sl.cells (H.os 5)
    have c6 := Sl.oc (H.os 5)
    refine s_nil ⟨(H.pk [2, 3, 6, 7, 8]), ?_⟩
    refine t_q rfl (fun w' H => x_as (v := bq) rfl) ?_
    refine t_q rfl (fun w' H => x_as (v := br) rfl) ?_
    refine t_nil ?_
    replace H := H.pk [2, 4, 5, 6, 7, 8]
    refine W.region rfl ?_
    refine zR (s2 : Int) 1 ((s2 : Int) + 1) rfl rfl rfl (by omega) ?_
    refine zM (I ((s2 : Int) + 1)) rfl ?_
    refine s_nil ?_
    exact ⟨aQ, aR, s2 + 1, ar.set (Int.toNat (r4.getD (Int.toNat ((r4.length : Int) - 1)) 0)) true, l ++ ([(r4.getD (Int.toNat ((r4.length : Int) - 1)) 0 : Int)]), l2 ++ ([(l_x.getD s2 default)]), bq, br, ay, _, upds_of _ _ ⟨rfl, rfl, rfl, rfl, rfl, rfl, rfl, trivial⟩, M.e_inl hM aM, (H.pk [1, 2, 3, 4, 0, 5]), aY⟩
   skip
   refine t_bs (α := Dem) T57 [.agg #[I ((l_x.getD s2 default).spring), I ((l_x.getD s2 default).town)]] [(l_x.getD s2 default)] H rfl (.cons rfl (Flat.rep_enc _ (l_x.getD s2 default)) <| .nil) rfl rfl rfl ?_
   intro b9 c7 H
   have c8 := Sl.cells (H.os 0)
   have c9 := Sl.oc (H.os 0)
   refine s_nil ⟨(H.pk [2, 3, 6, 7, 8]), ?_⟩
   refine t_l rfl ?_
   refine t_app (α := Int) (k := 4) (l := l) (l2 := [(r4.getD (Int.toNat ((r4.length : Int) - 1)) 0 : Int)]) (l' := l ++ ([(r4.getD (Int.toNat ((r4.length : Int) - 1)) 0 : Int)])) (vy := bp) T23 rfl H rfl rfl rfl (H.os 1) (H.ol 1) (rfl) (by first | omega | (simp only [List.length_nil] at *; omega)) ?_
   intro bt da H
   replace H := H.nf
   have db := Sl.cells (H.os 4)
   have dc := Sl.oc (H.os 4)
   refine s_nil ⟨(H.pk [2, 3, 6, 7, 8]), ?_⟩
   refine t_l rfl ?_
   refine t_app (α := Dem) (k := 5) (l := l2) (l2 := [(l_x.getD s2 default)]) (l' := l2 ++ ([(l_x.getD s2 default)])) (vy := b9) T57 rfl H rfl rfl rfl (H.os 0) (H.ol 0) (rfl) (by first | omega | (simp only [List.length_nil] at *; omega)) ?_
   intro bu dd H
   replace H := H.nf
   have de := Sl.cells (H.os 5)
   have dg := Sl.oc (H.os 5)
   refine s_nil ⟨(H.pk [2, 3, 6, 7, 8]), ?_⟩
   refine t_q rfl (fun w' H => x_as (v := bt) rfl) ?_
   refine t_q rfl (fun w' H => x_as (v := bu) rfl) ?_
   refine t_nil ?_
   replace H := H.pk [2, 4, 5, 6, 7, 8]
   refine W.region rfl ?_
   refine zR (s2 : Int) 1 ((s2 : Int) + 1) rfl rfl rfl (by omega) ?_
   refine zM (I ((s2 : Int) + 1)) rfl ?_
   refine s_nil ?_
   exact ⟨aQ, aR, s2 + 1, ar.set (Int.toNat (r4.getD (Int.toNat ((r4.length : Int) - 1)) 0)) true, l ++ ([(r4.getD (Int.toNat ((r4.length : Int) - 1)) 0 : Int)]), l2 ++ ([(l_x.getD s2 default)]), bt, bu, ay, _, upds_of _ _ ⟨rfl, rfl, rfl, rfl, rfl, rfl, rfl, trivial⟩, M.e_inl hM aM, (H.pk [1, 2, 3, 4, 0, 5]), aY⟩
  skip
  refine t_bs (α := Dem) T57 [.agg #[I ((l_x.getD s2 default).spring), I ((l_x.getD s2 default).town)]] [(l_x.getD s2 default)] H rfl (.cons rfl (Flat.rep_enc _ (l_x.getD s2 default)) <| .nil) rfl rfl rfl ?_
  intro ca di H
  have dk := Sl.cells (H.os 0)
  have dm := Sl.oc (H.os 0)
  have dq := Sl.cells (H.os 3)
  have dr := Sl.oc (H.os 3)
  have dt := Sl.cells (H.os 4)
  have du := Sl.oc (H.os 4)
  refine s_nil ⟨(H.pk [1, 2, 5, 6, 7]), ?_⟩
  refine t_l rfl ?_
  refine t_bs (α := Int) T23 [I (r4.getD (Int.toNat ((r4.length : Int) - 1)) 0)] [(r4.getD (Int.toNat ((r4.length : Int) - 1)) 0 : Int)] H rfl (.cons rfl (Flat.rep_enc _ (r4.getD (Int.toNat ((r4.length : Int) - 1)) 0 : Int)) <| .nil) rfl rfl rfl ?_
  intro cb dv H
  have dw := Sl.cells (H.os 0)
  have dx := Sl.oc (H.os 0)
  refine s_nil ⟨(H.pk [2, 3, 6, 7, 8]), ?_⟩
  refine t_l rfl ?_
  refine t_app (α := Int) (k := 4) (l := l) (l2 := [(r4.getD (Int.toNat ((r4.length : Int) - 1)) 0 : Int)]) (l' := l ++ ([(r4.getD (Int.toNat ((r4.length : Int) - 1)) 0 : Int)])) (vy := cb) T23 rfl H rfl rfl rfl (H.os 0) (H.ol 0) (rfl) (by first | omega | (simp only [List.length_nil] at *; omega)) ?_
  intro bv dy H
  replace H := H.nf
  have dz := Sl.cells (H.os 4)
  have dA := Sl.oc (H.os 4)
  refine s_nil ⟨(H.pk [2, 3, 6, 7, 8]), ?_⟩
  refine t_l rfl ?_
  refine t_app (α := Dem) (k := 5) (l := l2) (l2 := [(l_x.getD s2 default)]) (l' := l2 ++ ([(l_x.getD s2 default)])) (vy := ca) T57 rfl H rfl rfl rfl (H.os 1) (H.ol 1) (rfl) (by first | omega | (simp only [List.length_nil] at *; omega)) ?_
  intro bw dB H
  replace H := H.nf
  have dC := Sl.cells (H.os 5)
  have dD := Sl.oc (H.os 5)
  refine s_nil ⟨(H.pk [2, 3, 6, 7, 8]), ?_⟩
  refine t_q rfl (fun w' H => x_as (v := bv) rfl) ?_
  refine t_q rfl (fun w' H => x_as (v := bw) rfl) ?_
  refine t_nil ?_
  replace H := H.pk [2, 4, 5, 6, 7, 8]
  refine W.region rfl ?_
  refine zR (s2 : Int) 1 ((s2 : Int) + 1) rfl rfl rfl (by omega) ?_
  refine zM (I ((s2 : Int) + 1)) rfl ?_
  refine s_nil ?_
  exact ⟨aQ, aR, s2 + 1, ar.set (Int.toNat (r4.getD (Int.toNat ((r4.length : Int) - 1)) 0)) true, l ++ ([(r4.getD (Int.toNat ((r4.length : Int) - 1)) 0 : Int)]), l2 ++ ([(l_x.getD s2 default)]), bv, bw, ay, _, upds_of _ _ ⟨rfl, rfl, rfl, rfl, rfl, rfl, rfl, trivial⟩, M.e_inl hM aM, (H.pk [1, 2, 3, 4, 0, 5]), aY⟩
 replace hM := M.e_f hM aN
 simp only [qy1, qy2, qy3, qy4, qy5, qy6, ne_eq, qy7] at aN
 refine W.exit ?_
 have cc := M.e_inr hM aM
 subst cc
 replace hM := bN
 try dsimp only at hM
 replace H := H.pk [0, 1, 4]
 refine W.seq ?_
 refine W.region rfl ?_
 refine zM al rfl ?_
 obtain ⟨cd, hM⟩ := M.e_grd hM
 simp only [Bool.and_eq_true, decide_eq_true_eq] at cd
 refine s_call cf73 [al] rfl (sort_any (H.get (k := 0) rfl) (by omega)) ?_
 rintro _ ce ⟨rfl, bx, bz, bA⟩
 replace H : St w ce [cOwn (α := Int) 3 al (isort l), cOwn (α := Dem) 62 aq l2, cMem encDm aw B_mem (zaa ab ac ae ag ah ai aj)] R := H.sorted (k := 0) rfl bx bz bA rfl
 clear bx bz bA
 refine s_nil ?_
 refine W.seq ?_
 refine W.region rfl ?_
 refine zM al rfl ?_
 refine zM aq rfl ?_
 refine zA al rfl ?_
 refine zA aq rfl ?_
 refine zA (B true) rfl ?_
 refine s_nil ?_
 refine W.ret ?_
 have aT := M.e_pure hM
 exact ⟨_, resE_tmp3 rfl, ⟨(isort l), l2, true, al, aq, B_mem, aT, rfl, H⟩⟩

def zam (aa : List Int) (ab : List Span) (ac : List Int) (ae : List Town) (ah : Int) (ai : Int) (ag : List Flood) : M ((List Int) × Int) :=
  M.bind (zap aa ab ac ae ah ai ag) fun x_ => match x_ with
  | (.inl r1) => (
  bif r1 != 0 then (
  M.pure (([]), r1))
  else (
  M.fail))
  | (.inr (aj, ak, al)) => (
  bif al != 0 then (
  M.fail)
  else (
  M.bind (zaz aa ab ac ae aj ak ag) fun (r0, am, r2) =>
  bif !r2 then (
  M.pure (([]), 6))
  else (
  M.pure (r0, 0))))
theorem zbg {R : List Chunk} {aC : Cells} {ah : Value} {aD : Cells} {ai : Value} {aE : Cells} {aj : Value} {aF : Cells} {ak : Value} {aG : Cells} {al : Value} (au : List Int) (av : List Span) (aw : List Int) (ax : List Town) (ac : Int) (ae : Int) (ay : List Flood) (aH : Reads R aC) (aI : Sl aC ah au) (aJ : Reads R aD) (aK : Sl aD ai av) (aL : Reads R aE) (aM : Sl aE aj aw) (aN : Reads R aF) (aO : Sl aF ak ax) (aP : Reads R aG) (aQ : Sl aG al ay) {r : ((List Int) × Int)} (hM : (zam au av aw ax ac ae ay).Ends r) (w : World) (H : St w w [] R) : Ret Try.prog 22 #[.agg #[ah, ai, aj, ak, I ac, I ae, al]] w fun v w' => ∃ (y0 : List Int) (y1 : Int) (u0 : Value), (y0, y1) = r /\ v = .tuple #[u0, I y1] /\ St w w' [cOwn (α := Int) 3 u0 y0] R := by
 refine ret_of_W Try.func22 rfl rfl rfl ?_
 refine W.seq ?_
 refine W.region rfl ?_
 refine t_box (v := .agg #[ah, ai, aj, ak, I ac, I ae, al]) (cs := [ah, ai, aj, ak, I ac, I ae, al]) H rfl rfl ?_
 intro aR aZ H
 refine zA (.slice none 0 0) rfl ?_
 refine zA (I 0) rfl ?_
 refine s_nil ?_
 refine W.seq ?_
 refine W.region rfl ?_
 refine s_val (x_ld (p := Pq aR) (v := .agg #[ah, ai, aj, ak, I ac, I ae, al]) rfl (ldb_ag (ds := [ah, ai, aj, ak, I ac, I ae, al]) Ag30 Sz30 (H.bl 0) rfl rfl)) ?_
 obtain ⟨a6, aS, hM⟩ := M.e_bind hM
 refine s_call cf44 [.agg #[ah, ai, aj, ak, I ac, I ae, al]] rfl (zbA au av aw ax ac ae ay (aH.app _) aI (aJ.app _) aK (aL.app _) aM (aN.app _) aO (aP.app _) aQ aS _ (H.gt 1)) ?_
 rintro vq a7 (⟨r1, aT, hvq, ag⟩ | ⟨aU, aV, aa, am, a8, ba, aW, hvq, ag⟩)
 ·subst aT
  subst vq
  try dsimp only at hM
  replace H := H.bk ag
  clear ag
  refine zM (.tuple #[.pointer none, I r1]) rfl ?_
  refine zX [.pointer none, I r1] (.pointer none) rfl rfl ?_
  refine zX [.pointer none, I r1] (I r1) rfl rfl ?_
  refine zA (.pointer none) rfl ?_
  refine zA (I r1) rfl ?_
  refine s_nil ?_
  refine W.seq ?_
  refine W.seq ?_
  refine W.region rfl ?_
  refine zM (I r1) rfl ?_
  refine zC r1 0 (r1 != 0) rfl rfl rfl ?_
  refine s_nil ?_
  refine W.cond (r1 != 0) rfl (fun az => ?_) (fun az => ?_)
  ·replace hM := M.e_t hM az
   simp only [qy1, qy2, qy3, qy4, qy5, qy6, ne_eq, qy7] at az
   refine W.seq ?_
   refine W.region rfl ?_
   refine zM (I r1) rfl ?_
   refine zA (.slice none 0 0) rfl ?_
   refine zA (I r1) rfl ?_
   refine s_nil ?_
   refine W.ret ?_
   have aq := M.e_pure hM
   replace H := H.nilOwn (α := Int) 3
   exact ⟨_, resE_tmp2 rfl, ⟨([]), r1, (.slice none 0 0), aq, rfl, (H.pk [0])⟩⟩
  replace hM := M.e_f hM az
  exact (M.e_fail hM).elim
 subst aW
 subst vq
 try dsimp only at hM
 replace H := H.bk ag
 clear ag
 refine zM (.tuple #[Pq am, I aa]) rfl ?_
 refine zX [Pq am, I aa] (Pq am) rfl rfl ?_
 refine zX [Pq am, I aa] (I aa) rfl rfl ?_
 refine zA (Pq am) rfl ?_
 refine zA (I aa) rfl ?_
 refine s_nil ?_
 refine W.seq ?_
 refine W.seq ?_
 refine W.region rfl ?_
 refine zM (I aa) rfl ?_
 refine zC aa 0 (aa != 0) rfl rfl rfl ?_
 refine s_nil ?_
 refine W.cond (aa != 0) rfl (fun aA => ?_) (fun aA => ?_)
 ·replace hM := M.e_t hM aA
  exact (M.e_fail hM).elim
 replace hM := M.e_f hM aA
 simp only [qy1, qy2, qy3, qy4, qy5, qy6, ne_eq, qy7] at aA
 refine W.skip ?_
 refine W.seq ?_
 refine W.region rfl ?_
 refine zM (Pq am) rfl ?_
 obtain ⟨bb, aX, hM⟩ := M.e_bind hM
 refine s_call cf50 [Pq am] rfl (zdO au av aw ax aU aV ay (aH.app _) aI (aJ.app _) aK (aL.app _) aM (aN.app _) aO (aP.app _) aQ (Has.here (k := 0) rfl) aX _ ((H.pk [1, 0, 2]).gt 2)) ?_
 rintro vq bc ⟨r0, bf, r2, ab, ao, bg, aY, hvq, ag⟩
 subst aY
 subst vq
 try dsimp only at hM
 replace H := H.pk [1, 0, 2] |>.bk ag
 clear ag
 refine zM (.tuple #[ab, ao, B r2]) rfl ?_
 refine zX [ab, ao, B r2] ab rfl rfl ?_
 refine zX [ab, ao, B r2] ao rfl rfl ?_
 refine zX [ab, ao, B r2] (B r2) rfl rfl ?_
 refine zA ab rfl ?_
 refine zA ao rfl ?_
 refine zA (B r2) rfl ?_
 refine s_nil ?_
 replace H := H.pk [0]
 refine W.seq ?_
 refine W.seq ?_
 refine W.region rfl ?_
 refine zM (B r2) rfl ?_
 refine s_val (x_not (b := r2) rfl) ?_
 refine s_nil ?_
 refine W.cond (!r2) rfl (fun aB => ?_) (fun aB => ?_)
 ·replace hM := M.e_t hM aB
  refine W.seq ?_
  refine W.region rfl ?_
  refine zA (.slice none 0 0) rfl ?_
  refine zA (I 6) rfl ?_
  refine s_nil ?_
  refine W.ret ?_
  have aq := M.e_pure hM
  replace H := H.nilOwn (α := Int) 3
  exact ⟨_, resE_tmp2 rfl, ⟨([]), 6, (.slice none 0 0), aq, rfl, (H.pk [0])⟩⟩
 replace hM := M.e_f hM aB
 refine W.skip ?_
 refine W.seq ?_
 refine W.region rfl ?_
 refine zM ab rfl ?_
 refine zA ab rfl ?_
 refine zA (I 0) rfl ?_
 refine s_nil ?_
 refine W.ret ?_
 have aq := M.e_pure hM
 exact ⟨_, resE_tmp2 rfl, ⟨r0, 0, ab, aq, rfl, H⟩⟩

def zcW (aa : List Int) (ab : List Span) (ac : List Int) (ae : List Town) (ag : Int) (ah : Int) (ai : List Flood) (n : Int) : M Bool :=
  M.bind (zad n 0 ((aa.length : Int) - 1)) fun r2 =>
  M.pure r2
theorem zdc {R : List Chunk} {aa : Nat} {ae : Cells} {ac : Value} {ag : Cells} {ah : Value} {ai : Cells} {aj : Value} {ak : Cells} {al : Value} {am : Cells} {ao : Value} {aB : Nat} (ab : List Int) (aq : List Span) (au : List Int) (av : List Town) (aw : Int) (ax : Int) (ay : List Flood) (n : Int) (aG : Reads R ae) (az : Sl ae ac ab) (aH : Reads R ag) (aI : Sl ag ah aq) (aJ : Reads R ai) (aK : Sl ai aj au) (aL : Reads R ak) (aM : Sl ak al av) (aN : Reads R am) (aO : Sl am ao ay) (aC : Has R (cBlk aa [ac, ah, aj, al, I aw, I ax, ao, .map (some aB)] 86)) {r : Bool} (hM : (zcW ab aq au av aw ax ay n).Ends r) (w : World) (H : St w w [] R) : Ret Try.prog 45 #[Pq aa, I n] w fun v w' => ∃ (y0 : Bool), y0 = r /\ v = B y0 /\ St w w' [] R := by
 refine ret_of_W Try.func45 rfl rfl rfl ?_
 refine W.seq ?_
 refine W.region rfl ?_
 refine zA (B false) rfl ?_
 refine s_nil ?_
 refine W.seq ?_
 refine W.region rfl ?_
 refine zM (I n) rfl ?_
 refine zM (Pq aa) rfl ?_
 refine s_val (x_nc (a := ⟨aa, 0, none⟩) rfl) ?_
 refine s_val (x_fa (a := Pq aa) (v := Pq aa) rfl (fa_blk (o := 0) Fd86_0 Sz30)) ?_
 refine s_val (x_fa (a := Pq aa) (v := Pq aa) rfl (fa_blk (o := 0) Fd30_0 Sz23)) ?_
 refine s_val (x_ld (p := Pq aa) (v := ac) rfl (ldb_sc Sc23 (aC.blk H) rfl)) ?_
 have aP := (az).len_le
 refine s_val (x_lenS T23.und rfl az) ?_
 refine zR (ab.length : Int) 1 ((ab.length : Int) - 1) rfl rfl rfl (by omega) ?_
 obtain ⟨aQ, aD, hM⟩ := M.e_bind hM
 refine s_call cf37 [I n, I 0, I ((ab.length : Int) - 1)] rfl (zah n 0 ((ab.length : Int) - 1) aD _ (H.gt 0)) ?_
 rintro vq aR ⟨r2, aE, hvq, aA⟩
 subst aE
 subst vq
 try dsimp only at hM
 replace H := H.bk aA
 clear aA
 refine zA (B r2) rfl ?_
 refine s_nil ?_
 refine W.ret ?_
 have aF := M.e_pure hM
 exact ⟨_, resE_tmp rfl, ⟨r2, aF, rfl, H⟩⟩

def zc6 (ae : List Int) (ag : List Span) (ah : List Int) (aa : List Town) (ab : Int) (ac : Int) (ai : List Flood) (watch : Int) (town : Int) : M (Int × Int × Int) :=
  M.bind (zap ae ag ah aa ab ac ai) fun x_ => match x_ with
  | (.inl r1) => (
  bif r1 != 0 then (
  M.pure (0, 0, r1))
  else (
  M.fail))
  | (.inr (aj, ak, al)) => (
  bif al != 0 then (
  M.fail)
  else (
  M.bind (zcW ae ag ah aa aj ak ai watch) fun r2 =>
  M.bind (M.opt (!(!r2)) (zad town 0 ((aa.length : Int) - 1)) false) fun r3 =>
  bif ((!r2) || (!r3)) then (
  M.pure (0, 0, 2))
  else (
  M.grd (decide ((0 : Int) <= town) && decide (town < (aa.length : Int))) <|
  M.bind (zay ae ag ah aa aj ak ai watch ((aa.getD (Int.toNat town) default).station)) fun (am, ao, aq) =>
  bif !aq then (
  M.pure (0, 0, 5))
  else (
  M.grd (decide (-9223372036854775807 <= ac) && decide (ac <= 9223372036854775807)) <|
  M.grd (decide (-9223372036854775807 <= ab) && decide (ab <= 9223372036854775807)) <|
  M.bind (zba ([(⟨(am : Int), (ao : Int)⟩ : Span), (⟨(-ac : Int), (-ab : Int)⟩ : Span)])) fun (r0, au) =>
  M.pure (r0, au, 0)))))
theorem zdN {R : List Chunk} {aQ : Cells} {au : Value} {aR : Cells} {av : Value} {aS : Cells} {aw : Value} {aT : Cells} {ae : Value} {aU : Cells} {ax : Value} (az : List Int) (aA : List Span) (aB : List Int) (ag : List Town) (ab : Int) (ac : Int) (aC : List Flood) (watch : Int) (town : Int) (aG : Reads R aQ) (aH : Sl aQ au az) (aI : Reads R aR) (aJ : Sl aR av aA) (aK : Reads R aS) (aL : Sl aS aw aB) (aD : Reads R aT) (ao : Sl aT ae ag) (aM : Reads R aU) (aN : Sl aU ax aC) {r : (Int × Int × Int)} (hM : (zc6 az aA aB ag ab ac aC watch town).Ends r) (w : World) (H : St w w [] R) : Ret Try.prog 28 #[.agg #[au, av, aw, ae, I ab, I ac, ax], I watch, I town] w fun v w' => ∃ (y0 : Int) (y1 : Int) (y2 : Int), (y0, y1, y2) = r /\ v = .tuple #[.agg #[I y0, I y1], I y2] /\ St w w' [] R := by
 refine ret_of_W Try.func28 rfl rfl rfl ?_
 refine W.seq ?_
 refine W.region rfl ?_
 refine t_box (v := .agg #[au, av, aw, ae, I ab, I ac, ax]) (cs := [au, av, aw, ae, I ab, I ac, ax]) H rfl rfl ?_
 intro aa bu H
 refine t_alloc (cs := [I 0, I 0]) H Al27 rfl ?_
 intro bv bw H
 refine zA (I 0) rfl ?_
 refine s_nil ?_
 refine W.seq ?_
 refine W.region rfl ?_
 refine s_val (x_ld (p := Pq aa) (v := .agg #[au, av, aw, ae, I ab, I ac, ax]) rfl (ldb_ag (ds := [au, av, aw, ae, I ab, I ac, ax]) Ag30 Sz30 (H.bl 1) rfl rfl)) ?_
 obtain ⟨bx, aX, hM⟩ := M.e_bind hM
 refine s_call cf44 [.agg #[au, av, aw, ae, I ab, I ac, ax]] rfl (zbA az aA aB ag ab ac aC (aG.app _) aH (aI.app _) aJ (aK.app _) aL (aD.app _) ao (aM.app _) aN aX _ (H.gt 2)) ?_
 rintro vq bz (⟨r1, aY, hvq, ah⟩ | ⟨aV, aW, ak, al, bA, bB, aZ, hvq, ah⟩)
 ·subst aY
  subst vq
  try dsimp only at hM
  replace H := H.bk ah
  clear ah
  refine zM (.tuple #[.pointer none, I r1]) rfl ?_
  refine zX [.pointer none, I r1] (.pointer none) rfl rfl ?_
  refine zX [.pointer none, I r1] (I r1) rfl rfl ?_
  refine zA (.pointer none) rfl ?_
  refine zA (I r1) rfl ?_
  refine s_nil ?_
  refine W.seq ?_
  refine W.block ?_
  refine W.seq ?_
  refine W.region rfl ?_
  refine zM (I r1) rfl ?_
  refine zC r1 0 (r1 != 0) rfl rfl rfl ?_
  refine zA (B (r1 != 0)) rfl ?_
  refine s_nil ?_
  refine W.cond (r1 != 0) rfl (fun aE => ?_) (fun aE => ?_)
  ·replace hM := M.e_t hM aE
   simp only [qy1, qy2, qy3, qy4, qy5, qy6, ne_eq, qy7] at aE
   refine W.seq ?_
   refine W.region rfl ?_
   refine s_val (x_bld (ps := []) (zs := [I 0, I 0]) (L' := [I 0, I 0]) rfl Try.underlying27 Al27 rfl (Bd27 Try.underlying27) (.nil)) ?_
   refine zM (I r1) rfl ?_
   refine t_sw 0 0 [I 0, I 0] (.agg #[I 0, I 0]) H rfl rfl Sz27 rfl rfl rfl rfl ?_
   intro bC H
   refine zA (I r1) rfl ?_
   refine s_nil ?_
   refine W.ret ?_
   have a6 := (H.bl 0)
   have am := M.e_pure hM
   exact ⟨_, (resE_ofn (vs := [.agg #[I 0, I 0], I r1]) rfl rfl (.cell (v := .agg #[I 0, I 0]) rfl (run_loadVar_ag (ds := [I 0, I 0]) Ag27 Sz27 a6 rfl rfl) <| .tmp (v := I r1) rfl <| .nil)), ⟨0, 0, r1, am, rfl, (H.pk [])⟩⟩
  replace hM := M.e_f hM aE
  exact (M.e_fail hM).elim
 subst aZ
 subst vq
 try dsimp only at hM
 replace H := H.bk ah
 clear ah
 refine zM (.tuple #[Pq al, I ak]) rfl ?_
 refine zX [Pq al, I ak] (Pq al) rfl rfl ?_
 refine zX [Pq al, I ak] (I ak) rfl rfl ?_
 refine zA (Pq al) rfl ?_
 refine zA (I ak) rfl ?_
 refine s_nil ?_
 refine W.seq ?_
 refine W.block ?_
 refine W.seq ?_
 refine W.region rfl ?_
 refine zM (I ak) rfl ?_
 refine zC ak 0 (ak != 0) rfl rfl rfl ?_
 refine zA (B (ak != 0)) rfl ?_
 refine s_nil ?_
 refine W.cond (ak != 0) rfl (fun aF => ?_) (fun aF => ?_)
 ·replace hM := M.e_t hM aF
  exact (M.e_fail hM).elim
 replace hM := M.e_f hM aF
 simp only [qy1, qy2, qy3, qy4, qy5, qy6, ne_eq, qy7] at aF
 refine W.seq ?_
 refine W.region rfl ?_
 refine zM (Pq al) rfl ?_
 refine zM (I watch) rfl ?_
 obtain ⟨bD, a7, hM⟩ := M.e_bind hM
 refine s_call cf45 [Pq al, I watch] rfl (zdc az aA aB ag aV aW aC watch (aG.app _) aH (aI.app _) aJ (aK.app _) aL (aD.app _) ao (aM.app _) aN (Has.here (k := 0) rfl) a7 _ (H.gt 4)) ?_
 rintro vq bE ⟨r2, a8, hvq, ah⟩
 subst a8
 subst vq
 try dsimp only at hM
 replace H := H.bk ah
 clear ah
 refine s_val (x_not (b := r2) rfl) ?_
 refine zM (B (!r2)) rfl ?_
 refine g_val (!(!r2)) (gy_f rfl) (fun hg => x_mv (v := I town) rfl) ?_
 refine g_val (!(!r2)) (gy_f rfl) (fun hg => x_fa (a := Pq aa) (v := Oq aa 3) rfl (fa_blk (o := 0) Fd30_3 Sz25)) ?_
 refine g_val (!(!r2)) (gy_f rfl) (fun hg => x_ld (p := Oq aa 3) (v := ae) (gd_of (c := !(!r2)) hg (Oq aa 3)) (ldb_sc Sc25 (H.bl 3) rfl)) ?_
 have bF := (ao).len_le
 refine g_val (!(!r2)) (gy_f rfl) (fun hg => x_lenS T25.und (gd_of (c := !(!r2)) hg (ae)) ao) ?_
 refine g_val (!(!r2)) (gy_f rfl) (fun hg => x_ari (a := (ag.length : Int)) (b := 1) (r := (ag.length : Int) - 1) (gd_of (c := !(!r2)) hg (I (ag.length : Int))) rfl rfl (by first | omega | (have ba := hg; simp at ba; omega))) ?_
 obtain ⟨r3, bb, hM⟩ := M.e_bind hM
 refine t_gcall (!(!r2)) (gy_f rfl) cf37 (B r3) (fun _ => [I town, I 0, I ((ag.length : Int) - 1)]) (fun hg => lst3 (gd_of (c := !(!r2)) hg (I town)) rfl (gd_of (c := !(!r2)) hg (I ((ag.length : Int) - 1)))) H (fun hg => (zah town 0 ((ag.length : Int) - 1) (M.e_opt bb hg) _ (H.give (A := []) rfl)).mono fun v_ w_ ⟨y_, am, bc, H_⟩ => by subst am; exact ⟨bc, H.via H_⟩) ?_
 intro bG H
 refine g_val (!(!r2)) (gy_f rfl) (fun hg => x_not (b := r3) (gd_of (c := !(!r2)) hg (B r3))) ?_
 refine s_val (x_por (b := !r2) (r := !r3) rfl rfl (fun hb => gd_of (c := !(!r2)) (by first | exact hb | (rw [hb]; rfl) | simp_all) (B (!r3)))) ?_
 refine zA (B ((!r2) || (!r3))) rfl ?_
 refine s_nil ?_
 refine W.cond ((!r2) || (!r3)) rfl (fun aO => ?_) (fun aO => ?_)
 ·replace hM := M.e_t hM aO
  refine W.seq ?_
  refine W.region rfl ?_
  refine s_val (x_bld (ps := []) (zs := [I 0, I 0]) (L' := [I 0, I 0]) rfl Try.underlying27 Al27 rfl (Bd27 Try.underlying27) (.nil)) ?_
  refine t_sw 2 0 [I 0, I 0] (.agg #[I 0, I 0]) H rfl rfl Sz27 rfl rfl rfl rfl ?_
  intro bH H
  refine zA (I 2) rfl ?_
  refine s_nil ?_
  replace H := H.pk [2]
  refine W.ret ?_
  have bf := (H.bl 0)
  have am := M.e_pure hM
  exact ⟨_, (resE_ofn (vs := [.agg #[I 0, I 0], I 2]) rfl rfl (.cell (v := .agg #[I 0, I 0]) rfl (run_loadVar_ag (ds := [I 0, I 0]) Ag27 Sz27 bf rfl rfl) <| .tmp (v := I 2) rfl <| .nil)), ⟨0, 0, 2, am, rfl, (H.pk [])⟩⟩
 replace hM := M.e_f hM aO
 refine W.skip ?_
 refine W.seq ?_
 refine W.region rfl ?_
 refine zM (Pq al) rfl ?_
 refine zM (I watch) rfl ?_
 refine s_val (x_fa (a := Pq aa) (v := Oq aa 3) rfl (fa_blk (o := 0) Fd30_3 Sz25)) ?_
 refine s_val (x_ld (p := Oq aa 3) (v := ae) rfl (ldb_sc Sc25 (H.bl 3) rfl)) ?_
 refine zM (I town) rfl ?_
 obtain ⟨bg, hM⟩ := M.e_grd hM
 simp only [Bool.and_eq_true, decide_eq_true_eq] at bg
 refine s_val (x_ix (a := ae) (b := I town) (v := vat ae 3 (Int.toNat town)) rfl rfl (Sl.ix (α := Town) T25.und T25.size ao (by omega) (by omega))) ?_
 refine s_val (x_fa (a := vat ae 3 (Int.toNat town)) (v := fat (vat ae 3 (Int.toNat town)) 0) rfl (fa_pl Fd54_0 Sz3 (Sl.pl (i := town) ao (by omega) (by omega)))) ?_
 refine s_val (x_ld (p := fat (vat ae 3 (Int.toNat town)) 0) (v := I ((ag.getD (Int.toNat town) default).station)) rfl (ld_sc Sc3 (At.mono (Town_at0 ao (i := town) (by omega) (by omega)) (aD.at H)))) ?_
 obtain ⟨bI, bh, hM⟩ := M.e_bind hM
 refine s_call cf47 [Pq al, I watch, I ((ag.getD (Int.toNat town) default).station)] rfl (zcm az aA aB ag aV aW aC watch ((ag.getD (Int.toNat town) default).station) (aG.app _) aH (aI.app _) aJ (aK.app _) aL (aD.app _) ao (aM.app _) aN (Has.here (k := 0) rfl) bh _ (H.gt 4)) ?_
 rintro vq bJ ⟨ai, aj, aq, bi, hvq, ah⟩
 subst bi
 subst vq
 try dsimp only at hM
 replace H := H.bk ah
 clear ah
 refine zM (.tuple #[.agg #[I ai, I aj], B aq]) rfl ?_
 refine zX [.agg #[I ai, I aj], B aq] (.agg #[I ai, I aj]) rfl rfl ?_
 refine zX [.agg #[I ai, I aj], B aq] (B aq) rfl rfl ?_
 refine t_alloc (cs := [I 0, I 0]) H Al27 rfl ?_
 intro bj bK H
 refine t_sw 0 0 [I ai, I aj] (.agg #[I ai, I aj]) H rfl rfl Sz27 rfl rfl rfl rfl ?_
 intro bL H
 refine zA (B aq) rfl ?_
 refine s_nil ?_
 replace H := H.pk [0, 3, 4]
 refine W.seq ?_
 refine W.seq ?_
 refine W.region rfl ?_
 refine zM (B aq) rfl ?_
 refine s_val (x_not (b := aq) rfl) ?_
 refine s_nil ?_
 refine W.cond (!aq) rfl (fun aP => ?_) (fun aP => ?_)
 ·replace hM := M.e_t hM aP
  refine W.seq ?_
  refine W.region rfl ?_
  refine s_val (x_bld (ps := []) (zs := [I 0, I 0]) (L' := [I 0, I 0]) rfl Try.underlying27 Al27 rfl (Bd27 Try.underlying27) (.nil)) ?_
  refine t_sw 1 0 [I 0, I 0] (.agg #[I 0, I 0]) H rfl rfl Sz27 rfl rfl rfl rfl ?_
  intro bM H
  refine zA (I 5) rfl ?_
  refine s_nil ?_
  replace H := H.pk [1]
  refine W.ret ?_
  have bm := (H.bl 0)
  have am := M.e_pure hM
  exact ⟨_, (resE_ofn (vs := [.agg #[I 0, I 0], I 5]) rfl rfl (.cell (v := .agg #[I 0, I 0]) rfl (run_loadVar_ag (ds := [I 0, I 0]) Ag27 Sz27 bm rfl rfl) <| .tmp (v := I 5) rfl <| .nil)), ⟨0, 0, 5, am, rfl, (H.pk [])⟩⟩
 replace hM := M.e_f hM aP
 refine W.skip ?_
 refine W.seq ?_
 refine W.region rfl ?_
 refine s_val (x_ld (p := Pq bj) (v := .agg #[I ai, I aj]) rfl (ldb_ag (ds := [I ai, I aj]) Ag27 Sz27 (H.bl 0) rfl rfl)) ?_
 refine s_val (x_fa (a := Pq aa) (v := Oq aa 4) rfl (fa_blk (o := 0) Fd30_4 Sz27)) ?_
 refine s_val (x_fa (a := Oq aa 4) (v := Oq aa 5) rfl (fa_blk (o := 4) Fd27_1 Sz3)) ?_
 refine s_val (x_ld (p := Oq aa 5) (v := I ac) rfl (ldb_sc Sc3 (H.bl 2) rfl)) ?_
 obtain ⟨bn, hM⟩ := M.e_grd hM
 simp only [Bool.and_eq_true, decide_eq_true_eq] at bn
 refine s_val (x_neg (a := ac) rfl (by omega)) ?_
 refine s_val (x_fa (a := Pq aa) (v := Oq aa 4) rfl (fa_blk (o := 0) Fd30_4 Sz27)) ?_
 refine s_val (x_fa (a := Oq aa 4) (v := Oq aa 4) rfl (fa_blk (o := 4) Fd27_0 Sz3)) ?_
 refine s_val (x_ld (p := Oq aa 4) (v := I ab) rfl (ldb_sc Sc3 (H.bl 2) rfl)) ?_
 obtain ⟨bo, hM⟩ := M.e_grd hM
 simp only [Bool.and_eq_true, decide_eq_true_eq] at bo
 refine s_val (x_neg (a := ab) rfl (by omega)) ?_
 refine s_val (x_bld (ps := [(0, I (-ac)), (1, I (-ab))]) (zs := [I 0, I 0]) (L' := [I (-ac), I (-ab)]) rfl Try.underlying27 Al27 rfl (Bd27 Try.underlying27) (.cons (cs := [I (-ac)]) rfl rfl rfl rfl rfl <| .cons (cs := [I (-ab)]) rfl rfl rfl rfl rfl <| .nil)) ?_
 refine t_bs (α := Span) T24 [.agg #[I ai, I aj], .agg #[I (-ac), I (-ab)]] [(⟨(ai : Int), (aj : Int)⟩ : Span), (⟨(-ac : Int), (-ab : Int)⟩ : Span)] H rfl (.cons rfl (Flat.rep_enc _ (⟨(ai : Int), (aj : Int)⟩ : Span)) <| .cons rfl (Flat.rep_enc _ (⟨(-ac : Int), (-ab : Int)⟩ : Span)) <| .nil) rfl rfl rfl ?_
 intro bp bN H
 obtain ⟨bO, bq, hM⟩ := M.e_bind hM
 refine s_call cf59 [bp] rfl (zda ([(⟨(ai : Int), (aj : Int)⟩ : Span), (⟨(-ac : Int), (-ab : Int)⟩ : Span)]) (rdo 0) (H.os 0) bq _ (H.gt 4)) ?_
 rintro vq bP ⟨r0, ay, br, hvq, ah⟩
 subst br
 subst vq
 try dsimp only at hM
 replace H := H.bk ah
 clear ah
 refine t_sw 2 0 [I r0, I ay] (.agg #[I r0, I ay]) H rfl rfl Sz27 rfl rfl rfl rfl ?_
 intro bQ H
 refine zA (I 0) rfl ?_
 refine s_nil ?_
 replace H := H.pk [2]
 refine W.ret ?_
 have bt := (H.bl 0)
 have am := M.e_pure hM
 exact ⟨_, (resE_ofn (vs := [.agg #[I r0, I ay], I 0]) rfl rfl (.cell (v := .agg #[I r0, I ay]) rfl (run_loadVar_ag (ds := [I r0, I ay]) Ag27 Sz27 bt rfl rfl) <| .tmp (v := I 0) rfl <| .nil)), ⟨r0, ay, 0, am, rfl, (H.pk [])⟩⟩

def zbi (a : List Int) (b : List Int) : Nat -> M (Nat ⊕ (Unit ⊕ Unit)) := fun i =>
  bif decide ((i : Int) < (a.length : Int)) then (
  M.grd (decide ((i : Int) < (a.length : Int))) <|
  M.grd (decide ((i : Int) < (b.length : Int))) <|
  bif (a.getD i 0) != (b.getD i 0) then (
  M.pure (.inr (.inl ())))
  else (
  M.pure (.inl (i + 1))))
  else (
  M.pure (.inr (.inr ())))
def zae (a : List Int) (b : List Int) : M Bool :=
  bif (a.length : Int) != (b.length : Int) then (
  M.pure false)
  else (
  M.bind (M.iter (zbi a b) 0) fun x_ => match x_ with
  | (.inl (_ : Unit)) => (
  M.pure false)
  | (.inr (_ : Unit)) => (
  M.pure true))
theorem zai {R : List Chunk} {am : Cells} {aa : Value} {ao : Cells} {ab : Value} (a : List Int) (b : List Int) (aw : Reads R am) (ac : Sl am aa a) (ax : Reads R ao) (aj : Sl ao ab b) {r : Bool} (hM : (zae a b).Ends r) (w : World) (H : St w w [] R) : Ret Try.prog 18 #[aa, ab] w fun v w' => ∃ (y0 : Bool), y0 = r /\ v = B y0 /\ St w w' [] R := by
 refine ret_of_W Try.func18 rfl rfl rfl ?_
 refine W.seq ?_
 refine W.region rfl ?_
 refine zA (B false) rfl ?_
 refine s_nil ?_
 refine W.seq ?_
 refine W.seq ?_
 refine W.region rfl ?_
 refine zM aa rfl ?_
 have aF := (ac).len_le
 refine s_val (x_lenS T23.und rfl ac) ?_
 refine zM ab rfl ?_
 have aG := (aj).len_le
 refine s_val (x_lenS T23.und rfl aj) ?_
 refine zC (a.length : Int) (b.length : Int) ((a.length : Int) != (b.length : Int)) rfl rfl rfl ?_
 refine s_nil ?_
 refine W.cond ((a.length : Int) != (b.length : Int)) rfl (fun ae => ?_) (fun ae => ?_)
 ·replace hM := M.e_t hM ae
  simp only [qy1, qy2, qy3, qy4, qy5, qy6, ne_eq, qy7] at ae
  refine W.seq ?_
  refine W.region rfl ?_
  refine zA (B false) rfl ?_
  refine s_nil ?_
  refine W.ret ?_
  have ag := M.e_pure hM
  exact ⟨_, resE_tmp rfl, ⟨false, ag, rfl, H⟩⟩
 replace hM := M.e_f hM ae
 simp only [qy1, qy2, qy3, qy4, qy5, qy6, ne_eq, qy7] at ae
 refine W.skip ?_
 refine W.seq ?_
 refine W.seq ?_
 refine W.region rfl ?_
 refine zA (I 0) rfl ?_
 refine s_nil ?_
 refine W.block ?_
 obtain ⟨ay, ak, aq⟩ := M.e_bind hM
 obtain ⟨aH, ak⟩ := M.e_iter ak
 refine W.loop (fun m σ W => ∃ (i : Nat) (ρ : Env), σ = upds ρ [(0, aa), (1, ab), (5, I (i : Int))] /\ M.iterN (zbi a b) m i = some ay /\ St w W [] R) ?_ ?_
 ·exact ⟨_, 0, _, upds_of _ _ ⟨rfl, rfl, rfl, trivial⟩, ak, H⟩
 rintro aI σ aJ ⟨i, ρ, rfl, au, H⟩
 obtain ⟨az, aA, aK, hM, al⟩ := M.e_iterN au
 simp only [zbi] at hM
 clear au
 refine W.seq ?_
 refine W.seq ?_
 refine W.region rfl ?_
 refine zM (I (i : Int)) rfl ?_
 refine zM aa rfl ?_
 have aL := (ac).len_le
 refine s_val (x_lenS T23.und rfl ac) ?_
 refine zC (i : Int) (a.length : Int) (decide ((i : Int) < (a.length : Int))) rfl rfl rfl ?_
 refine s_nil ?_
 refine W.cond (decide ((i : Int) < (a.length : Int))) rfl (fun ah => ?_) (fun ah => ?_)
 ·replace hM := M.e_t hM ah
  simp only [qy1, qy2, qy3, qy4, qy5, qy6, ne_eq, qy7] at ah
  refine W.skip ?_
  refine W.seq ?_
  refine W.block ?_
  refine W.seq ?_
  refine W.draw (fun W => St w W [] R) [(0, true), (1, true), (2, true), (3, true), (4, true), (5, true), (6, true), (7, true), (8, true)] mixed (by decide +kernel) rfl ?_
  intro aM av
  replace H := H.ext av
  clear av
  refine ⟨(H.pk []), ?_⟩
  refine d_q rfl (fun w' H => x_mv (v := aa) rfl) ?_
  refine d_q rfl (fun w' H => x_mv (v := I (i : Int)) rfl) ?_
  obtain ⟨aB, hM⟩ := M.e_grd hM
  simp only [Bool.and_eq_true, decide_eq_true_eq] at aB
  refine d_q rfl (fun w' H => x_ix (a := aa) (b := I (i : Int)) (v := vat aa 1 (Int.toNat (i : Int))) rfl rfl (Sl.ix (α := Int) T23.und T23.size ac (by omega) (by omega))) ?_
  refine d_q rfl (fun w' H => x_ld (p := vat aa 1 (Int.toNat (i : Int))) (v := I (a.getD i 0)) rfl (ld_sc Sc3 (At.mono (Int_at ac (i := (i : Int)) (by omega) (by omega)) (aw.at H)))) ?_
  refine d_q rfl (fun w' H => x_mv (v := ab) rfl) ?_
  refine d_q rfl (fun w' H => x_mv (v := I (i : Int)) rfl) ?_
  obtain ⟨aC, hM⟩ := M.e_grd hM
  simp only [Bool.and_eq_true, decide_eq_true_eq] at aC
  refine d_q rfl (fun w' H => x_ix (a := ab) (b := I (i : Int)) (v := vat ab 1 (Int.toNat (i : Int))) rfl rfl (Sl.ix (α := Int) T23.und T23.size aj (by omega) (by omega))) ?_
  refine d_q rfl (fun w' H => x_ld (p := vat ab 1 (Int.toNat (i : Int))) (v := I (b.getD i 0)) rfl (ld_sc Sc3 (At.mono (Int_at aj (i := (i : Int)) (by omega) (by omega)) (ax.at H)))) ?_
  refine d_q rfl (fun w' H => x_cmp (kd := .i64) (a := a.getD i 0) (b := b.getD i 0) (r := (a.getD i 0) != (b.getD i 0)) rfl rfl rfl) ?_
  refine d_nil ?_
  refine W.cond ((a.getD i 0) != (b.getD i 0)) rfl (fun ai => ?_) (fun ai => ?_)
  ·replace hM := M.e_t hM ai
   simp only [qy1, qy2, qy3, qy4, qy5, qy6, ne_eq, qy7] at ai
   refine W.seq ?_
   refine W.region rfl ?_
   refine zA (B false) rfl ?_
   refine s_nil ?_
   refine W.ret ?_
   have aD := M.e_inr hM al
   subst aD
   replace hM := aq
   try dsimp only at hM
   have ag := M.e_pure hM
   exact ⟨_, resE_tmp rfl, ⟨false, ag, rfl, H⟩⟩
  replace hM := M.e_f hM ai
  simp only [qy1, qy2, qy3, qy4, qy5, qy6, ne_eq, qy7] at ai
  refine W.skip ?_
  refine W.region rfl ?_
  refine zM (I (i : Int)) rfl ?_
  refine zR (i : Int) 1 ((i : Int) + 1) rfl rfl rfl (by omega) ?_
  refine zA (I ((i : Int) + 1)) rfl ?_
  refine s_nil ?_
  exact ⟨az, aA, i + 1, _, upds_of _ _ ⟨rfl, rfl, rfl, trivial⟩, M.e_inl hM al, H⟩
 replace hM := M.e_f hM ah
 simp only [qy1, qy2, qy3, qy4, qy5, qy6, ne_eq, qy7] at ah
 refine W.exit ?_
 have aE := M.e_inr hM al
 subst aE
 replace hM := aq
 try dsimp only at hM
 refine W.seq ?_
 refine W.region rfl ?_
 refine zA (B true) rfl ?_
 refine s_nil ?_
 refine W.ret ?_
 have ag := M.e_pure hM
 exact ⟨_, resE_tmp rfl, ⟨true, ag, rfl, H⟩⟩

def zcH (watches : List Int) : ((List Bool) × Nat) -> M (((List Bool) × Nat) ⊕ (List Bool)) := fun (ar, s) =>
  bif decide ((s : Int) < (watches.length : Int)) then (
  M.grd (decide ((s : Int) < (watches.length : Int))) <|
  M.grd (decide ((0 : Int) <= (watches.getD s 0)) && decide ((watches.getD s 0) < (12 : Int))) <|
  M.pure (.inl (ar.set (Int.toNat (watches.getD s 0)) true, s + 1)))
  else (
  M.pure (.inr ar))
def zce (ab : Int) (ac : Int) (watches : List Int) (e : Int) : M (((List Bool) × Int) ⊕ (Int × Int × (List Bool) × Int)) :=
  bif e != 0 then (
  M.pure (.inl ((List.replicate 12 false), e)))
  else (
  M.bind (M.iter (zcH watches) (List.replicate 12 false, 0)) fun aa =>
  M.pure (.inl (aa, 0)))
def zbw (watches : List Int) : ((List Bool) × Nat) -> M (((List Bool) × Nat) ⊕ (List Bool)) := fun (ar, s) =>
  bif decide ((s : Int) < (watches.length : Int)) then (
  M.grd (decide ((s : Int) < (watches.length : Int))) <|
  M.grd (decide ((0 : Int) <= (watches.getD s 0)) && decide ((watches.getD s 0) < (12 : Int))) <|
  M.pure (.inl (ar.set (Int.toNat (watches.getD s 0)) true, s + 1)))
  else (
  M.pure (.inr ar))
def zbt (ae : List Int) (ag : List Span) (ah : List Int) (ai : List Town) (aj : Int) (ak : Int) (al : List Flood) (watches : List Int) (aa : Int) (ab : Int) (e2 : Int) : M (((List Bool) × Int) ⊕ (Int × Int × (List Bool) × Int)) :=
  bif e2 != 0 then (
  M.pure (.inl ((List.replicate 12 false), e2)))
  else (
  M.bind (M.iter (zbw watches) (List.replicate 12 false, 0)) fun ac =>
  M.pure (.inr (aa, ab, ac, 0)))
def zaM (aa : List Int) (ae : List Span) (ag : List Int) (ah : List Town) (ab : Int) (ac : Int) (ai : List Flood) (watches : List Int) : M (((List Bool) × Int) ⊕ (Int × Int × (List Bool) × Int)) :=
  M.bind (zap aa ae ag ah ab ac ai) fun x_ => match x_ with
  | (.inl r1) => (
  M.bind (M.opt (r1 == 0) (za0 watches (aa.length : Int)) false) fun r2 =>
  bif ((r1 == 0) && (!r2)) then (
  zce ab ac watches 2)
  else (
  zce ab ac watches r1))
  | (.inr (ak, al, aj)) => (
  M.bind (M.opt (aj == 0) (za0 watches (aa.length : Int)) false) fun r2 =>
  bif ((aj == 0) && (!r2)) then (
  zbt aa ae ag ah ab ac ai watches ak al 2)
  else (
  zbt aa ae ag ah ab ac ai watches ak al aj))
theorem zcK {R : List Chunk} {aV : Cells} {aa : Value} {aW : Cells} {ab : Value} {aX : Cells} {ac : Value} {aY : Cells} {ae : Value} {aZ : Cells} {ag : Value} {a6 : Cells} {am : Value} (aq : List Int) (az : List Span) (aA : List Int) (aB : List Town) (ai : Int) (aj : Int) (aC : List Flood) (watches : List Int) (bg : Reads R aV) (aI : Sl aV aa aq) (bh : Reads R aW) (bi : Sl aW ab az) (bj : Reads R aX) (bm : Sl aX ac aA) (bn : Reads R aY) (bo : Sl aY ae aB) (bp : Reads R aZ) (bq : Sl aZ ag aC) (aO : Reads R a6) (aF : Sl a6 am watches) {r : (((List Bool) × Int) ⊕ (Int × Int × (List Bool) × Int))} (hM : (zaM aq az aA aB ai aj aC watches).Ends r) (w : World) (H : St w w [] R) : Ret Try.prog 31 #[.agg #[aa, ab, ac, ae, I ai, I aj, ag], am] w fun v w' => (∃ (y0 : List Bool) (y1 : Int), (.inl (y0, y1)) = r /\ v = .tuple #[.pointer none, .agg (encB y0).toArray, I y1] /\ St w w' [] R /\ y0.length = 12) ∨ (∃ (y0 : Int) (y1 : Int) (y2 : List Bool) (y3 : Int) (a7 : Nat) (a8 : Nat) (br : Base), (.inr (y0, y1, y2, y3)) = r /\ v = .tuple #[Pq a7, .agg (encB y2).toArray, I y3] /\ St w w' [cBlk a7 [aa, ab, ac, ae, I y0, I y1, ag, .map (some a8)] 86, cMem encDm a8 br (zaa aq az aA aB y0 y1 aC)] R /\ y2.length = 12) := by
 refine ret_of_W Try.func31 rfl rfl rfl ?_
 refine W.seq ?_
 refine W.region rfl ?_
 refine t_box (v := .agg #[aa, ab, ac, ae, I ai, I aj, ag]) (cs := [aa, ab, ac, ae, I ai, I aj, ag]) H rfl rfl ?_
 intro al bV H
 refine zA (.pointer none) rfl ?_
 refine t_alloc (cs := encB (List.replicate 12 false)) H Al74 rfl ?_
 intro au bW H
 have aP : (List.replicate 12 false).length = 12 := by simp
 refine zA (I 0) rfl ?_
 refine s_nil ?_
 refine W.seq ?_
 refine W.region rfl ?_
 refine t_alloc (cs := encB (List.replicate 12 false)) H Al74 rfl ?_
 intro ah bX H
 have aG : (List.replicate 12 false).length = 12 := by simp
 refine s_nil ?_
 refine W.seq ?_
 refine W.region rfl ?_
 refine s_val (x_ld (p := Pq al) (v := .agg #[aa, ab, ac, ae, I ai, I aj, ag]) rfl (ldb_ag (ds := [aa, ab, ac, ae, I ai, I aj, ag]) Ag30 Sz30 (H.bl 2) rfl rfl)) ?_
 obtain ⟨bY, bt, hM⟩ := M.e_bind hM
 refine s_call cf44 [.agg #[aa, ab, ac, ae, I ai, I aj, ag]] rfl (zbA aq az aA aB ai aj aC (bg.app _) aI (bh.app _) bi (bj.app _) bm (bn.app _) bo (bp.app _) bq bt _ (H.gt 3)) ?_
 rintro vq bZ (⟨r1, bu, hvq, aJ⟩ | ⟨av, aw, ak, ao, ax, aH, bv, hvq, aJ⟩)
 ·subst bu
  subst vq
  try dsimp only at hM
  replace H := H.bk aJ
  clear aJ
  refine zM (.tuple #[.pointer none, I r1]) rfl ?_
  refine zX [.pointer none, I r1] (.pointer none) rfl rfl ?_
  refine zX [.pointer none, I r1] (I r1) rfl rfl ?_
  refine zA (.pointer none) rfl ?_
  refine zA (I r1) rfl ?_
  refine s_nil ?_
  refine W.seqJ (fun σ W => ∃ (e : Int) (ρ : Env), σ = upds ρ [(1, am), (5, Pq au), (7, Pq ah), (8, .pointer none), (9, I e)] /\ (zce ai aj watches e).Ends r /\ St w W [cBlk ah (encB (List.replicate 12 false)) 74, cBlk au (encB (List.replicate 12 false)) 74, cBlk al [aa, ab, ac, ae, I ai, I aj, ag] 30] R) ?_ ?_
  ·skip
   refine W.seq ?_
   refine W.region rfl ?_
   refine zM (I r1) rfl ?_
   refine zC r1 0 (r1 == 0) rfl rfl rfl ?_
   refine zM (B (r1 == 0)) rfl ?_
   refine g_val (r1 == 0) (gy_t rfl) (fun hg => x_mv (v := am) rfl) ?_
   refine g_val (r1 == 0) (gy_t rfl) (fun hg => x_fa (a := Pq al) (v := Pq al) rfl (fa_blk (o := 0) Fd30_0 Sz23)) ?_
   refine g_val (r1 == 0) (gy_t rfl) (fun hg => x_ld (p := Pq al) (v := aa) (gd_of (c := r1 == 0) hg (Pq al)) (ldb_sc Sc23 (H.bl 2) rfl)) ?_
   have b4 := (aI).len_le
   refine g_val (r1 == 0) (gy_t rfl) (fun hg => x_lenS T23.und (gd_of (c := r1 == 0) hg (aa)) aI) ?_
   obtain ⟨r2, bw, hM⟩ := M.e_bind hM
   refine t_gcall (r1 == 0) (gy_t rfl) cf62 (B r2) (fun _ => [am, I (aq.length : Int)]) (fun hg => lst2 (gd_of (c := r1 == 0) hg (am)) (gd_of (c := r1 == 0) hg (I (aq.length : Int)))) H (fun hg => (zcv watches (aq.length : Int) (aO.app _) aF (M.e_opt bw hg) _ (H.give (A := []) rfl)).mono fun v_ w_ ⟨y_, aD, aQ, H_⟩ => by subst aD; exact ⟨aQ, H.via H_⟩) ?_
   intro b5 H
   refine g_val (r1 == 0) (gy_t rfl) (fun hg => x_not (b := r2) (gd_of (c := r1 == 0) hg (B r2))) ?_
   refine s_val (x_pand (b := r1 == 0) (r := !r2) rfl (fun hb => gd_of (c := r1 == 0) (by first | exact hb | (rw [hb]; rfl) | simp_all) (B (!r2))) rfl) ?_
   refine s_nil ?_
   refine W.cond ((r1 == 0) && (!r2)) rfl (fun aR => ?_) (fun aR => ?_)
   ·replace hM := M.e_t hM aR
    refine W.region rfl ?_
    refine zA (I 2) rfl ?_
    refine s_nil ?_
    exact ⟨2, _, upds_of _ _ ⟨rfl, rfl, rfl, rfl, rfl, trivial⟩, hM, H⟩
   replace hM := M.e_f hM aR
   refine W.skip ?_
   exact ⟨r1, _, upds_of _ _ ⟨rfl, rfl, rfl, rfl, rfl, trivial⟩, hM, H⟩
  rintro _ b6 ⟨e, ρ, rfl, hM, H⟩
  unfold zce at hM
  refine W.seq ?_
  refine W.seq ?_
  refine W.region rfl ?_
  refine zM (I e) rfl ?_
  refine zC e 0 (e != 0) rfl rfl rfl ?_
  refine s_nil ?_
  refine W.cond (e != 0) rfl (fun aK => ?_) (fun aK => ?_)
  ·replace hM := M.e_t hM aK
   simp only [qy1, qy2, qy3, qy4, qy5, qy6, ne_eq, qy7] at aK
   refine W.seq ?_
   refine W.draw (fun W => St w W [cBlk ah (encB (List.replicate 12 false)) 74, cBlk al [aa, ab, ac, ae, I ai, I aj, ag] 30] R) [(0, true), (1, true), (2, true), (3, false), (4, true)] mixed (by decide +kernel) rfl ?_
   intro b7 aE
   replace H := H.ext aE
   clear aE
   refine ⟨(H.pk [0, 2]), ?_⟩
   refine d_q rfl (fun w' H => x_ld (p := Pq ah) (v := .agg (encB (List.replicate 12 false)).toArray) rfl (ldArrA Ag74 Sz74 aG (H.bl 0))) ?_
   refine d_q rfl (fun w' H => x_mv (v := I e) rfl) ?_
   refine d_q rfl (fun w' H => x_as (v := .pointer none) rfl) ?_
   refine d_l rfl ?_
   refine t_stArrA (k := 1) (b := au) (l := List.replicate 12 false) (l' := List.replicate 12 false) (L' := [cBlk ah (encB (List.replicate 12 false)) 74, cBlk au (encB (List.replicate 12 false)) 74, cBlk al [aa, ab, ac, ae, I ai, I aj, ag] 30]) H rfl rfl rfl Sz74 aP aG rfl ?_
   intro b8 H
   refine s_nil ⟨(H.pk [0, 2]), ?_⟩
   refine d_q rfl (fun w' H => x_as (v := I e) rfl) ?_
   refine d_nil ?_
   replace H := H.pk [1]
   refine W.ret ?_
   have bx := (H.bl 0)
   have aD := M.e_pure hM
   exact ⟨_, (resE_ofn (vs := [.pointer none, .agg (encB (List.replicate 12 false)).toArray, I e]) rfl rfl (.tmp (v := .pointer none) rfl <| .cell (v := .agg (encB (List.replicate 12 false)).toArray) rfl (run_loadVar_arr Ag74 Sz74 aG bx) <| .tmp (v := I e) rfl <| .nil)), .inl (⟨(List.replicate 12 false), e, aD, rfl, (H.pk []), aG⟩)⟩
  replace hM := M.e_f hM aK
  simp only [qy1, qy2, qy3, qy4, qy5, qy6, ne_eq, qy7] at aK
  refine W.skip ?_
  refine W.seq ?_
  refine W.seq ?_
  refine W.region rfl ?_
  refine zM am rfl ?_
  have b9 := (aF).len_le
  refine s_val (x_lenS T23.und rfl aF) ?_
  refine zM (I 0) rfl ?_
  refine s_nil ?_
  refine W.block ?_
  obtain ⟨bz, aS, bA⟩ := M.e_bind hM
  obtain ⟨bB, aS⟩ := M.e_iter aS
  refine W.loop (fun m σ W => ∃ (ar : List Bool) (s : Nat) (ρ : Env), σ = upds ρ [(5, Pq au), (7, Pq ah), (8, .pointer none), (31, am), (32, I (watches.length : Int)), (33, I (s : Int))] /\ M.iterN (zcH watches) m (ar, s) = some bz /\ St w W [cBlk ah (encB ar) 74, cBlk au (encB (List.replicate 12 false)) 74, cBlk al [aa, ab, ac, ae, I ai, I aj, ag] 30] R /\ ar.length = 12) ?_ ?_
  ·exact ⟨_, List.replicate 12 false, 0, _, upds_of _ _ ⟨rfl, rfl, rfl, rfl, rfl, rfl, trivial⟩, aS, H, aG⟩
  rintro ca σ cb ⟨ar, s, ρ, rfl, ba, H, ay⟩
  obtain ⟨bC, bD, cc, hM, bb⟩ := M.e_iterN ba
  simp only [zcH] at hM
  clear ba
  refine W.seq ?_
  refine W.region rfl ?_
  refine zC (s : Int) (watches.length : Int) (decide ((s : Int) < (watches.length : Int))) rfl rfl rfl ?_
  refine s_nil ?_
  refine W.seq ?_
  refine W.cond (decide ((s : Int) < (watches.length : Int))) rfl (fun aL => ?_) (fun aL => ?_)
  ·replace hM := M.e_t hM aL
   simp only [qy1, qy2, qy3, qy4, qy5, qy6, ne_eq, qy7] at aL
   refine W.skip ?_
   refine W.seq ?_
   refine W.block ?_
   refine W.seq ?_
   refine W.region rfl ?_
   obtain ⟨bE, hM⟩ := M.e_grd hM
   simp only [Bool.and_eq_true, decide_eq_true_eq] at bE
   refine s_val (x_ix (a := am) (b := I (s : Int)) (v := vat am 1 (Int.toNat (s : Int))) rfl rfl (Sl.ix (α := Int) T23.und T23.size aF (by omega) (by omega))) ?_
   refine s_val (x_ld (p := vat am 1 (Int.toNat (s : Int))) (v := I (watches.getD s 0)) rfl (ld_sc Sc3 (At.mono (Int_at aF (i := (s : Int)) (by omega) (by omega)) (aO.at H)))) ?_
   refine zA (I (watches.getD s 0)) rfl ?_
   refine s_nil ?_
   refine W.region rfl ?_
   refine zM (I (watches.getD s 0)) rfl ?_
   obtain ⟨bF, hM⟩ := M.e_grd hM
   simp only [Bool.and_eq_true, decide_eq_true_eq] at bF
   refine s_val (x_ix (a := Pq ah) (b := I (watches.getD s 0)) (v := .pointer (some ⟨ah, 0 + Int.toNat (watches.getD s 0), none⟩)) rfl rfl (run_indexArr Try.underlying74 Sz4 (by omega) (by omega))) ?_
   refine t_stArr (k := 0) (b := ah) (l := ar) (l' := ar.set (Int.toNat (watches.getD s 0)) true) (i := watches.getD s 0) (v := true) (L' := [cBlk ah (encB (ar.set (Int.toNat (watches.getD s 0)) true)) 74, cBlk au (encB (List.replicate 12 false)) 74, cBlk al [aa, ab, ac, ae, I ai, I aj, ag] 30]) H rfl rfl rfl Sz4 (by omega) (by have bG := ay; omega) rfl rfl ?_
   intro cd H
   have bH : (ar.set (Int.toNat (watches.getD s 0)) true).length = 12 := List.length_set.trans ay
   refine s_nil ?_
   refine W.region rfl ?_
   refine zR (s : Int) 1 ((s : Int) + 1) rfl rfl rfl (by omega) ?_
   refine zM (I ((s : Int) + 1)) rfl ?_
   refine s_nil ?_
   exact ⟨bC, bD, ar.set (Int.toNat (watches.getD s 0)) true, s + 1, _, upds_of _ _ ⟨rfl, rfl, rfl, rfl, rfl, rfl, trivial⟩, M.e_inl hM bb, H, bH⟩
  replace hM := M.e_f hM aL
  simp only [qy1, qy2, qy3, qy4, qy5, qy6, ne_eq, qy7] at aL
  refine W.exit ?_
  have bI := M.e_inr hM bb
  subst bI
  replace hM := bA
  try dsimp only at hM
  refine W.seq ?_
  refine W.draw (fun W => St w W [cBlk ah (encB ar) 74, cBlk al [aa, ab, ac, ae, I ai, I aj, ag] 30] R) [(0, true), (1, true), (2, true), (3, false), (4, true)] mixed (by decide +kernel) rfl ?_
  intro ce aE
  replace H := H.ext aE
  clear aE
  refine ⟨(H.pk [0, 2]), ?_⟩
  refine d_q rfl (fun w' H => x_mv (v := .pointer none) rfl) ?_
  refine d_q rfl (fun w' H => x_ld (p := Pq ah) (v := .agg (encB ar).toArray) rfl (ldArrA Ag74 Sz74 ay (H.bl 0))) ?_
  refine d_q rfl (fun w' H => x_as (v := .pointer none) rfl) ?_
  refine d_l rfl ?_
  refine t_stArrA (k := 1) (b := au) (l := List.replicate 12 false) (l' := ar) (L' := [cBlk ah (encB ar) 74, cBlk au (encB ar) 74, cBlk al [aa, ab, ac, ae, I ai, I aj, ag] 30]) H rfl rfl rfl Sz74 aP ay rfl ?_
  intro cf H
  refine s_nil ⟨(H.pk [0, 2]), ?_⟩
  refine d_q rfl (fun w' H => x_as (v := I 0) rfl) ?_
  refine d_nil ?_
  replace H := H.pk [1]
  refine W.ret ?_
  have bJ := (H.bl 0)
  have aD := M.e_pure hM
  exact ⟨_, (resE_ofn (vs := [.pointer none, .agg (encB ar).toArray, I 0]) rfl rfl (.tmp (v := .pointer none) rfl <| .cell (v := .agg (encB ar).toArray) rfl (run_loadVar_arr Ag74 Sz74 ay bJ) <| .tmp (v := I 0) rfl <| .nil)), .inl (⟨ar, 0, aD, rfl, (H.pk []), ay⟩)⟩
 subst bv
 subst vq
 try dsimp only at hM
 replace H := H.bk aJ
 clear aJ
 refine zM (.tuple #[Pq ao, I ak]) rfl ?_
 refine zX [Pq ao, I ak] (Pq ao) rfl rfl ?_
 refine zX [Pq ao, I ak] (I ak) rfl rfl ?_
 refine zA (Pq ao) rfl ?_
 refine zA (I ak) rfl ?_
 refine s_nil ?_
 refine W.seqJ (fun σ W => ∃ (e2 : Int) (ρ : Env), σ = upds ρ [(1, am), (5, Pq au), (7, Pq ah), (8, Pq ao), (9, I e2)] /\ (zbt aq az aA aB ai aj aC watches av aw e2).Ends r /\ St w W [cBlk ao [aa, ab, ac, ae, I av, I aw, ag, .map (some ax)] 86, cMem encDm ax aH (zaa aq az aA aB av aw aC), cBlk ah (encB (List.replicate 12 false)) 74, cBlk au (encB (List.replicate 12 false)) 74, cBlk al [aa, ab, ac, ae, I ai, I aj, ag] 30] R) ?_ ?_
 ·skip
  refine W.seq ?_
  refine W.region rfl ?_
  refine zM (I ak) rfl ?_
  refine zC ak 0 (ak == 0) rfl rfl rfl ?_
  refine zM (B (ak == 0)) rfl ?_
  refine g_val (ak == 0) (gy_t rfl) (fun hg => x_mv (v := am) rfl) ?_
  refine g_val (ak == 0) (gy_t rfl) (fun hg => x_fa (a := Pq al) (v := Pq al) rfl (fa_blk (o := 0) Fd30_0 Sz23)) ?_
  refine g_val (ak == 0) (gy_t rfl) (fun hg => x_ld (p := Pq al) (v := aa) (gd_of (c := ak == 0) hg (Pq al)) (ldb_sc Sc23 (H.bl 4) rfl)) ?_
  have cg := (aI).len_le
  refine g_val (ak == 0) (gy_t rfl) (fun hg => x_lenS T23.und (gd_of (c := ak == 0) hg (aa)) aI) ?_
  obtain ⟨r2, bK, hM⟩ := M.e_bind hM
  refine t_gcall (ak == 0) (gy_t rfl) cf62 (B r2) (fun _ => [am, I (aq.length : Int)]) (fun hg => lst2 (gd_of (c := ak == 0) hg (am)) (gd_of (c := ak == 0) hg (I (aq.length : Int)))) H (fun hg => (zcv watches (aq.length : Int) (aO.app _) aF (M.e_opt bK hg) _ (H.give (A := []) rfl)).mono fun v_ w_ ⟨y_, aD, aQ, H_⟩ => by subst aD; exact ⟨aQ, H.via H_⟩) ?_
  intro ch H
  refine g_val (ak == 0) (gy_t rfl) (fun hg => x_not (b := r2) (gd_of (c := ak == 0) hg (B r2))) ?_
  refine s_val (x_pand (b := ak == 0) (r := !r2) rfl (fun hb => gd_of (c := ak == 0) (by first | exact hb | (rw [hb]; rfl) | simp_all) (B (!r2))) rfl) ?_
  refine s_nil ?_
  refine W.cond ((ak == 0) && (!r2)) rfl (fun aT => ?_) (fun aT => ?_)
  ·replace hM := M.e_t hM aT
   refine W.region rfl ?_
   refine zA (I 2) rfl ?_
   refine s_nil ?_
   exact ⟨2, _, upds_of _ _ ⟨rfl, rfl, rfl, rfl, rfl, trivial⟩, hM, H⟩
  replace hM := M.e_f hM aT
  refine W.skip ?_
  exact ⟨ak, _, upds_of _ _ ⟨rfl, rfl, rfl, rfl, rfl, trivial⟩, hM, H⟩
 rintro _ ck ⟨e2, ρ, rfl, hM, H⟩
 unfold zbt at hM
 refine W.seq ?_
 refine W.seq ?_
 refine W.region rfl ?_
 refine zM (I e2) rfl ?_
 refine zC e2 0 (e2 != 0) rfl rfl rfl ?_
 refine s_nil ?_
 refine W.cond (e2 != 0) rfl (fun aM => ?_) (fun aM => ?_)
 ·replace hM := M.e_t hM aM
  simp only [qy1, qy2, qy3, qy4, qy5, qy6, ne_eq, qy7] at aM
  refine W.seq ?_
  refine W.draw (fun W => St w W [cBlk ao [aa, ab, ac, ae, I av, I aw, ag, .map (some ax)] 86, cMem encDm ax aH (zaa aq az aA aB av aw aC), cBlk ah (encB (List.replicate 12 false)) 74, cBlk al [aa, ab, ac, ae, I ai, I aj, ag] 30] R) [(0, true), (1, true), (2, true), (3, false), (4, true)] mixed (by decide +kernel) rfl ?_
  intro cm aE
  replace H := H.ext aE
  clear aE
  refine ⟨(H.pk [0, 1, 2, 4]), ?_⟩
  refine d_q rfl (fun w' H => x_ld (p := Pq ah) (v := .agg (encB (List.replicate 12 false)).toArray) rfl (ldArrA Ag74 Sz74 aG (H.bl 2))) ?_
  refine d_q rfl (fun w' H => x_mv (v := I e2) rfl) ?_
  refine d_q rfl (fun w' H => x_as (v := .pointer none) rfl) ?_
  refine d_l rfl ?_
  refine t_stArrA (k := 3) (b := au) (l := List.replicate 12 false) (l' := List.replicate 12 false) (L' := [cBlk ao [aa, ab, ac, ae, I av, I aw, ag, .map (some ax)] 86, cMem encDm ax aH (zaa aq az aA aB av aw aC), cBlk ah (encB (List.replicate 12 false)) 74, cBlk au (encB (List.replicate 12 false)) 74, cBlk al [aa, ab, ac, ae, I ai, I aj, ag] 30]) H rfl rfl rfl Sz74 aP aG rfl ?_
  intro cn H
  refine s_nil ⟨(H.pk [0, 1, 2, 4]), ?_⟩
  refine d_q rfl (fun w' H => x_as (v := I e2) rfl) ?_
  refine d_nil ?_
  replace H := H.pk [3]
  refine W.ret ?_
  have bL := (H.bl 0)
  have aD := M.e_pure hM
  exact ⟨_, (resE_ofn (vs := [.pointer none, .agg (encB (List.replicate 12 false)).toArray, I e2]) rfl rfl (.tmp (v := .pointer none) rfl <| .cell (v := .agg (encB (List.replicate 12 false)).toArray) rfl (run_loadVar_arr Ag74 Sz74 aG bL) <| .tmp (v := I e2) rfl <| .nil)), .inl (⟨(List.replicate 12 false), e2, aD, rfl, (H.pk []), aG⟩)⟩
 replace hM := M.e_f hM aM
 simp only [qy1, qy2, qy3, qy4, qy5, qy6, ne_eq, qy7] at aM
 refine W.skip ?_
 refine W.seq ?_
 refine W.seq ?_
 refine W.region rfl ?_
 refine zM am rfl ?_
 have co := (aF).len_le
 refine s_val (x_lenS T23.und rfl aF) ?_
 refine zM (I 0) rfl ?_
 refine s_nil ?_
 refine W.block ?_
 obtain ⟨bM, aU, bN⟩ := M.e_bind hM
 obtain ⟨bB, aU⟩ := M.e_iter aU
 refine W.loop (fun m σ W => ∃ (ar : List Bool) (s : Nat) (ρ : Env), σ = upds ρ [(5, Pq au), (7, Pq ah), (8, Pq ao), (31, am), (32, I (watches.length : Int)), (33, I (s : Int))] /\ M.iterN (zbw watches) m (ar, s) = some bM /\ St w W [cBlk ao [aa, ab, ac, ae, I av, I aw, ag, .map (some ax)] 86, cMem encDm ax aH (zaa aq az aA aB av aw aC), cBlk ah (encB ar) 74, cBlk au (encB (List.replicate 12 false)) 74, cBlk al [aa, ab, ac, ae, I ai, I aj, ag] 30] R /\ ar.length = 12) ?_ ?_
 ·exact ⟨_, List.replicate 12 false, 0, _, upds_of _ _ ⟨rfl, rfl, rfl, rfl, rfl, rfl, trivial⟩, aU, H, aG⟩
 rintro cp σ cq ⟨ar, s, ρ, rfl, bc, H, ay⟩
 obtain ⟨bO, bP, ct, hM, bf⟩ := M.e_iterN bc
 simp only [zbw] at hM
 clear bc
 refine W.seq ?_
 refine W.region rfl ?_
 refine zC (s : Int) (watches.length : Int) (decide ((s : Int) < (watches.length : Int))) rfl rfl rfl ?_
 refine s_nil ?_
 refine W.seq ?_
 refine W.cond (decide ((s : Int) < (watches.length : Int))) rfl (fun aN => ?_) (fun aN => ?_)
 ·replace hM := M.e_t hM aN
  simp only [qy1, qy2, qy3, qy4, qy5, qy6, ne_eq, qy7] at aN
  refine W.skip ?_
  refine W.seq ?_
  refine W.block ?_
  refine W.seq ?_
  refine W.region rfl ?_
  obtain ⟨bQ, hM⟩ := M.e_grd hM
  simp only [Bool.and_eq_true, decide_eq_true_eq] at bQ
  refine s_val (x_ix (a := am) (b := I (s : Int)) (v := vat am 1 (Int.toNat (s : Int))) rfl rfl (Sl.ix (α := Int) T23.und T23.size aF (by omega) (by omega))) ?_
  refine s_val (x_ld (p := vat am 1 (Int.toNat (s : Int))) (v := I (watches.getD s 0)) rfl (ld_sc Sc3 (At.mono (Int_at aF (i := (s : Int)) (by omega) (by omega)) (aO.at H)))) ?_
  refine zA (I (watches.getD s 0)) rfl ?_
  refine s_nil ?_
  refine W.region rfl ?_
  refine zM (I (watches.getD s 0)) rfl ?_
  obtain ⟨bR, hM⟩ := M.e_grd hM
  simp only [Bool.and_eq_true, decide_eq_true_eq] at bR
  refine s_val (x_ix (a := Pq ah) (b := I (watches.getD s 0)) (v := .pointer (some ⟨ah, 0 + Int.toNat (watches.getD s 0), none⟩)) rfl rfl (run_indexArr Try.underlying74 Sz4 (by omega) (by omega))) ?_
  refine t_stArr (k := 2) (b := ah) (l := ar) (l' := ar.set (Int.toNat (watches.getD s 0)) true) (i := watches.getD s 0) (v := true) (L' := [cBlk ao [aa, ab, ac, ae, I av, I aw, ag, .map (some ax)] 86, cMem encDm ax aH (zaa aq az aA aB av aw aC), cBlk ah (encB (ar.set (Int.toNat (watches.getD s 0)) true)) 74, cBlk au (encB (List.replicate 12 false)) 74, cBlk al [aa, ab, ac, ae, I ai, I aj, ag] 30]) H rfl rfl rfl Sz4 (by omega) (by have bG := ay; omega) rfl rfl ?_
  intro cu H
  have bS : (ar.set (Int.toNat (watches.getD s 0)) true).length = 12 := List.length_set.trans ay
  refine s_nil ?_
  refine W.region rfl ?_
  refine zR (s : Int) 1 ((s : Int) + 1) rfl rfl rfl (by omega) ?_
  refine zM (I ((s : Int) + 1)) rfl ?_
  refine s_nil ?_
  exact ⟨bO, bP, ar.set (Int.toNat (watches.getD s 0)) true, s + 1, _, upds_of _ _ ⟨rfl, rfl, rfl, rfl, rfl, rfl, trivial⟩, M.e_inl hM bf, H, bS⟩
 replace hM := M.e_f hM aN
 simp only [qy1, qy2, qy3, qy4, qy5, qy6, ne_eq, qy7] at aN
 refine W.exit ?_
 have bT := M.e_inr hM bf
 subst bT
 replace hM := bN
 try dsimp only at hM
 refine W.seq ?_
 refine W.draw (fun W => St w W [cBlk ao [aa, ab, ac, ae, I av, I aw, ag, .map (some ax)] 86, cMem encDm ax aH (zaa aq az aA aB av aw aC), cBlk ah (encB ar) 74, cBlk al [aa, ab, ac, ae, I ai, I aj, ag] 30] R) [(0, true), (1, true), (2, true), (3, false), (4, true)] mixed (by decide +kernel) rfl ?_
 intro cw aE
 replace H := H.ext aE
 clear aE
 refine ⟨(H.pk [0, 1, 2, 4]), ?_⟩
 refine d_q rfl (fun w' H => x_mv (v := Pq ao) rfl) ?_
 refine d_q rfl (fun w' H => x_ld (p := Pq ah) (v := .agg (encB ar).toArray) rfl (ldArrA Ag74 Sz74 ay (H.bl 2))) ?_
 refine d_q rfl (fun w' H => x_as (v := Pq ao) rfl) ?_
 refine d_l rfl ?_
 refine t_stArrA (k := 3) (b := au) (l := List.replicate 12 false) (l' := ar) (L' := [cBlk ao [aa, ab, ac, ae, I av, I aw, ag, .map (some ax)] 86, cMem encDm ax aH (zaa aq az aA aB av aw aC), cBlk ah (encB ar) 74, cBlk au (encB ar) 74, cBlk al [aa, ab, ac, ae, I ai, I aj, ag] 30]) H rfl rfl rfl Sz74 aP ay rfl ?_
 intro cx H
 refine s_nil ⟨(H.pk [0, 1, 2, 4]), ?_⟩
 refine d_q rfl (fun w' H => x_as (v := I 0) rfl) ?_
 refine d_nil ?_
 replace H := H.pk [0, 1, 3]
 refine W.ret ?_
 have bU := (H.bl 2)
 have aD := M.e_pure hM
 exact ⟨_, (resE_ofn (vs := [Pq ao, .agg (encB ar).toArray, I 0]) rfl rfl (.tmp (v := Pq ao) rfl <| .cell (v := .agg (encB ar).toArray) rfl (run_loadVar_arr Ag74 Sz74 ay bU) <| .tmp (v := I 0) rfl <| .nil)), .inr (⟨av, aw, ar, 0, ao, ax, aH, aD, rfl, (H.pk [0, 1]), ay⟩)⟩

def zbn (t : Town) (ab : Int) (ae : Int) (ac : List Int) (aa : Int) : M Bool :=
  M.grd ((!(t.station == ab) || (decide ((0 : Int) <= aa) && decide (aa < (ac.length : Int))))) <|
  M.pure ((t.station == ab) && (decide (t.alarm <= (ac.getD (Int.toNat aa) 0))))
theorem zc7 {R : List Chunk} {al : Nat} {ak : Nat} {ao : Cells} {ah : Value} {am : Nat} (t : Town) (aa : Int) (aq : Int) (ae : List Int) (ab : Int) (av : Has R (cBlk al [I aa] 3)) (aw : Reads R ao) (au : Sl ao ah ae) (ax : Has R (cBlk ak [I aq, ah] 67)) (ay : Has R (cBlk am [I ab] 3)) {r : Bool} (hM : (zbn t aa aq ae ab).Ends r) (w : World) (H : St w w [] R) : Ret Try.prog 64 #[.agg #[I t.station, I t.lead, I t.alarm], Pq al, Pq ak, Pq am] w fun v w' => ∃ (y0 : Bool), y0 = r /\ v = B y0 /\ St w w' [] R := by
 refine ret_of_W Try.func64 rfl rfl rfl ?_
 refine W.seq ?_
 refine W.region rfl ?_
 refine t_box (v := .agg #[I t.station, I t.lead, I t.alarm]) (cs := [I t.station, I t.lead, I t.alarm]) H rfl rfl ?_
 intro ai aA H
 refine zA (B false) rfl ?_
 refine s_nil ?_
 refine W.seq ?_
 refine W.draw (fun W => St w W [cBlk ai [I t.station, I t.lead, I t.alarm] 54] R) [(0, true), (1, true), (2, true), (3, true), (4, true), (5, true), (6, true), (7, true), (8, true), (9, true), (10, true), (11, true), (12, true), (13, true), (14, true)] mixed (by decide +kernel) rfl ?_
 intro aB ag
 replace H := H.ext ag
 clear ag
 refine ⟨(H.pk [0]), ?_⟩
 refine d_q rfl (fun w' H => x_fa (a := Pq ai) (v := Pq ai) rfl (fa_blk (o := 0) Fd54_0 Sz3)) ?_
 refine d_q rfl (fun w' H => x_ld (p := Pq ai) (v := I t.station) rfl (ldb_sc Sc3 (H.bl 0) rfl)) ?_
 refine d_q rfl (fun w' H => x_ld (p := Pq al) (v := I aa) rfl (ldb_sc Sc3 (av.blk H) rfl)) ?_
 refine d_q rfl (fun w' H => x_cmp (kd := .i64) (a := t.station) (b := aa) (r := t.station == aa) rfl rfl rfl) ?_
 refine d_q rfl (fun w' H => x_mv (v := B (t.station == aa)) rfl) ?_
 refine d_qg (t.station == aa) rfl (gy_t rfl) (fun hg => (fun w' H => x_fa (a := Pq ak) (v := Oq ak 1) rfl (fa_blk (o := 0) Fd67_1 Sz23))) ?_
 refine d_qg (t.station == aa) rfl (gy_t rfl) (fun hg => (fun w' H => x_ld (p := Oq ak 1) (v := ah) (gd_of (c := t.station == aa) hg (Oq ak 1)) (ldb_sc Sc23 (ax.blk H) rfl))) ?_
 refine d_qg (t.station == aa) rfl (gy_t rfl) (fun hg => (fun w' H => x_ld (p := Pq am) (v := I ab) rfl (ldb_sc Sc3 (ay.blk H) rfl))) ?_
 obtain ⟨aj, hM⟩ := M.e_grd hM
 replace aj := M.imp_of aj
 simp only [Bool.and_eq_true, decide_eq_true_eq] at aj
 refine d_qg (t.station == aa) rfl (gy_t rfl) (fun hg => (fun w' H => x_ix (a := ah) (b := I ab) (v := vat ah 1 (Int.toNat ab)) (gd_of (c := t.station == aa) hg (ah)) (gd_of (c := t.station == aa) hg (I ab)) (Sl.ix (α := Int) T23.und T23.size au (by have ac := aj.resolve_left (by rw [hg]; decide); first | exact ac | exact ac.1 | exact ac.2 | omega | (have ag := hg; simp at ag; omega)) (by have ac := aj.resolve_left (by rw [hg]; decide); first | exact ac | exact ac.1 | exact ac.2 | omega | (have ag := hg; simp at ag; omega))))) ?_
 refine d_qg (t.station == aa) rfl (gy_t rfl) (fun hg => (fun w' H => x_ld (p := vat ah 1 (Int.toNat ab)) (v := I (ae.getD (Int.toNat ab) 0)) (gd_of (c := t.station == aa) hg (vat ah 1 (Int.toNat ab))) (ld_sc Sc3 (At.mono (Int_at au (i := ab) (by have ac := aj.resolve_left (by rw [hg]; decide); first | exact ac | exact ac.1 | exact ac.2 | omega | (have ag := hg; simp at ag; omega)) (by have ac := aj.resolve_left (by rw [hg]; decide); first | exact ac | exact ac.1 | exact ac.2 | omega | (have ag := hg; simp at ag; omega))) (aw.at H))))) ?_
 refine d_qg (t.station == aa) rfl (gy_t rfl) (fun hg => (fun w' H => x_fa (a := Pq ai) (v := Oq ai 2) rfl (fa_blk (o := 0) Fd54_2 Sz3))) ?_
 refine d_qg (t.station == aa) rfl (gy_t rfl) (fun hg => (fun w' H => x_ld (p := Oq ai 2) (v := I t.alarm) (gd_of (c := t.station == aa) hg (Oq ai 2)) (ldb_sc Sc3 (H.bl 0) rfl))) ?_
 refine d_qg (t.station == aa) rfl (gy_t rfl) (fun hg => (fun w' H => x_cmp (kd := .i64) (a := ae.getD (Int.toNat ab) 0) (b := t.alarm) (r := decide (t.alarm <= (ae.getD (Int.toNat ab) 0))) (gd_of (c := t.station == aa) hg (I (ae.getD (Int.toNat ab) 0))) (gd_of (c := t.station == aa) hg (I t.alarm)) rfl)) ?_
 refine d_q rfl (fun w' H => x_pand (b := t.station == aa) (r := decide (t.alarm <= (ae.getD (Int.toNat ab) 0))) rfl (fun hb => gd_of (c := t.station == aa) (by first | exact hb | (rw [hb]; rfl) | simp_all) (B (decide (t.alarm <= (ae.getD (Int.toNat ab) 0))))) rfl) ?_
 refine d_q rfl (fun w' H => x_as (v := B ((t.station == aa) && (decide (t.alarm <= (ae.getD (Int.toNat ab) 0))))) rfl) ?_
 refine d_nil ?_
 refine W.ret ?_
 have az := M.e_pure hM
 exact ⟨_, resE_tmp rfl, ⟨((t.station == aa) && (decide (t.alarm <= (ae.getD (Int.toNat ab) 0)))), az, rfl, (H.pk [])⟩⟩

def zaP (ab : List Town) (f : Flood) (p : List Bool) : (Int × Int × Bool) -> (Int × Int) -> M ((Int × Int × Bool) ⊕ Unit) := fun (s3, s4, s5) (x, x2) =>
  M.grd (decide ((0 : Int) <= x2) && decide (x2 < (12 : Int))) <|
  bif ((p.getD (Int.toNat x2) false) && (s3 == (-1))) then (
  M.grd (decide ((0 : Int) <= x) && decide (x < (f.stages.length : Int))) <|
  M.bind (zbl ab (fun aa => zbn aa x2 f.spring f.stages x)) fun r2 =>
  bif r2 then (
  M.pure (.inl (x2, f.stages.getD (Int.toNat x) 0, true)))
  else (
  M.pure (.inl (x2, f.stages.getD (Int.toNat x) 0, s5))))
  else (
  M.bind (zbl ab (fun aa => zbn aa x2 f.spring f.stages x)) fun r2 =>
  bif r2 then (
  M.pure (.inl (s3, s4, true)))
  else (
  M.pure (.inl (s3, s4, s5))))
def zaS (ab : List Int) (ac : List Span) (ae : List Int) (aa : List Town) (ah : Int) (ai : Int) (ag : List Flood) (f : Flood) (p : List Bool) : M (Int × Int × Bool) :=
  M.bind (zan ab ac ae aa ah ai ag f.spring) fun (aj, ak, al) =>
  M.bind (zak (M.yl (zaP aa f p)) (.inl (-1, 0, false)) aj ab ac ae aa ak al ag) fun x_ => match x_ with
  | (.inl (s3, s4, s5), q0) => (
  M.pure (s3, s4, s5))
  | (.inr _, _) => M.fail
theorem zbf {R : List Chunk} {aa : Nat} {bp : Cells} {ah : Value} {bq : Cells} {ai : Value} {br : Cells} {aj : Value} {bt : Cells} {ae : Value} {bu : Cells} {ak : Value} {bx : Nat} {bv : Cells} {ag : Value} (aM : List Int) (aN : List Span) (aO : List Int) (am : List Town) (aC : Int) (aD : Int) (aP : List Flood) (f : Flood) (p : List Bool) (aQ : Reads R bp) (aY : Sl bp ah aM) (aR : Reads R bq) (aZ : Sl bq ai aN) (aS : Reads R br) (a6 : Sl br aj aO) (aE : Reads R bt) (aF : Sl bt ae am) (aT : Reads R bu) (a7 : Sl bu ak aP) (aG : Has R (cBlk aa [ah, ai, aj, ae, I aC, I aD, ak, .map (some bx)] 86)) (aH : Reads R bv) (aI : Sl bv ag f.stages) (bz : p.length = 12) {r : (Int × Int × Bool)} (hM : (zaS aM aN aO am aC aD aP f p).Ends r) (w : World) (H : St w w [] R) : Ret Try.prog 34 #[Pq aa, .agg #[I f.spring, ag], .agg (encB p).toArray] w fun v w' => ∃ (y0 : Int) (y1 : Int) (y2 : Bool), (y0, y1, y2) = r /\ v = .agg #[I y0, I y1, B y2] /\ St w w' [] R := by
 refine ret_of_WD Try.func34 rfl rfl rfl ?_
 replace H : St w w [cMk ([])] R := H.mk0
 have bV := aY.len_le
 have bW := aZ.len_le
 have bX := a6.len_le
 have bY := aF.len_le
 have bZ := a7.len_le
 have b4 := aI.len_le
 unfold zaS at hM
 refine WD.seq ?_
 refine WD.of ?_
 refine W.region rfl ?_
 refine t_box (v := Pq aa) (cs := [Pq aa]) H rfl rfl ?_
 intro ao b5 H
 refine t_box (v := .agg #[I f.spring, ag]) (cs := [I f.spring, ag]) H rfl rfl ?_
 intro ac b6 H
 refine t_box (v := .agg (encB p).toArray) (cs := encB p) H rfl rfl ?_
 intro aq b7 H
 refine t_alloc (cs := [I 0, I 0, B false]) H Al79 rfl ?_
 intro ax b8 H
 refine s_nil ?_
 refine WD.seq ?_
 refine WD.of ?_
 refine W.region rfl ?_
 refine s_val (x_bld (ps := [(0, I (-1))]) (zs := [I 0, I 0, B false]) (L' := [I (-1), I 0, B false]) rfl Try.underlying79 Al79 rfl (Bd79 Try.underlying79) (.cons (cs := [I (-1)]) rfl rfl rfl rfl rfl <| .nil)) ?_
 refine t_alloc (cs := [I 0, I 0, B false]) H Al79 rfl ?_
 intro ab b9 H
 refine t_sw 0 0 [I (-1), I 0, B false] (.agg #[I (-1), I 0, B false]) H rfl rfl Sz79 rfl rfl rfl rfl ?_
 intro ca H
 refine s_nil ?_
 refine WD.seq ?_
 refine WD.seq ?_
 refine WD.of ?_
 refine W.draw (fun W => St w W [cBlk ab [I (-1), I 0, B false] 79, cBlk ax [I 0, I 0, B false] 79, cBlk aq (encB p) 74, cBlk ac [I f.spring, ag] 67, cBlk ao [Pq aa] 72, cMk ([])] R) [(0, true), (1, true), (2, true), (3, true), (4, true), (5, true), (6, false)] mixed (by decide +kernel) rfl ?_
 intro cb aJ
 replace H := H.ext aJ
 clear aJ
 refine ⟨(H.pk [0, 1, 2, 3, 4, 5]), ?_⟩
 refine d_q rfl (fun w' H => x_ld (p := Pq ao) (v := Pq aa) rfl (ldb_sc Sc72 (H.bl 4) rfl)) ?_
 refine d_q rfl (fun w' H => x_nc (a := ⟨aa, 0, none⟩) rfl) ?_
 refine d_q rfl (fun w' H => x_fa (a := Pq aa) (v := Pq aa) rfl (fa_blk (o := 0) Fd86_0 Sz30)) ?_
 refine d_q rfl (fun w' H => x_ld (p := Pq aa) (v := .agg #[ah, ai, aj, ae, I aC, I aD, ak]) rfl (ldb_ag (ds := [ah, ai, aj, ae, I aC, I aD, ak]) Ag30 Sz30 (aG.blk H) rfl rfl)) ?_
 refine d_q rfl (fun w' H => x_fa (a := Pq ac) (v := Pq ac) rfl (fa_blk (o := 0) Fd67_0 Sz3)) ?_
 refine d_q rfl (fun w' H => x_ld (p := Pq ac) (v := I f.spring) rfl (ldb_sc Sc3 (H.bl 3) rfl)) ?_
 refine d_l rfl ?_
 obtain ⟨cc, bA, hM⟩ := M.e_bind hM
 refine s_call cf46 [.agg #[ah, ai, aj, ae, I aC, I aD, ak], I f.spring] rfl (zbe aM aN aO am aC aD aP f.spring (aQ.app _) aY (aR.app _) aZ (aS.app _) a6 (aE.app _) aF (aT.app _) a7 bA _ (H.gt 6)) ?_
 rintro vq cd ⟨aU, ay, az, aK, aA, bB, hvq, al⟩
 subst bB
 subst vq
 try dsimp only at hM
 replace H := H.bk al
 clear al
 refine s_nil ⟨(H.pk [2, 3, 4, 5, 6, 7]), ?_⟩
 refine d_nil ?_
 refine WD.block ?_
 obtain ⟨ce, bC, hM⟩ := M.e_bind hM
 refine WD.range (L := [cBlk ab [I (-1), I 0, B false] 79, cBlk aA [ah, ai, aj, ae, I ay, I az, ak] 30, cBlk ax [I 0, I 0, B false] 79, cBlk aq (encB p) 74, cBlk ac [I f.spring, ag] 67, cBlk ao [Pq aa] 72, cBlk aK [I aU] 3]) [Pq aK, Pq aA] (H.pk [7, 2, 1, 3, 4, 5, 6, 0]) rfl cf67 ?_
 intro aV aW a8 bD ba H
 have hYC : YieldC Try.prog ([cMk (aW :: ([])), cBlk aA [ah, ai, aj, ae, I ay, I az, ak] 30, cBlk ax [I 0, I 0, B false] 79, cBlk aq (encB p) 74, cBlk ac [I f.spring, ag] 67, cBlk ao [Pq aa] 72] ++ R) arII (yJ aV a8 (fun (s3, s4, s5) aX => aX = [cBlk ab [I s3, I s4, B s5] 79]) (fun (_ : Unit) _ => False) (fun _ => .ret)) (.func (.yield aV) #[] #[]) (M.yl (zaP am f p)) := by
  refine YieldC.mk2 ba (fun (s3, s4, s5) aX => aX = [cBlk ab [I s3, I s4, B s5] 79]) (fun (_ : Unit) _ => False) (fun _ => .ret) (zaP am f p) (by rintro ⟨s3, s4, s5⟩ _ h_; obtain ⟨rfl⟩ := h_; rfl) (fun _ _ h_ => h_.elim) rfl (arII_len rfl) ?_
  intro C_ cf x_ bE
  obtain ⟨x, x2⟩ := x_
  obtain rfl := bE
  intro w R av aX s_ r bF hM H
  obtain ⟨s3, s4, s5⟩ := s_
  obtain ⟨rfl⟩ := bF
  replace H := H.nf
  refine W.seq ?_
  refine W.region rfl ?_
  refine t_alloc (cs := [I 0]) H Al3 rfl ?_
  intro aw cg H
  refine t_sw 0 0 [I x] (I x) H rfl rfl Sz3 rfl rfl rfl rfl ?_
  intro ch H
  refine s_nil ?_
  refine W.region rfl ?_
  refine t_alloc (cs := [I 0]) H Al3 rfl ?_
  intro au ck H
  refine t_sw 0 0 [I x2] (I x2) H rfl rfl Sz3 rfl rfl rfl rfl ?_
  intro cm H
  refine s_nil ?_
  refine ⟨rfl, [cBlk au [I x2] 3, cBlk aw [I x] 3], H.pick [0, 1, 2, 3, 4, 5, 6, 7, 8] (by decide) rfl, ?_⟩
  clear H av
  intro w R av H
  replace aQ := aQ.sub av
  replace aR := aR.sub av
  replace aS := aS.sub av
  replace aE := aE.sub av
  replace aT := aT.sub av
  replace aG := aG.sub av
  replace aH := aH.sub av
  replace hM : (zaP am f p (s3, s4, s5) (x, x2)).Ends r := hM
  simp only [zaP] at hM
  replace H := H.nf
  refine W.block ?_
  refine W.seq ?_
  refine W.seq ?_
  refine W.region rfl ?_
  refine s_val (x_ld (p := Pq au) (v := I x2) rfl (ldb_sc Sc3 (H.bl 0) rfl)) ?_
  obtain ⟨bG, hM⟩ := M.e_grd hM
  simp only [Bool.and_eq_true, decide_eq_true_eq] at bG
  refine s_val (x_ix (a := Pq aq) (b := I x2) (v := .pointer (some ⟨aq, 0 + Int.toNat x2, none⟩)) rfl rfl (run_indexArr Try.underlying74 Sz4 (by omega) (by omega))) ?_
  refine s_val (x_ld (p := .pointer (some ⟨aq, 0 + Int.toNat x2, none⟩)) (v := B (p.getD (Int.toNat x2) false)) rfl (ldArr Sc4 (H.bl 6) (by omega) (by have cn := bz; omega))) ?_
  refine zM (B (p.getD (Int.toNat x2) false)) rfl ?_
  refine g_val (p.getD (Int.toNat x2) false) (gy_t rfl) (fun hg => x_fa (a := Pq ab) (v := Pq ab) rfl (fa_blk (o := 0) Fd79_0 Sz3)) ?_
  refine g_val (p.getD (Int.toNat x2) false) (gy_t rfl) (fun hg => x_ld (p := Pq ab) (v := I s3) (gd_of (c := p.getD (Int.toNat x2) false) hg (Pq ab)) (ldb_sc Sc3 (H.bl 2) rfl)) ?_
  refine g_val (p.getD (Int.toNat x2) false) (gy_t rfl) (fun hg => x_cmp (kd := .i64) (a := s3) (b := -1) (r := s3 == (-1)) (gd_of (c := p.getD (Int.toNat x2) false) hg (I s3)) rfl rfl) ?_
  refine s_val (x_pand (b := p.getD (Int.toNat x2) false) (r := s3 == (-1)) rfl (fun hb => gd_of (c := p.getD (Int.toNat x2) false) (by first | exact hb | (rw [hb]; rfl) | simp_all) (B (s3 == (-1)))) rfl) ?_
  refine s_nil ?_
  refine W.cond ((p.getD (Int.toNat x2) false) && (s3 == (-1))) rfl (fun bb => ?_) (fun bb => ?_)
  ·replace hM := M.e_t hM bb
   refine W.draw (fun W => St w W [cBlk au [I x2] 3, cBlk aw [I x] 3, cMk (aW :: ([])), cBlk aA [ah, ai, aj, ae, I ay, I az, ak] 30, cBlk ax [I 0, I 0, B false] 79, cBlk aq (encB p) 74, cBlk ac [I f.spring, ag] 67, cBlk ao [Pq aa] 72] R) [(0, true), (1, true), (2, true), (3, true), (4, true), (5, true), (6, true), (7, false), (8, true), (9, false)] mixed (by decide +kernel) rfl ?_
   intro co aJ
   replace H := H.ext aJ
   clear aJ
   refine ⟨(H.pk [0, 1, 3, 4, 5, 6, 7, 8]), ?_⟩
   refine d_q rfl (fun w' H => x_ld (p := Pq au) (v := I x2) rfl (ldb_sc Sc3 (H.bl 0) rfl)) ?_
   refine d_q rfl (fun w' H => x_fa (a := Pq ac) (v := Oq ac 1) rfl (fa_blk (o := 0) Fd67_1 Sz23)) ?_
   refine d_q rfl (fun w' H => x_ld (p := Oq ac 1) (v := ag) rfl (ldb_sc Sc23 (H.bl 6) rfl)) ?_
   refine d_q rfl (fun w' H => x_ld (p := Pq aw) (v := I x) rfl (ldb_sc Sc3 (H.bl 1) rfl)) ?_
   obtain ⟨bH, hM⟩ := M.e_grd hM
   simp only [Bool.and_eq_true, decide_eq_true_eq] at bH
   refine d_q rfl (fun w' H => x_ix (a := ag) (b := I x) (v := vat ag 1 (Int.toNat x)) rfl rfl (Sl.ix (α := Int) T23.und T23.size aI (by omega) (by omega))) ?_
   refine d_q rfl (fun w' H => x_ld (p := vat ag 1 (Int.toNat x)) (v := I (f.stages.getD (Int.toNat x) 0)) rfl (ld_sc Sc3 (At.mono (Int_at aI (i := x) (by omega) (by omega)) (aH.at H)))) ?_
   refine d_q rfl (fun w' H => x_fa (a := Pq ab) (v := Pq ab) rfl (fa_blk (o := 0) Fd79_0 Sz3)) ?_
   refine d_l rfl ?_
   refine t_sw 2 0 [I x2] (I x2) H rfl rfl Sz3 rfl rfl rfl rfl ?_
   intro cp H
   refine s_nil ⟨(H.pk [0, 1, 3, 4, 5, 6, 7, 8]), ?_⟩
   refine d_q rfl (fun w' H => x_fa (a := Pq ab) (v := Oq ab 1) rfl (fa_blk (o := 0) Fd79_1 Sz3)) ?_
   refine d_l rfl ?_
   refine t_sw 2 1 [I (f.stages.getD (Int.toNat x) 0)] (I (f.stages.getD (Int.toNat x) 0)) H rfl rfl Sz3 rfl rfl rfl rfl ?_
   intro cq H
   refine s_nil ⟨(H.pk [0, 1, 3, 4, 5, 6, 7, 8]), ?_⟩
   refine d_nil ?_
   refine W.seq ?_
   refine W.region rfl ?_
   refine s_val (x_ld (p := Pq ao) (v := Pq aa) rfl (ldb_sc Sc72 (H.bl 8) rfl)) ?_
   refine s_val (x_nc (a := ⟨aa, 0, none⟩) rfl) ?_
   refine s_val (x_fa (a := Pq aa) (v := Pq aa) rfl (fa_blk (o := 0) Fd86_0 Sz30)) ?_
   refine s_val (x_fa (a := Pq aa) (v := Oq aa 3) rfl (fa_blk (o := 0) Fd30_3 Sz25)) ?_
   refine s_val (x_ld (p := Oq aa 3) (v := ae) rfl (ldb_sc Sc25 (aG.blk H) rfl)) ?_
   refine s_val (x_mf (fs := []) (cs := [Pq au, Pq ac, Pq aw]) rfl rfl) ?_
   obtain ⟨ct, bI, hM⟩ := M.e_bind hM
   refine s_call cf63 [ae, .func (.func 64) #[] #[Pq au, Pq ac, Pq aw]] rfl (zcB am (fun aB => zbn aB x2 f.spring f.stages x) (aE.app _) aF ⟨64, [Pq au, Pq ac, Pq aw], rfl, cf64, fun aL bJ bK bc aB bL bf bM bg bh => by obtain rfl := Town_arg bg; exact (zc7 aB x2 f.spring f.stages x (Has.app (Has.here (k := 0) rfl) _) (Reads.app (aH.app _) _) aI (Has.app (Has.here (k := 7) rfl) _) (Has.app (Has.here (k := 1) rfl) _) bh aL (St.refl bf)).mono fun bc aL ⟨bN, bi, bj, bm⟩ => by subst bi; exact ⟨bj, bm⟩⟩ bI _ (H.gt 9)) ?_
   rintro vq cu ⟨r2, bO, hvq, al⟩
   subst bO
   subst vq
   try dsimp only at hM
   replace H := H.bk al
   clear al
   refine s_nil ?_
   refine W.cond r2 rfl (fun bn => ?_) (fun bn => ?_)
   ·replace hM := M.e_t hM bn
    refine W.region rfl ?_
    refine s_val (x_fa (a := Pq ab) (v := Oq ab 2) rfl (fa_blk (o := 0) Fd79_2 Sz4)) ?_
    refine t_sw 2 2 [B true] (B true) H rfl rfl Sz4 rfl rfl rfl rfl ?_
    intro cw H
    refine s_nil ?_
    exact ⟨(x2, f.stages.getD (Int.toNat x) 0, true), [cBlk ab [I x2, I (f.stages.getD (Int.toNat x) 0), B true] 79], (M.e_pure hM).symm, rfl, H.pick [2, 3, 4, 5, 6, 7, 8] (by decide) rfl⟩
   replace hM := M.e_f hM bn
   refine W.skip ?_
   exact ⟨(x2, f.stages.getD (Int.toNat x) 0, s5), [cBlk ab [I x2, I (f.stages.getD (Int.toNat x) 0), B s5] 79], (M.e_pure hM).symm, rfl, H.pick [2, 3, 4, 5, 6, 7, 8] (by decide) rfl⟩
  replace hM := M.e_f hM bb
  refine W.skip ?_
  refine W.seq ?_
  refine W.region rfl ?_
  refine s_val (x_ld (p := Pq ao) (v := Pq aa) rfl (ldb_sc Sc72 (H.bl 8) rfl)) ?_
  refine s_val (x_nc (a := ⟨aa, 0, none⟩) rfl) ?_
  refine s_val (x_fa (a := Pq aa) (v := Pq aa) rfl (fa_blk (o := 0) Fd86_0 Sz30)) ?_
  refine s_val (x_fa (a := Pq aa) (v := Oq aa 3) rfl (fa_blk (o := 0) Fd30_3 Sz25)) ?_
  refine s_val (x_ld (p := Oq aa 3) (v := ae) rfl (ldb_sc Sc25 (aG.blk H) rfl)) ?_
  refine s_val (x_mf (fs := []) (cs := [Pq au, Pq ac, Pq aw]) rfl rfl) ?_
  obtain ⟨cx, bP, hM⟩ := M.e_bind hM
  refine s_call cf63 [ae, .func (.func 64) #[] #[Pq au, Pq ac, Pq aw]] rfl (zcB am (fun aB => zbn aB x2 f.spring f.stages x) (aE.app _) aF ⟨64, [Pq au, Pq ac, Pq aw], rfl, cf64, fun aL bJ bK bc aB bL bf bM bg bh => by obtain rfl := Town_arg bg; exact (zc7 aB x2 f.spring f.stages x (Has.app (Has.here (k := 0) rfl) _) (Reads.app (aH.app _) _) aI (Has.app (Has.here (k := 7) rfl) _) (Has.app (Has.here (k := 1) rfl) _) bh aL (St.refl bf)).mono fun bc aL ⟨bN, bi, bj, bm⟩ => by subst bi; exact ⟨bj, bm⟩⟩ bP _ (H.gt 9)) ?_
  rintro vq cy ⟨r2, bQ, hvq, al⟩
  subst bQ
  subst vq
  try dsimp only at hM
  replace H := H.bk al
  clear al
  refine s_nil ?_
  refine W.cond r2 rfl (fun bo => ?_) (fun bo => ?_)
  ·replace hM := M.e_t hM bo
   refine W.region rfl ?_
   refine s_val (x_fa (a := Pq ab) (v := Oq ab 2) rfl (fa_blk (o := 0) Fd79_2 Sz4)) ?_
   refine t_sw 2 2 [B true] (B true) H rfl rfl Sz4 rfl rfl rfl rfl ?_
   intro cz H
   refine s_nil ?_
   exact ⟨(s3, s4, true), [cBlk ab [I s3, I s4, B true] 79], (M.e_pure hM).symm, rfl, H.pick [2, 3, 4, 5, 6, 7, 8] (by decide) rfl⟩
  replace hM := M.e_f hM bo
  refine W.skip ?_
  exact ⟨(s3, s4, s5), [cBlk ab [I s3, I s4, B s5] 79], (M.e_pure hM).symm, rfl, H.pick [2, 3, 4, 5, 6, 7, 8] (by decide) rfl⟩
 replace H : St w bD (cAll (cObj aV (.loop a8) :: [cBlk ab [I (-1), I 0, B false] 79]) :: [cBlk aK [I aU] 3, cMk (aW :: ([])), cBlk aA [ah, ai, aj, ae, I ay, I az, ak] 30, cBlk ax [I 0, I 0, B false] 79, cBlk aq (encB p) 74, cBlk ac [I f.spring, ag] 67, cBlk ao [Pq aa] 72]) R := St.bundleB (A := cObj aV (.loop a8) :: [cBlk ab [I (-1), I 0, B false] 79]) (T := [cBlk aK [I aU] 3, cMk (aW :: ([])), cBlk aA [ah, ai, aj, ae, I ay, I az, ak] 30, cBlk ax [I 0, I 0, B false] 79, cBlk aq (encB p) 74, cBlk ac [I f.spring, ag] 67, cBlk ao [Pq aa] 72]) rfl (H.pk [0, 2, 8, 1, 3, 4, 5, 6, 7])
 refine (zbK (M.yl (zaP am f p)) (.inl (-1, 0, false)) aU aM aN aO am ay az aP hYC ⟨_, rfl, rfl⟩ (aQ.app _) aY (aR.app _) aZ (aS.app _) a6 (aE.app _) aF (aT.app _) a7 (Has.here (k := 1) rfl) bC _ (H.gt 6)).mono ?_
 rintro vq cA ⟨bR, q0, cB, bS, hvq, al, bw⟩
 subst bS
 replace H := H.back al rfl
 clear al hYC
 rcases bR with ⟨s3, s4, s5⟩ | _
 ·try dsimp only at hM
  obtain ⟨_, rfl, rfl⟩ := bw
  refine ⟨_, [cBlk ab [I s3, I s4, B s5] 79, cBlk aA [ah, ai, aj, ae, I ay, I az, ak] 30, cBlk ax [I 0, I 0, B false] 79, cBlk aq (encB p) 74, cBlk ac [I f.spring, ag] 67, cBlk ao [Pq aa] 72, cBlk aK [I q0] 3], H.unbundle.pick [0, 3, 1, 4, 5, 6, 7, 8, 2] (by decide) rfl, ba.nb, ?_⟩
  intro cC H
  rw [ba.pd]
  replace H := H.nf
  try simp only []
  replace H := H.pk [0, 1, 3]
  refine WD.seq ?_
  refine WD.of ?_
  refine W.region rfl ?_
  refine s_val (x_ld (p := Pq ab) (v := .agg #[I s3, I s4, B s5]) rfl (ldb_ag (ds := [I s3, I s4, B s5]) Ag79 Sz79 (H.bl 1) rfl rfl)) ?_
  refine t_sw 2 0 [I s3, I s4, B s5] (.agg #[I s3, I s4, B s5]) H rfl rfl Sz79 rfl rfl rfl rfl ?_
  intro cD H
  refine s_nil ?_
  refine WD.of ?_
  refine W.ret ?_
  refine bodyD_r (H.pk [0, 1, 2]) ?_
  intro cE H
  replace H := H.nf
  have bT := (H.bl 1)
  have bU := M.e_pure hM
  exact ⟨_, (resE_of1 (v := .agg #[I s3, I s4, B s5]) rfl (.cell (v := .agg #[I s3, I s4, B s5]) rfl (run_loadVar_ag (ds := [I s3, I s4, B s5]) Ag79 Sz79 bT rfl rfl) <| .nil)), ⟨s3, s4, s5, bU, rfl, (H.pk [])⟩⟩
 obtain ⟨_, _, h_⟩ := bw; exact h_.elim

def zc8 (x : Rpt) (aa : Int) : M Bool :=
  M.pure (x.danger && (x.watch == aa))
theorem zdj {R : List Chunk} {ac : Nat} (x : Rpt) (aa : Int) (ae : Has R (cBlk ac [I aa] 3)) {r : Bool} (hM : (zc8 x aa).Ends r) (w : World) (H : St w w [] R) : Ret Try.prog 33 #[.agg #[I x.watch, I x.stage, B x.danger], Pq ac] w fun v w' => ∃ (y0 : Bool), y0 = r /\ v = B y0 /\ St w w' [] R := by
 refine ret_of_W Try.func33 rfl rfl rfl ?_
 refine W.seq ?_
 refine W.region rfl ?_
 refine t_box (v := .agg #[I x.watch, I x.stage, B x.danger]) (cs := [I x.watch, I x.stage, B x.danger]) H rfl rfl ?_
 intro ab ah H
 refine zA (B false) rfl ?_
 refine s_nil ?_
 refine W.seq ?_
 refine W.region rfl ?_
 refine s_val (x_fa (a := Pq ab) (v := Oq ab 2) rfl (fa_blk (o := 0) Fd79_2 Sz4)) ?_
 refine s_val (x_ld (p := Oq ab 2) (v := B x.danger) rfl (ldb_sc Sc4 (H.bl 0) rfl)) ?_
 refine zM (B x.danger) rfl ?_
 refine g_val x.danger (gy_t rfl) (fun hg => x_fa (a := Pq ab) (v := Pq ab) rfl (fa_blk (o := 0) Fd79_0 Sz3)) ?_
 refine g_val x.danger (gy_t rfl) (fun hg => x_ld (p := Pq ab) (v := I x.watch) (gd_of (c := x.danger) hg (Pq ab)) (ldb_sc Sc3 (H.bl 0) rfl)) ?_
 refine g_val x.danger (gy_t rfl) (fun hg => x_ld (p := Pq ac) (v := I aa) rfl (ldb_sc Sc3 (ae.blk H) rfl)) ?_
 refine g_val x.danger (gy_t rfl) (fun hg => x_cmp (kd := .i64) (a := x.watch) (b := aa) (r := x.watch == aa) (gd_of (c := x.danger) hg (I x.watch)) (gd_of (c := x.danger) hg (I aa)) rfl) ?_
 refine s_val (x_pand (b := x.danger) (r := x.watch == aa) rfl (fun hb => gd_of (c := x.danger) (by first | exact hb | (rw [hb]; rfl) | simp_all) (B (x.watch == aa))) rfl) ?_
 refine zA (B (x.danger && (x.watch == aa))) rfl ?_
 refine s_nil ?_
 refine W.ret ?_
 have ag := M.e_pure hM
 exact ⟨_, resE_tmp rfl, ⟨(x.danger && (x.watch == aa)), ag, rfl, (H.pk [])⟩⟩

def zcJ (ab : List Int) (ac : List Span) (ae : List Int) (ag : List Town) (ah : Int) (ai : Int) (aa : List Flood) (p : List Bool) (aj : Int) : (Nat × (List Int)) -> M ((Nat × (List Int)) ⊕ ((List Int) × (List Int))) := fun (s, l) =>
  bif decide ((s : Int) < (aa.length : Int)) then (
  M.grd (decide ((s : Int) < (aa.length : Int))) <|
  M.bind (zaS ab ac ae ag ah ai aa (aa.getD s default) p) fun (r0, r1, r2) =>
  M.bind (zc8 (⟨(r0 : Int), (r1 : Int), r2⟩ : Rpt) aj) fun r3 =>
  bif r3 then (
  M.grd (decide ((l.length + ([(s : Int)]).length) * 8 <= 140737488355328)) <|
  M.pure (.inl (s + 1, l ++ ([(s : Int)]))))
  else (
  M.pure (.inl (s + 1, l))))
  else (
  M.pure (.inr (l, l)))
def zcY (aa : List Int) (ab : List Span) (ac : List Int) (ae : List Town) (ag : Int) (ah : Int) (ai : List Flood) (p : List Bool) (aj : Int) : M (List Int) :=
  M.bind (M.iter (zcJ aa ab ac ae ag ah ai p aj) (0, [])) fun (l2, l3) =>
  M.pure l3
theorem zdE {R : List Chunk} {ab : Nat} {aE : Cells} {aF : Value} {aG : Cells} {aH : Value} {aI : Cells} {aJ : Value} {aK : Cells} {aL : Value} {aM : Cells} {ag : Value} {aV : Nat} {ah : Nat} (ao : List Int) (aq : List Span) (au : List Int) (av : List Town) (aw : Int) (ax : Int) (aa : List Flood) (p : List Bool) (ay : Int) (aW : Reads R aE) (aX : Sl aE aF ao) (aY : Reads R aG) (aZ : Sl aG aH aq) (a6 : Reads R aI) (a7 : Sl aI aJ au) (a8 : Reads R aK) (ba : Sl aK aL av) (aA : Reads R aM) (aj : Sl aM ag aa) (aN : Has R (cBlk ab [aF, aH, aJ, aL, I aw, I ax, ag, .map (some aV)] 86)) (aO : p.length = 12) (bb : Has R (cBlk ah [I ay] 3)) {r : (List Int)} (hM : (zcY ao aq au av aw ax aa p ay).Ends r) (w : World) (H : St w w [] R) : Ret Try.prog 32 #[Pq ab, .agg (encB p).toArray, .agg #[.func (.func 33) #[] #[Pq ah]]] w fun v w' => ∃ (y0 : List Int) (u0 : Value), y0 = r /\ v = u0 /\ St w w' [cOwn (α := Int) 3 u0 y0] R := by
 refine ret_of_W Try.func32 rfl rfl rfl ?_
 refine W.seq ?_
 refine W.region rfl ?_
 refine t_box (v := .agg (encB p).toArray) (cs := encB p) H rfl rfl ?_
 intro az bt H
 refine t_box (v := .agg #[.func (.func 33) #[] #[Pq ah]]) (cs := [.func (.func 33) #[] #[Pq ah]]) H rfl rfl ?_
 intro ai bu H
 refine zA (.slice none 0 0) rfl ?_
 refine s_nil ?_
 refine W.seq ?_
 refine W.region rfl ?_
 refine zA (.slice none 0 0) rfl ?_
 refine s_nil ?_
 refine W.seq ?_
 refine W.seq ?_
 refine W.region rfl ?_
 refine zM (Pq ab) rfl ?_
 refine s_val (x_nc (a := ⟨ab, 0, none⟩) rfl) ?_
 refine s_val (x_fa (a := Pq ab) (v := Pq ab) rfl (fa_blk (o := 0) Fd86_0 Sz30)) ?_
 refine s_val (x_fa (a := Pq ab) (v := Oq ab 6) rfl (fa_blk (o := 0) Fd30_5 Sz28)) ?_
 refine s_val (x_ld (p := Oq ab 6) (v := ag) rfl (ldb_sc Sc28 (aN.blk H) rfl)) ?_
 have bv := (aj).len_le
 refine s_val (x_lenS T28.und rfl aj) ?_
 refine zM (I 0) rfl ?_
 refine s_nil ?_
 refine W.block ?_
 replace H := H.nilOwn (α := Int) 3
 obtain ⟨bc, aB, bf⟩ := M.e_bind hM
 obtain ⟨bw, aB⟩ := M.e_iter aB
 refine W.loop (fun m σ W => ∃ (s : Nat) (l : List Int) (ac : Value) (ρ : Env), σ = upds ρ [(0, Pq ab), (4, Pq az), (5, Pq ai), (7, ac), (14, ag), (15, I (aa.length : Int)), (16, I (s : Int))] /\ M.iterN (zcJ ao aq au av aw ax aa p ay) m (s, l) = some bc /\ St w W [cOwn (α := Int) 3 ac l, cBlk ai [.func (.func 33) #[] #[Pq ah]] 82, cBlk az (encB p) 74] R) ?_ ?_
 ·exact ⟨_, 0, [], (.slice none 0 0), _, upds_of _ _ ⟨rfl, rfl, rfl, rfl, rfl, rfl, rfl, trivial⟩, aB, H⟩
 rintro bx σ bz ⟨s, l, ac, ρ, rfl, aP, H⟩
 obtain ⟨aQ, aR, bA, hM, aC⟩ := M.e_iterN aP
 simp only [zcJ] at hM
 clear aP
 refine W.seq ?_
 refine W.region rfl ?_
 refine zC (s : Int) (aa.length : Int) (decide ((s : Int) < (aa.length : Int))) rfl rfl rfl ?_
 refine s_nil ?_
 refine W.seq ?_
 refine W.cond (decide ((s : Int) < (aa.length : Int))) rfl (fun ak => ?_) (fun ak => ?_)
 ·replace hM := M.e_t hM ak
  simp only [qy1, qy2, qy3, qy4, qy5, qy6, ne_eq, qy7] at ak
  refine W.skip ?_
  refine W.seq ?_
  refine W.block ?_
  refine W.seq ?_
  refine W.region rfl ?_
  refine zM (I (s : Int)) rfl ?_
  obtain ⟨bg, hM⟩ := M.e_grd hM
  simp only [Bool.and_eq_true, decide_eq_true_eq] at bg
  refine s_val (x_ix (a := ag) (b := I (s : Int)) (v := vat ag 2 (Int.toNat (s : Int))) rfl rfl (Sl.ix (α := Flood) T28.und T28.size aj (by omega) (by omega))) ?_
  obtain ⟨ae, bh, al⟩ := Flood_atA aj (i := (s : Int)) (by omega) (by omega)
  replace al : Sl _ ae (aa.getD s default).stages := al
  have bB := al.len_le
  refine s_val (x_ld (p := vat ag 2 (Int.toNat (s : Int))) (v := .agg #[I ((aa.getD s default).spring), ae]) rfl (ld_ag Ag67 Sz67 (At.mono bh (aA.at H)))) ?_
  refine t_alloc (cs := [I 0, .slice none 0 0]) H Al67 rfl ?_
  intro aS bC H
  refine zA (I (s : Int)) rfl ?_
  refine t_sw 0 0 [I ((aa.getD s default).spring), ae] (.agg #[I ((aa.getD s default).spring), ae]) H rfl rfl Sz67 rfl rfl rfl (by simp only [List.all_cons, List.all_nil, Bool.true_and, Bool.and_true, Sl.oc al]; try rfl) ?_
  intro bD H
  refine s_nil ?_
  refine W.seq ?_
  refine W.draw (fun W => St w W [cBlk aS [I ((aa.getD s default).spring), ae] 67, cOwn (α := Int) 3 ac l, cBlk ai [.func (.func 33) #[] #[Pq ah]] 82, cBlk az (encB p) 74] R) [(0, true), (1, true), (2, true), (3, true), (4, true), (5, false), (6, false)] mixed (by decide +kernel) rfl ?_
  intro bE aT
  replace H := H.ext aT
  clear aT
  refine ⟨(H.pk [0, 1, 2, 3]), ?_⟩
  refine d_q rfl (fun w' H => x_fa (a := Pq ai) (v := Pq ai) rfl (fa_blk (o := 0) Fd82_0 Sz80)) ?_
  refine d_q rfl (fun w' H => x_ld (p := Pq ai) (v := .func (.func 33) #[] #[Pq ah]) rfl (ldb_sc Sc80 (H.bl 2) rfl)) ?_
  refine d_q rfl (fun w' H => x_mv (v := Pq ab) rfl) ?_
  refine d_q rfl (fun w' H => x_ld (p := Pq aS) (v := .agg #[I ((aa.getD s default).spring), ae]) rfl (ldb_ag (ds := [I ((aa.getD s default).spring), ae]) Ag67 Sz67 (H.bl 0) rfl rfl)) ?_
  refine d_q rfl (fun w' H => x_ld (p := Pq az) (v := .agg (encB p).toArray) rfl (ldArrA Ag74 Sz74 aO (H.bl 3))) ?_
  refine d_l rfl ?_
  obtain ⟨bF, bi, hM⟩ := M.e_bind hM
  refine s_call cf34 [Pq ab, .agg #[I ((aa.getD s default).spring), ae], .agg (encB p).toArray] rfl (zbf ao aq au av aw ax aa (aa.getD s default) p (aW.app _) aX (aY.app _) aZ (a6.app _) a7 (a8.app _) ba (aA.app _) aj (aN.app _) (aA.app _) al aO bi _ (H.gt 4)) ?_
  rintro vq bG ⟨r0, r1, r2, bj, hvq, am⟩
  subst bj
  subst vq
  try dsimp only at hM
  replace H := H.bk am
  clear am
  refine s_nil ⟨(H.pk [0, 1, 2, 3]), ?_⟩
  refine d_l rfl ?_
  obtain ⟨bH, bm, hM⟩ := M.e_bind hM
  refine s_callv (f := 33) rfl cf33 [.agg #[I r0, I r1, B r2]] rfl (zdj (⟨(r0 : Int), (r1 : Int), r2⟩ : Rpt) ay (bb.app _) bm _ (H.gt 4)) ?_
  rintro vq bI ⟨r3, bn, hvq, am⟩
  subst bn
  subst vq
  try dsimp only at hM
  replace H := H.bk am
  clear am
  refine s_nil ⟨(H.pk [0, 1, 2, 3]), ?_⟩
  refine d_nil ?_
  refine W.cond r3 rfl (fun aD => ?_) (fun aD => ?_)
  ·replace hM := M.e_t hM aD
   refine W.region rfl ?_
   refine zM ac rfl ?_
   refine zM (I (s : Int)) rfl ?_
   refine t_bs (α := Int) T23 [I (s : Int)] [(s : Int)] H rfl (.cons rfl (Flat.rep_enc _ (s : Int)) <| .nil) rfl rfl rfl ?_
   intro bo bJ H
   obtain ⟨bp, hM⟩ := M.e_grd hM
   simp only [Bool.and_eq_true, decide_eq_true_eq] at bp
   refine t_app (α := Int) (k := 2) (l := l) (l2 := [(s : Int)]) (l' := l ++ ([(s : Int)])) (vy := bo) T23 rfl H rfl rfl rfl (H.os 0) (H.ol 0) (rfl) (by first | omega | (simp only [List.length_nil] at *; omega)) ?_
   intro aU bK H
   replace H := H.nf
   refine zA aU rfl ?_
   refine s_nil ?_
   replace H := H.pk [2, 3, 4]
   refine W.region rfl ?_
   refine zR (s : Int) 1 ((s : Int) + 1) rfl rfl rfl (by omega) ?_
   refine zM (I ((s : Int) + 1)) rfl ?_
   refine s_nil ?_
   exact ⟨aQ, aR, s + 1, l ++ ([(s : Int)]), aU, _, upds_of _ _ ⟨rfl, rfl, rfl, rfl, rfl, rfl, rfl, trivial⟩, M.e_inl hM aC, H⟩
  replace hM := M.e_f hM aD
  refine W.skip ?_
  refine W.region rfl ?_
  refine zR (s : Int) 1 ((s : Int) + 1) rfl rfl rfl (by omega) ?_
  refine zM (I ((s : Int) + 1)) rfl ?_
  refine s_nil ?_
  exact ⟨aQ, aR, s + 1, l, ac, _, upds_of _ _ ⟨rfl, rfl, rfl, rfl, rfl, rfl, rfl, trivial⟩, M.e_inl hM aC, (H.pk [1, 2, 3])⟩
 replace hM := M.e_f hM ak
 simp only [qy1, qy2, qy3, qy4, qy5, qy6, ne_eq, qy7] at ak
 refine W.exit ?_
 have bq := M.e_inr hM aC
 subst bq
 replace hM := bf
 try dsimp only at hM
 replace H := H.pk [0]
 refine W.seq ?_
 refine W.region rfl ?_
 refine zM ac rfl ?_
 refine zA ac rfl ?_
 refine s_nil ?_
 refine W.ret ?_
 have br := M.e_pure hM
 exact ⟨_, resE_tmp rfl, ⟨l, ac, br, rfl, H⟩⟩

end Go.Proofs.Ytbaehghammbjdaa
end
section
set_option maxRecDepth 100000
set_option maxHeartbeats 16000000
namespace Go.Proofs.Ytbaehghammbjdaa
open Go Go.Nm
def zcx (ae : List Int) (ag : List Span) (ah : List Int) (ai : List Town) (aa : List Flood) (aj : Int) (ak : Int) (al : List Bool) (r3 : List Int) : (Int × Int × Nat) -> M ((Int × Int × Nat) ⊕ (Int × Int)) := fun (ab, flood, s) =>
  bif decide ((s : Int) < (r3.length : Int)) then (
  M.grd (decide ((s : Int) < (r3.length : Int))) <|
  M.grd (decide ((0 : Int) <= (r3.getD s 0)) && decide ((r3.getD s 0) < (aa.length : Int))) <|
  M.bind (zaS ae ag ah ai aj ak aa (aa.getD (Int.toNat (r3.getD s 0)) default) al) fun (r0, ac, am) =>
  bif decide (ac < ab) then (
  M.pure (.inl (ac, r3.getD s 0, s + 1)))
  else (
  M.pure (.inl (ab, flood, s + 1))))
  else (
  M.pure (.inr (ab, flood)))
def zcn (aa : List Int) (ab : List Span) (ac : List Int) (ae : List Town) (ag : List Flood) (watches : List Int) (ah : Int) (ai : Int) (aj : List Bool) : (Nat × (List Int) × (List Int)) -> M ((Nat × (List Int) × (List Int)) ⊕ ((List Int) × (List Int) × (List Int) × (List Int))) := fun (s2, l, l2) =>
  bif decide ((s2 : Int) < (watches.length : Int)) then (
  M.grd (decide ((s2 : Int) < (watches.length : Int))) <|
  M.bind (zcY aa ab ac ae ah ai ag aj (watches.getD s2 0)) fun r3 =>
  M.bind (M.iter (zcx aa ab ac ae ag ah ai aj r3) (2001, -1, 0)) fun (ak, flood2) =>
  M.grd (decide ((l.length + ([(ak : Int)]).length) * 8 <= 140737488355328)) <|
  M.grd (decide ((l2.length + ([(flood2 : Int)]).length) * 8 <= 140737488355328)) <|
  M.pure (.inl (s2 + 1, l ++ ([(ak : Int)]), l2 ++ ([(flood2 : Int)]))))
  else (
  M.pure (.inr (l, l2, l2, l)))
def zcr (aa : List Int) (ab : List Span) (ac : List Int) (ae : List Town) (ah : Int) (ai : Int) (ag : List Flood) (watches : List Int) : M ((List Int) × (List Int) × Int) :=
  M.bind (zaM aa ab ac ae ah ai ag watches) fun x_ => match x_ with
  | (.inl (r1, r2)) => (
  bif r2 != 0 then (
  M.pure (([]), ([]), r2))
  else (
  M.fail))
  | (.inr (aj, ak, al, am)) => (
  bif am != 0 then (
  M.fail)
  else (
  M.bind (M.iter (zcn aa ab ac ae ag watches aj ak al) (0, [], [])) fun (l3, l4, l5, l6) =>
  M.pure (l6, l5, 0)))
theorem zcL {R : List Chunk} {bo : Cells} {ai : Value} {bp : Cells} {aj : Value} {bq : Cells} {ak : Value} {br : Cells} {al : Value} {bt : Cells} {ab : Value} {bu : Cells} {aC : Value} (ax : List Int) (ay : List Span) (az : List Int) (aA : List Town) (ao : Int) (aq : Int) (ah : List Flood) (watches : List Int) (aV : Reads R bo) (aW : Sl bo ai ax) (aX : Reads R bp) (aY : Sl bp aj ay) (aZ : Reads R bq) (a6 : Sl bq ak az) (a7 : Reads R br) (a8 : Sl br al aA) (aH : Reads R bt) (aJ : Sl bt ab ah) (bv : Reads R bu) (aN : Sl bu aC watches) {r : ((List Int) × (List Int) × Int)} (hM : (zcr ax ay az aA ao aq ah watches).Ends r) (w : World) (H : St w w [] R) : Ret Try.prog 11 #[.agg #[ai, aj, ak, al, I ao, I aq, ab], aC] w fun v w' => ∃ (y0 : List Int) (y1 : List Int) (y2 : Int) (u0 : Value) (u1 : Value), (y0, y1, y2) = r /\ v = .tuple #[u0, u1, I y2] /\ St w w' [cOwn (α := Int) 3 u0 y0, cOwn (α := Int) 3 u1 y1] R := by
 refine ret_of_W Try.func11 rfl rfl rfl ?_
 refine W.seq ?_
 refine W.region rfl ?_
 refine t_box (v := .agg #[ai, aj, ak, al, I ao, I aq, ab]) (cs := [ai, aj, ak, al, I ao, I aq, ab]) H rfl rfl ?_
 intro aK b8 H
 refine zA (.slice none 0 0) rfl ?_
 refine zA (.slice none 0 0) rfl ?_
 refine zA (I 0) rfl ?_
 refine s_nil ?_
 refine W.seq ?_
 refine W.region rfl ?_
 refine s_val (x_ld (p := Pq aK) (v := .agg #[ai, aj, ak, al, I ao, I aq, ab]) rfl (ldb_ag (ds := [ai, aj, ak, al, I ao, I aq, ab]) Ag30 Sz30 (H.bl 0) rfl rfl)) ?_
 refine zM aC rfl ?_
 obtain ⟨b9, bD, hM⟩ := M.e_bind hM
 refine s_call cf31 [.agg #[ai, aj, ak, al, I ao, I aq, ab], aC] rfl (zcK ax ay az aA ao aq ah watches (aV.app _) aW (aX.app _) aY (aZ.app _) a6 (a7.app _) a8 (aH.app _) aJ (bv.app _) aN bD _ (H.gt 1)) ?_
 rintro vq ca (⟨r1, r2, bE, hvq, am, bF⟩ | ⟨au, av, ac, aD, aa, aG, ba, bG, hvq, am, aL⟩)
 ·subst bE
  subst vq
  try dsimp only at hM
  replace H := H.bk am
  clear am
  refine zM (.tuple #[.pointer none, .agg (encB r1).toArray, I r2]) rfl ?_
  refine zX [.pointer none, .agg (encB r1).toArray, I r2] (.pointer none) rfl rfl ?_
  refine zX [.pointer none, .agg (encB r1).toArray, I r2] (.agg (encB r1).toArray) rfl rfl ?_
  refine zX [.pointer none, .agg (encB r1).toArray, I r2] (I r2) rfl rfl ?_
  refine t_alloc (cs := encB (List.replicate 12 false)) H Al74 rfl ?_
  intro aB cb H
  have bi : (List.replicate 12 false).length = 12 := by simp
  refine zA (.pointer none) rfl ?_
  refine t_stArrA (k := 0) (b := aB) (l := List.replicate 12 false) (l' := r1) (L' := [cBlk aB (encB r1) 74, cBlk aK [ai, aj, ak, al, I ao, I aq, ab] 30]) H rfl rfl rfl Sz74 bi bF rfl ?_
  intro cc H
  refine zA (I r2) rfl ?_
  refine s_nil ?_
  refine W.seq ?_
  refine W.seq ?_
  refine W.region rfl ?_
  refine zM (I r2) rfl ?_
  refine zC r2 0 (r2 != 0) rfl rfl rfl ?_
  refine s_nil ?_
  refine W.cond (r2 != 0) rfl (fun bb => ?_) (fun bb => ?_)
  ·replace hM := M.e_t hM bb
   simp only [qy1, qy2, qy3, qy4, qy5, qy6, ne_eq, qy7] at bb
   refine W.seq ?_
   refine W.region rfl ?_
   refine zM (I r2) rfl ?_
   refine zA (.slice none 0 0) rfl ?_
   refine zA (.slice none 0 0) rfl ?_
   refine zA (I r2) rfl ?_
   refine s_nil ?_
   replace H := H.pk []
   refine W.ret ?_
   have bj := M.e_pure hM
   replace H := H.nilOwn (α := Int) 3
   replace H := H.nilOwn (α := Int) 3
   exact ⟨_, resE_tmp3 rfl, ⟨([]), ([]), r2, (.slice none 0 0), (.slice none 0 0), bj, rfl, (H.pk [1, 0])⟩⟩
  replace hM := M.e_f hM bb
  exact (M.e_fail hM).elim
 subst bG
 subst vq
 try dsimp only at hM
 replace H := H.bk am
 clear am
 refine zM (.tuple #[Pq aa, .agg (encB ac).toArray, I aD]) rfl ?_
 refine zX [Pq aa, .agg (encB ac).toArray, I aD] (Pq aa) rfl rfl ?_
 refine zX [Pq aa, .agg (encB ac).toArray, I aD] (.agg (encB ac).toArray) rfl rfl ?_
 refine zX [Pq aa, .agg (encB ac).toArray, I aD] (I aD) rfl rfl ?_
 refine t_alloc (cs := encB (List.replicate 12 false)) H Al74 rfl ?_
 intro aB cd H
 have bi : (List.replicate 12 false).length = 12 := by simp
 refine zA (Pq aa) rfl ?_
 refine t_stArrA (k := 0) (b := aB) (l := List.replicate 12 false) (l' := ac) (L' := [cBlk aB (encB ac) 74, cBlk aa [ai, aj, ak, al, I au, I av, ab, .map (some aG)] 86, cMem encDm aG ba (zaa ax ay az aA au av ah), cBlk aK [ai, aj, ak, al, I ao, I aq, ab] 30]) H rfl rfl rfl Sz74 bi aL rfl ?_
 intro ce H
 refine zA (I aD) rfl ?_
 refine s_nil ?_
 refine W.seq ?_
 refine W.seq ?_
 refine W.region rfl ?_
 refine zM (I aD) rfl ?_
 refine zC aD 0 (aD != 0) rfl rfl rfl ?_
 refine s_nil ?_
 refine W.cond (aD != 0) rfl (fun bc => ?_) (fun bc => ?_)
 ·replace hM := M.e_t hM bc
  exact (M.e_fail hM).elim
 replace hM := M.e_f hM bc
 simp only [qy1, qy2, qy3, qy4, qy5, qy6, ne_eq, qy7] at bc
 refine W.skip ?_
 refine W.seq ?_
 refine W.seq ?_
 refine W.region rfl ?_
 refine zM aC rfl ?_
 have cf := (aN).len_le
 refine s_val (x_lenS T23.und rfl aN) ?_
 refine zM (I 0) rfl ?_
 refine s_nil ?_
 refine W.block ?_
 replace H := H.nilOwn (α := Int) 3
 replace H := H.nilOwn (α := Int) 3
 obtain ⟨bH, bm, bI⟩ := M.e_bind hM
 obtain ⟨bJ, bm⟩ := M.e_iter bm
 refine W.loop (fun m σ W => ∃ (s2 : Nat) (l : List Int) (l2 : List Int) (aE : Value) (aF : Value) (ρ : Env), σ = upds ρ [(4, aE), (5, aF), (7, Pq aa), (8, Pq aB), (26, aC), (27, I (watches.length : Int)), (28, I (s2 : Int))] /\ M.iterN (zcn ax ay az aA ah watches au av ac) m (s2, l, l2) = some bH /\ St w W [cOwn (α := Int) 3 aF l2, cOwn (α := Int) 3 aE l, cBlk aB (encB ac) 74, cBlk aa [ai, aj, ak, al, I au, I av, ab, .map (some aG)] 86, cMem encDm aG ba (zaa ax ay az aA au av ah), cBlk aK [ai, aj, ak, al, I ao, I aq, ab] 30] R) ?_ ?_
 ·exact ⟨_, 0, [], [], (.slice none 0 0), (.slice none 0 0), _, upds_of _ _ ⟨rfl, rfl, rfl, rfl, rfl, rfl, rfl, trivial⟩, bm, H⟩
 rintro cg σ ch ⟨s2, l, l2, aE, aF, ρ, rfl, bw, H⟩
 obtain ⟨bK, bL, ck, hM, bx⟩ := M.e_iterN bw
 simp only [zcn] at hM
 clear bw
 refine W.seq ?_
 refine W.region rfl ?_
 refine zC (s2 : Int) (watches.length : Int) (decide ((s2 : Int) < (watches.length : Int))) rfl rfl rfl ?_
 refine s_nil ?_
 refine W.seq ?_
 refine W.cond (decide ((s2 : Int) < (watches.length : Int))) rfl (fun aO => ?_) (fun aO => ?_)
 ·replace hM := M.e_t hM aO
  simp only [qy1, qy2, qy3, qy4, qy5, qy6, ne_eq, qy7] at aO
  refine W.skip ?_
  refine W.seq ?_
  refine W.block ?_
  refine W.seq ?_
  refine W.region rfl ?_
  obtain ⟨bM, hM⟩ := M.e_grd hM
  simp only [Bool.and_eq_true, decide_eq_true_eq] at bM
  refine s_val (x_ix (a := aC) (b := I (s2 : Int)) (v := vat aC 1 (Int.toNat (s2 : Int))) rfl rfl (Sl.ix (α := Int) T23.und T23.size aN (by omega) (by omega))) ?_
  refine s_val (x_ld (p := vat aC 1 (Int.toNat (s2 : Int))) (v := I (watches.getD s2 0)) rfl (ld_sc Sc3 (At.mono (Int_at aN (i := (s2 : Int)) (by omega) (by omega)) (bv.at H)))) ?_
  refine t_alloc (cs := [I 0]) H Al3 rfl ?_
  intro aI cm H
  refine t_sw 0 0 [I (watches.getD s2 0)] (I (watches.getD s2 0)) H rfl rfl Sz3 rfl rfl rfl rfl ?_
  intro cn H
  refine s_nil ?_
  refine W.seq ?_
  refine W.region rfl ?_
  refine zA (I 2001) rfl ?_
  refine zA (I (-1)) rfl ?_
  refine s_nil ?_
  refine W.seq ?_
  refine W.seq ?_
  refine W.region rfl ?_
  refine zM (Pq aa) rfl ?_
  refine s_val (x_ld (p := Pq aB) (v := .agg (encB ac).toArray) rfl (ldArrA Ag74 Sz74 aL (H.bl 3))) ?_
  refine s_val (x_mf (fs := []) (cs := [Pq aI]) rfl rfl) ?_
  refine s_val (x_bld (ps := [(0, .func (.func 33) #[] #[Pq aI])]) (zs := [.nilFunc]) (L' := [.func (.func 33) #[] #[Pq aI]]) rfl Try.underlying82 Al82 rfl (Bd82 Try.underlying82) (.cons (cs := [.func (.func 33) #[] #[Pq aI]]) rfl rfl rfl rfl rfl <| .nil)) ?_
  obtain ⟨co, bN, hM⟩ := M.e_bind hM
  refine s_call cf32 [Pq aa, .agg (encB ac).toArray, .agg #[.func (.func 33) #[] #[Pq aI]]] rfl (zdE ax ay az aA au av ah ac (watches.getD s2 0) (aV.app _) aW (aX.app _) aY (aZ.app _) a6 (a7.app _) a8 (aH.app _) aJ (Has.here (k := 4) rfl) aL (Has.here (k := 0) rfl) bN _ (H.gt 7)) ?_
  rintro vq cp ⟨r3, aM, bO, hvq, am⟩
  subst bO
  subst vq
  try dsimp only at hM
  replace H := H.bk am
  clear am
  have cq := ((H.os 0)).len_le
  refine s_val (x_lenS T23.und rfl (H.os 0)) ?_
  refine zM (I 0) rfl ?_
  refine s_nil ?_
  refine W.block ?_
  obtain ⟨bP, bn, bQ⟩ := M.e_bind hM
  obtain ⟨bJ, bn⟩ := M.e_iter bn
  refine W.loop (fun m σ W => ∃ (ae : Int) (flood : Int) (s : Nat) (ρ : Env), σ = upds ρ [(4, aE), (5, aF), (7, Pq aa), (8, Pq aB), (11, I ae), (12, I flood), (26, aC), (27, I (watches.length : Int)), (28, I (s2 : Int)), (36, aM), (37, I (r3.length : Int)), (38, I (s : Int))] /\ M.iterN (zcx ax ay az aA ah au av ac r3) m (ae, flood, s) = some bP /\ St w W [cOwn (α := Int) 3 aM r3, cBlk aI [I (watches.getD s2 0)] 3, cOwn (α := Int) 3 aF l2, cOwn (α := Int) 3 aE l, cBlk aB (encB ac) 74, cBlk aa [ai, aj, ak, al, I au, I av, ab, .map (some aG)] 86, cMem encDm aG ba (zaa ax ay az aA au av ah), cBlk aK [ai, aj, ak, al, I ao, I aq, ab] 30] R) ?_ ?_
  ·exact ⟨_, 2001, -1, 0, _, upds_of _ _ ⟨rfl, rfl, rfl, rfl, rfl, rfl, rfl, rfl, rfl, rfl, rfl, rfl, trivial⟩, bn, H⟩
  rintro ct σ cu ⟨ae, flood, s, ρ, rfl, bz, H⟩
  obtain ⟨bf, bg, cw, hM, aP⟩ := M.e_iterN bz
  simp only [zcx] at hM
  clear bz
  refine W.seq ?_
  refine W.region rfl ?_
  refine zC (s : Int) (r3.length : Int) (decide ((s : Int) < (r3.length : Int))) rfl rfl rfl ?_
  refine s_nil ?_
  refine W.seq ?_
  refine W.cond (decide ((s : Int) < (r3.length : Int))) rfl (fun aQ => ?_) (fun aQ => ?_)
  ·replace hM := M.e_t hM aQ
   simp only [qy1, qy2, qy3, qy4, qy5, qy6, ne_eq, qy7] at aQ
   refine W.skip ?_
   refine W.seq ?_
   refine W.block ?_
   refine W.seq ?_
   refine W.region rfl ?_
   obtain ⟨bR, hM⟩ := M.e_grd hM
   simp only [Bool.and_eq_true, decide_eq_true_eq] at bR
   refine s_val (x_ix (a := aM) (b := I (s : Int)) (v := vat aM 1 (Int.toNat (s : Int))) rfl rfl (Sl.ix (α := Int) T23.und T23.size (H.os 0) (by omega) (by omega))) ?_
   refine s_val (x_ld (p := vat aM 1 (Int.toNat (s : Int))) (v := I (r3.getD s 0)) rfl (ld_sc Sc3 (At.mono (Int_at (H.os 0) (i := (s : Int)) (by omega) (by omega)) (H.ol 0)))) ?_
   refine zA (I (r3.getD s 0)) rfl ?_
   refine s_nil ?_
   refine W.seq ?_
   refine W.drawT (fun W => St w W [cOwn (α := Int) 3 aM r3, cBlk aI [I (watches.getD s2 0)] 3, cOwn (α := Int) 3 aF l2, cOwn (α := Int) 3 aE l, cBlk aB (encB ac) 74, cBlk aa [ai, aj, ak, al, I au, I av, ab, .map (some aG)] 86, cMem encDm aG ba (zaa ax ay az aA au av ah), cBlk aK [ai, aj, ak, al, I ao, I aq, ab] 30] R) (.q 0 (.q 1 (.q 2 (.q 3 (.q 4 (.q 5 (.q 6 (.q 7 (.q 8 (.q 9 (.l2 10 (.l 11 (.l 12 .nil)) 11 (.l 10 (.l 12 .nil))))))))))))) mixed (by decide +kernel) rfl ?_
   intro cx bA
   replace H := H.ext bA
   clear bA
   refine ⟨(H.pk [0, 1, 2, 3, 4, 5, 6, 7]), ?_⟩
   refine t_q rfl (fun w' H => x_mv (v := Pq aa) rfl) ?_
   refine t_q rfl (fun w' H => x_mv (v := Pq aa) rfl) ?_
   refine t_q rfl (fun w' H => x_nc (a := ⟨aa, 0, none⟩) rfl) ?_
   refine t_q rfl (fun w' H => x_fa (a := Pq aa) (v := Pq aa) rfl (fa_blk (o := 0) Fd86_0 Sz30)) ?_
   refine t_q rfl (fun w' H => x_fa (a := Pq aa) (v := Oq aa 6) rfl (fa_blk (o := 0) Fd30_5 Sz28)) ?_
   refine t_q rfl (fun w' H => x_ld (p := Oq aa 6) (v := ab) rfl (ldb_sc Sc28 (H.bl 5) rfl)) ?_
   refine t_q rfl (fun w' H => x_mv (v := I (r3.getD s 0)) rfl) ?_
   obtain ⟨bS, hM⟩ := M.e_grd hM
   simp only [Bool.and_eq_true, decide_eq_true_eq] at bS
   refine t_q rfl (fun w' H => x_ix (a := ab) (b := I (r3.getD s 0)) (v := vat ab 2 (Int.toNat (r3.getD s 0))) rfl rfl (Sl.ix (α := Flood) T28.und T28.size aJ (by omega) (by omega))) ?_
   obtain ⟨bh, bT, aR⟩ := Flood_atA aJ (i := r3.getD s 0) (by omega) (by omega)
   replace aR : Sl _ bh (ah.getD (Int.toNat (r3.getD s 0)) default).stages := aR
   have cy := aR.len_le
   refine t_q rfl (fun w' H => x_ld (p := vat ab 2 (Int.toNat (r3.getD s 0))) (v := .agg #[I ((ah.getD (Int.toNat (r3.getD s 0)) default).spring), bh]) rfl (ld_ag Ag67 Sz67 (At.mono bT (aH.at H)))) ?_
   refine t_q rfl (fun w' H => x_ld (p := Pq aB) (v := .agg (encB ac).toArray) rfl (ldArrA Ag74 Sz74 aL (H.bl 4))) ?_
   refine t_l2 rfl rfl ?_ ?_
   ·skip
    obtain ⟨cz, bU, hM⟩ := M.e_bind hM
    refine s_call cf34 [Pq aa, .agg #[I ((ah.getD (Int.toNat (r3.getD s 0)) default).spring), bh], .agg (encB ac).toArray] rfl (zbf ax ay az aA au av ah (ah.getD (Int.toNat (r3.getD s 0)) default) ac (aV.app _) aW (aX.app _) aY (aZ.app _) a6 (a7.app _) a8 (aH.app _) aJ (Has.here (k := 5) rfl) (aH.app _) aR aL bU _ (H.gt 8)) ?_
    rintro vq cA ⟨r0, ag, aS, bV, hvq, am⟩
    subst bV
    subst vq
    try dsimp only at hM
    replace H := H.bk am
    clear am
    refine s_nil ⟨(H.pk [0, 1, 2, 3, 4, 5, 6, 7]), ?_⟩
    refine t_l rfl ?_
    refine t_alloc (cs := [I 0, I 0, B false]) H Al79 rfl ?_
    intro aw cB H
    refine s_nil ⟨(H.pk [1, 2, 3, 4, 5, 6, 7, 8]), ?_⟩
    refine t_l rfl ?_
    refine t_sw 0 0 [I r0, I ag, B aS] (.agg #[I r0, I ag, B aS]) H rfl rfl Sz79 rfl rfl rfl rfl ?_
    intro cC H
    refine s_nil ⟨(H.pk [1, 2, 3, 4, 5, 6, 7, 8]), ?_⟩
    refine t_nil ?_
    refine W.seq ?_
    refine W.region rfl ?_
    refine s_val (x_fa (a := Pq aw) (v := Oq aw 1) rfl (fa_blk (o := 0) Fd79_1 Sz3)) ?_
    refine s_val (x_ld (p := Oq aw 1) (v := I ag) rfl (ldb_sc Sc3 (H.bl 0) rfl)) ?_
    refine zM (I ae) rfl ?_
    refine zC ag ae (decide (ag < ae)) rfl rfl rfl ?_
    refine s_nil ?_
    refine W.cond (decide (ag < ae)) rfl (fun aT => ?_) (fun aT => ?_)
    ·replace hM := M.e_t hM aT
     simp only [qy1, qy2, qy3, qy4, qy5, qy6, ne_eq, qy7] at aT
     refine W.region rfl ?_
     refine s_val (x_fa (a := Pq aw) (v := Oq aw 1) rfl (fa_blk (o := 0) Fd79_1 Sz3)) ?_
     refine s_val (x_ld (p := Oq aw 1) (v := I ag) rfl (ldb_sc Sc3 (H.bl 0) rfl)) ?_
     refine zM (I (r3.getD s 0)) rfl ?_
     refine zA (I ag) rfl ?_
     refine zA (I (r3.getD s 0)) rfl ?_
     refine s_nil ?_
     refine W.region rfl ?_
     refine zR (s : Int) 1 ((s : Int) + 1) rfl rfl rfl (by omega) ?_
     refine zM (I ((s : Int) + 1)) rfl ?_
     refine s_nil ?_
     exact ⟨bf, bg, ag, r3.getD s 0, s + 1, _, upds_of _ _ ⟨rfl, rfl, rfl, rfl, rfl, rfl, rfl, rfl, rfl, rfl, rfl, rfl, trivial⟩, M.e_inl hM aP, (H.pk [1, 2, 3, 4, 5, 6, 7, 8])⟩
    replace hM := M.e_f hM aT
    simp only [qy1, qy2, qy3, qy4, qy5, qy6, ne_eq, qy7] at aT
    refine W.skip ?_
    refine W.region rfl ?_
    refine zR (s : Int) 1 ((s : Int) + 1) rfl rfl rfl (by omega) ?_
    refine zM (I ((s : Int) + 1)) rfl ?_
    refine s_nil ?_
    exact ⟨bf, bg, ae, flood, s + 1, _, upds_of _ _ ⟨rfl, rfl, rfl, rfl, rfl, rfl, rfl, rfl, rfl, rfl, rfl, rfl, trivial⟩, M.e_inl hM aP, (H.pk [1, 2, 3, 4, 5, 6, 7, 8])⟩
   skip
   refine t_alloc (cs := [I 0, I 0, B false]) H Al79 rfl ?_
   intro aw cD H
   refine s_nil ⟨(H.pk [1, 2, 3, 4, 5, 6, 7, 8]), ?_⟩
   refine t_l rfl ?_
   obtain ⟨cE, bW, hM⟩ := M.e_bind hM
   refine s_call cf34 [Pq aa, .agg #[I ((ah.getD (Int.toNat (r3.getD s 0)) default).spring), bh], .agg (encB ac).toArray] rfl (zbf ax ay az aA au av ah (ah.getD (Int.toNat (r3.getD s 0)) default) ac (aV.app _) aW (aX.app _) aY (aZ.app _) a6 (a7.app _) a8 (aH.app _) aJ (Has.here (k := 6) rfl) (aH.app _) aR aL bW _ (H.gt 9)) ?_
   rintro vq cF ⟨r0, ag, aS, bX, hvq, am⟩
   subst bX
   subst vq
   try dsimp only at hM
   replace H := H.bk am
   clear am
   refine s_nil ⟨(H.pk [1, 2, 3, 4, 5, 6, 7, 8]), ?_⟩
   refine t_l rfl ?_
   refine t_sw 0 0 [I r0, I ag, B aS] (.agg #[I r0, I ag, B aS]) H rfl rfl Sz79 rfl rfl rfl rfl ?_
   intro cG H
   refine s_nil ⟨(H.pk [1, 2, 3, 4, 5, 6, 7, 8]), ?_⟩
   refine t_nil ?_
   refine W.seq ?_
   refine W.region rfl ?_
   refine s_val (x_fa (a := Pq aw) (v := Oq aw 1) rfl (fa_blk (o := 0) Fd79_1 Sz3)) ?_
   refine s_val (x_ld (p := Oq aw 1) (v := I ag) rfl (ldb_sc Sc3 (H.bl 0) rfl)) ?_
   refine zM (I ae) rfl ?_
   refine zC ag ae (decide (ag < ae)) rfl rfl rfl ?_
   refine s_nil ?_
   refine W.cond (decide (ag < ae)) rfl (fun aU => ?_) (fun aU => ?_)
   ·replace hM := M.e_t hM aU
    simp only [qy1, qy2, qy3, qy4, qy5, qy6, ne_eq, qy7] at aU
    refine W.region rfl ?_
    refine s_val (x_fa (a := Pq aw) (v := Oq aw 1) rfl (fa_blk (o := 0) Fd79_1 Sz3)) ?_
    refine s_val (x_ld (p := Oq aw 1) (v := I ag) rfl (ldb_sc Sc3 (H.bl 0) rfl)) ?_
    refine zM (I (r3.getD s 0)) rfl ?_
    refine zA (I ag) rfl ?_
    refine zA (I (r3.getD s 0)) rfl ?_
    refine s_nil ?_
    refine W.region rfl ?_
    refine zR (s : Int) 1 ((s : Int) + 1) rfl rfl rfl (by omega) ?_
    refine zM (I ((s : Int) + 1)) rfl ?_
    refine s_nil ?_
    exact ⟨bf, bg, ag, r3.getD s 0, s + 1, _, upds_of _ _ ⟨rfl, rfl, rfl, rfl, rfl, rfl, rfl, rfl, rfl, rfl, rfl, rfl, trivial⟩, M.e_inl hM aP, (H.pk [1, 2, 3, 4, 5, 6, 7, 8])⟩
   replace hM := M.e_f hM aU
   simp only [qy1, qy2, qy3, qy4, qy5, qy6, ne_eq, qy7] at aU
   refine W.skip ?_
   refine W.region rfl ?_
   refine zR (s : Int) 1 ((s : Int) + 1) rfl rfl rfl (by omega) ?_
   refine zM (I ((s : Int) + 1)) rfl ?_
   refine s_nil ?_
   exact ⟨bf, bg, ae, flood, s + 1, _, upds_of _ _ ⟨rfl, rfl, rfl, rfl, rfl, rfl, rfl, rfl, rfl, rfl, rfl, rfl, trivial⟩, M.e_inl hM aP, (H.pk [1, 2, 3, 4, 5, 6, 7, 8])⟩
  replace hM := M.e_f hM aQ
  simp only [qy1, qy2, qy3, qy4, qy5, qy6, ne_eq, qy7] at aQ
  refine W.exit ?_
  have bY := M.e_inr hM aP
  subst bY
  replace hM := bQ
  try dsimp only at hM
  replace H := H.pk [2, 3, 4, 5, 6, 7]
  refine W.region rfl ?_
  refine zM aE rfl ?_
  refine zM (I ae) rfl ?_
  refine t_bs (α := Int) T23 [I ae] [(ae : Int)] H rfl (.cons rfl (Flat.rep_enc _ (ae : Int)) <| .nil) rfl rfl rfl ?_
  intro bZ cH H
  obtain ⟨b4, hM⟩ := M.e_grd hM
  simp only [Bool.and_eq_true, decide_eq_true_eq] at b4
  refine t_app (α := Int) (k := 2) (l := l) (l2 := [(ae : Int)]) (l' := l ++ ([(ae : Int)])) (vy := bZ) T23 rfl H rfl rfl rfl (H.os 0) (H.ol 0) (rfl) (by first | omega | (simp only [List.length_nil] at *; omega)) ?_
  intro bB cI H
  replace H := H.nf
  refine zM aF rfl ?_
  refine zM (I flood) rfl ?_
  refine t_bs (α := Int) T23 [I flood] [(flood : Int)] H rfl (.cons rfl (Flat.rep_enc _ (flood : Int)) <| .nil) rfl rfl rfl ?_
  intro b5 cJ H
  obtain ⟨b6, hM⟩ := M.e_grd hM
  simp only [Bool.and_eq_true, decide_eq_true_eq] at b6
  refine t_app (α := Int) (k := 2) (l := l2) (l2 := [(flood : Int)]) (l' := l2 ++ ([(flood : Int)])) (vy := b5) T23 rfl H rfl rfl rfl (H.os 0) (H.ol 0) (rfl) (by first | omega | (simp only [List.length_nil] at *; omega)) ?_
  intro bC cK H
  replace H := H.nf
  refine zA bB rfl ?_
  refine zA bC rfl ?_
  refine s_nil ?_
  replace H := H.pk [2, 3, 4, 5, 6, 7]
  refine W.region rfl ?_
  refine zR (s2 : Int) 1 ((s2 : Int) + 1) rfl rfl rfl (by omega) ?_
  refine zM (I ((s2 : Int) + 1)) rfl ?_
  refine s_nil ?_
  exact ⟨bK, bL, s2 + 1, l ++ ([(ae : Int)]), l2 ++ ([(flood : Int)]), bB, bC, _, upds_of _ _ ⟨rfl, rfl, rfl, rfl, rfl, rfl, rfl, trivial⟩, M.e_inl hM bx, H⟩
 replace hM := M.e_f hM aO
 simp only [qy1, qy2, qy3, qy4, qy5, qy6, ne_eq, qy7] at aO
 refine W.exit ?_
 have b7 := M.e_inr hM bx
 subst b7
 replace hM := bI
 try dsimp only at hM
 replace H := H.pk [0, 1]
 refine W.seq ?_
 refine W.region rfl ?_
 refine zM aE rfl ?_
 refine zM aF rfl ?_
 refine zA aE rfl ?_
 refine zA aF rfl ?_
 refine zA (I 0) rfl ?_
 refine s_nil ?_
 refine W.ret ?_
 have bj := M.e_pure hM
 exact ⟨_, resE_tmp3 rfl, ⟨l, l2, 0, aE, aF, bj, rfl, (H.pk [1, 0])⟩⟩

def zcG (n : Int) : M Bool :=
  M.bind (zad n 0 2001) fun r2 =>
  M.pure r2
theorem zds {R : List Chunk}  (n : Int)  {r : Bool} (hM : (zcG n).Ends r) (w : World) (H : St w w [] R) : Ret Try.prog 36 #[I n] w fun v w' => ∃ (y0 : Bool), y0 = r /\ v = B y0 /\ St w w' [] R := by
 refine ret_of_W Try.func36 rfl rfl rfl ?_
 refine W.seq ?_
 refine W.region rfl ?_
 refine zA (B false) rfl ?_
 refine s_nil ?_
 refine W.seq ?_
 refine W.region rfl ?_
 refine zM (I n) rfl ?_
 obtain ⟨ag, ab, hM⟩ := M.e_bind hM
 refine s_call cf37 [I n, I 0, I 2001] rfl (zah n 0 2001 ab _ (H.gt 0)) ?_
 rintro vq ah ⟨r2, ac, hvq, aa⟩
 subst ac
 subst vq
 try dsimp only at hM
 replace H := H.bk aa
 clear aa
 refine zA (B r2) rfl ?_
 refine s_nil ?_
 refine W.ret ?_
 have ae := M.e_pure hM
 exact ⟨_, resE_tmp rfl, ⟨r2, ae, rfl, H⟩⟩

def zcs (x : Rpt) (ab : List Int) (aa : List Int) : M Bool :=
  M.bind (zch ab x.watch) fun r2 =>
  M.grd ((!(decide (0 <= r2)) || (decide ((0 : Int) <= r2) && decide (r2 < (aa.length : Int))))) <|
  M.pure ((decide (0 <= r2)) && (decide ((aa.getD (Int.toNat r2) 0) <= x.stage)))
theorem zcO {R : List Chunk} {aj : Nat} {am : Cells} {ai : Value} {ak : Nat} {ao : Cells} {ae : Value} (x : Rpt) (al : List Int) (ab : List Int) (av : Reads R am) (aw : Sl am ai al) (ax : Has R (cBlk aj [ai] 23)) (ay : Reads R ao) (aq : Sl ao ae ab) (az : Has R (cBlk ak [ae] 23)) {r : Bool} (hM : (zcs x al ab).Ends r) (w : World) (H : St w w [] R) : Ret Try.prog 38 #[.agg #[I x.watch, I x.stage, B x.danger], Pq aj, Pq ak] w fun v w' => ∃ (y0 : Bool), y0 = r /\ v = B y0 /\ St w w' [] R := by
 refine ret_of_W Try.func38 rfl rfl rfl ?_
 refine W.seq ?_
 refine W.region rfl ?_
 refine t_box (v := .agg #[I x.watch, I x.stage, B x.danger]) (cs := [I x.watch, I x.stage, B x.danger]) H rfl rfl ?_
 intro ag aD H
 refine zA (B false) rfl ?_
 refine s_nil ?_
 refine W.seq ?_
 refine W.region rfl ?_
 refine s_val (x_ld (p := Pq aj) (v := ai) rfl (ldb_sc Sc23 (ax.blk H) rfl)) ?_
 refine s_val (x_fa (a := Pq ag) (v := Pq ag) rfl (fa_blk (o := 0) Fd79_0 Sz3)) ?_
 refine s_val (x_ld (p := Pq ag) (v := I x.watch) rfl (ldb_sc Sc3 (H.bl 0) rfl)) ?_
 obtain ⟨aE, aA, hM⟩ := M.e_bind hM
 refine s_call cf39 [ai, I x.watch] rfl (zcS al x.watch (av.app _) aw aA _ (H.gt 1)) ?_
 rintro vq aF ⟨r2, aB, hvq, au⟩
 subst aB
 subst vq
 try dsimp only at hM
 replace H := H.bk au
 clear au
 refine zA (I r2) rfl ?_
 refine s_nil ?_
 refine W.seq ?_
 refine W.draw (fun W => St w W [cBlk ag [I x.watch, I x.stage, B x.danger] 79] R) [(0, true), (1, true), (2, true), (3, true), (4, true), (5, true), (6, true), (7, true), (8, true), (9, true), (10, true), (11, true)] mixed (by decide +kernel) rfl ?_
 intro aG ac
 replace H := H.ext ac
 clear ac
 refine ⟨(H.pk [0]), ?_⟩
 refine d_q rfl (fun w' H => x_mv (v := I r2) rfl) ?_
 refine d_q rfl (fun w' H => x_cmp (kd := .i64) (a := r2) (b := 0) (r := decide (0 <= r2)) rfl rfl rfl) ?_
 refine d_q rfl (fun w' H => x_mv (v := B (decide (0 <= r2))) rfl) ?_
 refine d_qg (decide (0 <= r2)) rfl (gy_t rfl) (fun hg => (fun w' H => x_fa (a := Pq ag) (v := Oq ag 1) rfl (fa_blk (o := 0) Fd79_1 Sz3))) ?_
 refine d_qg (decide (0 <= r2)) rfl (gy_t rfl) (fun hg => (fun w' H => x_ld (p := Oq ag 1) (v := I x.stage) (gd_of (c := decide (0 <= r2)) hg (Oq ag 1)) (ldb_sc Sc3 (H.bl 0) rfl))) ?_
 refine d_qg (decide (0 <= r2)) rfl (gy_t rfl) (fun hg => (fun w' H => x_ld (p := Pq ak) (v := ae) rfl (ldb_sc Sc23 (az.blk H) rfl))) ?_
 refine d_qg (decide (0 <= r2)) rfl (gy_t rfl) (fun hg => (fun w' H => x_mv (v := I r2) rfl)) ?_
 obtain ⟨ah, hM⟩ := M.e_grd hM
 replace ah := M.imp_of ah
 simp only [Bool.and_eq_true, decide_eq_true_eq] at ah
 refine d_qg (decide (0 <= r2)) rfl (gy_t rfl) (fun hg => (fun w' H => x_ix (a := ae) (b := I r2) (v := vat ae 1 (Int.toNat r2)) (gd_of (c := decide (0 <= r2)) hg (ae)) (gd_of (c := decide (0 <= r2)) hg (I r2)) (Sl.ix (α := Int) T23.und T23.size aq (by have aa := ah.resolve_left (by rw [hg]; decide); first | exact aa | exact aa.1 | exact aa.2 | omega | (have ac := hg; simp at ac; omega)) (by have aa := ah.resolve_left (by rw [hg]; decide); first | exact aa | exact aa.1 | exact aa.2 | omega | (have ac := hg; simp at ac; omega))))) ?_
 refine d_qg (decide (0 <= r2)) rfl (gy_t rfl) (fun hg => (fun w' H => x_ld (p := vat ae 1 (Int.toNat r2)) (v := I (ab.getD (Int.toNat r2) 0)) (gd_of (c := decide (0 <= r2)) hg (vat ae 1 (Int.toNat r2))) (ld_sc Sc3 (At.mono (Int_at aq (i := r2) (by have aa := ah.resolve_left (by rw [hg]; decide); first | exact aa | exact aa.1 | exact aa.2 | omega | (have ac := hg; simp at ac; omega)) (by have aa := ah.resolve_left (by rw [hg]; decide); first | exact aa | exact aa.1 | exact aa.2 | omega | (have ac := hg; simp at ac; omega))) (ay.at H))))) ?_
 refine d_qg (decide (0 <= r2)) rfl (gy_t rfl) (fun hg => (fun w' H => x_cmp (kd := .i64) (a := x.stage) (b := ab.getD (Int.toNat r2) 0) (r := decide ((ab.getD (Int.toNat r2) 0) <= x.stage)) (gd_of (c := decide (0 <= r2)) hg (I x.stage)) (gd_of (c := decide (0 <= r2)) hg (I (ab.getD (Int.toNat r2) 0))) rfl)) ?_
 refine d_q rfl (fun w' H => x_pand (b := decide (0 <= r2)) (r := decide ((ab.getD (Int.toNat r2) 0) <= x.stage)) rfl (fun hb => gd_of (c := decide (0 <= r2)) (by first | exact hb | (rw [hb]; rfl) | simp_all) (B (decide ((ab.getD (Int.toNat r2) 0) <= x.stage)))) rfl) ?_
 refine d_q rfl (fun w' H => x_as (v := B ((decide (0 <= r2)) && (decide ((ab.getD (Int.toNat r2) 0) <= x.stage)))) rfl) ?_
 refine d_nil ?_
 refine W.ret ?_
 have aC := M.e_pure hM
 exact ⟨_, resE_tmp rfl, ⟨((decide (0 <= r2)) && (decide ((ab.getD (Int.toNat r2) 0) <= x.stage))), aC, rfl, (H.pk [])⟩⟩

def zcZ (x : Rpt) (aa : List Int) (ab : List Int) : M Bool :=
  M.bind (M.opt x.danger (zcs x aa ab) false) fun r2 =>
  M.pure (x.danger && (!r2))
theorem zdJ {R : List Chunk} {ae : Nat} {aa : Nat} {aj : Cells} {ak : Value} {ab : Nat} {al : Cells} {am : Value} (x : Rpt) (ag : List Int) (ah : List Int) (ao : Reads R aj) (aq : Sl aj ak ag) (au : Has R (cBlk aa [ak] 23)) (av : Reads R al) (aw : Sl al am ah) (ax : Has R (cBlk ab [am] 23)) (ay : Has R (cBlk ae [.func (.func 38) #[] #[Pq aa, Pq ab]] 80)) {r : Bool} (hM : (zcZ x ag ah).Ends r) (w : World) (H : St w w [] R) : Ret Try.prog 40 #[.agg #[I x.watch, I x.stage, B x.danger], Pq ae] w fun v w' => ∃ (y0 : Bool), y0 = r /\ v = B y0 /\ St w w' [] R := by
 refine ret_of_W Try.func40 rfl rfl rfl ?_
 refine W.seq ?_
 refine W.region rfl ?_
 refine t_box (v := .agg #[I x.watch, I x.stage, B x.danger]) (cs := [I x.watch, I x.stage, B x.danger]) H rfl rfl ?_
 intro ac aB H
 refine zA (B false) rfl ?_
 refine s_nil ?_
 refine W.seq ?_
 refine W.region rfl ?_
 refine s_val (x_fa (a := Pq ac) (v := Oq ac 2) rfl (fa_blk (o := 0) Fd79_2 Sz4)) ?_
 refine s_val (x_ld (p := Oq ac 2) (v := B x.danger) rfl (ldb_sc Sc4 (H.bl 0) rfl)) ?_
 refine zM (B x.danger) rfl ?_
 refine g_val x.danger (gy_t rfl) (fun hg => x_ld (p := Pq ae) (v := .func (.func 38) #[] #[Pq aa, Pq ab]) rfl (ldb_sc Sc80 (ay.blk H) rfl)) ?_
 refine g_val x.danger (gy_t rfl) (fun hg => x_ld (p := Pq ac) (v := .agg #[I x.watch, I x.stage, B x.danger]) rfl (ldb_ag (ds := [I x.watch, I x.stage, B x.danger]) Ag79 Sz79 (H.bl 0) rfl rfl)) ?_
 obtain ⟨r2, az, hM⟩ := M.e_bind hM
 refine t_gcallv (cap := [Pq aa, Pq ab]) x.danger (gy_t rfl) cf38 (fun hg => (gd_of (c := x.danger) hg (.func (.func 38) #[] #[Pq aa, Pq ab]))) (B r2) (fun _ => [.agg #[I x.watch, I x.stage, B x.danger]]) (fun hg => lst1 (gd_of (c := x.danger) hg (.agg #[I x.watch, I x.stage, B x.danger]))) H (fun hg => (zcO x ag ah (ao.app _) aq (au.app _) (av.app _) aw (ax.app _) (M.e_opt az hg) _ (H.give (A := []) rfl)).mono fun v_ w_ ⟨y_, ai, aA, H_⟩ => by subst ai; exact ⟨aA, H.via H_⟩) ?_
 intro aC H
 refine g_val x.danger (gy_t rfl) (fun hg => x_not (b := r2) (gd_of (c := x.danger) hg (B r2))) ?_
 refine s_val (x_pand (b := x.danger) (r := !r2) rfl (fun hb => gd_of (c := x.danger) (by first | exact hb | (rw [hb]; rfl) | simp_all) (B (!r2))) rfl) ?_
 refine zA (B (x.danger && (!r2))) rfl ?_
 refine s_nil ?_
 refine W.ret ?_
 have ai := M.e_pure hM
 exact ⟨_, resE_tmp rfl, ⟨(x.danger && (!r2)), ai, rfl, (H.pk [])⟩⟩

def zcD (ab : List Int) (ac : List Span) (ae : List Int) (ag : List Town) (ah : Int) (ai : Int) (aa : List Flood) (p : List Bool) (aj : List Int) (ak : List Int) : (Nat × (List Int)) -> M ((Nat × (List Int)) ⊕ ((List Int) × (List Int))) := fun (s, l) =>
  bif decide ((s : Int) < (aa.length : Int)) then (
  M.grd (decide ((s : Int) < (aa.length : Int))) <|
  M.bind (zaS ab ac ae ag ah ai aa (aa.getD s default) p) fun (r0, r1, r2) =>
  M.bind (zcZ (⟨(r0 : Int), (r1 : Int), r2⟩ : Rpt) aj ak) fun r3 =>
  bif r3 then (
  M.grd (decide ((l.length + ([(s : Int)]).length) * 8 <= 140737488355328)) <|
  M.pure (.inl (s + 1, l ++ ([(s : Int)]))))
  else (
  M.pure (.inl (s + 1, l))))
  else (
  M.pure (.inr (l, l)))
def zcU (aa : List Int) (ab : List Span) (ac : List Int) (ae : List Town) (ag : Int) (ah : Int) (ai : List Flood) (p : List Bool) (aj : List Int) (ak : List Int) : M (List Int) :=
  M.bind (M.iter (zcD aa ab ac ae ag ah ai p aj ak) (0, [])) fun (l2, l3) =>
  M.pure l3
theorem zdI {R : List Chunk} {ab : Nat} {aF : Cells} {aG : Value} {aH : Cells} {aI : Value} {aJ : Cells} {aK : Value} {aL : Cells} {aM : Value} {aN : Cells} {ag : Value} {a8 : Nat} {ah : Nat} {aO : Nat} {aP : Cells} {aQ : Value} {aR : Nat} {aS : Cells} {aT : Value} (ao : List Int) (aq : List Span) (au : List Int) (av : List Town) (aw : Int) (ax : Int) (aa : List Flood) (p : List Bool) (ay : List Int) (az : List Int) (ba : Reads R aF) (bb : Sl aF aG ao) (bc : Reads R aH) (bf : Sl aH aI aq) (bg : Reads R aJ) (bh : Sl aJ aK au) (bi : Reads R aL) (bj : Sl aL aM av) (aB : Reads R aN) (aj : Sl aN ag aa) (aU : Has R (cBlk ab [aG, aI, aK, aM, I aw, I ax, ag, .map (some a8)] 86)) (aV : p.length = 12) (bm : Reads R aP) (bn : Sl aP aQ ay) (bo : Has R (cBlk aO [aQ] 23)) (bp : Reads R aS) (bq : Sl aS aT az) (br : Has R (cBlk aR [aT] 23)) (bt : Has R (cBlk ah [.func (.func 38) #[] #[Pq aO, Pq aR]] 80)) {r : (List Int)} (hM : (zcU ao aq au av aw ax aa p ay az).Ends r) (w : World) (H : St w w [] R) : Ret Try.prog 32 #[Pq ab, .agg (encB p).toArray, .agg #[.func (.func 40) #[] #[Pq ah]]] w fun v w' => ∃ (y0 : List Int) (u0 : Value), y0 = r /\ v = u0 /\ St w w' [cOwn (α := Int) 3 u0 y0] R := by
 refine ret_of_W Try.func32 rfl rfl rfl ?_
 refine W.seq ?_
 refine W.region rfl ?_
 refine t_box (v := .agg (encB p).toArray) (cs := encB p) H rfl rfl ?_
 intro aA bH H
 refine t_box (v := .agg #[.func (.func 40) #[] #[Pq ah]]) (cs := [.func (.func 40) #[] #[Pq ah]]) H rfl rfl ?_
 intro ai bI H
 refine zA (.slice none 0 0) rfl ?_
 refine s_nil ?_
 refine W.seq ?_
 refine W.region rfl ?_
 refine zA (.slice none 0 0) rfl ?_
 refine s_nil ?_
 refine W.seq ?_
 refine W.seq ?_
 refine W.region rfl ?_
 refine zM (Pq ab) rfl ?_
 refine s_val (x_nc (a := ⟨ab, 0, none⟩) rfl) ?_
 refine s_val (x_fa (a := Pq ab) (v := Pq ab) rfl (fa_blk (o := 0) Fd86_0 Sz30)) ?_
 refine s_val (x_fa (a := Pq ab) (v := Oq ab 6) rfl (fa_blk (o := 0) Fd30_5 Sz28)) ?_
 refine s_val (x_ld (p := Oq ab 6) (v := ag) rfl (ldb_sc Sc28 (aU.blk H) rfl)) ?_
 have bJ := (aj).len_le
 refine s_val (x_lenS T28.und rfl aj) ?_
 refine zM (I 0) rfl ?_
 refine s_nil ?_
 refine W.block ?_
 replace H := H.nilOwn (α := Int) 3
 obtain ⟨bu, aC, bv⟩ := M.e_bind hM
 obtain ⟨bK, aC⟩ := M.e_iter aC
 refine W.loop (fun m σ W => ∃ (s : Nat) (l : List Int) (ac : Value) (ρ : Env), σ = upds ρ [(0, Pq ab), (4, Pq aA), (5, Pq ai), (7, ac), (14, ag), (15, I (aa.length : Int)), (16, I (s : Int))] /\ M.iterN (zcD ao aq au av aw ax aa p ay az) m (s, l) = some bu /\ St w W [cOwn (α := Int) 3 ac l, cBlk ai [.func (.func 40) #[] #[Pq ah]] 82, cBlk aA (encB p) 74] R) ?_ ?_
 ·exact ⟨_, 0, [], (.slice none 0 0), _, upds_of _ _ ⟨rfl, rfl, rfl, rfl, rfl, rfl, rfl, trivial⟩, aC, H⟩
 rintro bL σ bM ⟨s, l, ac, ρ, rfl, aW, H⟩
 obtain ⟨aX, aY, bN, hM, aD⟩ := M.e_iterN aW
 simp only [zcD] at hM
 clear aW
 refine W.seq ?_
 refine W.region rfl ?_
 refine zC (s : Int) (aa.length : Int) (decide ((s : Int) < (aa.length : Int))) rfl rfl rfl ?_
 refine s_nil ?_
 refine W.seq ?_
 refine W.cond (decide ((s : Int) < (aa.length : Int))) rfl (fun ak => ?_) (fun ak => ?_)
 ·replace hM := M.e_t hM ak
  simp only [qy1, qy2, qy3, qy4, qy5, qy6, ne_eq, qy7] at ak
  refine W.skip ?_
  refine W.seq ?_
  refine W.block ?_
  refine W.seq ?_
  refine W.region rfl ?_
  refine zM (I (s : Int)) rfl ?_
  obtain ⟨bw, hM⟩ := M.e_grd hM
  simp only [Bool.and_eq_true, decide_eq_true_eq] at bw
  refine s_val (x_ix (a := ag) (b := I (s : Int)) (v := vat ag 2 (Int.toNat (s : Int))) rfl rfl (Sl.ix (α := Flood) T28.und T28.size aj (by omega) (by omega))) ?_
  obtain ⟨ae, bx, al⟩ := Flood_atA aj (i := (s : Int)) (by omega) (by omega)
  replace al : Sl _ ae (aa.getD s default).stages := al
  have bO := al.len_le
  refine s_val (x_ld (p := vat ag 2 (Int.toNat (s : Int))) (v := .agg #[I ((aa.getD s default).spring), ae]) rfl (ld_ag Ag67 Sz67 (At.mono bx (aB.at H)))) ?_
  refine t_alloc (cs := [I 0, .slice none 0 0]) H Al67 rfl ?_
  intro aZ bP H
  refine zA (I (s : Int)) rfl ?_
  refine t_sw 0 0 [I ((aa.getD s default).spring), ae] (.agg #[I ((aa.getD s default).spring), ae]) H rfl rfl Sz67 rfl rfl rfl (by simp only [List.all_cons, List.all_nil, Bool.true_and, Bool.and_true, Sl.oc al]; try rfl) ?_
  intro bQ H
  refine s_nil ?_
  refine W.seq ?_
  refine W.draw (fun W => St w W [cBlk aZ [I ((aa.getD s default).spring), ae] 67, cOwn (α := Int) 3 ac l, cBlk ai [.func (.func 40) #[] #[Pq ah]] 82, cBlk aA (encB p) 74] R) [(0, true), (1, true), (2, true), (3, true), (4, true), (5, false), (6, false)] mixed (by decide +kernel) rfl ?_
  intro bR a6
  replace H := H.ext a6
  clear a6
  refine ⟨(H.pk [0, 1, 2, 3]), ?_⟩
  refine d_q rfl (fun w' H => x_fa (a := Pq ai) (v := Pq ai) rfl (fa_blk (o := 0) Fd82_0 Sz80)) ?_
  refine d_q rfl (fun w' H => x_ld (p := Pq ai) (v := .func (.func 40) #[] #[Pq ah]) rfl (ldb_sc Sc80 (H.bl 2) rfl)) ?_
  refine d_q rfl (fun w' H => x_mv (v := Pq ab) rfl) ?_
  refine d_q rfl (fun w' H => x_ld (p := Pq aZ) (v := .agg #[I ((aa.getD s default).spring), ae]) rfl (ldb_ag (ds := [I ((aa.getD s default).spring), ae]) Ag67 Sz67 (H.bl 0) rfl rfl)) ?_
  refine d_q rfl (fun w' H => x_ld (p := Pq aA) (v := .agg (encB p).toArray) rfl (ldArrA Ag74 Sz74 aV (H.bl 3))) ?_
  refine d_l rfl ?_
  obtain ⟨bS, bz, hM⟩ := M.e_bind hM
  refine s_call cf34 [Pq ab, .agg #[I ((aa.getD s default).spring), ae], .agg (encB p).toArray] rfl (zbf ao aq au av aw ax aa (aa.getD s default) p (ba.app _) bb (bc.app _) bf (bg.app _) bh (bi.app _) bj (aB.app _) aj (aU.app _) (aB.app _) al aV bz _ (H.gt 4)) ?_
  rintro vq bT ⟨r0, r1, r2, bA, hvq, am⟩
  subst bA
  subst vq
  try dsimp only at hM
  replace H := H.bk am
  clear am
  refine s_nil ⟨(H.pk [0, 1, 2, 3]), ?_⟩
  refine d_l rfl ?_
  obtain ⟨bU, bB, hM⟩ := M.e_bind hM
  refine s_callv (f := 40) rfl cf40 [.agg #[I r0, I r1, B r2]] rfl (zdJ (⟨(r0 : Int), (r1 : Int), r2⟩ : Rpt) ay az (bm.app _) bn (bo.app _) (bp.app _) bq (br.app _) (bt.app _) bB _ (H.gt 4)) ?_
  rintro vq bV ⟨r3, bC, hvq, am⟩
  subst bC
  subst vq
  try dsimp only at hM
  replace H := H.bk am
  clear am
  refine s_nil ⟨(H.pk [0, 1, 2, 3]), ?_⟩
  refine d_nil ?_
  refine W.cond r3 rfl (fun aE => ?_) (fun aE => ?_)
  ·replace hM := M.e_t hM aE
   refine W.region rfl ?_
   refine zM ac rfl ?_
   refine zM (I (s : Int)) rfl ?_
   refine t_bs (α := Int) T23 [I (s : Int)] [(s : Int)] H rfl (.cons rfl (Flat.rep_enc _ (s : Int)) <| .nil) rfl rfl rfl ?_
   intro bD bW H
   obtain ⟨bE, hM⟩ := M.e_grd hM
   simp only [Bool.and_eq_true, decide_eq_true_eq] at bE
   refine t_app (α := Int) (k := 2) (l := l) (l2 := [(s : Int)]) (l' := l ++ ([(s : Int)])) (vy := bD) T23 rfl H rfl rfl rfl (H.os 0) (H.ol 0) (rfl) (by first | omega | (simp only [List.length_nil] at *; omega)) ?_
   intro a7 bX H
   replace H := H.nf
   refine zA a7 rfl ?_
   refine s_nil ?_
   replace H := H.pk [2, 3, 4]
   refine W.region rfl ?_
   refine zR (s : Int) 1 ((s : Int) + 1) rfl rfl rfl (by omega) ?_
   refine zM (I ((s : Int) + 1)) rfl ?_
   refine s_nil ?_
   exact ⟨aX, aY, s + 1, l ++ ([(s : Int)]), a7, _, upds_of _ _ ⟨rfl, rfl, rfl, rfl, rfl, rfl, rfl, trivial⟩, M.e_inl hM aD, H⟩
  replace hM := M.e_f hM aE
  refine W.skip ?_
  refine W.region rfl ?_
  refine zR (s : Int) 1 ((s : Int) + 1) rfl rfl rfl (by omega) ?_
  refine zM (I ((s : Int) + 1)) rfl ?_
  refine s_nil ?_
  exact ⟨aX, aY, s + 1, l, ac, _, upds_of _ _ ⟨rfl, rfl, rfl, rfl, rfl, rfl, rfl, trivial⟩, M.e_inl hM aD, (H.pk [1, 2, 3])⟩
 replace hM := M.e_f hM ak
 simp only [qy1, qy2, qy3, qy4, qy5, qy6, ne_eq, qy7] at ak
 refine W.exit ?_
 have bF := M.e_inr hM aD
 subst bF
 replace hM := bv
 try dsimp only at hM
 replace H := H.pk [0]
 refine W.seq ?_
 refine W.region rfl ?_
 refine zM ac rfl ?_
 refine zA ac rfl ?_
 refine s_nil ?_
 refine W.ret ?_
 have bG := M.e_pure hM
 exact ⟨_, resE_tmp rfl, ⟨l, ac, bG, rfl, H⟩⟩

def zcP (x : Rpt) (aa : List Int) (ab : List Int) : M Bool :=
  M.bind (M.opt (!x.danger) (zcs x aa ab) false) fun r2 =>
  M.pure ((!x.danger) && r2)
theorem zdy {R : List Chunk} {ae : Nat} {aa : Nat} {aj : Cells} {ak : Value} {ab : Nat} {al : Cells} {am : Value} (x : Rpt) (ag : List Int) (ah : List Int) (ao : Reads R aj) (aq : Sl aj ak ag) (au : Has R (cBlk aa [ak] 23)) (av : Reads R al) (aw : Sl al am ah) (ax : Has R (cBlk ab [am] 23)) (ay : Has R (cBlk ae [.func (.func 38) #[] #[Pq aa, Pq ab]] 80)) {r : Bool} (hM : (zcP x ag ah).Ends r) (w : World) (H : St w w [] R) : Ret Try.prog 41 #[.agg #[I x.watch, I x.stage, B x.danger], Pq ae] w fun v w' => ∃ (y0 : Bool), y0 = r /\ v = B y0 /\ St w w' [] R := by
 refine ret_of_W Try.func41 rfl rfl rfl ?_
 refine W.seq ?_
 refine W.region rfl ?_
 refine t_box (v := .agg #[I x.watch, I x.stage, B x.danger]) (cs := [I x.watch, I x.stage, B x.danger]) H rfl rfl ?_
 intro ac aB H
 refine zA (B false) rfl ?_
 refine s_nil ?_
 refine W.seq ?_
 refine W.region rfl ?_
 refine s_val (x_fa (a := Pq ac) (v := Oq ac 2) rfl (fa_blk (o := 0) Fd79_2 Sz4)) ?_
 refine s_val (x_ld (p := Oq ac 2) (v := B x.danger) rfl (ldb_sc Sc4 (H.bl 0) rfl)) ?_
 refine s_val (x_not (b := x.danger) rfl) ?_
 refine zM (B (!x.danger)) rfl ?_
 refine g_val (!x.danger) (gy_t rfl) (fun hg => x_ld (p := Pq ae) (v := .func (.func 38) #[] #[Pq aa, Pq ab]) rfl (ldb_sc Sc80 (ay.blk H) rfl)) ?_
 refine g_val (!x.danger) (gy_t rfl) (fun hg => x_ld (p := Pq ac) (v := .agg #[I x.watch, I x.stage, B x.danger]) rfl (ldb_ag (ds := [I x.watch, I x.stage, B x.danger]) Ag79 Sz79 (H.bl 0) rfl rfl)) ?_
 obtain ⟨r2, az, hM⟩ := M.e_bind hM
 refine t_gcallv (cap := [Pq aa, Pq ab]) (!x.danger) (gy_t rfl) cf38 (fun hg => (gd_of (c := !x.danger) hg (.func (.func 38) #[] #[Pq aa, Pq ab]))) (B r2) (fun _ => [.agg #[I x.watch, I x.stage, B x.danger]]) (fun hg => lst1 (gd_of (c := !x.danger) hg (.agg #[I x.watch, I x.stage, B x.danger]))) H (fun hg => (zcO x ag ah (ao.app _) aq (au.app _) (av.app _) aw (ax.app _) (M.e_opt az hg) _ (H.give (A := []) rfl)).mono fun v_ w_ ⟨y_, ai, aA, H_⟩ => by subst ai; exact ⟨aA, H.via H_⟩) ?_
 intro aC H
 refine s_val (x_pand (b := !x.danger) (r := r2) rfl (fun hb => gd_of (c := !x.danger) (by first | exact hb | (rw [hb]; rfl) | simp_all) (B r2)) rfl) ?_
 refine zA (B ((!x.danger) && r2)) rfl ?_
 refine s_nil ?_
 refine W.ret ?_
 have ai := M.e_pure hM
 exact ⟨_, resE_tmp rfl, ⟨((!x.danger) && r2), ai, rfl, (H.pk [])⟩⟩

def zcE (ab : List Int) (ac : List Span) (ae : List Int) (ag : List Town) (ah : Int) (ai : Int) (aa : List Flood) (p : List Bool) (aj : List Int) (ak : List Int) : (Nat × (List Int)) -> M ((Nat × (List Int)) ⊕ ((List Int) × (List Int))) := fun (s, l) =>
  bif decide ((s : Int) < (aa.length : Int)) then (
  M.grd (decide ((s : Int) < (aa.length : Int))) <|
  M.bind (zaS ab ac ae ag ah ai aa (aa.getD s default) p) fun (r0, r1, r2) =>
  M.bind (zcP (⟨(r0 : Int), (r1 : Int), r2⟩ : Rpt) aj ak) fun r3 =>
  bif r3 then (
  M.grd (decide ((l.length + ([(s : Int)]).length) * 8 <= 140737488355328)) <|
  M.pure (.inl (s + 1, l ++ ([(s : Int)]))))
  else (
  M.pure (.inl (s + 1, l))))
  else (
  M.pure (.inr (l, l)))
def zcQ (aa : List Int) (ab : List Span) (ac : List Int) (ae : List Town) (ag : Int) (ah : Int) (ai : List Flood) (p : List Bool) (aj : List Int) (ak : List Int) : M (List Int) :=
  M.bind (M.iter (zcE aa ab ac ae ag ah ai p aj ak) (0, [])) fun (l2, l3) =>
  M.pure l3
theorem zdm {R : List Chunk} {ab : Nat} {aF : Cells} {aG : Value} {aH : Cells} {aI : Value} {aJ : Cells} {aK : Value} {aL : Cells} {aM : Value} {aN : Cells} {ag : Value} {a8 : Nat} {ah : Nat} {aO : Nat} {aP : Cells} {aQ : Value} {aR : Nat} {aS : Cells} {aT : Value} (ao : List Int) (aq : List Span) (au : List Int) (av : List Town) (aw : Int) (ax : Int) (aa : List Flood) (p : List Bool) (ay : List Int) (az : List Int) (ba : Reads R aF) (bb : Sl aF aG ao) (bc : Reads R aH) (bf : Sl aH aI aq) (bg : Reads R aJ) (bh : Sl aJ aK au) (bi : Reads R aL) (bj : Sl aL aM av) (aB : Reads R aN) (aj : Sl aN ag aa) (aU : Has R (cBlk ab [aG, aI, aK, aM, I aw, I ax, ag, .map (some a8)] 86)) (aV : p.length = 12) (bm : Reads R aP) (bn : Sl aP aQ ay) (bo : Has R (cBlk aO [aQ] 23)) (bp : Reads R aS) (bq : Sl aS aT az) (br : Has R (cBlk aR [aT] 23)) (bt : Has R (cBlk ah [.func (.func 38) #[] #[Pq aO, Pq aR]] 80)) {r : (List Int)} (hM : (zcQ ao aq au av aw ax aa p ay az).Ends r) (w : World) (H : St w w [] R) : Ret Try.prog 32 #[Pq ab, .agg (encB p).toArray, .agg #[.func (.func 41) #[] #[Pq ah]]] w fun v w' => ∃ (y0 : List Int) (u0 : Value), y0 = r /\ v = u0 /\ St w w' [cOwn (α := Int) 3 u0 y0] R := by
 refine ret_of_W Try.func32 rfl rfl rfl ?_
 refine W.seq ?_
 refine W.region rfl ?_
 refine t_box (v := .agg (encB p).toArray) (cs := encB p) H rfl rfl ?_
 intro aA bH H
 refine t_box (v := .agg #[.func (.func 41) #[] #[Pq ah]]) (cs := [.func (.func 41) #[] #[Pq ah]]) H rfl rfl ?_
 intro ai bI H
 refine zA (.slice none 0 0) rfl ?_
 refine s_nil ?_
 refine W.seq ?_
 refine W.region rfl ?_
 refine zA (.slice none 0 0) rfl ?_
 refine s_nil ?_
 refine W.seq ?_
 refine W.seq ?_
 refine W.region rfl ?_
 refine zM (Pq ab) rfl ?_
 refine s_val (x_nc (a := ⟨ab, 0, none⟩) rfl) ?_
 refine s_val (x_fa (a := Pq ab) (v := Pq ab) rfl (fa_blk (o := 0) Fd86_0 Sz30)) ?_
 refine s_val (x_fa (a := Pq ab) (v := Oq ab 6) rfl (fa_blk (o := 0) Fd30_5 Sz28)) ?_
 refine s_val (x_ld (p := Oq ab 6) (v := ag) rfl (ldb_sc Sc28 (aU.blk H) rfl)) ?_
 have bJ := (aj).len_le
 refine s_val (x_lenS T28.und rfl aj) ?_
 refine zM (I 0) rfl ?_
 refine s_nil ?_
 refine W.block ?_
 replace H := H.nilOwn (α := Int) 3
 obtain ⟨bu, aC, bv⟩ := M.e_bind hM
 obtain ⟨bK, aC⟩ := M.e_iter aC
 refine W.loop (fun m σ W => ∃ (s : Nat) (l : List Int) (ac : Value) (ρ : Env), σ = upds ρ [(0, Pq ab), (4, Pq aA), (5, Pq ai), (7, ac), (14, ag), (15, I (aa.length : Int)), (16, I (s : Int))] /\ M.iterN (zcE ao aq au av aw ax aa p ay az) m (s, l) = some bu /\ St w W [cOwn (α := Int) 3 ac l, cBlk ai [.func (.func 41) #[] #[Pq ah]] 82, cBlk aA (encB p) 74] R) ?_ ?_
 ·exact ⟨_, 0, [], (.slice none 0 0), _, upds_of _ _ ⟨rfl, rfl, rfl, rfl, rfl, rfl, rfl, trivial⟩, aC, H⟩
 rintro bL σ bM ⟨s, l, ac, ρ, rfl, aW, H⟩
 obtain ⟨aX, aY, bN, hM, aD⟩ := M.e_iterN aW
 simp only [zcE] at hM
 clear aW
 refine W.seq ?_
 refine W.region rfl ?_
 refine zC (s : Int) (aa.length : Int) (decide ((s : Int) < (aa.length : Int))) rfl rfl rfl ?_
 refine s_nil ?_
 refine W.seq ?_
 refine W.cond (decide ((s : Int) < (aa.length : Int))) rfl (fun ak => ?_) (fun ak => ?_)
 ·replace hM := M.e_t hM ak
  simp only [qy1, qy2, qy3, qy4, qy5, qy6, ne_eq, qy7] at ak
  refine W.skip ?_
  refine W.seq ?_
  refine W.block ?_
  refine W.seq ?_
  refine W.region rfl ?_
  refine zM (I (s : Int)) rfl ?_
  obtain ⟨bw, hM⟩ := M.e_grd hM
  simp only [Bool.and_eq_true, decide_eq_true_eq] at bw
  refine s_val (x_ix (a := ag) (b := I (s : Int)) (v := vat ag 2 (Int.toNat (s : Int))) rfl rfl (Sl.ix (α := Flood) T28.und T28.size aj (by omega) (by omega))) ?_
  obtain ⟨ae, bx, al⟩ := Flood_atA aj (i := (s : Int)) (by omega) (by omega)
  replace al : Sl _ ae (aa.getD s default).stages := al
  have bO := al.len_le
  refine s_val (x_ld (p := vat ag 2 (Int.toNat (s : Int))) (v := .agg #[I ((aa.getD s default).spring), ae]) rfl (ld_ag Ag67 Sz67 (At.mono bx (aB.at H)))) ?_
  refine t_alloc (cs := [I 0, .slice none 0 0]) H Al67 rfl ?_
  intro aZ bP H
  refine zA (I (s : Int)) rfl ?_
  refine t_sw 0 0 [I ((aa.getD s default).spring), ae] (.agg #[I ((aa.getD s default).spring), ae]) H rfl rfl Sz67 rfl rfl rfl (by simp only [List.all_cons, List.all_nil, Bool.true_and, Bool.and_true, Sl.oc al]; try rfl) ?_
  intro bQ H
  refine s_nil ?_
  refine W.seq ?_
  refine W.draw (fun W => St w W [cBlk aZ [I ((aa.getD s default).spring), ae] 67, cOwn (α := Int) 3 ac l, cBlk ai [.func (.func 41) #[] #[Pq ah]] 82, cBlk aA (encB p) 74] R) [(0, true), (1, true), (2, true), (3, true), (4, true), (5, false), (6, false)] mixed (by decide +kernel) rfl ?_
  intro bR a6
  replace H := H.ext a6
  clear a6
  refine ⟨(H.pk [0, 1, 2, 3]), ?_⟩
  refine d_q rfl (fun w' H => x_fa (a := Pq ai) (v := Pq ai) rfl (fa_blk (o := 0) Fd82_0 Sz80)) ?_
  refine d_q rfl (fun w' H => x_ld (p := Pq ai) (v := .func (.func 41) #[] #[Pq ah]) rfl (ldb_sc Sc80 (H.bl 2) rfl)) ?_
  refine d_q rfl (fun w' H => x_mv (v := Pq ab) rfl) ?_
  refine d_q rfl (fun w' H => x_ld (p := Pq aZ) (v := .agg #[I ((aa.getD s default).spring), ae]) rfl (ldb_ag (ds := [I ((aa.getD s default).spring), ae]) Ag67 Sz67 (H.bl 0) rfl rfl)) ?_
  refine d_q rfl (fun w' H => x_ld (p := Pq aA) (v := .agg (encB p).toArray) rfl (ldArrA Ag74 Sz74 aV (H.bl 3))) ?_
  refine d_l rfl ?_
  obtain ⟨bS, bz, hM⟩ := M.e_bind hM
  refine s_call cf34 [Pq ab, .agg #[I ((aa.getD s default).spring), ae], .agg (encB p).toArray] rfl (zbf ao aq au av aw ax aa (aa.getD s default) p (ba.app _) bb (bc.app _) bf (bg.app _) bh (bi.app _) bj (aB.app _) aj (aU.app _) (aB.app _) al aV bz _ (H.gt 4)) ?_
  rintro vq bT ⟨r0, r1, r2, bA, hvq, am⟩
  subst bA
  subst vq
  try dsimp only at hM
  replace H := H.bk am
  clear am
  refine s_nil ⟨(H.pk [0, 1, 2, 3]), ?_⟩
  refine d_l rfl ?_
  obtain ⟨bU, bB, hM⟩ := M.e_bind hM
  refine s_callv (f := 41) rfl cf41 [.agg #[I r0, I r1, B r2]] rfl (zdy (⟨(r0 : Int), (r1 : Int), r2⟩ : Rpt) ay az (bm.app _) bn (bo.app _) (bp.app _) bq (br.app _) (bt.app _) bB _ (H.gt 4)) ?_
  rintro vq bV ⟨r3, bC, hvq, am⟩
  subst bC
  subst vq
  try dsimp only at hM
  replace H := H.bk am
  clear am
  refine s_nil ⟨(H.pk [0, 1, 2, 3]), ?_⟩
  refine d_nil ?_
  refine W.cond r3 rfl (fun aE => ?_) (fun aE => ?_)
  ·replace hM := M.e_t hM aE
   refine W.region rfl ?_
   refine zM ac rfl ?_
   refine zM (I (s : Int)) rfl ?_
   refine t_bs (α := Int) T23 [I (s : Int)] [(s : Int)] H rfl (.cons rfl (Flat.rep_enc _ (s : Int)) <| .nil) rfl rfl rfl ?_
   intro bD bW H
   obtain ⟨bE, hM⟩ := M.e_grd hM
   simp only [Bool.and_eq_true, decide_eq_true_eq] at bE
   refine t_app (α := Int) (k := 2) (l := l) (l2 := [(s : Int)]) (l' := l ++ ([(s : Int)])) (vy := bD) T23 rfl H rfl rfl rfl (H.os 0) (H.ol 0) (rfl) (by first | omega | (simp only [List.length_nil] at *; omega)) ?_
   intro a7 bX H
   replace H := H.nf
   refine zA a7 rfl ?_
   refine s_nil ?_
   replace H := H.pk [2, 3, 4]
   refine W.region rfl ?_
   refine zR (s : Int) 1 ((s : Int) + 1) rfl rfl rfl (by omega) ?_
   refine zM (I ((s : Int) + 1)) rfl ?_
   refine s_nil ?_
   exact ⟨aX, aY, s + 1, l ++ ([(s : Int)]), a7, _, upds_of _ _ ⟨rfl, rfl, rfl, rfl, rfl, rfl, rfl, trivial⟩, M.e_inl hM aD, H⟩
  replace hM := M.e_f hM aE
  refine W.skip ?_
  refine W.region rfl ?_
  refine zR (s : Int) 1 ((s : Int) + 1) rfl rfl rfl (by omega) ?_
  refine zM (I ((s : Int) + 1)) rfl ?_
  refine s_nil ?_
  exact ⟨aX, aY, s + 1, l, ac, _, upds_of _ _ ⟨rfl, rfl, rfl, rfl, rfl, rfl, rfl, trivial⟩, M.e_inl hM aD, (H.pk [1, 2, 3])⟩
 replace hM := M.e_f hM ak
 simp only [qy1, qy2, qy3, qy4, qy5, qy6, ne_eq, qy7] at ak
 refine W.exit ?_
 have bF := M.e_inr hM aD
 subst bF
 replace hM := bv
 try dsimp only at hM
 replace H := H.pk [0]
 refine W.seq ?_
 refine W.region rfl ?_
 refine zM ac rfl ?_
 refine zA ac rfl ?_
 refine s_nil ?_
 refine W.ret ?_
 have bG := M.e_pure hM
 exact ⟨_, resE_tmp rfl, ⟨l, ac, bG, rfl, H⟩⟩

def zaB (aa : List Int) (ab : List Span) (ac : List Int) (ae : List Town) (ak : Int) (al : Int) (ag : List Flood) (watches : List Int) (thresholds : List Int) : M ((List Int) × (List Int) × Int) :=
  M.bind (zaM aa ab ac ae ak al ag watches) fun x_ => match x_ with
  | (.inl (r1, r2)) => (
  bif r2 != 0 then (
  M.pure (([]), ([]), r2))
  else (
  M.fail))
  | (.inr (ah, ai, aj, am)) => (
  bif am != 0 then (
  M.fail)
  else (
  bif (thresholds.length : Int) != (watches.length : Int) then (
  M.pure (([]), ([]), 2))
  else (
  M.bind (zbz thresholds (fun ao => zcG ao)) fun r3 =>
  bif !r3 then (
  M.pure (([]), ([]), 4))
  else (
  M.bind (zcU aa ab ac ae ah ai ag aj watches thresholds) fun r4 =>
  M.bind (zcQ aa ab ac ae ah ai ag aj watches thresholds) fun r5 =>
  M.pure (r4, r5, 0)))))
theorem zaZ {R : List Chunk} {bb : Cells} {ag : Value} {bc : Cells} {ah : Value} {bf : Cells} {ai : Value} {bg : Cells} {aj : Value} {bh : Cells} {ak : Value} {bi : Cells} {aq : Value} {bj : Cells} {au : Value} (az : List Int) (aA : List Span) (aB : List Int) (aC : List Town) (al : Int) (am : Int) (aD : List Flood) (watches : List Int) (thresholds : List Int) (aO : Reads R bb) (aP : Sl bb ag az) (aQ : Reads R bc) (aR : Sl bc ah aA) (aS : Reads R bf) (aT : Sl bf ai aB) (aU : Reads R bg) (aV : Sl bg aj aC) (aW : Reads R bh) (aX : Sl bh ak aD) (aY : Reads R bi) (aE : Sl bi aq watches) (aZ : Reads R bj) (aF : Sl bj au thresholds) {r : ((List Int) × (List Int) × Int)} (hM : (zaB az aA aB aC al am aD watches thresholds).Ends r) (w : World) (H : St w w [] R) : Ret Try.prog 12 #[.agg #[ag, ah, ai, aj, I al, I am, ak], aq, au] w fun v w' => ∃ (y0 : List Int) (y1 : List Int) (y2 : Int) (u0 : Value) (u1 : Value), (y0, y1, y2) = r /\ v = .tuple #[u0, u1, I y2] /\ St w w' [cOwn (α := Int) 3 u0 y0, cOwn (α := Int) 3 u1 y1] R := by
 refine ret_of_W Try.func12 rfl rfl rfl ?_
 refine W.seq ?_
 refine W.region rfl ?_
 refine t_box (v := .agg #[ag, ah, ai, aj, I al, I am, ak]) (cs := [ag, ah, ai, aj, I al, I am, ak]) H rfl rfl ?_
 intro a6 bI H
 refine t_box (v := aq) (cs := [aq]) H rfl (Sl.cells aE) ?_
 intro av bJ H
 refine t_box (v := au) (cs := [au]) H rfl (Sl.cells aF) ?_
 intro aw bK H
 refine zA (.slice none 0 0) rfl ?_
 refine zA (.slice none 0 0) rfl ?_
 refine zA (I 0) rfl ?_
 refine s_nil ?_
 refine W.seq ?_
 refine W.region rfl ?_
 refine s_val (x_ld (p := Pq a6) (v := .agg #[ag, ah, ai, aj, I al, I am, ak]) rfl (ldb_ag (ds := [ag, ah, ai, aj, I al, I am, ak]) Ag30 Sz30 (H.bl 2) rfl rfl)) ?_
 refine s_val (x_ld (p := Pq av) (v := aq) rfl (ldb_sc Sc23 (H.bl 1) rfl)) ?_
 obtain ⟨bL, bo, hM⟩ := M.e_bind hM
 refine s_call cf31 [.agg #[ag, ah, ai, aj, I al, I am, ak], aq] rfl (zcK az aA aB aC al am aD watches (aO.app _) aP (aQ.app _) aR (aS.app _) aT (aU.app _) aV (aW.app _) aX (aY.app _) aE bo _ (H.gt 3)) ?_
 rintro vq bM (⟨r1, r2, bp, hvq, aa, bq⟩ | ⟨aI, aJ, ab, ac, ae, bm, br, bt, hvq, aa, aG⟩)
 ·subst bp
  subst vq
  try dsimp only at hM
  replace H := H.bk aa
  clear aa
  refine zM (.tuple #[.pointer none, .agg (encB r1).toArray, I r2]) rfl ?_
  refine zX [.pointer none, .agg (encB r1).toArray, I r2] (.pointer none) rfl rfl ?_
  refine zX [.pointer none, .agg (encB r1).toArray, I r2] (.agg (encB r1).toArray) rfl rfl ?_
  refine zX [.pointer none, .agg (encB r1).toArray, I r2] (I r2) rfl rfl ?_
  refine t_alloc (cs := encB (List.replicate 12 false)) H Al74 rfl ?_
  intro ax bN H
  have a7 : (List.replicate 12 false).length = 12 := by simp
  refine zA (.pointer none) rfl ?_
  refine t_stArrA (k := 0) (b := ax) (l := List.replicate 12 false) (l' := r1) (L' := [cBlk ax (encB r1) 74, cBlk aw [au] 23, cBlk av [aq] 23, cBlk a6 [ag, ah, ai, aj, I al, I am, ak] 30]) H rfl rfl rfl Sz74 a7 bq rfl ?_
  intro bO H
  refine zA (I r2) rfl ?_
  refine s_nil ?_
  refine W.seq ?_
  refine W.block ?_
  refine W.seq ?_
  refine W.region rfl ?_
  refine zM (I r2) rfl ?_
  refine zC r2 0 (r2 != 0) rfl rfl rfl ?_
  refine zA (B (r2 != 0)) rfl ?_
  refine s_nil ?_
  refine W.cond (r2 != 0) rfl (fun aK => ?_) (fun aK => ?_)
  ·replace hM := M.e_t hM aK
   simp only [qy1, qy2, qy3, qy4, qy5, qy6, ne_eq, qy7] at aK
   refine W.seq ?_
   refine W.region rfl ?_
   refine zM (I r2) rfl ?_
   refine zA (.slice none 0 0) rfl ?_
   refine zA (.slice none 0 0) rfl ?_
   refine zA (I r2) rfl ?_
   refine s_nil ?_
   replace H := H.pk []
   refine W.ret ?_
   have ay := M.e_pure hM
   replace H := H.nilOwn (α := Int) 3
   replace H := H.nilOwn (α := Int) 3
   exact ⟨_, resE_tmp3 rfl, ⟨([]), ([]), r2, (.slice none 0 0), (.slice none 0 0), ay, rfl, (H.pk [1, 0])⟩⟩
  replace hM := M.e_f hM aK
  exact (M.e_fail hM).elim
 subst bt
 subst vq
 try dsimp only at hM
 replace H := H.bk aa
 clear aa
 refine zM (.tuple #[Pq ae, .agg (encB ab).toArray, I ac]) rfl ?_
 refine zX [Pq ae, .agg (encB ab).toArray, I ac] (Pq ae) rfl rfl ?_
 refine zX [Pq ae, .agg (encB ab).toArray, I ac] (.agg (encB ab).toArray) rfl rfl ?_
 refine zX [Pq ae, .agg (encB ab).toArray, I ac] (I ac) rfl rfl ?_
 refine t_alloc (cs := encB (List.replicate 12 false)) H Al74 rfl ?_
 intro ax bP H
 have a7 : (List.replicate 12 false).length = 12 := by simp
 refine zA (Pq ae) rfl ?_
 refine t_stArrA (k := 0) (b := ax) (l := List.replicate 12 false) (l' := ab) (L' := [cBlk ax (encB ab) 74, cBlk ae [ag, ah, ai, aj, I aI, I aJ, ak, .map (some bm)] 86, cMem encDm bm br (zaa az aA aB aC aI aJ aD), cBlk aw [au] 23, cBlk av [aq] 23, cBlk a6 [ag, ah, ai, aj, I al, I am, ak] 30]) H rfl rfl rfl Sz74 a7 aG rfl ?_
 intro bQ H
 refine zA (I ac) rfl ?_
 refine s_nil ?_
 refine W.seq ?_
 refine W.block ?_
 refine W.seq ?_
 refine W.region rfl ?_
 refine zM (I ac) rfl ?_
 refine zC ac 0 (ac != 0) rfl rfl rfl ?_
 refine zA (B (ac != 0)) rfl ?_
 refine s_nil ?_
 refine W.cond (ac != 0) rfl (fun aL => ?_) (fun aL => ?_)
 ·replace hM := M.e_t hM aL
  exact (M.e_fail hM).elim
 replace hM := M.e_f hM aL
 simp only [qy1, qy2, qy3, qy4, qy5, qy6, ne_eq, qy7] at aL
 refine W.seq ?_
 refine W.region rfl ?_
 refine s_val (x_ld (p := Pq aw) (v := au) rfl (ldb_sc Sc23 (H.bl 3) rfl)) ?_
 have bR := (aF).len_le
 refine s_val (x_lenS T23.und rfl aF) ?_
 refine s_val (x_ld (p := Pq av) (v := aq) rfl (ldb_sc Sc23 (H.bl 4) rfl)) ?_
 have bS := (aE).len_le
 refine s_val (x_lenS T23.und rfl aE) ?_
 refine zC (thresholds.length : Int) (watches.length : Int) ((thresholds.length : Int) != (watches.length : Int)) rfl rfl rfl ?_
 refine zA (B ((thresholds.length : Int) != (watches.length : Int))) rfl ?_
 refine s_nil ?_
 refine W.cond ((thresholds.length : Int) != (watches.length : Int)) rfl (fun aH => ?_) (fun aH => ?_)
 ·replace hM := M.e_t hM aH
  simp only [qy1, qy2, qy3, qy4, qy5, qy6, ne_eq, qy7] at aH
  refine W.seq ?_
  refine W.region rfl ?_
  refine zA (.slice none 0 0) rfl ?_
  refine zA (.slice none 0 0) rfl ?_
  refine zA (I 2) rfl ?_
  refine s_nil ?_
  replace H := H.pk []
  refine W.ret ?_
  have ay := M.e_pure hM
  replace H := H.nilOwn (α := Int) 3
  replace H := H.nilOwn (α := Int) 3
  exact ⟨_, resE_tmp3 rfl, ⟨([]), ([]), 2, (.slice none 0 0), (.slice none 0 0), ay, rfl, (H.pk [1, 0])⟩⟩
 replace hM := M.e_f hM aH
 simp only [qy1, qy2, qy3, qy4, qy5, qy6, ne_eq, qy7] at aH
 refine W.seq ?_
 refine W.region rfl ?_
 refine s_val (x_ld (p := Pq aw) (v := au) rfl (ldb_sc Sc23 (H.bl 3) rfl)) ?_
 obtain ⟨bT, bu, hM⟩ := M.e_bind hM
 refine s_call cf35 [au, .func (.func 36) #[] #[]] rfl (zc5 thresholds (fun a8 => zcG a8) (aZ.app _) aF ⟨36, [], rfl, cf36, fun bn bU bV bv a8 bW bw bX bx bz => by obtain rfl := Arg.int bx; exact (zds a8 bz bn (St.refl bw)).mono fun bv bn ⟨bY, bA, bB, bC⟩ => by subst bA; exact ⟨bB, bC⟩⟩ bu _ (H.gt 6)) ?_
 rintro vq bZ ⟨r3, bD, hvq, aa⟩
 subst bD
 subst vq
 try dsimp only at hM
 replace H := H.bk aa
 clear aa
 refine s_val (x_not (b := r3) rfl) ?_
 refine zA (B (!r3)) rfl ?_
 refine s_nil ?_
 refine W.cond (!r3) rfl (fun ba => ?_) (fun ba => ?_)
 ·replace hM := M.e_t hM ba
  refine W.seq ?_
  refine W.region rfl ?_
  refine zA (.slice none 0 0) rfl ?_
  refine zA (.slice none 0 0) rfl ?_
  refine zA (I 4) rfl ?_
  refine s_nil ?_
  replace H := H.pk []
  refine W.ret ?_
  have ay := M.e_pure hM
  replace H := H.nilOwn (α := Int) 3
  replace H := H.nilOwn (α := Int) 3
  exact ⟨_, resE_tmp3 rfl, ⟨([]), ([]), 4, (.slice none 0 0), (.slice none 0 0), ay, rfl, (H.pk [1, 0])⟩⟩
 replace hM := M.e_f hM ba
 refine W.skip ?_
 refine W.seq ?_
 refine W.region rfl ?_
 refine s_val (x_mf (fs := []) (cs := [Pq av, Pq aw]) rfl rfl) ?_
 refine t_alloc (cs := [.nilFunc]) H Al80 rfl ?_
 intro ao b4 H
 refine t_sw 0 0 [.func (.func 38) #[] #[Pq av, Pq aw]] (.func (.func 38) #[] #[Pq av, Pq aw]) H rfl rfl Sz80 rfl rfl rfl rfl ?_
 intro b5 H
 refine s_nil ?_
 refine W.seq ?_
 refine W.region rfl ?_
 refine zM (Pq ae) rfl ?_
 refine s_val (x_ld (p := Pq ax) (v := .agg (encB ab).toArray) rfl (ldArrA Ag74 Sz74 aG (H.bl 1))) ?_
 refine s_val (x_mf (fs := []) (cs := [Pq ao]) rfl rfl) ?_
 refine s_val (x_bld (ps := [(0, .func (.func 40) #[] #[Pq ao])]) (zs := [.nilFunc]) (L' := [.func (.func 40) #[] #[Pq ao]]) rfl Try.underlying82 Al82 rfl (Bd82 Try.underlying82) (.cons (cs := [.func (.func 40) #[] #[Pq ao]]) rfl rfl rfl rfl rfl <| .nil)) ?_
 obtain ⟨b6, bE, hM⟩ := M.e_bind hM
 refine s_call cf32 [Pq ae, .agg (encB ab).toArray, .agg #[.func (.func 40) #[] #[Pq ao]]] rfl (zdI az aA aB aC aI aJ aD ab watches thresholds (aO.app _) aP (aQ.app _) aR (aS.app _) aT (aU.app _) aV (aW.app _) aX (Has.here (k := 2) rfl) aG (aY.app _) aE (Has.here (k := 5) rfl) (aZ.app _) aF (Has.here (k := 4) rfl) (Has.here (k := 0) rfl) bE _ (H.gt 7)) ?_
 rintro vq b7 ⟨r4, aM, bF, hvq, aa⟩
 subst bF
 subst vq
 try dsimp only at hM
 replace H := H.bk aa
 clear aa
 refine zA aM rfl ?_
 refine s_nil ?_
 refine W.seq ?_
 refine W.region rfl ?_
 refine zM (Pq ae) rfl ?_
 refine s_val (x_ld (p := Pq ax) (v := .agg (encB ab).toArray) rfl (ldArrA Ag74 Sz74 aG (H.bl 2))) ?_
 refine s_val (x_mf (fs := []) (cs := [Pq ao]) rfl rfl) ?_
 refine s_val (x_bld (ps := [(0, .func (.func 41) #[] #[Pq ao])]) (zs := [.nilFunc]) (L' := [.func (.func 41) #[] #[Pq ao]]) rfl Try.underlying82 Al82 rfl (Bd82 Try.underlying82) (.cons (cs := [.func (.func 41) #[] #[Pq ao]]) rfl rfl rfl rfl rfl <| .nil)) ?_
 obtain ⟨b8, bG, hM⟩ := M.e_bind hM
 refine s_call cf32 [Pq ae, .agg (encB ab).toArray, .agg #[.func (.func 41) #[] #[Pq ao]]] rfl (zdm az aA aB aC aI aJ aD ab watches thresholds (aO.app _) aP (aQ.app _) aR (aS.app _) aT (aU.app _) aV (aW.app _) aX (Has.here (k := 3) rfl) aG (aY.app _) aE (Has.here (k := 6) rfl) (aZ.app _) aF (Has.here (k := 5) rfl) (Has.here (k := 1) rfl) bG _ (H.gt 8)) ?_
 rintro vq b9 ⟨r5, aN, bH, hvq, aa⟩
 subst bH
 subst vq
 try dsimp only at hM
 replace H := H.bk aa
 clear aa
 refine zA aN rfl ?_
 refine s_nil ?_
 replace H := H.pk [0, 1]
 refine W.seq ?_
 refine W.region rfl ?_
 refine zM aM rfl ?_
 refine zM aN rfl ?_
 refine zA aM rfl ?_
 refine zA aN rfl ?_
 refine zA (I 0) rfl ?_
 refine s_nil ?_
 refine W.ret ?_
 have ay := M.e_pure hM
 exact ⟨_, resE_tmp3 rfl, ⟨r4, r5, 0, aM, aN, ay, rfl, (H.pk [1, 0])⟩⟩

end Go.Proofs.Ytbaehghammbjdaa
end
