/- Part 4 of the texts on which the proof rests. Conditions: none. -/
import Derived.Test.YtbaehghammbjdaaGreatZA3
set_option linter.unusedVariables false
set_option linter.unusedSimpArgs false
set_option linter.unusedSectionVars false
section
set_option maxRecDepth 100000
set_option maxHeartbeats 16000000
namespace Go.Proofs.YtbaehghammbjdaaGreat
open Go Go.Nm
def zco (a : Int) (cmp2020200 : List Int) (cmp2020201 : List Span) (cmp2020202 : List Int) (cmp2020203 : List Town) (cmp2020204 : Int) (cmp2020205 : Int) (cmp2020206 : List Flood) (cmp202120 : List Int) (cmp202121 : List Span) (cmp202122 : List Int) (cmp202123 : List Town) (cmp202124 : Int) (cmp202125 : Int) (cmp202126 : List Flood) : ((List Dem) × Int) -> M (((List Dem) × Int) ⊕ ((List Dem) × (List Dem))) := fun (l, j) =>
  M.grd ((!(decide (a < j)) || (decide ((0 : Int) <= j) && decide (j < (l.length : Int))))) <|
  M.grd ((!(decide (a < j)) || (decide ((-9223372036854775808 : Int) <= (j - 1)) && decide ((j - 1) <= (9223372036854775807 : Int))))) <|
  M.grd ((!(decide (a < j)) || (decide ((0 : Int) <= (j - 1)) && decide ((j - 1) < (l.length : Int))))) <|
  bif decide (a < j) then (
  M.bind (zcN (l.getD (Int.toNat j) default) (l.getD (Int.toNat (j - 1)) default) cmp2020200 cmp2020201 cmp2020202 cmp2020203 cmp2020204 cmp2020205 cmp2020206 cmp202120 cmp202121 cmp202122 cmp202123 cmp202124 cmp202125 cmp202126) fun r2 =>
  bif ((decide (a < j)) && (decide (r2 < 0))) then (
  M.grd (decide ((-9223372036854775808 : Int) <= (j - 1)) && decide ((j - 1) <= (9223372036854775807 : Int))) <|
  M.grd (decide ((0 : Int) <= (j - 1)) && decide ((j - 1) < (l.length : Int))) <|
  M.grd (decide ((0 : Int) <= j) && decide (j < (l.length : Int))) <|
  M.grd (decide ((0 : Int) <= (j - 1)) && decide ((j - 1) < ((l.set (Int.toNat j) (l.getD (Int.toNat (j - 1)) default)).length : Int))) <|
  M.pure (.inl ((l.set (Int.toNat j) (l.getD (Int.toNat (j - 1)) default)).set (Int.toNat (j - 1)) (l.getD (Int.toNat j) default), j - 1)))
  else (
  M.pure (.inr (l, l))))
  else (
  bif ((decide (a < j)) && (decide ((0 : Int) < 0))) then (
  M.grd (decide ((-9223372036854775808 : Int) <= (j - 1)) && decide ((j - 1) <= (9223372036854775807 : Int))) <|
  M.grd (decide ((0 : Int) <= (j - 1)) && decide ((j - 1) < (l.length : Int))) <|
  M.grd (decide ((0 : Int) <= j) && decide (j < (l.length : Int))) <|
  M.grd (decide ((0 : Int) <= (j - 1)) && decide ((j - 1) < ((l.set (Int.toNat j) (l.getD (Int.toNat (j - 1)) default)).length : Int))) <|
  M.pure (.inl ((l.set (Int.toNat j) (l.getD (Int.toNat (j - 1)) default)).set (Int.toNat (j - 1)) (l.getD (Int.toNat j) default), j - 1)))
  else (
  M.pure (.inr (l, l))))
def zbZ (a : Int) (b : Int) (cmp2020200 : List Int) (cmp2020201 : List Span) (cmp2020202 : List Int) (cmp2020203 : List Town) (cmp2020204 : Int) (cmp2020205 : Int) (cmp2020206 : List Flood) (cmp202120 : List Int) (cmp202121 : List Span) (cmp202122 : List Int) (cmp202123 : List Town) (cmp202124 : Int) (cmp202125 : Int) (cmp202126 : List Flood) : ((List Dem) × Int) -> M (((List Dem) × Int) ⊕ (List Dem)) := fun (l4, i) =>
  bif decide (i < b) then (
  M.bind (M.iter (zco a cmp2020200 cmp2020201 cmp2020202 cmp2020203 cmp2020204 cmp2020205 cmp2020206 cmp202120 cmp202121 cmp202122 cmp202123 cmp202124 cmp202125 cmp202126) (l4, i)) fun (l2, l3) =>
  M.grd (decide ((-9223372036854775808 : Int) <= (i + 1)) && decide ((i + 1) <= (9223372036854775807 : Int))) <|
  M.pure (.inl (l3, i + 1)))
  else (
  M.pure (.inr l4))
def zcc (data : List Dem) (a : Int) (b : Int) (cmp2020200 : List Int) (cmp2020201 : List Span) (cmp2020202 : List Int) (cmp2020203 : List Town) (cmp2020204 : Int) (cmp2020205 : Int) (cmp2020206 : List Flood) (cmp202120 : List Int) (cmp202121 : List Span) (cmp202122 : List Int) (cmp202123 : List Town) (cmp202124 : Int) (cmp202125 : Int) (cmp202126 : List Flood) : M (List Dem) :=
  M.grd (decide ((-9223372036854775808 : Int) <= (a + 1)) && decide ((a + 1) <= (9223372036854775807 : Int))) <|
  M.bind (M.iter (zbZ a b cmp2020200 cmp2020201 cmp2020202 cmp2020203 cmp2020204 cmp2020205 cmp2020206 cmp202120 cmp202121 cmp202122 cmp202123 cmp202124 cmp202125 cmp202126) (data, a + 1)) fun l5 =>
  M.pure l5
theorem zcu {R : List Chunk} {v_data : Value} {b_cmp20 : Nat} {b_cmp2020 : Nat} {b_cmp202020 : Nat} {C_cmp2020200 : Cells} {v_cmp2020200 : Value} {C_cmp2020201 : Cells} {v_cmp2020201 : Value} {C_cmp2020202 : Cells} {v_cmp2020202 : Value} {C_cmp2020203 : Cells} {v_cmp2020203 : Value} {C_cmp2020206 : Cells} {v_cmp2020206 : Value} {b_cmp2020207 : Nat} {B_b_cmp2020207 : Base} {b_cmp2021 : Nat} {b_cmp20212 : Nat} {C_cmp202120 : Cells} {v_cmp202120 : Value} {C_cmp202121 : Cells} {v_cmp202121 : Value} {C_cmp202122 : Cells} {v_cmp202122 : Value} {C_cmp202123 : Cells} {v_cmp202123 : Value} {C_cmp202126 : Cells} {v_cmp202126 : Value} {b_cmp202127 : Nat} (data : List Dem) (a : Int) (b : Int) (cmp2020200 : List Int) (cmp2020201 : List Span) (cmp2020202 : List Int) (cmp2020203 : List Town) (cmp2020204 : Int) (cmp2020205 : Int) (cmp2020206 : List Flood) (cmp202120 : List Int) (cmp202121 : List Span) (cmp202122 : List Int) (cmp202123 : List Town) (cmp202124 : Int) (cmp202125 : Int) (cmp202126 : List Flood) (hC_cmp2020200 : Reads R C_cmp2020200) (hs_cmp2020200 : Sl C_cmp2020200 v_cmp2020200 cmp2020200) (hC_cmp2020201 : Reads R C_cmp2020201) (hs_cmp2020201 : Sl C_cmp2020201 v_cmp2020201 cmp2020201) (hC_cmp2020202 : Reads R C_cmp2020202) (hs_cmp2020202 : Sl C_cmp2020202 v_cmp2020202 cmp2020202) (hC_cmp2020203 : Reads R C_cmp2020203) (hs_cmp2020203 : Sl C_cmp2020203 v_cmp2020203 cmp2020203) (hC_cmp2020206 : Reads R C_cmp2020206) (hs_cmp2020206 : Sl C_cmp2020206 v_cmp2020206 cmp2020206) (h_b_cmp202020 : Has R (cBlk b_cmp202020 [v_cmp2020200, v_cmp2020201, v_cmp2020202, v_cmp2020203, I cmp2020204, I cmp2020205, v_cmp2020206, .map (some b_cmp2020207)] 111)) (h_b_cmp2020 : Has R (cBlk b_cmp2020 [.func (.func 81) #[.pointer (some ⟨b_cmp202020, 0, none⟩)] #[]] 134)) (hC_cmp202120 : Reads R C_cmp202120) (hs_cmp202120 : Sl C_cmp202120 v_cmp202120 cmp202120) (hC_cmp202121 : Reads R C_cmp202121) (hs_cmp202121 : Sl C_cmp202121 v_cmp202121 cmp202121) (hC_cmp202122 : Reads R C_cmp202122) (hs_cmp202122 : Sl C_cmp202122 v_cmp202122 cmp202122) (hC_cmp202123 : Reads R C_cmp202123) (hs_cmp202123 : Sl C_cmp202123 v_cmp202123 cmp202123) (hC_cmp202126 : Reads R C_cmp202126) (hs_cmp202126 : Sl C_cmp202126 v_cmp202126 cmp202126) (h_b_cmp20212 : Has R (cBlk b_cmp20212 [v_cmp202120, v_cmp202121, v_cmp202122, v_cmp202123, I cmp202124, I cmp202125, v_cmp202126, .map (some b_cmp202127)] 111)) (h_b_cmp2021 : Has R (cBlk b_cmp2021 [.pointer (some ⟨b_cmp20212, 0, none⟩)] 94)) (h_b_cmp20 : Has R (cBlk b_cmp20 [.func (.func 102) #[] #[.pointer (some ⟨b_cmp2020, 0, none⟩), .pointer (some ⟨b_cmp2021, 0, none⟩)]] 146)) {r : (List Dem)} (hM : (zcc data a b cmp2020200 cmp2020201 cmp2020202 cmp2020203 cmp2020204 cmp2020205 cmp2020206 cmp202120 cmp202121 cmp202122 cmp202123 cmp202124 cmp202125 cmp202126).Ends r) (w : World) (H : St w w [cOwn (α := Dem) 61 v_data data, cMem encDm b_cmp2020207 B_b_cmp2020207 (zaa cmp2020200 cmp2020201 cmp2020202 cmp2020203 cmp2020204 cmp2020205 cmp2020206)] R) : Ret Tryz.prog 113 #[v_data, I a, I b, .func (.func 104) #[] #[.pointer (some ⟨b_cmp20, 0, none⟩)]] w fun v w' => ∃ (y0 : List Dem) (Bs0 : Base), y0 = r /\ v = .tuple #[] /\ St w w' [cOwn (α := Dem) 61 v_data y0, cMem encDm b_cmp2020207 Bs0 (zaa cmp2020200 cmp2020201 cmp2020202 cmp2020203 cmp2020204 cmp2020205 cmp2020206)] R := by
 refine ret_of_W Tryz.func113 rfl rfl rfl ?_
 refine W.seq ?_
 refine W.region rfl ?_
 refine s_val (x_mv (v := I a) rfl) ?_
 obtain ⟨sd1z, hM⟩ := M.e_grd hM
 simp only [Bool.and_eq_true, decide_eq_true_eq] at sd1z
 refine s_val (x_ari (a := a) (b := 1) (r := a + 1) rfl rfl rfl (by omega)) ?_
 refine s_val (x_as (v := I (a + 1)) rfl) ?_
 refine s_nil ?_
 refine W.block ?_
 obtain ⟨ex2z, hi3z, hk4z⟩ := M.e_bind hM
 obtain ⟨m0_, hi3z⟩ := M.e_iter hi3z
 refine W.loop (fun m σ W => ∃ (l4 : List Dem) (i : Int) (B_mem2 : Base) (ρ : Env), σ = upds ρ [(0, v_data), (1, I a), (2, I b), (3, .func (.func 104) #[] #[.pointer (some ⟨b_cmp20, 0, none⟩)]), (8, I i)] /\ M.iterN (zbZ a b cmp2020200 cmp2020201 cmp2020202 cmp2020203 cmp2020204 cmp2020205 cmp2020206 cmp202120 cmp202121 cmp202122 cmp202123 cmp202124 cmp202125 cmp202126) m (l4, i) = some ex2z /\ St w W [cOwn (α := Dem) 61 v_data l4, cMem encDm b_cmp2020207 B_mem2 (zaa cmp2020200 cmp2020201 cmp2020202 cmp2020203 cmp2020204 cmp2020205 cmp2020206)] R) ?_ ?_
 ·exact ⟨_, data, a + 1, B_b_cmp2020207, _, upds_of _ _ ⟨rfl, rfl, rfl, rfl, rfl, trivial⟩, hi3z, H⟩
 rintro m7z σ w5z ⟨l4, i, B_mem2, ρ, rfl, hI6z, H⟩
 obtain ⟨m8z, lt9z, x10z, hM, hN11z⟩ := M.e_iterN hI6z
 simp only [zbZ] at hM
 clear hI6z
 refine W.seq ?_
 refine W.seq ?_
 refine W.region rfl ?_
 refine s_val (x_mv (v := I i) rfl) ?_
 refine s_val (x_mv (v := I b) rfl) ?_
 refine s_val (x_cmp (kd := .i64) (a := i) (b := b) (r := decide (i < b)) rfl rfl rfl) ?_
 refine s_nil ?_
 refine W.cond (decide (i < b)) rfl (fun c12z => ?_) (fun c12z => ?_)
 ·replace hM := M.e_t hM c12z
  simp only [decide_eq_true_eq, decide_eq_false_iff_not, beq_iff_eq, bne_iff_ne, beq_eq_false_iff_ne, bne_eq_false_iff_eq, ne_eq, Decidable.not_not] at c12z
  refine W.skip ?_
  refine W.seq ?_
  refine W.block ?_
  refine W.seq ?_
  refine W.region rfl ?_
  refine s_val (x_mv (v := I i) rfl) ?_
  refine s_val (x_as (v := I i) rfl) ?_
  refine s_nil ?_
  refine W.block ?_
  obtain ⟨ex13z, hi14z, hk15z⟩ := M.e_bind hM
  obtain ⟨m0_, hi14z⟩ := M.e_iter hi14z
  refine W.loop (fun m σ W => ∃ (l : List Dem) (j : Int) (B_mem : Base) (ρ : Env), σ = upds ρ [(0, v_data), (1, I a), (2, I b), (3, .func (.func 104) #[] #[.pointer (some ⟨b_cmp20, 0, none⟩)]), (8, I i), (9, I j)] /\ M.iterN (zco a cmp2020200 cmp2020201 cmp2020202 cmp2020203 cmp2020204 cmp2020205 cmp2020206 cmp202120 cmp202121 cmp202122 cmp202123 cmp202124 cmp202125 cmp202126) m (l, j) = some ex13z /\ St w W [cOwn (α := Dem) 61 v_data l, cMem encDm b_cmp2020207 B_mem (zaa cmp2020200 cmp2020201 cmp2020202 cmp2020203 cmp2020204 cmp2020205 cmp2020206)] R) ?_ ?_
  ·exact ⟨_, l4, i, B_mem2, _, upds_of _ _ ⟨rfl, rfl, rfl, rfl, rfl, rfl, trivial⟩, hi14z, H⟩
  rintro m18z σ w16z ⟨l, j, B_mem, ρ, rfl, hI17z, H⟩
  obtain ⟨m19z, lt20z, x21z, hM, hN22z⟩ := M.e_iterN hI17z
  simp only [zco] at hM
  clear hI17z
  refine W.seq ?_
  refine W.seq ?_
  refine W.draw (fun W => St w W [cOwn (α := Dem) 61 v_data l] R) [(0, true), (1, true), (2, true), (3, true), (4, true), (5, true), (6, true), (7, true), (8, true), (9, true), (10, true), (11, true), (12, true), (13, true), (14, false), (15, true), (16, true)] mixed (by decide +kernel) rfl ?_
  intro w23z hx_
  replace H := H.ext hx_
  clear hx_
  refine ⟨(H.pk [0]), ?_⟩
  refine d_q rfl (fun w' H => x_mv (v := I j) rfl) ?_
  refine d_q rfl (fun w' H => x_mv (v := I a) rfl) ?_
  refine d_q rfl (fun w' H => x_cmp (kd := .i64) (a := j) (b := a) (r := decide (a < j)) rfl rfl rfl) ?_
  refine d_q rfl (fun w' H => x_mv (v := B (decide (a < j))) rfl) ?_
  refine d_qg (decide (a < j)) rfl (gy_t rfl) (fun hg => (fun w' H => x_mv (v := .func (.func 104) #[] #[.pointer (some ⟨b_cmp20, 0, none⟩)]) rfl)) ?_
  refine d_qg (decide (a < j)) rfl (gy_t rfl) (fun hg => (fun w' H => x_mv (v := v_data) rfl)) ?_
  refine d_qg (decide (a < j)) rfl (gy_t rfl) (fun hg => (fun w' H => x_mv (v := I j) rfl)) ?_
  obtain ⟨sd24z, hM⟩ := M.e_grd hM
  replace sd24z := M.imp_of sd24z
  simp only [Bool.and_eq_true, decide_eq_true_eq] at sd24z
  refine d_qg (decide (a < j)) rfl (gy_t rfl) (fun hg => (fun w' H => x_ix (a := v_data) (b := I j) (v := vat v_data 2 (Int.toNat j)) (gd_of (c := decide (a < j)) hg (v_data)) (gd_of (c := decide (a < j)) hg (I j)) (Sl.ix (α := Dem) T62.und T62.size (ownSl (H.get (k := 0) rfl)) (by have h1_ := sd24z.resolve_left (by rw [hg]; decide); first | exact h1_ | exact h1_.1 | exact h1_.2 | omega | (have hx_ := hg; simp at hx_; omega)) (by have h1_ := sd24z.resolve_left (by rw [hg]; decide); first | exact h1_ | exact h1_.1 | exact h1_.2 | omega | (have hx_ := hg; simp at hx_; omega))))) ?_
  refine d_qg (decide (a < j)) rfl (gy_t rfl) (fun hg => (fun w' H => x_ld (p := vat v_data 2 (Int.toNat j)) (v := .agg #[I ((l.getD (Int.toNat j) default).spring), I ((l.getD (Int.toNat j) default).town)]) (gd_of (c := decide (a < j)) hg (vat v_data 2 (Int.toNat j))) (ld_ag Ag61 Sz61 (At.mono (Dem_atA (ownSl (H.get (k := 0) rfl)) (i := j) (by have h1_ := sd24z.resolve_left (by rw [hg]; decide); first | exact h1_ | exact h1_.1 | exact h1_.2 | omega | (have hx_ := hg; simp at hx_; omega)) (by have h1_ := sd24z.resolve_left (by rw [hg]; decide); first | exact h1_ | exact h1_.1 | exact h1_.2 | omega | (have hx_ := hg; simp at hx_; omega))) (ownLe _ (H.get (k := 0) rfl)))))) ?_
  refine d_qg (decide (a < j)) rfl (gy_t rfl) (fun hg => (fun w' H => x_mv (v := v_data) rfl)) ?_
  refine d_qg (decide (a < j)) rfl (gy_t rfl) (fun hg => (fun w' H => x_mv (v := I j) rfl)) ?_
  obtain ⟨sd25z, hM⟩ := M.e_grd hM
  replace sd25z := M.imp_of sd25z
  simp only [Bool.and_eq_true, decide_eq_true_eq] at sd25z
  refine d_qg (decide (a < j)) rfl (gy_t rfl) (fun hg => (fun w' H => x_ari (a := j) (b := 1) (r := j - 1) (gd_of (c := decide (a < j)) hg (I j)) rfl rfl (by have h1_ := sd24z.resolve_left (by rw [hg]; decide); have h2_ := sd25z.resolve_left (by rw [hg]; decide); first | exact h1_ | exact h1_.1 | exact h1_.2 | exact h2_ | exact h2_.1 | exact h2_.2 | omega | (have hx_ := hg; simp at hx_; omega)))) ?_
  obtain ⟨sd26z, hM⟩ := M.e_grd hM
  replace sd26z := M.imp_of sd26z
  simp only [Bool.and_eq_true, decide_eq_true_eq] at sd26z
  refine d_qg (decide (a < j)) rfl (gy_t rfl) (fun hg => (fun w' H => x_ix (a := v_data) (b := I (j - 1)) (v := vat v_data 2 (Int.toNat (j - 1))) (gd_of (c := decide (a < j)) hg (v_data)) (gd_of (c := decide (a < j)) hg (I (j - 1))) (Sl.ix (α := Dem) T62.und T62.size (ownSl (H.get (k := 0) rfl)) (by have h1_ := sd24z.resolve_left (by rw [hg]; decide); have h2_ := sd25z.resolve_left (by rw [hg]; decide); have h3_ := sd26z.resolve_left (by rw [hg]; decide); first | exact h1_ | exact h1_.1 | exact h1_.2 | exact h2_ | exact h2_.1 | exact h2_.2 | exact h3_ | exact h3_.1 | exact h3_.2 | omega | (have hx_ := hg; simp at hx_; omega)) (by have h1_ := sd24z.resolve_left (by rw [hg]; decide); have h2_ := sd25z.resolve_left (by rw [hg]; decide); have h3_ := sd26z.resolve_left (by rw [hg]; decide); first | exact h1_ | exact h1_.1 | exact h1_.2 | exact h2_ | exact h2_.1 | exact h2_.2 | exact h3_ | exact h3_.1 | exact h3_.2 | omega | (have hx_ := hg; simp at hx_; omega))))) ?_
  refine d_qg (decide (a < j)) rfl (gy_t rfl) (fun hg => (fun w' H => x_ld (p := vat v_data 2 (Int.toNat (j - 1))) (v := .agg #[I ((l.getD (Int.toNat (j - 1)) default).spring), I ((l.getD (Int.toNat (j - 1)) default).town)]) (gd_of (c := decide (a < j)) hg (vat v_data 2 (Int.toNat (j - 1)))) (ld_ag Ag61 Sz61 (At.mono (Dem_atA (ownSl (H.get (k := 0) rfl)) (i := j - 1) (by have h1_ := sd24z.resolve_left (by rw [hg]; decide); have h2_ := sd25z.resolve_left (by rw [hg]; decide); have h3_ := sd26z.resolve_left (by rw [hg]; decide); first | exact h1_ | exact h1_.1 | exact h1_.2 | exact h2_ | exact h2_.1 | exact h2_.2 | exact h3_ | exact h3_.1 | exact h3_.2 | omega | (have hx_ := hg; simp at hx_; omega)) (by have h1_ := sd24z.resolve_left (by rw [hg]; decide); have h2_ := sd25z.resolve_left (by rw [hg]; decide); have h3_ := sd26z.resolve_left (by rw [hg]; decide); first | exact h1_ | exact h1_.1 | exact h1_.2 | exact h2_ | exact h2_.1 | exact h2_.2 | exact h3_ | exact h3_.1 | exact h3_.2 | omega | (have hx_ := hg; simp at hx_; omega))) (ownLe _ (H.get (k := 0) rfl)))))) ?_
  refine d_l rfl ?_
  refine g_splitV (decide (a < j)) (I 0) (gy_t rfl) (fun hg_ => ?_) (fun hg_ => ?_)
  ·replace hM := M.e_t hM hg_
   obtain ⟨r28z, hx27z, hM⟩ := M.e_bind hM
   refine s_callv (f := 104) (by exact (gd_of (c := decide (a < j)) hg_ (.func (.func 104) #[] #[.pointer (some ⟨b_cmp20, 0, none⟩)]))) cf104 [.agg #[I ((l.getD (Int.toNat j) default).spring), I ((l.getD (Int.toNat j) default).town)], .agg #[I ((l.getD (Int.toNat (j - 1)) default).spring), I ((l.getD (Int.toNat (j - 1)) default).town)]] (by exact (lst2 (gd_of (c := decide (a < j)) hg_ (.agg #[I ((l.getD (Int.toNat j) default).spring), I ((l.getD (Int.toNat j) default).town)])) (gd_of (c := decide (a < j)) hg_ (.agg #[I ((l.getD (Int.toNat (j - 1)) default).spring), I ((l.getD (Int.toNat (j - 1)) default).town)])))) (zc9 (l.getD (Int.toNat j) default) (l.getD (Int.toNat (j - 1)) default) cmp2020200 cmp2020201 cmp2020202 cmp2020203 cmp2020204 cmp2020205 cmp2020206 cmp202120 cmp202121 cmp202122 cmp202123 cmp202124 cmp202125 cmp202126 (hC_cmp2020200.app _) hs_cmp2020200 (hC_cmp2020201.app _) hs_cmp2020201 (hC_cmp2020202.app _) hs_cmp2020202 (hC_cmp2020203.app _) hs_cmp2020203 (hC_cmp2020206.app _) hs_cmp2020206 (h_b_cmp202020.app _) (h_b_cmp2020.app _) (hC_cmp202120.app _) hs_cmp202120 (hC_cmp202121.app _) hs_cmp202121 (hC_cmp202122.app _) hs_cmp202122 (hC_cmp202123.app _) hs_cmp202123 (hC_cmp202126.app _) hs_cmp202126 (h_b_cmp20212.app _) (h_b_cmp2021.app _) (h_b_cmp20.app _) hx27z _ ((H.pk [1, 0]).gt 1)) ?_
   rintro vq w29z ⟨r2, Bs0_1, hr30z, hvq, H2_⟩
   subst hr30z
   subst vq
   try dsimp only at hM
   replace H := H.pk [1, 0] |>.bk H2_
   clear H2_
   refine s_nil ⟨(H.pk [1]), ?_⟩
   refine d_qg (decide (a < j)) rfl (gy_t rfl) (fun hg => (fun w' H => x_cmp (kd := .i64) (a := r2) (b := 0) (r := decide (r2 < 0)) rfl rfl rfl)) ?_
   refine d_q rfl (fun w' H => x_pand (b := decide (a < j)) (r := decide (r2 < 0)) rfl (fun hb => gd_of (c := decide (a < j)) (by first | exact hb | (rw [hb]; rfl) | simp_all) (B (decide (r2 < 0)))) rfl) ?_
   refine d_nil ?_
   refine W.cond ((decide (a < j)) && (decide (r2 < 0))) rfl (fun c31z => ?_) (fun c31z => ?_)
   ·replace hM := M.e_t hM c31z
    refine W.skip ?_
    refine W.seq ?_
    refine W.block ?_
    refine W.drawT (fun W => St w W [cMem encDm b_cmp2020207 Bs0_1 (zaa cmp2020200 cmp2020201 cmp2020202 cmp2020203 cmp2020204 cmp2020205 cmp2020206)] R) (.q 0 (.q 1 (.q 2 (.q 3 (.q 4 (.q 5 (.q 6 (.q 7 (.q 10 (.q 11 (.l2 8 (.l2 9 (.l 12 (.l 13 (.l 14 (.l 15 (.l 16 (.l 17 .nil)))))) 12 (.l2 9 (.l 13 (.l 14 (.l 15 (.l 16 (.l 17 .nil))))) 13 (.l 9 (.l 14 (.l 15 (.l 16 (.l 17 .nil))))))) 12 (.l2 8 (.l2 9 (.l 13 (.l 14 (.l 15 (.l 16 (.l 17 .nil))))) 13 (.l 9 (.l 14 (.l 15 (.l 16 (.l 17 .nil)))))) 13 (.l 8 (.l 9 (.l 14 (.l 15 (.l 16 (.l 17 .nil)))))))))))))))))) mixed (by decide +kernel) rfl ?_
    intro w32z hx_
    replace H := H.ext hx_
    clear hx_
    refine ⟨(H.pk [0]), ?_⟩
    refine t_q rfl (fun w' H => x_mv (v := v_data) rfl) ?_
    refine t_q rfl (fun w' H => x_mv (v := I j) rfl) ?_
    refine t_q rfl (fun w' H => x_mv (v := v_data) rfl) ?_
    refine t_q rfl (fun w' H => x_mv (v := I j) rfl) ?_
    obtain ⟨sd33z, hM⟩ := M.e_grd hM
    simp only [Bool.and_eq_true, decide_eq_true_eq] at sd33z
    refine t_q rfl (fun w' H => x_ari (a := j) (b := 1) (r := j - 1) rfl rfl rfl (by omega)) ?_
    refine t_q rfl (fun w' H => x_mv (v := v_data) rfl) ?_
    refine t_q rfl (fun w' H => x_mv (v := I j) rfl) ?_
    refine t_q rfl (fun w' H => x_ari (a := j) (b := 1) (r := j - 1) rfl rfl rfl (by omega)) ?_
    refine t_q rfl (fun w' H => x_mv (v := v_data) rfl) ?_
    refine t_q rfl (fun w' H => x_mv (v := I j) rfl) ?_
    obtain ⟨sd34z, hM⟩ := M.e_grd hM
    simp only [Bool.and_eq_true, decide_eq_true_eq] at sd34z
    obtain ⟨sd35z, hM⟩ := M.e_grd hM
    simp only [Bool.and_eq_true, decide_eq_true_eq] at sd35z
    obtain ⟨sd37z, hM⟩ := M.e_grd hM
    simp only [Bool.and_eq_true, decide_eq_true_eq] at sd37z
    refine t_l2 rfl rfl ?_ ?_
    ·skip
     refine s_val (x_ix (a := v_data) (b := I (j - 1)) (v := vat v_data 2 (Int.toNat (j - 1))) rfl rfl (Sl.ix (α := Dem) T62.und T62.size (ownSl (H.get (k := 1) rfl)) (by omega) (by omega))) ?_
     have hvc_q39z := Sl.cells (ownSl (H.get (k := 1) rfl))
     have hvo_q39z := Sl.oc (ownSl (H.get (k := 1) rfl))
     refine s_nil ⟨(H.pk [0]), ?_⟩
     refine t_l2 rfl rfl ?_ ?_
     ·skip
      refine s_val (x_ld (p := vat v_data 2 (Int.toNat (j - 1))) (v := .agg #[I ((l.getD (Int.toNat (j - 1)) default).spring), I ((l.getD (Int.toNat (j - 1)) default).town)]) rfl (ld_ag Ag61 Sz61 (At.mono (Dem_atA (ownSl (H.get (k := 1) rfl)) (i := j - 1) (by omega) (by omega)) (ownLe _ (H.get (k := 1) rfl))))) ?_
      refine s_nil ⟨(H.pk [0]), ?_⟩
      refine t_l rfl ?_
      refine s_val (x_ix (a := v_data) (b := I j) (v := vat v_data 2 (Int.toNat j)) rfl rfl (Sl.ix (α := Dem) T62.und T62.size (ownSl (H.get (k := 1) rfl)) (by omega) (by omega))) ?_
      refine s_nil ⟨(H.pk [0]), ?_⟩
      refine t_l rfl ?_
      refine s_val (x_ld (p := vat v_data 2 (Int.toNat j)) (v := .agg #[I ((l.getD (Int.toNat j) default).spring), I ((l.getD (Int.toNat j) default).town)]) rfl (ld_ag Ag61 Sz61 (At.mono (Dem_atA (ownSl (H.get (k := 1) rfl)) (i := j) (by omega) (by omega)) (ownLe _ (H.get (k := 1) rfl))))) ?_
      refine s_nil ⟨(H.pk [0]), ?_⟩
      refine t_l rfl ?_
      refine s_val (x_ix (a := v_data) (b := I j) (v := vat v_data 2 (Int.toNat j)) rfl rfl (Sl.ix (α := Dem) T62.und T62.size (ownSl (H.get (k := 1) rfl)) (by omega) (by omega))) ?_
      refine s_nil ⟨(H.pk [0]), ?_⟩
      refine t_l rfl ?_
      refine t_ost (k := 1) (i := j) (l := l) (l' := l.set (Int.toNat j) (l.getD (Int.toNat (j - 1)) default)) (val := .agg #[I ((l.getD (Int.toNat (j - 1)) default).spring), I ((l.getD (Int.toNat (j - 1)) default).town)]) (L' := [cMem encDm b_cmp2020207 Bs0_1 (zaa cmp2020200 cmp2020201 cmp2020202 cmp2020203 cmp2020204 cmp2020205 cmp2020206), cOwn (α := Dem) 61 v_data (l.set (Int.toNat j) (l.getD (Int.toNat (j - 1)) default))]) H rfl Sz61 (by omega) (by omega) (l.getD (Int.toNat (j - 1)) default) rfl rfl rfl rfl rfl ?_
      intro w40z H
      refine s_nil ⟨(H.pk [0]), ?_⟩
      refine t_l rfl ?_
      refine s_val (x_ix (a := v_data) (b := I (j - 1)) (v := vat v_data 2 (Int.toNat (j - 1))) rfl rfl (Sl.ix (α := Dem) T62.und T62.size (ownSl (H.get (k := 1) rfl)) (by omega) (by omega))) ?_
      refine s_nil ⟨(H.pk [0]), ?_⟩
      refine t_l rfl ?_
      refine t_ost (k := 1) (i := j - 1) (l := l.set (Int.toNat j) (l.getD (Int.toNat (j - 1)) default)) (l' := (l.set (Int.toNat j) (l.getD (Int.toNat (j - 1)) default)).set (Int.toNat (j - 1)) (l.getD (Int.toNat j) default)) (val := .agg #[I ((l.getD (Int.toNat j) default).spring), I ((l.getD (Int.toNat j) default).town)]) (L' := [cMem encDm b_cmp2020207 Bs0_1 (zaa cmp2020200 cmp2020201 cmp2020202 cmp2020203 cmp2020204 cmp2020205 cmp2020206), cOwn (α := Dem) 61 v_data ((l.set (Int.toNat j) (l.getD (Int.toNat (j - 1)) default)).set (Int.toNat (j - 1)) (l.getD (Int.toNat j) default))]) H rfl Sz61 (by omega) (by omega) (l.getD (Int.toNat j) default) rfl rfl rfl rfl rfl ?_
      intro w41z H
      refine s_nil ⟨(H.pk [0]), ?_⟩
      refine t_nil ?_
      refine W.region rfl ?_
      refine s_val (x_mv (v := I j) rfl) ?_
      refine s_val (x_ari (a := j) (b := 1) (r := j - 1) rfl rfl rfl (by omega)) ?_
      refine s_val (x_as (v := I (j - 1)) rfl) ?_
      refine s_nil ?_
      exact ⟨m19z, lt20z, (l.set (Int.toNat j) (l.getD (Int.toNat (j - 1)) default)).set (Int.toNat (j - 1)) (l.getD (Int.toNat j) default), j - 1, Bs0_1, _, upds_of _ _ ⟨rfl, rfl, rfl, rfl, rfl, rfl, trivial⟩, M.e_inl hM hN22z, (H.pk [1, 0])⟩
     skip
     refine s_val (x_ix (a := v_data) (b := I j) (v := vat v_data 2 (Int.toNat j)) rfl rfl (Sl.ix (α := Dem) T62.und T62.size (ownSl (H.get (k := 1) rfl)) (by omega) (by omega))) ?_
     refine s_nil ⟨(H.pk [0]), ?_⟩
     refine t_l2 rfl rfl ?_ ?_
     ·skip
      refine s_val (x_ld (p := vat v_data 2 (Int.toNat (j - 1))) (v := .agg #[I ((l.getD (Int.toNat (j - 1)) default).spring), I ((l.getD (Int.toNat (j - 1)) default).town)]) rfl (ld_ag Ag61 Sz61 (At.mono (Dem_atA (ownSl (H.get (k := 1) rfl)) (i := j - 1) (by omega) (by omega)) (ownLe _ (H.get (k := 1) rfl))))) ?_
      refine s_nil ⟨(H.pk [0]), ?_⟩
      refine t_l rfl ?_
      refine s_val (x_ld (p := vat v_data 2 (Int.toNat j)) (v := .agg #[I ((l.getD (Int.toNat j) default).spring), I ((l.getD (Int.toNat j) default).town)]) rfl (ld_ag Ag61 Sz61 (At.mono (Dem_atA (ownSl (H.get (k := 1) rfl)) (i := j) (by omega) (by omega)) (ownLe _ (H.get (k := 1) rfl))))) ?_
      refine s_nil ⟨(H.pk [0]), ?_⟩
      refine t_l rfl ?_
      refine s_val (x_ix (a := v_data) (b := I j) (v := vat v_data 2 (Int.toNat j)) rfl rfl (Sl.ix (α := Dem) T62.und T62.size (ownSl (H.get (k := 1) rfl)) (by omega) (by omega))) ?_
      refine s_nil ⟨(H.pk [0]), ?_⟩
      refine t_l rfl ?_
      refine t_ost (k := 1) (i := j) (l := l) (l' := l.set (Int.toNat j) (l.getD (Int.toNat (j - 1)) default)) (val := .agg #[I ((l.getD (Int.toNat (j - 1)) default).spring), I ((l.getD (Int.toNat (j - 1)) default).town)]) (L' := [cMem encDm b_cmp2020207 Bs0_1 (zaa cmp2020200 cmp2020201 cmp2020202 cmp2020203 cmp2020204 cmp2020205 cmp2020206), cOwn (α := Dem) 61 v_data (l.set (Int.toNat j) (l.getD (Int.toNat (j - 1)) default))]) H rfl Sz61 (by omega) (by omega) (l.getD (Int.toNat (j - 1)) default) rfl rfl rfl rfl rfl ?_
      intro w42z H
      refine s_nil ⟨(H.pk [0]), ?_⟩
      refine t_l rfl ?_
      refine s_val (x_ix (a := v_data) (b := I (j - 1)) (v := vat v_data 2 (Int.toNat (j - 1))) rfl rfl (Sl.ix (α := Dem) T62.und T62.size (ownSl (H.get (k := 1) rfl)) (by omega) (by omega))) ?_
      refine s_nil ⟨(H.pk [0]), ?_⟩
      refine t_l rfl ?_
      refine t_ost (k := 1) (i := j - 1) (l := l.set (Int.toNat j) (l.getD (Int.toNat (j - 1)) default)) (l' := (l.set (Int.toNat j) (l.getD (Int.toNat (j - 1)) default)).set (Int.toNat (j - 1)) (l.getD (Int.toNat j) default)) (val := .agg #[I ((l.getD (Int.toNat j) default).spring), I ((l.getD (Int.toNat j) default).town)]) (L' := [cMem encDm b_cmp2020207 Bs0_1 (zaa cmp2020200 cmp2020201 cmp2020202 cmp2020203 cmp2020204 cmp2020205 cmp2020206), cOwn (α := Dem) 61 v_data ((l.set (Int.toNat j) (l.getD (Int.toNat (j - 1)) default)).set (Int.toNat (j - 1)) (l.getD (Int.toNat j) default))]) H rfl Sz61 (by omega) (by omega) (l.getD (Int.toNat j) default) rfl rfl rfl rfl rfl ?_
      intro w43z H
      refine s_nil ⟨(H.pk [0]), ?_⟩
      refine t_nil ?_
      refine W.region rfl ?_
      refine s_val (x_mv (v := I j) rfl) ?_
      refine s_val (x_ari (a := j) (b := 1) (r := j - 1) rfl rfl rfl (by omega)) ?_
      refine s_val (x_as (v := I (j - 1)) rfl) ?_
      refine s_nil ?_
      exact ⟨m19z, lt20z, (l.set (Int.toNat j) (l.getD (Int.toNat (j - 1)) default)).set (Int.toNat (j - 1)) (l.getD (Int.toNat j) default), j - 1, Bs0_1, _, upds_of _ _ ⟨rfl, rfl, rfl, rfl, rfl, rfl, trivial⟩, M.e_inl hM hN22z, (H.pk [1, 0])⟩
     skip
     refine s_val (x_ld (p := vat v_data 2 (Int.toNat j)) (v := .agg #[I ((l.getD (Int.toNat j) default).spring), I ((l.getD (Int.toNat j) default).town)]) rfl (ld_ag Ag61 Sz61 (At.mono (Dem_atA (ownSl (H.get (k := 1) rfl)) (i := j) (by omega) (by omega)) (ownLe _ (H.get (k := 1) rfl))))) ?_
     refine s_nil ⟨(H.pk [0]), ?_⟩
     refine t_l rfl ?_
     refine s_val (x_ld (p := vat v_data 2 (Int.toNat (j - 1))) (v := .agg #[I ((l.getD (Int.toNat (j - 1)) default).spring), I ((l.getD (Int.toNat (j - 1)) default).town)]) rfl (ld_ag Ag61 Sz61 (At.mono (Dem_atA (ownSl (H.get (k := 1) rfl)) (i := j - 1) (by omega) (by omega)) (ownLe _ (H.get (k := 1) rfl))))) ?_
     refine s_nil ⟨(H.pk [0]), ?_⟩
     refine t_l rfl ?_
     refine s_val (x_ix (a := v_data) (b := I j) (v := vat v_data 2 (Int.toNat j)) rfl rfl (Sl.ix (α := Dem) T62.und T62.size (ownSl (H.get (k := 1) rfl)) (by omega) (by omega))) ?_
     refine s_nil ⟨(H.pk [0]), ?_⟩
     refine t_l rfl ?_
     refine t_ost (k := 1) (i := j) (l := l) (l' := l.set (Int.toNat j) (l.getD (Int.toNat (j - 1)) default)) (val := .agg #[I ((l.getD (Int.toNat (j - 1)) default).spring), I ((l.getD (Int.toNat (j - 1)) default).town)]) (L' := [cMem encDm b_cmp2020207 Bs0_1 (zaa cmp2020200 cmp2020201 cmp2020202 cmp2020203 cmp2020204 cmp2020205 cmp2020206), cOwn (α := Dem) 61 v_data (l.set (Int.toNat j) (l.getD (Int.toNat (j - 1)) default))]) H rfl Sz61 (by omega) (by omega) (l.getD (Int.toNat (j - 1)) default) rfl rfl rfl rfl rfl ?_
     intro w44z H
     refine s_nil ⟨(H.pk [0]), ?_⟩
     refine t_l rfl ?_
     refine s_val (x_ix (a := v_data) (b := I (j - 1)) (v := vat v_data 2 (Int.toNat (j - 1))) rfl rfl (Sl.ix (α := Dem) T62.und T62.size (ownSl (H.get (k := 1) rfl)) (by omega) (by omega))) ?_
     refine s_nil ⟨(H.pk [0]), ?_⟩
     refine t_l rfl ?_
     refine t_ost (k := 1) (i := j - 1) (l := l.set (Int.toNat j) (l.getD (Int.toNat (j - 1)) default)) (l' := (l.set (Int.toNat j) (l.getD (Int.toNat (j - 1)) default)).set (Int.toNat (j - 1)) (l.getD (Int.toNat j) default)) (val := .agg #[I ((l.getD (Int.toNat j) default).spring), I ((l.getD (Int.toNat j) default).town)]) (L' := [cMem encDm b_cmp2020207 Bs0_1 (zaa cmp2020200 cmp2020201 cmp2020202 cmp2020203 cmp2020204 cmp2020205 cmp2020206), cOwn (α := Dem) 61 v_data ((l.set (Int.toNat j) (l.getD (Int.toNat (j - 1)) default)).set (Int.toNat (j - 1)) (l.getD (Int.toNat j) default))]) H rfl Sz61 (by omega) (by omega) (l.getD (Int.toNat j) default) rfl rfl rfl rfl rfl ?_
     intro w45z H
     refine s_nil ⟨(H.pk [0]), ?_⟩
     refine t_nil ?_
     refine W.region rfl ?_
     refine s_val (x_mv (v := I j) rfl) ?_
     refine s_val (x_ari (a := j) (b := 1) (r := j - 1) rfl rfl rfl (by omega)) ?_
     refine s_val (x_as (v := I (j - 1)) rfl) ?_
     refine s_nil ?_
     exact ⟨m19z, lt20z, (l.set (Int.toNat j) (l.getD (Int.toNat (j - 1)) default)).set (Int.toNat (j - 1)) (l.getD (Int.toNat j) default), j - 1, Bs0_1, _, upds_of _ _ ⟨rfl, rfl, rfl, rfl, rfl, rfl, trivial⟩, M.e_inl hM hN22z, (H.pk [1, 0])⟩
    skip
    refine s_val (x_ix (a := v_data) (b := I j) (v := vat v_data 2 (Int.toNat j)) rfl rfl (Sl.ix (α := Dem) T62.und T62.size (ownSl (H.get (k := 1) rfl)) (by omega) (by omega))) ?_
    have hvc_q46z := Sl.cells (ownSl (H.get (k := 1) rfl))
    have hvo_q46z := Sl.oc (ownSl (H.get (k := 1) rfl))
    refine s_nil ⟨(H.pk [0]), ?_⟩
    refine t_l2 rfl rfl ?_ ?_
    ·skip
     refine s_val (x_ix (a := v_data) (b := I (j - 1)) (v := vat v_data 2 (Int.toNat (j - 1))) rfl rfl (Sl.ix (α := Dem) T62.und T62.size (ownSl (H.get (k := 1) rfl)) (by omega) (by omega))) ?_
     refine s_nil ⟨(H.pk [0]), ?_⟩
     refine t_l2 rfl rfl ?_ ?_
     ·skip
      refine s_val (x_ld (p := vat v_data 2 (Int.toNat (j - 1))) (v := .agg #[I ((l.getD (Int.toNat (j - 1)) default).spring), I ((l.getD (Int.toNat (j - 1)) default).town)]) rfl (ld_ag Ag61 Sz61 (At.mono (Dem_atA (ownSl (H.get (k := 1) rfl)) (i := j - 1) (by omega) (by omega)) (ownLe _ (H.get (k := 1) rfl))))) ?_
      refine s_nil ⟨(H.pk [0]), ?_⟩
      refine t_l rfl ?_
      refine s_val (x_ld (p := vat v_data 2 (Int.toNat j)) (v := .agg #[I ((l.getD (Int.toNat j) default).spring), I ((l.getD (Int.toNat j) default).town)]) rfl (ld_ag Ag61 Sz61 (At.mono (Dem_atA (ownSl (H.get (k := 1) rfl)) (i := j) (by omega) (by omega)) (ownLe _ (H.get (k := 1) rfl))))) ?_
      refine s_nil ⟨(H.pk [0]), ?_⟩
      refine t_l rfl ?_
      refine s_val (x_ix (a := v_data) (b := I j) (v := vat v_data 2 (Int.toNat j)) rfl rfl (Sl.ix (α := Dem) T62.und T62.size (ownSl (H.get (k := 1) rfl)) (by omega) (by omega))) ?_
      refine s_nil ⟨(H.pk [0]), ?_⟩
      refine t_l rfl ?_
      refine t_ost (k := 1) (i := j) (l := l) (l' := l.set (Int.toNat j) (l.getD (Int.toNat (j - 1)) default)) (val := .agg #[I ((l.getD (Int.toNat (j - 1)) default).spring), I ((l.getD (Int.toNat (j - 1)) default).town)]) (L' := [cMem encDm b_cmp2020207 Bs0_1 (zaa cmp2020200 cmp2020201 cmp2020202 cmp2020203 cmp2020204 cmp2020205 cmp2020206), cOwn (α := Dem) 61 v_data (l.set (Int.toNat j) (l.getD (Int.toNat (j - 1)) default))]) H rfl Sz61 (by omega) (by omega) (l.getD (Int.toNat (j - 1)) default) rfl rfl rfl rfl rfl ?_
      intro w47z H
      refine s_nil ⟨(H.pk [0]), ?_⟩
      refine t_l rfl ?_
      refine s_val (x_ix (a := v_data) (b := I (j - 1)) (v := vat v_data 2 (Int.toNat (j - 1))) rfl rfl (Sl.ix (α := Dem) T62.und T62.size (ownSl (H.get (k := 1) rfl)) (by omega) (by omega))) ?_
      refine s_nil ⟨(H.pk [0]), ?_⟩
      refine t_l rfl ?_
      refine t_ost (k := 1) (i := j - 1) (l := l.set (Int.toNat j) (l.getD (Int.toNat (j - 1)) default)) (l' := (l.set (Int.toNat j) (l.getD (Int.toNat (j - 1)) default)).set (Int.toNat (j - 1)) (l.getD (Int.toNat j) default)) (val := .agg #[I ((l.getD (Int.toNat j) default).spring), I ((l.getD (Int.toNat j) default).town)]) (L' := [cMem encDm b_cmp2020207 Bs0_1 (zaa cmp2020200 cmp2020201 cmp2020202 cmp2020203 cmp2020204 cmp2020205 cmp2020206), cOwn (α := Dem) 61 v_data ((l.set (Int.toNat j) (l.getD (Int.toNat (j - 1)) default)).set (Int.toNat (j - 1)) (l.getD (Int.toNat j) default))]) H rfl Sz61 (by omega) (by omega) (l.getD (Int.toNat j) default) rfl rfl rfl rfl rfl ?_
      intro w48z H
      refine s_nil ⟨(H.pk [0]), ?_⟩
      refine t_nil ?_
      refine W.region rfl ?_
      refine s_val (x_mv (v := I j) rfl) ?_
      refine s_val (x_ari (a := j) (b := 1) (r := j - 1) rfl rfl rfl (by omega)) ?_
      refine s_val (x_as (v := I (j - 1)) rfl) ?_
      refine s_nil ?_
      exact ⟨m19z, lt20z, (l.set (Int.toNat j) (l.getD (Int.toNat (j - 1)) default)).set (Int.toNat (j - 1)) (l.getD (Int.toNat j) default), j - 1, Bs0_1, _, upds_of _ _ ⟨rfl, rfl, rfl, rfl, rfl, rfl, trivial⟩, M.e_inl hM hN22z, (H.pk [1, 0])⟩
     skip
     refine s_val (x_ld (p := vat v_data 2 (Int.toNat j)) (v := .agg #[I ((l.getD (Int.toNat j) default).spring), I ((l.getD (Int.toNat j) default).town)]) rfl (ld_ag Ag61 Sz61 (At.mono (Dem_atA (ownSl (H.get (k := 1) rfl)) (i := j) (by omega) (by omega)) (ownLe _ (H.get (k := 1) rfl))))) ?_
     refine s_nil ⟨(H.pk [0]), ?_⟩
     refine t_l rfl ?_
     refine s_val (x_ld (p := vat v_data 2 (Int.toNat (j - 1))) (v := .agg #[I ((l.getD (Int.toNat (j - 1)) default).spring), I ((l.getD (Int.toNat (j - 1)) default).town)]) rfl (ld_ag Ag61 Sz61 (At.mono (Dem_atA (ownSl (H.get (k := 1) rfl)) (i := j - 1) (by omega) (by omega)) (ownLe _ (H.get (k := 1) rfl))))) ?_
     refine s_nil ⟨(H.pk [0]), ?_⟩
     refine t_l rfl ?_
     refine s_val (x_ix (a := v_data) (b := I j) (v := vat v_data 2 (Int.toNat j)) rfl rfl (Sl.ix (α := Dem) T62.und T62.size (ownSl (H.get (k := 1) rfl)) (by omega) (by omega))) ?_
     refine s_nil ⟨(H.pk [0]), ?_⟩
     refine t_l rfl ?_
     refine t_ost (k := 1) (i := j) (l := l) (l' := l.set (Int.toNat j) (l.getD (Int.toNat (j - 1)) default)) (val := .agg #[I ((l.getD (Int.toNat (j - 1)) default).spring), I ((l.getD (Int.toNat (j - 1)) default).town)]) (L' := [cMem encDm b_cmp2020207 Bs0_1 (zaa cmp2020200 cmp2020201 cmp2020202 cmp2020203 cmp2020204 cmp2020205 cmp2020206), cOwn (α := Dem) 61 v_data (l.set (Int.toNat j) (l.getD (Int.toNat (j - 1)) default))]) H rfl Sz61 (by omega) (by omega) (l.getD (Int.toNat (j - 1)) default) rfl rfl rfl rfl rfl ?_
     intro w49z H
     refine s_nil ⟨(H.pk [0]), ?_⟩
     refine t_l rfl ?_
     refine s_val (x_ix (a := v_data) (b := I (j - 1)) (v := vat v_data 2 (Int.toNat (j - 1))) rfl rfl (Sl.ix (α := Dem) T62.und T62.size (ownSl (H.get (k := 1) rfl)) (by omega) (by omega))) ?_
     refine s_nil ⟨(H.pk [0]), ?_⟩
     refine t_l rfl ?_
     refine t_ost (k := 1) (i := j - 1) (l := l.set (Int.toNat j) (l.getD (Int.toNat (j - 1)) default)) (l' := (l.set (Int.toNat j) (l.getD (Int.toNat (j - 1)) default)).set (Int.toNat (j - 1)) (l.getD (Int.toNat j) default)) (val := .agg #[I ((l.getD (Int.toNat j) default).spring), I ((l.getD (Int.toNat j) default).town)]) (L' := [cMem encDm b_cmp2020207 Bs0_1 (zaa cmp2020200 cmp2020201 cmp2020202 cmp2020203 cmp2020204 cmp2020205 cmp2020206), cOwn (α := Dem) 61 v_data ((l.set (Int.toNat j) (l.getD (Int.toNat (j - 1)) default)).set (Int.toNat (j - 1)) (l.getD (Int.toNat j) default))]) H rfl Sz61 (by omega) (by omega) (l.getD (Int.toNat j) default) rfl rfl rfl rfl rfl ?_
     intro w50z H
     refine s_nil ⟨(H.pk [0]), ?_⟩
     refine t_nil ?_
     refine W.region rfl ?_
     refine s_val (x_mv (v := I j) rfl) ?_
     refine s_val (x_ari (a := j) (b := 1) (r := j - 1) rfl rfl rfl (by omega)) ?_
     refine s_val (x_as (v := I (j - 1)) rfl) ?_
     refine s_nil ?_
     exact ⟨m19z, lt20z, (l.set (Int.toNat j) (l.getD (Int.toNat (j - 1)) default)).set (Int.toNat (j - 1)) (l.getD (Int.toNat j) default), j - 1, Bs0_1, _, upds_of _ _ ⟨rfl, rfl, rfl, rfl, rfl, rfl, trivial⟩, M.e_inl hM hN22z, (H.pk [1, 0])⟩
    skip
    refine s_val (x_ld (p := vat v_data 2 (Int.toNat j)) (v := .agg #[I ((l.getD (Int.toNat j) default).spring), I ((l.getD (Int.toNat j) default).town)]) rfl (ld_ag Ag61 Sz61 (At.mono (Dem_atA (ownSl (H.get (k := 1) rfl)) (i := j) (by omega) (by omega)) (ownLe _ (H.get (k := 1) rfl))))) ?_
    refine s_nil ⟨(H.pk [0]), ?_⟩
    refine t_l rfl ?_
    refine s_val (x_ix (a := v_data) (b := I (j - 1)) (v := vat v_data 2 (Int.toNat (j - 1))) rfl rfl (Sl.ix (α := Dem) T62.und T62.size (ownSl (H.get (k := 1) rfl)) (by omega) (by omega))) ?_
    refine s_nil ⟨(H.pk [0]), ?_⟩
    refine t_l rfl ?_
    refine s_val (x_ld (p := vat v_data 2 (Int.toNat (j - 1))) (v := .agg #[I ((l.getD (Int.toNat (j - 1)) default).spring), I ((l.getD (Int.toNat (j - 1)) default).town)]) rfl (ld_ag Ag61 Sz61 (At.mono (Dem_atA (ownSl (H.get (k := 1) rfl)) (i := j - 1) (by omega) (by omega)) (ownLe _ (H.get (k := 1) rfl))))) ?_
    refine s_nil ⟨(H.pk [0]), ?_⟩
    refine t_l rfl ?_
    refine s_val (x_ix (a := v_data) (b := I j) (v := vat v_data 2 (Int.toNat j)) rfl rfl (Sl.ix (α := Dem) T62.und T62.size (ownSl (H.get (k := 1) rfl)) (by omega) (by omega))) ?_
    refine s_nil ⟨(H.pk [0]), ?_⟩
    refine t_l rfl ?_
    refine t_ost (k := 1) (i := j) (l := l) (l' := l.set (Int.toNat j) (l.getD (Int.toNat (j - 1)) default)) (val := .agg #[I ((l.getD (Int.toNat (j - 1)) default).spring), I ((l.getD (Int.toNat (j - 1)) default).town)]) (L' := [cMem encDm b_cmp2020207 Bs0_1 (zaa cmp2020200 cmp2020201 cmp2020202 cmp2020203 cmp2020204 cmp2020205 cmp2020206), cOwn (α := Dem) 61 v_data (l.set (Int.toNat j) (l.getD (Int.toNat (j - 1)) default))]) H rfl Sz61 (by omega) (by omega) (l.getD (Int.toNat (j - 1)) default) rfl rfl rfl rfl rfl ?_
    intro w51z H
    refine s_nil ⟨(H.pk [0]), ?_⟩
    refine t_l rfl ?_
    refine s_val (x_ix (a := v_data) (b := I (j - 1)) (v := vat v_data 2 (Int.toNat (j - 1))) rfl rfl (Sl.ix (α := Dem) T62.und T62.size (ownSl (H.get (k := 1) rfl)) (by omega) (by omega))) ?_
    refine s_nil ⟨(H.pk [0]), ?_⟩
    refine t_l rfl ?_
    refine t_ost (k := 1) (i := j - 1) (l := l.set (Int.toNat j) (l.getD (Int.toNat (j - 1)) default)) (l' := (l.set (Int.toNat j) (l.getD (Int.toNat (j - 1)) default)).set (Int.toNat (j - 1)) (l.getD (Int.toNat j) default)) (val := .agg #[I ((l.getD (Int.toNat j) default).spring), I ((l.getD (Int.toNat j) default).town)]) (L' := [cMem encDm b_cmp2020207 Bs0_1 (zaa cmp2020200 cmp2020201 cmp2020202 cmp2020203 cmp2020204 cmp2020205 cmp2020206), cOwn (α := Dem) 61 v_data ((l.set (Int.toNat j) (l.getD (Int.toNat (j - 1)) default)).set (Int.toNat (j - 1)) (l.getD (Int.toNat j) default))]) H rfl Sz61 (by omega) (by omega) (l.getD (Int.toNat j) default) rfl rfl rfl rfl rfl ?_
    intro w52z H
    refine s_nil ⟨(H.pk [0]), ?_⟩
    refine t_nil ?_
    refine W.region rfl ?_
    refine s_val (x_mv (v := I j) rfl) ?_
    refine s_val (x_ari (a := j) (b := 1) (r := j - 1) rfl rfl rfl (by omega)) ?_
    refine s_val (x_as (v := I (j - 1)) rfl) ?_
    refine s_nil ?_
    exact ⟨m19z, lt20z, (l.set (Int.toNat j) (l.getD (Int.toNat (j - 1)) default)).set (Int.toNat (j - 1)) (l.getD (Int.toNat j) default), j - 1, Bs0_1, _, upds_of _ _ ⟨rfl, rfl, rfl, rfl, rfl, rfl, trivial⟩, M.e_inl hM hN22z, (H.pk [1, 0])⟩
   replace hM := M.e_f hM c31z
   refine W.exit ?_
   have hX53z := M.e_inr hM hN22z
   subst hX53z
   replace hM := hk15z
   try dsimp only at hM
   refine W.region rfl ?_
   refine s_val (x_mv (v := I i) rfl) ?_
   obtain ⟨sd54z, hM⟩ := M.e_grd hM
   simp only [Bool.and_eq_true, decide_eq_true_eq] at sd54z
   refine s_val (x_ari (a := i) (b := 1) (r := i + 1) rfl rfl rfl (by omega)) ?_
   refine s_val (x_as (v := I (i + 1)) rfl) ?_
   refine s_nil ?_
   exact ⟨m8z, lt9z, l, i + 1, Bs0_1, _, upds_of _ _ ⟨rfl, rfl, rfl, rfl, rfl, trivial⟩, M.e_inl hM hN11z, (H.pk [1, 0])⟩
  replace hM := M.e_f hM hg_
  refine s_nil ⟨(H.pk [0]), ?_⟩
  refine d_qg (decide (a < j)) rfl (gy_t rfl) (fun hg => (fun w' H => x_cmp (kd := .i64) (a := 0) (b := 0) (r := decide ((0 : Int) < 0)) (gd_of (c := decide (a < j)) hg (I 0)) rfl rfl)) ?_
  refine d_q rfl (fun w' H => x_pand (b := decide (a < j)) (r := decide ((0 : Int) < 0)) rfl (fun hb => gd_of (c := decide (a < j)) (by first | exact hb | (rw [hb]; rfl) | simp_all) (B (decide ((0 : Int) < 0)))) rfl) ?_
  refine d_nil ?_
  refine W.cond ((decide (a < j)) && (decide ((0 : Int) < 0))) rfl (fun c55z => ?_) (fun c55z => ?_)
  ·replace hM := M.e_t hM c55z
   refine W.skip ?_
   refine W.seq ?_
   refine W.block ?_
   refine W.drawT (fun W => St w W [cMem encDm b_cmp2020207 B_mem (zaa cmp2020200 cmp2020201 cmp2020202 cmp2020203 cmp2020204 cmp2020205 cmp2020206)] R) (.q 0 (.q 1 (.q 2 (.q 3 (.q 4 (.q 5 (.q 6 (.q 7 (.q 10 (.q 11 (.l2 8 (.l2 9 (.l 12 (.l 13 (.l 14 (.l 15 (.l 16 (.l 17 .nil)))))) 12 (.l2 9 (.l 13 (.l 14 (.l 15 (.l 16 (.l 17 .nil))))) 13 (.l 9 (.l 14 (.l 15 (.l 16 (.l 17 .nil))))))) 12 (.l2 8 (.l2 9 (.l 13 (.l 14 (.l 15 (.l 16 (.l 17 .nil))))) 13 (.l 9 (.l 14 (.l 15 (.l 16 (.l 17 .nil)))))) 13 (.l 8 (.l 9 (.l 14 (.l 15 (.l 16 (.l 17 .nil)))))))))))))))))) mixed (by decide +kernel) rfl ?_
   intro w56z hx_
   replace H := H.ext hx_
   clear hx_
   refine ⟨(H.pk [1]), ?_⟩
   refine t_q rfl (fun w' H => x_mv (v := v_data) rfl) ?_
   refine t_q rfl (fun w' H => x_mv (v := I j) rfl) ?_
   refine t_q rfl (fun w' H => x_mv (v := v_data) rfl) ?_
   refine t_q rfl (fun w' H => x_mv (v := I j) rfl) ?_
   obtain ⟨sd57z, hM⟩ := M.e_grd hM
   simp only [Bool.and_eq_true, decide_eq_true_eq] at sd57z
   refine t_q rfl (fun w' H => x_ari (a := j) (b := 1) (r := j - 1) rfl rfl rfl (by omega)) ?_
   refine t_q rfl (fun w' H => x_mv (v := v_data) rfl) ?_
   refine t_q rfl (fun w' H => x_mv (v := I j) rfl) ?_
   refine t_q rfl (fun w' H => x_ari (a := j) (b := 1) (r := j - 1) rfl rfl rfl (by omega)) ?_
   refine t_q rfl (fun w' H => x_mv (v := v_data) rfl) ?_
   refine t_q rfl (fun w' H => x_mv (v := I j) rfl) ?_
   obtain ⟨sd58z, hM⟩ := M.e_grd hM
   simp only [Bool.and_eq_true, decide_eq_true_eq] at sd58z
   obtain ⟨sd59z, hM⟩ := M.e_grd hM
   simp only [Bool.and_eq_true, decide_eq_true_eq] at sd59z
   obtain ⟨sd61z, hM⟩ := M.e_grd hM
   simp only [Bool.and_eq_true, decide_eq_true_eq] at sd61z
   refine t_l2 rfl rfl ?_ ?_
   ·skip
    refine s_val (x_ix (a := v_data) (b := I (j - 1)) (v := vat v_data 2 (Int.toNat (j - 1))) rfl rfl (Sl.ix (α := Dem) T62.und T62.size (ownSl (H.get (k := 0) rfl)) (by omega) (by omega))) ?_
    have hvc_q63z := Sl.cells (ownSl (H.get (k := 0) rfl))
    have hvo_q63z := Sl.oc (ownSl (H.get (k := 0) rfl))
    refine s_nil ⟨(H.pk [1]), ?_⟩
    refine t_l2 rfl rfl ?_ ?_
    ·skip
     refine s_val (x_ld (p := vat v_data 2 (Int.toNat (j - 1))) (v := .agg #[I ((l.getD (Int.toNat (j - 1)) default).spring), I ((l.getD (Int.toNat (j - 1)) default).town)]) rfl (ld_ag Ag61 Sz61 (At.mono (Dem_atA (ownSl (H.get (k := 0) rfl)) (i := j - 1) (by omega) (by omega)) (ownLe _ (H.get (k := 0) rfl))))) ?_
     refine s_nil ⟨(H.pk [1]), ?_⟩
     refine t_l rfl ?_
     refine s_val (x_ix (a := v_data) (b := I j) (v := vat v_data 2 (Int.toNat j)) rfl rfl (Sl.ix (α := Dem) T62.und T62.size (ownSl (H.get (k := 0) rfl)) (by omega) (by omega))) ?_
     refine s_nil ⟨(H.pk [1]), ?_⟩
     refine t_l rfl ?_
     refine s_val (x_ld (p := vat v_data 2 (Int.toNat j)) (v := .agg #[I ((l.getD (Int.toNat j) default).spring), I ((l.getD (Int.toNat j) default).town)]) rfl (ld_ag Ag61 Sz61 (At.mono (Dem_atA (ownSl (H.get (k := 0) rfl)) (i := j) (by omega) (by omega)) (ownLe _ (H.get (k := 0) rfl))))) ?_
     refine s_nil ⟨(H.pk [1]), ?_⟩
     refine t_l rfl ?_
     refine s_val (x_ix (a := v_data) (b := I j) (v := vat v_data 2 (Int.toNat j)) rfl rfl (Sl.ix (α := Dem) T62.und T62.size (ownSl (H.get (k := 0) rfl)) (by omega) (by omega))) ?_
     refine s_nil ⟨(H.pk [1]), ?_⟩
     refine t_l rfl ?_
     refine t_ost (k := 0) (i := j) (l := l) (l' := l.set (Int.toNat j) (l.getD (Int.toNat (j - 1)) default)) (val := .agg #[I ((l.getD (Int.toNat (j - 1)) default).spring), I ((l.getD (Int.toNat (j - 1)) default).town)]) (L' := [cOwn (α := Dem) 61 v_data (l.set (Int.toNat j) (l.getD (Int.toNat (j - 1)) default)), cMem encDm b_cmp2020207 B_mem (zaa cmp2020200 cmp2020201 cmp2020202 cmp2020203 cmp2020204 cmp2020205 cmp2020206)]) H rfl Sz61 (by omega) (by omega) (l.getD (Int.toNat (j - 1)) default) rfl rfl rfl rfl rfl ?_
     intro w64z H
     refine s_nil ⟨(H.pk [1]), ?_⟩
     refine t_l rfl ?_
     refine s_val (x_ix (a := v_data) (b := I (j - 1)) (v := vat v_data 2 (Int.toNat (j - 1))) rfl rfl (Sl.ix (α := Dem) T62.und T62.size (ownSl (H.get (k := 0) rfl)) (by omega) (by omega))) ?_
     refine s_nil ⟨(H.pk [1]), ?_⟩
     refine t_l rfl ?_
     refine t_ost (k := 0) (i := j - 1) (l := l.set (Int.toNat j) (l.getD (Int.toNat (j - 1)) default)) (l' := (l.set (Int.toNat j) (l.getD (Int.toNat (j - 1)) default)).set (Int.toNat (j - 1)) (l.getD (Int.toNat j) default)) (val := .agg #[I ((l.getD (Int.toNat j) default).spring), I ((l.getD (Int.toNat j) default).town)]) (L' := [cOwn (α := Dem) 61 v_data ((l.set (Int.toNat j) (l.getD (Int.toNat (j - 1)) default)).set (Int.toNat (j - 1)) (l.getD (Int.toNat j) default)), cMem encDm b_cmp2020207 B_mem (zaa cmp2020200 cmp2020201 cmp2020202 cmp2020203 cmp2020204 cmp2020205 cmp2020206)]) H rfl Sz61 (by omega) (by omega) (l.getD (Int.toNat j) default) rfl rfl rfl rfl rfl ?_
     intro w65z H
     refine s_nil ⟨(H.pk [1]), ?_⟩
     refine t_nil ?_
     refine W.region rfl ?_
     refine s_val (x_mv (v := I j) rfl) ?_
     refine s_val (x_ari (a := j) (b := 1) (r := j - 1) rfl rfl rfl (by omega)) ?_
     refine s_val (x_as (v := I (j - 1)) rfl) ?_
     refine s_nil ?_
     exact ⟨m19z, lt20z, (l.set (Int.toNat j) (l.getD (Int.toNat (j - 1)) default)).set (Int.toNat (j - 1)) (l.getD (Int.toNat j) default), j - 1, B_mem, _, upds_of _ _ ⟨rfl, rfl, rfl, rfl, rfl, rfl, trivial⟩, M.e_inl hM hN22z, H⟩
    skip
    refine s_val (x_ix (a := v_data) (b := I j) (v := vat v_data 2 (Int.toNat j)) rfl rfl (Sl.ix (α := Dem) T62.und T62.size (ownSl (H.get (k := 0) rfl)) (by omega) (by omega))) ?_
    refine s_nil ⟨(H.pk [1]), ?_⟩
    refine t_l2 rfl rfl ?_ ?_
    ·skip
     refine s_val (x_ld (p := vat v_data 2 (Int.toNat (j - 1))) (v := .agg #[I ((l.getD (Int.toNat (j - 1)) default).spring), I ((l.getD (Int.toNat (j - 1)) default).town)]) rfl (ld_ag Ag61 Sz61 (At.mono (Dem_atA (ownSl (H.get (k := 0) rfl)) (i := j - 1) (by omega) (by omega)) (ownLe _ (H.get (k := 0) rfl))))) ?_
     refine s_nil ⟨(H.pk [1]), ?_⟩
     refine t_l rfl ?_
     refine s_val (x_ld (p := vat v_data 2 (Int.toNat j)) (v := .agg #[I ((l.getD (Int.toNat j) default).spring), I ((l.getD (Int.toNat j) default).town)]) rfl (ld_ag Ag61 Sz61 (At.mono (Dem_atA (ownSl (H.get (k := 0) rfl)) (i := j) (by omega) (by omega)) (ownLe _ (H.get (k := 0) rfl))))) ?_
     refine s_nil ⟨(H.pk [1]), ?_⟩
     refine t_l rfl ?_
     refine s_val (x_ix (a := v_data) (b := I j) (v := vat v_data 2 (Int.toNat j)) rfl rfl (Sl.ix (α := Dem) T62.und T62.size (ownSl (H.get (k := 0) rfl)) (by omega) (by omega))) ?_
     refine s_nil ⟨(H.pk [1]), ?_⟩
     refine t_l rfl ?_
     refine t_ost (k := 0) (i := j) (l := l) (l' := l.set (Int.toNat j) (l.getD (Int.toNat (j - 1)) default)) (val := .agg #[I ((l.getD (Int.toNat (j - 1)) default).spring), I ((l.getD (Int.toNat (j - 1)) default).town)]) (L' := [cOwn (α := Dem) 61 v_data (l.set (Int.toNat j) (l.getD (Int.toNat (j - 1)) default)), cMem encDm b_cmp2020207 B_mem (zaa cmp2020200 cmp2020201 cmp2020202 cmp2020203 cmp2020204 cmp2020205 cmp2020206)]) H rfl Sz61 (by omega) (by omega) (l.getD (Int.toNat (j - 1)) default) rfl rfl rfl rfl rfl ?_
     intro w66z H
     refine s_nil ⟨(H.pk [1]), ?_⟩
     refine t_l rfl ?_
     refine s_val (x_ix (a := v_data) (b := I (j - 1)) (v := vat v_data 2 (Int.toNat (j - 1))) rfl rfl (Sl.ix (α := Dem) T62.und T62.size (ownSl (H.get (k := 0) rfl)) (by omega) (by omega))) ?_
     refine s_nil ⟨(H.pk [1]), ?_⟩
     refine t_l rfl ?_
     refine t_ost (k := 0) (i := j - 1) (l := l.set (Int.toNat j) (l.getD (Int.toNat (j - 1)) default)) (l' := (l.set (Int.toNat j) (l.getD (Int.toNat (j - 1)) default)).set (Int.toNat (j - 1)) (l.getD (Int.toNat j) default)) (val := .agg #[I ((l.getD (Int.toNat j) default).spring), I ((l.getD (Int.toNat j) default).town)]) (L' := [cOwn (α := Dem) 61 v_data ((l.set (Int.toNat j) (l.getD (Int.toNat (j - 1)) default)).set (Int.toNat (j - 1)) (l.getD (Int.toNat j) default)), cMem encDm b_cmp2020207 B_mem (zaa cmp2020200 cmp2020201 cmp2020202 cmp2020203 cmp2020204 cmp2020205 cmp2020206)]) H rfl Sz61 (by omega) (by omega) (l.getD (Int.toNat j) default) rfl rfl rfl rfl rfl ?_
     intro w67z H
     refine s_nil ⟨(H.pk [1]), ?_⟩
     refine t_nil ?_
     refine W.region rfl ?_
     refine s_val (x_mv (v := I j) rfl) ?_
     refine s_val (x_ari (a := j) (b := 1) (r := j - 1) rfl rfl rfl (by omega)) ?_
     refine s_val (x_as (v := I (j - 1)) rfl) ?_
     refine s_nil ?_
     exact ⟨m19z, lt20z, (l.set (Int.toNat j) (l.getD (Int.toNat (j - 1)) default)).set (Int.toNat (j - 1)) (l.getD (Int.toNat j) default), j - 1, B_mem, _, upds_of _ _ ⟨rfl, rfl, rfl, rfl, rfl, rfl, trivial⟩, M.e_inl hM hN22z, H⟩
    skip
    refine s_val (x_ld (p := vat v_data 2 (Int.toNat j)) (v := .agg #[I ((l.getD (Int.toNat j) default).spring), I ((l.getD (Int.toNat j) default).town)]) rfl (ld_ag Ag61 Sz61 (At.mono (Dem_atA (ownSl (H.get (k := 0) rfl)) (i := j) (by omega) (by omega)) (ownLe _ (H.get (k := 0) rfl))))) ?_
    refine s_nil ⟨(H.pk [1]), ?_⟩
    refine t_l rfl ?_
    refine s_val (x_ld (p := vat v_data 2 (Int.toNat (j - 1))) (v := .agg #[I ((l.getD (Int.toNat (j - 1)) default).spring), I ((l.getD (Int.toNat (j - 1)) default).town)]) rfl (ld_ag Ag61 Sz61 (At.mono (Dem_atA (ownSl (H.get (k := 0) rfl)) (i := j - 1) (by omega) (by omega)) (ownLe _ (H.get (k := 0) rfl))))) ?_
    refine s_nil ⟨(H.pk [1]), ?_⟩
    refine t_l rfl ?_
    refine s_val (x_ix (a := v_data) (b := I j) (v := vat v_data 2 (Int.toNat j)) rfl rfl (Sl.ix (α := Dem) T62.und T62.size (ownSl (H.get (k := 0) rfl)) (by omega) (by omega))) ?_
    refine s_nil ⟨(H.pk [1]), ?_⟩
    refine t_l rfl ?_
    refine t_ost (k := 0) (i := j) (l := l) (l' := l.set (Int.toNat j) (l.getD (Int.toNat (j - 1)) default)) (val := .agg #[I ((l.getD (Int.toNat (j - 1)) default).spring), I ((l.getD (Int.toNat (j - 1)) default).town)]) (L' := [cOwn (α := Dem) 61 v_data (l.set (Int.toNat j) (l.getD (Int.toNat (j - 1)) default)), cMem encDm b_cmp2020207 B_mem (zaa cmp2020200 cmp2020201 cmp2020202 cmp2020203 cmp2020204 cmp2020205 cmp2020206)]) H rfl Sz61 (by omega) (by omega) (l.getD (Int.toNat (j - 1)) default) rfl rfl rfl rfl rfl ?_
    intro w68z H
    refine s_nil ⟨(H.pk [1]), ?_⟩
    refine t_l rfl ?_
    refine s_val (x_ix (a := v_data) (b := I (j - 1)) (v := vat v_data 2 (Int.toNat (j - 1))) rfl rfl (Sl.ix (α := Dem) T62.und T62.size (ownSl (H.get (k := 0) rfl)) (by omega) (by omega))) ?_
    refine s_nil ⟨(H.pk [1]), ?_⟩
    refine t_l rfl ?_
    refine t_ost (k := 0) (i := j - 1) (l := l.set (Int.toNat j) (l.getD (Int.toNat (j - 1)) default)) (l' := (l.set (Int.toNat j) (l.getD (Int.toNat (j - 1)) default)).set (Int.toNat (j - 1)) (l.getD (Int.toNat j) default)) (val := .agg #[I ((l.getD (Int.toNat j) default).spring), I ((l.getD (Int.toNat j) default).town)]) (L' := [cOwn (α := Dem) 61 v_data ((l.set (Int.toNat j) (l.getD (Int.toNat (j - 1)) default)).set (Int.toNat (j - 1)) (l.getD (Int.toNat j) default)), cMem encDm b_cmp2020207 B_mem (zaa cmp2020200 cmp2020201 cmp2020202 cmp2020203 cmp2020204 cmp2020205 cmp2020206)]) H rfl Sz61 (by omega) (by omega) (l.getD (Int.toNat j) default) rfl rfl rfl rfl rfl ?_
    intro w69z H
    refine s_nil ⟨(H.pk [1]), ?_⟩
    refine t_nil ?_
    refine W.region rfl ?_
    refine s_val (x_mv (v := I j) rfl) ?_
    refine s_val (x_ari (a := j) (b := 1) (r := j - 1) rfl rfl rfl (by omega)) ?_
    refine s_val (x_as (v := I (j - 1)) rfl) ?_
    refine s_nil ?_
    exact ⟨m19z, lt20z, (l.set (Int.toNat j) (l.getD (Int.toNat (j - 1)) default)).set (Int.toNat (j - 1)) (l.getD (Int.toNat j) default), j - 1, B_mem, _, upds_of _ _ ⟨rfl, rfl, rfl, rfl, rfl, rfl, trivial⟩, M.e_inl hM hN22z, H⟩
   skip
   refine s_val (x_ix (a := v_data) (b := I j) (v := vat v_data 2 (Int.toNat j)) rfl rfl (Sl.ix (α := Dem) T62.und T62.size (ownSl (H.get (k := 0) rfl)) (by omega) (by omega))) ?_
   have hvc_q70z := Sl.cells (ownSl (H.get (k := 0) rfl))
   have hvo_q70z := Sl.oc (ownSl (H.get (k := 0) rfl))
   refine s_nil ⟨(H.pk [1]), ?_⟩
   refine t_l2 rfl rfl ?_ ?_
   ·skip
    refine s_val (x_ix (a := v_data) (b := I (j - 1)) (v := vat v_data 2 (Int.toNat (j - 1))) rfl rfl (Sl.ix (α := Dem) T62.und T62.size (ownSl (H.get (k := 0) rfl)) (by omega) (by omega))) ?_
    refine s_nil ⟨(H.pk [1]), ?_⟩
    refine t_l2 rfl rfl ?_ ?_
    ·skip
     refine s_val (x_ld (p := vat v_data 2 (Int.toNat (j - 1))) (v := .agg #[I ((l.getD (Int.toNat (j - 1)) default).spring), I ((l.getD (Int.toNat (j - 1)) default).town)]) rfl (ld_ag Ag61 Sz61 (At.mono (Dem_atA (ownSl (H.get (k := 0) rfl)) (i := j - 1) (by omega) (by omega)) (ownLe _ (H.get (k := 0) rfl))))) ?_
     refine s_nil ⟨(H.pk [1]), ?_⟩
     refine t_l rfl ?_
     refine s_val (x_ld (p := vat v_data 2 (Int.toNat j)) (v := .agg #[I ((l.getD (Int.toNat j) default).spring), I ((l.getD (Int.toNat j) default).town)]) rfl (ld_ag Ag61 Sz61 (At.mono (Dem_atA (ownSl (H.get (k := 0) rfl)) (i := j) (by omega) (by omega)) (ownLe _ (H.get (k := 0) rfl))))) ?_
     refine s_nil ⟨(H.pk [1]), ?_⟩
     refine t_l rfl ?_
     refine s_val (x_ix (a := v_data) (b := I j) (v := vat v_data 2 (Int.toNat j)) rfl rfl (Sl.ix (α := Dem) T62.und T62.size (ownSl (H.get (k := 0) rfl)) (by omega) (by omega))) ?_
     refine s_nil ⟨(H.pk [1]), ?_⟩
     refine t_l rfl ?_
     refine t_ost (k := 0) (i := j) (l := l) (l' := l.set (Int.toNat j) (l.getD (Int.toNat (j - 1)) default)) (val := .agg #[I ((l.getD (Int.toNat (j - 1)) default).spring), I ((l.getD (Int.toNat (j - 1)) default).town)]) (L' := [cOwn (α := Dem) 61 v_data (l.set (Int.toNat j) (l.getD (Int.toNat (j - 1)) default)), cMem encDm b_cmp2020207 B_mem (zaa cmp2020200 cmp2020201 cmp2020202 cmp2020203 cmp2020204 cmp2020205 cmp2020206)]) H rfl Sz61 (by omega) (by omega) (l.getD (Int.toNat (j - 1)) default) rfl rfl rfl rfl rfl ?_
     intro w71z H
     refine s_nil ⟨(H.pk [1]), ?_⟩
     refine t_l rfl ?_
     refine s_val (x_ix (a := v_data) (b := I (j - 1)) (v := vat v_data 2 (Int.toNat (j - 1))) rfl rfl (Sl.ix (α := Dem) T62.und T62.size (ownSl (H.get (k := 0) rfl)) (by omega) (by omega))) ?_
     refine s_nil ⟨(H.pk [1]), ?_⟩
     refine t_l rfl ?_
     refine t_ost (k := 0) (i := j - 1) (l := l.set (Int.toNat j) (l.getD (Int.toNat (j - 1)) default)) (l' := (l.set (Int.toNat j) (l.getD (Int.toNat (j - 1)) default)).set (Int.toNat (j - 1)) (l.getD (Int.toNat j) default)) (val := .agg #[I ((l.getD (Int.toNat j) default).spring), I ((l.getD (Int.toNat j) default).town)]) (L' := [cOwn (α := Dem) 61 v_data ((l.set (Int.toNat j) (l.getD (Int.toNat (j - 1)) default)).set (Int.toNat (j - 1)) (l.getD (Int.toNat j) default)), cMem encDm b_cmp2020207 B_mem (zaa cmp2020200 cmp2020201 cmp2020202 cmp2020203 cmp2020204 cmp2020205 cmp2020206)]) H rfl Sz61 (by omega) (by omega) (l.getD (Int.toNat j) default) rfl rfl rfl rfl rfl ?_
     intro w72z H
     refine s_nil ⟨(H.pk [1]), ?_⟩
     refine t_nil ?_
     refine W.region rfl ?_
     refine s_val (x_mv (v := I j) rfl) ?_
     refine s_val (x_ari (a := j) (b := 1) (r := j - 1) rfl rfl rfl (by omega)) ?_
     refine s_val (x_as (v := I (j - 1)) rfl) ?_
     refine s_nil ?_
     exact ⟨m19z, lt20z, (l.set (Int.toNat j) (l.getD (Int.toNat (j - 1)) default)).set (Int.toNat (j - 1)) (l.getD (Int.toNat j) default), j - 1, B_mem, _, upds_of _ _ ⟨rfl, rfl, rfl, rfl, rfl, rfl, trivial⟩, M.e_inl hM hN22z, H⟩
    skip
    refine s_val (x_ld (p := vat v_data 2 (Int.toNat j)) (v := .agg #[I ((l.getD (Int.toNat j) default).spring), I ((l.getD (Int.toNat j) default).town)]) rfl (ld_ag Ag61 Sz61 (At.mono (Dem_atA (ownSl (H.get (k := 0) rfl)) (i := j) (by omega) (by omega)) (ownLe _ (H.get (k := 0) rfl))))) ?_
    refine s_nil ⟨(H.pk [1]), ?_⟩
    refine t_l rfl ?_
    refine s_val (x_ld (p := vat v_data 2 (Int.toNat (j - 1))) (v := .agg #[I ((l.getD (Int.toNat (j - 1)) default).spring), I ((l.getD (Int.toNat (j - 1)) default).town)]) rfl (ld_ag Ag61 Sz61 (At.mono (Dem_atA (ownSl (H.get (k := 0) rfl)) (i := j - 1) (by omega) (by omega)) (ownLe _ (H.get (k := 0) rfl))))) ?_
    refine s_nil ⟨(H.pk [1]), ?_⟩
    refine t_l rfl ?_
    refine s_val (x_ix (a := v_data) (b := I j) (v := vat v_data 2 (Int.toNat j)) rfl rfl (Sl.ix (α := Dem) T62.und T62.size (ownSl (H.get (k := 0) rfl)) (by omega) (by omega))) ?_
    refine s_nil ⟨(H.pk [1]), ?_⟩
    refine t_l rfl ?_
    refine t_ost (k := 0) (i := j) (l := l) (l' := l.set (Int.toNat j) (l.getD (Int.toNat (j - 1)) default)) (val := .agg #[I ((l.getD (Int.toNat (j - 1)) default).spring), I ((l.getD (Int.toNat (j - 1)) default).town)]) (L' := [cOwn (α := Dem) 61 v_data (l.set (Int.toNat j) (l.getD (Int.toNat (j - 1)) default)), cMem encDm b_cmp2020207 B_mem (zaa cmp2020200 cmp2020201 cmp2020202 cmp2020203 cmp2020204 cmp2020205 cmp2020206)]) H rfl Sz61 (by omega) (by omega) (l.getD (Int.toNat (j - 1)) default) rfl rfl rfl rfl rfl ?_
    intro w73z H
    refine s_nil ⟨(H.pk [1]), ?_⟩
    refine t_l rfl ?_
    refine s_val (x_ix (a := v_data) (b := I (j - 1)) (v := vat v_data 2 (Int.toNat (j - 1))) rfl rfl (Sl.ix (α := Dem) T62.und T62.size (ownSl (H.get (k := 0) rfl)) (by omega) (by omega))) ?_
    refine s_nil ⟨(H.pk [1]), ?_⟩
    refine t_l rfl ?_
    refine t_ost (k := 0) (i := j - 1) (l := l.set (Int.toNat j) (l.getD (Int.toNat (j - 1)) default)) (l' := (l.set (Int.toNat j) (l.getD (Int.toNat (j - 1)) default)).set (Int.toNat (j - 1)) (l.getD (Int.toNat j) default)) (val := .agg #[I ((l.getD (Int.toNat j) default).spring), I ((l.getD (Int.toNat j) default).town)]) (L' := [cOwn (α := Dem) 61 v_data ((l.set (Int.toNat j) (l.getD (Int.toNat (j - 1)) default)).set (Int.toNat (j - 1)) (l.getD (Int.toNat j) default)), cMem encDm b_cmp2020207 B_mem (zaa cmp2020200 cmp2020201 cmp2020202 cmp2020203 cmp2020204 cmp2020205 cmp2020206)]) H rfl Sz61 (by omega) (by omega) (l.getD (Int.toNat j) default) rfl rfl rfl rfl rfl ?_
    intro w74z H
    refine s_nil ⟨(H.pk [1]), ?_⟩
    refine t_nil ?_
    refine W.region rfl ?_
    refine s_val (x_mv (v := I j) rfl) ?_
    refine s_val (x_ari (a := j) (b := 1) (r := j - 1) rfl rfl rfl (by omega)) ?_
    refine s_val (x_as (v := I (j - 1)) rfl) ?_
    refine s_nil ?_
    exact ⟨m19z, lt20z, (l.set (Int.toNat j) (l.getD (Int.toNat (j - 1)) default)).set (Int.toNat (j - 1)) (l.getD (Int.toNat j) default), j - 1, B_mem, _, upds_of _ _ ⟨rfl, rfl, rfl, rfl, rfl, rfl, trivial⟩, M.e_inl hM hN22z, H⟩
   skip
   refine s_val (x_ld (p := vat v_data 2 (Int.toNat j)) (v := .agg #[I ((l.getD (Int.toNat j) default).spring), I ((l.getD (Int.toNat j) default).town)]) rfl (ld_ag Ag61 Sz61 (At.mono (Dem_atA (ownSl (H.get (k := 0) rfl)) (i := j) (by omega) (by omega)) (ownLe _ (H.get (k := 0) rfl))))) ?_
   refine s_nil ⟨(H.pk [1]), ?_⟩
   refine t_l rfl ?_
   refine s_val (x_ix (a := v_data) (b := I (j - 1)) (v := vat v_data 2 (Int.toNat (j - 1))) rfl rfl (Sl.ix (α := Dem) T62.und T62.size (ownSl (H.get (k := 0) rfl)) (by omega) (by omega))) ?_
   refine s_nil ⟨(H.pk [1]), ?_⟩
   refine t_l rfl ?_
   refine s_val (x_ld (p := vat v_data 2 (Int.toNat (j - 1))) (v := .agg #[I ((l.getD (Int.toNat (j - 1)) default).spring), I ((l.getD (Int.toNat (j - 1)) default).town)]) rfl (ld_ag Ag61 Sz61 (At.mono (Dem_atA (ownSl (H.get (k := 0) rfl)) (i := j - 1) (by omega) (by omega)) (ownLe _ (H.get (k := 0) rfl))))) ?_
   refine s_nil ⟨(H.pk [1]), ?_⟩
   refine t_l rfl ?_
   refine s_val (x_ix (a := v_data) (b := I j) (v := vat v_data 2 (Int.toNat j)) rfl rfl (Sl.ix (α := Dem) T62.und T62.size (ownSl (H.get (k := 0) rfl)) (by omega) (by omega))) ?_
   refine s_nil ⟨(H.pk [1]), ?_⟩
   refine t_l rfl ?_
   refine t_ost (k := 0) (i := j) (l := l) (l' := l.set (Int.toNat j) (l.getD (Int.toNat (j - 1)) default)) (val := .agg #[I ((l.getD (Int.toNat (j - 1)) default).spring), I ((l.getD (Int.toNat (j - 1)) default).town)]) (L' := [cOwn (α := Dem) 61 v_data (l.set (Int.toNat j) (l.getD (Int.toNat (j - 1)) default)), cMem encDm b_cmp2020207 B_mem (zaa cmp2020200 cmp2020201 cmp2020202 cmp2020203 cmp2020204 cmp2020205 cmp2020206)]) H rfl Sz61 (by omega) (by omega) (l.getD (Int.toNat (j - 1)) default) rfl rfl rfl rfl rfl ?_
   intro w75z H
   refine s_nil ⟨(H.pk [1]), ?_⟩
   refine t_l rfl ?_
   refine s_val (x_ix (a := v_data) (b := I (j - 1)) (v := vat v_data 2 (Int.toNat (j - 1))) rfl rfl (Sl.ix (α := Dem) T62.und T62.size (ownSl (H.get (k := 0) rfl)) (by omega) (by omega))) ?_
   refine s_nil ⟨(H.pk [1]), ?_⟩
   refine t_l rfl ?_
   refine t_ost (k := 0) (i := j - 1) (l := l.set (Int.toNat j) (l.getD (Int.toNat (j - 1)) default)) (l' := (l.set (Int.toNat j) (l.getD (Int.toNat (j - 1)) default)).set (Int.toNat (j - 1)) (l.getD (Int.toNat j) default)) (val := .agg #[I ((l.getD (Int.toNat j) default).spring), I ((l.getD (Int.toNat j) default).town)]) (L' := [cOwn (α := Dem) 61 v_data ((l.set (Int.toNat j) (l.getD (Int.toNat (j - 1)) default)).set (Int.toNat (j - 1)) (l.getD (Int.toNat j) default)), cMem encDm b_cmp2020207 B_mem (zaa cmp2020200 cmp2020201 cmp2020202 cmp2020203 cmp2020204 cmp2020205 cmp2020206)]) H rfl Sz61 (by omega) (by omega) (l.getD (Int.toNat j) default) rfl rfl rfl rfl rfl ?_
   intro w76z H
   refine s_nil ⟨(H.pk [1]), ?_⟩
   refine t_nil ?_
   refine W.region rfl ?_
   refine s_val (x_mv (v := I j) rfl) ?_
   refine s_val (x_ari (a := j) (b := 1) (r := j - 1) rfl rfl rfl (by omega)) ?_
   refine s_val (x_as (v := I (j - 1)) rfl) ?_
   refine s_nil ?_
   exact ⟨m19z, lt20z, (l.set (Int.toNat j) (l.getD (Int.toNat (j - 1)) default)).set (Int.toNat (j - 1)) (l.getD (Int.toNat j) default), j - 1, B_mem, _, upds_of _ _ ⟨rfl, rfl, rfl, rfl, rfl, rfl, trivial⟩, M.e_inl hM hN22z, H⟩
  replace hM := M.e_f hM c55z
  refine W.exit ?_
  have hX77z := M.e_inr hM hN22z
  subst hX77z
  replace hM := hk15z
  try dsimp only at hM
  refine W.region rfl ?_
  refine s_val (x_mv (v := I i) rfl) ?_
  obtain ⟨sd78z, hM⟩ := M.e_grd hM
  simp only [Bool.and_eq_true, decide_eq_true_eq] at sd78z
  refine s_val (x_ari (a := i) (b := 1) (r := i + 1) rfl rfl rfl (by omega)) ?_
  refine s_val (x_as (v := I (i + 1)) rfl) ?_
  refine s_nil ?_
  exact ⟨m8z, lt9z, l, i + 1, B_mem, _, upds_of _ _ ⟨rfl, rfl, rfl, rfl, rfl, trivial⟩, M.e_inl hM hN11z, H⟩
 replace hM := M.e_f hM c12z
 simp only [decide_eq_true_eq, decide_eq_false_iff_not, beq_iff_eq, bne_iff_ne, beq_eq_false_iff_ne, bne_eq_false_iff_eq, ne_eq, Decidable.not_not] at c12z
 refine W.exit ?_
 have hX79z := M.e_inr hM hN11z
 subst hX79z
 replace hM := hk4z
 try dsimp only at hM
 have hr_ := M.e_pure hM
 exact ⟨_, resE_tmp0 rfl, ⟨l4, B_mem2, hr_, rfl, H⟩⟩

def zck (n : Int) (cmp2020200 : List Int) (cmp2020201 : List Span) (cmp2020202 : List Int) (cmp2020203 : List Town) (cmp2020204 : Int) (cmp2020205 : Int) (cmp2020206 : List Flood) (cmp202120 : List Int) (cmp202121 : List Span) (cmp202122 : List Int) (cmp202123 : List Town) (cmp202124 : Int) (cmp202125 : Int) (cmp202126 : List Flood) : ((List Dem) × Int × Int) -> M (((List Dem) × Int × Int) ⊕ ((List Dem) × Int × (List Dem))) := fun (l, a, b) =>
  bif decide (b <= n) then (
  M.bind (zcc l a b cmp2020200 cmp2020201 cmp2020202 cmp2020203 cmp2020204 cmp2020205 cmp2020206 cmp202120 cmp202121 cmp202122 cmp202123 cmp202124 cmp202125 cmp202126) fun l_data =>
  M.grd (decide ((-9223372036854775808 : Int) <= (b + 20)) && decide ((b + 20) <= (9223372036854775807 : Int))) <|
  M.pure (.inl (l_data, b, b + 20)))
  else (
  M.pure (.inr (l, a, l)))
def zcd (n : Int) (blockSize : Int) : Unit -> M (Unit ⊕ Unit) := fun (_ : Unit) =>
  bif decide ((2 * blockSize) <= n) then (
  M.grd (decide ((-9223372036854775808 : Int) <= (0 + blockSize)) && decide ((0 + blockSize) <= (9223372036854775807 : Int))) <|
  M.fail)
  else (
  M.pure (.inr ()))
def zb0 (n : Int) : Int -> M (Int ⊕ Unit) := fun blockSize =>
  bif decide (blockSize < n) then (
  M.grd (decide ((-9223372036854775808 : Int) <= (2 * blockSize)) && decide ((2 * blockSize) <= (9223372036854775807 : Int))) <|
  M.bind (M.iter (zcd n blockSize) ()) fun (_ : Unit) =>
  M.grd (decide ((-9223372036854775808 : Int) <= (0 + blockSize)) && decide ((0 + blockSize) <= (9223372036854775807 : Int))) <|
  bif decide ((0 + blockSize) < n) then (
  M.fail)
  else (
  M.grd (decide ((-9223372036854775808 : Int) <= (blockSize * 2)) && decide ((blockSize * 2) <= (9223372036854775807 : Int))) <|
  M.pure (.inl (blockSize * 2))))
  else (
  M.pure (.inr ()))
def zcs (data : List Dem) (n : Int) (cmp2020200 : List Int) (cmp2020201 : List Span) (cmp2020202 : List Int) (cmp2020203 : List Town) (cmp2020204 : Int) (cmp2020205 : Int) (cmp2020206 : List Flood) (cmp202120 : List Int) (cmp202121 : List Span) (cmp202122 : List Int) (cmp202123 : List Town) (cmp202124 : Int) (cmp202125 : Int) (cmp202126 : List Flood) : M (List Dem) :=
  M.bind (M.iter (zck n cmp2020200 cmp2020201 cmp2020202 cmp2020203 cmp2020204 cmp2020205 cmp2020206 cmp202120 cmp202121 cmp202122 cmp202123 cmp202124 cmp202125 cmp202126) (data, 0, 20)) fun (l2, a2, l3) =>
  M.bind (zcc l3 a2 n cmp2020200 cmp2020201 cmp2020202 cmp2020203 cmp2020204 cmp2020205 cmp2020206 cmp202120 cmp202121 cmp202122 cmp202123 cmp202124 cmp202125 cmp202126) fun l_data2 =>
  M.bind (M.iter (zb0 n) 20) fun (_ : Unit) =>
  M.pure l_data2
theorem zc8 {R : List Chunk} {v_data : Value} {b_cmp20 : Nat} {b_cmp2020 : Nat} {b_cmp202020 : Nat} {C_cmp2020200 : Cells} {v_cmp2020200 : Value} {C_cmp2020201 : Cells} {v_cmp2020201 : Value} {C_cmp2020202 : Cells} {v_cmp2020202 : Value} {C_cmp2020203 : Cells} {v_cmp2020203 : Value} {C_cmp2020206 : Cells} {v_cmp2020206 : Value} {b_cmp2020207 : Nat} {B_b_cmp2020207 : Base} {b_cmp2021 : Nat} {b_cmp20212 : Nat} {C_cmp202120 : Cells} {v_cmp202120 : Value} {C_cmp202121 : Cells} {v_cmp202121 : Value} {C_cmp202122 : Cells} {v_cmp202122 : Value} {C_cmp202123 : Cells} {v_cmp202123 : Value} {C_cmp202126 : Cells} {v_cmp202126 : Value} {b_cmp202127 : Nat} (data : List Dem) (n : Int) (cmp2020200 : List Int) (cmp2020201 : List Span) (cmp2020202 : List Int) (cmp2020203 : List Town) (cmp2020204 : Int) (cmp2020205 : Int) (cmp2020206 : List Flood) (cmp202120 : List Int) (cmp202121 : List Span) (cmp202122 : List Int) (cmp202123 : List Town) (cmp202124 : Int) (cmp202125 : Int) (cmp202126 : List Flood) (hC_cmp2020200 : Reads R C_cmp2020200) (hs_cmp2020200 : Sl C_cmp2020200 v_cmp2020200 cmp2020200) (hC_cmp2020201 : Reads R C_cmp2020201) (hs_cmp2020201 : Sl C_cmp2020201 v_cmp2020201 cmp2020201) (hC_cmp2020202 : Reads R C_cmp2020202) (hs_cmp2020202 : Sl C_cmp2020202 v_cmp2020202 cmp2020202) (hC_cmp2020203 : Reads R C_cmp2020203) (hs_cmp2020203 : Sl C_cmp2020203 v_cmp2020203 cmp2020203) (hC_cmp2020206 : Reads R C_cmp2020206) (hs_cmp2020206 : Sl C_cmp2020206 v_cmp2020206 cmp2020206) (h_b_cmp202020 : Has R (cBlk b_cmp202020 [v_cmp2020200, v_cmp2020201, v_cmp2020202, v_cmp2020203, I cmp2020204, I cmp2020205, v_cmp2020206, .map (some b_cmp2020207)] 111)) (h_b_cmp2020 : Has R (cBlk b_cmp2020 [.func (.func 81) #[.pointer (some ⟨b_cmp202020, 0, none⟩)] #[]] 134)) (hC_cmp202120 : Reads R C_cmp202120) (hs_cmp202120 : Sl C_cmp202120 v_cmp202120 cmp202120) (hC_cmp202121 : Reads R C_cmp202121) (hs_cmp202121 : Sl C_cmp202121 v_cmp202121 cmp202121) (hC_cmp202122 : Reads R C_cmp202122) (hs_cmp202122 : Sl C_cmp202122 v_cmp202122 cmp202122) (hC_cmp202123 : Reads R C_cmp202123) (hs_cmp202123 : Sl C_cmp202123 v_cmp202123 cmp202123) (hC_cmp202126 : Reads R C_cmp202126) (hs_cmp202126 : Sl C_cmp202126 v_cmp202126 cmp202126) (h_b_cmp20212 : Has R (cBlk b_cmp20212 [v_cmp202120, v_cmp202121, v_cmp202122, v_cmp202123, I cmp202124, I cmp202125, v_cmp202126, .map (some b_cmp202127)] 111)) (h_b_cmp2021 : Has R (cBlk b_cmp2021 [.pointer (some ⟨b_cmp20212, 0, none⟩)] 94)) (h_b_cmp20 : Has R (cBlk b_cmp20 [.func (.func 102) #[] #[.pointer (some ⟨b_cmp2020, 0, none⟩), .pointer (some ⟨b_cmp2021, 0, none⟩)]] 146)) {r : (List Dem)} (hM : (zcs data n cmp2020200 cmp2020201 cmp2020202 cmp2020203 cmp2020204 cmp2020205 cmp2020206 cmp202120 cmp202121 cmp202122 cmp202123 cmp202124 cmp202125 cmp202126).Ends r) (w : World) (H : St w w [cOwn (α := Dem) 61 v_data data, cMem encDm b_cmp2020207 B_b_cmp2020207 (zaa cmp2020200 cmp2020201 cmp2020202 cmp2020203 cmp2020204 cmp2020205 cmp2020206)] R) : Ret Tryz.prog 109 #[v_data, I n, .func (.func 104) #[] #[.pointer (some ⟨b_cmp20, 0, none⟩)]] w fun v w' => ∃ (y0 : List Dem) (Bs0 : Base), y0 = r /\ v = .tuple #[] /\ St w w' [cOwn (α := Dem) 61 v_data y0, cMem encDm b_cmp2020207 Bs0 (zaa cmp2020200 cmp2020201 cmp2020202 cmp2020203 cmp2020204 cmp2020205 cmp2020206)] R := by
 refine ret_of_W Tryz.func109 rfl rfl rfl ?_
 refine W.seq ?_
 refine W.region rfl ?_
 refine s_val (x_as (v := I 20) rfl) ?_
 refine s_nil ?_
 refine W.seq ?_
 refine W.region rfl ?_
 refine s_val (x_mv (v := I 20) rfl) ?_
 refine s_val (x_as (v := I 0) rfl) ?_
 refine s_val (x_as (v := I 20) rfl) ?_
 refine s_nil ?_
 refine W.seq ?_
 refine W.block ?_
 obtain ⟨ex1z, hi2z, hk3z⟩ := M.e_bind hM
 obtain ⟨m0_, hi2z⟩ := M.e_iter hi2z
 refine W.loop (fun m σ W => ∃ (l : List Dem) (a : Int) (b : Int) (B_mem : Base) (ρ : Env), σ = upds ρ [(0, v_data), (1, I n), (2, .func (.func 104) #[] #[.pointer (some ⟨b_cmp20, 0, none⟩)]), (6, I 20), (7, I a), (8, I b)] /\ M.iterN (zck n cmp2020200 cmp2020201 cmp2020202 cmp2020203 cmp2020204 cmp2020205 cmp2020206 cmp202120 cmp202121 cmp202122 cmp202123 cmp202124 cmp202125 cmp202126) m (l, a, b) = some ex1z /\ St w W [cOwn (α := Dem) 61 v_data l, cMem encDm b_cmp2020207 B_mem (zaa cmp2020200 cmp2020201 cmp2020202 cmp2020203 cmp2020204 cmp2020205 cmp2020206)] R) ?_ ?_
 ·exact ⟨_, data, 0, 20, B_b_cmp2020207, _, upds_of _ _ ⟨rfl, rfl, rfl, rfl, rfl, rfl, trivial⟩, hi2z, H⟩
 rintro m6z σ w4z ⟨l, a, b, B_mem, ρ, rfl, hI5z, H⟩
 obtain ⟨m7z, lt8z, x9z, hM, hN10z⟩ := M.e_iterN hI5z
 simp only [zck] at hM
 clear hI5z
 refine W.seq ?_
 refine W.seq ?_
 refine W.region rfl ?_
 refine s_val (x_mv (v := I b) rfl) ?_
 refine s_val (x_mv (v := I n) rfl) ?_
 refine s_val (x_cmp (kd := .i64) (a := b) (b := n) (r := decide (b <= n)) rfl rfl rfl) ?_
 refine s_nil ?_
 refine W.cond (decide (b <= n)) rfl (fun c11z => ?_) (fun c11z => ?_)
 ·replace hM := M.e_t hM c11z
  simp only [decide_eq_true_eq, decide_eq_false_iff_not, beq_iff_eq, bne_iff_ne, beq_eq_false_iff_ne, bne_eq_false_iff_eq, ne_eq, Decidable.not_not] at c11z
  refine W.skip ?_
  refine W.block ?_
  refine W.seq ?_
  refine W.region rfl ?_
  refine s_val (x_mv (v := v_data) rfl) ?_
  refine s_val (x_mv (v := I a) rfl) ?_
  refine s_val (x_mv (v := I b) rfl) ?_
  refine s_val (x_mv (v := .func (.func 104) #[] #[.pointer (some ⟨b_cmp20, 0, none⟩)]) rfl) ?_
  obtain ⟨r13z, hx12z, hM⟩ := M.e_bind hM
  refine s_call cf113 [v_data, I a, I b, .func (.func 104) #[] #[.pointer (some ⟨b_cmp20, 0, none⟩)]] rfl (zcu l a b cmp2020200 cmp2020201 cmp2020202 cmp2020203 cmp2020204 cmp2020205 cmp2020206 cmp202120 cmp202121 cmp202122 cmp202123 cmp202124 cmp202125 cmp202126 (hC_cmp2020200.app _) hs_cmp2020200 (hC_cmp2020201.app _) hs_cmp2020201 (hC_cmp2020202.app _) hs_cmp2020202 (hC_cmp2020203.app _) hs_cmp2020203 (hC_cmp2020206.app _) hs_cmp2020206 (h_b_cmp202020.app _) (h_b_cmp2020.app _) (hC_cmp202120.app _) hs_cmp202120 (hC_cmp202121.app _) hs_cmp202121 (hC_cmp202122.app _) hs_cmp202122 (hC_cmp202123.app _) hs_cmp202123 (hC_cmp202126.app _) hs_cmp202126 (h_b_cmp20212.app _) (h_b_cmp2021.app _) (h_b_cmp20.app _) hx12z _ (H.gt 0)) ?_
  rintro vq w14z ⟨l_data, Bs0_1, hr15z, hvq, H2_⟩
  subst hr15z
  subst vq
  try dsimp only at hM
  replace H := H.bk H2_
  clear H2_
  refine s_nil ?_
  refine W.seq ?_
  refine W.region rfl ?_
  refine s_val (x_mv (v := I b) rfl) ?_
  refine s_val (x_as (v := I b) rfl) ?_
  refine s_nil ?_
  refine W.region rfl ?_
  refine s_val (x_mv (v := I b) rfl) ?_
  refine s_val (x_mv (v := I 20) rfl) ?_
  obtain ⟨sd16z, hM⟩ := M.e_grd hM
  simp only [Bool.and_eq_true, decide_eq_true_eq] at sd16z
  refine s_val (x_ari (a := b) (b := 20) (r := b + 20) rfl rfl rfl (by omega)) ?_
  refine s_val (x_as (v := I (b + 20)) rfl) ?_
  refine s_nil ?_
  exact ⟨m7z, lt8z, l_data, b, b + 20, Bs0_1, _, upds_of _ _ ⟨rfl, rfl, rfl, rfl, rfl, rfl, trivial⟩, M.e_inl hM hN10z, H⟩
 replace hM := M.e_f hM c11z
 simp only [decide_eq_true_eq, decide_eq_false_iff_not, beq_iff_eq, bne_iff_ne, beq_eq_false_iff_ne, bne_eq_false_iff_eq, ne_eq, Decidable.not_not] at c11z
 refine W.exit ?_
 have hX17z := M.e_inr hM hN10z
 subst hX17z
 replace hM := hk3z
 try dsimp only at hM
 refine W.seq ?_
 refine W.region rfl ?_
 refine s_val (x_mv (v := v_data) rfl) ?_
 refine s_val (x_mv (v := I a) rfl) ?_
 refine s_val (x_mv (v := I n) rfl) ?_
 refine s_val (x_mv (v := .func (.func 104) #[] #[.pointer (some ⟨b_cmp20, 0, none⟩)]) rfl) ?_
 obtain ⟨r19z, hx18z, hM⟩ := M.e_bind hM
 refine s_call cf113 [v_data, I a, I n, .func (.func 104) #[] #[.pointer (some ⟨b_cmp20, 0, none⟩)]] rfl (zcu l a n cmp2020200 cmp2020201 cmp2020202 cmp2020203 cmp2020204 cmp2020205 cmp2020206 cmp202120 cmp202121 cmp202122 cmp202123 cmp202124 cmp202125 cmp202126 (hC_cmp2020200.app _) hs_cmp2020200 (hC_cmp2020201.app _) hs_cmp2020201 (hC_cmp2020202.app _) hs_cmp2020202 (hC_cmp2020203.app _) hs_cmp2020203 (hC_cmp2020206.app _) hs_cmp2020206 (h_b_cmp202020.app _) (h_b_cmp2020.app _) (hC_cmp202120.app _) hs_cmp202120 (hC_cmp202121.app _) hs_cmp202121 (hC_cmp202122.app _) hs_cmp202122 (hC_cmp202123.app _) hs_cmp202123 (hC_cmp202126.app _) hs_cmp202126 (h_b_cmp20212.app _) (h_b_cmp2021.app _) (h_b_cmp20.app _) hx18z _ (H.gt 0)) ?_
 rintro vq w20z ⟨l_data2, Bs0_2, hr21z, hvq, H2_⟩
 subst hr21z
 subst vq
 try dsimp only at hM
 replace H := H.bk H2_
 clear H2_
 refine s_nil ?_
 refine W.block ?_
 obtain ⟨ex22z, hi23z, hk24z⟩ := M.e_bind hM
 obtain ⟨m0_, hi23z⟩ := M.e_iter hi23z
 refine W.loop (fun m σ W => ∃ (blockSize : Int) (ρ : Env), σ = upds ρ [(0, v_data), (1, I n), (2, .func (.func 104) #[] #[.pointer (some ⟨b_cmp20, 0, none⟩)]), (6, I blockSize)] /\ M.iterN (zb0 n) m blockSize = some ex22z /\ St w W [cOwn (α := Dem) 61 v_data l_data2, cMem encDm b_cmp2020207 Bs0_2 (zaa cmp2020200 cmp2020201 cmp2020202 cmp2020203 cmp2020204 cmp2020205 cmp2020206)] R) ?_ ?_
 ·exact ⟨_, 20, _, upds_of _ _ ⟨rfl, rfl, rfl, rfl, trivial⟩, hi23z, H⟩
 rintro m27z σ w25z ⟨blockSize, ρ, rfl, hI26z, H⟩
 obtain ⟨m28z, lt29z, x30z, hM, hN31z⟩ := M.e_iterN hI26z
 simp only [zb0] at hM
 clear hI26z
 refine W.seq ?_
 refine W.seq ?_
 refine W.region rfl ?_
 refine s_val (x_mv (v := I blockSize) rfl) ?_
 refine s_val (x_mv (v := I n) rfl) ?_
 refine s_val (x_cmp (kd := .i64) (a := blockSize) (b := n) (r := decide (blockSize < n)) rfl rfl rfl) ?_
 refine s_nil ?_
 refine W.cond (decide (blockSize < n)) rfl (fun c32z => ?_) (fun c32z => ?_)
 ·replace hM := M.e_t hM c32z
  simp only [decide_eq_true_eq, decide_eq_false_iff_not, beq_iff_eq, bne_iff_ne, beq_eq_false_iff_ne, bne_eq_false_iff_eq, ne_eq, Decidable.not_not] at c32z
  refine W.skip ?_
  refine W.block ?_
  refine W.seq ?_
  refine W.region rfl ?_
  refine s_val (x_mv (v := I blockSize) rfl) ?_
  obtain ⟨sd33z, hM⟩ := M.e_grd hM
  simp only [Bool.and_eq_true, decide_eq_true_eq] at sd33z
  refine s_val (x_ari (a := 2) (b := blockSize) (r := 2 * blockSize) rfl rfl rfl (by omega)) ?_
  refine s_val (x_as (v := I 0) rfl) ?_
  refine s_val (x_as (v := I (2 * blockSize)) rfl) ?_
  refine s_nil ?_
  refine W.seq ?_
  refine W.block ?_
  obtain ⟨ex34z, hi35z, hk36z⟩ := M.e_bind hM
  obtain ⟨m0_, hi35z⟩ := M.e_iter hi35z
  refine W.loop (fun m σ W => ∃ (ρ : Env), σ = upds ρ [(0, v_data), (1, I n), (2, .func (.func 104) #[] #[.pointer (some ⟨b_cmp20, 0, none⟩)]), (6, I blockSize), (7, I 0), (8, I (2 * blockSize))] /\ M.iterN (zcd n blockSize) m () = some ex34z /\ St w W [cOwn (α := Dem) 61 v_data l_data2, cMem encDm b_cmp2020207 Bs0_2 (zaa cmp2020200 cmp2020201 cmp2020202 cmp2020203 cmp2020204 cmp2020205 cmp2020206)] R) ?_ ?_
  ·exact ⟨_, _, upds_of _ _ ⟨rfl, rfl, rfl, rfl, rfl, rfl, trivial⟩, hi35z, H⟩
  rintro m39z σ w37z ⟨ρ, rfl, hI38z, H⟩
  obtain ⟨m40z, lt41z, x42z, hM, hN43z⟩ := M.e_iterN hI38z
  simp only [zcd] at hM
  clear hI38z
  refine W.seq ?_
  refine W.seq ?_
  refine W.region rfl ?_
  refine s_val (x_mv (v := I (2 * blockSize)) rfl) ?_
  refine s_val (x_mv (v := I n) rfl) ?_
  refine s_val (x_cmp (kd := .i64) (a := 2 * blockSize) (b := n) (r := decide ((2 * blockSize) <= n)) rfl rfl rfl) ?_
  refine s_nil ?_
  refine W.cond (decide ((2 * blockSize) <= n)) rfl (fun c44z => ?_) (fun c44z => ?_)
  ·replace hM := M.e_t hM c44z
   simp only [decide_eq_true_eq, decide_eq_false_iff_not, beq_iff_eq, bne_iff_ne, beq_eq_false_iff_ne, bne_eq_false_iff_eq, ne_eq, Decidable.not_not] at c44z
   refine W.skip ?_
   refine W.block ?_
   refine W.seq ?_
   refine W.region rfl ?_
   refine s_val (x_mv (v := v_data) rfl) ?_
   refine s_val (x_mv (v := I 0) rfl) ?_
   refine s_val (x_mv (v := I 0) rfl) ?_
   refine s_val (x_mv (v := I blockSize) rfl) ?_
   obtain ⟨sd45z, hM⟩ := M.e_grd hM
   simp only [Bool.and_eq_true, decide_eq_true_eq] at sd45z
   refine s_val (x_ari (a := 0) (b := blockSize) (r := 0 + blockSize) rfl rfl rfl (by omega)) ?_
   refine s_val (x_mv (v := I (2 * blockSize)) rfl) ?_
   refine s_val (x_mv (v := .func (.func 104) #[] #[.pointer (some ⟨b_cmp20, 0, none⟩)]) rfl) ?_
   exact (M.e_fail hM).elim
  replace hM := M.e_f hM c44z
  simp only [decide_eq_true_eq, decide_eq_false_iff_not, beq_iff_eq, bne_iff_ne, beq_eq_false_iff_ne, bne_eq_false_iff_eq, ne_eq, Decidable.not_not] at c44z
  refine W.exit ?_
  have hX46z := M.e_inr hM hN43z
  subst hX46z
  replace hM := hk36z
  try dsimp only at hM
  refine W.seq ?_
  refine W.seq ?_
  refine W.region rfl ?_
  refine s_val (x_mv (v := I 0) rfl) ?_
  refine s_val (x_mv (v := I blockSize) rfl) ?_
  obtain ⟨sd47z, hM⟩ := M.e_grd hM
  simp only [Bool.and_eq_true, decide_eq_true_eq] at sd47z
  refine s_val (x_ari (a := 0) (b := blockSize) (r := 0 + blockSize) rfl rfl rfl (by omega)) ?_
  refine s_val (x_as (v := I (0 + blockSize)) rfl) ?_
  refine s_nil ?_
  refine W.seq ?_
  refine W.region rfl ?_
  refine s_val (x_mv (v := I (0 + blockSize)) rfl) ?_
  refine s_val (x_mv (v := I n) rfl) ?_
  refine s_val (x_cmp (kd := .i64) (a := 0 + blockSize) (b := n) (r := decide ((0 + blockSize) < n)) rfl rfl rfl) ?_
  refine s_nil ?_
  refine W.cond (decide ((0 + blockSize) < n)) rfl (fun c48z => ?_) (fun c48z => ?_)
  ·replace hM := M.e_t hM c48z
   simp only [decide_eq_true_eq, decide_eq_false_iff_not, beq_iff_eq, bne_iff_ne, beq_eq_false_iff_ne, bne_eq_false_iff_eq, ne_eq, Decidable.not_not] at c48z
   refine W.region rfl ?_
   refine s_val (x_mv (v := v_data) rfl) ?_
   refine s_val (x_mv (v := I 0) rfl) ?_
   refine s_val (x_mv (v := I (0 + blockSize)) rfl) ?_
   refine s_val (x_mv (v := I n) rfl) ?_
   refine s_val (x_mv (v := .func (.func 104) #[] #[.pointer (some ⟨b_cmp20, 0, none⟩)]) rfl) ?_
   exact (M.e_fail hM).elim
  replace hM := M.e_f hM c48z
  simp only [decide_eq_true_eq, decide_eq_false_iff_not, beq_iff_eq, bne_iff_ne, beq_eq_false_iff_ne, bne_eq_false_iff_eq, ne_eq, Decidable.not_not] at c48z
  refine W.skip ?_
  refine W.region rfl ?_
  refine s_val (x_mv (v := I blockSize) rfl) ?_
  obtain ⟨sd49z, hM⟩ := M.e_grd hM
  simp only [Bool.and_eq_true, decide_eq_true_eq] at sd49z
  refine s_val (x_ari (a := blockSize) (b := 2) (r := blockSize * 2) rfl rfl rfl (by omega)) ?_
  refine s_val (x_as (v := I (blockSize * 2)) rfl) ?_
  refine s_nil ?_
  exact ⟨m28z, lt29z, blockSize * 2, _, upds_of _ _ ⟨rfl, rfl, rfl, rfl, trivial⟩, M.e_inl hM hN31z, H⟩
 replace hM := M.e_f hM c32z
 simp only [decide_eq_true_eq, decide_eq_false_iff_not, beq_iff_eq, bne_iff_ne, beq_eq_false_iff_ne, bne_eq_false_iff_eq, ne_eq, Decidable.not_not] at c32z
 refine W.exit ?_
 have hX50z := M.e_inr hM hN31z
 subst hX50z
 replace hM := hk24z
 try dsimp only at hM
 have hr_ := M.e_pure hM
 exact ⟨_, resE_tmp0 rfl, ⟨l_data2, Bs0_2, hr_, rfl, H⟩⟩

def zcL (x : List Dem) (cmp2020200 : List Int) (cmp2020201 : List Span) (cmp2020202 : List Int) (cmp2020203 : List Town) (cmp2020204 : Int) (cmp2020205 : Int) (cmp2020206 : List Flood) (cmp202120 : List Int) (cmp202121 : List Span) (cmp202122 : List Int) (cmp202123 : List Town) (cmp202124 : Int) (cmp202125 : Int) (cmp202126 : List Flood) : M (List Dem) :=
  M.bind (zcs x (x.length : Int) cmp2020200 cmp2020201 cmp2020202 cmp2020203 cmp2020204 cmp2020205 cmp2020206 cmp202120 cmp202121 cmp202122 cmp202123 cmp202124 cmp202125 cmp202126) fun l_data =>
  M.pure l_data
theorem zc6 {R : List Chunk} {v_x : Value} {b_cmp20 : Nat} {b_cmp2020 : Nat} {b_cmp202020 : Nat} {C_cmp2020200 : Cells} {v_cmp2020200 : Value} {C_cmp2020201 : Cells} {v_cmp2020201 : Value} {C_cmp2020202 : Cells} {v_cmp2020202 : Value} {C_cmp2020203 : Cells} {v_cmp2020203 : Value} {C_cmp2020206 : Cells} {v_cmp2020206 : Value} {b_cmp2020207 : Nat} {B_b_cmp2020207 : Base} {b_cmp2021 : Nat} {b_cmp20212 : Nat} {C_cmp202120 : Cells} {v_cmp202120 : Value} {C_cmp202121 : Cells} {v_cmp202121 : Value} {C_cmp202122 : Cells} {v_cmp202122 : Value} {C_cmp202123 : Cells} {v_cmp202123 : Value} {C_cmp202126 : Cells} {v_cmp202126 : Value} {b_cmp202127 : Nat} (x : List Dem) (cmp2020200 : List Int) (cmp2020201 : List Span) (cmp2020202 : List Int) (cmp2020203 : List Town) (cmp2020204 : Int) (cmp2020205 : Int) (cmp2020206 : List Flood) (cmp202120 : List Int) (cmp202121 : List Span) (cmp202122 : List Int) (cmp202123 : List Town) (cmp202124 : Int) (cmp202125 : Int) (cmp202126 : List Flood) (hC_cmp2020200 : Reads R C_cmp2020200) (hs_cmp2020200 : Sl C_cmp2020200 v_cmp2020200 cmp2020200) (hC_cmp2020201 : Reads R C_cmp2020201) (hs_cmp2020201 : Sl C_cmp2020201 v_cmp2020201 cmp2020201) (hC_cmp2020202 : Reads R C_cmp2020202) (hs_cmp2020202 : Sl C_cmp2020202 v_cmp2020202 cmp2020202) (hC_cmp2020203 : Reads R C_cmp2020203) (hs_cmp2020203 : Sl C_cmp2020203 v_cmp2020203 cmp2020203) (hC_cmp2020206 : Reads R C_cmp2020206) (hs_cmp2020206 : Sl C_cmp2020206 v_cmp2020206 cmp2020206) (h_b_cmp202020 : Has R (cBlk b_cmp202020 [v_cmp2020200, v_cmp2020201, v_cmp2020202, v_cmp2020203, I cmp2020204, I cmp2020205, v_cmp2020206, .map (some b_cmp2020207)] 111)) (h_b_cmp2020 : Has R (cBlk b_cmp2020 [.func (.func 81) #[.pointer (some ⟨b_cmp202020, 0, none⟩)] #[]] 134)) (hC_cmp202120 : Reads R C_cmp202120) (hs_cmp202120 : Sl C_cmp202120 v_cmp202120 cmp202120) (hC_cmp202121 : Reads R C_cmp202121) (hs_cmp202121 : Sl C_cmp202121 v_cmp202121 cmp202121) (hC_cmp202122 : Reads R C_cmp202122) (hs_cmp202122 : Sl C_cmp202122 v_cmp202122 cmp202122) (hC_cmp202123 : Reads R C_cmp202123) (hs_cmp202123 : Sl C_cmp202123 v_cmp202123 cmp202123) (hC_cmp202126 : Reads R C_cmp202126) (hs_cmp202126 : Sl C_cmp202126 v_cmp202126 cmp202126) (h_b_cmp20212 : Has R (cBlk b_cmp20212 [v_cmp202120, v_cmp202121, v_cmp202122, v_cmp202123, I cmp202124, I cmp202125, v_cmp202126, .map (some b_cmp202127)] 111)) (h_b_cmp2021 : Has R (cBlk b_cmp2021 [.pointer (some ⟨b_cmp20212, 0, none⟩)] 94)) (h_b_cmp20 : Has R (cBlk b_cmp20 [.func (.func 102) #[] #[.pointer (some ⟨b_cmp2020, 0, none⟩), .pointer (some ⟨b_cmp2021, 0, none⟩)]] 146)) {r : (List Dem)} (hM : (zcL x cmp2020200 cmp2020201 cmp2020202 cmp2020203 cmp2020204 cmp2020205 cmp2020206 cmp202120 cmp202121 cmp202122 cmp202123 cmp202124 cmp202125 cmp202126).Ends r) (w : World) (H : St w w [cOwn (α := Dem) 61 v_x x, cMem encDm b_cmp2020207 B_b_cmp2020207 (zaa cmp2020200 cmp2020201 cmp2020202 cmp2020203 cmp2020204 cmp2020205 cmp2020206)] R) : Ret Tryz.prog 103 #[v_x, .func (.func 104) #[] #[.pointer (some ⟨b_cmp20, 0, none⟩)]] w fun v w' => ∃ (y0 : List Dem) (Bs0 : Base), y0 = r /\ v = .tuple #[] /\ St w w' [cOwn (α := Dem) 61 v_x y0, cMem encDm b_cmp2020207 Bs0 (zaa cmp2020200 cmp2020201 cmp2020202 cmp2020203 cmp2020204 cmp2020205 cmp2020206)] R := by
 refine ret_of_W Tryz.func103 rfl rfl rfl ?_
 refine W.region rfl ?_
 refine s_val (x_mv (v := v_x) rfl) ?_
 refine s_val (x_mv (v := v_x) rfl) ?_
 have hl1z := ((ownSl (H.get (k := 0) rfl))).len_le
 refine s_val (x_lenS T62.und rfl (ownSl (H.get (k := 0) rfl))) ?_
 refine s_val (x_mv (v := .func (.func 104) #[] #[.pointer (some ⟨b_cmp20, 0, none⟩)]) rfl) ?_
 obtain ⟨r3z, hx2z, hM⟩ := M.e_bind hM
 refine s_call cf109 [v_x, I (x.length : Int), .func (.func 104) #[] #[.pointer (some ⟨b_cmp20, 0, none⟩)]] rfl (zc8 x (x.length : Int) cmp2020200 cmp2020201 cmp2020202 cmp2020203 cmp2020204 cmp2020205 cmp2020206 cmp202120 cmp202121 cmp202122 cmp202123 cmp202124 cmp202125 cmp202126 (hC_cmp2020200.app _) hs_cmp2020200 (hC_cmp2020201.app _) hs_cmp2020201 (hC_cmp2020202.app _) hs_cmp2020202 (hC_cmp2020203.app _) hs_cmp2020203 (hC_cmp2020206.app _) hs_cmp2020206 (h_b_cmp202020.app _) (h_b_cmp2020.app _) (hC_cmp202120.app _) hs_cmp202120 (hC_cmp202121.app _) hs_cmp202121 (hC_cmp202122.app _) hs_cmp202122 (hC_cmp202123.app _) hs_cmp202123 (hC_cmp202126.app _) hs_cmp202126 (h_b_cmp20212.app _) (h_b_cmp2021.app _) (h_b_cmp20.app _) hx2z _ (H.gt 0)) ?_
 rintro vq w4z ⟨l_data, Bs0_1, hr5z, hvq, H2_⟩
 subst hr5z
 subst vq
 try dsimp only at hM
 replace H := H.bk H2_
 clear H2_
 refine s_nil ?_
 have hr_ := M.e_pure hM
 exact ⟨_, resE_tmp0 rfl, ⟨l_data, Bs0_1, hr_, rfl, H⟩⟩

def zb4 (ar : List Bool) (r4 : List Int) : Nat -> M (Nat ⊕ (Unit ⊕ Unit)) := fun s =>
  bif decide ((s : Int) < (r4.length : Int)) then (
  M.grd (decide ((s : Int) < (r4.length : Int))) <|
  M.grd (decide ((0 : Int) <= (r4.getD s 0)) && decide ((r4.getD s 0) < (12 : Int))) <|
  bif ar.getD (Int.toNat (r4.getD s 0)) false then (
  M.pure (.inr (.inl ())))
  else (
  M.pure (.inl (s + 1))))
  else (
  M.pure (.inr (.inr ())))
def zcl (w__River_Down : List Int) (w__River_Travel : List Span) (w__River_Springs : List Int) (w__River_Towns : List Town) (w__River_Delay_Lo : Int) (w__River_Delay_Hi : Int) (w__River_Floods : List Flood) (l_x : List Dem) : (Nat × (List Bool) × (List Int) × (List Dem)) -> M ((Nat × (List Bool) × (List Int) × (List Dem)) ⊕ ((List Int) × (List Dem) × (List Int) × (List Dem) × (List Bool))) := fun (s2, ar, l, l2) =>
  bif decide ((s2 : Int) < (l_x.length : Int)) then (
  M.grd (decide ((s2 : Int) < (l_x.length : Int))) <|
  M.bind (zaa w__River_Down w__River_Travel w__River_Springs w__River_Towns w__River_Delay_Lo w__River_Delay_Hi w__River_Floods (l_x.getD s2 default)) fun r4 =>
  M.bind (M.iter (zb4 ar r4) 0) fun x_ => match x_ with
  | (.inl (_ : Unit)) => (
  M.pure (.inl (s2 + 1, ar, l, l2)))
  | (.inr (_ : Unit)) => (
  M.grd (decide ((0 : Int) <= ((r4.length : Int) - 1)) && decide (((r4.length : Int) - 1) < (r4.length : Int))) <|
  M.grd (decide ((0 : Int) <= (r4.getD (Int.toNat ((r4.length : Int) - 1)) 0)) && decide ((r4.getD (Int.toNat ((r4.length : Int) - 1)) 0) < (12 : Int))) <|
  M.grd (decide ((l.length + ([(r4.getD (Int.toNat ((r4.length : Int) - 1)) 0 : Int)]).length) * 8 <= 140737488355328)) <|
  M.grd (decide ((l2.length + ([(l_x.getD s2 default)]).length) * 16 <= 140737488355328)) <|
  M.pure (.inl (s2 + 1, ar.set (Int.toNat (r4.getD (Int.toNat ((r4.length : Int) - 1)) 0)) true, l ++ ([(r4.getD (Int.toNat ((r4.length : Int) - 1)) 0 : Int)]), l2 ++ ([(l_x.getD s2 default)])))))
  else (
  M.pure (.inr (l, l2, l, l2, ar)))
def zcv (w__River_Down : List Int) (w__River_Travel : List Span) (w__River_Springs : List Int) (w__River_Towns : List Town) (w__River_Delay_Lo : Int) (w__River_Delay_Hi : Int) (w__River_Floods : List Flood) : M ((List Int) × (List Dem) × Bool) :=
  M.bind (zbT w__River_Down w__River_Travel w__River_Springs w__River_Towns w__River_Delay_Lo w__River_Delay_Hi w__River_Floods) fun r2 =>
  M.bind (zcw r2 w__River_Down w__River_Travel w__River_Springs w__River_Towns w__River_Delay_Lo w__River_Delay_Hi w__River_Floods) fun r3 =>
  bif !r3 then (
  M.pure (([]), ([]), false))
  else (
  M.bind (zcL r2 w__River_Down w__River_Travel w__River_Springs w__River_Towns w__River_Delay_Lo w__River_Delay_Hi w__River_Floods w__River_Down w__River_Travel w__River_Springs w__River_Towns w__River_Delay_Lo w__River_Delay_Hi w__River_Floods) fun l_x =>
  M.bind (M.iter (zcl w__River_Down w__River_Travel w__River_Springs w__River_Towns w__River_Delay_Lo w__River_Delay_Hi w__River_Floods l_x) (0, List.replicate 12 false, [], [])) fun (l3, l4, l5, l6, ar2) =>
  M.grd (decide (l5.length <= 1000000)) <|
  M.pure ((isort l5), l6, true))
theorem zdg {R : List Chunk} {b_w_ : Nat} {C_w__River_Down : Cells} {v_w__River_Down : Value} {C_w__River_Travel : Cells} {v_w__River_Travel : Value} {C_w__River_Springs : Cells} {v_w__River_Springs : Value} {C_w__River_Towns : Cells} {v_w__River_Towns : Value} {C_w__River_Floods : Cells} {v_w__River_Floods : Value} {b_w__found : Nat} {B_b_w__found : Base} (w__River_Down : List Int) (w__River_Travel : List Span) (w__River_Springs : List Int) (w__River_Towns : List Town) (w__River_Delay_Lo : Int) (w__River_Delay_Hi : Int) (w__River_Floods : List Flood) (hC_w__River_Down : Reads R C_w__River_Down) (hs_w__River_Down : Sl C_w__River_Down v_w__River_Down w__River_Down) (hC_w__River_Travel : Reads R C_w__River_Travel) (hs_w__River_Travel : Sl C_w__River_Travel v_w__River_Travel w__River_Travel) (hC_w__River_Springs : Reads R C_w__River_Springs) (hs_w__River_Springs : Sl C_w__River_Springs v_w__River_Springs w__River_Springs) (hC_w__River_Towns : Reads R C_w__River_Towns) (hs_w__River_Towns : Sl C_w__River_Towns v_w__River_Towns w__River_Towns) (hC_w__River_Floods : Reads R C_w__River_Floods) (hs_w__River_Floods : Sl C_w__River_Floods v_w__River_Floods w__River_Floods) (h_b_w_ : Has R (cBlk b_w_ [v_w__River_Down, v_w__River_Travel, v_w__River_Springs, v_w__River_Towns, I w__River_Delay_Lo, I w__River_Delay_Hi, v_w__River_Floods, .map (some b_w__found)] 111)) {r : ((List Int) × (List Dem) × Bool)} (hM : (zcv w__River_Down w__River_Travel w__River_Springs w__River_Towns w__River_Delay_Lo w__River_Delay_Hi w__River_Floods).Ends r) (w : World) (H : St w w [cMem encDm b_w__found B_b_w__found (zaa w__River_Down w__River_Travel w__River_Springs w__River_Towns w__River_Delay_Lo w__River_Delay_Hi w__River_Floods)] R) : Ret Tryz.prog 89 #[.pointer (some ⟨b_w_, 0, none⟩)] w fun v w' => ∃ (y0 : List Int) (y1 : List Dem) (y2 : Bool) (u0 : Value) (u1 : Value) (Bs2 : Base), (y0, y1, y2) = r /\ v = .tuple #[u0, u1, B y2] /\ St w w' [cOwn (α := Int) 3 u0 y0, cOwn (α := Dem) 61 u1 y1, cMem encDm b_w__found Bs2 (zaa w__River_Down w__River_Travel w__River_Springs w__River_Towns w__River_Delay_Lo w__River_Delay_Hi w__River_Floods)] R := by
 refine ret_of_W Tryz.func89 rfl rfl rfl ?_
 refine W.seq ?_
 refine W.region rfl ?_
 refine t_box (v := .pointer (some ⟨b_w_, 0, none⟩)) (cs := [.pointer (some ⟨b_w_, 0, none⟩)]) H rfl rfl ?_
 intro b_1 w1z H
 refine s_val (x_as (v := .slice none 0 0) rfl) ?_
 refine s_val (x_as (v := .slice none 0 0) rfl) ?_
 refine s_val (x_as (v := B false) rfl) ?_
 refine s_nil ?_
 refine W.scope ?_
 refine W.seq ?_
 refine W.region rfl ?_
 refine s_val (x_ld (p := .pointer (some ⟨b_1, 0, none⟩)) (v := .pointer (some ⟨b_w_, 0, none⟩)) rfl (ldb_sc Sc94 (H.blk (k := 0) rfl) rfl)) ?_
 obtain ⟨r3z, hx2z, hM⟩ := M.e_bind hM
 refine s_call cf77 [.pointer (some ⟨b_w_, 0, none⟩)] rfl (zcH w__River_Down w__River_Travel w__River_Springs w__River_Towns w__River_Delay_Lo w__River_Delay_Hi w__River_Floods (hC_w__River_Down.app _) hs_w__River_Down (hC_w__River_Travel.app _) hs_w__River_Travel (hC_w__River_Springs.app _) hs_w__River_Springs (hC_w__River_Towns.app _) hs_w__River_Towns (hC_w__River_Floods.app _) hs_w__River_Floods (h_b_w_.app _) hx2z _ (H.gt 2)) ?_
 rintro vq w4z ⟨r2, u0_2, hr5z, hvq, H2_⟩
 subst hr5z
 subst vq
 try dsimp only at hM
 replace H := H.bk H2_
 clear H2_
 refine s_val (x_as (v := u0_2) rfl) ?_
 refine s_nil ?_
 refine W.seq ?_
 refine W.region rfl ?_
 refine s_val (x_ld (p := .pointer (some ⟨b_1, 0, none⟩)) (v := .pointer (some ⟨b_w_, 0, none⟩)) rfl (ldb_sc Sc94 (H.blk (k := 1) rfl) rfl)) ?_
 refine s_val (x_mf (fs := [.pointer (some ⟨b_w_, 0, none⟩)]) (cs := []) rfl rfl) ?_
 refine t_alloc (cs := [.nilFunc]) H Al134 rfl ?_
 intro b_3 w6z H
 refine t_sw 0 0 [.func (.func 81) #[.pointer (some ⟨b_w_, 0, none⟩)] #[]] (.func (.func 81) #[.pointer (some ⟨b_w_, 0, none⟩)] #[]) H rfl rfl Sz134 rfl rfl rfl rfl ?_
 intro w7z H
 refine s_nil ?_
 refine W.seq ?_
 refine W.seq ?_
 refine W.region rfl ?_
 refine s_val (x_mv (v := u0_2) rfl) ?_
 refine s_val (x_mf (fs := []) (cs := [.pointer (some ⟨b_3, 0, none⟩)]) rfl rfl) ?_
 obtain ⟨r9z, hx8z, hM⟩ := M.e_bind hM
 refine s_call cf90 [u0_2, .func (.func 101) #[] #[.pointer (some ⟨b_3, 0, none⟩)]] rfl (zdb r2 w__River_Down w__River_Travel w__River_Springs w__River_Towns w__River_Delay_Lo w__River_Delay_Hi w__River_Floods (Reads.of (k := 1) rfl ownLe) (ownSl (H.get (k := 1) rfl)) (hC_w__River_Down.app _) hs_w__River_Down (hC_w__River_Travel.app _) hs_w__River_Travel (hC_w__River_Springs.app _) hs_w__River_Springs (hC_w__River_Towns.app _) hs_w__River_Towns (hC_w__River_Floods.app _) hs_w__River_Floods (h_b_w_.app _) (Has.here (k := 0) rfl) hx8z _ ((H.pk [3, 0, 1, 2]).gt 3)) ?_
 rintro vq w10z ⟨r3, Bs0_4, hr11z, hvq, H2_⟩
 subst hr11z
 subst vq
 try dsimp only at hM
 replace H := H.pk [3, 0, 1, 2] |>.bk H2_
 clear H2_
 refine s_val (x_not (b := r3) rfl) ?_
 refine s_nil ?_
 refine W.cond (!r3) rfl (fun c12z => ?_) (fun c12z => ?_)
 ·replace hM := M.e_t hM c12z
  refine W.seq ?_
  refine W.region rfl ?_
  refine s_val (x_as (v := .slice none 0 0) rfl) ?_
  refine s_val (x_as (v := .slice none 0 0) rfl) ?_
  refine s_val (x_as (v := B false) rfl) ?_
  refine s_nil ?_
  replace H := H.pk [0]
  refine W.ret ?_
  have hr_ := M.e_pure hM
  replace H := H.nilOwn (α := Int) 3
  replace H := H.nilOwn (α := Dem) 61
  exact ⟨_, resE_tmp3 rfl, ⟨([]), ([]), false, (.slice none 0 0), (.slice none 0 0), Bs0_4, hr_, rfl, (H.pk [1, 0, 2])⟩⟩
 replace hM := M.e_f hM c12z
 refine W.skip ?_
 refine W.seq ?_
 refine W.region rfl ?_
 refine s_val (x_mf (fs := []) (cs := [.pointer (some ⟨b_3, 0, none⟩), .pointer (some ⟨b_1, 0, none⟩)]) rfl rfl) ?_
 refine t_alloc (cs := [.nilFunc]) H Al146 rfl ?_
 intro b_5 w13z H
 refine t_sw 0 0 [.func (.func 102) #[] #[.pointer (some ⟨b_3, 0, none⟩), .pointer (some ⟨b_1, 0, none⟩)]] (.func (.func 102) #[] #[.pointer (some ⟨b_3, 0, none⟩), .pointer (some ⟨b_1, 0, none⟩)]) H rfl rfl Sz146 rfl rfl rfl rfl ?_
 intro w14z H
 refine s_nil ?_
 refine W.seq ?_
 refine W.region rfl ?_
 refine s_val (x_mv (v := u0_2) rfl) ?_
 refine s_val (x_mf (fs := []) (cs := [.pointer (some ⟨b_5, 0, none⟩)]) rfl rfl) ?_
 obtain ⟨r16z, hx15z, hM⟩ := M.e_bind hM
 refine s_call cf103 [u0_2, .func (.func 104) #[] #[.pointer (some ⟨b_5, 0, none⟩)]] rfl (zc6 r2 w__River_Down w__River_Travel w__River_Springs w__River_Towns w__River_Delay_Lo w__River_Delay_Hi w__River_Floods w__River_Down w__River_Travel w__River_Springs w__River_Towns w__River_Delay_Lo w__River_Delay_Hi w__River_Floods (hC_w__River_Down.app _) hs_w__River_Down (hC_w__River_Travel.app _) hs_w__River_Travel (hC_w__River_Springs.app _) hs_w__River_Springs (hC_w__River_Towns.app _) hs_w__River_Towns (hC_w__River_Floods.app _) hs_w__River_Floods (h_b_w_.app _) (Has.here (k := 1) rfl) (hC_w__River_Down.app _) hs_w__River_Down (hC_w__River_Travel.app _) hs_w__River_Travel (hC_w__River_Springs.app _) hs_w__River_Springs (hC_w__River_Towns.app _) hs_w__River_Towns (hC_w__River_Floods.app _) hs_w__River_Floods (h_b_w_.app _) (Has.here (k := 2) rfl) (Has.here (k := 0) rfl) hx15z _ ((H.pk [3, 1, 0, 2, 4]).gt 3)) ?_
 rintro vq w17z ⟨l_x, Bs0_6, hr18z, hvq, H2_⟩
 subst hr18z
 subst vq
 try dsimp only at hM
 replace H := H.pk [3, 1, 0, 2, 4] |>.bk H2_
 clear H2_
 refine s_nil ?_
 replace H := H.pk [0, 1, 3]
 refine W.seq ?_
 refine W.region rfl ?_
 refine t_alloc (cs := encB (List.replicate 12 false)) H Al96 rfl ?_
 intro b_7 w19z H
 have hl_b_7 : (List.replicate 12 false).length = 12 := by simp
 refine s_nil ?_
 refine W.seq ?_
 refine W.region rfl ?_
 refine s_val (x_as (v := .slice none 0 0) rfl) ?_
 refine s_nil ?_
 refine W.seq ?_
 refine W.region rfl ?_
 refine s_val (x_as (v := .slice none 0 0) rfl) ?_
 refine s_nil ?_
 refine W.seq ?_
 refine W.label ?_
 refine W.seq ?_
 refine W.seq ?_
 refine W.region rfl ?_
 refine s_val (x_mv (v := u0_2) rfl) ?_
 have hl20z := ((ownSl (H.get (k := 1) rfl))).len_le
 refine s_val (x_lenS T62.und rfl (ownSl (H.get (k := 1) rfl))) ?_
 refine s_val (x_mv (v := I 0) rfl) ?_
 refine s_nil ?_
 refine W.block ?_
 replace H := H.nilOwn (α := Dem) 61
 replace H := H.nilOwn (α := Int) 3
 obtain ⟨ex21z, hi22z, hk23z⟩ := M.e_bind hM
 obtain ⟨m0_, hi22z⟩ := M.e_iter hi22z
 refine W.loop (fun m σ W => ∃ (s2 : Nat) (ar : List Bool) (l : List Int) (l2 : List Dem) (v_l : Value) (v_l2 : Value) (B_mem : Base) (ρ : Env), σ = upds ρ [(6, .pointer (some ⟨b_3, 0, none⟩)), (8, .pointer (some ⟨b_7, 0, none⟩)), (9, v_l), (10, v_l2), (29, u0_2), (30, I (l_x.length : Int)), (31, I (s2 : Int))] /\ M.iterN (zcl w__River_Down w__River_Travel w__River_Springs w__River_Towns w__River_Delay_Lo w__River_Delay_Hi w__River_Floods l_x) m (s2, ar, l, l2) = some ex21z /\ St w W [cOwn (α := Int) 3 v_l l, cOwn (α := Dem) 61 v_l2 l2, cBlk b_7 (encB ar) 96, cOwn (α := Dem) 61 u0_2 l_x, cMem encDm b_w__found B_mem (zaa w__River_Down w__River_Travel w__River_Springs w__River_Towns w__River_Delay_Lo w__River_Delay_Hi w__River_Floods), cBlk b_3 [.func (.func 81) #[.pointer (some ⟨b_w_, 0, none⟩)] #[]] 134] R /\ ar.length = 12) ?_ ?_
 ·exact ⟨_, 0, List.replicate 12 false, [], [], (.slice none 0 0), (.slice none 0 0), Bs0_6, _, upds_of _ _ ⟨rfl, rfl, rfl, rfl, rfl, rfl, rfl, trivial⟩, hi22z, H, hl_b_7⟩
 rintro m26z σ w24z ⟨s2, ar, l, l2, v_l, v_l2, B_mem, ρ, rfl, hI25z, H, hl_ar⟩
 obtain ⟨m27z, lt28z, x29z, hM, hN30z⟩ := M.e_iterN hI25z
 simp only [zcl] at hM
 clear hI25z
 refine W.seq ?_
 refine W.region rfl ?_
 refine s_val (x_cmp (kd := .i64) (a := (s2 : Int)) (b := (l_x.length : Int)) (r := decide ((s2 : Int) < (l_x.length : Int))) rfl rfl rfl) ?_
 refine s_nil ?_
 refine W.seq ?_
 refine W.cond (decide ((s2 : Int) < (l_x.length : Int))) rfl (fun c31z => ?_) (fun c31z => ?_)
 ·replace hM := M.e_t hM c31z
  simp only [decide_eq_true_eq, decide_eq_false_iff_not, beq_iff_eq, bne_iff_ne, beq_eq_false_iff_ne, bne_eq_false_iff_eq, ne_eq, Decidable.not_not] at c31z
  refine W.skip ?_
  refine W.seq ?_
  refine W.block ?_
  refine W.seq ?_
  refine W.region rfl ?_
  obtain ⟨sd32z, hM⟩ := M.e_grd hM
  simp only [Bool.and_eq_true, decide_eq_true_eq] at sd32z
  refine s_val (x_ix (a := u0_2) (b := I (s2 : Int)) (v := vat u0_2 2 (Int.toNat (s2 : Int))) rfl rfl (Sl.ix (α := Dem) T62.und T62.size (ownSl (H.get (k := 3) rfl)) (by omega) (by omega))) ?_
  refine s_val (x_ld (p := vat u0_2 2 (Int.toNat (s2 : Int))) (v := .agg #[I ((l_x.getD s2 default).spring), I ((l_x.getD s2 default).town)]) rfl (ld_ag Ag61 Sz61 (At.mono (Dem_atA (ownSl (H.get (k := 3) rfl)) (i := (s2 : Int)) (by omega) (by omega)) (ownLe _ (H.get (k := 3) rfl))))) ?_
  refine t_alloc (cs := [I 0, I 0]) H Al61 rfl ?_
  intro b_8 w33z H
  refine t_sw 0 0 [I ((l_x.getD s2 default).spring), I ((l_x.getD s2 default).town)] (.agg #[I ((l_x.getD s2 default).spring), I ((l_x.getD s2 default).town)]) H rfl rfl Sz61 rfl rfl rfl rfl ?_
  intro w34z H
  refine s_nil ?_
  refine W.seq ?_
  refine W.region rfl ?_
  refine s_val (x_ld (p := .pointer (some ⟨b_3, 0, none⟩)) (v := .func (.func 81) #[.pointer (some ⟨b_w_, 0, none⟩)] #[]) rfl (ldb_sc Sc134 (H.blk (k := 6) rfl) rfl)) ?_
  refine s_val (x_ld (p := .pointer (some ⟨b_8, 0, none⟩)) (v := .agg #[I ((l_x.getD s2 default).spring), I ((l_x.getD s2 default).town)]) rfl (ldb_ag (ds := [I ((l_x.getD s2 default).spring), I ((l_x.getD s2 default).town)]) Ag61 Sz61 (H.blk (k := 0) rfl) rfl rfl)) ?_
  obtain ⟨r36z, hx35z, hM⟩ := M.e_bind hM
  refine s_callm (f := 81) (fs := [.pointer (some ⟨b_w_, 0, none⟩)]) rfl cf81 [.agg #[I ((l_x.getD s2 default).spring), I ((l_x.getD s2 default).town)]] rfl (zbC w__River_Down w__River_Travel w__River_Springs w__River_Towns w__River_Delay_Lo w__River_Delay_Hi w__River_Floods (l_x.getD s2 default) (hC_w__River_Down.app _) hs_w__River_Down (hC_w__River_Travel.app _) hs_w__River_Travel (hC_w__River_Springs.app _) hs_w__River_Springs (hC_w__River_Towns.app _) hs_w__River_Towns (hC_w__River_Floods.app _) hs_w__River_Floods (h_b_w_.app _) hx35z _ ((H.pk [5, 0, 1, 2, 3, 4, 6]).gt 6)) ?_
  rintro vq w37z ⟨r4, u0_9, Bs1_10, hr38z, hvq, H2_, hf39z⟩
  subst hr38z
  subst vq
  try dsimp only at hM
  replace H := H.pk [5, 0, 1, 2, 3, 4, 6] |>.bk H2_
  clear H2_
  refine s_val (x_as (v := u0_9) rfl) ?_
  refine s_nil ?_
  refine W.seq ?_
  refine W.seq ?_
  refine W.region rfl ?_
  refine s_val (x_mv (v := u0_9) rfl) ?_
  have hl40z := (hf39z).len_le
  refine s_val (x_lenS T22.und rfl hf39z) ?_
  refine s_val (x_mv (v := I 0) rfl) ?_
  refine s_nil ?_
  refine W.block ?_
  obtain ⟨ex41z, hi42z, hk43z⟩ := M.e_bind hM
  obtain ⟨m0_, hi42z⟩ := M.e_iter hi42z
  refine W.loop (fun m σ W => ∃ (s : Nat) (ρ : Env), σ = upds ρ [(6, .pointer (some ⟨b_3, 0, none⟩)), (8, .pointer (some ⟨b_7, 0, none⟩)), (9, v_l), (10, v_l2), (12, .pointer (some ⟨b_8, 0, none⟩)), (13, u0_9), (29, u0_2), (30, I (l_x.length : Int)), (31, I (s2 : Int)), (38, u0_9), (39, I (r4.length : Int)), (40, I (s : Int))] /\ M.iterN (zb4 ar r4) m s = some ex41z /\ St w W [cMem encDm b_w__found Bs1_10 (zaa w__River_Down w__River_Travel w__River_Springs w__River_Towns w__River_Delay_Lo w__River_Delay_Hi w__River_Floods), cBlk b_8 [I ((l_x.getD s2 default).spring), I ((l_x.getD s2 default).town)] 61, cOwn (α := Int) 3 v_l l, cOwn (α := Dem) 61 v_l2 l2, cBlk b_7 (encB ar) 96, cOwn (α := Dem) 61 u0_2 l_x, cBlk b_3 [.func (.func 81) #[.pointer (some ⟨b_w_, 0, none⟩)] #[]] 134] R) ?_ ?_
  ·exact ⟨_, 0, _, upds_of _ _ ⟨rfl, rfl, rfl, rfl, rfl, rfl, rfl, rfl, rfl, rfl, rfl, rfl, trivial⟩, hi42z, H⟩
  rintro m46z σ w44z ⟨s, ρ, rfl, hI45z, H⟩
  obtain ⟨m47z, lt48z, x49z, hM, hN50z⟩ := M.e_iterN hI45z
  simp only [zb4] at hM
  clear hI45z
  refine W.seq ?_
  refine W.region rfl ?_
  refine s_val (x_cmp (kd := .i64) (a := (s : Int)) (b := (r4.length : Int)) (r := decide ((s : Int) < (r4.length : Int))) rfl rfl rfl) ?_
  refine s_nil ?_
  refine W.seq ?_
  refine W.cond (decide ((s : Int) < (r4.length : Int))) rfl (fun c51z => ?_) (fun c51z => ?_)
  ·replace hM := M.e_t hM c51z
   simp only [decide_eq_true_eq, decide_eq_false_iff_not, beq_iff_eq, bne_iff_ne, beq_eq_false_iff_ne, bne_eq_false_iff_eq, ne_eq, Decidable.not_not] at c51z
   refine W.skip ?_
   refine W.seq ?_
   refine W.block ?_
   refine W.seq ?_
   refine W.region rfl ?_
   obtain ⟨sd52z, hM⟩ := M.e_grd hM
   simp only [Bool.and_eq_true, decide_eq_true_eq] at sd52z
   refine s_val (x_ix (a := u0_9) (b := I (s : Int)) (v := vat u0_9 1 (Int.toNat (s : Int))) rfl rfl (Sl.ix (α := Int) T22.und T22.size hf39z (by omega) (by omega))) ?_
   refine s_val (x_ld (p := vat u0_9 1 (Int.toNat (s : Int))) (v := I (r4.getD s 0)) rfl (ld_sc Sc3 (At.mono (Int_at hf39z (i := (s : Int)) (by omega) (by omega)) (memLe _ (H.get (k := 0) rfl))))) ?_
   refine s_val (x_as (v := I (r4.getD s 0)) rfl) ?_
   refine s_nil ?_
   refine W.seq ?_
   refine W.region rfl ?_
   refine s_val (x_mv (v := I (r4.getD s 0)) rfl) ?_
   obtain ⟨sd53z, hM⟩ := M.e_grd hM
   simp only [Bool.and_eq_true, decide_eq_true_eq] at sd53z
   refine s_val (x_ix (a := .pointer (some ⟨b_7, 0, none⟩)) (b := I (r4.getD s 0)) (v := .pointer (some ⟨b_7, 0 + Int.toNat (r4.getD s 0), none⟩)) rfl rfl (run_indexArr Tryz.underlying96 Sz4 (by omega) (by omega))) ?_
   refine s_val (x_ld (p := .pointer (some ⟨b_7, 0 + Int.toNat (r4.getD s 0), none⟩)) (v := B (ar.getD (Int.toNat (r4.getD s 0)) false)) rfl (ldArr Sc4 (H.blk (k := 4) rfl) (by omega) (by have hl_ := hl_ar; omega))) ?_
   refine s_nil ?_
   refine W.cond (ar.getD (Int.toNat (r4.getD s 0)) false) rfl (fun c54z => ?_) (fun c54z => ?_)
   ·replace hM := M.e_t hM c54z
    refine W.exit ?_
    have hX55z := M.e_inr hM hN50z
    subst hX55z
    replace hM := hk43z
    try dsimp only at hM
    refine W.region rfl ?_
    refine s_val (x_ari (a := (s2 : Int)) (b := 1) (r := (s2 : Int) + 1) rfl rfl rfl (by omega)) ?_
    refine s_val (x_mv (v := I ((s2 : Int) + 1)) rfl) ?_
    refine s_nil ?_
    exact ⟨m27z, lt28z, s2 + 1, ar, l, l2, v_l, v_l2, Bs1_10, _, upds_of _ _ ⟨rfl, rfl, rfl, rfl, rfl, rfl, rfl, trivial⟩, M.e_inl hM hN30z, (H.pk [2, 3, 4, 5, 0, 6]), hl_ar⟩
   replace hM := M.e_f hM c54z
   refine W.skip ?_
   refine W.region rfl ?_
   refine s_val (x_ari (a := (s : Int)) (b := 1) (r := (s : Int) + 1) rfl rfl rfl (by omega)) ?_
   refine s_val (x_mv (v := I ((s : Int) + 1)) rfl) ?_
   refine s_nil ?_
   exact ⟨m47z, lt48z, s + 1, _, upds_of _ _ ⟨rfl, rfl, rfl, rfl, rfl, rfl, rfl, rfl, rfl, rfl, rfl, rfl, trivial⟩, M.e_inl hM hN50z, H⟩
  replace hM := M.e_f hM c51z
  simp only [decide_eq_true_eq, decide_eq_false_iff_not, beq_iff_eq, bne_iff_ne, beq_eq_false_iff_ne, bne_eq_false_iff_eq, ne_eq, Decidable.not_not] at c51z
  refine W.exit ?_
  have hX56z := M.e_inr hM hN50z
  subst hX56z
  replace hM := hk43z
  try dsimp only at hM
  refine W.seq ?_
  refine W.region rfl ?_
  refine s_val (x_mv (v := u0_9) rfl) ?_
  refine s_val (x_mv (v := u0_9) rfl) ?_
  have hl57z := (hf39z).len_le
  refine s_val (x_lenS T22.und rfl hf39z) ?_
  refine s_val (x_ari (a := (r4.length : Int)) (b := 1) (r := (r4.length : Int) - 1) rfl rfl rfl (by omega)) ?_
  obtain ⟨sd58z, hM⟩ := M.e_grd hM
  simp only [Bool.and_eq_true, decide_eq_true_eq] at sd58z
  refine s_val (x_ix (a := u0_9) (b := I ((r4.length : Int) - 1)) (v := vat u0_9 1 (Int.toNat ((r4.length : Int) - 1))) rfl rfl (Sl.ix (α := Int) T22.und T22.size hf39z (by omega) (by omega))) ?_
  refine s_val (x_ld (p := vat u0_9 1 (Int.toNat ((r4.length : Int) - 1))) (v := I (r4.getD (Int.toNat ((r4.length : Int) - 1)) 0)) rfl (ld_sc Sc3 (At.mono (Int_at hf39z (i := (r4.length : Int) - 1) (by omega) (by omega)) (memLe _ (H.get (k := 0) rfl))))) ?_
  refine s_val (x_as (v := I (r4.getD (Int.toNat ((r4.length : Int) - 1)) 0)) rfl) ?_
  refine s_nil ?_
  refine W.seq ?_
  refine W.region rfl ?_
  refine s_val (x_mv (v := I (r4.getD (Int.toNat ((r4.length : Int) - 1)) 0)) rfl) ?_
  obtain ⟨sd59z, hM⟩ := M.e_grd hM
  simp only [Bool.and_eq_true, decide_eq_true_eq] at sd59z
  refine s_val (x_ix (a := .pointer (some ⟨b_7, 0, none⟩)) (b := I (r4.getD (Int.toNat ((r4.length : Int) - 1)) 0)) (v := .pointer (some ⟨b_7, 0 + Int.toNat (r4.getD (Int.toNat ((r4.length : Int) - 1)) 0), none⟩)) rfl rfl (run_indexArr Tryz.underlying96 Sz4 (by omega) (by omega))) ?_
  refine t_stArr (k := 4) (b := b_7) (l := ar) (l' := ar.set (Int.toNat (r4.getD (Int.toNat ((r4.length : Int) - 1)) 0)) true) (i := r4.getD (Int.toNat ((r4.length : Int) - 1)) 0) (v := true) (L' := [cMem encDm b_w__found Bs1_10 (zaa w__River_Down w__River_Travel w__River_Springs w__River_Towns w__River_Delay_Lo w__River_Delay_Hi w__River_Floods), cBlk b_8 [I ((l_x.getD s2 default).spring), I ((l_x.getD s2 default).town)] 61, cOwn (α := Int) 3 v_l l, cOwn (α := Dem) 61 v_l2 l2, cBlk b_7 (encB (ar.set (Int.toNat (r4.getD (Int.toNat ((r4.length : Int) - 1)) 0)) true)) 96, cOwn (α := Dem) 61 u0_2 l_x, cBlk b_3 [.func (.func 81) #[.pointer (some ⟨b_w_, 0, none⟩)] #[]] 134]) H rfl rfl rfl Sz4 (by omega) (by have hl_ := hl_ar; omega) rfl rfl ?_
  intro w60z H
  have hl61z : (ar.set (Int.toNat (r4.getD (Int.toNat ((r4.length : Int) - 1)) 0)) true).length = 12 := List.length_set.trans hl_ar
  refine s_nil ?_
  refine W.drawT (fun W => St w W [cMem encDm b_w__found Bs1_10 (zaa w__River_Down w__River_Travel w__River_Springs w__River_Towns w__River_Delay_Lo w__River_Delay_Hi w__River_Floods), cBlk b_8 [I ((l_x.getD s2 default).spring), I ((l_x.getD s2 default).town)] 61, cBlk b_7 (encB (ar.set (Int.toNat (r4.getD (Int.toNat ((r4.length : Int) - 1)) 0)) true)) 96, cOwn (α := Dem) 61 u0_2 l_x, cBlk b_3 [.func (.func 81) #[.pointer (some ⟨b_w_, 0, none⟩)] #[]] 134] R) (.q 0 (.q 1 (.q 4 (.q 5 (.l2 2 (.l2 3 (.l 6 (.l 7 (.q 8 (.q 9 .nil)))) 6 (.l 3 (.l 7 (.q 8 (.q 9 .nil))))) 6 (.l 2 (.l 3 (.l 7 (.q 8 (.q 9 .nil)))))))))) mixed (by decide +kernel) rfl ?_
  intro w62z hx_
  replace H := H.ext hx_
  clear hx_
  refine ⟨(H.pk [0, 1, 4, 5, 6]), ?_⟩
  refine t_q rfl (fun w' H => x_mv (v := v_l) rfl) ?_
  refine t_q rfl (fun w' H => x_mv (v := I (r4.getD (Int.toNat ((r4.length : Int) - 1)) 0)) rfl) ?_
  refine t_q rfl (fun w' H => x_mv (v := v_l2) rfl) ?_
  refine t_q rfl (fun w' H => x_ld (p := .pointer (some ⟨b_8, 0, none⟩)) (v := .agg #[I ((l_x.getD s2 default).spring), I ((l_x.getD s2 default).town)]) rfl (ldb_ag (ds := [I ((l_x.getD s2 default).spring), I ((l_x.getD s2 default).town)]) Ag61 Sz61 (H.blk (k := 1) rfl) rfl rfl)) ?_
  obtain ⟨sd65z, hM⟩ := M.e_grd hM
  simp only [Bool.and_eq_true, decide_eq_true_eq] at sd65z
  obtain ⟨sd70z, hM⟩ := M.e_grd hM
  simp only [Bool.and_eq_true, decide_eq_true_eq] at sd70z
  refine t_l2 rfl rfl ?_ ?_
  ·skip
   refine t_bs (α := Int) T22 [I (r4.getD (Int.toNat ((r4.length : Int) - 1)) 0)] [(r4.getD (Int.toNat ((r4.length : Int) - 1)) 0 : Int)] H rfl (.cons rfl (Flat.rep_enc _ (r4.getD (Int.toNat ((r4.length : Int) - 1)) 0 : Int)) <| .nil) rfl rfl rfl ?_
   intro v73z w74z H
   have hvc_q75z := Sl.cells (ownSl (H.get (k := 0) rfl))
   have hvo_q75z := Sl.oc (ownSl (H.get (k := 0) rfl))
   have hvc_q76z := Sl.cells (ownSl (H.get (k := 3) rfl))
   have hvo_q76z := Sl.oc (ownSl (H.get (k := 3) rfl))
   have hvc_q77z := Sl.cells (ownSl (H.get (k := 4) rfl))
   have hvo_q77z := Sl.oc (ownSl (H.get (k := 4) rfl))
   refine s_nil ⟨(H.pk [1, 2, 5, 6, 7]), ?_⟩
   refine t_l2 rfl rfl ?_ ?_
   ·skip
    refine t_app (α := Int) (k := 3) (l := l) (l2 := [(r4.getD (Int.toNat ((r4.length : Int) - 1)) 0 : Int)]) (l' := l ++ ([(r4.getD (Int.toNat ((r4.length : Int) - 1)) 0 : Int)])) (vy := v73z) T22 rfl H rfl rfl rfl (ownSl (H.get (k := 0) rfl)) (ownLe _ (H.get (k := 0) rfl)) (rfl) (by first | omega | (simp only [List.length_nil] at *; omega)) ?_
    intro v78z w79z H
    replace H := H.nf
    have hvc_q80z := Sl.cells (ownSl (H.get (k := 3) rfl))
    have hvo_q80z := Sl.oc (ownSl (H.get (k := 3) rfl))
    refine s_nil ⟨(H.pk [1, 2, 5, 6, 7]), ?_⟩
    refine t_l rfl ?_
    refine t_bs (α := Dem) T62 [.agg #[I ((l_x.getD s2 default).spring), I ((l_x.getD s2 default).town)]] [(l_x.getD s2 default)] H rfl (.cons rfl (Flat.rep_enc _ (l_x.getD s2 default)) <| .nil) rfl rfl rfl ?_
    intro v81z w82z H
    have hvc_q83z := Sl.cells (ownSl (H.get (k := 0) rfl))
    have hvo_q83z := Sl.oc (ownSl (H.get (k := 0) rfl))
    refine s_nil ⟨(H.pk [2, 3, 6, 7, 8]), ?_⟩
    refine t_l rfl ?_
    refine t_app (α := Dem) (k := 5) (l := l2) (l2 := [(l_x.getD s2 default)]) (l' := l2 ++ ([(l_x.getD s2 default)])) (vy := v81z) T62 rfl H rfl rfl rfl (ownSl (H.get (k := 0) rfl)) (ownLe _ (H.get (k := 0) rfl)) (rfl) (by first | omega | (simp only [List.length_nil] at *; omega)) ?_
    intro v84z w85z H
    replace H := H.nf
    have hvc_q86z := Sl.cells (ownSl (H.get (k := 5) rfl))
    have hvo_q86z := Sl.oc (ownSl (H.get (k := 5) rfl))
    refine s_nil ⟨(H.pk [2, 3, 6, 7, 8]), ?_⟩
    refine t_q rfl (fun w' H => x_as (v := v78z) rfl) ?_
    refine t_q rfl (fun w' H => x_as (v := v84z) rfl) ?_
    refine t_nil ?_
    replace H := H.pk [2, 4, 5, 6, 7, 8]
    refine W.region rfl ?_
    refine s_val (x_ari (a := (s2 : Int)) (b := 1) (r := (s2 : Int) + 1) rfl rfl rfl (by omega)) ?_
    refine s_val (x_mv (v := I ((s2 : Int) + 1)) rfl) ?_
    refine s_nil ?_
    exact ⟨m27z, lt28z, s2 + 1, ar.set (Int.toNat (r4.getD (Int.toNat ((r4.length : Int) - 1)) 0)) true, l ++ ([(r4.getD (Int.toNat ((r4.length : Int) - 1)) 0 : Int)]), l2 ++ ([(l_x.getD s2 default)]), v78z, v84z, Bs1_10, _, upds_of _ _ ⟨rfl, rfl, rfl, rfl, rfl, rfl, rfl, trivial⟩, M.e_inl hM hN30z, (H.pk [1, 2, 3, 4, 0, 5]), hl61z⟩
   skip
   refine t_bs (α := Dem) T62 [.agg #[I ((l_x.getD s2 default).spring), I ((l_x.getD s2 default).town)]] [(l_x.getD s2 default)] H rfl (.cons rfl (Flat.rep_enc _ (l_x.getD s2 default)) <| .nil) rfl rfl rfl ?_
   intro v87z w88z H
   have hvc_q89z := Sl.cells (ownSl (H.get (k := 0) rfl))
   have hvo_q89z := Sl.oc (ownSl (H.get (k := 0) rfl))
   refine s_nil ⟨(H.pk [2, 3, 6, 7, 8]), ?_⟩
   refine t_l rfl ?_
   refine t_app (α := Int) (k := 4) (l := l) (l2 := [(r4.getD (Int.toNat ((r4.length : Int) - 1)) 0 : Int)]) (l' := l ++ ([(r4.getD (Int.toNat ((r4.length : Int) - 1)) 0 : Int)])) (vy := v73z) T22 rfl H rfl rfl rfl (ownSl (H.get (k := 1) rfl)) (ownLe _ (H.get (k := 1) rfl)) (rfl) (by first | omega | (simp only [List.length_nil] at *; omega)) ?_
   intro v90z w91z H
   replace H := H.nf
   have hvc_q92z := Sl.cells (ownSl (H.get (k := 4) rfl))
   have hvo_q92z := Sl.oc (ownSl (H.get (k := 4) rfl))
   refine s_nil ⟨(H.pk [2, 3, 6, 7, 8]), ?_⟩
   refine t_l rfl ?_
   refine t_app (α := Dem) (k := 5) (l := l2) (l2 := [(l_x.getD s2 default)]) (l' := l2 ++ ([(l_x.getD s2 default)])) (vy := v87z) T62 rfl H rfl rfl rfl (ownSl (H.get (k := 0) rfl)) (ownLe _ (H.get (k := 0) rfl)) (rfl) (by first | omega | (simp only [List.length_nil] at *; omega)) ?_
   intro v93z w94z H
   replace H := H.nf
   have hvc_q95z := Sl.cells (ownSl (H.get (k := 5) rfl))
   have hvo_q95z := Sl.oc (ownSl (H.get (k := 5) rfl))
   refine s_nil ⟨(H.pk [2, 3, 6, 7, 8]), ?_⟩
   refine t_q rfl (fun w' H => x_as (v := v90z) rfl) ?_
   refine t_q rfl (fun w' H => x_as (v := v93z) rfl) ?_
   refine t_nil ?_
   replace H := H.pk [2, 4, 5, 6, 7, 8]
   refine W.region rfl ?_
   refine s_val (x_ari (a := (s2 : Int)) (b := 1) (r := (s2 : Int) + 1) rfl rfl rfl (by omega)) ?_
   refine s_val (x_mv (v := I ((s2 : Int) + 1)) rfl) ?_
   refine s_nil ?_
   exact ⟨m27z, lt28z, s2 + 1, ar.set (Int.toNat (r4.getD (Int.toNat ((r4.length : Int) - 1)) 0)) true, l ++ ([(r4.getD (Int.toNat ((r4.length : Int) - 1)) 0 : Int)]), l2 ++ ([(l_x.getD s2 default)]), v90z, v93z, Bs1_10, _, upds_of _ _ ⟨rfl, rfl, rfl, rfl, rfl, rfl, rfl, trivial⟩, M.e_inl hM hN30z, (H.pk [1, 2, 3, 4, 0, 5]), hl61z⟩
  skip
  refine t_bs (α := Dem) T62 [.agg #[I ((l_x.getD s2 default).spring), I ((l_x.getD s2 default).town)]] [(l_x.getD s2 default)] H rfl (.cons rfl (Flat.rep_enc _ (l_x.getD s2 default)) <| .nil) rfl rfl rfl ?_
  intro v96z w97z H
  have hvc_q98z := Sl.cells (ownSl (H.get (k := 0) rfl))
  have hvo_q98z := Sl.oc (ownSl (H.get (k := 0) rfl))
  have hvc_q99z := Sl.cells (ownSl (H.get (k := 3) rfl))
  have hvo_q99z := Sl.oc (ownSl (H.get (k := 3) rfl))
  have hvc_q100z := Sl.cells (ownSl (H.get (k := 4) rfl))
  have hvo_q100z := Sl.oc (ownSl (H.get (k := 4) rfl))
  refine s_nil ⟨(H.pk [1, 2, 5, 6, 7]), ?_⟩
  refine t_l rfl ?_
  refine t_bs (α := Int) T22 [I (r4.getD (Int.toNat ((r4.length : Int) - 1)) 0)] [(r4.getD (Int.toNat ((r4.length : Int) - 1)) 0 : Int)] H rfl (.cons rfl (Flat.rep_enc _ (r4.getD (Int.toNat ((r4.length : Int) - 1)) 0 : Int)) <| .nil) rfl rfl rfl ?_
  intro v101z w102z H
  have hvc_q103z := Sl.cells (ownSl (H.get (k := 0) rfl))
  have hvo_q103z := Sl.oc (ownSl (H.get (k := 0) rfl))
  refine s_nil ⟨(H.pk [2, 3, 6, 7, 8]), ?_⟩
  refine t_l rfl ?_
  refine t_app (α := Int) (k := 4) (l := l) (l2 := [(r4.getD (Int.toNat ((r4.length : Int) - 1)) 0 : Int)]) (l' := l ++ ([(r4.getD (Int.toNat ((r4.length : Int) - 1)) 0 : Int)])) (vy := v101z) T22 rfl H rfl rfl rfl (ownSl (H.get (k := 0) rfl)) (ownLe _ (H.get (k := 0) rfl)) (rfl) (by first | omega | (simp only [List.length_nil] at *; omega)) ?_
  intro v104z w105z H
  replace H := H.nf
  have hvc_q106z := Sl.cells (ownSl (H.get (k := 4) rfl))
  have hvo_q106z := Sl.oc (ownSl (H.get (k := 4) rfl))
  refine s_nil ⟨(H.pk [2, 3, 6, 7, 8]), ?_⟩
  refine t_l rfl ?_
  refine t_app (α := Dem) (k := 5) (l := l2) (l2 := [(l_x.getD s2 default)]) (l' := l2 ++ ([(l_x.getD s2 default)])) (vy := v96z) T62 rfl H rfl rfl rfl (ownSl (H.get (k := 1) rfl)) (ownLe _ (H.get (k := 1) rfl)) (rfl) (by first | omega | (simp only [List.length_nil] at *; omega)) ?_
  intro v107z w108z H
  replace H := H.nf
  have hvc_q109z := Sl.cells (ownSl (H.get (k := 5) rfl))
  have hvo_q109z := Sl.oc (ownSl (H.get (k := 5) rfl))
  refine s_nil ⟨(H.pk [2, 3, 6, 7, 8]), ?_⟩
  refine t_q rfl (fun w' H => x_as (v := v104z) rfl) ?_
  refine t_q rfl (fun w' H => x_as (v := v107z) rfl) ?_
  refine t_nil ?_
  replace H := H.pk [2, 4, 5, 6, 7, 8]
  refine W.region rfl ?_
  refine s_val (x_ari (a := (s2 : Int)) (b := 1) (r := (s2 : Int) + 1) rfl rfl rfl (by omega)) ?_
  refine s_val (x_mv (v := I ((s2 : Int) + 1)) rfl) ?_
  refine s_nil ?_
  exact ⟨m27z, lt28z, s2 + 1, ar.set (Int.toNat (r4.getD (Int.toNat ((r4.length : Int) - 1)) 0)) true, l ++ ([(r4.getD (Int.toNat ((r4.length : Int) - 1)) 0 : Int)]), l2 ++ ([(l_x.getD s2 default)]), v104z, v107z, Bs1_10, _, upds_of _ _ ⟨rfl, rfl, rfl, rfl, rfl, rfl, rfl, trivial⟩, M.e_inl hM hN30z, (H.pk [1, 2, 3, 4, 0, 5]), hl61z⟩
 replace hM := M.e_f hM c31z
 simp only [decide_eq_true_eq, decide_eq_false_iff_not, beq_iff_eq, bne_iff_ne, beq_eq_false_iff_ne, bne_eq_false_iff_eq, ne_eq, Decidable.not_not] at c31z
 refine W.exit ?_
 have hX110z := M.e_inr hM hN30z
 subst hX110z
 replace hM := hk23z
 try dsimp only at hM
 replace H := H.pk [0, 1, 4]
 refine W.seq ?_
 refine W.region rfl ?_
 refine s_val (x_mv (v := v_l) rfl) ?_
 obtain ⟨sd112z, hM⟩ := M.e_grd hM
 simp only [Bool.and_eq_true, decide_eq_true_eq] at sd112z
 refine s_call cf106 [v_l] rfl (sort_any (H.get (k := 0) rfl) (by omega)) ?_
 rintro _ w111z ⟨rfl, ho_, kp_, hs_⟩
 replace H : St w w111z [cOwn (α := Int) 3 v_l (isort l), cOwn (α := Dem) 61 v_l2 l2, cMem encDm b_w__found B_mem (zaa w__River_Down w__River_Travel w__River_Springs w__River_Towns w__River_Delay_Lo w__River_Delay_Hi w__River_Floods)] R := H.sorted (k := 0) rfl ho_ kp_ hs_ rfl
 clear ho_ kp_ hs_
 refine s_nil ?_
 refine W.seq ?_
 refine W.region rfl ?_
 refine s_val (x_mv (v := v_l) rfl) ?_
 refine s_val (x_mv (v := v_l2) rfl) ?_
 refine s_val (x_as (v := v_l) rfl) ?_
 refine s_val (x_as (v := v_l2) rfl) ?_
 refine s_val (x_as (v := B true) rfl) ?_
 refine s_nil ?_
 refine W.ret ?_
 have hr_ := M.e_pure hM
 exact ⟨_, resE_tmp3 rfl, ⟨(isort l), l2, true, v_l, v_l2, B_mem, hr_, rfl, H⟩⟩

def zby (r__Down : List Int) (r__Travel : List Span) (r__Springs : List Int) (r__Towns : List Town) (r__Delay_Lo : Int) (r__Delay_Hi : Int) (r__Floods : List Flood) : M ((List Int) × Int) :=
  M.bind (zal r__Down r__Travel r__Springs r__Towns r__Delay_Lo r__Delay_Hi r__Floods) fun x_ => match x_ with
  | (.inl r1) => (
  bif r1 != 0 then (
  M.pure (([]), r1))
  else (
  M.fail))
  | (.inr (r04, r05, r12)) => (
  bif r12 != 0 then (
  M.fail)
  else (
  M.bind (zcv r__Down r__Travel r__Springs r__Towns r04 r05 r__Floods) fun (r0, r13, r2) =>
  bif !r2 then (
  M.pure (([]), 6))
  else (
  M.pure (r0, 0))))
theorem zce {R : List Chunk} {C_r__Down : Cells} {v_r__Down : Value} {C_r__Travel : Cells} {v_r__Travel : Value} {C_r__Springs : Cells} {v_r__Springs : Value} {C_r__Towns : Cells} {v_r__Towns : Value} {C_r__Floods : Cells} {v_r__Floods : Value} (r__Down : List Int) (r__Travel : List Span) (r__Springs : List Int) (r__Towns : List Town) (r__Delay_Lo : Int) (r__Delay_Hi : Int) (r__Floods : List Flood) (hC_r__Down : Reads R C_r__Down) (hs_r__Down : Sl C_r__Down v_r__Down r__Down) (hC_r__Travel : Reads R C_r__Travel) (hs_r__Travel : Sl C_r__Travel v_r__Travel r__Travel) (hC_r__Springs : Reads R C_r__Springs) (hs_r__Springs : Sl C_r__Springs v_r__Springs r__Springs) (hC_r__Towns : Reads R C_r__Towns) (hs_r__Towns : Sl C_r__Towns v_r__Towns r__Towns) (hC_r__Floods : Reads R C_r__Floods) (hs_r__Floods : Sl C_r__Floods v_r__Floods r__Floods) {r : ((List Int) × Int)} (hM : (zby r__Down r__Travel r__Springs r__Towns r__Delay_Lo r__Delay_Hi r__Floods).Ends r) (w : World) (H : St w w [] R) : Ret Tryz.prog 36 #[.agg #[v_r__Down, v_r__Travel, v_r__Springs, v_r__Towns, I r__Delay_Lo, I r__Delay_Hi, v_r__Floods]] w fun v w' => ∃ (y0 : List Int) (y1 : Int) (u0 : Value), (y0, y1) = r /\ v = .tuple #[u0, I y1] /\ St w w' [cOwn (α := Int) 3 u0 y0] R := by
 refine ret_of_W Tryz.func36 rfl rfl rfl ?_
 refine W.seq ?_
 refine W.region rfl ?_
 refine t_box (v := .agg #[v_r__Down, v_r__Travel, v_r__Springs, v_r__Towns, I r__Delay_Lo, I r__Delay_Hi, v_r__Floods]) (cs := [v_r__Down, v_r__Travel, v_r__Springs, v_r__Towns, I r__Delay_Lo, I r__Delay_Hi, v_r__Floods]) H rfl rfl ?_
 intro b_1 w1z H
 refine s_val (x_as (v := .slice none 0 0) rfl) ?_
 refine s_val (x_as (v := I 0) rfl) ?_
 refine s_nil ?_
 refine W.seq ?_
 refine W.region rfl ?_
 refine s_val (x_ld (p := .pointer (some ⟨b_1, 0, none⟩)) (v := .agg #[v_r__Down, v_r__Travel, v_r__Springs, v_r__Towns, I r__Delay_Lo, I r__Delay_Hi, v_r__Floods]) rfl (ldb_ag (ds := [v_r__Down, v_r__Travel, v_r__Springs, v_r__Towns, I r__Delay_Lo, I r__Delay_Hi, v_r__Floods]) Ag29 Sz29 (H.blk (k := 0) rfl) rfl rfl)) ?_
 obtain ⟨r3z, hx2z, hM⟩ := M.e_bind hM
 refine s_call cf72 [.agg #[v_r__Down, v_r__Travel, v_r__Springs, v_r__Towns, I r__Delay_Lo, I r__Delay_Hi, v_r__Floods]] rfl (zaS r__Down r__Travel r__Springs r__Towns r__Delay_Lo r__Delay_Hi r__Floods (hC_r__Down.app _) hs_r__Down (hC_r__Travel.app _) hs_r__Travel (hC_r__Springs.app _) hs_r__Springs (hC_r__Towns.app _) hs_r__Towns (hC_r__Floods.app _) hs_r__Floods hx2z _ (H.gt 1)) ?_
 rintro vq w4z (⟨r1, hr5z, hvq, H2_⟩ | ⟨r04, r05, r12, nb0_2, nb1_3, Bs2_4, hr6z, hvq, H2_⟩)
 ·subst hr5z
  subst vq
  try dsimp only at hM
  replace H := H.bk H2_
  clear H2_
  refine s_val (x_mv (v := .tuple #[.pointer none, I r1]) rfl) ?_
  refine s_val (x_ext (vs := [.pointer none, I r1]) (v := .pointer none) rfl rfl) ?_
  refine s_val (x_ext (vs := [.pointer none, I r1]) (v := I r1) rfl rfl) ?_
  refine s_val (x_as (v := .pointer none) rfl) ?_
  refine s_val (x_as (v := I r1) rfl) ?_
  refine s_nil ?_
  refine W.seq ?_
  refine W.seq ?_
  refine W.region rfl ?_
  refine s_val (x_mv (v := I r1) rfl) ?_
  refine s_val (x_cmp (kd := .i64) (a := r1) (b := 0) (r := r1 != 0) rfl rfl rfl) ?_
  refine s_nil ?_
  refine W.cond (r1 != 0) rfl (fun c7z => ?_) (fun c7z => ?_)
  ·replace hM := M.e_t hM c7z
   simp only [decide_eq_true_eq, decide_eq_false_iff_not, beq_iff_eq, bne_iff_ne, beq_eq_false_iff_ne, bne_eq_false_iff_eq, ne_eq, Decidable.not_not] at c7z
   refine W.seq ?_
   refine W.region rfl ?_
   refine s_val (x_mv (v := I r1) rfl) ?_
   refine s_val (x_as (v := .slice none 0 0) rfl) ?_
   refine s_val (x_as (v := I r1) rfl) ?_
   refine s_nil ?_
   refine W.ret ?_
   have hr_ := M.e_pure hM
   replace H := H.nilOwn (α := Int) 3
   exact ⟨_, resE_tmp2 rfl, ⟨([]), r1, (.slice none 0 0), hr_, rfl, (H.pk [0])⟩⟩
  replace hM := M.e_f hM c7z
  exact (M.e_fail hM).elim
 subst hr6z
 subst vq
 try dsimp only at hM
 replace H := H.bk H2_
 clear H2_
 refine s_val (x_mv (v := .tuple #[.pointer (some ⟨nb0_2, 0, none⟩), I r12]) rfl) ?_
 refine s_val (x_ext (vs := [.pointer (some ⟨nb0_2, 0, none⟩), I r12]) (v := .pointer (some ⟨nb0_2, 0, none⟩)) rfl rfl) ?_
 refine s_val (x_ext (vs := [.pointer (some ⟨nb0_2, 0, none⟩), I r12]) (v := I r12) rfl rfl) ?_
 refine s_val (x_as (v := .pointer (some ⟨nb0_2, 0, none⟩)) rfl) ?_
 refine s_val (x_as (v := I r12) rfl) ?_
 refine s_nil ?_
 refine W.seq ?_
 refine W.seq ?_
 refine W.region rfl ?_
 refine s_val (x_mv (v := I r12) rfl) ?_
 refine s_val (x_cmp (kd := .i64) (a := r12) (b := 0) (r := r12 != 0) rfl rfl rfl) ?_
 refine s_nil ?_
 refine W.cond (r12 != 0) rfl (fun c8z => ?_) (fun c8z => ?_)
 ·replace hM := M.e_t hM c8z
  exact (M.e_fail hM).elim
 replace hM := M.e_f hM c8z
 simp only [decide_eq_true_eq, decide_eq_false_iff_not, beq_iff_eq, bne_iff_ne, beq_eq_false_iff_ne, bne_eq_false_iff_eq, ne_eq, Decidable.not_not] at c8z
 refine W.skip ?_
 refine W.seq ?_
 refine W.region rfl ?_
 refine s_val (x_mv (v := .pointer (some ⟨nb0_2, 0, none⟩)) rfl) ?_
 obtain ⟨r10z, hx9z, hM⟩ := M.e_bind hM
 refine s_call cf89 [.pointer (some ⟨nb0_2, 0, none⟩)] rfl (zdg r__Down r__Travel r__Springs r__Towns r04 r05 r__Floods (hC_r__Down.app _) hs_r__Down (hC_r__Travel.app _) hs_r__Travel (hC_r__Springs.app _) hs_r__Springs (hC_r__Towns.app _) hs_r__Towns (hC_r__Floods.app _) hs_r__Floods (Has.here (k := 0) rfl) hx9z _ ((H.pk [1, 0, 2]).gt 2)) ?_
 rintro vq w11z ⟨r0, r13, r2, u0_5, u1_6, Bs2_7, hr12z, hvq, H2_⟩
 subst hr12z
 subst vq
 try dsimp only at hM
 replace H := H.pk [1, 0, 2] |>.bk H2_
 clear H2_
 refine s_val (x_mv (v := .tuple #[u0_5, u1_6, B r2]) rfl) ?_
 refine s_val (x_ext (vs := [u0_5, u1_6, B r2]) (v := u0_5) rfl rfl) ?_
 refine s_val (x_ext (vs := [u0_5, u1_6, B r2]) (v := u1_6) rfl rfl) ?_
 refine s_val (x_ext (vs := [u0_5, u1_6, B r2]) (v := B r2) rfl rfl) ?_
 refine s_val (x_as (v := u0_5) rfl) ?_
 refine s_val (x_as (v := u1_6) rfl) ?_
 refine s_val (x_as (v := B r2) rfl) ?_
 refine s_nil ?_
 replace H := H.pk [0]
 refine W.seq ?_
 refine W.seq ?_
 refine W.region rfl ?_
 refine s_val (x_mv (v := B r2) rfl) ?_
 refine s_val (x_not (b := r2) rfl) ?_
 refine s_nil ?_
 refine W.cond (!r2) rfl (fun c13z => ?_) (fun c13z => ?_)
 ·replace hM := M.e_t hM c13z
  refine W.seq ?_
  refine W.region rfl ?_
  refine s_val (x_as (v := .slice none 0 0) rfl) ?_
  refine s_val (x_as (v := I 6) rfl) ?_
  refine s_nil ?_
  refine W.ret ?_
  have hr_ := M.e_pure hM
  replace H := H.nilOwn (α := Int) 3
  exact ⟨_, resE_tmp2 rfl, ⟨([]), 6, (.slice none 0 0), hr_, rfl, (H.pk [0])⟩⟩
 replace hM := M.e_f hM c13z
 refine W.skip ?_
 refine W.seq ?_
 refine W.region rfl ?_
 refine s_val (x_mv (v := u0_5) rfl) ?_
 refine s_val (x_as (v := u0_5) rfl) ?_
 refine s_val (x_as (v := I 0) rfl) ?_
 refine s_nil ?_
 refine W.ret ?_
 have hr_ := M.e_pure hM
 exact ⟨_, resE_tmp2 rfl, ⟨r0, 0, u0_5, hr_, rfl, H⟩⟩

def zao (w__River_Down : List Int) (w__River_Travel : List Span) (w__River_Springs : List Int) (w__River_Towns : List Town) (w__River_Delay_Lo : Int) (w__River_Delay_Hi : Int) (w__River_Floods : List Flood) (n : Int) : M Bool :=
  M.bind (zac n 0 ((w__River_Down.length : Int) - 1)) fun r2 =>
  M.pure r2
theorem zbv {R : List Chunk} {b_w_ : Nat} {C_w__River_Down : Cells} {v_w__River_Down : Value} {C_w__River_Travel : Cells} {v_w__River_Travel : Value} {C_w__River_Springs : Cells} {v_w__River_Springs : Value} {C_w__River_Towns : Cells} {v_w__River_Towns : Value} {C_w__River_Floods : Cells} {v_w__River_Floods : Value} {b_w__found : Nat} (w__River_Down : List Int) (w__River_Travel : List Span) (w__River_Springs : List Int) (w__River_Towns : List Town) (w__River_Delay_Lo : Int) (w__River_Delay_Hi : Int) (w__River_Floods : List Flood) (n : Int) (hC_w__River_Down : Reads R C_w__River_Down) (hs_w__River_Down : Sl C_w__River_Down v_w__River_Down w__River_Down) (hC_w__River_Travel : Reads R C_w__River_Travel) (hs_w__River_Travel : Sl C_w__River_Travel v_w__River_Travel w__River_Travel) (hC_w__River_Springs : Reads R C_w__River_Springs) (hs_w__River_Springs : Sl C_w__River_Springs v_w__River_Springs w__River_Springs) (hC_w__River_Towns : Reads R C_w__River_Towns) (hs_w__River_Towns : Sl C_w__River_Towns v_w__River_Towns w__River_Towns) (hC_w__River_Floods : Reads R C_w__River_Floods) (hs_w__River_Floods : Sl C_w__River_Floods v_w__River_Floods w__River_Floods) (h_b_w_ : Has R (cBlk b_w_ [v_w__River_Down, v_w__River_Travel, v_w__River_Springs, v_w__River_Towns, I w__River_Delay_Lo, I w__River_Delay_Hi, v_w__River_Floods, .map (some b_w__found)] 111)) {r : Bool} (hM : (zao w__River_Down w__River_Travel w__River_Springs w__River_Towns w__River_Delay_Lo w__River_Delay_Hi w__River_Floods n).Ends r) (w : World) (H : St w w [] R) : Ret Tryz.prog 73 #[.pointer (some ⟨b_w_, 0, none⟩), I n] w fun v w' => ∃ (y0 : Bool), y0 = r /\ v = B y0 /\ St w w' [] R := by
 refine ret_of_W Tryz.func73 rfl rfl rfl ?_
 refine W.seq ?_
 refine W.region rfl ?_
 refine s_val (x_as (v := B false) rfl) ?_
 refine s_nil ?_
 refine W.seq ?_
 refine W.region rfl ?_
 refine s_val (x_mv (v := I n) rfl) ?_
 refine s_val (x_mv (v := .pointer (some ⟨b_w_, 0, none⟩)) rfl) ?_
 refine s_val (x_nc (a := ⟨b_w_, 0, none⟩) rfl) ?_
 refine s_val (x_fa (a := .pointer (some ⟨b_w_, 0, none⟩)) (v := .pointer (some ⟨b_w_, 0, none⟩)) rfl (fa_blk (o := 0) Fd111_0 Sz29)) ?_
 refine s_val (x_fa (a := .pointer (some ⟨b_w_, 0, none⟩)) (v := .pointer (some ⟨b_w_, 0, none⟩)) rfl (fa_blk (o := 0) Fd29_0 Sz22)) ?_
 refine s_val (x_ld (p := .pointer (some ⟨b_w_, 0, none⟩)) (v := v_w__River_Down) rfl (ldb_sc Sc22 (h_b_w_.blk H) rfl)) ?_
 have hl1z := (hs_w__River_Down).len_le
 refine s_val (x_lenS T22.und rfl hs_w__River_Down) ?_
 refine s_val (x_ari (a := (w__River_Down.length : Int)) (b := 1) (r := (w__River_Down.length : Int) - 1) rfl rfl rfl (by omega)) ?_
 obtain ⟨r3z, hx2z, hM⟩ := M.e_bind hM
 refine s_call cf47 [I n, I 0, I ((w__River_Down.length : Int) - 1)] rfl (zaj n 0 ((w__River_Down.length : Int) - 1) hx2z _ (H.gt 0)) ?_
 rintro vq w4z ⟨r2, hr5z, hvq, H2_⟩
 subst hr5z
 subst vq
 try dsimp only at hM
 replace H := H.bk H2_
 clear H2_
 refine s_val (x_as (v := B r2) rfl) ?_
 refine s_nil ?_
 refine W.ret ?_
 have hr_ := M.e_pure hM
 exact ⟨_, resE_tmp rfl, ⟨r2, hr_, rfl, H⟩⟩

def zaw (r__Down : List Int) (r__Travel : List Span) (r__Springs : List Int) (r__Towns : List Town) (r__Delay_Lo : Int) (r__Delay_Hi : Int) (r__Floods : List Flood) (watch : Int) (town : Int) : M (Int × Int × Int) :=
  M.bind (zal r__Down r__Travel r__Springs r__Towns r__Delay_Lo r__Delay_Hi r__Floods) fun x_ => match x_ with
  | (.inl r1) => (
  bif r1 != 0 then (
  M.pure (0, 0, r1))
  else (
  M.fail))
  | (.inr (r04, r05, r12)) => (
  bif r12 != 0 then (
  M.fail)
  else (
  M.bind (zao r__Down r__Travel r__Springs r__Towns r04 r05 r__Floods watch) fun r2 =>
  M.bind (M.opt (!(!r2)) (zac town 0 ((r__Towns.length : Int) - 1)) false) fun r3 =>
  bif ((!r2) || (!r3)) then (
  M.pure (0, 0, 2))
  else (
  M.grd (decide ((0 : Int) <= town) && decide (town < (r__Towns.length : Int))) <|
  M.bind (zat r__Down r__Travel r__Springs r__Towns r04 r05 r__Floods watch ((r__Towns.getD (Int.toNat town) default).station)) fun (r00, r01, r13) =>
  bif !r13 then (
  M.pure (0, 0, 5))
  else (
  M.grd (decide (-9223372036854775807 <= r__Delay_Hi) && decide (r__Delay_Hi <= 9223372036854775807)) <|
  M.grd (decide (-9223372036854775807 <= r__Delay_Lo) && decide (r__Delay_Lo <= 9223372036854775807)) <|
  M.bind (zbu ([(⟨(r00 : Int), (r01 : Int)⟩ : Span), (⟨(-r__Delay_Hi : Int), (-r__Delay_Lo : Int)⟩ : Span)])) fun (r0, r14) =>
  M.pure (r0, r14, 0)))))
theorem zcT {R : List Chunk} {C_r__Down : Cells} {v_r__Down : Value} {C_r__Travel : Cells} {v_r__Travel : Value} {C_r__Springs : Cells} {v_r__Springs : Value} {C_r__Towns : Cells} {v_r__Towns : Value} {C_r__Floods : Cells} {v_r__Floods : Value} (r__Down : List Int) (r__Travel : List Span) (r__Springs : List Int) (r__Towns : List Town) (r__Delay_Lo : Int) (r__Delay_Hi : Int) (r__Floods : List Flood) (watch : Int) (town : Int) (hC_r__Down : Reads R C_r__Down) (hs_r__Down : Sl C_r__Down v_r__Down r__Down) (hC_r__Travel : Reads R C_r__Travel) (hs_r__Travel : Sl C_r__Travel v_r__Travel r__Travel) (hC_r__Springs : Reads R C_r__Springs) (hs_r__Springs : Sl C_r__Springs v_r__Springs r__Springs) (hC_r__Towns : Reads R C_r__Towns) (hs_r__Towns : Sl C_r__Towns v_r__Towns r__Towns) (hC_r__Floods : Reads R C_r__Floods) (hs_r__Floods : Sl C_r__Floods v_r__Floods r__Floods) {r : (Int × Int × Int)} (hM : (zaw r__Down r__Travel r__Springs r__Towns r__Delay_Lo r__Delay_Hi r__Floods watch town).Ends r) (w : World) (H : St w w [] R) : Ret Tryz.prog 25 #[.agg #[v_r__Down, v_r__Travel, v_r__Springs, v_r__Towns, I r__Delay_Lo, I r__Delay_Hi, v_r__Floods], I watch, I town] w fun v w' => ∃ (y0 : Int) (y1 : Int) (y2 : Int), (y0, y1, y2) = r /\ v = .tuple #[.agg #[I y0, I y1], I y2] /\ St w w' [] R := by
 refine ret_of_W Tryz.func25 rfl rfl rfl ?_
 refine W.seq ?_
 refine W.region rfl ?_
 refine t_box (v := .agg #[v_r__Down, v_r__Travel, v_r__Springs, v_r__Towns, I r__Delay_Lo, I r__Delay_Hi, v_r__Floods]) (cs := [v_r__Down, v_r__Travel, v_r__Springs, v_r__Towns, I r__Delay_Lo, I r__Delay_Hi, v_r__Floods]) H rfl rfl ?_
 intro b_1 w1z H
 refine t_alloc (cs := [I 0, I 0]) H Al26 rfl ?_
 intro b_2 w2z H
 refine s_val (x_as (v := I 0) rfl) ?_
 refine s_nil ?_
 refine W.seq ?_
 refine W.region rfl ?_
 refine s_val (x_ld (p := .pointer (some ⟨b_1, 0, none⟩)) (v := .agg #[v_r__Down, v_r__Travel, v_r__Springs, v_r__Towns, I r__Delay_Lo, I r__Delay_Hi, v_r__Floods]) rfl (ldb_ag (ds := [v_r__Down, v_r__Travel, v_r__Springs, v_r__Towns, I r__Delay_Lo, I r__Delay_Hi, v_r__Floods]) Ag29 Sz29 (H.blk (k := 1) rfl) rfl rfl)) ?_
 obtain ⟨r4z, hx3z, hM⟩ := M.e_bind hM
 refine s_call cf72 [.agg #[v_r__Down, v_r__Travel, v_r__Springs, v_r__Towns, I r__Delay_Lo, I r__Delay_Hi, v_r__Floods]] rfl (zaS r__Down r__Travel r__Springs r__Towns r__Delay_Lo r__Delay_Hi r__Floods (hC_r__Down.app _) hs_r__Down (hC_r__Travel.app _) hs_r__Travel (hC_r__Springs.app _) hs_r__Springs (hC_r__Towns.app _) hs_r__Towns (hC_r__Floods.app _) hs_r__Floods hx3z _ (H.gt 2)) ?_
 rintro vq w5z (⟨r1, hr6z, hvq, H2_⟩ | ⟨r04, r05, r12, nb0_3, nb1_4, Bs2_5, hr7z, hvq, H2_⟩)
 ·subst hr6z
  subst vq
  try dsimp only at hM
  replace H := H.bk H2_
  clear H2_
  refine s_val (x_mv (v := .tuple #[.pointer none, I r1]) rfl) ?_
  refine s_val (x_ext (vs := [.pointer none, I r1]) (v := .pointer none) rfl rfl) ?_
  refine s_val (x_ext (vs := [.pointer none, I r1]) (v := I r1) rfl rfl) ?_
  refine s_val (x_as (v := .pointer none) rfl) ?_
  refine s_val (x_as (v := I r1) rfl) ?_
  refine s_nil ?_
  refine W.seq ?_
  refine W.block ?_
  refine W.seq ?_
  refine W.region rfl ?_
  refine s_val (x_mv (v := I r1) rfl) ?_
  refine s_val (x_cmp (kd := .i64) (a := r1) (b := 0) (r := r1 != 0) rfl rfl rfl) ?_
  refine s_val (x_as (v := B (r1 != 0)) rfl) ?_
  refine s_nil ?_
  refine W.cond (r1 != 0) rfl (fun c8z => ?_) (fun c8z => ?_)
  ·replace hM := M.e_t hM c8z
   simp only [decide_eq_true_eq, decide_eq_false_iff_not, beq_iff_eq, bne_iff_ne, beq_eq_false_iff_ne, bne_eq_false_iff_eq, ne_eq, Decidable.not_not] at c8z
   refine W.seq ?_
   refine W.region rfl ?_
   refine s_val (x_bld (ps := []) (zs := [I 0, I 0]) (L' := [I 0, I 0]) rfl Tryz.underlying26 Al26 rfl (Bd26 Tryz.underlying26) (.nil)) ?_
   refine s_val (x_mv (v := I r1) rfl) ?_
   refine t_sw 0 0 [I 0, I 0] (.agg #[I 0, I 0]) H rfl rfl Sz26 rfl rfl rfl rfl ?_
   intro w9z H
   refine s_val (x_as (v := I r1) rfl) ?_
   refine s_nil ?_
   refine W.ret ?_
   have hb10z := (H.blk (k := 0) rfl)
   have hr_ := M.e_pure hM
   exact ⟨_, (resE_ofn (vs := [.agg #[I 0, I 0], I r1]) rfl rfl (.cell (v := .agg #[I 0, I 0]) rfl (run_loadVar_ag (ds := [I 0, I 0]) Ag26 Sz26 hb10z rfl rfl) <| .tmp (v := I r1) rfl <| .nil)), ⟨0, 0, r1, hr_, rfl, (H.pk [])⟩⟩
  replace hM := M.e_f hM c8z
  exact (M.e_fail hM).elim
 subst hr7z
 subst vq
 try dsimp only at hM
 replace H := H.bk H2_
 clear H2_
 refine s_val (x_mv (v := .tuple #[.pointer (some ⟨nb0_3, 0, none⟩), I r12]) rfl) ?_
 refine s_val (x_ext (vs := [.pointer (some ⟨nb0_3, 0, none⟩), I r12]) (v := .pointer (some ⟨nb0_3, 0, none⟩)) rfl rfl) ?_
 refine s_val (x_ext (vs := [.pointer (some ⟨nb0_3, 0, none⟩), I r12]) (v := I r12) rfl rfl) ?_
 refine s_val (x_as (v := .pointer (some ⟨nb0_3, 0, none⟩)) rfl) ?_
 refine s_val (x_as (v := I r12) rfl) ?_
 refine s_nil ?_
 refine W.seq ?_
 refine W.block ?_
 refine W.seq ?_
 refine W.region rfl ?_
 refine s_val (x_mv (v := I r12) rfl) ?_
 refine s_val (x_cmp (kd := .i64) (a := r12) (b := 0) (r := r12 != 0) rfl rfl rfl) ?_
 refine s_val (x_as (v := B (r12 != 0)) rfl) ?_
 refine s_nil ?_
 refine W.cond (r12 != 0) rfl (fun c11z => ?_) (fun c11z => ?_)
 ·replace hM := M.e_t hM c11z
  exact (M.e_fail hM).elim
 replace hM := M.e_f hM c11z
 simp only [decide_eq_true_eq, decide_eq_false_iff_not, beq_iff_eq, bne_iff_ne, beq_eq_false_iff_ne, bne_eq_false_iff_eq, ne_eq, Decidable.not_not] at c11z
 refine W.seq ?_
 refine W.region rfl ?_
 refine s_val (x_mv (v := .pointer (some ⟨nb0_3, 0, none⟩)) rfl) ?_
 refine s_val (x_mv (v := I watch) rfl) ?_
 obtain ⟨r13z, hx12z, hM⟩ := M.e_bind hM
 refine s_call cf73 [.pointer (some ⟨nb0_3, 0, none⟩), I watch] rfl (zbv r__Down r__Travel r__Springs r__Towns r04 r05 r__Floods watch (hC_r__Down.app _) hs_r__Down (hC_r__Travel.app _) hs_r__Travel (hC_r__Springs.app _) hs_r__Springs (hC_r__Towns.app _) hs_r__Towns (hC_r__Floods.app _) hs_r__Floods (Has.here (k := 0) rfl) hx12z _ (H.gt 4)) ?_
 rintro vq w14z ⟨r2, hr15z, hvq, H2_⟩
 subst hr15z
 subst vq
 try dsimp only at hM
 replace H := H.bk H2_
 clear H2_
 refine s_val (x_not (b := r2) rfl) ?_
 refine s_val (x_mv (v := B (!r2)) rfl) ?_
 refine g_val (!(!r2)) (gy_f rfl) (fun hg => x_mv (v := I town) rfl) ?_
 refine g_val (!(!r2)) (gy_f rfl) (fun hg => x_fa (a := .pointer (some ⟨b_1, 0, none⟩)) (v := .pointer (some ⟨b_1, 3, none⟩)) rfl (fa_blk (o := 0) Fd29_3 Sz24)) ?_
 refine g_val (!(!r2)) (gy_f rfl) (fun hg => x_ld (p := .pointer (some ⟨b_1, 3, none⟩)) (v := v_r__Towns) (gd_of (c := !(!r2)) hg (.pointer (some ⟨b_1, 3, none⟩))) (ldb_sc Sc24 (H.blk (k := 3) rfl) rfl)) ?_
 have hl16z := (hs_r__Towns).len_le
 refine g_val (!(!r2)) (gy_f rfl) (fun hg => x_lenS T24.und (gd_of (c := !(!r2)) hg (v_r__Towns)) hs_r__Towns) ?_
 refine g_val (!(!r2)) (gy_f rfl) (fun hg => x_ari (a := (r__Towns.length : Int)) (b := 1) (r := (r__Towns.length : Int) - 1) (gd_of (c := !(!r2)) hg (I (r__Towns.length : Int))) rfl rfl (by first | omega | (have hx_ := hg; simp at hx_; omega))) ?_
 obtain ⟨r3, hx17z, hM⟩ := M.e_bind hM
 refine t_gcall (!(!r2)) (gy_f rfl) cf47 (B r3) (fun _ => [I town, I 0, I ((r__Towns.length : Int) - 1)]) (fun hg => lst3 (gd_of (c := !(!r2)) hg (I town)) rfl (gd_of (c := !(!r2)) hg (I ((r__Towns.length : Int) - 1)))) H (fun hg => (zaj town 0 ((r__Towns.length : Int) - 1) (M.e_opt hx17z hg) _ (H.give (A := []) rfl)).mono fun v_ w_ ⟨y_, hr_, hv_, H_⟩ => by subst hr_; exact ⟨hv_, H.via H_⟩) ?_
 intro w18z H
 refine g_val (!(!r2)) (gy_f rfl) (fun hg => x_not (b := r3) (gd_of (c := !(!r2)) hg (B r3))) ?_
 refine s_val (x_por (b := !r2) (r := !r3) rfl rfl (fun hb => gd_of (c := !(!r2)) (by first | exact hb | (rw [hb]; rfl) | simp_all) (B (!r3)))) ?_
 refine s_val (x_as (v := B ((!r2) || (!r3))) rfl) ?_
 refine s_nil ?_
 refine W.cond ((!r2) || (!r3)) rfl (fun c19z => ?_) (fun c19z => ?_)
 ·replace hM := M.e_t hM c19z
  refine W.seq ?_
  refine W.region rfl ?_
  refine s_val (x_bld (ps := []) (zs := [I 0, I 0]) (L' := [I 0, I 0]) rfl Tryz.underlying26 Al26 rfl (Bd26 Tryz.underlying26) (.nil)) ?_
  refine t_sw 2 0 [I 0, I 0] (.agg #[I 0, I 0]) H rfl rfl Sz26 rfl rfl rfl rfl ?_
  intro w20z H
  refine s_val (x_as (v := I 2) rfl) ?_
  refine s_nil ?_
  replace H := H.pk [2]
  refine W.ret ?_
  have hb21z := (H.blk (k := 0) rfl)
  have hr_ := M.e_pure hM
  exact ⟨_, (resE_ofn (vs := [.agg #[I 0, I 0], I 2]) rfl rfl (.cell (v := .agg #[I 0, I 0]) rfl (run_loadVar_ag (ds := [I 0, I 0]) Ag26 Sz26 hb21z rfl rfl) <| .tmp (v := I 2) rfl <| .nil)), ⟨0, 0, 2, hr_, rfl, (H.pk [])⟩⟩
 replace hM := M.e_f hM c19z
 refine W.skip ?_
 refine W.seq ?_
 refine W.region rfl ?_
 refine s_val (x_mv (v := .pointer (some ⟨nb0_3, 0, none⟩)) rfl) ?_
 refine s_val (x_mv (v := I watch) rfl) ?_
 refine s_val (x_fa (a := .pointer (some ⟨b_1, 0, none⟩)) (v := .pointer (some ⟨b_1, 3, none⟩)) rfl (fa_blk (o := 0) Fd29_3 Sz24)) ?_
 refine s_val (x_ld (p := .pointer (some ⟨b_1, 3, none⟩)) (v := v_r__Towns) rfl (ldb_sc Sc24 (H.blk (k := 3) rfl) rfl)) ?_
 refine s_val (x_mv (v := I town) rfl) ?_
 obtain ⟨sd22z, hM⟩ := M.e_grd hM
 simp only [Bool.and_eq_true, decide_eq_true_eq] at sd22z
 refine s_val (x_ix (a := v_r__Towns) (b := I town) (v := vat v_r__Towns 3 (Int.toNat town)) rfl rfl (Sl.ix (α := Town) T24.und T24.size hs_r__Towns (by omega) (by omega))) ?_
 refine s_val (x_fa (a := vat v_r__Towns 3 (Int.toNat town)) (v := fat (vat v_r__Towns 3 (Int.toNat town)) 0) rfl (fa_pl Fd91_0 Sz3 (Sl.pl (i := town) hs_r__Towns (by omega) (by omega)))) ?_
 refine s_val (x_ld (p := fat (vat v_r__Towns 3 (Int.toNat town)) 0) (v := I ((r__Towns.getD (Int.toNat town) default).station)) rfl (ld_sc Sc3 (At.mono (Town_at0 hs_r__Towns (i := town) (by omega) (by omega)) (hC_r__Towns.at H)))) ?_
 obtain ⟨r24z, hx23z, hM⟩ := M.e_bind hM
 refine s_call cf74 [.pointer (some ⟨nb0_3, 0, none⟩), I watch, I ((r__Towns.getD (Int.toNat town) default).station)] rfl (zbB r__Down r__Travel r__Springs r__Towns r04 r05 r__Floods watch ((r__Towns.getD (Int.toNat town) default).station) (hC_r__Down.app _) hs_r__Down (hC_r__Travel.app _) hs_r__Travel (hC_r__Springs.app _) hs_r__Springs (hC_r__Towns.app _) hs_r__Towns (hC_r__Floods.app _) hs_r__Floods (Has.here (k := 0) rfl) hx23z _ (H.gt 4)) ?_
 rintro vq w25z ⟨r00, r01, r13, hr26z, hvq, H2_⟩
 subst hr26z
 subst vq
 try dsimp only at hM
 replace H := H.bk H2_
 clear H2_
 refine s_val (x_mv (v := .tuple #[.agg #[I r00, I r01], B r13]) rfl) ?_
 refine s_val (x_ext (vs := [.agg #[I r00, I r01], B r13]) (v := .agg #[I r00, I r01]) rfl rfl) ?_
 refine s_val (x_ext (vs := [.agg #[I r00, I r01], B r13]) (v := B r13) rfl rfl) ?_
 refine t_alloc (cs := [I 0, I 0]) H Al26 rfl ?_
 intro b_6 w27z H
 refine t_sw 0 0 [I r00, I r01] (.agg #[I r00, I r01]) H rfl rfl Sz26 rfl rfl rfl rfl ?_
 intro w28z H
 refine s_val (x_as (v := B r13) rfl) ?_
 refine s_nil ?_
 replace H := H.pk [0, 3, 4]
 refine W.seq ?_
 refine W.seq ?_
 refine W.region rfl ?_
 refine s_val (x_mv (v := B r13) rfl) ?_
 refine s_val (x_not (b := r13) rfl) ?_
 refine s_nil ?_
 refine W.cond (!r13) rfl (fun c29z => ?_) (fun c29z => ?_)
 ·replace hM := M.e_t hM c29z
  refine W.seq ?_
  refine W.region rfl ?_
  refine s_val (x_bld (ps := []) (zs := [I 0, I 0]) (L' := [I 0, I 0]) rfl Tryz.underlying26 Al26 rfl (Bd26 Tryz.underlying26) (.nil)) ?_
  refine t_sw 1 0 [I 0, I 0] (.agg #[I 0, I 0]) H rfl rfl Sz26 rfl rfl rfl rfl ?_
  intro w30z H
  refine s_val (x_as (v := I 5) rfl) ?_
  refine s_nil ?_
  replace H := H.pk [1]
  refine W.ret ?_
  have hb31z := (H.blk (k := 0) rfl)
  have hr_ := M.e_pure hM
  exact ⟨_, (resE_ofn (vs := [.agg #[I 0, I 0], I 5]) rfl rfl (.cell (v := .agg #[I 0, I 0]) rfl (run_loadVar_ag (ds := [I 0, I 0]) Ag26 Sz26 hb31z rfl rfl) <| .tmp (v := I 5) rfl <| .nil)), ⟨0, 0, 5, hr_, rfl, (H.pk [])⟩⟩
 replace hM := M.e_f hM c29z
 refine W.skip ?_
 refine W.seq ?_
 refine W.region rfl ?_
 refine s_val (x_ld (p := .pointer (some ⟨b_6, 0, none⟩)) (v := .agg #[I r00, I r01]) rfl (ldb_ag (ds := [I r00, I r01]) Ag26 Sz26 (H.blk (k := 0) rfl) rfl rfl)) ?_
 refine s_val (x_fa (a := .pointer (some ⟨b_1, 0, none⟩)) (v := .pointer (some ⟨b_1, 4, none⟩)) rfl (fa_blk (o := 0) Fd29_4 Sz26)) ?_
 refine s_val (x_fa (a := .pointer (some ⟨b_1, 4, none⟩)) (v := .pointer (some ⟨b_1, 5, none⟩)) rfl (fa_blk (o := 4) Fd26_1 Sz3)) ?_
 refine s_val (x_ld (p := .pointer (some ⟨b_1, 5, none⟩)) (v := I r__Delay_Hi) rfl (ldb_sc Sc3 (H.blk (k := 2) rfl) rfl)) ?_
 obtain ⟨sd32z, hM⟩ := M.e_grd hM
 simp only [Bool.and_eq_true, decide_eq_true_eq] at sd32z
 refine s_val (x_neg (a := r__Delay_Hi) rfl (by omega)) ?_
 refine s_val (x_fa (a := .pointer (some ⟨b_1, 0, none⟩)) (v := .pointer (some ⟨b_1, 4, none⟩)) rfl (fa_blk (o := 0) Fd29_4 Sz26)) ?_
 refine s_val (x_fa (a := .pointer (some ⟨b_1, 4, none⟩)) (v := .pointer (some ⟨b_1, 4, none⟩)) rfl (fa_blk (o := 4) Fd26_0 Sz3)) ?_
 refine s_val (x_ld (p := .pointer (some ⟨b_1, 4, none⟩)) (v := I r__Delay_Lo) rfl (ldb_sc Sc3 (H.blk (k := 2) rfl) rfl)) ?_
 obtain ⟨sd33z, hM⟩ := M.e_grd hM
 simp only [Bool.and_eq_true, decide_eq_true_eq] at sd33z
 refine s_val (x_neg (a := r__Delay_Lo) rfl (by omega)) ?_
 refine s_val (x_bld (ps := [(0, I (-r__Delay_Hi)), (1, I (-r__Delay_Lo))]) (zs := [I 0, I 0]) (L' := [I (-r__Delay_Hi), I (-r__Delay_Lo)]) rfl Tryz.underlying26 Al26 rfl (Bd26 Tryz.underlying26) (.cons (cs := [I (-r__Delay_Hi)]) rfl rfl rfl rfl rfl <| .cons (cs := [I (-r__Delay_Lo)]) rfl rfl rfl rfl rfl <| .nil)) ?_
 refine t_bs (α := Span) T23 [.agg #[I r00, I r01], .agg #[I (-r__Delay_Hi), I (-r__Delay_Lo)]] [(⟨(r00 : Int), (r01 : Int)⟩ : Span), (⟨(-r__Delay_Hi : Int), (-r__Delay_Lo : Int)⟩ : Span)] H rfl (.cons rfl (Flat.rep_enc _ (⟨(r00 : Int), (r01 : Int)⟩ : Span)) <| .cons rfl (Flat.rep_enc _ (⟨(-r__Delay_Hi : Int), (-r__Delay_Lo : Int)⟩ : Span)) <| .nil) rfl rfl rfl ?_
 intro v34z w35z H
 obtain ⟨r37z, hx36z, hM⟩ := M.e_bind hM
 refine s_call cf76 [v34z] rfl (zcM ([(⟨(r00 : Int), (r01 : Int)⟩ : Span), (⟨(-r__Delay_Hi : Int), (-r__Delay_Lo : Int)⟩ : Span)]) (Reads.of (k := 0) rfl ownLe) (ownSl (H.get (k := 0) rfl)) hx36z _ (H.gt 4)) ?_
 rintro vq w38z ⟨r0, r14, hr39z, hvq, H2_⟩
 subst hr39z
 subst vq
 try dsimp only at hM
 replace H := H.bk H2_
 clear H2_
 refine t_sw 2 0 [I r0, I r14] (.agg #[I r0, I r14]) H rfl rfl Sz26 rfl rfl rfl rfl ?_
 intro w40z H
 refine s_val (x_as (v := I 0) rfl) ?_
 refine s_nil ?_
 replace H := H.pk [2]
 refine W.ret ?_
 have hb41z := (H.blk (k := 0) rfl)
 have hr_ := M.e_pure hM
 exact ⟨_, (resE_ofn (vs := [.agg #[I r0, I r14], I 0]) rfl rfl (.cell (v := .agg #[I r0, I r14]) rfl (run_loadVar_ag (ds := [I r0, I r14]) Ag26 Sz26 hb41z rfl rfl) <| .tmp (v := I 0) rfl <| .nil)), ⟨r0, r14, 0, hr_, rfl, (H.pk [])⟩⟩

def za8 (a : List Int) (b : List Int) : Nat -> M (Nat ⊕ (Unit ⊕ Unit)) := fun i =>
  bif decide ((i : Int) < (a.length : Int)) then (
  M.grd (decide ((i : Int) < (a.length : Int))) <|
  M.grd (decide ((i : Int) < (b.length : Int))) <|
  bif (a.getD i 0) != (b.getD i 0) then (
  M.pure (.inr (.inl ())))
  else (
  M.pure (.inl (i + 1))))
  else (
  M.pure (.inr (.inr ())))
def zad (a : List Int) (b : List Int) : M Bool :=
  bif (a.length : Int) != (b.length : Int) then (
  M.pure false)
  else (
  M.bind (M.iter (za8 a b) 0) fun x_ => match x_ with
  | (.inl (_ : Unit)) => (
  M.pure false)
  | (.inr (_ : Unit)) => (
  M.pure true))
theorem zai {R : List Chunk} {C_a : Cells} {v_a : Value} {C_b : Cells} {v_b : Value} (a : List Int) (b : List Int) (hC_a : Reads R C_a) (hs_a : Sl C_a v_a a) (hC_b : Reads R C_b) (hs_b : Sl C_b v_b b) {r : Bool} (hM : (zad a b).Ends r) (w : World) (H : St w w [] R) : Ret Tryz.prog 15 #[v_a, v_b] w fun v w' => ∃ (y0 : Bool), y0 = r /\ v = B y0 /\ St w w' [] R := by
 refine ret_of_W Tryz.func15 rfl rfl rfl ?_
 refine W.seq ?_
 refine W.region rfl ?_
 refine s_val (x_as (v := B false) rfl) ?_
 refine s_nil ?_
 refine W.seq ?_
 refine W.seq ?_
 refine W.region rfl ?_
 refine s_val (x_mv (v := v_a) rfl) ?_
 have hl1z := (hs_a).len_le
 refine s_val (x_lenS T22.und rfl hs_a) ?_
 refine s_val (x_mv (v := v_b) rfl) ?_
 have hl2z := (hs_b).len_le
 refine s_val (x_lenS T22.und rfl hs_b) ?_
 refine s_val (x_cmp (kd := .i64) (a := (a.length : Int)) (b := (b.length : Int)) (r := (a.length : Int) != (b.length : Int)) rfl rfl rfl) ?_
 refine s_nil ?_
 refine W.cond ((a.length : Int) != (b.length : Int)) rfl (fun c3z => ?_) (fun c3z => ?_)
 ·replace hM := M.e_t hM c3z
  simp only [decide_eq_true_eq, decide_eq_false_iff_not, beq_iff_eq, bne_iff_ne, beq_eq_false_iff_ne, bne_eq_false_iff_eq, ne_eq, Decidable.not_not] at c3z
  refine W.seq ?_
  refine W.region rfl ?_
  refine s_val (x_as (v := B false) rfl) ?_
  refine s_nil ?_
  refine W.ret ?_
  have hr_ := M.e_pure hM
  exact ⟨_, resE_tmp rfl, ⟨false, hr_, rfl, H⟩⟩
 replace hM := M.e_f hM c3z
 simp only [decide_eq_true_eq, decide_eq_false_iff_not, beq_iff_eq, bne_iff_ne, beq_eq_false_iff_ne, bne_eq_false_iff_eq, ne_eq, Decidable.not_not] at c3z
 refine W.skip ?_
 refine W.seq ?_
 refine W.seq ?_
 refine W.region rfl ?_
 refine s_val (x_as (v := I 0) rfl) ?_
 refine s_nil ?_
 refine W.block ?_
 obtain ⟨ex4z, hi5z, hk6z⟩ := M.e_bind hM
 obtain ⟨m0_, hi5z⟩ := M.e_iter hi5z
 refine W.loop (fun m σ W => ∃ (i : Nat) (ρ : Env), σ = upds ρ [(0, v_a), (1, v_b), (5, I (i : Int))] /\ M.iterN (za8 a b) m i = some ex4z /\ St w W [] R) ?_ ?_
 ·exact ⟨_, 0, _, upds_of _ _ ⟨rfl, rfl, rfl, trivial⟩, hi5z, H⟩
 rintro m9z σ w7z ⟨i, ρ, rfl, hI8z, H⟩
 obtain ⟨m10z, lt11z, x12z, hM, hN13z⟩ := M.e_iterN hI8z
 simp only [za8] at hM
 clear hI8z
 refine W.seq ?_
 refine W.seq ?_
 refine W.region rfl ?_
 refine s_val (x_mv (v := I (i : Int)) rfl) ?_
 refine s_val (x_mv (v := v_a) rfl) ?_
 have hl14z := (hs_a).len_le
 refine s_val (x_lenS T22.und rfl hs_a) ?_
 refine s_val (x_cmp (kd := .i64) (a := (i : Int)) (b := (a.length : Int)) (r := decide ((i : Int) < (a.length : Int))) rfl rfl rfl) ?_
 refine s_nil ?_
 refine W.cond (decide ((i : Int) < (a.length : Int))) rfl (fun c15z => ?_) (fun c15z => ?_)
 ·replace hM := M.e_t hM c15z
  simp only [decide_eq_true_eq, decide_eq_false_iff_not, beq_iff_eq, bne_iff_ne, beq_eq_false_iff_ne, bne_eq_false_iff_eq, ne_eq, Decidable.not_not] at c15z
  refine W.skip ?_
  refine W.seq ?_
  refine W.block ?_
  refine W.seq ?_
  refine W.draw (fun W => St w W [] R) [(0, true), (1, true), (2, true), (3, true), (4, true), (5, true), (6, true), (7, true), (8, true)] mixed (by decide +kernel) rfl ?_
  intro w16z hx_
  replace H := H.ext hx_
  clear hx_
  refine ⟨(H.pk []), ?_⟩
  refine d_q rfl (fun w' H => x_mv (v := v_a) rfl) ?_
  refine d_q rfl (fun w' H => x_mv (v := I (i : Int)) rfl) ?_
  obtain ⟨sd17z, hM⟩ := M.e_grd hM
  simp only [Bool.and_eq_true, decide_eq_true_eq] at sd17z
  refine d_q rfl (fun w' H => x_ix (a := v_a) (b := I (i : Int)) (v := vat v_a 1 (Int.toNat (i : Int))) rfl rfl (Sl.ix (α := Int) T22.und T22.size hs_a (by omega) (by omega))) ?_
  refine d_q rfl (fun w' H => x_ld (p := vat v_a 1 (Int.toNat (i : Int))) (v := I (a.getD i 0)) rfl (ld_sc Sc3 (At.mono (Int_at hs_a (i := (i : Int)) (by omega) (by omega)) (hC_a.at H)))) ?_
  refine d_q rfl (fun w' H => x_mv (v := v_b) rfl) ?_
  refine d_q rfl (fun w' H => x_mv (v := I (i : Int)) rfl) ?_
  obtain ⟨sd18z, hM⟩ := M.e_grd hM
  simp only [Bool.and_eq_true, decide_eq_true_eq] at sd18z
  refine d_q rfl (fun w' H => x_ix (a := v_b) (b := I (i : Int)) (v := vat v_b 1 (Int.toNat (i : Int))) rfl rfl (Sl.ix (α := Int) T22.und T22.size hs_b (by omega) (by omega))) ?_
  refine d_q rfl (fun w' H => x_ld (p := vat v_b 1 (Int.toNat (i : Int))) (v := I (b.getD i 0)) rfl (ld_sc Sc3 (At.mono (Int_at hs_b (i := (i : Int)) (by omega) (by omega)) (hC_b.at H)))) ?_
  refine d_q rfl (fun w' H => x_cmp (kd := .i64) (a := a.getD i 0) (b := b.getD i 0) (r := (a.getD i 0) != (b.getD i 0)) rfl rfl rfl) ?_
  refine d_nil ?_
  refine W.cond ((a.getD i 0) != (b.getD i 0)) rfl (fun c19z => ?_) (fun c19z => ?_)
  ·replace hM := M.e_t hM c19z
   simp only [decide_eq_true_eq, decide_eq_false_iff_not, beq_iff_eq, bne_iff_ne, beq_eq_false_iff_ne, bne_eq_false_iff_eq, ne_eq, Decidable.not_not] at c19z
   refine W.seq ?_
   refine W.region rfl ?_
   refine s_val (x_as (v := B false) rfl) ?_
   refine s_nil ?_
   refine W.ret ?_
   have hX20z := M.e_inr hM hN13z
   subst hX20z
   replace hM := hk6z
   try dsimp only at hM
   have hr_ := M.e_pure hM
   exact ⟨_, resE_tmp rfl, ⟨false, hr_, rfl, H⟩⟩
  replace hM := M.e_f hM c19z
  simp only [decide_eq_true_eq, decide_eq_false_iff_not, beq_iff_eq, bne_iff_ne, beq_eq_false_iff_ne, bne_eq_false_iff_eq, ne_eq, Decidable.not_not] at c19z
  refine W.skip ?_
  refine W.region rfl ?_
  refine s_val (x_mv (v := I (i : Int)) rfl) ?_
  refine s_val (x_ari (a := (i : Int)) (b := 1) (r := (i : Int) + 1) rfl rfl rfl (by omega)) ?_
  refine s_val (x_as (v := I ((i : Int) + 1)) rfl) ?_
  refine s_nil ?_
  exact ⟨m10z, lt11z, i + 1, _, upds_of _ _ ⟨rfl, rfl, rfl, trivial⟩, M.e_inl hM hN13z, H⟩
 replace hM := M.e_f hM c15z
 simp only [decide_eq_true_eq, decide_eq_false_iff_not, beq_iff_eq, bne_iff_ne, beq_eq_false_iff_ne, bne_eq_false_iff_eq, ne_eq, Decidable.not_not] at c15z
 refine W.exit ?_
 have hX21z := M.e_inr hM hN13z
 subst hX21z
 replace hM := hk6z
 try dsimp only at hM
 refine W.seq ?_
 refine W.region rfl ?_
 refine s_val (x_as (v := B true) rfl) ?_
 refine s_nil ?_
 refine W.ret ?_
 have hr_ := M.e_pure hM
 exact ⟨_, resE_tmp rfl, ⟨true, hr_, rfl, H⟩⟩

end Go.Proofs.YtbaehghammbjdaaGreat
end
