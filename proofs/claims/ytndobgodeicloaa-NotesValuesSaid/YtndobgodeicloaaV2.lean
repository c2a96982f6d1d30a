/- Part 2 of the texts on which the proof rests. Conditions: none. -/
import Derived.Test.YtndobgodeicloaaV1
set_option linter.unusedVariables false
set_option linter.unusedSimpArgs false
set_option linter.unusedSectionVars false
namespace Go.Proofs.Ytndobgodeicloaa
open Go Go.Nm
set_option maxRecDepth 100000 in
theorem index_int {vl : Value} {l : List Int} (n : Int) (w : World) (hl : Sl w.cell? vl l) : Ret Try.prog 100 #[vl, I n] w fun v w' => v = I (idxI l n) ∧ Ext w w' := by
 refine ret_of_W Try.func100 rfl rfl rfl ?_
 have E := Ext.refl w
 have K1 := KF.refl 0 w
 have hl_hl := hl.len_le
 have hl := hl.par
 refine W.seq <| W.region rfl <| s_val (x_as (v := I 0) rfl) <| s_nil <| W.seq <| W.seq <| W.region rfl <| s_val (x_mv (v := vl) rfl) ?_
 refine s_val (x_lenS T34.und rfl (hl.to K1)) <| s_val (x_mv (v := I 0) rfl) <| s_nil <| W.block ?_
 refine W.loop (fun m σ W => ∃ (k : Nat) (ρ : Env), σ = upds ρ [(0, vl), (1, I n), (7, I l.length), (8, I k)] ∧ m = l.length - k ∧ Ext w W ∧ KF 0 w W ∧ k ≤ l.length ∧ (∀ y ∈ l.take k, (fun x : Int => n == x) y = false)) ?_ ?_
 ·exact ⟨_, 0, _, upds_of _ _ ⟨rfl, rfl, rfl, (eqI (by omega)), trivial⟩, rfl, E, K1, Nat.zero_le _, (by simp)⟩
 ·rintro m σ w2 ⟨k, ρ, rfl, rfl, E, K1, iv0_0, iv0_1⟩
  refine W.seq <| W.region rfl <| s_val (x_cmp (kd := .i64) (a := k) (b := l.length) (r := decide ((k : Int) < l.length)) rfl rfl rfl) <| s_nil <| W.seq ?_
  refine W.cond (decide ((k : Int) < l.length)) rfl (fun c3 => ?_) (fun c3 => ?_)
  ·simp only [q1, q2, q3, q4, q5, q6, ne_eq, q7] at c3
   refine W.skip <| W.seq <| W.block <| W.seq <| W.region rfl <| s_val (x_mv (v := I k) rfl) <| s_val (x_as (v := I k) rfl) <| s_nil ?_
   refine W.seq <| W.region rfl <| s_val (x_mv (v := I n) rfl) <| s_val (x_mv (v := vl) rfl) <| s_val (x_mv (v := I k) rfl) <| s_val (x_ix (a := vl) (b := I k) (v := vat vl 1 (Int.toNat k)) rfl rfl (Sl.ix (α := Int) T34.und T34.size (hl.to K1) (by omega) (by omega))) <| s_val (x_ld (p := vat vl 1 (Int.toNat k)) (v := I (l.getD k 0)) rfl (ld_sc Sc3 (At.to (Int_at hl (i := k) (by omega) (by omega)) K1))) <| s_val (x_cmp (kd := .i64) (a := n) (b := l.getD k 0) (r := (n : Int) == (l.getD k 0)) rfl rfl rfl) ?_
   refine s_nil ?_
   refine W.cond ((n : Int) == (l.getD k 0)) rfl (fun c4 => ?_) (fun c4 => ?_)
   ·simp only [q1, q2, q3, q4, q5, q6, ne_eq, q7] at c4
    refine W.seq <| W.region rfl <| s_val (x_mv (v := I k) rfl) <| s_val (x_as (v := I k) rfl) <| s_nil ?_
    refine W.ret ?_
    exact ⟨_, resE_tmp rfl, (eqI (idx_yes (p := fun x : Int => n == x) (d := 0) c3 (by simpa using c4) iv0_1)), E⟩
   ·simp only [q1, q2, q3, q4, q5, q6, ne_eq, q7] at c4
    refine W.skip <| W.region rfl <| s_val (x_ari (a := k) (b := 1) (r := k + 1) rfl rfl rfl (by omega)) <| s_val (x_mv (v := I (k + 1)) rfl) <| s_nil ?_
    exact ⟨_, (by omega), k+1, _, upds_of _ _ ⟨rfl, rfl, rfl, (eqI (by omega)), trivial⟩, rfl, E, K1, (by omega), (idx_step (p := fun x : Int => n == x) (d := 0) c3 iv0_1 (by simpa using c4))⟩
  ·simp only [q1, q2, q3, q4, q5, q6, ne_eq, q7] at c3
   refine W.exit ?_
   refine W.seq <| W.region rfl <| s_val (x_as (v := I (-1)) rfl) <| s_nil ?_
   refine W.ret ?_
   exact ⟨_, resE_tmp rfl, (eqI (idx_no (p := fun x : Int => n == x) c3 iv0_1)), E⟩

set_option maxRecDepth 100000 in
theorem contains_int {vl : Value} {l : List Int} (n : Int) (w : World) (hl : Sl w.cell? vl l) : Ret Try.prog 45 #[vl, I n] w fun v w' => v = B (l.contains n) ∧ Ext w w' := by
 refine ret_of_W Try.func45 rfl rfl rfl ?_
 have E := Ext.refl w
 have K1 := KF.refl 0 w
 have hl_hl := hl.len_le
 have hl := hl.par
 refine W.seq <| W.region rfl <| s_val (x_as (v := B false) rfl) <| s_nil <| W.seq <| W.region rfl <| s_val (x_mv (v := vl) rfl) <| s_val (x_mv (v := I n) rfl) ?_
 refine s_call cf100 [vl, I n] rfl (index_int n _ (hl.to K1)) ?_
 rintro _ w2 ⟨rfl, x3⟩
 replace E := E.trans x3
 replace K1 := K1.ext x3
 clear x3
 refine s_val (x_cmp (kd := .i64) (a := idxI l n) (b := 0) (r := decide ((0 : Int) ≤ (idxI l n))) rfl rfl rfl) <| s_val (x_as (v := B (decide ((0 : Int) ≤ (idxI l n)))) rfl) <| s_nil ?_
 refine W.ret ?_
 exact ⟨_, resE_tmp rfl, (eqB (idxI_any _ _)), E⟩

set_option maxRecDepth 100000 in
theorem right1 {sv : Value} (x : Work) (w : World) (hs : Sl w.cell? sv x.of) : Ret Try.prog 162 #[.agg #[sv, I x.base, I x.minutes]] w fun v w' => v = B (decide ((x.of.length : Int) ≤ 5)) ∧ Ext w w' := by
 refine ret_of_W Try.func162 rfl rfl rfl ?_
 have E := Ext.refl w
 have K1 := KF.refl 0 w
 have hl_hs := hs.len_le
 have hs := hs.par
 refine W.seq <| W.region rfl ?_
 refine s_box (v := .agg #[sv, I x.base, I x.minutes]) (cs := [sv, I x.base, I x.minutes]) rfl rfl ?_
 intro b2 w3 Nb2
 have o_K1_b2 := Nat.le_trans K1.size Nb2.ge
 have o_b2 := Nat.le_trans E.size Nb2.ge
 replace E := E.trans Nb2.ext
 replace K1 := K1.ext Nb2.ext
 have h_b2 := Nb2.same
 clear Nb2
 refine s_val (x_as (v := B false) rfl) <| s_nil <| W.seq <| W.region rfl <| s_val (x_fa (a := .pointer (some ⟨b2, 0, none⟩)) (v := .pointer (some ⟨b2, 0, none⟩)) rfl (fa_blk (o := 0) Fd60_0 Sz34)) <| s_val (x_ld (p := .pointer (some ⟨b2, 0, none⟩)) (v := sv) rfl (ldb_sc Sc34 h_b2 rfl)) <| s_val (x_lenS T34.und rfl (hs.to K1)) <| s_val (x_cmp (kd := .i64) (a := x.of.length) (b := 5) (r := decide ((x.of.length : Int) ≤ 5)) rfl rfl rfl) ?_
 refine s_val (x_as (v := B (decide ((x.of.length : Int) ≤ 5))) rfl) <| s_nil ?_
 refine W.ret ?_
 exact ⟨_, resE_tmp rfl, rfl, E⟩

set_option maxRecDepth 100000 in
theorem right2 {b1 b2 : Nat} {vw : Value} {ws : List Work} (i x : Int) (w : World) (h_b1 : w.heap[b1]? = some (.cells #[vw] 22 (0, 0))) (h_b2 : w.heap[b2]? = some (.cells #[I i] 3 (0, 0))) (hw : Sl w.cell? vw ws) : Ret Try.prog 163 #[I x, .pointer (some ⟨b1, 0, none⟩), .pointer (some ⟨b2, 0, none⟩)] w fun v w' => v = B (inB x 0 ((ws.length : Int) - 1) && (x != i)) ∧ Ext w w' := by
 refine ret_of_W Try.func163 rfl rfl rfl ?_
 have E := Ext.refl w
 have K1 := KF.refl 0 w
 have hl_hw := hw.len_le
 have hw := hw.par
 refine W.seq <| W.region rfl <| s_val (x_as (v := B false) rfl) <| s_nil <| W.seq <| W.region rfl <| s_val (x_mv (v := I x) rfl) <| s_val (x_ld (p := .pointer (some ⟨b1, 0, none⟩)) (v := vw) rfl (ldb_sc Sc22 h_b1 rfl)) ?_
 refine s_val (x_lenS T22.und rfl (hw.to K1)) <| s_val (x_ari (a := ws.length) (b := 1) (r := ws.length - 1) rfl rfl rfl (by omega)) ?_
 refine s_call cf84 [I x, I 0, I (ws.length - 1)] rfl (in_any _ _ _ _) ?_
 rintro _ w2 ⟨rfl, x3⟩
 replace E := E.trans x3
 replace K1 := K1.ext x3
 replace h_b1 := x3.get h_b1
 replace h_b2 := x3.get h_b2
 clear x3
 refine s_val (x_mv (v := B (inB x 0 (ws.length - 1))) rfl) <| g_val (inB x 0 (ws.length - 1)) (gy_t rfl) (fun hg => x_mv (v := I x) rfl) <| g_val (inB x 0 (ws.length - 1)) (gy_t rfl) (fun hg => x_ld (p := .pointer (some ⟨b2, 0, none⟩)) (v := I i) rfl (ldb_sc Sc3 h_b2 rfl)) <| g_val (inB x 0 (ws.length - 1)) (gy_t rfl) (fun hg => x_cmp (kd := .i64) (a := x) (b := i) (r := (x : Int) != i) (gd_of (c := inB x 0 (ws.length - 1)) hg (I x)) (gd_of (c := inB x 0 (ws.length - 1)) hg (I i)) rfl) <| s_val (x_pand (b := inB x 0 (ws.length - 1)) (r := (x : Int) != i) rfl (fun hb => gd_of (c := inB x 0 (ws.length - 1)) (by simp_all) (B ((x : Int) != i))) rfl) <| s_val (x_as (v := B (((inB x 0 (ws.length - 1)) && ((x : Int) != i)))) rfl) <| s_nil ?_
 refine W.ret ?_
 exact ⟨_, resE_tmp rfl, rfl, E⟩

set_option maxRecDepth 100000 in
theorem right_any {vw : Value} {ws : List Work} (w : World) (hw : Sl w.cell? vw ws) : Ret Try.prog 130 #[vw] w fun v w' => v = I (rightE ws) ∧ Ext w w' := by
 refine ret_of_W Try.func130 rfl rfl rfl ?_
 have E := Ext.refl w
 have K1 := KF.refl 0 w
 have hl_hw := hw.len_le
 have hw := hw.par
 refine W.seq <| W.region rfl ?_
 refine s_box (v := vw) (cs := [vw]) rfl (Sl.cells (hw.to K1)) ?_
 intro b2 w3 Nb2
 have o_K1_b2 := Nat.le_trans K1.size Nb2.ge
 have o_b2 := Nat.le_trans E.size Nb2.ge
 replace E := E.trans Nb2.ext
 replace K1 := K1.ext Nb2.ext
 have h_b2 := Nb2.same
 clear Nb2
 refine s_val (x_as (v := I 0) rfl) <| s_nil <| W.seq <| W.seq <| W.region rfl <| s_val (x_ld (p := .pointer (some ⟨b2, 0, none⟩)) (v := vw) rfl (ldb_sc Sc22 h_b2 rfl)) <| s_val (x_lenS T22.und rfl (hw.to K1)) ?_
 refine s_call cf84 [I ws.length, I 1, I 30] rfl (in_any _ _ _ _) ?_
 rintro _ w4 ⟨rfl, x5⟩
 replace E := E.trans x5
 replace K1 := K1.ext x5
 replace h_b2 := x5.get h_b2
 clear x5
 refine s_val (x_not (b := inB ws.length 1 30) rfl) <| s_val (x_mv (v := B (!(inB ws.length 1 30))) rfl) <| g_val (!(!(inB ws.length 1 30))) (gy_f rfl) (fun hg => x_ld (p := .pointer (some ⟨b2, 0, none⟩)) (v := vw) rfl (ldb_sc Sc22 h_b2 rfl)) ?_
 refine g_call (!(!(inB ws.length 1 30))) (gy_f rfl) cf161 (B (ws.all (fun x : Work => decide ((x.of.length : Int) ≤ 5)))) (fun _ => [.func (.func 162) #[] #[], vw]) (fun hg => lst2 rfl (gd_of (c := !(!(inB ws.length 1 30))) hg (vw))) (fun hg => (every_Work _ (hw.to K1) ⟨162, [], rfl, cf162, fun w' v x hE hD hA => by obtain ⟨sv, rfl, hs⟩ := Work_arg hA; exact (right1 _ _ hs)⟩)) ?_
 intro w6 x7
 replace E := E.trans x7
 replace K1 := K1.ext x7
 replace h_b2 := x7.get h_b2
 clear x7
 refine g_val (!(!(inB ws.length 1 30))) (gy_f rfl) (fun hg => x_not (b := ws.all (fun x : Work => decide ((x.of.length : Int) ≤ 5))) (gd_of (c := !(!(inB ws.length 1 30))) hg (B (ws.all (fun x : Work => decide ((x.of.length : Int) ≤ 5)))))) <| s_val (x_por (b := !(inB ws.length 1 30)) (r := !(ws.all (fun x : Work => decide ((x.of.length : Int) ≤ 5)))) rfl rfl (fun hb => gd_of (c := !(!(inB ws.length 1 30))) (by simp_all) (B (!(ws.all (fun x : Work => decide ((x.of.length : Int) ≤ 5))))))) <| s_nil ?_
 refine W.cond (((!(inB ws.length 1 30)) || (!(ws.all (fun x : Work => decide ((x.of.length : Int) ≤ 5)))))) rfl (fun c8 => ?_) (fun c8 => ?_)
 ·skip
  refine W.seq <| W.region rfl <| s_val (x_as (v := I 3) rfl) <| s_nil ?_
  refine W.ret ?_
  exact ⟨_, resE_tmp rfl, (eqI (right_many c8)), E⟩
 ·skip
  refine W.skip <| W.seq <| W.region rfl <| s_val (x_as (v := B false) rfl) <| s_nil <| W.seq <| W.seq <| W.region rfl ?_
  refine s_val (x_ld (p := .pointer (some ⟨b2, 0, none⟩)) (v := vw) rfl (ldb_sc Sc22 h_b2 rfl)) <| s_val (x_lenS T22.und rfl (hw.to K1)) <| s_val (x_mv (v := I 0) rfl) <| s_nil <| W.block ?_
  refine W.loop (fun m σ W => ∃ (i : Nat) (ρ : Env), σ = upds ρ [(1, .pointer (some ⟨b2, 0, none⟩)), (3, B ((ws.take i).any (fun x => dupL x.of))), (17, vw), (18, I ws.length), (19, I i)] ∧ m = ws.length - i ∧ Ext w W ∧ KF 0 w W ∧ W.heap[b2]? = some (.cells #[vw] 22 (0, 0)) ∧ i ≤ ws.length ∧ (List.range i).any (badAt ws) = false) ?_ ?_
  ·exact ⟨_, 0, _, upds_of _ _ ⟨rfl, (eqB (by first | rfl | simp)), rfl, rfl, (eqI (by omega)), trivial⟩, rfl, E, K1, h_b2, Nat.zero_le _, rfl⟩
  ·rintro m σ w9 ⟨i, ρ, rfl, rfl, E, K1, h_b2, iv0_0, iv0_1⟩
   refine W.seq <| W.region rfl <| s_val (x_cmp (kd := .i64) (a := i) (b := ws.length) (r := decide ((i : Int) < ws.length)) rfl rfl rfl) <| s_nil <| W.seq ?_
   refine W.cond (decide ((i : Int) < ws.length)) rfl (fun c10 => ?_) (fun c10 => ?_)
   ·simp only [q1, q2, q3, q4, q5, q6, ne_eq, q7] at c10
    refine W.skip <| W.seq <| W.block <| W.seq <| W.region rfl <| s_val (x_mv (v := I i) rfl) <| s_val (x_ix (a := vw) (b := I i) (v := vat vw 3 (Int.toNat i)) rfl rfl (Sl.ix (α := Work) T22.und T22.size (hw.to K1) (by omega) (by omega))) ?_
    obtain ⟨u11, ha13, hs12⟩ := Work_atA hw (i := i) (by omega) (by omega)
    replace hs12 : Sl _ u11 (ws.getD i default).of := hs12
    have hl_hs12 := hs12.len_le
    refine s_val (x_ld (p := vat vw 3 (Int.toNat i)) (v := .agg #[u11, I ((ws.getD i default).base), I ((ws.getD i default).minutes)]) rfl (ld_ag Ag60 Sz60 (At.to ha13 K1))) ?_
    refine s_alloc (cs := [I 0]) Al3 rfl ?_
    intro b14 w15 Nb14
    have o_K1_b14 := Nat.le_trans K1.size Nb14.ge
    have o_b14 := Nat.le_trans E.size Nb14.ge
    have o_b2_b14 := Nat.lt_of_lt_of_le (heap_lt h_b2) Nb14.ge
    replace E := E.trans Nb14.ext
    replace K1 := K1.ext Nb14.ext
    replace h_b2 := Nb14.ext.get h_b2
    have h_b14 := Nb14.same
    clear Nb14
    refine s_alloc (cs := [.slice none 0 0, I 0, I 0]) Al60 rfl ?_
    intro b16 w17 Nb16
    have o_K1_b16 := Nat.le_trans K1.size Nb16.ge
    have o_b16 := Nat.le_trans E.size Nb16.ge
    have o_b2_b16 := Nat.lt_of_lt_of_le (heap_lt h_b2) Nb16.ge
    have o_b14_b16 := Nat.lt_of_lt_of_le (heap_lt h_b14) Nb16.ge
    replace E := E.trans Nb16.ext
    replace K1 := K1.ext Nb16.ext
    replace h_b2 := Nb16.ext.get h_b2
    replace h_b14 := Nb16.ext.get h_b14
    have h_b16 := Nb16.same
    clear Nb16
    refine s_st (b := b14) (off := 0) (vs := [I i]) (cs' := [I i]) (v := I i) rfl rfl Sz3 h_b14 rfl rfl rfl rfl rfl ?_
    intro w18 p19
    replace E := E.put (by omega) p19
    replace K1 := K1.put p19 (by omega)
    replace h_b2 := p19.get (by omega) h_b2
    replace h_b16 := p19.get (by omega) h_b16
    replace h_b14 := p19.same
    clear p19
    refine s_st (b := b16) (off := 0) (vs := [u11, I ((ws.getD i default).base), I ((ws.getD i default).minutes)]) (cs' := [u11, I ((ws.getD i default).base), I ((ws.getD i default).minutes)]) (v := .agg #[u11, I ((ws.getD i default).base), I ((ws.getD i default).minutes)]) rfl rfl Sz60 h_b16 rfl rfl rfl (by simp only [List.all_cons, List.all_nil, Bool.true_and, Bool.and_true, Sl.oc (hs12.to K1)]; try rfl) rfl ?_
    intro w20 p21
    replace E := E.put (by omega) p21
    replace K1 := K1.put p21 (by omega)
    replace h_b2 := p21.get (by omega) h_b2
    replace h_b14 := p21.get (by omega) h_b14
    replace h_b16 := p21.same
    clear p21
    refine s_nil <| W.seq <| W.seq <| W.region rfl <| s_val (x_fa (a := .pointer (some ⟨b16, 0, none⟩)) (v := .pointer (some ⟨b16, 1, none⟩)) rfl (fa_blk (o := 0) Fd60_1 Sz3)) <| s_val (x_ld (p := .pointer (some ⟨b16, 1, none⟩)) (v := I ((ws.getD i default).base)) rfl (ldb_sc Sc3 h_b16 rfl)) ?_
    refine s_call cf84 [I ((ws.getD i default).base), I 0, I 1000002] rfl (in_any _ _ _ _) ?_
    rintro _ w22 ⟨rfl, x23⟩
    replace E := E.trans x23
    replace K1 := K1.ext x23
    replace h_b2 := x23.get h_b2
    replace h_b14 := x23.get h_b14
    replace h_b16 := x23.get h_b16
    clear x23
    refine s_val (x_not (b := inB ((ws.getD i default).base) 0 1000002) rfl) <| s_val (x_mv (v := B (!(inB ((ws.getD i default).base) 0 1000002))) rfl) <| g_val (!(!(inB ((ws.getD i default).base) 0 1000002))) (gy_f rfl) (fun hg => x_fa (a := .pointer (some ⟨b16, 0, none⟩)) (v := .pointer (some ⟨b16, 2, none⟩)) rfl (fa_blk (o := 0) Fd60_2 Sz3)) <| g_val (!(!(inB ((ws.getD i default).base) 0 1000002))) (gy_f rfl) (fun hg => x_ld (p := .pointer (some ⟨b16, 2, none⟩)) (v := I ((ws.getD i default).minutes)) (gd_of (c := !(!(inB ((ws.getD i default).base) 0 1000002))) hg (.pointer (some ⟨b16, 2, none⟩))) (ldb_sc Sc3 h_b16 rfl)) ?_
    refine g_call (!(!(inB ((ws.getD i default).base) 0 1000002))) (gy_f rfl) cf84 (B (inB ((ws.getD i default).minutes) 0 10000)) (fun _ => [I ((ws.getD i default).minutes), I 0, I 10000]) (fun hg => lst3 (gd_of (c := !(!(inB ((ws.getD i default).base) 0 1000002))) hg (I ((ws.getD i default).minutes))) rfl rfl) (fun hg => (in_any _ _ _ _)) ?_
    intro w24 x25
    replace E := E.trans x25
    replace K1 := K1.ext x25
    replace h_b2 := x25.get h_b2
    replace h_b14 := x25.get h_b14
    replace h_b16 := x25.get h_b16
    clear x25
    refine g_val (!(!(inB ((ws.getD i default).base) 0 1000002))) (gy_f rfl) (fun hg => x_not (b := inB ((ws.getD i default).minutes) 0 10000) (gd_of (c := !(!(inB ((ws.getD i default).base) 0 1000002))) hg (B (inB ((ws.getD i default).minutes) 0 10000)))) <| s_val (x_por (b := !(inB ((ws.getD i default).base) 0 1000002)) (r := !(inB ((ws.getD i default).minutes) 0 10000)) rfl rfl (fun hb => gd_of (c := !(!(inB ((ws.getD i default).base) 0 1000002))) (by simp_all) (B (!(inB ((ws.getD i default).minutes) 0 10000))))) <| s_val (x_mv (v := B (((!(inB ((ws.getD i default).base) 0 1000002)) || (!(inB ((ws.getD i default).minutes) 0 10000))))) rfl) <| g_val (!(((!(inB ((ws.getD i default).base) 0 1000002)) || (!(inB ((ws.getD i default).minutes) 0 10000))))) (gy_f rfl) (fun hg => x_mf (fs := []) (cs := [.pointer (some ⟨b2, 0, none⟩), .pointer (some ⟨b14, 0, none⟩)]) rfl rfl) <| g_val (!(((!(inB ((ws.getD i default).base) 0 1000002)) || (!(inB ((ws.getD i default).minutes) 0 10000))))) (gy_f rfl) (fun hg => x_fa (a := .pointer (some ⟨b16, 0, none⟩)) (v := .pointer (some ⟨b16, 0, none⟩)) rfl (fa_blk (o := 0) Fd60_0 Sz34)) <| g_val (!(((!(inB ((ws.getD i default).base) 0 1000002)) || (!(inB ((ws.getD i default).minutes) 0 10000))))) (gy_f rfl) (fun hg => x_ld (p := .pointer (some ⟨b16, 0, none⟩)) (v := u11) (gd_of (c := !(((!(inB ((ws.getD i default).base) 0 1000002)) || (!(inB ((ws.getD i default).minutes) 0 10000))))) hg (.pointer (some ⟨b16, 0, none⟩))) (ldb_sc Sc34 h_b16 rfl)) ?_
    refine g_call (!(((!(inB ((ws.getD i default).base) 0 1000002)) || (!(inB ((ws.getD i default).minutes) 0 10000))))) (gy_f rfl) cf87 (B (((ws.getD i default).of).all (fun x : Int => inB x 0 ((ws.length : Int) - 1) && (x != i)))) (fun _ => [.func (.func 163) #[] #[.pointer (some ⟨b2, 0, none⟩), .pointer (some ⟨b14, 0, none⟩)], u11]) (fun hg => lst2 (gd_of (c := !(((!(inB ((ws.getD i default).base) 0 1000002)) || (!(inB ((ws.getD i default).minutes) 0 10000))))) hg (.func (.func 163) #[] #[.pointer (some ⟨b2, 0, none⟩), .pointer (some ⟨b14, 0, none⟩)])) (gd_of (c := !(((!(inB ((ws.getD i default).base) 0 1000002)) || (!(inB ((ws.getD i default).minutes) 0 10000))))) hg (u11))) (fun hg => (every_int _ (hs12.to K1) ⟨163, [.pointer (some ⟨b2, 0, none⟩), .pointer (some ⟨b14, 0, none⟩)], rfl, cf163, fun w' v x hE hD hA => by obtain rfl := Arg.int hA; exact (right2 _ _ _ (hE.get h_b2) (hE.get h_b14) ((hw.to K1).mono hE.le))⟩)) ?_
    intro w26 x27
    replace E := E.trans x27
    replace K1 := K1.ext x27
    replace h_b2 := x27.get h_b2
    replace h_b14 := x27.get h_b14
    replace h_b16 := x27.get h_b16
    clear x27
    refine g_val (!(((!(inB ((ws.getD i default).base) 0 1000002)) || (!(inB ((ws.getD i default).minutes) 0 10000))))) (gy_f rfl) (fun hg => x_not (b := ((ws.getD i default).of).all (fun x : Int => inB x 0 ((ws.length : Int) - 1) && (x != i))) (gd_of (c := !(((!(inB ((ws.getD i default).base) 0 1000002)) || (!(inB ((ws.getD i default).minutes) 0 10000))))) hg (B (((ws.getD i default).of).all (fun x : Int => inB x 0 ((ws.length : Int) - 1) && (x != i)))))) <| s_val (x_por (b := ((!(inB ((ws.getD i default).base) 0 1000002)) || (!(inB ((ws.getD i default).minutes) 0 10000)))) (r := !(((ws.getD i default).of).all (fun x : Int => inB x 0 ((ws.length : Int) - 1) && (x != i)))) rfl rfl (fun hb => gd_of (c := !(((!(inB ((ws.getD i default).base) 0 1000002)) || (!(inB ((ws.getD i default).minutes) 0 10000))))) (by simp_all) (B (!(((ws.getD i default).of).all (fun x : Int => inB x 0 ((ws.length : Int) - 1) && (x != i))))))) <| s_nil ?_
    refine W.cond (((((!(inB ((ws.getD i default).base) 0 1000002)) || (!(inB ((ws.getD i default).minutes) 0 10000)))) || (!(((ws.getD i default).of).all (fun x : Int => inB x 0 ((ws.length : Int) - 1) && (x != i)))))) rfl (fun c28 => ?_) (fun c28 => ?_)
    ·skip
     refine W.seq <| W.region rfl <| s_val (x_as (v := I 140) rfl) <| s_nil ?_
     refine W.ret ?_
     exact ⟨_, resE_tmp rfl, (eqI (right_bad c8 c10 c28)), E⟩
    ·skip
     refine W.skip <| W.seq <| W.region rfl <| s_val (x_fa (a := .pointer (some ⟨b16, 0, none⟩)) (v := .pointer (some ⟨b16, 0, none⟩)) rfl (fa_blk (o := 0) Fd60_0 Sz34)) <| s_val (x_ld (p := .pointer (some ⟨b16, 0, none⟩)) (v := u11) rfl (ldb_sc Sc34 h_b16 rfl)) <| s_val (x_lenS T34.und rfl (hs12.to K1)) <| s_val (x_mv (v := I 0) rfl) <| s_nil ?_
     refine W.block ?_
     refine W.loop (fun m σ W => ∃ (j : Nat) (ρ : Env), σ = upds ρ [(1, .pointer (some ⟨b2, 0, none⟩)), (3, B ((ws.take i).any (fun x => dupL x.of) || (List.range j).any (dupAt (ws.getD i default).of))), (5, .pointer (some ⟨b16, 0, none⟩)), (17, vw), (18, I ws.length), (19, I i), (29, gd (!(!(inB ((ws.getD i default).base) 0 1000002))) (.pointer (some ⟨b16, 2, none⟩))), (30, gd (!(!(inB ((ws.getD i default).base) 0 1000002))) (I ((ws.getD i default).minutes))), (31, gd (!(!(inB ((ws.getD i default).base) 0 1000002))) (B (inB ((ws.getD i default).minutes) 0 10000))), (32, gd (!(!(inB ((ws.getD i default).base) 0 1000002))) (B (!(inB ((ws.getD i default).minutes) 0 10000)))), (35, gd (!(((!(inB ((ws.getD i default).base) 0 1000002)) || (!(inB ((ws.getD i default).minutes) 0 10000))))) (.func (.func 163) #[] #[.pointer (some ⟨b2, 0, none⟩), .pointer (some ⟨b14, 0, none⟩)])), (36, gd (!(((!(inB ((ws.getD i default).base) 0 1000002)) || (!(inB ((ws.getD i default).minutes) 0 10000))))) (.pointer (some ⟨b16, 0, none⟩))), (37, gd (!(((!(inB ((ws.getD i default).base) 0 1000002)) || (!(inB ((ws.getD i default).minutes) 0 10000))))) u11), (38, gd (!(((!(inB ((ws.getD i default).base) 0 1000002)) || (!(inB ((ws.getD i default).minutes) 0 10000))))) (B (((ws.getD i default).of).all (fun x : Int => inB x 0 ((ws.length : Int) - 1) && (x != i))))), (39, gd (!(((!(inB ((ws.getD i default).base) 0 1000002)) || (!(inB ((ws.getD i default).minutes) 0 10000))))) (B (!(((ws.getD i default).of).all (fun x : Int => inB x 0 ((ws.length : Int) - 1) && (x != i)))))), (42, u11), (43, I (((ws.getD i default).of).length)), (44, I j)] ∧ m = (ws.getD i default).of.length - j ∧ Ext w W ∧ KF 0 w W ∧ W.heap[b2]? = some (.cells #[vw] 22 (0, 0)) ∧ W.heap[b14]? = some (.cells #[I i] 3 (0, 0)) ∧ W.heap[b16]? = some (.cells #[u11, I ((ws.getD i default).base), I ((ws.getD i default).minutes)] 60 (0, 0)) ∧ j ≤ (ws.getD i default).of.length) ?_ ?_
     ·exact ⟨_, 0, _, upds_of _ _ ⟨rfl, (eqB (by first | rfl | simp)), rfl, rfl, rfl, rfl, rfl, rfl, rfl, rfl, rfl, rfl, rfl, rfl, rfl, rfl, rfl, (eqI (by omega)), trivial⟩, rfl, E, K1, h_b2, h_b14, h_b16, Nat.zero_le _⟩
     ·rintro m σ w29 ⟨j, ρ, rfl, rfl, E, K1, h_b2, h_b14, h_b16, iv1_0⟩
      refine W.seq <| W.region rfl <| s_val (x_cmp (kd := .i64) (a := j) (b := ((ws.getD i default).of).length) (r := decide ((j : Int) < (((ws.getD i default).of).length))) rfl rfl rfl) <| s_nil <| W.seq ?_
      refine W.cond (decide ((j : Int) < (((ws.getD i default).of).length))) rfl (fun c30 => ?_) (fun c30 => ?_)
      ·simp only [q1, q2, q3, q4, q5, q6, ne_eq, q7] at c30
       refine W.skip <| W.seq <| W.block <| W.seq <| W.region rfl <| s_val (x_mv (v := I j) rfl) <| s_val (x_ix (a := u11) (b := I j) (v := vat u11 1 (Int.toNat j)) rfl rfl (Sl.ix (α := Int) T34.und T34.size (hs12.to K1) (by omega) (by omega))) <| s_val (x_ld (p := vat u11 1 (Int.toNat j)) (v := I (((ws.getD i default).of).getD j 0)) rfl (ld_sc Sc3 (At.to (Int_at hs12 (i := j) (by omega) (by omega)) K1))) ?_
       refine s_val (x_as (v := I j) rfl) <| s_val (x_as (v := I (((ws.getD i default).of).getD j 0)) rfl) <| s_nil <| W.region rfl <| s_val (x_mv (v := B ((ws.take i).any (fun x => dupL x.of) || (List.range j).any (dupAt (ws.getD i default).of))) rfl) <| s_val (x_mv (v := B ((ws.take i).any (fun x => dupL x.of) || (List.range j).any (dupAt (ws.getD i default).of))) rfl) <| g_val (!((ws.take i).any (fun x => dupL x.of) || (List.range j).any (dupAt (ws.getD i default).of))) (gy_f rfl) (fun hg => x_fa (a := .pointer (some ⟨b16, 0, none⟩)) (v := .pointer (some ⟨b16, 0, none⟩)) rfl (fa_blk (o := 0) Fd60_0 Sz34)) <| g_val (!((ws.take i).any (fun x => dupL x.of) || (List.range j).any (dupAt (ws.getD i default).of))) (gy_f rfl) (fun hg => x_ld (p := .pointer (some ⟨b16, 0, none⟩)) (v := u11) (gd_of (c := !((ws.take i).any (fun x => dupL x.of) || (List.range j).any (dupAt (ws.getD i default).of))) hg (.pointer (some ⟨b16, 0, none⟩))) (ldb_sc Sc34 h_b16 rfl)) ?_
       refine g_val (!((ws.take i).any (fun x => dupL x.of) || (List.range j).any (dupAt (ws.getD i default).of))) (gy_f rfl) (fun hg => x_mv (v := I j) rfl) ?_
       obtain ⟨u31, hr_u31, hs32⟩ := sl_hi T34.und T34.size hs12 (j := j) (by omega) (by omega)
       replace hs32 : Sl _ u31 (((ws.getD i default).of).take j) := hs32
       refine g_val (!((ws.take i).any (fun x => dupL x.of) || (List.range j).any (dupAt (ws.getD i default).of))) (gy_f rfl) (fun hg => x_sl (v := u11) (u := u31) (lo' := none) (hi' := some (I j)) (mx' := none) (gd_of (c := !((ws.take i).any (fun x => dupL x.of) || (List.range j).any (dupAt (ws.getD i default).of))) hg (u11)) rfl (congrArg some (gd_of (c := !((ws.take i).any (fun x => dupL x.of) || (List.range j).any (dupAt (ws.getD i default).of))) hg (I j))) rfl (hr_u31 _)) <| g_val (!((ws.take i).any (fun x => dupL x.of) || (List.range j).any (dupAt (ws.getD i default).of))) (gy_f rfl) (fun hg => x_mv (v := I (((ws.getD i default).of).getD j 0)) rfl) ?_
       refine g_call (!((ws.take i).any (fun x => dupL x.of) || (List.range j).any (dupAt (ws.getD i default).of))) (gy_f rfl) cf45 (B ((((ws.getD i default).of).take j).contains (((ws.getD i default).of).getD j 0))) (fun _ => [u31, I (((ws.getD i default).of).getD j 0)]) (fun hg => lst2 (gd_of (c := !((ws.take i).any (fun x => dupL x.of) || (List.range j).any (dupAt (ws.getD i default).of))) hg (u31)) (gd_of (c := !((ws.take i).any (fun x => dupL x.of) || (List.range j).any (dupAt (ws.getD i default).of))) hg (I (((ws.getD i default).of).getD j 0)))) (fun hg => (contains_int (((ws.getD i default).of).getD j 0) _ (hs32.to K1))) ?_
       intro w33 x34
       replace E := E.trans x34
       replace K1 := K1.ext x34
       replace h_b2 := x34.get h_b2
       replace h_b14 := x34.get h_b14
       replace h_b16 := x34.get h_b16
       clear x34
       refine s_val (x_por (b := (ws.take i).any (fun x => dupL x.of) || (List.range j).any (dupAt (ws.getD i default).of)) (r := (((ws.getD i default).of).take j).contains (((ws.getD i default).of).getD j 0)) rfl rfl (fun hb => gd_of (c := !((ws.take i).any (fun x => dupL x.of) || (List.range j).any (dupAt (ws.getD i default).of))) (by simp_all) (B ((((ws.getD i default).of).take j).contains (((ws.getD i default).of).getD j 0))))) <| s_val (x_as (v := B ((((ws.take i).any (fun x => dupL x.of) || (List.range j).any (dupAt (ws.getD i default).of)) || ((((ws.getD i default).of).take j).contains (((ws.getD i default).of).getD j 0))))) rfl) <| s_nil <| W.region rfl <| s_val (x_ari (a := j) (b := 1) (r := j + 1) rfl rfl rfl (by omega)) <| s_val (x_mv (v := I (j + 1)) rfl) <| s_nil ?_
       exact ⟨_, (by omega), j+1, _, upds_of _ _ ⟨rfl, (eqB right_twice1), rfl, rfl, rfl, rfl, rfl, rfl, rfl, rfl, rfl, rfl, rfl, rfl, rfl, rfl, rfl, (eqI (by omega)), trivial⟩, rfl, E, K1, h_b2, h_b14, h_b16, (by omega)⟩
      ·simp only [q1, q2, q3, q4, q5, q6, ne_eq, q7] at c30
       refine W.exit ?_
       refine W.region rfl <| s_val (x_ari (a := i) (b := 1) (r := i + 1) rfl rfl rfl (by omega)) <| s_val (x_mv (v := I (i + 1)) rfl) <| s_nil ?_
       exact ⟨_, (by omega), i+1, _, upds_of _ _ ⟨rfl, (eqB (right_twice c10 c30 iv1_0)), rfl, rfl, (eqI (by omega)), trivial⟩, rfl, E, K1, h_b2, (by omega), (right_next iv0_1 c28)⟩
   ·simp only [q1, q2, q3, q4, q5, q6, ne_eq, q7] at c10
    refine W.exit ?_
    refine W.seq <| W.seq <| W.region rfl <| s_val (x_mv (v := B ((ws.take i).any (fun x => dupL x.of))) rfl) <| s_nil ?_
    refine W.cond ((ws.take i).any (fun x => dupL x.of)) rfl (fun c35 => ?_) (fun c35 => ?_)
    ·skip
     refine W.seq <| W.region rfl <| s_val (x_as (v := I 10) rfl) <| s_nil ?_
     refine W.ret ?_
     exact ⟨_, resE_tmp rfl, (eqI (right_dup c8 c10 iv0_0 iv0_1 c35)), E⟩
    ·skip
     refine W.skip <| W.seq <| W.region rfl <| s_val (x_as (v := I 0) rfl) <| s_nil ?_
     refine W.ret ?_
     exact ⟨_, resE_tmp rfl, (eqI (right_ok c8 c10 iv0_0 iv0_1 c35)), E⟩

set_option maxRecDepth 100000 in
theorem order1 {b : Nat} {vo : Value} {out : List Int} (n : Int) (w : World) (h_b : w.heap[b]? = some (.cells #[vo] 34 (0, 0))) (ho : Sl w.cell? vo out) : Ret Try.prog 164 #[I n, .pointer (some ⟨b, 0, none⟩)] w fun v w' => v = B (out.contains n) ∧ Ext w w' := by
 refine ret_of_W Try.func164 rfl rfl rfl ?_
 have E := Ext.refl w
 have K1 := KF.refl 0 w
 have hl_ho := ho.len_le
 have ho := ho.par
 refine W.seq <| W.region rfl <| s_val (x_as (v := B false) rfl) <| s_nil <| W.seq <| W.region rfl <| s_val (x_ld (p := .pointer (some ⟨b, 0, none⟩)) (v := vo) rfl (ldb_sc Sc34 h_b rfl)) <| s_val (x_mv (v := I n) rfl) ?_
 refine s_call cf45 [vo, I n] rfl (contains_int n _ (ho.to K1)) ?_
 rintro _ w2 ⟨rfl, x3⟩
 replace E := E.trans x3
 replace K1 := K1.ext x3
 replace h_b := x3.get h_b
 clear x3
 refine s_val (x_as (v := B (out.contains n)) rfl) <| s_nil ?_
 refine W.ret ?_
 exact ⟨_, resE_tmp rfl, rfl, E⟩

set_option maxRecDepth 100000 in
theorem order_any {b : Nat} {vw : Value} {ws : List Work} (w : World) (h_b : w.heap[b]? = some (.cells #[vw] 187 (0, 0))) (hw : Sl w.cell? vw ws) (hsm : ws.length ≤ 30) : Ret Try.prog 131 #[.pointer (some ⟨b, 0, none⟩)] w fun v w' => Sl (frm w' w.heap.size) v (orderP ws) ∧ Ext w w' := by
 refine ret_of_W Try.func131 rfl rfl rfl ?_
 have E := Ext.refl w
 have K1 := KF.refl 0 w
 have hl_hw := hw.len_le
 have hw := hw.par
 refine W.seq <| W.region rfl <| s_val (x_as (v := .slice none 0 0) rfl) <| s_nil <| W.seq <| W.region rfl ?_
 refine s_alloc (cs := [.slice none 0 0]) Al34 rfl ?_
 intro b2 w3 Nb2
 have o_K1_b2 := Nat.le_trans K1.size Nb2.ge
 have o_b2 := Nat.le_trans E.size Nb2.ge
 have o_b_b2 := Nat.lt_of_lt_of_le (heap_lt h_b) Nb2.ge
 replace E := E.trans Nb2.ext
 replace K1 := K1.ext Nb2.ext
 replace h_b := Nb2.ext.get h_b
 have h_b2 := Nb2.same
 clear Nb2
 refine s_nil <| W.seq <| W.region rfl <| s_val (x_mf (fs := []) (cs := [.pointer (some ⟨b2, 0, none⟩)]) rfl rfl) <| s_val (x_as (v := .func (.func 164) #[] #[.pointer (some ⟨b2, 0, none⟩)]) rfl) <| s_nil <| W.seq <| W.seq ?_
 refine W.region rfl <| s_val (x_as (v := I 0) rfl) <| s_nil <| W.block ?_
 have z4 := Nat.le_refl w3.heap.size
 have B_vo := E.size
 have B_vo_K1 := K1.size
 have B_vo_b := heap_lt h_b
 have B_vo_b2 := heap_lt h_b2
 refine W.loop (fun m σ W => ∃ (i : Nat) (out : List Int) (vo : Value) (ρ : Env), σ = upds ρ [(0, .pointer (some ⟨b, 0, none⟩)), (3, .pointer (some ⟨b2, 0, none⟩)), (4, .func (.func 164) #[] #[.pointer (some ⟨b2, 0, none⟩)]), (5, I i)] ∧ m = (ws.length - out.length) * (ws.length + 2) + (ws.length + 1 - i) ∧ Ext w W ∧ KF 0 w W ∧ W.heap[b]? = some (.cells #[vw] 187 (0, 0)) ∧ W.heap[b2]? = some (.cells #[vo] 34 (0, 0)) ∧ w3.heap.size ≤ W.heap.size ∧ OwnF w3.heap.size 3 W vo out ∧ vo.ownBlock ≠ some b ∧ vo.ownBlock ≠ some b2 ∧ OrdInv ws out ∧ i ≤ ws.length ∧ (∀ j < i, readyAt ws out j = false)) ?_ ?_
 ·exact ⟨_, 0, [], .slice none 0 0, _, upds_of _ _ ⟨rfl, rfl, rfl, (eqI (by omega)), trivial⟩, rfl, E, K1, h_b, h_b2, z4, OwnF.nil _ _ _, by simp [Value.ownBlock], by simp [Value.ownBlock], (OrdInv.nil ws), (Nat.zero_le _), (fun j hj => by omega)⟩
 ·rintro m σ w5 ⟨i, out, vo, ρ, rfl, rfl, E, K1, h_b, h_b2, z4, ho_vo, n_vo_b, n_vo_b2, iv0_0, iv0_1, iv0_2⟩
  have hol := iv0_0.le
  refine W.seq <| W.seq <| W.region rfl <| s_val (x_mv (v := I i) rfl) <| s_val (x_mv (v := .pointer (some ⟨b, 0, none⟩)) rfl) <| s_val (x_nc (a := ⟨b, 0, none⟩) rfl) <| s_val (x_fa (a := .pointer (some ⟨b, 0, none⟩)) (v := .pointer (some ⟨b, 0, none⟩)) rfl (fa_blk (o := 0) Fd187_0 Sz185)) <| s_val (x_fa (a := .pointer (some ⟨b, 0, none⟩)) (v := .pointer (some ⟨b, 0, none⟩)) rfl (fa_blk (o := 0) Fd185_0 Sz22)) ?_
  refine s_val (x_ld (p := .pointer (some ⟨b, 0, none⟩)) (v := vw) rfl (ldb_sc Sc22 h_b rfl)) <| s_val (x_lenS T22.und rfl (hw.to K1)) <| s_val (x_cmp (kd := .i64) (a := i) (b := ws.length) (r := decide ((i : Int) < ws.length)) rfl rfl rfl) <| s_nil ?_
  refine W.cond (decide ((i : Int) < ws.length)) rfl (fun c6 => ?_) (fun c6 => ?_)
  ·simp only [q1, q2, q3, q4, q5, q6, ne_eq, q7] at c6
   refine W.skip <| W.seq <| W.block <| W.seq <| W.region rfl <| s_val (x_mv (v := .func (.func 164) #[] #[.pointer (some ⟨b2, 0, none⟩)]) rfl) <| s_val (x_mv (v := I i) rfl) ?_
   refine s_callv rfl cf164 [I i] rfl (order1 i _ h_b2 (ho_vo.sl.mono (frm_le _ _))) ?_
   rintro _ w7 ⟨rfl, x8⟩
   replace E := E.trans x8
   replace z4 := Nat.le_trans z4 x8.size
   replace K1 := K1.ext x8
   replace h_b := x8.get h_b
   replace h_b2 := x8.get h_b2
   replace ho_vo := ho_vo.ext x8
   clear x8
   refine s_val (x_not (b := out.contains i) rfl) <| s_val (x_mv (v := B (!(out.contains i))) rfl) <| g_val (!(out.contains i)) (gy_t rfl) (fun hg => x_mv (v := .func (.func 164) #[] #[.pointer (some ⟨b2, 0, none⟩)]) rfl) <| g_val (!(out.contains i)) (gy_t rfl) (fun hg => x_mv (v := .pointer (some ⟨b, 0, none⟩)) rfl) <| g_val (!(out.contains i)) (gy_t rfl) (fun hg => x_nc (a := ⟨b, 0, none⟩) (gd_of (c := !(out.contains i)) hg (.pointer (some ⟨b, 0, none⟩)))) <| g_val (!(out.contains i)) (gy_t rfl) (fun hg => x_fa (a := .pointer (some ⟨b, 0, none⟩)) (v := .pointer (some ⟨b, 0, none⟩)) (gd_of (c := !(out.contains i)) hg (.pointer (some ⟨b, 0, none⟩))) (fa_blk (o := 0) Fd187_0 Sz185)) <| g_val (!(out.contains i)) (gy_t rfl) (fun hg => x_fa (a := .pointer (some ⟨b, 0, none⟩)) (v := .pointer (some ⟨b, 0, none⟩)) (gd_of (c := !(out.contains i)) hg (.pointer (some ⟨b, 0, none⟩))) (fa_blk (o := 0) Fd185_0 Sz22)) <| g_val (!(out.contains i)) (gy_t rfl) (fun hg => x_ld (p := .pointer (some ⟨b, 0, none⟩)) (v := vw) (gd_of (c := !(out.contains i)) hg (.pointer (some ⟨b, 0, none⟩))) (ldb_sc Sc22 h_b rfl)) ?_
   refine g_val (!(out.contains i)) (gy_t rfl) (fun hg => x_mv (v := I i) rfl) <| g_val (!(out.contains i)) (gy_t rfl) (fun hg => x_ix (a := vw) (b := I i) (v := vat vw 3 (Int.toNat i)) (gd_of (c := !(out.contains i)) hg (vw)) (gd_of (c := !(out.contains i)) hg (I i)) (Sl.ix (α := Work) T22.und T22.size (hw.to K1) (by first | omega | (simp at hg; omega) | (simp [inB] at hg; omega)) (by first | omega | (simp at hg; omega) | (simp [inB] at hg; omega)))) <| g_val (!(out.contains i)) (gy_t rfl) (fun hg => x_fa (a := vat vw 3 (Int.toNat i)) (v := fat (vat vw 3 (Int.toNat i)) 0) (gd_of (c := !(out.contains i)) hg (vat vw 3 (Int.toNat i))) (fa_pl Fd60_0 Sz34 (Sl.pl (i := i) hw (by first | omega | (simp at hg; omega) | (simp [inB] at hg; omega)) (by first | omega | (simp at hg; omega) | (simp [inB] at hg; omega))))) ?_
   obtain ⟨u9, ha_u9, hs10⟩ := gd_ex (c := !(out.contains i)) fun hg => Work_at0 hw (i := i) (by first | omega | (simp at hg; omega) | (simp [inB] at hg; omega)) (by first | omega | (simp at hg; omega) | (simp [inB] at hg; omega))
   replace hs10 : (!(out.contains i)) = true → Sl _ u9 (ws.getD i default).of := hs10
   refine g_val (!(out.contains i)) (gy_t rfl) (fun hg => x_ld (p := fat (vat vw 3 (Int.toNat i)) 0) (v := u9) (gd_of (c := !(out.contains i)) hg (fat (vat vw 3 (Int.toNat i)) 0)) (ld_sc Sc34 (At.to (ha_u9 hg) K1))) ?_
   refine g_call (!(out.contains i)) (gy_t rfl) cf87 (B (((ws.getD i default).of).all (fun x : Int => out.contains x))) (fun _ => [.func (.func 164) #[] #[.pointer (some ⟨b2, 0, none⟩)], u9]) (fun hg => lst2 (gd_of (c := !(out.contains i)) hg (.func (.func 164) #[] #[.pointer (some ⟨b2, 0, none⟩)])) (gd_of (c := !(out.contains i)) hg (u9))) (fun hg => (every_int _ ((hs10 hg).to K1) ⟨164, [.pointer (some ⟨b2, 0, none⟩)], rfl, cf164, fun w' v x hE hD hA => by obtain rfl := Arg.int hA; exact (order1 _ _ (hE.get h_b2) ((ho_vo.sl.mono (frm_le _ _)).mono hE.le))⟩)) ?_
   intro w11 x12
   replace E := E.trans x12
   replace z4 := Nat.le_trans z4 x12.size
   replace K1 := K1.ext x12
   replace h_b := x12.get h_b
   replace h_b2 := x12.get h_b2
   replace ho_vo := ho_vo.ext x12
   clear x12
   refine s_val (x_pand (b := !(out.contains i)) (r := ((ws.getD i default).of).all (fun x : Int => out.contains x)) rfl (fun hb => gd_of (c := !(out.contains i)) (by simp_all) (B (((ws.getD i default).of).all (fun x : Int => out.contains x)))) rfl) <| s_nil ?_
   refine W.cond (((!(out.contains i)) && (((ws.getD i default).of).all (fun x : Int => out.contains x)))) rfl (fun c13 => ?_) (fun c13 => ?_)
   ·skip
    refine W.seq <| W.region rfl <| s_val (x_ld (p := .pointer (some ⟨b2, 0, none⟩)) (v := vo) rfl (ldb_sc Sc34 h_b2 rfl)) <| s_val (x_mv (v := I i) rfl) ?_
    refine s_bsl (α := Int) T34 w11.heap.size [I i] [(i : Int)] rfl (.cons rfl (Flat.rep_enc _ _) <| .nil) (Nat.le_refl _) rfl (by decide) (by decide) ?_
    intro u14 w15 hs16 x17 nn_u14
    replace E := E.trans x17
    replace z4 := Nat.le_trans z4 x17.size
    replace K1 := K1.ext x17
    replace h_b := x17.get h_b
    replace h_b2 := x17.get h_b2
    replace ho_vo := ho_vo.ext x17
    clear x17
    have K18 := KF.refl w11.heap.size w15
    refine s_app (α := Int) (v := vo) (vy := u14) (l := out) (l2 := [(i : Int)]) T34 rfl rfl ho_vo (hs16.to K18) (Cells.Le.refl _) z4 (by first | omega | (simp only [List.length_append, List.length_cons, List.length_nil, List.length_set]; omega)) (by first | omega | (simp only [List.length_append, List.length_cons, List.length_nil, List.length_set]; omega)) ?_
    intro v19 w20 ho21 g22 ne23
    have n_v19_b := ne23 b (heap_lt h_b) n_vo_b
    have n_v19_b2 := ne23 b2 (heap_lt h_b2) n_vo_b2
    replace E := E.grow g22 (by omega)
    replace z4 := Nat.le_trans z4 g22.size
    replace K1 := K1.grow g22 (by omega)
    replace h_b := g22.get n_vo_b h_b
    replace h_b2 := g22.get n_vo_b2 h_b2
    clear g22 ne23
    refine s_st (b := b2) (off := 0) (vs := [v19]) (cs' := [v19]) (v := v19) rfl rfl Sz34 h_b2 (Sl.cells (ho21.sl.mono (frm_le _ _))) rfl rfl (by simp only [List.all_cons, List.all_nil, Bool.true_and, Bool.and_true, Sl.oc (ho21.sl.mono (frm_le _ _))]; try rfl) rfl ?_
    intro w24 p25
    replace E := E.put (by omega) p25
    replace z4 := Nat.le_trans z4 (Nat.le_of_eq p25.size.symm)
    replace K1 := K1.put p25 (by omega)
    replace h_b := p25.get (by omega) h_b
    replace ho21 := ho21.put p25 n_v19_b2
    replace h_b2 := p25.same
    clear p25
    refine s_nil <| W.region rfl <| s_val (x_as (v := I (-1)) rfl) <| s_nil <| W.region rfl <| s_val (x_mv (v := I (-1)) rfl) <| s_val (x_ari (a := -1) (b := 1) (r := (-1) + 1) rfl rfl rfl (by omega)) <| s_val (x_as (v := I ((-1) + 1)) rfl) ?_
    refine s_nil ?_
    exact ⟨_, (by simp only [List.length_append, List.length_singleton]; exact order_dec (iv0_0.lt c6 c13) iv0_1), 0, (out ++ [(i : Int)]), v19, _, upds_of _ _ ⟨rfl, rfl, rfl, (eqI (by omega)), trivial⟩, rfl, E, K1, h_b, h_b2, z4, (by first | exact ho21 | simpa using ho21), n_v19_b, n_v19_b2, (iv0_0.step c6 c13 iv0_2), (Nat.zero_le _), (fun j hj => by omega)⟩
   ·skip
    refine W.skip <| W.region rfl <| s_val (x_mv (v := I i) rfl) <| s_val (x_ari (a := i) (b := 1) (r := i + 1) rfl rfl rfl (by omega)) <| s_val (x_as (v := I (i + 1)) rfl) <| s_nil ?_
    exact ⟨_, (by omega), (i + 1), out, vo, _, upds_of _ _ ⟨rfl, rfl, rfl, (eqI (by omega)), trivial⟩, rfl, E, K1, h_b, h_b2, z4, ho_vo, n_vo_b, n_vo_b2, iv0_0, (by omega), (notReady_next iv0_2 c13)⟩
  ·simp only [q1, q2, q3, q4, q5, q6, ne_eq, q7] at c6
   refine W.exit ?_
   refine W.seq <| W.region rfl <| s_val (x_ld (p := .pointer (some ⟨b2, 0, none⟩)) (v := vo) rfl (ldb_sc Sc34 h_b2 rfl)) <| s_val (x_as (v := vo) rfl) <| s_nil ?_
   refine W.ret ?_
   exact ⟨_, resE_tmp rfl, (iv0_0.done c6 iv0_2 ▸ ho_vo.sl.mono (frm_mono _ (by omega))), E⟩

set_option maxRecDepth 100000 in
theorem opened_any {vw : Value} {ws : List Work} (w : World) (hw : Sl w.cell? vw ws) : Ret Try.prog 81 #[vw] w fun v w' => (openedE ws ≠ 0 ∧ v = .tuple #[.pointer none, .slice none 0 0, I (openedE ws)] ∧ Ext w w') ∨ (openedE ws = 0 ∧ ∃ b so, v = .tuple #[.pointer (some ⟨b, 0, none⟩), so, I 0] ∧ New w b (.cells #[vw] 187 (0, 0)) w' ∧ Sl (frm w' w.heap.size) so (orderP ws)) := by
 refine ret_of_W Try.func81 rfl rfl rfl ?_
 have E := Ext.refl w
 have K1 := KF.refl 0 w
 have hl_hw := hw.len_le
 have hw := hw.par
 refine W.seq <| W.region rfl <| s_val (x_as (v := .pointer none) rfl) <| s_val (x_as (v := .slice none 0 0) rfl) <| s_val (x_as (v := I 0) rfl) <| s_nil <| W.seq <| W.seq ?_
 refine W.region rfl <| s_val (x_mv (v := vw) rfl) ?_
 refine s_call cf130 [vw] rfl (right_any _ (hw.to K1)) ?_
 rintro _ w2 ⟨rfl, x3⟩
 replace E := E.trans x3
 replace K1 := K1.ext x3
 clear x3
 refine s_val (x_as (v := I (rightE ws)) rfl) <| s_nil <| W.seq <| W.region rfl <| s_val (x_mv (v := I (rightE ws)) rfl) <| s_val (x_cmp (kd := .i64) (a := rightE ws) (b := 0) (r := (rightE ws : Int) != 0) rfl rfl rfl) <| s_nil ?_
 refine W.cond ((rightE ws : Int) != 0) rfl (fun c4 => ?_) (fun c4 => ?_)
 ·simp only [q1, q2, q3, q4, q5, q6, ne_eq, q7] at c4
  refine W.seq <| W.region rfl <| s_val (x_mv (v := I (rightE ws)) rfl) <| s_val (x_as (v := .pointer none) rfl) <| s_val (x_as (v := .slice none 0 0) rfl) <| s_val (x_as (v := I (rightE ws)) rfl) <| s_nil ?_
  refine W.ret ?_
  exact ⟨_, resE_tmp3 rfl, .inl ⟨(by rw [opened_wrong c4]; exact c4), (by rw [opened_wrong c4]; rfl), E⟩⟩
 ·simp only [q1, q2, q3, q4, q5, q6, ne_eq, q7] at c4
  refine W.skip <| W.seq <| W.region rfl <| s_val (x_mv (v := vw) rfl) <| s_val (x_bld (ps := [(0, vw)]) (zs := [.slice none 0 0]) (L' := [vw]) rfl Try.underlying185 Al185 rfl (Bd185 Try.underlying185) (.cons (cs := [vw]) (Sl.cells (hw.to K1)) rfl rfl rfl rfl <| .nil)) <| s_val (x_bld (ps := [(0, .agg #[vw])]) (zs := [.slice none 0 0]) (L' := [vw]) rfl Try.underlying187 Al187 rfl (Bd187 Try.underlying187) (.cons (cs := [vw]) rfl rfl rfl rfl rfl <| .nil)) ?_
  refine s_box (v := .agg #[vw]) (cs := [vw]) rfl rfl ?_
  intro b5 w6 Nb5
  have o_K1_b5 := Nat.le_trans K1.size Nb5.ge
  have o_b5 := Nat.le_trans E.size Nb5.ge
  replace E := E.trans Nb5.ext
  replace K1 := K1.ext Nb5.ext
  have h_b5 := Nb5.same
  clear Nb5
  refine s_val (x_as (v := .pointer (some ⟨b5, 0, none⟩)) rfl) <| s_nil <| W.seq <| W.region rfl <| s_val (x_mv (v := .pointer (some ⟨b5, 0, none⟩)) rfl) ?_
  refine s_call cf131 [.pointer (some ⟨b5, 0, none⟩)] rfl (order_any _ h_b5 (hw.to K1) (right_len (by assumption)).2) ?_
  have sz_w7 := E.size
  have lt_b5_w7 := heap_lt h_b5
  rintro u9 w7 ⟨hs10, x8⟩
  replace E := E.trans x8
  replace K1 := K1.ext x8
  replace h_b5 := x8.get h_b5
  clear x8
  have hl_hs10 := hs10.len_le
  have K11 := KF.refl w6.heap.size w7
  refine s_val (x_as (v := u9) rfl) <| s_nil <| W.seq <| W.seq <| W.region rfl <| s_val (x_mv (v := u9) rfl) <| s_val (x_lenS T34.und rfl (hs10.to K11)) <| s_val (x_mv (v := vw) rfl) ?_
  refine s_val (x_lenS T22.und rfl (hw.to K1)) <| s_val (x_cmp (kd := .i64) (a := (orderP ws).length) (b := ws.length) (r := decide ((((orderP ws).length) : Int) < ws.length)) rfl rfl rfl) <| s_nil ?_
  refine W.cond (decide ((((orderP ws).length) : Int) < ws.length)) rfl (fun c12 => ?_) (fun c12 => ?_)
  ·simp only [q1, q2, q3, q4, q5, q6, ne_eq, q7] at c12
   refine W.seq <| W.region rfl <| s_val (x_as (v := .pointer none) rfl) <| s_val (x_as (v := .slice none 0 0) rfl) <| s_val (x_as (v := I 9) rfl) <| s_nil ?_
   refine W.ret ?_
   exact ⟨_, resE_tmp3 rfl, .inl ⟨(by rw [opened_circle c4 c12]; decide), (by rw [opened_circle c4 c12]; rfl), E⟩⟩
  ·simp only [q1, q2, q3, q4, q5, q6, ne_eq, q7] at c12
   refine W.skip <| W.seq <| W.region rfl <| s_val (x_mv (v := .pointer (some ⟨b5, 0, none⟩)) rfl) <| s_val (x_mv (v := u9) rfl) <| s_val (x_as (v := .pointer (some ⟨b5, 0, none⟩)) rfl) <| s_val (x_as (v := u9) rfl) <| s_val (x_as (v := I 0) rfl) ?_
   refine s_nil ?_
   refine W.ret ?_
   exact ⟨_, resE_tmp3 rfl, .inr ⟨opened_ok c4 c12, b5, _, rfl, ⟨E, o_b5, h_b5⟩, (hs10.kf K11).mono (frm_mono _ (by omega))⟩⟩

end Go.Proofs.Ytndobgodeicloaa
namespace Go.Proofs.Ytndobgodeicloaa
open Go Go.Nm
set_option maxRecDepth 100000 in
theorem listed1 {b : Nat} {vw : Value} {ws : List Work} (x : Int) (w : World) (h_b : w.heap[b]? = some (.cells #[vw] 22 (0, 0))) (hw : Sl w.cell? vw ws) : Ret Try.prog 147 #[I x, .pointer (some ⟨b, 0, none⟩)] w fun v w' => v = B (inB x 0 ((ws.length : Int) - 1)) ∧ Ext w w' := by
 refine ret_of_W Try.func147 rfl rfl rfl ?_
 have E := Ext.refl w
 have K1 := KF.refl 0 w
 have hl_hw := hw.len_le
 have hw := hw.par
 refine W.seq <| W.region rfl <| s_val (x_as (v := B false) rfl) <| s_nil <| W.seq <| W.region rfl <| s_val (x_mv (v := I x) rfl) <| s_val (x_ld (p := .pointer (some ⟨b, 0, none⟩)) (v := vw) rfl (ldb_sc Sc22 h_b rfl)) ?_
 refine s_val (x_lenS T22.und rfl (hw.to K1)) <| s_val (x_ari (a := ws.length) (b := 1) (r := ws.length - 1) rfl rfl rfl (by omega)) ?_
 refine s_call cf84 [I x, I 0, I (ws.length - 1)] rfl (in_any _ _ _ _) ?_
 rintro _ w2 ⟨rfl, x3⟩
 replace E := E.trans x3
 replace K1 := K1.ext x3
 replace h_b := x3.get h_b
 clear x3
 refine s_val (x_as (v := B (inB x 0 (ws.length - 1))) rfl) <| s_nil ?_
 refine W.ret ?_
 exact ⟨_, resE_tmp rfl, rfl, E⟩

set_option maxRecDepth 100000 in
theorem listed_any {vw vl : Value} {ws : List Work} {l : List Int} (w : World) (hw : Sl w.cell? vw ws) (hl : Sl w.cell? vl l) : Ret Try.prog 96 #[vw, vl] w fun v w' => v = I (listedE ws.length l) ∧ Ext w w' := by
 refine ret_of_W Try.func96 rfl rfl rfl ?_
 have E := Ext.refl w
 have K1 := KF.refl 0 w
 have hl_hw := hw.len_le
 have hw := hw.par
 have hl_hl := hl.len_le
 have hl := hl.par
 refine W.seq <| W.region rfl ?_
 refine s_box (v := vw) (cs := [vw]) rfl (Sl.cells (hw.to K1)) ?_
 intro b2 w3 Nb2
 have o_K1_b2 := Nat.le_trans K1.size Nb2.ge
 have o_b2 := Nat.le_trans E.size Nb2.ge
 replace E := E.trans Nb2.ext
 replace K1 := K1.ext Nb2.ext
 have h_b2 := Nb2.same
 clear Nb2
 refine s_val (x_as (v := I 0) rfl) <| s_nil <| W.seq <| W.seq <| W.region rfl <| s_val (x_mf (fs := []) (cs := [.pointer (some ⟨b2, 0, none⟩)]) rfl rfl) <| s_val (x_mv (v := vl) rfl) ?_
 refine s_call cf87 [.func (.func 147) #[] #[.pointer (some ⟨b2, 0, none⟩)], vl] rfl (every_int _ (hl.to K1) ⟨147, [.pointer (some ⟨b2, 0, none⟩)], rfl, cf147, fun w' v x hE hD hA => by obtain rfl := Arg.int hA; exact (listed1 _ _ (hE.get h_b2) ((hw.to K1).mono hE.le))⟩) ?_
 rintro _ w4 ⟨rfl, x5⟩
 replace E := E.trans x5
 replace K1 := K1.ext x5
 replace h_b2 := x5.get h_b2
 clear x5
 refine s_val (x_not (b := l.all (fun x : Int => inB x 0 ((ws.length : Int) - 1))) rfl) <| s_nil ?_
 refine W.cond (!(l.all (fun x : Int => inB x 0 ((ws.length : Int) - 1)))) rfl (fun c6 => ?_) (fun c6 => ?_)
 ·skip
  refine W.seq <| W.region rfl <| s_val (x_as (v := I 2) rfl) <| s_nil ?_
  refine W.ret ?_
  exact ⟨_, resE_tmp rfl, (eqI (listed_arg c6)), E⟩
 ·skip
  refine W.skip <| W.seq <| W.seq <| W.region rfl <| s_val (x_as (v := I 1) rfl) <| s_nil <| W.block ?_
  refine W.loop (fun m σ W => ∃ (i : Nat) (ρ : Env), σ = upds ρ [(1, vl), (5, I i)] ∧ m = l.length + 1 - i ∧ Ext w W ∧ KF 0 w W ∧ W.heap[b2]? = some (.cells #[vw] 22 (0, 0)) ∧ 1 ≤ i ∧ i ≤ l.length + 1 ∧ AscTo l i) ?_ ?_
  ·exact ⟨_, 1, _, upds_of _ _ ⟨rfl, (eqI (by omega)), trivial⟩, rfl, E, K1, h_b2, (Nat.le_refl _), (by omega), (fun j h1 h2 => by omega)⟩
  ·rintro m σ w7 ⟨i, ρ, rfl, rfl, E, K1, h_b2, iv0_0, iv0_1, iv0_2⟩
   refine W.seq <| W.seq <| W.region rfl <| s_val (x_mv (v := I i) rfl) <| s_val (x_mv (v := vl) rfl) <| s_val (x_lenS T34.und rfl (hl.to K1)) <| s_val (x_cmp (kd := .i64) (a := i) (b := l.length) (r := decide ((i : Int) < l.length)) rfl rfl rfl) <| s_nil ?_
   refine W.cond (decide ((i : Int) < l.length)) rfl (fun c8 => ?_) (fun c8 => ?_)
   ·simp only [q1, q2, q3, q4, q5, q6, ne_eq, q7] at c8
    refine W.skip <| W.seq <| W.block <| W.seq ?_
    refine W.draw (fun W => Ext w W ∧ KF 0 w W ∧ W.heap[b2]? = some (.cells #[vw] 22 (0, 0))) [(0, true), (1, true), (2, true), (3, true), (4, true), (5, true), (6, true), (7, true), (8, true), (9, true)] mixed (by decide +kernel) rfl ?_
    intro w9 x10
    replace E := E.trans x10
    replace K1 := K1.ext x10
    replace h_b2 := x10.get h_b2
    clear x10
    refine ⟨⟨E, K1, h_b2⟩, ?_⟩
    refine d_q rfl (fun w' hC => by obtain ⟨E, K1, h_b2⟩ := hC; exact x_mv (v := vl) rfl) ?_
    refine d_q rfl (fun w' hC => by obtain ⟨E, K1, h_b2⟩ := hC; exact x_mv (v := I i) rfl) ?_
    refine d_q rfl (fun w' hC => by obtain ⟨E, K1, h_b2⟩ := hC; exact x_ix (a := vl) (b := I i) (v := vat vl 1 (Int.toNat i)) rfl rfl (Sl.ix (α := Int) T34.und T34.size (hl.to K1) (by omega) (by omega))) ?_
    refine d_q rfl (fun w' hC => by obtain ⟨E, K1, h_b2⟩ := hC; exact x_ld (p := vat vl 1 (Int.toNat i)) (v := I (l.getD i 0)) rfl (ld_sc Sc3 (At.to (Int_at hl (i := i) (by omega) (by omega)) K1))) ?_
    refine d_q rfl (fun w' hC => by obtain ⟨E, K1, h_b2⟩ := hC; exact x_mv (v := vl) rfl) ?_
    refine d_q rfl (fun w' hC => by obtain ⟨E, K1, h_b2⟩ := hC; exact x_mv (v := I i) rfl) ?_
    refine d_q rfl (fun w' hC => by obtain ⟨E, K1, h_b2⟩ := hC; exact x_ari (a := i) (b := 1) (r := i - 1) rfl rfl rfl (by omega)) ?_
    refine d_q rfl (fun w' hC => by obtain ⟨E, K1, h_b2⟩ := hC; exact x_ix (a := vl) (b := I (i - 1)) (v := vat vl 1 (Int.toNat (i - 1))) rfl rfl (Sl.ix (α := Int) T34.und T34.size (hl.to K1) (by omega) (by omega))) ?_
    refine d_q rfl (fun w' hC => by obtain ⟨E, K1, h_b2⟩ := hC; exact x_ld (p := vat vl 1 (Int.toNat (i - 1))) (v := I (l.getD (Int.toNat (i - 1)) 0)) rfl (ld_sc Sc3 (At.to (Int_at hl (i := i - 1) (by omega) (by omega)) K1))) ?_
    refine d_q rfl (fun w' hC => by obtain ⟨E, K1, h_b2⟩ := hC; exact x_cmp (kd := .i64) (a := l.getD i 0) (b := l.getD (Int.toNat (i - 1)) 0) (r := decide ((l.getD i 0 : Int) ≤ (l.getD (Int.toNat (i - 1)) 0))) rfl rfl rfl) ?_
    refine d_nil ?_
    refine W.cond (decide ((l.getD i 0 : Int) ≤ (l.getD (Int.toNat (i - 1)) 0))) rfl (fun c11 => ?_) (fun c11 => ?_)
    ·simp only [q1, q2, q3, q4, q5, q6, ne_eq, q7] at c11
     refine W.seq <| W.region rfl <| s_val (x_as (v := I 9) rfl) <| s_nil ?_
     refine W.ret ?_
     exact ⟨_, resE_tmp rfl, (eqI (listed_bad c6 c8 iv0_0 c11)), E⟩
    ·simp only [q1, q2, q3, q4, q5, q6, ne_eq, q7] at c11
     refine W.skip <| W.region rfl <| s_val (x_mv (v := I i) rfl) <| s_val (x_ari (a := i) (b := 1) (r := i + 1) rfl rfl rfl (by omega)) <| s_val (x_as (v := I (i + 1)) rfl) <| s_nil ?_
     exact ⟨_, (by omega), i+1, _, upds_of _ _ ⟨rfl, (eqI (by omega)), trivial⟩, rfl, E, K1, h_b2, (by omega), (by omega), (asc_next iv0_2 c11)⟩
   ·simp only [q1, q2, q3, q4, q5, q6, ne_eq, q7] at c8
    refine W.exit ?_
    refine W.seq <| W.region rfl <| s_val (x_as (v := I 0) rfl) <| s_nil ?_
    refine W.ret ?_
    exact ⟨_, resE_tmp rfl, (eqI (listed_ok c6 c8 iv0_2)), E⟩

set_option maxRecDepth 100000 in
theorem asked1 {b : Nat} {st : List Bool} (x : Int) (w : World) (h_b : w.heap[b]? = some (.cells (encB st).toArray 141 (0, 0))) (hst : st.length = 30) (h0 : 0 ≤ x) (h1 : x < 30) : Ret Try.prog 146 #[I x, .pointer (some ⟨b, 0, none⟩)] w fun v w' => v = B (st.getD x.toNat false) ∧ Ext w w' := by
 refine ret_of_W Try.func146 rfl rfl rfl ?_
 have E := Ext.refl w
 have K1 := KF.refl 0 w
 refine W.seq <| W.region rfl <| s_val (x_as (v := B false) rfl) <| s_nil <| W.seq <| W.region rfl <| s_val (x_mv (v := I x) rfl) <| s_val (x_ix (a := .pointer (some ⟨b, 0, none⟩)) (b := I x) (v := .pointer (some ⟨b, 0 + Int.toNat x, none⟩)) rfl rfl (run_indexArr Try.underlying141 Sz4 (by omega) (by omega))) ?_
 refine s_val (x_ld (p := .pointer (some ⟨b, 0 + Int.toNat x, none⟩)) (v := B (st.getD (Int.toNat x) false)) rfl (ldArr Sc4 h_b (by omega) (by omega))) <| s_val (x_as (v := B (st.getD (Int.toNat x) false)) rfl) <| s_nil ?_
 refine W.ret ?_
 exact ⟨_, resE_tmp rfl, rfl, E⟩

set_option maxRecDepth 100000 in
theorem asked_any {vw vr : Value} {ws : List Work} {rev : List Int} (w : World) (hw : Sl w.cell? vw ws) (hr : Sl w.cell? vr rev) : Ret Try.prog 92 #[vw, vr] w fun v w' => (askedE ws rev ≠ 0 ∧ v = .tuple #[.pointer none, .slice none 0 0, .agg (encB (List.replicate 30 false)).toArray, I (askedE ws rev)] ∧ Ext w w') ∨ (askedE ws rev = 0 ∧ ∃ b so, v = .tuple #[.pointer (some ⟨b, 0, none⟩), so, .agg (encB (staleL ws rev)).toArray, I 0] ∧ New w b (.cells #[vw] 187 (0, 0)) w' ∧ Sl (frm w' w.heap.size) so (orderP ws)) := by
 refine ret_of_W Try.func92 rfl rfl rfl ?_
 have E := Ext.refl w
 have K1 := KF.refl 0 w
 have hl_hw := hw.len_le
 have hw := hw.par
 have hl_hr := hr.len_le
 have hr := hr.par
 refine W.seq <| W.region rfl <| s_val (x_as (v := .pointer none) rfl) <| s_val (x_as (v := .slice none 0 0) rfl) ?_
 refine s_alloc (cs := encB (List.replicate 30 false)) Al141 rfl ?_
 intro b2 w3 Nb2
 have o_K1_b2 := Nat.le_trans K1.size Nb2.ge
 have o_b2 := Nat.le_trans E.size Nb2.ge
 replace E := E.trans Nb2.ext
 replace K1 := K1.ext Nb2.ext
 have h_b2 := Nb2.same
 clear Nb2
 have hl_b2 : (List.replicate 30 false).length = 30 := by simp
 refine s_val (x_as (v := I 0) rfl) <| s_nil <| W.seq <| W.region rfl ?_
 refine s_alloc (cs := encB (List.replicate 30 false)) Al141 rfl ?_
 intro b4 w5 Nb4
 have o_K1_b4 := Nat.le_trans K1.size Nb4.ge
 have o_b4 := Nat.le_trans E.size Nb4.ge
 have o_b2_b4 := Nat.lt_of_lt_of_le (heap_lt h_b2) Nb4.ge
 replace E := E.trans Nb4.ext
 replace K1 := K1.ext Nb4.ext
 replace h_b2 := Nb4.ext.get h_b2
 have h_b4 := Nb4.same
 clear Nb4
 have hl_b4 : (List.replicate 30 false).length = 30 := by simp
 refine s_nil <| W.seq <| W.region rfl <| s_val (x_mv (v := vw) rfl) ?_
 refine s_call cf81 [vw] rfl (opened_any _ (hw.to K1)) ?_
 rintro _ w6 (⟨h8, rfl, x9⟩ | ⟨h10, b11, so12, rfl, n13, hs14⟩)
 ·replace E := E.trans x9
  replace K1 := K1.ext x9
  replace h_b2 := x9.get h_b2
  replace h_b4 := x9.get h_b4
  refine s_val (x_mv (v := .tuple #[.pointer none, .slice none 0 0, I (openedE ws)]) rfl) <| s_val (x_ext (vs := [.pointer none, .slice none 0 0, I (openedE ws)]) (v := .pointer none) rfl rfl) <| s_val (x_ext (vs := [.pointer none, .slice none 0 0, I (openedE ws)]) (v := .slice none 0 0) rfl rfl) <| s_val (x_ext (vs := [.pointer none, .slice none 0 0, I (openedE ws)]) (v := I (openedE ws)) rfl rfl) <| s_val (x_as (v := .pointer none) rfl) <| s_val (x_as (v := .slice none 0 0) rfl) <| s_val (x_as (v := I (openedE ws)) rfl) <| s_nil ?_
  refine W.seq <| W.seq <| W.region rfl <| s_val (x_mv (v := I (openedE ws)) rfl) <| s_val (x_cmp (kd := .i64) (a := openedE ws) (b := 0) (r := (openedE ws : Int) == 0) rfl rfl rfl) <| s_nil ?_
  refine W.cond ((openedE ws : Int) == 0) rfl (fun c15 => ?_) (fun c15 => ?_)
  ·simp only [q1, q2, q3, q4, q5, q6, ne_eq, q7] at c15
   exact absurd c15 h8
  ·simp only [q1, q2, q3, q4, q5, q6, ne_eq, q7] at c15
   refine W.skip <| W.seq <| W.seq <| W.region rfl <| s_val (x_mv (v := I (openedE ws)) rfl) <| s_val (x_cmp (kd := .i64) (a := openedE ws) (b := 0) (r := (openedE ws : Int) != 0) rfl rfl rfl) <| s_nil ?_
   refine W.cond ((openedE ws : Int) != 0) rfl (fun c16 => ?_) (fun c16 => ?_)
   ·simp only [q1, q2, q3, q4, q5, q6, ne_eq, q7] at c16
    refine W.seq ?_
    refine W.draw (fun W => Ext w W ∧ KF 0 w W ∧ W.heap[b4]? = some (.cells (encB (List.replicate 30 false)).toArray 141 (0, 0))) [(0, true), (1, true), (2, true), (3, true), (4, false), (5, true)] mixed (by decide +kernel) rfl ?_
    intro w17 x18
    replace E := E.trans x18
    replace K1 := K1.ext x18
    replace h_b2 := x18.get h_b2
    replace h_b4 := x18.get h_b4
    clear x18
    refine ⟨⟨E, K1, h_b4⟩, ?_⟩
    refine d_q rfl (fun w' hC => by obtain ⟨E, K1, h_b4⟩ := hC; exact x_ld (p := .pointer (some ⟨b4, 0, none⟩)) (v := .agg (encB (List.replicate 30 false)).toArray) rfl (ldArrA Ag141 Sz141 hl_b4 h_b4)) ?_
    refine d_q rfl (fun w' hC => by obtain ⟨E, K1, h_b4⟩ := hC; exact x_mv (v := I (openedE ws)) rfl) ?_
    refine d_q rfl (fun w' hC => by obtain ⟨E, K1, h_b4⟩ := hC; exact x_as (v := .pointer none) rfl) ?_
    refine d_q rfl (fun w' hC => by obtain ⟨E, K1, h_b4⟩ := hC; exact x_as (v := .slice none 0 0) rfl) ?_
    refine d_l rfl ?_
    refine s_stArrA (b := b2) (l := List.replicate 30 false) (l' := List.replicate 30 false) rfl rfl Sz141 h_b2 hl_b2 hl_b4 ?_
    intro w19 p20
    replace E := E.put (by omega) p20
    replace K1 := K1.put p20 (by omega)
    replace h_b4 := p20.get (by omega) h_b4
    replace h_b2 := p20.same
    clear p20
    refine s_nil ⟨⟨E, K1, h_b4⟩, ?_⟩
    refine d_q rfl (fun w' hC => by obtain ⟨E, K1, h_b4⟩ := hC; exact x_as (v := I (openedE ws)) rfl) ?_
    refine d_nil ?_
    refine W.ret ?_
    exact ⟨_, (resE_ofn (vs := [.pointer none, .slice none 0 0, .agg (encB (List.replicate 30 false)).toArray, I (openedE ws)]) rfl rfl (.tmp (v := .pointer none) rfl <| .tmp (v := .slice none 0 0) rfl <| .cell (v := .agg (encB (List.replicate 30 false)).toArray) rfl (run_loadVar_arr Ag141 Sz141 hl_b4 h_b2) <| .tmp (v := I (openedE ws)) rfl <| .nil)), .inl ⟨(by rw [asked_wrong h8]; exact h8), (by rw [asked_wrong h8]), E⟩⟩
   ·simp only [q1, q2, q3, q4, q5, q6, ne_eq, q7] at c16
    exact absurd c16 h8
 ·have sz_w6 := E.size
  have lt_b2_w6 := heap_lt h_b2
  have lt_b4_w6 := heap_lt h_b4
  have o_K1_b11 := Nat.le_trans K1.size n13.ge
  have o_b11 := Nat.le_trans E.size n13.ge
  have o_b2_b11 := Nat.lt_of_lt_of_le (heap_lt h_b2) n13.ge
  have o_b4_b11 := Nat.lt_of_lt_of_le (heap_lt h_b4) n13.ge
  replace E := E.trans n13.ext
  replace K1 := K1.ext n13.ext
  replace h_b2 := n13.ext.get h_b2
  replace h_b4 := n13.ext.get h_b4
  have h_b11 := n13.same
  clear n13
  have hl_hs14 := hs14.len_le
  have K21 := KF.refl w5.heap.size w6
  refine s_val (x_mv (v := .tuple #[.pointer (some ⟨b11, 0, none⟩), so12, I 0]) rfl) <| s_val (x_ext (vs := [.pointer (some ⟨b11, 0, none⟩), so12, I 0]) (v := .pointer (some ⟨b11, 0, none⟩)) rfl rfl) <| s_val (x_ext (vs := [.pointer (some ⟨b11, 0, none⟩), so12, I 0]) (v := so12) rfl rfl) <| s_val (x_ext (vs := [.pointer (some ⟨b11, 0, none⟩), so12, I 0]) (v := I 0) rfl rfl) <| s_val (x_as (v := .pointer (some ⟨b11, 0, none⟩)) rfl) <| s_val (x_as (v := so12) rfl) <| s_val (x_as (v := I 0) rfl) <| s_nil ?_
  refine W.seq <| W.seq <| W.region rfl <| s_val (x_mv (v := I 0) rfl) <| s_val (x_cmp (kd := .i64) (a := 0) (b := 0) (r := (0 : Int) == 0) rfl rfl rfl) <| s_nil ?_
  refine W.cond ((0 : Int) == 0) rfl (fun c22 => ?_) (fun c22 => ?_)
  ·simp only [q1, q2, q3, q4, q5, q6, ne_eq, q7] at c22
   refine W.region rfl <| s_val (x_mv (v := vw) rfl) <| s_val (x_mv (v := vr) rfl) ?_
   refine s_call cf96 [vw, vr] rfl (listed_any _ (hw.to K1) (hr.to K1)) ?_
   rintro _ w23 ⟨rfl, x24⟩
   replace E := E.trans x24
   replace K1 := K1.ext x24
   replace K21 := K21.ext x24
   replace h_b2 := x24.get h_b2
   replace h_b4 := x24.get h_b4
   replace h_b11 := x24.get h_b11
   clear x24
   refine s_val (x_as (v := I (listedE ws.length rev)) rfl) <| s_nil <| W.seq <| W.seq <| W.region rfl <| s_val (x_mv (v := I (listedE ws.length rev)) rfl) <| s_val (x_cmp (kd := .i64) (a := listedE ws.length rev) (b := 0) (r := (listedE ws.length rev : Int) != 0) rfl rfl rfl) <| s_nil ?_
   refine W.cond ((listedE ws.length rev : Int) != 0) rfl (fun c25 => ?_) (fun c25 => ?_)
   ·simp only [q1, q2, q3, q4, q5, q6, ne_eq, q7] at c25
    refine W.seq ?_
    refine W.draw (fun W => Ext w W ∧ KF 0 w W ∧ KF w5.heap.size w6 W ∧ W.heap[b4]? = some (.cells (encB (List.replicate 30 false)).toArray 141 (0, 0)) ∧ W.heap[b11]? = some (.cells #[vw] 187 (0, 0))) [(0, true), (1, true), (2, true), (3, true), (4, false), (5, true)] mixed (by decide +kernel) rfl ?_
    intro w26 x27
    replace E := E.trans x27
    replace K1 := K1.ext x27
    replace K21 := K21.ext x27
    replace h_b2 := x27.get h_b2
    replace h_b4 := x27.get h_b4
    replace h_b11 := x27.get h_b11
    clear x27
    refine ⟨⟨E, K1, K21, h_b4, h_b11⟩, ?_⟩
    refine d_q rfl (fun w' hC => by obtain ⟨E, K1, K21, h_b4, h_b11⟩ := hC; exact x_ld (p := .pointer (some ⟨b4, 0, none⟩)) (v := .agg (encB (List.replicate 30 false)).toArray) rfl (ldArrA Ag141 Sz141 hl_b4 h_b4)) ?_
    refine d_q rfl (fun w' hC => by obtain ⟨E, K1, K21, h_b4, h_b11⟩ := hC; exact x_mv (v := I (listedE ws.length rev)) rfl) ?_
    refine d_q rfl (fun w' hC => by obtain ⟨E, K1, K21, h_b4, h_b11⟩ := hC; exact x_as (v := .pointer none) rfl) ?_
    refine d_q rfl (fun w' hC => by obtain ⟨E, K1, K21, h_b4, h_b11⟩ := hC; exact x_as (v := .slice none 0 0) rfl) ?_
    refine d_l rfl ?_
    refine s_stArrA (b := b2) (l := List.replicate 30 false) (l' := List.replicate 30 false) rfl rfl Sz141 h_b2 hl_b2 hl_b4 ?_
    intro w28 p29
    replace E := E.put (by omega) p29
    replace K1 := K1.put p29 (by omega)
    replace K21 := K21.put p29 (by omega)
    replace h_b4 := p29.get (by omega) h_b4
    replace h_b11 := p29.get (by omega) h_b11
    replace h_b2 := p29.same
    clear p29
    refine s_nil ⟨⟨E, K1, K21, h_b4, h_b11⟩, ?_⟩
    refine d_q rfl (fun w' hC => by obtain ⟨E, K1, K21, h_b4, h_b11⟩ := hC; exact x_as (v := I (listedE ws.length rev)) rfl) ?_
    refine d_nil ?_
    refine W.ret ?_
    exact ⟨_, (resE_ofn (vs := [.pointer none, .slice none 0 0, .agg (encB (List.replicate 30 false)).toArray, I (listedE ws.length rev)]) rfl rfl (.tmp (v := .pointer none) rfl <| .tmp (v := .slice none 0 0) rfl <| .cell (v := .agg (encB (List.replicate 30 false)).toArray) rfl (run_loadVar_arr Ag141 Sz141 hl_b4 h_b2) <| .tmp (v := I (listedE ws.length rev)) rfl <| .nil)), .inl ⟨(by rw [asked_list h10]; exact c25), (by rw [asked_list h10]), E⟩⟩
   ·simp only [q1, q2, q3, q4, q5, q6, ne_eq, q7] at c25
    refine W.skip <| W.seq <| W.seq <| W.region rfl <| s_val (x_mv (v := so12) rfl) <| s_val (x_lenS T34.und rfl (hs14.to K21)) <| s_val (x_mv (v := I 0) rfl) <| s_nil ?_
    refine W.block ?_
    have hr30 := opened_right h10
    have hn30 := (right_len hr30).2
    refine W.loop (fun m σ W => ∃ (k : Nat) (ρ : Env), σ = upds ρ [(0, vw), (1, vr), (6, .pointer (some ⟨b2, 0, none⟩)), (8, .pointer (some ⟨b4, 0, none⟩)), (9, .pointer (some ⟨b11, 0, none⟩)), (10, so12), (29, so12), (30, I ((orderP ws).length)), (31, I k)] ∧ m = (orderP ws).length - k ∧ Ext w W ∧ KF 0 w W ∧ KF w5.heap.size w6 W ∧ W.heap[b2]? = some (.cells (encB (List.replicate 30 false)).toArray 141 (0, 0)) ∧ W.heap[b4]? = some (.cells (encB (staleF ws rev ((orderP ws).take k) (List.replicate 30 false))).toArray 141 (0, 0)) ∧ (staleF ws rev ((orderP ws).take k) (List.replicate 30 false)).length = 30 ∧ W.heap[b11]? = some (.cells #[vw] 187 (0, 0)) ∧ k ≤ (orderP ws).length) ?_ ?_
    ·exact ⟨_, 0, _, upds_of _ _ ⟨rfl, rfl, rfl, rfl, rfl, rfl, rfl, rfl, (eqI (by omega)), trivial⟩, rfl, E, K1, K21, h_b2, (by first | exact h_b4 | simpa using h_b4), (by first | exact hl_b4 | simpa using hl_b4), h_b11, (Nat.zero_le _)⟩
    ·rintro m σ w30 ⟨k, ρ, rfl, rfl, E, K1, K21, h_b2, h_b4, hst, h_b11, iv0_0⟩
     refine W.seq <| W.region rfl <| s_val (x_cmp (kd := .i64) (a := k) (b := (orderP ws).length) (r := decide ((k : Int) < ((orderP ws).length))) rfl rfl rfl) <| s_nil <| W.seq ?_
     refine W.cond (decide ((k : Int) < ((orderP ws).length))) rfl (fun c31 => ?_) (fun c31 => ?_)
     ·simp only [q1, q2, q3, q4, q5, q6, ne_eq, q7] at c31
      have hik := order_at ws c31
      refine W.skip <| W.seq <| W.block <| W.seq <| W.region rfl <| s_val (x_ix (a := so12) (b := I k) (v := vat so12 1 (Int.toNat k)) rfl rfl (Sl.ix (α := Int) T34.und T34.size (hs14.to K21) (by omega) (by omega))) <| s_val (x_ld (p := vat so12 1 (Int.toNat k)) (v := I ((orderP ws).getD k 0)) rfl (ld_sc Sc3 (At.to (Int_at hs14 (i := k) (by omega) (by omega)) K21))) <| s_val (x_as (v := I ((orderP ws).getD k 0)) rfl) ?_
      refine s_nil <| W.region rfl <| s_val (x_mv (v := I ((orderP ws).getD k 0)) rfl) <| s_val (x_mv (v := vr) rfl) <| s_val (x_mv (v := I ((orderP ws).getD k 0)) rfl) ?_
      refine s_call cf45 [vr, I ((orderP ws).getD k 0)] rfl (contains_int ((orderP ws).getD k 0) _ (hr.to K1)) ?_
      rintro _ w32 ⟨rfl, x33⟩
      replace E := E.trans x33
      replace K1 := K1.ext x33
      replace K21 := K21.ext x33
      replace h_b2 := x33.get h_b2
      replace h_b4 := x33.get h_b4
      replace h_b11 := x33.get h_b11
      clear x33
      refine s_val (x_mv (v := B (rev.contains ((orderP ws).getD k 0))) rfl) <| g_val (!(rev.contains ((orderP ws).getD k 0))) (gy_f rfl) (fun hg => x_mv (v := vw) rfl) <| g_val (!(rev.contains ((orderP ws).getD k 0))) (gy_f rfl) (fun hg => x_mv (v := I ((orderP ws).getD k 0)) rfl) <| g_val (!(rev.contains ((orderP ws).getD k 0))) (gy_f rfl) (fun hg => x_ix (a := vw) (b := I ((orderP ws).getD k 0)) (v := vat vw 3 (Int.toNat ((orderP ws).getD k 0))) (gd_of (c := !(rev.contains ((orderP ws).getD k 0))) hg (vw)) (gd_of (c := !(rev.contains ((orderP ws).getD k 0))) hg (I ((orderP ws).getD k 0))) (Sl.ix (α := Work) T22.und T22.size (hw.to K1) (by first | omega | (simp at hg; omega) | (simp [inB] at hg; omega)) (by first | omega | (simp at hg; omega) | (simp [inB] at hg; omega)))) <| g_val (!(rev.contains ((orderP ws).getD k 0))) (gy_f rfl) (fun hg => x_fa (a := vat vw 3 (Int.toNat ((orderP ws).getD k 0))) (v := fat (vat vw 3 (Int.toNat ((orderP ws).getD k 0))) 0) (gd_of (c := !(rev.contains ((orderP ws).getD k 0))) hg (vat vw 3 (Int.toNat ((orderP ws).getD k 0)))) (fa_pl Fd60_0 Sz34 (Sl.pl (i := (orderP ws).getD k 0) hw (by first | omega | (simp at hg; omega) | (simp [inB] at hg; omega)) (by first | omega | (simp at hg; omega) | (simp [inB] at hg; omega))))) ?_
      obtain ⟨u34, ha_u34, hs35⟩ := gd_ex (c := !(rev.contains ((orderP ws).getD k 0))) fun hg => Work_at0 hw (i := (orderP ws).getD k 0) (by first | omega | (simp at hg; omega) | (simp [inB] at hg; omega)) (by first | omega | (simp at hg; omega) | (simp [inB] at hg; omega))
      replace hs35 : (!(rev.contains ((orderP ws).getD k 0))) = true → Sl _ u34 (ws.getD (Int.toNat ((orderP ws).getD k 0)) default).of := hs35
      refine g_val (!(rev.contains ((orderP ws).getD k 0))) (gy_f rfl) (fun hg => x_ld (p := fat (vat vw 3 (Int.toNat ((orderP ws).getD k 0))) 0) (v := u34) (gd_of (c := !(rev.contains ((orderP ws).getD k 0))) hg (fat (vat vw 3 (Int.toNat ((orderP ws).getD k 0))) 0)) (ld_sc Sc34 (At.to (ha_u34 hg) K1))) <| g_val (!(rev.contains ((orderP ws).getD k 0))) (gy_f rfl) (fun hg => x_mf (fs := []) (cs := [.pointer (some ⟨b4, 0, none⟩)]) rfl rfl) ?_
      refine g_call (!(rev.contains ((orderP ws).getD k 0))) (gy_f rfl) cf48 (B (((ws.getD (Int.toNat ((orderP ws).getD k 0)) default).of).any (fun x : Int => (staleF ws rev ((orderP ws).take k) (List.replicate 30 false)).getD x.toNat false))) (fun _ => [u34, .func (.func 146) #[] #[.pointer (some ⟨b4, 0, none⟩)]]) (fun hg => lst2 (gd_of (c := !(rev.contains ((orderP ws).getD k 0))) hg (u34)) (gd_of (c := !(rev.contains ((orderP ws).getD k 0))) hg (.func (.func 146) #[] #[.pointer (some ⟨b4, 0, none⟩)]))) (fun hg => (containsFunc_int _ ((hs35 hg).to K1) ⟨146, [.pointer (some ⟨b4, 0, none⟩)], rfl, cf146, fun w' v x hE hD hA => by obtain rfl := Arg.int hA; exact (asked1 _ _ (hE.get h_b4) hst (right_of hr30 (by omega) _ hD).1 (by have := (right_of hr30 (by omega) _ hD).2.1; omega))⟩)) ?_
      intro w36 x37
      replace E := E.trans x37
      replace K1 := K1.ext x37
      replace K21 := K21.ext x37
      replace h_b2 := x37.get h_b2
      replace h_b4 := x37.get h_b4
      replace h_b11 := x37.get h_b11
      clear x37
      refine s_val (x_por (b := rev.contains ((orderP ws).getD k 0)) (r := ((ws.getD (Int.toNat ((orderP ws).getD k 0)) default).of).any (fun x : Int => (staleF ws rev ((orderP ws).take k) (List.replicate 30 false)).getD x.toNat false)) rfl rfl (fun hb => gd_of (c := !(rev.contains ((orderP ws).getD k 0))) (by simp_all) (B (((ws.getD (Int.toNat ((orderP ws).getD k 0)) default).of).any (fun x : Int => (staleF ws rev ((orderP ws).take k) (List.replicate 30 false)).getD x.toNat false))))) <| s_val (x_ix (a := .pointer (some ⟨b4, 0, none⟩)) (b := I ((orderP ws).getD k 0)) (v := .pointer (some ⟨b4, 0 + Int.toNat ((orderP ws).getD k 0), none⟩)) rfl rfl (run_indexArr Try.underlying141 Sz4 (by omega) (by omega))) ?_
      refine s_stArr (b := b4) (l := staleF ws rev ((orderP ws).take k) (List.replicate 30 false)) (i := (orderP ws).getD k 0) (v := ((rev.contains ((orderP ws).getD k 0)) || (((ws.getD (Int.toNat ((orderP ws).getD k 0)) default).of).any (fun x : Int => (staleF ws rev ((orderP ws).take k) (List.replicate 30 false)).getD x.toNat false)))) rfl rfl Sz4 h_b4 (by omega) (by omega) ?_
      intro w38 p39
      replace E := E.put (by omega) p39
      replace K1 := K1.put p39 (by omega)
      replace K21 := K21.put p39 (by omega)
      replace h_b2 := p39.get (by omega) h_b2
      replace h_b11 := p39.get (by omega) h_b11
      replace h_b4 := p39.same
      clear p39
      have hl40 : ((staleF ws rev ((orderP ws).take k) (List.replicate 30 false)).set (Int.toNat ((orderP ws).getD k 0)) (((rev.contains ((orderP ws).getD k 0)) || (((ws.getD (Int.toNat ((orderP ws).getD k 0)) default).of).any (fun x : Int => (staleF ws rev ((orderP ws).take k) (List.replicate 30 false)).getD x.toNat false))))).length = 30 := List.length_set.trans hst
      refine s_nil <| W.region rfl <| s_val (x_ari (a := k) (b := 1) (r := k + 1) rfl rfl rfl (by omega)) <| s_val (x_mv (v := I (k + 1)) rfl) <| s_nil ?_
      exact ⟨_, (by omega), k+1, _, upds_of _ _ ⟨rfl, rfl, rfl, rfl, rfl, rfl, rfl, rfl, (eqI (by omega)), trivial⟩, rfl, E, K1, K21, h_b2, (by rw [staleF_next ws rev (orderP ws) c31]; exact h_b4), (by rw [staleF_len]; simp), h_b11, (by omega)⟩
     ·simp only [q1, q2, q3, q4, q5, q6, ne_eq, q7] at c31
      refine W.exit ?_
      refine W.seq ?_
      refine W.draw (fun W => Ext w W ∧ KF 0 w W ∧ KF w5.heap.size w6 W ∧ W.heap[b4]? = some (.cells (encB (staleF ws rev ((orderP ws).take k) (List.replicate 30 false))).toArray 141 (0, 0)) ∧ W.heap[b11]? = some (.cells #[vw] 187 (0, 0))) [(0, true), (1, true), (2, true), (3, true), (4, true), (5, false), (6, true)] mixed (by decide +kernel) rfl ?_
      intro w41 x42
      replace E := E.trans x42
      replace K1 := K1.ext x42
      replace K21 := K21.ext x42
      replace h_b2 := x42.get h_b2
      replace h_b4 := x42.get h_b4
      replace h_b11 := x42.get h_b11
      clear x42
      refine ⟨⟨E, K1, K21, h_b4, h_b11⟩, ?_⟩
      refine d_q rfl (fun w' hC => by obtain ⟨E, K1, K21, h_b4, h_b11⟩ := hC; exact x_mv (v := .pointer (some ⟨b11, 0, none⟩)) rfl) ?_
      refine d_q rfl (fun w' hC => by obtain ⟨E, K1, K21, h_b4, h_b11⟩ := hC; exact x_mv (v := so12) rfl) ?_
      refine d_q rfl (fun w' hC => by obtain ⟨E, K1, K21, h_b4, h_b11⟩ := hC; exact x_ld (p := .pointer (some ⟨b4, 0, none⟩)) (v := .agg (encB (staleF ws rev ((orderP ws).take k) (List.replicate 30 false))).toArray) rfl (ldArrA Ag141 Sz141 hst h_b4)) ?_
      refine d_q rfl (fun w' hC => by obtain ⟨E, K1, K21, h_b4, h_b11⟩ := hC; exact x_as (v := .pointer (some ⟨b11, 0, none⟩)) rfl) ?_
      refine d_q rfl (fun w' hC => by obtain ⟨E, K1, K21, h_b4, h_b11⟩ := hC; exact x_as (v := so12) rfl) ?_
      refine d_l rfl ?_
      refine s_stArrA (b := b2) (l := List.replicate 30 false) (l' := staleF ws rev ((orderP ws).take k) (List.replicate 30 false)) rfl rfl Sz141 h_b2 hl_b2 hst ?_
      intro w43 p44
      replace E := E.put (by omega) p44
      replace K1 := K1.put p44 (by omega)
      replace K21 := K21.put p44 (by omega)
      replace h_b4 := p44.get (by omega) h_b4
      replace h_b11 := p44.get (by omega) h_b11
      replace h_b2 := p44.same
      clear p44
      refine s_nil ⟨⟨E, K1, K21, h_b4, h_b11⟩, ?_⟩
      refine d_q rfl (fun w' hC => by obtain ⟨E, K1, K21, h_b4, h_b11⟩ := hC; exact x_as (v := I 0) rfl) ?_
      refine d_nil ?_
      refine W.ret ?_
      exact ⟨_, (resE_ofn (vs := [.pointer (some ⟨b11, 0, none⟩), so12, .agg (encB (staleF ws rev ((orderP ws).take k) (List.replicate 30 false))).toArray, I 0]) rfl rfl (.tmp (v := .pointer (some ⟨b11, 0, none⟩)) rfl <| .tmp (v := so12) rfl <| .cell (v := .agg (encB (staleF ws rev ((orderP ws).take k) (List.replicate 30 false))).toArray) rfl (run_loadVar_arr Ag141 Sz141 hst h_b2) <| .tmp (v := I 0) rfl <| .nil)), .inr ⟨(by rw [asked_list h10]; exact c25), b11, _, (by rw [staleL_done c31 iv0_0]), ⟨E, o_b11, h_b11⟩, (hs14.kf K21).mono (frm_mono _ (by omega))⟩⟩
  ·simp only [q1, q2, q3, q4, q5, q6, ne_eq, q7] at c22
   exact absurd c22 (by decide)

end Go.Proofs.Ytndobgodeicloaa
namespace Go.Nm
theorem rep_step {l : List Int} {x : Int} {k z : Nat} (h : ∀ y ∈ l.take k, y = x) (hk : k ≤ l.length) :
    ∀ y ∈ (l.take (Int.toNat k) ++ (l.take k).take (l.length - Int.toNat k) ++ l.drop z).take (k + min (l.take k).length (l.length - Int.toNat k)), y = x := by
  intro y hy
  rw [List.take_append_of_le_length (by simp; omega)] at hy
  have hy := List.mem_of_mem_take hy
  rw [show Int.toNat (k : Int) = k from by omega] at hy
  rcases List.mem_append.1 hy with h1 | h1
  · exact h y h1
  · exact h y (List.mem_of_mem_take h1)
theorem rep_done {l : List Int} {x : Int} {n k : Nat} (hl : l.length = n) (h : ∀ y ∈ l.take k, y = x) (hk : n ≤ k) : l = List.replicate n x := by
  rw [List.take_of_length_le (by omega)] at h
  exact List.eq_replicate_iff.2 ⟨hl, h⟩
theorem rep_init {n : Nat} (x : Int) (h : 1 ≤ n) : (List.replicate n (0 : Int)).take 0 ++ [x].take ((List.replicate n (0 : Int)).length - 0) ++ (List.replicate n (0 : Int)).drop (0 + min [x].length ((List.replicate n (0 : Int)).length - 0)) = [x] ++ List.replicate (n - 1) 0 := by
  obtain ⟨m, rfl⟩ : ∃ m, n = m + 1 := ⟨n - 1, by omega⟩
  simp [show min 1 (m + 1) = 1 from by omega]
end Go.Nm
namespace Go.Nm
/-- When may a work begin, as those are ready of which it is made? -/
def begF (out l : List Int) : Int := l.foldl (fun b k => max b (out.getD k.toNat 0)) 0
def readyStep (ws : List Work) (st : List Bool) (out : List Int) (i : Int) : List Int :=
  if st.getD i.toNat false then out.set i.toNat (begF out (ws.getD i.toNat default).of + (ws.getD i.toNat default).minutes) else out
def readyF (ws : List Work) (st : List Bool) (l out : List Int) : List Int := l.foldl (readyStep ws st) out
/-- When each stale work is ready. -/
def readyL (ws : List Work) (ord : List Int) (st : List Bool) : List Int := readyF ws st ord (List.replicate ws.length (-1))
theorem begF_next (out l : List Int) {j : Nat} (h : (j : Int) < l.length) : begF out (l.take (j + 1)) = max (begF out (l.take j)) (out.getD (l.getD j 0).toNat 0) := by
  unfold begF
  rw [take_succ_getD l (by omega) 0, List.foldl_append]; rfl
theorem begF_done (out l : List Int) {j : Nat} (h : ¬ (j : Int) < l.length) : begF out (l.take j) = begF out l := by rw [List.take_of_length_le (by omega)]
theorem begF_acc (out : List Int) (M : Int) (h0 : 0 ≤ M) (h : ∀ y ∈ out, y ≤ M) : ∀ (l : List Int) (b : Int), 0 ≤ b → b ≤ M → 0 ≤ l.foldl (fun b k => max b (out.getD k.toNat 0)) b ∧ l.foldl (fun b k => max b (out.getD k.toNat 0)) b ≤ M
  | [], b, h1, h2 => ⟨h1, h2⟩
  | k :: l, b, h1, h2 => by
    have hk : out.getD k.toNat 0 ≤ M := by
      by_cases hl : k.toNat < out.length
      · exact h _ (getD_memN _ (by omega) 0)
      · rw [List.getD_eq_getElem?_getD, List.getElem?_eq_none (by omega)]; exact h0
    exact begF_acc out M h0 h l (max b (out.getD k.toNat 0)) (by omega) (by omega)
theorem begF_le (out l : List Int) (M : Int) (h0 : 0 ≤ M) (h : ∀ y ∈ out, y ≤ M) : 0 ≤ begF out l ∧ begF out l ≤ M := begF_acc out M h0 h l 0 (by omega) h0
theorem readyStep_len (ws : List Work) (st : List Bool) (out : List Int) (i : Int) : (readyStep ws st out i).length = out.length := by unfold readyStep; split <;> simp
theorem readyF_len (ws : List Work) (st : List Bool) : ∀ (l out : List Int), (readyF ws st l out).length = out.length
  | [], _ => rfl
  | i :: l, out => (readyF_len ws st l _).trans (readyStep_len ws st out i)
theorem readyF_next (ws : List Work) (st : List Bool) (l out : List Int) {k : Nat} (h : (k : Int) < l.length) : readyF ws st (l.take (k + 1)) out = readyStep ws st (readyF ws st (l.take k) out) (l.getD k 0) := by
  unfold readyF
  rw [take_succ_getD l (by omega) 0, List.foldl_append]; rfl
theorem readyF_done (ws : List Work) (st : List Bool) (l out : List Int) {k : Nat} (h : ¬ (k : Int) < l.length) : readyF ws st (l.take k) out = readyF ws st l out := by rw [List.take_of_length_le (by omega)]
theorem right_nums {ws : List Work} (h : rightE ws = 0) {i : Nat} (hi : i < ws.length) : 0 ≤ (ws.getD i default).base ∧ (ws.getD i default).base ≤ 1000002 ∧ 0 ≤ (ws.getD i default).minutes ∧ (ws.getD i default).minutes ≤ 10000 := by
  unfold rightE at h
  split at h
  · omega
  · split at h
    · omega
    · rename_i h1 h2
      have h3 : badAt ws i = false := by
        cases hb : badAt ws i with
        | false => rfl
        | true => exact absurd (List.any_eq_true.2 ⟨i, List.mem_range.2 hi, hb⟩) (by simpa using h2)
      unfold badAt badW at h3
      simp only [Bool.or_eq_false_iff, Bool.not_eq_false'] at h3
      have a := h3.1.1
      have b := h3.1.2
      simp [inB, -List.getD_eq_getElem?_getD] at a b
      omega
theorem right_ofs {ws : List Work} (h : rightE ws = 0) {i : Nat} (hi : i < ws.length) : (ws.getD i default).of.length ≤ 5 := by
  unfold rightE at h
  split at h
  · omega
  · rename_i h1
    simp only [Bool.or_eq_true, not_or, Bool.not_eq_true', Bool.not_eq_false] at h1
    have := List.all_eq_true.1 h1.2 _ (getD_memN ws (i := i) (by omega) default)
    simp [-List.getD_eq_getElem?_getD] at this
    omega
theorem readyF_bound {ws : List Work} (hR : rightE ws = 0) (st : List Bool) (out : List Int) (l : List Int) (hl : ∀ x ∈ l, 0 ≤ x ∧ x < (ws.length : Int)) (hb : ∀ y ∈ out, -1 ≤ y ∧ y ≤ 0) : ∀ k : Nat, k ≤ l.length → ∀ y ∈ readyF ws st (l.take k) out, -1 ≤ y ∧ y ≤ 10000 * (k : Int)
  | 0, _ => by simpa [readyF] using hb
  | k + 1, hk => by
    have ih := readyF_bound hR st out l hl hb k (by omega)
    rw [readyF_next ws st l out (by omega)]
    have hi := hl _ (getD_memN l (i := k) (by omega) 0)
    have hm := right_nums hR (i := (l.getD k 0).toNat) (by omega)
    have hbg := begF_le (readyF ws st (l.take k) out) (ws.getD (l.getD k 0).toNat default).of (10000 * (k : Int)) (by omega) (fun y hy => (ih y hy).2)
    intro y hy
    unfold readyStep at hy
    split at hy
    · rcases List.mem_or_eq_of_mem_set hy with h1 | h1
      · have := ih y h1; omega
      · omega
    · have := ih y hy; omega
theorem order_len (ws : List Work) : (orderP ws).length ≤ ws.length := by
  have : ∀ (f : Nat) (out : List Int), (orderF ws f out).length ≤ out.length + f := by
    intro f
    induction f with
    | zero => intro out; exact Nat.le_refl _
    | succ f ih =>
      intro out
      unfold orderF
      cases nextR ws out with
      | none => simp
      | some i => have := ih (out ++ [(i : Int)]); simp at this ⊢; omega
  simpa [orderP] using this ws.length []
end Go.Nm
namespace Go.Nm
theorem asked_ok {ws : List Work} {rev : List Int} (h : askedE ws rev = 0) : openedE ws = 0 ∧ listedE ws.length rev = 0 := by
  unfold askedE at h
  split at h
  · exact absurd h ‹_›
  · rename_i h1; exact ⟨by simpa using h1, h⟩
def stT (ws : List Work) (rev : List Int) (n : Nat) : List Int := ((List.range n).filter fun j => (staleL ws rev).getD j false).map (fun j : Nat => (j : Int))
theorem stT_next (ws : List Work) (rev : List Int) (n : Nat) : stT ws rev (n + 1) = if (staleL ws rev).getD n false then stT ws rev n ++ [(n : Int)] else stT ws rev n := by
  unfold stT
  rw [List.range_succ, List.filter_append]
  split
  · rename_i h; simp only [List.filter_cons, h, if_true, List.filter_nil, List.map_append, List.map_cons, List.map_nil]
  · rename_i h; simp only [List.filter_cons, h, List.filter_nil, Bool.false_eq_true, if_false, List.append_nil]
theorem stT_len (ws : List Work) (rev : List Int) (n : Nat) : (stT ws rev n).length ≤ n := by
  unfold stT
  rw [List.length_map]
  exact Nat.le_trans (List.length_filter_le _ _) (by simp)
/-- The stale works, if there is no error. -/
def staleR (ws : List Work) (rev : List Int) : List Int := if askedE ws rev = 0 then stT ws rev ws.length else []
theorem staleR_no {ws : List Work} {rev : List Int} (h : askedE ws rev ≠ 0) : staleR ws rev = [] := by unfold staleR; rw [if_neg h]
theorem staleR_ok {ws : List Work} {rev : List Int} {i : Nat} (h : askedE ws rev = 0) (hi : ¬ (i : Int) < ws.length) (hle : i ≤ ws.length) : stT ws rev i = staleR ws rev := by
  unfold staleR; rw [if_pos h, show i = ws.length from by omega]
/-- When each stale work is ready, if there is no error. -/
def readyR (ws : List Work) (rev : List Int) : List Int := if askedE ws rev = 0 then readyL ws (orderP ws) (staleL ws rev) else []
theorem readyR_no {ws : List Work} {rev : List Int} (h : askedE ws rev ≠ 0) : readyR ws rev = [] := by unfold readyR; rw [if_neg h]
theorem readyR_ok {ws : List Work} {rev : List Int} (h : askedE ws rev = 0) : readyL ws (orderP ws) (staleL ws rev) = readyR ws rev := by unfold readyR; rw [if_pos h]
end Go.Nm
namespace Go.Proofs.Ytndobgodeicloaa
open Go Go.Nm
set_option maxRecDepth 100000 in
theorem repeat_int {vx : Value} {x n : Int} (w : World) (hx : Sl w.cell? vx [x]) (h1 : 1 ≤ n) (h2 : n ≤ 1000) : Ret Try.prog 86 #[vx, I n] w fun v w' => OwnF w.heap.size 3 w' v (List.replicate (Int.toNat n) x) ∧ Ext w w' := by
 refine ret_of_W Try.func86 rfl rfl rfl ?_
 have E := Ext.refl w
 have K1 := KF.refl 0 w
 have hl_hx := hx.len_le
 have hx := hx.par
 refine W.seq <| W.region rfl <| s_val (x_as (v := .slice none 0 0) rfl) <| s_nil <| W.seq <| W.seq <| W.region rfl <| s_val (x_mv (v := I n) rfl) ?_
 refine s_val (x_cmp (kd := .i64) (a := n) (b := 0) (r := decide ((n : Int) < 0)) rfl rfl rfl) <| s_nil ?_
 refine W.cond (decide ((n : Int) < 0)) rfl (fun c2 => ?_) (fun c2 => ?_)
 ·simp only [q1, q2, q3, q4, q5, q6, ne_eq, q7] at c2
  exfalso; omega
 ·simp only [q1, q2, q3, q4, q5, q6, ne_eq, q7] at c2
  refine W.skip <| W.seq <| W.region rfl <| s_val (x_mv (v := vx) rfl) <| s_val (x_lenS T34.und rfl (hx.to K1)) <| s_val (x_convU (kd := .i64) (a := ([x]).length) Try.underlying3 Try.underlying205 rfl (by omega)) <| s_val (x_mv (v := I n) rfl) <| s_val (x_convU (kd := .i64) (a := n) Try.underlying3 Try.underlying205 rfl (by omega)) ?_
  refine s_call cf142 [.int .u64 (([x]).length), .int .u64 n] rfl (mul_any (by omega) (by omega) _) ?_
  rintro _ w3 ⟨rfl, x4⟩
  replace E := E.trans x4
  replace K1 := K1.ext x4
  clear x4
  refine s_val (x_mv (v := .tuple #[.int .u64 0, .int .u64 n]) rfl) <| s_val (x_ext (vs := [.int .u64 0, .int .u64 n]) (v := .int .u64 0) rfl rfl) <| s_val (x_ext (vs := [.int .u64 0, .int .u64 n]) (v := .int .u64 n) rfl rfl) <| s_val (x_as (v := .int .u64 0) rfl) <| s_val (x_as (v := .int .u64 n) rfl) <| s_nil <| W.seq <| W.seq ?_
  refine W.region rfl <| s_val (x_mv (v := .int .u64 0) rfl) <| s_val (x_cmp (kd := .u64) (a := 0) (b := 0) (r := decide ((0 : Int) < 0)) rfl rfl rfl) <| s_val (x_mv (v := B (decide ((0 : Int) < 0))) rfl) <| g_val (!(decide ((0 : Int) < 0))) (gy_f rfl) (fun hg => x_mv (v := .int .u64 n) rfl) <| g_val (!(decide ((0 : Int) < 0))) (gy_f rfl) (fun hg => x_cmp (kd := .u64) (a := n) (b := 9223372036854775807) (r := decide ((9223372036854775807 : Int) < n)) (gd_of (c := !(decide ((0 : Int) < 0))) hg (.int .u64 n)) rfl rfl) <| s_val (x_por (b := decide ((0 : Int) < 0)) (r := decide ((9223372036854775807 : Int) < n)) rfl rfl (fun hb => gd_of (c := !(decide ((0 : Int) < 0))) (by simp_all) (B (decide ((9223372036854775807 : Int) < n))))) <| s_nil ?_
  refine W.cond (((decide ((0 : Int) < 0)) || (decide ((9223372036854775807 : Int) < n)))) rfl (fun c5 => ?_) (fun c5 => ?_)
  ·skip
   exfalso; simp at c5; omega
  ·skip
   refine W.skip <| W.seq <| W.region rfl <| s_val (x_mv (v := .int .u64 n) rfl) <| s_val (x_conv64 (kd := .u64) (a := n) Try.underlying205 Try.underlying3 rfl (by omega)) ?_
   refine s_mk (α := Int) T34 0 rfl (n := n) rfl rfl (by omega) (by omega) (by omega) ?_
   intro v6 w7 ho8 x9
   have z10 := Nat.le_refl w3.heap.size
   have B_v6 := E.size
   have B_v6_K1 := K1.size
   replace E := E.trans x9
   replace z10 := Nat.le_trans z10 x9.size
   replace K1 := K1.ext x9
   refine s_val (x_as (v := v6) rfl) <| s_nil <| W.seq <| W.region rfl <| s_val (x_mv (v := v6) rfl) <| s_val (x_mv (v := vx) rfl) ?_
   refine s_copy (v := v6) (l := List.replicate (Int.toNat n) 0) (l2 := [x]) (o := 0) (vy := vx) T34 ((sufV_zero ho8 1).symm) rfl ho8 (by first | omega | (simp; done) | (simp; omega)) (hx.to K1) (Cells.Le.refl _) (by first | omega | (simp; done) | (simp; omega)) ?_
   intro w11 ho13 g12
   replace E := E.grow g12 (by omega)
   replace z10 := Nat.le_trans z10 g12.size
   replace K1 := K1.grow g12 (by omega)
   replace ho8 := ho13
   clear g12
   refine s_val (x_as (v := I ((min ([x]).length ((List.replicate (Int.toNat n) 0).length - 0) : Nat))) rfl) <| s_nil <| W.seq <| W.block ?_
   refine W.loop (fun m σ W => ∃ (k : Nat) (l : List Int) (vo : Value) (ρ : Env), σ = upds ρ [(7, vo), (8, I k)] ∧ m = Int.toNat n - k ∧ Ext w W ∧ w3.heap.size ≤ W.heap.size ∧ OwnF w3.heap.size 3 W vo l ∧ l.length = Int.toNat n ∧ 1 ≤ k ∧ k ≤ Int.toNat n ∧ (∀ y ∈ l.take k, y = x)) ?_ ?_
   ·exact ⟨_, 1, ([x] ++ List.replicate (Int.toNat n - 1) 0), v6, _, upds_of _ _ ⟨rfl, (eqI (by simp; omega)), trivial⟩, rfl, E, z10, (by have hq := ho8; rw [rep_init (n := Int.toNat n) x (by omega)] at hq; exact hq), (by simp; omega), (Nat.le_refl _), (by omega), (by simp)⟩
   ·rintro m σ w14 ⟨k, l, vo, ρ, rfl, rfl, E, z10, ho_vo, iv0_0, iv0_1, iv0_2, iv0_3⟩
    refine W.seq <| W.seq <| W.region rfl <| s_val (x_mv (v := I k) rfl) <| s_val (x_mv (v := vo) rfl) <| s_val (x_lenS T34.und rfl (ho_vo.sl.mono (frm_le _ _))) <| s_val (x_cmp (kd := .i64) (a := k) (b := l.length) (r := decide ((k : Int) < l.length)) rfl rfl rfl) <| s_nil ?_
    refine W.cond (decide ((k : Int) < l.length)) rfl (fun c15 => ?_) (fun c15 => ?_)
    ·simp only [q1, q2, q3, q4, q5, q6, ne_eq, q7] at c15
     refine W.skip <| W.block ?_
     refine W.draw (fun W => Ext w W) [(0, true), (1, true), (2, true), (3, true), (4, true), (5, true), (6, true), (7, false), (8, true), (9, true)] mixed (by decide +kernel) rfl ?_
     intro w16 x17
     replace E := E.trans x17
     replace z10 := Nat.le_trans z10 x17.size
     replace ho_vo := ho_vo.ext x17
     clear x17
     refine ⟨E, ?_⟩
     refine d_q rfl (fun w' hC => by have E := hC; exact x_mv (v := I k) rfl) ?_
     refine d_q rfl (fun w' hC => by have E := hC; exact x_mv (v := vo) rfl) ?_
     refine d_q rfl (fun w' hC => by have E := hC; exact x_mv (v := I k) rfl) ?_
     refine d_q rfl (fun w' hC => by have E := hC; exact x_sl (v := vo) (u := sufV 1 vo (Int.toNat k)) (lo' := some (I k)) (hi' := none) (mx' := none) rfl rfl rfl rfl (OwnF.suf (i := k) T34.und T34.size ho_vo (by omega) (by omega) _)) ?_
     refine d_q rfl (fun w' hC => by have E := hC; exact x_mv (v := vo) rfl) ?_
     refine d_q rfl (fun w' hC => by have E := hC; exact x_mv (v := I k) rfl) ?_
     obtain ⟨u18, hr_u18, hs19⟩ := sl_hi T34.und T34.size ho_vo.sl (j := k) (by omega) (by omega)
     replace hs19 := hs19.mono (frm_le _ _)
     replace hs19 : Sl _ u18 (l.take k) := hs19
     refine d_q rfl (fun w' hC => by have E := hC; exact x_sl (v := vo) (u := u18) (lo' := none) (hi' := some (I k)) (mx' := none) rfl rfl rfl rfl (hr_u18 _)) ?_
     refine d_l rfl ?_
     refine s_copy (v := vo) (l := l) (l2 := l.take k) (o := (Int.toNat k)) (vy := u18) T34 rfl rfl ho_vo (by first | omega | (simp; done) | (simp; omega)) hs19 (Cells.Le.refl _) (by first | omega | (simp; done) | (simp; omega)) ?_
     intro w20 ho22 g21
     replace E := E.grow g21 (by omega)
     replace z10 := Nat.le_trans z10 g21.size
     replace ho_vo := ho22
     clear g21
     refine s_nil ⟨E, ?_⟩
     refine d_q rfl (fun w' hC => by have E := hC; exact x_ari (a := k) (b := (min (l.take k).length ((l).length - (Int.toNat k)) : Nat)) (r := k + ((min (l.take k).length ((l).length - (Int.toNat k)) : Nat))) rfl rfl rfl (by omega)) ?_
     refine d_q rfl (fun w' hC => by have E := hC; exact x_as (v := I (k + ((min (l.take k).length ((l).length - (Int.toNat k)) : Nat)))) rfl) ?_
     refine d_nil ?_
     have hmk : (l.take k).length = k := by simp; omega
     exact ⟨_, (by omega), (k + min (l.take k).length (l.length - Int.toNat k)), _, vo, _, upds_of _ _ ⟨rfl, (eqI (by omega)), trivial⟩, rfl, E, z10, (by first | exact ho_vo | simpa using ho_vo), (by simp only [List.length_append, List.length_take, List.length_drop]; omega), (by omega), (by omega), (rep_step iv0_3 (by omega))⟩
    ·simp only [q1, q2, q3, q4, q5, q6, ne_eq, q7] at c15
     refine W.exit ?_
     refine W.seq <| W.region rfl <| s_val (x_mv (v := vo) rfl) <| s_val (x_as (v := vo) rfl) <| s_nil ?_
     refine W.ret ?_
     exact ⟨_, resE_tmp rfl, ((rep_done iv0_0 iv0_3 (by omega)) ▸ ho_vo.dn (by omega)), E⟩

set_option maxRecDepth 100000 in
theorem ready_any {vw vd : Value} {ws : List Work} {ord : List Int} {st : List Bool} (w : World) (hw : Sl w.cell? vw ws) (hd : Sl w.cell? vd ord) (hst : st.length = 30) (hR : rightE ws = 0) (hrg : ∀ x ∈ ord, 0 ≤ x ∧ x < (ws.length : Int)) (hol : ord.length ≤ 30) : Ret Try.prog 99 #[vw, vd, .agg (encB st).toArray] w fun v w' => Sl (frm w' w.heap.size) v (readyL ws ord st) ∧ Ext w w' := by
 refine ret_of_W Try.func99 rfl rfl rfl ?_
 have E := Ext.refl w
 have K1 := KF.refl 0 w
 have hl_hw := hw.len_le
 have hw := hw.par
 have hl_hd := hd.len_le
 have hd := hd.par
 have hn30 := right_len hR
 refine W.seq <| W.region rfl ?_
 refine s_box (v := .agg (encB st).toArray) (cs := encB st) rfl rfl ?_
 intro b2 w3 Nb2
 have o_K1_b2 := Nat.le_trans K1.size Nb2.ge
 have o_b2 := Nat.le_trans E.size Nb2.ge
 replace E := E.trans Nb2.ext
 replace K1 := K1.ext Nb2.ext
 have h_b2 := Nb2.same
 clear Nb2
 refine s_val (x_as (v := .slice none 0 0) rfl) <| s_nil <| W.seq <| W.region rfl ?_
 refine s_bsl (α := Int) T34 w3.heap.size [I (-1)] [(-1 : Int)] rfl (.cons rfl (Flat.rep_enc _ _) <| .nil) (Nat.le_refl _) rfl (by decide) (by decide) ?_
 intro u4 w5 hs6 x7 nn_u4
 replace E := E.trans x7
 replace K1 := K1.ext x7
 replace h_b2 := x7.get h_b2
 clear x7
 have K8 := KF.refl w3.heap.size w5
 refine s_val (x_mv (v := vw) rfl) <| s_val (x_lenS T22.und rfl (hw.to K1)) ?_
 refine s_call cf86 [u4, I ws.length] rfl (repeat_int _ (hs6.to K8) (by omega) (by omega)) ?_
 rintro v11 w9 ⟨ho12, x10⟩
 have n_v11_b2 := ho12.ne' (heap_lt h_b2)
 have z13 := Nat.le_refl w5.heap.size
 have B_v11 := E.size
 have B_v11_K1 := K1.size
 have B_v11_K8 := K8.size
 replace E := E.trans x10
 replace z13 := Nat.le_trans z13 x10.size
 replace K1 := K1.ext x10
 replace K8 := K8.ext x10
 replace h_b2 := x10.get h_b2
 clear x10
 refine s_val (x_as (v := v11) rfl) <| s_nil <| W.seq <| W.seq <| W.region rfl <| s_val (x_mv (v := vd) rfl) <| s_val (x_lenS T34.und rfl (hd.to K1)) <| s_val (x_mv (v := I 0) rfl) ?_
 refine s_nil <| W.block ?_
 refine W.loop (fun m σ W => ∃ (k : Nat) (vo : Value) (ρ : Env), σ = upds ρ [(0, vw), (5, .pointer (some ⟨b2, 0, none⟩)), (7, vo), (17, vd), (18, I ord.length), (19, I k)] ∧ m = ord.length - k ∧ Ext w W ∧ KF 0 w W ∧ W.heap[b2]? = some (.cells (encB st).toArray 141 (0, 0)) ∧ w5.heap.size ≤ W.heap.size ∧ OwnF w5.heap.size 3 W vo (readyF ws st (ord.take k) (List.replicate ws.length (-1))) ∧ vo.ownBlock ≠ some b2 ∧ k ≤ ord.length) ?_ ?_
 ·exact ⟨_, 0, v11, _, upds_of _ _ ⟨rfl, rfl, rfl, rfl, rfl, (eqI (by omega)), trivial⟩, rfl, E, K1, h_b2, z13, ho12, n_v11_b2, (Nat.zero_le _)⟩
 ·rintro m σ w14 ⟨k, vo, ρ, rfl, rfl, E, K1, h_b2, z13, ho_vo, n_vo_b2, iv0_0⟩
  have hbd := readyF_bound hR st (List.replicate ws.length (-1)) ord hrg (fun y hy => by have := List.eq_of_mem_replicate hy; omega) k iv0_0
  have hrl : (readyF ws st (ord.take k) (List.replicate ws.length (-1))).length = ws.length := by rw [readyF_len]; simp
  refine W.seq <| W.region rfl <| s_val (x_cmp (kd := .i64) (a := k) (b := ord.length) (r := decide ((k : Int) < ord.length)) rfl rfl rfl) <| s_nil <| W.seq ?_
  refine W.cond (decide ((k : Int) < ord.length)) rfl (fun c15 => ?_) (fun c15 => ?_)
  ·simp only [q1, q2, q3, q4, q5, q6, ne_eq, q7] at c15
   have hik := hrg _ (getD_memN ord c15 0)
   have hof := right_of hR (i := (ord.getD k 0).toNat) (by omega)
   refine W.skip <| W.seq <| W.block <| W.seq <| W.region rfl <| s_val (x_ix (a := vd) (b := I k) (v := vat vd 1 (Int.toNat k)) rfl rfl (Sl.ix (α := Int) T34.und T34.size (hd.to K1) (by omega) (by omega))) <| s_val (x_ld (p := vat vd 1 (Int.toNat k)) (v := I (ord.getD k 0)) rfl (ld_sc Sc3 (At.to (Int_at hd (i := k) (by omega) (by omega)) K1))) <| s_val (x_as (v := I (ord.getD k 0)) rfl) ?_
   refine s_nil <| W.seq <| W.seq <| W.region rfl <| s_val (x_mv (v := I (ord.getD k 0)) rfl) <| s_val (x_ix (a := .pointer (some ⟨b2, 0, none⟩)) (b := I (ord.getD k 0)) (v := .pointer (some ⟨b2, 0 + Int.toNat (ord.getD k 0), none⟩)) rfl rfl (run_indexArr Try.underlying141 Sz4 (by omega) (by omega))) <| s_val (x_ld (p := .pointer (some ⟨b2, 0 + Int.toNat (ord.getD k 0), none⟩)) (v := B (st.getD (Int.toNat (ord.getD k 0)) false)) rfl (ldArr Sc4 h_b2 (by omega) (by omega))) <| s_val (x_not (b := st.getD (Int.toNat (ord.getD k 0)) false) rfl) ?_
   refine s_nil ?_
   refine W.cond (!(st.getD (Int.toNat (ord.getD k 0)) false)) rfl (fun c16 => ?_) (fun c16 => ?_)
   ·skip
    refine W.exit ?_
    refine W.region rfl <| s_val (x_ari (a := k) (b := 1) (r := k + 1) rfl rfl rfl (by omega)) <| s_val (x_mv (v := I (k + 1)) rfl) <| s_nil ?_
    exact ⟨_, (by omega), k+1, vo, _, upds_of _ _ ⟨rfl, rfl, rfl, rfl, rfl, (eqI (by omega)), trivial⟩, rfl, E, K1, h_b2, z13, (by rw [readyF_next ws st ord _ c15]; unfold readyStep; rw [if_neg (by simpa using c16)]; exact ho_vo), n_vo_b2, (by omega)⟩
   ·skip
    refine W.skip <| W.seq <| W.region rfl <| s_val (x_as (v := I 0) rfl) <| s_nil <| W.seq <| W.seq <| W.region rfl ?_
    refine s_val (x_mv (v := vw) rfl) <| s_val (x_mv (v := I (ord.getD k 0)) rfl) <| s_val (x_ix (a := vw) (b := I (ord.getD k 0)) (v := vat vw 3 (Int.toNat (ord.getD k 0))) rfl rfl (Sl.ix (α := Work) T22.und T22.size (hw.to K1) (by omega) (by omega))) <| s_val (x_fa (a := vat vw 3 (Int.toNat (ord.getD k 0))) (v := fat (vat vw 3 (Int.toNat (ord.getD k 0))) 0) rfl (fa_pl Fd60_0 Sz34 (Sl.pl (i := ord.getD k 0) hw (by omega) (by omega)))) ?_
    obtain ⟨u17, ha_u17, hs18⟩ := Work_at0 hw (i := ord.getD k 0) (by omega) (by omega)
    replace hs18 : Sl _ u17 (ws.getD (Int.toNat (ord.getD k 0)) default).of := hs18
    have hl_hs18 := hs18.len_le
    refine s_val (x_ld (p := fat (vat vw 3 (Int.toNat (ord.getD k 0))) 0) (v := u17) rfl (ld_sc Sc34 (At.to ha_u17 K1))) <| s_val (x_lenS T34.und rfl (hs18.to K1)) <| s_val (x_mv (v := I 0) rfl) <| s_nil <| W.block ?_
    refine W.loop (fun m σ W => ∃ (j : Nat) (ρ : Env), σ = upds ρ [(0, vw), (5, .pointer (some ⟨b2, 0, none⟩)), (7, vo), (9, I (ord.getD k 0)), (10, I (begF (readyF ws st (ord.take k) (List.replicate ws.length (-1))) ((ws.getD (ord.getD k 0).toNat default).of.take j))), (17, vd), (18, I ord.length), (19, I k), (31, u17), (32, I (((ws.getD (Int.toNat (ord.getD k 0)) default).of).length)), (33, I j)] ∧ m = (ws.getD (ord.getD k 0).toNat default).of.length - j ∧ Ext w W ∧ KF 0 w W ∧ W.heap[b2]? = some (.cells (encB st).toArray 141 (0, 0)) ∧ w5.heap.size ≤ W.heap.size ∧ OwnF w5.heap.size 3 W vo (readyF ws st (ord.take k) (List.replicate ws.length (-1))) ∧ j ≤ (ws.getD (ord.getD k 0).toNat default).of.length) ?_ ?_
    ·exact ⟨_, 0, _, upds_of _ _ ⟨rfl, rfl, rfl, rfl, rfl, rfl, rfl, rfl, rfl, rfl, (eqI (by omega)), trivial⟩, rfl, E, K1, h_b2, z13, ho_vo, (Nat.zero_le _)⟩
    ·rintro m σ w19 ⟨j, ρ, rfl, rfl, E, K1, h_b2, z13, ho_vo, iv1_0⟩
     refine W.seq <| W.region rfl <| s_val (x_cmp (kd := .i64) (a := j) (b := ((ws.getD (Int.toNat (ord.getD k 0)) default).of).length) (r := decide ((j : Int) < (((ws.getD (Int.toNat (ord.getD k 0)) default).of).length))) rfl rfl rfl) <| s_nil <| W.seq ?_
     refine W.cond (decide ((j : Int) < (((ws.getD (Int.toNat (ord.getD k 0)) default).of).length))) rfl (fun c20 => ?_) (fun c20 => ?_)
     ·simp only [q1, q2, q3, q4, q5, q6, ne_eq, q7] at c20
      have hj := hof _ (getD_memN _ c20 0)
      refine W.skip <| W.seq <| W.block <| W.seq <| W.region rfl <| s_val (x_ix (a := u17) (b := I j) (v := vat u17 1 (Int.toNat j)) rfl rfl (Sl.ix (α := Int) T34.und T34.size (hs18.to K1) (by omega) (by omega))) <| s_val (x_ld (p := vat u17 1 (Int.toNat j)) (v := I (((ws.getD (Int.toNat (ord.getD k 0)) default).of).getD j 0)) rfl (ld_sc Sc3 (At.to (Int_at hs18 (i := j) (by omega) (by omega)) K1))) <| s_val (x_as (v := I (((ws.getD (Int.toNat (ord.getD k 0)) default).of).getD j 0)) rfl) ?_
      refine s_nil <| W.region rfl <| s_val (x_mv (v := I (begF (readyF ws st (ord.take k) (List.replicate ws.length (-1))) ((ws.getD (ord.getD k 0).toNat default).of.take j))) rfl) <| s_val (x_mv (v := vo) rfl) <| s_val (x_mv (v := I (((ws.getD (Int.toNat (ord.getD k 0)) default).of).getD j 0)) rfl) <| s_val (x_ix (a := vo) (b := I (((ws.getD (Int.toNat (ord.getD k 0)) default).of).getD j 0)) (v := vat vo 1 (Int.toNat (((ws.getD (Int.toNat (ord.getD k 0)) default).of).getD j 0))) rfl rfl (Sl.ix (α := Int) T34.und T34.size (ho_vo.sl.mono (frm_le _ _)) (by omega) (by omega))) <| s_val (x_ld (p := vat vo 1 (Int.toNat (((ws.getD (Int.toNat (ord.getD k 0)) default).of).getD j 0))) (v := I ((readyF ws st (ord.take k) (List.replicate ws.length (-1))).getD (Int.toNat (((ws.getD (Int.toNat (ord.getD k 0)) default).of).getD j 0)) 0)) rfl (ld_sc Sc3 (At.up (Int_at ho_vo.sl (i := ((ws.getD (Int.toNat (ord.getD k 0)) default).of).getD j 0) (by omega) (by omega))))) <| s_val (x_max (kd := .i64) (a := begF (readyF ws st (ord.take k) (List.replicate ws.length (-1))) ((ws.getD (ord.getD k 0).toNat default).of.take j)) (b := (readyF ws st (ord.take k) (List.replicate ws.length (-1))).getD (Int.toNat (((ws.getD (Int.toNat (ord.getD k 0)) default).of).getD j 0)) 0) rfl rfl) ?_
      refine s_val (x_as (v := I (max (begF (readyF ws st (ord.take k) (List.replicate ws.length (-1))) ((ws.getD (ord.getD k 0).toNat default).of.take j)) ((readyF ws st (ord.take k) (List.replicate ws.length (-1))).getD (Int.toNat (((ws.getD (Int.toNat (ord.getD k 0)) default).of).getD j 0)) 0))) rfl) <| s_nil <| W.region rfl <| s_val (x_ari (a := j) (b := 1) (r := j + 1) rfl rfl rfl (by omega)) <| s_val (x_mv (v := I (j + 1)) rfl) <| s_nil ?_
      exact ⟨_, (by omega), j+1, _, upds_of _ _ ⟨rfl, rfl, rfl, rfl, (eqI (begF_next _ _ c20).symm), rfl, rfl, rfl, rfl, rfl, (eqI (by omega)), trivial⟩, rfl, E, K1, h_b2, z13, ho_vo, (by omega)⟩
     ·simp only [q1, q2, q3, q4, q5, q6, ne_eq, q7] at c20
      have hbg := begF_le (readyF ws st (ord.take k) (List.replicate ws.length (-1))) ((ws.getD (ord.getD k 0).toNat default).of.take j) (10000 * (k : Int)) (by omega) (fun y hy => (hbd y hy).2)
      have hmn := right_nums hR (i := (ord.getD k 0).toNat) (by omega)
      refine W.exit ?_
      refine W.region rfl <| s_val (x_mv (v := vo) rfl) <| s_val (x_mv (v := I (ord.getD k 0)) rfl) <| s_val (x_mv (v := I (begF (readyF ws st (ord.take k) (List.replicate ws.length (-1))) ((ws.getD (ord.getD k 0).toNat default).of.take j))) rfl) <| s_val (x_mv (v := vw) rfl) <| s_val (x_mv (v := I (ord.getD k 0)) rfl) <| s_val (x_ix (a := vw) (b := I (ord.getD k 0)) (v := vat vw 3 (Int.toNat (ord.getD k 0))) rfl rfl (Sl.ix (α := Work) T22.und T22.size (hw.to K1) (by omega) (by omega))) <| s_val (x_fa (a := vat vw 3 (Int.toNat (ord.getD k 0))) (v := fat (vat vw 3 (Int.toNat (ord.getD k 0))) 2) rfl (fa_pl Fd60_2 Sz3 (Sl.pl (i := ord.getD k 0) hw (by omega) (by omega)))) ?_
      refine s_val (x_ld (p := fat (vat vw 3 (Int.toNat (ord.getD k 0))) 2) (v := I ((ws.getD (Int.toNat (ord.getD k 0)) default).minutes)) rfl (ld_sc Sc3 (At.to (Work_at2 hw (i := ord.getD k 0) (by omega) (by omega)) K1))) <| s_val (x_ari (a := begF (readyF ws st (ord.take k) (List.replicate ws.length (-1))) ((ws.getD (ord.getD k 0).toNat default).of.take j)) (b := (ws.getD (Int.toNat (ord.getD k 0)) default).minutes) (r := (begF (readyF ws st (ord.take k) (List.replicate ws.length (-1))) ((ws.getD (ord.getD k 0).toNat default).of.take j)) + ((ws.getD (Int.toNat (ord.getD k 0)) default).minutes)) rfl rfl rfl (by omega)) <| s_val (x_ix (a := vo) (b := I (ord.getD k 0)) (v := vat vo 1 (Int.toNat (ord.getD k 0))) rfl rfl (Sl.ix (α := Int) T34.und T34.size (ho_vo.sl.mono (frm_le _ _)) (by omega) (by omega))) ?_
      refine s_ost ho_vo Sz3 (i := ord.getD k 0) (by omega) (by omega) ((begF (readyF ws st (ord.take k) (List.replicate ws.length (-1))) ((ws.getD (ord.getD k 0).toNat default).of.take j)) + ((ws.getD (Int.toNat (ord.getD k 0)) default).minutes) : Int) (val := I ((begF (readyF ws st (ord.take k) (List.replicate ws.length (-1))) ((ws.getD (ord.getD k 0).toNat default).of.take j)) + ((ws.getD (Int.toNat (ord.getD k 0)) default).minutes))) rfl rfl rfl ?_
      intro w23 ho2 g24
      replace E := E.grow g24 (by omega)
      replace z13 := Nat.le_trans z13 g24.size
      replace K1 := K1.grow g24 (by omega)
      replace h_b2 := g24.get n_vo_b2 h_b2
      replace ho_vo := ho2
      clear g24
      refine s_nil <| W.region rfl <| s_val (x_ari (a := k) (b := 1) (r := k + 1) rfl rfl rfl (by omega)) <| s_val (x_mv (v := I (k + 1)) rfl) <| s_nil ?_
      exact ⟨_, (by omega), k+1, vo, _, upds_of _ _ ⟨rfl, rfl, rfl, rfl, rfl, (eqI (by omega)), trivial⟩, rfl, E, K1, h_b2, z13, (by rw [readyF_next ws st ord _ c15]; unfold readyStep; rw [if_pos (by simpa using c16), ← begF_done _ _ c20]; exact ho_vo), n_vo_b2, (by omega)⟩
  ·simp only [q1, q2, q3, q4, q5, q6, ne_eq, q7] at c15
   refine W.exit ?_
   refine W.seq <| W.region rfl <| s_val (x_mv (v := vo) rfl) <| s_val (x_as (v := vo) rfl) <| s_nil ?_
   refine W.ret ?_
   exact ⟨_, resE_tmp rfl, (by have hq := (ho_vo.dn (B' := w.heap.size) (by omega)).sl; rw [readyF_done _ _ _ _ c15] at hq; exact hq), E⟩

set_option maxRecDepth 100000 in
theorem Stale_any {vw vr : Value} {ws : List Work} {rev : List Int} (w : World) (hw : Sl w.cell? vw ws) (hr : Sl w.cell? vr rev) : Ret Try.prog 32 #[vw, vr] w fun v w' => ∃ u, v = .tuple #[u, I (askedE ws rev)] ∧ Sl (frm w' w.heap.size) u (staleR ws rev) ∧ Ext w w' := by
 refine ret_of_W Try.func32 rfl rfl rfl ?_
 have E := Ext.refl w
 have K1 := KF.refl 0 w
 have hl_hw := hw.len_le
 have hw := hw.par
 have hl_hr := hr.len_le
 have hr := hr.par
 refine W.seq <| W.region rfl <| s_val (x_as (v := .slice none 0 0) rfl) <| s_val (x_as (v := I 0) rfl) <| s_nil <| W.seq <| W.region rfl <| s_val (x_mv (v := vw) rfl) ?_
 refine s_val (x_mv (v := vr) rfl) ?_
 refine s_call cf92 [vw, vr] rfl (asked_any _ (hw.to K1) (hr.to K1)) ?_
 rintro _ w2 (⟨h4, rfl, x5⟩ | ⟨h6, b7, so8, rfl, n9, hs10⟩)
 ·replace E := E.trans x5
  replace K1 := K1.ext x5
  refine s_val (x_mv (v := .tuple #[.pointer none, .slice none 0 0, .agg (encB (List.replicate 30 false)).toArray, I (askedE ws rev)]) rfl) <| s_val (x_ext (vs := [.pointer none, .slice none 0 0, .agg (encB (List.replicate 30 false)).toArray, I (askedE ws rev)]) (v := .pointer none) rfl rfl) <| s_val (x_ext (vs := [.pointer none, .slice none 0 0, .agg (encB (List.replicate 30 false)).toArray, I (askedE ws rev)]) (v := .slice none 0 0) rfl rfl) <| s_val (x_ext (vs := [.pointer none, .slice none 0 0, .agg (encB (List.replicate 30 false)).toArray, I (askedE ws rev)]) (v := .agg (encB (List.replicate 30 false)).toArray) rfl rfl) <| s_val (x_ext (vs := [.pointer none, .slice none 0 0, .agg (encB (List.replicate 30 false)).toArray, I (askedE ws rev)]) (v := I (askedE ws rev)) rfl rfl) ?_
  refine s_alloc (cs := encB (List.replicate 30 false)) Al141 rfl ?_
  intro b11 w12 Nb11
  have o_K1_b11 := Nat.le_trans K1.size Nb11.ge
  have o_b11 := Nat.le_trans E.size Nb11.ge
  replace E := E.trans Nb11.ext
  replace K1 := K1.ext Nb11.ext
  have h_b11 := Nb11.same
  clear Nb11
  have hl_b11 : (List.replicate 30 false).length = 30 := by simp
  refine s_val (x_as (v := .pointer none) rfl) <| s_val (x_as (v := .slice none 0 0) rfl) ?_
  refine s_stArrA (b := b11) (l := List.replicate 30 false) (l' := List.replicate 30 false) rfl rfl Sz141 h_b11 hl_b11 (List.length_replicate) ?_
  intro w13 p14
  replace E := E.put (by omega) p14
  replace K1 := K1.put p14 (by omega)
  replace h_b11 := p14.same
  clear p14
  refine s_val (x_as (v := I (askedE ws rev)) rfl) <| s_nil <| W.seq <| W.region rfl <| s_val (x_as (v := .slice none 0 0) rfl) <| s_nil <| W.seq <| W.seq ?_
  refine W.region rfl <| s_val (x_mv (v := vw) rfl) <| s_val (x_lenS T22.und rfl (hw.to K1)) <| s_val (x_mv (v := I 0) rfl) <| s_nil <| W.block ?_
  refine W.loop (fun m σ W => ∃ (i : Nat) (ρ : Env), σ = upds ρ [(8, .pointer (some ⟨b11, 0, none⟩)), (9, I (askedE ws rev)), (10, .slice none 0 0), (21, I ws.length), (22, I i)] ∧ m = ws.length - i ∧ Ext w W ∧ W.heap[b11]? = some (.cells (encB (List.replicate 30 false)).toArray 141 (0, 0)) ∧ i ≤ ws.length) ?_ ?_
  ·exact ⟨_, 0, _, upds_of _ _ ⟨rfl, rfl, rfl, rfl, (eqI (by omega)), trivial⟩, rfl, E, h_b11, (Nat.zero_le _)⟩
  ·rintro m σ w15 ⟨i, ρ, rfl, rfl, E, h_b11, iv0_0⟩
   refine W.seq <| W.region rfl <| s_val (x_cmp (kd := .i64) (a := i) (b := ws.length) (r := decide ((i : Int) < ws.length)) rfl rfl rfl) <| s_nil <| W.seq ?_
   refine W.cond (decide ((i : Int) < ws.length)) rfl (fun c16 => ?_) (fun c16 => ?_)
   ·simp only [q1, q2, q3, q4, q5, q6, ne_eq, q7] at c16
    refine W.skip <| W.seq <| W.block <| W.seq <| W.region rfl <| s_val (x_mv (v := I i) rfl) <| s_val (x_as (v := I i) rfl) <| s_nil ?_
    refine W.seq <| W.region rfl <| s_val (x_mv (v := I (askedE ws rev)) rfl) <| s_val (x_cmp (kd := .i64) (a := askedE ws rev) (b := 0) (r := (askedE ws rev : Int) == 0) rfl rfl rfl) <| s_val (x_mv (v := B ((askedE ws rev : Int) == 0)) rfl) <| g_val ((askedE ws rev : Int) == 0) (gy_t rfl) (fun hg => x_mv (v := I i) rfl) <| g_val ((askedE ws rev : Int) == 0) (gy_t rfl) (fun hg => x_ix (a := .pointer (some ⟨b11, 0, none⟩)) (b := I i) (v := .pointer (some ⟨b11, 0 + Int.toNat i, none⟩)) rfl (gd_of (c := (askedE ws rev : Int) == 0) hg (I i)) (run_indexArr Try.underlying141 Sz4 (by first | omega | (simp at hg; omega)) (by first | omega | (simp at hg; omega)))) <| g_val ((askedE ws rev : Int) == 0) (gy_t rfl) (fun hg => x_ld (p := .pointer (some ⟨b11, 0 + Int.toNat i, none⟩)) (v := B ((List.replicate 30 false).getD i false)) (gd_of (c := (askedE ws rev : Int) == 0) hg (.pointer (some ⟨b11, 0 + Int.toNat i, none⟩))) (ldArr Sc4 h_b11 (by first | omega | (simp at hg; omega) | (simp [inB] at hg; omega)) (by first | omega | (simp at hg; omega) | (simp [inB] at hg; omega)))) ?_
    refine s_val (x_pand (b := (askedE ws rev : Int) == 0) (r := (List.replicate 30 false).getD i false) rfl (fun hb => gd_of (c := (askedE ws rev : Int) == 0) (by simp_all) (B ((List.replicate 30 false).getD i false))) rfl) <| s_nil ?_
    refine W.cond ((((askedE ws rev : Int) == 0) && ((List.replicate 30 false).getD i false))) rfl (fun c17 => ?_) (fun c17 => ?_)
    ·skip
     simp [h4] at c17
    ·skip
     refine W.skip <| W.region rfl <| s_val (x_ari (a := i) (b := 1) (r := i + 1) rfl rfl rfl (by omega)) <| s_val (x_mv (v := I (i + 1)) rfl) <| s_nil ?_
     exact ⟨_, (by omega), i+1, _, upds_of _ _ ⟨rfl, rfl, rfl, rfl, (eqI (by omega)), trivial⟩, rfl, E, h_b11, (by omega)⟩
   ·simp only [q1, q2, q3, q4, q5, q6, ne_eq, q7] at c16
    refine W.exit ?_
    refine W.seq <| W.region rfl <| s_val (x_mv (v := .slice none 0 0) rfl) <| s_val (x_mv (v := I (askedE ws rev)) rfl) <| s_val (x_as (v := .slice none 0 0) rfl) <| s_val (x_as (v := I (askedE ws rev)) rfl) <| s_nil ?_
    refine W.ret ?_
    exact ⟨_, resE_tmp2 rfl, .slice none 0 0, rfl, (by rw [staleR_no h4]; exact Sl.nil _), E⟩
 ·have hO := (asked_ok h6).1
  have hR := opened_right hO
  have hn30 := (right_len hR).2
  have hn1 := (right_len hR).1
  have hsl := staleL_len ws rev
  have sz_w2 := E.size
  have o_K1_b7 := Nat.le_trans K1.size n9.ge
  have o_b7 := Nat.le_trans E.size n9.ge
  replace E := E.trans n9.ext
  replace K1 := K1.ext n9.ext
  have h_b7 := n9.same
  clear n9
  have hl_hs10 := hs10.len_le
  have K18 := KF.refl w.heap.size w2
  refine s_val (x_mv (v := .tuple #[.pointer (some ⟨b7, 0, none⟩), so8, .agg (encB (staleL ws rev)).toArray, I 0]) rfl) <| s_val (x_ext (vs := [.pointer (some ⟨b7, 0, none⟩), so8, .agg (encB (staleL ws rev)).toArray, I 0]) (v := .pointer (some ⟨b7, 0, none⟩)) rfl rfl) <| s_val (x_ext (vs := [.pointer (some ⟨b7, 0, none⟩), so8, .agg (encB (staleL ws rev)).toArray, I 0]) (v := so8) rfl rfl) <| s_val (x_ext (vs := [.pointer (some ⟨b7, 0, none⟩), so8, .agg (encB (staleL ws rev)).toArray, I 0]) (v := .agg (encB (staleL ws rev)).toArray) rfl rfl) <| s_val (x_ext (vs := [.pointer (some ⟨b7, 0, none⟩), so8, .agg (encB (staleL ws rev)).toArray, I 0]) (v := I 0) rfl rfl) ?_
  refine s_alloc (cs := encB (List.replicate 30 false)) Al141 rfl ?_
  intro b19 w20 Nb19
  have o_K1_b19 := Nat.le_trans K1.size Nb19.ge
  have o_K18_b19 := Nat.le_trans K18.size Nb19.ge
  have o_b19 := Nat.le_trans E.size Nb19.ge
  have o_b7_b19 := Nat.lt_of_lt_of_le (heap_lt h_b7) Nb19.ge
  replace E := E.trans Nb19.ext
  replace K1 := K1.ext Nb19.ext
  replace K18 := K18.ext Nb19.ext
  replace h_b7 := Nb19.ext.get h_b7
  have h_b19 := Nb19.same
  clear Nb19
  have hl_b19 : (List.replicate 30 false).length = 30 := by simp
  refine s_val (x_as (v := .pointer (some ⟨b7, 0, none⟩)) rfl) <| s_val (x_as (v := so8) rfl) ?_
  refine s_stArrA (b := b19) (l := List.replicate 30 false) (l' := staleL ws rev) rfl rfl Sz141 h_b19 hl_b19 (staleL_len ws rev) ?_
  intro w21 p22
  replace E := E.put (by omega) p22
  replace K1 := K1.put p22 (by omega)
  replace K18 := K18.put p22 (by omega)
  replace h_b7 := p22.get (by omega) h_b7
  replace h_b19 := p22.same
  clear p22
  refine s_val (x_as (v := I 0) rfl) <| s_nil <| W.seq <| W.region rfl <| s_val (x_as (v := .slice none 0 0) rfl) <| s_nil <| W.seq <| W.seq ?_
  refine W.region rfl <| s_val (x_mv (v := vw) rfl) <| s_val (x_lenS T22.und rfl (hw.to K1)) <| s_val (x_mv (v := I 0) rfl) <| s_nil <| W.block ?_
  have z23 := Nat.le_refl w21.heap.size
  have B_vo := E.size
  have B_vo_K1 := K1.size
  have B_vo_K18 := K18.size
  have B_vo_b7 := heap_lt h_b7
  have B_vo_b19 := heap_lt h_b19
  refine W.loop (fun m σ W => ∃ (i : Nat) (vo : Value) (ρ : Env), σ = upds ρ [(8, .pointer (some ⟨b19, 0, none⟩)), (9, I 0), (10, vo), (21, I ws.length), (22, I i)] ∧ m = ws.length - i ∧ Ext w W ∧ KF 0 w W ∧ W.heap[b7]? = some (.cells #[vw] 187 (0, 0)) ∧ W.heap[b19]? = some (.cells (encB (staleL ws rev)).toArray 141 (0, 0)) ∧ w21.heap.size ≤ W.heap.size ∧ OwnF w21.heap.size 3 W vo (stT ws rev i) ∧ vo.ownBlock ≠ some b7 ∧ vo.ownBlock ≠ some b19 ∧ i ≤ ws.length) ?_ ?_
  ·exact ⟨_, 0, .slice none 0 0, _, upds_of _ _ ⟨rfl, rfl, rfl, rfl, (eqI (by omega)), trivial⟩, rfl, E, K1, h_b7, h_b19, z23, (OwnF.nil _ _ _), by simp [Value.ownBlock], by simp [Value.ownBlock], (Nat.zero_le _)⟩
  ·rintro m σ w24 ⟨i, vo, ρ, rfl, rfl, E, K1, h_b7, h_b19, z23, ho_vo, n_vo_b7, n_vo_b19, iv1_0⟩
   have hsl2 := stT_len ws rev i
   refine W.seq <| W.region rfl <| s_val (x_cmp (kd := .i64) (a := i) (b := ws.length) (r := decide ((i : Int) < ws.length)) rfl rfl rfl) <| s_nil <| W.seq ?_
   refine W.cond (decide ((i : Int) < ws.length)) rfl (fun c25 => ?_) (fun c25 => ?_)
   ·simp only [q1, q2, q3, q4, q5, q6, ne_eq, q7] at c25
    refine W.skip <| W.seq <| W.block <| W.seq <| W.region rfl <| s_val (x_mv (v := I i) rfl) <| s_val (x_as (v := I i) rfl) <| s_nil ?_
    refine W.seq <| W.region rfl <| s_val (x_mv (v := I 0) rfl) <| s_val (x_cmp (kd := .i64) (a := 0) (b := 0) (r := (0 : Int) == 0) rfl rfl rfl) <| s_val (x_mv (v := B ((0 : Int) == 0)) rfl) <| g_val ((0 : Int) == 0) (gy_t rfl) (fun hg => x_mv (v := I i) rfl) <| g_val ((0 : Int) == 0) (gy_t rfl) (fun hg => x_ix (a := .pointer (some ⟨b19, 0, none⟩)) (b := I i) (v := .pointer (some ⟨b19, 0 + Int.toNat i, none⟩)) rfl (gd_of (c := (0 : Int) == 0) hg (I i)) (run_indexArr Try.underlying141 Sz4 (by first | omega | (simp at hg; omega)) (by first | omega | (simp at hg; omega)))) <| g_val ((0 : Int) == 0) (gy_t rfl) (fun hg => x_ld (p := .pointer (some ⟨b19, 0 + Int.toNat i, none⟩)) (v := B ((staleL ws rev).getD i false)) (gd_of (c := (0 : Int) == 0) hg (.pointer (some ⟨b19, 0 + Int.toNat i, none⟩))) (ldArr Sc4 h_b19 (by first | omega | (simp at hg; omega) | (simp [inB] at hg; omega)) (by first | omega | (simp at hg; omega) | (simp [inB] at hg; omega)))) ?_
    refine s_val (x_pand (b := (0 : Int) == 0) (r := (staleL ws rev).getD i false) rfl (fun hb => gd_of (c := (0 : Int) == 0) (by simp_all) (B ((staleL ws rev).getD i false))) rfl) <| s_nil ?_
    refine W.cond ((((0 : Int) == 0) && ((staleL ws rev).getD i false))) rfl (fun c26 => ?_) (fun c26 => ?_)
    ·skip
     refine W.region rfl <| s_val (x_mv (v := vo) rfl) <| s_val (x_mv (v := I i) rfl) ?_
     refine s_bsl (α := Int) T34 w24.heap.size [I i] [(i : Int)] rfl (.cons rfl (Flat.rep_enc _ _) <| .nil) (Nat.le_refl _) rfl (by decide) (by decide) ?_
     intro u27 w28 hs29 x30 nn_u27
     replace E := E.trans x30
     replace z23 := Nat.le_trans z23 x30.size
     replace K1 := K1.ext x30
     replace h_b7 := x30.get h_b7
     replace h_b19 := x30.get h_b19
     replace ho_vo := ho_vo.ext x30
     clear x30
     have K31 := KF.refl w24.heap.size w28
     refine s_app (α := Int) (v := vo) (vy := u27) (l := stT ws rev i) (l2 := [(i : Int)]) T34 rfl rfl ho_vo (hs29.to K31) (Cells.Le.refl _) z23 (by first | omega | (simp only [List.length_append, List.length_cons, List.length_nil, List.length_set]; omega)) (by first | omega | (simp only [List.length_append, List.length_cons, List.length_nil, List.length_set]; omega)) ?_
     intro v32 w33 ho34 g35 ne36
     have n_v32_b19 := ne36 b19 (heap_lt h_b19) n_vo_b19
     have n_v32_b7 := ne36 b7 (heap_lt h_b7) n_vo_b7
     replace E := E.grow g35 (by omega)
     replace z23 := Nat.le_trans z23 g35.size
     replace K1 := K1.grow g35 (by omega)
     replace h_b7 := g35.get n_vo_b7 h_b7
     replace h_b19 := g35.get n_vo_b19 h_b19
     clear g35 ne36
     refine s_val (x_as (v := v32) rfl) <| s_nil <| W.region rfl <| s_val (x_ari (a := i) (b := 1) (r := i + 1) rfl rfl rfl (by omega)) <| s_val (x_mv (v := I (i + 1)) rfl) <| s_nil ?_
     exact ⟨_, (by omega), i+1, v32, _, upds_of _ _ ⟨rfl, rfl, rfl, rfl, (eqI (by omega)), trivial⟩, rfl, E, K1, h_b7, h_b19, z23, (by rw [stT_next, if_pos (by simpa using c26)]; exact ho34), n_v32_b7, n_v32_b19, (by omega)⟩
    ·skip
     refine W.skip <| W.region rfl <| s_val (x_ari (a := i) (b := 1) (r := i + 1) rfl rfl rfl (by omega)) <| s_val (x_mv (v := I (i + 1)) rfl) <| s_nil ?_
     exact ⟨_, (by omega), i+1, vo, _, upds_of _ _ ⟨rfl, rfl, rfl, rfl, (eqI (by omega)), trivial⟩, rfl, E, K1, h_b7, h_b19, z23, (by rw [stT_next, if_neg (by simpa using c26)]; exact ho_vo), n_vo_b7, n_vo_b19, (by omega)⟩
   ·simp only [q1, q2, q3, q4, q5, q6, ne_eq, q7] at c25
    refine W.exit ?_
    refine W.seq <| W.region rfl <| s_val (x_mv (v := vo) rfl) <| s_val (x_mv (v := I 0) rfl) <| s_val (x_as (v := vo) rfl) <| s_val (x_as (v := I 0) rfl) <| s_nil ?_
    refine W.ret ?_
    exact ⟨_, resE_tmp2 rfl, vo, (by rw [h6]; rfl), (by have hq := (ho_vo.dn (B' := w.heap.size) (by omega)).sl; rw [staleR_ok h6 c25 iv1_0] at hq; exact hq), E⟩

set_option maxRecDepth 100000 in
theorem Ready_any {vw vr : Value} {ws : List Work} {rev : List Int} (w : World) (hw : Sl w.cell? vw ws) (hr : Sl w.cell? vr rev) : Ret Try.prog 36 #[vw, vr] w fun v w' => ∃ u, v = .tuple #[u, I (askedE ws rev)] ∧ Sl (frm w' w.heap.size) u (readyR ws rev) ∧ Ext w w' := by
 refine ret_of_W Try.func36 rfl rfl rfl ?_
 have E := Ext.refl w
 have K1 := KF.refl 0 w
 have hl_hw := hw.len_le
 have hw := hw.par
 have hl_hr := hr.len_le
 have hr := hr.par
 refine W.seq <| W.region rfl <| s_val (x_as (v := .slice none 0 0) rfl) <| s_val (x_as (v := I 0) rfl) <| s_nil <| W.seq <| W.region rfl <| s_val (x_mv (v := vw) rfl) ?_
 refine s_val (x_mv (v := vr) rfl) ?_
 refine s_call cf92 [vw, vr] rfl (asked_any _ (hw.to K1) (hr.to K1)) ?_
 rintro _ w2 (⟨h4, rfl, x5⟩ | ⟨h6, b7, so8, rfl, n9, hs10⟩)
 ·replace E := E.trans x5
  replace K1 := K1.ext x5
  refine s_val (x_mv (v := .tuple #[.pointer none, .slice none 0 0, .agg (encB (List.replicate 30 false)).toArray, I (askedE ws rev)]) rfl) <| s_val (x_ext (vs := [.pointer none, .slice none 0 0, .agg (encB (List.replicate 30 false)).toArray, I (askedE ws rev)]) (v := .pointer none) rfl rfl) <| s_val (x_ext (vs := [.pointer none, .slice none 0 0, .agg (encB (List.replicate 30 false)).toArray, I (askedE ws rev)]) (v := .slice none 0 0) rfl rfl) <| s_val (x_ext (vs := [.pointer none, .slice none 0 0, .agg (encB (List.replicate 30 false)).toArray, I (askedE ws rev)]) (v := .agg (encB (List.replicate 30 false)).toArray) rfl rfl) <| s_val (x_ext (vs := [.pointer none, .slice none 0 0, .agg (encB (List.replicate 30 false)).toArray, I (askedE ws rev)]) (v := I (askedE ws rev)) rfl rfl) ?_
  refine s_alloc (cs := encB (List.replicate 30 false)) Al141 rfl ?_
  intro b11 w12 Nb11
  have o_K1_b11 := Nat.le_trans K1.size Nb11.ge
  have o_b11 := Nat.le_trans E.size Nb11.ge
  replace E := E.trans Nb11.ext
  replace K1 := K1.ext Nb11.ext
  have h_b11 := Nb11.same
  clear Nb11
  have hl_b11 : (List.replicate 30 false).length = 30 := by simp
  refine s_val (x_as (v := .pointer none) rfl) <| s_val (x_as (v := .slice none 0 0) rfl) ?_
  refine s_stArrA (b := b11) (l := List.replicate 30 false) (l' := List.replicate 30 false) rfl rfl Sz141 h_b11 hl_b11 (List.length_replicate) ?_
  intro w13 p14
  replace E := E.put (by omega) p14
  replace K1 := K1.put p14 (by omega)
  replace h_b11 := p14.same
  clear p14
  refine s_val (x_as (v := I (askedE ws rev)) rfl) <| s_nil <| W.seq <| W.seq <| W.region rfl <| s_val (x_mv (v := I (askedE ws rev)) rfl) <| s_val (x_cmp (kd := .i64) (a := askedE ws rev) (b := 0) (r := (askedE ws rev : Int) != 0) rfl rfl rfl) <| s_nil ?_
  refine W.cond ((askedE ws rev : Int) != 0) rfl (fun c15 => ?_) (fun c15 => ?_)
  ·simp only [q1, q2, q3, q4, q5, q6, ne_eq, q7] at c15
   refine W.seq <| W.region rfl <| s_val (x_mv (v := I (askedE ws rev)) rfl) <| s_val (x_as (v := .slice none 0 0) rfl) <| s_val (x_as (v := I (askedE ws rev)) rfl) <| s_nil ?_
   refine W.ret ?_
   exact ⟨_, resE_tmp2 rfl, .slice none 0 0, rfl, (by rw [readyR_no h4]; exact Sl.nil _), E⟩
  ·simp only [q1, q2, q3, q4, q5, q6, ne_eq, q7] at c15
   exact absurd c15 h4
 ·have hO := (asked_ok h6).1
  have hR := opened_right hO
  have hn30 := (right_len hR).2
  have hn1 := (right_len hR).1
  have hsl := staleL_len ws rev
  have sz_w2 := E.size
  have o_K1_b7 := Nat.le_trans K1.size n9.ge
  have o_b7 := Nat.le_trans E.size n9.ge
  replace E := E.trans n9.ext
  replace K1 := K1.ext n9.ext
  have h_b7 := n9.same
  clear n9
  have hl_hs10 := hs10.len_le
  have K16 := KF.refl w.heap.size w2
  refine s_val (x_mv (v := .tuple #[.pointer (some ⟨b7, 0, none⟩), so8, .agg (encB (staleL ws rev)).toArray, I 0]) rfl) <| s_val (x_ext (vs := [.pointer (some ⟨b7, 0, none⟩), so8, .agg (encB (staleL ws rev)).toArray, I 0]) (v := .pointer (some ⟨b7, 0, none⟩)) rfl rfl) <| s_val (x_ext (vs := [.pointer (some ⟨b7, 0, none⟩), so8, .agg (encB (staleL ws rev)).toArray, I 0]) (v := so8) rfl rfl) <| s_val (x_ext (vs := [.pointer (some ⟨b7, 0, none⟩), so8, .agg (encB (staleL ws rev)).toArray, I 0]) (v := .agg (encB (staleL ws rev)).toArray) rfl rfl) <| s_val (x_ext (vs := [.pointer (some ⟨b7, 0, none⟩), so8, .agg (encB (staleL ws rev)).toArray, I 0]) (v := I 0) rfl rfl) ?_
  refine s_alloc (cs := encB (List.replicate 30 false)) Al141 rfl ?_
  intro b17 w18 Nb17
  have o_K1_b17 := Nat.le_trans K1.size Nb17.ge
  have o_K16_b17 := Nat.le_trans K16.size Nb17.ge
  have o_b17 := Nat.le_trans E.size Nb17.ge
  have o_b7_b17 := Nat.lt_of_lt_of_le (heap_lt h_b7) Nb17.ge
  replace E := E.trans Nb17.ext
  replace K1 := K1.ext Nb17.ext
  replace K16 := K16.ext Nb17.ext
  replace h_b7 := Nb17.ext.get h_b7
  have h_b17 := Nb17.same
  clear Nb17
  have hl_b17 : (List.replicate 30 false).length = 30 := by simp
  refine s_val (x_as (v := .pointer (some ⟨b7, 0, none⟩)) rfl) <| s_val (x_as (v := so8) rfl) ?_
  refine s_stArrA (b := b17) (l := List.replicate 30 false) (l' := staleL ws rev) rfl rfl Sz141 h_b17 hl_b17 (staleL_len ws rev) ?_
  intro w19 p20
  replace E := E.put (by omega) p20
  replace K1 := K1.put p20 (by omega)
  replace K16 := K16.put p20 (by omega)
  replace h_b7 := p20.get (by omega) h_b7
  replace h_b17 := p20.same
  clear p20
  refine s_val (x_as (v := I 0) rfl) <| s_nil <| W.seq <| W.seq <| W.region rfl <| s_val (x_mv (v := I 0) rfl) <| s_val (x_cmp (kd := .i64) (a := 0) (b := 0) (r := (0 : Int) != 0) rfl rfl rfl) <| s_nil ?_
  refine W.cond ((0 : Int) != 0) rfl (fun c21 => ?_) (fun c21 => ?_)
  ·simp only [q1, q2, q3, q4, q5, q6, ne_eq, q7] at c21
   exact absurd c21 (by decide)
  ·simp only [q1, q2, q3, q4, q5, q6, ne_eq, q7] at c21
   refine W.skip <| W.seq <| W.region rfl <| s_val (x_mv (v := vw) rfl) <| s_val (x_mv (v := so8) rfl) <| s_val (x_ld (p := .pointer (some ⟨b17, 0, none⟩)) (v := .agg (encB (staleL ws rev)).toArray) rfl (ldArrA Ag141 Sz141 (staleL_len ws rev) h_b17)) ?_
   refine s_call cf99 [vw, so8, .agg (encB (staleL ws rev)).toArray] rfl (ready_any _ (hw.to K1) (hs10.to K16) (staleL_len ws rev) hR (order_rng _) (by have := order_len ws; omega)) ?_
   have sz_w22 := E.size
   have lt_b7_w22 := heap_lt h_b7
   have lt_b17_w22 := heap_lt h_b17
   rintro u24 w22 ⟨hs25, x23⟩
   replace E := E.trans x23
   replace K1 := K1.ext x23
   replace K16 := K16.ext x23
   replace h_b7 := x23.get h_b7
   replace h_b17 := x23.get h_b17
   clear x23
   have hl_hs25 := hs25.len_le
   have K26 := KF.refl w19.heap.size w22
   refine s_val (x_as (v := u24) rfl) <| s_val (x_as (v := I 0) rfl) <| s_nil ?_
   refine W.ret ?_
   exact ⟨_, resE_tmp2 rfl, u24, (by rw [h6]; rfl), (by have hq := (hs25.kf K26).mono (frm_mono _ (lo' := w.heap.size) (by omega)); rw [readyR_ok h6] at hq; exact hq), E⟩

end Go.Proofs.Ytndobgodeicloaa
namespace Go.Nm
theorem idxP_spec {α : Type} {p : α → Bool} (d : α) : ∀ {l : List α}, l.any p = true → 0 ≤ idxP p l ∧ idxP p l < l.length ∧ p (l.getD (idxP p l).toNat d) = true
  | [], h => by simp at h
  | x :: l, h => by
    unfold idxP
    by_cases hx : p x = true
    · rw [if_pos hx]; exact ⟨Int.le_refl _, by simp only [List.length_cons]; omega, by simpa using hx⟩
    · have h' : l.any p = true := by simpa [hx] using h
      obtain ⟨h1, h2, h3⟩ := idxP_spec d h'
      rw [if_neg hx, if_neg (by omega)]
      refine ⟨by omega, by simp only [List.length_cons]; omega, ?_⟩
      rw [show (idxP p l + 1).toNat = (idxP p l).toNat + 1 from by omega]
      simpa using h3
theorem idxI_spec {l : List Int} {n : Int} (h : n ∈ l) : 0 ≤ idxI l n ∧ idxI l n < l.length ∧ l.getD (idxI l n).toNat 0 = n := by
  obtain ⟨h1, h2, h3⟩ := idxP_spec (p := fun x => n == x) (0 : Int) (l := l) (by simpa using h)
  refine ⟨h1, h2, ?_⟩
  have := eq_of_beq h3
  exact this.symm
/-- Each work is behind those of which it is made. -/
def OrdGood (ws : List Work) (out : List Int) : Prop := out.Nodup ∧ (∀ x ∈ out, 0 ≤ x ∧ x < (ws.length : Int)) ∧ ∀ j, j < out.length → ∀ k ∈ (ws.getD (out.getD j 0).toNat default).of, k ∈ out.take j
theorem getD_app_left {α : Type} (l r : List α) {j : Nat} (h : j < l.length) (d : α) : (l ++ r).getD j d = l.getD j d := by
  rw [List.getD_eq_getElem?_getD, List.getElem?_append_left h, ← List.getD_eq_getElem?_getD]
theorem getD_app_mid {α : Type} (l : List α) (x d : α) : (l ++ [x]).getD l.length d = x := by
  rw [List.getD_eq_getElem?_getD, List.getElem?_append_right (Nat.le_refl _), Nat.sub_self]; rfl
theorem OrdGood.snoc {ws : List Work} {out : List Int} (h : OrdGood ws out) {i : Nat} (hi : i < ws.length) (hr : readyAt ws out i = true) : OrdGood ws (out ++ [(i : Int)]) := by
  unfold readyAt at hr
  simp only [Bool.and_eq_true, Bool.not_eq_true', List.all_eq_true] at hr
  have hni : (i : Int) ∉ out := fun hm => by have := hr.1; simp [hm] at this
  refine ⟨?_, ?_, ?_⟩
  · rw [List.nodup_append]
    refine ⟨h.1, by simp, fun a ha b hb => ?_⟩
    simp at hb
    subst hb
    intro e
    exact hni (e ▸ ha)
  · intro x hx
    rcases List.mem_append.1 hx with hx | hx
    · exact h.2.1 x hx
    · simp at hx; subst hx; omega
  · intro j hj k hk
    simp only [List.length_append, List.length_singleton] at hj
    by_cases hjl : j < out.length
    · rw [getD_app_left _ _ hjl] at hk
      rw [List.take_append_of_le_length (by omega)]
      exact h.2.2 j hjl k hk
    · obtain rfl : j = out.length := by omega
      rw [getD_app_mid, Int.toNat_natCast] at hk
      rw [List.take_left]
      have := hr.2 k hk
      simpa using this
theorem orderF_good {ws : List Work} : ∀ (f : Nat) (out : List Int), OrdGood ws out → OrdGood ws (orderF ws f out)
  | 0, _, h => h
  | f + 1, out, h => by
    unfold orderF
    cases hn : nextR ws out with
    | none => exact h
    | some i =>
      have hm := List.mem_range.1 (List.mem_of_find?_eq_some hn)
      exact orderF_good f _ (h.snoc hm (List.find?_some hn))
theorem order_good (ws : List Work) : OrdGood ws (orderP ws) := orderF_good _ _ ⟨List.nodup_nil, fun x h => by simp at h, fun j h => by simp at h⟩
theorem order_full {ws : List Work} (h : openedE ws = 0) : (orderP ws).length = ws.length := by
  have := order_len ws
  unfold openedE at h
  split at h
  · omega
  · split at h
    · omega
    · omega
theorem order_all {ws : List Work} (h : openedE ws = 0) {i : Int} (h0 : 0 ≤ i) (h1 : i < ws.length) : i ∈ orderP ws := by
  by_cases hm : i ∈ orderP ws
  · exact hm
  · have hg := order_good ws
    have := nodup_bound ws.length (i :: orderP ws) (List.nodup_cons.2 ⟨hm, hg.1⟩) (fun x hx => by
      rcases List.mem_cons.1 hx with rfl | hx
      · omega
      · exact hg.2.1 x hx)
    have := order_full h
    simp only [List.length_cons] at *
    omega
/-- The place of a work in the order. -/
def posO (ws : List Work) (i : Int) : Nat := (orderP ws).idxOf i
theorem idxOf_take : ∀ {l : List Int} {k : Int} {j : Nat}, k ∈ l.take j → l.idxOf k < j
  | [], _, _, h => by simp at h
  | x :: l, k, 0, h => by simp at h
  | x :: l, k, j + 1, h => by
    rw [List.idxOf_cons]
    by_cases e : (x == k) = true
    · simp [e]
    · simp only [e, cond_false]
      rw [List.take_succ_cons] at h
      rcases List.mem_cons.1 h with h1 | h1
      · exact absurd (by simp [h1]) e
      · have := idxOf_take h1; omega
theorem posO_lt {ws : List Work} {i : Int} (hi : i ∈ orderP ws) {k : Int} (hk : k ∈ (ws.getD i.toNat default).of) : posO ws k < posO ws i := by
  have hl := List.idxOf_lt_length_of_mem hi
  have hg := (order_good ws).2.2 ((orderP ws).idxOf i) hl
  have he : (orderP ws).getD ((orderP ws).idxOf i) 0 = i := by
    rw [List.getD_eq_getElem?_getD, List.getElem?_eq_getElem hl]
    simp
  rw [he] at hg
  exact idxOf_take (hg k hk)
theorem posO_le {ws : List Work} {i : Int} (hi : i ∈ orderP ws) : posO ws i < ws.length := by
  have hl := List.idxOf_lt_length_of_mem hi
  have := order_len ws
  unfold posO
  omega
/-- What is filled in for one work stays. -/
theorem readyStep_other (ws : List Work) (st : List Bool) (out : List Int) {i x : Int} (h0 : 0 ≤ i) (h1 : 0 ≤ x) (hne : i ≠ x) (d : Int) : (readyStep ws st out i).getD x.toNat d = out.getD x.toNat d := by
  unfold readyStep
  split
  · simp only [List.getD_eq_getElem?_getD]
    rw [List.getElem?_set_ne (by omega)]
  · rfl
theorem readyF_other (ws : List Work) (st : List Bool) {x : Int} (h1 : 0 ≤ x) (d : Int) : ∀ (l out : List Int), (∀ y ∈ l, 0 ≤ y) → x ∉ l → (readyF ws st l out).getD x.toNat d = out.getD x.toNat d
  | [], _, _, _ => rfl
  | i :: l, out, h0, hx => by
    have ih := readyF_other ws st h1 d l (readyStep ws st out i) (fun y hy => h0 y (by simp [hy])) (fun hm => hx (by simp [hm]))
    exact ih.trans (readyStep_other ws st out (h0 i (by simp)) h1 (fun e => hx (by simp [e])) d)
theorem begF_congrA {a b : List Int} : ∀ (l : List Int) (z : Int), (∀ k ∈ l, a.getD k.toNat 0 = b.getD k.toNat 0) →
    l.foldl (fun b k => max b (a.getD k.toNat 0)) z = l.foldl (fun b' k => max b' (b.getD k.toNat 0)) z
  | [], _, _ => rfl
  | k :: l, z, h => by
    simp only [List.foldl_cons]
    rw [h k (by simp)]
    exact begF_congrA l _ (fun k hk => h k (by simp [hk]))
theorem begF_congr {a b l : List Int} (h : ∀ k ∈ l, a.getD k.toNat 0 = b.getD k.toNat 0) : begF a l = begF b l := begF_congrA l 0 h
theorem begF_memA (a : List Int) : ∀ (l : List Int) (z : Int), l.foldl (fun b k => max b (a.getD k.toNat 0)) z = z ∨ ∃ k ∈ l, l.foldl (fun b k => max b (a.getD k.toNat 0)) z = a.getD k.toNat 0
  | [], _ => .inl rfl
  | k :: l, z => by
    simp only [List.foldl_cons]
    rcases begF_memA a l (max z (a.getD k.toNat 0)) with h | ⟨k', hk, h⟩
    · rw [h]
      by_cases hz : a.getD k.toNat 0 ≤ z
      · left; omega
      · right; exact ⟨k, by simp, by omega⟩
    · exact .inr ⟨k', by simp [hk], h⟩
theorem begF_mem (a l : List Int) (h : 0 < begF a l) : ∃ k ∈ l, a.getD k.toNat 0 = begF a l := by
  rcases begF_memA a l 0 with h1 | ⟨k, hk, h1⟩
  · unfold begF at h; omega
  · exact ⟨k, hk, h1.symm⟩
theorem readyL_len (ws : List Work) (ord : List Int) (st : List Bool) : (readyL ws ord st).length = ws.length := by unfold readyL; rw [readyF_len]; simp
/-- A stale work is ready its minutes behind the last one of those of which it is made; another one never. -/
theorem ready_eq {ws : List Work} (h : openedE ws = 0) (st : List Bool) {i : Int} (h0 : 0 ≤ i) (h1 : i < ws.length) :
    (readyL ws (orderP ws) st).getD i.toNat 0 = if st.getD i.toNat false then begF (readyL ws (orderP ws) st) (ws.getD i.toNat default).of + (ws.getD i.toNat default).minutes else -1 := by
  have hm := order_all h h0 h1
  obtain ⟨l1, l2, hs⟩ := List.append_of_mem hm
  have hg := order_good ws
  have hof : ∀ k ∈ (ws.getD i.toNat default).of, k ∈ l1 := by
    have := hg.2.2 l1.length (by rw [hs]; simp)
    rw [hs] at this
    rw [show (l1 ++ i :: l2).getD l1.length 0 = i from by rw [List.getD_eq_getElem?_getD, List.getElem?_append_right (Nat.le_refl _), Nat.sub_self]; rfl, List.take_left] at this
    exact this
  have hnd := hg.1
  rw [hs, List.nodup_append] at hnd
  have hi2 : i ∉ l2 := (List.nodup_cons.1 hnd.2.1).1
  have hi1 : i ∉ l1 := fun hm => hnd.2.2 i hm i (by simp) rfl
  have hpos : ∀ y ∈ orderP ws, 0 ≤ y := fun y hy => (hg.2.1 y hy).1
  have hp1 : ∀ y ∈ l1, 0 ≤ y := fun y hy => hpos y (by rw [hs]; simp [hy])
  have hp2 : ∀ y ∈ l2, 0 ≤ y := fun y hy => hpos y (by rw [hs]; simp [hy])
  have hsplit : ∀ out, readyF ws st (orderP ws) out = readyF ws st l2 (readyStep ws st (readyF ws st l1 out) i) := by
    intro out
    rw [hs]
    simp [readyF]
  have hk : ∀ k ∈ (ws.getD i.toNat default).of, (readyF ws st l1 (List.replicate ws.length (-1))).getD k.toNat 0 = (readyL ws (orderP ws) st).getD k.toNat 0 := by
    intro k hk
    have hk1 := hof k hk
    have hne : i ≠ k := fun e => hi1 (e ▸ hk1)
    have hk2 : k ∉ l2 := fun hm => hnd.2.2 k hk1 k (by simp [hm]) rfl
    unfold readyL
    rw [hsplit, readyF_other ws st (hp1 k hk1) 0 l2 _ hp2 hk2, readyStep_other ws st _ h0 (hp1 k hk1) hne]
  have hl : (readyF ws st l1 (List.replicate ws.length (-1))).length = ws.length := by rw [readyF_len]; simp
  rw [show readyL ws (orderP ws) st = readyF ws st l2 (readyStep ws st (readyF ws st l1 (List.replicate ws.length (-1))) i) from hsplit _, readyF_other ws st h0 0 l2 _ hp2 hi2]
  rw [← show readyL ws (orderP ws) st = readyF ws st l2 (readyStep ws st (readyF ws st l1 (List.replicate ws.length (-1))) i) from hsplit _]
  unfold readyStep
  by_cases hst : st.getD i.toNat false = true
  · rw [if_pos hst, if_pos hst, List.getD_eq_getElem?_getD, List.getElem?_set_self (by omega)]
    simp only [Option.getD_some]
    rw [begF_congr hk]
  · rw [if_neg hst, if_neg hst, readyF_other ws st h0 0 l1 _ hp1 hi1]
    simp only [List.getD_eq_getElem?_getD]
    rw [List.getElem?_replicate, if_pos (by omega)]
    rfl
end Go.Nm
namespace Go.Nm
/-- The greatest one of the first numbers. -/
def maxT (l : List Int) (i : Nat) : Int := (l.take i).foldl max (l.getD 0 0)
theorem maxT_one {l : List Int} (h : 1 ≤ l.length) : l.getD 0 0 = maxT l 1 := by
  cases l with
  | nil => simp at h
  | cons a l => simp [maxT]
theorem maxT_next (l : List Int) {i : Nat} (h : (i : Int) < l.length) : maxT l (i + 1) = max (maxT l i) (l.getD i 0) := by
  unfold maxT
  rw [take_succ_getD l (by omega) 0, List.foldl_append]; rfl
theorem maxT_done (l : List Int) {i : Nat} (h : ¬ (i : Int) < l.length) : maxT l i = maxT l l.length := by
  unfold maxT
  rw [List.take_of_length_le (by omega), List.take_length]
theorem foldl_max_mem : ∀ (l : List Int) (z : Int), l.foldl max z = z ∨ l.foldl max z ∈ l
  | [], _ => .inl rfl
  | k :: l, z => by
    simp only [List.foldl_cons]
    rcases foldl_max_mem l (max z k) with h | h
    · rw [h]
      by_cases hz : k ≤ z
      · left; omega
      · right; rw [show max z k = k from by omega]; simp
    · exact .inr (List.mem_cons_of_mem _ h)
theorem foldl_max_ge : ∀ (l : List Int) (z : Int), z ≤ l.foldl max z ∧ ∀ y ∈ l, y ≤ l.foldl max z
  | [], _ => ⟨Int.le_refl _, fun y h => by simp at h⟩
  | k :: l, z => by
    simp only [List.foldl_cons]
    obtain ⟨h1, h2⟩ := foldl_max_ge l (max z k)
    refine ⟨by omega, fun y hy => ?_⟩
    rcases List.mem_cons.1 hy with rfl | hy
    · omega
    · exact h2 y hy
theorem maxT_mem {l : List Int} (h : 1 ≤ l.length) (i : Nat) : maxT l i ∈ l := by
  unfold maxT
  rcases foldl_max_mem (l.take i) (l.getD 0 0) with h1 | h1
  · rw [h1]; exact getD_memN l (by omega) 0
  · exact List.mem_of_mem_take h1
theorem maxT_ge (l : List Int) : ∀ y ∈ l, y ≤ maxT l l.length := by
  unfold maxT
  rw [List.take_length]
  exact (foldl_max_ge l _).2
/-- The work that another one had to wait for. -/
def nextL (ws : List Work) (a : List Int) (i : Int) : Int :=
  (ws.getD i.toNat default).of.getD (Int.toNat (idxP (fun k : Int => a.getD k.toNat 0 == a.getD i.toNat 0 - (ws.getD i.toNat default).minutes) (ws.getD i.toNat default).of)) 0
def longF (ws : List Work) (a : List Int) : Nat → Int → List Int → List Int
  | 0, _, out => out
  | f + 1, i, out => if (ws.getD i.toNat default).minutes < a.getD i.toNat 0 then longF ws a f (nextL ws a i) (out ++ [nextL ws a i]) else out
theorem long_next {ws : List Work} (hO : openedE ws = 0) {st : List Bool} {i : Int} (h0 : 0 ≤ i) (h1 : i < ws.length) (c : (ws.getD i.toNat default).minutes < (readyL ws (orderP ws) st).getD i.toNat 0) :
    0 ≤ idxP (fun k : Int => (readyL ws (orderP ws) st).getD k.toNat 0 == (readyL ws (orderP ws) st).getD i.toNat 0 - (ws.getD i.toNat default).minutes) (ws.getD i.toNat default).of ∧
    idxP (fun k : Int => (readyL ws (orderP ws) st).getD k.toNat 0 == (readyL ws (orderP ws) st).getD i.toNat 0 - (ws.getD i.toNat default).minutes) (ws.getD i.toNat default).of < (ws.getD i.toNat default).of.length ∧
    0 ≤ nextL ws (readyL ws (orderP ws) st) i ∧ nextL ws (readyL ws (orderP ws) st) i < ws.length ∧ posO ws (nextL ws (readyL ws (orderP ws) st) i) < posO ws i ∧
    nextL ws (readyL ws (orderP ws) st) i ∈ (ws.getD i.toNat default).of ∧
    (readyL ws (orderP ws) st).getD (nextL ws (readyL ws (orderP ws) st) i).toNat 0 = (readyL ws (orderP ws) st).getD i.toNat 0 - (ws.getD i.toNat default).minutes ∧ st.getD i.toNat false = true := by
  have hR := opened_right hO
  have hq := ready_eq hO st h0 h1
  have hn := right_nums hR (i := i.toNat) (by omega)
  have hst : st.getD i.toNat false = true := by
    by_cases hst : st.getD i.toNat false = true
    · exact hst
    · rw [if_neg hst] at hq; omega
  rw [if_pos hst] at hq
  obtain ⟨k, hk, hbk⟩ := begF_mem (readyL ws (orderP ws) st) (ws.getD i.toNat default).of (by omega)
  have hany : (ws.getD i.toNat default).of.any (fun k : Int => (readyL ws (orderP ws) st).getD k.toNat 0 == (readyL ws (orderP ws) st).getD i.toNat 0 - (ws.getD i.toNat default).minutes) = true :=
    List.any_eq_true.2 ⟨k, hk, by rw [hbk, hq]; simp⟩
  obtain ⟨h2, h3, h4⟩ := idxP_spec (0 : Int) hany
  have hmem : nextL ws (readyL ws (orderP ws) st) i ∈ (ws.getD i.toNat default).of := getD_mem _ h2 h3 0
  have hr := right_of hR (i := i.toNat) (by omega) _ hmem
  exact ⟨h2, h3, hr.1, hr.2.1, posO_lt (order_all hO h0 h1) hmem, hmem, eq_of_beq h4, hst⟩
/-- The work that is ready last. -/
def lastL (a : List Int) : Int := idxI a (maxT a a.length)
theorem lastL_rng {a : List Int} (h : 1 ≤ a.length) : 0 ≤ lastL a ∧ lastL a < a.length ∧ a.getD (lastL a).toNat 0 = maxT a a.length := idxI_spec (maxT_mem h _)
def longL (ws : List Work) (a : List Int) : List Int := (longF ws a ws.length (lastL a) [lastL a]).reverse
def longestE (ws : List Work) (rev : List Int) : Int := if askedE ws rev ≠ 0 then askedE ws rev else if rev.length = 0 then 5 else 0
/-- A line of stale works that takes longest, if there is one. -/
def longestR (ws : List Work) (rev : List Int) : List Int := if longestE ws rev = 0 then longL ws (readyL ws (orderP ws) (staleL ws rev)) else []
theorem longest_wrong {ws : List Work} {rev : List Int} (h : askedE ws rev ≠ 0) : longestE ws rev = askedE ws rev ∧ longestR ws rev = [] := by
  have : longestE ws rev = askedE ws rev := by unfold longestE; rw [if_pos h]
  exact ⟨this, by unfold longestR; rw [this, if_neg h]⟩
theorem longest_none {ws : List Work} {rev : List Int} (h : askedE ws rev = 0) (hn : (rev.length : Int) = 0) : longestE ws rev = 5 ∧ longestR ws rev = [] := by
  have : longestE ws rev = 5 := by unfold longestE; rw [if_neg (by simp [h]), if_pos (by omega)]
  exact ⟨this, by unfold longestR; rw [this, if_neg (by decide)]⟩
theorem longest_ok {ws : List Work} {rev : List Int} (h : askedE ws rev = 0) (hn : ¬ (rev.length : Int) = 0) : longestE ws rev = 0 ∧ longestR ws rev = longL ws (readyL ws (orderP ws) (staleL ws rev)) := by
  have : longestE ws rev = 0 := by unfold longestE; rw [if_neg (by simp [h]), if_neg (by omega)]
  exact ⟨this, by unfold longestR; rw [this, if_pos rfl]⟩
theorem longF_step {ws : List Work} {a : List Int} {f : Nat} {i : Int} {out : List Int} (hf : 1 ≤ f) (c : (ws.getD i.toNat default).minutes < a.getD i.toNat 0) : longF ws a f i out = longF ws a (f - 1) (nextL ws a i) (out ++ [nextL ws a i]) := by
  obtain ⟨g, rfl⟩ : ∃ g, f = g + 1 := ⟨f - 1, by omega⟩
  simp only [longF, Nat.add_sub_cancel]
  rw [if_pos c]
theorem longF_end {ws : List Work} {a : List Int} {f : Nat} {i : Int} {out : List Int} (c : ¬ (ws.getD i.toNat default).minutes < a.getD i.toNat 0) : longF ws a f i out = out := by
  cases f with
  | zero => rfl
  | succ f => simp only [longF]; rw [if_neg c]
theorem readyL_bound {ws : List Work} (hR : rightE ws = 0) (st : List Bool) : ∀ y ∈ readyL ws (orderP ws) st, -1 ≤ y ∧ y ≤ 300000 := by
  intro y hy
  have := readyF_bound hR st (List.replicate ws.length (-1)) (orderP ws) (order_rng ws) (fun y hy => by have := List.eq_of_mem_replicate hy; omega) (orderP ws).length (Nat.le_refl _) y (by rw [List.take_length]; exact hy)
  have := order_len ws
  have := (right_len hR).2
  omega
theorem readyL_at {ws : List Work} (hR : rightE ws = 0) (st : List Bool) {i : Nat} (h : (i : Int) < ws.length) : -1 ≤ (readyL ws (orderP ws) st).getD i 0 ∧ (readyL ws (orderP ws) st).getD i 0 ≤ 300000 :=
  readyL_bound hR st _ (getD_memN _ (by rw [readyL_len]; exact h) 0)
end Go.Nm
namespace Go.Proofs.Ytndobgodeicloaa
open Go Go.Nm
set_option maxRecDepth 100000 in
theorem max_int {vl : Value} {l : List Int} (w : World) (hl : Sl w.cell? vl l) (h1 : 1 ≤ l.length) : Ret Try.prog 101 #[vl] w fun v w' => v = I (maxT l l.length) ∧ Ext w w' := by
 refine ret_of_W Try.func101 rfl rfl rfl ?_
 have E := Ext.refl w
 have K1 := KF.refl 0 w
 have hl_hl := hl.len_le
 have hl := hl.par
 refine W.seq <| W.region rfl <| s_val (x_as (v := I 0) rfl) <| s_nil <| W.seq <| W.seq <| W.region rfl <| s_val (x_mv (v := vl) rfl) ?_
 refine s_val (x_lenS T34.und rfl (hl.to K1)) <| s_val (x_cmp (kd := .i64) (a := l.length) (b := 1) (r := decide ((l.length : Int) < 1)) rfl rfl rfl) <| s_nil ?_
 refine W.cond (decide ((l.length : Int) < 1)) rfl (fun c2 => ?_) (fun c2 => ?_)
 ·simp only [q1, q2, q3, q4, q5, q6, ne_eq, q7] at c2
  exfalso; omega
 ·simp only [q1, q2, q3, q4, q5, q6, ne_eq, q7] at c2
  refine W.skip <| W.seq <| W.region rfl <| s_val (x_mv (v := vl) rfl) <| s_val (x_ix (a := vl) (b := I 0) (v := vat vl 1 (Int.toNat 0)) rfl rfl (Sl.ix (α := Int) T34.und T34.size (hl.to K1) (by omega) (by omega))) <| s_val (x_ld (p := vat vl 1 (Int.toNat 0)) (v := I (l.getD 0 0)) rfl (ld_sc Sc3 (At.to (Int_at hl (i := 0) (by omega) (by omega)) K1))) <| s_val (x_as (v := I (l.getD 0 0)) rfl) <| s_nil ?_
  refine W.seq <| W.seq <| W.region rfl <| s_val (x_as (v := I 1) rfl) <| s_nil <| W.block ?_
  refine W.loop (fun m σ W => ∃ (i : Nat) (ρ : Env), σ = upds ρ [(0, vl), (3, I (maxT l i)), (4, I i)] ∧ m = l.length - i ∧ Ext w W ∧ KF 0 w W ∧ 1 ≤ i ∧ i ≤ l.length) ?_ ?_
  ·exact ⟨_, 1, _, upds_of _ _ ⟨rfl, (eqI (maxT_one h1)), (eqI (by omega)), trivial⟩, rfl, E, K1, (Nat.le_refl _), (by omega)⟩
  ·rintro m σ w3 ⟨i, ρ, rfl, rfl, E, K1, iv0_0, iv0_1⟩
   refine W.seq <| W.seq <| W.region rfl <| s_val (x_mv (v := I i) rfl) <| s_val (x_mv (v := vl) rfl) <| s_val (x_lenS T34.und rfl (hl.to K1)) <| s_val (x_cmp (kd := .i64) (a := i) (b := l.length) (r := decide ((i : Int) < l.length)) rfl rfl rfl) <| s_nil ?_
   refine W.cond (decide ((i : Int) < l.length)) rfl (fun c4 => ?_) (fun c4 => ?_)
   ·simp only [q1, q2, q3, q4, q5, q6, ne_eq, q7] at c4
    refine W.skip <| W.seq <| W.block <| W.region rfl <| s_val (x_mv (v := I (maxT l i)) rfl) <| s_val (x_mv (v := vl) rfl) <| s_val (x_mv (v := I i) rfl) <| s_val (x_ix (a := vl) (b := I i) (v := vat vl 1 (Int.toNat i)) rfl rfl (Sl.ix (α := Int) T34.und T34.size (hl.to K1) (by omega) (by omega))) ?_
    refine s_val (x_ld (p := vat vl 1 (Int.toNat i)) (v := I (l.getD i 0)) rfl (ld_sc Sc3 (At.to (Int_at hl (i := i) (by omega) (by omega)) K1))) <| s_val (x_max (kd := .i64) (a := maxT l i) (b := l.getD i 0) rfl rfl) <| s_val (x_as (v := I (max (maxT l i) (l.getD i 0))) rfl) <| s_nil <| W.region rfl <| s_val (x_mv (v := I i) rfl) <| s_val (x_ari (a := i) (b := 1) (r := i + 1) rfl rfl rfl (by omega)) <| s_val (x_as (v := I (i + 1)) rfl) ?_
    refine s_nil ?_
    exact ⟨_, (by omega), i+1, _, upds_of _ _ ⟨rfl, (eqI (maxT_next l c4).symm), (eqI (by omega)), trivial⟩, rfl, E, K1, (by omega), (by omega)⟩
   ·simp only [q1, q2, q3, q4, q5, q6, ne_eq, q7] at c4
    refine W.exit ?_
    refine W.seq <| W.region rfl <| s_val (x_mv (v := I (maxT l i)) rfl) <| s_val (x_as (v := I (maxT l i)) rfl) <| s_nil ?_
    refine W.ret ?_
    exact ⟨_, resE_tmp rfl, (eqI (maxT_done l c4)), E⟩

set_option maxRecDepth 100000 in
theorem longest1 {b1 b2 b3 : Nat} {va vw : Value} {a : List Int} {ws : List Work} (x i : Int) (w : World) (h_b1 : w.heap[b1]? = some (.cells #[va] 34 (0, 0))) (h_b2 : w.heap[b2]? = some (.cells #[I i] 3 (0, 0))) (h_b3 : w.heap[b3]? = some (.cells #[vw] 22 (0, 0))) (ha : Sl w.cell? va a) (hw : Sl w.cell? vw ws) (h0 : 0 ≤ x) (h1 : x < a.length) (hi0 : 0 ≤ i) (hi1 : i < a.length) (hi2 : i < ws.length) (hb : -1000000 ≤ a.getD (Int.toNat i) 0 - (ws.getD (Int.toNat i) default).minutes ∧ a.getD (Int.toNat i) 0 - (ws.getD (Int.toNat i) default).minutes ≤ 1000000) : Ret Try.prog 103 #[I x, .pointer (some ⟨b1, 0, none⟩), .pointer (some ⟨b2, 0, none⟩), .pointer (some ⟨b3, 0, none⟩)] w fun v w' => v = B (a.getD (Int.toNat x) 0 == a.getD (Int.toNat i) 0 - (ws.getD (Int.toNat i) default).minutes) ∧ Ext w w' := by
 refine ret_of_W Try.func103 rfl rfl rfl ?_
 have E := Ext.refl w
 have K1 := KF.refl 0 w
 have hl_ha := ha.len_le
 have ha := ha.par
 have hl_hw := hw.len_le
 have hw := hw.par
 refine W.seq <| W.region rfl <| s_val (x_as (v := B false) rfl) <| s_nil <| W.seq ?_
 refine W.draw (fun W => Ext w W ∧ KF 0 w W ∧ W.heap[b1]? = some (.cells #[va] 34 (0, 0)) ∧ W.heap[b2]? = some (.cells #[I i] 3 (0, 0)) ∧ W.heap[b3]? = some (.cells #[vw] 22 (0, 0))) [(0, true), (1, true), (2, true), (3, true), (4, true), (5, true), (6, true), (7, true), (8, true), (9, true), (10, true), (11, true), (12, true), (13, true), (14, true), (15, true)] mixed (by decide +kernel) rfl ?_
 intro w2 x3
 replace E := E.trans x3
 replace K1 := K1.ext x3
 replace h_b1 := x3.get h_b1
 replace h_b2 := x3.get h_b2
 replace h_b3 := x3.get h_b3
 clear x3
 refine ⟨⟨E, K1, h_b1, h_b2, h_b3⟩, ?_⟩
 refine d_q rfl (fun w' hC => by obtain ⟨E, K1, h_b1, h_b2, h_b3⟩ := hC; exact x_ld (p := .pointer (some ⟨b1, 0, none⟩)) (v := va) rfl (ldb_sc Sc34 h_b1 rfl)) ?_
 refine d_q rfl (fun w' hC => by obtain ⟨E, K1, h_b1, h_b2, h_b3⟩ := hC; exact x_mv (v := I x) rfl) ?_
 refine d_q rfl (fun w' hC => by obtain ⟨E, K1, h_b1, h_b2, h_b3⟩ := hC; exact x_ix (a := va) (b := I x) (v := vat va 1 (Int.toNat x)) rfl rfl (Sl.ix (α := Int) T34.und T34.size (ha.to K1) (by omega) (by omega))) ?_
 refine d_q rfl (fun w' hC => by obtain ⟨E, K1, h_b1, h_b2, h_b3⟩ := hC; exact x_ld (p := vat va 1 (Int.toNat x)) (v := I (a.getD (Int.toNat x) 0)) rfl (ld_sc Sc3 (At.to (Int_at ha (i := x) (by omega) (by omega)) K1))) ?_
 refine d_q rfl (fun w' hC => by obtain ⟨E, K1, h_b1, h_b2, h_b3⟩ := hC; exact x_ld (p := .pointer (some ⟨b1, 0, none⟩)) (v := va) rfl (ldb_sc Sc34 h_b1 rfl)) ?_
 refine d_q rfl (fun w' hC => by obtain ⟨E, K1, h_b1, h_b2, h_b3⟩ := hC; exact x_ld (p := .pointer (some ⟨b2, 0, none⟩)) (v := I i) rfl (ldb_sc Sc3 h_b2 rfl)) ?_
 refine d_q rfl (fun w' hC => by obtain ⟨E, K1, h_b1, h_b2, h_b3⟩ := hC; exact x_ix (a := va) (b := I i) (v := vat va 1 (Int.toNat i)) rfl rfl (Sl.ix (α := Int) T34.und T34.size (ha.to K1) (by omega) (by omega))) ?_
 refine d_q rfl (fun w' hC => by obtain ⟨E, K1, h_b1, h_b2, h_b3⟩ := hC; exact x_ld (p := vat va 1 (Int.toNat i)) (v := I (a.getD (Int.toNat i) 0)) rfl (ld_sc Sc3 (At.to (Int_at ha (i := i) (by omega) (by omega)) K1))) ?_
 refine d_q rfl (fun w' hC => by obtain ⟨E, K1, h_b1, h_b2, h_b3⟩ := hC; exact x_ld (p := .pointer (some ⟨b3, 0, none⟩)) (v := vw) rfl (ldb_sc Sc22 h_b3 rfl)) ?_
 refine d_q rfl (fun w' hC => by obtain ⟨E, K1, h_b1, h_b2, h_b3⟩ := hC; exact x_ld (p := .pointer (some ⟨b2, 0, none⟩)) (v := I i) rfl (ldb_sc Sc3 h_b2 rfl)) ?_
 refine d_q rfl (fun w' hC => by obtain ⟨E, K1, h_b1, h_b2, h_b3⟩ := hC; exact x_ix (a := vw) (b := I i) (v := vat vw 3 (Int.toNat i)) rfl rfl (Sl.ix (α := Work) T22.und T22.size (hw.to K1) (by omega) (by omega))) ?_
 refine d_q rfl (fun w' hC => by obtain ⟨E, K1, h_b1, h_b2, h_b3⟩ := hC; exact x_fa (a := vat vw 3 (Int.toNat i)) (v := fat (vat vw 3 (Int.toNat i)) 2) rfl (fa_pl Fd60_2 Sz3 (Sl.pl (i := i) hw (by omega) (by omega)))) ?_
 refine d_q rfl (fun w' hC => by obtain ⟨E, K1, h_b1, h_b2, h_b3⟩ := hC; exact x_ld (p := fat (vat vw 3 (Int.toNat i)) 2) (v := I ((ws.getD (Int.toNat i) default).minutes)) rfl (ld_sc Sc3 (At.to (Work_at2 hw (i := i) (by omega) (by omega)) K1))) ?_
 refine d_q rfl (fun w' hC => by obtain ⟨E, K1, h_b1, h_b2, h_b3⟩ := hC; exact x_ari (a := a.getD (Int.toNat i) 0) (b := (ws.getD (Int.toNat i) default).minutes) (r := (a.getD (Int.toNat i) 0) - ((ws.getD (Int.toNat i) default).minutes)) rfl rfl rfl (by omega)) ?_
 refine d_q rfl (fun w' hC => by obtain ⟨E, K1, h_b1, h_b2, h_b3⟩ := hC; exact x_cmp (kd := .i64) (a := a.getD (Int.toNat x) 0) (b := (a.getD (Int.toNat i) 0) - ((ws.getD (Int.toNat i) default).minutes)) (r := ((a.getD (Int.toNat x) 0) : Int) == ((a.getD (Int.toNat i) 0) - ((ws.getD (Int.toNat i) default).minutes))) rfl rfl rfl) ?_
 refine d_q rfl (fun w' hC => by obtain ⟨E, K1, h_b1, h_b2, h_b3⟩ := hC; exact x_as (v := B (((a.getD (Int.toNat x) 0) : Int) == ((a.getD (Int.toNat i) 0) - ((ws.getD (Int.toNat i) default).minutes)))) rfl) ?_
 refine d_nil ?_
 refine W.ret ?_
 exact ⟨_, resE_tmp rfl, rfl, E⟩

set_option maxRecDepth 100000 in
theorem Longest_any {vw vr : Value} {ws : List Work} {rev : List Int} (w : World) (hw : Sl w.cell? vw ws) (hr : Sl w.cell? vr rev) : Ret Try.prog 38 #[vw, vr] w fun v w' => ∃ u, v = .tuple #[u, I (longestE ws rev)] ∧ Sl (frm w' w.heap.size) u (longestR ws rev) ∧ Ext w w' := by
 refine ret_of_W Try.func38 rfl rfl rfl ?_
 have E := Ext.refl w
 have K1 := KF.refl 0 w
 have hl_hw := hw.len_le
 have hw := hw.par
 have hl_hr := hr.len_le
 have hr := hr.par
 refine W.seq <| W.region rfl ?_
 refine s_box (v := vw) (cs := [vw]) rfl (Sl.cells (hw.to K1)) ?_
 intro b2 w3 Nb2
 have o_K1_b2 := Nat.le_trans K1.size Nb2.ge
 have o_b2 := Nat.le_trans E.size Nb2.ge
 replace E := E.trans Nb2.ext
 replace K1 := K1.ext Nb2.ext
 have h_b2 := Nb2.same
 clear Nb2
 refine s_val (x_as (v := .slice none 0 0) rfl) <| s_val (x_as (v := I 0) rfl) <| s_nil <| W.seq <| W.region rfl <| s_val (x_ld (p := .pointer (some ⟨b2, 0, none⟩)) (v := vw) rfl (ldb_sc Sc22 h_b2 rfl)) <| s_val (x_mv (v := vr) rfl) ?_
 refine s_call cf92 [vw, vr] rfl (asked_any _ (hw.to K1) (hr.to K1)) ?_
 rintro _ w4 (⟨h6, rfl, x7⟩ | ⟨h8, b9, so10, rfl, n11, hs12⟩)
 ·replace E := E.trans x7
  replace K1 := K1.ext x7
  replace h_b2 := x7.get h_b2
  refine s_val (x_mv (v := .tuple #[.pointer none, .slice none 0 0, .agg (encB (List.replicate 30 false)).toArray, I (askedE ws rev)]) rfl) <| s_val (x_ext (vs := [.pointer none, .slice none 0 0, .agg (encB (List.replicate 30 false)).toArray, I (askedE ws rev)]) (v := .pointer none) rfl rfl) <| s_val (x_ext (vs := [.pointer none, .slice none 0 0, .agg (encB (List.replicate 30 false)).toArray, I (askedE ws rev)]) (v := .slice none 0 0) rfl rfl) <| s_val (x_ext (vs := [.pointer none, .slice none 0 0, .agg (encB (List.replicate 30 false)).toArray, I (askedE ws rev)]) (v := .agg (encB (List.replicate 30 false)).toArray) rfl rfl) <| s_val (x_ext (vs := [.pointer none, .slice none 0 0, .agg (encB (List.replicate 30 false)).toArray, I (askedE ws rev)]) (v := I (askedE ws rev)) rfl rfl) ?_
  refine s_alloc (cs := encB (List.replicate 30 false)) Al141 rfl ?_
  intro b13 w14 Nb13
  have o_K1_b13 := Nat.le_trans K1.size Nb13.ge
  have o_b13 := Nat.le_trans E.size Nb13.ge
  have o_b2_b13 := Nat.lt_of_lt_of_le (heap_lt h_b2) Nb13.ge
  replace E := E.trans Nb13.ext
  replace K1 := K1.ext Nb13.ext
  replace h_b2 := Nb13.ext.get h_b2
  have h_b13 := Nb13.same
  clear Nb13
  have hl_b13 : (List.replicate 30 false).length = 30 := by simp
  refine s_val (x_as (v := .pointer none) rfl) <| s_val (x_as (v := .slice none 0 0) rfl) ?_
  refine s_stArrA (b := b13) (l := List.replicate 30 false) (l' := List.replicate 30 false) rfl rfl Sz141 h_b13 hl_b13 (List.length_replicate) ?_
  intro w15 p16
  replace E := E.put (by omega) p16
  replace K1 := K1.put p16 (by omega)
  replace h_b2 := p16.get (by omega) h_b2
  replace h_b13 := p16.same
  clear p16
  refine s_val (x_as (v := I (askedE ws rev)) rfl) <| s_nil <| W.seq <| W.block <| W.seq <| W.region rfl <| s_val (x_mv (v := I (askedE ws rev)) rfl) <| s_val (x_cmp (kd := .i64) (a := askedE ws rev) (b := 0) (r := (askedE ws rev : Int) != 0) rfl rfl rfl) ?_
  refine s_val (x_as (v := B ((askedE ws rev : Int) != 0)) rfl) <| s_nil ?_
  refine W.cond ((askedE ws rev : Int) != 0) rfl (fun c17 => ?_) (fun c17 => ?_)
  ·simp only [q1, q2, q3, q4, q5, q6, ne_eq, q7] at c17
   refine W.seq <| W.region rfl <| s_val (x_mv (v := I (askedE ws rev)) rfl) <| s_val (x_as (v := .slice none 0 0) rfl) <| s_val (x_as (v := I (askedE ws rev)) rfl) <| s_nil ?_
   refine W.ret ?_
   exact ⟨_, resE_tmp2 rfl, .slice none 0 0, (by rw [(longest_wrong h6).1]; rfl), (by rw [(longest_wrong h6).2]; exact Sl.nil _), E⟩
  ·simp only [q1, q2, q3, q4, q5, q6, ne_eq, q7] at c17
   exact absurd c17 h6
 ·have hO := (asked_ok h8).1
  have hR := opened_right hO
  have hn30 := (right_len hR).2
  have hn1 := (right_len hR).1
  have hsl := staleL_len ws rev
  have sz_w4 := E.size
  have lt_b2_w4 := heap_lt h_b2
  have o_K1_b9 := Nat.le_trans K1.size n11.ge
  have o_b9 := Nat.le_trans E.size n11.ge
  have o_b2_b9 := Nat.lt_of_lt_of_le (heap_lt h_b2) n11.ge
  replace E := E.trans n11.ext
  replace K1 := K1.ext n11.ext
  replace h_b2 := n11.ext.get h_b2
  have h_b9 := n11.same
  clear n11
  have hl_hs12 := hs12.len_le
  have K18 := KF.refl w3.heap.size w4
  refine s_val (x_mv (v := .tuple #[.pointer (some ⟨b9, 0, none⟩), so10, .agg (encB (staleL ws rev)).toArray, I 0]) rfl) <| s_val (x_ext (vs := [.pointer (some ⟨b9, 0, none⟩), so10, .agg (encB (staleL ws rev)).toArray, I 0]) (v := .pointer (some ⟨b9, 0, none⟩)) rfl rfl) <| s_val (x_ext (vs := [.pointer (some ⟨b9, 0, none⟩), so10, .agg (encB (staleL ws rev)).toArray, I 0]) (v := so10) rfl rfl) <| s_val (x_ext (vs := [.pointer (some ⟨b9, 0, none⟩), so10, .agg (encB (staleL ws rev)).toArray, I 0]) (v := .agg (encB (staleL ws rev)).toArray) rfl rfl) <| s_val (x_ext (vs := [.pointer (some ⟨b9, 0, none⟩), so10, .agg (encB (staleL ws rev)).toArray, I 0]) (v := I 0) rfl rfl) ?_
  refine s_alloc (cs := encB (List.replicate 30 false)) Al141 rfl ?_
  intro b19 w20 Nb19
  have o_K1_b19 := Nat.le_trans K1.size Nb19.ge
  have o_K18_b19 := Nat.le_trans K18.size Nb19.ge
  have o_b19 := Nat.le_trans E.size Nb19.ge
  have o_b2_b19 := Nat.lt_of_lt_of_le (heap_lt h_b2) Nb19.ge
  have o_b9_b19 := Nat.lt_of_lt_of_le (heap_lt h_b9) Nb19.ge
  replace E := E.trans Nb19.ext
  replace K1 := K1.ext Nb19.ext
  replace K18 := K18.ext Nb19.ext
  replace h_b2 := Nb19.ext.get h_b2
  replace h_b9 := Nb19.ext.get h_b9
  have h_b19 := Nb19.same
  clear Nb19
  have hl_b19 : (List.replicate 30 false).length = 30 := by simp
  refine s_val (x_as (v := .pointer (some ⟨b9, 0, none⟩)) rfl) <| s_val (x_as (v := so10) rfl) ?_
  refine s_stArrA (b := b19) (l := List.replicate 30 false) (l' := staleL ws rev) rfl rfl Sz141 h_b19 hl_b19 (staleL_len ws rev) ?_
  intro w21 p22
  replace E := E.put (by omega) p22
  replace K1 := K1.put p22 (by omega)
  replace K18 := K18.put p22 (by omega)
  replace h_b2 := p22.get (by omega) h_b2
  replace h_b9 := p22.get (by omega) h_b9
  replace h_b19 := p22.same
  clear p22
  refine s_val (x_as (v := I 0) rfl) <| s_nil <| W.seq <| W.block <| W.seq <| W.region rfl <| s_val (x_mv (v := I 0) rfl) <| s_val (x_cmp (kd := .i64) (a := 0) (b := 0) (r := (0 : Int) != 0) rfl rfl rfl) ?_
  refine s_val (x_as (v := B ((0 : Int) != 0)) rfl) <| s_nil ?_
  refine W.cond ((0 : Int) != 0) rfl (fun c23 => ?_) (fun c23 => ?_)
  ·simp only [q1, q2, q3, q4, q5, q6, ne_eq, q7] at c23
   exact absurd c23 (by decide)
  ·simp only [q1, q2, q3, q4, q5, q6, ne_eq, q7] at c23
   refine W.seq <| W.region rfl <| s_val (x_mv (v := vr) rfl) <| s_val (x_lenS T34.und rfl (hr.to K1)) <| s_val (x_cmp (kd := .i64) (a := rev.length) (b := 0) (r := (rev.length : Int) == 0) rfl rfl rfl) <| s_val (x_as (v := B ((rev.length : Int) == 0)) rfl) <| s_nil ?_
   refine W.cond ((rev.length : Int) == 0) rfl (fun c24 => ?_) (fun c24 => ?_)
   ·simp only [q1, q2, q3, q4, q5, q6, ne_eq, q7] at c24
    refine W.seq <| W.region rfl <| s_val (x_as (v := .slice none 0 0) rfl) <| s_val (x_as (v := I 5) rfl) <| s_nil ?_
    refine W.ret ?_
    exact ⟨_, resE_tmp2 rfl, .slice none 0 0, (by rw [(longest_none h8 c24).1]; rfl), (by rw [(longest_none h8 c24).2]; exact Sl.nil _), E⟩
   ·simp only [q1, q2, q3, q4, q5, q6, ne_eq, q7] at c24
    have hal := readyL_len ws (orderP ws) (staleL ws rev)
    have hla := lastL_rng (a := readyL ws (orderP ws) (staleL ws rev)) (by omega)
    refine W.skip <| W.seq <| W.region rfl <| s_val (x_ld (p := .pointer (some ⟨b2, 0, none⟩)) (v := vw) rfl (ldb_sc Sc22 h_b2 rfl)) <| s_val (x_mv (v := so10) rfl) <| s_val (x_ld (p := .pointer (some ⟨b19, 0, none⟩)) (v := .agg (encB (staleL ws rev)).toArray) rfl (ldArrA Ag141 Sz141 (staleL_len ws rev) h_b19)) ?_
    refine s_call cf99 [vw, so10, .agg (encB (staleL ws rev)).toArray] rfl (ready_any _ (hw.to K1) (hs12.to K18) (staleL_len ws rev) hR (order_rng _) (by have := order_len ws; omega)) ?_
    have sz_w25 := E.size
    have lt_b2_w25 := heap_lt h_b2
    have lt_b9_w25 := heap_lt h_b9
    have lt_b19_w25 := heap_lt h_b19
    rintro u27 w25 ⟨hs28, x26⟩
    replace E := E.trans x26
    replace K1 := K1.ext x26
    replace K18 := K18.ext x26
    replace h_b2 := x26.get h_b2
    replace h_b9 := x26.get h_b9
    replace h_b19 := x26.get h_b19
    clear x26
    have hl_hs28 := hs28.len_le
    have K29 := KF.refl w21.heap.size w25
    refine s_alloc (cs := [.slice none 0 0]) Al34 rfl ?_
    intro b30 w31 Nb30
    have o_K1_b30 := Nat.le_trans K1.size Nb30.ge
    have o_K18_b30 := Nat.le_trans K18.size Nb30.ge
    have o_K29_b30 := Nat.le_trans K29.size Nb30.ge
    have o_b30 := Nat.le_trans E.size Nb30.ge
    have o_b2_b30 := Nat.lt_of_lt_of_le (heap_lt h_b2) Nb30.ge
    have o_b9_b30 := Nat.lt_of_lt_of_le (heap_lt h_b9) Nb30.ge
    have o_b19_b30 := Nat.lt_of_lt_of_le (heap_lt h_b19) Nb30.ge
    replace E := E.trans Nb30.ext
    replace K1 := K1.ext Nb30.ext
    replace K18 := K18.ext Nb30.ext
    replace K29 := K29.ext Nb30.ext
    replace h_b2 := Nb30.ext.get h_b2
    replace h_b9 := Nb30.ext.get h_b9
    replace h_b19 := Nb30.ext.get h_b19
    have h_b30 := Nb30.same
    clear Nb30
    refine s_st (b := b30) (off := 0) (vs := [u27]) (cs' := [u27]) (v := u27) rfl rfl Sz34 h_b30 (Sl.cells (hs28.to K29)) rfl rfl (by simp only [List.all_cons, List.all_nil, Bool.true_and, Bool.and_true, Sl.oc (hs28.to K29)]; try rfl) rfl ?_
    intro w32 p33
    replace E := E.put (by omega) p33
    replace K1 := K1.put p33 (by omega)
    replace K18 := K18.put p33 (by omega)
    replace K29 := K29.put p33 (by omega)
    replace h_b2 := p33.get (by omega) h_b2
    replace h_b9 := p33.get (by omega) h_b9
    replace h_b19 := p33.get (by omega) h_b19
    replace h_b30 := p33.same
    clear p33
    refine s_nil <| W.seq ?_
    refine W.drawT (fun W => Ext w W ∧ KF 0 w W ∧ KF w3.heap.size w4 W ∧ KF w21.heap.size w25 W ∧ W.heap[b2]? = some (.cells #[vw] 22 (0, 0)) ∧ W.heap[b9]? = some (.cells #[vw] 187 (0, 0)) ∧ W.heap[b19]? = some (.cells (encB (staleL ws rev)).toArray 141 (0, 0)) ∧ W.heap[b30]? = some (.cells #[u27] 34 (0, 0))) (.q 0 (.q 1 (.l2 2 (.l2 3 (.l 4 (.l 5 .nil)) 4 (.l 3 (.l 5 .nil))) 4 (.l 2 (.l 3 (.l 5 .nil)))))) mixed (by decide +kernel) rfl ?_
    intro w34 x35
    replace E := E.trans x35
    replace K1 := K1.ext x35
    replace K18 := K18.ext x35
    replace K29 := K29.ext x35
    replace h_b2 := x35.get h_b2
    replace h_b9 := x35.get h_b9
    replace h_b19 := x35.get h_b19
    replace h_b30 := x35.get h_b30
    clear x35
    refine ⟨⟨E, K1, K18, K29, h_b2, h_b9, h_b19, h_b30⟩, ?_⟩
    refine t_q rfl (fun w' hC => by obtain ⟨E, K1, K18, K29, h_b2, h_b9, h_b19, h_b30⟩ := hC; exact x_ld (p := .pointer (some ⟨b30, 0, none⟩)) (v := u27) rfl (ldb_sc Sc34 h_b30 rfl)) ?_
    refine t_q rfl (fun w' hC => by obtain ⟨E, K1, K18, K29, h_b2, h_b9, h_b19, h_b30⟩ := hC; exact x_ld (p := .pointer (some ⟨b30, 0, none⟩)) (v := u27) rfl (ldb_sc Sc34 h_b30 rfl)) ?_
    refine t_l2 rfl rfl ?_ ?_
    ·refine s_call cf101 [u27] rfl (max_int _ (hs28.to K29) (by omega)) ?_
     rintro _ w36 ⟨rfl, x37⟩
     replace E := E.trans x37
     replace K1 := K1.ext x37
     replace K18 := K18.ext x37
     replace K29 := K29.ext x37
     replace h_b2 := x37.get h_b2
     replace h_b9 := x37.get h_b9
     replace h_b19 := x37.get h_b19
     replace h_b30 := x37.get h_b30
     clear x37
     refine s_nil ⟨⟨E, K1, K18, K29, h_b2, h_b9, h_b19, h_b30⟩, ?_⟩
     refine t_l2 rfl rfl ?_ ?_
     ·refine s_call cf100 [u27, I (maxT (readyL ws (orderP ws) (staleL ws rev)) (readyL ws (orderP ws) (staleL ws rev)).length)] rfl (index_int (maxT (readyL ws (orderP ws) (staleL ws rev)) (readyL ws (orderP ws) (staleL ws rev)).length) _ (hs28.to K29)) ?_
      rintro _ w38 ⟨rfl, x39⟩
      replace E := E.trans x39
      replace K1 := K1.ext x39
      replace K18 := K18.ext x39
      replace K29 := K29.ext x39
      replace h_b2 := x39.get h_b2
      replace h_b9 := x39.get h_b9
      replace h_b19 := x39.get h_b19
      replace h_b30 := x39.get h_b30
      clear x39
      refine s_nil ⟨⟨E, K1, K18, K29, h_b2, h_b9, h_b19, h_b30⟩, ?_⟩
      refine t_l rfl ?_
      refine s_alloc (cs := [I 0]) Al3 rfl ?_
      intro b40 w41 Nb40
      have o_K1_b40 := Nat.le_trans K1.size Nb40.ge
      have o_K18_b40 := Nat.le_trans K18.size Nb40.ge
      have o_K29_b40 := Nat.le_trans K29.size Nb40.ge
      have o_b40 := Nat.le_trans E.size Nb40.ge
      have o_b2_b40 := Nat.lt_of_lt_of_le (heap_lt h_b2) Nb40.ge
      have o_b9_b40 := Nat.lt_of_lt_of_le (heap_lt h_b9) Nb40.ge
      have o_b19_b40 := Nat.lt_of_lt_of_le (heap_lt h_b19) Nb40.ge
      have o_b30_b40 := Nat.lt_of_lt_of_le (heap_lt h_b30) Nb40.ge
      replace E := E.trans Nb40.ext
      replace K1 := K1.ext Nb40.ext
      replace K18 := K18.ext Nb40.ext
      replace K29 := K29.ext Nb40.ext
      replace h_b2 := Nb40.ext.get h_b2
      replace h_b9 := Nb40.ext.get h_b9
      replace h_b19 := Nb40.ext.get h_b19
      replace h_b30 := Nb40.ext.get h_b30
      have h_b40 := Nb40.same
      clear Nb40
      refine s_nil ⟨⟨E, K1, K18, K29, h_b2, h_b9, h_b19, h_b30⟩, ?_⟩
      refine t_l rfl ?_
      refine s_st (b := b40) (off := 0) (vs := [I (idxI (readyL ws (orderP ws) (staleL ws rev)) (maxT (readyL ws (orderP ws) (staleL ws rev)) (readyL ws (orderP ws) (staleL ws rev)).length))]) (cs' := [I (idxI (readyL ws (orderP ws) (staleL ws rev)) (maxT (readyL ws (orderP ws) (staleL ws rev)) (readyL ws (orderP ws) (staleL ws rev)).length))]) (v := I (idxI (readyL ws (orderP ws) (staleL ws rev)) (maxT (readyL ws (orderP ws) (staleL ws rev)) (readyL ws (orderP ws) (staleL ws rev)).length))) rfl rfl Sz3 h_b40 rfl rfl rfl rfl rfl ?_
      intro w42 p43
      replace E := E.put (by omega) p43
      replace K1 := K1.put p43 (by omega)
      replace K18 := K18.put p43 (by omega)
      replace K29 := K29.put p43 (by omega)
      replace h_b2 := p43.get (by omega) h_b2
      replace h_b9 := p43.get (by omega) h_b9
      replace h_b19 := p43.get (by omega) h_b19
      replace h_b30 := p43.get (by omega) h_b30
      replace h_b40 := p43.same
      clear p43
      refine s_nil ⟨⟨E, K1, K18, K29, h_b2, h_b9, h_b19, h_b30⟩, ?_⟩
      refine t_nil ?_
      refine W.seq <| W.region rfl <| s_val (x_ld (p := .pointer (some ⟨b40, 0, none⟩)) (v := I (idxI (readyL ws (orderP ws) (staleL ws rev)) (maxT (readyL ws (orderP ws) (staleL ws rev)) (readyL ws (orderP ws) (staleL ws rev)).length))) rfl (ldb_sc Sc3 h_b40 rfl)) ?_
      refine s_bs1O (α := Int) T34 ((idxI (readyL ws (orderP ws) (staleL ws rev)) (maxT (readyL ws (orderP ws) (staleL ws rev)) (readyL ws (orderP ws) (staleL ws rev)).length) : Int)) rfl rfl rfl ?_
      intro v44 w45 ho46 x47
      have n_v44_b2 := ho46.ne' (heap_lt h_b2)
      have n_v44_b9 := ho46.ne' (heap_lt h_b9)
      have n_v44_b19 := ho46.ne' (heap_lt h_b19)
      have n_v44_b30 := ho46.ne' (heap_lt h_b30)
      have n_v44_b40 := ho46.ne' (heap_lt h_b40)
      have z48 := Nat.le_refl w42.heap.size
      have B_v44 := E.size
      have B_v44_K1 := K1.size
      have B_v44_K18 := K18.size
      have B_v44_K29 := K29.size
      replace E := E.trans x47
      replace z48 := Nat.le_trans z48 x47.size
      replace K1 := K1.ext x47
      replace K18 := K18.ext x47
      replace K29 := K29.ext x47
      replace h_b2 := x47.get h_b2
      replace h_b9 := x47.get h_b9
      replace h_b19 := x47.get h_b19
      replace h_b30 := x47.get h_b30
      replace h_b40 := x47.get h_b40
      clear x47
      refine s_val (x_as (v := v44) rfl) <| s_nil <| W.seq <| W.block ?_
      refine W.loop (fun m σ W => ∃ (i : Int) (out : List Int) (f : Nat) (vo : Value) (ρ : Env), σ = upds ρ [(2, .pointer (some ⟨b2, 0, none⟩)), (10, .pointer (some ⟨b30, 0, none⟩)), (11, .pointer (some ⟨b40, 0, none⟩)), (12, vo)] ∧ m = f + 1 ∧ Ext w W ∧ KF 0 w W ∧ KF w21.heap.size w25 W ∧ W.heap[b2]? = some (.cells #[vw] 22 (0, 0)) ∧ W.heap[b9]? = some (.cells #[vw] 187 (0, 0)) ∧ W.heap[b19]? = some (.cells (encB (staleL ws rev)).toArray 141 (0, 0)) ∧ W.heap[b30]? = some (.cells #[u27] 34 (0, 0)) ∧ W.heap[b40]? = some (.cells #[I i] 3 (0, 0)) ∧ w42.heap.size ≤ W.heap.size ∧ OwnF w42.heap.size 3 W vo out ∧ vo.ownBlock ≠ some b2 ∧ vo.ownBlock ≠ some b9 ∧ vo.ownBlock ≠ some b19 ∧ vo.ownBlock ≠ some b30 ∧ vo.ownBlock ≠ some b40 ∧ 0 ≤ i ∧ i < (ws.length : Int) ∧ posO ws i ≤ f ∧ longF ws (readyL ws (orderP ws) (staleL ws rev)) f i out = longF ws (readyL ws (orderP ws) (staleL ws rev)) ws.length (lastL (readyL ws (orderP ws) (staleL ws rev))) [lastL (readyL ws (orderP ws) (staleL ws rev))] ∧ out.length + f ≤ ws.length + 1) ?_ ?_
      ·exact ⟨_, lastL (readyL ws (orderP ws) (staleL ws rev)), [lastL (readyL ws (orderP ws) (staleL ws rev))], ws.length, v44, _, upds_of _ _ ⟨rfl, rfl, rfl, rfl, trivial⟩, rfl, E, K1, K29, h_b2, h_b9, h_b19, h_b30, h_b40, z48, ho46, n_v44_b2, n_v44_b9, n_v44_b19, n_v44_b30, n_v44_b40, hla.1, (by have := hla.2.1; omega), (Nat.le_of_lt (posO_le (order_all hO hla.1 (by have := hla.2.1; omega)))), rfl, (by simp; omega)⟩
      ·rintro m σ w49 ⟨i, out, f, vo, ρ, rfl, rfl, E, K1, K29, h_b2, h_b9, h_b19, h_b30, h_b40, z48, ho_vo, n_vo_b2, n_vo_b9, n_vo_b19, n_vo_b30, n_vo_b40, iv0_0, iv0_1, iv0_2, iv0_3, iv0_4⟩
       have hof := right_of hR (i := Int.toNat i) (by omega)
       have hmn := right_nums hR (i := Int.toNat i) (by omega)
       have hai := readyL_at hR (staleL ws rev) (i := Int.toNat i) (by omega)
       refine W.seq <| W.seq ?_
       refine W.draw (fun W => Ext w W ∧ KF 0 w W ∧ KF w21.heap.size w25 W ∧ W.heap[b2]? = some (.cells #[vw] 22 (0, 0)) ∧ W.heap[b9]? = some (.cells #[vw] 187 (0, 0)) ∧ W.heap[b19]? = some (.cells (encB (staleL ws rev)).toArray 141 (0, 0)) ∧ W.heap[b30]? = some (.cells #[u27] 34 (0, 0)) ∧ W.heap[b40]? = some (.cells #[I i] 3 (0, 0)) ∧ OwnF w42.heap.size 3 W vo out) [(0, true), (1, true), (2, true), (3, true), (4, true), (5, true), (6, true), (7, true), (8, true), (9, true)] mixed (by decide +kernel) rfl ?_
       intro w50 x51
       replace E := E.trans x51
       replace z48 := Nat.le_trans z48 x51.size
       replace K1 := K1.ext x51
       replace K29 := K29.ext x51
       replace h_b2 := x51.get h_b2
       replace h_b9 := x51.get h_b9
       replace h_b19 := x51.get h_b19
       replace h_b30 := x51.get h_b30
       replace h_b40 := x51.get h_b40
       replace ho_vo := ho_vo.ext x51
       clear x51
       refine ⟨⟨E, K1, K29, h_b2, h_b9, h_b19, h_b30, h_b40, ho_vo⟩, ?_⟩
       refine d_q rfl (fun w' hC => by obtain ⟨E, K1, K29, h_b2, h_b9, h_b19, h_b30, h_b40, ho_vo⟩ := hC; exact x_ld (p := .pointer (some ⟨b30, 0, none⟩)) (v := u27) rfl (ldb_sc Sc34 h_b30 rfl)) ?_
       refine d_q rfl (fun w' hC => by obtain ⟨E, K1, K29, h_b2, h_b9, h_b19, h_b30, h_b40, ho_vo⟩ := hC; exact x_ld (p := .pointer (some ⟨b40, 0, none⟩)) (v := I i) rfl (ldb_sc Sc3 h_b40 rfl)) ?_
       refine d_q rfl (fun w' hC => by obtain ⟨E, K1, K29, h_b2, h_b9, h_b19, h_b30, h_b40, ho_vo⟩ := hC; exact x_ix (a := u27) (b := I i) (v := vat u27 1 (Int.toNat i)) rfl rfl (Sl.ix (α := Int) T34.und T34.size (hs28.to K29) (by omega) (by omega))) ?_
       refine d_q rfl (fun w' hC => by obtain ⟨E, K1, K29, h_b2, h_b9, h_b19, h_b30, h_b40, ho_vo⟩ := hC; exact x_ld (p := vat u27 1 (Int.toNat i)) (v := I ((readyL ws (orderP ws) (staleL ws rev)).getD (Int.toNat i) 0)) rfl (ld_sc Sc3 (At.to (Int_at hs28 (i := i) (by omega) (by omega)) K29))) ?_
       refine d_q rfl (fun w' hC => by obtain ⟨E, K1, K29, h_b2, h_b9, h_b19, h_b30, h_b40, ho_vo⟩ := hC; exact x_ld (p := .pointer (some ⟨b2, 0, none⟩)) (v := vw) rfl (ldb_sc Sc22 h_b2 rfl)) ?_
       refine d_q rfl (fun w' hC => by obtain ⟨E, K1, K29, h_b2, h_b9, h_b19, h_b30, h_b40, ho_vo⟩ := hC; exact x_ld (p := .pointer (some ⟨b40, 0, none⟩)) (v := I i) rfl (ldb_sc Sc3 h_b40 rfl)) ?_
       refine d_q rfl (fun w' hC => by obtain ⟨E, K1, K29, h_b2, h_b9, h_b19, h_b30, h_b40, ho_vo⟩ := hC; exact x_ix (a := vw) (b := I i) (v := vat vw 3 (Int.toNat i)) rfl rfl (Sl.ix (α := Work) T22.und T22.size (hw.to K1) (by omega) (by omega))) ?_
       refine d_q rfl (fun w' hC => by obtain ⟨E, K1, K29, h_b2, h_b9, h_b19, h_b30, h_b40, ho_vo⟩ := hC; exact x_fa (a := vat vw 3 (Int.toNat i)) (v := fat (vat vw 3 (Int.toNat i)) 2) rfl (fa_pl Fd60_2 Sz3 (Sl.pl (i := i) hw (by omega) (by omega)))) ?_
       refine d_q rfl (fun w' hC => by obtain ⟨E, K1, K29, h_b2, h_b9, h_b19, h_b30, h_b40, ho_vo⟩ := hC; exact x_ld (p := fat (vat vw 3 (Int.toNat i)) 2) (v := I ((ws.getD (Int.toNat i) default).minutes)) rfl (ld_sc Sc3 (At.to (Work_at2 hw (i := i) (by omega) (by omega)) K1))) ?_
       refine d_q rfl (fun w' hC => by obtain ⟨E, K1, K29, h_b2, h_b9, h_b19, h_b30, h_b40, ho_vo⟩ := hC; exact x_cmp (kd := .i64) (a := (readyL ws (orderP ws) (staleL ws rev)).getD (Int.toNat i) 0) (b := (ws.getD (Int.toNat i) default).minutes) (r := decide ((((ws.getD (Int.toNat i) default).minutes) : Int) < ((readyL ws (orderP ws) (staleL ws rev)).getD (Int.toNat i) 0))) rfl rfl rfl) ?_
       refine d_nil ?_
       refine W.cond (decide ((((ws.getD (Int.toNat i) default).minutes) : Int) < ((readyL ws (orderP ws) (staleL ws rev)).getD (Int.toNat i) 0))) rfl (fun c52 => ?_) (fun c52 => ?_)
       ·simp only [q1, q2, q3, q4, q5, q6, ne_eq, q7] at c52
        have hnx := long_next hO iv0_0 iv0_1 c52
        have hnx1 := hnx.1
        have hnx2 := hnx.2.1
        refine W.skip <| W.block <| W.seq <| W.region rfl <| s_val (x_ld (p := .pointer (some ⟨b2, 0, none⟩)) (v := vw) rfl (ldb_sc Sc22 h_b2 rfl)) <| s_val (x_ld (p := .pointer (some ⟨b40, 0, none⟩)) (v := I i) rfl (ldb_sc Sc3 h_b40 rfl)) <| s_val (x_ix (a := vw) (b := I i) (v := vat vw 3 (Int.toNat i)) rfl rfl (Sl.ix (α := Work) T22.und T22.size (hw.to K1) (by omega) (by omega))) <| s_val (x_fa (a := vat vw 3 (Int.toNat i)) (v := fat (vat vw 3 (Int.toNat i)) 0) rfl (fa_pl Fd60_0 Sz34 (Sl.pl (i := i) hw (by omega) (by omega)))) ?_
        obtain ⟨u53, ha_u53, hs54⟩ := Work_at0 hw (i := i) (by omega) (by omega)
        replace hs54 : Sl _ u53 (ws.getD (Int.toNat i) default).of := hs54
        have hl_hs54 := hs54.len_le
        refine s_val (x_ld (p := fat (vat vw 3 (Int.toNat i)) 0) (v := u53) rfl (ld_sc Sc34 (At.to ha_u53 K1))) <| s_val (x_mf (fs := []) (cs := [.pointer (some ⟨b30, 0, none⟩), .pointer (some ⟨b40, 0, none⟩), .pointer (some ⟨b2, 0, none⟩)]) rfl rfl) ?_
        refine s_call cf102 [u53, .func (.func 103) #[] #[.pointer (some ⟨b30, 0, none⟩), .pointer (some ⟨b40, 0, none⟩), .pointer (some ⟨b2, 0, none⟩)]] rfl (indexFunc_int _ (hs54.to K1) ⟨103, [.pointer (some ⟨b30, 0, none⟩), .pointer (some ⟨b40, 0, none⟩), .pointer (some ⟨b2, 0, none⟩)], rfl, cf103, fun w' v x hE hD hA => by obtain rfl := Arg.int hA; exact (longest1 _ _ _ (hE.get h_b30) (hE.get h_b40) (hE.get h_b2) ((hs28.to K29).mono hE.le) ((hw.to K1).mono hE.le) (hof _ hD).1 (by have := (hof _ hD).2.1; omega) iv0_0 (by omega) iv0_1 (by omega))⟩) ?_
        rintro _ w55 ⟨rfl, x56⟩
        replace E := E.trans x56
        replace z48 := Nat.le_trans z48 x56.size
        replace K1 := K1.ext x56
        replace K29 := K29.ext x56
        replace h_b2 := x56.get h_b2
        replace h_b9 := x56.get h_b9
        replace h_b19 := x56.get h_b19
        replace h_b30 := x56.get h_b30
        replace h_b40 := x56.get h_b40
        replace ho_vo := ho_vo.ext x56
        clear x56
        refine s_val (x_as (v := I (idxP (fun z_ : Int => (readyL ws (orderP ws) (staleL ws rev)).getD z_.toNat 0 == (readyL ws (orderP ws) (staleL ws rev)).getD (Int.toNat i) 0 - (ws.getD (Int.toNat i) default).minutes) ((ws.getD (Int.toNat i) default).of))) rfl) <| s_nil <| W.seq <| W.region rfl <| s_val (x_ld (p := .pointer (some ⟨b2, 0, none⟩)) (v := vw) rfl (ldb_sc Sc22 h_b2 rfl)) <| s_val (x_ld (p := .pointer (some ⟨b40, 0, none⟩)) (v := I i) rfl (ldb_sc Sc3 h_b40 rfl)) <| s_val (x_ix (a := vw) (b := I i) (v := vat vw 3 (Int.toNat i)) rfl rfl (Sl.ix (α := Work) T22.und T22.size (hw.to K1) (by omega) (by omega))) <| s_val (x_fa (a := vat vw 3 (Int.toNat i)) (v := fat (vat vw 3 (Int.toNat i)) 0) rfl (fa_pl Fd60_0 Sz34 (Sl.pl (i := i) hw (by omega) (by omega)))) ?_
        obtain ⟨u57, ha_u57, hs58⟩ := Work_at0 hw (i := i) (by omega) (by omega)
        replace hs58 : Sl _ u57 (ws.getD (Int.toNat i) default).of := hs58
        have hl_hs58 := hs58.len_le
        refine s_val (x_ld (p := fat (vat vw 3 (Int.toNat i)) 0) (v := u57) rfl (ld_sc Sc34 (At.to ha_u57 K1))) <| s_val (x_mv (v := I (idxP (fun z_ : Int => (readyL ws (orderP ws) (staleL ws rev)).getD z_.toNat 0 == (readyL ws (orderP ws) (staleL ws rev)).getD (Int.toNat i) 0 - (ws.getD (Int.toNat i) default).minutes) ((ws.getD (Int.toNat i) default).of))) rfl) <| s_val (x_ix (a := u57) (b := I (idxP (fun z_ : Int => (readyL ws (orderP ws) (staleL ws rev)).getD z_.toNat 0 == (readyL ws (orderP ws) (staleL ws rev)).getD (Int.toNat i) 0 - (ws.getD (Int.toNat i) default).minutes) ((ws.getD (Int.toNat i) default).of))) (v := vat u57 1 (Int.toNat (idxP (fun z_ : Int => (readyL ws (orderP ws) (staleL ws rev)).getD z_.toNat 0 == (readyL ws (orderP ws) (staleL ws rev)).getD (Int.toNat i) 0 - (ws.getD (Int.toNat i) default).minutes) ((ws.getD (Int.toNat i) default).of)))) rfl rfl (Sl.ix (α := Int) T34.und T34.size (hs58.to K1) (by omega) (by omega))) <| s_val (x_ld (p := vat u57 1 (Int.toNat (idxP (fun z_ : Int => (readyL ws (orderP ws) (staleL ws rev)).getD z_.toNat 0 == (readyL ws (orderP ws) (staleL ws rev)).getD (Int.toNat i) 0 - (ws.getD (Int.toNat i) default).minutes) ((ws.getD (Int.toNat i) default).of)))) (v := I (((ws.getD (Int.toNat i) default).of).getD (Int.toNat (idxP (fun z_ : Int => (readyL ws (orderP ws) (staleL ws rev)).getD z_.toNat 0 == (readyL ws (orderP ws) (staleL ws rev)).getD (Int.toNat i) 0 - (ws.getD (Int.toNat i) default).minutes) ((ws.getD (Int.toNat i) default).of))) 0)) rfl (ld_sc Sc3 (At.to (Int_at hs58 (i := idxP (fun z_ : Int => (readyL ws (orderP ws) (staleL ws rev)).getD z_.toNat 0 == (readyL ws (orderP ws) (staleL ws rev)).getD (Int.toNat i) 0 - (ws.getD (Int.toNat i) default).minutes) ((ws.getD (Int.toNat i) default).of)) (by omega) (by omega)) K1))) ?_
        refine s_st (b := b40) (off := 0) (vs := [I (((ws.getD (Int.toNat i) default).of).getD (Int.toNat (idxP (fun z_ : Int => (readyL ws (orderP ws) (staleL ws rev)).getD z_.toNat 0 == (readyL ws (orderP ws) (staleL ws rev)).getD (Int.toNat i) 0 - (ws.getD (Int.toNat i) default).minutes) ((ws.getD (Int.toNat i) default).of))) 0)]) (cs' := [I (((ws.getD (Int.toNat i) default).of).getD (Int.toNat (idxP (fun z_ : Int => (readyL ws (orderP ws) (staleL ws rev)).getD z_.toNat 0 == (readyL ws (orderP ws) (staleL ws rev)).getD (Int.toNat i) 0 - (ws.getD (Int.toNat i) default).minutes) ((ws.getD (Int.toNat i) default).of))) 0)]) (v := I (((ws.getD (Int.toNat i) default).of).getD (Int.toNat (idxP (fun z_ : Int => (readyL ws (orderP ws) (staleL ws rev)).getD z_.toNat 0 == (readyL ws (orderP ws) (staleL ws rev)).getD (Int.toNat i) 0 - (ws.getD (Int.toNat i) default).minutes) ((ws.getD (Int.toNat i) default).of))) 0)) rfl rfl Sz3 h_b40 rfl rfl rfl rfl rfl ?_
        intro w59 p60
        replace E := E.put (by omega) p60
        replace z48 := Nat.le_trans z48 (Nat.le_of_eq p60.size.symm)
        replace K1 := K1.put p60 (by omega)
        replace K29 := K29.put p60 (by omega)
        replace h_b2 := p60.get (by omega) h_b2
        replace h_b9 := p60.get (by omega) h_b9
        replace h_b19 := p60.get (by omega) h_b19
        replace h_b30 := p60.get (by omega) h_b30
        replace ho_vo := ho_vo.put p60 n_vo_b40
        replace h_b40 := p60.same
        clear p60
        refine s_nil <| W.region rfl <| s_val (x_mv (v := vo) rfl) <| s_val (x_ld (p := .pointer (some ⟨b40, 0, none⟩)) (v := I (((ws.getD (Int.toNat i) default).of).getD (Int.toNat (idxP (fun z_ : Int => (readyL ws (orderP ws) (staleL ws rev)).getD z_.toNat 0 == (readyL ws (orderP ws) (staleL ws rev)).getD (Int.toNat i) 0 - (ws.getD (Int.toNat i) default).minutes) ((ws.getD (Int.toNat i) default).of))) 0)) rfl (ldb_sc Sc3 h_b40 rfl)) ?_
        refine s_bsl (α := Int) T34 w59.heap.size [I (((ws.getD (Int.toNat i) default).of).getD (Int.toNat (idxP (fun z_ : Int => (readyL ws (orderP ws) (staleL ws rev)).getD z_.toNat 0 == (readyL ws (orderP ws) (staleL ws rev)).getD (Int.toNat i) 0 - (ws.getD (Int.toNat i) default).minutes) ((ws.getD (Int.toNat i) default).of))) 0)] [(((ws.getD (Int.toNat i) default).of).getD (Int.toNat (idxP (fun z_ : Int => (readyL ws (orderP ws) (staleL ws rev)).getD z_.toNat 0 == (readyL ws (orderP ws) (staleL ws rev)).getD (Int.toNat i) 0 - (ws.getD (Int.toNat i) default).minutes) ((ws.getD (Int.toNat i) default).of))) 0 : Int)] rfl (.cons rfl (Flat.rep_enc _ _) <| .nil) (Nat.le_refl _) rfl (by decide) (by decide) ?_
        intro u61 w62 hs63 x64 nn_u61
        replace E := E.trans x64
        replace z48 := Nat.le_trans z48 x64.size
        replace K1 := K1.ext x64
        replace K29 := K29.ext x64
        replace h_b2 := x64.get h_b2
        replace h_b9 := x64.get h_b9
        replace h_b19 := x64.get h_b19
        replace h_b30 := x64.get h_b30
        replace h_b40 := x64.get h_b40
        replace ho_vo := ho_vo.ext x64
        clear x64
        have K65 := KF.refl w59.heap.size w62
        refine s_app (α := Int) (v := vo) (vy := u61) (l := out) (l2 := [(((ws.getD (Int.toNat i) default).of).getD (Int.toNat (idxP (fun z_ : Int => (readyL ws (orderP ws) (staleL ws rev)).getD z_.toNat 0 == (readyL ws (orderP ws) (staleL ws rev)).getD (Int.toNat i) 0 - (ws.getD (Int.toNat i) default).minutes) ((ws.getD (Int.toNat i) default).of))) 0 : Int)]) T34 rfl rfl ho_vo (hs63.to K65) (Cells.Le.refl _) z48 (by first | omega | (simp only [List.length_append, List.length_cons, List.length_nil, List.length_set]; omega)) (by first | omega | (simp only [List.length_append, List.length_cons, List.length_nil, List.length_set]; omega)) ?_
        intro v66 w67 ho68 g69 ne70
        have n_v66_b19 := ne70 b19 (heap_lt h_b19) n_vo_b19
        have n_v66_b2 := ne70 b2 (heap_lt h_b2) n_vo_b2
        have n_v66_b30 := ne70 b30 (heap_lt h_b30) n_vo_b30
        have n_v66_b40 := ne70 b40 (heap_lt h_b40) n_vo_b40
        have n_v66_b9 := ne70 b9 (heap_lt h_b9) n_vo_b9
        replace E := E.grow g69 (by omega)
        replace z48 := Nat.le_trans z48 g69.size
        replace K1 := K1.grow g69 (by omega)
        replace K29 := K29.grow g69 (by omega)
        replace h_b2 := g69.get n_vo_b2 h_b2
        replace h_b9 := g69.get n_vo_b9 h_b9
        replace h_b19 := g69.get n_vo_b19 h_b19
        replace h_b30 := g69.get n_vo_b30 h_b30
        replace h_b40 := g69.get n_vo_b40 h_b40
        clear g69 ne70
        refine s_val (x_as (v := v66) rfl) <| s_nil ?_
        exact ⟨_, (by have := hnx.2.2.2.2.1; omega), nextL ws (readyL ws (orderP ws) (staleL ws rev)) i, (out ++ [nextL ws (readyL ws (orderP ws) (staleL ws rev)) i]), (f - 1), v66, _, upds_of _ _ ⟨rfl, rfl, rfl, rfl, trivial⟩, rfl, E, K1, K29, h_b2, h_b9, h_b19, h_b30, h_b40, z48, ho68, n_v66_b2, n_v66_b9, n_v66_b19, n_v66_b30, n_v66_b40, hnx.2.2.1, hnx.2.2.2.1, (by have := hnx.2.2.2.2.1; omega), (by rw [← longF_step (by have := hnx.2.2.2.2.1; omega) c52]; exact iv0_3), (by have := hnx.2.2.2.2.1; simp only [List.length_append, List.length_singleton]; omega)⟩
       ·simp only [q1, q2, q3, q4, q5, q6, ne_eq, q7] at c52
        refine W.exit ?_
        refine W.seq <| W.region rfl <| s_val (x_mv (v := vo) rfl) ?_
        refine s_call cf104 [vo] rfl (reverse_any ho_vo) ?_
        rintro _ w73 ⟨rfl, ho74, g75⟩
        replace E := E.grow g75 (by omega)
        replace z48 := Nat.le_trans z48 g75.size
        replace K1 := K1.grow g75 (by omega)
        replace K29 := K29.grow g75 (by omega)
        replace h_b2 := g75.get n_vo_b2 h_b2
        replace h_b9 := g75.get n_vo_b9 h_b9
        replace h_b19 := g75.get n_vo_b19 h_b19
        replace h_b30 := g75.get n_vo_b30 h_b30
        replace h_b40 := g75.get n_vo_b40 h_b40
        replace ho_vo := ho74
        clear g75
        refine s_nil <| W.seq <| W.region rfl <| s_val (x_mv (v := vo) rfl) <| s_val (x_as (v := vo) rfl) <| s_val (x_as (v := I 0) rfl) <| s_nil ?_
        refine W.ret ?_
        exact ⟨_, resE_tmp2 rfl, vo, (by rw [(longest_ok h8 c24).1]; rfl), (by have hq := (ho_vo.dn (B' := w.heap.size) (by omega)).sl; rw [(longest_ok h8 c24).2]; unfold longL; rw [← iv0_3, longF_end c52]; exact hq), E⟩
     ·refine s_alloc (cs := [I 0]) Al3 rfl ?_
      intro b76 w77 Nb76
      have o_K1_b76 := Nat.le_trans K1.size Nb76.ge
      have o_K18_b76 := Nat.le_trans K18.size Nb76.ge
      have o_K29_b76 := Nat.le_trans K29.size Nb76.ge
      have o_b76 := Nat.le_trans E.size Nb76.ge
      have o_b2_b76 := Nat.lt_of_lt_of_le (heap_lt h_b2) Nb76.ge
      have o_b9_b76 := Nat.lt_of_lt_of_le (heap_lt h_b9) Nb76.ge
      have o_b19_b76 := Nat.lt_of_lt_of_le (heap_lt h_b19) Nb76.ge
      have o_b30_b76 := Nat.lt_of_lt_of_le (heap_lt h_b30) Nb76.ge
      replace E := E.trans Nb76.ext
      replace K1 := K1.ext Nb76.ext
      replace K18 := K18.ext Nb76.ext
      replace K29 := K29.ext Nb76.ext
      replace h_b2 := Nb76.ext.get h_b2
      replace h_b9 := Nb76.ext.get h_b9
      replace h_b19 := Nb76.ext.get h_b19
      replace h_b30 := Nb76.ext.get h_b30
      have h_b76 := Nb76.same
      clear Nb76
      refine s_nil ⟨⟨E, K1, K18, K29, h_b2, h_b9, h_b19, h_b30⟩, ?_⟩
      refine t_l rfl ?_
      refine s_call cf100 [u27, I (maxT (readyL ws (orderP ws) (staleL ws rev)) (readyL ws (orderP ws) (staleL ws rev)).length)] rfl (index_int (maxT (readyL ws (orderP ws) (staleL ws rev)) (readyL ws (orderP ws) (staleL ws rev)).length) _ (hs28.to K29)) ?_
      rintro _ w78 ⟨rfl, x79⟩
      replace E := E.trans x79
      replace K1 := K1.ext x79
      replace K18 := K18.ext x79
      replace K29 := K29.ext x79
      replace h_b2 := x79.get h_b2
      replace h_b9 := x79.get h_b9
      replace h_b19 := x79.get h_b19
      replace h_b30 := x79.get h_b30
      replace h_b76 := x79.get h_b76
      clear x79
      refine s_nil ⟨⟨E, K1, K18, K29, h_b2, h_b9, h_b19, h_b30⟩, ?_⟩
      refine t_l rfl ?_
      refine s_st (b := b76) (off := 0) (vs := [I (idxI (readyL ws (orderP ws) (staleL ws rev)) (maxT (readyL ws (orderP ws) (staleL ws rev)) (readyL ws (orderP ws) (staleL ws rev)).length))]) (cs' := [I (idxI (readyL ws (orderP ws) (staleL ws rev)) (maxT (readyL ws (orderP ws) (staleL ws rev)) (readyL ws (orderP ws) (staleL ws rev)).length))]) (v := I (idxI (readyL ws (orderP ws) (staleL ws rev)) (maxT (readyL ws (orderP ws) (staleL ws rev)) (readyL ws (orderP ws) (staleL ws rev)).length))) rfl rfl Sz3 h_b76 rfl rfl rfl rfl rfl ?_
      intro w80 p81
      replace E := E.put (by omega) p81
      replace K1 := K1.put p81 (by omega)
      replace K18 := K18.put p81 (by omega)
      replace K29 := K29.put p81 (by omega)
      replace h_b2 := p81.get (by omega) h_b2
      replace h_b9 := p81.get (by omega) h_b9
      replace h_b19 := p81.get (by omega) h_b19
      replace h_b30 := p81.get (by omega) h_b30
      replace h_b76 := p81.same
      clear p81
      refine s_nil ⟨⟨E, K1, K18, K29, h_b2, h_b9, h_b19, h_b30⟩, ?_⟩
      refine t_nil ?_
      refine W.seq <| W.region rfl <| s_val (x_ld (p := .pointer (some ⟨b76, 0, none⟩)) (v := I (idxI (readyL ws (orderP ws) (staleL ws rev)) (maxT (readyL ws (orderP ws) (staleL ws rev)) (readyL ws (orderP ws) (staleL ws rev)).length))) rfl (ldb_sc Sc3 h_b76 rfl)) ?_
      refine s_bs1O (α := Int) T34 ((idxI (readyL ws (orderP ws) (staleL ws rev)) (maxT (readyL ws (orderP ws) (staleL ws rev)) (readyL ws (orderP ws) (staleL ws rev)).length) : Int)) rfl rfl rfl ?_
      intro v82 w83 ho84 x85
      have n_v82_b2 := ho84.ne' (heap_lt h_b2)
      have n_v82_b9 := ho84.ne' (heap_lt h_b9)
      have n_v82_b19 := ho84.ne' (heap_lt h_b19)
      have n_v82_b30 := ho84.ne' (heap_lt h_b30)
      have n_v82_b76 := ho84.ne' (heap_lt h_b76)
      have z86 := Nat.le_refl w80.heap.size
      have B_v82 := E.size
      have B_v82_K1 := K1.size
      have B_v82_K18 := K18.size
      have B_v82_K29 := K29.size
      replace E := E.trans x85
      replace z86 := Nat.le_trans z86 x85.size
      replace K1 := K1.ext x85
      replace K18 := K18.ext x85
      replace K29 := K29.ext x85
      replace h_b2 := x85.get h_b2
      replace h_b9 := x85.get h_b9
      replace h_b19 := x85.get h_b19
      replace h_b30 := x85.get h_b30
      replace h_b76 := x85.get h_b76
      clear x85
      refine s_val (x_as (v := v82) rfl) <| s_nil <| W.seq <| W.block ?_
      refine W.loop (fun m σ W => ∃ (i : Int) (out : List Int) (f : Nat) (vo : Value) (ρ : Env), σ = upds ρ [(2, .pointer (some ⟨b2, 0, none⟩)), (10, .pointer (some ⟨b30, 0, none⟩)), (11, .pointer (some ⟨b76, 0, none⟩)), (12, vo)] ∧ m = f + 1 ∧ Ext w W ∧ KF 0 w W ∧ KF w21.heap.size w25 W ∧ W.heap[b2]? = some (.cells #[vw] 22 (0, 0)) ∧ W.heap[b9]? = some (.cells #[vw] 187 (0, 0)) ∧ W.heap[b19]? = some (.cells (encB (staleL ws rev)).toArray 141 (0, 0)) ∧ W.heap[b30]? = some (.cells #[u27] 34 (0, 0)) ∧ W.heap[b76]? = some (.cells #[I i] 3 (0, 0)) ∧ w80.heap.size ≤ W.heap.size ∧ OwnF w80.heap.size 3 W vo out ∧ vo.ownBlock ≠ some b2 ∧ vo.ownBlock ≠ some b9 ∧ vo.ownBlock ≠ some b19 ∧ vo.ownBlock ≠ some b30 ∧ vo.ownBlock ≠ some b76 ∧ 0 ≤ i ∧ i < (ws.length : Int) ∧ posO ws i ≤ f ∧ longF ws (readyL ws (orderP ws) (staleL ws rev)) f i out = longF ws (readyL ws (orderP ws) (staleL ws rev)) ws.length (lastL (readyL ws (orderP ws) (staleL ws rev))) [lastL (readyL ws (orderP ws) (staleL ws rev))] ∧ out.length + f ≤ ws.length + 1) ?_ ?_
      ·exact ⟨_, lastL (readyL ws (orderP ws) (staleL ws rev)), [lastL (readyL ws (orderP ws) (staleL ws rev))], ws.length, v82, _, upds_of _ _ ⟨rfl, rfl, rfl, rfl, trivial⟩, rfl, E, K1, K29, h_b2, h_b9, h_b19, h_b30, h_b76, z86, ho84, n_v82_b2, n_v82_b9, n_v82_b19, n_v82_b30, n_v82_b76, hla.1, (by have := hla.2.1; omega), (Nat.le_of_lt (posO_le (order_all hO hla.1 (by have := hla.2.1; omega)))), rfl, (by simp; omega)⟩
      ·rintro m σ w87 ⟨i, out, f, vo, ρ, rfl, rfl, E, K1, K29, h_b2, h_b9, h_b19, h_b30, h_b76, z86, ho_vo, n_vo_b2, n_vo_b9, n_vo_b19, n_vo_b30, n_vo_b76, iv0_0, iv0_1, iv0_2, iv0_3, iv0_4⟩
       have hof := right_of hR (i := Int.toNat i) (by omega)
       have hmn := right_nums hR (i := Int.toNat i) (by omega)
       have hai := readyL_at hR (staleL ws rev) (i := Int.toNat i) (by omega)
       refine W.seq <| W.seq ?_
       refine W.draw (fun W => Ext w W ∧ KF 0 w W ∧ KF w21.heap.size w25 W ∧ W.heap[b2]? = some (.cells #[vw] 22 (0, 0)) ∧ W.heap[b9]? = some (.cells #[vw] 187 (0, 0)) ∧ W.heap[b19]? = some (.cells (encB (staleL ws rev)).toArray 141 (0, 0)) ∧ W.heap[b30]? = some (.cells #[u27] 34 (0, 0)) ∧ W.heap[b76]? = some (.cells #[I i] 3 (0, 0)) ∧ OwnF w80.heap.size 3 W vo out) [(0, true), (1, true), (2, true), (3, true), (4, true), (5, true), (6, true), (7, true), (8, true), (9, true)] mixed (by decide +kernel) rfl ?_
       intro w88 x89
       replace E := E.trans x89
       replace z86 := Nat.le_trans z86 x89.size
       replace K1 := K1.ext x89
       replace K29 := K29.ext x89
       replace h_b2 := x89.get h_b2
       replace h_b9 := x89.get h_b9
       replace h_b19 := x89.get h_b19
       replace h_b30 := x89.get h_b30
       replace h_b76 := x89.get h_b76
       replace ho_vo := ho_vo.ext x89
       clear x89
       refine ⟨⟨E, K1, K29, h_b2, h_b9, h_b19, h_b30, h_b76, ho_vo⟩, ?_⟩
       refine d_q rfl (fun w' hC => by obtain ⟨E, K1, K29, h_b2, h_b9, h_b19, h_b30, h_b76, ho_vo⟩ := hC; exact x_ld (p := .pointer (some ⟨b30, 0, none⟩)) (v := u27) rfl (ldb_sc Sc34 h_b30 rfl)) ?_
       refine d_q rfl (fun w' hC => by obtain ⟨E, K1, K29, h_b2, h_b9, h_b19, h_b30, h_b76, ho_vo⟩ := hC; exact x_ld (p := .pointer (some ⟨b76, 0, none⟩)) (v := I i) rfl (ldb_sc Sc3 h_b76 rfl)) ?_
       refine d_q rfl (fun w' hC => by obtain ⟨E, K1, K29, h_b2, h_b9, h_b19, h_b30, h_b76, ho_vo⟩ := hC; exact x_ix (a := u27) (b := I i) (v := vat u27 1 (Int.toNat i)) rfl rfl (Sl.ix (α := Int) T34.und T34.size (hs28.to K29) (by omega) (by omega))) ?_
       refine d_q rfl (fun w' hC => by obtain ⟨E, K1, K29, h_b2, h_b9, h_b19, h_b30, h_b76, ho_vo⟩ := hC; exact x_ld (p := vat u27 1 (Int.toNat i)) (v := I ((readyL ws (orderP ws) (staleL ws rev)).getD (Int.toNat i) 0)) rfl (ld_sc Sc3 (At.to (Int_at hs28 (i := i) (by omega) (by omega)) K29))) ?_
       refine d_q rfl (fun w' hC => by obtain ⟨E, K1, K29, h_b2, h_b9, h_b19, h_b30, h_b76, ho_vo⟩ := hC; exact x_ld (p := .pointer (some ⟨b2, 0, none⟩)) (v := vw) rfl (ldb_sc Sc22 h_b2 rfl)) ?_
       refine d_q rfl (fun w' hC => by obtain ⟨E, K1, K29, h_b2, h_b9, h_b19, h_b30, h_b76, ho_vo⟩ := hC; exact x_ld (p := .pointer (some ⟨b76, 0, none⟩)) (v := I i) rfl (ldb_sc Sc3 h_b76 rfl)) ?_
       refine d_q rfl (fun w' hC => by obtain ⟨E, K1, K29, h_b2, h_b9, h_b19, h_b30, h_b76, ho_vo⟩ := hC; exact x_ix (a := vw) (b := I i) (v := vat vw 3 (Int.toNat i)) rfl rfl (Sl.ix (α := Work) T22.und T22.size (hw.to K1) (by omega) (by omega))) ?_
       refine d_q rfl (fun w' hC => by obtain ⟨E, K1, K29, h_b2, h_b9, h_b19, h_b30, h_b76, ho_vo⟩ := hC; exact x_fa (a := vat vw 3 (Int.toNat i)) (v := fat (vat vw 3 (Int.toNat i)) 2) rfl (fa_pl Fd60_2 Sz3 (Sl.pl (i := i) hw (by omega) (by omega)))) ?_
       refine d_q rfl (fun w' hC => by obtain ⟨E, K1, K29, h_b2, h_b9, h_b19, h_b30, h_b76, ho_vo⟩ := hC; exact x_ld (p := fat (vat vw 3 (Int.toNat i)) 2) (v := I ((ws.getD (Int.toNat i) default).minutes)) rfl (ld_sc Sc3 (At.to (Work_at2 hw (i := i) (by omega) (by omega)) K1))) ?_
       refine d_q rfl (fun w' hC => by obtain ⟨E, K1, K29, h_b2, h_b9, h_b19, h_b30, h_b76, ho_vo⟩ := hC; exact x_cmp (kd := .i64) (a := (readyL ws (orderP ws) (staleL ws rev)).getD (Int.toNat i) 0) (b := (ws.getD (Int.toNat i) default).minutes) (r := decide ((((ws.getD (Int.toNat i) default).minutes) : Int) < ((readyL ws (orderP ws) (staleL ws rev)).getD (Int.toNat i) 0))) rfl rfl rfl) ?_
       refine d_nil ?_
       refine W.cond (decide ((((ws.getD (Int.toNat i) default).minutes) : Int) < ((readyL ws (orderP ws) (staleL ws rev)).getD (Int.toNat i) 0))) rfl (fun c90 => ?_) (fun c90 => ?_)
       ·simp only [q1, q2, q3, q4, q5, q6, ne_eq, q7] at c90
        have hnx := long_next hO iv0_0 iv0_1 c90
        have hnx1 := hnx.1
        have hnx2 := hnx.2.1
        refine W.skip <| W.block <| W.seq <| W.region rfl <| s_val (x_ld (p := .pointer (some ⟨b2, 0, none⟩)) (v := vw) rfl (ldb_sc Sc22 h_b2 rfl)) <| s_val (x_ld (p := .pointer (some ⟨b76, 0, none⟩)) (v := I i) rfl (ldb_sc Sc3 h_b76 rfl)) <| s_val (x_ix (a := vw) (b := I i) (v := vat vw 3 (Int.toNat i)) rfl rfl (Sl.ix (α := Work) T22.und T22.size (hw.to K1) (by omega) (by omega))) <| s_val (x_fa (a := vat vw 3 (Int.toNat i)) (v := fat (vat vw 3 (Int.toNat i)) 0) rfl (fa_pl Fd60_0 Sz34 (Sl.pl (i := i) hw (by omega) (by omega)))) ?_
        obtain ⟨u91, ha_u91, hs92⟩ := Work_at0 hw (i := i) (by omega) (by omega)
        replace hs92 : Sl _ u91 (ws.getD (Int.toNat i) default).of := hs92
        have hl_hs92 := hs92.len_le
        refine s_val (x_ld (p := fat (vat vw 3 (Int.toNat i)) 0) (v := u91) rfl (ld_sc Sc34 (At.to ha_u91 K1))) <| s_val (x_mf (fs := []) (cs := [.pointer (some ⟨b30, 0, none⟩), .pointer (some ⟨b76, 0, none⟩), .pointer (some ⟨b2, 0, none⟩)]) rfl rfl) ?_
        refine s_call cf102 [u91, .func (.func 103) #[] #[.pointer (some ⟨b30, 0, none⟩), .pointer (some ⟨b76, 0, none⟩), .pointer (some ⟨b2, 0, none⟩)]] rfl (indexFunc_int _ (hs92.to K1) ⟨103, [.pointer (some ⟨b30, 0, none⟩), .pointer (some ⟨b76, 0, none⟩), .pointer (some ⟨b2, 0, none⟩)], rfl, cf103, fun w' v x hE hD hA => by obtain rfl := Arg.int hA; exact (longest1 _ _ _ (hE.get h_b30) (hE.get h_b76) (hE.get h_b2) ((hs28.to K29).mono hE.le) ((hw.to K1).mono hE.le) (hof _ hD).1 (by have := (hof _ hD).2.1; omega) iv0_0 (by omega) iv0_1 (by omega))⟩) ?_
        rintro _ w93 ⟨rfl, x94⟩
        replace E := E.trans x94
        replace z86 := Nat.le_trans z86 x94.size
        replace K1 := K1.ext x94
        replace K29 := K29.ext x94
        replace h_b2 := x94.get h_b2
        replace h_b9 := x94.get h_b9
        replace h_b19 := x94.get h_b19
        replace h_b30 := x94.get h_b30
        replace h_b76 := x94.get h_b76
        replace ho_vo := ho_vo.ext x94
        clear x94
        refine s_val (x_as (v := I (idxP (fun z_ : Int => (readyL ws (orderP ws) (staleL ws rev)).getD z_.toNat 0 == (readyL ws (orderP ws) (staleL ws rev)).getD (Int.toNat i) 0 - (ws.getD (Int.toNat i) default).minutes) ((ws.getD (Int.toNat i) default).of))) rfl) <| s_nil <| W.seq <| W.region rfl <| s_val (x_ld (p := .pointer (some ⟨b2, 0, none⟩)) (v := vw) rfl (ldb_sc Sc22 h_b2 rfl)) <| s_val (x_ld (p := .pointer (some ⟨b76, 0, none⟩)) (v := I i) rfl (ldb_sc Sc3 h_b76 rfl)) <| s_val (x_ix (a := vw) (b := I i) (v := vat vw 3 (Int.toNat i)) rfl rfl (Sl.ix (α := Work) T22.und T22.size (hw.to K1) (by omega) (by omega))) <| s_val (x_fa (a := vat vw 3 (Int.toNat i)) (v := fat (vat vw 3 (Int.toNat i)) 0) rfl (fa_pl Fd60_0 Sz34 (Sl.pl (i := i) hw (by omega) (by omega)))) ?_
        obtain ⟨u95, ha_u95, hs96⟩ := Work_at0 hw (i := i) (by omega) (by omega)
        replace hs96 : Sl _ u95 (ws.getD (Int.toNat i) default).of := hs96
        have hl_hs96 := hs96.len_le
        refine s_val (x_ld (p := fat (vat vw 3 (Int.toNat i)) 0) (v := u95) rfl (ld_sc Sc34 (At.to ha_u95 K1))) <| s_val (x_mv (v := I (idxP (fun z_ : Int => (readyL ws (orderP ws) (staleL ws rev)).getD z_.toNat 0 == (readyL ws (orderP ws) (staleL ws rev)).getD (Int.toNat i) 0 - (ws.getD (Int.toNat i) default).minutes) ((ws.getD (Int.toNat i) default).of))) rfl) <| s_val (x_ix (a := u95) (b := I (idxP (fun z_ : Int => (readyL ws (orderP ws) (staleL ws rev)).getD z_.toNat 0 == (readyL ws (orderP ws) (staleL ws rev)).getD (Int.toNat i) 0 - (ws.getD (Int.toNat i) default).minutes) ((ws.getD (Int.toNat i) default).of))) (v := vat u95 1 (Int.toNat (idxP (fun z_ : Int => (readyL ws (orderP ws) (staleL ws rev)).getD z_.toNat 0 == (readyL ws (orderP ws) (staleL ws rev)).getD (Int.toNat i) 0 - (ws.getD (Int.toNat i) default).minutes) ((ws.getD (Int.toNat i) default).of)))) rfl rfl (Sl.ix (α := Int) T34.und T34.size (hs96.to K1) (by omega) (by omega))) <| s_val (x_ld (p := vat u95 1 (Int.toNat (idxP (fun z_ : Int => (readyL ws (orderP ws) (staleL ws rev)).getD z_.toNat 0 == (readyL ws (orderP ws) (staleL ws rev)).getD (Int.toNat i) 0 - (ws.getD (Int.toNat i) default).minutes) ((ws.getD (Int.toNat i) default).of)))) (v := I (((ws.getD (Int.toNat i) default).of).getD (Int.toNat (idxP (fun z_ : Int => (readyL ws (orderP ws) (staleL ws rev)).getD z_.toNat 0 == (readyL ws (orderP ws) (staleL ws rev)).getD (Int.toNat i) 0 - (ws.getD (Int.toNat i) default).minutes) ((ws.getD (Int.toNat i) default).of))) 0)) rfl (ld_sc Sc3 (At.to (Int_at hs96 (i := idxP (fun z_ : Int => (readyL ws (orderP ws) (staleL ws rev)).getD z_.toNat 0 == (readyL ws (orderP ws) (staleL ws rev)).getD (Int.toNat i) 0 - (ws.getD (Int.toNat i) default).minutes) ((ws.getD (Int.toNat i) default).of)) (by omega) (by omega)) K1))) ?_
        refine s_st (b := b76) (off := 0) (vs := [I (((ws.getD (Int.toNat i) default).of).getD (Int.toNat (idxP (fun z_ : Int => (readyL ws (orderP ws) (staleL ws rev)).getD z_.toNat 0 == (readyL ws (orderP ws) (staleL ws rev)).getD (Int.toNat i) 0 - (ws.getD (Int.toNat i) default).minutes) ((ws.getD (Int.toNat i) default).of))) 0)]) (cs' := [I (((ws.getD (Int.toNat i) default).of).getD (Int.toNat (idxP (fun z_ : Int => (readyL ws (orderP ws) (staleL ws rev)).getD z_.toNat 0 == (readyL ws (orderP ws) (staleL ws rev)).getD (Int.toNat i) 0 - (ws.getD (Int.toNat i) default).minutes) ((ws.getD (Int.toNat i) default).of))) 0)]) (v := I (((ws.getD (Int.toNat i) default).of).getD (Int.toNat (idxP (fun z_ : Int => (readyL ws (orderP ws) (staleL ws rev)).getD z_.toNat 0 == (readyL ws (orderP ws) (staleL ws rev)).getD (Int.toNat i) 0 - (ws.getD (Int.toNat i) default).minutes) ((ws.getD (Int.toNat i) default).of))) 0)) rfl rfl Sz3 h_b76 rfl rfl rfl rfl rfl ?_
        intro w97 p98
        replace E := E.put (by omega) p98
        replace z86 := Nat.le_trans z86 (Nat.le_of_eq p98.size.symm)
        replace K1 := K1.put p98 (by omega)
        replace K29 := K29.put p98 (by omega)
        replace h_b2 := p98.get (by omega) h_b2
        replace h_b9 := p98.get (by omega) h_b9
        replace h_b19 := p98.get (by omega) h_b19
        replace h_b30 := p98.get (by omega) h_b30
        replace ho_vo := ho_vo.put p98 n_vo_b76
        replace h_b76 := p98.same
        clear p98
        refine s_nil <| W.region rfl <| s_val (x_mv (v := vo) rfl) <| s_val (x_ld (p := .pointer (some ⟨b76, 0, none⟩)) (v := I (((ws.getD (Int.toNat i) default).of).getD (Int.toNat (idxP (fun z_ : Int => (readyL ws (orderP ws) (staleL ws rev)).getD z_.toNat 0 == (readyL ws (orderP ws) (staleL ws rev)).getD (Int.toNat i) 0 - (ws.getD (Int.toNat i) default).minutes) ((ws.getD (Int.toNat i) default).of))) 0)) rfl (ldb_sc Sc3 h_b76 rfl)) ?_
        refine s_bsl (α := Int) T34 w97.heap.size [I (((ws.getD (Int.toNat i) default).of).getD (Int.toNat (idxP (fun z_ : Int => (readyL ws (orderP ws) (staleL ws rev)).getD z_.toNat 0 == (readyL ws (orderP ws) (staleL ws rev)).getD (Int.toNat i) 0 - (ws.getD (Int.toNat i) default).minutes) ((ws.getD (Int.toNat i) default).of))) 0)] [(((ws.getD (Int.toNat i) default).of).getD (Int.toNat (idxP (fun z_ : Int => (readyL ws (orderP ws) (staleL ws rev)).getD z_.toNat 0 == (readyL ws (orderP ws) (staleL ws rev)).getD (Int.toNat i) 0 - (ws.getD (Int.toNat i) default).minutes) ((ws.getD (Int.toNat i) default).of))) 0 : Int)] rfl (.cons rfl (Flat.rep_enc _ _) <| .nil) (Nat.le_refl _) rfl (by decide) (by decide) ?_
        intro u99 w100 hs101 x102 nn_u99
        replace E := E.trans x102
        replace z86 := Nat.le_trans z86 x102.size
        replace K1 := K1.ext x102
        replace K29 := K29.ext x102
        replace h_b2 := x102.get h_b2
        replace h_b9 := x102.get h_b9
        replace h_b19 := x102.get h_b19
        replace h_b30 := x102.get h_b30
        replace h_b76 := x102.get h_b76
        replace ho_vo := ho_vo.ext x102
        clear x102
        have K103 := KF.refl w97.heap.size w100
        refine s_app (α := Int) (v := vo) (vy := u99) (l := out) (l2 := [(((ws.getD (Int.toNat i) default).of).getD (Int.toNat (idxP (fun z_ : Int => (readyL ws (orderP ws) (staleL ws rev)).getD z_.toNat 0 == (readyL ws (orderP ws) (staleL ws rev)).getD (Int.toNat i) 0 - (ws.getD (Int.toNat i) default).minutes) ((ws.getD (Int.toNat i) default).of))) 0 : Int)]) T34 rfl rfl ho_vo (hs101.to K103) (Cells.Le.refl _) z86 (by first | omega | (simp only [List.length_append, List.length_cons, List.length_nil, List.length_set]; omega)) (by first | omega | (simp only [List.length_append, List.length_cons, List.length_nil, List.length_set]; omega)) ?_
        intro v104 w105 ho106 g107 ne108
        have n_v104_b19 := ne108 b19 (heap_lt h_b19) n_vo_b19
        have n_v104_b2 := ne108 b2 (heap_lt h_b2) n_vo_b2
        have n_v104_b30 := ne108 b30 (heap_lt h_b30) n_vo_b30
        have n_v104_b76 := ne108 b76 (heap_lt h_b76) n_vo_b76
        have n_v104_b9 := ne108 b9 (heap_lt h_b9) n_vo_b9
        replace E := E.grow g107 (by omega)
        replace z86 := Nat.le_trans z86 g107.size
        replace K1 := K1.grow g107 (by omega)
        replace K29 := K29.grow g107 (by omega)
        replace h_b2 := g107.get n_vo_b2 h_b2
        replace h_b9 := g107.get n_vo_b9 h_b9
        replace h_b19 := g107.get n_vo_b19 h_b19
        replace h_b30 := g107.get n_vo_b30 h_b30
        replace h_b76 := g107.get n_vo_b76 h_b76
        clear g107 ne108
        refine s_val (x_as (v := v104) rfl) <| s_nil ?_
        exact ⟨_, (by have := hnx.2.2.2.2.1; omega), nextL ws (readyL ws (orderP ws) (staleL ws rev)) i, (out ++ [nextL ws (readyL ws (orderP ws) (staleL ws rev)) i]), (f - 1), v104, _, upds_of _ _ ⟨rfl, rfl, rfl, rfl, trivial⟩, rfl, E, K1, K29, h_b2, h_b9, h_b19, h_b30, h_b76, z86, ho106, n_v104_b2, n_v104_b9, n_v104_b19, n_v104_b30, n_v104_b76, hnx.2.2.1, hnx.2.2.2.1, (by have := hnx.2.2.2.2.1; omega), (by rw [← longF_step (by have := hnx.2.2.2.2.1; omega) c90]; exact iv0_3), (by have := hnx.2.2.2.2.1; simp only [List.length_append, List.length_singleton]; omega)⟩
       ·simp only [q1, q2, q3, q4, q5, q6, ne_eq, q7] at c90
        refine W.exit ?_
        refine W.seq <| W.region rfl <| s_val (x_mv (v := vo) rfl) ?_
        refine s_call cf104 [vo] rfl (reverse_any ho_vo) ?_
        rintro _ w111 ⟨rfl, ho112, g113⟩
        replace E := E.grow g113 (by omega)
        replace z86 := Nat.le_trans z86 g113.size
        replace K1 := K1.grow g113 (by omega)
        replace K29 := K29.grow g113 (by omega)
        replace h_b2 := g113.get n_vo_b2 h_b2
        replace h_b9 := g113.get n_vo_b9 h_b9
        replace h_b19 := g113.get n_vo_b19 h_b19
        replace h_b30 := g113.get n_vo_b30 h_b30
        replace h_b76 := g113.get n_vo_b76 h_b76
        replace ho_vo := ho112
        clear g113
        refine s_nil <| W.seq <| W.region rfl <| s_val (x_mv (v := vo) rfl) <| s_val (x_as (v := vo) rfl) <| s_val (x_as (v := I 0) rfl) <| s_nil ?_
        refine W.ret ?_
        exact ⟨_, resE_tmp2 rfl, vo, (by rw [(longest_ok h8 c24).1]; rfl), (by have hq := (ho_vo.dn (B' := w.heap.size) (by omega)).sl; rw [(longest_ok h8 c24).2]; unfold longL; rw [← iv0_3, longF_end c90]; exact hq), E⟩
    ·refine s_alloc (cs := [I 0]) Al3 rfl ?_
     intro b114 w115 Nb114
     have o_K1_b114 := Nat.le_trans K1.size Nb114.ge
     have o_K18_b114 := Nat.le_trans K18.size Nb114.ge
     have o_K29_b114 := Nat.le_trans K29.size Nb114.ge
     have o_b114 := Nat.le_trans E.size Nb114.ge
     have o_b2_b114 := Nat.lt_of_lt_of_le (heap_lt h_b2) Nb114.ge
     have o_b9_b114 := Nat.lt_of_lt_of_le (heap_lt h_b9) Nb114.ge
     have o_b19_b114 := Nat.lt_of_lt_of_le (heap_lt h_b19) Nb114.ge
     have o_b30_b114 := Nat.lt_of_lt_of_le (heap_lt h_b30) Nb114.ge
     replace E := E.trans Nb114.ext
     replace K1 := K1.ext Nb114.ext
     replace K18 := K18.ext Nb114.ext
     replace K29 := K29.ext Nb114.ext
     replace h_b2 := Nb114.ext.get h_b2
     replace h_b9 := Nb114.ext.get h_b9
     replace h_b19 := Nb114.ext.get h_b19
     replace h_b30 := Nb114.ext.get h_b30
     have h_b114 := Nb114.same
     clear Nb114
     refine s_nil ⟨⟨E, K1, K18, K29, h_b2, h_b9, h_b19, h_b30⟩, ?_⟩
     refine t_l rfl ?_
     refine s_call cf101 [u27] rfl (max_int _ (hs28.to K29) (by omega)) ?_
     rintro _ w116 ⟨rfl, x117⟩
     replace E := E.trans x117
     replace K1 := K1.ext x117
     replace K18 := K18.ext x117
     replace K29 := K29.ext x117
     replace h_b2 := x117.get h_b2
     replace h_b9 := x117.get h_b9
     replace h_b19 := x117.get h_b19
     replace h_b30 := x117.get h_b30
     replace h_b114 := x117.get h_b114
     clear x117
     refine s_nil ⟨⟨E, K1, K18, K29, h_b2, h_b9, h_b19, h_b30⟩, ?_⟩
     refine t_l rfl ?_
     refine s_call cf100 [u27, I (maxT (readyL ws (orderP ws) (staleL ws rev)) (readyL ws (orderP ws) (staleL ws rev)).length)] rfl (index_int (maxT (readyL ws (orderP ws) (staleL ws rev)) (readyL ws (orderP ws) (staleL ws rev)).length) _ (hs28.to K29)) ?_
     rintro _ w118 ⟨rfl, x119⟩
     replace E := E.trans x119
     replace K1 := K1.ext x119
     replace K18 := K18.ext x119
     replace K29 := K29.ext x119
     replace h_b2 := x119.get h_b2
     replace h_b9 := x119.get h_b9
     replace h_b19 := x119.get h_b19
     replace h_b30 := x119.get h_b30
     replace h_b114 := x119.get h_b114
     clear x119
     refine s_nil ⟨⟨E, K1, K18, K29, h_b2, h_b9, h_b19, h_b30⟩, ?_⟩
     refine t_l rfl ?_
     refine s_st (b := b114) (off := 0) (vs := [I (idxI (readyL ws (orderP ws) (staleL ws rev)) (maxT (readyL ws (orderP ws) (staleL ws rev)) (readyL ws (orderP ws) (staleL ws rev)).length))]) (cs' := [I (idxI (readyL ws (orderP ws) (staleL ws rev)) (maxT (readyL ws (orderP ws) (staleL ws rev)) (readyL ws (orderP ws) (staleL ws rev)).length))]) (v := I (idxI (readyL ws (orderP ws) (staleL ws rev)) (maxT (readyL ws (orderP ws) (staleL ws rev)) (readyL ws (orderP ws) (staleL ws rev)).length))) rfl rfl Sz3 h_b114 rfl rfl rfl rfl rfl ?_
     intro w120 p121
     replace E := E.put (by omega) p121
     replace K1 := K1.put p121 (by omega)
     replace K18 := K18.put p121 (by omega)
     replace K29 := K29.put p121 (by omega)
     replace h_b2 := p121.get (by omega) h_b2
     replace h_b9 := p121.get (by omega) h_b9
     replace h_b19 := p121.get (by omega) h_b19
     replace h_b30 := p121.get (by omega) h_b30
     replace h_b114 := p121.same
     clear p121
     refine s_nil ⟨⟨E, K1, K18, K29, h_b2, h_b9, h_b19, h_b30⟩, ?_⟩
     refine t_nil ?_
     refine W.seq <| W.region rfl <| s_val (x_ld (p := .pointer (some ⟨b114, 0, none⟩)) (v := I (idxI (readyL ws (orderP ws) (staleL ws rev)) (maxT (readyL ws (orderP ws) (staleL ws rev)) (readyL ws (orderP ws) (staleL ws rev)).length))) rfl (ldb_sc Sc3 h_b114 rfl)) ?_
     refine s_bs1O (α := Int) T34 ((idxI (readyL ws (orderP ws) (staleL ws rev)) (maxT (readyL ws (orderP ws) (staleL ws rev)) (readyL ws (orderP ws) (staleL ws rev)).length) : Int)) rfl rfl rfl ?_
     intro v122 w123 ho124 x125
     have n_v122_b2 := ho124.ne' (heap_lt h_b2)
     have n_v122_b9 := ho124.ne' (heap_lt h_b9)
     have n_v122_b19 := ho124.ne' (heap_lt h_b19)
     have n_v122_b30 := ho124.ne' (heap_lt h_b30)
     have n_v122_b114 := ho124.ne' (heap_lt h_b114)
     have z126 := Nat.le_refl w120.heap.size
     have B_v122 := E.size
     have B_v122_K1 := K1.size
     have B_v122_K18 := K18.size
     have B_v122_K29 := K29.size
     replace E := E.trans x125
     replace z126 := Nat.le_trans z126 x125.size
     replace K1 := K1.ext x125
     replace K18 := K18.ext x125
     replace K29 := K29.ext x125
     replace h_b2 := x125.get h_b2
     replace h_b9 := x125.get h_b9
     replace h_b19 := x125.get h_b19
     replace h_b30 := x125.get h_b30
     replace h_b114 := x125.get h_b114
     clear x125
     refine s_val (x_as (v := v122) rfl) <| s_nil <| W.seq <| W.block ?_
     refine W.loop (fun m σ W => ∃ (i : Int) (out : List Int) (f : Nat) (vo : Value) (ρ : Env), σ = upds ρ [(2, .pointer (some ⟨b2, 0, none⟩)), (10, .pointer (some ⟨b30, 0, none⟩)), (11, .pointer (some ⟨b114, 0, none⟩)), (12, vo)] ∧ m = f + 1 ∧ Ext w W ∧ KF 0 w W ∧ KF w21.heap.size w25 W ∧ W.heap[b2]? = some (.cells #[vw] 22 (0, 0)) ∧ W.heap[b9]? = some (.cells #[vw] 187 (0, 0)) ∧ W.heap[b19]? = some (.cells (encB (staleL ws rev)).toArray 141 (0, 0)) ∧ W.heap[b30]? = some (.cells #[u27] 34 (0, 0)) ∧ W.heap[b114]? = some (.cells #[I i] 3 (0, 0)) ∧ w120.heap.size ≤ W.heap.size ∧ OwnF w120.heap.size 3 W vo out ∧ vo.ownBlock ≠ some b2 ∧ vo.ownBlock ≠ some b9 ∧ vo.ownBlock ≠ some b19 ∧ vo.ownBlock ≠ some b30 ∧ vo.ownBlock ≠ some b114 ∧ 0 ≤ i ∧ i < (ws.length : Int) ∧ posO ws i ≤ f ∧ longF ws (readyL ws (orderP ws) (staleL ws rev)) f i out = longF ws (readyL ws (orderP ws) (staleL ws rev)) ws.length (lastL (readyL ws (orderP ws) (staleL ws rev))) [lastL (readyL ws (orderP ws) (staleL ws rev))] ∧ out.length + f ≤ ws.length + 1) ?_ ?_
     ·exact ⟨_, lastL (readyL ws (orderP ws) (staleL ws rev)), [lastL (readyL ws (orderP ws) (staleL ws rev))], ws.length, v122, _, upds_of _ _ ⟨rfl, rfl, rfl, rfl, trivial⟩, rfl, E, K1, K29, h_b2, h_b9, h_b19, h_b30, h_b114, z126, ho124, n_v122_b2, n_v122_b9, n_v122_b19, n_v122_b30, n_v122_b114, hla.1, (by have := hla.2.1; omega), (Nat.le_of_lt (posO_le (order_all hO hla.1 (by have := hla.2.1; omega)))), rfl, (by simp; omega)⟩
     ·rintro m σ w127 ⟨i, out, f, vo, ρ, rfl, rfl, E, K1, K29, h_b2, h_b9, h_b19, h_b30, h_b114, z126, ho_vo, n_vo_b2, n_vo_b9, n_vo_b19, n_vo_b30, n_vo_b114, iv0_0, iv0_1, iv0_2, iv0_3, iv0_4⟩
      have hof := right_of hR (i := Int.toNat i) (by omega)
      have hmn := right_nums hR (i := Int.toNat i) (by omega)
      have hai := readyL_at hR (staleL ws rev) (i := Int.toNat i) (by omega)
      refine W.seq <| W.seq ?_
      refine W.draw (fun W => Ext w W ∧ KF 0 w W ∧ KF w21.heap.size w25 W ∧ W.heap[b2]? = some (.cells #[vw] 22 (0, 0)) ∧ W.heap[b9]? = some (.cells #[vw] 187 (0, 0)) ∧ W.heap[b19]? = some (.cells (encB (staleL ws rev)).toArray 141 (0, 0)) ∧ W.heap[b30]? = some (.cells #[u27] 34 (0, 0)) ∧ W.heap[b114]? = some (.cells #[I i] 3 (0, 0)) ∧ OwnF w120.heap.size 3 W vo out) [(0, true), (1, true), (2, true), (3, true), (4, true), (5, true), (6, true), (7, true), (8, true), (9, true)] mixed (by decide +kernel) rfl ?_
      intro w128 x129
      replace E := E.trans x129
      replace z126 := Nat.le_trans z126 x129.size
      replace K1 := K1.ext x129
      replace K29 := K29.ext x129
      replace h_b2 := x129.get h_b2
      replace h_b9 := x129.get h_b9
      replace h_b19 := x129.get h_b19
      replace h_b30 := x129.get h_b30
      replace h_b114 := x129.get h_b114
      replace ho_vo := ho_vo.ext x129
      clear x129
      refine ⟨⟨E, K1, K29, h_b2, h_b9, h_b19, h_b30, h_b114, ho_vo⟩, ?_⟩
      refine d_q rfl (fun w' hC => by obtain ⟨E, K1, K29, h_b2, h_b9, h_b19, h_b30, h_b114, ho_vo⟩ := hC; exact x_ld (p := .pointer (some ⟨b30, 0, none⟩)) (v := u27) rfl (ldb_sc Sc34 h_b30 rfl)) ?_
      refine d_q rfl (fun w' hC => by obtain ⟨E, K1, K29, h_b2, h_b9, h_b19, h_b30, h_b114, ho_vo⟩ := hC; exact x_ld (p := .pointer (some ⟨b114, 0, none⟩)) (v := I i) rfl (ldb_sc Sc3 h_b114 rfl)) ?_
      refine d_q rfl (fun w' hC => by obtain ⟨E, K1, K29, h_b2, h_b9, h_b19, h_b30, h_b114, ho_vo⟩ := hC; exact x_ix (a := u27) (b := I i) (v := vat u27 1 (Int.toNat i)) rfl rfl (Sl.ix (α := Int) T34.und T34.size (hs28.to K29) (by omega) (by omega))) ?_
      refine d_q rfl (fun w' hC => by obtain ⟨E, K1, K29, h_b2, h_b9, h_b19, h_b30, h_b114, ho_vo⟩ := hC; exact x_ld (p := vat u27 1 (Int.toNat i)) (v := I ((readyL ws (orderP ws) (staleL ws rev)).getD (Int.toNat i) 0)) rfl (ld_sc Sc3 (At.to (Int_at hs28 (i := i) (by omega) (by omega)) K29))) ?_
      refine d_q rfl (fun w' hC => by obtain ⟨E, K1, K29, h_b2, h_b9, h_b19, h_b30, h_b114, ho_vo⟩ := hC; exact x_ld (p := .pointer (some ⟨b2, 0, none⟩)) (v := vw) rfl (ldb_sc Sc22 h_b2 rfl)) ?_
      refine d_q rfl (fun w' hC => by obtain ⟨E, K1, K29, h_b2, h_b9, h_b19, h_b30, h_b114, ho_vo⟩ := hC; exact x_ld (p := .pointer (some ⟨b114, 0, none⟩)) (v := I i) rfl (ldb_sc Sc3 h_b114 rfl)) ?_
      refine d_q rfl (fun w' hC => by obtain ⟨E, K1, K29, h_b2, h_b9, h_b19, h_b30, h_b114, ho_vo⟩ := hC; exact x_ix (a := vw) (b := I i) (v := vat vw 3 (Int.toNat i)) rfl rfl (Sl.ix (α := Work) T22.und T22.size (hw.to K1) (by omega) (by omega))) ?_
      refine d_q rfl (fun w' hC => by obtain ⟨E, K1, K29, h_b2, h_b9, h_b19, h_b30, h_b114, ho_vo⟩ := hC; exact x_fa (a := vat vw 3 (Int.toNat i)) (v := fat (vat vw 3 (Int.toNat i)) 2) rfl (fa_pl Fd60_2 Sz3 (Sl.pl (i := i) hw (by omega) (by omega)))) ?_
      refine d_q rfl (fun w' hC => by obtain ⟨E, K1, K29, h_b2, h_b9, h_b19, h_b30, h_b114, ho_vo⟩ := hC; exact x_ld (p := fat (vat vw 3 (Int.toNat i)) 2) (v := I ((ws.getD (Int.toNat i) default).minutes)) rfl (ld_sc Sc3 (At.to (Work_at2 hw (i := i) (by omega) (by omega)) K1))) ?_
      refine d_q rfl (fun w' hC => by obtain ⟨E, K1, K29, h_b2, h_b9, h_b19, h_b30, h_b114, ho_vo⟩ := hC; exact x_cmp (kd := .i64) (a := (readyL ws (orderP ws) (staleL ws rev)).getD (Int.toNat i) 0) (b := (ws.getD (Int.toNat i) default).minutes) (r := decide ((((ws.getD (Int.toNat i) default).minutes) : Int) < ((readyL ws (orderP ws) (staleL ws rev)).getD (Int.toNat i) 0))) rfl rfl rfl) ?_
      refine d_nil ?_
      refine W.cond (decide ((((ws.getD (Int.toNat i) default).minutes) : Int) < ((readyL ws (orderP ws) (staleL ws rev)).getD (Int.toNat i) 0))) rfl (fun c130 => ?_) (fun c130 => ?_)
      ·simp only [q1, q2, q3, q4, q5, q6, ne_eq, q7] at c130
       have hnx := long_next hO iv0_0 iv0_1 c130
       have hnx1 := hnx.1
       have hnx2 := hnx.2.1
       refine W.skip <| W.block <| W.seq <| W.region rfl <| s_val (x_ld (p := .pointer (some ⟨b2, 0, none⟩)) (v := vw) rfl (ldb_sc Sc22 h_b2 rfl)) <| s_val (x_ld (p := .pointer (some ⟨b114, 0, none⟩)) (v := I i) rfl (ldb_sc Sc3 h_b114 rfl)) <| s_val (x_ix (a := vw) (b := I i) (v := vat vw 3 (Int.toNat i)) rfl rfl (Sl.ix (α := Work) T22.und T22.size (hw.to K1) (by omega) (by omega))) <| s_val (x_fa (a := vat vw 3 (Int.toNat i)) (v := fat (vat vw 3 (Int.toNat i)) 0) rfl (fa_pl Fd60_0 Sz34 (Sl.pl (i := i) hw (by omega) (by omega)))) ?_
       obtain ⟨u131, ha_u131, hs132⟩ := Work_at0 hw (i := i) (by omega) (by omega)
       replace hs132 : Sl _ u131 (ws.getD (Int.toNat i) default).of := hs132
       have hl_hs132 := hs132.len_le
       refine s_val (x_ld (p := fat (vat vw 3 (Int.toNat i)) 0) (v := u131) rfl (ld_sc Sc34 (At.to ha_u131 K1))) <| s_val (x_mf (fs := []) (cs := [.pointer (some ⟨b30, 0, none⟩), .pointer (some ⟨b114, 0, none⟩), .pointer (some ⟨b2, 0, none⟩)]) rfl rfl) ?_
       refine s_call cf102 [u131, .func (.func 103) #[] #[.pointer (some ⟨b30, 0, none⟩), .pointer (some ⟨b114, 0, none⟩), .pointer (some ⟨b2, 0, none⟩)]] rfl (indexFunc_int _ (hs132.to K1) ⟨103, [.pointer (some ⟨b30, 0, none⟩), .pointer (some ⟨b114, 0, none⟩), .pointer (some ⟨b2, 0, none⟩)], rfl, cf103, fun w' v x hE hD hA => by obtain rfl := Arg.int hA; exact (longest1 _ _ _ (hE.get h_b30) (hE.get h_b114) (hE.get h_b2) ((hs28.to K29).mono hE.le) ((hw.to K1).mono hE.le) (hof _ hD).1 (by have := (hof _ hD).2.1; omega) iv0_0 (by omega) iv0_1 (by omega))⟩) ?_
       rintro _ w133 ⟨rfl, x134⟩
       replace E := E.trans x134
       replace z126 := Nat.le_trans z126 x134.size
       replace K1 := K1.ext x134
       replace K29 := K29.ext x134
       replace h_b2 := x134.get h_b2
       replace h_b9 := x134.get h_b9
       replace h_b19 := x134.get h_b19
       replace h_b30 := x134.get h_b30
       replace h_b114 := x134.get h_b114
       replace ho_vo := ho_vo.ext x134
       clear x134
       refine s_val (x_as (v := I (idxP (fun z_ : Int => (readyL ws (orderP ws) (staleL ws rev)).getD z_.toNat 0 == (readyL ws (orderP ws) (staleL ws rev)).getD (Int.toNat i) 0 - (ws.getD (Int.toNat i) default).minutes) ((ws.getD (Int.toNat i) default).of))) rfl) <| s_nil <| W.seq <| W.region rfl <| s_val (x_ld (p := .pointer (some ⟨b2, 0, none⟩)) (v := vw) rfl (ldb_sc Sc22 h_b2 rfl)) <| s_val (x_ld (p := .pointer (some ⟨b114, 0, none⟩)) (v := I i) rfl (ldb_sc Sc3 h_b114 rfl)) <| s_val (x_ix (a := vw) (b := I i) (v := vat vw 3 (Int.toNat i)) rfl rfl (Sl.ix (α := Work) T22.und T22.size (hw.to K1) (by omega) (by omega))) <| s_val (x_fa (a := vat vw 3 (Int.toNat i)) (v := fat (vat vw 3 (Int.toNat i)) 0) rfl (fa_pl Fd60_0 Sz34 (Sl.pl (i := i) hw (by omega) (by omega)))) ?_
       obtain ⟨u135, ha_u135, hs136⟩ := Work_at0 hw (i := i) (by omega) (by omega)
       replace hs136 : Sl _ u135 (ws.getD (Int.toNat i) default).of := hs136
       have hl_hs136 := hs136.len_le
       refine s_val (x_ld (p := fat (vat vw 3 (Int.toNat i)) 0) (v := u135) rfl (ld_sc Sc34 (At.to ha_u135 K1))) <| s_val (x_mv (v := I (idxP (fun z_ : Int => (readyL ws (orderP ws) (staleL ws rev)).getD z_.toNat 0 == (readyL ws (orderP ws) (staleL ws rev)).getD (Int.toNat i) 0 - (ws.getD (Int.toNat i) default).minutes) ((ws.getD (Int.toNat i) default).of))) rfl) <| s_val (x_ix (a := u135) (b := I (idxP (fun z_ : Int => (readyL ws (orderP ws) (staleL ws rev)).getD z_.toNat 0 == (readyL ws (orderP ws) (staleL ws rev)).getD (Int.toNat i) 0 - (ws.getD (Int.toNat i) default).minutes) ((ws.getD (Int.toNat i) default).of))) (v := vat u135 1 (Int.toNat (idxP (fun z_ : Int => (readyL ws (orderP ws) (staleL ws rev)).getD z_.toNat 0 == (readyL ws (orderP ws) (staleL ws rev)).getD (Int.toNat i) 0 - (ws.getD (Int.toNat i) default).minutes) ((ws.getD (Int.toNat i) default).of)))) rfl rfl (Sl.ix (α := Int) T34.und T34.size (hs136.to K1) (by omega) (by omega))) <| s_val (x_ld (p := vat u135 1 (Int.toNat (idxP (fun z_ : Int => (readyL ws (orderP ws) (staleL ws rev)).getD z_.toNat 0 == (readyL ws (orderP ws) (staleL ws rev)).getD (Int.toNat i) 0 - (ws.getD (Int.toNat i) default).minutes) ((ws.getD (Int.toNat i) default).of)))) (v := I (((ws.getD (Int.toNat i) default).of).getD (Int.toNat (idxP (fun z_ : Int => (readyL ws (orderP ws) (staleL ws rev)).getD z_.toNat 0 == (readyL ws (orderP ws) (staleL ws rev)).getD (Int.toNat i) 0 - (ws.getD (Int.toNat i) default).minutes) ((ws.getD (Int.toNat i) default).of))) 0)) rfl (ld_sc Sc3 (At.to (Int_at hs136 (i := idxP (fun z_ : Int => (readyL ws (orderP ws) (staleL ws rev)).getD z_.toNat 0 == (readyL ws (orderP ws) (staleL ws rev)).getD (Int.toNat i) 0 - (ws.getD (Int.toNat i) default).minutes) ((ws.getD (Int.toNat i) default).of)) (by omega) (by omega)) K1))) ?_
       refine s_st (b := b114) (off := 0) (vs := [I (((ws.getD (Int.toNat i) default).of).getD (Int.toNat (idxP (fun z_ : Int => (readyL ws (orderP ws) (staleL ws rev)).getD z_.toNat 0 == (readyL ws (orderP ws) (staleL ws rev)).getD (Int.toNat i) 0 - (ws.getD (Int.toNat i) default).minutes) ((ws.getD (Int.toNat i) default).of))) 0)]) (cs' := [I (((ws.getD (Int.toNat i) default).of).getD (Int.toNat (idxP (fun z_ : Int => (readyL ws (orderP ws) (staleL ws rev)).getD z_.toNat 0 == (readyL ws (orderP ws) (staleL ws rev)).getD (Int.toNat i) 0 - (ws.getD (Int.toNat i) default).minutes) ((ws.getD (Int.toNat i) default).of))) 0)]) (v := I (((ws.getD (Int.toNat i) default).of).getD (Int.toNat (idxP (fun z_ : Int => (readyL ws (orderP ws) (staleL ws rev)).getD z_.toNat 0 == (readyL ws (orderP ws) (staleL ws rev)).getD (Int.toNat i) 0 - (ws.getD (Int.toNat i) default).minutes) ((ws.getD (Int.toNat i) default).of))) 0)) rfl rfl Sz3 h_b114 rfl rfl rfl rfl rfl ?_
       intro w137 p138
       replace E := E.put (by omega) p138
       replace z126 := Nat.le_trans z126 (Nat.le_of_eq p138.size.symm)
       replace K1 := K1.put p138 (by omega)
       replace K29 := K29.put p138 (by omega)
       replace h_b2 := p138.get (by omega) h_b2
       replace h_b9 := p138.get (by omega) h_b9
       replace h_b19 := p138.get (by omega) h_b19
       replace h_b30 := p138.get (by omega) h_b30
       replace ho_vo := ho_vo.put p138 n_vo_b114
       replace h_b114 := p138.same
       clear p138
       refine s_nil <| W.region rfl <| s_val (x_mv (v := vo) rfl) <| s_val (x_ld (p := .pointer (some ⟨b114, 0, none⟩)) (v := I (((ws.getD (Int.toNat i) default).of).getD (Int.toNat (idxP (fun z_ : Int => (readyL ws (orderP ws) (staleL ws rev)).getD z_.toNat 0 == (readyL ws (orderP ws) (staleL ws rev)).getD (Int.toNat i) 0 - (ws.getD (Int.toNat i) default).minutes) ((ws.getD (Int.toNat i) default).of))) 0)) rfl (ldb_sc Sc3 h_b114 rfl)) ?_
       refine s_bsl (α := Int) T34 w137.heap.size [I (((ws.getD (Int.toNat i) default).of).getD (Int.toNat (idxP (fun z_ : Int => (readyL ws (orderP ws) (staleL ws rev)).getD z_.toNat 0 == (readyL ws (orderP ws) (staleL ws rev)).getD (Int.toNat i) 0 - (ws.getD (Int.toNat i) default).minutes) ((ws.getD (Int.toNat i) default).of))) 0)] [(((ws.getD (Int.toNat i) default).of).getD (Int.toNat (idxP (fun z_ : Int => (readyL ws (orderP ws) (staleL ws rev)).getD z_.toNat 0 == (readyL ws (orderP ws) (staleL ws rev)).getD (Int.toNat i) 0 - (ws.getD (Int.toNat i) default).minutes) ((ws.getD (Int.toNat i) default).of))) 0 : Int)] rfl (.cons rfl (Flat.rep_enc _ _) <| .nil) (Nat.le_refl _) rfl (by decide) (by decide) ?_
       intro u139 w140 hs141 x142 nn_u139
       replace E := E.trans x142
       replace z126 := Nat.le_trans z126 x142.size
       replace K1 := K1.ext x142
       replace K29 := K29.ext x142
       replace h_b2 := x142.get h_b2
       replace h_b9 := x142.get h_b9
       replace h_b19 := x142.get h_b19
       replace h_b30 := x142.get h_b30
       replace h_b114 := x142.get h_b114
       replace ho_vo := ho_vo.ext x142
       clear x142
       have K143 := KF.refl w137.heap.size w140
       refine s_app (α := Int) (v := vo) (vy := u139) (l := out) (l2 := [(((ws.getD (Int.toNat i) default).of).getD (Int.toNat (idxP (fun z_ : Int => (readyL ws (orderP ws) (staleL ws rev)).getD z_.toNat 0 == (readyL ws (orderP ws) (staleL ws rev)).getD (Int.toNat i) 0 - (ws.getD (Int.toNat i) default).minutes) ((ws.getD (Int.toNat i) default).of))) 0 : Int)]) T34 rfl rfl ho_vo (hs141.to K143) (Cells.Le.refl _) z126 (by first | omega | (simp only [List.length_append, List.length_cons, List.length_nil, List.length_set]; omega)) (by first | omega | (simp only [List.length_append, List.length_cons, List.length_nil, List.length_set]; omega)) ?_
       intro v144 w145 ho146 g147 ne148
       have n_v144_b114 := ne148 b114 (heap_lt h_b114) n_vo_b114
       have n_v144_b19 := ne148 b19 (heap_lt h_b19) n_vo_b19
       have n_v144_b2 := ne148 b2 (heap_lt h_b2) n_vo_b2
       have n_v144_b30 := ne148 b30 (heap_lt h_b30) n_vo_b30
       have n_v144_b9 := ne148 b9 (heap_lt h_b9) n_vo_b9
       replace E := E.grow g147 (by omega)
       replace z126 := Nat.le_trans z126 g147.size
       replace K1 := K1.grow g147 (by omega)
       replace K29 := K29.grow g147 (by omega)
       replace h_b2 := g147.get n_vo_b2 h_b2
       replace h_b9 := g147.get n_vo_b9 h_b9
       replace h_b19 := g147.get n_vo_b19 h_b19
       replace h_b30 := g147.get n_vo_b30 h_b30
       replace h_b114 := g147.get n_vo_b114 h_b114
       clear g147 ne148
       refine s_val (x_as (v := v144) rfl) <| s_nil ?_
       exact ⟨_, (by have := hnx.2.2.2.2.1; omega), nextL ws (readyL ws (orderP ws) (staleL ws rev)) i, (out ++ [nextL ws (readyL ws (orderP ws) (staleL ws rev)) i]), (f - 1), v144, _, upds_of _ _ ⟨rfl, rfl, rfl, rfl, trivial⟩, rfl, E, K1, K29, h_b2, h_b9, h_b19, h_b30, h_b114, z126, ho146, n_v144_b2, n_v144_b9, n_v144_b19, n_v144_b30, n_v144_b114, hnx.2.2.1, hnx.2.2.2.1, (by have := hnx.2.2.2.2.1; omega), (by rw [← longF_step (by have := hnx.2.2.2.2.1; omega) c130]; exact iv0_3), (by have := hnx.2.2.2.2.1; simp only [List.length_append, List.length_singleton]; omega)⟩
      ·simp only [q1, q2, q3, q4, q5, q6, ne_eq, q7] at c130
       refine W.exit ?_
       refine W.seq <| W.region rfl <| s_val (x_mv (v := vo) rfl) ?_
       refine s_call cf104 [vo] rfl (reverse_any ho_vo) ?_
       rintro _ w151 ⟨rfl, ho152, g153⟩
       replace E := E.grow g153 (by omega)
       replace z126 := Nat.le_trans z126 g153.size
       replace K1 := K1.grow g153 (by omega)
       replace K29 := K29.grow g153 (by omega)
       replace h_b2 := g153.get n_vo_b2 h_b2
       replace h_b9 := g153.get n_vo_b9 h_b9
       replace h_b19 := g153.get n_vo_b19 h_b19
       replace h_b30 := g153.get n_vo_b30 h_b30
       replace h_b114 := g153.get n_vo_b114 h_b114
       replace ho_vo := ho152
       clear g153
       refine s_nil <| W.seq <| W.region rfl <| s_val (x_mv (v := vo) rfl) <| s_val (x_as (v := vo) rfl) <| s_val (x_as (v := I 0) rfl) <| s_nil ?_
       refine W.ret ?_
       exact ⟨_, resE_tmp2 rfl, vo, (by rw [(longest_ok h8 c24).1]; rfl), (by have hq := (ho_vo.dn (B' := w.heap.size) (by omega)).sl; rw [(longest_ok h8 c24).2]; unfold longL; rw [← iv0_3, longF_end c130]; exact hq), E⟩

end Go.Proofs.Ytndobgodeicloaa
namespace Go.Nm
/-- Do two notes contradict each other? -/
def twP (m n : Note) : Bool := ((m.work == n.work) && (m.version == n.version)) && !(decide (m = n))
def twAt (l : List Note) (i : Nat) : Bool := (l.take i).any fun m => twP m (l.getD i default)
def newStep (f : Int → Option Note) (n : Note) : Int → Option Note := if !((f n.work).isSome) || decide (((f n.work).getD default).version < n.version) then updF f n.work n else f
/-- The newest note of each work. -/
def newF (l : List Note) : Int → Option Note := l.foldl newStep fun _ => none
theorem newF_next (l : List Note) {i : Nat} (h : (i : Int) < l.length) : newF (l.take (i + 1)) = newStep (newF (l.take i)) (l.getD i default) := by
  unfold newF
  rw [take_succ_getD l (by omega) default, List.foldl_append]; rfl
def sumV (out : List Int) (base : Int) (of : List Int) : Nat → Int
  | 0 => base
  | j + 1 => sumV out base of j + ((j : Int) + 1) * out.getD (of.getD j 0).toNat 0
def noteV (f : Int → Option Note) (out : List Int) (i : Int) : List Int := if (f i).isSome then out.set i.toNat ((f i).getD default).value else out
def valStep (ws : List Work) (f : Int → Option Note) (out : List Int) (i : Int) : List Int :=
  if (((ws.getD i.toNat default).of.length : Int) == 0) || !((ws.getD i.toNat default).of.all fun k => (noteV f out i).getD k.toNat 0 != -1) then noteV f out i
  else (noteV f out i).set i.toNat (sumV (noteV f out i) (ws.getD i.toNat default).base (ws.getD i.toNat default).of (ws.getD i.toNat default).of.length % 1000003)
def valF (ws : List Work) (f : Int → Option Note) (l out : List Int) : List Int := l.foldl (valStep ws f) out
def valL (ws : List Work) (l : List Note) : List Int := valF ws (newF l) (orderP ws) (List.replicate ws.length (-1))
theorem valF_next (ws : List Work) (f : Int → Option Note) (l out : List Int) {k : Nat} (h : (k : Int) < l.length) : valF ws f (l.take (k + 1)) out = valStep ws f (valF ws f (l.take k) out) (l.getD k 0) := by
  unfold valF
  rw [take_succ_getD l (by omega) 0, List.foldl_append]; rfl
def argB (ws : List Work) (l : List Note) : Bool := l.all fun n => inB n.work 0 ((ws.length : Int) - 1) && (((ws.getD n.work.toNat default).of.length : Int) == 0)
def rngB (l : List Note) : Bool := l.all fun n => inB n.version 0 1000000 && inB n.value 0 1000002
/-- The error of works and notes. -/
def valuesE (ws : List Work) (l : List Note) : Int :=
  if openedE ws ≠ 0 then openedE ws else if 200 < (l.length : Int) then 3 else if !(argB ws l) then 2 else if !(rngB l) then 4 else if (List.range l.length).any (twAt l) then 10 else 0
/-- The values of works, if there is no error. -/
def valuesR (ws : List Work) (l : List Note) : List Int := if valuesE ws l = 0 then valL ws l else []
end Go.Nm
namespace Go.Nm
theorem tw_step {l : List Note} {n : Note} {j : Nat} (h : (l.take j).any (fun m => twP m n) = false) (hj : (j : Int) < l.length) (c : twP (l.getD j default) n = false) : (l.take (j + 1)).any (fun m => twP m n) = false := by
  rw [any_take_succ (fun m => twP m n) l (by omega) default, h, c]; rfl
theorem tw_end {l : List Note} {i j : Nat} (hb : (List.range i).any (twAt l) = false) (h : ((l.take i).take j).any (fun m => twP m (l.getD i default)) = false) (hj : ¬ (j : Int) < (l.take i).length) : (List.range (i + 1)).any (twAt l) = false := by
  rw [List.take_of_length_le (by omega)] at h
  rw [any_range_succ, hb]
  exact h
theorem tw_yes {l : List Note} {i j : Nat} (hi : (i : Int) < l.length) (hj : (j : Int) < (l.take i).length) (c : twP ((l.take i).getD j default) (l.getD i default) = true) : (List.range l.length).any (twAt l) = true := by
  refine List.any_eq_true.2 ⟨i, List.mem_range.2 (by omega), List.any_eq_true.2 ⟨_, getD_memN _ hj default, c⟩⟩
theorem v_wrong {ws : List Work} {l : List Note} (h : openedE ws ≠ 0) : valuesE ws l = openedE ws ∧ valuesR ws l = [] := by
  have : valuesE ws l = openedE ws := by unfold valuesE; rw [if_pos h]
  exact ⟨this, by unfold valuesR; rw [this, if_neg h]⟩
theorem v_err {ws : List Work} {l : List Note} {e : Int} (h : valuesE ws l = e) (he : e ≠ 0) : valuesR ws l = [] := by unfold valuesR; rw [h, if_neg he]
theorem v_many {ws : List Work} {l : List Note} (h : openedE ws = 0) (c : 200 < (l.length : Int)) : valuesE ws l = 3 := by unfold valuesE; rw [if_neg (by simp [h]), if_pos c]
theorem v_arg {ws : List Work} {l : List Note} (h : openedE ws = 0) (c : ¬ 200 < (l.length : Int)) (c2 : (!(argB ws l)) = true) : valuesE ws l = 2 := by unfold valuesE; rw [if_neg (by simp [h]), if_neg c, if_pos c2]
theorem v_rng {ws : List Work} {l : List Note} (h : openedE ws = 0) (c : ¬ 200 < (l.length : Int)) (c2 : (!(argB ws l)) = false) (c3 : (!(rngB l)) = true) : valuesE ws l = 4 := by
  unfold valuesE; rw [if_neg (by simp [h]), if_neg c, if_neg (by simp [c2]), if_pos c3]
theorem v_twice {ws : List Work} {l : List Note} (h : openedE ws = 0) (c : ¬ 200 < (l.length : Int)) (c2 : (!(argB ws l)) = false) (c3 : (!(rngB l)) = false) (c4 : (List.range l.length).any (twAt l) = true) : valuesE ws l = 10 := by
  unfold valuesE; rw [if_neg (by simp [h]), if_neg c, if_neg (by simp [c2]), if_neg (by simp [c3]), if_pos c4]
theorem v_ok {ws : List Work} {l : List Note} {i : Nat} (h : openedE ws = 0) (c : ¬ 200 < (l.length : Int)) (c2 : (!(argB ws l)) = false) (c3 : (!(rngB l)) = false) (hi : ¬ (i : Int) < l.length) (hle : i ≤ l.length) (c4 : (List.range i).any (twAt l) = false) :
    valuesE ws l = 0 ∧ valuesR ws l = valL ws l := by
  obtain rfl : i = l.length := by omega
  have : valuesE ws l = 0 := by unfold valuesE; rw [if_neg (by simp [h]), if_neg c, if_neg (by simp [c2]), if_neg (by simp [c3]), if_neg (by simp [c4])]
  exact ⟨this, by unfold valuesR; rw [this, if_pos rfl]⟩
theorem newStep_yes {f : Int → Option Note} {n : Note} (c : (!((f n.work).isSome) || decide (((f n.work).getD default).version < n.version)) = true) : newStep f n = updF f n.work n := by unfold newStep; rw [if_pos c]
theorem newStep_no {f : Int → Option Note} {n : Note} (c : (!((f n.work).isSome) || decide (((f n.work).getD default).version < n.version)) = false) : newStep f n = f := by unfold newStep; rw [if_neg (by rw [c]; decide)]
theorem newF_memA : ∀ (l : List Note) (f : Int → Option Note) (k : Int) (n : Note), l.foldl newStep f k = some n → f k = some n ∨ n ∈ l
  | [], _, _, _, h => .inl h
  | m :: l, f, k, n, h => by
    simp only [List.foldl_cons] at h
    rcases newF_memA l (newStep f m) k n h with h1 | h1
    · unfold newStep at h1
      split at h1
      · unfold updF at h1
        split at h1
        · injection h1 with h1; subst h1; exact .inr (by simp)
        · exact .inl h1
      · exact .inl h1
    · exact .inr (by simp [h1])
theorem newF_mem {l : List Note} {k : Int} {n : Note} (h : newF l k = some n) : n ∈ l := by
  rcases newF_memA l _ k n h with h1 | h1
  · cases h1
  · exact h1
theorem newF_val {l : List Note} (c3 : (!(rngB l)) = false) (i : Nat) (k : Int) (h : (newF (l.take i) k).isSome = true) : 0 ≤ ((newF (l.take i) k).getD default).value ∧ ((newF (l.take i) k).getD default).value ≤ 1000002 := by
  obtain ⟨n, hn⟩ := Option.isSome_iff_exists.1 h
  have hm := List.mem_of_mem_take (newF_mem hn)
  rw [hn]
  simp only [Bool.not_eq_false'] at c3
  have := List.all_eq_true.1 c3 n hm
  simp [inB] at this
  simp only [Option.getD_some]
  omega
theorem noteV_yes {f : Int → Option Note} {R : List Int} {i : Int} (h : (f i).isSome = true) : noteV f R i = R.set i.toNat ((f i).getD default).value := by unfold noteV; rw [if_pos h]
theorem noteV_no {f : Int → Option Note} {R : List Int} {i : Int} (h : (f i).isSome = false) : noteV f R i = R := by unfold noteV; rw [if_neg (by simp [h])]
theorem val_skip {ws : List Work} {f : Int → Option Note} {R O : List Int} {i : Int} (hO : noteV f R i = O)
    (c : (((((ws.getD i.toNat default).of.length : Int) == 0)) || !((ws.getD i.toNat default).of.all fun k => O.getD k.toNat 0 != -1)) = true) : valStep ws f R i = O := by
  unfold valStep; rw [hO, if_pos c]
theorem val_set {ws : List Work} {f : Int → Option Note} {R O : List Int} {i : Int} (hO : noteV f R i = O)
    (c : (((((ws.getD i.toNat default).of.length : Int) == 0)) || !((ws.getD i.toNat default).of.all fun k => O.getD k.toNat 0 != -1)) = false) {j : Nat} (hj : ¬ (j : Int) < (ws.getD i.toNat default).of.length) (hle : j ≤ (ws.getD i.toNat default).of.length) :
    valStep ws f R i = O.set i.toNat (sumV O (ws.getD i.toNat default).base (ws.getD i.toNat default).of j % 1000003) := by
  obtain rfl : j = (ws.getD i.toNat default).of.length := by omega
  unfold valStep; rw [hO, if_neg (by simp only [c]; simp)]
theorem noteV_len (f : Int → Option Note) (R : List Int) (i : Int) : (noteV f R i).length = R.length := by unfold noteV; split <;> simp
theorem valStep_len (ws : List Work) (f : Int → Option Note) (R : List Int) (i : Int) : (valStep ws f R i).length = R.length := by
  unfold valStep; split <;> simp [noteV_len]
theorem valF_len (ws : List Work) (f : Int → Option Note) : ∀ (l out : List Int), (valF ws f l out).length = out.length
  | [], _ => rfl
  | i :: l, out => (valF_len ws f l _).trans (valStep_len ws f out i)
def VB (l : List Int) : Prop := ∀ y ∈ l, -1 ≤ y ∧ y ≤ 1000002
theorem VB.set {l : List Int} (h : VB l) {v : Int} (h1 : -1 ≤ v) (h2 : v ≤ 1000002) (k : Nat) : VB (l.set k v) := by
  intro y hy
  rcases List.mem_or_eq_of_mem_set hy with h3 | h3
  · exact h y h3
  · omega
theorem VB.at {l : List Int} (h : VB l) {k : Nat} (hk : (k : Int) < l.length) : -1 ≤ l.getD k 0 ∧ l.getD k 0 ≤ 1000002 := h _ (getD_memN l hk 0)
theorem valStep_VB {ws : List Work} {f : Int → Option Note} (hf : ∀ k, (f k).isSome = true → 0 ≤ ((f k).getD default).value ∧ ((f k).getD default).value ≤ 1000002) {R : List Int} (h : VB R) (i : Int) : VB (valStep ws f R i) := by
  have hn : VB (noteV f R i) := by
    unfold noteV
    split
    · rename_i h1
      have := hf i h1
      exact h.set (by omega) (by omega) _
    · exact h
  unfold valStep
  split
  · exact hn
  · exact hn.set (by have := Int.emod_nonneg (sumV (noteV f R i) (ws.getD i.toNat default).base (ws.getD i.toNat default).of (ws.getD i.toNat default).of.length) (show (1000003 : Int) ≠ 0 by decide); omega)
      (by have := Int.emod_lt_of_pos (sumV (noteV f R i) (ws.getD i.toNat default).base (ws.getD i.toNat default).of (ws.getD i.toNat default).of.length) (show (0 : Int) < 1000003 by decide); omega) _
theorem valF_VB {ws : List Work} {f : Int → Option Note} (hf : ∀ k, (f k).isSome = true → 0 ≤ ((f k).getD default).value ∧ ((f k).getD default).value ≤ 1000002) : ∀ (l : List Int) {R : List Int}, VB R → VB (valF ws f l R)
  | [], _, h => h
  | i :: l, _, h => valF_VB hf l (valStep_VB hf h i)
theorem prod_b {a b : Int} (h1 : 0 ≤ a) (h2 : a ≤ 5) (h3 : 0 ≤ b) (h4 : b ≤ 1000002) : 0 ≤ a * b ∧ a * b ≤ 5000010 :=
  ⟨Int.mul_nonneg h1 h3, by have := Int.mul_le_mul h2 h4 h3 (show (0 : Int) ≤ 5 by decide); omega⟩
theorem sumV_b {out : List Int} {base : Int} {of : List Int} (hb : 0 ≤ base ∧ base ≤ 1000002) (h5 : of.length ≤ 5) (hof : ∀ k ∈ of, 0 ≤ out.getD k.toNat 0 ∧ out.getD k.toNat 0 ≤ 1000002) : ∀ j : Nat, j ≤ of.length → 0 ≤ sumV out base of j ∧ sumV out base of j ≤ 1000002 + 5000010 * (j : Int)
  | 0, _ => by simp only [sumV]; omega
  | j + 1, hj => by
    have ih := sumV_b hb h5 hof j (by omega)
    have hm := hof _ (getD_memN of (i := j) (by omega) 0)
    have := prod_b (a := (j : Int) + 1) (by omega) (by omega) hm.1 hm.2
    simp only [sumV]
    omega
theorem known_vals {O of : List Int} {len0 : Bool} (c : (len0 || !(of.all fun k => O.getD k.toNat 0 != -1)) = false) (hO : VB O) (hr : ∀ k ∈ of, 0 ≤ k ∧ k < (O.length : Int)) : ∀ k ∈ of, 0 ≤ O.getD k.toNat 0 ∧ O.getD k.toNat 0 ≤ 1000002 := by
  intro k hk
  simp only [Bool.or_eq_false_iff, Bool.not_eq_false'] at c
  have h1 := List.all_eq_true.1 c.2 k hk
  have h2 := hO.at (k := k.toNat) (by have := hr k hk; omega)
  have h3 : O.getD k.toNat 0 ≠ -1 := by simpa [-List.getD_eq_getElem?_getD] using h1
  omega
end Go.Nm
