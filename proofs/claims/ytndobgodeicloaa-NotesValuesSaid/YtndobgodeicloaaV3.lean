/- Part 3 of the texts on which the proof rests. Conditions: none. -/
import Derived.RangeFuncRecord
import Derived.Test.YtndobgodeicloaaV2
set_option linter.unusedVariables false
set_option linter.unusedSimpArgs false
set_option linter.unusedSectionVars false
namespace Go.Proofs.Ytndobgodeicloaa
open Go Go.Nm
set_option maxRecDepth 100000 in
theorem values1 {b : Nat} {vw : Value} {ws : List Work} (x : Note) (w : World) (h_b : w.heap[b]? = some (.cells #[vw] 22 (0, 0))) (hw : Sl w.cell? vw ws) : Ret Try.prog 83 #[.agg #[I x.work, I x.version, I x.value], .pointer (some ⟨b, 0, none⟩)] w fun v w' => v = B (inB x.work 0 ((ws.length : Int) - 1) && (((ws.getD x.work.toNat default).of.length : Int) == 0)) ∧ Ext w w' := by
 refine ret_of_W Try.func83 rfl rfl rfl ?_
 have E := Ext.refl w
 have K1 := KF.refl 0 w
 have hl_hw := hw.len_le
 have hw := hw.par
 refine W.seq <| W.region rfl ?_
 refine s_box (v := .agg #[I x.work, I x.version, I x.value]) (cs := [I x.work, I x.version, I x.value]) rfl rfl ?_
 intro b2 w3 Nb2
 have o_K1_b2 := Nat.le_trans K1.size Nb2.ge
 have o_b2 := Nat.le_trans E.size Nb2.ge
 have o_b_b2 := Nat.lt_of_lt_of_le (heap_lt h_b) Nb2.ge
 replace E := E.trans Nb2.ext
 replace K1 := K1.ext Nb2.ext
 replace h_b := Nb2.ext.get h_b
 have h_b2 := Nb2.same
 clear Nb2
 refine s_val (x_as (v := B false) rfl) <| s_nil <| W.seq <| W.region rfl <| s_val (x_fa (a := .pointer (some ⟨b2, 0, none⟩)) (v := .pointer (some ⟨b2, 0, none⟩)) rfl (fa_blk (o := 0) Fd30_0 Sz3)) <| s_val (x_ld (p := .pointer (some ⟨b2, 0, none⟩)) (v := I x.work) rfl (ldb_sc Sc3 h_b2 rfl)) <| s_val (x_ld (p := .pointer (some ⟨b, 0, none⟩)) (v := vw) rfl (ldb_sc Sc22 h_b rfl)) <| s_val (x_lenS T22.und rfl (hw.to K1)) ?_
 refine s_val (x_ari (a := ws.length) (b := 1) (r := ws.length - 1) rfl rfl rfl (by omega)) ?_
 refine s_call cf84 [I x.work, I 0, I (ws.length - 1)] rfl (in_any _ _ _ _) ?_
 rintro _ w4 ⟨rfl, x5⟩
 replace E := E.trans x5
 replace K1 := K1.ext x5
 replace h_b := x5.get h_b
 replace h_b2 := x5.get h_b2
 clear x5
 refine s_val (x_mv (v := B (inB x.work 0 (ws.length - 1))) rfl) <| g_val (inB x.work 0 (ws.length - 1)) (gy_t rfl) (fun hg => x_ld (p := .pointer (some ⟨b, 0, none⟩)) (v := vw) rfl (ldb_sc Sc22 h_b rfl)) <| g_val (inB x.work 0 (ws.length - 1)) (gy_t rfl) (fun hg => x_fa (a := .pointer (some ⟨b2, 0, none⟩)) (v := .pointer (some ⟨b2, 0, none⟩)) rfl (fa_blk (o := 0) Fd30_0 Sz3)) <| g_val (inB x.work 0 (ws.length - 1)) (gy_t rfl) (fun hg => x_ld (p := .pointer (some ⟨b2, 0, none⟩)) (v := I x.work) (gd_of (c := inB x.work 0 (ws.length - 1)) hg (.pointer (some ⟨b2, 0, none⟩))) (ldb_sc Sc3 h_b2 rfl)) <| g_val (inB x.work 0 (ws.length - 1)) (gy_t rfl) (fun hg => x_ix (a := vw) (b := I x.work) (v := vat vw 3 (Int.toNat x.work)) (gd_of (c := inB x.work 0 (ws.length - 1)) hg (vw)) (gd_of (c := inB x.work 0 (ws.length - 1)) hg (I x.work)) (Sl.ix (α := Work) T22.und T22.size (hw.to K1) (by first | omega | (simp at hg; omega) | (simp [inB] at hg; omega)) (by first | omega | (simp at hg; omega) | (simp [inB] at hg; omega)))) <| g_val (inB x.work 0 (ws.length - 1)) (gy_t rfl) (fun hg => x_fa (a := vat vw 3 (Int.toNat x.work)) (v := fat (vat vw 3 (Int.toNat x.work)) 0) (gd_of (c := inB x.work 0 (ws.length - 1)) hg (vat vw 3 (Int.toNat x.work))) (fa_pl Fd60_0 Sz34 (Sl.pl (i := x.work) hw (by first | omega | (simp at hg; omega) | (simp [inB] at hg; omega)) (by first | omega | (simp at hg; omega) | (simp [inB] at hg; omega))))) ?_
 obtain ⟨u6, ha_u6, hs7⟩ := gd_ex (c := inB x.work 0 (ws.length - 1)) fun hg => Work_at0 hw (i := x.work) (by first | omega | (simp at hg; omega) | (simp [inB] at hg; omega)) (by first | omega | (simp at hg; omega) | (simp [inB] at hg; omega))
 replace hs7 : (inB x.work 0 (ws.length - 1)) = true → Sl _ u6 (ws.getD (Int.toNat x.work) default).of := hs7
 refine g_val (inB x.work 0 (ws.length - 1)) (gy_t rfl) (fun hg => x_ld (p := fat (vat vw 3 (Int.toNat x.work)) 0) (v := u6) (gd_of (c := inB x.work 0 (ws.length - 1)) hg (fat (vat vw 3 (Int.toNat x.work)) 0)) (ld_sc Sc34 (At.to (ha_u6 hg) K1))) <| g_val (inB x.work 0 (ws.length - 1)) (gy_t rfl) (fun hg => x_lenS T34.und (gd_of (c := inB x.work 0 (ws.length - 1)) hg (u6)) ((hs7 hg).to K1)) <| g_val (inB x.work 0 (ws.length - 1)) (gy_t rfl) (fun hg => x_cmp (kd := .i64) (a := ((ws.getD (Int.toNat x.work) default).of).length) (b := 0) (r := ((((ws.getD (Int.toNat x.work) default).of).length) : Int) == 0) (gd_of (c := inB x.work 0 (ws.length - 1)) hg (I (((ws.getD (Int.toNat x.work) default).of).length))) rfl rfl) <| s_val (x_pand (b := inB x.work 0 (ws.length - 1)) (r := ((((ws.getD (Int.toNat x.work) default).of).length) : Int) == 0) rfl (fun hb => gd_of (c := inB x.work 0 (ws.length - 1)) (by simp_all) (B (((((ws.getD (Int.toNat x.work) default).of).length) : Int) == 0))) rfl) <| s_val (x_as (v := B (((inB x.work 0 (ws.length - 1)) && (((((ws.getD (Int.toNat x.work) default).of).length) : Int) == 0)))) rfl) <| s_nil ?_
 refine W.ret ?_
 exact ⟨_, resE_tmp rfl, rfl, E⟩

set_option maxRecDepth 100000 in
theorem values2 (x : Note) (w : World)  : Ret Try.prog 85 #[.agg #[I x.work, I x.version, I x.value]] w fun v w' => v = B (inB x.version 0 1000000 && inB x.value 0 1000002) ∧ Ext w w' := by
 refine ret_of_W Try.func85 rfl rfl rfl ?_
 have E := Ext.refl w
 have K1 := KF.refl 0 w
 refine W.seq <| W.region rfl ?_
 refine s_box (v := .agg #[I x.work, I x.version, I x.value]) (cs := [I x.work, I x.version, I x.value]) rfl rfl ?_
 intro b2 w3 Nb2
 have o_K1_b2 := Nat.le_trans K1.size Nb2.ge
 have o_b2 := Nat.le_trans E.size Nb2.ge
 replace E := E.trans Nb2.ext
 replace K1 := K1.ext Nb2.ext
 have h_b2 := Nb2.same
 clear Nb2
 refine s_val (x_as (v := B false) rfl) <| s_nil <| W.seq <| W.region rfl <| s_val (x_fa (a := .pointer (some ⟨b2, 0, none⟩)) (v := .pointer (some ⟨b2, 1, none⟩)) rfl (fa_blk (o := 0) Fd30_1 Sz3)) <| s_val (x_ld (p := .pointer (some ⟨b2, 1, none⟩)) (v := I x.version) rfl (ldb_sc Sc3 h_b2 rfl)) ?_
 refine s_call cf84 [I x.version, I 0, I 1000000] rfl (in_any _ _ _ _) ?_
 rintro _ w4 ⟨rfl, x5⟩
 replace E := E.trans x5
 replace K1 := K1.ext x5
 replace h_b2 := x5.get h_b2
 clear x5
 refine s_val (x_mv (v := B (inB x.version 0 1000000)) rfl) <| g_val (inB x.version 0 1000000) (gy_t rfl) (fun hg => x_fa (a := .pointer (some ⟨b2, 0, none⟩)) (v := .pointer (some ⟨b2, 2, none⟩)) rfl (fa_blk (o := 0) Fd30_2 Sz3)) <| g_val (inB x.version 0 1000000) (gy_t rfl) (fun hg => x_ld (p := .pointer (some ⟨b2, 2, none⟩)) (v := I x.value) (gd_of (c := inB x.version 0 1000000) hg (.pointer (some ⟨b2, 2, none⟩))) (ldb_sc Sc3 h_b2 rfl)) ?_
 refine g_call (inB x.version 0 1000000) (gy_t rfl) cf84 (B (inB x.value 0 1000002)) (fun _ => [I x.value, I 0, I 1000002]) (fun hg => lst3 (gd_of (c := inB x.version 0 1000000) hg (I x.value)) rfl rfl) (fun hg => (in_any _ _ _ _)) ?_
 intro w6 x7
 replace E := E.trans x7
 replace K1 := K1.ext x7
 replace h_b2 := x7.get h_b2
 clear x7
 refine s_val (x_pand (b := inB x.version 0 1000000) (r := inB x.value 0 1000002) rfl (fun hb => gd_of (c := inB x.version 0 1000000) (by simp_all) (B (inB x.value 0 1000002))) rfl) <| s_val (x_as (v := B (((inB x.version 0 1000000) && (inB x.value 0 1000002)))) rfl) <| s_nil ?_
 refine W.ret ?_
 exact ⟨_, resE_tmp rfl, rfl, E⟩

set_option maxRecDepth 100000 in
theorem values3 {b : Nat} {vo : Value} {out : List Int} (x : Int) (w : World) (h_b : w.heap[b]? = some (.cells #[vo] 34 (0, 0))) (ho : Sl w.cell? vo out) (h0 : 0 ≤ x) (h1 : x < out.length) : Ret Try.prog 88 #[I x, .pointer (some ⟨b, 0, none⟩)] w fun v w' => v = B (out.getD (Int.toNat x) 0 != -1) ∧ Ext w w' := by
 refine ret_of_W Try.func88 rfl rfl rfl ?_
 have E := Ext.refl w
 have K1 := KF.refl 0 w
 have hl_ho := ho.len_le
 have ho := ho.par
 refine W.seq <| W.region rfl <| s_val (x_as (v := B false) rfl) <| s_nil <| W.seq <| W.region rfl <| s_val (x_ld (p := .pointer (some ⟨b, 0, none⟩)) (v := vo) rfl (ldb_sc Sc34 h_b rfl)) <| s_val (x_mv (v := I x) rfl) ?_
 refine s_val (x_ix (a := vo) (b := I x) (v := vat vo 1 (Int.toNat x)) rfl rfl (Sl.ix (α := Int) T34.und T34.size (ho.to K1) (by omega) (by omega))) <| s_val (x_ld (p := vat vo 1 (Int.toNat x)) (v := I (out.getD (Int.toNat x) 0)) rfl (ld_sc Sc3 (At.to (Int_at ho (i := x) (by omega) (by omega)) K1))) <| s_val (x_cmp (kd := .i64) (a := out.getD (Int.toNat x) 0) (b := -1) (r := ((out.getD (Int.toNat x) 0) : Int) != (-1)) rfl rfl rfl) <| s_val (x_as (v := B (((out.getD (Int.toNat x) 0) : Int) != (-1))) rfl) <| s_nil ?_
 refine W.ret ?_
 exact ⟨_, resE_tmp rfl, rfl, E⟩

set_option maxRecDepth 100000 in
set_option maxHeartbeats 4000000 in
theorem Values_any {vw vl : Value} {ws : List Work} {l : List Note} (w : World) (hw : Sl w.cell? vw ws) (hl : Sl w.cell? vl l) : Ret Try.prog 21 #[vw, vl] w fun v w' => ∃ u, v = .tuple #[u, I (valuesE ws l)] ∧ Sl (frm w' w.heap.size) u (valuesR ws l) ∧ Ext w w' := by
 refine ret_of_W Try.func21 rfl rfl rfl ?_
 have E := Ext.refl w
 have K1 := KF.refl 0 w
 have hl_hw := hw.len_le
 have hw := hw.par
 have hl_hl := hl.len_le
 have hl := hl.par
 refine W.seq <| W.region rfl ?_
 refine s_box (v := vw) (cs := [vw]) rfl (Sl.cells (hw.to K1)) ?_
 intro b2 w3 Nb2
 have o_K1_b2 := Nat.le_trans K1.size Nb2.ge
 have o_b2 := Nat.le_trans E.size Nb2.ge
 replace E := E.trans Nb2.ext
 replace K1 := K1.ext Nb2.ext
 have h_b2 := Nb2.same
 clear Nb2
 refine s_val (x_as (v := .slice none 0 0) rfl) <| s_val (x_as (v := I 0) rfl) <| s_nil <| W.seq <| W.region rfl <| s_val (x_ld (p := .pointer (some ⟨b2, 0, none⟩)) (v := vw) rfl (ldb_sc Sc22 h_b2 rfl)) ?_
 refine s_call cf81 [vw] rfl (opened_any _ (hw.to K1)) ?_
 rintro _ w4 (⟨h6, rfl, x7⟩ | ⟨h8, b9, so10, rfl, n11, hs12⟩)
 ·replace E := E.trans x7
  replace K1 := K1.ext x7
  replace h_b2 := x7.get h_b2
  refine s_val (x_mv (v := .tuple #[.pointer none, .slice none 0 0, I (openedE ws)]) rfl) <| s_val (x_ext (vs := [.pointer none, .slice none 0 0, I (openedE ws)]) (v := .pointer none) rfl rfl) <| s_val (x_ext (vs := [.pointer none, .slice none 0 0, I (openedE ws)]) (v := .slice none 0 0) rfl rfl) <| s_val (x_ext (vs := [.pointer none, .slice none 0 0, I (openedE ws)]) (v := I (openedE ws)) rfl rfl) <| s_val (x_as (v := .pointer none) rfl) <| s_val (x_as (v := .slice none 0 0) rfl) <| s_val (x_as (v := I (openedE ws)) rfl) <| s_nil ?_
  refine W.seq <| W.block <| W.seq <| W.region rfl <| s_val (x_mv (v := I (openedE ws)) rfl) <| s_val (x_cmp (kd := .i64) (a := openedE ws) (b := 0) (r := (openedE ws : Int) != 0) rfl rfl rfl) <| s_val (x_as (v := B ((openedE ws : Int) != 0)) rfl) <| s_nil ?_
  refine W.cond ((openedE ws : Int) != 0) rfl (fun c13 => ?_) (fun c13 => ?_)
  ·simp only [q1, q2, q3, q4, q5, q6, ne_eq, q7] at c13
   refine W.seq <| W.region rfl <| s_val (x_mv (v := I (openedE ws)) rfl) <| s_val (x_as (v := .slice none 0 0) rfl) <| s_val (x_as (v := I (openedE ws)) rfl) <| s_nil ?_
   refine W.ret ?_
   exact ⟨_, resE_tmp2 rfl, .slice none 0 0, (by rw [(v_wrong h6).1]; rfl), (by rw [(v_wrong h6).2]; exact Sl.nil _), E⟩
  ·simp only [q1, q2, q3, q4, q5, q6, ne_eq, q7] at c13
   exact absurd c13 h6
 ·have hO := h8
  have hR := opened_right hO
  have hn30 := (right_len hR).2
  have hn1 := (right_len hR).1
  have sz_w4 := E.size
  have lt_b2_w4 := heap_lt h_b2
  have o_K1_b9 := Nat.le_trans K1.size n11.ge
  have o_b9 := Nat.le_trans E.size n11.ge
  have o_b2_b9 := Nat.lt_of_lt_of_le (heap_lt h_b2) n11.ge
  replace E := E.trans n11.ext
  replace K1 := K1.ext n11.ext
  replace h_b2 := n11.ext.get h_b2
  have h_b9 := n11.same
  clear n11
  have hl_hs12 := hs12.len_le
  have K14 := KF.refl w3.heap.size w4
  refine s_val (x_mv (v := .tuple #[.pointer (some ⟨b9, 0, none⟩), so10, I 0]) rfl) <| s_val (x_ext (vs := [.pointer (some ⟨b9, 0, none⟩), so10, I 0]) (v := .pointer (some ⟨b9, 0, none⟩)) rfl rfl) <| s_val (x_ext (vs := [.pointer (some ⟨b9, 0, none⟩), so10, I 0]) (v := so10) rfl rfl) <| s_val (x_ext (vs := [.pointer (some ⟨b9, 0, none⟩), so10, I 0]) (v := I 0) rfl rfl) <| s_val (x_as (v := .pointer (some ⟨b9, 0, none⟩)) rfl) <| s_val (x_as (v := so10) rfl) <| s_val (x_as (v := I 0) rfl) <| s_nil ?_
  refine W.seq <| W.block <| W.seq <| W.region rfl <| s_val (x_mv (v := I 0) rfl) <| s_val (x_cmp (kd := .i64) (a := 0) (b := 0) (r := (0 : Int) != 0) rfl rfl rfl) <| s_val (x_as (v := B ((0 : Int) != 0)) rfl) <| s_nil ?_
  refine W.cond ((0 : Int) != 0) rfl (fun c15 => ?_) (fun c15 => ?_)
  ·simp only [q1, q2, q3, q4, q5, q6, ne_eq, q7] at c15
   exact absurd c15 (by decide)
  ·simp only [q1, q2, q3, q4, q5, q6, ne_eq, q7] at c15
   refine W.seq <| W.region rfl <| s_val (x_mv (v := vl) rfl) <| s_val (x_lenS T23.und rfl (hl.to K1)) <| s_val (x_cmp (kd := .i64) (a := l.length) (b := 200) (r := decide ((200 : Int) < l.length)) rfl rfl rfl) <| s_val (x_as (v := B (decide ((200 : Int) < l.length))) rfl) <| s_nil ?_
   refine W.cond (decide ((200 : Int) < l.length)) rfl (fun c16 => ?_) (fun c16 => ?_)
   ·simp only [q1, q2, q3, q4, q5, q6, ne_eq, q7] at c16
    refine W.seq <| W.region rfl <| s_val (x_as (v := .slice none 0 0) rfl) <| s_val (x_as (v := I 3) rfl) <| s_nil ?_
    refine W.ret ?_
    exact ⟨_, resE_tmp2 rfl, .slice none 0 0, (by rw [v_many hO c16]; rfl), (by rw [v_err (v_many hO c16) (by decide)]; exact Sl.nil _), E⟩
   ·simp only [q1, q2, q3, q4, q5, q6, ne_eq, q7] at c16
    refine W.seq <| W.region rfl <| s_val (x_mf (fs := []) (cs := [.pointer (some ⟨b2, 0, none⟩)]) rfl rfl) <| s_val (x_mv (v := vl) rfl) ?_
    refine s_call cf82 [.func (.func 83) #[] #[.pointer (some ⟨b2, 0, none⟩)], vl] rfl (every_Note _ (hl.to K1) ⟨83, [.pointer (some ⟨b2, 0, none⟩)], rfl, cf83, fun w' v x hE hD hA => by obtain rfl := Note_arg hA; exact (values1 _ _ (hE.get h_b2) ((hw.to K1).mono hE.le))⟩) ?_
    rintro _ w17 ⟨rfl, x18⟩
    replace E := E.trans x18
    replace K1 := K1.ext x18
    replace K14 := K14.ext x18
    replace h_b2 := x18.get h_b2
    replace h_b9 := x18.get h_b9
    clear x18
    refine s_val (x_not (b := l.all (fun x : Note => inB x.work 0 ((ws.length : Int) - 1) && (((ws.getD x.work.toNat default).of.length : Int) == 0))) rfl) <| s_val (x_as (v := B (!(l.all (fun x : Note => inB x.work 0 ((ws.length : Int) - 1) && (((ws.getD x.work.toNat default).of.length : Int) == 0))))) rfl) <| s_nil ?_
    refine W.cond (!(l.all (fun x : Note => inB x.work 0 ((ws.length : Int) - 1) && (((ws.getD x.work.toNat default).of.length : Int) == 0)))) rfl (fun c19 => ?_) (fun c19 => ?_)
    ·skip
     refine W.seq <| W.region rfl <| s_val (x_as (v := .slice none 0 0) rfl) <| s_val (x_as (v := I 2) rfl) <| s_nil ?_
     refine W.ret ?_
     exact ⟨_, resE_tmp2 rfl, .slice none 0 0, (by rw [v_arg hO c16 c19]; rfl), (by rw [v_err (v_arg hO c16 c19) (by decide)]; exact Sl.nil _), E⟩
    ·skip
     refine W.seq <| W.region rfl <| s_val (x_mv (v := vl) rfl) ?_
     refine s_call cf82 [.func (.func 85) #[] #[], vl] rfl (every_Note _ (hl.to K1) ⟨85, [], rfl, cf85, fun w' v x hE hD hA => by obtain rfl := Note_arg hA; exact (values2 _ _)⟩) ?_
     rintro _ w20 ⟨rfl, x21⟩
     replace E := E.trans x21
     replace K1 := K1.ext x21
     replace K14 := K14.ext x21
     replace h_b2 := x21.get h_b2
     replace h_b9 := x21.get h_b9
     clear x21
     refine s_val (x_not (b := l.all (fun x : Note => inB x.version 0 1000000 && inB x.value 0 1000002)) rfl) <| s_val (x_as (v := B (!(l.all (fun x : Note => inB x.version 0 1000000 && inB x.value 0 1000002)))) rfl) <| s_nil ?_
     refine W.cond (!(l.all (fun x : Note => inB x.version 0 1000000 && inB x.value 0 1000002))) rfl (fun c22 => ?_) (fun c22 => ?_)
     ·skip
      refine W.seq <| W.region rfl <| s_val (x_as (v := .slice none 0 0) rfl) <| s_val (x_as (v := I 4) rfl) <| s_nil ?_
      refine W.ret ?_
      exact ⟨_, resE_tmp2 rfl, .slice none 0 0, (by rw [v_rng hO c16 c19 c22]; rfl), (by rw [v_err (v_rng hO c16 c19 c22) (by decide)]; exact Sl.nil _), E⟩
     ·skip
      refine W.skip <| W.seq <| W.region rfl ?_
      refine s_mkmap ?_
      intro b23 w24 Nb23
      have o_K1_b23 := Nat.le_trans K1.size Nb23.ge
      have o_K14_b23 := Nat.le_trans K14.size Nb23.ge
      have o_b23 := Nat.le_trans E.size Nb23.ge
      have o_b2_b23 := Nat.lt_of_lt_of_le (heap_lt h_b2) Nb23.ge
      have o_b9_b23 := Nat.lt_of_lt_of_le (heap_lt h_b9) Nb23.ge
      replace E := E.trans Nb23.ext
      replace K1 := K1.ext Nb23.ext
      replace K14 := K14.ext Nb23.ext
      replace h_b2 := Nb23.ext.get h_b2
      replace h_b9 := Nb23.ext.get h_b9
      have h_b23 := Nb23.same
      clear Nb23
      have m_b23 := MapR.nil (κ := Int) (ν := Note) I encN 0
      refine s_val (x_as (v := .map (some b23)) rfl) <| s_nil <| W.seq <| W.seq <| W.region rfl <| s_val (x_mv (v := vl) rfl) <| s_val (x_lenS T23.und rfl (hl.to K1)) <| s_val (x_mv (v := I 0) rfl) ?_
      refine s_nil <| W.block ?_
      refine W.loop (fun m σ W => ∃ (i : Nat)  (es_b23 : Array MapEntry) (ck_b23 : Nat) (ρ : Env), σ = upds ρ [(1, vl), (2, .pointer (some ⟨b2, 0, none⟩)), (7, so10), (9, .map (some b23)), (48, vl), (49, I l.length), (50, I i)] ∧ m = l.length - i ∧ Ext w W ∧ KF 0 w W ∧ KF w3.heap.size w4 W ∧ W.heap[b2]? = some (.cells #[vw] 22 (0, 0)) ∧ W.heap[b9]? = some (.cells #[vw] 187 (0, 0)) ∧ W.heap[b23]? = some (.map es_b23 ck_b23) ∧ MapR I encN es_b23 ck_b23 (newF (l.take i)) ∧ i ≤ l.length ∧ (List.range i).any (twAt l) = false) ?_ ?_
      ·exact ⟨_, 0, #[], 0, _, upds_of _ _ ⟨rfl, rfl, rfl, rfl, rfl, rfl, (eqI (by omega)), trivial⟩, rfl, E, K1, K14, h_b2, h_b9, h_b23, m_b23, (Nat.zero_le _), rfl⟩
      ·rintro m σ w25 ⟨i, es_b23, ck_b23, ρ, rfl, rfl, E, K1, K14, h_b2, h_b9, h_b23, m_b23, iv0_0, iv0_1⟩
       refine W.seq <| W.region rfl <| s_val (x_cmp (kd := .i64) (a := i) (b := l.length) (r := decide ((i : Int) < l.length)) rfl rfl rfl) <| s_nil <| W.seq ?_
       refine W.cond (decide ((i : Int) < l.length)) rfl (fun c26 => ?_) (fun c26 => ?_)
       ·simp only [q1, q2, q3, q4, q5, q6, ne_eq, q7] at c26
        refine W.skip <| W.seq <| W.block <| W.seq <| W.region rfl <| s_val (x_mv (v := I i) rfl) <| s_val (x_ix (a := vl) (b := I i) (v := vat vl 3 (Int.toNat i)) rfl rfl (Sl.ix (α := Note) T23.und T23.size (hl.to K1) (by omega) (by omega))) <| s_val (x_ld (p := vat vl 3 (Int.toNat i)) (v := .agg #[I ((l.getD i default).work), I ((l.getD i default).version), I ((l.getD i default).value)]) rfl (ld_ag Ag30 Sz30 (At.to (Note_atA hl (i := i) (by omega) (by omega)) K1))) ?_
        refine s_alloc (cs := [I 0, I 0, I 0]) Al30 rfl ?_
        intro b27 w28 Nb27
        have o_K1_b27 := Nat.le_trans K1.size Nb27.ge
        have o_K14_b27 := Nat.le_trans K14.size Nb27.ge
        have o_b27 := Nat.le_trans E.size Nb27.ge
        have o_b2_b27 := Nat.lt_of_lt_of_le (heap_lt h_b2) Nb27.ge
        have o_b9_b27 := Nat.lt_of_lt_of_le (heap_lt h_b9) Nb27.ge
        have o_b23_b27 := Nat.lt_of_lt_of_le (heap_lt h_b23) Nb27.ge
        replace E := E.trans Nb27.ext
        replace K1 := K1.ext Nb27.ext
        replace K14 := K14.ext Nb27.ext
        replace h_b2 := Nb27.ext.get h_b2
        replace h_b9 := Nb27.ext.get h_b9
        replace h_b23 := Nb27.ext.get h_b23
        have h_b27 := Nb27.same
        clear Nb27
        refine s_val (x_as (v := I i) rfl) ?_
        refine s_st (b := b27) (off := 0) (vs := [I ((l.getD i default).work), I ((l.getD i default).version), I ((l.getD i default).value)]) (cs' := [I ((l.getD i default).work), I ((l.getD i default).version), I ((l.getD i default).value)]) (v := .agg #[I ((l.getD i default).work), I ((l.getD i default).version), I ((l.getD i default).value)]) rfl rfl Sz30 h_b27 rfl rfl rfl rfl rfl ?_
        intro w29 p30
        replace E := E.put (by omega) p30
        replace K1 := K1.put p30 (by omega)
        replace K14 := K14.put p30 (by omega)
        replace h_b2 := p30.get (by omega) h_b2
        replace h_b9 := p30.get (by omega) h_b9
        replace h_b23 := p30.get (by omega) h_b23
        replace h_b27 := p30.same
        clear p30
        refine s_nil <| W.seq <| W.seq <| W.region rfl <| s_val (x_mv (v := vl) rfl) <| s_val (x_mv (v := I i) rfl) ?_
        obtain ⟨u31, hr_u31, hs32⟩ := sl_hi T23.und T23.size hl (j := i) (by omega) (by omega)
        replace hs32 : Sl _ u31 (l.take i) := hs32
        refine s_val (x_sl (v := vl) (u := u31) (lo' := none) (hi' := some (I i)) (mx' := none) rfl rfl rfl rfl (hr_u31 _)) <| s_val (x_lenS T23.und rfl (hs32.to K1)) <| s_val (x_mv (v := I 0) rfl) <| s_nil <| W.block ?_
        refine W.loop (fun m σ W => ∃ (j : Nat) (ρ : Env), σ = upds ρ [(1, vl), (2, .pointer (some ⟨b2, 0, none⟩)), (7, so10), (9, .map (some b23)), (11, .pointer (some ⟨b27, 0, none⟩)), (48, vl), (49, I l.length), (50, I i), (57, u31), (58, I ((l.take i).length)), (59, I j)] ∧ m = (l.take i).length - j ∧ Ext w W ∧ KF 0 w W ∧ KF w3.heap.size w4 W ∧ W.heap[b2]? = some (.cells #[vw] 22 (0, 0)) ∧ W.heap[b9]? = some (.cells #[vw] 187 (0, 0)) ∧ W.heap[b23]? = some (.map es_b23 ck_b23) ∧ W.heap[b27]? = some (.cells #[I ((l.getD i default).work), I ((l.getD i default).version), I ((l.getD i default).value)] 30 (0, 0)) ∧ j ≤ (l.take i).length ∧ ((l.take i).take j).any (fun m => twP m (l.getD i default)) = false) ?_ ?_
        ·exact ⟨_, 0, _, upds_of _ _ ⟨rfl, rfl, rfl, rfl, rfl, rfl, rfl, rfl, rfl, rfl, (eqI (by omega)), trivial⟩, rfl, E, K1, K14, h_b2, h_b9, h_b23, h_b27, (Nat.zero_le _), rfl⟩
        ·rintro m σ w33 ⟨j, ρ, rfl, rfl, E, K1, K14, h_b2, h_b9, h_b23, h_b27, iv1_0, iv1_1⟩
         have htl : (l.take i).length ≤ l.length := by rw [List.length_take]; omega
         refine W.seq <| W.region rfl <| s_val (x_cmp (kd := .i64) (a := j) (b := (l.take i).length) (r := decide ((j : Int) < ((l.take i).length))) rfl rfl rfl) <| s_nil <| W.seq ?_
         refine W.cond (decide ((j : Int) < ((l.take i).length))) rfl (fun c34 => ?_) (fun c34 => ?_)
         ·simp only [q1, q2, q3, q4, q5, q6, ne_eq, q7] at c34
          refine W.skip <| W.seq <| W.block <| W.seq <| W.region rfl <| s_val (x_ix (a := u31) (b := I j) (v := vat u31 3 (Int.toNat j)) rfl rfl (Sl.ix (α := Note) T23.und T23.size (hs32.to K1) (by omega) (by omega))) <| s_val (x_ld (p := vat u31 3 (Int.toNat j)) (v := .agg #[I (((l.take i).getD j default).work), I (((l.take i).getD j default).version), I (((l.take i).getD j default).value)]) rfl (ld_ag Ag30 Sz30 (At.to (Note_atA hs32 (i := j) (by omega) (by omega)) K1))) ?_
          refine s_alloc (cs := [I 0, I 0, I 0]) Al30 rfl ?_
          intro b35 w36 Nb35
          have o_K1_b35 := Nat.le_trans K1.size Nb35.ge
          have o_K14_b35 := Nat.le_trans K14.size Nb35.ge
          have o_b35 := Nat.le_trans E.size Nb35.ge
          have o_b2_b35 := Nat.lt_of_lt_of_le (heap_lt h_b2) Nb35.ge
          have o_b9_b35 := Nat.lt_of_lt_of_le (heap_lt h_b9) Nb35.ge
          have o_b23_b35 := Nat.lt_of_lt_of_le (heap_lt h_b23) Nb35.ge
          have o_b27_b35 := Nat.lt_of_lt_of_le (heap_lt h_b27) Nb35.ge
          replace E := E.trans Nb35.ext
          replace K1 := K1.ext Nb35.ext
          replace K14 := K14.ext Nb35.ext
          replace h_b2 := Nb35.ext.get h_b2
          replace h_b9 := Nb35.ext.get h_b9
          replace h_b23 := Nb35.ext.get h_b23
          replace h_b27 := Nb35.ext.get h_b27
          have h_b35 := Nb35.same
          clear Nb35
          refine s_st (b := b35) (off := 0) (vs := [I (((l.take i).getD j default).work), I (((l.take i).getD j default).version), I (((l.take i).getD j default).value)]) (cs' := [I (((l.take i).getD j default).work), I (((l.take i).getD j default).version), I (((l.take i).getD j default).value)]) (v := .agg #[I (((l.take i).getD j default).work), I (((l.take i).getD j default).version), I (((l.take i).getD j default).value)]) rfl rfl Sz30 h_b35 rfl rfl rfl rfl rfl ?_
          intro w37 p38
          replace E := E.put (by omega) p38
          replace K1 := K1.put p38 (by omega)
          replace K14 := K14.put p38 (by omega)
          replace h_b2 := p38.get (by omega) h_b2
          replace h_b9 := p38.get (by omega) h_b9
          replace h_b23 := p38.get (by omega) h_b23
          replace h_b27 := p38.get (by omega) h_b27
          replace h_b35 := p38.same
          clear p38
          refine s_nil <| W.seq <| W.region rfl <| s_val (x_fa (a := .pointer (some ⟨b35, 0, none⟩)) (v := .pointer (some ⟨b35, 0, none⟩)) rfl (fa_blk (o := 0) Fd30_0 Sz3)) <| s_val (x_ld (p := .pointer (some ⟨b35, 0, none⟩)) (v := I (((l.take i).getD j default).work)) rfl (ldb_sc Sc3 h_b35 rfl)) <| s_val (x_fa (a := .pointer (some ⟨b27, 0, none⟩)) (v := .pointer (some ⟨b27, 0, none⟩)) rfl (fa_blk (o := 0) Fd30_0 Sz3)) <| s_val (x_ld (p := .pointer (some ⟨b27, 0, none⟩)) (v := I ((l.getD i default).work)) rfl (ldb_sc Sc3 h_b27 rfl)) <| s_val (x_cmp (kd := .i64) (a := ((l.take i).getD j default).work) (b := (l.getD i default).work) (r := ((((l.take i).getD j default).work) : Int) == ((l.getD i default).work)) rfl rfl rfl) ?_
          refine s_val (x_mv (v := B (((((l.take i).getD j default).work) : Int) == ((l.getD i default).work))) rfl) <| g_val (((((l.take i).getD j default).work) : Int) == ((l.getD i default).work)) (gy_t rfl) (fun hg => x_fa (a := .pointer (some ⟨b35, 0, none⟩)) (v := .pointer (some ⟨b35, 1, none⟩)) rfl (fa_blk (o := 0) Fd30_1 Sz3)) <| g_val (((((l.take i).getD j default).work) : Int) == ((l.getD i default).work)) (gy_t rfl) (fun hg => x_ld (p := .pointer (some ⟨b35, 1, none⟩)) (v := I (((l.take i).getD j default).version)) (gd_of (c := ((((l.take i).getD j default).work) : Int) == ((l.getD i default).work)) hg (.pointer (some ⟨b35, 1, none⟩))) (ldb_sc Sc3 h_b35 rfl)) <| g_val (((((l.take i).getD j default).work) : Int) == ((l.getD i default).work)) (gy_t rfl) (fun hg => x_fa (a := .pointer (some ⟨b27, 0, none⟩)) (v := .pointer (some ⟨b27, 1, none⟩)) rfl (fa_blk (o := 0) Fd30_1 Sz3)) <| g_val (((((l.take i).getD j default).work) : Int) == ((l.getD i default).work)) (gy_t rfl) (fun hg => x_ld (p := .pointer (some ⟨b27, 1, none⟩)) (v := I ((l.getD i default).version)) (gd_of (c := ((((l.take i).getD j default).work) : Int) == ((l.getD i default).work)) hg (.pointer (some ⟨b27, 1, none⟩))) (ldb_sc Sc3 h_b27 rfl)) <| g_val (((((l.take i).getD j default).work) : Int) == ((l.getD i default).work)) (gy_t rfl) (fun hg => x_cmp (kd := .i64) (a := ((l.take i).getD j default).version) (b := (l.getD i default).version) (r := ((((l.take i).getD j default).version) : Int) == ((l.getD i default).version)) (gd_of (c := ((((l.take i).getD j default).work) : Int) == ((l.getD i default).work)) hg (I (((l.take i).getD j default).version))) (gd_of (c := ((((l.take i).getD j default).work) : Int) == ((l.getD i default).work)) hg (I ((l.getD i default).version))) rfl) <| s_val (x_pand (b := ((((l.take i).getD j default).work) : Int) == ((l.getD i default).work)) (r := ((((l.take i).getD j default).version) : Int) == ((l.getD i default).version)) rfl (fun hb => gd_of (c := ((((l.take i).getD j default).work) : Int) == ((l.getD i default).work)) (by simp_all) (B (((((l.take i).getD j default).version) : Int) == ((l.getD i default).version)))) rfl) <| s_val (x_mv (v := B (((((((l.take i).getD j default).work) : Int) == ((l.getD i default).work)) && (((((l.take i).getD j default).version) : Int) == ((l.getD i default).version))))) rfl) ?_
          refine g_val (((((((l.take i).getD j default).work) : Int) == ((l.getD i default).work)) && (((((l.take i).getD j default).version) : Int) == ((l.getD i default).version)))) (gy_t rfl) (fun hg => x_ld (p := .pointer (some ⟨b35, 0, none⟩)) (v := .agg #[I (((l.take i).getD j default).work), I (((l.take i).getD j default).version), I (((l.take i).getD j default).value)]) rfl (ldb_ag (ds := [I (((l.take i).getD j default).work), I (((l.take i).getD j default).version), I (((l.take i).getD j default).value)]) Ag30 Sz30 h_b35 rfl rfl)) <| g_val (((((((l.take i).getD j default).work) : Int) == ((l.getD i default).work)) && (((((l.take i).getD j default).version) : Int) == ((l.getD i default).version)))) (gy_t rfl) (fun hg => x_ld (p := .pointer (some ⟨b27, 0, none⟩)) (v := .agg #[I ((l.getD i default).work), I ((l.getD i default).version), I ((l.getD i default).value)]) rfl (ldb_ag (ds := [I ((l.getD i default).work), I ((l.getD i default).version), I ((l.getD i default).value)]) Ag30 Sz30 h_b27 rfl rfl)) <| g_val (((((((l.take i).getD j default).work) : Int) == ((l.getD i default).work)) && (((((l.take i).getD j default).version) : Int) == ((l.getD i default).version)))) (gy_t rfl) (fun hg => x_neS (eqN (((l.take i).getD j default)) ((l.getD i default)) _) gdN (gd_of (c := ((((((l.take i).getD j default).work) : Int) == ((l.getD i default).work)) && (((((l.take i).getD j default).version) : Int) == ((l.getD i default).version)))) hg (.agg #[I (((l.take i).getD j default).work), I (((l.take i).getD j default).version), I (((l.take i).getD j default).value)])) (gd_of (c := ((((((l.take i).getD j default).work) : Int) == ((l.getD i default).work)) && (((((l.take i).getD j default).version) : Int) == ((l.getD i default).version)))) hg (.agg #[I ((l.getD i default).work), I ((l.getD i default).version), I ((l.getD i default).value)]))) <| s_val (x_pand (b := ((((((l.take i).getD j default).work) : Int) == ((l.getD i default).work)) && (((((l.take i).getD j default).version) : Int) == ((l.getD i default).version)))) (r := !(decide (((l.take i).getD j default) = (l.getD i default)))) rfl (fun hb => gd_of (c := ((((((l.take i).getD j default).work) : Int) == ((l.getD i default).work)) && (((((l.take i).getD j default).version) : Int) == ((l.getD i default).version)))) (by simp_all) (B (!(decide (((l.take i).getD j default) = (l.getD i default)))))) rfl) <| s_nil ?_
          refine W.cond (((((((((l.take i).getD j default).work) : Int) == ((l.getD i default).work)) && (((((l.take i).getD j default).version) : Int) == ((l.getD i default).version)))) && (!(decide (((l.take i).getD j default) = (l.getD i default)))))) rfl (fun c39 => ?_) (fun c39 => ?_)
          ·skip
           refine W.seq <| W.region rfl <| s_val (x_as (v := .slice none 0 0) rfl) <| s_val (x_as (v := I 10) rfl) <| s_nil ?_
           refine W.ret ?_
           exact ⟨_, resE_tmp2 rfl, .slice none 0 0, (by rw [v_twice hO c16 c19 c22 (tw_yes c26 c34 c39)]; rfl), (by rw [v_err (v_twice hO c16 c19 c22 (tw_yes c26 c34 c39)) (by decide)]; exact Sl.nil _), E⟩
          ·skip
           refine W.skip <| W.region rfl <| s_val (x_ari (a := j) (b := 1) (r := j + 1) rfl rfl rfl (by omega)) <| s_val (x_mv (v := I (j + 1)) rfl) <| s_nil ?_
           exact ⟨_, (by omega), j+1, _, upds_of _ _ ⟨rfl, rfl, rfl, rfl, rfl, rfl, rfl, rfl, rfl, rfl, (eqI (by omega)), trivial⟩, rfl, E, K1, K14, h_b2, h_b9, h_b23, h_b27, (by omega), (tw_step iv1_1 c34 c39)⟩
         ·simp only [q1, q2, q3, q4, q5, q6, ne_eq, q7] at c34
          refine W.exit ?_
          refine W.seq <| W.region rfl <| s_val (x_mv (v := .map (some b23)) rfl) <| s_val (x_fa (a := .pointer (some ⟨b27, 0, none⟩)) (v := .pointer (some ⟨b27, 0, none⟩)) rfl (fa_blk (o := 0) Fd30_0 Sz3)) <| s_val (x_ld (p := .pointer (some ⟨b27, 0, none⟩)) (v := I ((l.getD i default).work)) rfl (ldb_sc Sc3 h_b27 rfl)) <| s_val (x_look (kenc := I) (venc := encN) (f := newF (l.take i)) (k := ((l.getD i default).work)) (v := .tuple #[.agg #[I ((((newF (l.take i)) ((l.getD i default).work)).getD default).work), I ((((newF (l.take i)) ((l.getD i default).work)).getD default).version), I ((((newF (l.take i)) ((l.getD i default).work)).getD default).value)], B (((newF (l.take i)) ((l.getD i default).work)).isSome)]) keyInt Try.underlying133 Al30 rfl rfl h_b23 m_b23 true (by rw [if_pos rfl, note_val])) <| s_val (x_mv (v := .tuple #[.agg #[I ((((newF (l.take i)) ((l.getD i default).work)).getD default).work), I ((((newF (l.take i)) ((l.getD i default).work)).getD default).version), I ((((newF (l.take i)) ((l.getD i default).work)).getD default).value)], B (((newF (l.take i)) ((l.getD i default).work)).isSome)]) rfl) <| s_val (x_ext (vs := [.agg #[I ((((newF (l.take i)) ((l.getD i default).work)).getD default).work), I ((((newF (l.take i)) ((l.getD i default).work)).getD default).version), I ((((newF (l.take i)) ((l.getD i default).work)).getD default).value)], B (((newF (l.take i)) ((l.getD i default).work)).isSome)]) (v := .agg #[I ((((newF (l.take i)) ((l.getD i default).work)).getD default).work), I ((((newF (l.take i)) ((l.getD i default).work)).getD default).version), I ((((newF (l.take i)) ((l.getD i default).work)).getD default).value)]) rfl rfl) ?_
          refine s_val (x_ext (vs := [.agg #[I ((((newF (l.take i)) ((l.getD i default).work)).getD default).work), I ((((newF (l.take i)) ((l.getD i default).work)).getD default).version), I ((((newF (l.take i)) ((l.getD i default).work)).getD default).value)], B (((newF (l.take i)) ((l.getD i default).work)).isSome)]) (v := B (((newF (l.take i)) ((l.getD i default).work)).isSome)) rfl rfl) ?_
          refine s_alloc (cs := [I 0, I 0, I 0]) Al30 rfl ?_
          intro b40 w41 Nb40
          have o_K1_b40 := Nat.le_trans K1.size Nb40.ge
          have o_K14_b40 := Nat.le_trans K14.size Nb40.ge
          have o_b40 := Nat.le_trans E.size Nb40.ge
          have o_b2_b40 := Nat.lt_of_lt_of_le (heap_lt h_b2) Nb40.ge
          have o_b9_b40 := Nat.lt_of_lt_of_le (heap_lt h_b9) Nb40.ge
          have o_b23_b40 := Nat.lt_of_lt_of_le (heap_lt h_b23) Nb40.ge
          have o_b27_b40 := Nat.lt_of_lt_of_le (heap_lt h_b27) Nb40.ge
          replace E := E.trans Nb40.ext
          replace K1 := K1.ext Nb40.ext
          replace K14 := K14.ext Nb40.ext
          replace h_b2 := Nb40.ext.get h_b2
          replace h_b9 := Nb40.ext.get h_b9
          replace h_b23 := Nb40.ext.get h_b23
          replace h_b27 := Nb40.ext.get h_b27
          have h_b40 := Nb40.same
          clear Nb40
          refine s_st (b := b40) (off := 0) (vs := [I ((((newF (l.take i)) ((l.getD i default).work)).getD default).work), I ((((newF (l.take i)) ((l.getD i default).work)).getD default).version), I ((((newF (l.take i)) ((l.getD i default).work)).getD default).value)]) (cs' := [I ((((newF (l.take i)) ((l.getD i default).work)).getD default).work), I ((((newF (l.take i)) ((l.getD i default).work)).getD default).version), I ((((newF (l.take i)) ((l.getD i default).work)).getD default).value)]) (v := .agg #[I ((((newF (l.take i)) ((l.getD i default).work)).getD default).work), I ((((newF (l.take i)) ((l.getD i default).work)).getD default).version), I ((((newF (l.take i)) ((l.getD i default).work)).getD default).value)]) rfl rfl Sz30 h_b40 rfl rfl rfl rfl rfl ?_
          intro w42 p43
          replace E := E.put (by omega) p43
          replace K1 := K1.put p43 (by omega)
          replace K14 := K14.put p43 (by omega)
          replace h_b2 := p43.get (by omega) h_b2
          replace h_b9 := p43.get (by omega) h_b9
          replace h_b23 := p43.get (by omega) h_b23
          replace h_b27 := p43.get (by omega) h_b27
          replace h_b40 := p43.same
          clear p43
          refine s_val (x_as (v := B (((newF (l.take i)) ((l.getD i default).work)).isSome)) rfl) <| s_nil <| W.seq <| W.region rfl <| s_val (x_mv (v := B (((newF (l.take i)) ((l.getD i default).work)).isSome)) rfl) <| s_val (x_not (b := ((newF (l.take i)) ((l.getD i default).work)).isSome) rfl) <| s_val (x_mv (v := B (!(((newF (l.take i)) ((l.getD i default).work)).isSome))) rfl) <| g_val (!(!(((newF (l.take i)) ((l.getD i default).work)).isSome))) (gy_f rfl) (fun hg => x_fa (a := .pointer (some ⟨b27, 0, none⟩)) (v := .pointer (some ⟨b27, 1, none⟩)) rfl (fa_blk (o := 0) Fd30_1 Sz3)) ?_
          refine g_val (!(!(((newF (l.take i)) ((l.getD i default).work)).isSome))) (gy_f rfl) (fun hg => x_ld (p := .pointer (some ⟨b27, 1, none⟩)) (v := I ((l.getD i default).version)) (gd_of (c := !(!(((newF (l.take i)) ((l.getD i default).work)).isSome))) hg (.pointer (some ⟨b27, 1, none⟩))) (ldb_sc Sc3 h_b27 rfl)) <| g_val (!(!(((newF (l.take i)) ((l.getD i default).work)).isSome))) (gy_f rfl) (fun hg => x_fa (a := .pointer (some ⟨b40, 0, none⟩)) (v := .pointer (some ⟨b40, 1, none⟩)) rfl (fa_blk (o := 0) Fd30_1 Sz3)) <| g_val (!(!(((newF (l.take i)) ((l.getD i default).work)).isSome))) (gy_f rfl) (fun hg => x_ld (p := .pointer (some ⟨b40, 1, none⟩)) (v := I ((((newF (l.take i)) ((l.getD i default).work)).getD default).version)) (gd_of (c := !(!(((newF (l.take i)) ((l.getD i default).work)).isSome))) hg (.pointer (some ⟨b40, 1, none⟩))) (ldb_sc Sc3 h_b40 rfl)) <| g_val (!(!(((newF (l.take i)) ((l.getD i default).work)).isSome))) (gy_f rfl) (fun hg => x_cmp (kd := .i64) (a := (l.getD i default).version) (b := (((newF (l.take i)) ((l.getD i default).work)).getD default).version) (r := decide ((((((newF (l.take i)) ((l.getD i default).work)).getD default).version) : Int) < ((l.getD i default).version))) (gd_of (c := !(!(((newF (l.take i)) ((l.getD i default).work)).isSome))) hg (I ((l.getD i default).version))) (gd_of (c := !(!(((newF (l.take i)) ((l.getD i default).work)).isSome))) hg (I ((((newF (l.take i)) ((l.getD i default).work)).getD default).version))) rfl) <| s_val (x_por (b := !(((newF (l.take i)) ((l.getD i default).work)).isSome)) (r := decide ((((((newF (l.take i)) ((l.getD i default).work)).getD default).version) : Int) < ((l.getD i default).version))) rfl rfl (fun hb => gd_of (c := !(!(((newF (l.take i)) ((l.getD i default).work)).isSome))) (by simp_all) (B (decide ((((((newF (l.take i)) ((l.getD i default).work)).getD default).version) : Int) < ((l.getD i default).version)))))) <| s_nil ?_
          refine W.cond (((!(((newF (l.take i)) ((l.getD i default).work)).isSome)) || (decide ((((((newF (l.take i)) ((l.getD i default).work)).getD default).version) : Int) < ((l.getD i default).version))))) rfl (fun c44 => ?_) (fun c44 => ?_)
          ·skip
           refine W.region rfl <| s_val (x_mv (v := .map (some b23)) rfl) <| s_val (x_fa (a := .pointer (some ⟨b27, 0, none⟩)) (v := .pointer (some ⟨b27, 0, none⟩)) rfl (fa_blk (o := 0) Fd30_0 Sz3)) <| s_val (x_ld (p := .pointer (some ⟨b27, 0, none⟩)) (v := I ((l.getD i default).work)) rfl (ldb_sc Sc3 h_b27 rfl)) <| s_val (x_ld (p := .pointer (some ⟨b27, 0, none⟩)) (v := .agg #[I ((l.getD i default).work), I ((l.getD i default).version), I ((l.getD i default).value)]) rfl (ldb_ag (ds := [I ((l.getD i default).work), I ((l.getD i default).version), I ((l.getD i default).value)]) Ag30 Sz30 h_b27 rfl rfl)) ?_
           refine s_mapu (kenc := I) (venc := encN) (f := newF (l.take i)) (k := ((l.getD i default).work)) (v := (l.getD i default)) keyInt Try.underlying133 rfl rfl rfl h_b23 m_b23 ?_
           intro es45 ck46 w47 p48 m49
           replace E := E.put (by omega) p48
           replace K1 := K1.put p48 (by omega)
           replace K14 := K14.put p48 (by omega)
           replace h_b2 := p48.get (by omega) h_b2
           replace h_b9 := p48.get (by omega) h_b9
           replace h_b27 := p48.get (by omega) h_b27
           replace h_b40 := p48.get (by omega) h_b40
           replace h_b23 := p48.same
           clear p48
           refine s_nil <| W.region rfl <| s_val (x_ari (a := i) (b := 1) (r := i + 1) rfl rfl rfl (by omega)) <| s_val (x_mv (v := I (i + 1)) rfl) <| s_nil ?_
           exact ⟨_, (by omega), i+1, es45, ck46, _, upds_of _ _ ⟨rfl, rfl, rfl, rfl, rfl, rfl, (eqI (by omega)), trivial⟩, rfl, E, K1, K14, h_b2, h_b9, h_b23, (by rw [newF_next l c26, newStep_yes c44]; exact m49), (by omega), (tw_end iv0_1 iv1_1 c34)⟩
          ·skip
           refine W.skip <| W.region rfl <| s_val (x_ari (a := i) (b := 1) (r := i + 1) rfl rfl rfl (by omega)) <| s_val (x_mv (v := I (i + 1)) rfl) <| s_nil ?_
           exact ⟨_, (by omega), i+1, es_b23, ck_b23, _, upds_of _ _ ⟨rfl, rfl, rfl, rfl, rfl, rfl, (eqI (by omega)), trivial⟩, rfl, E, K1, K14, h_b2, h_b9, h_b23, (by rw [newF_next l c26, newStep_no c44]; exact m_b23), (by omega), (tw_end iv0_1 iv1_1 c34)⟩
       ·simp only [q1, q2, q3, q4, q5, q6, ne_eq, q7] at c26
        refine W.exit ?_
        refine W.seq <| W.region rfl ?_
        refine s_bsl (α := Int) T34 w25.heap.size [I (-1)] [(-1 : Int)] rfl (.cons rfl (Flat.rep_enc _ _) <| .nil) (Nat.le_refl _) rfl (by decide) (by decide) ?_
        intro u50 w51 hs52 x53 nn_u50
        replace E := E.trans x53
        replace K1 := K1.ext x53
        replace K14 := K14.ext x53
        replace h_b2 := x53.get h_b2
        replace h_b9 := x53.get h_b9
        replace h_b23 := x53.get h_b23
        clear x53
        have K54 := KF.refl w25.heap.size w51
        refine s_val (x_ld (p := .pointer (some ⟨b2, 0, none⟩)) (v := vw) rfl (ldb_sc Sc22 h_b2 rfl)) <| s_val (x_lenS T22.und rfl (hw.to K1)) ?_
        refine s_call cf86 [u50, I ws.length] rfl (repeat_int _ (hs52.to K54) (by omega) (by omega)) ?_
        rintro v57 w55 ⟨ho58, x56⟩
        have n_v57_b2 := ho58.ne' (heap_lt h_b2)
        have n_v57_b9 := ho58.ne' (heap_lt h_b9)
        have n_v57_b23 := ho58.ne' (heap_lt h_b23)
        have z59 := Nat.le_refl w51.heap.size
        have B_v57 := E.size
        have B_v57_K1 := K1.size
        have B_v57_K14 := K14.size
        have B_v57_K54 := K54.size
        replace E := E.trans x56
        replace z59 := Nat.le_trans z59 x56.size
        replace K1 := K1.ext x56
        replace K14 := K14.ext x56
        replace K54 := K54.ext x56
        replace h_b2 := x56.get h_b2
        replace h_b9 := x56.get h_b9
        replace h_b23 := x56.get h_b23
        clear x56
        refine s_alloc (cs := [.slice none 0 0]) Al34 rfl ?_
        intro b60 w61 Nb60
        have o_K1_b60 := Nat.le_trans K1.size Nb60.ge
        have o_K14_b60 := Nat.le_trans K14.size Nb60.ge
        have o_K54_b60 := Nat.le_trans K54.size Nb60.ge
        have o_b60 := Nat.le_trans E.size Nb60.ge
        have o_b2_b60 := Nat.lt_of_lt_of_le (heap_lt h_b2) Nb60.ge
        have o_b9_b60 := Nat.lt_of_lt_of_le (heap_lt h_b9) Nb60.ge
        have o_b23_b60 := Nat.lt_of_lt_of_le (heap_lt h_b23) Nb60.ge
        have n_v57_b60 := ho58.ne Nb60.ge
        replace E := E.trans Nb60.ext
        replace z59 := Nat.le_trans z59 Nb60.ext.size
        replace K1 := K1.ext Nb60.ext
        replace K14 := K14.ext Nb60.ext
        replace K54 := K54.ext Nb60.ext
        replace h_b2 := Nb60.ext.get h_b2
        replace h_b9 := Nb60.ext.get h_b9
        replace h_b23 := Nb60.ext.get h_b23
        replace ho58 := ho58.ext Nb60.ext
        have h_b60 := Nb60.same
        clear Nb60
        refine s_st (b := b60) (off := 0) (vs := [v57]) (cs' := [v57]) (v := v57) rfl rfl Sz34 h_b60 (Sl.cells (ho58.sl.mono (frm_le _ _))) rfl rfl (by simp only [List.all_cons, List.all_nil, Bool.true_and, Bool.and_true, Sl.oc (ho58.sl.mono (frm_le _ _))]; try rfl) rfl ?_
        intro w62 p63
        replace E := E.put (by omega) p63
        replace z59 := Nat.le_trans z59 (Nat.le_of_eq p63.size.symm)
        replace K1 := K1.put p63 (by omega)
        replace K14 := K14.put p63 (by omega)
        replace K54 := K54.put p63 (by omega)
        replace h_b2 := p63.get (by omega) h_b2
        replace h_b9 := p63.get (by omega) h_b9
        replace h_b23 := p63.get (by omega) h_b23
        replace ho58 := ho58.put p63 n_v57_b60
        replace h_b60 := p63.same
        clear p63
        refine s_nil <| W.seq <| W.seq <| W.region rfl <| s_val (x_mv (v := so10) rfl) <| s_val (x_lenS T34.und rfl (hs12.to K14)) <| s_val (x_mv (v := I 0) rfl) <| s_nil ?_
        refine W.block ?_
        refine W.loop (fun m σ W => ∃ (k : Nat) (vo : Value) (ρ : Env), σ = upds ρ [(2, .pointer (some ⟨b2, 0, none⟩)), (9, .map (some b23)), (16, .pointer (some ⟨b60, 0, none⟩)), (106, so10), (107, I ((orderP ws).length)), (108, I k)] ∧ m = (orderP ws).length - k ∧ Ext w W ∧ KF 0 w W ∧ KF w3.heap.size w4 W ∧ W.heap[b2]? = some (.cells #[vw] 22 (0, 0)) ∧ W.heap[b9]? = some (.cells #[vw] 187 (0, 0)) ∧ W.heap[b23]? = some (.map es_b23 ck_b23) ∧ W.heap[b60]? = some (.cells #[vo] 34 (0, 0)) ∧ w51.heap.size ≤ W.heap.size ∧ OwnF w51.heap.size 3 W vo (valF ws (newF (l.take i)) ((orderP ws).take k) (List.replicate ws.length (-1))) ∧ vo.ownBlock ≠ some b2 ∧ vo.ownBlock ≠ some b9 ∧ vo.ownBlock ≠ some b23 ∧ vo.ownBlock ≠ some b60 ∧ k ≤ (orderP ws).length) ?_ ?_
        ·exact ⟨_, 0, v57, _, upds_of _ _ ⟨rfl, rfl, rfl, rfl, rfl, (eqI (by omega)), trivial⟩, rfl, E, K1, K14, h_b2, h_b9, h_b23, h_b60, z59, ho58, n_v57_b2, n_v57_b9, n_v57_b23, n_v57_b60, (Nat.zero_le _)⟩
        ·rintro m σ w64 ⟨k, vo, ρ, rfl, rfl, E, K1, K14, h_b2, h_b9, h_b23, h_b60, z59, ho_vo, n_vo_b2, n_vo_b9, n_vo_b23, n_vo_b60, iv2_0⟩
         have hvb := valF_VB (ws := ws) (f := newF (l.take i)) (newF_val c22 i) ((orderP ws).take k) (R := List.replicate ws.length (-1)) (fun y hy => by have := List.eq_of_mem_replicate hy; omega)
         have hvl : (valF ws (newF (l.take i)) ((orderP ws).take k) (List.replicate ws.length (-1))).length = ws.length := by rw [valF_len]; simp
         refine W.seq <| W.region rfl <| s_val (x_cmp (kd := .i64) (a := k) (b := (orderP ws).length) (r := decide ((k : Int) < ((orderP ws).length))) rfl rfl rfl) <| s_nil <| W.seq ?_
         refine W.cond (decide ((k : Int) < ((orderP ws).length))) rfl (fun c65 => ?_) (fun c65 => ?_)
         ·simp only [q1, q2, q3, q4, q5, q6, ne_eq, q7] at c65
          have hik := order_at ws c65
          have hof := right_of hR (i := Int.toNat ((orderP ws).getD k 0)) (by omega)
          have hmn := right_nums hR (i := Int.toNat ((orderP ws).getD k 0)) (by omega)
          have ho5 := right_ofs hR (i := Int.toNat ((orderP ws).getD k 0)) (by omega)
          refine W.skip <| W.seq <| W.block <| W.seq <| W.region rfl <| s_val (x_ix (a := so10) (b := I k) (v := vat so10 1 (Int.toNat k)) rfl rfl (Sl.ix (α := Int) T34.und T34.size (hs12.to K14) (by omega) (by omega))) <| s_val (x_ld (p := vat so10 1 (Int.toNat k)) (v := I ((orderP ws).getD k 0)) rfl (ld_sc Sc3 (At.to (Int_at hs12 (i := k) (by omega) (by omega)) K14))) <| s_val (x_as (v := I ((orderP ws).getD k 0)) rfl) ?_
          refine s_nil <| W.seq <| W.seq <| W.region rfl <| s_val (x_mv (v := .map (some b23)) rfl) <| s_val (x_mv (v := I ((orderP ws).getD k 0)) rfl) <| s_val (x_look (kenc := I) (venc := encN) (f := newF (l.take i)) (k := ((orderP ws).getD k 0)) (v := .tuple #[.agg #[I ((((newF (l.take i)) ((orderP ws).getD k 0)).getD default).work), I ((((newF (l.take i)) ((orderP ws).getD k 0)).getD default).version), I ((((newF (l.take i)) ((orderP ws).getD k 0)).getD default).value)], B (((newF (l.take i)) ((orderP ws).getD k 0)).isSome)]) keyInt Try.underlying133 Al30 rfl rfl h_b23 m_b23 true (by rw [if_pos rfl, note_val])) <| s_val (x_mv (v := .tuple #[.agg #[I ((((newF (l.take i)) ((orderP ws).getD k 0)).getD default).work), I ((((newF (l.take i)) ((orderP ws).getD k 0)).getD default).version), I ((((newF (l.take i)) ((orderP ws).getD k 0)).getD default).value)], B (((newF (l.take i)) ((orderP ws).getD k 0)).isSome)]) rfl) ?_
          refine s_val (x_ext (vs := [.agg #[I ((((newF (l.take i)) ((orderP ws).getD k 0)).getD default).work), I ((((newF (l.take i)) ((orderP ws).getD k 0)).getD default).version), I ((((newF (l.take i)) ((orderP ws).getD k 0)).getD default).value)], B (((newF (l.take i)) ((orderP ws).getD k 0)).isSome)]) (v := .agg #[I ((((newF (l.take i)) ((orderP ws).getD k 0)).getD default).work), I ((((newF (l.take i)) ((orderP ws).getD k 0)).getD default).version), I ((((newF (l.take i)) ((orderP ws).getD k 0)).getD default).value)]) rfl rfl) <| s_val (x_ext (vs := [.agg #[I ((((newF (l.take i)) ((orderP ws).getD k 0)).getD default).work), I ((((newF (l.take i)) ((orderP ws).getD k 0)).getD default).version), I ((((newF (l.take i)) ((orderP ws).getD k 0)).getD default).value)], B (((newF (l.take i)) ((orderP ws).getD k 0)).isSome)]) (v := B (((newF (l.take i)) ((orderP ws).getD k 0)).isSome)) rfl rfl) ?_
          refine s_alloc (cs := [I 0, I 0, I 0]) Al30 rfl ?_
          intro b66 w67 Nb66
          have o_K1_b66 := Nat.le_trans K1.size Nb66.ge
          have o_K14_b66 := Nat.le_trans K14.size Nb66.ge
          have o_b66 := Nat.le_trans E.size Nb66.ge
          have o_b2_b66 := Nat.lt_of_lt_of_le (heap_lt h_b2) Nb66.ge
          have o_b9_b66 := Nat.lt_of_lt_of_le (heap_lt h_b9) Nb66.ge
          have o_b23_b66 := Nat.lt_of_lt_of_le (heap_lt h_b23) Nb66.ge
          have o_b60_b66 := Nat.lt_of_lt_of_le (heap_lt h_b60) Nb66.ge
          have n_vo_b66 := ho_vo.ne Nb66.ge
          replace E := E.trans Nb66.ext
          replace z59 := Nat.le_trans z59 Nb66.ext.size
          replace K1 := K1.ext Nb66.ext
          replace K14 := K14.ext Nb66.ext
          replace h_b2 := Nb66.ext.get h_b2
          replace h_b9 := Nb66.ext.get h_b9
          replace h_b23 := Nb66.ext.get h_b23
          replace h_b60 := Nb66.ext.get h_b60
          replace ho_vo := ho_vo.ext Nb66.ext
          have h_b66 := Nb66.same
          clear Nb66
          refine s_st (b := b66) (off := 0) (vs := [I ((((newF (l.take i)) ((orderP ws).getD k 0)).getD default).work), I ((((newF (l.take i)) ((orderP ws).getD k 0)).getD default).version), I ((((newF (l.take i)) ((orderP ws).getD k 0)).getD default).value)]) (cs' := [I ((((newF (l.take i)) ((orderP ws).getD k 0)).getD default).work), I ((((newF (l.take i)) ((orderP ws).getD k 0)).getD default).version), I ((((newF (l.take i)) ((orderP ws).getD k 0)).getD default).value)]) (v := .agg #[I ((((newF (l.take i)) ((orderP ws).getD k 0)).getD default).work), I ((((newF (l.take i)) ((orderP ws).getD k 0)).getD default).version), I ((((newF (l.take i)) ((orderP ws).getD k 0)).getD default).value)]) rfl rfl Sz30 h_b66 rfl rfl rfl rfl rfl ?_
          intro w68 p69
          replace E := E.put (by omega) p69
          replace z59 := Nat.le_trans z59 (Nat.le_of_eq p69.size.symm)
          replace K1 := K1.put p69 (by omega)
          replace K14 := K14.put p69 (by omega)
          replace h_b2 := p69.get (by omega) h_b2
          replace h_b9 := p69.get (by omega) h_b9
          replace h_b23 := p69.get (by omega) h_b23
          replace h_b60 := p69.get (by omega) h_b60
          replace ho_vo := ho_vo.put p69 n_vo_b66
          replace h_b66 := p69.same
          clear p69
          refine s_val (x_as (v := B (((newF (l.take i)) ((orderP ws).getD k 0)).isSome)) rfl) <| s_nil <| W.seq <| W.region rfl <| s_val (x_mv (v := B (((newF (l.take i)) ((orderP ws).getD k 0)).isSome)) rfl) <| s_nil ?_
          refine W.cond (((newF (l.take i)) ((orderP ws).getD k 0)).isSome) rfl (fun c70 => ?_) (fun c70 => ?_)
          ·skip
           have hnv := newF_val c22 i ((orderP ws).getD k 0) c70
           have hob := hvb.set (v := (((newF (l.take i)) ((orderP ws).getD k 0)).getD default).value) (by omega) (by omega) (Int.toNat ((orderP ws).getD k 0))
           have hol : ((valF ws (newF (l.take i)) ((orderP ws).take k) (List.replicate ws.length (-1))).set (Int.toNat ((orderP ws).getD k 0)) (((newF (l.take i)) ((orderP ws).getD k 0)).getD default).value).length = ws.length := by rw [List.length_set, hvl]
           refine W.region rfl <| s_val (x_ld (p := .pointer (some ⟨b60, 0, none⟩)) (v := vo) rfl (ldb_sc Sc34 h_b60 rfl)) <| s_val (x_mv (v := I ((orderP ws).getD k 0)) rfl) <| s_val (x_fa (a := .pointer (some ⟨b66, 0, none⟩)) (v := .pointer (some ⟨b66, 2, none⟩)) rfl (fa_blk (o := 0) Fd30_2 Sz3)) <| s_val (x_ld (p := .pointer (some ⟨b66, 2, none⟩)) (v := I ((((newF (l.take i)) ((orderP ws).getD k 0)).getD default).value)) rfl (ldb_sc Sc3 h_b66 rfl)) <| s_val (x_ix (a := vo) (b := I ((orderP ws).getD k 0)) (v := vat vo 1 (Int.toNat ((orderP ws).getD k 0))) rfl rfl (Sl.ix (α := Int) T34.und T34.size (ho_vo.sl.mono (frm_le _ _)) (by omega) (by omega))) ?_
           refine s_ost ho_vo Sz3 (i := (orderP ws).getD k 0) (by omega) (by omega) ((((newF (l.take i)) ((orderP ws).getD k 0)).getD default).value : Int) (val := I ((((newF (l.take i)) ((orderP ws).getD k 0)).getD default).value)) rfl rfl rfl ?_
           intro w73 ho2 g74
           replace E := E.grow g74 (by omega)
           replace z59 := Nat.le_trans z59 g74.size
           replace K1 := K1.grow g74 (by omega)
           replace K14 := K14.grow g74 (by omega)
           replace h_b2 := g74.get n_vo_b2 h_b2
           replace h_b9 := g74.get n_vo_b9 h_b9
           replace h_b23 := g74.get n_vo_b23 h_b23
           replace h_b60 := g74.get n_vo_b60 h_b60
           replace h_b66 := g74.get n_vo_b66 h_b66
           replace ho_vo := ho2
           clear g74
           refine s_nil <| W.seq <| W.seq <| W.region rfl <| s_val (x_ld (p := .pointer (some ⟨b2, 0, none⟩)) (v := vw) rfl (ldb_sc Sc22 h_b2 rfl)) <| s_val (x_mv (v := I ((orderP ws).getD k 0)) rfl) <| s_val (x_ix (a := vw) (b := I ((orderP ws).getD k 0)) (v := vat vw 3 (Int.toNat ((orderP ws).getD k 0))) rfl rfl (Sl.ix (α := Work) T22.und T22.size (hw.to K1) (by omega) (by omega))) <| s_val (x_fa (a := vat vw 3 (Int.toNat ((orderP ws).getD k 0))) (v := fat (vat vw 3 (Int.toNat ((orderP ws).getD k 0))) 0) rfl (fa_pl Fd60_0 Sz34 (Sl.pl (i := (orderP ws).getD k 0) hw (by omega) (by omega)))) ?_
           obtain ⟨u75, ha_u75, hs76⟩ := Work_at0 hw (i := (orderP ws).getD k 0) (by omega) (by omega)
           replace hs76 : Sl _ u75 (ws.getD (Int.toNat ((orderP ws).getD k 0)) default).of := hs76
           have hl_hs76 := hs76.len_le
           refine s_val (x_ld (p := fat (vat vw 3 (Int.toNat ((orderP ws).getD k 0))) 0) (v := u75) rfl (ld_sc Sc34 (At.to ha_u75 K1))) <| s_val (x_lenS T34.und rfl (hs76.to K1)) <| s_val (x_cmp (kd := .i64) (a := ((ws.getD (Int.toNat ((orderP ws).getD k 0)) default).of).length) (b := 0) (r := ((((ws.getD (Int.toNat ((orderP ws).getD k 0)) default).of).length) : Int) == 0) rfl rfl rfl) <| s_val (x_mv (v := B (((((ws.getD (Int.toNat ((orderP ws).getD k 0)) default).of).length) : Int) == 0)) rfl) <| g_val (!(((((ws.getD (Int.toNat ((orderP ws).getD k 0)) default).of).length) : Int) == 0)) (gy_f rfl) (fun hg => x_mf (fs := []) (cs := [.pointer (some ⟨b60, 0, none⟩)]) rfl rfl) <| g_val (!(((((ws.getD (Int.toNat ((orderP ws).getD k 0)) default).of).length) : Int) == 0)) (gy_f rfl) (fun hg => x_ld (p := .pointer (some ⟨b2, 0, none⟩)) (v := vw) rfl (ldb_sc Sc22 h_b2 rfl)) <| g_val (!(((((ws.getD (Int.toNat ((orderP ws).getD k 0)) default).of).length) : Int) == 0)) (gy_f rfl) (fun hg => x_mv (v := I ((orderP ws).getD k 0)) rfl) <| g_val (!(((((ws.getD (Int.toNat ((orderP ws).getD k 0)) default).of).length) : Int) == 0)) (gy_f rfl) (fun hg => x_ix (a := vw) (b := I ((orderP ws).getD k 0)) (v := vat vw 3 (Int.toNat ((orderP ws).getD k 0))) (gd_of (c := !(((((ws.getD (Int.toNat ((orderP ws).getD k 0)) default).of).length) : Int) == 0)) hg (vw)) (gd_of (c := !(((((ws.getD (Int.toNat ((orderP ws).getD k 0)) default).of).length) : Int) == 0)) hg (I ((orderP ws).getD k 0))) (Sl.ix (α := Work) T22.und T22.size (hw.to K1) (by first | omega | (simp at hg; omega) | (simp [inB] at hg; omega)) (by first | omega | (simp at hg; omega) | (simp [inB] at hg; omega)))) ?_
           refine g_val (!(((((ws.getD (Int.toNat ((orderP ws).getD k 0)) default).of).length) : Int) == 0)) (gy_f rfl) (fun hg => x_fa (a := vat vw 3 (Int.toNat ((orderP ws).getD k 0))) (v := fat (vat vw 3 (Int.toNat ((orderP ws).getD k 0))) 0) (gd_of (c := !(((((ws.getD (Int.toNat ((orderP ws).getD k 0)) default).of).length) : Int) == 0)) hg (vat vw 3 (Int.toNat ((orderP ws).getD k 0)))) (fa_pl Fd60_0 Sz34 (Sl.pl (i := (orderP ws).getD k 0) hw (by first | omega | (simp at hg; omega) | (simp [inB] at hg; omega)) (by first | omega | (simp at hg; omega) | (simp [inB] at hg; omega))))) ?_
           obtain ⟨u77, ha_u77, hs78⟩ := gd_ex (c := !(((((ws.getD (Int.toNat ((orderP ws).getD k 0)) default).of).length) : Int) == 0)) fun hg => Work_at0 hw (i := (orderP ws).getD k 0) (by first | omega | (simp at hg; omega) | (simp [inB] at hg; omega)) (by first | omega | (simp at hg; omega) | (simp [inB] at hg; omega))
           replace hs78 : (!(((((ws.getD (Int.toNat ((orderP ws).getD k 0)) default).of).length) : Int) == 0)) = true → Sl _ u77 (ws.getD (Int.toNat ((orderP ws).getD k 0)) default).of := hs78
           refine g_val (!(((((ws.getD (Int.toNat ((orderP ws).getD k 0)) default).of).length) : Int) == 0)) (gy_f rfl) (fun hg => x_ld (p := fat (vat vw 3 (Int.toNat ((orderP ws).getD k 0))) 0) (v := u77) (gd_of (c := !(((((ws.getD (Int.toNat ((orderP ws).getD k 0)) default).of).length) : Int) == 0)) hg (fat (vat vw 3 (Int.toNat ((orderP ws).getD k 0))) 0)) (ld_sc Sc34 (At.to (ha_u77 hg) K1))) ?_
           refine g_call (!(((((ws.getD (Int.toNat ((orderP ws).getD k 0)) default).of).length) : Int) == 0)) (gy_f rfl) cf87 (B (((ws.getD (Int.toNat ((orderP ws).getD k 0)) default).of).all (fun z_ : Int => ((valF ws (newF (l.take i)) ((orderP ws).take k) (List.replicate ws.length (-1))).set (Int.toNat ((orderP ws).getD k 0)) ((((newF (l.take i)) ((orderP ws).getD k 0)).getD default).value : Int)).getD z_.toNat 0 != -1))) (fun _ => [.func (.func 88) #[] #[.pointer (some ⟨b60, 0, none⟩)], u77]) (fun hg => lst2 (gd_of (c := !(((((ws.getD (Int.toNat ((orderP ws).getD k 0)) default).of).length) : Int) == 0)) hg (.func (.func 88) #[] #[.pointer (some ⟨b60, 0, none⟩)])) (gd_of (c := !(((((ws.getD (Int.toNat ((orderP ws).getD k 0)) default).of).length) : Int) == 0)) hg (u77))) (fun hg => (every_int _ ((hs78 hg).to K1) ⟨88, [.pointer (some ⟨b60, 0, none⟩)], rfl, cf88, fun w' v x hE hD hA => by obtain rfl := Arg.int hA; exact (values3 _ _ (hE.get h_b60) ((ho_vo.sl.mono (frm_le _ _)).mono hE.le) (hof _ hD).1 (by have := (hof _ hD).2.1; omega))⟩)) ?_
           intro w79 x80
           replace E := E.trans x80
           replace z59 := Nat.le_trans z59 x80.size
           replace K1 := K1.ext x80
           replace K14 := K14.ext x80
           replace h_b2 := x80.get h_b2
           replace h_b9 := x80.get h_b9
           replace h_b23 := x80.get h_b23
           replace h_b60 := x80.get h_b60
           replace h_b66 := x80.get h_b66
           replace ho_vo := ho_vo.ext x80
           clear x80
           refine g_val (!(((((ws.getD (Int.toNat ((orderP ws).getD k 0)) default).of).length) : Int) == 0)) (gy_f rfl) (fun hg => x_not (b := ((ws.getD (Int.toNat ((orderP ws).getD k 0)) default).of).all (fun z_ : Int => ((valF ws (newF (l.take i)) ((orderP ws).take k) (List.replicate ws.length (-1))).set (Int.toNat ((orderP ws).getD k 0)) ((((newF (l.take i)) ((orderP ws).getD k 0)).getD default).value : Int)).getD z_.toNat 0 != -1)) (gd_of (c := !(((((ws.getD (Int.toNat ((orderP ws).getD k 0)) default).of).length) : Int) == 0)) hg (B (((ws.getD (Int.toNat ((orderP ws).getD k 0)) default).of).all (fun z_ : Int => ((valF ws (newF (l.take i)) ((orderP ws).take k) (List.replicate ws.length (-1))).set (Int.toNat ((orderP ws).getD k 0)) ((((newF (l.take i)) ((orderP ws).getD k 0)).getD default).value : Int)).getD z_.toNat 0 != -1))))) <| s_val (x_por (b := ((((ws.getD (Int.toNat ((orderP ws).getD k 0)) default).of).length) : Int) == 0) (r := !(((ws.getD (Int.toNat ((orderP ws).getD k 0)) default).of).all (fun z_ : Int => ((valF ws (newF (l.take i)) ((orderP ws).take k) (List.replicate ws.length (-1))).set (Int.toNat ((orderP ws).getD k 0)) ((((newF (l.take i)) ((orderP ws).getD k 0)).getD default).value : Int)).getD z_.toNat 0 != -1))) rfl rfl (fun hb => gd_of (c := !(((((ws.getD (Int.toNat ((orderP ws).getD k 0)) default).of).length) : Int) == 0)) (by simp_all) (B (!(((ws.getD (Int.toNat ((orderP ws).getD k 0)) default).of).all (fun z_ : Int => ((valF ws (newF (l.take i)) ((orderP ws).take k) (List.replicate ws.length (-1))).set (Int.toNat ((orderP ws).getD k 0)) ((((newF (l.take i)) ((orderP ws).getD k 0)).getD default).value : Int)).getD z_.toNat 0 != -1)))))) <| s_nil ?_
           refine W.cond (((((((ws.getD (Int.toNat ((orderP ws).getD k 0)) default).of).length) : Int) == 0) || (!(((ws.getD (Int.toNat ((orderP ws).getD k 0)) default).of).all (fun z_ : Int => ((valF ws (newF (l.take i)) ((orderP ws).take k) (List.replicate ws.length (-1))).set (Int.toNat ((orderP ws).getD k 0)) ((((newF (l.take i)) ((orderP ws).getD k 0)).getD default).value : Int)).getD z_.toNat 0 != -1))))) rfl (fun c81 => ?_) (fun c81 => ?_)
           ·skip
            refine W.exit ?_
            refine W.region rfl <| s_val (x_ari (a := k) (b := 1) (r := k + 1) rfl rfl rfl (by omega)) <| s_val (x_mv (v := I (k + 1)) rfl) <| s_nil ?_
            exact ⟨_, (by omega), k+1, vo, _, upds_of _ _ ⟨rfl, rfl, rfl, rfl, rfl, (eqI (by omega)), trivial⟩, rfl, E, K1, K14, h_b2, h_b9, h_b23, h_b60, z59, (by rw [valF_next _ _ _ _ c65, val_skip (noteV_yes c70) c81]; exact ho_vo), n_vo_b2, n_vo_b9, n_vo_b23, n_vo_b60, (by omega)⟩
           ·skip
            refine W.skip <| W.seq <| W.region rfl <| s_val (x_ld (p := .pointer (some ⟨b2, 0, none⟩)) (v := vw) rfl (ldb_sc Sc22 h_b2 rfl)) <| s_val (x_mv (v := I ((orderP ws).getD k 0)) rfl) <| s_val (x_ix (a := vw) (b := I ((orderP ws).getD k 0)) (v := vat vw 3 (Int.toNat ((orderP ws).getD k 0))) rfl rfl (Sl.ix (α := Work) T22.und T22.size (hw.to K1) (by omega) (by omega))) <| s_val (x_fa (a := vat vw 3 (Int.toNat ((orderP ws).getD k 0))) (v := fat (vat vw 3 (Int.toNat ((orderP ws).getD k 0))) 1) rfl (fa_pl Fd60_1 Sz3 (Sl.pl (i := (orderP ws).getD k 0) hw (by omega) (by omega)))) <| s_val (x_ld (p := fat (vat vw 3 (Int.toNat ((orderP ws).getD k 0))) 1) (v := I ((ws.getD (Int.toNat ((orderP ws).getD k 0)) default).base)) rfl (ld_sc Sc3 (At.to (Work_at1 hw (i := (orderP ws).getD k 0) (by omega) (by omega)) K1))) ?_
            refine s_val (x_as (v := I ((ws.getD (Int.toNat ((orderP ws).getD k 0)) default).base)) rfl) <| s_nil <| W.seq <| W.seq <| W.region rfl <| s_val (x_ld (p := .pointer (some ⟨b2, 0, none⟩)) (v := vw) rfl (ldb_sc Sc22 h_b2 rfl)) <| s_val (x_mv (v := I ((orderP ws).getD k 0)) rfl) <| s_val (x_ix (a := vw) (b := I ((orderP ws).getD k 0)) (v := vat vw 3 (Int.toNat ((orderP ws).getD k 0))) rfl rfl (Sl.ix (α := Work) T22.und T22.size (hw.to K1) (by omega) (by omega))) ?_
            refine s_val (x_fa (a := vat vw 3 (Int.toNat ((orderP ws).getD k 0))) (v := fat (vat vw 3 (Int.toNat ((orderP ws).getD k 0))) 0) rfl (fa_pl Fd60_0 Sz34 (Sl.pl (i := (orderP ws).getD k 0) hw (by omega) (by omega)))) ?_
            obtain ⟨u82, ha_u82, hs83⟩ := Work_at0 hw (i := (orderP ws).getD k 0) (by omega) (by omega)
            replace hs83 : Sl _ u82 (ws.getD (Int.toNat ((orderP ws).getD k 0)) default).of := hs83
            have hl_hs83 := hs83.len_le
            refine s_val (x_ld (p := fat (vat vw 3 (Int.toNat ((orderP ws).getD k 0))) 0) (v := u82) rfl (ld_sc Sc34 (At.to ha_u82 K1))) <| s_val (x_lenS T34.und rfl (hs83.to K1)) <| s_val (x_mv (v := I 0) rfl) <| s_nil <| W.block ?_
            have hkv := known_vals c81 (O := (valF ws (newF (l.take i)) ((orderP ws).take k) (List.replicate ws.length (-1))).set (Int.toNat ((orderP ws).getD k 0)) ((((newF (l.take i)) ((orderP ws).getD k 0)).getD default).value : Int)) hob (by intro q hq; have h1 := hof q hq; have h2 := hol; omega)
            refine W.loop (fun m σ W => ∃ (j : Nat) (ρ : Env), σ = upds ρ [(2, .pointer (some ⟨b2, 0, none⟩)), (9, .map (some b23)), (16, .pointer (some ⟨b60, 0, none⟩)), (18, I ((orderP ws).getD k 0)), (21, I (sumV ((valF ws (newF (l.take i)) ((orderP ws).take k) (List.replicate ws.length (-1))).set (Int.toNat ((orderP ws).getD k 0)) ((((newF (l.take i)) ((orderP ws).getD k 0)).getD default).value : Int)) (ws.getD (Int.toNat ((orderP ws).getD k 0)) default).base (ws.getD (Int.toNat ((orderP ws).getD k 0)) default).of j)), (106, so10), (107, I ((orderP ws).length)), (108, I k), (132, gd (!(((((ws.getD (Int.toNat ((orderP ws).getD k 0)) default).of).length) : Int) == 0)) (.func (.func 88) #[] #[.pointer (some ⟨b60, 0, none⟩)])), (133, gd (!(((((ws.getD (Int.toNat ((orderP ws).getD k 0)) default).of).length) : Int) == 0)) vw), (134, gd (!(((((ws.getD (Int.toNat ((orderP ws).getD k 0)) default).of).length) : Int) == 0)) (I ((orderP ws).getD k 0))), (135, gd (!(((((ws.getD (Int.toNat ((orderP ws).getD k 0)) default).of).length) : Int) == 0)) (vat vw 3 (Int.toNat ((orderP ws).getD k 0)))), (136, gd (!(((((ws.getD (Int.toNat ((orderP ws).getD k 0)) default).of).length) : Int) == 0)) (fat (vat vw 3 (Int.toNat ((orderP ws).getD k 0))) 0)), (137, gd (!(((((ws.getD (Int.toNat ((orderP ws).getD k 0)) default).of).length) : Int) == 0)) u77), (138, gd (!(((((ws.getD (Int.toNat ((orderP ws).getD k 0)) default).of).length) : Int) == 0)) (B (((ws.getD (Int.toNat ((orderP ws).getD k 0)) default).of).all (fun z_ : Int => ((valF ws (newF (l.take i)) ((orderP ws).take k) (List.replicate ws.length (-1))).set (Int.toNat ((orderP ws).getD k 0)) ((((newF (l.take i)) ((orderP ws).getD k 0)).getD default).value : Int)).getD z_.toNat 0 != -1)))), (139, gd (!(((((ws.getD (Int.toNat ((orderP ws).getD k 0)) default).of).length) : Int) == 0)) (B (!(((ws.getD (Int.toNat ((orderP ws).getD k 0)) default).of).all (fun z_ : Int => ((valF ws (newF (l.take i)) ((orderP ws).take k) (List.replicate ws.length (-1))).set (Int.toNat ((orderP ws).getD k 0)) ((((newF (l.take i)) ((orderP ws).getD k 0)).getD default).value : Int)).getD z_.toNat 0 != -1))))), (150, u82), (151, I (((ws.getD (Int.toNat ((orderP ws).getD k 0)) default).of).length)), (152, I j)] ∧ m = (ws.getD (Int.toNat ((orderP ws).getD k 0)) default).of.length - j ∧ Ext w W ∧ KF 0 w W ∧ KF w3.heap.size w4 W ∧ W.heap[b2]? = some (.cells #[vw] 22 (0, 0)) ∧ W.heap[b9]? = some (.cells #[vw] 187 (0, 0)) ∧ W.heap[b23]? = some (.map es_b23 ck_b23) ∧ W.heap[b60]? = some (.cells #[vo] 34 (0, 0)) ∧ W.heap[b66]? = some (.cells #[I ((((newF (l.take i)) ((orderP ws).getD k 0)).getD default).work), I ((((newF (l.take i)) ((orderP ws).getD k 0)).getD default).version), I ((((newF (l.take i)) ((orderP ws).getD k 0)).getD default).value)] 30 (0, 0)) ∧ w51.heap.size ≤ W.heap.size ∧ OwnF w51.heap.size 3 W vo ((valF ws (newF (l.take i)) ((orderP ws).take k) (List.replicate ws.length (-1))).set (Int.toNat ((orderP ws).getD k 0)) ((((newF (l.take i)) ((orderP ws).getD k 0)).getD default).value : Int)) ∧ j ≤ (ws.getD (Int.toNat ((orderP ws).getD k 0)) default).of.length) ?_ ?_
            ·exact ⟨_, 0, _, upds_of _ _ ⟨rfl, rfl, rfl, rfl, rfl, rfl, rfl, rfl, rfl, rfl, rfl, rfl, rfl, rfl, rfl, rfl, rfl, rfl, (eqI (by omega)), trivial⟩, rfl, E, K1, K14, h_b2, h_b9, h_b23, h_b60, h_b66, z59, ho_vo, (Nat.zero_le _)⟩
            ·rintro m σ w84 ⟨j, ρ, rfl, rfl, E, K1, K14, h_b2, h_b9, h_b23, h_b60, h_b66, z59, ho_vo, iv3_0⟩
             have hsb := sumV_b (out := (valF ws (newF (l.take i)) ((orderP ws).take k) (List.replicate ws.length (-1))).set (Int.toNat ((orderP ws).getD k 0)) ((((newF (l.take i)) ((orderP ws).getD k 0)).getD default).value : Int)) (base := (ws.getD (Int.toNat ((orderP ws).getD k 0)) default).base) (of := (ws.getD (Int.toNat ((orderP ws).getD k 0)) default).of) ⟨hmn.1, hmn.2.1⟩ ho5 hkv j iv3_0
             refine W.seq <| W.region rfl <| s_val (x_cmp (kd := .i64) (a := j) (b := ((ws.getD (Int.toNat ((orderP ws).getD k 0)) default).of).length) (r := decide ((j : Int) < (((ws.getD (Int.toNat ((orderP ws).getD k 0)) default).of).length))) rfl rfl rfl) <| s_nil <| W.seq ?_
             refine W.cond (decide ((j : Int) < (((ws.getD (Int.toNat ((orderP ws).getD k 0)) default).of).length))) rfl (fun c85 => ?_) (fun c85 => ?_)
             ·simp only [q1, q2, q3, q4, q5, q6, ne_eq, q7] at c85
              have hj := hof _ (getD_memN _ c85 0)
              have hjv := hkv _ (getD_memN _ c85 0)
              have hpr := prod_b (a := (j : Int) + 1) (by omega) (by omega) hjv.1 hjv.2
              refine W.skip <| W.seq <| W.block <| W.seq <| W.region rfl <| s_val (x_mv (v := I j) rfl) <| s_val (x_ix (a := u82) (b := I j) (v := vat u82 1 (Int.toNat j)) rfl rfl (Sl.ix (α := Int) T34.und T34.size (hs83.to K1) (by omega) (by omega))) <| s_val (x_ld (p := vat u82 1 (Int.toNat j)) (v := I (((ws.getD (Int.toNat ((orderP ws).getD k 0)) default).of).getD j 0)) rfl (ld_sc Sc3 (At.to (Int_at hs83 (i := j) (by omega) (by omega)) K1))) ?_
              refine s_val (x_as (v := I j) rfl) <| s_val (x_as (v := I (((ws.getD (Int.toNat ((orderP ws).getD k 0)) default).of).getD j 0)) rfl) <| s_nil <| W.region rfl <| s_val (x_mv (v := I (sumV ((valF ws (newF (l.take i)) ((orderP ws).take k) (List.replicate ws.length (-1))).set (Int.toNat ((orderP ws).getD k 0)) ((((newF (l.take i)) ((orderP ws).getD k 0)).getD default).value : Int)) (ws.getD (Int.toNat ((orderP ws).getD k 0)) default).base (ws.getD (Int.toNat ((orderP ws).getD k 0)) default).of j)) rfl) <| s_val (x_mv (v := I j) rfl) <| s_val (x_ari (a := j) (b := 1) (r := j + 1) rfl rfl rfl (by omega)) <| s_val (x_ld (p := .pointer (some ⟨b60, 0, none⟩)) (v := vo) rfl (ldb_sc Sc34 h_b60 rfl)) ?_
              refine s_val (x_mv (v := I (((ws.getD (Int.toNat ((orderP ws).getD k 0)) default).of).getD j 0)) rfl) <| s_val (x_ix (a := vo) (b := I (((ws.getD (Int.toNat ((orderP ws).getD k 0)) default).of).getD j 0)) (v := vat vo 1 (Int.toNat (((ws.getD (Int.toNat ((orderP ws).getD k 0)) default).of).getD j 0))) rfl rfl (Sl.ix (α := Int) T34.und T34.size (ho_vo.sl.mono (frm_le _ _)) (by omega) (by omega))) <| s_val (x_ld (p := vat vo 1 (Int.toNat (((ws.getD (Int.toNat ((orderP ws).getD k 0)) default).of).getD j 0))) (v := I (((valF ws (newF (l.take i)) ((orderP ws).take k) (List.replicate ws.length (-1))).set (Int.toNat ((orderP ws).getD k 0)) ((((newF (l.take i)) ((orderP ws).getD k 0)).getD default).value : Int)).getD (Int.toNat (((ws.getD (Int.toNat ((orderP ws).getD k 0)) default).of).getD j 0)) 0)) rfl (ld_sc Sc3 (At.up (Int_at ho_vo.sl (i := ((ws.getD (Int.toNat ((orderP ws).getD k 0)) default).of).getD j 0) (by omega) (by omega))))) <| s_val (x_ari (a := j + 1) (b := ((valF ws (newF (l.take i)) ((orderP ws).take k) (List.replicate ws.length (-1))).set (Int.toNat ((orderP ws).getD k 0)) ((((newF (l.take i)) ((orderP ws).getD k 0)).getD default).value : Int)).getD (Int.toNat (((ws.getD (Int.toNat ((orderP ws).getD k 0)) default).of).getD j 0)) 0) (r := (j + 1) * (((valF ws (newF (l.take i)) ((orderP ws).take k) (List.replicate ws.length (-1))).set (Int.toNat ((orderP ws).getD k 0)) ((((newF (l.take i)) ((orderP ws).getD k 0)).getD default).value : Int)).getD (Int.toNat (((ws.getD (Int.toNat ((orderP ws).getD k 0)) default).of).getD j 0)) 0)) rfl rfl rfl (by omega)) <| s_val (x_ari (a := sumV ((valF ws (newF (l.take i)) ((orderP ws).take k) (List.replicate ws.length (-1))).set (Int.toNat ((orderP ws).getD k 0)) ((((newF (l.take i)) ((orderP ws).getD k 0)).getD default).value : Int)) (ws.getD (Int.toNat ((orderP ws).getD k 0)) default).base (ws.getD (Int.toNat ((orderP ws).getD k 0)) default).of j) (b := (j + 1) * (((valF ws (newF (l.take i)) ((orderP ws).take k) (List.replicate ws.length (-1))).set (Int.toNat ((orderP ws).getD k 0)) ((((newF (l.take i)) ((orderP ws).getD k 0)).getD default).value : Int)).getD (Int.toNat (((ws.getD (Int.toNat ((orderP ws).getD k 0)) default).of).getD j 0)) 0)) (r := (sumV ((valF ws (newF (l.take i)) ((orderP ws).take k) (List.replicate ws.length (-1))).set (Int.toNat ((orderP ws).getD k 0)) ((((newF (l.take i)) ((orderP ws).getD k 0)).getD default).value : Int)) (ws.getD (Int.toNat ((orderP ws).getD k 0)) default).base (ws.getD (Int.toNat ((orderP ws).getD k 0)) default).of j) + ((j + 1) * (((valF ws (newF (l.take i)) ((orderP ws).take k) (List.replicate ws.length (-1))).set (Int.toNat ((orderP ws).getD k 0)) ((((newF (l.take i)) ((orderP ws).getD k 0)).getD default).value : Int)).getD (Int.toNat (((ws.getD (Int.toNat ((orderP ws).getD k 0)) default).of).getD j 0)) 0))) rfl rfl rfl (by omega)) <| s_val (x_as (v := I ((sumV ((valF ws (newF (l.take i)) ((orderP ws).take k) (List.replicate ws.length (-1))).set (Int.toNat ((orderP ws).getD k 0)) ((((newF (l.take i)) ((orderP ws).getD k 0)).getD default).value : Int)) (ws.getD (Int.toNat ((orderP ws).getD k 0)) default).base (ws.getD (Int.toNat ((orderP ws).getD k 0)) default).of j) + ((j + 1) * (((valF ws (newF (l.take i)) ((orderP ws).take k) (List.replicate ws.length (-1))).set (Int.toNat ((orderP ws).getD k 0)) ((((newF (l.take i)) ((orderP ws).getD k 0)).getD default).value : Int)).getD (Int.toNat (((ws.getD (Int.toNat ((orderP ws).getD k 0)) default).of).getD j 0)) 0)))) rfl) <| s_nil <| W.region rfl ?_
              refine s_val (x_ari (a := j) (b := 1) (r := j + 1) rfl rfl rfl (by omega)) <| s_val (x_mv (v := I (j + 1)) rfl) <| s_nil ?_
              exact ⟨_, (by omega), j+1, _, upds_of _ _ ⟨rfl, rfl, rfl, rfl, rfl, rfl, rfl, rfl, rfl, rfl, rfl, rfl, rfl, rfl, rfl, rfl, rfl, rfl, (eqI (by omega)), trivial⟩, rfl, E, K1, K14, h_b2, h_b9, h_b23, h_b60, h_b66, z59, ho_vo, (by omega)⟩
             ·simp only [q1, q2, q3, q4, q5, q6, ne_eq, q7] at c85
              refine W.exit ?_
              refine W.region rfl <| s_val (x_ld (p := .pointer (some ⟨b60, 0, none⟩)) (v := vo) rfl (ldb_sc Sc34 h_b60 rfl)) <| s_val (x_mv (v := I ((orderP ws).getD k 0)) rfl) <| s_val (x_mv (v := I (sumV ((valF ws (newF (l.take i)) ((orderP ws).take k) (List.replicate ws.length (-1))).set (Int.toNat ((orderP ws).getD k 0)) ((((newF (l.take i)) ((orderP ws).getD k 0)).getD default).value : Int)) (ws.getD (Int.toNat ((orderP ws).getD k 0)) default).base (ws.getD (Int.toNat ((orderP ws).getD k 0)) default).of j)) rfl) <| s_val (x_rem' (a := sumV ((valF ws (newF (l.take i)) ((orderP ws).take k) (List.replicate ws.length (-1))).set (Int.toNat ((orderP ws).getD k 0)) ((((newF (l.take i)) ((orderP ws).getD k 0)).getD default).value : Int)) (ws.getD (Int.toNat ((orderP ws).getD k 0)) default).base (ws.getD (Int.toNat ((orderP ws).getD k 0)) default).of j) (b := 1000003) rfl rfl (by omega)) <| s_val (x_ix (a := vo) (b := I ((orderP ws).getD k 0)) (v := vat vo 1 (Int.toNat ((orderP ws).getD k 0))) rfl rfl (Sl.ix (α := Int) T34.und T34.size (ho_vo.sl.mono (frm_le _ _)) (by omega) (by omega))) ?_
              refine s_ost ho_vo Sz3 (i := (orderP ws).getD k 0) (by omega) (by omega) ((sumV ((valF ws (newF (l.take i)) ((orderP ws).take k) (List.replicate ws.length (-1))).set (Int.toNat ((orderP ws).getD k 0)) ((((newF (l.take i)) ((orderP ws).getD k 0)).getD default).value : Int)) (ws.getD (Int.toNat ((orderP ws).getD k 0)) default).base (ws.getD (Int.toNat ((orderP ws).getD k 0)) default).of j) % 1000003 : Int) (val := I ((sumV ((valF ws (newF (l.take i)) ((orderP ws).take k) (List.replicate ws.length (-1))).set (Int.toNat ((orderP ws).getD k 0)) ((((newF (l.take i)) ((orderP ws).getD k 0)).getD default).value : Int)) (ws.getD (Int.toNat ((orderP ws).getD k 0)) default).base (ws.getD (Int.toNat ((orderP ws).getD k 0)) default).of j) % 1000003)) rfl rfl rfl ?_
              intro w88 ho2 g89
              replace E := E.grow g89 (by omega)
              replace z59 := Nat.le_trans z59 g89.size
              replace K1 := K1.grow g89 (by omega)
              replace K14 := K14.grow g89 (by omega)
              replace h_b2 := g89.get n_vo_b2 h_b2
              replace h_b9 := g89.get n_vo_b9 h_b9
              replace h_b23 := g89.get n_vo_b23 h_b23
              replace h_b60 := g89.get n_vo_b60 h_b60
              replace h_b66 := g89.get n_vo_b66 h_b66
              replace ho_vo := ho2
              clear g89
              refine s_nil <| W.region rfl <| s_val (x_ari (a := k) (b := 1) (r := k + 1) rfl rfl rfl (by omega)) <| s_val (x_mv (v := I (k + 1)) rfl) <| s_nil ?_
              exact ⟨_, (by omega), k+1, vo, _, upds_of _ _ ⟨rfl, rfl, rfl, rfl, rfl, (eqI (by omega)), trivial⟩, rfl, E, K1, K14, h_b2, h_b9, h_b23, h_b60, z59, (by rw [valF_next _ _ _ _ c65, val_set (noteV_yes c70) c81 c85 iv3_0]; exact ho_vo), n_vo_b2, n_vo_b9, n_vo_b23, n_vo_b60, (by omega)⟩
          ·skip
           have hob := hvb
           have hol := hvl
           refine W.skip <| W.seq <| W.seq <| W.region rfl <| s_val (x_ld (p := .pointer (some ⟨b2, 0, none⟩)) (v := vw) rfl (ldb_sc Sc22 h_b2 rfl)) <| s_val (x_mv (v := I ((orderP ws).getD k 0)) rfl) <| s_val (x_ix (a := vw) (b := I ((orderP ws).getD k 0)) (v := vat vw 3 (Int.toNat ((orderP ws).getD k 0))) rfl rfl (Sl.ix (α := Work) T22.und T22.size (hw.to K1) (by omega) (by omega))) <| s_val (x_fa (a := vat vw 3 (Int.toNat ((orderP ws).getD k 0))) (v := fat (vat vw 3 (Int.toNat ((orderP ws).getD k 0))) 0) rfl (fa_pl Fd60_0 Sz34 (Sl.pl (i := (orderP ws).getD k 0) hw (by omega) (by omega)))) ?_
           obtain ⟨u90, ha_u90, hs91⟩ := Work_at0 hw (i := (orderP ws).getD k 0) (by omega) (by omega)
           replace hs91 : Sl _ u90 (ws.getD (Int.toNat ((orderP ws).getD k 0)) default).of := hs91
           have hl_hs91 := hs91.len_le
           refine s_val (x_ld (p := fat (vat vw 3 (Int.toNat ((orderP ws).getD k 0))) 0) (v := u90) rfl (ld_sc Sc34 (At.to ha_u90 K1))) <| s_val (x_lenS T34.und rfl (hs91.to K1)) <| s_val (x_cmp (kd := .i64) (a := ((ws.getD (Int.toNat ((orderP ws).getD k 0)) default).of).length) (b := 0) (r := ((((ws.getD (Int.toNat ((orderP ws).getD k 0)) default).of).length) : Int) == 0) rfl rfl rfl) <| s_val (x_mv (v := B (((((ws.getD (Int.toNat ((orderP ws).getD k 0)) default).of).length) : Int) == 0)) rfl) <| g_val (!(((((ws.getD (Int.toNat ((orderP ws).getD k 0)) default).of).length) : Int) == 0)) (gy_f rfl) (fun hg => x_mf (fs := []) (cs := [.pointer (some ⟨b60, 0, none⟩)]) rfl rfl) <| g_val (!(((((ws.getD (Int.toNat ((orderP ws).getD k 0)) default).of).length) : Int) == 0)) (gy_f rfl) (fun hg => x_ld (p := .pointer (some ⟨b2, 0, none⟩)) (v := vw) rfl (ldb_sc Sc22 h_b2 rfl)) <| g_val (!(((((ws.getD (Int.toNat ((orderP ws).getD k 0)) default).of).length) : Int) == 0)) (gy_f rfl) (fun hg => x_mv (v := I ((orderP ws).getD k 0)) rfl) <| g_val (!(((((ws.getD (Int.toNat ((orderP ws).getD k 0)) default).of).length) : Int) == 0)) (gy_f rfl) (fun hg => x_ix (a := vw) (b := I ((orderP ws).getD k 0)) (v := vat vw 3 (Int.toNat ((orderP ws).getD k 0))) (gd_of (c := !(((((ws.getD (Int.toNat ((orderP ws).getD k 0)) default).of).length) : Int) == 0)) hg (vw)) (gd_of (c := !(((((ws.getD (Int.toNat ((orderP ws).getD k 0)) default).of).length) : Int) == 0)) hg (I ((orderP ws).getD k 0))) (Sl.ix (α := Work) T22.und T22.size (hw.to K1) (by first | omega | (simp at hg; omega) | (simp [inB] at hg; omega)) (by first | omega | (simp at hg; omega) | (simp [inB] at hg; omega)))) ?_
           refine g_val (!(((((ws.getD (Int.toNat ((orderP ws).getD k 0)) default).of).length) : Int) == 0)) (gy_f rfl) (fun hg => x_fa (a := vat vw 3 (Int.toNat ((orderP ws).getD k 0))) (v := fat (vat vw 3 (Int.toNat ((orderP ws).getD k 0))) 0) (gd_of (c := !(((((ws.getD (Int.toNat ((orderP ws).getD k 0)) default).of).length) : Int) == 0)) hg (vat vw 3 (Int.toNat ((orderP ws).getD k 0)))) (fa_pl Fd60_0 Sz34 (Sl.pl (i := (orderP ws).getD k 0) hw (by first | omega | (simp at hg; omega) | (simp [inB] at hg; omega)) (by first | omega | (simp at hg; omega) | (simp [inB] at hg; omega))))) ?_
           obtain ⟨u92, ha_u92, hs93⟩ := gd_ex (c := !(((((ws.getD (Int.toNat ((orderP ws).getD k 0)) default).of).length) : Int) == 0)) fun hg => Work_at0 hw (i := (orderP ws).getD k 0) (by first | omega | (simp at hg; omega) | (simp [inB] at hg; omega)) (by first | omega | (simp at hg; omega) | (simp [inB] at hg; omega))
           replace hs93 : (!(((((ws.getD (Int.toNat ((orderP ws).getD k 0)) default).of).length) : Int) == 0)) = true → Sl _ u92 (ws.getD (Int.toNat ((orderP ws).getD k 0)) default).of := hs93
           refine g_val (!(((((ws.getD (Int.toNat ((orderP ws).getD k 0)) default).of).length) : Int) == 0)) (gy_f rfl) (fun hg => x_ld (p := fat (vat vw 3 (Int.toNat ((orderP ws).getD k 0))) 0) (v := u92) (gd_of (c := !(((((ws.getD (Int.toNat ((orderP ws).getD k 0)) default).of).length) : Int) == 0)) hg (fat (vat vw 3 (Int.toNat ((orderP ws).getD k 0))) 0)) (ld_sc Sc34 (At.to (ha_u92 hg) K1))) ?_
           refine g_call (!(((((ws.getD (Int.toNat ((orderP ws).getD k 0)) default).of).length) : Int) == 0)) (gy_f rfl) cf87 (B (((ws.getD (Int.toNat ((orderP ws).getD k 0)) default).of).all (fun z_ : Int => (valF ws (newF (l.take i)) ((orderP ws).take k) (List.replicate ws.length (-1))).getD z_.toNat 0 != -1))) (fun _ => [.func (.func 88) #[] #[.pointer (some ⟨b60, 0, none⟩)], u92]) (fun hg => lst2 (gd_of (c := !(((((ws.getD (Int.toNat ((orderP ws).getD k 0)) default).of).length) : Int) == 0)) hg (.func (.func 88) #[] #[.pointer (some ⟨b60, 0, none⟩)])) (gd_of (c := !(((((ws.getD (Int.toNat ((orderP ws).getD k 0)) default).of).length) : Int) == 0)) hg (u92))) (fun hg => (every_int _ ((hs93 hg).to K1) ⟨88, [.pointer (some ⟨b60, 0, none⟩)], rfl, cf88, fun w' v x hE hD hA => by obtain rfl := Arg.int hA; exact (values3 _ _ (hE.get h_b60) ((ho_vo.sl.mono (frm_le _ _)).mono hE.le) (hof _ hD).1 (by have := (hof _ hD).2.1; omega))⟩)) ?_
           intro w94 x95
           replace E := E.trans x95
           replace z59 := Nat.le_trans z59 x95.size
           replace K1 := K1.ext x95
           replace K14 := K14.ext x95
           replace h_b2 := x95.get h_b2
           replace h_b9 := x95.get h_b9
           replace h_b23 := x95.get h_b23
           replace h_b60 := x95.get h_b60
           replace h_b66 := x95.get h_b66
           replace ho_vo := ho_vo.ext x95
           clear x95
           refine g_val (!(((((ws.getD (Int.toNat ((orderP ws).getD k 0)) default).of).length) : Int) == 0)) (gy_f rfl) (fun hg => x_not (b := ((ws.getD (Int.toNat ((orderP ws).getD k 0)) default).of).all (fun z_ : Int => (valF ws (newF (l.take i)) ((orderP ws).take k) (List.replicate ws.length (-1))).getD z_.toNat 0 != -1)) (gd_of (c := !(((((ws.getD (Int.toNat ((orderP ws).getD k 0)) default).of).length) : Int) == 0)) hg (B (((ws.getD (Int.toNat ((orderP ws).getD k 0)) default).of).all (fun z_ : Int => (valF ws (newF (l.take i)) ((orderP ws).take k) (List.replicate ws.length (-1))).getD z_.toNat 0 != -1))))) <| s_val (x_por (b := ((((ws.getD (Int.toNat ((orderP ws).getD k 0)) default).of).length) : Int) == 0) (r := !(((ws.getD (Int.toNat ((orderP ws).getD k 0)) default).of).all (fun z_ : Int => (valF ws (newF (l.take i)) ((orderP ws).take k) (List.replicate ws.length (-1))).getD z_.toNat 0 != -1))) rfl rfl (fun hb => gd_of (c := !(((((ws.getD (Int.toNat ((orderP ws).getD k 0)) default).of).length) : Int) == 0)) (by simp_all) (B (!(((ws.getD (Int.toNat ((orderP ws).getD k 0)) default).of).all (fun z_ : Int => (valF ws (newF (l.take i)) ((orderP ws).take k) (List.replicate ws.length (-1))).getD z_.toNat 0 != -1)))))) <| s_nil ?_
           refine W.cond (((((((ws.getD (Int.toNat ((orderP ws).getD k 0)) default).of).length) : Int) == 0) || (!(((ws.getD (Int.toNat ((orderP ws).getD k 0)) default).of).all (fun z_ : Int => (valF ws (newF (l.take i)) ((orderP ws).take k) (List.replicate ws.length (-1))).getD z_.toNat 0 != -1))))) rfl (fun c96 => ?_) (fun c96 => ?_)
           ·skip
            refine W.exit ?_
            refine W.region rfl <| s_val (x_ari (a := k) (b := 1) (r := k + 1) rfl rfl rfl (by omega)) <| s_val (x_mv (v := I (k + 1)) rfl) <| s_nil ?_
            exact ⟨_, (by omega), k+1, vo, _, upds_of _ _ ⟨rfl, rfl, rfl, rfl, rfl, (eqI (by omega)), trivial⟩, rfl, E, K1, K14, h_b2, h_b9, h_b23, h_b60, z59, (by rw [valF_next _ _ _ _ c65, val_skip (noteV_no c70) c96]; exact ho_vo), n_vo_b2, n_vo_b9, n_vo_b23, n_vo_b60, (by omega)⟩
           ·skip
            refine W.skip <| W.seq <| W.region rfl <| s_val (x_ld (p := .pointer (some ⟨b2, 0, none⟩)) (v := vw) rfl (ldb_sc Sc22 h_b2 rfl)) <| s_val (x_mv (v := I ((orderP ws).getD k 0)) rfl) <| s_val (x_ix (a := vw) (b := I ((orderP ws).getD k 0)) (v := vat vw 3 (Int.toNat ((orderP ws).getD k 0))) rfl rfl (Sl.ix (α := Work) T22.und T22.size (hw.to K1) (by omega) (by omega))) <| s_val (x_fa (a := vat vw 3 (Int.toNat ((orderP ws).getD k 0))) (v := fat (vat vw 3 (Int.toNat ((orderP ws).getD k 0))) 1) rfl (fa_pl Fd60_1 Sz3 (Sl.pl (i := (orderP ws).getD k 0) hw (by omega) (by omega)))) <| s_val (x_ld (p := fat (vat vw 3 (Int.toNat ((orderP ws).getD k 0))) 1) (v := I ((ws.getD (Int.toNat ((orderP ws).getD k 0)) default).base)) rfl (ld_sc Sc3 (At.to (Work_at1 hw (i := (orderP ws).getD k 0) (by omega) (by omega)) K1))) ?_
            refine s_val (x_as (v := I ((ws.getD (Int.toNat ((orderP ws).getD k 0)) default).base)) rfl) <| s_nil <| W.seq <| W.seq <| W.region rfl <| s_val (x_ld (p := .pointer (some ⟨b2, 0, none⟩)) (v := vw) rfl (ldb_sc Sc22 h_b2 rfl)) <| s_val (x_mv (v := I ((orderP ws).getD k 0)) rfl) <| s_val (x_ix (a := vw) (b := I ((orderP ws).getD k 0)) (v := vat vw 3 (Int.toNat ((orderP ws).getD k 0))) rfl rfl (Sl.ix (α := Work) T22.und T22.size (hw.to K1) (by omega) (by omega))) ?_
            refine s_val (x_fa (a := vat vw 3 (Int.toNat ((orderP ws).getD k 0))) (v := fat (vat vw 3 (Int.toNat ((orderP ws).getD k 0))) 0) rfl (fa_pl Fd60_0 Sz34 (Sl.pl (i := (orderP ws).getD k 0) hw (by omega) (by omega)))) ?_
            obtain ⟨u97, ha_u97, hs98⟩ := Work_at0 hw (i := (orderP ws).getD k 0) (by omega) (by omega)
            replace hs98 : Sl _ u97 (ws.getD (Int.toNat ((orderP ws).getD k 0)) default).of := hs98
            have hl_hs98 := hs98.len_le
            refine s_val (x_ld (p := fat (vat vw 3 (Int.toNat ((orderP ws).getD k 0))) 0) (v := u97) rfl (ld_sc Sc34 (At.to ha_u97 K1))) <| s_val (x_lenS T34.und rfl (hs98.to K1)) <| s_val (x_mv (v := I 0) rfl) <| s_nil <| W.block ?_
            have hkv := known_vals c96 (O := valF ws (newF (l.take i)) ((orderP ws).take k) (List.replicate ws.length (-1))) hob (by intro q hq; have h1 := hof q hq; have h2 := hol; omega)
            refine W.loop (fun m σ W => ∃ (j : Nat) (ρ : Env), σ = upds ρ [(2, .pointer (some ⟨b2, 0, none⟩)), (9, .map (some b23)), (16, .pointer (some ⟨b60, 0, none⟩)), (18, I ((orderP ws).getD k 0)), (21, I (sumV (valF ws (newF (l.take i)) ((orderP ws).take k) (List.replicate ws.length (-1))) (ws.getD (Int.toNat ((orderP ws).getD k 0)) default).base (ws.getD (Int.toNat ((orderP ws).getD k 0)) default).of j)), (106, so10), (107, I ((orderP ws).length)), (108, I k), (132, gd (!(((((ws.getD (Int.toNat ((orderP ws).getD k 0)) default).of).length) : Int) == 0)) (.func (.func 88) #[] #[.pointer (some ⟨b60, 0, none⟩)])), (133, gd (!(((((ws.getD (Int.toNat ((orderP ws).getD k 0)) default).of).length) : Int) == 0)) vw), (134, gd (!(((((ws.getD (Int.toNat ((orderP ws).getD k 0)) default).of).length) : Int) == 0)) (I ((orderP ws).getD k 0))), (135, gd (!(((((ws.getD (Int.toNat ((orderP ws).getD k 0)) default).of).length) : Int) == 0)) (vat vw 3 (Int.toNat ((orderP ws).getD k 0)))), (136, gd (!(((((ws.getD (Int.toNat ((orderP ws).getD k 0)) default).of).length) : Int) == 0)) (fat (vat vw 3 (Int.toNat ((orderP ws).getD k 0))) 0)), (137, gd (!(((((ws.getD (Int.toNat ((orderP ws).getD k 0)) default).of).length) : Int) == 0)) u92), (138, gd (!(((((ws.getD (Int.toNat ((orderP ws).getD k 0)) default).of).length) : Int) == 0)) (B (((ws.getD (Int.toNat ((orderP ws).getD k 0)) default).of).all (fun z_ : Int => (valF ws (newF (l.take i)) ((orderP ws).take k) (List.replicate ws.length (-1))).getD z_.toNat 0 != -1)))), (139, gd (!(((((ws.getD (Int.toNat ((orderP ws).getD k 0)) default).of).length) : Int) == 0)) (B (!(((ws.getD (Int.toNat ((orderP ws).getD k 0)) default).of).all (fun z_ : Int => (valF ws (newF (l.take i)) ((orderP ws).take k) (List.replicate ws.length (-1))).getD z_.toNat 0 != -1))))), (150, u97), (151, I (((ws.getD (Int.toNat ((orderP ws).getD k 0)) default).of).length)), (152, I j)] ∧ m = (ws.getD (Int.toNat ((orderP ws).getD k 0)) default).of.length - j ∧ Ext w W ∧ KF 0 w W ∧ KF w3.heap.size w4 W ∧ W.heap[b2]? = some (.cells #[vw] 22 (0, 0)) ∧ W.heap[b9]? = some (.cells #[vw] 187 (0, 0)) ∧ W.heap[b23]? = some (.map es_b23 ck_b23) ∧ W.heap[b60]? = some (.cells #[vo] 34 (0, 0)) ∧ W.heap[b66]? = some (.cells #[I ((((newF (l.take i)) ((orderP ws).getD k 0)).getD default).work), I ((((newF (l.take i)) ((orderP ws).getD k 0)).getD default).version), I ((((newF (l.take i)) ((orderP ws).getD k 0)).getD default).value)] 30 (0, 0)) ∧ w51.heap.size ≤ W.heap.size ∧ OwnF w51.heap.size 3 W vo (valF ws (newF (l.take i)) ((orderP ws).take k) (List.replicate ws.length (-1))) ∧ j ≤ (ws.getD (Int.toNat ((orderP ws).getD k 0)) default).of.length) ?_ ?_
            ·exact ⟨_, 0, _, upds_of _ _ ⟨rfl, rfl, rfl, rfl, rfl, rfl, rfl, rfl, rfl, rfl, rfl, rfl, rfl, rfl, rfl, rfl, rfl, rfl, (eqI (by omega)), trivial⟩, rfl, E, K1, K14, h_b2, h_b9, h_b23, h_b60, h_b66, z59, ho_vo, (Nat.zero_le _)⟩
            ·rintro m σ w99 ⟨j, ρ, rfl, rfl, E, K1, K14, h_b2, h_b9, h_b23, h_b60, h_b66, z59, ho_vo, iv4_0⟩
             have hsb := sumV_b (out := valF ws (newF (l.take i)) ((orderP ws).take k) (List.replicate ws.length (-1))) (base := (ws.getD (Int.toNat ((orderP ws).getD k 0)) default).base) (of := (ws.getD (Int.toNat ((orderP ws).getD k 0)) default).of) ⟨hmn.1, hmn.2.1⟩ ho5 hkv j iv4_0
             refine W.seq <| W.region rfl <| s_val (x_cmp (kd := .i64) (a := j) (b := ((ws.getD (Int.toNat ((orderP ws).getD k 0)) default).of).length) (r := decide ((j : Int) < (((ws.getD (Int.toNat ((orderP ws).getD k 0)) default).of).length))) rfl rfl rfl) <| s_nil <| W.seq ?_
             refine W.cond (decide ((j : Int) < (((ws.getD (Int.toNat ((orderP ws).getD k 0)) default).of).length))) rfl (fun c100 => ?_) (fun c100 => ?_)
             ·simp only [q1, q2, q3, q4, q5, q6, ne_eq, q7] at c100
              have hj := hof _ (getD_memN _ c100 0)
              have hjv := hkv _ (getD_memN _ c100 0)
              have hpr := prod_b (a := (j : Int) + 1) (by omega) (by omega) hjv.1 hjv.2
              refine W.skip <| W.seq <| W.block <| W.seq <| W.region rfl <| s_val (x_mv (v := I j) rfl) <| s_val (x_ix (a := u97) (b := I j) (v := vat u97 1 (Int.toNat j)) rfl rfl (Sl.ix (α := Int) T34.und T34.size (hs98.to K1) (by omega) (by omega))) <| s_val (x_ld (p := vat u97 1 (Int.toNat j)) (v := I (((ws.getD (Int.toNat ((orderP ws).getD k 0)) default).of).getD j 0)) rfl (ld_sc Sc3 (At.to (Int_at hs98 (i := j) (by omega) (by omega)) K1))) ?_
              refine s_val (x_as (v := I j) rfl) <| s_val (x_as (v := I (((ws.getD (Int.toNat ((orderP ws).getD k 0)) default).of).getD j 0)) rfl) <| s_nil <| W.region rfl <| s_val (x_mv (v := I (sumV (valF ws (newF (l.take i)) ((orderP ws).take k) (List.replicate ws.length (-1))) (ws.getD (Int.toNat ((orderP ws).getD k 0)) default).base (ws.getD (Int.toNat ((orderP ws).getD k 0)) default).of j)) rfl) <| s_val (x_mv (v := I j) rfl) <| s_val (x_ari (a := j) (b := 1) (r := j + 1) rfl rfl rfl (by omega)) <| s_val (x_ld (p := .pointer (some ⟨b60, 0, none⟩)) (v := vo) rfl (ldb_sc Sc34 h_b60 rfl)) ?_
              refine s_val (x_mv (v := I (((ws.getD (Int.toNat ((orderP ws).getD k 0)) default).of).getD j 0)) rfl) <| s_val (x_ix (a := vo) (b := I (((ws.getD (Int.toNat ((orderP ws).getD k 0)) default).of).getD j 0)) (v := vat vo 1 (Int.toNat (((ws.getD (Int.toNat ((orderP ws).getD k 0)) default).of).getD j 0))) rfl rfl (Sl.ix (α := Int) T34.und T34.size (ho_vo.sl.mono (frm_le _ _)) (by omega) (by omega))) <| s_val (x_ld (p := vat vo 1 (Int.toNat (((ws.getD (Int.toNat ((orderP ws).getD k 0)) default).of).getD j 0))) (v := I ((valF ws (newF (l.take i)) ((orderP ws).take k) (List.replicate ws.length (-1))).getD (Int.toNat (((ws.getD (Int.toNat ((orderP ws).getD k 0)) default).of).getD j 0)) 0)) rfl (ld_sc Sc3 (At.up (Int_at ho_vo.sl (i := ((ws.getD (Int.toNat ((orderP ws).getD k 0)) default).of).getD j 0) (by omega) (by omega))))) <| s_val (x_ari (a := j + 1) (b := (valF ws (newF (l.take i)) ((orderP ws).take k) (List.replicate ws.length (-1))).getD (Int.toNat (((ws.getD (Int.toNat ((orderP ws).getD k 0)) default).of).getD j 0)) 0) (r := (j + 1) * ((valF ws (newF (l.take i)) ((orderP ws).take k) (List.replicate ws.length (-1))).getD (Int.toNat (((ws.getD (Int.toNat ((orderP ws).getD k 0)) default).of).getD j 0)) 0)) rfl rfl rfl (by omega)) <| s_val (x_ari (a := sumV (valF ws (newF (l.take i)) ((orderP ws).take k) (List.replicate ws.length (-1))) (ws.getD (Int.toNat ((orderP ws).getD k 0)) default).base (ws.getD (Int.toNat ((orderP ws).getD k 0)) default).of j) (b := (j + 1) * ((valF ws (newF (l.take i)) ((orderP ws).take k) (List.replicate ws.length (-1))).getD (Int.toNat (((ws.getD (Int.toNat ((orderP ws).getD k 0)) default).of).getD j 0)) 0)) (r := (sumV (valF ws (newF (l.take i)) ((orderP ws).take k) (List.replicate ws.length (-1))) (ws.getD (Int.toNat ((orderP ws).getD k 0)) default).base (ws.getD (Int.toNat ((orderP ws).getD k 0)) default).of j) + ((j + 1) * ((valF ws (newF (l.take i)) ((orderP ws).take k) (List.replicate ws.length (-1))).getD (Int.toNat (((ws.getD (Int.toNat ((orderP ws).getD k 0)) default).of).getD j 0)) 0))) rfl rfl rfl (by omega)) <| s_val (x_as (v := I ((sumV (valF ws (newF (l.take i)) ((orderP ws).take k) (List.replicate ws.length (-1))) (ws.getD (Int.toNat ((orderP ws).getD k 0)) default).base (ws.getD (Int.toNat ((orderP ws).getD k 0)) default).of j) + ((j + 1) * ((valF ws (newF (l.take i)) ((orderP ws).take k) (List.replicate ws.length (-1))).getD (Int.toNat (((ws.getD (Int.toNat ((orderP ws).getD k 0)) default).of).getD j 0)) 0)))) rfl) <| s_nil <| W.region rfl ?_
              refine s_val (x_ari (a := j) (b := 1) (r := j + 1) rfl rfl rfl (by omega)) <| s_val (x_mv (v := I (j + 1)) rfl) <| s_nil ?_
              exact ⟨_, (by omega), j+1, _, upds_of _ _ ⟨rfl, rfl, rfl, rfl, rfl, rfl, rfl, rfl, rfl, rfl, rfl, rfl, rfl, rfl, rfl, rfl, rfl, rfl, (eqI (by omega)), trivial⟩, rfl, E, K1, K14, h_b2, h_b9, h_b23, h_b60, h_b66, z59, ho_vo, (by omega)⟩
             ·simp only [q1, q2, q3, q4, q5, q6, ne_eq, q7] at c100
              refine W.exit ?_
              refine W.region rfl <| s_val (x_ld (p := .pointer (some ⟨b60, 0, none⟩)) (v := vo) rfl (ldb_sc Sc34 h_b60 rfl)) <| s_val (x_mv (v := I ((orderP ws).getD k 0)) rfl) <| s_val (x_mv (v := I (sumV (valF ws (newF (l.take i)) ((orderP ws).take k) (List.replicate ws.length (-1))) (ws.getD (Int.toNat ((orderP ws).getD k 0)) default).base (ws.getD (Int.toNat ((orderP ws).getD k 0)) default).of j)) rfl) <| s_val (x_rem' (a := sumV (valF ws (newF (l.take i)) ((orderP ws).take k) (List.replicate ws.length (-1))) (ws.getD (Int.toNat ((orderP ws).getD k 0)) default).base (ws.getD (Int.toNat ((orderP ws).getD k 0)) default).of j) (b := 1000003) rfl rfl (by omega)) <| s_val (x_ix (a := vo) (b := I ((orderP ws).getD k 0)) (v := vat vo 1 (Int.toNat ((orderP ws).getD k 0))) rfl rfl (Sl.ix (α := Int) T34.und T34.size (ho_vo.sl.mono (frm_le _ _)) (by omega) (by omega))) ?_
              refine s_ost ho_vo Sz3 (i := (orderP ws).getD k 0) (by omega) (by omega) ((sumV (valF ws (newF (l.take i)) ((orderP ws).take k) (List.replicate ws.length (-1))) (ws.getD (Int.toNat ((orderP ws).getD k 0)) default).base (ws.getD (Int.toNat ((orderP ws).getD k 0)) default).of j) % 1000003 : Int) (val := I ((sumV (valF ws (newF (l.take i)) ((orderP ws).take k) (List.replicate ws.length (-1))) (ws.getD (Int.toNat ((orderP ws).getD k 0)) default).base (ws.getD (Int.toNat ((orderP ws).getD k 0)) default).of j) % 1000003)) rfl rfl rfl ?_
              intro w103 ho2 g104
              replace E := E.grow g104 (by omega)
              replace z59 := Nat.le_trans z59 g104.size
              replace K1 := K1.grow g104 (by omega)
              replace K14 := K14.grow g104 (by omega)
              replace h_b2 := g104.get n_vo_b2 h_b2
              replace h_b9 := g104.get n_vo_b9 h_b9
              replace h_b23 := g104.get n_vo_b23 h_b23
              replace h_b60 := g104.get n_vo_b60 h_b60
              replace h_b66 := g104.get n_vo_b66 h_b66
              replace ho_vo := ho2
              clear g104
              refine s_nil <| W.region rfl <| s_val (x_ari (a := k) (b := 1) (r := k + 1) rfl rfl rfl (by omega)) <| s_val (x_mv (v := I (k + 1)) rfl) <| s_nil ?_
              exact ⟨_, (by omega), k+1, vo, _, upds_of _ _ ⟨rfl, rfl, rfl, rfl, rfl, (eqI (by omega)), trivial⟩, rfl, E, K1, K14, h_b2, h_b9, h_b23, h_b60, z59, (by rw [valF_next _ _ _ _ c65, val_set (noteV_no c70) c96 c100 iv4_0]; exact ho_vo), n_vo_b2, n_vo_b9, n_vo_b23, n_vo_b60, (by omega)⟩
         ·simp only [q1, q2, q3, q4, q5, q6, ne_eq, q7] at c65
          refine W.exit ?_
          refine W.seq <| W.region rfl <| s_val (x_ld (p := .pointer (some ⟨b60, 0, none⟩)) (v := vo) rfl (ldb_sc Sc34 h_b60 rfl)) <| s_val (x_as (v := vo) rfl) <| s_val (x_as (v := I 0) rfl) <| s_nil ?_
          refine W.ret ?_
          exact ⟨_, resE_tmp2 rfl, vo, (by rw [(v_ok hO c16 c19 c22 c26 iv0_0 iv0_1).1]; rfl), (by have hq := (ho_vo.dn (B' := w.heap.size) (by omega)).sl; rw [(v_ok hO c16 c19 c22 c26 iv0_0 iv0_1).2]; rw [List.take_of_length_le (l := l) (by omega), List.take_of_length_le (l := orderP ws) (by omega)] at hq; exact hq), E⟩

end Go.Proofs.Ytndobgodeicloaa
namespace Go.Nm
def pubB (ws : List Work) (p : List Pub) : Bool := p.all fun x => inB x.work 0 ((ws.length : Int) - 1)
def wdAt (v : List Int) (x : Pub) : Bool := (v.getD x.work.toNat 0 == -1) || (v.getD x.work.toNat 0 != x.value)
def wdT (v : List Int) (p : List Pub) (n : Nat) : List Int := ((List.range n).filter fun j => wdAt v (p.getD j default)).map (fun j : Nat => (j : Int))
theorem wdT_next (v : List Int) (p : List Pub) (n : Nat) : wdT v p (n + 1) = if wdAt v (p.getD n default) = true then wdT v p n ++ [(n : Int)] else wdT v p n := by
  unfold wdT
  rw [List.range_succ, List.filter_append]
  split
  · rename_i h; simp only [List.filter_cons, h, if_true, List.filter_nil, List.map_append, List.map_cons, List.map_nil]
  · rename_i h; simp only [List.filter_cons, h, List.filter_nil, Bool.false_eq_true, if_false, List.append_nil]
theorem wdT_len (v : List Int) (p : List Pub) (n : Nat) : (wdT v p n).length ≤ n := by
  unfold wdT
  rw [List.length_map]
  exact Nat.le_trans (List.length_filter_le _ _) (by simp)
def withdrawnE (ws : List Work) (l : List Note) (p : List Pub) : Int := if valuesE ws l ≠ 0 then valuesE ws l else if 200 < (p.length : Int) then 3 else if (!(pubB ws p)) = true then 2 else 0
/-- The publications that are withdrawn, if there is no error. -/
def withdrawnR (ws : List Work) (l : List Note) (p : List Pub) : List Int := if withdrawnE ws l p = 0 then wdT (valuesR ws l) p p.length else []
theorem w_err {ws : List Work} {l : List Note} {p : List Pub} {e : Int} (h : withdrawnE ws l p = e) (he : e ≠ 0) : withdrawnR ws l p = [] := by unfold withdrawnR; rw [h, if_neg he]
theorem w_wrong {ws : List Work} {l : List Note} {p : List Pub} (h : ¬ valuesE ws l = 0) : withdrawnE ws l p = valuesE ws l := by unfold withdrawnE; rw [if_pos h]
theorem w_many {ws : List Work} {l : List Note} {p : List Pub} (h : valuesE ws l = 0) (c : 200 < (p.length : Int)) : withdrawnE ws l p = 3 := by unfold withdrawnE; rw [if_neg (by simp [h]), if_pos c]
theorem w_arg {ws : List Work} {l : List Note} {p : List Pub} (h : valuesE ws l = 0) (c : ¬ 200 < (p.length : Int)) (c2 : (!(pubB ws p)) = true) : withdrawnE ws l p = 2 := by unfold withdrawnE; rw [if_neg (by simp [h]), if_neg c, if_pos c2]
theorem w_ok {ws : List Work} {l : List Note} {p : List Pub} {i : Nat} (h : valuesE ws l = 0) (c : ¬ 200 < (p.length : Int)) (c2 : (!(pubB ws p)) = false) (hi : ¬ (i : Int) < p.length) (hle : i ≤ p.length) :
    withdrawnE ws l p = 0 ∧ withdrawnR ws l p = wdT (valuesR ws l) p i := by
  obtain rfl : i = p.length := by omega
  have : withdrawnE ws l p = 0 := by unfold withdrawnE; rw [if_neg (by simp [h]), if_neg c, if_neg (by rw [c2]; decide)]
  exact ⟨this, by unfold withdrawnR; rw [this, if_pos rfl]⟩
theorem pub_rng {ws : List Work} {p : List Pub} (c2 : (!(pubB ws p)) = false) {i : Nat} (hi : (i : Int) < p.length) : 0 ≤ (p.getD i default).work ∧ (p.getD i default).work < ws.length := by
  simp only [Bool.not_eq_false'] at c2
  have := List.all_eq_true.1 c2 _ (getD_memN p hi default)
  simp [inB, -List.getD_eq_getElem?_getD] at this
  omega
theorem valuesR_len {ws : List Work} {l : List Note} (h : valuesE ws l = 0) : (valuesR ws l).length = ws.length := by
  unfold valuesR valL
  rw [if_pos h, valF_len]
  simp
end Go.Nm
namespace Go.Proofs.Ytndobgodeicloaa
open Go Go.Nm
set_option maxRecDepth 100000 in
theorem withdrawn1 {b : Nat} {vw : Value} {ws : List Work} (x : Pub) (w : World) (h_b : w.heap[b]? = some (.cells #[vw] 22 (0, 0))) (hw : Sl w.cell? vw ws) : Ret Try.prog 91 #[.agg #[I x.work, I x.value], .pointer (some ⟨b, 0, none⟩)] w fun v w' => v = B (inB x.work 0 ((ws.length : Int) - 1)) ∧ Ext w w' := by
 refine ret_of_W Try.func91 rfl rfl rfl ?_
 have E := Ext.refl w
 have K1 := KF.refl 0 w
 have hl_hw := hw.len_le
 have hw := hw.par
 refine W.seq <| W.region rfl ?_
 refine s_box (v := .agg #[I x.work, I x.value]) (cs := [I x.work, I x.value]) rfl rfl ?_
 intro b2 w3 Nb2
 have o_K1_b2 := Nat.le_trans K1.size Nb2.ge
 have o_b2 := Nat.le_trans E.size Nb2.ge
 have o_b_b2 := Nat.lt_of_lt_of_le (heap_lt h_b) Nb2.ge
 replace E := E.trans Nb2.ext
 replace K1 := K1.ext Nb2.ext
 replace h_b := Nb2.ext.get h_b
 have h_b2 := Nb2.same
 clear Nb2
 refine s_val (x_as (v := B false) rfl) <| s_nil <| W.seq <| W.region rfl <| s_val (x_fa (a := .pointer (some ⟨b2, 0, none⟩)) (v := .pointer (some ⟨b2, 0, none⟩)) rfl (fa_blk (o := 0) Fd33_0 Sz3)) <| s_val (x_ld (p := .pointer (some ⟨b2, 0, none⟩)) (v := I x.work) rfl (ldb_sc Sc3 h_b2 rfl)) <| s_val (x_ld (p := .pointer (some ⟨b, 0, none⟩)) (v := vw) rfl (ldb_sc Sc22 h_b rfl)) <| s_val (x_lenS T22.und rfl (hw.to K1)) ?_
 refine s_val (x_ari (a := ws.length) (b := 1) (r := ws.length - 1) rfl rfl rfl (by omega)) ?_
 refine s_call cf84 [I x.work, I 0, I (ws.length - 1)] rfl (in_any _ _ _ _) ?_
 rintro _ w4 ⟨rfl, x5⟩
 replace E := E.trans x5
 replace K1 := K1.ext x5
 replace h_b := x5.get h_b
 replace h_b2 := x5.get h_b2
 clear x5
 refine s_val (x_as (v := B (inB x.work 0 (ws.length - 1))) rfl) <| s_nil ?_
 refine W.ret ?_
 exact ⟨_, resE_tmp rfl, rfl, E⟩

set_option maxRecDepth 100000 in
theorem Withdrawn_any {vw vl vp : Value} {ws : List Work} {l : List Note} {p : List Pub} (w : World) (hw : Sl w.cell? vw ws) (hl : Sl w.cell? vl l) (hp : Sl w.cell? vp p) : Ret Try.prog 26 #[vw, vl, vp] w fun v w' => ∃ u, v = .tuple #[u, I (withdrawnE ws l p)] ∧ Sl (frm w' w.heap.size) u (withdrawnR ws l p) ∧ Ext w w' := by
 refine ret_of_W Try.func26 rfl rfl rfl ?_
 have E := Ext.refl w
 have K1 := KF.refl 0 w
 have hl_hw := hw.len_le
 have hw := hw.par
 have hl_hl := hl.len_le
 have hl := hl.par
 have hl_hp := hp.len_le
 have hp := hp.par
 refine W.seq <| W.region rfl ?_
 refine s_box (v := vw) (cs := [vw]) rfl (Sl.cells (hw.to K1)) ?_
 intro b2 w3 Nb2
 have o_K1_b2 := Nat.le_trans K1.size Nb2.ge
 have o_b2 := Nat.le_trans E.size Nb2.ge
 replace E := E.trans Nb2.ext
 replace K1 := K1.ext Nb2.ext
 have h_b2 := Nb2.same
 clear Nb2
 refine s_val (x_as (v := .slice none 0 0) rfl) <| s_val (x_as (v := I 0) rfl) <| s_nil <| W.seq <| W.region rfl <| s_val (x_ld (p := .pointer (some ⟨b2, 0, none⟩)) (v := vw) rfl (ldb_sc Sc22 h_b2 rfl)) <| s_val (x_mv (v := vl) rfl) ?_
 refine s_call cf21 [vw, vl] rfl (Values_any _ (hw.to K1) (hl.to K1)) ?_
 rintro _ w4 ⟨u6, rfl, hs7, x5⟩
 replace E := E.trans x5
 replace K1 := K1.ext x5
 replace h_b2 := x5.get h_b2
 clear x5
 have hl_hs7 := hs7.len_le
 have K8 := KF.refl w3.heap.size w4
 refine s_val (x_mv (v := .tuple #[u6, I (valuesE ws l)]) rfl) <| s_val (x_ext (vs := [u6, I (valuesE ws l)]) (v := u6) rfl rfl) <| s_val (x_ext (vs := [u6, I (valuesE ws l)]) (v := I (valuesE ws l)) rfl rfl) <| s_val (x_as (v := u6) rfl) <| s_val (x_as (v := I (valuesE ws l)) rfl) <| s_nil <| W.seq <| W.block ?_
 refine W.seq <| W.region rfl <| s_val (x_mv (v := I (valuesE ws l)) rfl) <| s_val (x_cmp (kd := .i64) (a := valuesE ws l) (b := 0) (r := (valuesE ws l : Int) != 0) rfl rfl rfl) <| s_val (x_as (v := B ((valuesE ws l : Int) != 0)) rfl) <| s_nil ?_
 refine W.cond ((valuesE ws l : Int) != 0) rfl (fun c9 => ?_) (fun c9 => ?_)
 ·simp only [q1, q2, q3, q4, q5, q6, ne_eq, q7] at c9
  refine W.seq <| W.region rfl <| s_val (x_mv (v := I (valuesE ws l)) rfl) <| s_val (x_as (v := .slice none 0 0) rfl) <| s_val (x_as (v := I (valuesE ws l)) rfl) <| s_nil ?_
  refine W.ret ?_
  exact ⟨_, resE_tmp2 rfl, .slice none 0 0, (by rw [w_wrong c9]; rfl), (by rw [w_err (w_wrong c9) (by first | decide | exact c9)]; exact Sl.nil _), E⟩
 ·simp only [q1, q2, q3, q4, q5, q6, ne_eq, q7] at c9
  have hvl := valuesR_len c9
  refine W.seq <| W.region rfl <| s_val (x_mv (v := vp) rfl) <| s_val (x_lenS T24.und rfl (hp.to K1)) <| s_val (x_cmp (kd := .i64) (a := p.length) (b := 200) (r := decide ((200 : Int) < p.length)) rfl rfl rfl) <| s_val (x_as (v := B (decide ((200 : Int) < p.length))) rfl) <| s_nil ?_
  refine W.cond (decide ((200 : Int) < p.length)) rfl (fun c10 => ?_) (fun c10 => ?_)
  ·simp only [q1, q2, q3, q4, q5, q6, ne_eq, q7] at c10
   refine W.seq <| W.region rfl <| s_val (x_as (v := .slice none 0 0) rfl) <| s_val (x_as (v := I 3) rfl) <| s_nil ?_
   refine W.ret ?_
   exact ⟨_, resE_tmp2 rfl, .slice none 0 0, (by rw [w_many c9 c10]; rfl), (by rw [w_err (w_many c9 c10) (by first | decide | exact c9)]; exact Sl.nil _), E⟩
  ·simp only [q1, q2, q3, q4, q5, q6, ne_eq, q7] at c10
   refine W.seq <| W.region rfl <| s_val (x_mf (fs := []) (cs := [.pointer (some ⟨b2, 0, none⟩)]) rfl rfl) <| s_val (x_mv (v := vp) rfl) ?_
   refine s_call cf90 [.func (.func 91) #[] #[.pointer (some ⟨b2, 0, none⟩)], vp] rfl (every_Pub _ (hp.to K1) ⟨91, [.pointer (some ⟨b2, 0, none⟩)], rfl, cf91, fun w' v x hE hD hA => by obtain rfl := Pub_arg hA; exact (withdrawn1 _ _ (hE.get h_b2) ((hw.to K1).mono hE.le))⟩) ?_
   rintro _ w11 ⟨rfl, x12⟩
   replace E := E.trans x12
   replace K1 := K1.ext x12
   replace K8 := K8.ext x12
   replace h_b2 := x12.get h_b2
   clear x12
   refine s_val (x_not (b := p.all (fun x : Pub => inB x.work 0 ((ws.length : Int) - 1))) rfl) <| s_val (x_as (v := B (!(p.all (fun x : Pub => inB x.work 0 ((ws.length : Int) - 1))))) rfl) <| s_nil ?_
   refine W.cond (!(p.all (fun x : Pub => inB x.work 0 ((ws.length : Int) - 1)))) rfl (fun c13 => ?_) (fun c13 => ?_)
   ·skip
    refine W.seq <| W.region rfl <| s_val (x_as (v := .slice none 0 0) rfl) <| s_val (x_as (v := I 2) rfl) <| s_nil ?_
    refine W.ret ?_
    exact ⟨_, resE_tmp2 rfl, .slice none 0 0, (by rw [w_arg c9 c10 c13]; rfl), (by rw [w_err (w_arg c9 c10 c13) (by first | decide | exact c9)]; exact Sl.nil _), E⟩
   ·skip
    refine W.skip <| W.seq <| W.region rfl <| s_val (x_as (v := .slice none 0 0) rfl) <| s_nil <| W.seq <| W.seq <| W.region rfl ?_
    refine s_val (x_mv (v := vp) rfl) <| s_val (x_lenS T24.und rfl (hp.to K1)) <| s_val (x_mv (v := I 0) rfl) <| s_nil <| W.block ?_
    have z14 := Nat.le_refl w11.heap.size
    have B_vo := E.size
    have B_vo_K1 := K1.size
    have B_vo_K8 := K8.size
    have B_vo_b2 := heap_lt h_b2
    refine W.loop (fun m σ W => ∃ (i : Nat) (vo : Value) (ρ : Env), σ = upds ρ [(8, u6), (10, vo), (32, vp), (33, I p.length), (34, I i)] ∧ m = p.length - i ∧ Ext w W ∧ KF 0 w W ∧ KF w3.heap.size w4 W ∧ W.heap[b2]? = some (.cells #[vw] 22 (0, 0)) ∧ w11.heap.size ≤ W.heap.size ∧ OwnF w11.heap.size 3 W vo (wdT (valuesR ws l) p i) ∧ vo.ownBlock ≠ some b2 ∧ i ≤ p.length) ?_ ?_
    ·exact ⟨_, 0, .slice none 0 0, _, upds_of _ _ ⟨rfl, rfl, rfl, rfl, (eqI (by omega)), trivial⟩, rfl, E, K1, K8, h_b2, z14, (OwnF.nil _ _ _), by simp [Value.ownBlock], (Nat.zero_le _)⟩
    ·rintro m σ w15 ⟨i, vo, ρ, rfl, rfl, E, K1, K8, h_b2, z14, ho_vo, n_vo_b2, iv0_0⟩
     have hwl := wdT_len (valuesR ws l) p i
     refine W.seq <| W.region rfl <| s_val (x_cmp (kd := .i64) (a := i) (b := p.length) (r := decide ((i : Int) < p.length)) rfl rfl rfl) <| s_nil <| W.seq ?_
     refine W.cond (decide ((i : Int) < p.length)) rfl (fun c16 => ?_) (fun c16 => ?_)
     ·simp only [q1, q2, q3, q4, q5, q6, ne_eq, q7] at c16
      have hpr := pub_rng c13 c16
      refine W.skip <| W.seq <| W.block <| W.seq <| W.region rfl <| s_val (x_mv (v := I i) rfl) <| s_val (x_ix (a := vp) (b := I i) (v := vat vp 2 (Int.toNat i)) rfl rfl (Sl.ix (α := Pub) T24.und T24.size (hp.to K1) (by omega) (by omega))) <| s_val (x_ld (p := vat vp 2 (Int.toNat i)) (v := .agg #[I ((p.getD i default).work), I ((p.getD i default).value)]) rfl (ld_ag Ag33 Sz33 (At.to (Pub_atA hp (i := i) (by omega) (by omega)) K1))) ?_
      refine s_alloc (cs := [I 0, I 0]) Al33 rfl ?_
      intro b17 w18 Nb17
      have o_K1_b17 := Nat.le_trans K1.size Nb17.ge
      have o_K8_b17 := Nat.le_trans K8.size Nb17.ge
      have o_b17 := Nat.le_trans E.size Nb17.ge
      have o_b2_b17 := Nat.lt_of_lt_of_le (heap_lt h_b2) Nb17.ge
      have n_vo_b17 := ho_vo.ne Nb17.ge
      replace E := E.trans Nb17.ext
      replace z14 := Nat.le_trans z14 Nb17.ext.size
      replace K1 := K1.ext Nb17.ext
      replace K8 := K8.ext Nb17.ext
      replace h_b2 := Nb17.ext.get h_b2
      replace ho_vo := ho_vo.ext Nb17.ext
      have h_b17 := Nb17.same
      clear Nb17
      refine s_val (x_as (v := I i) rfl) ?_
      refine s_st (b := b17) (off := 0) (vs := [I ((p.getD i default).work), I ((p.getD i default).value)]) (cs' := [I ((p.getD i default).work), I ((p.getD i default).value)]) (v := .agg #[I ((p.getD i default).work), I ((p.getD i default).value)]) rfl rfl Sz33 h_b17 rfl rfl rfl rfl rfl ?_
      intro w19 p20
      replace E := E.put (by omega) p20
      replace z14 := Nat.le_trans z14 (Nat.le_of_eq p20.size.symm)
      replace K1 := K1.put p20 (by omega)
      replace K8 := K8.put p20 (by omega)
      replace h_b2 := p20.get (by omega) h_b2
      replace ho_vo := ho_vo.put p20 n_vo_b17
      replace h_b17 := p20.same
      clear p20
      refine s_nil <| W.seq ?_
      refine W.draw (fun W => Ext w W ∧ KF 0 w W ∧ KF w3.heap.size w4 W ∧ W.heap[b2]? = some (.cells #[vw] 22 (0, 0)) ∧ W.heap[b17]? = some (.cells #[I ((p.getD i default).work), I ((p.getD i default).value)] 33 (0, 0)) ∧ OwnF w11.heap.size 3 W vo (wdT (valuesR ws l) p i)) [(0, true), (1, true), (2, true), (3, true), (4, true), (5, true), (6, true), (7, true), (8, true), (9, true), (10, true), (11, true), (12, true), (13, true), (14, true), (15, true)] mixed (by decide +kernel) rfl ?_
      intro w21 x22
      replace E := E.trans x22
      replace z14 := Nat.le_trans z14 x22.size
      replace K1 := K1.ext x22
      replace K8 := K8.ext x22
      replace h_b2 := x22.get h_b2
      replace h_b17 := x22.get h_b17
      replace ho_vo := ho_vo.ext x22
      clear x22
      refine ⟨⟨E, K1, K8, h_b2, h_b17, ho_vo⟩, ?_⟩
      refine d_q rfl (fun w' hC => by obtain ⟨E, K1, K8, h_b2, h_b17, ho_vo⟩ := hC; exact x_mv (v := u6) rfl) ?_
      refine d_q rfl (fun w' hC => by obtain ⟨E, K1, K8, h_b2, h_b17, ho_vo⟩ := hC; exact x_fa (a := .pointer (some ⟨b17, 0, none⟩)) (v := .pointer (some ⟨b17, 0, none⟩)) rfl (fa_blk (o := 0) Fd33_0 Sz3)) ?_
      refine d_q rfl (fun w' hC => by obtain ⟨E, K1, K8, h_b2, h_b17, ho_vo⟩ := hC; exact x_ld (p := .pointer (some ⟨b17, 0, none⟩)) (v := I ((p.getD i default).work)) rfl (ldb_sc Sc3 h_b17 rfl)) ?_
      refine d_q rfl (fun w' hC => by obtain ⟨E, K1, K8, h_b2, h_b17, ho_vo⟩ := hC; exact x_ix (a := u6) (b := I ((p.getD i default).work)) (v := vat u6 1 (Int.toNat ((p.getD i default).work))) rfl rfl (Sl.ix (α := Int) T34.und T34.size (hs7.to K8) (by omega) (by omega))) ?_
      refine d_q rfl (fun w' hC => by obtain ⟨E, K1, K8, h_b2, h_b17, ho_vo⟩ := hC; exact x_ld (p := vat u6 1 (Int.toNat ((p.getD i default).work))) (v := I ((valuesR ws l).getD (Int.toNat ((p.getD i default).work)) 0)) rfl (ld_sc Sc3 (At.to (Int_at hs7 (i := (p.getD i default).work) (by omega) (by omega)) K8))) ?_
      refine d_q rfl (fun w' hC => by obtain ⟨E, K1, K8, h_b2, h_b17, ho_vo⟩ := hC; exact x_cmp (kd := .i64) (a := (valuesR ws l).getD (Int.toNat ((p.getD i default).work)) 0) (b := -1) (r := (((valuesR ws l).getD (Int.toNat ((p.getD i default).work)) 0) : Int) == (-1)) rfl rfl rfl) ?_
      refine d_q rfl (fun w' hC => by obtain ⟨E, K1, K8, h_b2, h_b17, ho_vo⟩ := hC; exact x_mv (v := B ((((valuesR ws l).getD (Int.toNat ((p.getD i default).work)) 0) : Int) == (-1))) rfl) ?_
      refine d_qg (!((((valuesR ws l).getD (Int.toNat ((p.getD i default).work)) 0) : Int) == (-1))) rfl (gy_f rfl) (fun hg => (fun w' hC => by obtain ⟨E, K1, K8, h_b2, h_b17, ho_vo⟩ := hC; exact x_mv (v := u6) rfl)) ?_
      refine d_qg (!((((valuesR ws l).getD (Int.toNat ((p.getD i default).work)) 0) : Int) == (-1))) rfl (gy_f rfl) (fun hg => (fun w' hC => by obtain ⟨E, K1, K8, h_b2, h_b17, ho_vo⟩ := hC; exact x_fa (a := .pointer (some ⟨b17, 0, none⟩)) (v := .pointer (some ⟨b17, 0, none⟩)) rfl (fa_blk (o := 0) Fd33_0 Sz3))) ?_
      refine d_qg (!((((valuesR ws l).getD (Int.toNat ((p.getD i default).work)) 0) : Int) == (-1))) rfl (gy_f rfl) (fun hg => (fun w' hC => by obtain ⟨E, K1, K8, h_b2, h_b17, ho_vo⟩ := hC; exact x_ld (p := .pointer (some ⟨b17, 0, none⟩)) (v := I ((p.getD i default).work)) (gd_of (c := !((((valuesR ws l).getD (Int.toNat ((p.getD i default).work)) 0) : Int) == (-1))) hg (.pointer (some ⟨b17, 0, none⟩))) (ldb_sc Sc3 h_b17 rfl))) ?_
      refine d_qg (!((((valuesR ws l).getD (Int.toNat ((p.getD i default).work)) 0) : Int) == (-1))) rfl (gy_f rfl) (fun hg => (fun w' hC => by obtain ⟨E, K1, K8, h_b2, h_b17, ho_vo⟩ := hC; exact x_ix (a := u6) (b := I ((p.getD i default).work)) (v := vat u6 1 (Int.toNat ((p.getD i default).work))) (gd_of (c := !((((valuesR ws l).getD (Int.toNat ((p.getD i default).work)) 0) : Int) == (-1))) hg (u6)) (gd_of (c := !((((valuesR ws l).getD (Int.toNat ((p.getD i default).work)) 0) : Int) == (-1))) hg (I ((p.getD i default).work))) (Sl.ix (α := Int) T34.und T34.size (hs7.to K8) (by first | omega | (simp at hg; omega) | (simp [inB] at hg; omega)) (by first | omega | (simp at hg; omega) | (simp [inB] at hg; omega))))) ?_
      refine d_qg (!((((valuesR ws l).getD (Int.toNat ((p.getD i default).work)) 0) : Int) == (-1))) rfl (gy_f rfl) (fun hg => (fun w' hC => by obtain ⟨E, K1, K8, h_b2, h_b17, ho_vo⟩ := hC; exact x_ld (p := vat u6 1 (Int.toNat ((p.getD i default).work))) (v := I ((valuesR ws l).getD (Int.toNat ((p.getD i default).work)) 0)) (gd_of (c := !((((valuesR ws l).getD (Int.toNat ((p.getD i default).work)) 0) : Int) == (-1))) hg (vat u6 1 (Int.toNat ((p.getD i default).work)))) (ld_sc Sc3 (At.to (Int_at hs7 (i := (p.getD i default).work) (by first | omega | (simp at hg; omega) | (simp [inB] at hg; omega)) (by first | omega | (simp at hg; omega) | (simp [inB] at hg; omega))) K8)))) ?_
      refine d_qg (!((((valuesR ws l).getD (Int.toNat ((p.getD i default).work)) 0) : Int) == (-1))) rfl (gy_f rfl) (fun hg => (fun w' hC => by obtain ⟨E, K1, K8, h_b2, h_b17, ho_vo⟩ := hC; exact x_fa (a := .pointer (some ⟨b17, 0, none⟩)) (v := .pointer (some ⟨b17, 1, none⟩)) rfl (fa_blk (o := 0) Fd33_1 Sz3))) ?_
      refine d_qg (!((((valuesR ws l).getD (Int.toNat ((p.getD i default).work)) 0) : Int) == (-1))) rfl (gy_f rfl) (fun hg => (fun w' hC => by obtain ⟨E, K1, K8, h_b2, h_b17, ho_vo⟩ := hC; exact x_ld (p := .pointer (some ⟨b17, 1, none⟩)) (v := I ((p.getD i default).value)) (gd_of (c := !((((valuesR ws l).getD (Int.toNat ((p.getD i default).work)) 0) : Int) == (-1))) hg (.pointer (some ⟨b17, 1, none⟩))) (ldb_sc Sc3 h_b17 rfl))) ?_
      refine d_qg (!((((valuesR ws l).getD (Int.toNat ((p.getD i default).work)) 0) : Int) == (-1))) rfl (gy_f rfl) (fun hg => (fun w' hC => by obtain ⟨E, K1, K8, h_b2, h_b17, ho_vo⟩ := hC; exact x_cmp (kd := .i64) (a := (valuesR ws l).getD (Int.toNat ((p.getD i default).work)) 0) (b := (p.getD i default).value) (r := (((valuesR ws l).getD (Int.toNat ((p.getD i default).work)) 0) : Int) != ((p.getD i default).value)) (gd_of (c := !((((valuesR ws l).getD (Int.toNat ((p.getD i default).work)) 0) : Int) == (-1))) hg (I ((valuesR ws l).getD (Int.toNat ((p.getD i default).work)) 0))) (gd_of (c := !((((valuesR ws l).getD (Int.toNat ((p.getD i default).work)) 0) : Int) == (-1))) hg (I ((p.getD i default).value))) rfl)) ?_
      refine d_q rfl (fun w' hC => by obtain ⟨E, K1, K8, h_b2, h_b17, ho_vo⟩ := hC; exact x_por (b := (((valuesR ws l).getD (Int.toNat ((p.getD i default).work)) 0) : Int) == (-1)) (r := (((valuesR ws l).getD (Int.toNat ((p.getD i default).work)) 0) : Int) != ((p.getD i default).value)) rfl rfl (fun hb => gd_of (c := !((((valuesR ws l).getD (Int.toNat ((p.getD i default).work)) 0) : Int) == (-1))) (by simp_all) (B ((((valuesR ws l).getD (Int.toNat ((p.getD i default).work)) 0) : Int) != ((p.getD i default).value))))) ?_
      refine d_nil ?_
      refine W.cond ((((((valuesR ws l).getD (Int.toNat ((p.getD i default).work)) 0) : Int) == (-1)) || ((((valuesR ws l).getD (Int.toNat ((p.getD i default).work)) 0) : Int) != ((p.getD i default).value)))) rfl (fun c23 => ?_) (fun c23 => ?_)
      ·skip
       refine W.region rfl <| s_val (x_mv (v := vo) rfl) <| s_val (x_mv (v := I i) rfl) ?_
       refine s_bsl (α := Int) T34 w21.heap.size [I i] [(i : Int)] rfl (.cons rfl (Flat.rep_enc _ _) <| .nil) (Nat.le_refl _) rfl (by decide) (by decide) ?_
       intro u24 w25 hs26 x27 nn_u24
       replace E := E.trans x27
       replace z14 := Nat.le_trans z14 x27.size
       replace K1 := K1.ext x27
       replace K8 := K8.ext x27
       replace h_b2 := x27.get h_b2
       replace h_b17 := x27.get h_b17
       replace ho_vo := ho_vo.ext x27
       clear x27
       have K28 := KF.refl w21.heap.size w25
       refine s_app (α := Int) (v := vo) (vy := u24) (l := wdT (valuesR ws l) p i) (l2 := [(i : Int)]) T34 rfl rfl ho_vo (hs26.to K28) (Cells.Le.refl _) z14 (by first | omega | (simp only [List.length_append, List.length_cons, List.length_nil, List.length_set]; omega)) (by first | omega | (simp only [List.length_append, List.length_cons, List.length_nil, List.length_set]; omega)) ?_
       intro v29 w30 ho31 g32 ne33
       have n_v29_b17 := ne33 b17 (heap_lt h_b17) n_vo_b17
       have n_v29_b2 := ne33 b2 (heap_lt h_b2) n_vo_b2
       replace E := E.grow g32 (by omega)
       replace z14 := Nat.le_trans z14 g32.size
       replace K1 := K1.grow g32 (by omega)
       replace K8 := K8.grow g32 (by omega)
       replace h_b2 := g32.get n_vo_b2 h_b2
       replace h_b17 := g32.get n_vo_b17 h_b17
       clear g32 ne33
       refine s_val (x_as (v := v29) rfl) <| s_nil <| W.region rfl <| s_val (x_ari (a := i) (b := 1) (r := i + 1) rfl rfl rfl (by omega)) <| s_val (x_mv (v := I (i + 1)) rfl) <| s_nil ?_
       exact ⟨_, (by omega), i+1, v29, _, upds_of _ _ ⟨rfl, rfl, rfl, rfl, (eqI (by omega)), trivial⟩, rfl, E, K1, K8, h_b2, z14, (by rw [wdT_next, if_pos (show wdAt (valuesR ws l) (p.getD i default) = true from c23)]; exact ho31), n_v29_b2, (by omega)⟩
      ·skip
       refine W.skip <| W.region rfl <| s_val (x_ari (a := i) (b := 1) (r := i + 1) rfl rfl rfl (by omega)) <| s_val (x_mv (v := I (i + 1)) rfl) <| s_nil ?_
       exact ⟨_, (by omega), i+1, vo, _, upds_of _ _ ⟨rfl, rfl, rfl, rfl, (eqI (by omega)), trivial⟩, rfl, E, K1, K8, h_b2, z14, (by rw [wdT_next, if_neg (by rw [show wdAt (valuesR ws l) (p.getD i default) = false from c23]; decide)]; exact ho_vo), n_vo_b2, (by omega)⟩
     ·simp only [q1, q2, q3, q4, q5, q6, ne_eq, q7] at c16
      refine W.exit ?_
      refine W.seq <| W.region rfl <| s_val (x_mv (v := vo) rfl) <| s_val (x_as (v := vo) rfl) <| s_val (x_as (v := I 0) rfl) <| s_nil ?_
      refine W.ret ?_
      exact ⟨_, resE_tmp2 rfl, vo, (by rw [(w_ok c9 c10 c13 c16 iv0_0).1]; rfl), (by have hq := (ho_vo.dn (B' := w.heap.size) (by omega)).sl; rw [(w_ok c9 c10 c13 c16 iv0_0).2]; exact hq), E⟩

end Go.Proofs.Ytndobgodeicloaa
namespace Go.Proofs.Ytndobgodeicloaa
open Go Go.Nm
set_option maxRecDepth 100000 in
theorem copy_int {vl : Value} {l : List Int} (w : World) (hl : Sl w.cell? vl l) (hsm : l.length ≤ 1000000) : Ret Try.prog 31 #[vl] w fun v w' => OwnF w.heap.size 3 w' v l ∧ Ext w w' := by
 refine ret_of_W Try.func31 rfl rfl rfl ?_
 have E := Ext.refl w
 have K1 := KF.refl 0 w
 have hl_hl := hl.len_le
 have hl := hl.par
 refine W.seq <| W.region rfl <| s_val (x_as (v := .slice none 0 0) rfl) <| s_nil <| W.seq <| W.region rfl <| s_val (x_as (v := .slice none 0 0) rfl) <| s_nil ?_
 refine W.seq <| W.region rfl <| s_val (x_mv (v := .slice none 0 0) rfl) <| s_val (x_mv (v := vl) rfl) ?_
 refine s_app (α := Int) (v := .slice none 0 0) (vy := vl) (l := []) (l2 := l) T34 rfl rfl (OwnF.nil w.heap.size 3 w) (hl.to K1) (Cells.Le.refl _) (Nat.le_refl _) (by first | omega | (simp only [List.length_append, List.length_cons, List.length_nil, List.length_set]; omega)) (by first | omega | (simp only [List.length_append, List.length_cons, List.length_nil, List.length_set]; omega)) ?_
 intro v2 w3 ho4 g5 ne6
 have g5x : Ext w w3 := (Ext.refl _).grow g5 (Nat.le_refl _)
 have z7 := Nat.le_refl w.heap.size
 have B_v2 := E.size
 have B_v2_K1 := K1.size
 replace E := E.trans g5x
 replace z7 := Nat.le_trans z7 g5x.size
 replace K1 := K1.ext g5x
 simp only [List.nil_append] at ho4
 refine s_val (x_as (v := v2) rfl) <| s_nil ?_
 refine W.ret ?_
 exact ⟨_, resE_tmp rfl, (ho4.dn (by omega)), E⟩

set_option maxRecDepth 100000 in
theorem copy_note {vl : Value} {l : List Note} (w : World) (hl : Sl w.cell? vl l) (hsm : l.length ≤ 1000000) : Ret Try.prog 19 #[vl] w fun v w' => OwnF w.heap.size 30 w' v l ∧ Ext w w' := by
 refine ret_of_W Try.func19 rfl rfl rfl ?_
 have E := Ext.refl w
 have K1 := KF.refl 0 w
 have hl_hl := hl.len_le
 have hl := hl.par
 refine W.seq <| W.region rfl <| s_val (x_as (v := .slice none 0 0) rfl) <| s_nil <| W.seq <| W.region rfl <| s_val (x_as (v := .slice none 0 0) rfl) <| s_nil ?_
 refine W.seq <| W.region rfl <| s_val (x_mv (v := .slice none 0 0) rfl) <| s_val (x_mv (v := vl) rfl) ?_
 refine s_app (α := Note) (v := .slice none 0 0) (vy := vl) (l := []) (l2 := l) T23 rfl rfl (OwnF.nil w.heap.size 30 w) (hl.to K1) (Cells.Le.refl _) (Nat.le_refl _) (by first | omega | (simp only [List.length_append, List.length_cons, List.length_nil, List.length_set]; omega)) (by first | omega | (simp only [List.length_append, List.length_cons, List.length_nil, List.length_set]; omega)) ?_
 intro v2 w3 ho4 g5 ne6
 have g5x : Ext w w3 := (Ext.refl _).grow g5 (Nat.le_refl _)
 have z7 := Nat.le_refl w.heap.size
 have B_v2 := E.size
 have B_v2_K1 := K1.size
 replace E := E.trans g5x
 replace z7 := Nat.le_trans z7 g5x.size
 replace K1 := K1.ext g5x
 simp only [List.nil_append] at ho4
 refine s_val (x_as (v := v2) rfl) <| s_nil ?_
 refine W.ret ?_
 exact ⟨_, resE_tmp rfl, (ho4.dn (by omega)), E⟩

set_option maxRecDepth 100000 in
theorem copy_pub {vl : Value} {l : List Pub} (w : World) (hl : Sl w.cell? vl l) (hsm : l.length ≤ 1000000) : Ret Try.prog 20 #[vl] w fun v w' => OwnF w.heap.size 33 w' v l ∧ Ext w w' := by
 refine ret_of_W Try.func20 rfl rfl rfl ?_
 have E := Ext.refl w
 have K1 := KF.refl 0 w
 have hl_hl := hl.len_le
 have hl := hl.par
 refine W.seq <| W.region rfl <| s_val (x_as (v := .slice none 0 0) rfl) <| s_nil <| W.seq <| W.region rfl <| s_val (x_as (v := .slice none 0 0) rfl) <| s_nil ?_
 refine W.seq <| W.region rfl <| s_val (x_mv (v := .slice none 0 0) rfl) <| s_val (x_mv (v := vl) rfl) ?_
 refine s_app (α := Pub) (v := .slice none 0 0) (vy := vl) (l := []) (l2 := l) T24 rfl rfl (OwnF.nil w.heap.size 33 w) (hl.to K1) (Cells.Le.refl _) (Nat.le_refl _) (by first | omega | (simp only [List.length_append, List.length_cons, List.length_nil, List.length_set]; omega)) (by first | omega | (simp only [List.length_append, List.length_cons, List.length_nil, List.length_set]; omega)) ?_
 intro v2 w3 ho4 g5 ne6
 have g5x : Ext w w3 := (Ext.refl _).grow g5 (Nat.le_refl _)
 have z7 := Nat.le_refl w.heap.size
 have B_v2 := E.size
 have B_v2_K1 := K1.size
 replace E := E.trans g5x
 replace z7 := Nat.le_trans z7 g5x.size
 replace K1 := K1.ext g5x
 simp only [List.nil_append] at ho4
 refine s_val (x_as (v := v2) rfl) <| s_nil ?_
 refine W.ret ?_
 exact ⟨_, resE_tmp rfl, (ho4.dn (by omega)), E⟩

end Go.Proofs.Ytndobgodeicloaa
namespace Go.Nm
section
variable {α : Type} [DecidableEq α] {a b : List α}
theorem same_len (h : ¬ (a.length : Int) = b.length) : false = decide (a = b) := by
  symm
  simp only [decide_eq_false_iff_not]
  intro e
  subst e
  exact h rfl
theorem same_ne {k : Nat} (d : α) (h : ¬ a.getD k d = b.getD k d) : false = decide (a = b) := by
  symm
  simp only [decide_eq_false_iff_not]
  intro e
  subst e
  exact h rfl
theorem same_step {k : Nat} (d : α) (hl : (a.length : Int) = b.length) (hk : (k : Int) < a.length) (ht : a.take k = b.take k) (c : a.getD k d = b.getD k d) : a.take (k + 1) = b.take (k + 1) := by
  rw [take_succ_getD a (by omega) d, take_succ_getD b (by omega) d, ht, c]
theorem same_done {k : Nat} (hl : (a.length : Int) = b.length) (hk : ¬ (k : Int) < a.length) (ht : a.take k = b.take k) : true = decide (a = b) := by
  rw [List.take_of_length_le (by omega), List.take_of_length_le (by omega)] at ht
  simp [ht]
end
end Go.Nm
namespace Go.Nm
/-- Are works and lists few enough to be looked at? -/
def littleB (ws : List Work) (ls : List (List Int)) : Bool := decide (ws.length ≤ 35) && ws.all (fun x => decide (x.of.length ≤ 10)) && ls.all (fun l => decide (l.length ≤ 40))
theorem all_take_succ {α : Type} (p : α → Bool) (l : List α) {k : Nat} (h : k < l.length) (d : α) : (l.take (k + 1)).all p = ((l.take k).all p && p (l.getD k d)) := by
  rw [take_succ_getD l h d, List.all_append]; simp
theorem little_many {ws : List Work} {ls : List (List Int)} (h : 35 < (ws.length : Int)) : false = littleB ws ls := by
  unfold littleB
  have : decide (ws.length ≤ 35) = false := by simp; omega
  simp [this]
theorem little_of {ws : List Work} {ls : List (List Int)} {i : Nat} (hi : (i : Int) < ws.length) (h : 10 < ((ws.getD i default).of.length : Int)) : false = littleB ws ls := by
  unfold littleB
  have : ws.all (fun x => decide (x.of.length ≤ 10)) = false := by
    rw [List.all_eq_false]
    exact ⟨_, getD_memN ws hi default, by simp [-List.getD_eq_getElem?_getD]; omega⟩
  simp [this]
theorem little_list {ws : List Work} {ls : List (List Int)} {i : Nat} (hi : (i : Int) < ls.length) (h : 40 < ((ls.getD i []).length : Int)) : false = littleB ws ls := by
  unfold littleB
  have : ls.all (fun l => decide (l.length ≤ 40)) = false := by
    rw [List.all_eq_false]
    exact ⟨_, getD_memN ls hi [], by simp [-List.getD_eq_getElem?_getD]; omega⟩
  simp [this]
theorem little_ok {ws : List Work} {ls : List (List Int)} {i j : Nat} (h : ¬ 35 < (ws.length : Int)) (hi : ¬ (i : Int) < ws.length) (h1 : (ws.take i).all (fun x => decide (x.of.length ≤ 10)) = true) (hj : ¬ (j : Int) < ls.length)
    (h2 : (ls.take j).all (fun l => decide (l.length ≤ 40)) = true) : true = littleB ws ls := by
  rw [List.take_of_length_le (by omega)] at h1 h2
  unfold littleB
  rw [h1, h2]
  simp; omega
end Go.Nm
namespace Go.Proofs.Ytndobgodeicloaa
open Go Go.Nm
set_option maxRecDepth 100000 in
theorem same_int {va vb : Value} {a b : List Int} (w : World) (ha : Sl w.cell? va a) (hb : Sl w.cell? vb b) : Ret Try.prog 25 #[va, vb] w fun v w' => v = B (decide (a = b)) ∧ Ext w w' := by
 refine ret_of_W Try.func25 rfl rfl rfl ?_
 have E := Ext.refl w
 have K1 := KF.refl 0 w
 have hl_ha := ha.len_le
 have ha := ha.par
 have hl_hb := hb.len_le
 have hb := hb.par
 refine W.seq <| W.region rfl <| s_val (x_as (v := B false) rfl) <| s_nil <| W.seq <| W.seq <| W.region rfl <| s_val (x_mv (v := va) rfl) ?_
 refine s_val (x_lenS T34.und rfl (ha.to K1)) <| s_val (x_mv (v := vb) rfl) <| s_val (x_lenS T34.und rfl (hb.to K1)) <| s_val (x_cmp (kd := .i64) (a := a.length) (b := b.length) (r := (a.length : Int) != b.length) rfl rfl rfl) <| s_nil ?_
 refine W.cond ((a.length : Int) != b.length) rfl (fun c2 => ?_) (fun c2 => ?_)
 ·simp only [q1, q2, q3, q4, q5, q6, ne_eq, q7] at c2
  refine W.seq <| W.region rfl <| s_val (x_as (v := B false) rfl) <| s_nil ?_
  refine W.ret ?_
  exact ⟨_, resE_tmp rfl, (eqB (same_len c2)), E⟩
 ·simp only [q1, q2, q3, q4, q5, q6, ne_eq, q7] at c2
  refine W.skip <| W.seq <| W.seq <| W.region rfl <| s_val (x_as (v := I 0) rfl) <| s_nil <| W.block ?_
  refine W.loop (fun m σ W => ∃ (k : Nat) (ρ : Env), σ = upds ρ [(0, va), (1, vb), (5, I k)] ∧ m = a.length - k ∧ Ext w W ∧ KF 0 w W ∧ k ≤ a.length ∧ a.take k = b.take k) ?_ ?_
  ·exact ⟨_, 0, _, upds_of _ _ ⟨rfl, rfl, (eqI (by omega)), trivial⟩, rfl, E, K1, (Nat.zero_le _), rfl⟩
  ·rintro m σ w3 ⟨k, ρ, rfl, rfl, E, K1, iv0_0, iv0_1⟩
   refine W.seq <| W.seq <| W.region rfl <| s_val (x_mv (v := I k) rfl) <| s_val (x_mv (v := va) rfl) <| s_val (x_lenS T34.und rfl (ha.to K1)) <| s_val (x_cmp (kd := .i64) (a := k) (b := a.length) (r := decide ((k : Int) < a.length)) rfl rfl rfl) <| s_nil ?_
   refine W.cond (decide ((k : Int) < a.length)) rfl (fun c4 => ?_) (fun c4 => ?_)
   ·simp only [q1, q2, q3, q4, q5, q6, ne_eq, q7] at c4
    refine W.skip <| W.seq <| W.block <| W.seq ?_
    refine W.draw (fun W => Ext w W ∧ KF 0 w W) [(0, true), (1, true), (2, true), (3, true), (4, true), (5, true), (6, true), (7, true), (8, true)] mixed (by decide +kernel) rfl ?_
    intro w5 x6
    replace E := E.trans x6
    replace K1 := K1.ext x6
    clear x6
    refine ⟨⟨E, K1⟩, ?_⟩
    refine d_q rfl (fun w' hC => by obtain ⟨E, K1⟩ := hC; exact x_mv (v := va) rfl) ?_
    refine d_q rfl (fun w' hC => by obtain ⟨E, K1⟩ := hC; exact x_mv (v := I k) rfl) ?_
    refine d_q rfl (fun w' hC => by obtain ⟨E, K1⟩ := hC; exact x_ix (a := va) (b := I k) (v := vat va 1 (Int.toNat k)) rfl rfl (Sl.ix (α := Int) T34.und T34.size (ha.to K1) (by omega) (by omega))) ?_
    refine d_q rfl (fun w' hC => by obtain ⟨E, K1⟩ := hC; exact x_ld (p := vat va 1 (Int.toNat k)) (v := I (a.getD k 0)) rfl (ld_sc Sc3 (At.to (Int_at ha (i := k) (by omega) (by omega)) K1))) ?_
    refine d_q rfl (fun w' hC => by obtain ⟨E, K1⟩ := hC; exact x_mv (v := vb) rfl) ?_
    refine d_q rfl (fun w' hC => by obtain ⟨E, K1⟩ := hC; exact x_mv (v := I k) rfl) ?_
    refine d_q rfl (fun w' hC => by obtain ⟨E, K1⟩ := hC; exact x_ix (a := vb) (b := I k) (v := vat vb 1 (Int.toNat k)) rfl rfl (Sl.ix (α := Int) T34.und T34.size (hb.to K1) (by omega) (by omega))) ?_
    refine d_q rfl (fun w' hC => by obtain ⟨E, K1⟩ := hC; exact x_ld (p := vat vb 1 (Int.toNat k)) (v := I (b.getD k 0)) rfl (ld_sc Sc3 (At.to (Int_at hb (i := k) (by omega) (by omega)) K1))) ?_
    refine d_q rfl (fun w' hC => by obtain ⟨E, K1⟩ := hC; exact x_cmp (kd := .i64) (a := a.getD k 0) (b := b.getD k 0) (r := (a.getD k 0 : Int) != (b.getD k 0)) rfl rfl rfl) ?_
    refine d_nil ?_
    refine W.cond ((a.getD k 0 : Int) != (b.getD k 0)) rfl (fun c7 => ?_) (fun c7 => ?_)
    ·simp only [q1, q2, q3, q4, q5, q6, ne_eq, q7] at c7
     refine W.seq <| W.region rfl <| s_val (x_as (v := B false) rfl) <| s_nil ?_
     refine W.ret ?_
     exact ⟨_, resE_tmp rfl, (eqB (same_ne (k := k) (0 : Int) c7)), E⟩
    ·simp only [q1, q2, q3, q4, q5, q6, ne_eq, q7] at c7
     refine W.skip <| W.region rfl <| s_val (x_mv (v := I k) rfl) <| s_val (x_ari (a := k) (b := 1) (r := k + 1) rfl rfl rfl (by omega)) <| s_val (x_as (v := I (k + 1)) rfl) <| s_nil ?_
     exact ⟨_, (by omega), k+1, _, upds_of _ _ ⟨rfl, rfl, (eqI (by omega)), trivial⟩, rfl, E, K1, (by omega), (same_step (0 : Int) (by omega) c4 iv0_1 (by first | omega | (simpa using c7)))⟩
   ·simp only [q1, q2, q3, q4, q5, q6, ne_eq, q7] at c4
    refine W.exit ?_
    refine W.seq <| W.region rfl <| s_val (x_as (v := B true) rfl) <| s_nil ?_
    refine W.ret ?_
    exact ⟨_, resE_tmp rfl, (eqB (same_done (by omega) c4 iv0_1)), E⟩

set_option maxRecDepth 100000 in
theorem same_note {va vb : Value} {a b : List Note} (w : World) (ha : Sl w.cell? va a) (hb : Sl w.cell? vb b) : Ret Try.prog 29 #[va, vb] w fun v w' => v = B (decide (a = b)) ∧ Ext w w' := by
 refine ret_of_W Try.func29 rfl rfl rfl ?_
 have E := Ext.refl w
 have K1 := KF.refl 0 w
 have hl_ha := ha.len_le
 have ha := ha.par
 have hl_hb := hb.len_le
 have hb := hb.par
 refine W.seq <| W.region rfl <| s_val (x_as (v := B false) rfl) <| s_nil <| W.seq <| W.seq <| W.region rfl <| s_val (x_mv (v := va) rfl) ?_
 refine s_val (x_lenS T23.und rfl (ha.to K1)) <| s_val (x_mv (v := vb) rfl) <| s_val (x_lenS T23.und rfl (hb.to K1)) <| s_val (x_cmp (kd := .i64) (a := a.length) (b := b.length) (r := (a.length : Int) != b.length) rfl rfl rfl) <| s_nil ?_
 refine W.cond ((a.length : Int) != b.length) rfl (fun c2 => ?_) (fun c2 => ?_)
 ·simp only [q1, q2, q3, q4, q5, q6, ne_eq, q7] at c2
  refine W.seq <| W.region rfl <| s_val (x_as (v := B false) rfl) <| s_nil ?_
  refine W.ret ?_
  exact ⟨_, resE_tmp rfl, (eqB (same_len c2)), E⟩
 ·simp only [q1, q2, q3, q4, q5, q6, ne_eq, q7] at c2
  refine W.skip <| W.seq <| W.seq <| W.region rfl <| s_val (x_as (v := I 0) rfl) <| s_nil <| W.block ?_
  refine W.loop (fun m σ W => ∃ (k : Nat) (ρ : Env), σ = upds ρ [(0, va), (1, vb), (5, I k)] ∧ m = a.length - k ∧ Ext w W ∧ KF 0 w W ∧ k ≤ a.length ∧ a.take k = b.take k) ?_ ?_
  ·exact ⟨_, 0, _, upds_of _ _ ⟨rfl, rfl, (eqI (by omega)), trivial⟩, rfl, E, K1, (Nat.zero_le _), rfl⟩
  ·rintro m σ w3 ⟨k, ρ, rfl, rfl, E, K1, iv0_0, iv0_1⟩
   refine W.seq <| W.seq <| W.region rfl <| s_val (x_mv (v := I k) rfl) <| s_val (x_mv (v := va) rfl) <| s_val (x_lenS T23.und rfl (ha.to K1)) <| s_val (x_cmp (kd := .i64) (a := k) (b := a.length) (r := decide ((k : Int) < a.length)) rfl rfl rfl) <| s_nil ?_
   refine W.cond (decide ((k : Int) < a.length)) rfl (fun c4 => ?_) (fun c4 => ?_)
   ·simp only [q1, q2, q3, q4, q5, q6, ne_eq, q7] at c4
    refine W.skip <| W.seq <| W.block <| W.seq ?_
    refine W.draw (fun W => Ext w W ∧ KF 0 w W) [(0, true), (1, true), (2, true), (3, true), (4, true), (5, true), (6, true), (7, true), (8, true)] mixed (by decide +kernel) rfl ?_
    intro w5 x6
    replace E := E.trans x6
    replace K1 := K1.ext x6
    clear x6
    refine ⟨⟨E, K1⟩, ?_⟩
    refine d_q rfl (fun w' hC => by obtain ⟨E, K1⟩ := hC; exact x_mv (v := va) rfl) ?_
    refine d_q rfl (fun w' hC => by obtain ⟨E, K1⟩ := hC; exact x_mv (v := I k) rfl) ?_
    refine d_q rfl (fun w' hC => by obtain ⟨E, K1⟩ := hC; exact x_ix (a := va) (b := I k) (v := vat va 3 (Int.toNat k)) rfl rfl (Sl.ix (α := Note) T23.und T23.size (ha.to K1) (by omega) (by omega))) ?_
    refine d_q rfl (fun w' hC => by obtain ⟨E, K1⟩ := hC; exact x_ld (p := vat va 3 (Int.toNat k)) (v := .agg #[I ((a.getD k default).work), I ((a.getD k default).version), I ((a.getD k default).value)]) rfl (ld_ag Ag30 Sz30 (At.to (Note_atA ha (i := k) (by omega) (by omega)) K1))) ?_
    refine d_q rfl (fun w' hC => by obtain ⟨E, K1⟩ := hC; exact x_mv (v := vb) rfl) ?_
    refine d_q rfl (fun w' hC => by obtain ⟨E, K1⟩ := hC; exact x_mv (v := I k) rfl) ?_
    refine d_q rfl (fun w' hC => by obtain ⟨E, K1⟩ := hC; exact x_ix (a := vb) (b := I k) (v := vat vb 3 (Int.toNat k)) rfl rfl (Sl.ix (α := Note) T23.und T23.size (hb.to K1) (by omega) (by omega))) ?_
    refine d_q rfl (fun w' hC => by obtain ⟨E, K1⟩ := hC; exact x_ld (p := vat vb 3 (Int.toNat k)) (v := .agg #[I ((b.getD k default).work), I ((b.getD k default).version), I ((b.getD k default).value)]) rfl (ld_ag Ag30 Sz30 (At.to (Note_atA hb (i := k) (by omega) (by omega)) K1))) ?_
    refine d_q rfl (fun w' hC => by obtain ⟨E, K1⟩ := hC; exact x_neS (eqN ((a.getD k default)) ((b.getD k default)) _) gdN rfl rfl) ?_
    refine d_nil ?_
    refine W.cond (!(decide ((a.getD k default) = (b.getD k default)))) rfl (fun c7 => ?_) (fun c7 => ?_)
    ·skip
     refine W.seq <| W.region rfl <| s_val (x_as (v := B false) rfl) <| s_nil ?_
     refine W.ret ?_
     exact ⟨_, resE_tmp rfl, (eqB (same_ne (k := k) (default : Note) (by simpa using c7))), E⟩
    ·skip
     refine W.skip <| W.region rfl <| s_val (x_mv (v := I k) rfl) <| s_val (x_ari (a := k) (b := 1) (r := k + 1) rfl rfl rfl (by omega)) <| s_val (x_as (v := I (k + 1)) rfl) <| s_nil ?_
     exact ⟨_, (by omega), k+1, _, upds_of _ _ ⟨rfl, rfl, (eqI (by omega)), trivial⟩, rfl, E, K1, (by omega), (same_step (default : Note) (by omega) c4 iv0_1 (by first | omega | (simpa using c7)))⟩
   ·simp only [q1, q2, q3, q4, q5, q6, ne_eq, q7] at c4
    refine W.exit ?_
    refine W.seq <| W.region rfl <| s_val (x_as (v := B true) rfl) <| s_nil ?_
    refine W.ret ?_
    exact ⟨_, resE_tmp rfl, (eqB (same_done (by omega) c4 iv0_1)), E⟩

set_option maxRecDepth 100000 in
theorem same_pub {va vb : Value} {a b : List Pub} (w : World) (ha : Sl w.cell? va a) (hb : Sl w.cell? vb b) : Ret Try.prog 30 #[va, vb] w fun v w' => v = B (decide (a = b)) ∧ Ext w w' := by
 refine ret_of_W Try.func30 rfl rfl rfl ?_
 have E := Ext.refl w
 have K1 := KF.refl 0 w
 have hl_ha := ha.len_le
 have ha := ha.par
 have hl_hb := hb.len_le
 have hb := hb.par
 refine W.seq <| W.region rfl <| s_val (x_as (v := B false) rfl) <| s_nil <| W.seq <| W.seq <| W.region rfl <| s_val (x_mv (v := va) rfl) ?_
 refine s_val (x_lenS T24.und rfl (ha.to K1)) <| s_val (x_mv (v := vb) rfl) <| s_val (x_lenS T24.und rfl (hb.to K1)) <| s_val (x_cmp (kd := .i64) (a := a.length) (b := b.length) (r := (a.length : Int) != b.length) rfl rfl rfl) <| s_nil ?_
 refine W.cond ((a.length : Int) != b.length) rfl (fun c2 => ?_) (fun c2 => ?_)
 ·simp only [q1, q2, q3, q4, q5, q6, ne_eq, q7] at c2
  refine W.seq <| W.region rfl <| s_val (x_as (v := B false) rfl) <| s_nil ?_
  refine W.ret ?_
  exact ⟨_, resE_tmp rfl, (eqB (same_len c2)), E⟩
 ·simp only [q1, q2, q3, q4, q5, q6, ne_eq, q7] at c2
  refine W.skip <| W.seq <| W.seq <| W.region rfl <| s_val (x_as (v := I 0) rfl) <| s_nil <| W.block ?_
  refine W.loop (fun m σ W => ∃ (k : Nat) (ρ : Env), σ = upds ρ [(0, va), (1, vb), (5, I k)] ∧ m = a.length - k ∧ Ext w W ∧ KF 0 w W ∧ k ≤ a.length ∧ a.take k = b.take k) ?_ ?_
  ·exact ⟨_, 0, _, upds_of _ _ ⟨rfl, rfl, (eqI (by omega)), trivial⟩, rfl, E, K1, (Nat.zero_le _), rfl⟩
  ·rintro m σ w3 ⟨k, ρ, rfl, rfl, E, K1, iv0_0, iv0_1⟩
   refine W.seq <| W.seq <| W.region rfl <| s_val (x_mv (v := I k) rfl) <| s_val (x_mv (v := va) rfl) <| s_val (x_lenS T24.und rfl (ha.to K1)) <| s_val (x_cmp (kd := .i64) (a := k) (b := a.length) (r := decide ((k : Int) < a.length)) rfl rfl rfl) <| s_nil ?_
   refine W.cond (decide ((k : Int) < a.length)) rfl (fun c4 => ?_) (fun c4 => ?_)
   ·simp only [q1, q2, q3, q4, q5, q6, ne_eq, q7] at c4
    refine W.skip <| W.seq <| W.block <| W.seq ?_
    refine W.draw (fun W => Ext w W ∧ KF 0 w W) [(0, true), (1, true), (2, true), (3, true), (4, true), (5, true), (6, true), (7, true), (8, true)] mixed (by decide +kernel) rfl ?_
    intro w5 x6
    replace E := E.trans x6
    replace K1 := K1.ext x6
    clear x6
    refine ⟨⟨E, K1⟩, ?_⟩
    refine d_q rfl (fun w' hC => by obtain ⟨E, K1⟩ := hC; exact x_mv (v := va) rfl) ?_
    refine d_q rfl (fun w' hC => by obtain ⟨E, K1⟩ := hC; exact x_mv (v := I k) rfl) ?_
    refine d_q rfl (fun w' hC => by obtain ⟨E, K1⟩ := hC; exact x_ix (a := va) (b := I k) (v := vat va 2 (Int.toNat k)) rfl rfl (Sl.ix (α := Pub) T24.und T24.size (ha.to K1) (by omega) (by omega))) ?_
    refine d_q rfl (fun w' hC => by obtain ⟨E, K1⟩ := hC; exact x_ld (p := vat va 2 (Int.toNat k)) (v := .agg #[I ((a.getD k default).work), I ((a.getD k default).value)]) rfl (ld_ag Ag33 Sz33 (At.to (Pub_atA ha (i := k) (by omega) (by omega)) K1))) ?_
    refine d_q rfl (fun w' hC => by obtain ⟨E, K1⟩ := hC; exact x_mv (v := vb) rfl) ?_
    refine d_q rfl (fun w' hC => by obtain ⟨E, K1⟩ := hC; exact x_mv (v := I k) rfl) ?_
    refine d_q rfl (fun w' hC => by obtain ⟨E, K1⟩ := hC; exact x_ix (a := vb) (b := I k) (v := vat vb 2 (Int.toNat k)) rfl rfl (Sl.ix (α := Pub) T24.und T24.size (hb.to K1) (by omega) (by omega))) ?_
    refine d_q rfl (fun w' hC => by obtain ⟨E, K1⟩ := hC; exact x_ld (p := vat vb 2 (Int.toNat k)) (v := .agg #[I ((b.getD k default).work), I ((b.getD k default).value)]) rfl (ld_ag Ag33 Sz33 (At.to (Pub_atA hb (i := k) (by omega) (by omega)) K1))) ?_
    refine d_q rfl (fun w' hC => by obtain ⟨E, K1⟩ := hC; exact x_neS (eqPb ((a.getD k default)) ((b.getD k default)) _) gdP rfl rfl) ?_
    refine d_nil ?_
    refine W.cond (!(decide ((a.getD k default) = (b.getD k default)))) rfl (fun c7 => ?_) (fun c7 => ?_)
    ·skip
     refine W.seq <| W.region rfl <| s_val (x_as (v := B false) rfl) <| s_nil ?_
     refine W.ret ?_
     exact ⟨_, resE_tmp rfl, (eqB (same_ne (k := k) (default : Pub) (by simpa using c7))), E⟩
    ·skip
     refine W.skip <| W.region rfl <| s_val (x_mv (v := I k) rfl) <| s_val (x_ari (a := k) (b := 1) (r := k + 1) rfl rfl rfl (by omega)) <| s_val (x_as (v := I (k + 1)) rfl) <| s_nil ?_
     exact ⟨_, (by omega), k+1, _, upds_of _ _ ⟨rfl, rfl, (eqI (by omega)), trivial⟩, rfl, E, K1, (by omega), (same_step (default : Pub) (by omega) c4 iv0_1 (by first | omega | (simpa using c7)))⟩
   ·simp only [q1, q2, q3, q4, q5, q6, ne_eq, q7] at c4
    refine W.exit ?_
    refine W.seq <| W.region rfl <| s_val (x_as (v := B true) rfl) <| s_nil ?_
    refine W.ret ?_
    exact ⟨_, resE_tmp rfl, (eqB (same_done (by omega) c4 iv0_1)), E⟩

end Go.Proofs.Ytndobgodeicloaa
namespace Go.Proofs.Ytndobgodeicloaa
open Go Go.Nm
set_option maxRecDepth 100000 in
theorem noted_any {vl : Value} {l : List Note} (w : World) (hl : Sl w.cell? vl l) (hsm : l.length ≤ 1000000) : Ret Try.prog 24 #[vl] w fun v w' => OwnF w.heap.size 137 w' v l ∧ Ext w w' := by
 refine ret_of_W Try.func24 rfl rfl rfl ?_
 have E := Ext.refl w
 have K1 := KF.refl 0 w
 have hl_hl := hl.len_le
 have hl := hl.par
 refine W.seq <| W.region rfl <| s_val (x_as (v := .slice none 0 0) rfl) <| s_nil <| W.seq <| W.region rfl <| s_val (x_as (v := .slice none 0 0) rfl) <| s_nil ?_
 refine W.seq <| W.seq <| W.region rfl <| s_val (x_mv (v := vl) rfl) <| s_val (x_lenS T23.und rfl (hl.to K1)) <| s_val (x_mv (v := I 0) rfl) <| s_nil <| W.block ?_
 have z2 := Nat.le_refl w.heap.size
 have B_vo := E.size
 have B_vo_K1 := K1.size
 refine W.loop (fun m σ W => ∃ (i : Nat) (vo : Value) (ρ : Env), σ = upds ρ [(3, vo), (6, vl), (7, I l.length), (8, I i)] ∧ m = l.length - i ∧ Ext w W ∧ KF 0 w W ∧ w.heap.size ≤ W.heap.size ∧ OwnF w.heap.size 137 W vo (l.take i) ∧ i ≤ l.length) ?_ ?_
 ·exact ⟨_, 0, .slice none 0 0, _, upds_of _ _ ⟨rfl, rfl, rfl, (eqI (by omega)), trivial⟩, rfl, E, K1, z2, (OwnF.nil _ _ _), (Nat.zero_le _)⟩
 ·rintro m σ w3 ⟨i, vo, ρ, rfl, rfl, E, K1, z2, ho_vo, iv0_0⟩
  have htl : (l.take i).length ≤ l.length := by rw [List.length_take]; omega
  refine W.seq <| W.region rfl <| s_val (x_cmp (kd := .i64) (a := i) (b := l.length) (r := decide ((i : Int) < l.length)) rfl rfl rfl) <| s_nil <| W.seq ?_
  refine W.cond (decide ((i : Int) < l.length)) rfl (fun c4 => ?_) (fun c4 => ?_)
  ·simp only [q1, q2, q3, q4, q5, q6, ne_eq, q7] at c4
   refine W.skip <| W.seq <| W.block <| W.seq <| W.region rfl <| s_val (x_ix (a := vl) (b := I i) (v := vat vl 3 (Int.toNat i)) rfl rfl (Sl.ix (α := Note) T23.und T23.size (hl.to K1) (by omega) (by omega))) <| s_val (x_ld (p := vat vl 3 (Int.toNat i)) (v := .agg #[I ((l.getD i default).work), I ((l.getD i default).version), I ((l.getD i default).value)]) rfl (ld_ag Ag30 Sz30 (At.to (Note_atA hl (i := i) (by omega) (by omega)) K1))) ?_
   refine s_alloc (cs := [I 0, I 0, I 0]) Al30 rfl ?_
   intro b5 w6 Nb5
   have o_K1_b5 := Nat.le_trans K1.size Nb5.ge
   have o_b5 := Nat.le_trans E.size Nb5.ge
   have n_vo_b5 := ho_vo.ne Nb5.ge
   replace E := E.trans Nb5.ext
   replace z2 := Nat.le_trans z2 Nb5.ext.size
   replace K1 := K1.ext Nb5.ext
   replace ho_vo := ho_vo.ext Nb5.ext
   have h_b5 := Nb5.same
   clear Nb5
   refine s_st (b := b5) (off := 0) (vs := [I ((l.getD i default).work), I ((l.getD i default).version), I ((l.getD i default).value)]) (cs' := [I ((l.getD i default).work), I ((l.getD i default).version), I ((l.getD i default).value)]) (v := .agg #[I ((l.getD i default).work), I ((l.getD i default).version), I ((l.getD i default).value)]) rfl rfl Sz30 h_b5 rfl rfl rfl rfl rfl ?_
   intro w7 p8
   replace E := E.put (by omega) p8
   replace z2 := Nat.le_trans z2 (Nat.le_of_eq p8.size.symm)
   replace K1 := K1.put p8 (by omega)
   replace ho_vo := ho_vo.put p8 n_vo_b5
   replace h_b5 := p8.same
   clear p8
   refine s_nil <| W.region rfl <| s_val (x_mv (v := vo) rfl) <| s_val (x_ld (p := .pointer (some ⟨b5, 0, none⟩)) (v := .agg #[I ((l.getD i default).work), I ((l.getD i default).version), I ((l.getD i default).value)]) rfl (ldb_ag (ds := [I ((l.getD i default).work), I ((l.getD i default).version), I ((l.getD i default).value)]) Ag30 Sz30 h_b5 rfl rfl)) ?_
   refine s_bsl (α := Note) T41 w7.heap.size [.agg #[I ((l.getD i default).work), I ((l.getD i default).version), I ((l.getD i default).value)]] [(l.getD i default)] rfl (.cons rfl (Flat.rep_enc _ _) <| .nil) (Nat.le_refl _) rfl (by decide) (by decide) ?_
   intro u9 w10 hs11 x12 nn_u9
   replace E := E.trans x12
   replace z2 := Nat.le_trans z2 x12.size
   replace K1 := K1.ext x12
   replace h_b5 := x12.get h_b5
   replace ho_vo := ho_vo.ext x12
   clear x12
   have K13 := KF.refl w7.heap.size w10
   refine s_app (α := Note) (v := vo) (vy := u9) (l := l.take i) (l2 := [(l.getD i default)]) T41 rfl rfl ho_vo (hs11.to K13) (Cells.Le.refl _) z2 (by first | omega | (simp only [List.length_append, List.length_cons, List.length_nil, List.length_set]; omega)) (by first | omega | (simp only [List.length_append, List.length_cons, List.length_nil, List.length_set]; omega)) ?_
   intro v14 w15 ho16 g17 ne18
   have n_v14_b5 := ne18 b5 (heap_lt h_b5) n_vo_b5
   replace E := E.grow g17 (by omega)
   replace z2 := Nat.le_trans z2 g17.size
   replace K1 := K1.grow g17 (by omega)
   replace h_b5 := g17.get n_vo_b5 h_b5
   clear g17 ne18
   refine s_val (x_as (v := v14) rfl) <| s_nil <| W.region rfl <| s_val (x_ari (a := i) (b := 1) (r := i + 1) rfl rfl rfl (by omega)) <| s_val (x_mv (v := I (i + 1)) rfl) <| s_nil ?_
   exact ⟨_, (by omega), i+1, v14, _, upds_of _ _ ⟨rfl, rfl, rfl, (eqI (by omega)), trivial⟩, rfl, E, K1, z2, (by rw [take_succ_getD l (by omega) default]; exact ho16), (by omega)⟩
  ·simp only [q1, q2, q3, q4, q5, q6, ne_eq, q7] at c4
   refine W.exit ?_
   refine W.seq <| W.region rfl <| s_val (x_mv (v := vo) rfl) <| s_val (x_as (v := vo) rfl) <| s_nil ?_
   refine W.ret ?_
   exact ⟨_, resE_tmp rfl, (by have hq := ho_vo.dn (B' := w.heap.size) (by omega); rw [List.take_of_length_le (l := l) (by omega)] at hq; exact hq), E⟩

set_option maxRecDepth 100000 in
theorem little_any {vw vl : Value} {ws : List Work} {ls : List (List Int)} (w : World) (hw : Sl w.cell? vw ws) (hl : Sl w.cell? vl ls) : Ret Try.prog 16 #[vw, vl] w fun v w' => v = B (littleB ws ls) ∧ Ext w w' := by
 refine ret_of_W Try.func16 rfl rfl rfl ?_
 have E := Ext.refl w
 have K1 := KF.refl 0 w
 have hl_hw := hw.len_le
 have hw := hw.par
 have hl_hl := hl.len_le
 have hl := hl.par
 refine W.seq <| W.region rfl <| s_val (x_as (v := B false) rfl) <| s_nil <| W.seq <| W.seq <| W.region rfl <| s_val (x_mv (v := vw) rfl) ?_
 refine s_val (x_lenS T22.und rfl (hw.to K1)) <| s_val (x_cmp (kd := .i64) (a := ws.length) (b := 35) (r := decide ((35 : Int) < ws.length)) rfl rfl rfl) <| s_nil ?_
 refine W.cond (decide ((35 : Int) < ws.length)) rfl (fun c2 => ?_) (fun c2 => ?_)
 ·simp only [q1, q2, q3, q4, q5, q6, ne_eq, q7] at c2
  refine W.seq <| W.region rfl <| s_val (x_as (v := B false) rfl) <| s_nil ?_
  refine W.ret ?_
  exact ⟨_, resE_tmp rfl, (eqB (little_many c2)), E⟩
 ·simp only [q1, q2, q3, q4, q5, q6, ne_eq, q7] at c2
  refine W.skip <| W.seq <| W.seq <| W.region rfl <| s_val (x_mv (v := vw) rfl) <| s_val (x_lenS T22.und rfl (hw.to K1)) <| s_val (x_mv (v := I 0) rfl) <| s_nil ?_
  refine W.block ?_
  refine W.loop (fun m σ W => ∃ (i : Nat) (ρ : Env), σ = upds ρ [(1, vl), (12, vw), (13, I ws.length), (14, I i)] ∧ m = ws.length - i ∧ Ext w W ∧ KF 0 w W ∧ i ≤ ws.length ∧ (ws.take i).all (fun x => decide (x.of.length ≤ 10)) = true) ?_ ?_
  ·exact ⟨_, 0, _, upds_of _ _ ⟨rfl, rfl, rfl, (eqI (by omega)), trivial⟩, rfl, E, K1, (Nat.zero_le _), rfl⟩
  ·rintro m σ w3 ⟨i, ρ, rfl, rfl, E, K1, iv0_0, iv0_1⟩
   refine W.seq <| W.region rfl <| s_val (x_cmp (kd := .i64) (a := i) (b := ws.length) (r := decide ((i : Int) < ws.length)) rfl rfl rfl) <| s_nil <| W.seq ?_
   refine W.cond (decide ((i : Int) < ws.length)) rfl (fun c4 => ?_) (fun c4 => ?_)
   ·simp only [q1, q2, q3, q4, q5, q6, ne_eq, q7] at c4
    refine W.skip <| W.seq <| W.block <| W.seq <| W.region rfl <| s_val (x_ix (a := vw) (b := I i) (v := vat vw 3 (Int.toNat i)) rfl rfl (Sl.ix (α := Work) T22.und T22.size (hw.to K1) (by omega) (by omega))) ?_
    obtain ⟨u5, ha7, hs6⟩ := Work_atA hw (i := i) (by omega) (by omega)
    replace hs6 : Sl _ u5 (ws.getD i default).of := hs6
    have hl_hs6 := hs6.len_le
    refine s_val (x_ld (p := vat vw 3 (Int.toNat i)) (v := .agg #[u5, I ((ws.getD i default).base), I ((ws.getD i default).minutes)]) rfl (ld_ag Ag60 Sz60 (At.to ha7 K1))) ?_
    refine s_alloc (cs := [.slice none 0 0, I 0, I 0]) Al60 rfl ?_
    intro b8 w9 Nb8
    have o_K1_b8 := Nat.le_trans K1.size Nb8.ge
    have o_b8 := Nat.le_trans E.size Nb8.ge
    replace E := E.trans Nb8.ext
    replace K1 := K1.ext Nb8.ext
    have h_b8 := Nb8.same
    clear Nb8
    refine s_st (b := b8) (off := 0) (vs := [u5, I ((ws.getD i default).base), I ((ws.getD i default).minutes)]) (cs' := [u5, I ((ws.getD i default).base), I ((ws.getD i default).minutes)]) (v := .agg #[u5, I ((ws.getD i default).base), I ((ws.getD i default).minutes)]) rfl rfl Sz60 h_b8 rfl rfl rfl (by simp only [List.all_cons, List.all_nil, Bool.true_and, Bool.and_true, Sl.oc (hs6.to K1)]; try rfl) rfl ?_
    intro w10 p11
    replace E := E.put (by omega) p11
    replace K1 := K1.put p11 (by omega)
    replace h_b8 := p11.same
    clear p11
    refine s_nil <| W.seq <| W.region rfl <| s_val (x_fa (a := .pointer (some ⟨b8, 0, none⟩)) (v := .pointer (some ⟨b8, 0, none⟩)) rfl (fa_blk (o := 0) Fd60_0 Sz34)) <| s_val (x_ld (p := .pointer (some ⟨b8, 0, none⟩)) (v := u5) rfl (ldb_sc Sc34 h_b8 rfl)) <| s_val (x_lenS T34.und rfl (hs6.to K1)) <| s_val (x_cmp (kd := .i64) (a := ((ws.getD i default).of).length) (b := 10) (r := decide ((10 : Int) < (((ws.getD i default).of).length))) rfl rfl rfl) <| s_nil ?_
    refine W.cond (decide ((10 : Int) < (((ws.getD i default).of).length))) rfl (fun c12 => ?_) (fun c12 => ?_)
    ·simp only [q1, q2, q3, q4, q5, q6, ne_eq, q7] at c12
     refine W.seq <| W.region rfl <| s_val (x_as (v := B false) rfl) <| s_nil ?_
     refine W.ret ?_
     exact ⟨_, resE_tmp rfl, (eqB (little_of c4 c12)), E⟩
    ·simp only [q1, q2, q3, q4, q5, q6, ne_eq, q7] at c12
     refine W.skip <| W.region rfl <| s_val (x_ari (a := i) (b := 1) (r := i + 1) rfl rfl rfl (by omega)) <| s_val (x_mv (v := I (i + 1)) rfl) <| s_nil ?_
     exact ⟨_, (by omega), i+1, _, upds_of _ _ ⟨rfl, rfl, rfl, (eqI (by omega)), trivial⟩, rfl, E, K1, (by omega), (by rw [all_take_succ _ ws (by omega) default, iv0_1]; simp [-List.getD_eq_getElem?_getD]; omega)⟩
   ·simp only [q1, q2, q3, q4, q5, q6, ne_eq, q7] at c4
    refine W.exit ?_
    refine W.seq <| W.seq <| W.region rfl <| s_val (x_mv (v := vl) rfl) <| s_val (x_lenS T73.und rfl (hl.to K1)) <| s_val (x_mv (v := I 0) rfl) <| s_nil <| W.block ?_
    refine W.loop (fun m σ W => ∃ (j : Nat) (ρ : Env), σ = upds ρ [(23, vl), (24, I ls.length), (25, I j)] ∧ m = ls.length - j ∧ Ext w W ∧ KF 0 w W ∧ j ≤ ls.length ∧ (ls.take j).all (fun l => decide (l.length ≤ 40)) = true) ?_ ?_
    ·exact ⟨_, 0, _, upds_of _ _ ⟨rfl, rfl, (eqI (by omega)), trivial⟩, rfl, E, K1, (Nat.zero_le _), rfl⟩
    ·rintro m σ w13 ⟨j, ρ, rfl, rfl, E, K1, iv1_0, iv1_1⟩
     refine W.seq <| W.region rfl <| s_val (x_cmp (kd := .i64) (a := j) (b := ls.length) (r := decide ((j : Int) < ls.length)) rfl rfl rfl) <| s_nil <| W.seq ?_
     refine W.cond (decide ((j : Int) < ls.length)) rfl (fun c14 => ?_) (fun c14 => ?_)
     ·simp only [q1, q2, q3, q4, q5, q6, ne_eq, q7] at c14
      refine W.skip <| W.seq <| W.block <| W.seq <| W.region rfl <| s_val (x_ix (a := vl) (b := I j) (v := vat vl 1 (Int.toNat j)) rfl rfl (Sl.ix (α := List Int) T73.und T73.size (hl.to K1) (by omega) (by omega))) ?_
      obtain ⟨u15, ha_u15, hs16⟩ := List_at hl (i := j) (by omega) (by omega)
      replace hs16 : Sl _ u15 (ls.getD j ([])) := hs16
      have hl_hs16 := hs16.len_le
      refine s_val (x_ld (p := vat vl 1 (Int.toNat j)) (v := u15) rfl (ld_sc Sc34 (At.to ha_u15 K1))) <| s_val (x_as (v := u15) rfl) <| s_nil <| W.seq <| W.region rfl <| s_val (x_mv (v := u15) rfl) <| s_val (x_lenS T34.und rfl (hs16.to K1)) <| s_val (x_cmp (kd := .i64) (a := (ls.getD j ([])).length) (b := 40) (r := decide ((40 : Int) < ((ls.getD j ([])).length))) rfl rfl rfl) ?_
      refine s_nil ?_
      refine W.cond (decide ((40 : Int) < ((ls.getD j ([])).length))) rfl (fun c17 => ?_) (fun c17 => ?_)
      ·simp only [q1, q2, q3, q4, q5, q6, ne_eq, q7] at c17
       refine W.seq <| W.region rfl <| s_val (x_as (v := B false) rfl) <| s_nil ?_
       refine W.ret ?_
       exact ⟨_, resE_tmp rfl, (eqB (little_list c14 c17)), E⟩
      ·simp only [q1, q2, q3, q4, q5, q6, ne_eq, q7] at c17
       refine W.skip <| W.region rfl <| s_val (x_ari (a := j) (b := 1) (r := j + 1) rfl rfl rfl (by omega)) <| s_val (x_mv (v := I (j + 1)) rfl) <| s_nil ?_
       exact ⟨_, (by omega), j+1, _, upds_of _ _ ⟨rfl, rfl, (eqI (by omega)), trivial⟩, rfl, E, K1, (by omega), (by rw [all_take_succ _ ls (by omega) [], iv1_1]; simp [-List.getD_eq_getElem?_getD]; omega)⟩
     ·simp only [q1, q2, q3, q4, q5, q6, ne_eq, q7] at c14
      refine W.exit ?_
      refine W.seq <| W.region rfl <| s_val (x_as (v := B true) rfl) <| s_nil ?_
      refine W.ret ?_
      exact ⟨_, resE_tmp rfl, (eqB (little_ok c2 c4 iv0_1 c14 iv1_1)), E⟩

end Go.Proofs.Ytndobgodeicloaa
namespace Go.Nm
theorem rl_bad {n : Nat} {l : List Int} {k : Nat} (hk : (k : Int) < l.length) (c : outB (l.getD k 0) 0 ((n : Int) - 1) = true) : 2 = listedE n l := by
  apply listed_arg
  simp only [Bool.not_eq_true', List.all_eq_false]
  refine ⟨_, getD_memN l hk 0, ?_⟩
  rw [outB_eq] at c
  simpa using c
theorem rl_next {n : Nat} {l : List Int} {k : Nat} (h : (l.take k).all (fun x => inB x 0 ((n : Int) - 1)) = true) (hk : (k : Int) < l.length) (c : outB (l.getD k 0) 0 ((n : Int) - 1) = false) : (l.take (k + 1)).all (fun x => inB x 0 ((n : Int) - 1)) = true := by
  rw [all_take_succ _ l (by omega) 0, h]
  rw [outB_eq] at c
  simpa using c
theorem rl_in {n : Nat} {l : List Int} {k : Nat} (h : (l.take k).all (fun x => inB x 0 ((n : Int) - 1)) = true) (hk : ¬ (k : Int) < l.length) : (!(l.all fun x => inB x 0 ((n : Int) - 1))) = false := by
  rw [List.take_of_length_le (by omega)] at h
  simp [h]
end Go.Nm
namespace Go.Nm
section
variable {ws : List Work}
def ofOK (x : Work) : Bool := decide ((x.of.length : Int) ≤ 5)
theorem rr_len (c : (decide ((ws.length : Int) < 1) || decide (30 < (ws.length : Int))) = true) : 3 = rightE ws := by
  apply right_many
  have : inB ws.length 1 30 = false := by
    unfold inB
    simp only [Bool.or_eq_true, decide_eq_true_eq] at c
    simp only [Bool.and_eq_false_iff, decide_eq_false_iff_not]
    omega
  simp [this]
theorem rr_of {i : Nat} (hi : (i : Int) < ws.length) (c : 5 < ((ws.getD i default).of.length : Int)) : 3 = rightE ws := by
  apply right_many
  have : (ws.all fun x => decide ((x.of.length : Int) ≤ 5)) = false := by
    rw [List.all_eq_false]
    exact ⟨_, getD_memN ws hi default, by simp only [decide_eq_true_eq]; omega⟩
  simp [this]
theorem rr_of_next {i : Nat} (h : (ws.take i).all ofOK = true) (hi : (i : Int) < ws.length) (c : ¬ 5 < ((ws.getD i default).of.length : Int)) : (ws.take (i + 1)).all ofOK = true := by
  rw [all_take_succ _ ws (by omega) default, h]
  simp only [ofOK, Bool.true_and, decide_eq_true_eq]
  omega
theorem rr_first {i : Nat} (c : (decide ((ws.length : Int) < 1) || decide (30 < (ws.length : Int))) = false) (hi : ¬ (i : Int) < ws.length) (h : (ws.take i).all ofOK = true) :
    (!(inB ws.length 1 30) || !(ws.all fun x => decide ((x.of.length : Int) ≤ 5))) = false := by
  rw [List.take_of_length_le (by omega)] at h
  have h1 : inB ws.length 1 30 = true := by
    unfold inB
    simp only [Bool.or_eq_false_iff, decide_eq_false_iff_not] at c
    simp only [Bool.and_eq_true, decide_eq_true_eq]
    omega
  have h2 : (ws.all fun x => decide ((x.of.length : Int) ≤ 5)) = true := h
  simp [h1, h2]
def kOK (n : Int) (i : Nat) (k : Int) : Bool := inB k 0 (n - 1) && (k != (i : Int))
theorem rr_num {i : Nat} (c : (outB (ws.getD i default).base 0 1000002 || outB (ws.getD i default).minutes 0 10000) = true) : badAt ws i = true := by
  rw [outB_eq, outB_eq] at c
  unfold badAt badW
  rw [c]
  rfl
theorem rr_k {i k : Nat} (hk : (k : Int) < (ws.getD i default).of.length) (c : (outB ((ws.getD i default).of.getD k 0) 0 ((ws.length : Int) - 1) || ((ws.getD i default).of.getD k 0 == (i : Int))) = true) : badAt ws i = true := by
  unfold badAt badW
  have : ((ws.getD i default).of.all fun k => inB k 0 ((ws.length : Int) - 1) && (k != (i : Int))) = false := by
    rw [List.all_eq_false]
    refine ⟨_, getD_memN _ hk 0, ?_⟩
    rw [outB_eq] at c
    revert c
    generalize (ws.getD i default).of.getD k 0 = x
    by_cases hx : x = (i : Int) <;> cases inB x 0 ((ws.length : Int) - 1) <;> simp [hx]
  rw [this]
  simp
theorem rr_k_next {i k : Nat} (h : ((ws.getD i default).of.take k).all (kOK ws.length i) = true) (hk : (k : Int) < (ws.getD i default).of.length)
    (c : (outB ((ws.getD i default).of.getD k 0) 0 ((ws.length : Int) - 1) || ((ws.getD i default).of.getD k 0 == (i : Int))) = false) : ((ws.getD i default).of.take (k + 1)).all (kOK ws.length i) = true := by
  rw [all_take_succ _ _ (by omega) 0, h]
  rw [outB_eq] at c
  unfold kOK
  revert c
  generalize (ws.getD i default).of.getD k 0 = x
  by_cases hx : x = (i : Int) <;> cases inB x 0 ((ws.length : Int) - 1) <;> simp [hx]
theorem rr_good {i k : Nat} (c : (outB (ws.getD i default).base 0 1000002 || outB (ws.getD i default).minutes 0 10000) = false) (h : ((ws.getD i default).of.take k).all (kOK ws.length i) = true) (hk : ¬ (k : Int) < (ws.getD i default).of.length) : badAt ws i = false := by
  rw [List.take_of_length_le (by omega)] at h
  rw [outB_eq, outB_eq] at c
  unfold badAt badW
  have h2 : ((ws.getD i default).of.all fun k => inB k 0 ((ws.length : Int) - 1) && (k != (i : Int))) = true := h
  rw [c, h2]
  rfl
theorem rr_dup {i k : Nat} (hf : (!(inB ws.length 1 30) || !(ws.all fun x => decide ((x.of.length : Int) ≤ 5))) = false) {j : Nat} (hj : ¬ (j : Int) < ws.length) (hjl : j ≤ ws.length) (hb : (List.range j).any (badAt ws) = false)
    (hi : (i : Int) < ws.length) (hk : (k : Int) < (ws.getD i default).of.length) (c : ((ws.getD i default).of.take k).contains ((ws.getD i default).of.getD k 0) = true) : 10 = rightE ws := by
  refine right_dup hf hj hjl hb ?_
  rw [List.take_of_length_le (by omega)]
  exact List.any_eq_true.2 ⟨_, getD_memN ws hi default, List.any_eq_true.2 ⟨k, List.mem_range.2 (by omega), c⟩⟩
theorem rr_dup_next {i k : Nat} (h : (ws.take i).any (fun x => dupL x.of) = false) (hi : (i : Int) < ws.length) (h2 : (List.range k).any (dupAt (ws.getD i default).of) = false) (hk : ¬ (k : Int) < (ws.getD i default).of.length) (hkl : k ≤ (ws.getD i default).of.length) :
    (ws.take (i + 1)).any (fun x => dupL x.of) = false := by
  rw [any_take_succ (fun x : Work => dupL x.of) ws (by omega) default, h]
  obtain rfl : k = (ws.getD i default).of.length := by omega
  exact h2
theorem rr_dup1 {i k : Nat} (h2 : (List.range k).any (dupAt (ws.getD i default).of) = false) (c : ((ws.getD i default).of.take k).contains ((ws.getD i default).of.getD k 0) = false) : (List.range (k + 1)).any (dupAt (ws.getD i default).of) = false := by
  rw [any_range_succ, h2]
  exact c
end
end Go.Nm
namespace Go.Proofs.Ytndobgodeicloaa
open Go Go.Nm
set_option maxRecDepth 100000 in
theorem refListed {vw vl : Value} {ws : List Work} {l : List Int} (w : World) (hw : Sl w.cell? vw ws) (hl : Sl w.cell? vl l) : Ret Try.prog 93 #[vw, vl] w fun v w' => v = I (listedE ws.length l) ∧ Ext w w' := by
 refine ret_of_W Try.func93 rfl rfl rfl ?_
 have E := Ext.refl w
 have K1 := KF.refl 0 w
 have hl_hw := hw.len_le
 have hw := hw.par
 have hl_hl := hl.len_le
 have hl := hl.par
 refine W.seq <| W.region rfl <| s_val (x_as (v := I 0) rfl) <| s_nil <| W.seq <| W.seq <| W.region rfl <| s_val (x_as (v := I 0) rfl) ?_
 refine s_nil <| W.block ?_
 refine W.loop (fun m σ W => ∃ (k : Nat) (ρ : Env), σ = upds ρ [(0, vw), (1, vl), (5, I k)] ∧ m = l.length - k ∧ Ext w W ∧ KF 0 w W ∧ k ≤ l.length ∧ (l.take k).all (fun x => inB x 0 ((ws.length : Int) - 1)) = true) ?_ ?_
 ·exact ⟨_, 0, _, upds_of _ _ ⟨rfl, rfl, (eqI (by omega)), trivial⟩, rfl, E, K1, (Nat.zero_le _), rfl⟩
 ·rintro m σ w2 ⟨k, ρ, rfl, rfl, E, K1, iv0_0, iv0_1⟩
  refine W.seq <| W.seq <| W.region rfl <| s_val (x_mv (v := I k) rfl) <| s_val (x_mv (v := vl) rfl) <| s_val (x_lenS T34.und rfl (hl.to K1)) <| s_val (x_cmp (kd := .i64) (a := k) (b := l.length) (r := decide ((k : Int) < l.length)) rfl rfl rfl) <| s_nil ?_
  refine W.cond (decide ((k : Int) < l.length)) rfl (fun c3 => ?_) (fun c3 => ?_)
  ·simp only [q1, q2, q3, q4, q5, q6, ne_eq, q7] at c3
   refine W.skip <| W.seq <| W.block <| W.seq <| W.region rfl <| s_val (x_mv (v := vl) rfl) <| s_val (x_mv (v := I k) rfl) <| s_val (x_ix (a := vl) (b := I k) (v := vat vl 1 (Int.toNat k)) rfl rfl (Sl.ix (α := Int) T34.und T34.size (hl.to K1) (by omega) (by omega))) ?_
   refine s_val (x_ld (p := vat vl 1 (Int.toNat k)) (v := I (l.getD k 0)) rfl (ld_sc Sc3 (At.to (Int_at hl (i := k) (by omega) (by omega)) K1))) <| s_val (x_mv (v := vw) rfl) <| s_val (x_lenS T39.und rfl (hw.to K1)) <| s_val (x_ari (a := ws.length) (b := 1) (r := ws.length - 1) rfl rfl rfl (by omega)) ?_
   refine s_call cf89 [I (l.getD k 0), I 0, I (ws.length - 1)] rfl (outside_any _ _ _ _) ?_
   rintro _ w4 ⟨rfl, x5⟩
   replace E := E.trans x5
   replace K1 := K1.ext x5
   clear x5
   refine s_nil ?_
   refine W.cond (outB (l.getD k 0) 0 (ws.length - 1)) rfl (fun c6 => ?_) (fun c6 => ?_)
   ·skip
    refine W.seq <| W.region rfl <| s_val (x_as (v := I 2) rfl) <| s_nil ?_
    refine W.ret ?_
    exact ⟨_, resE_tmp rfl, (eqI (rl_bad c3 c6)), E⟩
   ·skip
    refine W.skip <| W.region rfl <| s_val (x_mv (v := I k) rfl) <| s_val (x_ari (a := k) (b := 1) (r := k + 1) rfl rfl rfl (by omega)) <| s_val (x_as (v := I (k + 1)) rfl) <| s_nil ?_
    exact ⟨_, (by omega), k+1, _, upds_of _ _ ⟨rfl, rfl, (eqI (by omega)), trivial⟩, rfl, E, K1, (by omega), (rl_next iv0_1 c3 c6)⟩
  ·simp only [q1, q2, q3, q4, q5, q6, ne_eq, q7] at c3
   refine W.exit ?_
   refine W.seq <| W.seq <| W.region rfl <| s_val (x_as (v := I 1) rfl) <| s_nil <| W.block ?_
   refine W.loop (fun m σ W => ∃ (i : Nat) (ρ : Env), σ = upds ρ [(1, vl), (6, I i)] ∧ m = l.length + 1 - i ∧ Ext w W ∧ KF 0 w W ∧ 1 ≤ i ∧ i ≤ l.length + 1 ∧ AscTo l i) ?_ ?_
   ·exact ⟨_, 1, _, upds_of _ _ ⟨rfl, (eqI (by omega)), trivial⟩, rfl, E, K1, (Nat.le_refl _), (by omega), (fun j h1 h2 => by omega)⟩
   ·rintro m σ w7 ⟨i, ρ, rfl, rfl, E, K1, iv1_0, iv1_1, iv1_2⟩
    refine W.seq <| W.seq <| W.region rfl <| s_val (x_mv (v := I i) rfl) <| s_val (x_mv (v := vl) rfl) <| s_val (x_lenS T34.und rfl (hl.to K1)) <| s_val (x_cmp (kd := .i64) (a := i) (b := l.length) (r := decide ((i : Int) < l.length)) rfl rfl rfl) <| s_nil ?_
    refine W.cond (decide ((i : Int) < l.length)) rfl (fun c8 => ?_) (fun c8 => ?_)
    ·simp only [q1, q2, q3, q4, q5, q6, ne_eq, q7] at c8
     refine W.skip <| W.seq <| W.block <| W.seq ?_
     refine W.draw (fun W => Ext w W ∧ KF 0 w W) [(0, true), (1, true), (2, true), (3, true), (4, true), (5, true), (6, true), (7, true), (8, true), (9, true)] mixed (by decide +kernel) rfl ?_
     intro w9 x10
     replace E := E.trans x10
     replace K1 := K1.ext x10
     clear x10
     refine ⟨⟨E, K1⟩, ?_⟩
     refine d_q rfl (fun w' hC => by obtain ⟨E, K1⟩ := hC; exact x_mv (v := vl) rfl) ?_
     refine d_q rfl (fun w' hC => by obtain ⟨E, K1⟩ := hC; exact x_mv (v := I i) rfl) ?_
     refine d_q rfl (fun w' hC => by obtain ⟨E, K1⟩ := hC; exact x_ix (a := vl) (b := I i) (v := vat vl 1 (Int.toNat i)) rfl rfl (Sl.ix (α := Int) T34.und T34.size (hl.to K1) (by omega) (by omega))) ?_
     refine d_q rfl (fun w' hC => by obtain ⟨E, K1⟩ := hC; exact x_ld (p := vat vl 1 (Int.toNat i)) (v := I (l.getD i 0)) rfl (ld_sc Sc3 (At.to (Int_at hl (i := i) (by omega) (by omega)) K1))) ?_
     refine d_q rfl (fun w' hC => by obtain ⟨E, K1⟩ := hC; exact x_mv (v := vl) rfl) ?_
     refine d_q rfl (fun w' hC => by obtain ⟨E, K1⟩ := hC; exact x_mv (v := I i) rfl) ?_
     refine d_q rfl (fun w' hC => by obtain ⟨E, K1⟩ := hC; exact x_ari (a := i) (b := 1) (r := i - 1) rfl rfl rfl (by omega)) ?_
     refine d_q rfl (fun w' hC => by obtain ⟨E, K1⟩ := hC; exact x_ix (a := vl) (b := I (i - 1)) (v := vat vl 1 (Int.toNat (i - 1))) rfl rfl (Sl.ix (α := Int) T34.und T34.size (hl.to K1) (by omega) (by omega))) ?_
     refine d_q rfl (fun w' hC => by obtain ⟨E, K1⟩ := hC; exact x_ld (p := vat vl 1 (Int.toNat (i - 1))) (v := I (l.getD (Int.toNat (i - 1)) 0)) rfl (ld_sc Sc3 (At.to (Int_at hl (i := i - 1) (by omega) (by omega)) K1))) ?_
     refine d_q rfl (fun w' hC => by obtain ⟨E, K1⟩ := hC; exact x_cmp (kd := .i64) (a := l.getD i 0) (b := l.getD (Int.toNat (i - 1)) 0) (r := decide ((l.getD i 0 : Int) ≤ (l.getD (Int.toNat (i - 1)) 0))) rfl rfl rfl) ?_
     refine d_nil ?_
     refine W.cond (decide ((l.getD i 0 : Int) ≤ (l.getD (Int.toNat (i - 1)) 0))) rfl (fun c11 => ?_) (fun c11 => ?_)
     ·simp only [q1, q2, q3, q4, q5, q6, ne_eq, q7] at c11
      refine W.seq <| W.region rfl <| s_val (x_as (v := I 9) rfl) <| s_nil ?_
      refine W.ret ?_
      exact ⟨_, resE_tmp rfl, (eqI (listed_bad (rl_in iv0_1 c3) c8 iv1_0 c11)), E⟩
     ·simp only [q1, q2, q3, q4, q5, q6, ne_eq, q7] at c11
      refine W.skip <| W.region rfl <| s_val (x_mv (v := I i) rfl) <| s_val (x_ari (a := i) (b := 1) (r := i + 1) rfl rfl rfl (by omega)) <| s_val (x_as (v := I (i + 1)) rfl) <| s_nil ?_
      exact ⟨_, (by omega), i+1, _, upds_of _ _ ⟨rfl, (eqI (by omega)), trivial⟩, rfl, E, K1, (by omega), (by omega), (asc_next iv1_2 c11)⟩
    ·simp only [q1, q2, q3, q4, q5, q6, ne_eq, q7] at c8
     refine W.exit ?_
     refine W.seq <| W.region rfl <| s_val (x_as (v := I 0) rfl) <| s_nil ?_
     refine W.ret ?_
     exact ⟨_, resE_tmp rfl, (eqI (listed_ok (rl_in iv0_1 c3) c8 iv1_2)), E⟩

set_option maxRecDepth 100000 in
theorem refRight {vw : Value} {ws : List Work} (w : World) (hw : Sl w.cell? vw ws) : Ret Try.prog 135 #[vw] w fun v w' => v = I (rightE ws) ∧ Ext w w' := by
 refine ret_of_W Try.func135 rfl rfl rfl ?_
 have E := Ext.refl w
 have K1 := KF.refl 0 w
 have hl_hw := hw.len_le
 have hw := hw.par
 refine W.seq <| W.region rfl <| s_val (x_as (v := I 0) rfl) <| s_nil <| W.seq <| W.seq <| W.region rfl <| s_val (x_mv (v := vw) rfl) ?_
 refine s_val (x_lenS T39.und rfl (hw.to K1)) <| s_val (x_cmp (kd := .i64) (a := ws.length) (b := 1) (r := decide ((ws.length : Int) < 1)) rfl rfl rfl) <| s_val (x_mv (v := B (decide ((ws.length : Int) < 1))) rfl) <| g_val (!(decide ((ws.length : Int) < 1))) (gy_f rfl) (fun hg => x_mv (v := vw) rfl) <| g_val (!(decide ((ws.length : Int) < 1))) (gy_f rfl) (fun hg => x_lenS T39.und (gd_of (c := !(decide ((ws.length : Int) < 1))) hg (vw)) (hw.to K1)) <| g_val (!(decide ((ws.length : Int) < 1))) (gy_f rfl) (fun hg => x_cmp (kd := .i64) (a := ws.length) (b := 30) (r := decide ((30 : Int) < ws.length)) (gd_of (c := !(decide ((ws.length : Int) < 1))) hg (I ws.length)) rfl rfl) <| s_val (x_por (b := decide ((ws.length : Int) < 1)) (r := decide ((30 : Int) < ws.length)) rfl rfl (fun hb => gd_of (c := !(decide ((ws.length : Int) < 1))) (by simp_all) (B (decide ((30 : Int) < ws.length))))) <| s_nil ?_
 refine W.cond (((decide ((ws.length : Int) < 1)) || (decide ((30 : Int) < ws.length)))) rfl (fun c2 => ?_) (fun c2 => ?_)
 ·skip
  refine W.seq <| W.region rfl <| s_val (x_as (v := I 3) rfl) <| s_nil ?_
  refine W.ret ?_
  exact ⟨_, resE_tmp rfl, (eqI (rr_len c2)), E⟩
 ·skip
  refine W.skip <| W.seq <| W.seq <| W.region rfl <| s_val (x_as (v := I 0) rfl) <| s_nil <| W.block ?_
  refine W.loop (fun m σ W => ∃ (i : Nat) (ρ : Env), σ = upds ρ [(0, vw), (3, I i)] ∧ m = ws.length - i ∧ Ext w W ∧ KF 0 w W ∧ i ≤ ws.length ∧ (ws.take i).all ofOK = true) ?_ ?_
  ·exact ⟨_, 0, _, upds_of _ _ ⟨rfl, (eqI (by omega)), trivial⟩, rfl, E, K1, (Nat.zero_le _), rfl⟩
  ·rintro m σ w3 ⟨i, ρ, rfl, rfl, E, K1, iv0_0, iv0_1⟩
   refine W.seq <| W.seq <| W.region rfl <| s_val (x_mv (v := I i) rfl) <| s_val (x_mv (v := vw) rfl) <| s_val (x_lenS T39.und rfl (hw.to K1)) <| s_val (x_cmp (kd := .i64) (a := i) (b := ws.length) (r := decide ((i : Int) < ws.length)) rfl rfl rfl) <| s_nil ?_
   refine W.cond (decide ((i : Int) < ws.length)) rfl (fun c4 => ?_) (fun c4 => ?_)
   ·simp only [q1, q2, q3, q4, q5, q6, ne_eq, q7] at c4
    refine W.skip <| W.seq <| W.block <| W.seq <| W.region rfl <| s_val (x_mv (v := vw) rfl) <| s_val (x_mv (v := I i) rfl) <| s_val (x_ix (a := vw) (b := I i) (v := vat vw 3 (Int.toNat i)) rfl rfl (Sl.ix (α := Work) T39.und T39.size (hw.to K1) (by omega) (by omega))) ?_
    refine s_val (x_fa (a := vat vw 3 (Int.toNat i)) (v := fat (vat vw 3 (Int.toNat i)) 0) rfl (fa_pl Fd138_0 Sz34 (Sl.pl (i := i) hw (by omega) (by omega)))) ?_
    obtain ⟨u5, ha_u5, hs6⟩ := Work_at0 hw (i := i) (by omega) (by omega)
    replace hs6 : Sl _ u5 (ws.getD i default).of := hs6
    have hl_hs6 := hs6.len_le
    refine s_val (x_ld (p := fat (vat vw 3 (Int.toNat i)) 0) (v := u5) rfl (ld_sc Sc34 (At.to ha_u5 K1))) <| s_val (x_lenS T34.und rfl (hs6.to K1)) <| s_val (x_cmp (kd := .i64) (a := ((ws.getD i default).of).length) (b := 5) (r := decide ((5 : Int) < (((ws.getD i default).of).length))) rfl rfl rfl) <| s_nil ?_
    refine W.cond (decide ((5 : Int) < (((ws.getD i default).of).length))) rfl (fun c7 => ?_) (fun c7 => ?_)
    ·simp only [q1, q2, q3, q4, q5, q6, ne_eq, q7] at c7
     refine W.seq <| W.region rfl <| s_val (x_as (v := I 3) rfl) <| s_nil ?_
     refine W.ret ?_
     exact ⟨_, resE_tmp rfl, (eqI (rr_of c4 c7)), E⟩
    ·simp only [q1, q2, q3, q4, q5, q6, ne_eq, q7] at c7
     refine W.skip <| W.region rfl <| s_val (x_mv (v := I i) rfl) <| s_val (x_ari (a := i) (b := 1) (r := i + 1) rfl rfl rfl (by omega)) <| s_val (x_as (v := I (i + 1)) rfl) <| s_nil ?_
     exact ⟨_, (by omega), i+1, _, upds_of _ _ ⟨rfl, (eqI (by omega)), trivial⟩, rfl, E, K1, (by omega), (rr_of_next iv0_1 c4 c7)⟩
   ·simp only [q1, q2, q3, q4, q5, q6, ne_eq, q7] at c4
    refine W.exit ?_
    refine W.seq <| W.seq <| W.region rfl <| s_val (x_as (v := I 0) rfl) <| s_nil <| W.block ?_
    have hf1 := rr_first c2 c4 iv0_1
    refine W.loop (fun m σ W => ∃ (i : Nat) (ρ : Env), σ = upds ρ [(0, vw), (4, I i)] ∧ m = ws.length - i ∧ Ext w W ∧ KF 0 w W ∧ i ≤ ws.length ∧ (List.range i).any (badAt ws) = false) ?_ ?_
    ·exact ⟨_, 0, _, upds_of _ _ ⟨rfl, (eqI (by omega)), trivial⟩, rfl, E, K1, (Nat.zero_le _), rfl⟩
    ·rintro m σ w8 ⟨i, ρ, rfl, rfl, E, K1, iv1_0, iv1_1⟩
     refine W.seq <| W.seq <| W.region rfl <| s_val (x_mv (v := I i) rfl) <| s_val (x_mv (v := vw) rfl) <| s_val (x_lenS T39.und rfl (hw.to K1)) <| s_val (x_cmp (kd := .i64) (a := i) (b := ws.length) (r := decide ((i : Int) < ws.length)) rfl rfl rfl) <| s_nil ?_
     refine W.cond (decide ((i : Int) < ws.length)) rfl (fun c9 => ?_) (fun c9 => ?_)
     ·simp only [q1, q2, q3, q4, q5, q6, ne_eq, q7] at c9
      refine W.skip <| W.seq <| W.block <| W.seq <| W.seq <| W.region rfl <| s_val (x_mv (v := vw) rfl) <| s_val (x_mv (v := I i) rfl) ?_
      refine s_val (x_ix (a := vw) (b := I i) (v := vat vw 3 (Int.toNat i)) rfl rfl (Sl.ix (α := Work) T39.und T39.size (hw.to K1) (by omega) (by omega))) <| s_val (x_fa (a := vat vw 3 (Int.toNat i)) (v := fat (vat vw 3 (Int.toNat i)) 1) rfl (fa_pl Fd138_1 Sz3 (Sl.pl (i := i) hw (by omega) (by omega)))) <| s_val (x_ld (p := fat (vat vw 3 (Int.toNat i)) 1) (v := I ((ws.getD i default).base)) rfl (ld_sc Sc3 (At.to (Work_at1 hw (i := i) (by omega) (by omega)) K1))) ?_
      refine s_call cf89 [I ((ws.getD i default).base), I 0, I 1000002] rfl (outside_any _ _ _ _) ?_
      rintro _ w10 ⟨rfl, x11⟩
      replace E := E.trans x11
      replace K1 := K1.ext x11
      clear x11
      refine s_val (x_mv (v := B (outB ((ws.getD i default).base) 0 1000002)) rfl) <| g_val (!(outB ((ws.getD i default).base) 0 1000002)) (gy_f rfl) (fun hg => x_mv (v := vw) rfl) <| g_val (!(outB ((ws.getD i default).base) 0 1000002)) (gy_f rfl) (fun hg => x_mv (v := I i) rfl) <| g_val (!(outB ((ws.getD i default).base) 0 1000002)) (gy_f rfl) (fun hg => x_ix (a := vw) (b := I i) (v := vat vw 3 (Int.toNat i)) (gd_of (c := !(outB ((ws.getD i default).base) 0 1000002)) hg (vw)) (gd_of (c := !(outB ((ws.getD i default).base) 0 1000002)) hg (I i)) (Sl.ix (α := Work) T39.und T39.size (hw.to K1) (by first | omega | (simp at hg; omega) | (simp [inB] at hg; omega)) (by first | omega | (simp at hg; omega) | (simp [inB] at hg; omega)))) <| g_val (!(outB ((ws.getD i default).base) 0 1000002)) (gy_f rfl) (fun hg => x_fa (a := vat vw 3 (Int.toNat i)) (v := fat (vat vw 3 (Int.toNat i)) 2) (gd_of (c := !(outB ((ws.getD i default).base) 0 1000002)) hg (vat vw 3 (Int.toNat i))) (fa_pl Fd138_2 Sz3 (Sl.pl (i := i) hw (by first | omega | (simp at hg; omega) | (simp [inB] at hg; omega)) (by first | omega | (simp at hg; omega) | (simp [inB] at hg; omega))))) <| g_val (!(outB ((ws.getD i default).base) 0 1000002)) (gy_f rfl) (fun hg => x_ld (p := fat (vat vw 3 (Int.toNat i)) 2) (v := I ((ws.getD i default).minutes)) (gd_of (c := !(outB ((ws.getD i default).base) 0 1000002)) hg (fat (vat vw 3 (Int.toNat i)) 2)) (ld_sc Sc3 (At.to (Work_at2 hw (i := i) (by first | omega | (simp at hg; omega) | (simp [inB] at hg; omega)) (by first | omega | (simp at hg; omega) | (simp [inB] at hg; omega))) K1))) ?_
      refine g_call (!(outB ((ws.getD i default).base) 0 1000002)) (gy_f rfl) cf89 (B (outB ((ws.getD i default).minutes) 0 10000)) (fun _ => [I ((ws.getD i default).minutes), I 0, I 10000]) (fun hg => lst3 (gd_of (c := !(outB ((ws.getD i default).base) 0 1000002)) hg (I ((ws.getD i default).minutes))) rfl rfl) (fun hg => (outside_any _ _ _ _)) ?_
      intro w12 x13
      replace E := E.trans x13
      replace K1 := K1.ext x13
      clear x13
      refine s_val (x_por (b := outB ((ws.getD i default).base) 0 1000002) (r := outB ((ws.getD i default).minutes) 0 10000) rfl rfl (fun hb => gd_of (c := !(outB ((ws.getD i default).base) 0 1000002)) (by simp_all) (B (outB ((ws.getD i default).minutes) 0 10000)))) <| s_nil ?_
      refine W.cond (((outB ((ws.getD i default).base) 0 1000002) || (outB ((ws.getD i default).minutes) 0 10000))) rfl (fun c14 => ?_) (fun c14 => ?_)
      ·skip
       refine W.seq <| W.region rfl <| s_val (x_as (v := I 140) rfl) <| s_nil ?_
       refine W.ret ?_
       exact ⟨_, resE_tmp rfl, (eqI (right_bad hf1 c9 (rr_num c14))), E⟩
      ·skip
       refine W.skip <| W.seq <| W.region rfl <| s_val (x_as (v := I 0) rfl) <| s_nil <| W.block ?_
       refine W.loop (fun m σ W => ∃ (k : Nat) (ρ : Env), σ = upds ρ [(0, vw), (4, I i), (5, I k), (42, gd (!(outB ((ws.getD i default).base) 0 1000002)) vw), (43, gd (!(outB ((ws.getD i default).base) 0 1000002)) (I i)), (44, gd (!(outB ((ws.getD i default).base) 0 1000002)) (vat vw 3 (Int.toNat i))), (45, gd (!(outB ((ws.getD i default).base) 0 1000002)) (fat (vat vw 3 (Int.toNat i)) 2)), (46, gd (!(outB ((ws.getD i default).base) 0 1000002)) (I ((ws.getD i default).minutes))), (47, gd (!(outB ((ws.getD i default).base) 0 1000002)) (B (outB ((ws.getD i default).minutes) 0 10000)))] ∧ m = (ws.getD i default).of.length - k ∧ Ext w W ∧ KF 0 w W ∧ k ≤ (ws.getD i default).of.length ∧ ((ws.getD i default).of.take k).all (kOK ws.length i) = true) ?_ ?_
       ·exact ⟨_, 0, _, upds_of _ _ ⟨rfl, rfl, (eqI (by omega)), rfl, rfl, rfl, rfl, rfl, rfl, trivial⟩, rfl, E, K1, (Nat.zero_le _), rfl⟩
       ·rintro m σ w15 ⟨k, ρ, rfl, rfl, E, K1, iv2_0, iv2_1⟩
        refine W.seq <| W.seq <| W.region rfl <| s_val (x_mv (v := I k) rfl) <| s_val (x_mv (v := vw) rfl) <| s_val (x_mv (v := I i) rfl) <| s_val (x_ix (a := vw) (b := I i) (v := vat vw 3 (Int.toNat i)) rfl rfl (Sl.ix (α := Work) T39.und T39.size (hw.to K1) (by omega) (by omega))) <| s_val (x_fa (a := vat vw 3 (Int.toNat i)) (v := fat (vat vw 3 (Int.toNat i)) 0) rfl (fa_pl Fd138_0 Sz34 (Sl.pl (i := i) hw (by omega) (by omega)))) ?_
        obtain ⟨u16, ha_u16, hs17⟩ := Work_at0 hw (i := i) (by omega) (by omega)
        replace hs17 : Sl _ u16 (ws.getD i default).of := hs17
        have hl_hs17 := hs17.len_le
        refine s_val (x_ld (p := fat (vat vw 3 (Int.toNat i)) 0) (v := u16) rfl (ld_sc Sc34 (At.to ha_u16 K1))) <| s_val (x_lenS T34.und rfl (hs17.to K1)) <| s_val (x_cmp (kd := .i64) (a := k) (b := ((ws.getD i default).of).length) (r := decide ((k : Int) < (((ws.getD i default).of).length))) rfl rfl rfl) <| s_nil ?_
        refine W.cond (decide ((k : Int) < (((ws.getD i default).of).length))) rfl (fun c18 => ?_) (fun c18 => ?_)
        ·simp only [q1, q2, q3, q4, q5, q6, ne_eq, q7] at c18
         refine W.skip <| W.seq <| W.block <| W.seq <| W.region rfl <| s_val (x_mv (v := vw) rfl) <| s_val (x_mv (v := I i) rfl) <| s_val (x_ix (a := vw) (b := I i) (v := vat vw 3 (Int.toNat i)) rfl rfl (Sl.ix (α := Work) T39.und T39.size (hw.to K1) (by omega) (by omega))) ?_
         refine s_val (x_fa (a := vat vw 3 (Int.toNat i)) (v := fat (vat vw 3 (Int.toNat i)) 0) rfl (fa_pl Fd138_0 Sz34 (Sl.pl (i := i) hw (by omega) (by omega)))) ?_
         obtain ⟨u19, ha_u19, hs20⟩ := Work_at0 hw (i := i) (by omega) (by omega)
         replace hs20 : Sl _ u19 (ws.getD i default).of := hs20
         have hl_hs20 := hs20.len_le
         refine s_val (x_ld (p := fat (vat vw 3 (Int.toNat i)) 0) (v := u19) rfl (ld_sc Sc34 (At.to ha_u19 K1))) <| s_val (x_mv (v := I k) rfl) <| s_val (x_ix (a := u19) (b := I k) (v := vat u19 1 (Int.toNat k)) rfl rfl (Sl.ix (α := Int) T34.und T34.size (hs20.to K1) (by omega) (by omega))) <| s_val (x_ld (p := vat u19 1 (Int.toNat k)) (v := I (((ws.getD i default).of).getD k 0)) rfl (ld_sc Sc3 (At.to (Int_at hs20 (i := k) (by omega) (by omega)) K1))) <| s_val (x_mv (v := vw) rfl) <| s_val (x_lenS T39.und rfl (hw.to K1)) <| s_val (x_ari (a := ws.length) (b := 1) (r := ws.length - 1) rfl rfl rfl (by omega)) ?_
         refine s_call cf89 [I (((ws.getD i default).of).getD k 0), I 0, I (ws.length - 1)] rfl (outside_any _ _ _ _) ?_
         rintro _ w21 ⟨rfl, x22⟩
         replace E := E.trans x22
         replace K1 := K1.ext x22
         clear x22
         refine s_val (x_mv (v := B (outB (((ws.getD i default).of).getD k 0) 0 (ws.length - 1))) rfl) <| g_val (!(outB (((ws.getD i default).of).getD k 0) 0 (ws.length - 1))) (gy_f rfl) (fun hg => x_mv (v := vw) rfl) <| g_val (!(outB (((ws.getD i default).of).getD k 0) 0 (ws.length - 1))) (gy_f rfl) (fun hg => x_mv (v := I i) rfl) <| g_val (!(outB (((ws.getD i default).of).getD k 0) 0 (ws.length - 1))) (gy_f rfl) (fun hg => x_ix (a := vw) (b := I i) (v := vat vw 3 (Int.toNat i)) (gd_of (c := !(outB (((ws.getD i default).of).getD k 0) 0 (ws.length - 1))) hg (vw)) (gd_of (c := !(outB (((ws.getD i default).of).getD k 0) 0 (ws.length - 1))) hg (I i)) (Sl.ix (α := Work) T39.und T39.size (hw.to K1) (by first | omega | (simp at hg; omega) | (simp [inB] at hg; omega)) (by first | omega | (simp at hg; omega) | (simp [inB] at hg; omega)))) <| g_val (!(outB (((ws.getD i default).of).getD k 0) 0 (ws.length - 1))) (gy_f rfl) (fun hg => x_fa (a := vat vw 3 (Int.toNat i)) (v := fat (vat vw 3 (Int.toNat i)) 0) (gd_of (c := !(outB (((ws.getD i default).of).getD k 0) 0 (ws.length - 1))) hg (vat vw 3 (Int.toNat i))) (fa_pl Fd138_0 Sz34 (Sl.pl (i := i) hw (by first | omega | (simp at hg; omega) | (simp [inB] at hg; omega)) (by first | omega | (simp at hg; omega) | (simp [inB] at hg; omega))))) ?_
         obtain ⟨u23, ha_u23, hs24⟩ := gd_ex (c := !(outB (((ws.getD i default).of).getD k 0) 0 (ws.length - 1))) fun hg => Work_at0 hw (i := i) (by first | omega | (simp at hg; omega) | (simp [inB] at hg; omega)) (by first | omega | (simp at hg; omega) | (simp [inB] at hg; omega))
         replace hs24 : (!(outB (((ws.getD i default).of).getD k 0) 0 (ws.length - 1))) = true → Sl _ u23 (ws.getD i default).of := hs24
         refine g_val (!(outB (((ws.getD i default).of).getD k 0) 0 (ws.length - 1))) (gy_f rfl) (fun hg => x_ld (p := fat (vat vw 3 (Int.toNat i)) 0) (v := u23) (gd_of (c := !(outB (((ws.getD i default).of).getD k 0) 0 (ws.length - 1))) hg (fat (vat vw 3 (Int.toNat i)) 0)) (ld_sc Sc34 (At.to (ha_u23 hg) K1))) <| g_val (!(outB (((ws.getD i default).of).getD k 0) 0 (ws.length - 1))) (gy_f rfl) (fun hg => x_mv (v := I k) rfl) <| g_val (!(outB (((ws.getD i default).of).getD k 0) 0 (ws.length - 1))) (gy_f rfl) (fun hg => x_ix (a := u23) (b := I k) (v := vat u23 1 (Int.toNat k)) (gd_of (c := !(outB (((ws.getD i default).of).getD k 0) 0 (ws.length - 1))) hg (u23)) (gd_of (c := !(outB (((ws.getD i default).of).getD k 0) 0 (ws.length - 1))) hg (I k)) (Sl.ix (α := Int) T34.und T34.size ((hs24 hg).to K1) (by first | omega | (simp at hg; omega) | (simp [inB] at hg; omega)) (by first | omega | (simp at hg; omega) | (simp [inB] at hg; omega)))) <| g_val (!(outB (((ws.getD i default).of).getD k 0) 0 (ws.length - 1))) (gy_f rfl) (fun hg => x_ld (p := vat u23 1 (Int.toNat k)) (v := I (((ws.getD i default).of).getD k 0)) (gd_of (c := !(outB (((ws.getD i default).of).getD k 0) 0 (ws.length - 1))) hg (vat u23 1 (Int.toNat k))) (ld_sc Sc3 (At.to (Int_at ((hs24 hg)) (i := k) (by first | omega | (simp at hg; omega) | (simp [inB] at hg; omega)) (by first | omega | (simp at hg; omega) | (simp [inB] at hg; omega))) K1))) <| g_val (!(outB (((ws.getD i default).of).getD k 0) 0 (ws.length - 1))) (gy_f rfl) (fun hg => x_mv (v := I i) rfl) <| g_val (!(outB (((ws.getD i default).of).getD k 0) 0 (ws.length - 1))) (gy_f rfl) (fun hg => x_cmp (kd := .i64) (a := ((ws.getD i default).of).getD k 0) (b := i) (r := ((((ws.getD i default).of).getD k 0) : Int) == i) (gd_of (c := !(outB (((ws.getD i default).of).getD k 0) 0 (ws.length - 1))) hg (I (((ws.getD i default).of).getD k 0))) (gd_of (c := !(outB (((ws.getD i default).of).getD k 0) 0 (ws.length - 1))) hg (I i)) rfl) <| s_val (x_por (b := outB (((ws.getD i default).of).getD k 0) 0 (ws.length - 1)) (r := ((((ws.getD i default).of).getD k 0) : Int) == i) rfl rfl (fun hb => gd_of (c := !(outB (((ws.getD i default).of).getD k 0) 0 (ws.length - 1))) (by simp_all) (B (((((ws.getD i default).of).getD k 0) : Int) == i)))) <| s_nil ?_
         refine W.cond (((outB (((ws.getD i default).of).getD k 0) 0 (ws.length - 1)) || (((((ws.getD i default).of).getD k 0) : Int) == i))) rfl (fun c25 => ?_) (fun c25 => ?_)
         ·skip
          refine W.seq <| W.region rfl <| s_val (x_as (v := I 140) rfl) <| s_nil ?_
          refine W.ret ?_
          exact ⟨_, resE_tmp rfl, (eqI (right_bad hf1 c9 (rr_k c18 c25))), E⟩
         ·skip
          refine W.skip <| W.region rfl <| s_val (x_mv (v := I k) rfl) <| s_val (x_ari (a := k) (b := 1) (r := k + 1) rfl rfl rfl (by omega)) <| s_val (x_as (v := I (k + 1)) rfl) <| s_nil ?_
          exact ⟨_, (by omega), k+1, _, upds_of _ _ ⟨rfl, rfl, (eqI (by omega)), rfl, rfl, rfl, rfl, rfl, rfl, trivial⟩, rfl, E, K1, (by omega), (rr_k_next iv2_1 c18 c25)⟩
        ·simp only [q1, q2, q3, q4, q5, q6, ne_eq, q7] at c18
         refine W.exit ?_
         refine W.region rfl <| s_val (x_mv (v := I i) rfl) <| s_val (x_ari (a := i) (b := 1) (r := i + 1) rfl rfl rfl (by omega)) <| s_val (x_as (v := I (i + 1)) rfl) <| s_nil ?_
         exact ⟨_, (by omega), i+1, _, upds_of _ _ ⟨rfl, (eqI (by omega)), trivial⟩, rfl, E, K1, (by omega), (right_next iv1_1 (rr_good c14 iv2_1 c18))⟩
     ·simp only [q1, q2, q3, q4, q5, q6, ne_eq, q7] at c9
      refine W.exit ?_
      refine W.seq <| W.seq <| W.region rfl <| s_val (x_as (v := I 0) rfl) <| s_nil <| W.block ?_
      have hj3 := c9
      have hl3 := iv1_0
      have hb3 := iv1_1
      refine W.loop (fun m σ W => ∃ (i : Nat) (ρ : Env), σ = upds ρ [(0, vw), (6, I i)] ∧ m = ws.length - i ∧ Ext w W ∧ KF 0 w W ∧ i ≤ ws.length ∧ (ws.take i).any (fun x => dupL x.of) = false) ?_ ?_
      ·exact ⟨_, 0, _, upds_of _ _ ⟨rfl, (eqI (by omega)), trivial⟩, rfl, E, K1, (Nat.zero_le _), rfl⟩
      ·rintro m σ w26 ⟨i, ρ, rfl, rfl, E, K1, iv3_0, iv3_1⟩
       refine W.seq <| W.seq <| W.region rfl <| s_val (x_mv (v := I i) rfl) <| s_val (x_mv (v := vw) rfl) <| s_val (x_lenS T39.und rfl (hw.to K1)) <| s_val (x_cmp (kd := .i64) (a := i) (b := ws.length) (r := decide ((i : Int) < ws.length)) rfl rfl rfl) <| s_nil ?_
       refine W.cond (decide ((i : Int) < ws.length)) rfl (fun c27 => ?_) (fun c27 => ?_)
       ·simp only [q1, q2, q3, q4, q5, q6, ne_eq, q7] at c27
        refine W.skip <| W.seq <| W.block <| W.seq <| W.region rfl <| s_val (x_as (v := I 0) rfl) <| s_nil <| W.block ?_
        refine W.loop (fun m σ W => ∃ (k : Nat) (ρ : Env), σ = upds ρ [(0, vw), (6, I i), (7, I k)] ∧ m = (ws.getD i default).of.length - k ∧ Ext w W ∧ KF 0 w W ∧ k ≤ (ws.getD i default).of.length ∧ (List.range k).any (dupAt (ws.getD i default).of) = false) ?_ ?_
        ·exact ⟨_, 0, _, upds_of _ _ ⟨rfl, rfl, (eqI (by omega)), trivial⟩, rfl, E, K1, (Nat.zero_le _), rfl⟩
        ·rintro m σ w28 ⟨k, ρ, rfl, rfl, E, K1, iv4_0, iv4_1⟩
         refine W.seq <| W.seq <| W.region rfl <| s_val (x_mv (v := I k) rfl) <| s_val (x_mv (v := vw) rfl) <| s_val (x_mv (v := I i) rfl) <| s_val (x_ix (a := vw) (b := I i) (v := vat vw 3 (Int.toNat i)) rfl rfl (Sl.ix (α := Work) T39.und T39.size (hw.to K1) (by omega) (by omega))) <| s_val (x_fa (a := vat vw 3 (Int.toNat i)) (v := fat (vat vw 3 (Int.toNat i)) 0) rfl (fa_pl Fd138_0 Sz34 (Sl.pl (i := i) hw (by omega) (by omega)))) ?_
         obtain ⟨u29, ha_u29, hs30⟩ := Work_at0 hw (i := i) (by omega) (by omega)
         replace hs30 : Sl _ u29 (ws.getD i default).of := hs30
         have hl_hs30 := hs30.len_le
         refine s_val (x_ld (p := fat (vat vw 3 (Int.toNat i)) 0) (v := u29) rfl (ld_sc Sc34 (At.to ha_u29 K1))) <| s_val (x_lenS T34.und rfl (hs30.to K1)) <| s_val (x_cmp (kd := .i64) (a := k) (b := ((ws.getD i default).of).length) (r := decide ((k : Int) < (((ws.getD i default).of).length))) rfl rfl rfl) <| s_nil ?_
         refine W.cond (decide ((k : Int) < (((ws.getD i default).of).length))) rfl (fun c31 => ?_) (fun c31 => ?_)
         ·simp only [q1, q2, q3, q4, q5, q6, ne_eq, q7] at c31
          refine W.skip <| W.seq <| W.block <| W.seq ?_
          refine W.draw (fun W => Ext w W ∧ KF 0 w W) [(0, true), (1, true), (2, true), (3, true), (4, true), (5, true), (6, true), (7, true), (8, true), (9, true), (10, true), (11, true), (12, true), (13, true), (14, true), (15, false)] mixed (by decide +kernel) rfl ?_
          intro w32 x33
          replace E := E.trans x33
          replace K1 := K1.ext x33
          clear x33
          refine ⟨⟨E, K1⟩, ?_⟩
          refine d_q rfl (fun w' hC => by obtain ⟨E, K1⟩ := hC; exact x_mv (v := vw) rfl) ?_
          refine d_q rfl (fun w' hC => by obtain ⟨E, K1⟩ := hC; exact x_mv (v := I i) rfl) ?_
          refine d_q rfl (fun w' hC => by obtain ⟨E, K1⟩ := hC; exact x_ix (a := vw) (b := I i) (v := vat vw 3 (Int.toNat i)) rfl rfl (Sl.ix (α := Work) T39.und T39.size (hw.to K1) (by omega) (by omega))) ?_
          refine d_q rfl (fun w' hC => by obtain ⟨E, K1⟩ := hC; exact x_fa (a := vat vw 3 (Int.toNat i)) (v := fat (vat vw 3 (Int.toNat i)) 0) rfl (fa_pl Fd138_0 Sz34 (Sl.pl (i := i) hw (by omega) (by omega)))) ?_
          obtain ⟨u34, ha_u34, hs35⟩ := Work_at0 hw (i := i) (by omega) (by omega)
          replace hs35 : Sl _ u34 (ws.getD i default).of := hs35
          have hl_hs35 := hs35.len_le
          refine d_q rfl (fun w' hC => by obtain ⟨E, K1⟩ := hC; exact x_ld (p := fat (vat vw 3 (Int.toNat i)) 0) (v := u34) rfl (ld_sc Sc34 (At.to ha_u34 K1))) ?_
          refine d_q rfl (fun w' hC => by obtain ⟨E, K1⟩ := hC; exact x_mv (v := I k) rfl) ?_
          obtain ⟨u36, hr_u36, hs37⟩ := sl_hi T34.und T34.size hs35 (j := k) (by omega) (by omega)
          replace hs37 : Sl _ u36 (((ws.getD i default).of).take k) := hs37
          refine d_q rfl (fun w' hC => by obtain ⟨E, K1⟩ := hC; exact x_sl (v := u34) (u := u36) (lo' := none) (hi' := some (I k)) (mx' := none) rfl rfl rfl rfl (hr_u36 _)) ?_
          refine d_q rfl (fun w' hC => by obtain ⟨E, K1⟩ := hC; exact x_mv (v := vw) rfl) ?_
          refine d_q rfl (fun w' hC => by obtain ⟨E, K1⟩ := hC; exact x_mv (v := I i) rfl) ?_
          refine d_q rfl (fun w' hC => by obtain ⟨E, K1⟩ := hC; exact x_ix (a := vw) (b := I i) (v := vat vw 3 (Int.toNat i)) rfl rfl (Sl.ix (α := Work) T39.und T39.size (hw.to K1) (by omega) (by omega))) ?_
          refine d_q rfl (fun w' hC => by obtain ⟨E, K1⟩ := hC; exact x_fa (a := vat vw 3 (Int.toNat i)) (v := fat (vat vw 3 (Int.toNat i)) 0) rfl (fa_pl Fd138_0 Sz34 (Sl.pl (i := i) hw (by omega) (by omega)))) ?_
          obtain ⟨u38, ha_u38, hs39⟩ := Work_at0 hw (i := i) (by omega) (by omega)
          replace hs39 : Sl _ u38 (ws.getD i default).of := hs39
          have hl_hs39 := hs39.len_le
          refine d_q rfl (fun w' hC => by obtain ⟨E, K1⟩ := hC; exact x_ld (p := fat (vat vw 3 (Int.toNat i)) 0) (v := u38) rfl (ld_sc Sc34 (At.to ha_u38 K1))) ?_
          refine d_q rfl (fun w' hC => by obtain ⟨E, K1⟩ := hC; exact x_mv (v := I k) rfl) ?_
          refine d_q rfl (fun w' hC => by obtain ⟨E, K1⟩ := hC; exact x_ix (a := u38) (b := I k) (v := vat u38 1 (Int.toNat k)) rfl rfl (Sl.ix (α := Int) T34.und T34.size (hs39.to K1) (by omega) (by omega))) ?_
          refine d_q rfl (fun w' hC => by obtain ⟨E, K1⟩ := hC; exact x_ld (p := vat u38 1 (Int.toNat k)) (v := I (((ws.getD i default).of).getD k 0)) rfl (ld_sc Sc3 (At.to (Int_at hs39 (i := k) (by omega) (by omega)) K1))) ?_
          refine d_l rfl ?_
          refine s_call cf95 [u36, I (((ws.getD i default).of).getD k 0)] rfl (has_any (((ws.getD i default).of).getD k 0) _ (hs37.to K1)) ?_
          rintro _ w40 ⟨rfl, x41⟩
          replace E := E.trans x41
          replace K1 := K1.ext x41
          clear x41
          refine s_nil ⟨⟨E, K1⟩, ?_⟩
          refine d_nil ?_
          refine W.cond ((((ws.getD i default).of).take k).contains (((ws.getD i default).of).getD k 0)) rfl (fun c42 => ?_) (fun c42 => ?_)
          ·skip
           refine W.seq <| W.region rfl <| s_val (x_as (v := I 10) rfl) <| s_nil ?_
           refine W.ret ?_
           exact ⟨_, resE_tmp rfl, (eqI (rr_dup hf1 hj3 hl3 hb3 c27 c31 c42)), E⟩
          ·skip
           refine W.skip <| W.region rfl <| s_val (x_mv (v := I k) rfl) <| s_val (x_ari (a := k) (b := 1) (r := k + 1) rfl rfl rfl (by omega)) <| s_val (x_as (v := I (k + 1)) rfl) <| s_nil ?_
           exact ⟨_, (by omega), k+1, _, upds_of _ _ ⟨rfl, rfl, (eqI (by omega)), trivial⟩, rfl, E, K1, (by omega), (rr_dup1 iv4_1 c42)⟩
         ·simp only [q1, q2, q3, q4, q5, q6, ne_eq, q7] at c31
          refine W.exit ?_
          refine W.region rfl <| s_val (x_mv (v := I i) rfl) <| s_val (x_ari (a := i) (b := 1) (r := i + 1) rfl rfl rfl (by omega)) <| s_val (x_as (v := I (i + 1)) rfl) <| s_nil ?_
          exact ⟨_, (by omega), i+1, _, upds_of _ _ ⟨rfl, (eqI (by omega)), trivial⟩, rfl, E, K1, (by omega), (rr_dup_next iv3_1 c27 iv4_1 c31 iv4_0)⟩
       ·simp only [q1, q2, q3, q4, q5, q6, ne_eq, q7] at c27
        refine W.exit ?_
        refine W.seq <| W.region rfl <| s_val (x_as (v := I 0) rfl) <| s_nil ?_
        refine W.ret ?_
        exact ⟨_, resE_tmp rfl, (eqI (right_ok hf1 hj3 hl3 hb3 (by rw [List.take_of_length_le (by omega)]; rw [List.take_of_length_le (by omega)] at iv3_1; exact iv3_1))), E⟩

end Go.Proofs.Ytndobgodeicloaa
namespace Go.Nm
open Go
theorem OwnF.zero {α : Type} [Flat α] {B : Nat} {e : TypeId} {w : World} {v : Value} {l : List α} (h : OwnF B e w v l) : OwnF 0 e w v l := h.dn (Nat.zero_le _)
section
variable {P : Program} {all rest : List Oper} {Q : Post} {σ : Env} {w0 w : World} {L L' R : List Chunk} {d : Nat} {ty : TypeId} {pos : String} {af : Array Edge} {g : Option (Nat × Bool)}
theorem t_box {e : TypeId} {x : Operand} {v : Value} {cs : List Value} (H : St w0 w L R) (hx : ev σ x = v) (hv : v.cells = cs.toArray)
    (k : ∀ b w', St w0 w' (cBlk b cs e :: L) R → SL P all Q rest (upd σ d (.pointer (some ⟨b, 0, none⟩))) w') : SL P all Q (⟨some d, .box e x, ty, pos, af, none⟩ :: rest) σ w :=
  s_box hx hv fun b w' hn => k b w' (H.push (c := cBlk b cs e) hn.ext hn.same (fun j hj => by rw [show j = b from hj]; exact hn.ge))
theorem t_alloc {e : TypeId} {z : Value} {cs : List Value} (H : St w0 w L R) (hz : (P.info? e).map (·.zero) = some (some z)) (hv : z.cells = cs.toArray)
    (k : ∀ b w', St w0 w' (cBlk b cs e :: L) R → SL P all Q rest (upd σ d (.pointer (some ⟨b, 0, none⟩))) w') : SL P all Q (⟨some d, .alloc e, ty, pos, af, none⟩ :: rest) σ w :=
  s_alloc hz hv fun b w' hn => k b w' (H.push (c := cBlk b cs e) hn.ext hn.same (fun j hj => by rw [show j = b from hj]; exact hn.ge))
theorem St.putBlk {k : Nat} {b : Nat} {cs cs' : List Value} {t : TypeId} {w' : World} (H : St w0 w L R) (hk : L[k]? = some (cBlk b cs t)) (p : Put w b (.cells cs'.toArray t (0, 0)) w') (hl : L.set k (cBlk b cs' t) = L') : St w0 w' L' R :=
  H.set (c' := cBlk b cs' t) hk rfl p.keep (fun i _ hne => p.other i hne) (fun i hi => .inl hi) p.same hl
theorem t_st {dst : Option Nat} {t : TypeId} {x y : Operand} {k b off n : Nat} {cs vs cs' : List Value} {et : TypeId} {v : Value} (H : St w0 w L R) (hk : L[k]? = some (cBlk b cs et)) (hx : ev σ x = .pointer (some ⟨b, off, none⟩)) (hy : ev σ y = v)
    (hs : (P.info? t).map (·.size) = some n) (hv : v.cells = vs.toArray) (hn : vs.length = n) (hl : Nat.ble (off + n) cs.length = true)
    (h1 : vs.all (·.oneCell') = true) (hc : cs.take off ++ vs ++ cs.drop (off + n) = cs') (hL : L.set k (cBlk b cs' et) = L')
    (kk : ∀ w', St w0 w' L' R → SL P all Q rest (updo σ dst undef) w') : SL P all Q (⟨dst, .store t x y, ty, pos, af, none⟩ :: rest) σ w :=
  s_st hx hy hs (H.get hk) hv hn hl h1 hc fun w' p => kk w' (H.putBlk hk p hL)
theorem t_stArr {dst : Option Nat} {t : TypeId} {x y : Operand} {k b : Nat} {l l' : List Bool} {et : TypeId} {i : Int} {v : Bool} (H : St w0 w L R) (hk : L[k]? = some (cBlk b (encB l) et)) (hx : ev σ x = .pointer (some ⟨b, 0 + i.toNat, none⟩)) (hy : ev σ y = B v)
    (hs : (P.info? t).map (·.size) = some 1) (h0 : 0 ≤ i) (h1 : i < l.length) (hl' : l.set i.toNat v = l') (hL : L.set k (cBlk b (encB l') et) = L')
    (kk : ∀ w', St w0 w' L' R → SL P all Q rest (updo σ dst undef) w') : SL P all Q (⟨dst, .store t x y, ty, pos, af, none⟩ :: rest) σ w := by
  subst hl'
  exact s_stArr hx hy hs (H.get hk) h0 h1 fun w' p => kk w' (H.putBlk hk p hL)
theorem t_stArrA {dst : Option Nat} {t n : Nat} {x y : Operand} {k b : Nat} {l l' : List Bool} {et : TypeId} (H : St w0 w L R) (hk : L[k]? = some (cBlk b (encB l) et)) (hx : ev σ x = .pointer (some ⟨b, 0, none⟩)) (hy : ev σ y = .agg (encB l').toArray)
    (hs : (P.info? t).map (·.size) = some n) (hl : l.length = n) (hl' : l'.length = n) (hL : L.set k (cBlk b (encB l') et) = L')
    (kk : ∀ w', St w0 w' L' R → SL P all Q rest (updo σ dst undef) w') : SL P all Q (⟨dst, .store t x y, ty, pos, af, none⟩ :: rest) σ w :=
  s_stArrA hx hy hs (H.get hk) hl hl' fun w' p => kk w' (H.putBlk hk p hL)
theorem St.own {k : Nat} {α : Type} [Flat α] {e : TypeId} {v v' : Value} {l l' : List α} {B : Nat} {w' : World} (H : St w0 w L R) (hk : L[k]? = some (cOwn e v l)) (ho : OwnF 0 e w' v' l') (hg : Grow B v w w')
    (hne : ∀ b, b < w.heap.size → v.ownBlock ≠ some b → v'.ownBlock ≠ some b) (hl : L.set k (cOwn e v' l') = L') : St w0 w' L' R :=
  H.set hk rfl hg.keep (fun i hi hne => hg.blk i hi hne) (fun i hi => by
    by_cases h : i < w.heap.size
    · by_cases h2 : v.ownBlock = some i
      · exact .inl h2
      · exact absurd hi (hne i h h2)
    · exact .inr (by omega)) ho hl
theorem len63 {a by' : Nat} (hb : Nat.blt 0 by' = true) (hn : a * by' ≤ 140737488355328) : a ≤ 9223372036854775807 := by
  have h0 : 0 < by' := Nat.le_of_ble_eq_true hb
  have : a ≤ a * by' := Nat.le_mul_of_pos_right _ h0
  omega
theorem t_app {α : Type} [Flat α] {t e by' k : Nat} {z : Value} {x y : Operand} (T : SlT P t e (Elt.sz α) by' z) (hb : Nat.blt 0 by' = true) {v vy : Value} {l l2 l' : List α} {C : Cells} (H : St w0 w L R) (hk : L[k]? = some (cOwn e v l)) (hx : ev σ x = v) (hy : ev σ y = vy)
    (hs : Sl C vy l2) (hle : C.Le w.cell?) (hl' : l ++ l2 = l') (hn : (l.length + l2.length) * by' ≤ 140737488355328)
    (kk : ∀ v' w', St w0 w' (L.set k (cOwn e v' l')) R → SL P all Q rest (upd σ d v') w') :
    SL P all Q (⟨some d, .call ⟨.builtin .append, #[x, y], #[t, t]⟩, ty, pos, af, none⟩ :: rest) σ w := by
  subst hl'
  exact s_app T hx hy (H.get hk) hs hle (Nat.zero_le _) hn (len63 hb hn) fun v' w' ho hg hne => kk v' w' (H.own hk ho hg hne rfl)
/-- An append to a slice that is nil. -/
theorem t_appN {α : Type} [Flat α] {t e by' : Nat} {z : Value} {x y : Operand} (T : SlT P t e (Elt.sz α) by' z) (hb : Nat.blt 0 by' = true) {vy : Value} {l2 : List α} {C : Cells} (H : St w0 w L R) (hx : ev σ x = .slice none 0 0) (hy : ev σ y = vy)
    (hs : Sl C vy l2) (hle : C.Le w.cell?) (hn : l2.length * by' ≤ 140737488355328)
    (kk : ∀ v' w', St w0 w' (cOwn e v' l2 :: L) R → SL P all Q rest (upd σ d v') w') :
    SL P all Q (⟨some d, .call ⟨.builtin .append, #[x, y], #[t, t]⟩, ty, pos, af, none⟩ :: rest) σ w := by
  refine s_app (l := ([] : List α)) T hx hy (OwnF.nil w.heap.size e w) hs hle (Nat.le_refl _) (by simpa using hn) (by simpa using len63 hb hn) fun v' w' ho hg hne => kk v' w' ?_
  have hx' : Ext w w' := (Ext.refl w).grow hg (Nat.le_refl _)
  refine H.push hx' (show OwnF 0 e w' v' l2 from ho.zero) (fun b hb' => ?_)
  exact (ho.lt b hb').1
theorem t_mk {α : Type} [Flat α] {t e by' : Nat} {z : Value} {x y : Operand} (T : SlT P t e (Elt.sz α) by' z) (a : α) (hz : z.cells = (Flat.enc a : List Value).toArray) {n : Int} (H : St w0 w L R) (hx : ev σ x = .int .i64 n) (hy : ev σ y = .int .i64 n)
    (h0 : 0 ≤ n) (hn : (by' : Int) * n ≤ 281474976710656) (h63 : n ≤ 9223372036854775807)
    (k : ∀ v w', St w0 w' (cOwn e v (List.replicate n.toNat a) :: L) R → SL P all Q rest (upd σ d v) w') :
    SL P all Q (⟨some d, .makeSlice t x y, ty, pos, af, none⟩ :: rest) σ w :=
  s_mk T a hz hx hy h0 hn h63 fun v w' ho hx' => k v w' (H.push hx' (show OwnF 0 e w' v _ from ho.zero) (fun b hb' => (ho.lt b hb').1))
theorem t_ost {α : Type} [Flat α] {dst : Option Nat} {e t k : Nat} {x y : Operand} {v val : Value} {l l' : List α} (H : St w0 w L R) (hk : L[k]? = some (cOwn e v l)) (hs : (P.info? t).map (·.size) = some (Elt.sz α)) {i : Int}
    (h0 : 0 ≤ i) (h1 : i < l.length) (a : α) (hx : ev σ x = vat v (Elt.sz α) i.toNat) (hy : ev σ y = val) (hv : val.cells = (Flat.enc a : List Value).toArray) (hl' : l.set i.toNat a = l') (hL : L.set k (cOwn e v l') = L')
    (kk : ∀ w', St w0 w' L' R → SL P all Q rest (updo σ dst undef) w') : SL P all Q (⟨dst, .store t x y, ty, pos, af, none⟩ :: rest) σ w := by
  subst hl'
  exact s_ost (H.get hk) hs h0 h1 a hx hy hv fun w' ho hg => kk w' (H.own hk ho hg (fun _ _ h => h) hL)
/-- A slice literal of plain data. -/
theorem t_bs {α : Type} [Flat α] {t e by' : Nat} {z : Value} {parts : Array (Nat × Operand)} (T : SlT P t e (Elt.sz α) by' z) (vs : List Value) (l : List α) (H : St w0 w L R)
    (hp : parts.toList.map (fun x => (x.1, ev σ x.2)) = (vs.zipIdx 0).map fun x => (x.2, x.1)) (hr : Reps (fun _ => none) vs l) {n : Nat} (hn : l.length = n) (h0 : Nat.blt 0 n = true) (hsm : Nat.ble (n * Elt.sz α) 16777216 = true)
    (k : ∀ u w', St w0 w' (cOwn e u l :: L) R → SL P all Q rest (upd σ d u) w') : SL P all Q (⟨some d, .buildSlice t n parts, ty, pos, af, none⟩ :: rest) σ w := by
  have h0' : 0 < n := Nat.le_of_ble_eq_true h0
  have hsm' := Nat.le_of_ble_eq_true hsm
  have hpos := T.pos
  obtain ⟨i, hi, hz, hisz, hby⟩ := T.parts
  have hzs := T.zs
  have hlen := hr.len
  have hmul : 0 < n * Elt.sz α := Nat.mul_pos h0' hpos
  have hf := Great.fill_whole (s := Elt.sz α) hpos vs ((Array.range (n * i.size)).map (z.cells[· % z.cells.size]!)) hr.size (by simp [hlen, hn, hisz])
  have hrun := run_buildSlice (P := P) w t e n (parts.map fun (i, x) => (i, ev σ x)) _ i z T.und hi hz (by rw [hisz]; omega) (by rw [hisz]; omega) (by
    rw [Array.toList_map]
    have : (parts.toList.map fun x : Nat × Operand => match x with | (i, x) => (i, ev σ x)) = (vs.zipIdx 0).map fun x => (x.2, x.1) := hp
    rw [this, hisz]
    rw [hisz] at hf
    exact hf)
  have hflat : ∀ {vs : List Value} {l : List α}, Reps (fun _ => none) vs l → (vs.flatMap fun v => v.cells.toList) = (l.flatMap Flat.enc : List Value) := by
    intro vs l h
    induction h with
    | nil => rfl
    | @cons v cs x vs l hv hr _ ih =>
      have := Flat.rep_iff.1 hr
      simp only [List.flatMap_cons, ih, hv, this]
  have hfl := flat_len l
  refine s_any (v := .slice (some ⟨w.heap.size, 0, none⟩) n n) (w' := w.alloc (.cells (vs.flatMap fun v => v.cells.toList).toArray e)) ?_ (k _ _ (H.push (.allocCells ..) ?_ ?_))
  · have hrun' : (Instr.buildSlice t n (parts.map fun x => (x.1, ev σ x.2))).run P w = _ := hrun
    simp [execOp, hrun']
  · have hnl : n ≤ 9223372036854775807 := by
      have : n ≤ n * Elt.sz α := Nat.le_mul_of_pos_right n hpos
      omega
    refine ⟨by rw [hfl], .inr ⟨w.heap.size, n, _, by rw [hn], Nat.zero_le _, heap_alloc_new w _, by rw [hn]; exact Nat.le_refl _, by simpa [maxLen] using hnl, ?_, ?_⟩⟩
    · simp only [List.size_toArray]
      rw [hflat hr, hfl, hn]
    · rw [List.toList_toArray, hflat hr, hn, List.take_of_length_le]
      rw [hfl, hn]
      exact Nat.le_refl _
  · intro b hb
    simp only [cOwn, Value.ownBlock, Option.some.injEq] at hb
    omega
/-! ### Maps -/
variable {κ ν : Type} [DecidableEq κ] {kenc : κ → Value} {venc : ν → Value} {t kt et : TypeId} {b : Nat} {f : κ → Option ν}
theorem t_mkmap {t' : TypeId} (kenc : κ → Value) (venc : ν → Value) (H : St w0 w L R) (k : ∀ b w', St w0 w' (cMap kenc venc b (fun _ => none) :: L) R → SL P all Q rest (upd σ d (.map (some b))) w') : SL P all Q (⟨some d, .makeMap t' none, ty, pos, af, none⟩ :: rest) σ w :=
  s_mkmap fun b w' hn => k b w' (H.push (c := cMap kenc venc b (fun _ => none)) hn.ext ⟨_, _, hn.same, MapR.nil kenc venc 0⟩ (fun j hj => by rw [show j = b from hj]; exact hn.ge))
theorem q_look {x y : Operand} (K : KeyL (ν := ν) P kt kenc) (ht : P.underlying t = some (.map kt et)) {z : Value} (hz : (P.info? et).map (·.zero) = some (some z)) (hx : ev σ x = .map (some b)) {k : κ} (hy : ev σ y = kenc k)
    (ho : (cMap kenc venc b f).ok w) (ok : Bool) {v : Value} (hv : (if ok then .tuple #[((f k).map venc).getD z, .bool (f k).isSome] else ((f k).map venc).getD z) = v) :
    (execOp (ev σ) ⟨some d, .lookup t x y ok, ty, pos, af, g⟩).run P w = .ok (.value v) w := by
  obtain ⟨es, n, h1, h2⟩ := ho
  exact x_look K ht hz hx hy h1 h2 ok hv
theorem St.putMap {k : Nat} {f' : κ → Option ν} {es : Array MapEntry} {n : Nat} {w' : World} (H : St w0 w L R) (hk : L[k]? = some (cMap kenc venc b f)) (p : Put w b (.map es n) w') (hm : MapR kenc venc es n f') (hl : L.set k (cMap kenc venc b f') = L') : St w0 w' L' R :=
  H.set (c' := cMap kenc venc b f') hk rfl p.keep (fun i _ hne => p.other i hne) (fun i hi => .inl hi) ⟨es, n, p.same, hm⟩ hl
theorem t_mapu {dst : Option Nat} {x y u : Operand} {i : Nat} (K : KeyL (ν := ν) P kt kenc) (ht : P.underlying t = some (.map kt et)) (H : St w0 w L R) (hk : L[i]? = some (cMap kenc venc b f)) (hx : ev σ x = .map (some b)) {k : κ} (hy : ev σ y = kenc k) {v : ν} (hu : ev σ u = venc v)
    (hL : L.set i (cMap kenc venc b (updF f k v)) = L')
    (kk : ∀ w', St w0 w' L' R → SL P all Q rest (updo σ dst undef) w') : SL P all Q (⟨dst, .mapUpdate t x y u, ty, pos, af, none⟩ :: rest) σ w := by
  obtain ⟨es, n, h1, h2⟩ := H.get hk
  exact s_mapu K ht hx hy hu h1 h2 fun es' n' w' p hm => kk w' (H.putMap hk p hm hL)
theorem t_clearm {dst : Option Nat} {x : Operand} {ts : Array TypeId} {i : Nat} (hu : (ts[0]?.bind P.underlying).isSome = true) (H : St w0 w L R) (hk : L[i]? = some (cMap kenc venc b f)) (hx : ev σ x = .map (some b))
    (hL : L.set i (cMap kenc venc b (fun _ => none)) = L')
    (kk : ∀ w', St w0 w' L' R → SL P all Q rest (updo σ dst (.tuple #[])) w') : SL P all Q (⟨dst, .call ⟨.builtin .clear, #[x], ts⟩, ty, pos, af, none⟩ :: rest) σ w := by
  obtain ⟨es, n, h1, h2⟩ := H.get hk
  refine s_any (v := .tuple #[]) (w' := { w with heap := w.heap.setIfInBounds b (.map #[] n) }) ?_ (kk _ (H.putMap hk (Put.setMap _ h1 (by simp) rfl) (MapR.nil kenc venc n) hL))
  cases ht : ts[0]? with
  | none => simp [ht] at hu
  | some t' =>
    simp only [ht, Option.bind_some] at hu
    cases hu' : P.underlying t' with
    | none => simp [hu'] at hu
    | some d' => simp [execOp, resolve, invoke, builtin, hx, Builtin.clear_, ht, run_underlying hu', MapKept.run_getObj_map h1, MapKept.run_setObj_map _ h1]
end

/-! ### Parts that a callee is given to read -/
/-- A part is as it says, as long as these parts are. -/
structure Has (R : List Chunk) (c : Chunk) : Prop where
  of : ∀ w, Sep w R → c.ok w
theorem Has.app {R : List Chunk} {c : Chunk} (h : Has R c) (L : List Chunk) : Has (L ++ R) c := ⟨fun w hs => h.of w hs.right⟩
theorem Has.at {R L : List Chunk} {c : Chunk} {w0 w : World} (h : Has R c) (H : St w0 w L R) : c.ok w := h.of w H.tl
theorem Has.here {L R : List Chunk} {c : Chunk} {k : Nat} (hk : L[k]? = some c) : Has (L ++ R) c := ⟨fun w hs => hs.get (List.mem_append_left _ (List.mem_of_getElem? hk))⟩
theorem Has.st {R L : List Chunk} {c : Chunk} (h : ∀ w, Sep w (L ++ R) → c.ok w) : Has (L ++ R) c := ⟨h⟩

theorem St.blk {w0 w : World} {L R : List Chunk} (H : St w0 w L R) {k b : Nat} {cs : List Value} {t : TypeId} (hk : L[k]? = some (cBlk b cs t)) : w.heap[b]? = some (.cells cs.toArray t (0, 0)) := H.get hk
theorem Has.blk {R L : List Chunk} {w0 w : World} {b : Nat} {cs : List Value} {t : TypeId} (h : Has R (cBlk b cs t)) (H : St w0 w L R) : w.heap[b]? = some (.cells cs.toArray t (0, 0)) := h.at H
theorem St.nilOwn {α : Type} [Flat α] {w0 w : World} {L R : List Chunk} (H : St w0 w L R) (e : TypeId) : St w0 w (cOwn e (.slice none 0 0) ([] : List α) :: L) R :=
  H.push (.refl w) (show OwnF 0 e w _ _ from OwnF.nil 0 e w) (fun b hb => by cases hb)
theorem noneLe {C : Cells} : Cells.Le (fun _ => none) C := fun _ _ h => by cases h
/-- Memory that is read on, not written any more. -/
theorem St.freeze {α : Type} [Flat α] {w0 w : World} {L L' R : List Chunk} (H : St w0 w L R) {k : Nat} {e : TypeId} {v : Value} {l : List α} (hk : L[k]? = some (cOwn e v l)) (hl : L.set k (cRo ⟨w, fun b => v.ownBlock = some b⟩) = L') : St w0 w L' R :=
  H.set (c' := cRo ⟨w, fun b => v.ownBlock = some b⟩) hk rfl (.refl w) (fun _ _ _ => rfl) (fun b hb => .inl hb.1) ⟨Nat.le_refl _, fun _ _ _ => rfl⟩ hl

/-! ### Function values that answer a question -/
def FnM {α : Type} [Elt α] (P : Program) (R : List Chunk) (vf : Value) (p : α → M Bool) : Prop :=
  ∃ f cap, vf = .func (.func f) #[] (List.toArray cap) ∧ CF P f ∧ ∀ (w : World) (L : List Chunk) (C : Cells) (v : Value) (x : α) (b : Bool), Sep w (L ++ R) → Reads (L ++ R) C → Arg C v x → (p x).Ends b →
    Ret P f (v :: cap).toArray w fun r w' => r = B b ∧ St w w' [] (L ++ R)
theorem FnM.app {α : Type} [Elt α] {P : Program} {R : List Chunk} {vf : Value} {p : α → M Bool} (h : FnM P R vf p) (L : List Chunk) : FnM P (L ++ R) vf p := by
  obtain ⟨f, cap, h1, h2, h3⟩ := h
  refine ⟨f, cap, h1, h2, fun w L' C v x b hs hC hA hp => ?_⟩
  have := h3 w (L' ++ L) C v x b (by rw [List.append_assoc]; exact hs) (by rw [List.append_assoc]; exact hC) hA hp
  rwa [List.append_assoc] at this
theorem FnM.cells {α : Type} [Elt α] {P : Program} {R : List Chunk} {vf : Value} {p : α → M Bool} (h : FnM P R vf p) : vf.cells = #[vf] := by
  obtain ⟨f, cap, h1, _⟩ := h
  subst h1; rfl
theorem FnM.oc {α : Type} [Elt α] {P : Program} {R : List Chunk} {vf : Value} {p : α → M Bool} (h : FnM P R vf p) : vf.oneCell' = true := by
  obtain ⟨f, cap, h1, _⟩ := h
  subst h1; rfl
section
variable {P : Program} {all rest : List Oper} {Q : Post} {σ : Env} {w0 w : World} {L R : List Chunk} {d : Nat} {ty : TypeId} {pos : String} {af : Array Edge}
theorem St.dropAll {w' : World} {T A : List Chunk} (h : St w w' A T) : Sep w' T := h.sep.right
theorem St.via {w' : World} (h : St w0 w L R) (h' : St w w' [] (L ++ R)) : St w0 w' L R := ⟨h.kp.trans h'.kp, h'.sep⟩
theorem t_callM {α : Type} [Elt α] {x y : Operand} {ts : Array TypeId} {vf v : Value} {p : α → M Bool} {C : Cells} {b : Bool} (H : St w0 w L R) (hf : FnM P R vf p) (hx : ev σ x = vf) (hy : ev σ y = v) (a : α) (hC : Reads (L ++ R) C) (hA : Arg C v a) (hp : (p a).Ends b)
    (k : ∀ w', St w0 w' L R → SL P all Q rest (upd σ d (B b)) w') : SL P all Q (⟨some d, .call ⟨.value x, #[y], ts⟩, ty, pos, af, none⟩ :: rest) σ w := by
  obtain ⟨f, cap, h1, h2, h3⟩ := hf
  refine s_callv (f := f) (cap := cap) (hx.trans h1) h2 [v] (by simp [hy]) (h3 w L C v a b H.sep hC hA hp) ?_
  rintro _ w' ⟨rfl, hx'⟩
  exact k w' (H.via hx')
/-- A call under a guard, of a function that leaves the parts as they are. -/
theorem t_gcall {f : FuncId} {ops : Array Operand} {ts : Array TypeId} {j : Nat} {want : Bool} (c : Bool) (hy : (yieldedE all σ j == some want) = c) (hcf : CF P f) (v : Value) (args : c = true → List Value)
    (ha : ∀ h : c = true, ops.toList.map (ev σ) = args h) (H : St w0 w L R) (hc : ∀ h : c = true, Ret P f (args h).toArray w fun v' w' => v' = v ∧ St w0 w' L R) (k : ∀ w', St w0 w' L R → SL P all Q rest (upd σ d (gd c v)) w') :
    SL P all Q (⟨some d, .call ⟨.value (.func f), ops, ts⟩, ty, pos, af, some (j, want)⟩ :: rest) σ w := by
  refine g_split rfl c hy (fun e => ?_) (fun e => ?_)
  · refine s_call hcf (args e) (ha e) (hc e) ?_
    rintro _ w' ⟨rfl, hx⟩
    have := k w' hx
    rwa [gd_of e] at this
  · have := k w H
    rwa [gd_no e] at this
end
/-- What is new since a world. -/
theorem St.fresh {α : Type} [Elt α] {w0 w w' : World} {L R : List Chunk} {v : Value} {l : List α} (H : St w0 w L R) (hx : Ext w w') (hs : Sl (frm w' w.heap.size) v l) : ∃ B, St w0 w' (cRo B :: L) R ∧ Sl B.cells v l := by
  refine ⟨⟨w', fun b => w.heap.size ≤ b⟩, H.push hx ⟨Nat.le_refl _, fun _ _ _ => rfl⟩ (fun b hb => hb.1), hs.mono fun a u hu => ?_⟩
  unfold frm at hu
  unfold Base.cells
  split at hu
  · rename_i hl
    rw [if_pos hl]; exact hu
  · cases hu
theorem St.freshB {w0 w w' : World} {L R : List Chunk} {b : Nat} {cs : List Value} {t : TypeId} (H : St w0 w L R) (hn : New w b (.cells cs.toArray t (0, 0)) w') : St w0 w' (cBlk b cs t :: L) R :=
  H.push (c := cBlk b cs t) hn.ext hn.same (fun j hj => by rw [show j = b from hj]; exact hn.ge)
theorem St.ownOf {α : Type} [Flat α] {w0 w w' : World} {L R : List Chunk} {e : TypeId} {v : Value} {l : List α} (H : St w0 w L R) (hx : Ext w w') (ho : OwnF w.heap.size e w' v l) : St w0 w' (cOwn e v l :: L) R :=
  H.push hx (show OwnF 0 e w' v l from ho.zero) (fun b hb' => (ho.lt b hb').1)
end Go.Nm
namespace Go.Nm
open Go
theorem flatten_set : ∀ (css : List (List Value)) (n : Nat) (_ : ∀ c ∈ css, c.length = n) (k off : Nat) (cs vs : List Value) (_ : css[k]? = some cs) (_ : off + vs.length ≤ n),
    (css.set k (cs.take off ++ vs ++ cs.drop (off + vs.length))).flatten = css.flatten.take (k * n + off) ++ vs ++ css.flatten.drop (k * n + off + vs.length)
  | [], _, _, _, _, _, _, h, _ => by simp at h
  | c :: css, n, hn, 0, off, cs, vs, h, hle => by
    simp only [List.getElem?_cons_zero, Option.some.injEq] at h
    subst h
    have hc := hn c (by simp)
    simp only [List.set_cons_zero, List.flatten_cons, Nat.zero_mul, Nat.zero_add]
    rw [List.take_append_of_le_length (by omega), List.drop_append_of_le_length (by omega)]
    simp
  | c :: css, n, hn, k + 1, off, cs, vs, h, hle => by
    simp only [List.getElem?_cons_succ] at h
    have hc := hn c (by simp)
    have ih := flatten_set css n (fun d hd => hn d (by simp [hd])) k off cs vs h hle
    simp only [List.set_cons_succ, List.flatten_cons, ih]
    rw [List.take_append, List.drop_append, hc, Nat.succ_mul]
    rw [List.take_of_length_le (show c.length ≤ k * n + n + off by omega), List.drop_of_length_le (show c.length ≤ k * n + n + off + vs.length by omega)]
    rw [show k * n + n + off - n = k * n + off from by omega, show k * n + n + off + vs.length - n = k * n + off + vs.length from by omega]
    simp

/-! ### Cells as they are -/
structure Raw (n : Nat) where
  cs : List Value
  len : cs.length = n + 1
  one : ∀ v ∈ cs, v.oneCell' = true
instance {n : Nat} : Inhabited (Raw n) := ⟨⟨List.replicate (n + 1) (.bool false), by simp, fun v hv => by rw [List.eq_of_mem_replicate hv]; rfl⟩⟩
instance {n : Nat} : Flat (Raw n) where
  rep _ cs x := cs = x.cs
  sz := n + 1
  agg := false
  sz_pos := by omega
  len := fun {_ _ x} h => by subst h; exact x.len
  mono := fun _ h => h
  one := fun {_ _ x} h v hv => by subst h; exact x.one v hv
  enc x := x.cs
  rep_iff := Iff.rfl
inductive RepR {α : Type} [Elt α] {n : Nat} (C : Cells) : List (Raw n) → List α → Prop
  | nil : RepR C [] []
  | cons {c : Raw n} {x : α} {rs : List (Raw n)} {l : List α} (h : Elt.rep C c.cs x) (hs : RepR C rs l) : RepR C (c :: rs) (x :: l)
section
variable {α : Type} [Elt α] {n : Nat} {C D : Cells}
theorem RepR.mono {rs : List (Raw n)} {l : List α} (h : RepR C rs l) (hle : C.Le D) : RepR D rs l := by
  induction h with
  | nil => exact .nil
  | cons h _ ih => exact .cons (Elt.mono hle h) ih
theorem RepR.app {rs ss : List (Raw n)} {l k : List α} (h : RepR C rs l) (h' : RepR C ss k) : RepR C (rs ++ ss) (l ++ k) := by
  induction h with
  | nil => exact h'
  | cons h _ ih => exact .cons h ih
theorem RepR.len {rs : List (Raw n)} {l : List α} (h : RepR C rs l) : rs.length = l.length := by
  induction h <;> simp_all
theorem RepR.get {rs : List (Raw n)} {l : List α} (h : RepR C rs l) : ∀ (k : Nat) (x : α), l[k]? = some x → ∃ c : Raw n, rs[k]? = some c ∧ Elt.rep C c.cs x := by
  induction h with
  | nil => intro k x h; simp at h
  | @cons c x rs l h _ ih =>
    intro k z hk
    cases k with
    | zero =>
      simp only [List.getElem?_cons_zero, Option.some.injEq] at hk
      subst hk
      exact ⟨c, rfl, h⟩
    | succ k => exact ih k z (by simpa using hk)
theorem RepR.set {rs : List (Raw n)} {l : List α} (h : RepR C rs l) (k : Nat) {c : Raw n} {x : α} (hr : Elt.rep C c.cs x) : RepR C (rs.set k c) (l.set k x) := by
  induction h generalizing k with
  | nil => exact .nil
  | cons h hs ih =>
    cases k with
    | zero => exact .cons hr hs
    | succ k => exact .cons h (ih k)
theorem RepR.rep (k : Nat) {c : Raw n} {x : α} (hr : Elt.rep C c.cs x) : RepR C (List.replicate k c) (List.replicate k x) := by
  induction k with
  | zero => exact .nil
  | succ k ih => exact .cons hr ih
theorem RepR.getD {rs : List (Raw n)} {l : List α} (h : RepR C rs l) {k : Nat} (hk : k < l.length) (d : α) : Elt.rep C (rs.getD k default).cs (l.getD k d) := by
  obtain ⟨c, h1, h2⟩ := h.get k _ (getD_some l hk d)
  have : rs.getD k default = c := by simp [List.getD, h1]
  rw [this]
  exact h2
/-- A row of such cells reads as a list. -/
theorem rowSl (hz : Elt.sz α = n + 1) {e : TypeId} {v : Value} {rs : List (Raw n)} {l : List α} {w : World} (ok : (cOwn e v rs).ok w) (hC : C.Le w.cell?) (hr : RepR C rs l) : Sl (Cells.sup (rowC v (rs.flatMap Flat.enc)) C) v l := by
  have hs := ownSl ok
  have hlow := ownLe w ok
  obtain ⟨a, c, hv, hc, hm, hh⟩ := hs.ex
  have hlen := hr.len
  refine ⟨⟨a, c, by rw [hv, hlen], by omega, hm, fun k x hx => ?_⟩⟩
  obtain ⟨r, h1, h2⟩ := hr.get k x hx
  obtain ⟨b, o, cs, ha, hrep, hy⟩ := hh k r h1
  have hcs : cs = r.cs := hrep
  subst hcs
  refine ⟨b, o, r.cs, ha, Elt.mono (Cells.sup_r hlow hC) h2, fun j y hj => ?_⟩
  have := hy j y hj
  rw [hz]
  exact Cells.sup_l _ _ _ _ this
/-- What reads as a list has such cells. -/
theorem rawOf (hz : Elt.sz α = n + 1) {v : Value} {l : List α} (h : Sl C v l) : ∃ rs : List (Raw n), Sl C v rs ∧ RepR C rs l := by
  obtain ⟨a, c, hv, hc, hm, hh⟩ := h.ex
  have key : ∀ (k0 : Nat) (l' : List α), (∀ k x, l'[k]? = some x → l[k0 + k]? = some x) → ∃ rs : List (Raw n), RepR C rs l' ∧ ∀ k r, rs[k]? = some r → ∃ b o, a = some ⟨b, o, none⟩ ∧ ∀ j y, r.cs[j]? = some y → C ⟨b, o + (k0 + k) * Elt.sz α + j, none⟩ = some y := by
    intro k0 l'
    induction l' generalizing k0 with
    | nil => intro _; exact ⟨[], .nil, fun k r h => by simp at h⟩
    | cons x l' ih =>
      intro hx
      obtain ⟨b, o, cs, ha, hr, hy⟩ := hh k0 x (by simpa using hx 0 x rfl)
      obtain ⟨rs, h1, h2⟩ := ih (k0 + 1) (fun k z hz => by have := hx (k + 1) z (by simpa using hz); rwa [show k0 + 1 + k = k0 + (k + 1) from by omega])
      refine ⟨⟨cs, by rw [Elt.len hr, hz], Elt.one hr⟩ :: rs, .cons hr h1, fun k r hk => ?_⟩
      cases k with
      | zero =>
        simp only [List.getElem?_cons_zero, Option.some.injEq] at hk
        subst hk
        exact ⟨b, o, ha, hy⟩
      | succ k =>
        obtain ⟨b', o', ha', hy'⟩ := h2 k r (by simpa using hk)
        exact ⟨b', o', ha', fun j y hj => by have := hy' j y hj; rwa [show k0 + 1 + k = k0 + (k + 1) from by omega] at this⟩
  obtain ⟨rs, h1, h2⟩ := key 0 l (fun k x hk => by simpa using hk)
  refine ⟨rs, ⟨⟨a, c, by rw [hv, h1.len], by rw [h1.len]; exact hc, hm, fun k r hk => ?_⟩⟩, h1⟩
  obtain ⟨b, o, ha, hy⟩ := h2 k r hk
  refine ⟨b, o, r.cs, ha, rfl, fun j y hj => ?_⟩
  have := hy j y hj
  rw [Nat.zero_add, hz] at this
  exact this
end
theorem Reads.sup {R : List Chunk} {C D : Cells} (h : Reads R C) (k : Reads R D) : Reads R (C.sup D) := ⟨fun w hs => Cells.sup_le (h.le w hs) (k.le w hs)⟩

/-! ### Bases -/
def Base.join (A B : Base) (w : World) : Base := ⟨w, fun b => (A.D b ∧ b < A.w.heap.size) ∨ (B.D b ∧ b < B.w.heap.size)⟩
theorem joinL {A B : Base} {w : World} (h : (cRo A).ok w) : A.cells.Le (A.join B w).cells := fun a v hc => by
  have h1 := roLe w h a v hc
  unfold Base.cells at hc ⊢
  split at hc
  · rename_i hd
    rw [if_pos (show (A.join B w).D a.block from .inl ⟨hd, World.block_lt_of_cell? A.w a hc⟩)]
    exact h1
  · cases hc
theorem joinR {A B : Base} {w : World} (h : (cRo B).ok w) : B.cells.Le (A.join B w).cells := fun a v hc => by
  have h1 := roLe w h a v hc
  unfold Base.cells at hc ⊢
  split at hc
  · rename_i hd
    rw [if_pos (show (A.join B w).D a.block from .inr ⟨hd, World.block_lt_of_cell? B.w a hc⟩)]
    exact h1
  · cases hc
theorem St.join {w0 w : World} {L R : List Chunk} (H : St w0 w L R) {i j : Nat} {A B : Base} (hi : L[i]? = some (cRo A)) (hj : L[j]? = some (cRo B)) : St w0 w (cRo (A.join B w) :: L) R := by
  have hA := H.get hi
  have hB := H.get hj
  have hS := H.sep
  have mA : cRo A ∈ L ++ R := List.mem_append_left _ (List.mem_of_getElem? hi)
  have mB : cRo B ∈ L ++ R := List.mem_append_left _ (List.mem_of_getElem? hj)
  have apart : ∀ c ∈ L ++ R, ∀ d ∈ L ++ R, d.ex = true → c.ex = false → ∀ b, c.D b → ¬ d.D b := by
    rw [Sep.iff] at hS
    intro c hc d hd hde hce
    obtain ⟨p, hp, rfl⟩ := List.getElem_of_mem hc
    obtain ⟨q, hq, rfl⟩ := List.getElem_of_mem hd
    have hne : p ≠ q := fun e => by subst e; rw [hde] at hce; cases hce
    rcases Nat.lt_or_gt_of_ne hne with hlt | hlt
    · exact List.pairwise_iff_getElem.1 hS.2 p q hp hq hlt (by simp [hde])
    · intro b hb hb'
      exact List.pairwise_iff_getElem.1 hS.2 q p hq hp hlt (by simp [hde]) b hb' hb
  refine ⟨H.kp, ⟨Nat.le_refl _, fun _ _ _ => rfl⟩, fun d hd he b hb hb' => ?_, H.sep⟩
  have hde : d.ex = true := by simpa [cRo] using he
  rcases hb.1 with h | h
  · exact apart _ mA d hd hde rfl b h hb'
  · exact apart _ mB d hd hde rfl b h hb'
theorem St.empty {w0 w : World} {L R : List Chunk} (H : St w0 w L R) : St w0 w (cRo ⟨w, fun _ => False⟩ :: L) R := H.push (.refl w) ⟨Nat.le_refl _, fun _ _ _ => rfl⟩ (fun _ hb => hb.1.elim)
theorem St.emptyE {w0 w : World} {L R : List Chunk} (H : St w0 w L R) : ∃ B, St w0 w (cRo B :: L) R := ⟨_, H.empty⟩
theorem St.joinE {w0 w : World} {L R : List Chunk} (H : St w0 w L R) {i j : Nat} {A C : Base} (hi : L[i]? = some (cRo A)) (hj : L[j]? = some (cRo C)) : ∃ B, St w0 w (cRo B :: L) R ∧ A.cells.Le B.cells ∧ C.cells.Le B.cells :=
  ⟨_, H.join hi hj, joinL (H.get hi), joinR (H.get hj)⟩
theorem Cells.sup_mono {P C D : Cells} {X : Cells} (h : C.Le D) (h1 : P.Le X) (h2 : D.Le X) : (P.sup C).Le (P.sup D) := Cells.sup_le (Cells.sup_l _ _) (h.trans (Cells.sup_r h1 h2))
theorem Cells.sup_monoL {P Q D X : Cells} (h : P.Le Q) (h1 : Q.Le X) (h2 : D.Le X) : (P.sup D).Le (Q.sup D) := Cells.sup_le (h.trans (Cells.sup_l _ _)) (Cells.sup_r h1 h2)
def Raw.of {n : Nat} (cs : List Value) (len : cs.length = n + 1) (h : cs.all (·.oneCell') = true) : Raw n := ⟨cs, len, List.all_eq_true.1 h⟩
theorem frozenSl {α : Type} [Flat α] {e : TypeId} {v : Value} {l : List α} {w : World} (h : (cOwn e v l).ok w) : Sl (Base.cells ⟨w, fun b => v.ownBlock = some b⟩) v l :=
  (ownSl h).mono fun a x hx => by
    have h1 := ownLe w h a x hx
    unfold Base.cells
    rw [if_pos ?_]
    · exact h1
    · unfold rowC at hx
      split at hx
      · rename_i p _ _
        split at hx
        · rename_i ha
          rw [ha]; rfl
        · cases hx
      · cases hx

theorem St.freezeE {α : Type} [Flat α] {w0 w : World} {L R : List Chunk} (H : St w0 w L R) {k : Nat} {e : TypeId} {v : Value} {l : List α} (hk : L[k]? = some (cOwn e v l)) : ∃ B, St w0 w (L.set k (cRo B)) R ∧ Sl B.cells v l :=
  ⟨_, H.freeze hk rfl, frozenSl (H.get hk)⟩
/-- A row of cells that is read on, with what its elements lead to. -/
theorem frozenRow {α : Type} [Elt α] {n : Nat} (hz : Elt.sz α = n + 1) {v : Value} {rs : List (Raw n)} {l : List α} {X : Cells} {B : Base} {C : Cells} (hs : Sl B.cells v rs) (hr : RepR C rs l) (h1 : B.cells.Le X) (h2 : C.Le X) : Sl X v l := by
  obtain ⟨a, c, hv, hc, hm, hh⟩ := hs.ex
  have hlen := hr.len
  refine ⟨⟨a, c, by rw [hv, hlen], by omega, hm, fun k x hx => ?_⟩⟩
  obtain ⟨r, hr1, hr2⟩ := hr.get k x hx
  obtain ⟨b, o, cs, ha, hrep, hy⟩ := hh k r hr1
  have hcs : cs = r.cs := hrep
  subst hcs
  refine ⟨b, o, r.cs, ha, Elt.mono h2 hr2, fun j y hj => ?_⟩
  have := hy j y hj
  rw [hz]
  exact h1 _ _ this

/-! ### Stores into a part of an element -/
def Raw.put {n : Nat} (x : Raw n) (off : Nat) (vs : List Value) (h : Nat.ble (off + vs.length) (n + 1) = true) (h1 : vs.all (·.oneCell') = true) : Raw n :=
  ⟨x.cs.take off ++ vs ++ x.cs.drop (off + vs.length), by
    have := x.len
    have h' := Nat.le_of_ble_eq_true h
    simp only [List.length_append, List.length_take, List.length_drop]
    omega, fun v hv => by
    rcases List.mem_append.1 hv with hv | hv
    · rcases List.mem_append.1 hv with hv | hv
      · exact x.one v (List.mem_of_mem_take hv)
      · exact List.all_eq_true.1 h1 v hv
    · exact x.one v (List.mem_of_mem_drop hv)⟩
section
variable {P : Program} {w : World}
theorem OwnF.fst {α : Type} [Flat α] {B : Nat} {e t : TypeId} {v val : Value} {l : List α} (h : OwnF B e w v l) {n off : Nat} (hs : (P.info? t).map (·.size) = some n) {k : Nat} (hk : k < l.length) (x x' : α) (hx : l[k]? = some x)
    (vs : List Value) (hv : val.cells = vs.toArray) (hn : vs.length = n) (hoff : off + n ≤ Elt.sz α) (h1 : ∀ u ∈ vs, u.oneCell' = true) (he : (Flat.enc x' : List Value) = (Flat.enc x).take off ++ vs ++ (Flat.enc x).drop (off + vs.length)) :
    ∃ w', (Instr.storeAt t (fat (vat v (Elt.sz α) k) off) val).run P w = .ok () w' ∧ OwnF B e w' v (l.set k x') ∧ Grow B v w w' := by
  rcases h.2 with ⟨rfl, hn0⟩ | ⟨g, cap, cur, rfl, hb, hg, hnc, hcm, hcsz, htake⟩
  · omega
  · have hpos := Elt.sz_pos (α := α)
    have hkl : k * Elt.sz α + Elt.sz α ≤ l.length * Elt.sz α := by rw [← Nat.succ_mul]; exact Nat.mul_le_mul_right _ hk
    have hlc : l.length * Elt.sz α ≤ cap * Elt.sz α := Nat.mul_le_mul_right _ hnc
    have hg' : w.heap[g]? = some (.cells cur.toList.toArray e (0, 0)) := by simpa using hg
    have hrun := run_storeAt (P := P) (off := k * Elt.sz α + off) hs hg' hv hn (by simp only [Array.length_toList]; omega) h1
    have hall : ∀ c ∈ l.map (Flat.enc : α → List Value), c.length = Elt.sz α := by
      intro c hc
      obtain ⟨y, _, rfl⟩ := List.mem_map.1 hc
      exact Flat.enc_len y
    have hfs := flatten_set (l.map Flat.enc) (Elt.sz α) hall k off (Flat.enc x) vs (by rw [List.getElem?_map, hx]; rfl) (by omega)
    rw [← he, ← List.map_set] at hfs
    have hflen := flat_len l
    have hfm : ∀ l : List α, (l.flatMap Flat.enc : List Value) = (l.map Flat.enc).flatten := fun l => by rw [List.flatMap_def]
    rw [hfm] at hflen htake
    refine ⟨_, by simpa [vat, fat, add_lit] using hrun, ⟨?_, .inr ⟨g, cap, _, by simp, hb, setRow_heap w g cur _ e _ hg, by simpa using hnc, hcm, ?_, ?_⟩⟩,
      ⟨rfl, rfl, by simp, fun b _ hne => setRow_other w g b _ (fun e => hne (by rw [e]; rfl)), fun g' hg' => (h.lt g' hg').1, frozen_setRow w g _⟩⟩
    · rw [flat_len]
    · simp only [List.size_toArray, List.length_append, List.length_take, List.length_drop, Array.length_toList]
      omega
    · rw [hfm, hfs, ← htake]
      simp only [List.length_set]
      rw [List.take_append, List.take_append]
      simp only [List.take_take, List.length_take, List.length_append, Array.length_toList, List.drop_take]
      rw [Nat.min_eq_left (show k * Elt.sz α + off ≤ l.length * Elt.sz α by omega), Nat.min_eq_right (show k * Elt.sz α + off ≤ l.length * Elt.sz α by omega), Nat.min_eq_left (show k * Elt.sz α + off ≤ cur.size by omega)]
      rw [List.take_of_length_le (show vs.length ≤ l.length * Elt.sz α - (k * Elt.sz α + off) by omega), hn]
      simp only [List.append_assoc, Nat.sub_sub]
variable {all rest : List Oper} {Q : Post} {σ : Env} {w0 : World} {L L' R : List Chunk} {d : Nat} {ty : TypeId} {pos : String} {af : Array Edge} {g : Option (Nat × Bool)}
theorem t_fst {α : Type} [Flat α] {dst : Option Nat} {e t k n off : Nat} {x y : Operand} {v val : Value} {l l' : List α} (H : St w0 w L R) (hk : L[k]? = some (cOwn e v l)) (hs : (P.info? t).map (·.size) = some n) {i : Int}
    (h0 : 0 ≤ i) (h1 : i < l.length) (a a' : α) (ha : l[i.toNat]? = some a) (hx : ev σ x = fat (vat v (Elt.sz α) i.toNat) off) (hy : ev σ y = val) (vs : List Value) (hv : val.cells = vs.toArray) (hn : vs.length = n) (hoff : Nat.ble (off + n) (Elt.sz α) = true)
    (hone : vs.all (·.oneCell') = true) (he : (Flat.enc a' : List Value) = (Flat.enc a).take off ++ vs ++ (Flat.enc a).drop (off + vs.length)) (hl' : l.set i.toNat a' = l') (hL : L.set k (cOwn e v l') = L')
    (kk : ∀ w', St w0 w' L' R → SL P all Q rest (updo σ dst undef) w') : SL P all Q (⟨dst, .store t x y, ty, pos, af, none⟩ :: rest) σ w := by
  subst hl'
  obtain ⟨w', hr, ho, hg⟩ := OwnF.fst (P := P) (t := t) (H.get hk : OwnF 0 e w v l) hs (k := i.toNat) (by omega) a a' ha vs hv hn (Nat.le_of_ble_eq_true hoff) (List.all_eq_true.1 hone) he
  refine s_skp (w' := w') ?_ (kk w' (H.own hk ho hg (fun _ _ h => h) hL))
  simp [execOp, hx, hy, hr]
/-! ### An entry of a map, found and turned -/
variable {κ ν : Type} [DecidableEq κ] {kenc : κ → Value} {venc : ν → Value} {kt et : TypeId} {b : Nat} {f : κ → Option ν}
def cEnt {κ ν : Type} [DecidableEq κ] (kenc : κ → Value) (venc : ν → Value) (b : Nat) (f : κ → Option ν) (k : κ) (st : Int) : Chunk where
  D j := j = b
  ex := true
  ok w := ∃ es n, w.heap[b]? = some (.map es n) ∧ MapR kenc venc es n f ∧ ∃ (m : List (κ × ν)) (i : Nat) (e : MapEntry), es.toList.map (fun e => (e.key, e.val)) = m.map (fun p => (kenc p.1, venc p.2)) ∧ (∀ k, lookM m k = f k) ∧ idxM m k = some i ∧ es[i]? = some e ∧ (e.born : Int) = st
  st w w' h _ k := by
    obtain ⟨es, n, h1, h2⟩ := h
    exact ⟨es, n, (k b rfl).trans h1, h2⟩
  bd w k h e := by
    obtain ⟨es, n, h1, _⟩ := h
    rw [e]; exact heap_lt h1
theorem t_ment {x y : Operand} {i : Nat} {t : TypeId} (K : KeyL (ν := ν) P kt kenc) (ht : P.underlying t = some (.map kt et)) {z : ν} (hz : (P.info? et).map (·.zero) = some (some (venc z))) (H : St w0 w L R) (hk : L[i]? = some (cMap kenc venc b f)) (hx : ev σ x = .map (some b)) {k : κ} (hy : ev σ y = kenc k)
    (kk : ∀ st w', St w0 w' (L.set i (cEnt kenc venc b (updF f k ((f k).getD z)) k st)) R → SL P all Q rest (upd σ d (.tuple #[venc ((f k).getD z), .int .i64 st])) w') : SL P all Q (⟨some d, .mapEntry t x y, ty, pos, af, none⟩ :: rest) σ w := by
  obtain ⟨es, n, hb, ⟨⟨m, h1, h2⟩, h3, h4⟩⟩ := H.get hk
  have hf := K.find w es.toList m venc k h1
  have hzz : (zeroValue et).run P w = .ok (venc z) w := by
    cases hi : P.info? et with
    | none => simp [hi] at hz
    | some i => simp [hi] at hz; simp [zeroValue, typeInfo, hi, hz]
  cases hi : idxM m k with
  | none =>
    have hl := idxM_none hi
    rw [h2] at hl
    rw [hi] at hf
    have hm' : (es.push { key := kenc k, val := venc z, born := n }).toList.map (fun e => (e.key, e.val)) = (setM m k z).map (fun p => (kenc p.1, venc p.2)) := by
      rw [setM_none z hi]; simp [h1]
    have hlen : es.toList.length = m.length := by have := congrArg List.length h1; simpa using this
    have hidx : ∀ (m : List (κ × ν)), idxM m k = none → idxM (setM m k z) k = some m.length := by
      intro m
      induction m with
      | nil => intro _; simp [setM, idxM]
      | cons p m ih =>
        intro h
        unfold idxM at h
        split at h
        · cases h
        · rename_i hp
          unfold setM idxM
          rw [if_neg hp]
          dsimp only
          rw [if_neg hp, ih (by simpa using h)]
          simp
    have hp : Put w b (.map (es.push { key := kenc k, val := venc z, born := n }) (n + 1)) { w with heap := w.heap.setIfInBounds b (.map (es.push { key := kenc k, val := venc z, born := n }) (n + 1)) } := Put.setMap _ hb (by simp) rfl
    refine s_any (v := .tuple #[venc ((f k).getD z), .int .i64 (n : Int)]) (w' := { w with heap := w.heap.setIfInBounds b (.map (es.push { key := kenc k, val := venc z, born := n }) (n + 1)) }) ?_ (kk _ _ ?_)
    · simp [execOp, hx, hy, Instr.mapEntry, run_underlying ht, MapKept.run_getObj_map hb, K.check, hf, MapKept.run_setObj_map _ hb, hzz, hl, goInt]
    · refine H.set (c' := cEnt kenc venc b (updF f k ((f k).getD z)) k (n : Int)) hk rfl hp.keep (fun j _ hne => hp.other j hne) (fun j hj => .inl hj) ⟨_, _, hp.same, ⟨⟨_, hm', fun k' => ?_⟩, ?_, ?_⟩, _, m.length, { key := kenc k, val := venc z, born := n }, hm', fun k' => ?_, hidx m hi, ?_, rfl⟩ rfl
      · rw [lookM_set, h2, hl]; rfl
      · simp only [Array.toList_push, List.map_append, List.map_cons, List.map_nil]
        rw [List.nodup_append]
        refine ⟨h3, by simp, fun a ha c hc => ?_⟩
        simp at hc
        subst hc
        obtain ⟨e, he, rfl⟩ := List.mem_map.1 ha
        have := h4 e he
        omega
      · intro e he
        simp only [Array.toList_push, List.mem_append, List.mem_singleton] at he
        rcases he with he | rfl
        · have := h4 e he; omega
        · simp
      · rw [lookM_set, h2, hl]; rfl
      · rw [← hlen]; simp
  | some j =>
    obtain ⟨v0, hv, hl⟩ := idxM_some hi
    rw [h2] at hl
    have he : ∃ e, es.toList[j]? = some e ∧ e.key = kenc k ∧ e.val = venc v0 := by
      have h3 : (es.toList.map (fun e => (e.key, e.val)))[j]? = (m.map (fun p => (kenc p.1, venc p.2)))[j]? := by rw [h1]
      rw [List.getElem?_map, List.getElem?_map, hv] at h3
      cases he : es.toList[j]? with
      | none => rw [he] at h3; simp at h3
      | some e => rw [he] at h3; simp at h3; exact ⟨e, rfl, h3.1, h3.2⟩
    obtain ⟨e, he1, he2, he3⟩ := he
    have he1' : es[j]? = some e := by simpa using he1
    rw [hi] at hf
    simp only [Option.bind_some, he1, Option.map_some] at hf
    have hk' : (Instr.keyThatStays e.key (kenc k)).run P w = .ok (kenc k) w := by
      simp [Instr.keyThatStays, he2, K.same]
    have hes : (es.modify j fun e => { e with key := kenc k }).toList = es.toList := by
      apply List.ext_getElem?
      intro q
      simp only [Array.getElem?_toList, Array.getElem?_modify]
      by_cases hjq : j = q
      · subst hjq
        simp only [he1', if_true, Option.map_some, Option.some.injEq]
        rw [← he2]
      · simp [hjq]
    have hes' : (es.modify j fun e => { e with key := kenc k }) = es := Array.toList_inj.1 hes
    have hp : Put w b (.map es n) { w with heap := w.heap.setIfInBounds b (.map es n) } := Put.setMap _ hb (by simp) rfl
    refine s_any (v := .tuple #[venc ((f k).getD z), .int .i64 (e.born : Int)]) (w' := { w with heap := w.heap.setIfInBounds b (.map es n) }) ?_ (kk _ _ ?_)
    · simp [execOp, hx, hy, Instr.mapEntry, run_underlying ht, MapKept.run_getObj_map hb, K.check, hf, hk', MapKept.run_setObj_map _ hb, hl, goInt, he1', he3, hes']
    · have hff : ∀ k', lookM m k' = updF f k ((f k).getD z) k' := fun k' => by
        unfold updF
        rw [h2]
        by_cases hkk : k' = k
        · rw [if_pos hkk, hkk, hl]; rfl
        · rw [if_neg hkk]
      exact H.set (c' := cEnt kenc venc b (updF f k ((f k).getD z)) k (e.born : Int)) hk rfl hp.keep (fun j _ hne => hp.other j hne) (fun j hj => .inl hj) ⟨_, _, hp.same, ⟨⟨m, h1, hff⟩, h3, h4⟩, m, j, e, h1, hff, hi, he1', rfl⟩ rfl
theorem entMap {k : κ} {st : Int} (h : (cEnt kenc venc b f k st).ok w) : (cMap kenc venc b f).ok w := by
  obtain ⟨es, n, h1, h2, _⟩ := h
  exact ⟨es, n, h1, h2⟩
theorem updF_same (f : κ → Option ν) (k k' : κ) (z : ν) : (updF f k ((f k).getD z) k').getD z = (f k').getD z := by
  unfold updF
  by_cases h : k' = k
  · rw [if_pos h, h]; rfl
  · rw [if_neg h]
theorem t_enst {dst : Option Nat} {x y u : Operand} {i : Nat} {t : TypeId} {f0 : κ → Option ν} {v0 : ν} {k : κ} {st : Int} (H : St w0 w L R) (hk : L[i]? = some (cEnt kenc venc b (updF f0 k v0) k st)) (hx : ev σ x = .map (some b)) (hy : ev σ y = .int .i64 st) {v : ν} (hu : ev σ u = venc v)
    (hL : L.set i (cMap kenc venc b (updF f0 k v)) = L')
    (kk : ∀ w', St w0 w' L' R → SL P all Q rest (updo σ dst undef) w') : SL P all Q (⟨dst, .entryStore t x y u, ty, pos, af, none⟩ :: rest) σ w := by
  obtain ⟨es, n, hb, ⟨_, h3, h4⟩, m, j, e, h1, h2, hi, he, hst⟩ := H.get hk
  have hfind : es.findIdx? (fun e => (e.born : Int) == st) = some j := by
    rw [Array.findIdx?_eq_some_iff_getElem]
    obtain ⟨hj, hje⟩ := Array.getElem?_eq_some_iff.1 he
    refine ⟨hj, by rw [hje]; simpa using hst, fun q hq => ?_⟩
    intro hc
    have hc' : ((es[q]'(by omega)).born : Int) = st := by simpa using hc
    have hql : q < es.size := by omega
    have hnd := List.pairwise_iff_getElem.1 h3 q j (by simpa using hql) (by simpa using hj) hq
    apply hnd
    simp only [List.getElem_map, Array.getElem_toList]
    rw [hje]
    omega
  obtain ⟨vv, hv, hl⟩ := idxM_some hi
  have hp : Put w b (.map (es.modify j fun e => { e with val := venc v }) n) { w with heap := w.heap.setIfInBounds b (.map (es.modify j fun e => { e with val := venc v }) n) } := Put.setMap _ hb (by simp) rfl
  have hkey : e.key = kenc k := by
    have h5 : (es.toList.map (fun e => (e.key, e.val)))[j]? = (m.map (fun p => (kenc p.1, venc p.2)))[j]? := by rw [h1]
    rw [List.getElem?_map, List.getElem?_map, hv] at h5
    simp only [Array.getElem?_toList, he, Option.map_some, Option.some.injEq, Prod.mk.injEq] at h5
    exact h5.1
  refine s_skp (w' := { w with heap := w.heap.setIfInBounds b (.map (es.modify j fun e => { e with val := venc v }) n) }) ?_ (kk _ ?_)
  · simp [execOp, hx, hy, hu, Instr.entryStore, MapKept.run_getObj_map hb, asInt, asIntOf, hfind, MapKept.run_setObj_map _ hb]
  · refine H.set (c' := cMap kenc venc b (updF f0 k v)) hk rfl hp.keep (fun j _ hne => hp.other j hne) (fun j hj => .inl hj) ⟨_, _, hp.same, ⟨⟨setM m k v, ?_, fun k' => ?_⟩, ?_, ?_⟩⟩ hL
    · rw [setM_some v hi]
      apply List.ext_getElem?
      intro q
      have hj : (es.toList.map (fun e => (e.key, e.val)))[q]? = (m.map (fun p => (kenc p.1, venc p.2)))[q]? := by rw [h1]
      simp only [List.getElem?_map, Array.getElem?_toList, Array.getElem?_modify, List.getElem?_set] at hj ⊢
      by_cases hij : j = q
      · subst hij
        have hlt := (List.getElem?_eq_some_iff.1 hv).1
        simp [he, hlt, hkey]
      · simp [hij, hj]
    · rw [lookM_set, h2]
      unfold updF
      by_cases hkk : k' = k <;> simp [hkk]
    · have : (es.modify j fun e => { e with val := venc v }).toList.map (·.born) = es.toList.map (·.born) := by
        apply List.ext_getElem?
        intro q
        simp only [List.getElem?_map, Array.getElem?_toList, Array.getElem?_modify]
        by_cases hij : j = q
        · subst hij; simp [he]
        · simp [hij]
      rw [this]; exact h3
    · intro e' he'
      obtain ⟨q, hq⟩ := List.getElem?_of_mem he'
      simp only [Array.getElem?_toList, Array.getElem?_modify] at hq
      by_cases hij : j = q
      · subst hij
        simp [he] at hq
        subst hq
        exact h4 e (by rw [Array.mem_toList_iff]; exact Array.mem_of_getElem? he)
      · simp [hij] at hq
        exact h4 e' (by rw [Array.mem_toList_iff]; exact Array.mem_of_getElem? hq)
/-- A new block, and a new slice beside it, to be read. -/
theorem St.freshNB {α : Type} [Elt α] {b : Nat} {w0 w w' : World} {L R : List Chunk} {o : Obj} {v : Value} {l : List α} (H : St w0 w L R) (hn : New w b o w') (hs : Sl (frm w' w.heap.size) v l) :
    ∃ B, St w0 w' (cRo B :: L) R ∧ Sl B.cells v l ∧ ∀ W, (cRo B).ok W → W.heap[b]? = some o := by
  refine ⟨⟨w', fun b => w.heap.size ≤ b⟩, H.push hn.ext ⟨Nat.le_refl _, fun _ _ _ => rfl⟩ (fun b hb => hb.1), hs.mono fun a u hu => ?_, fun W hW => ?_⟩
  · unfold frm at hu
    unfold Base.cells
    split at hu
    · rename_i hl
      rw [if_pos hl]; exact hu
    · cases hu
  · exact (hW.2 b hn.ge hn.lt).trans hn.same
theorem Has.ro {L R : List Chunk} {B : Base} {b k : Nat} {cs : List Value} {t : TypeId} (hk : L[k]? = some (cRo B)) (h : ∀ W, (cRo B).ok W → W.heap[b]? = some (.cells cs.toArray t (0, 0))) : Has (L ++ R) (cBlk b cs t) :=
  ⟨fun w hs => h w (hs.get (List.mem_append_left _ (List.mem_of_getElem? hk)))⟩
/-- The same for a function value. -/
theorem t_gcallv {f : FuncId} {cap : List Value} {x : Operand} {ops : Array Operand} {ts : Array TypeId} {j : Nat} {want : Bool} (c : Bool) (hy : (yieldedE all σ j == some want) = c) (hcf : CF P f) (hx : c = true → ev σ x = .func (.func f) #[] cap.toArray) (v : Value) (args : c = true → List Value)
    (ha : ∀ h : c = true, ops.toList.map (ev σ) = args h) (H : St w0 w L R) (hc : ∀ h : c = true, Ret P f (args h ++ cap).toArray w fun v' w' => v' = v ∧ St w0 w' L R) (k : ∀ w', St w0 w' L R → SL P all Q rest (upd σ d (gd c v)) w') :
    SL P all Q (⟨some d, .call ⟨.value x, ops, ts⟩, ty, pos, af, some (j, want)⟩ :: rest) σ w := by
  refine g_split rfl c hy (fun e => ?_) (fun e => ?_)
  · refine s_callv (hx e) hcf (args e) (ha e) (hc e) ?_
    rintro _ w' ⟨rfl, hx⟩
    have := k w' hx
    rwa [gd_of e] at this
  · have := k w H
    rwa [gd_no e] at this
/-- A call under a guard, told apart. -/
theorem g_splitV {dst : Nat} {op : Op} {j : Nat} {want : Bool} (c : Bool) (v : Value) (hy : (yieldedE all σ j == some want) = c)
    (ht : c = true → SL P all Q (⟨some dst, op, ty, pos, af, none⟩ :: rest) σ w) (hf : c = false → SL P all Q rest (upd σ dst (gd c v)) w) : SL P all Q (⟨some dst, op, ty, pos, af, some (j, want)⟩ :: rest) σ w := by
  refine g_split rfl c hy ht (fun e => ?_)
  have := hf e
  rwa [gd_no e] at this
end
end Go.Nm
namespace Go.Nm
open Go
/-- A slice value, as a row's one cell. -/
structure SV where
  v : Value
  one : v.oneCell' = true
instance : Inhabited SV := ⟨⟨.bool false, rfl⟩⟩
instance : Flat SV where
  rep _ cs x := cs = [x.v]
  sz := 1
  agg := false
  sz_pos := by decide
  len := fun h => by subst h; rfl
  mono := fun _ h => h
  one := fun {_ _ x} h v hv => by subst h; simp at hv; subst hv; exact x.one
  enc x := [x.v]
  rep_iff := Iff.rfl
/-- All rows are the call's own, and no two share memory. -/
structure Mat (B : Nat) (e1 e2 : TypeId) (w : World) (v : Value) (M : List (List Bool)) : Prop where
  ex : ∃ vs : List SV, OwnF B e1 w v vs ∧ vs.length = M.length ∧ (∀ i, i < M.length → OwnF B e2 w (vs.getD i default).v (M.getD i [])) ∧
    (∀ i j, i < M.length → j < M.length → i ≠ j → ∀ g, (vs.getD i default).v.ownBlock = some g → (vs.getD j default).v.ownBlock ≠ some g) ∧
    ∀ i, i < M.length → ∀ g, (vs.getD i default).v.ownBlock = some g → v.ownBlock ≠ some g
/-- Nothing below a block has changed. -/
structure MGrow (B : Nat) (w w' : World) : Prop where
  os : w'.os = w.os
  out : w'.output = w.output
  size : w.heap.size ≤ w'.heap.size
  blk : ∀ b, b < w.heap.size → b < B → w'.heap[b]? = w.heap[b]?
  fz : ∀ a, w'.frozen? a = w.frozen? a
theorem Grow.m {B : Nat} {v : Value} {w w' : World} (h : Grow B v w w') : MGrow B w w' := ⟨h.os, h.out, h.size, fun b hb hlt => h.blk b hb (h.ne hlt), h.fz⟩
theorem Ext.mgrow {w0 w w' : World} {B : Nat} (h : Ext w0 w) (k : MGrow B w w') (hB : w0.heap.size ≤ B) : Ext w0 w' :=
  ⟨k.os.trans h.os, k.out.trans h.out, Nat.le_trans h.size k.size, fun b hb => (k.blk b (Nat.lt_of_lt_of_le hb h.size) (by omega)).trans (h.blk b hb), fun a => (k.fz a).trans (h.fz a)⟩
theorem KF.mgrow {lo B : Nat} {a w c : World} (h : KF lo a w) (k : MGrow B w c) (hB : a.heap.size ≤ B) : KF lo a c :=
  ⟨Nat.le_trans h.size k.size, fun i hl hi => (k.blk i (Nat.lt_of_lt_of_le hi h.size) (by omega)).trans (h.blk i hl hi)⟩
section
variable {P : Program} {w : World} {B : Nat} {e1 e2 : TypeId} {v : Value} {M : List (List Bool)}
theorem Mat.nil (B : Nat) (e1 e2 : TypeId) (w : World) : Mat B e1 e2 w (.slice none 0 0) [] :=
  ⟨[], OwnF.nil _ _ _, rfl, fun i h => by simp at h, fun i j h => by simp at h, fun i h => by simp at h⟩
theorem Mat.ext {w' : World} (h : Mat B e1 e2 w v M) (k : Ext w w') : Mat B e1 e2 w' v M := by
  obtain ⟨vs, h1, h2, h3, h4, h5⟩ := h.ex
  exact ⟨vs, h1.ext k, h2, fun i hi => (h3 i hi).ext k, h4, h5⟩
theorem Mat.sl (h : Mat B e1 e2 w v M) : Sl (frm w B) v M := by
  obtain ⟨vs, h1, h2, h3, h4, h5⟩ := h.ex
  obtain ⟨a, c, hv, hc, hm, hh⟩ := h1.sl.ex
  refine ⟨a, c, by rw [hv, h2], by omega, hm, fun k x hx => ?_⟩
  have hk := (List.getElem?_eq_some_iff.1 hx).1
  obtain ⟨b, o, cs, ha, hr, hy⟩ := hh k (vs.getD k default) (getD_some vs (by omega) default)
  have hcs : cs = [(vs.getD k default).v] := hr
  have hx' : M.getD k [] = x := by simp [List.getD, hx]
  exact ⟨b, o, cs, ha, ⟨_, hcs, hx' ▸ (h3 k hk).sl⟩, hy⟩
/-- A row, when it is read. -/
theorem Mat.row (h : Mat B e1 e2 w v M) {i : Nat} (hi : i < M.length) : ∃ u, At (frm w B) (vat v 1 i) [u] ∧ OwnF B e2 w u (M.getD i []) ∧
    ∀ {t : TypeId} (_ : (P.info? t).map (·.size) = some 1) {j : Nat} (_ : j < (M.getD i []).length) (b : Bool),
      ∃ w', (Instr.storeAt t (vat u 1 j) (.bool b)).run P w = .ok () w' ∧ Mat B e1 e2 w' v (M.set i ((M.getD i []).set j b)) ∧ MGrow B w w' := by
  obtain ⟨vs, h1, h2, h3, h4, h5⟩ := h.ex
  obtain ⟨cs, ha, hr⟩ := h1.sl.at (getD_some vs (k := i) (by omega) default)
  have hcs : cs = [(vs.getD i default).v] := hr
  subst hcs
  refine ⟨(vs.getD i default).v, ha, h3 i hi, fun {t} ht {j} hj b => ?_⟩
  obtain ⟨w', hs, ho, hg⟩ := (h3 i hi).store (P := P) (val := .bool b) ht hj b rfl
  refine ⟨w', hs, ⟨vs, ?_, by simpa using h2, fun k hk => ?_, fun k l hk hl => ?_, fun k hk => ?_⟩, hg.m⟩
  · refine h1.grow hg fun g hg' => ?_
    intro he
    exact h5 i hi g he hg'
  · simp only [List.length_set] at hk
    by_cases e : k = i
    · subst e
      rw [show (M.set k ((M.getD k []).set j b)).getD k [] = (M.getD k []).set j b from by simp [List.getD, hk]]
      exact ho
    · rw [show (M.set i ((M.getD i []).set j b)).getD k [] = M.getD k [] from by simp [List.getD, List.getElem?_set_ne (Ne.symm e)]]
      exact (h3 k hk).grow hg fun g hg' => h4 k i hk hi e g hg' |> fun h6 he => h6 he
  · simp only [List.length_set] at hk hl
    exact h4 k l hk hl
  · simp only [List.length_set] at hk
    exact h5 k hk
theorem getD_left {α : Type} (l r : List α) {j : Nat} (h : j < l.length) (d : α) : (l ++ r).getD j d = l.getD j d := by
  rw [List.getD_eq_getElem?_getD, List.getElem?_append_left h, ← List.getD_eq_getElem?_getD]
theorem getD_mid {α : Type} (l : List α) (x d : α) {j : Nat} (h : j = l.length) : (l ++ [x]).getD j d = x := by
  subst h
  rw [List.getD_eq_getElem?_getD, List.getElem?_append_right (Nat.le_refl _), Nat.sub_self]; rfl
theorem run_matapp {t ty by' : Nat} {z : Value} (T : SlT P t e1 1 by' z) {w0 : World} (h : Mat B e1 e2 w0 v M) (hx : Ext w0 w) {B' : Nat} {u vy : Value} {row : List Bool} (hu : OwnF B' e2 w u row) (hB' : w0.heap.size ≤ B') (hB : B ≤ w0.heap.size)
    {one : u.oneCell' = true} {C : Cells} (hs : Sl C vy [SV.mk u one]) (hle : C.Le w.cell?) (hn : (M.length + 1) * by' ≤ 140737488355328) (h63 : M.length + 1 ≤ 9223372036854775807) :
    ∃ v' w', (Builtin.append_ #[t, t] ty #[v, vy]).run P w = .ok v' w' ∧ Mat B e1 e2 w' v' (M ++ [row]) ∧ MGrow B w w' := by
  obtain ⟨vs, h1, h2, h3, h4, h5⟩ := h.ex
  have hsz := hx.size
  obtain ⟨v', w', hr, ho, hg, hne⟩ := run_app (P := P) (ty := ty) (α := SV) T (h1.ext hx) hs hle (by omega) (by simpa [h2] using hn) (by simpa [h2] using h63)
  refine ⟨v', w', hr, ⟨vs ++ [SV.mk u one], ho, by simp [h2], fun i hi => ?_, fun i j hi hj hij g hgi => ?_, fun i hi g hgi => ?_⟩, hg.m⟩
  · simp only [List.length_append, List.length_singleton] at hi
    by_cases e : i < M.length
    · rw [getD_left _ _ (by omega), getD_left _ _ e]
      exact ((h3 i e).ext hx).grow hg fun g hg' => h5 i e g hg'
    · rw [getD_mid _ _ _ (by omega), getD_mid _ _ _ (by omega)]
      refine (hu.dn (by omega)).grow hg fun g hg' he => ?_
      have := hu.lt g hg'
      have := h1.lt g he
      omega
  · simp only [List.length_append, List.length_singleton] at hi hj
    by_cases e : i < M.length
    · rw [getD_left _ _ (by omega)] at hgi
      by_cases e' : j < M.length
      · rw [getD_left _ _ (by omega)]
        exact h4 i j e e' hij g hgi
      · rw [getD_mid _ _ _ (by omega)]
        intro he
        have := (h3 i e).lt g hgi
        have := hu.lt g he
        omega
    · rw [getD_mid _ _ _ (by omega)] at hgi
      rw [getD_left _ _ (by omega)]
      intro he
      have := (h3 j (by omega)).lt g he
      have := hu.lt g hgi
      omega
  · simp only [List.length_append, List.length_singleton] at hi
    by_cases e : i < M.length
    · rw [getD_left _ _ (by omega)] at hgi
      have := (h3 i e).lt g hgi
      exact hne g (by omega) (h5 i e g hgi)
    · rw [getD_mid _ _ _ (by omega)] at hgi
      have := hu.lt g hgi
      refine hne g this.2 fun he => ?_
      have := h1.lt g he
      omega
variable {all rest : List Oper} {Q : Post} {σ : Env} {d : Nat} {ty : TypeId} {pos : String} {af : Array Edge}
theorem s_matapp {t by' : Nat} {z : Value} {x y : Operand} (T : SlT P t e1 1 by' z) {w0 : World} (h : Mat B e1 e2 w0 v M) (hx0 : Ext w0 w) {B' : Nat} {u vy : Value} {row : List Bool} (hu : OwnF B' e2 w u row) (hB' : w0.heap.size ≤ B') (hB : B ≤ w0.heap.size)
    {one : u.oneCell' = true} {C : Cells} (hs : Sl C vy [SV.mk u one]) (hle : C.Le w.cell?) (hn : (M.length + 1) * by' ≤ 140737488355328) (h63 : M.length + 1 ≤ 9223372036854775807) (hx : ev σ x = v) (hy : ev σ y = vy)
    (k : ∀ v' w', Mat B e1 e2 w' v' (M ++ [row]) → MGrow B w w' → SL P all Q rest (upd σ d v') w') :
    SL P all Q (⟨some d, .call ⟨.builtin .append, #[x, y], #[t, t]⟩, ty, pos, af, none⟩ :: rest) σ w := by
  obtain ⟨v', w', hr, hm, hg⟩ := run_matapp (ty := ty) T h hx0 hu hB' hB hs hle hn h63
  refine s_any (v := v') (w' := w') ?_ (k v' w' hm hg)
  simp [execOp, resolve, invoke, builtin, hx, hy, hr]
theorem s_matst {dst : Option Nat} {t : TypeId} {x y : Operand} {u : Value} {i j : Nat} {b : Bool}
    (h : ∃ w', (Instr.storeAt t (vat u 1 j) (.bool b)).run P w = .ok () w' ∧ Mat B e1 e2 w' v (M.set i ((M.getD i []).set j b)) ∧ MGrow B w w') (hx : ev σ x = vat u 1 j) (hy : ev σ y = .bool b)
    (k : ∀ w', Mat B e1 e2 w' v (M.set i ((M.getD i []).set j b)) → MGrow B w w' → SL P all Q rest (updo σ dst undef) w') : SL P all Q (⟨dst, .store t x y, ty, pos, af, none⟩ :: rest) σ w := by
  obtain ⟨w', hr, hm, hg⟩ := h
  refine s_skp (w' := w') ?_ (k w' hm hg)
  simp [execOp, hx, hy, hr]
end
theorem oneCell_cells {v : Value} (h : v.oneCell' = true) : v.cells = #[v] := by
  cases v <;> simp_all [Value.cells, Value.oneCell']
end Go.Nm
namespace Go.Nm
open Go
theorem Sep.set {w w' : World} {c c' : Chunk} (hx : c.ex = true) (kp : w.heap.size ≤ w'.heap.size) (hs : ∀ b, b < w.heap.size → ¬ c.D b → w'.heap[b]? = w.heap[b]?)
    (hD : ∀ b, c'.D b → c.D b ∨ w.heap.size ≤ b) (ho : c'.ok w') : ∀ (k : Nat) (L : List Chunk), Sep w L → L[k]? = some c → Sep w' (L.set k c') := by
  intro k L
  induction L generalizing k with
  | nil => intro _ h; simp at h
  | cons d L ih =>
    intro hS hk
    obtain ⟨h1, h2, h3⟩ := hS
    cases k with
    | zero =>
      simp only [List.getElem?_cons_zero, Option.some.injEq] at hk
      subst hk
      refine ⟨ho, fun e he _ b hb hb' => ?_, h3.old kp fun e he b hb => ?_⟩
      · rcases hD b hb with hb | hb
        · exact h2 e he (by simp [hx]) b hb hb'
        · have := e.bd w b (h3.get he) hb'
          omega
      · exact hs b (e.bd w b (h3.get he) hb) (fun hc => h2 e he (by simp [hx]) b hc hb)
    | succ k =>
      simp only [List.getElem?_cons_succ] at hk
      have hmem : c ∈ L := List.mem_of_getElem? hk
      have had := h2 c hmem
      refine ⟨d.st _ _ h1 kp fun b hb => hs b (d.bd w b h1 hb) (fun hc => had (by simp [hx]) b hb hc), fun e he => ?_, ih k h3 hk⟩
      rcases List.mem_or_eq_of_mem_set he with he | rfl
      · exact h2 e he
      · intro _ b hb hb'
        rcases hD b hb' with hb' | hb'
        · exact had (by simp [hx]) b hb hb'
        · have := d.bd w b h1 hb
          omega
/-- Parts as one. -/
def cAll (Ls : List Chunk) : Chunk where
  D b := ∃ c, c ∈ Ls ∧ c.D b
  ex := true
  ok w := Sep w Ls
  st w w' h hs k := h.old hs fun c hc b hb => k b ⟨c, hc, hb⟩
  bd w b h hb := by
    obtain ⟨c, hc, hd⟩ := hb
    exact c.bd w b (h.get hc) hd
theorem St.merge {w0 w : World} {L R A : List Chunk} {c : Chunk} (hcx : c.ex = true) (H : St w0 w (cAll A :: c :: L) R) : St w0 w (cAll (A ++ [c]) :: L) R := by
  obtain ⟨h1, h2, h3, h4, h5⟩ := H.sep
  refine ⟨H.kp, ?_, fun d hd _ b hb hb' => ?_, h5⟩
  · show Sep w (A ++ [c])
    rw [Sep.iff] at *
    have hA : Sep w A := h1
    rw [Sep.iff] at hA
    refine ⟨fun d hd => ?_, List.pairwise_append.2 ⟨hA.2, by simp, fun a ha d hd _ b hb hb' => ?_⟩⟩
    · rcases List.mem_append.1 hd with hd | hd
      · exact hA.1 d hd
      · rw [List.mem_singleton] at hd; subst hd; exact h3
    · rw [List.mem_singleton] at hd
      subst hd
      exact h2 d (by simp) (by simp [cAll]) b ⟨a, ha, hb⟩ hb'
  · obtain ⟨a, ha, hab⟩ := hb
    rcases List.mem_append.1 ha with ha | ha
    · exact h2 d (List.mem_cons_of_mem _ hd) (by simp [cAll]) b ⟨a, ha, hab⟩ hb'
    · rw [List.mem_singleton] at ha
      subst ha
      exact h4 d hd (by simp [hcx]) b hab hb'
/-- A slice of slices, each row the call's own. -/
def matL {α : Type} [Flat α] (e1 e2 : TypeId) (v : Value) (us : List SV) (T : List (List α)) : List Chunk := cOwn e1 v us :: (us.zip T).map fun p => cOwn e2 p.1.v p.2
def cMat {α : Type} [Flat α] (e1 e2 : TypeId) (v : Value) (us : List SV) (T : List (List α)) : Chunk := cAll (matL e1 e2 v us T)
section
variable {α : Type} [Flat α] {e1 e2 : TypeId} {v : Value} {us : List SV} {T : List (List α)} {w0 w : World} {L L' R : List Chunk}
theorem St.nilMat (H : St w0 w L R) (e1 e2 : TypeId) : St w0 w (cMat (α := α) e1 e2 (.slice none 0 0) [] [] :: L) R :=
  H.push (.refl w) (show Sep w _ from ⟨OwnF.nil 0 e1 w, fun d hd => by simp at hd, trivial⟩) (fun b hb => by
    obtain ⟨c, hc, hd⟩ := hb
    simp only [matL, List.zip_nil_left, List.map_nil, List.mem_singleton] at hc
    subst hc
    cases hd)
theorem matOuter (h : (cMat e1 e2 v us T).ok w) : (cOwn e1 v us).ok w := (show Sep w (matL e1 e2 v us T) from h).1
theorem matGet (hl : us.length = T.length) {i : Nat} (hi : i < T.length) : (matL e1 e2 v us T)[i + 1]? = some (cOwn e2 (us.getD i default).v (T.getD i [])) := by
  have h1 : i < us.length := by omega
  simp only [matL, List.getElem?_cons_succ, List.getElem?_map]
  rw [List.getElem?_zip_eq_some (z := (us.getD i default, T.getD i [])) |>.2 ⟨getD_some us h1 _, getD_some T hi _⟩]
  rfl
theorem matRow (h : (cMat e1 e2 v us T).ok w) (hl : us.length = T.length) {i : Nat} (hi : i < T.length) : (cOwn e2 (us.getD i default).v (T.getD i [])).ok w :=
  (show Sep w (matL e1 e2 v us T) from h).get (List.mem_of_getElem? (matGet hl hi))
theorem matCells (h : (cMat e1 e2 v us T).ok w) (hl : us.length = T.length) {i : Int} (h0 : 0 ≤ i) (hi : i < T.length) : At (rowC v (us.flatMap Flat.enc)) (vat v 1 i.toNat) [(us.getD i.toNat default).v] := by
  have hs := ownSl (matOuter h)
  obtain ⟨cs, ha, hr⟩ := hs.at (getD_some us (k := i.toNat) (by omega) default)
  have : cs = [(us.getD i.toNat default).v] := hr
  subst this
  exact ha
theorem matSet {i : Nat} (hl : us.length = T.length) (hi : i < T.length) (row : List α) : (matL e1 e2 v us T).set (i + 1) (cOwn e2 (us.getD i default).v row) = matL e1 e2 v us (T.set i row) := by
  unfold matL
  rw [List.set_cons_succ]
  congr 1
  apply List.ext_getElem?
  intro j
  rw [List.getElem?_set, List.getElem?_map]
  by_cases hj : i = j
  · subst hj
    have h1 : i < us.length := by omega
    rw [if_pos rfl, if_pos (by simp; omega), List.getElem?_map, (List.getElem?_zip_eq_some (z := (us.getD i default, row))).2 ⟨getD_some us h1 _, by simp [hi]⟩]
    rfl
  · rw [if_neg hj, List.getElem?_map]
    congr 1
    cases h1 : us[j]? with
    | none =>
      rw [List.getElem?_eq_none_iff] at h1
      rw [List.getElem?_eq_none_iff.2 (by simp; omega), List.getElem?_eq_none_iff.2 (by simp; omega)]
    | some u =>
      cases h2 : T[j]? with
      | none =>
        rw [List.getElem?_eq_none_iff] at h2
        rw [List.getElem?_eq_none_iff.2 (by simp; omega), List.getElem?_eq_none_iff.2 (by simp; omega)]
      | some r =>
        rw [(List.getElem?_zip_eq_some (z := (u, r))).2 ⟨h1, h2⟩, (List.getElem?_zip_eq_some (z := (u, r))).2 ⟨h1, by rw [List.getElem?_set_ne hj]; exact h2⟩]
variable {P : Program} {all rest : List Oper} {Q : Post} {σ : Env} {d : Nat} {ty : TypeId} {pos : String} {af : Array Edge}
/-- A store into a row. -/
theorem t_matst {dst : Option Nat} {t k : Nat} {x y : Operand} {val : Value} (H : St w0 w L R) (hk : L[k]? = some (cMat e1 e2 v us T)) (hl : us.length = T.length) (hs : (P.info? t).map (·.size) = some (Elt.sz α)) {i : Nat} (hi : i < T.length) {j : Int} (h0 : 0 ≤ j) (h1 : j < (T.getD i []).length) (a : α)
    (hx : ev σ x = vat (us.getD i default).v (Elt.sz α) j.toNat) (hy : ev σ y = val) (hv : val.cells = (Flat.enc a : List Value).toArray) {T' : List (List α)} (hT : T.set i ((T.getD i []).set j.toNat a) = T') (hL : L.set k (cMat e1 e2 v us T') = L')
    (kk : ∀ w', St w0 w' L' R → SL P all Q rest (updo σ dst undef) w') : SL P all Q (⟨dst, .store t x y, ty, pos, af, none⟩ :: rest) σ w := by
  subst hT
  have hok := H.get hk
  have hrow := matRow hok hl hi
  refine s_ost hrow hs h0 h1 a hx hy hv fun w' ho hg => kk w' ?_
  have hc := matGet (e1 := e1) (e2 := e2) (v := v) hl hi
  refine H.set (c' := cMat e1 e2 v us (T.set i ((T.getD i []).set j.toNat a))) hk rfl hg.keep (fun b hb hne => hg.blk b hb (fun hc' => hne ⟨_, List.mem_of_getElem? hc, hc'⟩)) (fun b hb => ?_) ?_ hL
  · rw [cMat, ← matSet hl hi] at hb
    obtain ⟨c, hc', hd⟩ := hb
    rcases List.mem_or_eq_of_mem_set hc' with hc' | rfl
    · exact .inl ⟨c, hc', hd⟩
    · exact .inl ⟨_, List.mem_of_getElem? hc, hd⟩
  · show Sep w' (matL e1 e2 v us (T.set i ((T.getD i []).set j.toNat a)))
    rw [← matSet hl hi]
    exact Sep.set (c := cOwn e2 (us.getD i default).v (T.getD i [])) (c' := cOwn e2 (us.getD i default).v ((T.getD i []).set j.toNat a)) rfl hg.size (fun b hb hne => hg.blk b hb hne) (fun b hb => .inl hb) ho (i + 1) _ hok hc
/-- One row more. -/
theorem t_matapp {t by' : Nat} {z : Value} {x y : Operand} (S : SlT P t e1 1 by' z) (hb : Nat.blt 0 by' = true) {rv vy : Value} {row : List α} {sv : SV} {C : Cells} (H : St w0 w (cMat e1 e2 v us T :: cOwn e2 rv row :: L) R) (hl : us.length = T.length) (hrv : sv.v = rv) (hx : ev σ x = v) (hy : ev σ y = vy)
    (hs : Sl C vy [sv]) (hle : C.Le w.cell?) (hn : (T.length + 1) * by' ≤ 140737488355328)
    (kk : ∀ v' w', St w0 w' (cMat e1 e2 v' (us ++ [sv]) (T ++ [row]) :: L) R → SL P all Q rest (upd σ d v') w') :
    SL P all Q (⟨some d, .call ⟨.builtin .append, #[x, y], #[t, t]⟩, ty, pos, af, none⟩ :: rest) σ w := by
  have hok := H.get (k := 0) rfl
  refine s_app (α := SV) S hx hy (matOuter hok) hs hle (Nat.zero_le _) (by rw [hl]; exact hn) (by rw [hl]; exact len63 hb hn) fun v' w' ho hg hne => kk v' w' ?_
  have H1 : St w0 w' (cAll ((matL e1 e2 v us T).set 0 (cOwn e1 v' (us ++ [sv]))) :: cOwn e2 rv row :: L) R := by
    refine H.set (k := 0) (c := cMat e1 e2 v us T) rfl rfl hg.keep (fun b hb hne' => hg.blk b hb (fun hc => hne' ⟨cOwn e1 v us, by simp [matL], hc⟩)) (fun b hb => ?_) ?_ rfl
    · obtain ⟨c, hc, hd⟩ := hb
      simp only [matL, List.set_cons_zero, List.mem_cons] at hc
      rcases hc with rfl | hc
      · by_cases h : b < w.heap.size
        · by_cases h2 : v.ownBlock = some b
          · exact .inl ⟨cOwn e1 v us, by simp [matL], h2⟩
          · exact absurd hd (hne b h h2)
        · exact .inr (by omega)
      · exact .inl ⟨c, by simp only [matL, List.mem_cons]; exact .inr hc, hd⟩
    · exact Sep.set (c := cOwn e1 v us) (c' := cOwn e1 v' (us ++ [sv])) rfl hg.size (fun b hb hne' => hg.blk b hb hne') (fun b hb => by
        by_cases h : b < w.heap.size
        · by_cases h2 : v.ownBlock = some b
          · exact .inl h2
          · exact absurd hb (hne b h h2)
        · exact .inr (by omega)) ho 0 _ hok rfl
  have H2 := St.merge rfl H1
  have e : (matL e1 e2 v us T).set 0 (cOwn e1 v' (us ++ [sv])) ++ [cOwn e2 rv row] = matL e1 e2 v' (us ++ [sv]) (T ++ [row]) := by
    simp only [matL, List.set_cons_zero, List.cons_append]
    congr 1
    rw [List.zip_append (by omega)]
    simp [hrv]
  rw [e] at H2
  exact H2
/-- It is read on only. -/
theorem St.matE (H : St w0 w L R) {k : Nat} (hk : L[k]? = some (cMat e1 e2 v us T)) (hl : us.length = T.length) : ∃ B, St w0 w (L.set k (cRo B)) R ∧ Sl B.cells v T := by
  have hok := H.get hk
  refine ⟨⟨w, fun b => (cMat e1 e2 v us T).D b⟩, H.set (c' := cRo ⟨w, fun b => (cMat e1 e2 v us T).D b⟩) hk rfl (.refl w) (fun _ _ _ => rfl) (fun b hb => .inl hb.1) ⟨Nat.le_refl _, fun _ _ _ => rfl⟩ rfl, ?_⟩
  have hD : ∀ (c : Chunk) (C : Cells), c ∈ matL e1 e2 v us T → C.Le w.cell? → (∀ a x, C a = some x → c.D a.block) → C.Le (Base.cells ⟨w, fun b => (cMat e1 e2 v us T).D b⟩) := by
    intro c C hc hle hd a x hx
    unfold Base.cells
    rw [if_pos (show (cMat e1 e2 v us T).D a.block from ⟨c, hc, hd a x hx⟩)]
    exact hle a x hx
  have rowD : ∀ {β : Type} [Flat β] (e : TypeId) (u : Value) (l : List β) (a : Addr) (x : Value), rowC u (l.flatMap Flat.enc) a = some x → (cOwn e u l).D a.block := by
    intro β _ e u l a x hx
    unfold rowC at hx
    split at hx
    · rename_i p _ _
      split at hx
      · rename_i ha
        show Value.ownBlock _ = some a.block
        rw [ha]; rfl
      · cases hx
    · cases hx
  have ho := matOuter hok
  have hs := (ownSl ho).mono (hD _ _ (by simp [matL]) (ownLe w ho) (fun a x hx => rowD e1 v us a x hx))
  obtain ⟨a, c, hv, hc, hm, hh⟩ := hs.ex
  refine ⟨⟨a, c, by rw [hv, hl], by omega, hm, fun i r hr => ?_⟩⟩
  have hi : i < T.length := (List.getElem?_eq_some_iff.1 hr).1
  obtain ⟨b, o, cs, ha, hrep, hy⟩ := hh i _ (getD_some us (k := i) (by omega) default)
  have hcs : cs = [(us.getD i default).v] := hrep
  subst hcs
  have hrow := matRow hok hl hi
  have hget : T.getD i [] = r := by simp [List.getD, hr]
  rw [hget] at hrow
  refine ⟨b, o, [(us.getD i default).v], ha, ⟨_, rfl, (ownSl hrow).mono (hD _ _ (List.mem_of_getElem? (matGet hl hi)) ?_ ?_)⟩, hy⟩
  · exact ownLe w hrow
  · intro a' x hx
    have := rowD e2 (us.getD i default).v r a' x hx
    rw [hget]
    exact this
end
end Go.Nm
namespace Go.Nm
open Go
/-! ### Parts as one, and one object -/
def cObj (b : Nat) (o : Obj) : Chunk where
  D k := k = b
  ex := true
  ok w := w.heap[b]? = some o
  st w w' h _ k := (k b rfl).trans h
  bd w k h e := by rw [e]; exact heap_lt h
/-- Blocks for calls that are put off; none is. -/
def cMk (Ds : List Nat) : Chunk where
  D k := k ∈ Ds
  ex := true
  ok w := Ds.Nodup ∧ ∀ D ∈ Ds, w.heap[D]? = some (.deferred (some []))
  st w w' h _ k := ⟨h.1, fun D hD => (k D hD).trans (h.2 D hD)⟩
  bd w k h e := heap_lt (h.2 k e)
section
variable {w0 w w' : World} {L L' R A T : List Chunk}
theorem Sep.bundle (hx : ∀ c ∈ A, c.ex = true) (h : Sep w (A ++ T)) : Sep w (cAll A :: T) := by
  rw [Sep.iff] at h
  obtain ⟨h1, h2⟩ := h
  rw [List.pairwise_append] at h2
  refine ⟨?_, fun d hd _ b hb hb' => ?_, ?_⟩
  · show Sep w A
    rw [Sep.iff]
    exact ⟨fun c hc => h1 c (List.mem_append_left _ hc), h2.1⟩
  · obtain ⟨c, hc, hb⟩ := hb
    exact h2.2.2 c hc d hd (by rw [hx c hc]; rfl) b hb hb'
  · rw [Sep.iff]
    exact ⟨fun c hc => h1 c (List.mem_append_right _ hc), h2.2.1⟩
theorem Sep.unbundle (h : Sep w (cAll A :: T)) : Sep w (A ++ T) := by
  obtain ⟨h1, h2, h3⟩ := h
  have h1' : Sep w A := h1
  rw [Sep.iff] at h1' h3 ⊢
  refine ⟨fun c hc => ?_, List.pairwise_append.2 ⟨h1'.2, h3.2, fun a ha b hb hex k hk hk' => ?_⟩⟩
  · rcases List.mem_append.1 hc with hc | hc
    · exact h1'.1 c hc
    · exact h3.1 c hc
  · exact h2 b hb rfl k ⟨a, ha, hk⟩ hk'
theorem St.bundle (hx : ∀ c ∈ A, c.ex = true) (H : St w0 w (A ++ T) R) : St w0 w (cAll A :: T) R :=
  ⟨H.kp, by have := H.sep; rw [List.append_assoc] at this; exact this.bundle hx⟩
theorem St.unbundle (H : St w0 w (cAll A :: T) R) : St w0 w (A ++ T) R :=
  ⟨H.kp, by rw [List.append_assoc]; exact Sep.unbundle H.sep⟩
theorem Keep.putObj {r : Nat} {o o' : Obj} (h : w.heap[r]? = some o) (ho : ∀ c e fr, o ≠ .cells c e fr) (ho' : ∀ c e fr, o' ≠ .cells c e fr) : Keep w (w.putObj r o') := by
  refine ⟨rfl, rfl, by simp, fun a => ?_⟩
  unfold World.frozen?
  by_cases e : a.block = r
  · rw [e, World.putObj_heap_same (heap_lt h), h]
    cases o with
    | cells c e fr => exact absurd rfl (ho c e fr)
    | _ => cases o' with
      | cells c e fr => exact absurd rfl (ho' c e fr)
      | _ => rfl
  · rw [World.putObj_heap_other e]
theorem St.putObj {l : Nat} {o o' : Obj} (H : St w0 w (cObj l o :: L) R) (ho : ∀ c e fr, o ≠ .cells c e fr) (ho' : ∀ c e fr, o' ≠ .cells c e fr) : St w0 (w.putObj l o') (cObj l o' :: L) R :=
  H.set (k := 0) (c := cObj l o) (c' := cObj l o') rfl rfl (Keep.putObj (H.get (k := 0) rfl) ho ho') (fun b _ hb => World.putObj_heap_other hb) (fun b hb => .inl hb)
    (World.putObj_heap_same (heap_lt (H.get (k := 0) rfl))) rfl
theorem St.tail {c : Chunk} (H : St w0 w (c :: L) R) : St w0 w L R := ⟨H.kp, H.sep.2.2⟩
theorem St.allocObj (H : St w0 w L R) (o : Obj) (hx : Ext w (w.alloc o)) : St w0 (w.alloc o) (cObj w.heap.size o :: L) R :=
  H.push (c := cObj w.heap.size o) hx (World.alloc_heap_new w o) (fun b hb => by rw [show b = w.heap.size from hb]; exact Nat.le_refl _)
theorem St.mk0 (H : St w0 w L R) : St w0 w (cMk [] :: L) R :=
  H.push (c := cMk []) (Ext.refl w) ⟨List.nodup_nil, fun _ h => by cases h⟩ (fun b hb => by cases hb)
/-- A block for calls that are put off comes to the others. -/
theorem St.mkCons {D : Nat} {Ds : List Nat} (H : St w0 w (cObj D (.deferred (some [])) :: cMk Ds :: L) R) : St w0 w (cMk (D :: Ds) :: L) R := by
  obtain ⟨h1, h2, h3, h4, h5⟩ := H.sep
  refine ⟨H.kp, ⟨List.nodup_cons.2 ⟨fun hD => h2 (cMk Ds) (by simp) rfl D rfl hD, h3.1⟩, fun E hE => ?_⟩, fun d hd _ b hb hb' => ?_, h5⟩
  · rcases List.mem_cons.1 hE with rfl | hE
    · exact h1
    · exact h3.2 E hE
  · rcases List.mem_cons.1 hb with rfl | hb
    · exact h2 d (List.mem_cons_of_mem _ hd) rfl b rfl hb'
    · exact h4 d hd rfl b hb hb'
end

/-! ### Frames that have come upon such loops -/
def mkD (D : Nat) : Deferred := { target := .collected D, args := #[] }
abbrev PostD := Exit → List Nat → Env → World → Prop
def WD (P : Program) (n : Nat) (Ds : List Nat) (c : Code) (Q : PostD) (σ : Env) (w : World) : Prop :=
  ∀ a, Fr (Ds.map mkD) n σ a → c.wpIn (FR none) 0 P (fun e a' w' => ∃ Ds' σ', Fr (Ds'.map mkD) n σ' a' ∧ Q e Ds' σ' w') a w
def thenD (K : List Nat → Env → World → Prop) (Q : PostD) : PostD
  | .normal, Ds, σ, w => K Ds σ w
  | e, Ds, σ, w => Q e Ds σ w
def blockD (id : Nat) (Q : PostD) : PostD
  | .exit i, Ds, σ, w => bif Nat.beq i id then Q .normal Ds σ w else Q (.exit i) Ds σ w
  | e, Ds, σ, w => Q e Ds σ w
section
variable {P : Program} {n : Nat} {Q : PostD} {σ : Env} {w : World} {Ds : List Nat}
theorem WD.of {c : Code} (h : W P n c (fun e σ w => Q e Ds σ w) σ w) : WD P n Ds c Q σ w :=
  fun a ha => wpIn_mono (h _ a ha) fun _ _ _ ⟨s, hs, h'⟩ => ⟨Ds, s, hs, h'⟩
theorem WD.seq {x y : Code} (h : WD P n Ds x (thenD (fun Ds σ w => WD P n Ds y Q σ w) Q) σ w) : WD P n Ds (.seq x y) Q σ w := by
  intro a ha
  refine wpIn_seq (wpIn_mono (h a ha) ?_)
  rintro e a' w' ⟨Ds', s, hs, h'⟩
  cases e with
  | normal => exact h' a' hs
  | _ => exact ⟨Ds', s, hs, h'⟩
theorem WD.cond {c : Operand} {x y : Code} (b : Bool) (hc : ev σ c = .bool b) (ht : b = true → WD P n Ds x Q σ w) (hf : b = false → WD P n Ds y Q σ w) :
    WD P n Ds (.cond c x y) Q σ w := by
  intro a ha
  refine wpIn_cond_split (t := b) (by rw [ha.eval]; exact hc) (fun h => ht h a ha) (fun h => hf h a ha)
theorem WD.block {id : Nat} {c : Code} (h : WD P n Ds c (blockD id Q) σ w) : WD P n Ds (.block id c) Q σ w := by
  intro a ha
  refine wpIn_block (wpIn_mono (h a ha) ?_)
  rintro e a' w' ⟨Ds', s, hs, h'⟩
  cases e with
  | exit i =>
    simp only [Exit.inBlock]
    unfold blockD at h'
    by_cases e : i = id
    · subst e
      rw [if_pos rfl]
      simp only [Nat.beq_refl, cond_true] at h'
      exact ⟨Ds', s, hs, h'⟩
    · rw [if_neg e]
      have : Nat.beq i id = false := by
        cases hb : Nat.beq i id with
        | false => rfl
        | true => exact absurd (Nat.eq_of_beq_eq_true hb) e
      simp only [this, cond_false] at h'
      exact ⟨Ds', s, hs, h'⟩
  | _ => exact ⟨Ds', s, hs, h'⟩
theorem WD.loop {c : Code} (I : Nat → List Nat → Env → World → Prop) (h0' : ∃ m, I m Ds σ w)
    (round : ∀ m Ds σ w, I m Ds σ w → WD P n Ds c (thenD (fun Ds' σ' w' => ∃ m', m' < m ∧ I m' Ds' σ' w') Q) σ w) : WD P n Ds (.loop c) Q σ w := by
  obtain ⟨m, h0⟩ := h0'
  intro a ha
  refine wpIn_loop_ghost (fun m a w => ∃ Ds σ, Fr (Ds.map mkD) n σ a ∧ I m Ds σ w) m ⟨Ds, σ, ha, h0⟩ ?_
  rintro m a w ⟨Ds, σ, ha, hI⟩
  refine wpIn_mono (round m Ds σ w hI a ha) ?_
  rintro e a' w' ⟨Ds', s, hs, h'⟩
  cases e with
  | normal =>
    obtain ⟨m', hlt, hI'⟩ := h'
    exact ⟨m', hlt, Ds', s, hs, hI'⟩
  | _ => exact ⟨Ds', s, hs, h'⟩
theorem WD.mono {c : Code} {Q' : PostD} (h : WD P n Ds c Q σ w) (hq : ∀ e Ds σ w, Q e Ds σ w → Q' e Ds σ w) : WD P n Ds c Q' σ w :=
  fun a ha => wpIn_mono (h a ha) fun _ _ _ ⟨d, s, hs, h'⟩ => ⟨d, s, hs, hq _ _ _ _ h'⟩
end
/-! ### The body of a function with such loops -/
/-- The blocks are shut, one behind the other. -/
inductive Shut : List Nat → World → World → Prop
  | nil {w : World} : Shut [] w w
  | cons {D : Nat} {Ds : List Nat} {w w' : World} (h : w.heap[D]? = some (.deferred (some []))) (k : Shut Ds (w.putObj D (.deferred none)) w') : Shut (D :: Ds) w w'
def bodyD (P : Program) (fn : Func) (R : Value → World → Prop) : PostD
  | .normal, Ds, σ, w | .ret, Ds, σ, w => ∃ w' v, Shut Ds w w' ∧ resE P fn σ w' v ∧ R v w'
  | _, _, _, _ => False
theorem shutSt {w0 : World} {L R : List Chunk} : ∀ {Ds : List Nat} {w : World}, St w0 w (cMk Ds :: L) R → ∃ w', Shut Ds w w' ∧ St w0 w' L R
  | [], w, H => ⟨w, .nil, H.tail⟩
  | D :: Ds, w, H => by
    have hD := (H.get (k := 0) rfl : _ ∧ _).2 D (by simp)
    have hn := (H.get (k := 0) rfl : _ ∧ _).1
    rw [List.nodup_cons] at hn
    have H' : St w0 (w.putObj D (.deferred none)) (cMk Ds :: L) R :=
      H.set (k := 0) (c := cMk (D :: Ds)) (c' := cMk Ds) rfl rfl (Keep.putObj hD (by simp) (by simp)) (fun b _ hb => World.putObj_heap_other (fun e => hb (by rw [e]; exact List.mem_cons_self ..)))
        (fun b hb => .inl (List.mem_cons_of_mem _ hb)) ⟨hn.2, fun E hE => by
          rw [World.putObj_heap_other (fun e => hn.1 (by rw [← e]; exact hE))]
          exact (H.get (k := 0) rfl : _ ∧ _).2 E (List.mem_cons_of_mem _ hE)⟩ rfl
    obtain ⟨w', h1, h2⟩ := shutSt H'
    exact ⟨w', .cons hD h1, h2⟩
theorem bodyD_n {P : Program} {fn : Func} {Q : Value → World → Prop} {w0 w : World} {L R : List Chunk} {Ds : List Nat} {σ : Env} (H : St w0 w (cMk Ds :: L) R) (k : ∀ w', St w0 w' L R → ∃ v, resE P fn σ w' v ∧ Q v w') : bodyD P fn Q .normal Ds σ w := by
  obtain ⟨w', h1, h2⟩ := shutSt H
  obtain ⟨v, h3, h4⟩ := k w' h2
  exact ⟨w', v, h1, h3, h4⟩
theorem bodyD_r {P : Program} {fn : Func} {Q : Value → World → Prop} {w0 w : World} {L R : List Chunk} {Ds : List Nat} {σ : Env} (H : St w0 w (cMk Ds :: L) R) (k : ∀ w', St w0 w' L R → ∃ v, resE P fn σ w' v ∧ Q v w') : bodyD P fn Q .ret Ds σ w :=
  bodyD_n H k
theorem leavesOf {P : Program} {fn : Func} {σ : Env} {tmps : Array Value} {Q : Value → World → Prop} (ht : ∀ k, tmps.getD k undef = σ k) {v : Value} : ∀ {Ds : List Nat} {w w' : World}, Shut Ds w w' → resE P fn σ w' v → Q v w' →
    LeavesInM Fence.wide 0 P fn tmps (fun e w => ∃ v, e = .returned v ∧ Q v w) (Ds.map mkD) .returning w
  | _, w, _, .nil, h, hq => by
    show LeavesIn Fence.wide 0 P fn tmps _ [] .returning w
    exact ⟨v, h tmps ht, v, rfl, hq⟩
  | _, _, _, .cons hD k, h, hq => ⟨by simp, .inl ⟨_, _, rfl, run_takeDeferred hD, leavesOf ht k h hq⟩⟩
theorem ret_of_WD {P : Program} {f : FuncId} {fn : Func} {c : Code} {n : Nat} {args : Array Value} {w : World} {R : Value → World → Prop}
    (hf : P.funcs[f]? = some fn) (hb : fn.body = some c) (hn : fn.ntmps = n) (hle' : Nat.ble args.size n = true)
    (h : WD P n [] c (bodyD P fn R) (argE args) w) : Ret P f args w R := by
  have hle := Nat.le_of_ble_eq_true hle'
  subst hn
  refine callsIn_wide.1 (callsIn_of_wp_marks (F := Fence.wide) (n := 0) hf hb trivial (wpIn_mono (h _ ⟨rfl, ?_, fun k => ?_⟩) ?_))
  · simp; omega
  · simp only [argE, Array.getD_eq_getD_getElem?, Array.getElem?_append]
    by_cases hk : k < args.size
    · simp [hk]
    · rw [if_neg hk]
      simp only [Array.getElem?_replicate]
      have : args[k]? = none := by simp; omega
      rw [this]
      split <;> rfl
  · rintro e a' w' ⟨Ds, s, hs, h'⟩
    cases e with
    | normal =>
      obtain ⟨w1, v, h1, h2, h3⟩ := h'
      show LeavesInM _ _ _ _ _ _ a'.defers _ _
      rw [hs.df]
      exact leavesOf hs.get h1 h2 h3
    | ret =>
      obtain ⟨w1, v, h1, h2, h3⟩ := h'
      show LeavesInM _ _ _ _ _ _ a'.defers _ _
      rw [hs.df]
      exact leavesOf hs.get h1 h2 h3
    | _ => exact h'.elim

/-! ### The function that an iterator is handed -/
def YieldC {α T : Type} (P : Program) (R : List Chunk) (AR : Cells → List Value → α → Prop) (Y : T → List Chunk → Prop) (yv : Value) (ym : T → α → M (Bool × T)) : Prop :=
  ∃ l, yv = .func (.yield l) #[] #[] ∧ ∀ (w : World) (L Ls : List Chunk) (t : T) (C : Cells) (vs : List Value) (x : α) (b : Bool) (t' : T), Sep w (cAll Ls :: (L ++ R)) → Y t Ls → Reads (L ++ R) C → AR C vs x → (ym t x).Ends (b, t') →
    ∃ f tmps assign body, (Instr.yield l vs.toArray).run P w = .ok (.round l f tmps assign body) w ∧ RoundIn Fence.wide 0 P l f tmps assign body w fun e w' => e = .returned (B b) ∧ ∃ Ls', Y t' Ls' ∧ St w w' [cAll Ls'] (L ++ R)
theorem YieldC.app {α T : Type} {P : Program} {R : List Chunk} {AR : Cells → List Value → α → Prop} {Y : T → List Chunk → Prop} {yv : Value} {ym : T → α → M (Bool × T)} (h : YieldC P R AR Y yv ym) (L : List Chunk) : YieldC P (L ++ R) AR Y yv ym := by
  obtain ⟨l, h1, h2⟩ := h
  refine ⟨l, h1, fun w L' Ls t C vs x b t' => ?_⟩
  rw [← List.append_assoc]
  exact h2 w (L' ++ L) Ls t C vs x b t'
section
variable {α T : Type} {P : Program} {all rest : List Oper} {Q : Post} {σ : Env} {w0 w : World} {L R : List Chunk} {d : Nat} {ty : TypeId} {pos : String} {af : Array Edge}
theorem y_exec {l : Nat} {dst : Option Nat} {x : Operand} {ops : Array Operand} {ts : Array TypeId} {g : Option (Nat × Bool)} {vs : List Value} {nx : Next} (hx : ev σ x = .func (.yield l) #[] #[]) (ha : ops.toList.map (ev σ) = vs)
    (h : (Instr.yield l vs.toArray).run P w = .ok nx w) : (execOp (ev σ) ⟨dst, .call ⟨.value x, ops, ts⟩, ty, pos, af, g⟩).run P w = .ok nx w := by
  subst ha
  simp [execOp, resolve, hx, Deferred.ofValue, invoke, amap]
  exact h
theorem t_yield {AR : Cells → List Value → α → Prop} {Y : T → List Chunk → Prop} {x : Operand} {ops : Array Operand} {ts : Array TypeId} {yv : Value} {ym : T → α → M (Bool × T)} {C : Cells} {b : Bool} {t t' : T} {Ls : List Chunk} (H : St w0 w (cAll Ls :: L) R) (hf : YieldC P R AR Y yv ym)
    (hY : Y t Ls) (hx : ev σ x = yv) (vs : List Value) (ha : ops.toList.map (ev σ) = vs) (a : α) (hC : Reads (L ++ R) C) (hA : AR C vs a) (hp : (ym t a).Ends (b, t'))
    (k : ∀ Ls' w', Y t' Ls' → St w0 w' (cAll Ls' :: L) R → SL P all Q rest (upd σ d (B b)) w') : SL P all Q (⟨some d, .call ⟨.value x, ops, ts⟩, ty, pos, af, none⟩ :: rest) σ w := by
  obtain ⟨l, rfl, h⟩ := hf
  obtain ⟨f, tmps, asg, body, h1, h2⟩ := h w L Ls t C vs a b t' H.sep hY hC hA hp
  simp only [SL, opW, y_exec hx ha h1]
  refine h2.mono fun e w' ⟨he, Ls', hY', H'⟩ => ⟨_, he, k Ls' w' hY' ⟨H.kp.trans H'.kp, H'.sep⟩⟩
end
/-- What the function is, of what a round reckons. -/
def M.yl {S X α : Type} (bd : S → α → M (S ⊕ X)) : S ⊕ X → α → M (Bool × (S ⊕ X))
  | .inl s, a => M.bind (bd s a) fun r => match r with
    | .inl s' => M.pure (true, .inl s')
    | .inr x => M.pure (false, .inr x)
  | .inr _, _ => M.fail
end Go.Nm
