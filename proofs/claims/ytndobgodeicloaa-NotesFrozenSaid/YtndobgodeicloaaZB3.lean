/- Part 3 of the texts on which the proof rests. Conditions: none. -/
import Derived.RangeFuncRecord
import Derived.Test.YtndobgodeicloaaZB2
set_option linter.unusedVariables false
set_option linter.unusedSimpArgs false
set_option linter.unusedSectionVars false
section
set_option maxRecDepth 100000
set_option maxHeartbeats 16000000
namespace Go.Proofs.Ytndobgodeicloaa
open Go Go.Nm
theorem values1 {b : Nat} {vw : Value} {ws : List Work} (x : Note) (w : World) (aa : w.heap[b]? = some (.cells #[vw] 22 (0, 0))) (hw : Sl w.cell? vw ws) : Ret Try.prog 83 #[.agg #[I x.work, I x.version, I x.value], Pz b] w fun v w' => v = B (inB x.work 0 ((ws.length : Int) - 1) && (((ws.getD x.work.toNat default).of.length : Int) == 0)) /\ Ext w w' := by
 refine ret_of_W Try.func83 rfl rfl rfl ?_
 have E := Ext.refl w
 have K1 := KF.refl 0 w
 have ag := hw.len_le
 have hw := hw.par
 refine sQ rfl ?_
 refine s_box (v := .agg #[I x.work, I x.version, I x.value]) (cs := [I x.work, I x.version, I x.value]) rfl rfl ?_
 intro b2 w3 Nb2
 have o_K1_b2 := Nat.le_trans K1.size Nb2.ge
 have o_b2 := Nat.le_trans E.size Nb2.ge
 have o_b_b2 := Nat.lt_of_lt_of_le (heap_lt aa) Nb2.ge
 replace E := E.trans Nb2.ext
 replace K1 := K1.ext Nb2.ext
 replace aa := Nb2.ext.get aa
 have ab := Nb2.same
 clear Nb2
 refine sA (B false) rfl <| s_nil <| sQ rfl <| s_val (x_fa (a := Pz b2) (v := Pz b2) rfl (fa_blk (o := 0) Fd30_0 Sz3)) <| s_val (x_ld (p := Pz b2) (v := I x.work) rfl (ldb_sc Sc3 ab rfl)) <| s_val (x_ld (p := Pz b) (v := vw) rfl (ldb_sc Sc22 aa rfl)) <| s_val (x_lenS T22.und rfl (hw.to K1)) <| sR ws.length 1 (ws.length - 1) rfl rfl rfl (by omega) ?_
 refine s_call cf84 [I x.work, I 0, I (ws.length - 1)] rfl (in_any _ _ _ _) ?_
 rintro _ w4 ⟨rfl, x5⟩
 replace E := E.trans x5
 replace K1 := K1.ext x5
 replace aa := x5.get aa
 replace ab := x5.get ab
 clear x5
 refine sM (B (inB x.work 0 (ws.length - 1))) rfl <| g_val (inB x.work 0 (ws.length - 1)) (gy_t rfl) (fun hg => x_ld (p := Pz b) (v := vw) rfl (ldb_sc Sc22 aa rfl)) <| g_val (inB x.work 0 (ws.length - 1)) (gy_t rfl) (fun hg => x_fa (a := Pz b2) (v := Pz b2) rfl (fa_blk (o := 0) Fd30_0 Sz3)) <| g_val (inB x.work 0 (ws.length - 1)) (gy_t rfl) (fun hg => x_ld (p := Pz b2) (v := I x.work) (gd_of (c := inB x.work 0 (ws.length - 1)) hg (Pz b2)) (ldb_sc Sc3 ab rfl)) <| g_val (inB x.work 0 (ws.length - 1)) (gy_t rfl) (fun hg => x_ix (a := vw) (b := I x.work) (v := vat vw 3 (Int.toNat x.work)) (gd_of (c := inB x.work 0 (ws.length - 1)) hg (vw)) (gd_of (c := inB x.work 0 (ws.length - 1)) hg (I x.work)) (Sl.ix (α := Work) T22.und T22.size (hw.to K1) (by first | omega | (simp at hg; omega) | (simp [inB] at hg; omega)) (by first | omega | (simp at hg; omega) | (simp [inB] at hg; omega)))) <| g_val (inB x.work 0 (ws.length - 1)) (gy_t rfl) (fun hg => x_fa (a := vat vw 3 (Int.toNat x.work)) (v := fat (vat vw 3 (Int.toNat x.work)) 0) (gd_of (c := inB x.work 0 (ws.length - 1)) hg (vat vw 3 (Int.toNat x.work))) (fa_pl Fd60_0 Sz34 (Sl.pl (i := x.work) hw (by first | omega | (simp at hg; omega) | (simp [inB] at hg; omega)) (by first | omega | (simp at hg; omega) | (simp [inB] at hg; omega))))) ?_
 obtain ⟨u6, ae, ac⟩ := gd_ex (c := inB x.work 0 (ws.length - 1)) fun hg => Work_at0 hw (i := x.work) (by first | omega | (simp at hg; omega) | (simp [inB] at hg; omega)) (by first | omega | (simp at hg; omega) | (simp [inB] at hg; omega))
 replace ac : (inB x.work 0 (ws.length - 1)) = true -> Sl _ u6 (ws.getD (Int.toNat x.work) default).of := ac
 refine g_val (inB x.work 0 (ws.length - 1)) (gy_t rfl) (fun hg => x_ld (p := fat (vat vw 3 (Int.toNat x.work)) 0) (v := u6) (gd_of (c := inB x.work 0 (ws.length - 1)) hg (fat (vat vw 3 (Int.toNat x.work)) 0)) (ld_sc Sc34 (At.to (ae hg) K1))) <| g_val (inB x.work 0 (ws.length - 1)) (gy_t rfl) (fun hg => x_lenS T34.und (gd_of (c := inB x.work 0 (ws.length - 1)) hg (u6)) ((ac hg).to K1)) <| g_val (inB x.work 0 (ws.length - 1)) (gy_t rfl) (fun hg => x_cmp (kd := .i64) (a := ((ws.getD (Int.toNat x.work) default).of).length) (b := 0) (r := ((((ws.getD (Int.toNat x.work) default).of).length) : Int) == 0) (gd_of (c := inB x.work 0 (ws.length - 1)) hg (I (((ws.getD (Int.toNat x.work) default).of).length))) rfl rfl) <| s_val (x_pand (b := inB x.work 0 (ws.length - 1)) (r := ((((ws.getD (Int.toNat x.work) default).of).length) : Int) == 0) rfl (fun hb => gd_of (c := inB x.work 0 (ws.length - 1)) (by simp_all) (B (((((ws.getD (Int.toNat x.work) default).of).length) : Int) == 0))) rfl) <| sA (B (((inB x.work 0 (ws.length - 1)) && (((((ws.getD (Int.toNat x.work) default).of).length) : Int) == 0)))) rfl <| s_nil ?_
 refine W.ret ?_
 exact ⟨_, resE_tmp rfl, rfl, E⟩

theorem values2 (x : Note) (w : World)  : Ret Try.prog 85 #[.agg #[I x.work, I x.version, I x.value]] w fun v w' => v = B (inB x.version 0 1000000 && inB x.value 0 1000002) /\ Ext w w' := by
 refine ret_of_W Try.func85 rfl rfl rfl ?_
 have E := Ext.refl w
 have K1 := KF.refl 0 w
 refine sQ rfl ?_
 refine s_box (v := .agg #[I x.work, I x.version, I x.value]) (cs := [I x.work, I x.version, I x.value]) rfl rfl ?_
 intro b2 w3 Nb2
 have o_K1_b2 := Nat.le_trans K1.size Nb2.ge
 have o_b2 := Nat.le_trans E.size Nb2.ge
 replace E := E.trans Nb2.ext
 replace K1 := K1.ext Nb2.ext
 have aa := Nb2.same
 clear Nb2
 refine sA (B false) rfl <| s_nil <| sQ rfl <| s_val (x_fa (a := Pz b2) (v := Oz b2 1) rfl (fa_blk (o := 0) Fd30_1 Sz3)) <| s_val (x_ld (p := Oz b2 1) (v := I x.version) rfl (ldb_sc Sc3 aa rfl)) ?_
 refine s_call cf84 [I x.version, I 0, I 1000000] rfl (in_any _ _ _ _) ?_
 rintro _ w4 ⟨rfl, x5⟩
 replace E := E.trans x5
 replace K1 := K1.ext x5
 replace aa := x5.get aa
 clear x5
 refine sM (B (inB x.version 0 1000000)) rfl <| g_val (inB x.version 0 1000000) (gy_t rfl) (fun hg => x_fa (a := Pz b2) (v := Oz b2 2) rfl (fa_blk (o := 0) Fd30_2 Sz3)) <| g_val (inB x.version 0 1000000) (gy_t rfl) (fun hg => x_ld (p := Oz b2 2) (v := I x.value) (gd_of (c := inB x.version 0 1000000) hg (Oz b2 2)) (ldb_sc Sc3 aa rfl)) ?_
 refine g_call (inB x.version 0 1000000) (gy_t rfl) cf84 (B (inB x.value 0 1000002)) (fun _ => [I x.value, I 0, I 1000002]) (fun hg => lst3 (gd_of (c := inB x.version 0 1000000) hg (I x.value)) rfl rfl) (fun hg => (in_any _ _ _ _)) ?_
 intro w6 x7
 replace E := E.trans x7
 replace K1 := K1.ext x7
 replace aa := x7.get aa
 clear x7
 refine s_val (x_pand (b := inB x.version 0 1000000) (r := inB x.value 0 1000002) rfl (fun hb => gd_of (c := inB x.version 0 1000000) (by simp_all) (B (inB x.value 0 1000002))) rfl) <| sA (B (((inB x.version 0 1000000) && (inB x.value 0 1000002)))) rfl <| s_nil ?_
 refine W.ret ?_
 exact ⟨_, resE_tmp rfl, rfl, E⟩

theorem values3 {b : Nat} {vo : Value} {out : List Int} (x : Int) (w : World) (aa : w.heap[b]? = some (.cells #[vo] 34 (0, 0))) (ho : Sl w.cell? vo out) (h0 : 0 <= x) (h1 : x < out.length) : Ret Try.prog 88 #[I x, Pz b] w fun v w' => v = B (out.getD (Int.toNat x) 0 != -1) /\ Ext w w' := by
 refine ret_of_W Try.func88 rfl rfl rfl ?_
 have E := Ext.refl w
 have K1 := KF.refl 0 w
 have ab := ho.len_le
 have ho := ho.par
 refine sQ rfl <| sA (B false) rfl <| s_nil <| sQ rfl <| s_val (x_ld (p := Pz b) (v := vo) rfl (ldb_sc Sc34 aa rfl)) <| sM (I x) rfl <| s_val (x_ix (a := vo) (b := I x) (v := vat vo 1 (Int.toNat x)) rfl rfl (Sl.ix (α := Int) T34.und T34.size (ho.to K1) (by omega) (by omega))) <| s_val (x_ld (p := vat vo 1 (Int.toNat x)) (v := I (out.getD (Int.toNat x) 0)) rfl (ld_sc Sc3 (At.to (Int_at ho (i := x) (by omega) (by omega)) K1))) <| sC (out.getD (Int.toNat x) 0) (-1) (((out.getD (Int.toNat x) 0) : Int) != (-1)) rfl rfl rfl <| sA (B (((out.getD (Int.toNat x) 0) : Int) != (-1))) rfl ?_
 refine s_nil ?_
 refine W.ret ?_
 exact ⟨_, resE_tmp rfl, rfl, E⟩

set_option maxHeartbeats 4000000 in
theorem Values_any {vw vl : Value} {ws : List Work} {l : List Note} (w : World) (hw : Sl w.cell? vw ws) (hl : Sl w.cell? vl l) : Ret Try.prog 21 #[vw, vl] w fun v w' => ∃ u, v = .tuple #[u, I (valuesE ws l)] /\ Sl (frm w' w.heap.size) u (valuesR ws l) /\ Ext w w' := by
 refine ret_of_W Try.func21 rfl rfl rfl ?_
 have E := Ext.refl w
 have K1 := KF.refl 0 w
 have bN := hw.len_le
 have hw := hw.par
 have bO := hl.len_le
 have hl := hl.par
 refine sQ rfl ?_
 refine s_box (v := vw) (cs := [vw]) rfl (Sl.cells (hw.to K1)) ?_
 intro b2 w3 Nb2
 have o_K1_b2 := Nat.le_trans K1.size Nb2.ge
 have o_b2 := Nat.le_trans E.size Nb2.ge
 replace E := E.trans Nb2.ext
 replace K1 := K1.ext Nb2.ext
 have aa := Nb2.same
 clear Nb2
 refine sA (.slice none 0 0) rfl <| sA (I 0) rfl <| s_nil <| sQ rfl <| s_val (x_ld (p := Pz b2) (v := vw) rfl (ldb_sc Sc22 aa rfl)) ?_
 refine s_call cf81 [vw] rfl (opened_any _ (hw.to K1)) ?_
 rintro _ w4 (⟨h6, rfl, x7⟩ | ⟨h8, b9, am, rfl, aJ, bb⟩)
 ·replace E := E.trans x7
  replace K1 := K1.ext x7
  replace aa := x7.get aa
  refine sM (.tuple #[.pointer none, .slice none 0 0, I (openedE ws)]) rfl <| sX [.pointer none, .slice none 0 0, I (openedE ws)] (.pointer none) rfl rfl <| sX [.pointer none, .slice none 0 0, I (openedE ws)] (.slice none 0 0) rfl rfl <| sX [.pointer none, .slice none 0 0, I (openedE ws)] (I (openedE ws)) rfl rfl <| sA (.pointer none) rfl <| sA (.slice none 0 0) rfl <| sA (I (openedE ws)) rfl <| s_nil <| W.seq <| W.block <| sQ rfl ?_
  refine sM (I (openedE ws)) rfl <| sC (openedE ws) 0 ((openedE ws : Int) != 0) rfl rfl rfl <| sA (B ((openedE ws : Int) != 0)) rfl <| s_nil ?_
  refine W.cond ((openedE ws : Int) != 0) rfl (fun bc => ?_) (fun bc => ?_)
  ·simp only [qz1, qz2, qz3, qz4, qz5, qz6, ne_eq, qz7] at bc
   refine sQ rfl <| sM (I (openedE ws)) rfl <| sA (.slice none 0 0) rfl <| sA (I (openedE ws)) rfl <| s_nil ?_
   refine W.ret ?_
   exact ⟨_, resE_tmp2 rfl, .slice none 0 0, (by rw [(v_wrong h6).1]; rfl), (by rw [(v_wrong h6).2]; exact Sl.nil _), E⟩
  simp only [qz1, qz2, qz3, qz4, qz5, qz6, ne_eq, qz7] at bc
  exact absurd bc h6
 have hO := h8
 have hR := opened_right hO
 have bP := (right_len hR).2
 have hn1 := (right_len hR).1
 have sz_w4 := E.size
 have lt_b2_w4 := heap_lt aa
 have o_K1_b9 := Nat.le_trans K1.size aJ.ge
 have o_b9 := Nat.le_trans E.size aJ.ge
 have o_b2_b9 := Nat.lt_of_lt_of_le (heap_lt aa) aJ.ge
 replace E := E.trans aJ.ext
 replace K1 := K1.ext aJ.ext
 replace aa := aJ.ext.get aa
 have ab := aJ.same
 clear aJ
 have bQ := bb.len_le
 have K14 := KF.refl w3.heap.size w4
 refine sM (.tuple #[Pz b9, am, I 0]) rfl <| sX [Pz b9, am, I 0] (Pz b9) rfl rfl <| sX [Pz b9, am, I 0] am rfl rfl <| sX [Pz b9, am, I 0] (I 0) rfl rfl <| sA (Pz b9) rfl <| sA am rfl <| sA (I 0) rfl <| s_nil <| W.seq <| W.block <| sQ rfl ?_
 refine sM (I 0) rfl <| sC 0 0 ((0 : Int) != 0) rfl rfl rfl <| sA (B ((0 : Int) != 0)) rfl <| s_nil ?_
 refine W.cond ((0 : Int) != 0) rfl (fun bf => ?_) (fun bf => ?_)
 ·simp only [qz1, qz2, qz3, qz4, qz5, qz6, ne_eq, qz7] at bf
  exact absurd bf (by decide)
 simp only [qz1, qz2, qz3, qz4, qz5, qz6, ne_eq, qz7] at bf
 refine sQ rfl <| sM vl rfl <| s_val (x_lenS T23.und rfl (hl.to K1)) <| sC l.length 200 (decide ((200 : Int) < l.length)) rfl rfl rfl <| sA (B (decide ((200 : Int) < l.length))) rfl <| s_nil ?_
 refine W.cond (decide ((200 : Int) < l.length)) rfl (fun ap => ?_) (fun ap => ?_)
 ·simp only [qz1, qz2, qz3, qz4, qz5, qz6, ne_eq, qz7] at ap
  refine sQ rfl <| sA (.slice none 0 0) rfl <| sA (I 3) rfl <| s_nil ?_
  refine W.ret ?_
  exact ⟨_, resE_tmp2 rfl, .slice none 0 0, (by rw [v_many hO ap]; rfl), (by rw [v_err (v_many hO ap) (by decide)]; exact Sl.nil _), E⟩
 simp only [qz1, qz2, qz3, qz4, qz5, qz6, ne_eq, qz7] at ap
 refine sQ rfl <| s_val (x_mf (fs := []) (cs := [Pz b2]) rfl rfl) <| sM vl rfl ?_
 refine s_call cf82 [.func (.func 83) #[] #[Pz b2], vl] rfl (every_Note _ (hl.to K1) ⟨83, [Pz b2], rfl, cf83, fun w' v x hE hD hA => by obtain rfl := Note_arg hA; exact (values1 _ _ (hE.get aa) ((hw.to K1).mono hE.le))⟩) ?_
 rintro _ bR ⟨rfl, aP⟩
 replace E := E.trans aP
 replace K1 := K1.ext aP
 replace K14 := K14.ext aP
 replace aa := aP.get aa
 replace ab := aP.get ab
 clear aP
 refine s_val (x_not (b := l.all (fun x : Note => inB x.work 0 ((ws.length : Int) - 1) && (((ws.getD x.work.toNat default).of.length : Int) == 0))) rfl) <| sA (B (!(l.all (fun x : Note => inB x.work 0 ((ws.length : Int) - 1) && (((ws.getD x.work.toNat default).of.length : Int) == 0))))) rfl <| s_nil ?_
 refine W.cond (!(l.all (fun x : Note => inB x.work 0 ((ws.length : Int) - 1) && (((ws.getD x.work.toNat default).of.length : Int) == 0)))) rfl (fun aB => ?_) (fun aB => ?_)
 ·skip
  refine sQ rfl <| sA (.slice none 0 0) rfl <| sA (I 2) rfl <| s_nil ?_
  refine W.ret ?_
  exact ⟨_, resE_tmp2 rfl, .slice none 0 0, (by rw [v_arg hO ap aB]; rfl), (by rw [v_err (v_arg hO ap aB) (by decide)]; exact Sl.nil _), E⟩
 skip
 refine sQ rfl <| sM vl rfl ?_
 refine s_call cf82 [.func (.func 85) #[] #[], vl] rfl (every_Note _ (hl.to K1) ⟨85, [], rfl, cf85, fun w' v x hE hD hA => by obtain rfl := Note_arg hA; exact (values2 _ _)⟩) ?_
 rintro _ bS ⟨rfl, aQ⟩
 replace E := E.trans aQ
 replace K1 := K1.ext aQ
 replace K14 := K14.ext aQ
 replace aa := aQ.get aa
 replace ab := aQ.get ab
 clear aQ
 refine s_val (x_not (b := l.all (fun x : Note => inB x.version 0 1000000 && inB x.value 0 1000002)) rfl) <| sA (B (!(l.all (fun x : Note => inB x.version 0 1000000 && inB x.value 0 1000002)))) rfl <| s_nil ?_
 refine W.cond (!(l.all (fun x : Note => inB x.version 0 1000000 && inB x.value 0 1000002))) rfl (fun aC => ?_) (fun aC => ?_)
 ·skip
  refine sQ rfl <| sA (.slice none 0 0) rfl <| sA (I 4) rfl <| s_nil ?_
  refine W.ret ?_
  exact ⟨_, resE_tmp2 rfl, .slice none 0 0, (by rw [v_rng hO ap aB aC]; rfl), (by rw [v_err (v_rng hO ap aB aC) (by decide)]; exact Sl.nil _), E⟩
 skip
 refine W.skip <| sQ rfl ?_
 refine s_mkmap ?_
 intro ao bT Nb23
 have o_K1_b23 := Nat.le_trans K1.size Nb23.ge
 have o_K14_b23 := Nat.le_trans K14.size Nb23.ge
 have o_b23 := Nat.le_trans E.size Nb23.ge
 have o_b2_b23 := Nat.lt_of_lt_of_le (heap_lt aa) Nb23.ge
 have o_b9_b23 := Nat.lt_of_lt_of_le (heap_lt ab) Nb23.ge
 replace E := E.trans Nb23.ext
 replace K1 := K1.ext Nb23.ext
 replace K14 := K14.ext Nb23.ext
 replace aa := Nb23.ext.get aa
 replace ab := Nb23.ext.get ab
 have ac := Nb23.same
 clear Nb23
 have m_b23 := MapR.nil (κ := Int) (ν := Note) I encN 0
 refine sA (.map (some ao)) rfl <| s_nil <| W.seq <| sQ rfl <| sM vl rfl <| s_val (x_lenS T23.und rfl (hl.to K1)) <| sM (I 0) rfl <| s_nil <| W.block ?_
 refine W.loop (fun m σ W => ∃ (i : Nat)  (es_b23 : Array MapEntry) (ck_b23 : Nat) (ρ : Env), σ = upds ρ [(1, vl), (2, Pz b2), (7, am), (9, .map (some ao)), (48, vl), (49, I l.length), (50, I i)] /\ m = l.length - i /\ Ext w W /\ KF 0 w W /\ KF w3.heap.size w4 W /\ W.heap[b2]? = some (.cells #[vw] 22 (0, 0)) /\ W.heap[b9]? = some (.cells #[vw] 187 (0, 0)) /\ W.heap[ao]? = some (.map es_b23 ck_b23) /\ MapR I encN es_b23 ck_b23 (newF (l.take i)) /\ i <= l.length /\ (List.range i).any (twAt l) = false) ?_ ?_
 ·exact ⟨_, 0, #[], 0, _, upds_of _ _ ⟨rfl, rfl, rfl, rfl, rfl, rfl, (eqI (by omega)), trivial⟩, rfl, E, K1, K14, aa, ab, ac, m_b23, (Nat.zero_le _), rfl⟩
 rintro m σ bt ⟨i, es_b23, ck_b23, ρ, rfl, rfl, E, K1, K14, aa, ab, ac, m_b23, bu, bg⟩
 refine sQ rfl <| sC i l.length (decide ((i : Int) < l.length)) rfl rfl rfl <| s_nil <| W.seq ?_
 refine W.cond (decide ((i : Int) < l.length)) rfl (fun aD => ?_) (fun aD => ?_)
 ·simp only [qz1, qz2, qz3, qz4, qz5, qz6, ne_eq, qz7] at aD
  refine W.skip <| W.seq <| W.block <| sQ rfl <| sM (I i) rfl <| s_val (x_ix (a := vl) (b := I i) (v := vat vl 3 (Int.toNat i)) rfl rfl (Sl.ix (α := Note) T23.und T23.size (hl.to K1) (by omega) (by omega))) <| s_val (x_ld (p := vat vl 3 (Int.toNat i)) (v := .agg #[I ((l.getD i default).work), I ((l.getD i default).version), I ((l.getD i default).value)]) rfl (ld_ag Ag30 Sz30 (At.to (Note_atA hl (i := i) (by omega) (by omega)) K1))) ?_
  refine s_alloc (cs := [I 0, I 0, I 0]) Al30 rfl ?_
  intro ak bU Nb27
  have o_K1_b27 := Nat.le_trans K1.size Nb27.ge
  have o_K14_b27 := Nat.le_trans K14.size Nb27.ge
  have o_b27 := Nat.le_trans E.size Nb27.ge
  have o_b2_b27 := Nat.lt_of_lt_of_le (heap_lt aa) Nb27.ge
  have o_b9_b27 := Nat.lt_of_lt_of_le (heap_lt ab) Nb27.ge
  have o_b23_b27 := Nat.lt_of_lt_of_le (heap_lt ac) Nb27.ge
  replace E := E.trans Nb27.ext
  replace K1 := K1.ext Nb27.ext
  replace K14 := K14.ext Nb27.ext
  replace aa := Nb27.ext.get aa
  replace ab := Nb27.ext.get ab
  replace ac := Nb27.ext.get ac
  have ai := Nb27.same
  clear Nb27
  refine sA (I i) rfl ?_
  refine s_st (b := ak) (off := 0) (vs := [I ((l.getD i default).work), I ((l.getD i default).version), I ((l.getD i default).value)]) (cs' := [I ((l.getD i default).work), I ((l.getD i default).version), I ((l.getD i default).value)]) (v := .agg #[I ((l.getD i default).work), I ((l.getD i default).version), I ((l.getD i default).value)]) rfl rfl Sz30 ai rfl rfl rfl rfl rfl ?_
  intro bV aK
  replace E := E.put (by omega) aK
  replace K1 := K1.put aK (by omega)
  replace K14 := K14.put aK (by omega)
  replace aa := aK.get (by omega) aa
  replace ab := aK.get (by omega) ab
  replace ac := aK.get (by omega) ac
  replace ai := aK.same
  clear aK
  refine s_nil <| W.seq <| sQ rfl <| sM vl rfl <| sM (I i) rfl ?_
  obtain ⟨aR, bA, a5⟩ := sl_hi T23.und T23.size hl (j := i) (by omega) (by omega)
  replace a5 : Sl _ aR (l.take i) := a5
  refine s_val (x_sl (v := vl) (u := aR) (lo' := none) (hi' := some (I i)) (mx' := none) rfl rfl rfl rfl (bA _)) <| s_val (x_lenS T23.und rfl (a5.to K1)) <| sM (I 0) rfl <| s_nil <| W.block ?_
  refine W.loop (fun m σ W => ∃ (j : Nat) (ρ : Env), σ = upds ρ [(1, vl), (2, Pz b2), (7, am), (9, .map (some ao)), (11, Pz ak), (48, vl), (49, I l.length), (50, I i), (57, aR), (58, I ((l.take i).length)), (59, I j)] /\ m = (l.take i).length - j /\ Ext w W /\ KF 0 w W /\ KF w3.heap.size w4 W /\ W.heap[b2]? = some (.cells #[vw] 22 (0, 0)) /\ W.heap[b9]? = some (.cells #[vw] 187 (0, 0)) /\ W.heap[ao]? = some (.map es_b23 ck_b23) /\ W.heap[ak]? = some (.cells #[I ((l.getD i default).work), I ((l.getD i default).version), I ((l.getD i default).value)] 30 (0, 0)) /\ j <= (l.take i).length /\ ((l.take i).take j).any (fun m => twP m (l.getD i default)) = false) ?_ ?_
  ·exact ⟨_, 0, _, upds_of _ _ ⟨rfl, rfl, rfl, rfl, rfl, rfl, rfl, rfl, rfl, rfl, (eqI (by omega)), trivial⟩, rfl, E, K1, K14, aa, ab, ac, ai, (Nat.zero_le _), rfl⟩
  rintro m σ bW ⟨j, ρ, rfl, rfl, E, K1, K14, aa, ab, ac, ai, bX, bo⟩
  have htl : (l.take i).length <= l.length := by rw [List.length_take]; omega
  refine sQ rfl <| sC j ((l.take i).length) (decide ((j : Int) < ((l.take i).length))) rfl rfl rfl <| s_nil <| W.seq ?_
  refine W.cond (decide ((j : Int) < ((l.take i).length))) rfl (fun aL => ?_) (fun aL => ?_)
  ·simp only [qz1, qz2, qz3, qz4, qz5, qz6, ne_eq, qz7] at aL
   refine W.skip <| W.seq <| W.block <| sQ rfl <| s_val (x_ix (a := aR) (b := I j) (v := vat aR 3 (Int.toNat j)) rfl rfl (Sl.ix (α := Note) T23.und T23.size (a5.to K1) (by omega) (by omega))) <| s_val (x_ld (p := vat aR 3 (Int.toNat j)) (v := .agg #[I (((l.take i).getD j default).work), I (((l.take i).getD j default).version), I (((l.take i).getD j default).value)]) rfl (ld_ag Ag30 Sz30 (At.to (Note_atA a5 (i := j) (by omega) (by omega)) K1))) ?_
   refine s_alloc (cs := [I 0, I 0, I 0]) Al30 rfl ?_
   intro aE bY Nb35
   have o_K1_b35 := Nat.le_trans K1.size Nb35.ge
   have o_K14_b35 := Nat.le_trans K14.size Nb35.ge
   have o_b35 := Nat.le_trans E.size Nb35.ge
   have o_b2_b35 := Nat.lt_of_lt_of_le (heap_lt aa) Nb35.ge
   have o_b9_b35 := Nat.lt_of_lt_of_le (heap_lt ab) Nb35.ge
   have o_b23_b35 := Nat.lt_of_lt_of_le (heap_lt ac) Nb35.ge
   have o_b27_b35 := Nat.lt_of_lt_of_le (heap_lt ai) Nb35.ge
   replace E := E.trans Nb35.ext
   replace K1 := K1.ext Nb35.ext
   replace K14 := K14.ext Nb35.ext
   replace aa := Nb35.ext.get aa
   replace ab := Nb35.ext.get ab
   replace ac := Nb35.ext.get ac
   replace ai := Nb35.ext.get ai
   have a6 := Nb35.same
   clear Nb35
   refine s_st (b := aE) (off := 0) (vs := [I (((l.take i).getD j default).work), I (((l.take i).getD j default).version), I (((l.take i).getD j default).value)]) (cs' := [I (((l.take i).getD j default).work), I (((l.take i).getD j default).version), I (((l.take i).getD j default).value)]) (v := .agg #[I (((l.take i).getD j default).work), I (((l.take i).getD j default).version), I (((l.take i).getD j default).value)]) rfl rfl Sz30 a6 rfl rfl rfl rfl rfl ?_
   intro bZ aF
   replace E := E.put (by omega) aF
   replace K1 := K1.put aF (by omega)
   replace K14 := K14.put aF (by omega)
   replace aa := aF.get (by omega) aa
   replace ab := aF.get (by omega) ab
   replace ac := aF.get (by omega) ac
   replace ai := aF.get (by omega) ai
   replace a6 := aF.same
   clear aF
   refine s_nil <| sQ rfl <| s_val (x_fa (a := Pz aE) (v := Pz aE) rfl (fa_blk (o := 0) Fd30_0 Sz3)) <| s_val (x_ld (p := Pz aE) (v := I (((l.take i).getD j default).work)) rfl (ldb_sc Sc3 a6 rfl)) <| s_val (x_fa (a := Pz ak) (v := Pz ak) rfl (fa_blk (o := 0) Fd30_0 Sz3)) <| s_val (x_ld (p := Pz ak) (v := I ((l.getD i default).work)) rfl (ldb_sc Sc3 ai rfl)) <| sC (((l.take i).getD j default).work) ((l.getD i default).work) (((((l.take i).getD j default).work) : Int) == ((l.getD i default).work)) rfl rfl rfl <| sM (B (((((l.take i).getD j default).work) : Int) == ((l.getD i default).work))) rfl <| g_val (((((l.take i).getD j default).work) : Int) == ((l.getD i default).work)) (gy_t rfl) (fun hg => x_fa (a := Pz aE) (v := Oz aE 1) rfl (fa_blk (o := 0) Fd30_1 Sz3)) <| g_val (((((l.take i).getD j default).work) : Int) == ((l.getD i default).work)) (gy_t rfl) (fun hg => x_ld (p := Oz aE 1) (v := I (((l.take i).getD j default).version)) (gd_of (c := ((((l.take i).getD j default).work) : Int) == ((l.getD i default).work)) hg (Oz aE 1)) (ldb_sc Sc3 a6 rfl)) <| g_val (((((l.take i).getD j default).work) : Int) == ((l.getD i default).work)) (gy_t rfl) (fun hg => x_fa (a := Pz ak) (v := Oz ak 1) rfl (fa_blk (o := 0) Fd30_1 Sz3)) ?_
   refine g_val (((((l.take i).getD j default).work) : Int) == ((l.getD i default).work)) (gy_t rfl) (fun hg => x_ld (p := Oz ak 1) (v := I ((l.getD i default).version)) (gd_of (c := ((((l.take i).getD j default).work) : Int) == ((l.getD i default).work)) hg (Oz ak 1)) (ldb_sc Sc3 ai rfl)) <| g_val (((((l.take i).getD j default).work) : Int) == ((l.getD i default).work)) (gy_t rfl) (fun hg => x_cmp (kd := .i64) (a := ((l.take i).getD j default).version) (b := (l.getD i default).version) (r := ((((l.take i).getD j default).version) : Int) == ((l.getD i default).version)) (gd_of (c := ((((l.take i).getD j default).work) : Int) == ((l.getD i default).work)) hg (I (((l.take i).getD j default).version))) (gd_of (c := ((((l.take i).getD j default).work) : Int) == ((l.getD i default).work)) hg (I ((l.getD i default).version))) rfl) <| s_val (x_pand (b := ((((l.take i).getD j default).work) : Int) == ((l.getD i default).work)) (r := ((((l.take i).getD j default).version) : Int) == ((l.getD i default).version)) rfl (fun hb => gd_of (c := ((((l.take i).getD j default).work) : Int) == ((l.getD i default).work)) (by simp_all) (B (((((l.take i).getD j default).version) : Int) == ((l.getD i default).version)))) rfl) <| sM (B (((((((l.take i).getD j default).work) : Int) == ((l.getD i default).work)) && (((((l.take i).getD j default).version) : Int) == ((l.getD i default).version))))) rfl <| g_val (((((((l.take i).getD j default).work) : Int) == ((l.getD i default).work)) && (((((l.take i).getD j default).version) : Int) == ((l.getD i default).version)))) (gy_t rfl) (fun hg => x_ld (p := Pz aE) (v := .agg #[I (((l.take i).getD j default).work), I (((l.take i).getD j default).version), I (((l.take i).getD j default).value)]) rfl (ldb_ag (ds := [I (((l.take i).getD j default).work), I (((l.take i).getD j default).version), I (((l.take i).getD j default).value)]) Ag30 Sz30 a6 rfl rfl)) <| g_val (((((((l.take i).getD j default).work) : Int) == ((l.getD i default).work)) && (((((l.take i).getD j default).version) : Int) == ((l.getD i default).version)))) (gy_t rfl) (fun hg => x_ld (p := Pz ak) (v := .agg #[I ((l.getD i default).work), I ((l.getD i default).version), I ((l.getD i default).value)]) rfl (ldb_ag (ds := [I ((l.getD i default).work), I ((l.getD i default).version), I ((l.getD i default).value)]) Ag30 Sz30 ai rfl rfl)) <| g_val (((((((l.take i).getD j default).work) : Int) == ((l.getD i default).work)) && (((((l.take i).getD j default).version) : Int) == ((l.getD i default).version)))) (gy_t rfl) (fun hg => x_neS (eqN (((l.take i).getD j default)) ((l.getD i default)) _) gdN (gd_of (c := ((((((l.take i).getD j default).work) : Int) == ((l.getD i default).work)) && (((((l.take i).getD j default).version) : Int) == ((l.getD i default).version)))) hg (.agg #[I (((l.take i).getD j default).work), I (((l.take i).getD j default).version), I (((l.take i).getD j default).value)])) (gd_of (c := ((((((l.take i).getD j default).work) : Int) == ((l.getD i default).work)) && (((((l.take i).getD j default).version) : Int) == ((l.getD i default).version)))) hg (.agg #[I ((l.getD i default).work), I ((l.getD i default).version), I ((l.getD i default).value)]))) <| s_val (x_pand (b := ((((((l.take i).getD j default).work) : Int) == ((l.getD i default).work)) && (((((l.take i).getD j default).version) : Int) == ((l.getD i default).version)))) (r := !(decide (((l.take i).getD j default) = (l.getD i default)))) rfl (fun hb => gd_of (c := ((((((l.take i).getD j default).work) : Int) == ((l.getD i default).work)) && (((((l.take i).getD j default).version) : Int) == ((l.getD i default).version)))) (by simp_all) (B (!(decide (((l.take i).getD j default) = (l.getD i default)))))) rfl) <| s_nil ?_
   refine W.cond (((((((((l.take i).getD j default).work) : Int) == ((l.getD i default).work)) && (((((l.take i).getD j default).version) : Int) == ((l.getD i default).version)))) && (!(decide (((l.take i).getD j default) = (l.getD i default)))))) rfl (fun bh => ?_) (fun bh => ?_)
   ·skip
    refine sQ rfl <| sA (.slice none 0 0) rfl <| sA (I 10) rfl <| s_nil ?_
    refine W.ret ?_
    exact ⟨_, resE_tmp2 rfl, .slice none 0 0, (by rw [v_twice hO ap aB aC (tw_yes aD aL bh)]; rfl), (by rw [v_err (v_twice hO ap aB aC (tw_yes aD aL bh)) (by decide)]; exact Sl.nil _), E⟩
   skip
   refine W.skip <| W.region rfl <| sR j 1 (j + 1) rfl rfl rfl (by omega) <| sM (I (j + 1)) rfl <| s_nil ?_
   exact ⟨_, (by omega), j+1, _, upds_of _ _ ⟨rfl, rfl, rfl, rfl, rfl, rfl, rfl, rfl, rfl, rfl, (eqI (by omega)), trivial⟩, rfl, E, K1, K14, aa, ab, ac, ai, (by omega), (tw_step bo aL bh)⟩
  simp only [qz1, qz2, qz3, qz4, qz5, qz6, ne_eq, qz7] at aL
  refine W.exit ?_
  refine sQ rfl <| sM (.map (some ao)) rfl <| s_val (x_fa (a := Pz ak) (v := Pz ak) rfl (fa_blk (o := 0) Fd30_0 Sz3)) <| s_val (x_ld (p := Pz ak) (v := I ((l.getD i default).work)) rfl (ldb_sc Sc3 ai rfl)) <| s_val (x_look (kenc := I) (venc := encN) (f := newF (l.take i)) (k := ((l.getD i default).work)) (v := .tuple #[.agg #[I ((((newF (l.take i)) ((l.getD i default).work)).getD default).work), I ((((newF (l.take i)) ((l.getD i default).work)).getD default).version), I ((((newF (l.take i)) ((l.getD i default).work)).getD default).value)], B (((newF (l.take i)) ((l.getD i default).work)).isSome)]) keyInt Try.underlying133 Al30 rfl rfl ac m_b23 true (by rw [if_pos rfl, note_val])) <| sM (.tuple #[.agg #[I ((((newF (l.take i)) ((l.getD i default).work)).getD default).work), I ((((newF (l.take i)) ((l.getD i default).work)).getD default).version), I ((((newF (l.take i)) ((l.getD i default).work)).getD default).value)], B (((newF (l.take i)) ((l.getD i default).work)).isSome)]) rfl <| sX [.agg #[I ((((newF (l.take i)) ((l.getD i default).work)).getD default).work), I ((((newF (l.take i)) ((l.getD i default).work)).getD default).version), I ((((newF (l.take i)) ((l.getD i default).work)).getD default).value)], B (((newF (l.take i)) ((l.getD i default).work)).isSome)] (.agg #[I ((((newF (l.take i)) ((l.getD i default).work)).getD default).work), I ((((newF (l.take i)) ((l.getD i default).work)).getD default).version), I ((((newF (l.take i)) ((l.getD i default).work)).getD default).value)]) rfl rfl <| sX [.agg #[I ((((newF (l.take i)) ((l.getD i default).work)).getD default).work), I ((((newF (l.take i)) ((l.getD i default).work)).getD default).version), I ((((newF (l.take i)) ((l.getD i default).work)).getD default).value)], B (((newF (l.take i)) ((l.getD i default).work)).isSome)] (B (((newF (l.take i)) ((l.getD i default).work)).isSome)) rfl rfl ?_
  refine s_alloc (cs := [I 0, I 0, I 0]) Al30 rfl ?_
  intro a7 b6 Nb40
  have o_K1_b40 := Nat.le_trans K1.size Nb40.ge
  have o_K14_b40 := Nat.le_trans K14.size Nb40.ge
  have o_b40 := Nat.le_trans E.size Nb40.ge
  have o_b2_b40 := Nat.lt_of_lt_of_le (heap_lt aa) Nb40.ge
  have o_b9_b40 := Nat.lt_of_lt_of_le (heap_lt ab) Nb40.ge
  have o_b23_b40 := Nat.lt_of_lt_of_le (heap_lt ac) Nb40.ge
  have o_b27_b40 := Nat.lt_of_lt_of_le (heap_lt ai) Nb40.ge
  replace E := E.trans Nb40.ext
  replace K1 := K1.ext Nb40.ext
  replace K14 := K14.ext Nb40.ext
  replace aa := Nb40.ext.get aa
  replace ab := Nb40.ext.get ab
  replace ac := Nb40.ext.get ac
  replace ai := Nb40.ext.get ai
  have a8 := Nb40.same
  clear Nb40
  refine s_st (b := a7) (off := 0) (vs := [I ((((newF (l.take i)) ((l.getD i default).work)).getD default).work), I ((((newF (l.take i)) ((l.getD i default).work)).getD default).version), I ((((newF (l.take i)) ((l.getD i default).work)).getD default).value)]) (cs' := [I ((((newF (l.take i)) ((l.getD i default).work)).getD default).work), I ((((newF (l.take i)) ((l.getD i default).work)).getD default).version), I ((((newF (l.take i)) ((l.getD i default).work)).getD default).value)]) (v := .agg #[I ((((newF (l.take i)) ((l.getD i default).work)).getD default).work), I ((((newF (l.take i)) ((l.getD i default).work)).getD default).version), I ((((newF (l.take i)) ((l.getD i default).work)).getD default).value)]) rfl rfl Sz30 a8 rfl rfl rfl rfl rfl ?_
  intro b8 aG
  replace E := E.put (by omega) aG
  replace K1 := K1.put aG (by omega)
  replace K14 := K14.put aG (by omega)
  replace aa := aG.get (by omega) aa
  replace ab := aG.get (by omega) ab
  replace ac := aG.get (by omega) ac
  replace ai := aG.get (by omega) ai
  replace a8 := aG.same
  clear aG
  refine sA (B (((newF (l.take i)) ((l.getD i default).work)).isSome)) rfl <| s_nil <| sQ rfl <| sM (B (((newF (l.take i)) ((l.getD i default).work)).isSome)) rfl <| s_val (x_not (b := ((newF (l.take i)) ((l.getD i default).work)).isSome) rfl) <| sM (B (!(((newF (l.take i)) ((l.getD i default).work)).isSome))) rfl <| g_val (!(!(((newF (l.take i)) ((l.getD i default).work)).isSome))) (gy_f rfl) (fun hg => x_fa (a := Pz ak) (v := Oz ak 1) rfl (fa_blk (o := 0) Fd30_1 Sz3)) <| g_val (!(!(((newF (l.take i)) ((l.getD i default).work)).isSome))) (gy_f rfl) (fun hg => x_ld (p := Oz ak 1) (v := I ((l.getD i default).version)) (gd_of (c := !(!(((newF (l.take i)) ((l.getD i default).work)).isSome))) hg (Oz ak 1)) (ldb_sc Sc3 ai rfl)) <| g_val (!(!(((newF (l.take i)) ((l.getD i default).work)).isSome))) (gy_f rfl) (fun hg => x_fa (a := Pz a7) (v := Oz a7 1) rfl (fa_blk (o := 0) Fd30_1 Sz3)) <| g_val (!(!(((newF (l.take i)) ((l.getD i default).work)).isSome))) (gy_f rfl) (fun hg => x_ld (p := Oz a7 1) (v := I ((((newF (l.take i)) ((l.getD i default).work)).getD default).version)) (gd_of (c := !(!(((newF (l.take i)) ((l.getD i default).work)).isSome))) hg (Oz a7 1)) (ldb_sc Sc3 a8 rfl)) <| g_val (!(!(((newF (l.take i)) ((l.getD i default).work)).isSome))) (gy_f rfl) (fun hg => x_cmp (kd := .i64) (a := (l.getD i default).version) (b := (((newF (l.take i)) ((l.getD i default).work)).getD default).version) (r := decide ((((((newF (l.take i)) ((l.getD i default).work)).getD default).version) : Int) < ((l.getD i default).version))) (gd_of (c := !(!(((newF (l.take i)) ((l.getD i default).work)).isSome))) hg (I ((l.getD i default).version))) (gd_of (c := !(!(((newF (l.take i)) ((l.getD i default).work)).isSome))) hg (I ((((newF (l.take i)) ((l.getD i default).work)).getD default).version))) rfl) ?_
  refine s_val (x_por (b := !(((newF (l.take i)) ((l.getD i default).work)).isSome)) (r := decide ((((((newF (l.take i)) ((l.getD i default).work)).getD default).version) : Int) < ((l.getD i default).version))) rfl rfl (fun hb => gd_of (c := !(!(((newF (l.take i)) ((l.getD i default).work)).isSome))) (by simp_all) (B (decide ((((((newF (l.take i)) ((l.getD i default).work)).getD default).version) : Int) < ((l.getD i default).version)))))) <| s_nil ?_
  refine W.cond (((!(((newF (l.take i)) ((l.getD i default).work)).isSome)) || (decide ((((((newF (l.take i)) ((l.getD i default).work)).getD default).version) : Int) < ((l.getD i default).version))))) rfl (fun bp => ?_) (fun bp => ?_)
  ·skip
   refine W.region rfl <| sM (.map (some ao)) rfl <| s_val (x_fa (a := Pz ak) (v := Pz ak) rfl (fa_blk (o := 0) Fd30_0 Sz3)) <| s_val (x_ld (p := Pz ak) (v := I ((l.getD i default).work)) rfl (ldb_sc Sc3 ai rfl)) <| s_val (x_ld (p := Pz ak) (v := .agg #[I ((l.getD i default).work), I ((l.getD i default).version), I ((l.getD i default).value)]) rfl (ldb_ag (ds := [I ((l.getD i default).work), I ((l.getD i default).version), I ((l.getD i default).value)]) Ag30 Sz30 ai rfl rfl)) ?_
   refine s_mapu (kenc := I) (venc := encN) (f := newF (l.take i)) (k := ((l.getD i default).work)) (v := (l.getD i default)) keyInt Try.underlying133 rfl rfl rfl ac m_b23 ?_
   intro bB bC ca aH bD
   replace E := E.put (by omega) aH
   replace K1 := K1.put aH (by omega)
   replace K14 := K14.put aH (by omega)
   replace aa := aH.get (by omega) aa
   replace ab := aH.get (by omega) ab
   replace ai := aH.get (by omega) ai
   replace a8 := aH.get (by omega) a8
   replace ac := aH.same
   clear aH
   refine s_nil <| W.region rfl <| sR i 1 (i + 1) rfl rfl rfl (by omega) <| sM (I (i + 1)) rfl <| s_nil ?_
   exact ⟨_, (by omega), i+1, bB, bC, _, upds_of _ _ ⟨rfl, rfl, rfl, rfl, rfl, rfl, (eqI (by omega)), trivial⟩, rfl, E, K1, K14, aa, ab, ac, (by rw [newF_next l aD, newStep_yes bp]; exact bD), (by omega), (tw_end bg bo aL)⟩
  skip
  refine W.skip <| W.region rfl <| sR i 1 (i + 1) rfl rfl rfl (by omega) <| sM (I (i + 1)) rfl <| s_nil ?_
  exact ⟨_, (by omega), i+1, es_b23, ck_b23, _, upds_of _ _ ⟨rfl, rfl, rfl, rfl, rfl, rfl, (eqI (by omega)), trivial⟩, rfl, E, K1, K14, aa, ab, ac, (by rw [newF_next l aD, newStep_no bp]; exact m_b23), (by omega), (tw_end bg bo aL)⟩
 simp only [qz1, qz2, qz3, qz4, qz5, qz6, ne_eq, qz7] at aD
 refine W.exit ?_
 refine sQ rfl ?_
 refine s_bsl (α := Int) T34 bt.heap.size [I (-1)] [(-1 : Int)] rfl (.cons rfl (Flat.rep_enc _ _) <| .nil) (Nat.le_refl _) rfl (by decide) (by decide) ?_
 intro bE aM bF aO nn_u50
 replace E := E.trans aO
 replace K1 := K1.ext aO
 replace K14 := K14.ext aO
 replace aa := aO.get aa
 replace ab := aO.get ab
 replace ac := aO.get ac
 clear aO
 have K54 := KF.refl bt.heap.size aM
 refine s_val (x_ld (p := Pz b2) (v := vw) rfl (ldb_sc Sc22 aa rfl)) <| s_val (x_lenS T22.und rfl (hw.to K1)) ?_
 refine s_call cf86 [bE, I ws.length] rfl (repeat_int _ (bF.to K54) (by omega) (by omega)) ?_
 rintro bi cb ⟨aq, aI⟩
 have n_v57_b2 := aq.ne' (heap_lt aa)
 have n_v57_b9 := aq.ne' (heap_lt ab)
 have n_v57_b23 := aq.ne' (heap_lt ac)
 have ah := Nat.le_refl aM.heap.size
 have B_v57 := E.size
 have B_v57_K1 := K1.size
 have B_v57_K14 := K14.size
 have B_v57_K54 := K54.size
 replace E := E.trans aI
 replace ah := Nat.le_trans ah aI.size
 replace K1 := K1.ext aI
 replace K14 := K14.ext aI
 replace K54 := K54.ext aI
 replace aa := aI.get aa
 replace ab := aI.get ab
 replace ac := aI.get ac
 clear aI
 refine s_alloc (cs := [.slice none 0 0]) Al34 rfl ?_
 intro aj cc Nb60
 have o_K1_b60 := Nat.le_trans K1.size Nb60.ge
 have o_K14_b60 := Nat.le_trans K14.size Nb60.ge
 have o_K54_b60 := Nat.le_trans K54.size Nb60.ge
 have o_b60 := Nat.le_trans E.size Nb60.ge
 have o_b2_b60 := Nat.lt_of_lt_of_le (heap_lt aa) Nb60.ge
 have o_b9_b60 := Nat.lt_of_lt_of_le (heap_lt ab) Nb60.ge
 have o_b23_b60 := Nat.lt_of_lt_of_le (heap_lt ac) Nb60.ge
 have n_v57_b60 := aq.ne Nb60.ge
 replace E := E.trans Nb60.ext
 replace ah := Nat.le_trans ah Nb60.ext.size
 replace K1 := K1.ext Nb60.ext
 replace K14 := K14.ext Nb60.ext
 replace K54 := K54.ext Nb60.ext
 replace aa := Nb60.ext.get aa
 replace ab := Nb60.ext.get ab
 replace ac := Nb60.ext.get ac
 replace aq := aq.ext Nb60.ext
 have ae := Nb60.same
 clear Nb60
 refine s_st (b := aj) (off := 0) (vs := [bi]) (cs' := [bi]) (v := bi) rfl rfl Sz34 ae (Sl.cells (aq.sl.mono (frm_le _ _))) rfl rfl (by simp only [List.all_cons, List.all_nil, Bool.true_and, Bool.and_true, Sl.oc (aq.sl.mono (frm_le _ _))]; try rfl) rfl ?_
 intro cd au
 replace E := E.put (by omega) au
 replace ah := Nat.le_trans ah (Nat.le_of_eq au.size.symm)
 replace K1 := K1.put au (by omega)
 replace K14 := K14.put au (by omega)
 replace K54 := K54.put au (by omega)
 replace aa := au.get (by omega) aa
 replace ab := au.get (by omega) ab
 replace ac := au.get (by omega) ac
 replace aq := aq.put au n_v57_b60
 replace ae := au.same
 clear au
 refine s_nil <| W.seq <| sQ rfl <| sM am rfl <| s_val (x_lenS T34.und rfl (bb.to K14)) <| sM (I 0) rfl <| s_nil <| W.block ?_
 refine W.loop (fun m σ W => ∃ (k : Nat) (vo : Value) (ρ : Env), σ = upds ρ [(2, Pz b2), (9, .map (some ao)), (16, Pz aj), (106, am), (107, I ((orderP ws).length)), (108, I k)] /\ m = (orderP ws).length - k /\ Ext w W /\ KF 0 w W /\ KF w3.heap.size w4 W /\ W.heap[b2]? = some (.cells #[vw] 22 (0, 0)) /\ W.heap[b9]? = some (.cells #[vw] 187 (0, 0)) /\ W.heap[ao]? = some (.map es_b23 ck_b23) /\ W.heap[aj]? = some (.cells #[vo] 34 (0, 0)) /\ aM.heap.size <= W.heap.size /\ OwnF aM.heap.size 3 W vo (valF ws (newF (l.take i)) ((orderP ws).take k) (List.replicate ws.length (-1))) /\ vo.ownBlock ≠ some b2 /\ vo.ownBlock ≠ some b9 /\ vo.ownBlock ≠ some ao /\ vo.ownBlock ≠ some aj /\ k <= (orderP ws).length) ?_ ?_
 ·exact ⟨_, 0, bi, _, upds_of _ _ ⟨rfl, rfl, rfl, rfl, rfl, (eqI (by omega)), trivial⟩, rfl, E, K1, K14, aa, ab, ac, ae, ah, aq, n_v57_b2, n_v57_b9, n_v57_b23, n_v57_b60, (Nat.zero_le _)⟩
 rintro m σ ce ⟨k, vo, ρ, rfl, rfl, E, K1, K14, aa, ab, ac, ae, ah, ag, n_vo_b2, n_vo_b9, n_vo_b23, n_vo_b60, cf⟩
 have hvb := valF_VB (ws := ws) (f := newF (l.take i)) (newF_val aC i) ((orderP ws).take k) (R := List.replicate ws.length (-1)) (fun y hy => by have := List.eq_of_mem_replicate hy; omega)
 have hvl : (valF ws (newF (l.take i)) ((orderP ws).take k) (List.replicate ws.length (-1))).length = ws.length := by rw [valF_len]; simp
 refine sQ rfl <| sC k ((orderP ws).length) (decide ((k : Int) < ((orderP ws).length))) rfl rfl rfl <| s_nil <| W.seq ?_
 refine W.cond (decide ((k : Int) < ((orderP ws).length))) rfl (fun aN => ?_) (fun aN => ?_)
 ·simp only [qz1, qz2, qz3, qz4, qz5, qz6, ne_eq, qz7] at aN
  have hik := order_at ws aN
  have hof := right_of hR (i := Int.toNat ((orderP ws).getD k 0)) (by omega)
  have bj := right_nums hR (i := Int.toNat ((orderP ws).getD k 0)) (by omega)
  have ho5 := right_ofs hR (i := Int.toNat ((orderP ws).getD k 0)) (by omega)
  refine W.skip <| W.seq <| W.block <| sQ rfl <| s_val (x_ix (a := am) (b := I k) (v := vat am 1 (Int.toNat k)) rfl rfl (Sl.ix (α := Int) T34.und T34.size (bb.to K14) (by omega) (by omega))) <| s_val (x_ld (p := vat am 1 (Int.toNat k)) (v := I ((orderP ws).getD k 0)) rfl (ld_sc Sc3 (At.to (Int_at bb (i := k) (by omega) (by omega)) K14))) <| sA (I ((orderP ws).getD k 0)) rfl <| s_nil <| W.seq <| sQ rfl ?_
  refine sM (.map (some ao)) rfl <| sM (I ((orderP ws).getD k 0)) rfl <| s_val (x_look (kenc := I) (venc := encN) (f := newF (l.take i)) (k := ((orderP ws).getD k 0)) (v := .tuple #[.agg #[I ((((newF (l.take i)) ((orderP ws).getD k 0)).getD default).work), I ((((newF (l.take i)) ((orderP ws).getD k 0)).getD default).version), I ((((newF (l.take i)) ((orderP ws).getD k 0)).getD default).value)], B (((newF (l.take i)) ((orderP ws).getD k 0)).isSome)]) keyInt Try.underlying133 Al30 rfl rfl ac m_b23 true (by rw [if_pos rfl, note_val])) <| sM (.tuple #[.agg #[I ((((newF (l.take i)) ((orderP ws).getD k 0)).getD default).work), I ((((newF (l.take i)) ((orderP ws).getD k 0)).getD default).version), I ((((newF (l.take i)) ((orderP ws).getD k 0)).getD default).value)], B (((newF (l.take i)) ((orderP ws).getD k 0)).isSome)]) rfl <| sX [.agg #[I ((((newF (l.take i)) ((orderP ws).getD k 0)).getD default).work), I ((((newF (l.take i)) ((orderP ws).getD k 0)).getD default).version), I ((((newF (l.take i)) ((orderP ws).getD k 0)).getD default).value)], B (((newF (l.take i)) ((orderP ws).getD k 0)).isSome)] (.agg #[I ((((newF (l.take i)) ((orderP ws).getD k 0)).getD default).work), I ((((newF (l.take i)) ((orderP ws).getD k 0)).getD default).version), I ((((newF (l.take i)) ((orderP ws).getD k 0)).getD default).value)]) rfl rfl <| sX [.agg #[I ((((newF (l.take i)) ((orderP ws).getD k 0)).getD default).work), I ((((newF (l.take i)) ((orderP ws).getD k 0)).getD default).version), I ((((newF (l.take i)) ((orderP ws).getD k 0)).getD default).value)], B (((newF (l.take i)) ((orderP ws).getD k 0)).isSome)] (B (((newF (l.take i)) ((orderP ws).getD k 0)).isSome)) rfl rfl ?_
  refine s_alloc (cs := [I 0, I 0, I 0]) Al30 rfl ?_
  intro aS cg Nb66
  have o_K1_b66 := Nat.le_trans K1.size Nb66.ge
  have o_K14_b66 := Nat.le_trans K14.size Nb66.ge
  have o_b66 := Nat.le_trans E.size Nb66.ge
  have o_b2_b66 := Nat.lt_of_lt_of_le (heap_lt aa) Nb66.ge
  have o_b9_b66 := Nat.lt_of_lt_of_le (heap_lt ab) Nb66.ge
  have o_b23_b66 := Nat.lt_of_lt_of_le (heap_lt ac) Nb66.ge
  have o_b60_b66 := Nat.lt_of_lt_of_le (heap_lt ae) Nb66.ge
  have n_vo_b66 := ag.ne Nb66.ge
  replace E := E.trans Nb66.ext
  replace ah := Nat.le_trans ah Nb66.ext.size
  replace K1 := K1.ext Nb66.ext
  replace K14 := K14.ext Nb66.ext
  replace aa := Nb66.ext.get aa
  replace ab := Nb66.ext.get ab
  replace ac := Nb66.ext.get ac
  replace ae := Nb66.ext.get ae
  replace ag := ag.ext Nb66.ext
  have al := Nb66.same
  clear Nb66
  refine s_st (b := aS) (off := 0) (vs := [I ((((newF (l.take i)) ((orderP ws).getD k 0)).getD default).work), I ((((newF (l.take i)) ((orderP ws).getD k 0)).getD default).version), I ((((newF (l.take i)) ((orderP ws).getD k 0)).getD default).value)]) (cs' := [I ((((newF (l.take i)) ((orderP ws).getD k 0)).getD default).work), I ((((newF (l.take i)) ((orderP ws).getD k 0)).getD default).version), I ((((newF (l.take i)) ((orderP ws).getD k 0)).getD default).value)]) (v := .agg #[I ((((newF (l.take i)) ((orderP ws).getD k 0)).getD default).work), I ((((newF (l.take i)) ((orderP ws).getD k 0)).getD default).version), I ((((newF (l.take i)) ((orderP ws).getD k 0)).getD default).value)]) rfl rfl Sz30 al rfl rfl rfl rfl rfl ?_
  intro ci av
  replace E := E.put (by omega) av
  replace ah := Nat.le_trans ah (Nat.le_of_eq av.size.symm)
  replace K1 := K1.put av (by omega)
  replace K14 := K14.put av (by omega)
  replace aa := av.get (by omega) aa
  replace ab := av.get (by omega) ab
  replace ac := av.get (by omega) ac
  replace ae := av.get (by omega) ae
  replace ag := ag.put av n_vo_b66
  replace al := av.same
  clear av
  refine sA (B (((newF (l.take i)) ((orderP ws).getD k 0)).isSome)) rfl <| s_nil <| sQ rfl <| sM (B (((newF (l.take i)) ((orderP ws).getD k 0)).isSome)) rfl <| s_nil ?_
  refine W.cond (((newF (l.take i)) ((orderP ws).getD k 0)).isSome) rfl (fun aT => ?_) (fun aT => ?_)
  ·skip
   have hnv := newF_val aC i ((orderP ws).getD k 0) aT
   have hob := hvb.set (v := (((newF (l.take i)) ((orderP ws).getD k 0)).getD default).value) (by omega) (by omega) (Int.toNat ((orderP ws).getD k 0))
   have hol : ((valF ws (newF (l.take i)) ((orderP ws).take k) (List.replicate ws.length (-1))).set (Int.toNat ((orderP ws).getD k 0)) (((newF (l.take i)) ((orderP ws).getD k 0)).getD default).value).length = ws.length := by rw [List.length_set, hvl]
   refine W.region rfl <| s_val (x_ld (p := Pz aj) (v := vo) rfl (ldb_sc Sc34 ae rfl)) <| sM (I ((orderP ws).getD k 0)) rfl <| s_val (x_fa (a := Pz aS) (v := Oz aS 2) rfl (fa_blk (o := 0) Fd30_2 Sz3)) <| s_val (x_ld (p := Oz aS 2) (v := I ((((newF (l.take i)) ((orderP ws).getD k 0)).getD default).value)) rfl (ldb_sc Sc3 al rfl)) <| s_val (x_ix (a := vo) (b := I ((orderP ws).getD k 0)) (v := vat vo 1 (Int.toNat ((orderP ws).getD k 0))) rfl rfl (Sl.ix (α := Int) T34.und T34.size (ag.sl.mono (frm_le _ _)) (by omega) (by omega))) ?_
   refine s_ost ag Sz3 (i := (orderP ws).getD k 0) (by omega) (by omega) ((((newF (l.take i)) ((orderP ws).getD k 0)).getD default).value : Int) (val := I ((((newF (l.take i)) ((orderP ws).getD k 0)).getD default).value)) rfl rfl rfl ?_
   intro cj ho2 ay
   replace E := E.grow ay (by omega)
   replace ah := Nat.le_trans ah ay.size
   replace K1 := K1.grow ay (by omega)
   replace K14 := K14.grow ay (by omega)
   replace aa := ay.get n_vo_b2 aa
   replace ab := ay.get n_vo_b9 ab
   replace ac := ay.get n_vo_b23 ac
   replace ae := ay.get n_vo_b60 ae
   replace al := ay.get n_vo_b66 al
   replace ag := ho2
   clear ay
   refine s_nil <| W.seq <| sQ rfl <| s_val (x_ld (p := Pz b2) (v := vw) rfl (ldb_sc Sc22 aa rfl)) <| sM (I ((orderP ws).getD k 0)) rfl <| s_val (x_ix (a := vw) (b := I ((orderP ws).getD k 0)) (v := vat vw 3 (Int.toNat ((orderP ws).getD k 0))) rfl rfl (Sl.ix (α := Work) T22.und T22.size (hw.to K1) (by omega) (by omega))) <| s_val (x_fa (a := vat vw 3 (Int.toNat ((orderP ws).getD k 0))) (v := fat (vat vw 3 (Int.toNat ((orderP ws).getD k 0))) 0) rfl (fa_pl Fd60_0 Sz34 (Sl.pl (i := (orderP ws).getD k 0) hw (by omega) (by omega)))) ?_
   obtain ⟨bv, bG, bk⟩ := Work_at0 hw (i := (orderP ws).getD k 0) (by omega) (by omega)
   replace bk : Sl _ bv (ws.getD (Int.toNat ((orderP ws).getD k 0)) default).of := bk
   have ck := bk.len_le
   refine s_val (x_ld (p := fat (vat vw 3 (Int.toNat ((orderP ws).getD k 0))) 0) (v := bv) rfl (ld_sc Sc34 (At.to bG K1))) <| s_val (x_lenS T34.und rfl (bk.to K1)) <| sC (((ws.getD (Int.toNat ((orderP ws).getD k 0)) default).of).length) 0 (((((ws.getD (Int.toNat ((orderP ws).getD k 0)) default).of).length) : Int) == 0) rfl rfl rfl <| sM (B (((((ws.getD (Int.toNat ((orderP ws).getD k 0)) default).of).length) : Int) == 0)) rfl <| g_val (!(((((ws.getD (Int.toNat ((orderP ws).getD k 0)) default).of).length) : Int) == 0)) (gy_f rfl) (fun hg => x_mf (fs := []) (cs := [Pz aj]) rfl rfl) <| g_val (!(((((ws.getD (Int.toNat ((orderP ws).getD k 0)) default).of).length) : Int) == 0)) (gy_f rfl) (fun hg => x_ld (p := Pz b2) (v := vw) rfl (ldb_sc Sc22 aa rfl)) <| g_val (!(((((ws.getD (Int.toNat ((orderP ws).getD k 0)) default).of).length) : Int) == 0)) (gy_f rfl) (fun hg => x_mv (v := I ((orderP ws).getD k 0)) rfl) <| g_val (!(((((ws.getD (Int.toNat ((orderP ws).getD k 0)) default).of).length) : Int) == 0)) (gy_f rfl) (fun hg => x_ix (a := vw) (b := I ((orderP ws).getD k 0)) (v := vat vw 3 (Int.toNat ((orderP ws).getD k 0))) (gd_of (c := !(((((ws.getD (Int.toNat ((orderP ws).getD k 0)) default).of).length) : Int) == 0)) hg (vw)) (gd_of (c := !(((((ws.getD (Int.toNat ((orderP ws).getD k 0)) default).of).length) : Int) == 0)) hg (I ((orderP ws).getD k 0))) (Sl.ix (α := Work) T22.und T22.size (hw.to K1) (by first | omega | (simp at hg; omega) | (simp [inB] at hg; omega)) (by first | omega | (simp at hg; omega) | (simp [inB] at hg; omega)))) <| g_val (!(((((ws.getD (Int.toNat ((orderP ws).getD k 0)) default).of).length) : Int) == 0)) (gy_f rfl) (fun hg => x_fa (a := vat vw 3 (Int.toNat ((orderP ws).getD k 0))) (v := fat (vat vw 3 (Int.toNat ((orderP ws).getD k 0))) 0) (gd_of (c := !(((((ws.getD (Int.toNat ((orderP ws).getD k 0)) default).of).length) : Int) == 0)) hg (vat vw 3 (Int.toNat ((orderP ws).getD k 0)))) (fa_pl Fd60_0 Sz34 (Sl.pl (i := (orderP ws).getD k 0) hw (by first | omega | (simp at hg; omega) | (simp [inB] at hg; omega)) (by first | omega | (simp at hg; omega) | (simp [inB] at hg; omega))))) ?_
   obtain ⟨a9, bH, bq⟩ := gd_ex (c := !(((((ws.getD (Int.toNat ((orderP ws).getD k 0)) default).of).length) : Int) == 0)) fun hg => Work_at0 hw (i := (orderP ws).getD k 0) (by first | omega | (simp at hg; omega) | (simp [inB] at hg; omega)) (by first | omega | (simp at hg; omega) | (simp [inB] at hg; omega))
   replace bq : (!(((((ws.getD (Int.toNat ((orderP ws).getD k 0)) default).of).length) : Int) == 0)) = true -> Sl _ a9 (ws.getD (Int.toNat ((orderP ws).getD k 0)) default).of := bq
   refine g_val (!(((((ws.getD (Int.toNat ((orderP ws).getD k 0)) default).of).length) : Int) == 0)) (gy_f rfl) (fun hg => x_ld (p := fat (vat vw 3 (Int.toNat ((orderP ws).getD k 0))) 0) (v := a9) (gd_of (c := !(((((ws.getD (Int.toNat ((orderP ws).getD k 0)) default).of).length) : Int) == 0)) hg (fat (vat vw 3 (Int.toNat ((orderP ws).getD k 0))) 0)) (ld_sc Sc34 (At.to (bH hg) K1))) ?_
   refine g_call (!(((((ws.getD (Int.toNat ((orderP ws).getD k 0)) default).of).length) : Int) == 0)) (gy_f rfl) cf87 (B (((ws.getD (Int.toNat ((orderP ws).getD k 0)) default).of).all (fun z_ : Int => ((valF ws (newF (l.take i)) ((orderP ws).take k) (List.replicate ws.length (-1))).set (Int.toNat ((orderP ws).getD k 0)) ((((newF (l.take i)) ((orderP ws).getD k 0)).getD default).value : Int)).getD z_.toNat 0 != -1))) (fun _ => [.func (.func 88) #[] #[Pz aj], a9]) (fun hg => lst2 (gd_of (c := !(((((ws.getD (Int.toNat ((orderP ws).getD k 0)) default).of).length) : Int) == 0)) hg (.func (.func 88) #[] #[Pz aj])) (gd_of (c := !(((((ws.getD (Int.toNat ((orderP ws).getD k 0)) default).of).length) : Int) == 0)) hg (a9))) (fun hg => (every_int _ ((bq hg).to K1) ⟨88, [Pz aj], rfl, cf88, fun w' v x hE hD hA => by obtain rfl := Arg.int hA; exact (values3 _ _ (hE.get ae) ((ag.sl.mono (frm_le _ _)).mono hE.le) (hof _ hD).1 (by have := (hof _ hD).2.1; omega))⟩)) ?_
   intro cm aw
   replace E := E.trans aw
   replace ah := Nat.le_trans ah aw.size
   replace K1 := K1.ext aw
   replace K14 := K14.ext aw
   replace aa := aw.get aa
   replace ab := aw.get ab
   replace ac := aw.get ac
   replace ae := aw.get ae
   replace al := aw.get al
   replace ag := ag.ext aw
   clear aw
   refine g_val (!(((((ws.getD (Int.toNat ((orderP ws).getD k 0)) default).of).length) : Int) == 0)) (gy_f rfl) (fun hg => x_not (b := ((ws.getD (Int.toNat ((orderP ws).getD k 0)) default).of).all (fun z_ : Int => ((valF ws (newF (l.take i)) ((orderP ws).take k) (List.replicate ws.length (-1))).set (Int.toNat ((orderP ws).getD k 0)) ((((newF (l.take i)) ((orderP ws).getD k 0)).getD default).value : Int)).getD z_.toNat 0 != -1)) (gd_of (c := !(((((ws.getD (Int.toNat ((orderP ws).getD k 0)) default).of).length) : Int) == 0)) hg (B (((ws.getD (Int.toNat ((orderP ws).getD k 0)) default).of).all (fun z_ : Int => ((valF ws (newF (l.take i)) ((orderP ws).take k) (List.replicate ws.length (-1))).set (Int.toNat ((orderP ws).getD k 0)) ((((newF (l.take i)) ((orderP ws).getD k 0)).getD default).value : Int)).getD z_.toNat 0 != -1))))) <| s_val (x_por (b := ((((ws.getD (Int.toNat ((orderP ws).getD k 0)) default).of).length) : Int) == 0) (r := !(((ws.getD (Int.toNat ((orderP ws).getD k 0)) default).of).all (fun z_ : Int => ((valF ws (newF (l.take i)) ((orderP ws).take k) (List.replicate ws.length (-1))).set (Int.toNat ((orderP ws).getD k 0)) ((((newF (l.take i)) ((orderP ws).getD k 0)).getD default).value : Int)).getD z_.toNat 0 != -1))) rfl rfl (fun hb => gd_of (c := !(((((ws.getD (Int.toNat ((orderP ws).getD k 0)) default).of).length) : Int) == 0)) (by simp_all) (B (!(((ws.getD (Int.toNat ((orderP ws).getD k 0)) default).of).all (fun z_ : Int => ((valF ws (newF (l.take i)) ((orderP ws).take k) (List.replicate ws.length (-1))).set (Int.toNat ((orderP ws).getD k 0)) ((((newF (l.take i)) ((orderP ws).getD k 0)).getD default).value : Int)).getD z_.toNat 0 != -1)))))) <| s_nil ?_
   refine W.cond (((((((ws.getD (Int.toNat ((orderP ws).getD k 0)) default).of).length) : Int) == 0) || (!(((ws.getD (Int.toNat ((orderP ws).getD k 0)) default).of).all (fun z_ : Int => ((valF ws (newF (l.take i)) ((orderP ws).take k) (List.replicate ws.length (-1))).set (Int.toNat ((orderP ws).getD k 0)) ((((newF (l.take i)) ((orderP ws).getD k 0)).getD default).value : Int)).getD z_.toNat 0 != -1))))) rfl (fun bl => ?_) (fun bl => ?_)
   ·skip
    refine W.exit ?_
    refine W.region rfl <| sR k 1 (k + 1) rfl rfl rfl (by omega) <| sM (I (k + 1)) rfl <| s_nil ?_
    exact ⟨_, (by omega), k+1, vo, _, upds_of _ _ ⟨rfl, rfl, rfl, rfl, rfl, (eqI (by omega)), trivial⟩, rfl, E, K1, K14, aa, ab, ac, ae, ah, (by rw [valF_next _ _ _ _ aN, val_skip (noteV_yes aT) bl]; exact ag), n_vo_b2, n_vo_b9, n_vo_b23, n_vo_b60, (by omega)⟩
   skip
   refine W.skip <| sQ rfl <| s_val (x_ld (p := Pz b2) (v := vw) rfl (ldb_sc Sc22 aa rfl)) <| sM (I ((orderP ws).getD k 0)) rfl <| s_val (x_ix (a := vw) (b := I ((orderP ws).getD k 0)) (v := vat vw 3 (Int.toNat ((orderP ws).getD k 0))) rfl rfl (Sl.ix (α := Work) T22.und T22.size (hw.to K1) (by omega) (by omega))) <| s_val (x_fa (a := vat vw 3 (Int.toNat ((orderP ws).getD k 0))) (v := fat (vat vw 3 (Int.toNat ((orderP ws).getD k 0))) 1) rfl (fa_pl Fd60_1 Sz3 (Sl.pl (i := (orderP ws).getD k 0) hw (by omega) (by omega)))) <| s_val (x_ld (p := fat (vat vw 3 (Int.toNat ((orderP ws).getD k 0))) 1) (v := I ((ws.getD (Int.toNat ((orderP ws).getD k 0)) default).base)) rfl (ld_sc Sc3 (At.to (Work_at1 hw (i := (orderP ws).getD k 0) (by omega) (by omega)) K1))) <| sA (I ((ws.getD (Int.toNat ((orderP ws).getD k 0)) default).base)) rfl <| s_nil <| W.seq <| W.seq ?_
   refine W.region rfl <| s_val (x_ld (p := Pz b2) (v := vw) rfl (ldb_sc Sc22 aa rfl)) <| sM (I ((orderP ws).getD k 0)) rfl <| s_val (x_ix (a := vw) (b := I ((orderP ws).getD k 0)) (v := vat vw 3 (Int.toNat ((orderP ws).getD k 0))) rfl rfl (Sl.ix (α := Work) T22.und T22.size (hw.to K1) (by omega) (by omega))) <| s_val (x_fa (a := vat vw 3 (Int.toNat ((orderP ws).getD k 0))) (v := fat (vat vw 3 (Int.toNat ((orderP ws).getD k 0))) 0) rfl (fa_pl Fd60_0 Sz34 (Sl.pl (i := (orderP ws).getD k 0) hw (by omega) (by omega)))) ?_
   obtain ⟨aU, bI, aV⟩ := Work_at0 hw (i := (orderP ws).getD k 0) (by omega) (by omega)
   replace aV : Sl _ aU (ws.getD (Int.toNat ((orderP ws).getD k 0)) default).of := aV
   have cn := aV.len_le
   refine s_val (x_ld (p := fat (vat vw 3 (Int.toNat ((orderP ws).getD k 0))) 0) (v := aU) rfl (ld_sc Sc34 (At.to bI K1))) <| s_val (x_lenS T34.und rfl (aV.to K1)) <| sM (I 0) rfl <| s_nil <| W.block ?_
   have hkv := known_vals bl (O := (valF ws (newF (l.take i)) ((orderP ws).take k) (List.replicate ws.length (-1))).set (Int.toNat ((orderP ws).getD k 0)) ((((newF (l.take i)) ((orderP ws).getD k 0)).getD default).value : Int)) hob (by intro q hq; have h1 := hof q hq; have h2 := hol; omega)
   refine W.loop (fun m σ W => ∃ (j : Nat) (ρ : Env), σ = upds ρ [(2, Pz b2), (9, .map (some ao)), (16, Pz aj), (18, I ((orderP ws).getD k 0)), (21, I (sumV ((valF ws (newF (l.take i)) ((orderP ws).take k) (List.replicate ws.length (-1))).set (Int.toNat ((orderP ws).getD k 0)) ((((newF (l.take i)) ((orderP ws).getD k 0)).getD default).value : Int)) (ws.getD (Int.toNat ((orderP ws).getD k 0)) default).base (ws.getD (Int.toNat ((orderP ws).getD k 0)) default).of j)), (106, am), (107, I ((orderP ws).length)), (108, I k), (132, gd (!(((((ws.getD (Int.toNat ((orderP ws).getD k 0)) default).of).length) : Int) == 0)) (.func (.func 88) #[] #[Pz aj])), (133, gd (!(((((ws.getD (Int.toNat ((orderP ws).getD k 0)) default).of).length) : Int) == 0)) vw), (134, gd (!(((((ws.getD (Int.toNat ((orderP ws).getD k 0)) default).of).length) : Int) == 0)) (I ((orderP ws).getD k 0))), (135, gd (!(((((ws.getD (Int.toNat ((orderP ws).getD k 0)) default).of).length) : Int) == 0)) (vat vw 3 (Int.toNat ((orderP ws).getD k 0)))), (136, gd (!(((((ws.getD (Int.toNat ((orderP ws).getD k 0)) default).of).length) : Int) == 0)) (fat (vat vw 3 (Int.toNat ((orderP ws).getD k 0))) 0)), (137, gd (!(((((ws.getD (Int.toNat ((orderP ws).getD k 0)) default).of).length) : Int) == 0)) a9), (138, gd (!(((((ws.getD (Int.toNat ((orderP ws).getD k 0)) default).of).length) : Int) == 0)) (B (((ws.getD (Int.toNat ((orderP ws).getD k 0)) default).of).all (fun z_ : Int => ((valF ws (newF (l.take i)) ((orderP ws).take k) (List.replicate ws.length (-1))).set (Int.toNat ((orderP ws).getD k 0)) ((((newF (l.take i)) ((orderP ws).getD k 0)).getD default).value : Int)).getD z_.toNat 0 != -1)))), (139, gd (!(((((ws.getD (Int.toNat ((orderP ws).getD k 0)) default).of).length) : Int) == 0)) (B (!(((ws.getD (Int.toNat ((orderP ws).getD k 0)) default).of).all (fun z_ : Int => ((valF ws (newF (l.take i)) ((orderP ws).take k) (List.replicate ws.length (-1))).set (Int.toNat ((orderP ws).getD k 0)) ((((newF (l.take i)) ((orderP ws).getD k 0)).getD default).value : Int)).getD z_.toNat 0 != -1))))), (150, aU), (151, I (((ws.getD (Int.toNat ((orderP ws).getD k 0)) default).of).length)), (152, I j)] /\ m = (ws.getD (Int.toNat ((orderP ws).getD k 0)) default).of.length - j /\ Ext w W /\ KF 0 w W /\ KF w3.heap.size w4 W /\ W.heap[b2]? = some (.cells #[vw] 22 (0, 0)) /\ W.heap[b9]? = some (.cells #[vw] 187 (0, 0)) /\ W.heap[ao]? = some (.map es_b23 ck_b23) /\ W.heap[aj]? = some (.cells #[vo] 34 (0, 0)) /\ W.heap[aS]? = some (.cells #[I ((((newF (l.take i)) ((orderP ws).getD k 0)).getD default).work), I ((((newF (l.take i)) ((orderP ws).getD k 0)).getD default).version), I ((((newF (l.take i)) ((orderP ws).getD k 0)).getD default).value)] 30 (0, 0)) /\ aM.heap.size <= W.heap.size /\ OwnF aM.heap.size 3 W vo ((valF ws (newF (l.take i)) ((orderP ws).take k) (List.replicate ws.length (-1))).set (Int.toNat ((orderP ws).getD k 0)) ((((newF (l.take i)) ((orderP ws).getD k 0)).getD default).value : Int)) /\ j <= (ws.getD (Int.toNat ((orderP ws).getD k 0)) default).of.length) ?_ ?_
   ·exact ⟨_, 0, _, upds_of _ _ ⟨rfl, rfl, rfl, rfl, rfl, rfl, rfl, rfl, rfl, rfl, rfl, rfl, rfl, rfl, rfl, rfl, rfl, rfl, (eqI (by omega)), trivial⟩, rfl, E, K1, K14, aa, ab, ac, ae, al, ah, ag, (Nat.zero_le _)⟩
   rintro m σ co ⟨j, ρ, rfl, rfl, E, K1, K14, aa, ab, ac, ae, al, ah, ag, bw⟩
   have bJ := sumV_b (out := (valF ws (newF (l.take i)) ((orderP ws).take k) (List.replicate ws.length (-1))).set (Int.toNat ((orderP ws).getD k 0)) ((((newF (l.take i)) ((orderP ws).getD k 0)).getD default).value : Int)) (base := (ws.getD (Int.toNat ((orderP ws).getD k 0)) default).base) (of := (ws.getD (Int.toNat ((orderP ws).getD k 0)) default).of) ⟨bj.1, bj.2.1⟩ ho5 hkv j bw
   refine sQ rfl <| sC j (((ws.getD (Int.toNat ((orderP ws).getD k 0)) default).of).length) (decide ((j : Int) < (((ws.getD (Int.toNat ((orderP ws).getD k 0)) default).of).length))) rfl rfl rfl <| s_nil <| W.seq ?_
   refine W.cond (decide ((j : Int) < (((ws.getD (Int.toNat ((orderP ws).getD k 0)) default).of).length))) rfl (fun aW => ?_) (fun aW => ?_)
   ·simp only [qz1, qz2, qz3, qz4, qz5, qz6, ne_eq, qz7] at aW
    have hj := hof _ (getD_memN _ aW 0)
    have hjv := hkv _ (getD_memN _ aW 0)
    have hpr := prod_b (a := (j : Int) + 1) (by omega) (by omega) hjv.1 hjv.2
    refine W.skip <| W.seq <| W.block <| sQ rfl <| sM (I j) rfl <| s_val (x_ix (a := aU) (b := I j) (v := vat aU 1 (Int.toNat j)) rfl rfl (Sl.ix (α := Int) T34.und T34.size (aV.to K1) (by omega) (by omega))) <| s_val (x_ld (p := vat aU 1 (Int.toNat j)) (v := I (((ws.getD (Int.toNat ((orderP ws).getD k 0)) default).of).getD j 0)) rfl (ld_sc Sc3 (At.to (Int_at aV (i := j) (by omega) (by omega)) K1))) <| sA (I j) rfl <| sA (I (((ws.getD (Int.toNat ((orderP ws).getD k 0)) default).of).getD j 0)) rfl <| s_nil <| W.region rfl ?_
    refine sM (I (sumV ((valF ws (newF (l.take i)) ((orderP ws).take k) (List.replicate ws.length (-1))).set (Int.toNat ((orderP ws).getD k 0)) ((((newF (l.take i)) ((orderP ws).getD k 0)).getD default).value : Int)) (ws.getD (Int.toNat ((orderP ws).getD k 0)) default).base (ws.getD (Int.toNat ((orderP ws).getD k 0)) default).of j)) rfl <| sM (I j) rfl <| sR j 1 (j + 1) rfl rfl rfl (by omega) <| s_val (x_ld (p := Pz aj) (v := vo) rfl (ldb_sc Sc34 ae rfl)) <| sM (I (((ws.getD (Int.toNat ((orderP ws).getD k 0)) default).of).getD j 0)) rfl <| s_val (x_ix (a := vo) (b := I (((ws.getD (Int.toNat ((orderP ws).getD k 0)) default).of).getD j 0)) (v := vat vo 1 (Int.toNat (((ws.getD (Int.toNat ((orderP ws).getD k 0)) default).of).getD j 0))) rfl rfl (Sl.ix (α := Int) T34.und T34.size (ag.sl.mono (frm_le _ _)) (by omega) (by omega))) <| s_val (x_ld (p := vat vo 1 (Int.toNat (((ws.getD (Int.toNat ((orderP ws).getD k 0)) default).of).getD j 0))) (v := I (((valF ws (newF (l.take i)) ((orderP ws).take k) (List.replicate ws.length (-1))).set (Int.toNat ((orderP ws).getD k 0)) ((((newF (l.take i)) ((orderP ws).getD k 0)).getD default).value : Int)).getD (Int.toNat (((ws.getD (Int.toNat ((orderP ws).getD k 0)) default).of).getD j 0)) 0)) rfl (ld_sc Sc3 (At.up (Int_at ag.sl (i := ((ws.getD (Int.toNat ((orderP ws).getD k 0)) default).of).getD j 0) (by omega) (by omega))))) <| sR (j + 1) (((valF ws (newF (l.take i)) ((orderP ws).take k) (List.replicate ws.length (-1))).set (Int.toNat ((orderP ws).getD k 0)) ((((newF (l.take i)) ((orderP ws).getD k 0)).getD default).value : Int)).getD (Int.toNat (((ws.getD (Int.toNat ((orderP ws).getD k 0)) default).of).getD j 0)) 0) ((j + 1) * (((valF ws (newF (l.take i)) ((orderP ws).take k) (List.replicate ws.length (-1))).set (Int.toNat ((orderP ws).getD k 0)) ((((newF (l.take i)) ((orderP ws).getD k 0)).getD default).value : Int)).getD (Int.toNat (((ws.getD (Int.toNat ((orderP ws).getD k 0)) default).of).getD j 0)) 0)) rfl rfl rfl (by omega) <| sR (sumV ((valF ws (newF (l.take i)) ((orderP ws).take k) (List.replicate ws.length (-1))).set (Int.toNat ((orderP ws).getD k 0)) ((((newF (l.take i)) ((orderP ws).getD k 0)).getD default).value : Int)) (ws.getD (Int.toNat ((orderP ws).getD k 0)) default).base (ws.getD (Int.toNat ((orderP ws).getD k 0)) default).of j) ((j + 1) * (((valF ws (newF (l.take i)) ((orderP ws).take k) (List.replicate ws.length (-1))).set (Int.toNat ((orderP ws).getD k 0)) ((((newF (l.take i)) ((orderP ws).getD k 0)).getD default).value : Int)).getD (Int.toNat (((ws.getD (Int.toNat ((orderP ws).getD k 0)) default).of).getD j 0)) 0)) ((sumV ((valF ws (newF (l.take i)) ((orderP ws).take k) (List.replicate ws.length (-1))).set (Int.toNat ((orderP ws).getD k 0)) ((((newF (l.take i)) ((orderP ws).getD k 0)).getD default).value : Int)) (ws.getD (Int.toNat ((orderP ws).getD k 0)) default).base (ws.getD (Int.toNat ((orderP ws).getD k 0)) default).of j) + ((j + 1) * (((valF ws (newF (l.take i)) ((orderP ws).take k) (List.replicate ws.length (-1))).set (Int.toNat ((orderP ws).getD k 0)) ((((newF (l.take i)) ((orderP ws).getD k 0)).getD default).value : Int)).getD (Int.toNat (((ws.getD (Int.toNat ((orderP ws).getD k 0)) default).of).getD j 0)) 0))) rfl rfl rfl (by omega) <| sA (I ((sumV ((valF ws (newF (l.take i)) ((orderP ws).take k) (List.replicate ws.length (-1))).set (Int.toNat ((orderP ws).getD k 0)) ((((newF (l.take i)) ((orderP ws).getD k 0)).getD default).value : Int)) (ws.getD (Int.toNat ((orderP ws).getD k 0)) default).base (ws.getD (Int.toNat ((orderP ws).getD k 0)) default).of j) + ((j + 1) * (((valF ws (newF (l.take i)) ((orderP ws).take k) (List.replicate ws.length (-1))).set (Int.toNat ((orderP ws).getD k 0)) ((((newF (l.take i)) ((orderP ws).getD k 0)).getD default).value : Int)).getD (Int.toNat (((ws.getD (Int.toNat ((orderP ws).getD k 0)) default).of).getD j 0)) 0)))) rfl <| s_nil <| W.region rfl ?_
    refine sR j 1 (j + 1) rfl rfl rfl (by omega) <| sM (I (j + 1)) rfl <| s_nil ?_
    exact ⟨_, (by omega), j+1, _, upds_of _ _ ⟨rfl, rfl, rfl, rfl, rfl, rfl, rfl, rfl, rfl, rfl, rfl, rfl, rfl, rfl, rfl, rfl, rfl, rfl, (eqI (by omega)), trivial⟩, rfl, E, K1, K14, aa, ab, ac, ae, al, ah, ag, (by omega)⟩
   simp only [qz1, qz2, qz3, qz4, qz5, qz6, ne_eq, qz7] at aW
   refine W.exit ?_
   refine W.region rfl <| s_val (x_ld (p := Pz aj) (v := vo) rfl (ldb_sc Sc34 ae rfl)) <| sM (I ((orderP ws).getD k 0)) rfl <| sM (I (sumV ((valF ws (newF (l.take i)) ((orderP ws).take k) (List.replicate ws.length (-1))).set (Int.toNat ((orderP ws).getD k 0)) ((((newF (l.take i)) ((orderP ws).getD k 0)).getD default).value : Int)) (ws.getD (Int.toNat ((orderP ws).getD k 0)) default).base (ws.getD (Int.toNat ((orderP ws).getD k 0)) default).of j)) rfl <| s_val (x_rem' (a := sumV ((valF ws (newF (l.take i)) ((orderP ws).take k) (List.replicate ws.length (-1))).set (Int.toNat ((orderP ws).getD k 0)) ((((newF (l.take i)) ((orderP ws).getD k 0)).getD default).value : Int)) (ws.getD (Int.toNat ((orderP ws).getD k 0)) default).base (ws.getD (Int.toNat ((orderP ws).getD k 0)) default).of j) (b := 1000003) rfl rfl (by omega)) <| s_val (x_ix (a := vo) (b := I ((orderP ws).getD k 0)) (v := vat vo 1 (Int.toNat ((orderP ws).getD k 0))) rfl rfl (Sl.ix (α := Int) T34.und T34.size (ag.sl.mono (frm_le _ _)) (by omega) (by omega))) ?_
   refine s_ost ag Sz3 (i := (orderP ws).getD k 0) (by omega) (by omega) ((sumV ((valF ws (newF (l.take i)) ((orderP ws).take k) (List.replicate ws.length (-1))).set (Int.toNat ((orderP ws).getD k 0)) ((((newF (l.take i)) ((orderP ws).getD k 0)).getD default).value : Int)) (ws.getD (Int.toNat ((orderP ws).getD k 0)) default).base (ws.getD (Int.toNat ((orderP ws).getD k 0)) default).of j) % 1000003 : Int) (val := I ((sumV ((valF ws (newF (l.take i)) ((orderP ws).take k) (List.replicate ws.length (-1))).set (Int.toNat ((orderP ws).getD k 0)) ((((newF (l.take i)) ((orderP ws).getD k 0)).getD default).value : Int)) (ws.getD (Int.toNat ((orderP ws).getD k 0)) default).base (ws.getD (Int.toNat ((orderP ws).getD k 0)) default).of j) % 1000003)) rfl rfl rfl ?_
   intro cp ho2 az
   replace E := E.grow az (by omega)
   replace ah := Nat.le_trans ah az.size
   replace K1 := K1.grow az (by omega)
   replace K14 := K14.grow az (by omega)
   replace aa := az.get n_vo_b2 aa
   replace ab := az.get n_vo_b9 ab
   replace ac := az.get n_vo_b23 ac
   replace ae := az.get n_vo_b60 ae
   replace al := az.get n_vo_b66 al
   replace ag := ho2
   clear az
   refine s_nil <| W.region rfl <| sR k 1 (k + 1) rfl rfl rfl (by omega) <| sM (I (k + 1)) rfl <| s_nil ?_
   exact ⟨_, (by omega), k+1, vo, _, upds_of _ _ ⟨rfl, rfl, rfl, rfl, rfl, (eqI (by omega)), trivial⟩, rfl, E, K1, K14, aa, ab, ac, ae, ah, (by rw [valF_next _ _ _ _ aN, val_set (noteV_yes aT) bl aW bw]; exact ag), n_vo_b2, n_vo_b9, n_vo_b23, n_vo_b60, (by omega)⟩
  skip
  have hob := hvb
  have hol := hvl
  refine W.skip <| W.seq <| sQ rfl <| s_val (x_ld (p := Pz b2) (v := vw) rfl (ldb_sc Sc22 aa rfl)) <| sM (I ((orderP ws).getD k 0)) rfl <| s_val (x_ix (a := vw) (b := I ((orderP ws).getD k 0)) (v := vat vw 3 (Int.toNat ((orderP ws).getD k 0))) rfl rfl (Sl.ix (α := Work) T22.und T22.size (hw.to K1) (by omega) (by omega))) <| s_val (x_fa (a := vat vw 3 (Int.toNat ((orderP ws).getD k 0))) (v := fat (vat vw 3 (Int.toNat ((orderP ws).getD k 0))) 0) rfl (fa_pl Fd60_0 Sz34 (Sl.pl (i := (orderP ws).getD k 0) hw (by omega) (by omega)))) ?_
  obtain ⟨bx, bK, bm⟩ := Work_at0 hw (i := (orderP ws).getD k 0) (by omega) (by omega)
  replace bm : Sl _ bx (ws.getD (Int.toNat ((orderP ws).getD k 0)) default).of := bm
  have cq := bm.len_le
  refine s_val (x_ld (p := fat (vat vw 3 (Int.toNat ((orderP ws).getD k 0))) 0) (v := bx) rfl (ld_sc Sc34 (At.to bK K1))) <| s_val (x_lenS T34.und rfl (bm.to K1)) <| sC (((ws.getD (Int.toNat ((orderP ws).getD k 0)) default).of).length) 0 (((((ws.getD (Int.toNat ((orderP ws).getD k 0)) default).of).length) : Int) == 0) rfl rfl rfl <| sM (B (((((ws.getD (Int.toNat ((orderP ws).getD k 0)) default).of).length) : Int) == 0)) rfl <| g_val (!(((((ws.getD (Int.toNat ((orderP ws).getD k 0)) default).of).length) : Int) == 0)) (gy_f rfl) (fun hg => x_mf (fs := []) (cs := [Pz aj]) rfl rfl) <| g_val (!(((((ws.getD (Int.toNat ((orderP ws).getD k 0)) default).of).length) : Int) == 0)) (gy_f rfl) (fun hg => x_ld (p := Pz b2) (v := vw) rfl (ldb_sc Sc22 aa rfl)) <| g_val (!(((((ws.getD (Int.toNat ((orderP ws).getD k 0)) default).of).length) : Int) == 0)) (gy_f rfl) (fun hg => x_mv (v := I ((orderP ws).getD k 0)) rfl) <| g_val (!(((((ws.getD (Int.toNat ((orderP ws).getD k 0)) default).of).length) : Int) == 0)) (gy_f rfl) (fun hg => x_ix (a := vw) (b := I ((orderP ws).getD k 0)) (v := vat vw 3 (Int.toNat ((orderP ws).getD k 0))) (gd_of (c := !(((((ws.getD (Int.toNat ((orderP ws).getD k 0)) default).of).length) : Int) == 0)) hg (vw)) (gd_of (c := !(((((ws.getD (Int.toNat ((orderP ws).getD k 0)) default).of).length) : Int) == 0)) hg (I ((orderP ws).getD k 0))) (Sl.ix (α := Work) T22.und T22.size (hw.to K1) (by first | omega | (simp at hg; omega) | (simp [inB] at hg; omega)) (by first | omega | (simp at hg; omega) | (simp [inB] at hg; omega)))) <| g_val (!(((((ws.getD (Int.toNat ((orderP ws).getD k 0)) default).of).length) : Int) == 0)) (gy_f rfl) (fun hg => x_fa (a := vat vw 3 (Int.toNat ((orderP ws).getD k 0))) (v := fat (vat vw 3 (Int.toNat ((orderP ws).getD k 0))) 0) (gd_of (c := !(((((ws.getD (Int.toNat ((orderP ws).getD k 0)) default).of).length) : Int) == 0)) hg (vat vw 3 (Int.toNat ((orderP ws).getD k 0)))) (fa_pl Fd60_0 Sz34 (Sl.pl (i := (orderP ws).getD k 0) hw (by first | omega | (simp at hg; omega) | (simp [inB] at hg; omega)) (by first | omega | (simp at hg; omega) | (simp [inB] at hg; omega))))) ?_
  obtain ⟨ba, bL, br⟩ := gd_ex (c := !(((((ws.getD (Int.toNat ((orderP ws).getD k 0)) default).of).length) : Int) == 0)) fun hg => Work_at0 hw (i := (orderP ws).getD k 0) (by first | omega | (simp at hg; omega) | (simp [inB] at hg; omega)) (by first | omega | (simp at hg; omega) | (simp [inB] at hg; omega))
  replace br : (!(((((ws.getD (Int.toNat ((orderP ws).getD k 0)) default).of).length) : Int) == 0)) = true -> Sl _ ba (ws.getD (Int.toNat ((orderP ws).getD k 0)) default).of := br
  refine g_val (!(((((ws.getD (Int.toNat ((orderP ws).getD k 0)) default).of).length) : Int) == 0)) (gy_f rfl) (fun hg => x_ld (p := fat (vat vw 3 (Int.toNat ((orderP ws).getD k 0))) 0) (v := ba) (gd_of (c := !(((((ws.getD (Int.toNat ((orderP ws).getD k 0)) default).of).length) : Int) == 0)) hg (fat (vat vw 3 (Int.toNat ((orderP ws).getD k 0))) 0)) (ld_sc Sc34 (At.to (bL hg) K1))) ?_
  refine g_call (!(((((ws.getD (Int.toNat ((orderP ws).getD k 0)) default).of).length) : Int) == 0)) (gy_f rfl) cf87 (B (((ws.getD (Int.toNat ((orderP ws).getD k 0)) default).of).all (fun z_ : Int => (valF ws (newF (l.take i)) ((orderP ws).take k) (List.replicate ws.length (-1))).getD z_.toNat 0 != -1))) (fun _ => [.func (.func 88) #[] #[Pz aj], ba]) (fun hg => lst2 (gd_of (c := !(((((ws.getD (Int.toNat ((orderP ws).getD k 0)) default).of).length) : Int) == 0)) hg (.func (.func 88) #[] #[Pz aj])) (gd_of (c := !(((((ws.getD (Int.toNat ((orderP ws).getD k 0)) default).of).length) : Int) == 0)) hg (ba))) (fun hg => (every_int _ ((br hg).to K1) ⟨88, [Pz aj], rfl, cf88, fun w' v x hE hD hA => by obtain rfl := Arg.int hA; exact (values3 _ _ (hE.get ae) ((ag.sl.mono (frm_le _ _)).mono hE.le) (hof _ hD).1 (by have := (hof _ hD).2.1; omega))⟩)) ?_
  intro cr ax
  replace E := E.trans ax
  replace ah := Nat.le_trans ah ax.size
  replace K1 := K1.ext ax
  replace K14 := K14.ext ax
  replace aa := ax.get aa
  replace ab := ax.get ab
  replace ac := ax.get ac
  replace ae := ax.get ae
  replace al := ax.get al
  replace ag := ag.ext ax
  clear ax
  refine g_val (!(((((ws.getD (Int.toNat ((orderP ws).getD k 0)) default).of).length) : Int) == 0)) (gy_f rfl) (fun hg => x_not (b := ((ws.getD (Int.toNat ((orderP ws).getD k 0)) default).of).all (fun z_ : Int => (valF ws (newF (l.take i)) ((orderP ws).take k) (List.replicate ws.length (-1))).getD z_.toNat 0 != -1)) (gd_of (c := !(((((ws.getD (Int.toNat ((orderP ws).getD k 0)) default).of).length) : Int) == 0)) hg (B (((ws.getD (Int.toNat ((orderP ws).getD k 0)) default).of).all (fun z_ : Int => (valF ws (newF (l.take i)) ((orderP ws).take k) (List.replicate ws.length (-1))).getD z_.toNat 0 != -1))))) <| s_val (x_por (b := ((((ws.getD (Int.toNat ((orderP ws).getD k 0)) default).of).length) : Int) == 0) (r := !(((ws.getD (Int.toNat ((orderP ws).getD k 0)) default).of).all (fun z_ : Int => (valF ws (newF (l.take i)) ((orderP ws).take k) (List.replicate ws.length (-1))).getD z_.toNat 0 != -1))) rfl rfl (fun hb => gd_of (c := !(((((ws.getD (Int.toNat ((orderP ws).getD k 0)) default).of).length) : Int) == 0)) (by simp_all) (B (!(((ws.getD (Int.toNat ((orderP ws).getD k 0)) default).of).all (fun z_ : Int => (valF ws (newF (l.take i)) ((orderP ws).take k) (List.replicate ws.length (-1))).getD z_.toNat 0 != -1)))))) <| s_nil ?_
  refine W.cond (((((((ws.getD (Int.toNat ((orderP ws).getD k 0)) default).of).length) : Int) == 0) || (!(((ws.getD (Int.toNat ((orderP ws).getD k 0)) default).of).all (fun z_ : Int => (valF ws (newF (l.take i)) ((orderP ws).take k) (List.replicate ws.length (-1))).getD z_.toNat 0 != -1))))) rfl (fun bn => ?_) (fun bn => ?_)
  ·skip
   refine W.exit ?_
   refine W.region rfl <| sR k 1 (k + 1) rfl rfl rfl (by omega) <| sM (I (k + 1)) rfl <| s_nil ?_
   exact ⟨_, (by omega), k+1, vo, _, upds_of _ _ ⟨rfl, rfl, rfl, rfl, rfl, (eqI (by omega)), trivial⟩, rfl, E, K1, K14, aa, ab, ac, ae, ah, (by rw [valF_next _ _ _ _ aN, val_skip (noteV_no aT) bn]; exact ag), n_vo_b2, n_vo_b9, n_vo_b23, n_vo_b60, (by omega)⟩
  skip
  refine W.skip <| sQ rfl <| s_val (x_ld (p := Pz b2) (v := vw) rfl (ldb_sc Sc22 aa rfl)) <| sM (I ((orderP ws).getD k 0)) rfl <| s_val (x_ix (a := vw) (b := I ((orderP ws).getD k 0)) (v := vat vw 3 (Int.toNat ((orderP ws).getD k 0))) rfl rfl (Sl.ix (α := Work) T22.und T22.size (hw.to K1) (by omega) (by omega))) <| s_val (x_fa (a := vat vw 3 (Int.toNat ((orderP ws).getD k 0))) (v := fat (vat vw 3 (Int.toNat ((orderP ws).getD k 0))) 1) rfl (fa_pl Fd60_1 Sz3 (Sl.pl (i := (orderP ws).getD k 0) hw (by omega) (by omega)))) <| s_val (x_ld (p := fat (vat vw 3 (Int.toNat ((orderP ws).getD k 0))) 1) (v := I ((ws.getD (Int.toNat ((orderP ws).getD k 0)) default).base)) rfl (ld_sc Sc3 (At.to (Work_at1 hw (i := (orderP ws).getD k 0) (by omega) (by omega)) K1))) <| sA (I ((ws.getD (Int.toNat ((orderP ws).getD k 0)) default).base)) rfl <| s_nil <| W.seq <| W.seq ?_
  refine W.region rfl <| s_val (x_ld (p := Pz b2) (v := vw) rfl (ldb_sc Sc22 aa rfl)) <| sM (I ((orderP ws).getD k 0)) rfl <| s_val (x_ix (a := vw) (b := I ((orderP ws).getD k 0)) (v := vat vw 3 (Int.toNat ((orderP ws).getD k 0))) rfl rfl (Sl.ix (α := Work) T22.und T22.size (hw.to K1) (by omega) (by omega))) <| s_val (x_fa (a := vat vw 3 (Int.toNat ((orderP ws).getD k 0))) (v := fat (vat vw 3 (Int.toNat ((orderP ws).getD k 0))) 0) rfl (fa_pl Fd60_0 Sz34 (Sl.pl (i := (orderP ws).getD k 0) hw (by omega) (by omega)))) ?_
  obtain ⟨aX, bM, aY⟩ := Work_at0 hw (i := (orderP ws).getD k 0) (by omega) (by omega)
  replace aY : Sl _ aX (ws.getD (Int.toNat ((orderP ws).getD k 0)) default).of := aY
  have ct := aY.len_le
  refine s_val (x_ld (p := fat (vat vw 3 (Int.toNat ((orderP ws).getD k 0))) 0) (v := aX) rfl (ld_sc Sc34 (At.to bM K1))) <| s_val (x_lenS T34.und rfl (aY.to K1)) <| sM (I 0) rfl <| s_nil <| W.block ?_
  have hkv := known_vals bn (O := valF ws (newF (l.take i)) ((orderP ws).take k) (List.replicate ws.length (-1))) hob (by intro q hq; have h1 := hof q hq; have h2 := hol; omega)
  refine W.loop (fun m σ W => ∃ (j : Nat) (ρ : Env), σ = upds ρ [(2, Pz b2), (9, .map (some ao)), (16, Pz aj), (18, I ((orderP ws).getD k 0)), (21, I (sumV (valF ws (newF (l.take i)) ((orderP ws).take k) (List.replicate ws.length (-1))) (ws.getD (Int.toNat ((orderP ws).getD k 0)) default).base (ws.getD (Int.toNat ((orderP ws).getD k 0)) default).of j)), (106, am), (107, I ((orderP ws).length)), (108, I k), (132, gd (!(((((ws.getD (Int.toNat ((orderP ws).getD k 0)) default).of).length) : Int) == 0)) (.func (.func 88) #[] #[Pz aj])), (133, gd (!(((((ws.getD (Int.toNat ((orderP ws).getD k 0)) default).of).length) : Int) == 0)) vw), (134, gd (!(((((ws.getD (Int.toNat ((orderP ws).getD k 0)) default).of).length) : Int) == 0)) (I ((orderP ws).getD k 0))), (135, gd (!(((((ws.getD (Int.toNat ((orderP ws).getD k 0)) default).of).length) : Int) == 0)) (vat vw 3 (Int.toNat ((orderP ws).getD k 0)))), (136, gd (!(((((ws.getD (Int.toNat ((orderP ws).getD k 0)) default).of).length) : Int) == 0)) (fat (vat vw 3 (Int.toNat ((orderP ws).getD k 0))) 0)), (137, gd (!(((((ws.getD (Int.toNat ((orderP ws).getD k 0)) default).of).length) : Int) == 0)) ba), (138, gd (!(((((ws.getD (Int.toNat ((orderP ws).getD k 0)) default).of).length) : Int) == 0)) (B (((ws.getD (Int.toNat ((orderP ws).getD k 0)) default).of).all (fun z_ : Int => (valF ws (newF (l.take i)) ((orderP ws).take k) (List.replicate ws.length (-1))).getD z_.toNat 0 != -1)))), (139, gd (!(((((ws.getD (Int.toNat ((orderP ws).getD k 0)) default).of).length) : Int) == 0)) (B (!(((ws.getD (Int.toNat ((orderP ws).getD k 0)) default).of).all (fun z_ : Int => (valF ws (newF (l.take i)) ((orderP ws).take k) (List.replicate ws.length (-1))).getD z_.toNat 0 != -1))))), (150, aX), (151, I (((ws.getD (Int.toNat ((orderP ws).getD k 0)) default).of).length)), (152, I j)] /\ m = (ws.getD (Int.toNat ((orderP ws).getD k 0)) default).of.length - j /\ Ext w W /\ KF 0 w W /\ KF w3.heap.size w4 W /\ W.heap[b2]? = some (.cells #[vw] 22 (0, 0)) /\ W.heap[b9]? = some (.cells #[vw] 187 (0, 0)) /\ W.heap[ao]? = some (.map es_b23 ck_b23) /\ W.heap[aj]? = some (.cells #[vo] 34 (0, 0)) /\ W.heap[aS]? = some (.cells #[I ((((newF (l.take i)) ((orderP ws).getD k 0)).getD default).work), I ((((newF (l.take i)) ((orderP ws).getD k 0)).getD default).version), I ((((newF (l.take i)) ((orderP ws).getD k 0)).getD default).value)] 30 (0, 0)) /\ aM.heap.size <= W.heap.size /\ OwnF aM.heap.size 3 W vo (valF ws (newF (l.take i)) ((orderP ws).take k) (List.replicate ws.length (-1))) /\ j <= (ws.getD (Int.toNat ((orderP ws).getD k 0)) default).of.length) ?_ ?_
  ·exact ⟨_, 0, _, upds_of _ _ ⟨rfl, rfl, rfl, rfl, rfl, rfl, rfl, rfl, rfl, rfl, rfl, rfl, rfl, rfl, rfl, rfl, rfl, rfl, (eqI (by omega)), trivial⟩, rfl, E, K1, K14, aa, ab, ac, ae, al, ah, ag, (Nat.zero_le _)⟩
  rintro m σ cu ⟨j, ρ, rfl, rfl, E, K1, K14, aa, ab, ac, ae, al, ah, ag, bz⟩
  have bJ := sumV_b (out := valF ws (newF (l.take i)) ((orderP ws).take k) (List.replicate ws.length (-1))) (base := (ws.getD (Int.toNat ((orderP ws).getD k 0)) default).base) (of := (ws.getD (Int.toNat ((orderP ws).getD k 0)) default).of) ⟨bj.1, bj.2.1⟩ ho5 hkv j bz
  refine sQ rfl <| sC j (((ws.getD (Int.toNat ((orderP ws).getD k 0)) default).of).length) (decide ((j : Int) < (((ws.getD (Int.toNat ((orderP ws).getD k 0)) default).of).length))) rfl rfl rfl <| s_nil <| W.seq ?_
  refine W.cond (decide ((j : Int) < (((ws.getD (Int.toNat ((orderP ws).getD k 0)) default).of).length))) rfl (fun aZ => ?_) (fun aZ => ?_)
  ·simp only [qz1, qz2, qz3, qz4, qz5, qz6, ne_eq, qz7] at aZ
   have hj := hof _ (getD_memN _ aZ 0)
   have hjv := hkv _ (getD_memN _ aZ 0)
   have hpr := prod_b (a := (j : Int) + 1) (by omega) (by omega) hjv.1 hjv.2
   refine W.skip <| W.seq <| W.block <| sQ rfl <| sM (I j) rfl <| s_val (x_ix (a := aX) (b := I j) (v := vat aX 1 (Int.toNat j)) rfl rfl (Sl.ix (α := Int) T34.und T34.size (aY.to K1) (by omega) (by omega))) <| s_val (x_ld (p := vat aX 1 (Int.toNat j)) (v := I (((ws.getD (Int.toNat ((orderP ws).getD k 0)) default).of).getD j 0)) rfl (ld_sc Sc3 (At.to (Int_at aY (i := j) (by omega) (by omega)) K1))) <| sA (I j) rfl <| sA (I (((ws.getD (Int.toNat ((orderP ws).getD k 0)) default).of).getD j 0)) rfl <| s_nil <| W.region rfl ?_
   refine sM (I (sumV (valF ws (newF (l.take i)) ((orderP ws).take k) (List.replicate ws.length (-1))) (ws.getD (Int.toNat ((orderP ws).getD k 0)) default).base (ws.getD (Int.toNat ((orderP ws).getD k 0)) default).of j)) rfl <| sM (I j) rfl <| sR j 1 (j + 1) rfl rfl rfl (by omega) <| s_val (x_ld (p := Pz aj) (v := vo) rfl (ldb_sc Sc34 ae rfl)) <| sM (I (((ws.getD (Int.toNat ((orderP ws).getD k 0)) default).of).getD j 0)) rfl <| s_val (x_ix (a := vo) (b := I (((ws.getD (Int.toNat ((orderP ws).getD k 0)) default).of).getD j 0)) (v := vat vo 1 (Int.toNat (((ws.getD (Int.toNat ((orderP ws).getD k 0)) default).of).getD j 0))) rfl rfl (Sl.ix (α := Int) T34.und T34.size (ag.sl.mono (frm_le _ _)) (by omega) (by omega))) <| s_val (x_ld (p := vat vo 1 (Int.toNat (((ws.getD (Int.toNat ((orderP ws).getD k 0)) default).of).getD j 0))) (v := I ((valF ws (newF (l.take i)) ((orderP ws).take k) (List.replicate ws.length (-1))).getD (Int.toNat (((ws.getD (Int.toNat ((orderP ws).getD k 0)) default).of).getD j 0)) 0)) rfl (ld_sc Sc3 (At.up (Int_at ag.sl (i := ((ws.getD (Int.toNat ((orderP ws).getD k 0)) default).of).getD j 0) (by omega) (by omega))))) <| sR (j + 1) ((valF ws (newF (l.take i)) ((orderP ws).take k) (List.replicate ws.length (-1))).getD (Int.toNat (((ws.getD (Int.toNat ((orderP ws).getD k 0)) default).of).getD j 0)) 0) ((j + 1) * ((valF ws (newF (l.take i)) ((orderP ws).take k) (List.replicate ws.length (-1))).getD (Int.toNat (((ws.getD (Int.toNat ((orderP ws).getD k 0)) default).of).getD j 0)) 0)) rfl rfl rfl (by omega) <| sR (sumV (valF ws (newF (l.take i)) ((orderP ws).take k) (List.replicate ws.length (-1))) (ws.getD (Int.toNat ((orderP ws).getD k 0)) default).base (ws.getD (Int.toNat ((orderP ws).getD k 0)) default).of j) ((j + 1) * ((valF ws (newF (l.take i)) ((orderP ws).take k) (List.replicate ws.length (-1))).getD (Int.toNat (((ws.getD (Int.toNat ((orderP ws).getD k 0)) default).of).getD j 0)) 0)) ((sumV (valF ws (newF (l.take i)) ((orderP ws).take k) (List.replicate ws.length (-1))) (ws.getD (Int.toNat ((orderP ws).getD k 0)) default).base (ws.getD (Int.toNat ((orderP ws).getD k 0)) default).of j) + ((j + 1) * ((valF ws (newF (l.take i)) ((orderP ws).take k) (List.replicate ws.length (-1))).getD (Int.toNat (((ws.getD (Int.toNat ((orderP ws).getD k 0)) default).of).getD j 0)) 0))) rfl rfl rfl (by omega) <| sA (I ((sumV (valF ws (newF (l.take i)) ((orderP ws).take k) (List.replicate ws.length (-1))) (ws.getD (Int.toNat ((orderP ws).getD k 0)) default).base (ws.getD (Int.toNat ((orderP ws).getD k 0)) default).of j) + ((j + 1) * ((valF ws (newF (l.take i)) ((orderP ws).take k) (List.replicate ws.length (-1))).getD (Int.toNat (((ws.getD (Int.toNat ((orderP ws).getD k 0)) default).of).getD j 0)) 0)))) rfl <| s_nil <| W.region rfl ?_
   refine sR j 1 (j + 1) rfl rfl rfl (by omega) <| sM (I (j + 1)) rfl <| s_nil ?_
   exact ⟨_, (by omega), j+1, _, upds_of _ _ ⟨rfl, rfl, rfl, rfl, rfl, rfl, rfl, rfl, rfl, rfl, rfl, rfl, rfl, rfl, rfl, rfl, rfl, rfl, (eqI (by omega)), trivial⟩, rfl, E, K1, K14, aa, ab, ac, ae, al, ah, ag, (by omega)⟩
  simp only [qz1, qz2, qz3, qz4, qz5, qz6, ne_eq, qz7] at aZ
  refine W.exit ?_
  refine W.region rfl <| s_val (x_ld (p := Pz aj) (v := vo) rfl (ldb_sc Sc34 ae rfl)) <| sM (I ((orderP ws).getD k 0)) rfl <| sM (I (sumV (valF ws (newF (l.take i)) ((orderP ws).take k) (List.replicate ws.length (-1))) (ws.getD (Int.toNat ((orderP ws).getD k 0)) default).base (ws.getD (Int.toNat ((orderP ws).getD k 0)) default).of j)) rfl <| s_val (x_rem' (a := sumV (valF ws (newF (l.take i)) ((orderP ws).take k) (List.replicate ws.length (-1))) (ws.getD (Int.toNat ((orderP ws).getD k 0)) default).base (ws.getD (Int.toNat ((orderP ws).getD k 0)) default).of j) (b := 1000003) rfl rfl (by omega)) <| s_val (x_ix (a := vo) (b := I ((orderP ws).getD k 0)) (v := vat vo 1 (Int.toNat ((orderP ws).getD k 0))) rfl rfl (Sl.ix (α := Int) T34.und T34.size (ag.sl.mono (frm_le _ _)) (by omega) (by omega))) ?_
  refine s_ost ag Sz3 (i := (orderP ws).getD k 0) (by omega) (by omega) ((sumV (valF ws (newF (l.take i)) ((orderP ws).take k) (List.replicate ws.length (-1))) (ws.getD (Int.toNat ((orderP ws).getD k 0)) default).base (ws.getD (Int.toNat ((orderP ws).getD k 0)) default).of j) % 1000003 : Int) (val := I ((sumV (valF ws (newF (l.take i)) ((orderP ws).take k) (List.replicate ws.length (-1))) (ws.getD (Int.toNat ((orderP ws).getD k 0)) default).base (ws.getD (Int.toNat ((orderP ws).getD k 0)) default).of j) % 1000003)) rfl rfl rfl ?_
  intro cv ho2 aA
  replace E := E.grow aA (by omega)
  replace ah := Nat.le_trans ah aA.size
  replace K1 := K1.grow aA (by omega)
  replace K14 := K14.grow aA (by omega)
  replace aa := aA.get n_vo_b2 aa
  replace ab := aA.get n_vo_b9 ab
  replace ac := aA.get n_vo_b23 ac
  replace ae := aA.get n_vo_b60 ae
  replace al := aA.get n_vo_b66 al
  replace ag := ho2
  clear aA
  refine s_nil <| W.region rfl <| sR k 1 (k + 1) rfl rfl rfl (by omega) <| sM (I (k + 1)) rfl <| s_nil ?_
  exact ⟨_, (by omega), k+1, vo, _, upds_of _ _ ⟨rfl, rfl, rfl, rfl, rfl, (eqI (by omega)), trivial⟩, rfl, E, K1, K14, aa, ab, ac, ae, ah, (by rw [valF_next _ _ _ _ aN, val_set (noteV_no aT) bn aZ bz]; exact ag), n_vo_b2, n_vo_b9, n_vo_b23, n_vo_b60, (by omega)⟩
 simp only [qz1, qz2, qz3, qz4, qz5, qz6, ne_eq, qz7] at aN
 refine W.exit ?_
 refine sQ rfl <| s_val (x_ld (p := Pz aj) (v := vo) rfl (ldb_sc Sc34 ae rfl)) <| sA vo rfl <| sA (I 0) rfl <| s_nil ?_
 refine W.ret ?_
 exact ⟨_, resE_tmp2 rfl, vo, (by rw [(v_ok hO ap aB aC aD bu bg).1]; rfl), (by have hq := (ag.dn (B' := w.heap.size) (by omega)).sl; rw [(v_ok hO ap aB aC aD bu bg).2]; rw [List.take_of_length_le (l := l) (by omega), List.take_of_length_le (l := orderP ws) (by omega)] at hq; exact hq), E⟩

end Go.Proofs.Ytndobgodeicloaa
end
section
set_option maxRecDepth 100000
set_option maxHeartbeats 16000000
namespace Go.Proofs.Ytndobgodeicloaa
open Go Go.Nm
theorem withdrawn1 {b : Nat} {vw : Value} {ws : List Work} (x : Pub) (w : World) (aa : w.heap[b]? = some (.cells #[vw] 22 (0, 0))) (hw : Sl w.cell? vw ws) : Ret Try.prog 91 #[.agg #[I x.work, I x.value], Pz b] w fun v w' => v = B (inB x.work 0 ((ws.length : Int) - 1)) /\ Ext w w' := by
 refine ret_of_W Try.func91 rfl rfl rfl ?_
 have E := Ext.refl w
 have K1 := KF.refl 0 w
 have ac := hw.len_le
 have hw := hw.par
 refine sQ rfl ?_
 refine s_box (v := .agg #[I x.work, I x.value]) (cs := [I x.work, I x.value]) rfl rfl ?_
 intro b2 w3 Nb2
 have o_K1_b2 := Nat.le_trans K1.size Nb2.ge
 have o_b2 := Nat.le_trans E.size Nb2.ge
 have o_b_b2 := Nat.lt_of_lt_of_le (heap_lt aa) Nb2.ge
 replace E := E.trans Nb2.ext
 replace K1 := K1.ext Nb2.ext
 replace aa := Nb2.ext.get aa
 have ab := Nb2.same
 clear Nb2
 refine sA (B false) rfl <| s_nil <| sQ rfl <| s_val (x_fa (a := Pz b2) (v := Pz b2) rfl (fa_blk (o := 0) Fd33_0 Sz3)) <| s_val (x_ld (p := Pz b2) (v := I x.work) rfl (ldb_sc Sc3 ab rfl)) <| s_val (x_ld (p := Pz b) (v := vw) rfl (ldb_sc Sc22 aa rfl)) <| s_val (x_lenS T22.und rfl (hw.to K1)) <| sR ws.length 1 (ws.length - 1) rfl rfl rfl (by omega) ?_
 refine s_call cf84 [I x.work, I 0, I (ws.length - 1)] rfl (in_any _ _ _ _) ?_
 rintro _ w4 ⟨rfl, x5⟩
 replace E := E.trans x5
 replace K1 := K1.ext x5
 replace aa := x5.get aa
 replace ab := x5.get ab
 clear x5
 refine sA (B (inB x.work 0 (ws.length - 1))) rfl <| s_nil ?_
 refine W.ret ?_
 exact ⟨_, resE_tmp rfl, rfl, E⟩

theorem Withdrawn_any {vw vl vp : Value} {ws : List Work} {l : List Note} {p : List Pub} (w : World) (hw : Sl w.cell? vw ws) (hl : Sl w.cell? vl l) (hp : Sl w.cell? vp p) : Ret Try.prog 26 #[vw, vl, vp] w fun v w' => ∃ u, v = .tuple #[u, I (withdrawnE ws l p)] /\ Sl (frm w' w.heap.size) u (withdrawnR ws l p) /\ Ext w w' := by
 refine ret_of_W Try.func26 rfl rfl rfl ?_
 have E := Ext.refl w
 have K1 := KF.refl 0 w
 have aE := hw.len_le
 have hw := hw.par
 have aF := hl.len_le
 have hl := hl.par
 have aG := hp.len_le
 have hp := hp.par
 refine sQ rfl ?_
 refine s_box (v := vw) (cs := [vw]) rfl (Sl.cells (hw.to K1)) ?_
 intro b2 w3 Nb2
 have o_K1_b2 := Nat.le_trans K1.size Nb2.ge
 have o_b2 := Nat.le_trans E.size Nb2.ge
 replace E := E.trans Nb2.ext
 replace K1 := K1.ext Nb2.ext
 have aa := Nb2.same
 clear Nb2
 refine sA (.slice none 0 0) rfl <| sA (I 0) rfl <| s_nil <| sQ rfl <| s_val (x_ld (p := Pz b2) (v := vw) rfl (ldb_sc Sc22 aa rfl)) <| sM vl rfl ?_
 refine s_call cf21 [vw, vl] rfl (Values_any _ (hw.to K1) (hl.to K1)) ?_
 rintro _ w4 ⟨u6, rfl, ap, x5⟩
 replace E := E.trans x5
 replace K1 := K1.ext x5
 replace aa := x5.get aa
 clear x5
 have aH := ap.len_le
 have K8 := KF.refl w3.heap.size w4
 refine sM (.tuple #[u6, I (valuesE ws l)]) rfl <| sX [u6, I (valuesE ws l)] u6 rfl rfl <| sX [u6, I (valuesE ws l)] (I (valuesE ws l)) rfl rfl <| sA u6 rfl <| sA (I (valuesE ws l)) rfl <| s_nil <| W.seq <| W.block <| sQ rfl <| sM (I (valuesE ws l)) rfl <| sC (valuesE ws l) 0 ((valuesE ws l : Int) != 0) rfl rfl rfl ?_
 refine sA (B ((valuesE ws l : Int) != 0)) rfl <| s_nil ?_
 refine W.cond ((valuesE ws l : Int) != 0) rfl (fun c9 => ?_) (fun c9 => ?_)
 ·simp only [qz1, qz2, qz3, qz4, qz5, qz6, ne_eq, qz7] at c9
  refine sQ rfl <| sM (I (valuesE ws l)) rfl <| sA (.slice none 0 0) rfl <| sA (I (valuesE ws l)) rfl <| s_nil ?_
  refine W.ret ?_
  exact ⟨_, resE_tmp2 rfl, .slice none 0 0, (by rw [w_wrong c9]; rfl), (by rw [w_err (w_wrong c9) (by first | decide | exact c9)]; exact Sl.nil _), E⟩
 simp only [qz1, qz2, qz3, qz4, qz5, qz6, ne_eq, qz7] at c9
 have hvl := valuesR_len c9
 refine sQ rfl <| sM vp rfl <| s_val (x_lenS T24.und rfl (hp.to K1)) <| sC p.length 200 (decide ((200 : Int) < p.length)) rfl rfl rfl <| sA (B (decide ((200 : Int) < p.length))) rfl <| s_nil ?_
 refine W.cond (decide ((200 : Int) < p.length)) rfl (fun ah => ?_) (fun ah => ?_)
 ·simp only [qz1, qz2, qz3, qz4, qz5, qz6, ne_eq, qz7] at ah
  refine sQ rfl <| sA (.slice none 0 0) rfl <| sA (I 3) rfl <| s_nil ?_
  refine W.ret ?_
  exact ⟨_, resE_tmp2 rfl, .slice none 0 0, (by rw [w_many c9 ah]; rfl), (by rw [w_err (w_many c9 ah) (by first | decide | exact c9)]; exact Sl.nil _), E⟩
 simp only [qz1, qz2, qz3, qz4, qz5, qz6, ne_eq, qz7] at ah
 refine sQ rfl <| s_val (x_mf (fs := []) (cs := [Pz b2]) rfl rfl) <| sM vp rfl ?_
 refine s_call cf90 [.func (.func 91) #[] #[Pz b2], vp] rfl (every_Pub _ (hp.to K1) ⟨91, [Pz b2], rfl, cf91, fun w' v x hE hD hA => by obtain rfl := Pub_arg hA; exact (withdrawn1 _ _ (hE.get aa) ((hw.to K1).mono hE.le))⟩) ?_
 rintro _ au ⟨rfl, aq⟩
 replace E := E.trans aq
 replace K1 := K1.ext aq
 replace K8 := K8.ext aq
 replace aa := aq.get aa
 clear aq
 refine s_val (x_not (b := p.all (fun x : Pub => inB x.work 0 ((ws.length : Int) - 1))) rfl) <| sA (B (!(p.all (fun x : Pub => inB x.work 0 ((ws.length : Int) - 1))))) rfl <| s_nil ?_
 refine W.cond (!(p.all (fun x : Pub => inB x.work 0 ((ws.length : Int) - 1)))) rfl (fun am => ?_) (fun am => ?_)
 ·skip
  refine sQ rfl <| sA (.slice none 0 0) rfl <| sA (I 2) rfl <| s_nil ?_
  refine W.ret ?_
  exact ⟨_, resE_tmp2 rfl, .slice none 0 0, (by rw [w_arg c9 ah am]; rfl), (by rw [w_err (w_arg c9 ah am) (by first | decide | exact c9)]; exact Sl.nil _), E⟩
 skip
 refine W.skip <| sQ rfl <| sA (.slice none 0 0) rfl <| s_nil <| W.seq <| sQ rfl <| sM vp rfl <| s_val (x_lenS T24.und rfl (hp.to K1)) <| sM (I 0) rfl <| s_nil ?_
 refine W.block ?_
 have ae := Nat.le_refl au.heap.size
 have B_vo := E.size
 have B_vo_K1 := K1.size
 have B_vo_K8 := K8.size
 have B_vo_b2 := heap_lt aa
 refine W.loop (fun m σ W => ∃ (i : Nat) (vo : Value) (ρ : Env), σ = upds ρ [(8, u6), (10, vo), (32, vp), (33, I p.length), (34, I i)] /\ m = p.length - i /\ Ext w W /\ KF 0 w W /\ KF w3.heap.size w4 W /\ W.heap[b2]? = some (.cells #[vw] 22 (0, 0)) /\ au.heap.size <= W.heap.size /\ OwnF au.heap.size 3 W vo (wdT (valuesR ws l) p i) /\ vo.ownBlock ≠ some b2 /\ i <= p.length) ?_ ?_
 ·exact ⟨_, 0, .slice none 0 0, _, upds_of _ _ ⟨rfl, rfl, rfl, rfl, (eqI (by omega)), trivial⟩, rfl, E, K1, K8, aa, ae, (OwnF.nil _ _ _), by simp [Value.ownBlock], (Nat.zero_le _)⟩
 rintro m σ aI ⟨i, vo, ρ, rfl, rfl, E, K1, K8, aa, ae, ab, n_vo_b2, ax⟩
 have hwl := wdT_len (valuesR ws l) p i
 refine sQ rfl <| sC i p.length (decide ((i : Int) < p.length)) rfl rfl rfl <| s_nil <| W.seq ?_
 refine W.cond (decide ((i : Int) < p.length)) rfl (fun ao => ?_) (fun ao => ?_)
 ·simp only [qz1, qz2, qz3, qz4, qz5, qz6, ne_eq, qz7] at ao
  have hpr := pub_rng am ao
  refine W.skip <| W.seq <| W.block <| sQ rfl <| sM (I i) rfl <| s_val (x_ix (a := vp) (b := I i) (v := vat vp 2 (Int.toNat i)) rfl rfl (Sl.ix (α := Pub) T24.und T24.size (hp.to K1) (by omega) (by omega))) <| s_val (x_ld (p := vat vp 2 (Int.toNat i)) (v := .agg #[I ((p.getD i default).work), I ((p.getD i default).value)]) rfl (ld_ag Ag33 Sz33 (At.to (Pub_atA hp (i := i) (by omega) (by omega)) K1))) ?_
  refine s_alloc (cs := [I 0, I 0]) Al33 rfl ?_
  intro ag aJ Nb17
  have o_K1_b17 := Nat.le_trans K1.size Nb17.ge
  have o_K8_b17 := Nat.le_trans K8.size Nb17.ge
  have o_b17 := Nat.le_trans E.size Nb17.ge
  have o_b2_b17 := Nat.lt_of_lt_of_le (heap_lt aa) Nb17.ge
  have n_vo_b17 := ab.ne Nb17.ge
  replace E := E.trans Nb17.ext
  replace ae := Nat.le_trans ae Nb17.ext.size
  replace K1 := K1.ext Nb17.ext
  replace K8 := K8.ext Nb17.ext
  replace aa := Nb17.ext.get aa
  replace ab := ab.ext Nb17.ext
  have ac := Nb17.same
  clear Nb17
  refine sA (I i) rfl ?_
  refine s_st (b := ag) (off := 0) (vs := [I ((p.getD i default).work), I ((p.getD i default).value)]) (cs' := [I ((p.getD i default).work), I ((p.getD i default).value)]) (v := .agg #[I ((p.getD i default).work), I ((p.getD i default).value)]) rfl rfl Sz33 ac rfl rfl rfl rfl rfl ?_
  intro aK ai
  replace E := E.put (by omega) ai
  replace ae := Nat.le_trans ae (Nat.le_of_eq ai.size.symm)
  replace K1 := K1.put ai (by omega)
  replace K8 := K8.put ai (by omega)
  replace aa := ai.get (by omega) aa
  replace ab := ab.put ai n_vo_b17
  replace ac := ai.same
  clear ai
  refine s_nil <| W.seq ?_
  refine W.draw (fun W => Ext w W /\ KF 0 w W /\ KF w3.heap.size w4 W /\ W.heap[b2]? = some (.cells #[vw] 22 (0, 0)) /\ W.heap[ag]? = some (.cells #[I ((p.getD i default).work), I ((p.getD i default).value)] 33 (0, 0)) /\ OwnF au.heap.size 3 W vo (wdT (valuesR ws l) p i)) [(0, true), (1, true), (2, true), (3, true), (4, true), (5, true), (6, true), (7, true), (8, true), (9, true), (10, true), (11, true), (12, true), (13, true), (14, true), (15, true)] mixed (by decide +kernel) rfl ?_
  intro ay aj
  replace E := E.trans aj
  replace ae := Nat.le_trans ae aj.size
  replace K1 := K1.ext aj
  replace K8 := K8.ext aj
  replace aa := aj.get aa
  replace ac := aj.get ac
  replace ab := ab.ext aj
  clear aj
  refine ⟨⟨E, K1, K8, aa, ac, ab⟩, ?_⟩
  refine d_q rfl (fun w' hC => by obtain ⟨E, K1, K8, aa, ac, ab⟩ := hC; exact x_mv (v := u6) rfl) ?_
  refine d_q rfl (fun w' hC => by obtain ⟨E, K1, K8, aa, ac, ab⟩ := hC; exact x_fa (a := Pz ag) (v := Pz ag) rfl (fa_blk (o := 0) Fd33_0 Sz3)) ?_
  refine d_q rfl (fun w' hC => by obtain ⟨E, K1, K8, aa, ac, ab⟩ := hC; exact x_ld (p := Pz ag) (v := I ((p.getD i default).work)) rfl (ldb_sc Sc3 ac rfl)) ?_
  refine d_q rfl (fun w' hC => by obtain ⟨E, K1, K8, aa, ac, ab⟩ := hC; exact x_ix (a := u6) (b := I ((p.getD i default).work)) (v := vat u6 1 (Int.toNat ((p.getD i default).work))) rfl rfl (Sl.ix (α := Int) T34.und T34.size (ap.to K8) (by omega) (by omega))) ?_
  refine d_q rfl (fun w' hC => by obtain ⟨E, K1, K8, aa, ac, ab⟩ := hC; exact x_ld (p := vat u6 1 (Int.toNat ((p.getD i default).work))) (v := I ((valuesR ws l).getD (Int.toNat ((p.getD i default).work)) 0)) rfl (ld_sc Sc3 (At.to (Int_at ap (i := (p.getD i default).work) (by omega) (by omega)) K8))) ?_
  refine d_q rfl (fun w' hC => by obtain ⟨E, K1, K8, aa, ac, ab⟩ := hC; exact x_cmp (kd := .i64) (a := (valuesR ws l).getD (Int.toNat ((p.getD i default).work)) 0) (b := -1) (r := (((valuesR ws l).getD (Int.toNat ((p.getD i default).work)) 0) : Int) == (-1)) rfl rfl rfl) ?_
  refine d_q rfl (fun w' hC => by obtain ⟨E, K1, K8, aa, ac, ab⟩ := hC; exact x_mv (v := B ((((valuesR ws l).getD (Int.toNat ((p.getD i default).work)) 0) : Int) == (-1))) rfl) ?_
  refine d_qg (!((((valuesR ws l).getD (Int.toNat ((p.getD i default).work)) 0) : Int) == (-1))) rfl (gy_f rfl) (fun hg => (fun w' hC => by obtain ⟨E, K1, K8, aa, ac, ab⟩ := hC; exact x_mv (v := u6) rfl)) ?_
  refine d_qg (!((((valuesR ws l).getD (Int.toNat ((p.getD i default).work)) 0) : Int) == (-1))) rfl (gy_f rfl) (fun hg => (fun w' hC => by obtain ⟨E, K1, K8, aa, ac, ab⟩ := hC; exact x_fa (a := Pz ag) (v := Pz ag) rfl (fa_blk (o := 0) Fd33_0 Sz3))) ?_
  refine d_qg (!((((valuesR ws l).getD (Int.toNat ((p.getD i default).work)) 0) : Int) == (-1))) rfl (gy_f rfl) (fun hg => (fun w' hC => by obtain ⟨E, K1, K8, aa, ac, ab⟩ := hC; exact x_ld (p := Pz ag) (v := I ((p.getD i default).work)) (gd_of (c := !((((valuesR ws l).getD (Int.toNat ((p.getD i default).work)) 0) : Int) == (-1))) hg (Pz ag)) (ldb_sc Sc3 ac rfl))) ?_
  refine d_qg (!((((valuesR ws l).getD (Int.toNat ((p.getD i default).work)) 0) : Int) == (-1))) rfl (gy_f rfl) (fun hg => (fun w' hC => by obtain ⟨E, K1, K8, aa, ac, ab⟩ := hC; exact x_ix (a := u6) (b := I ((p.getD i default).work)) (v := vat u6 1 (Int.toNat ((p.getD i default).work))) (gd_of (c := !((((valuesR ws l).getD (Int.toNat ((p.getD i default).work)) 0) : Int) == (-1))) hg (u6)) (gd_of (c := !((((valuesR ws l).getD (Int.toNat ((p.getD i default).work)) 0) : Int) == (-1))) hg (I ((p.getD i default).work))) (Sl.ix (α := Int) T34.und T34.size (ap.to K8) (by first | omega | (simp at hg; omega) | (simp [inB] at hg; omega)) (by first | omega | (simp at hg; omega) | (simp [inB] at hg; omega))))) ?_
  refine d_qg (!((((valuesR ws l).getD (Int.toNat ((p.getD i default).work)) 0) : Int) == (-1))) rfl (gy_f rfl) (fun hg => (fun w' hC => by obtain ⟨E, K1, K8, aa, ac, ab⟩ := hC; exact x_ld (p := vat u6 1 (Int.toNat ((p.getD i default).work))) (v := I ((valuesR ws l).getD (Int.toNat ((p.getD i default).work)) 0)) (gd_of (c := !((((valuesR ws l).getD (Int.toNat ((p.getD i default).work)) 0) : Int) == (-1))) hg (vat u6 1 (Int.toNat ((p.getD i default).work)))) (ld_sc Sc3 (At.to (Int_at ap (i := (p.getD i default).work) (by first | omega | (simp at hg; omega) | (simp [inB] at hg; omega)) (by first | omega | (simp at hg; omega) | (simp [inB] at hg; omega))) K8)))) ?_
  refine d_qg (!((((valuesR ws l).getD (Int.toNat ((p.getD i default).work)) 0) : Int) == (-1))) rfl (gy_f rfl) (fun hg => (fun w' hC => by obtain ⟨E, K1, K8, aa, ac, ab⟩ := hC; exact x_fa (a := Pz ag) (v := Oz ag 1) rfl (fa_blk (o := 0) Fd33_1 Sz3))) ?_
  refine d_qg (!((((valuesR ws l).getD (Int.toNat ((p.getD i default).work)) 0) : Int) == (-1))) rfl (gy_f rfl) (fun hg => (fun w' hC => by obtain ⟨E, K1, K8, aa, ac, ab⟩ := hC; exact x_ld (p := Oz ag 1) (v := I ((p.getD i default).value)) (gd_of (c := !((((valuesR ws l).getD (Int.toNat ((p.getD i default).work)) 0) : Int) == (-1))) hg (Oz ag 1)) (ldb_sc Sc3 ac rfl))) ?_
  refine d_qg (!((((valuesR ws l).getD (Int.toNat ((p.getD i default).work)) 0) : Int) == (-1))) rfl (gy_f rfl) (fun hg => (fun w' hC => by obtain ⟨E, K1, K8, aa, ac, ab⟩ := hC; exact x_cmp (kd := .i64) (a := (valuesR ws l).getD (Int.toNat ((p.getD i default).work)) 0) (b := (p.getD i default).value) (r := (((valuesR ws l).getD (Int.toNat ((p.getD i default).work)) 0) : Int) != ((p.getD i default).value)) (gd_of (c := !((((valuesR ws l).getD (Int.toNat ((p.getD i default).work)) 0) : Int) == (-1))) hg (I ((valuesR ws l).getD (Int.toNat ((p.getD i default).work)) 0))) (gd_of (c := !((((valuesR ws l).getD (Int.toNat ((p.getD i default).work)) 0) : Int) == (-1))) hg (I ((p.getD i default).value))) rfl)) ?_
  refine d_q rfl (fun w' hC => by obtain ⟨E, K1, K8, aa, ac, ab⟩ := hC; exact x_por (b := (((valuesR ws l).getD (Int.toNat ((p.getD i default).work)) 0) : Int) == (-1)) (r := (((valuesR ws l).getD (Int.toNat ((p.getD i default).work)) 0) : Int) != ((p.getD i default).value)) rfl rfl (fun hb => gd_of (c := !((((valuesR ws l).getD (Int.toNat ((p.getD i default).work)) 0) : Int) == (-1))) (by simp_all) (B ((((valuesR ws l).getD (Int.toNat ((p.getD i default).work)) 0) : Int) != ((p.getD i default).value))))) ?_
  refine d_nil ?_
  refine W.cond ((((((valuesR ws l).getD (Int.toNat ((p.getD i default).work)) 0) : Int) == (-1)) || ((((valuesR ws l).getD (Int.toNat ((p.getD i default).work)) 0) : Int) != ((p.getD i default).value)))) rfl (fun av => ?_) (fun av => ?_)
  ·skip
   refine W.region rfl <| sM vo rfl <| sM (I i) rfl ?_
   refine s_bsl (α := Int) T34 ay.heap.size [I i] [(i : Int)] rfl (.cons rfl (Flat.rep_enc _ _) <| .nil) (Nat.le_refl _) rfl (by decide) (by decide) ?_
   intro aA aB aC ak nn_u24
   replace E := E.trans ak
   replace ae := Nat.le_trans ae ak.size
   replace K1 := K1.ext ak
   replace K8 := K8.ext ak
   replace aa := ak.get aa
   replace ac := ak.get ac
   replace ab := ab.ext ak
   clear ak
   have K28 := KF.refl ay.heap.size aB
   refine s_app (α := Int) (v := vo) (vy := aA) (l := wdT (valuesR ws l) p i) (l2 := [(i : Int)]) T34 rfl rfl ab (aC.to K28) (Cells.Le.refl _) ae (by first | omega | (simp only [List.length_append, List.length_cons, List.length_nil, List.length_set]; omega)) (by first | omega | (simp only [List.length_append, List.length_cons, List.length_nil, List.length_set]; omega)) ?_
   intro az aL aD al aw
   have n_v29_b17 := aw ag (heap_lt ac) n_vo_b17
   have n_v29_b2 := aw b2 (heap_lt aa) n_vo_b2
   replace E := E.grow al (by omega)
   replace ae := Nat.le_trans ae al.size
   replace K1 := K1.grow al (by omega)
   replace K8 := K8.grow al (by omega)
   replace aa := al.get n_vo_b2 aa
   replace ac := al.get n_vo_b17 ac
   clear al aw
   refine sA az rfl <| s_nil <| W.region rfl <| sR i 1 (i + 1) rfl rfl rfl (by omega) <| sM (I (i + 1)) rfl <| s_nil ?_
   exact ⟨_, (by omega), i+1, az, _, upds_of _ _ ⟨rfl, rfl, rfl, rfl, (eqI (by omega)), trivial⟩, rfl, E, K1, K8, aa, ae, (by rw [wdT_next, if_pos (show wdAt (valuesR ws l) (p.getD i default) = true from av)]; exact aD), n_v29_b2, (by omega)⟩
  skip
  refine W.skip <| W.region rfl <| sR i 1 (i + 1) rfl rfl rfl (by omega) <| sM (I (i + 1)) rfl <| s_nil ?_
  exact ⟨_, (by omega), i+1, vo, _, upds_of _ _ ⟨rfl, rfl, rfl, rfl, (eqI (by omega)), trivial⟩, rfl, E, K1, K8, aa, ae, (by rw [wdT_next, if_neg (by rw [show wdAt (valuesR ws l) (p.getD i default) = false from av]; decide)]; exact ab), n_vo_b2, (by omega)⟩
 simp only [qz1, qz2, qz3, qz4, qz5, qz6, ne_eq, qz7] at ao
 refine W.exit ?_
 refine sQ rfl <| sM vo rfl <| sA vo rfl <| sA (I 0) rfl <| s_nil ?_
 refine W.ret ?_
 exact ⟨_, resE_tmp2 rfl, vo, (by rw [(w_ok c9 ah am ao ax).1]; rfl), (by have hq := (ab.dn (B' := w.heap.size) (by omega)).sl; rw [(w_ok c9 ah am ao ax).2]; exact hq), E⟩

end Go.Proofs.Ytndobgodeicloaa
end
section
set_option maxRecDepth 100000
set_option maxHeartbeats 16000000
namespace Go.Proofs.Ytndobgodeicloaa
open Go Go.Nm
theorem copy_int {vl : Value} {l : List Int} (w : World) (hl : Sl w.cell? vl l) (aa : l.length <= 1000000) : Ret Try.prog 31 #[vl] w fun v w' => OwnF w.heap.size 3 w' v l /\ Ext w w' := by
 refine ret_of_W Try.func31 rfl rfl rfl ?_
 have E := Ext.refl w
 have K1 := KF.refl 0 w
 have ab := hl.len_le
 have hl := hl.par
 refine sQ rfl <| sA (.slice none 0 0) rfl <| s_nil <| sQ rfl <| sA (.slice none 0 0) rfl <| s_nil <| sQ rfl <| sM (.slice none 0 0) rfl <| sM vl rfl ?_
 refine s_app (α := Int) (v := .slice none 0 0) (vy := vl) (l := []) (l2 := l) T34 rfl rfl (OwnF.nil w.heap.size 3 w) (hl.to K1) (Cells.Le.refl _) (Nat.le_refl _) (by first | omega | (simp only [List.length_append, List.length_cons, List.length_nil, List.length_set]; omega)) (by first | omega | (simp only [List.length_append, List.length_cons, List.length_nil, List.length_set]; omega)) ?_
 intro v2 w3 ho4 g5 ne6
 have g5x : Ext w w3 := (Ext.refl _).grow g5 (Nat.le_refl _)
 have z7 := Nat.le_refl w.heap.size
 have B_v2 := E.size
 have B_v2_K1 := K1.size
 replace E := E.trans g5x
 replace z7 := Nat.le_trans z7 g5x.size
 replace K1 := K1.ext g5x
 simp only [List.nil_append] at ho4
 refine sA v2 rfl <| s_nil ?_
 refine W.ret ?_
 exact ⟨_, resE_tmp rfl, (ho4.dn (by omega)), E⟩

end Go.Proofs.Ytndobgodeicloaa
end
section
set_option maxRecDepth 100000
set_option maxHeartbeats 16000000
namespace Go.Proofs.Ytndobgodeicloaa
open Go Go.Nm
theorem same_int {va vb : Value} {a b : List Int} (w : World) (ha : Sl w.cell? va a) (hb : Sl w.cell? vb b) : Ret Try.prog 25 #[va, vb] w fun v w' => v = B (decide (a = b)) /\ Ext w w' := by
 refine ret_of_W Try.func25 rfl rfl rfl ?_
 have E := Ext.refl w
 have K1 := KF.refl 0 w
 have ab := ha.len_le
 have ha := ha.par
 have ac := hb.len_le
 have hb := hb.par
 refine sQ rfl <| sA (B false) rfl <| s_nil <| W.seq <| sQ rfl <| sM va rfl <| s_val (x_lenS T34.und rfl (ha.to K1)) <| sM vb rfl <| s_val (x_lenS T34.und rfl (hb.to K1)) <| sC a.length b.length ((a.length : Int) != b.length) rfl rfl rfl ?_
 refine s_nil ?_
 refine W.cond ((a.length : Int) != b.length) rfl (fun c2 => ?_) (fun c2 => ?_)
 ·simp only [qz1, qz2, qz3, qz4, qz5, qz6, ne_eq, qz7] at c2
  refine sQ rfl <| sA (B false) rfl <| s_nil ?_
  refine W.ret ?_
  exact ⟨_, resE_tmp rfl, (eqB (same_len c2)), E⟩
 simp only [qz1, qz2, qz3, qz4, qz5, qz6, ne_eq, qz7] at c2
 refine W.skip <| W.seq <| sQ rfl <| sA (I 0) rfl <| s_nil <| W.block ?_
 refine W.loop (fun m σ W => ∃ (k : Nat) (ρ : Env), σ = upds ρ [(0, va), (1, vb), (5, I k)] /\ m = a.length - k /\ Ext w W /\ KF 0 w W /\ k <= a.length /\ a.take k = b.take k) ?_ ?_
 ·exact ⟨_, 0, _, upds_of _ _ ⟨rfl, rfl, (eqI (by omega)), trivial⟩, rfl, E, K1, (Nat.zero_le _), rfl⟩
 rintro m σ w3 ⟨k, ρ, rfl, rfl, E, K1, ae, aa⟩
 refine W.seq <| sQ rfl <| sM (I k) rfl <| sM va rfl <| s_val (x_lenS T34.und rfl (ha.to K1)) <| sC k a.length (decide ((k : Int) < a.length)) rfl rfl rfl <| s_nil ?_
 refine W.cond (decide ((k : Int) < a.length)) rfl (fun c4 => ?_) (fun c4 => ?_)
 ·simp only [qz1, qz2, qz3, qz4, qz5, qz6, ne_eq, qz7] at c4
  refine W.skip <| W.seq <| W.block <| W.seq ?_
  refine W.draw (fun W => Ext w W /\ KF 0 w W) [(0, true), (1, true), (2, true), (3, true), (4, true), (5, true), (6, true), (7, true), (8, true)] mixed (by decide +kernel) rfl ?_
  intro w5 x6
  replace E := E.trans x6
  replace K1 := K1.ext x6
  clear x6
  refine ⟨⟨E, K1⟩, ?_⟩
  refine d_q rfl (fun w' hC => by obtain ⟨E, K1⟩ := hC; exact x_mv (v := va) rfl) ?_
  refine d_q rfl (fun w' hC => by obtain ⟨E, K1⟩ := hC; exact x_mv (v := I k) rfl) ?_
  refine d_q rfl (fun w' hC => by obtain ⟨E, K1⟩ := hC; exact x_ix (a := va) (b := I k) (v := vat va 1 (Int.toNat k)) rfl rfl (Sl.ix (α := Int) T34.und T34.size (ha.to K1) (by omega) (by omega))) ?_
  refine d_q rfl (fun w' hC => by obtain ⟨E, K1⟩ := hC; exact x_ld (p := vat va 1 (Int.toNat k)) (v := I (a.getD k 0)) rfl (ld_sc Sc3 (At.to (Int_at ha (i := k) (by omega) (by omega)) K1))) ?_
  refine d_q rfl (fun w' hC => by obtain ⟨E, K1⟩ := hC; exact x_mv (v := vb) rfl) ?_
  refine d_q rfl (fun w' hC => by obtain ⟨E, K1⟩ := hC; exact x_mv (v := I k) rfl) ?_
  refine d_q rfl (fun w' hC => by obtain ⟨E, K1⟩ := hC; exact x_ix (a := vb) (b := I k) (v := vat vb 1 (Int.toNat k)) rfl rfl (Sl.ix (α := Int) T34.und T34.size (hb.to K1) (by omega) (by omega))) ?_
  refine d_q rfl (fun w' hC => by obtain ⟨E, K1⟩ := hC; exact x_ld (p := vat vb 1 (Int.toNat k)) (v := I (b.getD k 0)) rfl (ld_sc Sc3 (At.to (Int_at hb (i := k) (by omega) (by omega)) K1))) ?_
  refine d_q rfl (fun w' hC => by obtain ⟨E, K1⟩ := hC; exact x_cmp (kd := .i64) (a := a.getD k 0) (b := b.getD k 0) (r := (a.getD k 0 : Int) != (b.getD k 0)) rfl rfl rfl) ?_
  refine d_nil ?_
  refine W.cond ((a.getD k 0 : Int) != (b.getD k 0)) rfl (fun c7 => ?_) (fun c7 => ?_)
  ·simp only [qz1, qz2, qz3, qz4, qz5, qz6, ne_eq, qz7] at c7
   refine sQ rfl <| sA (B false) rfl <| s_nil ?_
   refine W.ret ?_
   exact ⟨_, resE_tmp rfl, (eqB (same_ne (k := k) (0 : Int) c7)), E⟩
  simp only [qz1, qz2, qz3, qz4, qz5, qz6, ne_eq, qz7] at c7
  refine W.skip <| W.region rfl <| sM (I k) rfl <| sR k 1 (k + 1) rfl rfl rfl (by omega) <| sA (I (k + 1)) rfl <| s_nil ?_
  exact ⟨_, (by omega), k+1, _, upds_of _ _ ⟨rfl, rfl, (eqI (by omega)), trivial⟩, rfl, E, K1, (by omega), (same_step (0 : Int) (by omega) c4 aa (by first | omega | (simpa using c7)))⟩
 simp only [qz1, qz2, qz3, qz4, qz5, qz6, ne_eq, qz7] at c4
 refine W.exit ?_
 refine sQ rfl <| sA (B true) rfl <| s_nil ?_
 refine W.ret ?_
 exact ⟨_, resE_tmp rfl, (eqB (same_done (by omega) c4 aa)), E⟩

end Go.Proofs.Ytndobgodeicloaa
end
section
set_option maxRecDepth 100000
set_option maxHeartbeats 16000000
namespace Go.Proofs.Ytndobgodeicloaa
open Go Go.Nm
end Go.Proofs.Ytndobgodeicloaa
end
section
set_option maxRecDepth 100000
set_option maxHeartbeats 16000000
namespace Go.Proofs.Ytndobgodeicloaa
open Go Go.Nm
end Go.Proofs.Ytndobgodeicloaa
end
namespace Go.Nm
open Go
/-- A slice value, as a row's one cell. -/
structure SV where
  v : Value
  one : v.oneCell' = true
instance : Inhabited SV := ⟨⟨.bool false, rfl⟩⟩
instance : Flat SV where
  rep _ cs x := cs = [x.v]
  sz := 1
  agg := false
  sz_pos := by decide
  len := fun h => by subst h; rfl
  mono := fun _ h => h
  one := fun {_ _ x} h v hv => by subst h; simp at hv; subst hv; exact x.one
  enc x := [x.v]
  rep_iff := Iff.rfl
/-- All rows are the call's own, and no two share memory. -/
structure Mat (B : Nat) (e1 e2 : TypeId) (w : World) (v : Value) (M : List (List Bool)) : Prop where
  ex : ∃ vs : List SV, OwnF B e1 w v vs /\ vs.length = M.length /\ (∀ i, i < M.length -> OwnF B e2 w (vs.getD i default).v (M.getD i [])) ∧
    (∀ i j, i < M.length -> j < M.length -> i ≠ j -> ∀ g, (vs.getD i default).v.ownBlock = some g -> (vs.getD j default).v.ownBlock ≠ some g) ∧
    ∀ i, i < M.length -> ∀ g, (vs.getD i default).v.ownBlock = some g -> v.ownBlock ≠ some g
/-- Nothing below a block has changed. -/
structure MGrow (B : Nat) (w w' : World) : Prop where
  os : w'.os = w.os
  out : w'.output = w.output
  size : w.heap.size <= w'.heap.size
  blk : ∀ b, b < w.heap.size -> b < B -> w'.heap[b]? = w.heap[b]?
  fz : ∀ a, w'.frozen? a = w.frozen? a
theorem Grow.m {B : Nat} {v : Value} {w w' : World} (h : Grow B v w w') : MGrow B w w' := ⟨h.os, h.out, h.size, fun b hb hlt => h.blk b hb (h.ne hlt), h.fz⟩
theorem Ext.mgrow {w0 w w' : World} {B : Nat} (h : Ext w0 w) (k : MGrow B w w') (hB : w0.heap.size <= B) : Ext w0 w' :=
  ⟨k.os.trans h.os, k.out.trans h.out, Nat.le_trans h.size k.size, fun b hb => (k.blk b (Nat.lt_of_lt_of_le hb h.size) (by omega)).trans (h.blk b hb), fun a => (k.fz a).trans (h.fz a)⟩
theorem KF.mgrow {lo B : Nat} {a w c : World} (h : KF lo a w) (k : MGrow B w c) (hB : a.heap.size <= B) : KF lo a c :=
  ⟨Nat.le_trans h.size k.size, fun i hl hi => (k.blk i (Nat.lt_of_lt_of_le hi h.size) (by omega)).trans (h.blk i hl hi)⟩
section
variable {P : Program} {w : World} {B : Nat} {e1 e2 : TypeId} {v : Value} {M : List (List Bool)}
theorem Mat.nil (B : Nat) (e1 e2 : TypeId) (w : World) : Mat B e1 e2 w (.slice none 0 0) [] :=
  ⟨[], OwnF.nil _ _ _, rfl, fun i h => by simp at h, fun i j h => by simp at h, fun i h => by simp at h⟩
theorem Mat.ext {w' : World} (h : Mat B e1 e2 w v M) (k : Ext w w') : Mat B e1 e2 w' v M := by
  obtain ⟨vs, h1, h2, h3, h4, h5⟩ := h.ex
  exact ⟨vs, h1.ext k, h2, fun i hi => (h3 i hi).ext k, h4, h5⟩
theorem Mat.sl (h : Mat B e1 e2 w v M) : Sl (frm w B) v M := by
  obtain ⟨vs, h1, h2, h3, h4, h5⟩ := h.ex
  obtain ⟨a, c, hv, hc, hm, hh⟩ := h1.sl.ex
  refine ⟨a, c, by rw [hv, h2], by omega, hm, fun k x hx => ?_⟩
  have hk := (List.getElem?_eq_some_iff.1 hx).1
  obtain ⟨b, o, cs, ha, hr, hy⟩ := hh k (vs.getD k default) (getD_some vs (by omega) default)
  have hcs : cs = [(vs.getD k default).v] := hr
  have hx' : M.getD k [] = x := by simp [List.getD, hx]
  exact ⟨b, o, cs, ha, ⟨_, hcs, hx' ▸ (h3 k hk).sl⟩, hy⟩
/-- A row, when it is read. -/
theorem Mat.row (h : Mat B e1 e2 w v M) {i : Nat} (hi : i < M.length) : ∃ u, At (frm w B) (vat v 1 i) [u] /\ OwnF B e2 w u (M.getD i []) ∧
    ∀ {t : TypeId} (_ : (P.info? t).map (·.size) = some 1) {j : Nat} (_ : j < (M.getD i []).length) (b : Bool),
      ∃ w', (Instr.storeAt t (vat u 1 j) (.bool b)).run P w = .ok () w' /\ Mat B e1 e2 w' v (M.set i ((M.getD i []).set j b)) /\ MGrow B w w' := by
  obtain ⟨vs, h1, h2, h3, h4, h5⟩ := h.ex
  obtain ⟨cs, ha, hr⟩ := h1.sl.at (getD_some vs (k := i) (by omega) default)
  have hcs : cs = [(vs.getD i default).v] := hr
  subst hcs
  refine ⟨(vs.getD i default).v, ha, h3 i hi, fun {t} ht {j} hj b => ?_⟩
  obtain ⟨w', hs, ho, hg⟩ := (h3 i hi).store (P := P) (val := .bool b) ht hj b rfl
  refine ⟨w', hs, ⟨vs, ?_, by simpa using h2, fun k hk => ?_, fun k l hk hl => ?_, fun k hk => ?_⟩, hg.m⟩
  · refine h1.grow hg fun g hg' => ?_
    intro he
    exact h5 i hi g he hg'
  · simp only [List.length_set] at hk
    by_cases e : k = i
    · subst e
      rw [show (M.set k ((M.getD k []).set j b)).getD k [] = (M.getD k []).set j b from by simp [List.getD, hk]]
      exact ho
    · rw [show (M.set i ((M.getD i []).set j b)).getD k [] = M.getD k [] from by simp [List.getD, List.getElem?_set_ne (Ne.symm e)]]
      exact (h3 k hk).grow hg fun g hg' => h4 k i hk hi e g hg' |> fun h6 he => h6 he
  · simp only [List.length_set] at hk hl
    exact h4 k l hk hl
  · simp only [List.length_set] at hk
    exact h5 k hk
variable {all rest : List Oper} {Q : Post} {σ : Env} {d : Nat} {ty : TypeId} {pos : String} {af : Array Edge}
end
end Go.Nm
namespace Go.Nm
open Go
theorem Sep.set {w w' : World} {c c' : Chunk} (hx : c.ex = true) (kp : w.heap.size <= w'.heap.size) (hs : ∀ b, b < w.heap.size -> ¬ c.D b -> w'.heap[b]? = w.heap[b]?)
    (hD : ∀ b, c'.D b -> c.D b ∨ w.heap.size <= b) (ho : c'.ok w') : ∀ (k : Nat) (L : List Chunk), Sep w L -> L[k]? = some c -> Sep w' (L.set k c') := by
  intro k L
  induction L generalizing k with
  | nil => intro _ h; simp at h
  | cons d L ih =>
    intro hS hk
    obtain ⟨h1, h2, h3⟩ := hS
    cases k with
    | zero =>
      simp only [List.getElem?_cons_zero, Option.some.injEq] at hk
      subst hk
      refine ⟨ho, fun e he _ b hb hb' => ?_, h3.old kp fun e he b hb => ?_⟩
      · rcases hD b hb with hb | hb
        · exact h2 e he (by simp [hx]) b hb hb'
        · have := e.bd w b (h3.get he) hb'
          omega
      · exact hs b (e.bd w b (h3.get he) hb) (fun hc => h2 e he (by simp [hx]) b hc hb)
    | succ k =>
      simp only [List.getElem?_cons_succ] at hk
      have hmem : c ∈ L := List.mem_of_getElem? hk
      have had := h2 c hmem
      refine ⟨d.st _ _ h1 kp fun b hb => hs b (d.bd w b h1 hb) (fun hc => had (by simp [hx]) b hb hc), fun e he => ?_, ih k h3 hk⟩
      rcases List.mem_or_eq_of_mem_set he with he | rfl
      · exact h2 e he
      · intro _ b hb hb'
        rcases hD b hb' with hb' | hb'
        · exact had (by simp [hx]) b hb hb'
        · have := d.bd w b h1 hb
          omega
/-- Parts as one. -/
def cAll (Ls : List Chunk) : Chunk where
  D b := ∃ c, c ∈ Ls /\ c.D b
  ex := true
  ok w := Sep w Ls
  st w w' h hs k := h.old hs fun c hc b hb => k b ⟨c, hc, hb⟩
  bd w b h hb := by
    obtain ⟨c, hc, hd⟩ := hb
    exact c.bd w b (h.get hc) hd
section
variable {α : Type} [Flat α] {e1 e2 : TypeId} {v : Value} {us : List SV} {T : List (List α)} {w0 w : World} {L L' R : List Chunk}
variable {P : Program} {all rest : List Oper} {Q : Post} {σ : Env} {d : Nat} {ty : TypeId} {pos : String} {af : Array Edge}
end
end Go.Nm
namespace Go.Nm
open Go
/-! ### Parts as one, and one object -/
def cObj (b : Nat) (o : Obj) : Chunk where
  D k := k = b
  ex := true
  ok w := w.heap[b]? = some o
  st w w' h _ k := (k b rfl).trans h
  bd w k h e := by rw [e]; exact heap_lt h
/-- Blocks for calls that are put off; none is. -/
def cMk (Ds : List Nat) : Chunk where
  D k := k ∈ Ds
  ex := true
  ok w := Ds.Nodup /\ ∀ D ∈ Ds, w.heap[D]? = some (.deferred (some []))
  st w w' h _ k := ⟨h.1, fun D hD => (k D hD).trans (h.2 D hD)⟩
  bd w k h e := heap_lt (h.2 k e)
section
variable {w0 w w' : World} {L L' R A T : List Chunk}
theorem Sep.bundle (hx : ∀ c ∈ A, c.ex = true) (h : Sep w (A ++ T)) : Sep w (cAll A :: T) := by
  rw [Sep.iff] at h
  obtain ⟨h1, h2⟩ := h
  rw [List.pairwise_append] at h2
  refine ⟨?_, fun d hd _ b hb hb' => ?_, ?_⟩
  · show Sep w A
    rw [Sep.iff]
    exact ⟨fun c hc => h1 c (List.mem_append_left _ hc), h2.1⟩
  · obtain ⟨c, hc, hb⟩ := hb
    exact h2.2.2 c hc d hd (by rw [hx c hc]; rfl) b hb hb'
  · rw [Sep.iff]
    exact ⟨fun c hc => h1 c (List.mem_append_right _ hc), h2.2.1⟩
theorem Sep.unbundle (h : Sep w (cAll A :: T)) : Sep w (A ++ T) := by
  obtain ⟨h1, h2, h3⟩ := h
  have h1' : Sep w A := h1
  rw [Sep.iff] at h1' h3 ⊢
  refine ⟨fun c hc => ?_, List.pairwise_append.2 ⟨h1'.2, h3.2, fun a ha b hb hex k hk hk' => ?_⟩⟩
  · rcases List.mem_append.1 hc with hc | hc
    · exact h1'.1 c hc
    · exact h3.1 c hc
  · exact h2 b hb rfl k ⟨a, ha, hk⟩ hk'
theorem St.bundle (hx : ∀ c ∈ A, c.ex = true) (H : St w0 w (A ++ T) R) : St w0 w (cAll A :: T) R :=
  ⟨H.kp, by have := H.sep; rw [List.append_assoc] at this; exact this.bundle hx⟩
theorem St.unbundle (H : St w0 w (cAll A :: T) R) : St w0 w (A ++ T) R :=
  ⟨H.kp, by rw [List.append_assoc]; exact Sep.unbundle H.sep⟩
theorem Keep.putObj {r : Nat} {o o' : Obj} (h : w.heap[r]? = some o) (ho : ∀ c e fr, o ≠ .cells c e fr) (ho' : ∀ c e fr, o' ≠ .cells c e fr) : Keep w (w.putObj r o') := by
  refine ⟨rfl, rfl, by simp, fun a => ?_⟩
  unfold World.frozen?
  by_cases e : a.block = r
  · rw [e, World.putObj_heap_same (heap_lt h), h]
    cases o with
    | cells c e fr => exact absurd rfl (ho c e fr)
    | _ => cases o' with
      | cells c e fr => exact absurd rfl (ho' c e fr)
      | _ => rfl
  · rw [World.putObj_heap_other e]
theorem St.putObj {l : Nat} {o o' : Obj} (H : St w0 w (cObj l o :: L) R) (ho : ∀ c e fr, o ≠ .cells c e fr) (ho' : ∀ c e fr, o' ≠ .cells c e fr) : St w0 (w.putObj l o') (cObj l o' :: L) R :=
  H.set (k := 0) (c := cObj l o) (c' := cObj l o') rfl rfl (Keep.putObj (H.get (k := 0) rfl) ho ho') (fun b _ hb => World.putObj_heap_other hb) (fun b hb => .inl hb)
    (World.putObj_heap_same (heap_lt (H.get (k := 0) rfl))) rfl
theorem St.tail {c : Chunk} (H : St w0 w (c :: L) R) : St w0 w L R := ⟨H.kp, H.sep.2.2⟩
theorem St.allocObj (H : St w0 w L R) (o : Obj) (hx : Ext w (w.alloc o)) : St w0 (w.alloc o) (cObj w.heap.size o :: L) R :=
  H.push (c := cObj w.heap.size o) hx (World.alloc_heap_new w o) (fun b hb => by rw [show b = w.heap.size from hb]; exact Nat.le_refl _)
theorem St.mk0 (H : St w0 w L R) : St w0 w (cMk [] :: L) R :=
  H.push (c := cMk []) (Ext.refl w) ⟨List.nodup_nil, fun _ h => by cases h⟩ (fun b hb => by cases hb)
/-- A block for calls that are put off comes to the others. -/
theorem St.mkCons {D : Nat} {Ds : List Nat} (H : St w0 w (cObj D (.deferred (some [])) :: cMk Ds :: L) R) : St w0 w (cMk (D :: Ds) :: L) R := by
  obtain ⟨h1, h2, h3, h4, h5⟩ := H.sep
  refine ⟨H.kp, ⟨List.nodup_cons.2 ⟨fun hD => h2 (cMk Ds) (by simp) rfl D rfl hD, h3.1⟩, fun E hE => ?_⟩, fun d hd _ b hb hb' => ?_, h5⟩
  · rcases List.mem_cons.1 hE with rfl | hE
    · exact h1
    · exact h3.2 E hE
  · rcases List.mem_cons.1 hb with rfl | hb
    · exact h2 d (List.mem_cons_of_mem _ hd) rfl b rfl hb'
    · exact h4 d hd rfl b hb hb'
end

/-! ### Frames that have come upon such loops -/
def mkD (D : Nat) : Deferred := { target := .collected D, args := #[] }
abbrev PostD := Exit -> List Nat -> Env -> World -> Prop
def WD (P : Program) (n : Nat) (Ds : List Nat) (c : Code) (Q : PostD) (σ : Env) (w : World) : Prop :=
  ∀ a, Fr (Ds.map mkD) n σ a -> c.wpIn (FR none) 0 P (fun e a' w' => ∃ Ds' σ', Fr (Ds'.map mkD) n σ' a' /\ Q e Ds' σ' w') a w
def thenD (K : List Nat -> Env -> World -> Prop) (Q : PostD) : PostD
  | .normal, Ds, σ, w => K Ds σ w
  | e, Ds, σ, w => Q e Ds σ w
def blockD (id : Nat) (Q : PostD) : PostD
  | .exit i, Ds, σ, w => bif Nat.beq i id then Q .normal Ds σ w else Q (.exit i) Ds σ w
  | e, Ds, σ, w => Q e Ds σ w
section
variable {P : Program} {n : Nat} {Q : PostD} {σ : Env} {w : World} {Ds : List Nat}
theorem WD.of {c : Code} (h : W P n c (fun e σ w => Q e Ds σ w) σ w) : WD P n Ds c Q σ w :=
  fun a ha => wpIn_mono (h _ a ha) fun _ _ _ ⟨s, hs, h'⟩ => ⟨Ds, s, hs, h'⟩
theorem WD.seq {x y : Code} (h : WD P n Ds x (thenD (fun Ds σ w => WD P n Ds y Q σ w) Q) σ w) : WD P n Ds (.seq x y) Q σ w := by
  intro a ha
  refine wpIn_seq (wpIn_mono (h a ha) ?_)
  rintro e a' w' ⟨Ds', s, hs, h'⟩
  cases e with
  | normal => exact h' a' hs
  | _ => exact ⟨Ds', s, hs, h'⟩
theorem WD.cond {c : Operand} {x y : Code} (b : Bool) (hc : ev σ c = .bool b) (ht : b = true -> WD P n Ds x Q σ w) (hf : b = false -> WD P n Ds y Q σ w) :
    WD P n Ds (.cond c x y) Q σ w := by
  intro a ha
  refine wpIn_cond_split (t := b) (by rw [ha.eval]; exact hc) (fun h => ht h a ha) (fun h => hf h a ha)
theorem WD.block {id : Nat} {c : Code} (h : WD P n Ds c (blockD id Q) σ w) : WD P n Ds (.block id c) Q σ w := by
  intro a ha
  refine wpIn_block (wpIn_mono (h a ha) ?_)
  rintro e a' w' ⟨Ds', s, hs, h'⟩
  cases e with
  | exit i =>
    simp only [Exit.inBlock]
    unfold blockD at h'
    by_cases e : i = id
    · subst e
      rw [if_pos rfl]
      simp only [Nat.beq_refl, cond_true] at h'
      exact ⟨Ds', s, hs, h'⟩
    · rw [if_neg e]
      have : Nat.beq i id = false := by
        cases hb : Nat.beq i id with
        | false => rfl
        | true => exact absurd (Nat.eq_of_beq_eq_true hb) e
      simp only [this, cond_false] at h'
      exact ⟨Ds', s, hs, h'⟩
  | _ => exact ⟨Ds', s, hs, h'⟩
theorem WD.loop {c : Code} (I : Nat -> List Nat -> Env -> World -> Prop) (h0' : ∃ m, I m Ds σ w)
    (round : ∀ m Ds σ w, I m Ds σ w -> WD P n Ds c (thenD (fun Ds' σ' w' => ∃ m', m' < m /\ I m' Ds' σ' w') Q) σ w) : WD P n Ds (.loop c) Q σ w := by
  obtain ⟨m, h0⟩ := h0'
  intro a ha
  refine wpIn_loop_ghost (fun m a w => ∃ Ds σ, Fr (Ds.map mkD) n σ a /\ I m Ds σ w) m ⟨Ds, σ, ha, h0⟩ ?_
  rintro m a w ⟨Ds, σ, ha, hI⟩
  refine wpIn_mono (round m Ds σ w hI a ha) ?_
  rintro e a' w' ⟨Ds', s, hs, h'⟩
  cases e with
  | normal =>
    obtain ⟨m', hlt, hI'⟩ := h'
    exact ⟨m', hlt, Ds', s, hs, hI'⟩
  | _ => exact ⟨Ds', s, hs, h'⟩
theorem WD.mono {c : Code} {Q' : PostD} (h : WD P n Ds c Q σ w) (hq : ∀ e Ds σ w, Q e Ds σ w -> Q' e Ds σ w) : WD P n Ds c Q' σ w :=
  fun a ha => wpIn_mono (h a ha) fun _ _ _ ⟨d, s, hs, h'⟩ => ⟨d, s, hs, hq _ _ _ _ h'⟩
end
/-! ### The body of a function with such loops -/
/-- The blocks are shut, one behind the other. -/
inductive Shut : List Nat -> World -> World -> Prop
  | nil {w : World} : Shut [] w w
  | cons {D : Nat} {Ds : List Nat} {w w' : World} (h : w.heap[D]? = some (.deferred (some []))) (k : Shut Ds (w.putObj D (.deferred none)) w') : Shut (D :: Ds) w w'
def bodyD (P : Program) (fn : Func) (R : Value -> World -> Prop) : PostD
  | .normal, Ds, σ, w | .ret, Ds, σ, w => ∃ w' v, Shut Ds w w' /\ resE P fn σ w' v /\ R v w'
  | _, _, _, _ => False
theorem shutSt {w0 : World} {L R : List Chunk} : ∀ {Ds : List Nat} {w : World}, St w0 w (cMk Ds :: L) R -> ∃ w', Shut Ds w w' /\ St w0 w' L R
  | [], w, H => ⟨w, .nil, H.tail⟩
  | D :: Ds, w, H => by
    have hD := (H.get (k := 0) rfl : _ /\ _).2 D (by simp)
    have hn := (H.get (k := 0) rfl : _ /\ _).1
    rw [List.nodup_cons] at hn
    have H' : St w0 (w.putObj D (.deferred none)) (cMk Ds :: L) R :=
      H.set (k := 0) (c := cMk (D :: Ds)) (c' := cMk Ds) rfl rfl (Keep.putObj hD (by simp) (by simp)) (fun b _ hb => World.putObj_heap_other (fun e => hb (by rw [e]; exact List.mem_cons_self ..)))
        (fun b hb => .inl (List.mem_cons_of_mem _ hb)) ⟨hn.2, fun E hE => by
          rw [World.putObj_heap_other (fun e => hn.1 (by rw [← e]; exact hE))]
          exact (H.get (k := 0) rfl : _ /\ _).2 E (List.mem_cons_of_mem _ hE)⟩ rfl
    obtain ⟨w', h1, h2⟩ := shutSt H'
    exact ⟨w', .cons hD h1, h2⟩
theorem bodyD_n {P : Program} {fn : Func} {Q : Value -> World -> Prop} {w0 w : World} {L R : List Chunk} {Ds : List Nat} {σ : Env} (H : St w0 w (cMk Ds :: L) R) (k : ∀ w', St w0 w' L R -> ∃ v, resE P fn σ w' v /\ Q v w') : bodyD P fn Q .normal Ds σ w := by
  obtain ⟨w', h1, h2⟩ := shutSt H
  obtain ⟨v, h3, h4⟩ := k w' h2
  exact ⟨w', v, h1, h3, h4⟩
theorem bodyD_r {P : Program} {fn : Func} {Q : Value -> World -> Prop} {w0 w : World} {L R : List Chunk} {Ds : List Nat} {σ : Env} (H : St w0 w (cMk Ds :: L) R) (k : ∀ w', St w0 w' L R -> ∃ v, resE P fn σ w' v /\ Q v w') : bodyD P fn Q .ret Ds σ w :=
  bodyD_n H k
theorem leavesOf {P : Program} {fn : Func} {σ : Env} {tmps : Array Value} {Q : Value -> World -> Prop} (ht : ∀ k, tmps.getD k undef = σ k) {v : Value} : ∀ {Ds : List Nat} {w w' : World}, Shut Ds w w' -> resE P fn σ w' v -> Q v w' →
    LeavesInM Fence.wide 0 P fn tmps (fun e w => ∃ v, e = .returned v /\ Q v w) (Ds.map mkD) .returning w
  | _, w, _, .nil, h, hq => by
    show LeavesIn Fence.wide 0 P fn tmps _ [] .returning w
    exact ⟨v, h tmps ht, v, rfl, hq⟩
  | _, _, _, .cons hD k, h, hq => ⟨by simp, .inl ⟨_, _, rfl, run_takeDeferred hD, leavesOf ht k h hq⟩⟩
theorem ret_of_WD {P : Program} {f : FuncId} {fn : Func} {c : Code} {n : Nat} {args : Array Value} {w : World} {R : Value -> World -> Prop}
    (hf : P.funcs[f]? = some fn) (hb : fn.body = some c) (hn : fn.ntmps = n) (hle' : Nat.ble args.size n = true)
    (h : WD P n [] c (bodyD P fn R) (argE args) w) : Ret P f args w R := by
  have hle := Nat.le_of_ble_eq_true hle'
  subst hn
  refine callsIn_wide.1 (callsIn_of_wp_marks (F := Fence.wide) (n := 0) hf hb trivial (wpIn_mono (h _ ⟨rfl, ?_, fun k => ?_⟩) ?_))
  · simp; omega
  · simp only [argE, Array.getD_eq_getD_getElem?, Array.getElem?_append]
    by_cases hk : k < args.size
    · simp [hk]
    · rw [if_neg hk]
      simp only [Array.getElem?_replicate]
      have : args[k]? = none := by simp; omega
      rw [this]
      split <;> rfl
  · rintro e a' w' ⟨Ds, s, hs, h'⟩
    cases e with
    | normal =>
      obtain ⟨w1, v, h1, h2, h3⟩ := h'
      show LeavesInM _ _ _ _ _ _ a'.defers _ _
      rw [hs.df]
      exact leavesOf hs.get h1 h2 h3
    | ret =>
      obtain ⟨w1, v, h1, h2, h3⟩ := h'
      show LeavesInM _ _ _ _ _ _ a'.defers _ _
      rw [hs.df]
      exact leavesOf hs.get h1 h2 h3
    | _ => exact h'.elim

/-! ### The function that an iterator is handed -/
def YieldC {α T : Type} (P : Program) (R : List Chunk) (AR : Cells -> List Value -> α -> Prop) (Y : T -> List Chunk -> Prop) (yv : Value) (ym : T -> α -> M (Bool × T)) : Prop :=
  ∃ l, yv = .func (.yield l) #[] #[] /\ ∀ (w : World) (L Ls : List Chunk) (t : T) (C : Cells) (vs : List Value) (x : α) (b : Bool) (t' : T), Sep w (cAll Ls :: (L ++ R)) -> Y t Ls -> Reads (L ++ R) C -> AR C vs x -> (ym t x).Ends (b, t') →
    ∃ f tmps assign body, (Instr.yield l vs.toArray).run P w = .ok (.round l f tmps assign body) w /\ RoundIn Fence.wide 0 P l f tmps assign body w fun e w' => e = .returned (B b) /\ ∃ Ls', Y t' Ls' /\ St w w' [cAll Ls'] (L ++ R)
theorem YieldC.app {α T : Type} {P : Program} {R : List Chunk} {AR : Cells -> List Value -> α -> Prop} {Y : T -> List Chunk -> Prop} {yv : Value} {ym : T -> α -> M (Bool × T)} (h : YieldC P R AR Y yv ym) (L : List Chunk) : YieldC P (L ++ R) AR Y yv ym := by
  obtain ⟨l, h1, h2⟩ := h
  refine ⟨l, h1, fun w L' Ls t C vs x b t' => ?_⟩
  rw [← List.append_assoc]
  exact h2 w (L' ++ L) Ls t C vs x b t'
section
variable {α T : Type} {P : Program} {all rest : List Oper} {Q : Post} {σ : Env} {w0 w : World} {L R : List Chunk} {d : Nat} {ty : TypeId} {pos : String} {af : Array Edge}
theorem y_exec {l : Nat} {dst : Option Nat} {x : Operand} {ops : Array Operand} {ts : Array TypeId} {g : Option (Nat × Bool)} {vs : List Value} {nx : Next} (hx : ev σ x = .func (.yield l) #[] #[]) (ha : ops.toList.map (ev σ) = vs)
    (h : (Instr.yield l vs.toArray).run P w = .ok nx w) : (execOp (ev σ) ⟨dst, .call ⟨.value x, ops, ts⟩, ty, pos, af, g⟩).run P w = .ok nx w := by
  subst ha
  simp [execOp, resolve, hx, Deferred.ofValue, invoke, amap]
  exact h
theorem t_yield {AR : Cells -> List Value -> α -> Prop} {Y : T -> List Chunk -> Prop} {x : Operand} {ops : Array Operand} {ts : Array TypeId} {yv : Value} {ym : T -> α -> M (Bool × T)} {C : Cells} {b : Bool} {t t' : T} {Ls : List Chunk} (H : St w0 w (cAll Ls :: L) R) (hf : YieldC P R AR Y yv ym)
    (hY : Y t Ls) (hx : ev σ x = yv) (vs : List Value) (ha : ops.toList.map (ev σ) = vs) (a : α) (hC : Reads (L ++ R) C) (hA : AR C vs a) (hp : (ym t a).Ends (b, t'))
    (k : ∀ Ls' w', Y t' Ls' -> St w0 w' (cAll Ls' :: L) R -> SL P all Q rest (upd σ d (B b)) w') : SL P all Q (⟨some d, .call ⟨.value x, ops, ts⟩, ty, pos, af, none⟩ :: rest) σ w := by
  obtain ⟨l, rfl, h⟩ := hf
  obtain ⟨f, tmps, asg, body, h1, h2⟩ := h w L Ls t C vs a b t' H.sep hY hC hA hp
  simp only [SL, opW, y_exec hx ha h1]
  refine h2.mono fun e w' ⟨he, Ls', hY', H'⟩ => ⟨_, he, k Ls' w' hY' ⟨H.kp.trans H'.kp, H'.sep⟩⟩
end
/-- What the function is, of what a round reckons. -/
def M.yl {S X α : Type} (bd : S -> α -> M (S ⊕ X)) : S ⊕ X -> α -> M (Bool × (S ⊕ X))
  | .inl s, a => M.bind (bd s a) fun r => match r with
    | .inl s' => M.pure (true, .inl s')
    | .inr x => M.pure (false, .inr x)
  | .inr _, _ => M.fail
end Go.Nm
namespace Go.Nm
open Go
theorem Ext.allocObj (w : World) (o : Obj) (ho : ∀ c e fr, o ≠ .cells c e fr) : Ext w (w.alloc o) := by
  refine ⟨rfl, rfl, by rw [World.size_alloc]; omega, fun b hb => ?_, fun a => ?_⟩
  · show (w.heap.push o)[b]? = _
    rw [Array.getElem?_push]
    rw [if_neg (by omega)]
  · unfold World.frozen?
    show (match (w.heap.push o)[a.block]? with | some (.cells _ _ (lo, hi)) => _ | _ => _) = _
    rw [Array.getElem?_push]
    by_cases e : a.block = w.heap.size
    · rw [if_pos e, e]
      have : w.heap[w.heap.size]? = none := by simp
      rw [this]
      cases o with
      | cells c e fr => exact absurd rfl (ho c e fr)
      | _ => rfl
    · rw [if_neg e]
      rfl
/-- What the record of the loop bears. -/
structure RecOf (r : Loop) (n : Nat) (σ : Env) (ps : Array Tmp) (assign body : Code) : Prop where
  st : r.state = .ready
  pd : r.pending = none
  sz : r.tmps.size = n
  get : ∀ k, r.tmps.getD k undef = σ k
  ps : r.params = ps
  asg : r.assign = assign
  body : r.body = body
section
variable {P : Program} {n : Nat} {σ : Env} {w0 w : World} {L R T : List Chunk} {Ds : List Nat}
theorem WD.range {Q : PostD} {g : Operand} {ps : Array Tmp} {assign body : Code} {f : FuncId} (cap : List Value) (H : St w0 w (cMk Ds :: L) R) (hg : ev σ g = .func (.func f) #[] cap.toArray) (hcf : CF P f)
    (k : ∀ (l D : Nat) (r : Loop) (w1 : World), RecOf r n σ ps assign body -> St w0 w1 (cObj l (.loop r) :: cMk (D :: Ds) :: L) R →
      Ret P f (.func (.yield l) #[] #[] :: cap).toArray w1 fun _ w2 => ∃ (r' : Loop) (L' : List Chunk), St w0 w2 (cObj l (.loop r') :: cMk (D :: Ds) :: L') R /\ r'.state ≠ .busy ∧
        ∀ w3, St w0 w3 (cMk (D :: Ds) :: L') R -> match r'.pending with
          | none => Q .normal (D :: Ds) σ w3
          | some c => WD P n (D :: Ds) c Q σ w3) :
    WD P n Ds (.rangeFunc g ps assign body) Q σ w := by
  intro a ha
  refine wpIn_rangeFunc fun fn _ => ?_
  have h1 := (H.allocObj (.deferred (some [])) (Ext.allocObj _ _ (by simp))).mkCons
  have h2 := h1.allocObj (.loop { state := .ready, pending := none, fn, tmps := a.tmps, params := ps, assign, body, defers := w.heap.size }) (Ext.allocObj _ _ (by simp))
  rw [World.size_alloc] at h2
  have hk := k (w.heap.size + 1) w.heap.size _ _ ⟨rfl, rfl, ha.sz, ha.get, rfl, rfl, rfl⟩ h2
  have hent := run_enterLoop_outer (P := P) (w := w) fn a.tmps ps assign body
  generalize (w.alloc (.deferred (some []))).alloc (.loop { state := .ready, pending := none, fn, tmps := a.tmps, params := ps, assign, body, defers := w.heap.size }) = W1 at hk hent
  refine ⟨w.heap.size + 1, [mkD w.heap.size], W1, { target := .fn (.func f) cap.toArray, args := #[.func (.yield (w.heap.size + 1)) #[] #[]] }, W1, f, (.func (.yield (w.heap.size + 1)) #[] #[] :: cap).toArray, W1, hent, ?_, fun _ _ => trivial, ?_, fun hc => by simp [FR, Fence.wide] at hc, ?_⟩
  · rw [ha.eval]
    have he : ev σ (.const (.func (.yield (w.heap.size + 1)) #[] #[])) = .func (.yield (w.heap.size + 1)) #[] #[] := rfl
    simp [resolve, rangeCall, hg, Deferred.ofValue, he]
  · simp [invoke, run_callFunc hcf]
  · refine CallsIn.mono (callsFR hk) ?_
    · rintro e w2 ⟨v, rfl, r', L', H', hb, hq⟩
      have hl := H'.get (k := 0) rfl
      refine ⟨_, _, run_endLoop hl hb, ?_⟩
      have hq := hq _ (H'.putObj (o' := .loop { r' with state := .exhausted }) (by simp) (by simp)).tail
      have hfr : Fr ((w.heap.size :: Ds).map mkD) n σ { a with defers := [mkD w.heap.size] ++ a.defers } := ⟨by show [mkD w.heap.size] ++ a.defers = _; rw [ha.df]; rfl, ha.sz, ha.get⟩
      cases hp : r'.pending with
      | none => rw [hp] at hq; exact ⟨_, _, hfr, hq⟩
      | some c => rw [hp] at hq; exact hq _ hfr
def setP (σ : Env) (ps : List Tmp) (vs : List Value) : Env := (ps.zip vs).foldl (fun σ x => upd σ x.1 x.2) σ
theorem setP_get {n : Nat} : ∀ (ps : List (Nat × Value)) {σ : Env} {tmps : Array Value}, tmps.size = n -> (∀ k, tmps.getD k undef = σ k) -> (∀ p ∈ ps, p.1 < n) →
    (ps.foldl (fun (tmps : Array Value) x => tmps.setIfInBounds x.1 x.2) tmps).size = n /\ ∀ k, (ps.foldl (fun (tmps : Array Value) x => tmps.setIfInBounds x.1 x.2) tmps).getD k undef = ps.foldl (fun σ x => upd σ x.1 x.2) σ k
  | [], _, _, hs, hg, _ => ⟨hs, hg⟩
  | (p, v) :: ps, σ, tmps, hs, hg, hp => by
    have hlt := hp (p, v) (by simp)
    refine setP_get ps (σ := upd σ p v) (tmps := tmps.setIfInBounds p v) (by simpa using hs) (fun k => ?_) (fun q hq => hp q (by simp [hq]))
    have := Fr.put (ds := []) (n := n) (σ := σ) (a := { tmps := tmps, defers := [] }) ⟨rfl, hs, hg⟩ hlt v
    exact this.get k
/-- How a round is left, as code. -/
def jumpOf : Exit -> Option Code
  | .ret => some .ret
  | .exit id => some (.exit id)
  | _ => none
variable {S X α : Type}
def rdQ (Ys : S -> List Chunk -> Prop) (Yx : X -> List Chunk -> Prop) (J : X -> Code) (w : World) (T R : List Chunk) (r : S ⊕ X) : Post
  | .normal, _, w' => ∃ s Ls, r = .inl s /\ Ys s Ls /\ St w w' (Ls ++ T) R
  | e, _, w' => ∃ x Ls, r = .inr x /\ Yx x Ls /\ St w w' (Ls ++ T) R /\ jumpOf e = some (J x)
def yJ (l : Nat) (r0 : Loop) (Ys : S -> List Chunk -> Prop) (Yx : X -> List Chunk -> Prop) (J : X -> Code) : S ⊕ X -> List Chunk -> Prop
  | .inl s, Ls => ∃ Ls', Ls = cObj l (.loop r0) :: Ls' /\ Ys s Ls'
  | .inr x, Ls => ∃ Ls', Ls = cObj l (.loop { r0 with state := .done, pending := some (J x) }) :: Ls' /\ Yx x Ls'
/-- These parts lie among those. -/
def Sup (R' R : List Chunk) : Prop := ∃ L, R' = L ++ R
theorem Reads.sub {R R' : List Chunk} {C : Cells} (h : Reads R C) (s : Sup R' R) : Reads R' C := by
  obtain ⟨L, rfl⟩ := s; exact h.app L
theorem Has.sub {R R' : List Chunk} {c : Chunk} (h : Has R c) (s : Sup R' R) : Has R' c := by
  obtain ⟨L, rfl⟩ := s; exact h.app L
theorem FnM.sub {α : Type} [Elt α] {P : Program} {R R' : List Chunk} {vf : Value} {p : α -> M Bool} (h : FnM P R vf p) (s : Sup R' R) : FnM P R' vf p := by
  obtain ⟨L, rfl⟩ := s; exact h.app L
theorem YieldC.sub {α T : Type} {P : Program} {R R' : List Chunk} {AR : Cells -> List Value -> α -> Prop} {Y : T -> List Chunk -> Prop} {yv : Value} {ym : T -> α -> M (Bool × T)} (h : YieldC P R AR Y yv ym) (s : Sup R' R) : YieldC P R' AR Y yv ym := by
  obtain ⟨L, rfl⟩ := s; exact h.app L
theorem permA {c : Chunk} {A L T R : List Chunk} : ((A ++ T) ++ (c :: L ++ R)).Perm ((c :: A) ++ (L ++ (T ++ R))) := by
  have h1 : ((A ++ T) ++ (c :: L ++ R)).Perm (c :: ((A ++ T) ++ (L ++ R))) := by
    rw [List.cons_append]
    exact List.perm_middle
  refine h1.trans ?_
  show List.Perm _ (c :: (A ++ (L ++ (T ++ R))))
  refine List.Perm.cons c ?_
  rw [List.append_assoc]
  refine List.Perm.append_left A ?_
  rw [← List.append_assoc, ← List.append_assoc]
  exact List.Perm.append_right R List.perm_append_comm
theorem exAll {L : List Chunk} (h : L.all (·.ex) = true) : ∀ c ∈ L, c.ex = true := fun c hc => List.all_eq_true.1 h c hc
theorem RecOf.nb {r : Loop} {ps : Array Tmp} {assign body : Code} (h : RecOf r n σ ps assign body) : r.state ≠ .busy := by rw [h.st]; simp
theorem St.bundleB {A : List Chunk} (hx : A.all (·.ex) = true) (H : St w0 w (A ++ T) R) : St w0 w (cAll A :: T) R := H.bundle (exAll hx)
/-- One round. -/
theorem YieldC.mk {l : Nat} {r0 : Loop} {ps : Array Tmp} {assign body : Code} (hr : RecOf r0 n σ ps assign body) {AR : Cells -> List Value -> α -> Prop} (Ys : S -> List Chunk -> Prop) (Yx : X -> List Chunk -> Prop) (J : X -> Code) (bd : S -> α -> M (S ⊕ X))
    (hexS : ∀ s Ls, Ys s Ls -> Ls.all (·.ex) = true) (hexX : ∀ x Ls, Yx x Ls -> Ls.all (·.ex) = true) (hps : (ps.toList.all fun p => Nat.blt p n) = true) (hAR : ∀ C vs x, AR C vs x -> vs.length = ps.size)
    (hab : ∀ C vs x w, AR C vs x -> WR (some l) P n assign (fun e σ1 w1 => e = .normal /\ w1 = w ∧
      ∀ (w : World) (R' : List Chunk), Sup R' R -> ∀ (Ls : List Chunk) (s : S) (r : S ⊕ X), Ys s Ls -> (bd s x).Ends r -> St w w (Ls ++ T) R' -> WR (some l) P n body (rdQ Ys Yx J w T R' r) σ1 w) (setP σ ps.toList vs) w) :
    YieldC P (T ++ R) AR (yJ l r0 Ys Yx J) (.func (.yield l) #[] #[]) (M.yl bd) := by
  refine ⟨l, rfl, fun w L Ls t C vs x b t' hS hY _ hA hp => ?_⟩
  cases t with
  | inr x => exact (M.e_fail hp).elim
  | inl s =>
    obtain ⟨Ls', rfl, hYs⟩ := hY
    have hU := hS.unbundle
    have hl : w.heap[l]? = some (.loop r0) := hU.get (c := cObj l (.loop r0)) (by simp)
    obtain ⟨r, hr1, hp⟩ := M.e_bind hp
    have hlen := hAR C vs x hA
    refine ⟨_, _, _, _, run_yield hl (by rw [hr.ps]; simpa using hlen), roundIn_of_wpIn trivial ?_⟩
    have hps' : ∀ p ∈ (ps.toList.zip vs), p.1 < n := by
      rintro ⟨p, v⟩ hp
      have := List.all_eq_true.1 hps p (List.of_mem_zip hp).1
      exact of_eq_true (Nat.blt_eq ▸ eq_true this)
    have hset := setP_get (ps.toList.zip vs) hr.sz hr.get hps'
    have hzip : ((r0.params.zip vs.toArray).foldl (fun (tmps : Array Value) (x : Tmp × Value) => match x with | (t, a) => tmps.setIfInBounds t a) r0.tmps) = (ps.toList.zip vs).foldl (fun (tmps : Array Value) x => tmps.setIfInBounds x.1 x.2) r0.tmps := by
      rw [hr.ps, ← Array.foldl_toList, Array.toList_zip]
    have h1 := hab C vs x w hA [] { tmps := (r0.params.zip vs.toArray).foldl (fun (tmps : Array Value) (x : Tmp × Value) => match x with | (t, a) => tmps.setIfInBounds t a) r0.tmps, defers := [] } ⟨rfl, by rw [hzip]; exact hset.1, fun k => by rw [hzip]; exact hset.2 k⟩
    rw [hr.asg, hr.body]
    refine wpIn_mono (F := FR (some l)) h1 ?_
    rintro e a1 w1 ⟨σ1, hs1, rfl, rfl, hb⟩
    have hperm : Sep w1 (cObj l (.loop r0) :: (Ls' ++ (L ++ (T ++ R)))) := hU
    have H0 : St w1 w1 (cObj l (.loop r0) :: (Ls' ++ (L ++ (T ++ R)))) [] := ⟨Keep.refl _, by rw [List.append_nil]; exact hperm⟩
    have H1 := H0.putObj (o' := .loop { r0 with state := .busy }) (by simp) (by simp)
    refine ⟨_, run_beginRound hl hr.st, ?_⟩
    have hS2 := H1.sep
    rw [List.append_nil] at hS2
    have H2 : St (w1.putObj l (.loop { r0 with state := .busy })) (w1.putObj l (.loop { r0 with state := .busy })) (Ls' ++ T) (cObj l (.loop { r0 with state := .busy }) :: L ++ R) := ⟨Keep.refl _, hS2.perm permA⟩
    have h3 := hb _ (cObj l (.loop { r0 with state := .busy }) :: L ++ R) ⟨_, rfl⟩ Ls' s r hYs hr1 H2 [] a1 hs1
    refine wpIn_mono h3 ?_
    rintro e a2 w3 ⟨σ2, hs2, hq⟩
    have fin : ∀ (jump : Option Code) (Ls'' : List Chunk) (t'' : S ⊕ X) (r1 : Loop), (∀ c ∈ Ls'', c.ex = true) -> St (w1.putObj l (.loop { r0 with state := .busy })) w3 (Ls'' ++ T) (cObj l (.loop { r0 with state := .busy }) :: L ++ R) →
        r1 = { r0 with state := if jump.isNone then .ready else .done, pending := jump } -> yJ l r0 Ys Yx J t' (cObj l (.loop r1) :: Ls'') -> b = jump.isNone →
        ∃ v w', (Instr.endRound l jump).run P w3 = .ok v w' /\ (Ending.returned v = .returned (B b) /\ ∃ Ls', yJ l r0 Ys Yx J t' Ls' /\ St w1 w' [cAll Ls'] (L ++ (T ++ R))) := by
      rintro jump Ls'' t'' r1 hx H' rfl hy rfl
      have hS3 : Sep w3 (cObj l (.loop { r0 with state := .busy }) :: (Ls'' ++ (L ++ (T ++ R)))) := H'.sep.perm permA.symm
      have H4 : St w3 w3 (cObj l (.loop { r0 with state := .busy }) :: (Ls'' ++ (L ++ (T ++ R)))) [] := ⟨Keep.refl _, by rw [List.append_nil]; exact hS3⟩
      have hl3 := H4.get (k := 0) rfl
      have H5 := H4.putObj (o' := .loop { r0 with state := if jump.isNone then .ready else .done, pending := jump }) (by simp) (by simp)
      refine ⟨_, _, run_endRound jump hl3, rfl, _, hy, (H1.kp.trans H'.kp).trans H5.kp, ?_⟩
      have h5 := H5.sep
      rw [List.append_nil] at h5
      refine Sep.bundle (A := cObj l (.loop { r0 with state := if jump.isNone then .ready else .done, pending := jump }) :: Ls'') (fun c hc => ?_) h5
      rcases List.mem_cons.1 hc with rfl | hc
      · rfl
      · exact hx c hc
    have hready : ({ r0 with state := .ready, pending := none } : Loop) = r0 := by rw [← hr.st, ← hr.pd]
    have two : ∀ (x : X) (_ : List Chunk), r = .inr x -> t' = .inr x /\ b = false := by
      rintro x _ rfl
      have := M.e_pure hp
      cases this
      exact ⟨rfl, rfl⟩
    cases e with
    | normal =>
      obtain ⟨s', Ls'', rfl, hy, H'⟩ := hq
      have := M.e_pure hp
      cases this
      exact fin none Ls'' (.inl s') r0 (exAll (hexS _ _ hy)) H' hready.symm ⟨Ls'', rfl, hy⟩ rfl
    | ret =>
      obtain ⟨x, Ls'', hr', hy, H', hj⟩ := hq
      obtain ⟨rfl, rfl⟩ := two x Ls'' hr'
      refine fin (some .ret) Ls'' (.inr x) _ (exAll (hexX _ _ hy)) H' rfl ?_ rfl
      refine ⟨Ls'', ?_, hy⟩
      rw [show J x = .ret from (Option.some.inj hj).symm]
      rfl
    | exit id =>
      obtain ⟨x, Ls'', hr', hy, H', hj⟩ := hq
      obtain ⟨rfl, rfl⟩ := two x Ls'' hr'
      refine fin (some (.exit id)) Ls'' (.inr x) _ (exAll (hexX _ _ hy)) H' rfl ?_ rfl
      refine ⟨Ls'', ?_, hy⟩
      rw [show J x = .exit id from (Option.some.inj hj).symm]
      rfl
    | goto id => obtain ⟨x, Ls'', _, _, _, hj⟩ := hq; cases hj
    | panic c => obtain ⟨x, Ls'', _, _, _, hj⟩ := hq; cases hj
    | outgrown => obtain ⟨x, Ls'', _, _, _, hj⟩ := hq; cases hj
end
theorem M.le_yl {S X α : Type} {n : Nat} {bd bd' : S -> α -> M (S ⊕ X)} (h : ∀ s a, M.LeN n (bd s a) (bd' s a)) (t : S ⊕ X) (a : α) : M.LeN n (M.yl bd t a) (M.yl bd' t a) := by
  cases t with
  | inl s => exact M.le_bind (h s a) fun _ => M.le_same _ _
  | inr x => exact M.le_same _ _
/-- What an iterator hands over. -/
def arI : Cells -> List Value -> Int -> Prop := fun _ vs x => vs = [I x]
theorem arI_len {k : Nat} (hk : k = 1) : ∀ C vs x, arI C vs x -> vs.length = k := fun _ _ _ h => by rw [show _ = _ from h, hk]; rfl
section
variable {P : Program} {all rest : List Oper} {Q : Post} {σ : Env} {w0 w : World} {L R : List Chunk} {d : Nat} {ty : TypeId} {pos : String} {af : Array Edge}
/-- A slice literal of plain data, under a guard: it is read on only. -/
theorem t_gbs {α : Type} [Flat α] {t e by' : Nat} {z : Value} {parts : Array (Nat × Operand)} (T : SlT P t e (Elt.sz α) by' z) {j : Nat} {want : Bool} (c : Bool) (hy : (yieldedE all σ j == some want) = c) (vs : List Value) (l : List α) (H : St w0 w L R)
    (hp : c = true -> parts.toList.map (fun x => (x.1, ev σ x.2)) = (vs.zipIdx 0).map fun x => (x.2, x.1)) (hr : Reps (fun _ => none) vs l) {n : Nat} (hn : l.length = n) (h0 : Nat.blt 0 n = true) (hsm : Nat.ble (n * Elt.sz α) 16777216 = true)
    (k : ∀ u B w', St w0 w' (cRo B :: L) R -> (c = true -> Sl B.cells u l) -> SL P all Q rest (upd σ d (gd c u)) w') : SL P all Q (⟨some d, .buildSlice t n parts, ty, pos, af, some (j, want)⟩ :: rest) σ w := by
  refine g_split rfl c hy (fun e => ?_) (fun e => ?_)
  · refine t_bs (α := α) T vs l H (hp e) hr hn h0 hsm fun u w' H' => ?_
    obtain ⟨B, H2, hs⟩ := H'.freezeE (k := 0) rfl
    have := k u B w' H2 (fun _ => hs)
    rwa [gd_of e] at this
  · have := k undef ⟨w, fun _ => False⟩ w (H.push (c := cRo ⟨w, fun _ => False⟩) (Ext.refl w) ⟨Nat.le_refl _, fun _ h => h.elim⟩ (fun _ h => h.1.elim)) (fun h => by rw [e] at h; cases h)
    rwa [gd_no e] at this
end
end Go.Nm
namespace Go.Proofs.Ytndobgodeicloaa
open Go Go.Nm
theorem cf17 : CF Try.prog 17 := ⟨_, Try.func17, rfl, by decide +kernel⟩
theorem cf25 : CF Try.prog 25 := ⟨_, Try.func25, rfl, by decide +kernel⟩
theorem cf26 : CF Try.prog 26 := ⟨_, Try.func26, rfl, by decide +kernel⟩
theorem cf31 : CF Try.prog 31 := ⟨_, Try.func31, rfl, by decide +kernel⟩
theorem cf32 : CF Try.prog 32 := ⟨_, Try.func32, rfl, by decide +kernel⟩
theorem cf34 : CF Try.prog 34 := ⟨_, Try.func34, rfl, by decide +kernel⟩
theorem cf36 : CF Try.prog 36 := ⟨_, Try.func36, rfl, by decide +kernel⟩
theorem cf38 : CF Try.prog 38 := ⟨_, Try.func38, rfl, by decide +kernel⟩
theorem cf40 : CF Try.prog 40 := ⟨_, Try.func40, rfl, by decide +kernel⟩
theorem cf41 : CF Try.prog 41 := ⟨_, Try.func41, rfl, by decide +kernel⟩
theorem cf42 : CF Try.prog 42 := ⟨_, Try.func42, rfl, by decide +kernel⟩
theorem cf43 : CF Try.prog 43 := ⟨_, Try.func43, rfl, by decide +kernel⟩
theorem cf44 : CF Try.prog 44 := ⟨_, Try.func44, rfl, by decide +kernel⟩
theorem cf50 : CF Try.prog 50 := ⟨_, Try.func50, rfl, by decide +kernel⟩
theorem cf59 : CF Try.prog 59 := ⟨_, Try.func59, rfl, by decide +kernel⟩
theorem cf61 : CF Try.prog 61 := ⟨_, Try.func61, rfl, by decide +kernel⟩
theorem cf64 : CF Try.prog 64 := ⟨_, Try.func64, rfl, by decide +kernel⟩
theorem cf65 : CF Try.prog 65 := ⟨_, Try.func65, rfl, by decide +kernel⟩
theorem cf70 : CF Try.prog 70 := ⟨_, Try.func70, rfl, by decide +kernel⟩
theorem cf79 : CF Try.prog 79 := ⟨_, Try.func79, rfl, by decide +kernel⟩
theorem cf97 : CF Try.prog 97 := ⟨_, Try.func97, rfl, by decide +kernel⟩
theorem cf98 : CF Try.prog 98 := ⟨_, Try.func98, rfl, by decide +kernel⟩
theorem cf107 : CF Try.prog 107 := ⟨_, Try.func107, rfl, by decide +kernel⟩
theorem cf108 : CF Try.prog 108 := ⟨_, Try.func108, rfl, by decide +kernel⟩
theorem cf110 : CF Try.prog 110 := ⟨_, Try.func110, rfl, by decide +kernel⟩
theorem cf116 : CF Try.prog 116 := ⟨_, Try.func116, rfl, by decide +kernel⟩
theorem cf117 : CF Try.prog 117 := ⟨_, Try.func117, rfl, by decide +kernel⟩
theorem cf118 : CF Try.prog 118 := ⟨_, Try.func118, rfl, by decide +kernel⟩
theorem cf119 : CF Try.prog 119 := ⟨_, Try.func119, rfl, by decide +kernel⟩
theorem cf122 : CF Try.prog 122 := ⟨_, Try.func122, rfl, by decide +kernel⟩
theorem cf123 : CF Try.prog 123 := ⟨_, Try.func123, rfl, by decide +kernel⟩
theorem cf124 : CF Try.prog 124 := ⟨_, Try.func124, rfl, by decide +kernel⟩
theorem cf125 : CF Try.prog 125 := ⟨_, Try.func125, rfl, by decide +kernel⟩
theorem cf126 : CF Try.prog 126 := ⟨_, Try.func126, rfl, by decide +kernel⟩
theorem cf127 : CF Try.prog 127 := ⟨_, Try.func127, rfl, by decide +kernel⟩
theorem cf128 : CF Try.prog 128 := ⟨_, Try.func128, rfl, by decide +kernel⟩
theorem cf129 : CF Try.prog 129 := ⟨_, Try.func129, rfl, by decide +kernel⟩
theorem cf148 : CF Try.prog 148 := ⟨_, Try.func148, rfl, by decide +kernel⟩
theorem cf149 : CF Try.prog 149 := ⟨_, Try.func149, rfl, by decide +kernel⟩
theorem cf150 : CF Try.prog 150 := ⟨_, Try.func150, rfl, by decide +kernel⟩
theorem cf159 : CF Try.prog 159 := ⟨_, Try.func159, rfl, by decide +kernel⟩
theorem cf160 : CF Try.prog 160 := ⟨_, Try.func160, rfl, by decide +kernel⟩
theorem T62 : SlT Try.prog 62 5 1 1 (.int .u8 0) := ⟨Try.underlying62, by kernel_rfl, rfl, by decide⟩
theorem Sc5 : isSc (Try.prog.underlying 5) = true := by rw [Try.underlying5]; rfl
theorem Sc35 : isSc (Try.prog.underlying 35) = true := by rw [Try.underlying35]; rfl
theorem Sc62 : isSc (Try.prog.underlying 62) = true := by rw [Try.underlying62]; rfl
theorem Sc127 : isSc (Try.prog.underlying 127) = true := by rw [Try.underlying127]; rfl
theorem Sc160 : isSc (Try.prog.underlying 160) = true := by rw [Try.underlying160]; rfl
theorem Sc174 : isSc (Try.prog.underlying 174) = true := by rw [Try.underlying174]; rfl
theorem Sc177 : isSc (Try.prog.underlying 177) = true := by rw [Try.underlying177]; rfl
theorem Sc178 : isSc (Try.prog.underlying 178) = true := by rw [Try.underlying178]; rfl
theorem Sc183 : isSc (Try.prog.underlying 183) = true := by rw [Try.underlying183]; rfl
theorem Sz35 : (Try.prog.info? 35).map (·.size) = some 1 := by kernel_rfl
theorem Sz62 : (Try.prog.info? 62).map (·.size) = some 1 := by kernel_rfl
theorem Sz75 : (Try.prog.info? 75).map (·.size) = some 1 := by kernel_rfl
theorem Sz127 : (Try.prog.info? 127).map (·.size) = some 1 := by kernel_rfl
theorem Sz160 : (Try.prog.info? 160).map (·.size) = some 1 := by kernel_rfl
theorem Sz174 : (Try.prog.info? 174).map (·.size) = some 1 := by kernel_rfl
theorem Sz177 : (Try.prog.info? 177).map (·.size) = some 1 := by kernel_rfl
theorem Sz178 : (Try.prog.info? 178).map (·.size) = some 1 := by kernel_rfl
theorem Sz183 : (Try.prog.info? 183).map (·.size) = some 1 := by kernel_rfl
theorem Fd158_0 : (Try.prog.underlying 158).bind (fun d => match d with | .struct fs => (fs[0]?).map (fun f => (f.offset, f.type)) | _ => none) = some (0, 62) := by rw [Try.underlying158]; rfl
theorem Fd158_1 : (Try.prog.underlying 158).bind (fun d => match d with | .struct fs => (fs[1]?).map (fun f => (f.offset, f.type)) | _ => none) = some (1, 3) := by rw [Try.underlying158]; rfl
theorem Fd158_2 : (Try.prog.underlying 158).bind (fun d => match d with | .struct fs => (fs[2]?).map (fun f => (f.offset, f.type)) | _ => none) = some (2, 3) := by rw [Try.underlying158]; rfl
theorem Fd180_0 : (Try.prog.underlying 180).bind (fun d => match d with | .struct fs => (fs[0]?).map (fun f => (f.offset, f.type)) | _ => none) = some (0, 127) := by rw [Try.underlying180]; rfl
theorem Fd180_1 : (Try.prog.underlying 180).bind (fun d => match d with | .struct fs => (fs[1]?).map (fun f => (f.offset, f.type)) | _ => none) = some (1, 34) := by rw [Try.underlying180]; rfl
theorem Fd180_2 : (Try.prog.underlying 180).bind (fun d => match d with | .struct fs => (fs[2]?).map (fun f => (f.offset, f.type)) | _ => none) = some (2, 3) := by rw [Try.underlying180]; rfl
theorem Fd180_3 : (Try.prog.underlying 180).bind (fun d => match d with | .struct fs => (fs[3]?).map (fun f => (f.offset, f.type)) | _ => none) = some (3, 177) := by rw [Try.underlying180]; rfl
theorem Fd180_4 : (Try.prog.underlying 180).bind (fun d => match d with | .struct fs => (fs[4]?).map (fun f => (f.offset, f.type)) | _ => none) = some (4, 178) := by rw [Try.underlying180]; rfl
theorem Fd211_0 : (Try.prog.underlying 211).bind (fun d => match d with | .struct fs => (fs[0]?).map (fun f => (f.offset, f.type)) | _ => none) = some (0, 127) := by rw [Try.underlying211]; rfl
theorem Fd211_1 : (Try.prog.underlying 211).bind (fun d => match d with | .struct fs => (fs[1]?).map (fun f => (f.offset, f.type)) | _ => none) = some (1, 75) := by rw [Try.underlying211]; rfl
theorem Fd211_2 : (Try.prog.underlying 211).bind (fun d => match d with | .struct fs => (fs[2]?).map (fun f => (f.offset, f.type)) | _ => none) = some (2, 178) := by rw [Try.underlying211]; rfl
theorem Al4 : (Try.prog.info? 4).map (·.zero) = some (some (B false)) := by kernel_rfl
theorem Al22 : (Try.prog.info? 22).map (·.zero) = some (some (.slice none 0 0)) := by kernel_rfl
theorem Al35 : (Try.prog.info? 35).map (·.zero) = some (some (I 0)) := by kernel_rfl
theorem Al75 : (Try.prog.info? 75).map (·.zero) = some (some (.nilFunc)) := by kernel_rfl
theorem Al127 : (Try.prog.info? 127).map (·.zero) = some (some (.pointer none)) := by kernel_rfl
theorem Al158 : (Try.prog.info? 158).map (·.zero) = some (some (.agg #[.slice none 0 0, I 0, I 0])) := by kernel_rfl
theorem Al160 : (Try.prog.info? 160).map (·.zero) = some (some (.pointer none)) := by kernel_rfl
theorem Al174 : (Try.prog.info? 174).map (·.zero) = some (some (.pointer none)) := by kernel_rfl
theorem Al180 : (Try.prog.info? 180).map (·.zero) = some (some (.agg #[.pointer none, .slice none 0 0, I 0, .map none, .map none])) := by kernel_rfl
theorem Al182 : (Try.prog.info? 182).map (·.zero) = some (some (.agg #[I 0, I 0])) := by kernel_rfl
theorem Al183 : (Try.prog.info? 183).map (·.zero) = some (some (.nilFunc)) := by kernel_rfl
theorem Al211 : (Try.prog.info? 211).map (·.zero) = some (some (.agg #[.pointer none, .nilFunc, .map none])) := by kernel_rfl
theorem Bd30 {fs : Array Field} (h : Try.prog.underlying 30 = some (.struct fs)) : fs.toList.mapM (fun f => (Try.prog.info? f.type).map fun i => (f.offset, i.size)) = some [(0, 1), (1, 1), (2, 1)] := by rw [Try.underlying30] at h; simp only [Option.some.injEq, TypeDesc.struct.injEq] at h; subst h; kernel_rfl
theorem Bd33 {fs : Array Field} (h : Try.prog.underlying 33 = some (.struct fs)) : fs.toList.mapM (fun f => (Try.prog.info? f.type).map fun i => (f.offset, i.size)) = some [(0, 1), (1, 1)] := by rw [Try.underlying33] at h; simp only [Option.some.injEq, TypeDesc.struct.injEq] at h; subst h; kernel_rfl
theorem Bd60 {fs : Array Field} (h : Try.prog.underlying 60 = some (.struct fs)) : fs.toList.mapM (fun f => (Try.prog.info? f.type).map fun i => (f.offset, i.size)) = some [(0, 1), (1, 1), (2, 1)] := by rw [Try.underlying60] at h; simp only [Option.some.injEq, TypeDesc.struct.injEq] at h; subst h; kernel_rfl
theorem Bd158 {fs : Array Field} (h : Try.prog.underlying 158 = some (.struct fs)) : fs.toList.mapM (fun f => (Try.prog.info? f.type).map fun i => (f.offset, i.size)) = some [(0, 1), (1, 1), (2, 1)] := by rw [Try.underlying158] at h; simp only [Option.some.injEq, TypeDesc.struct.injEq] at h; subst h; kernel_rfl
theorem Bd180 {fs : Array Field} (h : Try.prog.underlying 180 = some (.struct fs)) : fs.toList.mapM (fun f => (Try.prog.info? f.type).map fun i => (f.offset, i.size)) = some [(0, 1), (1, 1), (2, 1), (3, 1), (4, 1)] := by rw [Try.underlying180] at h; simp only [Option.some.injEq, TypeDesc.struct.injEq] at h; subst h; kernel_rfl
theorem Bd182 {fs : Array Field} (h : Try.prog.underlying 182 = some (.struct fs)) : fs.toList.mapM (fun f => (Try.prog.info? f.type).map fun i => (f.offset, i.size)) = some [(0, 1), (1, 1)] := by rw [Try.underlying182] at h; simp only [Option.some.injEq, TypeDesc.struct.injEq] at h; subst h; kernel_rfl
theorem Bd211 {fs : Array Field} (h : Try.prog.underlying 211 = some (.struct fs)) : fs.toList.mapM (fun f => (Try.prog.info? f.type).map fun i => (f.offset, i.size)) = some [(0, 1), (1, 1), (2, 1)] := by rw [Try.underlying211] at h; simp only [Option.some.injEq, TypeDesc.struct.injEq] at h; subst h; kernel_rfl

end Go.Proofs.Ytndobgodeicloaa
