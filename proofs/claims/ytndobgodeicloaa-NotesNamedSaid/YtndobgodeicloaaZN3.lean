/- Part 3 of the texts on which the proof rests. Conditions: none. -/
import Derived.RangeFuncRecord
import Derived.Laws.Cover3
import Derived.Test.YtndobgodeicloaaZN2
set_option linter.unusedVariables false
set_option linter.unusedSimpArgs false
set_option linter.unusedSectionVars false
section
set_option maxRecDepth 100000
set_option maxHeartbeats 16000000
namespace Go.Proofs.Ytndobgodeicloaa
open Go Go.Nm
theorem values1 {b : Nat} {vw : Value} {ws : List Work} (x : Note) (w : World) (aa : w.heap[b]? = some (.cells #[vw] 22 (0, 0))) (hw : Sl w.cell? vw ws) : Ret Try.prog 83 #[.agg #[I x.work, I x.version, I x.value], Pz b] w fun v w' => v = B (inB x.work 0 ((ws.length : Int) - 1) && (((ws.getD x.work.toNat default).of.length : Int) == 0)) /\ Ext w w' := by
 refine ret_of_W Try.func83 rfl rfl rfl ?_
 have E := Ext.refl w
 have K1 := KF.refl 0 w
 have ag := hw.len_le
 have hw := hw.par
 refine sQ rfl ?_
 refine s_box (v := .agg #[I x.work, I x.version, I x.value]) (cs := [I x.work, I x.version, I x.value]) rfl rfl ?_
 intro b2 w3 Nb2
 have o_K1_b2 := Nat.le_trans K1.size Nb2.ge
 have o_b2 := Nat.le_trans E.size Nb2.ge
 have o_b_b2 := Nat.lt_of_lt_of_le (heap_lt aa) Nb2.ge
 replace E := E.trans Nb2.ext
 replace K1 := K1.ext Nb2.ext
 replace aa := Nb2.ext.get aa
 have ab := Nb2.same
 clear Nb2
 refine sA (B false) rfl <| s_nil <| sQ rfl <| s_val (x_fa (v := Pz b2) rfl (fa_blk (o := 0) Fd30_0 Sz3)) <| s_val (x_ld (v := I x.work) rfl (ldb_sc Sc3 ab rfl)) <| s_val (x_ld (v := vw) rfl (ldb_sc Sc22 aa rfl)) <| s_val (x_lenS T22.und rfl (hw.to K1)) <| sR _ _ (ws.length - 1) rfl rfl rfl (by omega) ?_
 refine s_call cf84 [I x.work, I 0, I (ws.length - 1)] rfl (in_any _ _ _ _) ?_
 rintro _ w4 ⟨rfl, x5⟩
 replace E := E.trans x5
 replace K1 := K1.ext x5
 replace aa := x5.get aa
 replace ab := x5.get ab
 clear x5
 refine sM (B (inB x.work 0 (ws.length - 1))) rfl <| g_val (inB x.work 0 (ws.length - 1)) (gy_t rfl) (fun hg => x_ld (v := vw) rfl (ldb_sc Sc22 aa rfl)) <| g_val (inB x.work 0 (ws.length - 1)) (gy_t rfl) (fun hg => x_fa (v := Pz b2) rfl (fa_blk (o := 0) Fd30_0 Sz3)) <| g_val (inB x.work 0 (ws.length - 1)) (gy_t rfl) (fun hg => x_ld (v := I x.work) (gd_of hg (Pz b2)) (ldb_sc Sc3 ab rfl)) <| g_val (inB x.work 0 (ws.length - 1)) (gy_t rfl) (fun hg => x_ix (v := vat vw 3 (Int.toNat x.work)) (gd_of hg (vw)) (gd_of hg (I x.work)) (Sl.ix (α := Work) T22.und T22.size (hw.to K1) (by first | omega | (simp at hg; omega) | (simp [inB] at hg; omega)) (by first | omega | (simp at hg; omega) | (simp [inB] at hg; omega)))) <| g_val (inB x.work 0 (ws.length - 1)) (gy_t rfl) (fun hg => x_fa (v := fat (vat vw 3 (Int.toNat x.work)) 0) (gd_of hg (vat vw 3 (Int.toNat x.work))) (fa_pl Fd60_0 Sz34 (Sl.pl (i := x.work) hw (by first | omega | (simp at hg; omega) | (simp [inB] at hg; omega)) (by first | omega | (simp at hg; omega) | (simp [inB] at hg; omega))))) ?_
 obtain ⟨u6, ae, ac⟩ := gd_ex (c := inB x.work 0 (ws.length - 1)) fun hg => Work_at0 hw (i := x.work) (by first | omega | (simp at hg; omega) | (simp [inB] at hg; omega)) (by first | omega | (simp at hg; omega) | (simp [inB] at hg; omega))
 replace ac : (inB x.work 0 (ws.length - 1)) = true -> Sl _ u6 (ws.getD (Int.toNat x.work) default).of := ac
 refine g_val (inB x.work 0 (ws.length - 1)) (gy_t rfl) (fun hg => x_ld (v := u6) (gd_of hg (fat (vat vw 3 (Int.toNat x.work)) 0)) (ld_sc Sc34 (At.to (ae hg) K1))) <| g_val (inB x.work 0 (ws.length - 1)) (gy_t rfl) (fun hg => x_lenS T34.und (gd_of hg (u6)) ((ac hg).to K1)) <| g_val (inB x.work 0 (ws.length - 1)) (gy_t rfl) (fun hg => x_cmp (kd := .i64) (r := ((((ws.getD (Int.toNat x.work) default).of).length) : Int) == 0) (gd_of hg (I (((ws.getD (Int.toNat x.work) default).of).length))) rfl rfl) <| s_val (x_pand (b := inB x.work 0 (ws.length - 1)) (r := ((((ws.getD (Int.toNat x.work) default).of).length) : Int) == 0) rfl (fun hb => gd_of (c := inB x.work 0 (ws.length - 1)) (by simp_all) (B (((((ws.getD (Int.toNat x.work) default).of).length) : Int) == 0))) rfl) <| sA (B (((inB x.work 0 (ws.length - 1)) && (((((ws.getD (Int.toNat x.work) default).of).length) : Int) == 0)))) rfl <| s_nil ?_
 refine W.ret ?_
 exact ⟨_, resE_tmp rfl, rfl, E⟩

theorem values2 (x : Note) (w : World)  : Ret Try.prog 85 #[.agg #[I x.work, I x.version, I x.value]] w fun v w' => v = B (inB x.version 0 1000000 && inB x.value 0 1000002) /\ Ext w w' := by
 refine ret_of_W Try.func85 rfl rfl rfl ?_
 have E := Ext.refl w
 have K1 := KF.refl 0 w
 refine sQ rfl ?_
 refine s_box (v := .agg #[I x.work, I x.version, I x.value]) (cs := [I x.work, I x.version, I x.value]) rfl rfl ?_
 intro b2 w3 Nb2
 have o_K1_b2 := Nat.le_trans K1.size Nb2.ge
 have o_b2 := Nat.le_trans E.size Nb2.ge
 replace E := E.trans Nb2.ext
 replace K1 := K1.ext Nb2.ext
 have aa := Nb2.same
 clear Nb2
 refine sA (B false) rfl <| s_nil <| sQ rfl <| s_val (x_fa (v := Oz b2 1) rfl (fa_blk (o := 0) Fd30_1 Sz3)) <| s_val (x_ld (v := I x.version) rfl (ldb_sc Sc3 aa rfl)) ?_
 refine s_call cf84 [I x.version, I 0, I 1000000] rfl (in_any _ _ _ _) ?_
 rintro _ w4 ⟨rfl, x5⟩
 replace E := E.trans x5
 replace K1 := K1.ext x5
 replace aa := x5.get aa
 clear x5
 refine sM (B (inB x.version 0 1000000)) rfl <| g_val (inB x.version 0 1000000) (gy_t rfl) (fun hg => x_fa (v := Oz b2 2) rfl (fa_blk (o := 0) Fd30_2 Sz3)) <| g_val (inB x.version 0 1000000) (gy_t rfl) (fun hg => x_ld (v := I x.value) (gd_of hg (Oz b2 2)) (ldb_sc Sc3 aa rfl)) ?_
 refine g_call (inB x.version 0 1000000) (gy_t rfl) cf84 (B (inB x.value 0 1000002)) (fun _ => [I x.value, I 0, I 1000002]) (fun hg => lst3 (gd_of hg (I x.value)) rfl rfl) (fun hg => (in_any _ _ _ _)) ?_
 intro w6 x7
 replace E := E.trans x7
 replace K1 := K1.ext x7
 replace aa := x7.get aa
 clear x7
 refine s_val (x_pand (b := inB x.version 0 1000000) (r := inB x.value 0 1000002) rfl (fun hb => gd_of (c := inB x.version 0 1000000) (by simp_all) (B (inB x.value 0 1000002))) rfl) <| sA (B (((inB x.version 0 1000000) && (inB x.value 0 1000002)))) rfl <| s_nil ?_
 refine W.ret ?_
 exact ⟨_, resE_tmp rfl, rfl, E⟩

theorem values3 {b : Nat} {vo : Value} {out : List Int} (x : Int) (w : World) (aa : w.heap[b]? = some (.cells #[vo] 34 (0, 0))) (ho : Sl w.cell? vo out) (h0 : 0 <= x) (h1 : x < out.length) : Ret Try.prog 88 #[I x, Pz b] w fun v w' => v = B (out.getD (Int.toNat x) 0 != -1) /\ Ext w w' := by
 refine ret_of_W Try.func88 rfl rfl rfl ?_
 have E := Ext.refl w
 have K1 := KF.refl 0 w
 have ab := ho.len_le
 have ho := ho.par
 refine sQ rfl <| sA (B false) rfl <| s_nil <| sQ rfl <| s_val (x_ld (v := vo) rfl (ldb_sc Sc34 aa rfl)) <| sM (I x) rfl <| s_val (x_ix (v := vat vo 1 (Int.toNat x)) rfl rfl (Sl.ix (α := Int) T34.und T34.size (ho.to K1) (by omega) (by omega))) <| s_val (x_ld (v := I (out.getD (Int.toNat x) 0)) rfl (ld_sc Sc3 (At.to (Int_at ho (i := x) (by omega) (by omega)) K1))) <| sC _ _ (((out.getD (Int.toNat x) 0) : Int) != (-1)) rfl rfl rfl <| sA (B (((out.getD (Int.toNat x) 0) : Int) != (-1))) rfl ?_
 refine s_nil ?_
 refine W.ret ?_
 exact ⟨_, resE_tmp rfl, rfl, E⟩

set_option maxHeartbeats 4000000 in
theorem Values_any {vw vl : Value} {ws : List Work} {l : List Note} (w : World) (hw : Sl w.cell? vw ws) (hl : Sl w.cell? vl l) : Ret Try.prog 21 #[vw, vl] w fun v w' => ∃ u, v = .tuple #[u, I (valuesE ws l)] /\ Sl (frm w' w.heap.size) u (valuesR ws l) /\ Ext w w' := by
 refine ret_of_W Try.func21 rfl rfl rfl ?_
 have E := Ext.refl w
 have K1 := KF.refl 0 w
 have bO := hw.len_le
 have hw := hw.par
 have bP := hl.len_le
 have hl := hl.par
 refine sQ rfl ?_
 refine s_box (v := vw) (cs := [vw]) rfl (Sl.cells (hw.to K1)) ?_
 intro b2 w3 Nb2
 have o_K1_b2 := Nat.le_trans K1.size Nb2.ge
 have o_b2 := Nat.le_trans E.size Nb2.ge
 replace E := E.trans Nb2.ext
 replace K1 := K1.ext Nb2.ext
 have aa := Nb2.same
 clear Nb2
 refine sA (.slice none 0 0) rfl <| sA (I 0) rfl <| s_nil <| sQ rfl <| s_val (x_ld (v := vw) rfl (ldb_sc Sc22 aa rfl)) ?_
 refine s_call cf81 [vw] rfl (opened_any _ (hw.to K1)) ?_
 rintro _ w4 (⟨h6, rfl, x7⟩ | ⟨h8, b9, am, rfl, aH, aZ⟩)
 ·replace E := E.trans x7
  replace K1 := K1.ext x7
  replace aa := x7.get aa
  refine sM (.tuple #[.pointer none, .slice none 0 0, I (openedE ws)]) rfl <| sX [.pointer none, .slice none 0 0, I (openedE ws)] (.pointer none) rfl rfl <| sX [.pointer none, .slice none 0 0, I (openedE ws)] (.slice none 0 0) rfl rfl <| sX [.pointer none, .slice none 0 0, I (openedE ws)] (I (openedE ws)) rfl rfl <| sA (.pointer none) rfl <| sA (.slice none 0 0) rfl <| sA (I (openedE ws)) rfl <| s_nil <| W.seq <| W.block <| sQ rfl ?_
  refine sM (I (openedE ws)) rfl <| sC _ _ ((openedE ws : Int) != 0) rfl rfl rfl <| sA (B ((openedE ws : Int) != 0)) rfl <| s_nil ?_
  refine W.cond ((openedE ws : Int) != 0) rfl (fun a6 => ?_) (fun a6 => ?_)
  ·simp only [qz1, qz2, qz3, qz4, qz5, qz6, ne_eq, qz7] at a6
   refine sQ rfl <| sM (I (openedE ws)) rfl <| sA (.slice none 0 0) rfl <| sA (I (openedE ws)) rfl <| s_nil ?_
   refine W.ret ?_
   exact ⟨_, resE_tmp2 rfl, .slice none 0 0, (by rw [(v_wrong h6).1]; rfl), (by rw [(v_wrong h6).2]; exact Sl.nil _), E⟩
  simp only [qz1, qz2, qz3, qz4, qz5, qz6, ne_eq, qz7] at a6
  exact absurd a6 h6
 have hO := h8
 have hR := opened_right hO
 have bQ := (right_len hR).2
 have hn1 := (right_len hR).1
 have sz_w4 := E.size
 have lt_b2_w4 := heap_lt aa
 have o_K1_b9 := Nat.le_trans K1.size aH.ge
 have o_b9 := Nat.le_trans E.size aH.ge
 have o_b2_b9 := Nat.lt_of_lt_of_le (heap_lt aa) aH.ge
 replace E := E.trans aH.ext
 replace K1 := K1.ext aH.ext
 replace aa := aH.ext.get aa
 have ab := aH.same
 clear aH
 have bR := aZ.len_le
 have K14 := KF.refl w3.heap.size w4
 refine sM (.tuple #[Pz b9, am, I 0]) rfl <| sX [Pz b9, am, I 0] (Pz b9) rfl rfl <| sX [Pz b9, am, I 0] am rfl rfl <| sX [Pz b9, am, I 0] (I 0) rfl rfl <| sA (Pz b9) rfl <| sA am rfl <| sA (I 0) rfl <| s_nil <| W.seq <| W.block <| sQ rfl ?_
 refine sM (I 0) rfl <| sC _ _ ((0 : Int) != 0) rfl rfl rfl <| sA (B ((0 : Int) != 0)) rfl <| s_nil ?_
 refine W.cond ((0 : Int) != 0) rfl (fun a7 => ?_) (fun a7 => ?_)
 ·simp only [qz1, qz2, qz3, qz4, qz5, qz6, ne_eq, qz7] at a7
  exact absurd a7 (by decide)
 simp only [qz1, qz2, qz3, qz4, qz5, qz6, ne_eq, qz7] at a7
 refine sQ rfl <| sM vl rfl <| s_val (x_lenS T23.und rfl (hl.to K1)) <| sC _ _ (decide ((200 : Int) < l.length)) rfl rfl rfl <| sA (B (decide ((200 : Int) < l.length))) rfl <| s_nil ?_
 refine W.cond (decide ((200 : Int) < l.length)) rfl (fun ao => ?_) (fun ao => ?_)
 ·simp only [qz1, qz2, qz3, qz4, qz5, qz6, ne_eq, qz7] at ao
  refine sQ rfl <| sA (.slice none 0 0) rfl <| sA (I 3) rfl <| s_nil ?_
  refine W.ret ?_
  exact ⟨_, resE_tmp2 rfl, .slice none 0 0, (by rw [v_many hO ao]; rfl), (by rw [v_err (v_many hO ao) (by decide)]; exact Sl.nil _), E⟩
 simp only [qz1, qz2, qz3, qz4, qz5, qz6, ne_eq, qz7] at ao
 refine sQ rfl <| s_val (x_mf (fs := []) (cs := [Pz b2]) rfl rfl) <| sM vl rfl ?_
 refine s_call cf82 [.func (.func 83) #[] #[Pz b2], vl] rfl (every_Note _ (hl.to K1) ⟨83, [Pz b2], rfl, cf83, fun w' v x hE hD hA => by obtain rfl := Note_arg hA; exact (values1 _ _ (hE.get aa) ((hw.to K1).mono hE.le))⟩) ?_
 rintro _ bS ⟨rfl, aN⟩
 replace E := E.trans aN
 replace K1 := K1.ext aN
 replace K14 := K14.ext aN
 replace aa := aN.get aa
 replace ab := aN.get ab
 clear aN
 refine s_val (x_not (b := l.all (fun x : Note => inB x.work 0 ((ws.length : Int) - 1) && (((ws.getD x.work.toNat default).of.length : Int) == 0))) rfl) <| sA (B (!(l.all (fun x : Note => inB x.work 0 ((ws.length : Int) - 1) && (((ws.getD x.work.toNat default).of.length : Int) == 0))))) rfl <| s_nil ?_
 refine W.cond (!(l.all (fun x : Note => inB x.work 0 ((ws.length : Int) - 1) && (((ws.getD x.work.toNat default).of.length : Int) == 0)))) rfl (fun aA => ?_) (fun aA => ?_)
 ·skip
  refine sQ rfl <| sA (.slice none 0 0) rfl <| sA (I 2) rfl <| s_nil ?_
  refine W.ret ?_
  exact ⟨_, resE_tmp2 rfl, .slice none 0 0, (by rw [v_arg hO ao aA]; rfl), (by rw [v_err (v_arg hO ao aA) (by decide)]; exact Sl.nil _), E⟩
 skip
 refine sQ rfl <| sM vl rfl ?_
 refine s_call cf82 [.func (.func 85) #[] #[], vl] rfl (every_Note _ (hl.to K1) ⟨85, [], rfl, cf85, fun w' v x hE hD hA => by obtain rfl := Note_arg hA; exact (values2 _ _)⟩) ?_
 rintro _ bT ⟨rfl, aO⟩
 replace E := E.trans aO
 replace K1 := K1.ext aO
 replace K14 := K14.ext aO
 replace aa := aO.get aa
 replace ab := aO.get ab
 clear aO
 refine s_val (x_not (b := l.all (fun x : Note => inB x.version 0 1000000 && inB x.value 0 1000002)) rfl) <| sA (B (!(l.all (fun x : Note => inB x.version 0 1000000 && inB x.value 0 1000002)))) rfl <| s_nil ?_
 refine W.cond (!(l.all (fun x : Note => inB x.version 0 1000000 && inB x.value 0 1000002))) rfl (fun aB => ?_) (fun aB => ?_)
 ·skip
  refine sQ rfl <| sA (.slice none 0 0) rfl <| sA (I 4) rfl <| s_nil ?_
  refine W.ret ?_
  exact ⟨_, resE_tmp2 rfl, .slice none 0 0, (by rw [v_rng hO ao aA aB]; rfl), (by rw [v_err (v_rng hO ao aA aB) (by decide)]; exact Sl.nil _), E⟩
 skip
 refine W.skip <| sQ rfl ?_
 refine s_mkmap ?_
 intro al bU Nb23
 have o_K1_b23 := Nat.le_trans K1.size Nb23.ge
 have o_K14_b23 := Nat.le_trans K14.size Nb23.ge
 have o_b23 := Nat.le_trans E.size Nb23.ge
 have o_b2_b23 := Nat.lt_of_lt_of_le (heap_lt aa) Nb23.ge
 have o_b9_b23 := Nat.lt_of_lt_of_le (heap_lt ab) Nb23.ge
 replace E := E.trans Nb23.ext
 replace K1 := K1.ext Nb23.ext
 replace K14 := K14.ext Nb23.ext
 replace aa := Nb23.ext.get aa
 replace ab := Nb23.ext.get ab
 have ac := Nb23.same
 clear Nb23
 have m_b23 := MapR.nil (κ := Int) (ν := Note) I encN 0
 refine sA (.map (some al)) rfl <| s_nil <| W.seq <| sQ rfl <| sM vl rfl <| s_val (x_lenS T23.und rfl (hl.to K1)) <| sM (I 0) rfl <| s_nil <| W.block ?_
 refine W.loop (fun m σ W => ∃ (i : Nat)  (es_b23 : Array MapEntry) (ck_b23 : Nat) (ρ : Env), σ = upds ρ [(1, vl), (2, Pz b2), (7, am), (9, .map (some al)), (48, vl), (49, I l.length), (50, I i)] /\ m = l.length - i /\ Ext w W /\ KF 0 w W /\ KF w3.heap.size w4 W /\ W.heap[b2]? = some (.cells #[vw] 22 (0, 0)) /\ W.heap[b9]? = some (.cells #[vw] 187 (0, 0)) /\ W.heap[al]? = some (.map es_b23 ck_b23) /\ MapR I encN es_b23 ck_b23 (newF (l.take i)) /\ i <= l.length /\ (List.range i).any (twAt l) = false) ?_ ?_
 ·exact ⟨_, 0, #[], 0, _, upds_of _ _ ⟨rfl, rfl, rfl, rfl, rfl, rfl, (eqI (by omega)), trivial⟩, rfl, E, K1, K14, aa, ab, ac, m_b23, (Nat.zero_le _), rfl⟩
 rintro m σ bu ⟨i, es_b23, ck_b23, ρ, rfl, rfl, E, K1, K14, aa, ab, ac, m_b23, bv, a8⟩
 refine sQ rfl <| sC _ _ (decide ((i : Int) < l.length)) rfl rfl rfl <| s_nil <| W.seq ?_
 refine W.cond (decide ((i : Int) < l.length)) rfl (fun aC => ?_) (fun aC => ?_)
 ·simp only [qz1, qz2, qz3, qz4, qz5, qz6, ne_eq, qz7] at aC
  refine W.skip <| W.seq <| W.block <| sQ rfl <| sM (I i) rfl <| s_val (x_ix (v := vat vl 3 (Int.toNat i)) rfl rfl (Sl.ix (α := Note) T23.und T23.size (hl.to K1) (by omega) (by omega))) <| s_val (x_ld (v := .agg #[I ((l.getD i default).work), I ((l.getD i default).version), I ((l.getD i default).value)]) rfl (ld_ag Ag30 Sz30 (At.to (Note_atA hl (i := i) (by omega) (by omega)) K1))) ?_
  refine s_alloc (cs := [I 0, I 0, I 0]) Al30 rfl ?_
  intro aw bV Nb27
  have o_K1_b27 := Nat.le_trans K1.size Nb27.ge
  have o_K14_b27 := Nat.le_trans K14.size Nb27.ge
  have o_b27 := Nat.le_trans E.size Nb27.ge
  have o_b2_b27 := Nat.lt_of_lt_of_le (heap_lt aa) Nb27.ge
  have o_b9_b27 := Nat.lt_of_lt_of_le (heap_lt ab) Nb27.ge
  have o_b23_b27 := Nat.lt_of_lt_of_le (heap_lt ac) Nb27.ge
  replace E := E.trans Nb27.ext
  replace K1 := K1.ext Nb27.ext
  replace K14 := K14.ext Nb27.ext
  replace aa := Nb27.ext.get aa
  replace ab := Nb27.ext.get ab
  replace ac := Nb27.ext.get ac
  have ai := Nb27.same
  clear Nb27
  refine sA (I i) rfl ?_
  refine s_st (b := aw) (off := 0) (vs := [I ((l.getD i default).work), I ((l.getD i default).version), I ((l.getD i default).value)]) (cs' := [I ((l.getD i default).work), I ((l.getD i default).version), I ((l.getD i default).value)]) (v := .agg #[I ((l.getD i default).work), I ((l.getD i default).version), I ((l.getD i default).value)]) rfl rfl Sz30 ai rfl rfl rfl rfl rfl ?_
  intro bW aI
  replace E := E.put (by omega) aI
  replace K1 := K1.put aI (by omega)
  replace K14 := K14.put aI (by omega)
  replace aa := aI.get (by omega) aa
  replace ab := aI.get (by omega) ab
  replace ac := aI.get (by omega) ac
  replace ai := aI.same
  clear aI
  refine s_nil <| W.seq <| sQ rfl <| sM vl rfl <| sM (I i) rfl ?_
  obtain ⟨ba, bB, aU⟩ := sl_hi T23.und T23.size hl (j := i) (by omega) (by omega)
  replace aU : Sl _ ba (l.take i) := aU
  refine s_val (x_sl (v := vl) (u := ba) (lo' := none) (hi' := some (I i)) (mx' := none) rfl rfl rfl rfl (bB _)) <| s_val (x_lenS T23.und rfl (aU.to K1)) <| sM (I 0) rfl <| s_nil <| W.block ?_
  refine W.loop (fun m σ W => ∃ (j : Nat) (ρ : Env), σ = upds ρ [(1, vl), (2, Pz b2), (7, am), (9, .map (some al)), (11, Pz aw), (48, vl), (49, I l.length), (50, I i), (57, ba), (58, I ((l.take i).length)), (59, I j)] /\ m = (l.take i).length - j /\ Ext w W /\ KF 0 w W /\ KF w3.heap.size w4 W /\ W.heap[b2]? = some (.cells #[vw] 22 (0, 0)) /\ W.heap[b9]? = some (.cells #[vw] 187 (0, 0)) /\ W.heap[al]? = some (.map es_b23 ck_b23) /\ W.heap[aw]? = some (.cells #[I ((l.getD i default).work), I ((l.getD i default).version), I ((l.getD i default).value)] 30 (0, 0)) /\ j <= (l.take i).length /\ ((l.take i).take j).any (fun m => twP m (l.getD i default)) = false) ?_ ?_
  ·exact ⟨_, 0, _, upds_of _ _ ⟨rfl, rfl, rfl, rfl, rfl, rfl, rfl, rfl, rfl, rfl, (eqI (by omega)), trivial⟩, rfl, E, K1, K14, aa, ab, ac, ai, (Nat.zero_le _), rfl⟩
  rintro m σ bX ⟨j, ρ, rfl, rfl, E, K1, K14, aa, ab, ac, ai, bY, bo⟩
  have htl : (l.take i).length <= l.length := by rw [List.length_take]; omega
  refine sQ rfl <| sC _ _ (decide ((j : Int) < ((l.take i).length))) rfl rfl rfl <| s_nil <| W.seq ?_
  refine W.cond (decide ((j : Int) < ((l.take i).length))) rfl (fun aJ => ?_) (fun aJ => ?_)
  ·simp only [qz1, qz2, qz3, qz4, qz5, qz6, ne_eq, qz7] at aJ
   refine W.skip <| W.seq <| W.block <| sQ rfl <| s_val (x_ix (v := vat ba 3 (Int.toNat j)) rfl rfl (Sl.ix (α := Note) T23.und T23.size (aU.to K1) (by omega) (by omega))) <| s_val (x_ld (v := .agg #[I (((l.take i).getD j default).work), I (((l.take i).getD j default).version), I (((l.take i).getD j default).value)]) rfl (ld_ag Ag30 Sz30 (At.to (Note_atA aU (i := j) (by omega) (by omega)) K1))) ?_
   refine s_alloc (cs := [I 0, I 0, I 0]) Al30 rfl ?_
   intro bb bZ Nb35
   have o_K1_b35 := Nat.le_trans K1.size Nb35.ge
   have o_K14_b35 := Nat.le_trans K14.size Nb35.ge
   have o_b35 := Nat.le_trans E.size Nb35.ge
   have o_b2_b35 := Nat.lt_of_lt_of_le (heap_lt aa) Nb35.ge
   have o_b9_b35 := Nat.lt_of_lt_of_le (heap_lt ab) Nb35.ge
   have o_b23_b35 := Nat.lt_of_lt_of_le (heap_lt ac) Nb35.ge
   have o_b27_b35 := Nat.lt_of_lt_of_le (heap_lt ai) Nb35.ge
   replace E := E.trans Nb35.ext
   replace K1 := K1.ext Nb35.ext
   replace K14 := K14.ext Nb35.ext
   replace aa := Nb35.ext.get aa
   replace ab := Nb35.ext.get ab
   replace ac := Nb35.ext.get ac
   replace ai := Nb35.ext.get ai
   have aV := Nb35.same
   clear Nb35
   refine s_st (b := bb) (off := 0) (vs := [I (((l.take i).getD j default).work), I (((l.take i).getD j default).version), I (((l.take i).getD j default).value)]) (cs' := [I (((l.take i).getD j default).work), I (((l.take i).getD j default).version), I (((l.take i).getD j default).value)]) (v := .agg #[I (((l.take i).getD j default).work), I (((l.take i).getD j default).version), I (((l.take i).getD j default).value)]) rfl rfl Sz30 aV rfl rfl rfl rfl rfl ?_
   intro b6 aD
   replace E := E.put (by omega) aD
   replace K1 := K1.put aD (by omega)
   replace K14 := K14.put aD (by omega)
   replace aa := aD.get (by omega) aa
   replace ab := aD.get (by omega) ab
   replace ac := aD.get (by omega) ac
   replace ai := aD.get (by omega) ai
   replace aV := aD.same
   clear aD
   refine s_nil <| sQ rfl <| s_val (x_fa (v := Pz bb) rfl (fa_blk (o := 0) Fd30_0 Sz3)) <| s_val (x_ld (v := I (((l.take i).getD j default).work)) rfl (ldb_sc Sc3 aV rfl)) <| s_val (x_fa (v := Pz aw) rfl (fa_blk (o := 0) Fd30_0 Sz3)) <| s_val (x_ld (v := I ((l.getD i default).work)) rfl (ldb_sc Sc3 ai rfl)) <| sC _ _ (((((l.take i).getD j default).work) : Int) == ((l.getD i default).work)) rfl rfl rfl <| sM (B (((((l.take i).getD j default).work) : Int) == ((l.getD i default).work))) rfl <| g_val (((((l.take i).getD j default).work) : Int) == ((l.getD i default).work)) (gy_t rfl) (fun hg => x_fa (v := Oz bb 1) rfl (fa_blk (o := 0) Fd30_1 Sz3)) <| g_val (((((l.take i).getD j default).work) : Int) == ((l.getD i default).work)) (gy_t rfl) (fun hg => x_ld (v := I (((l.take i).getD j default).version)) (gd_of hg (Oz bb 1)) (ldb_sc Sc3 aV rfl)) <| g_val (((((l.take i).getD j default).work) : Int) == ((l.getD i default).work)) (gy_t rfl) (fun hg => x_fa (v := Oz aw 1) rfl (fa_blk (o := 0) Fd30_1 Sz3)) ?_
   refine g_val (((((l.take i).getD j default).work) : Int) == ((l.getD i default).work)) (gy_t rfl) (fun hg => x_ld (v := I ((l.getD i default).version)) (gd_of hg (Oz aw 1)) (ldb_sc Sc3 ai rfl)) <| g_val (((((l.take i).getD j default).work) : Int) == ((l.getD i default).work)) (gy_t rfl) (fun hg => x_cmp (kd := .i64) (r := ((((l.take i).getD j default).version) : Int) == ((l.getD i default).version)) (gd_of hg (I (((l.take i).getD j default).version))) (gd_of hg (I ((l.getD i default).version))) rfl) <| s_val (x_pand (b := ((((l.take i).getD j default).work) : Int) == ((l.getD i default).work)) (r := ((((l.take i).getD j default).version) : Int) == ((l.getD i default).version)) rfl (fun hb => gd_of (c := ((((l.take i).getD j default).work) : Int) == ((l.getD i default).work)) (by simp_all) (B (((((l.take i).getD j default).version) : Int) == ((l.getD i default).version)))) rfl) <| sM (B (((((((l.take i).getD j default).work) : Int) == ((l.getD i default).work)) && (((((l.take i).getD j default).version) : Int) == ((l.getD i default).version))))) rfl <| g_val (((((((l.take i).getD j default).work) : Int) == ((l.getD i default).work)) && (((((l.take i).getD j default).version) : Int) == ((l.getD i default).version)))) (gy_t rfl) (fun hg => x_ld (v := .agg #[I (((l.take i).getD j default).work), I (((l.take i).getD j default).version), I (((l.take i).getD j default).value)]) rfl (ldb_ag (ds := [I (((l.take i).getD j default).work), I (((l.take i).getD j default).version), I (((l.take i).getD j default).value)]) Ag30 Sz30 aV rfl rfl)) <| g_val (((((((l.take i).getD j default).work) : Int) == ((l.getD i default).work)) && (((((l.take i).getD j default).version) : Int) == ((l.getD i default).version)))) (gy_t rfl) (fun hg => x_ld (v := .agg #[I ((l.getD i default).work), I ((l.getD i default).version), I ((l.getD i default).value)]) rfl (ldb_ag (ds := [I ((l.getD i default).work), I ((l.getD i default).version), I ((l.getD i default).value)]) Ag30 Sz30 ai rfl rfl)) <| g_val (((((((l.take i).getD j default).work) : Int) == ((l.getD i default).work)) && (((((l.take i).getD j default).version) : Int) == ((l.getD i default).version)))) (gy_t rfl) (fun hg => x_neS (eqN (((l.take i).getD j default)) ((l.getD i default)) _) gdN (gd_of hg (.agg #[I (((l.take i).getD j default).work), I (((l.take i).getD j default).version), I (((l.take i).getD j default).value)])) (gd_of hg (.agg #[I ((l.getD i default).work), I ((l.getD i default).version), I ((l.getD i default).value)]))) <| s_val (x_pand (b := ((((((l.take i).getD j default).work) : Int) == ((l.getD i default).work)) && (((((l.take i).getD j default).version) : Int) == ((l.getD i default).version)))) (r := !(decide (((l.take i).getD j default) = (l.getD i default)))) rfl (fun hb => gd_of (c := ((((((l.take i).getD j default).work) : Int) == ((l.getD i default).work)) && (((((l.take i).getD j default).version) : Int) == ((l.getD i default).version)))) (by simp_all) (B (!(decide (((l.take i).getD j default) = (l.getD i default)))))) rfl) <| s_nil ?_
   refine W.cond (((((((((l.take i).getD j default).work) : Int) == ((l.getD i default).work)) && (((((l.take i).getD j default).version) : Int) == ((l.getD i default).version)))) && (!(decide (((l.take i).getD j default) = (l.getD i default)))))) rfl (fun bc => ?_) (fun bc => ?_)
   ·skip
    refine sQ rfl <| sA (.slice none 0 0) rfl <| sA (I 10) rfl <| s_nil ?_
    refine W.ret ?_
    exact ⟨_, resE_tmp2 rfl, .slice none 0 0, (by rw [v_twice hO ao aA aB (tw_yes aC aJ bc)]; rfl), (by rw [v_err (v_twice hO ao aA aB (tw_yes aC aJ bc)) (by decide)]; exact Sl.nil _), E⟩
   skip
   refine W.skip <| W.region rfl <| sR _ _ (j + 1) rfl rfl rfl (by omega) <| sM (I (j + 1)) rfl <| s_nil ?_
   exact ⟨_, (by omega), j+1, _, upds_of _ _ ⟨rfl, rfl, rfl, rfl, rfl, rfl, rfl, rfl, rfl, rfl, (eqI (by omega)), trivial⟩, rfl, E, K1, K14, aa, ab, ac, ai, (by omega), (tw_step bo aJ bc)⟩
  simp only [qz1, qz2, qz3, qz4, qz5, qz6, ne_eq, qz7] at aJ
  refine W.exit ?_
  refine sQ rfl <| sM (.map (some al)) rfl <| s_val (x_fa (v := Pz aw) rfl (fa_blk (o := 0) Fd30_0 Sz3)) <| s_val (x_ld (v := I ((l.getD i default).work)) rfl (ldb_sc Sc3 ai rfl)) <| s_val (x_look (kenc := I) (venc := encN) (f := newF (l.take i)) (k := ((l.getD i default).work)) (v := .tuple #[.agg #[I ((((newF (l.take i)) ((l.getD i default).work)).getD default).work), I ((((newF (l.take i)) ((l.getD i default).work)).getD default).version), I ((((newF (l.take i)) ((l.getD i default).work)).getD default).value)], B (((newF (l.take i)) ((l.getD i default).work)).isSome)]) keyInt Try.underlying133 Al30 rfl rfl ac m_b23 true (by rw [if_pos rfl, note_val])) <| sM (.tuple #[.agg #[I ((((newF (l.take i)) ((l.getD i default).work)).getD default).work), I ((((newF (l.take i)) ((l.getD i default).work)).getD default).version), I ((((newF (l.take i)) ((l.getD i default).work)).getD default).value)], B (((newF (l.take i)) ((l.getD i default).work)).isSome)]) rfl <| sX [.agg #[I ((((newF (l.take i)) ((l.getD i default).work)).getD default).work), I ((((newF (l.take i)) ((l.getD i default).work)).getD default).version), I ((((newF (l.take i)) ((l.getD i default).work)).getD default).value)], B (((newF (l.take i)) ((l.getD i default).work)).isSome)] (.agg #[I ((((newF (l.take i)) ((l.getD i default).work)).getD default).work), I ((((newF (l.take i)) ((l.getD i default).work)).getD default).version), I ((((newF (l.take i)) ((l.getD i default).work)).getD default).value)]) rfl rfl <| sX [.agg #[I ((((newF (l.take i)) ((l.getD i default).work)).getD default).work), I ((((newF (l.take i)) ((l.getD i default).work)).getD default).version), I ((((newF (l.take i)) ((l.getD i default).work)).getD default).value)], B (((newF (l.take i)) ((l.getD i default).work)).isSome)] (B (((newF (l.take i)) ((l.getD i default).work)).isSome)) rfl rfl ?_
  refine s_alloc (cs := [I 0, I 0, I 0]) Al30 rfl ?_
  intro bp b8 Nb40
  have o_K1_b40 := Nat.le_trans K1.size Nb40.ge
  have o_K14_b40 := Nat.le_trans K14.size Nb40.ge
  have o_b40 := Nat.le_trans E.size Nb40.ge
  have o_b2_b40 := Nat.lt_of_lt_of_le (heap_lt aa) Nb40.ge
  have o_b9_b40 := Nat.lt_of_lt_of_le (heap_lt ab) Nb40.ge
  have o_b23_b40 := Nat.lt_of_lt_of_le (heap_lt ac) Nb40.ge
  have o_b27_b40 := Nat.lt_of_lt_of_le (heap_lt ai) Nb40.ge
  replace E := E.trans Nb40.ext
  replace K1 := K1.ext Nb40.ext
  replace K14 := K14.ext Nb40.ext
  replace aa := Nb40.ext.get aa
  replace ab := Nb40.ext.get ab
  replace ac := Nb40.ext.get ac
  replace ai := Nb40.ext.get ai
  have aW := Nb40.same
  clear Nb40
  refine s_st (b := bp) (off := 0) (vs := [I ((((newF (l.take i)) ((l.getD i default).work)).getD default).work), I ((((newF (l.take i)) ((l.getD i default).work)).getD default).version), I ((((newF (l.take i)) ((l.getD i default).work)).getD default).value)]) (cs' := [I ((((newF (l.take i)) ((l.getD i default).work)).getD default).work), I ((((newF (l.take i)) ((l.getD i default).work)).getD default).version), I ((((newF (l.take i)) ((l.getD i default).work)).getD default).value)]) (v := .agg #[I ((((newF (l.take i)) ((l.getD i default).work)).getD default).work), I ((((newF (l.take i)) ((l.getD i default).work)).getD default).version), I ((((newF (l.take i)) ((l.getD i default).work)).getD default).value)]) rfl rfl Sz30 aW rfl rfl rfl rfl rfl ?_
  intro ca aE
  replace E := E.put (by omega) aE
  replace K1 := K1.put aE (by omega)
  replace K14 := K14.put aE (by omega)
  replace aa := aE.get (by omega) aa
  replace ab := aE.get (by omega) ab
  replace ac := aE.get (by omega) ac
  replace ai := aE.get (by omega) ai
  replace aW := aE.same
  clear aE
  refine sA (B (((newF (l.take i)) ((l.getD i default).work)).isSome)) rfl <| s_nil <| sQ rfl <| sM (B (((newF (l.take i)) ((l.getD i default).work)).isSome)) rfl <| s_val (x_not (b := ((newF (l.take i)) ((l.getD i default).work)).isSome) rfl) <| sM (B (!(((newF (l.take i)) ((l.getD i default).work)).isSome))) rfl <| g_val (!(!(((newF (l.take i)) ((l.getD i default).work)).isSome))) (gy_f rfl) (fun hg => x_fa (v := Oz aw 1) rfl (fa_blk (o := 0) Fd30_1 Sz3)) <| g_val (!(!(((newF (l.take i)) ((l.getD i default).work)).isSome))) (gy_f rfl) (fun hg => x_ld (v := I ((l.getD i default).version)) (gd_of hg (Oz aw 1)) (ldb_sc Sc3 ai rfl)) <| g_val (!(!(((newF (l.take i)) ((l.getD i default).work)).isSome))) (gy_f rfl) (fun hg => x_fa (v := Oz bp 1) rfl (fa_blk (o := 0) Fd30_1 Sz3)) <| g_val (!(!(((newF (l.take i)) ((l.getD i default).work)).isSome))) (gy_f rfl) (fun hg => x_ld (v := I ((((newF (l.take i)) ((l.getD i default).work)).getD default).version)) (gd_of hg (Oz bp 1)) (ldb_sc Sc3 aW rfl)) <| g_val (!(!(((newF (l.take i)) ((l.getD i default).work)).isSome))) (gy_f rfl) (fun hg => x_cmp (kd := .i64) (r := decide ((((((newF (l.take i)) ((l.getD i default).work)).getD default).version) : Int) < ((l.getD i default).version))) (gd_of hg (I ((l.getD i default).version))) (gd_of hg (I ((((newF (l.take i)) ((l.getD i default).work)).getD default).version))) rfl) ?_
  refine s_val (x_por (b := !(((newF (l.take i)) ((l.getD i default).work)).isSome)) (r := decide ((((((newF (l.take i)) ((l.getD i default).work)).getD default).version) : Int) < ((l.getD i default).version))) rfl rfl (fun hb => gd_of (c := !(!(((newF (l.take i)) ((l.getD i default).work)).isSome))) (by simp_all) (B (decide ((((((newF (l.take i)) ((l.getD i default).work)).getD default).version) : Int) < ((l.getD i default).version)))))) <| s_nil ?_
  refine W.cond (((!(((newF (l.take i)) ((l.getD i default).work)).isSome)) || (decide ((((((newF (l.take i)) ((l.getD i default).work)).getD default).version) : Int) < ((l.getD i default).version))))) rfl (fun bq => ?_) (fun bq => ?_)
  ·skip
   refine W.region rfl <| sM (.map (some al)) rfl <| s_val (x_fa (v := Pz aw) rfl (fa_blk (o := 0) Fd30_0 Sz3)) <| s_val (x_ld (v := I ((l.getD i default).work)) rfl (ldb_sc Sc3 ai rfl)) <| s_val (x_ld (v := .agg #[I ((l.getD i default).work), I ((l.getD i default).version), I ((l.getD i default).value)]) rfl (ldb_ag (ds := [I ((l.getD i default).work), I ((l.getD i default).version), I ((l.getD i default).value)]) Ag30 Sz30 ai rfl rfl)) ?_
   refine s_mapu (kenc := I) (venc := encN) (f := newF (l.take i)) (k := ((l.getD i default).work)) (v := (l.getD i default)) keyInt Try.underlying133 rfl rfl rfl ac m_b23 ?_
   intro bC bD cb aF bE
   replace E := E.put (by omega) aF
   replace K1 := K1.put aF (by omega)
   replace K14 := K14.put aF (by omega)
   replace aa := aF.get (by omega) aa
   replace ab := aF.get (by omega) ab
   replace ai := aF.get (by omega) ai
   replace aW := aF.get (by omega) aW
   replace ac := aF.same
   clear aF
   refine s_nil <| W.region rfl <| sR _ _ (i + 1) rfl rfl rfl (by omega) <| sM (I (i + 1)) rfl <| s_nil ?_
   exact ⟨_, (by omega), i+1, bC, bD, _, upds_of _ _ ⟨rfl, rfl, rfl, rfl, rfl, rfl, (eqI (by omega)), trivial⟩, rfl, E, K1, K14, aa, ab, ac, (by rw [newF_next l aC, newStep_yes bq]; exact bE), (by omega), (tw_end a8 bo aJ)⟩
  skip
  refine W.skip <| W.region rfl <| sR _ _ (i + 1) rfl rfl rfl (by omega) <| sM (I (i + 1)) rfl <| s_nil ?_
  exact ⟨_, (by omega), i+1, es_b23, ck_b23, _, upds_of _ _ ⟨rfl, rfl, rfl, rfl, rfl, rfl, (eqI (by omega)), trivial⟩, rfl, E, K1, K14, aa, ab, ac, (by rw [newF_next l aC, newStep_no bq]; exact m_b23), (by omega), (tw_end a8 bo aJ)⟩
 simp only [qz1, qz2, qz3, qz4, qz5, qz6, ne_eq, qz7] at aC
 refine W.exit ?_
 refine sQ rfl ?_
 refine s_bsl (α := Int) T34 bu.heap.size [I (-1)] [(-1 : Int)] rfl (.cons rfl (Flat.rep_enc _ _) <| .nil) (Nat.le_refl _) rfl (by decide) (by decide) ?_
 intro bF aK bG aM nn_u50
 replace E := E.trans aM
 replace K1 := K1.ext aM
 replace K14 := K14.ext aM
 replace aa := aM.get aa
 replace ab := aM.get ab
 replace ac := aM.get ac
 clear aM
 have K54 := KF.refl bu.heap.size aK
 refine s_val (x_ld (v := vw) rfl (ldb_sc Sc22 aa rfl)) <| s_val (x_lenS T22.und rfl (hw.to K1)) ?_
 refine s_call cf86 [bF, I ws.length] rfl (repeat_int _ (bG.to K54) (by omega) (by omega)) ?_
 rintro bf cc ⟨ap, aG⟩
 have n_v57_b2 := ap.ne' (heap_lt aa)
 have n_v57_b9 := ap.ne' (heap_lt ab)
 have n_v57_b23 := ap.ne' (heap_lt ac)
 have ah := Nat.le_refl aK.heap.size
 have B_v57 := E.size
 have B_v57_K1 := K1.size
 have B_v57_K14 := K14.size
 have B_v57_K54 := K54.size
 replace E := E.trans aG
 replace ah := Nat.le_trans ah aG.size
 replace K1 := K1.ext aG
 replace K14 := K14.ext aG
 replace K54 := K54.ext aG
 replace aa := aG.get aa
 replace ab := aG.get ab
 replace ac := aG.get ac
 clear aG
 refine s_alloc (cs := [.slice none 0 0]) Al34 rfl ?_
 intro ak cd Nb60
 have o_K1_b60 := Nat.le_trans K1.size Nb60.ge
 have o_K14_b60 := Nat.le_trans K14.size Nb60.ge
 have o_K54_b60 := Nat.le_trans K54.size Nb60.ge
 have o_b60 := Nat.le_trans E.size Nb60.ge
 have o_b2_b60 := Nat.lt_of_lt_of_le (heap_lt aa) Nb60.ge
 have o_b9_b60 := Nat.lt_of_lt_of_le (heap_lt ab) Nb60.ge
 have o_b23_b60 := Nat.lt_of_lt_of_le (heap_lt ac) Nb60.ge
 have n_v57_b60 := ap.ne Nb60.ge
 replace E := E.trans Nb60.ext
 replace ah := Nat.le_trans ah Nb60.ext.size
 replace K1 := K1.ext Nb60.ext
 replace K14 := K14.ext Nb60.ext
 replace K54 := K54.ext Nb60.ext
 replace aa := Nb60.ext.get aa
 replace ab := Nb60.ext.get ab
 replace ac := Nb60.ext.get ac
 replace ap := ap.ext Nb60.ext
 have ae := Nb60.same
 clear Nb60
 refine s_st (b := ak) (off := 0) (vs := [bf]) (cs' := [bf]) (v := bf) rfl rfl Sz34 ae (Sl.cells (ap.sl.mono (frm_le _ _))) rfl rfl (by simp only [List.all_cons, List.all_nil, Bool.true_and, Bool.and_true, Sl.oc (ap.sl.mono (frm_le _ _))]; try rfl) rfl ?_
 intro ce aq
 replace E := E.put (by omega) aq
 replace ah := Nat.le_trans ah (Nat.le_of_eq aq.size.symm)
 replace K1 := K1.put aq (by omega)
 replace K14 := K14.put aq (by omega)
 replace K54 := K54.put aq (by omega)
 replace aa := aq.get (by omega) aa
 replace ab := aq.get (by omega) ab
 replace ac := aq.get (by omega) ac
 replace ap := ap.put aq n_v57_b60
 replace ae := aq.same
 clear aq
 refine s_nil <| W.seq <| sQ rfl <| sM am rfl <| s_val (x_lenS T34.und rfl (aZ.to K14)) <| sM (I 0) rfl <| s_nil <| W.block ?_
 refine W.loop (fun m σ W => ∃ (k : Nat) (vo : Value) (ρ : Env), σ = upds ρ [(2, Pz b2), (9, .map (some al)), (16, Pz ak), (106, am), (107, I ((orderP ws).length)), (108, I k)] /\ m = (orderP ws).length - k /\ Ext w W /\ KF 0 w W /\ KF w3.heap.size w4 W /\ W.heap[b2]? = some (.cells #[vw] 22 (0, 0)) /\ W.heap[b9]? = some (.cells #[vw] 187 (0, 0)) /\ W.heap[al]? = some (.map es_b23 ck_b23) /\ W.heap[ak]? = some (.cells #[vo] 34 (0, 0)) /\ aK.heap.size <= W.heap.size /\ OwnF aK.heap.size 3 W vo (valF ws (newF (l.take i)) ((orderP ws).take k) (List.replicate ws.length (-1))) /\ vo.ownBlock ≠ some b2 /\ vo.ownBlock ≠ some b9 /\ vo.ownBlock ≠ some al /\ vo.ownBlock ≠ some ak /\ k <= (orderP ws).length) ?_ ?_
 ·exact ⟨_, 0, bf, _, upds_of _ _ ⟨rfl, rfl, rfl, rfl, rfl, (eqI (by omega)), trivial⟩, rfl, E, K1, K14, aa, ab, ac, ae, ah, ap, n_v57_b2, n_v57_b9, n_v57_b23, n_v57_b60, (Nat.zero_le _)⟩
 rintro m σ cf ⟨k, vo, ρ, rfl, rfl, E, K1, K14, aa, ab, ac, ae, ah, ag, n_vo_b2, n_vo_b9, n_vo_b23, n_vo_b60, cg⟩
 have hvb := valF_VB (ws := ws) (f := newF (l.take i)) (newF_val aB i) ((orderP ws).take k) (R := List.replicate ws.length (-1)) (fun y hy => by have := List.eq_of_mem_replicate hy; omega)
 have hvl : (valF ws (newF (l.take i)) ((orderP ws).take k) (List.replicate ws.length (-1))).length = ws.length := by rw [valF_len]; simp
 refine sQ rfl <| sC _ _ (decide ((k : Int) < ((orderP ws).length))) rfl rfl rfl <| s_nil <| W.seq ?_
 refine W.cond (decide ((k : Int) < ((orderP ws).length))) rfl (fun aL => ?_) (fun aL => ?_)
 ·simp only [qz1, qz2, qz3, qz4, qz5, qz6, ne_eq, qz7] at aL
  have hik := order_at ws aL
  have hof := right_of hR (i := Int.toNat ((orderP ws).getD k 0)) (by omega)
  have bg := right_nums hR (i := Int.toNat ((orderP ws).getD k 0)) (by omega)
  have ho5 := right_ofs hR (i := Int.toNat ((orderP ws).getD k 0)) (by omega)
  refine W.skip <| W.seq <| W.block <| sQ rfl <| s_val (x_ix (v := vat am 1 (Int.toNat k)) rfl rfl (Sl.ix (α := Int) T34.und T34.size (aZ.to K14) (by omega) (by omega))) <| s_val (x_ld (v := I ((orderP ws).getD k 0)) rfl (ld_sc Sc3 (At.to (Int_at aZ (i := k) (by omega) (by omega)) K14))) <| sA (I ((orderP ws).getD k 0)) rfl <| s_nil <| W.seq <| sQ rfl ?_
  refine sM (.map (some al)) rfl <| sM (I ((orderP ws).getD k 0)) rfl <| s_val (x_look (kenc := I) (venc := encN) (f := newF (l.take i)) (k := ((orderP ws).getD k 0)) (v := .tuple #[.agg #[I ((((newF (l.take i)) ((orderP ws).getD k 0)).getD default).work), I ((((newF (l.take i)) ((orderP ws).getD k 0)).getD default).version), I ((((newF (l.take i)) ((orderP ws).getD k 0)).getD default).value)], B (((newF (l.take i)) ((orderP ws).getD k 0)).isSome)]) keyInt Try.underlying133 Al30 rfl rfl ac m_b23 true (by rw [if_pos rfl, note_val])) <| sM (.tuple #[.agg #[I ((((newF (l.take i)) ((orderP ws).getD k 0)).getD default).work), I ((((newF (l.take i)) ((orderP ws).getD k 0)).getD default).version), I ((((newF (l.take i)) ((orderP ws).getD k 0)).getD default).value)], B (((newF (l.take i)) ((orderP ws).getD k 0)).isSome)]) rfl <| sX [.agg #[I ((((newF (l.take i)) ((orderP ws).getD k 0)).getD default).work), I ((((newF (l.take i)) ((orderP ws).getD k 0)).getD default).version), I ((((newF (l.take i)) ((orderP ws).getD k 0)).getD default).value)], B (((newF (l.take i)) ((orderP ws).getD k 0)).isSome)] (.agg #[I ((((newF (l.take i)) ((orderP ws).getD k 0)).getD default).work), I ((((newF (l.take i)) ((orderP ws).getD k 0)).getD default).version), I ((((newF (l.take i)) ((orderP ws).getD k 0)).getD default).value)]) rfl rfl <| sX [.agg #[I ((((newF (l.take i)) ((orderP ws).getD k 0)).getD default).work), I ((((newF (l.take i)) ((orderP ws).getD k 0)).getD default).version), I ((((newF (l.take i)) ((orderP ws).getD k 0)).getD default).value)], B (((newF (l.take i)) ((orderP ws).getD k 0)).isSome)] (B (((newF (l.take i)) ((orderP ws).getD k 0)).isSome)) rfl rfl ?_
  refine s_alloc (cs := [I 0, I 0, I 0]) Al30 rfl ?_
  intro bh ci Nb66
  have o_K1_b66 := Nat.le_trans K1.size Nb66.ge
  have o_K14_b66 := Nat.le_trans K14.size Nb66.ge
  have o_b66 := Nat.le_trans E.size Nb66.ge
  have o_b2_b66 := Nat.lt_of_lt_of_le (heap_lt aa) Nb66.ge
  have o_b9_b66 := Nat.lt_of_lt_of_le (heap_lt ab) Nb66.ge
  have o_b23_b66 := Nat.lt_of_lt_of_le (heap_lt ac) Nb66.ge
  have o_b60_b66 := Nat.lt_of_lt_of_le (heap_lt ae) Nb66.ge
  have n_vo_b66 := ag.ne Nb66.ge
  replace E := E.trans Nb66.ext
  replace ah := Nat.le_trans ah Nb66.ext.size
  replace K1 := K1.ext Nb66.ext
  replace K14 := K14.ext Nb66.ext
  replace aa := Nb66.ext.get aa
  replace ab := Nb66.ext.get ab
  replace ac := Nb66.ext.get ac
  replace ae := Nb66.ext.get ae
  replace ag := ag.ext Nb66.ext
  have aj := Nb66.same
  clear Nb66
  refine s_st (b := bh) (off := 0) (vs := [I ((((newF (l.take i)) ((orderP ws).getD k 0)).getD default).work), I ((((newF (l.take i)) ((orderP ws).getD k 0)).getD default).version), I ((((newF (l.take i)) ((orderP ws).getD k 0)).getD default).value)]) (cs' := [I ((((newF (l.take i)) ((orderP ws).getD k 0)).getD default).work), I ((((newF (l.take i)) ((orderP ws).getD k 0)).getD default).version), I ((((newF (l.take i)) ((orderP ws).getD k 0)).getD default).value)]) (v := .agg #[I ((((newF (l.take i)) ((orderP ws).getD k 0)).getD default).work), I ((((newF (l.take i)) ((orderP ws).getD k 0)).getD default).version), I ((((newF (l.take i)) ((orderP ws).getD k 0)).getD default).value)]) rfl rfl Sz30 aj rfl rfl rfl rfl rfl ?_
  intro cj ar
  replace E := E.put (by omega) ar
  replace ah := Nat.le_trans ah (Nat.le_of_eq ar.size.symm)
  replace K1 := K1.put ar (by omega)
  replace K14 := K14.put ar (by omega)
  replace aa := ar.get (by omega) aa
  replace ab := ar.get (by omega) ab
  replace ac := ar.get (by omega) ac
  replace ae := ar.get (by omega) ae
  replace ag := ag.put ar n_vo_b66
  replace aj := ar.same
  clear ar
  refine sA (B (((newF (l.take i)) ((orderP ws).getD k 0)).isSome)) rfl <| s_nil <| sQ rfl <| sM (B (((newF (l.take i)) ((orderP ws).getD k 0)).isSome)) rfl <| s_nil ?_
  refine W.cond (((newF (l.take i)) ((orderP ws).getD k 0)).isSome) rfl (fun aP => ?_) (fun aP => ?_)
  ·skip
   have hnv := newF_val aB i ((orderP ws).getD k 0) aP
   have hob := hvb.set (v := (((newF (l.take i)) ((orderP ws).getD k 0)).getD default).value) (by omega) (by omega) (Int.toNat ((orderP ws).getD k 0))
   have hol : ((valF ws (newF (l.take i)) ((orderP ws).take k) (List.replicate ws.length (-1))).set (Int.toNat ((orderP ws).getD k 0)) (((newF (l.take i)) ((orderP ws).getD k 0)).getD default).value).length = ws.length := by rw [List.length_set, hvl]
   refine W.region rfl <| s_val (x_ld (v := vo) rfl (ldb_sc Sc34 ae rfl)) <| sM (I ((orderP ws).getD k 0)) rfl <| s_val (x_fa (v := Oz bh 2) rfl (fa_blk (o := 0) Fd30_2 Sz3)) <| s_val (x_ld (v := I ((((newF (l.take i)) ((orderP ws).getD k 0)).getD default).value)) rfl (ldb_sc Sc3 aj rfl)) <| s_val (x_ix (v := vat vo 1 (Int.toNat ((orderP ws).getD k 0))) rfl rfl (Sl.ix (α := Int) T34.und T34.size (ag.sl.mono (frm_le _ _)) (by omega) (by omega))) ?_
   refine s_ost ag Sz3 (i := (orderP ws).getD k 0) (by omega) (by omega) ((((newF (l.take i)) ((orderP ws).getD k 0)).getD default).value : Int) (val := I ((((newF (l.take i)) ((orderP ws).getD k 0)).getD default).value)) rfl rfl rfl ?_
   intro ck ho2 ax
   replace E := E.grow ax (by omega)
   replace ah := Nat.le_trans ah ax.size
   replace K1 := K1.grow ax (by omega)
   replace K14 := K14.grow ax (by omega)
   replace aa := ax.get n_vo_b2 aa
   replace ab := ax.get n_vo_b9 ab
   replace ac := ax.get n_vo_b23 ac
   replace ae := ax.get n_vo_b60 ae
   replace aj := ax.get n_vo_b66 aj
   replace ag := ho2
   clear ax
   refine s_nil <| W.seq <| sQ rfl <| s_val (x_ld (v := vw) rfl (ldb_sc Sc22 aa rfl)) <| sM (I ((orderP ws).getD k 0)) rfl <| s_val (x_ix (v := vat vw 3 (Int.toNat ((orderP ws).getD k 0))) rfl rfl (Sl.ix (α := Work) T22.und T22.size (hw.to K1) (by omega) (by omega))) <| s_val (x_fa (v := fat (vat vw 3 (Int.toNat ((orderP ws).getD k 0))) 0) rfl (fa_pl Fd60_0 Sz34 (Sl.pl (i := (orderP ws).getD k 0) hw (by omega) (by omega)))) ?_
   obtain ⟨bw, bH, bi⟩ := Work_at0 hw (i := (orderP ws).getD k 0) (by omega) (by omega)
   replace bi : Sl _ bw (ws.getD (Int.toNat ((orderP ws).getD k 0)) default).of := bi
   have cm := bi.len_le
   refine s_val (x_ld (v := bw) rfl (ld_sc Sc34 (At.to bH K1))) <| s_val (x_lenS T34.und rfl (bi.to K1)) <| sC _ _ (((((ws.getD (Int.toNat ((orderP ws).getD k 0)) default).of).length) : Int) == 0) rfl rfl rfl <| sM (B (((((ws.getD (Int.toNat ((orderP ws).getD k 0)) default).of).length) : Int) == 0)) rfl <| g_val (!(((((ws.getD (Int.toNat ((orderP ws).getD k 0)) default).of).length) : Int) == 0)) (gy_f rfl) (fun hg => x_mf (fs := []) (cs := [Pz ak]) rfl rfl) <| g_val (!(((((ws.getD (Int.toNat ((orderP ws).getD k 0)) default).of).length) : Int) == 0)) (gy_f rfl) (fun hg => x_ld (v := vw) rfl (ldb_sc Sc22 aa rfl)) <| g_val (!(((((ws.getD (Int.toNat ((orderP ws).getD k 0)) default).of).length) : Int) == 0)) (gy_f rfl) (fun hg => x_mv (v := I ((orderP ws).getD k 0)) rfl) <| g_val (!(((((ws.getD (Int.toNat ((orderP ws).getD k 0)) default).of).length) : Int) == 0)) (gy_f rfl) (fun hg => x_ix (v := vat vw 3 (Int.toNat ((orderP ws).getD k 0))) (gd_of hg (vw)) (gd_of hg (I ((orderP ws).getD k 0))) (Sl.ix (α := Work) T22.und T22.size (hw.to K1) (by first | omega | (simp at hg; omega) | (simp [inB] at hg; omega)) (by first | omega | (simp at hg; omega) | (simp [inB] at hg; omega)))) <| g_val (!(((((ws.getD (Int.toNat ((orderP ws).getD k 0)) default).of).length) : Int) == 0)) (gy_f rfl) (fun hg => x_fa (v := fat (vat vw 3 (Int.toNat ((orderP ws).getD k 0))) 0) (gd_of hg (vat vw 3 (Int.toNat ((orderP ws).getD k 0)))) (fa_pl Fd60_0 Sz34 (Sl.pl (i := (orderP ws).getD k 0) hw (by first | omega | (simp at hg; omega) | (simp [inB] at hg; omega)) (by first | omega | (simp at hg; omega) | (simp [inB] at hg; omega))))) ?_
   obtain ⟨aX, bI, br⟩ := gd_ex (c := !(((((ws.getD (Int.toNat ((orderP ws).getD k 0)) default).of).length) : Int) == 0)) fun hg => Work_at0 hw (i := (orderP ws).getD k 0) (by first | omega | (simp at hg; omega) | (simp [inB] at hg; omega)) (by first | omega | (simp at hg; omega) | (simp [inB] at hg; omega))
   replace br : (!(((((ws.getD (Int.toNat ((orderP ws).getD k 0)) default).of).length) : Int) == 0)) = true -> Sl _ aX (ws.getD (Int.toNat ((orderP ws).getD k 0)) default).of := br
   refine g_val (!(((((ws.getD (Int.toNat ((orderP ws).getD k 0)) default).of).length) : Int) == 0)) (gy_f rfl) (fun hg => x_ld (v := aX) (gd_of hg (fat (vat vw 3 (Int.toNat ((orderP ws).getD k 0))) 0)) (ld_sc Sc34 (At.to (bI hg) K1))) ?_
   refine g_call (!(((((ws.getD (Int.toNat ((orderP ws).getD k 0)) default).of).length) : Int) == 0)) (gy_f rfl) cf87 (B (((ws.getD (Int.toNat ((orderP ws).getD k 0)) default).of).all (fun z_ : Int => ((valF ws (newF (l.take i)) ((orderP ws).take k) (List.replicate ws.length (-1))).set (Int.toNat ((orderP ws).getD k 0)) ((((newF (l.take i)) ((orderP ws).getD k 0)).getD default).value : Int)).getD z_.toNat 0 != -1))) (fun _ => [.func (.func 88) #[] #[Pz ak], aX]) (fun hg => lst2 (gd_of hg (.func (.func 88) #[] #[Pz ak])) (gd_of hg (aX))) (fun hg => (every_int _ ((br hg).to K1) ⟨88, [Pz ak], rfl, cf88, fun w' v x hE hD hA => by obtain rfl := Arg.int hA; exact (values3 _ _ (hE.get ae) ((ag.sl.mono (frm_le _ _)).mono hE.le) (hof _ hD).1 (by have := (hof _ hD).2.1; omega))⟩)) ?_
   intro cn au
   replace E := E.trans au
   replace ah := Nat.le_trans ah au.size
   replace K1 := K1.ext au
   replace K14 := K14.ext au
   replace aa := au.get aa
   replace ab := au.get ab
   replace ac := au.get ac
   replace ae := au.get ae
   replace aj := au.get aj
   replace ag := ag.ext au
   clear au
   refine g_val (!(((((ws.getD (Int.toNat ((orderP ws).getD k 0)) default).of).length) : Int) == 0)) (gy_f rfl) (fun hg => x_not (b := ((ws.getD (Int.toNat ((orderP ws).getD k 0)) default).of).all (fun z_ : Int => ((valF ws (newF (l.take i)) ((orderP ws).take k) (List.replicate ws.length (-1))).set (Int.toNat ((orderP ws).getD k 0)) ((((newF (l.take i)) ((orderP ws).getD k 0)).getD default).value : Int)).getD z_.toNat 0 != -1)) (gd_of hg (B (((ws.getD (Int.toNat ((orderP ws).getD k 0)) default).of).all (fun z_ : Int => ((valF ws (newF (l.take i)) ((orderP ws).take k) (List.replicate ws.length (-1))).set (Int.toNat ((orderP ws).getD k 0)) ((((newF (l.take i)) ((orderP ws).getD k 0)).getD default).value : Int)).getD z_.toNat 0 != -1))))) <| s_val (x_por (b := ((((ws.getD (Int.toNat ((orderP ws).getD k 0)) default).of).length) : Int) == 0) (r := !(((ws.getD (Int.toNat ((orderP ws).getD k 0)) default).of).all (fun z_ : Int => ((valF ws (newF (l.take i)) ((orderP ws).take k) (List.replicate ws.length (-1))).set (Int.toNat ((orderP ws).getD k 0)) ((((newF (l.take i)) ((orderP ws).getD k 0)).getD default).value : Int)).getD z_.toNat 0 != -1))) rfl rfl (fun hb => gd_of (c := !(((((ws.getD (Int.toNat ((orderP ws).getD k 0)) default).of).length) : Int) == 0)) (by simp_all) (B (!(((ws.getD (Int.toNat ((orderP ws).getD k 0)) default).of).all (fun z_ : Int => ((valF ws (newF (l.take i)) ((orderP ws).take k) (List.replicate ws.length (-1))).set (Int.toNat ((orderP ws).getD k 0)) ((((newF (l.take i)) ((orderP ws).getD k 0)).getD default).value : Int)).getD z_.toNat 0 != -1)))))) <| s_nil ?_
   refine W.cond (((((((ws.getD (Int.toNat ((orderP ws).getD k 0)) default).of).length) : Int) == 0) || (!(((ws.getD (Int.toNat ((orderP ws).getD k 0)) default).of).all (fun z_ : Int => ((valF ws (newF (l.take i)) ((orderP ws).take k) (List.replicate ws.length (-1))).set (Int.toNat ((orderP ws).getD k 0)) ((((newF (l.take i)) ((orderP ws).getD k 0)).getD default).value : Int)).getD z_.toNat 0 != -1))))) rfl (fun bj => ?_) (fun bj => ?_)
   ·skip
    refine W.exit ?_
    refine W.region rfl <| sR _ _ (k + 1) rfl rfl rfl (by omega) <| sM (I (k + 1)) rfl <| s_nil ?_
    exact ⟨_, (by omega), k+1, vo, _, upds_of _ _ ⟨rfl, rfl, rfl, rfl, rfl, (eqI (by omega)), trivial⟩, rfl, E, K1, K14, aa, ab, ac, ae, ah, (by rw [valF_next _ _ _ _ aL, val_skip (noteV_yes aP) bj]; exact ag), n_vo_b2, n_vo_b9, n_vo_b23, n_vo_b60, (by omega)⟩
   skip
   refine W.skip <| sQ rfl <| s_val (x_ld (v := vw) rfl (ldb_sc Sc22 aa rfl)) <| sM (I ((orderP ws).getD k 0)) rfl <| s_val (x_ix (v := vat vw 3 (Int.toNat ((orderP ws).getD k 0))) rfl rfl (Sl.ix (α := Work) T22.und T22.size (hw.to K1) (by omega) (by omega))) <| s_val (x_fa (v := fat (vat vw 3 (Int.toNat ((orderP ws).getD k 0))) 1) rfl (fa_pl Fd60_1 Sz3 (Sl.pl (i := (orderP ws).getD k 0) hw (by omega) (by omega)))) <| s_val (x_ld (v := I ((ws.getD (Int.toNat ((orderP ws).getD k 0)) default).base)) rfl (ld_sc Sc3 (At.to (Work_at1 hw (i := (orderP ws).getD k 0) (by omega) (by omega)) K1))) <| sA (I ((ws.getD (Int.toNat ((orderP ws).getD k 0)) default).base)) rfl <| s_nil <| W.seq <| W.seq ?_
   refine W.region rfl <| s_val (x_ld (v := vw) rfl (ldb_sc Sc22 aa rfl)) <| sM (I ((orderP ws).getD k 0)) rfl <| s_val (x_ix (v := vat vw 3 (Int.toNat ((orderP ws).getD k 0))) rfl rfl (Sl.ix (α := Work) T22.und T22.size (hw.to K1) (by omega) (by omega))) <| s_val (x_fa (v := fat (vat vw 3 (Int.toNat ((orderP ws).getD k 0))) 0) rfl (fa_pl Fd60_0 Sz34 (Sl.pl (i := (orderP ws).getD k 0) hw (by omega) (by omega)))) ?_
   obtain ⟨bk, bJ, aQ⟩ := Work_at0 hw (i := (orderP ws).getD k 0) (by omega) (by omega)
   replace aQ : Sl _ bk (ws.getD (Int.toNat ((orderP ws).getD k 0)) default).of := aQ
   have co := aQ.len_le
   refine s_val (x_ld (v := bk) rfl (ld_sc Sc34 (At.to bJ K1))) <| s_val (x_lenS T34.und rfl (aQ.to K1)) <| sM (I 0) rfl <| s_nil <| W.block ?_
   have hkv := known_vals bj (O := (valF ws (newF (l.take i)) ((orderP ws).take k) (List.replicate ws.length (-1))).set (Int.toNat ((orderP ws).getD k 0)) ((((newF (l.take i)) ((orderP ws).getD k 0)).getD default).value : Int)) hob (by intro q hq; have h1 := hof q hq; have h2 := hol; omega)
   refine W.loop (fun m σ W => ∃ (j : Nat) (ρ : Env), σ = upds ρ [(2, Pz b2), (9, .map (some al)), (16, Pz ak), (18, I ((orderP ws).getD k 0)), (21, I (sumV ((valF ws (newF (l.take i)) ((orderP ws).take k) (List.replicate ws.length (-1))).set (Int.toNat ((orderP ws).getD k 0)) ((((newF (l.take i)) ((orderP ws).getD k 0)).getD default).value : Int)) (ws.getD (Int.toNat ((orderP ws).getD k 0)) default).base (ws.getD (Int.toNat ((orderP ws).getD k 0)) default).of j)), (106, am), (107, I ((orderP ws).length)), (108, I k), (132, gd (!(((((ws.getD (Int.toNat ((orderP ws).getD k 0)) default).of).length) : Int) == 0)) (.func (.func 88) #[] #[Pz ak])), (133, gd (!(((((ws.getD (Int.toNat ((orderP ws).getD k 0)) default).of).length) : Int) == 0)) vw), (134, gd (!(((((ws.getD (Int.toNat ((orderP ws).getD k 0)) default).of).length) : Int) == 0)) (I ((orderP ws).getD k 0))), (135, gd (!(((((ws.getD (Int.toNat ((orderP ws).getD k 0)) default).of).length) : Int) == 0)) (vat vw 3 (Int.toNat ((orderP ws).getD k 0)))), (136, gd (!(((((ws.getD (Int.toNat ((orderP ws).getD k 0)) default).of).length) : Int) == 0)) (fat (vat vw 3 (Int.toNat ((orderP ws).getD k 0))) 0)), (137, gd (!(((((ws.getD (Int.toNat ((orderP ws).getD k 0)) default).of).length) : Int) == 0)) aX), (138, gd (!(((((ws.getD (Int.toNat ((orderP ws).getD k 0)) default).of).length) : Int) == 0)) (B (((ws.getD (Int.toNat ((orderP ws).getD k 0)) default).of).all (fun z_ : Int => ((valF ws (newF (l.take i)) ((orderP ws).take k) (List.replicate ws.length (-1))).set (Int.toNat ((orderP ws).getD k 0)) ((((newF (l.take i)) ((orderP ws).getD k 0)).getD default).value : Int)).getD z_.toNat 0 != -1)))), (139, gd (!(((((ws.getD (Int.toNat ((orderP ws).getD k 0)) default).of).length) : Int) == 0)) (B (!(((ws.getD (Int.toNat ((orderP ws).getD k 0)) default).of).all (fun z_ : Int => ((valF ws (newF (l.take i)) ((orderP ws).take k) (List.replicate ws.length (-1))).set (Int.toNat ((orderP ws).getD k 0)) ((((newF (l.take i)) ((orderP ws).getD k 0)).getD default).value : Int)).getD z_.toNat 0 != -1))))), (150, bk), (151, I (((ws.getD (Int.toNat ((orderP ws).getD k 0)) default).of).length)), (152, I j)] /\ m = (ws.getD (Int.toNat ((orderP ws).getD k 0)) default).of.length - j /\ Ext w W /\ KF 0 w W /\ KF w3.heap.size w4 W /\ W.heap[b2]? = some (.cells #[vw] 22 (0, 0)) /\ W.heap[b9]? = some (.cells #[vw] 187 (0, 0)) /\ W.heap[al]? = some (.map es_b23 ck_b23) /\ W.heap[ak]? = some (.cells #[vo] 34 (0, 0)) /\ W.heap[bh]? = some (.cells #[I ((((newF (l.take i)) ((orderP ws).getD k 0)).getD default).work), I ((((newF (l.take i)) ((orderP ws).getD k 0)).getD default).version), I ((((newF (l.take i)) ((orderP ws).getD k 0)).getD default).value)] 30 (0, 0)) /\ aK.heap.size <= W.heap.size /\ OwnF aK.heap.size 3 W vo ((valF ws (newF (l.take i)) ((orderP ws).take k) (List.replicate ws.length (-1))).set (Int.toNat ((orderP ws).getD k 0)) ((((newF (l.take i)) ((orderP ws).getD k 0)).getD default).value : Int)) /\ j <= (ws.getD (Int.toNat ((orderP ws).getD k 0)) default).of.length) ?_ ?_
   ·exact ⟨_, 0, _, upds_of _ _ ⟨rfl, rfl, rfl, rfl, rfl, rfl, rfl, rfl, rfl, rfl, rfl, rfl, rfl, rfl, rfl, rfl, rfl, rfl, (eqI (by omega)), trivial⟩, rfl, E, K1, K14, aa, ab, ac, ae, aj, ah, ag, (Nat.zero_le _)⟩
   rintro m σ cp ⟨j, ρ, rfl, rfl, E, K1, K14, aa, ab, ac, ae, aj, ah, ag, bx⟩
   have bK := sumV_b (out := (valF ws (newF (l.take i)) ((orderP ws).take k) (List.replicate ws.length (-1))).set (Int.toNat ((orderP ws).getD k 0)) ((((newF (l.take i)) ((orderP ws).getD k 0)).getD default).value : Int)) (base := (ws.getD (Int.toNat ((orderP ws).getD k 0)) default).base) (of := (ws.getD (Int.toNat ((orderP ws).getD k 0)) default).of) ⟨bg.1, bg.2.1⟩ ho5 hkv j bx
   refine sQ rfl <| sC _ _ (decide ((j : Int) < (((ws.getD (Int.toNat ((orderP ws).getD k 0)) default).of).length))) rfl rfl rfl <| s_nil <| W.seq ?_
   refine W.cond (decide ((j : Int) < (((ws.getD (Int.toNat ((orderP ws).getD k 0)) default).of).length))) rfl (fun aR => ?_) (fun aR => ?_)
   ·simp only [qz1, qz2, qz3, qz4, qz5, qz6, ne_eq, qz7] at aR
    have hj := hof _ (getD_memN _ aR 0)
    have hjv := hkv _ (getD_memN _ aR 0)
    have hpr := prod_b (a := (j : Int) + 1) (by omega) (by omega) hjv.1 hjv.2
    refine W.skip <| W.seq <| W.block <| sQ rfl <| sM (I j) rfl <| s_val (x_ix (v := vat bk 1 (Int.toNat j)) rfl rfl (Sl.ix (α := Int) T34.und T34.size (aQ.to K1) (by omega) (by omega))) <| s_val (x_ld (v := I (((ws.getD (Int.toNat ((orderP ws).getD k 0)) default).of).getD j 0)) rfl (ld_sc Sc3 (At.to (Int_at aQ (i := j) (by omega) (by omega)) K1))) <| sA (I j) rfl <| sA (I (((ws.getD (Int.toNat ((orderP ws).getD k 0)) default).of).getD j 0)) rfl <| s_nil <| W.region rfl ?_
    refine sM (I (sumV ((valF ws (newF (l.take i)) ((orderP ws).take k) (List.replicate ws.length (-1))).set (Int.toNat ((orderP ws).getD k 0)) ((((newF (l.take i)) ((orderP ws).getD k 0)).getD default).value : Int)) (ws.getD (Int.toNat ((orderP ws).getD k 0)) default).base (ws.getD (Int.toNat ((orderP ws).getD k 0)) default).of j)) rfl <| sM (I j) rfl <| sR _ _ (j + 1) rfl rfl rfl (by omega) <| s_val (x_ld (v := vo) rfl (ldb_sc Sc34 ae rfl)) <| sM (I (((ws.getD (Int.toNat ((orderP ws).getD k 0)) default).of).getD j 0)) rfl <| s_val (x_ix (v := vat vo 1 (Int.toNat (((ws.getD (Int.toNat ((orderP ws).getD k 0)) default).of).getD j 0))) rfl rfl (Sl.ix (α := Int) T34.und T34.size (ag.sl.mono (frm_le _ _)) (by omega) (by omega))) <| s_val (x_ld (v := I (((valF ws (newF (l.take i)) ((orderP ws).take k) (List.replicate ws.length (-1))).set (Int.toNat ((orderP ws).getD k 0)) ((((newF (l.take i)) ((orderP ws).getD k 0)).getD default).value : Int)).getD (Int.toNat (((ws.getD (Int.toNat ((orderP ws).getD k 0)) default).of).getD j 0)) 0)) rfl (ld_sc Sc3 (At.up (Int_at ag.sl (i := ((ws.getD (Int.toNat ((orderP ws).getD k 0)) default).of).getD j 0) (by omega) (by omega))))) <| sR _ _ ((j + 1) * (((valF ws (newF (l.take i)) ((orderP ws).take k) (List.replicate ws.length (-1))).set (Int.toNat ((orderP ws).getD k 0)) ((((newF (l.take i)) ((orderP ws).getD k 0)).getD default).value : Int)).getD (Int.toNat (((ws.getD (Int.toNat ((orderP ws).getD k 0)) default).of).getD j 0)) 0)) rfl rfl rfl (by omega) <| sR _ _ ((sumV ((valF ws (newF (l.take i)) ((orderP ws).take k) (List.replicate ws.length (-1))).set (Int.toNat ((orderP ws).getD k 0)) ((((newF (l.take i)) ((orderP ws).getD k 0)).getD default).value : Int)) (ws.getD (Int.toNat ((orderP ws).getD k 0)) default).base (ws.getD (Int.toNat ((orderP ws).getD k 0)) default).of j) + ((j + 1) * (((valF ws (newF (l.take i)) ((orderP ws).take k) (List.replicate ws.length (-1))).set (Int.toNat ((orderP ws).getD k 0)) ((((newF (l.take i)) ((orderP ws).getD k 0)).getD default).value : Int)).getD (Int.toNat (((ws.getD (Int.toNat ((orderP ws).getD k 0)) default).of).getD j 0)) 0))) rfl rfl rfl (by omega) <| sA (I ((sumV ((valF ws (newF (l.take i)) ((orderP ws).take k) (List.replicate ws.length (-1))).set (Int.toNat ((orderP ws).getD k 0)) ((((newF (l.take i)) ((orderP ws).getD k 0)).getD default).value : Int)) (ws.getD (Int.toNat ((orderP ws).getD k 0)) default).base (ws.getD (Int.toNat ((orderP ws).getD k 0)) default).of j) + ((j + 1) * (((valF ws (newF (l.take i)) ((orderP ws).take k) (List.replicate ws.length (-1))).set (Int.toNat ((orderP ws).getD k 0)) ((((newF (l.take i)) ((orderP ws).getD k 0)).getD default).value : Int)).getD (Int.toNat (((ws.getD (Int.toNat ((orderP ws).getD k 0)) default).of).getD j 0)) 0)))) rfl <| s_nil <| W.region rfl ?_
    refine sR _ _ (j + 1) rfl rfl rfl (by omega) <| sM (I (j + 1)) rfl <| s_nil ?_
    exact ⟨_, (by omega), j+1, _, upds_of _ _ ⟨rfl, rfl, rfl, rfl, rfl, rfl, rfl, rfl, rfl, rfl, rfl, rfl, rfl, rfl, rfl, rfl, rfl, rfl, (eqI (by omega)), trivial⟩, rfl, E, K1, K14, aa, ab, ac, ae, aj, ah, ag, (by omega)⟩
   simp only [qz1, qz2, qz3, qz4, qz5, qz6, ne_eq, qz7] at aR
   refine W.exit ?_
   refine W.region rfl <| s_val (x_ld (v := vo) rfl (ldb_sc Sc34 ae rfl)) <| sM (I ((orderP ws).getD k 0)) rfl <| sM (I (sumV ((valF ws (newF (l.take i)) ((orderP ws).take k) (List.replicate ws.length (-1))).set (Int.toNat ((orderP ws).getD k 0)) ((((newF (l.take i)) ((orderP ws).getD k 0)).getD default).value : Int)) (ws.getD (Int.toNat ((orderP ws).getD k 0)) default).base (ws.getD (Int.toNat ((orderP ws).getD k 0)) default).of j)) rfl <| s_val (x_rem' (a := sumV ((valF ws (newF (l.take i)) ((orderP ws).take k) (List.replicate ws.length (-1))).set (Int.toNat ((orderP ws).getD k 0)) ((((newF (l.take i)) ((orderP ws).getD k 0)).getD default).value : Int)) (ws.getD (Int.toNat ((orderP ws).getD k 0)) default).base (ws.getD (Int.toNat ((orderP ws).getD k 0)) default).of j) (b := 1000003) rfl rfl (by omega)) <| s_val (x_ix (v := vat vo 1 (Int.toNat ((orderP ws).getD k 0))) rfl rfl (Sl.ix (α := Int) T34.und T34.size (ag.sl.mono (frm_le _ _)) (by omega) (by omega))) ?_
   refine s_ost ag Sz3 (i := (orderP ws).getD k 0) (by omega) (by omega) ((sumV ((valF ws (newF (l.take i)) ((orderP ws).take k) (List.replicate ws.length (-1))).set (Int.toNat ((orderP ws).getD k 0)) ((((newF (l.take i)) ((orderP ws).getD k 0)).getD default).value : Int)) (ws.getD (Int.toNat ((orderP ws).getD k 0)) default).base (ws.getD (Int.toNat ((orderP ws).getD k 0)) default).of j) % 1000003 : Int) (val := I ((sumV ((valF ws (newF (l.take i)) ((orderP ws).take k) (List.replicate ws.length (-1))).set (Int.toNat ((orderP ws).getD k 0)) ((((newF (l.take i)) ((orderP ws).getD k 0)).getD default).value : Int)) (ws.getD (Int.toNat ((orderP ws).getD k 0)) default).base (ws.getD (Int.toNat ((orderP ws).getD k 0)) default).of j) % 1000003)) rfl rfl rfl ?_
   intro cq ho2 ay
   replace E := E.grow ay (by omega)
   replace ah := Nat.le_trans ah ay.size
   replace K1 := K1.grow ay (by omega)
   replace K14 := K14.grow ay (by omega)
   replace aa := ay.get n_vo_b2 aa
   replace ab := ay.get n_vo_b9 ab
   replace ac := ay.get n_vo_b23 ac
   replace ae := ay.get n_vo_b60 ae
   replace aj := ay.get n_vo_b66 aj
   replace ag := ho2
   clear ay
   refine s_nil <| W.region rfl <| sR _ _ (k + 1) rfl rfl rfl (by omega) <| sM (I (k + 1)) rfl <| s_nil ?_
   exact ⟨_, (by omega), k+1, vo, _, upds_of _ _ ⟨rfl, rfl, rfl, rfl, rfl, (eqI (by omega)), trivial⟩, rfl, E, K1, K14, aa, ab, ac, ae, ah, (by rw [valF_next _ _ _ _ aL, val_set (noteV_yes aP) bj aR bx]; exact ag), n_vo_b2, n_vo_b9, n_vo_b23, n_vo_b60, (by omega)⟩
  skip
  have hob := hvb
  have hol := hvl
  refine W.skip <| W.seq <| sQ rfl <| s_val (x_ld (v := vw) rfl (ldb_sc Sc22 aa rfl)) <| sM (I ((orderP ws).getD k 0)) rfl <| s_val (x_ix (v := vat vw 3 (Int.toNat ((orderP ws).getD k 0))) rfl rfl (Sl.ix (α := Work) T22.und T22.size (hw.to K1) (by omega) (by omega))) <| s_val (x_fa (v := fat (vat vw 3 (Int.toNat ((orderP ws).getD k 0))) 0) rfl (fa_pl Fd60_0 Sz34 (Sl.pl (i := (orderP ws).getD k 0) hw (by omega) (by omega)))) ?_
  obtain ⟨bz, bL, bl⟩ := Work_at0 hw (i := (orderP ws).getD k 0) (by omega) (by omega)
  replace bl : Sl _ bz (ws.getD (Int.toNat ((orderP ws).getD k 0)) default).of := bl
  have cr := bl.len_le
  refine s_val (x_ld (v := bz) rfl (ld_sc Sc34 (At.to bL K1))) <| s_val (x_lenS T34.und rfl (bl.to K1)) <| sC _ _ (((((ws.getD (Int.toNat ((orderP ws).getD k 0)) default).of).length) : Int) == 0) rfl rfl rfl <| sM (B (((((ws.getD (Int.toNat ((orderP ws).getD k 0)) default).of).length) : Int) == 0)) rfl <| g_val (!(((((ws.getD (Int.toNat ((orderP ws).getD k 0)) default).of).length) : Int) == 0)) (gy_f rfl) (fun hg => x_mf (fs := []) (cs := [Pz ak]) rfl rfl) <| g_val (!(((((ws.getD (Int.toNat ((orderP ws).getD k 0)) default).of).length) : Int) == 0)) (gy_f rfl) (fun hg => x_ld (v := vw) rfl (ldb_sc Sc22 aa rfl)) <| g_val (!(((((ws.getD (Int.toNat ((orderP ws).getD k 0)) default).of).length) : Int) == 0)) (gy_f rfl) (fun hg => x_mv (v := I ((orderP ws).getD k 0)) rfl) <| g_val (!(((((ws.getD (Int.toNat ((orderP ws).getD k 0)) default).of).length) : Int) == 0)) (gy_f rfl) (fun hg => x_ix (v := vat vw 3 (Int.toNat ((orderP ws).getD k 0))) (gd_of hg (vw)) (gd_of hg (I ((orderP ws).getD k 0))) (Sl.ix (α := Work) T22.und T22.size (hw.to K1) (by first | omega | (simp at hg; omega) | (simp [inB] at hg; omega)) (by first | omega | (simp at hg; omega) | (simp [inB] at hg; omega)))) <| g_val (!(((((ws.getD (Int.toNat ((orderP ws).getD k 0)) default).of).length) : Int) == 0)) (gy_f rfl) (fun hg => x_fa (v := fat (vat vw 3 (Int.toNat ((orderP ws).getD k 0))) 0) (gd_of hg (vat vw 3 (Int.toNat ((orderP ws).getD k 0)))) (fa_pl Fd60_0 Sz34 (Sl.pl (i := (orderP ws).getD k 0) hw (by first | omega | (simp at hg; omega) | (simp [inB] at hg; omega)) (by first | omega | (simp at hg; omega) | (simp [inB] at hg; omega))))) ?_
  obtain ⟨aY, bM, bt⟩ := gd_ex (c := !(((((ws.getD (Int.toNat ((orderP ws).getD k 0)) default).of).length) : Int) == 0)) fun hg => Work_at0 hw (i := (orderP ws).getD k 0) (by first | omega | (simp at hg; omega) | (simp [inB] at hg; omega)) (by first | omega | (simp at hg; omega) | (simp [inB] at hg; omega))
  replace bt : (!(((((ws.getD (Int.toNat ((orderP ws).getD k 0)) default).of).length) : Int) == 0)) = true -> Sl _ aY (ws.getD (Int.toNat ((orderP ws).getD k 0)) default).of := bt
  refine g_val (!(((((ws.getD (Int.toNat ((orderP ws).getD k 0)) default).of).length) : Int) == 0)) (gy_f rfl) (fun hg => x_ld (v := aY) (gd_of hg (fat (vat vw 3 (Int.toNat ((orderP ws).getD k 0))) 0)) (ld_sc Sc34 (At.to (bM hg) K1))) ?_
  refine g_call (!(((((ws.getD (Int.toNat ((orderP ws).getD k 0)) default).of).length) : Int) == 0)) (gy_f rfl) cf87 (B (((ws.getD (Int.toNat ((orderP ws).getD k 0)) default).of).all (fun z_ : Int => (valF ws (newF (l.take i)) ((orderP ws).take k) (List.replicate ws.length (-1))).getD z_.toNat 0 != -1))) (fun _ => [.func (.func 88) #[] #[Pz ak], aY]) (fun hg => lst2 (gd_of hg (.func (.func 88) #[] #[Pz ak])) (gd_of hg (aY))) (fun hg => (every_int _ ((bt hg).to K1) ⟨88, [Pz ak], rfl, cf88, fun w' v x hE hD hA => by obtain rfl := Arg.int hA; exact (values3 _ _ (hE.get ae) ((ag.sl.mono (frm_le _ _)).mono hE.le) (hof _ hD).1 (by have := (hof _ hD).2.1; omega))⟩)) ?_
  intro ct av
  replace E := E.trans av
  replace ah := Nat.le_trans ah av.size
  replace K1 := K1.ext av
  replace K14 := K14.ext av
  replace aa := av.get aa
  replace ab := av.get ab
  replace ac := av.get ac
  replace ae := av.get ae
  replace aj := av.get aj
  replace ag := ag.ext av
  clear av
  refine g_val (!(((((ws.getD (Int.toNat ((orderP ws).getD k 0)) default).of).length) : Int) == 0)) (gy_f rfl) (fun hg => x_not (b := ((ws.getD (Int.toNat ((orderP ws).getD k 0)) default).of).all (fun z_ : Int => (valF ws (newF (l.take i)) ((orderP ws).take k) (List.replicate ws.length (-1))).getD z_.toNat 0 != -1)) (gd_of hg (B (((ws.getD (Int.toNat ((orderP ws).getD k 0)) default).of).all (fun z_ : Int => (valF ws (newF (l.take i)) ((orderP ws).take k) (List.replicate ws.length (-1))).getD z_.toNat 0 != -1))))) <| s_val (x_por (b := ((((ws.getD (Int.toNat ((orderP ws).getD k 0)) default).of).length) : Int) == 0) (r := !(((ws.getD (Int.toNat ((orderP ws).getD k 0)) default).of).all (fun z_ : Int => (valF ws (newF (l.take i)) ((orderP ws).take k) (List.replicate ws.length (-1))).getD z_.toNat 0 != -1))) rfl rfl (fun hb => gd_of (c := !(((((ws.getD (Int.toNat ((orderP ws).getD k 0)) default).of).length) : Int) == 0)) (by simp_all) (B (!(((ws.getD (Int.toNat ((orderP ws).getD k 0)) default).of).all (fun z_ : Int => (valF ws (newF (l.take i)) ((orderP ws).take k) (List.replicate ws.length (-1))).getD z_.toNat 0 != -1)))))) <| s_nil ?_
  refine W.cond (((((((ws.getD (Int.toNat ((orderP ws).getD k 0)) default).of).length) : Int) == 0) || (!(((ws.getD (Int.toNat ((orderP ws).getD k 0)) default).of).all (fun z_ : Int => (valF ws (newF (l.take i)) ((orderP ws).take k) (List.replicate ws.length (-1))).getD z_.toNat 0 != -1))))) rfl (fun bm => ?_) (fun bm => ?_)
  ·skip
   refine W.exit ?_
   refine W.region rfl <| sR _ _ (k + 1) rfl rfl rfl (by omega) <| sM (I (k + 1)) rfl <| s_nil ?_
   exact ⟨_, (by omega), k+1, vo, _, upds_of _ _ ⟨rfl, rfl, rfl, rfl, rfl, (eqI (by omega)), trivial⟩, rfl, E, K1, K14, aa, ab, ac, ae, ah, (by rw [valF_next _ _ _ _ aL, val_skip (noteV_no aP) bm]; exact ag), n_vo_b2, n_vo_b9, n_vo_b23, n_vo_b60, (by omega)⟩
  skip
  refine W.skip <| sQ rfl <| s_val (x_ld (v := vw) rfl (ldb_sc Sc22 aa rfl)) <| sM (I ((orderP ws).getD k 0)) rfl <| s_val (x_ix (v := vat vw 3 (Int.toNat ((orderP ws).getD k 0))) rfl rfl (Sl.ix (α := Work) T22.und T22.size (hw.to K1) (by omega) (by omega))) <| s_val (x_fa (v := fat (vat vw 3 (Int.toNat ((orderP ws).getD k 0))) 1) rfl (fa_pl Fd60_1 Sz3 (Sl.pl (i := (orderP ws).getD k 0) hw (by omega) (by omega)))) <| s_val (x_ld (v := I ((ws.getD (Int.toNat ((orderP ws).getD k 0)) default).base)) rfl (ld_sc Sc3 (At.to (Work_at1 hw (i := (orderP ws).getD k 0) (by omega) (by omega)) K1))) <| sA (I ((ws.getD (Int.toNat ((orderP ws).getD k 0)) default).base)) rfl <| s_nil <| W.seq <| W.seq ?_
  refine W.region rfl <| s_val (x_ld (v := vw) rfl (ldb_sc Sc22 aa rfl)) <| sM (I ((orderP ws).getD k 0)) rfl <| s_val (x_ix (v := vat vw 3 (Int.toNat ((orderP ws).getD k 0))) rfl rfl (Sl.ix (α := Work) T22.und T22.size (hw.to K1) (by omega) (by omega))) <| s_val (x_fa (v := fat (vat vw 3 (Int.toNat ((orderP ws).getD k 0))) 0) rfl (fa_pl Fd60_0 Sz34 (Sl.pl (i := (orderP ws).getD k 0) hw (by omega) (by omega)))) ?_
  obtain ⟨bn, bN, aS⟩ := Work_at0 hw (i := (orderP ws).getD k 0) (by omega) (by omega)
  replace aS : Sl _ bn (ws.getD (Int.toNat ((orderP ws).getD k 0)) default).of := aS
  have cu := aS.len_le
  refine s_val (x_ld (v := bn) rfl (ld_sc Sc34 (At.to bN K1))) <| s_val (x_lenS T34.und rfl (aS.to K1)) <| sM (I 0) rfl <| s_nil <| W.block ?_
  have hkv := known_vals bm (O := valF ws (newF (l.take i)) ((orderP ws).take k) (List.replicate ws.length (-1))) hob (by intro q hq; have h1 := hof q hq; have h2 := hol; omega)
  refine W.loop (fun m σ W => ∃ (j : Nat) (ρ : Env), σ = upds ρ [(2, Pz b2), (9, .map (some al)), (16, Pz ak), (18, I ((orderP ws).getD k 0)), (21, I (sumV (valF ws (newF (l.take i)) ((orderP ws).take k) (List.replicate ws.length (-1))) (ws.getD (Int.toNat ((orderP ws).getD k 0)) default).base (ws.getD (Int.toNat ((orderP ws).getD k 0)) default).of j)), (106, am), (107, I ((orderP ws).length)), (108, I k), (132, gd (!(((((ws.getD (Int.toNat ((orderP ws).getD k 0)) default).of).length) : Int) == 0)) (.func (.func 88) #[] #[Pz ak])), (133, gd (!(((((ws.getD (Int.toNat ((orderP ws).getD k 0)) default).of).length) : Int) == 0)) vw), (134, gd (!(((((ws.getD (Int.toNat ((orderP ws).getD k 0)) default).of).length) : Int) == 0)) (I ((orderP ws).getD k 0))), (135, gd (!(((((ws.getD (Int.toNat ((orderP ws).getD k 0)) default).of).length) : Int) == 0)) (vat vw 3 (Int.toNat ((orderP ws).getD k 0)))), (136, gd (!(((((ws.getD (Int.toNat ((orderP ws).getD k 0)) default).of).length) : Int) == 0)) (fat (vat vw 3 (Int.toNat ((orderP ws).getD k 0))) 0)), (137, gd (!(((((ws.getD (Int.toNat ((orderP ws).getD k 0)) default).of).length) : Int) == 0)) aY), (138, gd (!(((((ws.getD (Int.toNat ((orderP ws).getD k 0)) default).of).length) : Int) == 0)) (B (((ws.getD (Int.toNat ((orderP ws).getD k 0)) default).of).all (fun z_ : Int => (valF ws (newF (l.take i)) ((orderP ws).take k) (List.replicate ws.length (-1))).getD z_.toNat 0 != -1)))), (139, gd (!(((((ws.getD (Int.toNat ((orderP ws).getD k 0)) default).of).length) : Int) == 0)) (B (!(((ws.getD (Int.toNat ((orderP ws).getD k 0)) default).of).all (fun z_ : Int => (valF ws (newF (l.take i)) ((orderP ws).take k) (List.replicate ws.length (-1))).getD z_.toNat 0 != -1))))), (150, bn), (151, I (((ws.getD (Int.toNat ((orderP ws).getD k 0)) default).of).length)), (152, I j)] /\ m = (ws.getD (Int.toNat ((orderP ws).getD k 0)) default).of.length - j /\ Ext w W /\ KF 0 w W /\ KF w3.heap.size w4 W /\ W.heap[b2]? = some (.cells #[vw] 22 (0, 0)) /\ W.heap[b9]? = some (.cells #[vw] 187 (0, 0)) /\ W.heap[al]? = some (.map es_b23 ck_b23) /\ W.heap[ak]? = some (.cells #[vo] 34 (0, 0)) /\ W.heap[bh]? = some (.cells #[I ((((newF (l.take i)) ((orderP ws).getD k 0)).getD default).work), I ((((newF (l.take i)) ((orderP ws).getD k 0)).getD default).version), I ((((newF (l.take i)) ((orderP ws).getD k 0)).getD default).value)] 30 (0, 0)) /\ aK.heap.size <= W.heap.size /\ OwnF aK.heap.size 3 W vo (valF ws (newF (l.take i)) ((orderP ws).take k) (List.replicate ws.length (-1))) /\ j <= (ws.getD (Int.toNat ((orderP ws).getD k 0)) default).of.length) ?_ ?_
  ·exact ⟨_, 0, _, upds_of _ _ ⟨rfl, rfl, rfl, rfl, rfl, rfl, rfl, rfl, rfl, rfl, rfl, rfl, rfl, rfl, rfl, rfl, rfl, rfl, (eqI (by omega)), trivial⟩, rfl, E, K1, K14, aa, ab, ac, ae, aj, ah, ag, (Nat.zero_le _)⟩
  rintro m σ cv ⟨j, ρ, rfl, rfl, E, K1, K14, aa, ab, ac, ae, aj, ah, ag, bA⟩
  have bK := sumV_b (out := valF ws (newF (l.take i)) ((orderP ws).take k) (List.replicate ws.length (-1))) (base := (ws.getD (Int.toNat ((orderP ws).getD k 0)) default).base) (of := (ws.getD (Int.toNat ((orderP ws).getD k 0)) default).of) ⟨bg.1, bg.2.1⟩ ho5 hkv j bA
  refine sQ rfl <| sC _ _ (decide ((j : Int) < (((ws.getD (Int.toNat ((orderP ws).getD k 0)) default).of).length))) rfl rfl rfl <| s_nil <| W.seq ?_
  refine W.cond (decide ((j : Int) < (((ws.getD (Int.toNat ((orderP ws).getD k 0)) default).of).length))) rfl (fun aT => ?_) (fun aT => ?_)
  ·simp only [qz1, qz2, qz3, qz4, qz5, qz6, ne_eq, qz7] at aT
   have hj := hof _ (getD_memN _ aT 0)
   have hjv := hkv _ (getD_memN _ aT 0)
   have hpr := prod_b (a := (j : Int) + 1) (by omega) (by omega) hjv.1 hjv.2
   refine W.skip <| W.seq <| W.block <| sQ rfl <| sM (I j) rfl <| s_val (x_ix (v := vat bn 1 (Int.toNat j)) rfl rfl (Sl.ix (α := Int) T34.und T34.size (aS.to K1) (by omega) (by omega))) <| s_val (x_ld (v := I (((ws.getD (Int.toNat ((orderP ws).getD k 0)) default).of).getD j 0)) rfl (ld_sc Sc3 (At.to (Int_at aS (i := j) (by omega) (by omega)) K1))) <| sA (I j) rfl <| sA (I (((ws.getD (Int.toNat ((orderP ws).getD k 0)) default).of).getD j 0)) rfl <| s_nil <| W.region rfl ?_
   refine sM (I (sumV (valF ws (newF (l.take i)) ((orderP ws).take k) (List.replicate ws.length (-1))) (ws.getD (Int.toNat ((orderP ws).getD k 0)) default).base (ws.getD (Int.toNat ((orderP ws).getD k 0)) default).of j)) rfl <| sM (I j) rfl <| sR _ _ (j + 1) rfl rfl rfl (by omega) <| s_val (x_ld (v := vo) rfl (ldb_sc Sc34 ae rfl)) <| sM (I (((ws.getD (Int.toNat ((orderP ws).getD k 0)) default).of).getD j 0)) rfl <| s_val (x_ix (v := vat vo 1 (Int.toNat (((ws.getD (Int.toNat ((orderP ws).getD k 0)) default).of).getD j 0))) rfl rfl (Sl.ix (α := Int) T34.und T34.size (ag.sl.mono (frm_le _ _)) (by omega) (by omega))) <| s_val (x_ld (v := I ((valF ws (newF (l.take i)) ((orderP ws).take k) (List.replicate ws.length (-1))).getD (Int.toNat (((ws.getD (Int.toNat ((orderP ws).getD k 0)) default).of).getD j 0)) 0)) rfl (ld_sc Sc3 (At.up (Int_at ag.sl (i := ((ws.getD (Int.toNat ((orderP ws).getD k 0)) default).of).getD j 0) (by omega) (by omega))))) <| sR _ _ ((j + 1) * ((valF ws (newF (l.take i)) ((orderP ws).take k) (List.replicate ws.length (-1))).getD (Int.toNat (((ws.getD (Int.toNat ((orderP ws).getD k 0)) default).of).getD j 0)) 0)) rfl rfl rfl (by omega) <| sR _ _ ((sumV (valF ws (newF (l.take i)) ((orderP ws).take k) (List.replicate ws.length (-1))) (ws.getD (Int.toNat ((orderP ws).getD k 0)) default).base (ws.getD (Int.toNat ((orderP ws).getD k 0)) default).of j) + ((j + 1) * ((valF ws (newF (l.take i)) ((orderP ws).take k) (List.replicate ws.length (-1))).getD (Int.toNat (((ws.getD (Int.toNat ((orderP ws).getD k 0)) default).of).getD j 0)) 0))) rfl rfl rfl (by omega) <| sA (I ((sumV (valF ws (newF (l.take i)) ((orderP ws).take k) (List.replicate ws.length (-1))) (ws.getD (Int.toNat ((orderP ws).getD k 0)) default).base (ws.getD (Int.toNat ((orderP ws).getD k 0)) default).of j) + ((j + 1) * ((valF ws (newF (l.take i)) ((orderP ws).take k) (List.replicate ws.length (-1))).getD (Int.toNat (((ws.getD (Int.toNat ((orderP ws).getD k 0)) default).of).getD j 0)) 0)))) rfl <| s_nil <| W.region rfl ?_
   refine sR _ _ (j + 1) rfl rfl rfl (by omega) <| sM (I (j + 1)) rfl <| s_nil ?_
   exact ⟨_, (by omega), j+1, _, upds_of _ _ ⟨rfl, rfl, rfl, rfl, rfl, rfl, rfl, rfl, rfl, rfl, rfl, rfl, rfl, rfl, rfl, rfl, rfl, rfl, (eqI (by omega)), trivial⟩, rfl, E, K1, K14, aa, ab, ac, ae, aj, ah, ag, (by omega)⟩
  simp only [qz1, qz2, qz3, qz4, qz5, qz6, ne_eq, qz7] at aT
  refine W.exit ?_
  refine W.region rfl <| s_val (x_ld (v := vo) rfl (ldb_sc Sc34 ae rfl)) <| sM (I ((orderP ws).getD k 0)) rfl <| sM (I (sumV (valF ws (newF (l.take i)) ((orderP ws).take k) (List.replicate ws.length (-1))) (ws.getD (Int.toNat ((orderP ws).getD k 0)) default).base (ws.getD (Int.toNat ((orderP ws).getD k 0)) default).of j)) rfl <| s_val (x_rem' (a := sumV (valF ws (newF (l.take i)) ((orderP ws).take k) (List.replicate ws.length (-1))) (ws.getD (Int.toNat ((orderP ws).getD k 0)) default).base (ws.getD (Int.toNat ((orderP ws).getD k 0)) default).of j) (b := 1000003) rfl rfl (by omega)) <| s_val (x_ix (v := vat vo 1 (Int.toNat ((orderP ws).getD k 0))) rfl rfl (Sl.ix (α := Int) T34.und T34.size (ag.sl.mono (frm_le _ _)) (by omega) (by omega))) ?_
  refine s_ost ag Sz3 (i := (orderP ws).getD k 0) (by omega) (by omega) ((sumV (valF ws (newF (l.take i)) ((orderP ws).take k) (List.replicate ws.length (-1))) (ws.getD (Int.toNat ((orderP ws).getD k 0)) default).base (ws.getD (Int.toNat ((orderP ws).getD k 0)) default).of j) % 1000003 : Int) (val := I ((sumV (valF ws (newF (l.take i)) ((orderP ws).take k) (List.replicate ws.length (-1))) (ws.getD (Int.toNat ((orderP ws).getD k 0)) default).base (ws.getD (Int.toNat ((orderP ws).getD k 0)) default).of j) % 1000003)) rfl rfl rfl ?_
  intro cw ho2 az
  replace E := E.grow az (by omega)
  replace ah := Nat.le_trans ah az.size
  replace K1 := K1.grow az (by omega)
  replace K14 := K14.grow az (by omega)
  replace aa := az.get n_vo_b2 aa
  replace ab := az.get n_vo_b9 ab
  replace ac := az.get n_vo_b23 ac
  replace ae := az.get n_vo_b60 ae
  replace aj := az.get n_vo_b66 aj
  replace ag := ho2
  clear az
  refine s_nil <| W.region rfl <| sR _ _ (k + 1) rfl rfl rfl (by omega) <| sM (I (k + 1)) rfl <| s_nil ?_
  exact ⟨_, (by omega), k+1, vo, _, upds_of _ _ ⟨rfl, rfl, rfl, rfl, rfl, (eqI (by omega)), trivial⟩, rfl, E, K1, K14, aa, ab, ac, ae, ah, (by rw [valF_next _ _ _ _ aL, val_set (noteV_no aP) bm aT bA]; exact ag), n_vo_b2, n_vo_b9, n_vo_b23, n_vo_b60, (by omega)⟩
 simp only [qz1, qz2, qz3, qz4, qz5, qz6, ne_eq, qz7] at aL
 refine W.exit ?_
 refine sQ rfl <| s_val (x_ld (v := vo) rfl (ldb_sc Sc34 ae rfl)) <| sA vo rfl <| sA (I 0) rfl <| s_nil ?_
 refine W.ret ?_
 exact ⟨_, resE_tmp2 rfl, vo, (by rw [(v_ok hO ao aA aB aC bv a8).1]; rfl), (by have hq := (ag.dn (B' := w.heap.size) (by omega)).sl; rw [(v_ok hO ao aA aB aC bv a8).2]; rw [List.take_of_length_le (l := l) (by omega), List.take_of_length_le (l := orderP ws) (by omega)] at hq; exact hq), E⟩

end Go.Proofs.Ytndobgodeicloaa
end
section
set_option maxRecDepth 100000
set_option maxHeartbeats 16000000
namespace Go.Proofs.Ytndobgodeicloaa
open Go Go.Nm
theorem withdrawn1 {b : Nat} {vw : Value} {ws : List Work} (x : Pub) (w : World) (aa : w.heap[b]? = some (.cells #[vw] 22 (0, 0))) (hw : Sl w.cell? vw ws) : Ret Try.prog 91 #[.agg #[I x.work, I x.value], Pz b] w fun v w' => v = B (inB x.work 0 ((ws.length : Int) - 1)) /\ Ext w w' := by
 refine ret_of_W Try.func91 rfl rfl rfl ?_
 have E := Ext.refl w
 have K1 := KF.refl 0 w
 have ac := hw.len_le
 have hw := hw.par
 refine sQ rfl ?_
 refine s_box (v := .agg #[I x.work, I x.value]) (cs := [I x.work, I x.value]) rfl rfl ?_
 intro b2 w3 Nb2
 have o_K1_b2 := Nat.le_trans K1.size Nb2.ge
 have o_b2 := Nat.le_trans E.size Nb2.ge
 have o_b_b2 := Nat.lt_of_lt_of_le (heap_lt aa) Nb2.ge
 replace E := E.trans Nb2.ext
 replace K1 := K1.ext Nb2.ext
 replace aa := Nb2.ext.get aa
 have ab := Nb2.same
 clear Nb2
 refine sA (B false) rfl <| s_nil <| sQ rfl <| s_val (x_fa (v := Pz b2) rfl (fa_blk (o := 0) Fd33_0 Sz3)) <| s_val (x_ld (v := I x.work) rfl (ldb_sc Sc3 ab rfl)) <| s_val (x_ld (v := vw) rfl (ldb_sc Sc22 aa rfl)) <| s_val (x_lenS T22.und rfl (hw.to K1)) <| sR _ _ (ws.length - 1) rfl rfl rfl (by omega) ?_
 refine s_call cf84 [I x.work, I 0, I (ws.length - 1)] rfl (in_any _ _ _ _) ?_
 rintro _ w4 ⟨rfl, x5⟩
 replace E := E.trans x5
 replace K1 := K1.ext x5
 replace aa := x5.get aa
 replace ab := x5.get ab
 clear x5
 refine sA (B (inB x.work 0 (ws.length - 1))) rfl <| s_nil ?_
 refine W.ret ?_
 exact ⟨_, resE_tmp rfl, rfl, E⟩

theorem Withdrawn_any {vw vl vp : Value} {ws : List Work} {l : List Note} {p : List Pub} (w : World) (hw : Sl w.cell? vw ws) (hl : Sl w.cell? vl l) (hp : Sl w.cell? vp p) : Ret Try.prog 26 #[vw, vl, vp] w fun v w' => ∃ u, v = .tuple #[u, I (withdrawnE ws l p)] /\ Sl (frm w' w.heap.size) u (withdrawnR ws l p) /\ Ext w w' := by
 refine ret_of_W Try.func26 rfl rfl rfl ?_
 have E := Ext.refl w
 have K1 := KF.refl 0 w
 have aD := hw.len_le
 have hw := hw.par
 have aE := hl.len_le
 have hl := hl.par
 have aF := hp.len_le
 have hp := hp.par
 refine sQ rfl ?_
 refine s_box (v := vw) (cs := [vw]) rfl (Sl.cells (hw.to K1)) ?_
 intro b2 w3 Nb2
 have o_K1_b2 := Nat.le_trans K1.size Nb2.ge
 have o_b2 := Nat.le_trans E.size Nb2.ge
 replace E := E.trans Nb2.ext
 replace K1 := K1.ext Nb2.ext
 have aa := Nb2.same
 clear Nb2
 refine sA (.slice none 0 0) rfl <| sA (I 0) rfl <| s_nil <| sQ rfl <| s_val (x_ld (v := vw) rfl (ldb_sc Sc22 aa rfl)) <| sM vl rfl ?_
 refine s_call cf21 [vw, vl] rfl (Values_any _ (hw.to K1) (hl.to K1)) ?_
 rintro _ w4 ⟨u6, rfl, ap, x5⟩
 replace E := E.trans x5
 replace K1 := K1.ext x5
 replace aa := x5.get aa
 clear x5
 have aG := ap.len_le
 have K8 := KF.refl w3.heap.size w4
 refine sM (.tuple #[u6, I (valuesE ws l)]) rfl <| sX [u6, I (valuesE ws l)] u6 rfl rfl <| sX [u6, I (valuesE ws l)] (I (valuesE ws l)) rfl rfl <| sA u6 rfl <| sA (I (valuesE ws l)) rfl <| s_nil <| W.seq <| W.block <| sQ rfl <| sM (I (valuesE ws l)) rfl <| sC _ _ ((valuesE ws l : Int) != 0) rfl rfl rfl ?_
 refine sA (B ((valuesE ws l : Int) != 0)) rfl <| s_nil ?_
 refine W.cond ((valuesE ws l : Int) != 0) rfl (fun c9 => ?_) (fun c9 => ?_)
 ·simp only [qz1, qz2, qz3, qz4, qz5, qz6, ne_eq, qz7] at c9
  refine sQ rfl <| sM (I (valuesE ws l)) rfl <| sA (.slice none 0 0) rfl <| sA (I (valuesE ws l)) rfl <| s_nil ?_
  refine W.ret ?_
  exact ⟨_, resE_tmp2 rfl, .slice none 0 0, (by rw [w_wrong c9]; rfl), (by rw [w_err (w_wrong c9) (by first | decide | exact c9)]; exact Sl.nil _), E⟩
 simp only [qz1, qz2, qz3, qz4, qz5, qz6, ne_eq, qz7] at c9
 have hvl := valuesR_len c9
 refine sQ rfl <| sM vp rfl <| s_val (x_lenS T24.und rfl (hp.to K1)) <| sC _ _ (decide ((200 : Int) < p.length)) rfl rfl rfl <| sA (B (decide ((200 : Int) < p.length))) rfl <| s_nil ?_
 refine W.cond (decide ((200 : Int) < p.length)) rfl (fun ag => ?_) (fun ag => ?_)
 ·simp only [qz1, qz2, qz3, qz4, qz5, qz6, ne_eq, qz7] at ag
  refine sQ rfl <| sA (.slice none 0 0) rfl <| sA (I 3) rfl <| s_nil ?_
  refine W.ret ?_
  exact ⟨_, resE_tmp2 rfl, .slice none 0 0, (by rw [w_many c9 ag]; rfl), (by rw [w_err (w_many c9 ag) (by first | decide | exact c9)]; exact Sl.nil _), E⟩
 simp only [qz1, qz2, qz3, qz4, qz5, qz6, ne_eq, qz7] at ag
 refine sQ rfl <| s_val (x_mf (fs := []) (cs := [Pz b2]) rfl rfl) <| sM vp rfl ?_
 refine s_call cf90 [.func (.func 91) #[] #[Pz b2], vp] rfl (every_Pub _ (hp.to K1) ⟨91, [Pz b2], rfl, cf91, fun w' v x hE hD hA => by obtain rfl := Pub_arg hA; exact (withdrawn1 _ _ (hE.get aa) ((hw.to K1).mono hE.le))⟩) ?_
 rintro _ ar ⟨rfl, aq⟩
 replace E := E.trans aq
 replace K1 := K1.ext aq
 replace K8 := K8.ext aq
 replace aa := aq.get aa
 clear aq
 refine s_val (x_not (b := p.all (fun x : Pub => inB x.work 0 ((ws.length : Int) - 1))) rfl) <| sA (B (!(p.all (fun x : Pub => inB x.work 0 ((ws.length : Int) - 1))))) rfl <| s_nil ?_
 refine W.cond (!(p.all (fun x : Pub => inB x.work 0 ((ws.length : Int) - 1)))) rfl (fun am => ?_) (fun am => ?_)
 ·skip
  refine sQ rfl <| sA (.slice none 0 0) rfl <| sA (I 2) rfl <| s_nil ?_
  refine W.ret ?_
  exact ⟨_, resE_tmp2 rfl, .slice none 0 0, (by rw [w_arg c9 ag am]; rfl), (by rw [w_err (w_arg c9 ag am) (by first | decide | exact c9)]; exact Sl.nil _), E⟩
 skip
 refine W.skip <| sQ rfl <| sA (.slice none 0 0) rfl <| s_nil <| W.seq <| sQ rfl <| sM vp rfl <| s_val (x_lenS T24.und rfl (hp.to K1)) <| sM (I 0) rfl <| s_nil ?_
 refine W.block ?_
 have ae := Nat.le_refl ar.heap.size
 have B_vo := E.size
 have B_vo_K1 := K1.size
 have B_vo_K8 := K8.size
 have B_vo_b2 := heap_lt aa
 refine W.loop (fun m σ W => ∃ (i : Nat) (vo : Value) (ρ : Env), σ = upds ρ [(8, u6), (10, vo), (32, vp), (33, I p.length), (34, I i)] /\ m = p.length - i /\ Ext w W /\ KF 0 w W /\ KF w3.heap.size w4 W /\ W.heap[b2]? = some (.cells #[vw] 22 (0, 0)) /\ ar.heap.size <= W.heap.size /\ OwnF ar.heap.size 3 W vo (wdT (valuesR ws l) p i) /\ vo.ownBlock ≠ some b2 /\ i <= p.length) ?_ ?_
 ·exact ⟨_, 0, .slice none 0 0, _, upds_of _ _ ⟨rfl, rfl, rfl, rfl, (eqI (by omega)), trivial⟩, rfl, E, K1, K8, aa, ae, (OwnF.nil _ _ _), by simp [Value.ownBlock], (Nat.zero_le _)⟩
 rintro m σ aH ⟨i, vo, ρ, rfl, rfl, E, K1, K8, aa, ae, ab, n_vo_b2, aw⟩
 have hwl := wdT_len (valuesR ws l) p i
 refine sQ rfl <| sC _ _ (decide ((i : Int) < p.length)) rfl rfl rfl <| s_nil <| W.seq ?_
 refine W.cond (decide ((i : Int) < p.length)) rfl (fun ao => ?_) (fun ao => ?_)
 ·simp only [qz1, qz2, qz3, qz4, qz5, qz6, ne_eq, qz7] at ao
  have hpr := pub_rng am ao
  refine W.skip <| W.seq <| W.block <| sQ rfl <| sM (I i) rfl <| s_val (x_ix (v := vat vp 2 (Int.toNat i)) rfl rfl (Sl.ix (α := Pub) T24.und T24.size (hp.to K1) (by omega) (by omega))) <| s_val (x_ld (v := .agg #[I ((p.getD i default).work), I ((p.getD i default).value)]) rfl (ld_ag Ag33 Sz33 (At.to (Pub_atA hp (i := i) (by omega) (by omega)) K1))) ?_
  refine s_alloc (cs := [I 0, I 0]) Al33 rfl ?_
  intro ah aI Nb17
  have o_K1_b17 := Nat.le_trans K1.size Nb17.ge
  have o_K8_b17 := Nat.le_trans K8.size Nb17.ge
  have o_b17 := Nat.le_trans E.size Nb17.ge
  have o_b2_b17 := Nat.lt_of_lt_of_le (heap_lt aa) Nb17.ge
  have n_vo_b17 := ab.ne Nb17.ge
  replace E := E.trans Nb17.ext
  replace ae := Nat.le_trans ae Nb17.ext.size
  replace K1 := K1.ext Nb17.ext
  replace K8 := K8.ext Nb17.ext
  replace aa := Nb17.ext.get aa
  replace ab := ab.ext Nb17.ext
  have ac := Nb17.same
  clear Nb17
  refine sA (I i) rfl ?_
  refine s_st (b := ah) (off := 0) (vs := [I ((p.getD i default).work), I ((p.getD i default).value)]) (cs' := [I ((p.getD i default).work), I ((p.getD i default).value)]) (v := .agg #[I ((p.getD i default).work), I ((p.getD i default).value)]) rfl rfl Sz33 ac rfl rfl rfl rfl rfl ?_
  intro aJ ai
  replace E := E.put (by omega) ai
  replace ae := Nat.le_trans ae (Nat.le_of_eq ai.size.symm)
  replace K1 := K1.put ai (by omega)
  replace K8 := K8.put ai (by omega)
  replace aa := ai.get (by omega) aa
  replace ab := ab.put ai n_vo_b17
  replace ac := ai.same
  clear ai
  refine s_nil <| W.seq ?_
  refine W.draw (fun W => Ext w W /\ KF 0 w W /\ KF w3.heap.size w4 W /\ W.heap[b2]? = some (.cells #[vw] 22 (0, 0)) /\ W.heap[ah]? = some (.cells #[I ((p.getD i default).work), I ((p.getD i default).value)] 33 (0, 0)) /\ OwnF ar.heap.size 3 W vo (wdT (valuesR ws l) p i)) [(0, true), (1, true), (2, true), (3, true), (4, true), (5, true), (6, true), (7, true), (8, true), (9, true), (10, true), (11, true), (12, true), (13, true), (14, true), (15, true)] mixed (by decide +kernel) rfl ?_
  intro ax aj
  replace E := E.trans aj
  replace ae := Nat.le_trans ae aj.size
  replace K1 := K1.ext aj
  replace K8 := K8.ext aj
  replace aa := aj.get aa
  replace ac := aj.get ac
  replace ab := ab.ext aj
  clear aj
  refine ⟨⟨E, K1, K8, aa, ac, ab⟩, ?_⟩
  refine d_q rfl (fun w' hC => by obtain ⟨E, K1, K8, aa, ac, ab⟩ := hC; exact x_mv (v := u6) rfl) ?_
  refine d_q rfl (fun w' hC => by obtain ⟨E, K1, K8, aa, ac, ab⟩ := hC; exact x_fa (v := Pz ah) rfl (fa_blk (o := 0) Fd33_0 Sz3)) ?_
  refine d_q rfl (fun w' hC => by obtain ⟨E, K1, K8, aa, ac, ab⟩ := hC; exact x_ld (v := I ((p.getD i default).work)) rfl (ldb_sc Sc3 ac rfl)) ?_
  refine d_q rfl (fun w' hC => by obtain ⟨E, K1, K8, aa, ac, ab⟩ := hC; exact x_ix (v := vat u6 1 (Int.toNat ((p.getD i default).work))) rfl rfl (Sl.ix (α := Int) T34.und T34.size (ap.to K8) (by omega) (by omega))) ?_
  refine d_q rfl (fun w' hC => by obtain ⟨E, K1, K8, aa, ac, ab⟩ := hC; exact x_ld (v := I ((valuesR ws l).getD (Int.toNat ((p.getD i default).work)) 0)) rfl (ld_sc Sc3 (At.to (Int_at ap (i := (p.getD i default).work) (by omega) (by omega)) K8))) ?_
  refine d_q rfl (fun w' hC => by obtain ⟨E, K1, K8, aa, ac, ab⟩ := hC; exact x_cmp (kd := .i64) (r := (((valuesR ws l).getD (Int.toNat ((p.getD i default).work)) 0) : Int) == (-1)) rfl rfl rfl) ?_
  refine d_q rfl (fun w' hC => by obtain ⟨E, K1, K8, aa, ac, ab⟩ := hC; exact x_mv (v := B ((((valuesR ws l).getD (Int.toNat ((p.getD i default).work)) 0) : Int) == (-1))) rfl) ?_
  refine d_qg (!((((valuesR ws l).getD (Int.toNat ((p.getD i default).work)) 0) : Int) == (-1))) rfl (gy_f rfl) (fun hg => (fun w' hC => by obtain ⟨E, K1, K8, aa, ac, ab⟩ := hC; exact x_mv (v := u6) rfl)) ?_
  refine d_qg (!((((valuesR ws l).getD (Int.toNat ((p.getD i default).work)) 0) : Int) == (-1))) rfl (gy_f rfl) (fun hg => (fun w' hC => by obtain ⟨E, K1, K8, aa, ac, ab⟩ := hC; exact x_fa (v := Pz ah) rfl (fa_blk (o := 0) Fd33_0 Sz3))) ?_
  refine d_qg (!((((valuesR ws l).getD (Int.toNat ((p.getD i default).work)) 0) : Int) == (-1))) rfl (gy_f rfl) (fun hg => (fun w' hC => by obtain ⟨E, K1, K8, aa, ac, ab⟩ := hC; exact x_ld (v := I ((p.getD i default).work)) (gd_of hg (Pz ah)) (ldb_sc Sc3 ac rfl))) ?_
  refine d_qg (!((((valuesR ws l).getD (Int.toNat ((p.getD i default).work)) 0) : Int) == (-1))) rfl (gy_f rfl) (fun hg => (fun w' hC => by obtain ⟨E, K1, K8, aa, ac, ab⟩ := hC; exact x_ix (v := vat u6 1 (Int.toNat ((p.getD i default).work))) (gd_of hg (u6)) (gd_of hg (I ((p.getD i default).work))) (Sl.ix (α := Int) T34.und T34.size (ap.to K8) (by first | omega | (simp at hg; omega) | (simp [inB] at hg; omega)) (by first | omega | (simp at hg; omega) | (simp [inB] at hg; omega))))) ?_
  refine d_qg (!((((valuesR ws l).getD (Int.toNat ((p.getD i default).work)) 0) : Int) == (-1))) rfl (gy_f rfl) (fun hg => (fun w' hC => by obtain ⟨E, K1, K8, aa, ac, ab⟩ := hC; exact x_ld (v := I ((valuesR ws l).getD (Int.toNat ((p.getD i default).work)) 0)) (gd_of hg (vat u6 1 (Int.toNat ((p.getD i default).work)))) (ld_sc Sc3 (At.to (Int_at ap (i := (p.getD i default).work) (by first | omega | (simp at hg; omega) | (simp [inB] at hg; omega)) (by first | omega | (simp at hg; omega) | (simp [inB] at hg; omega))) K8)))) ?_
  refine d_qg (!((((valuesR ws l).getD (Int.toNat ((p.getD i default).work)) 0) : Int) == (-1))) rfl (gy_f rfl) (fun hg => (fun w' hC => by obtain ⟨E, K1, K8, aa, ac, ab⟩ := hC; exact x_fa (v := Oz ah 1) rfl (fa_blk (o := 0) Fd33_1 Sz3))) ?_
  refine d_qg (!((((valuesR ws l).getD (Int.toNat ((p.getD i default).work)) 0) : Int) == (-1))) rfl (gy_f rfl) (fun hg => (fun w' hC => by obtain ⟨E, K1, K8, aa, ac, ab⟩ := hC; exact x_ld (v := I ((p.getD i default).value)) (gd_of hg (Oz ah 1)) (ldb_sc Sc3 ac rfl))) ?_
  refine d_qg (!((((valuesR ws l).getD (Int.toNat ((p.getD i default).work)) 0) : Int) == (-1))) rfl (gy_f rfl) (fun hg => (fun w' hC => by obtain ⟨E, K1, K8, aa, ac, ab⟩ := hC; exact x_cmp (kd := .i64) (r := (((valuesR ws l).getD (Int.toNat ((p.getD i default).work)) 0) : Int) != ((p.getD i default).value)) (gd_of hg (I ((valuesR ws l).getD (Int.toNat ((p.getD i default).work)) 0))) (gd_of hg (I ((p.getD i default).value))) rfl)) ?_
  refine d_q rfl (fun w' hC => by obtain ⟨E, K1, K8, aa, ac, ab⟩ := hC; exact x_por (b := (((valuesR ws l).getD (Int.toNat ((p.getD i default).work)) 0) : Int) == (-1)) (r := (((valuesR ws l).getD (Int.toNat ((p.getD i default).work)) 0) : Int) != ((p.getD i default).value)) rfl rfl (fun hb => gd_of (c := !((((valuesR ws l).getD (Int.toNat ((p.getD i default).work)) 0) : Int) == (-1))) (by simp_all) (B ((((valuesR ws l).getD (Int.toNat ((p.getD i default).work)) 0) : Int) != ((p.getD i default).value))))) ?_
  refine d_nil ?_
  refine W.cond ((((((valuesR ws l).getD (Int.toNat ((p.getD i default).work)) 0) : Int) == (-1)) || ((((valuesR ws l).getD (Int.toNat ((p.getD i default).work)) 0) : Int) != ((p.getD i default).value)))) rfl (fun au => ?_) (fun au => ?_)
  ·skip
   refine W.region rfl <| sM vo rfl <| sM (I i) rfl ?_
   refine s_bsl (α := Int) T34 ax.heap.size [I i] [(i : Int)] rfl (.cons rfl (Flat.rep_enc _ _) <| .nil) (Nat.le_refl _) rfl (by decide) (by decide) ?_
   intro az aA aB ak nn_u24
   replace E := E.trans ak
   replace ae := Nat.le_trans ae ak.size
   replace K1 := K1.ext ak
   replace K8 := K8.ext ak
   replace aa := ak.get aa
   replace ac := ak.get ac
   replace ab := ab.ext ak
   clear ak
   have K28 := KF.refl ax.heap.size aA
   refine s_app (α := Int) (v := vo) (vy := az) (l := wdT (valuesR ws l) p i) (l2 := [(i : Int)]) T34 rfl rfl ab (aB.to K28) (Cells.Le.refl _) ae (by first | omega | (simp only [List.length_append, List.length_cons, List.length_nil, List.length_set]; omega)) (by first | omega | (simp only [List.length_append, List.length_cons, List.length_nil, List.length_set]; omega)) ?_
   intro ay aK aC al av
   have n_v29_b17 := av ah (heap_lt ac) n_vo_b17
   have n_v29_b2 := av b2 (heap_lt aa) n_vo_b2
   replace E := E.grow al (by omega)
   replace ae := Nat.le_trans ae al.size
   replace K1 := K1.grow al (by omega)
   replace K8 := K8.grow al (by omega)
   replace aa := al.get n_vo_b2 aa
   replace ac := al.get n_vo_b17 ac
   clear al av
   refine sA ay rfl <| s_nil <| W.region rfl <| sR _ _ (i + 1) rfl rfl rfl (by omega) <| sM (I (i + 1)) rfl <| s_nil ?_
   exact ⟨_, (by omega), i+1, ay, _, upds_of _ _ ⟨rfl, rfl, rfl, rfl, (eqI (by omega)), trivial⟩, rfl, E, K1, K8, aa, ae, (by rw [wdT_next, if_pos (show wdAt (valuesR ws l) (p.getD i default) = true from au)]; exact aC), n_v29_b2, (by omega)⟩
  skip
  refine W.skip <| W.region rfl <| sR _ _ (i + 1) rfl rfl rfl (by omega) <| sM (I (i + 1)) rfl <| s_nil ?_
  exact ⟨_, (by omega), i+1, vo, _, upds_of _ _ ⟨rfl, rfl, rfl, rfl, (eqI (by omega)), trivial⟩, rfl, E, K1, K8, aa, ae, (by rw [wdT_next, if_neg (by rw [show wdAt (valuesR ws l) (p.getD i default) = false from au]; decide)]; exact ab), n_vo_b2, (by omega)⟩
 simp only [qz1, qz2, qz3, qz4, qz5, qz6, ne_eq, qz7] at ao
 refine W.exit ?_
 refine sQ rfl <| sM vo rfl <| sA vo rfl <| sA (I 0) rfl <| s_nil ?_
 refine W.ret ?_
 exact ⟨_, resE_tmp2 rfl, vo, (by rw [(w_ok c9 ag am ao aw).1]; rfl), (by have hq := (ab.dn (B' := w.heap.size) (by omega)).sl; rw [(w_ok c9 ag am ao aw).2]; exact hq), E⟩

end Go.Proofs.Ytndobgodeicloaa
end
section
set_option maxRecDepth 100000
set_option maxHeartbeats 16000000
namespace Go.Proofs.Ytndobgodeicloaa
open Go Go.Nm
theorem copy_note {vl : Value} {l : List Note} (w : World) (hl : Sl w.cell? vl l) (aa : l.length <= 1000000) : Ret Try.prog 19 #[vl] w fun v w' => OwnF w.heap.size 30 w' v l /\ Ext w w' := by
 refine ret_of_W Try.func19 rfl rfl rfl ?_
 have E := Ext.refl w
 have K1 := KF.refl 0 w
 have ab := hl.len_le
 have hl := hl.par
 refine sQ rfl <| sA (.slice none 0 0) rfl <| s_nil <| sQ rfl <| sA (.slice none 0 0) rfl <| s_nil <| sQ rfl <| sM (.slice none 0 0) rfl <| sM vl rfl ?_
 refine s_app (α := Note) (v := .slice none 0 0) (vy := vl) (l := []) (l2 := l) T23 rfl rfl (OwnF.nil w.heap.size 30 w) (hl.to K1) (Cells.Le.refl _) (Nat.le_refl _) (by first | omega | (simp only [List.length_append, List.length_cons, List.length_nil, List.length_set]; omega)) (by first | omega | (simp only [List.length_append, List.length_cons, List.length_nil, List.length_set]; omega)) ?_
 intro v2 w3 ho4 g5 ne6
 have g5x : Ext w w3 := (Ext.refl _).grow g5 (Nat.le_refl _)
 have z7 := Nat.le_refl w.heap.size
 have B_v2 := E.size
 have B_v2_K1 := K1.size
 replace E := E.trans g5x
 replace z7 := Nat.le_trans z7 g5x.size
 replace K1 := K1.ext g5x
 simp only [List.nil_append] at ho4
 refine sA v2 rfl <| s_nil ?_
 refine W.ret ?_
 exact ⟨_, resE_tmp rfl, (ho4.dn (by omega)), E⟩

end Go.Proofs.Ytndobgodeicloaa
end
section
set_option maxRecDepth 100000
set_option maxHeartbeats 16000000
namespace Go.Proofs.Ytndobgodeicloaa
open Go Go.Nm
theorem same_int {va vb : Value} {a b : List Int} (w : World) (ha : Sl w.cell? va a) (hb : Sl w.cell? vb b) : Ret Try.prog 25 #[va, vb] w fun v w' => v = B (decide (a = b)) /\ Ext w w' := by
 refine ret_of_W Try.func25 rfl rfl rfl ?_
 have E := Ext.refl w
 have K1 := KF.refl 0 w
 have ab := ha.len_le
 have ha := ha.par
 have ac := hb.len_le
 have hb := hb.par
 refine sQ rfl <| sA (B false) rfl <| s_nil <| W.seq <| sQ rfl <| sM va rfl <| s_val (x_lenS T34.und rfl (ha.to K1)) <| sM vb rfl <| s_val (x_lenS T34.und rfl (hb.to K1)) <| sC _ _ ((a.length : Int) != b.length) rfl rfl rfl ?_
 refine s_nil ?_
 refine W.cond ((a.length : Int) != b.length) rfl (fun c2 => ?_) (fun c2 => ?_)
 ·simp only [qz1, qz2, qz3, qz4, qz5, qz6, ne_eq, qz7] at c2
  refine sQ rfl <| sA (B false) rfl <| s_nil ?_
  refine W.ret ?_
  exact ⟨_, resE_tmp rfl, (eqB (same_len c2)), E⟩
 simp only [qz1, qz2, qz3, qz4, qz5, qz6, ne_eq, qz7] at c2
 refine W.skip <| W.seq <| sQ rfl <| sA (I 0) rfl <| s_nil <| W.block ?_
 refine W.loop (fun m σ W => ∃ (k : Nat) (ρ : Env), σ = upds ρ [(0, va), (1, vb), (5, I k)] /\ m = a.length - k /\ Ext w W /\ KF 0 w W /\ k <= a.length /\ a.take k = b.take k) ?_ ?_
 ·exact ⟨_, 0, _, upds_of _ _ ⟨rfl, rfl, (eqI (by omega)), trivial⟩, rfl, E, K1, (Nat.zero_le _), rfl⟩
 rintro m σ w3 ⟨k, ρ, rfl, rfl, E, K1, ae, aa⟩
 refine W.seq <| sQ rfl <| sM (I k) rfl <| sM va rfl <| s_val (x_lenS T34.und rfl (ha.to K1)) <| sC _ _ (decide ((k : Int) < a.length)) rfl rfl rfl <| s_nil ?_
 refine W.cond (decide ((k : Int) < a.length)) rfl (fun c4 => ?_) (fun c4 => ?_)
 ·simp only [qz1, qz2, qz3, qz4, qz5, qz6, ne_eq, qz7] at c4
  refine W.skip <| W.seq <| W.block <| W.seq ?_
  refine W.draw (fun W => Ext w W /\ KF 0 w W) [(0, true), (1, true), (2, true), (3, true), (4, true), (5, true), (6, true), (7, true), (8, true)] mixed (by decide +kernel) rfl ?_
  intro w5 x6
  replace E := E.trans x6
  replace K1 := K1.ext x6
  clear x6
  refine ⟨⟨E, K1⟩, ?_⟩
  refine d_q rfl (fun w' hC => by obtain ⟨E, K1⟩ := hC; exact x_mv (v := va) rfl) ?_
  refine d_q rfl (fun w' hC => by obtain ⟨E, K1⟩ := hC; exact x_mv (v := I k) rfl) ?_
  refine d_q rfl (fun w' hC => by obtain ⟨E, K1⟩ := hC; exact x_ix (v := vat va 1 (Int.toNat k)) rfl rfl (Sl.ix (α := Int) T34.und T34.size (ha.to K1) (by omega) (by omega))) ?_
  refine d_q rfl (fun w' hC => by obtain ⟨E, K1⟩ := hC; exact x_ld (v := I (a.getD k 0)) rfl (ld_sc Sc3 (At.to (Int_at ha (i := k) (by omega) (by omega)) K1))) ?_
  refine d_q rfl (fun w' hC => by obtain ⟨E, K1⟩ := hC; exact x_mv (v := vb) rfl) ?_
  refine d_q rfl (fun w' hC => by obtain ⟨E, K1⟩ := hC; exact x_mv (v := I k) rfl) ?_
  refine d_q rfl (fun w' hC => by obtain ⟨E, K1⟩ := hC; exact x_ix (v := vat vb 1 (Int.toNat k)) rfl rfl (Sl.ix (α := Int) T34.und T34.size (hb.to K1) (by omega) (by omega))) ?_
  refine d_q rfl (fun w' hC => by obtain ⟨E, K1⟩ := hC; exact x_ld (v := I (b.getD k 0)) rfl (ld_sc Sc3 (At.to (Int_at hb (i := k) (by omega) (by omega)) K1))) ?_
  refine d_q rfl (fun w' hC => by obtain ⟨E, K1⟩ := hC; exact x_cmp (kd := .i64) (r := (a.getD k 0 : Int) != (b.getD k 0)) rfl rfl rfl) ?_
  refine d_nil ?_
  refine W.cond ((a.getD k 0 : Int) != (b.getD k 0)) rfl (fun c7 => ?_) (fun c7 => ?_)
  ·simp only [qz1, qz2, qz3, qz4, qz5, qz6, ne_eq, qz7] at c7
   refine sQ rfl <| sA (B false) rfl <| s_nil ?_
   refine W.ret ?_
   exact ⟨_, resE_tmp rfl, (eqB (same_ne (k := k) (0 : Int) c7)), E⟩
  simp only [qz1, qz2, qz3, qz4, qz5, qz6, ne_eq, qz7] at c7
  refine W.skip <| W.region rfl <| sM (I k) rfl <| sR _ _ (k + 1) rfl rfl rfl (by omega) <| sA (I (k + 1)) rfl <| s_nil ?_
  exact ⟨_, (by omega), k+1, _, upds_of _ _ ⟨rfl, rfl, (eqI (by omega)), trivial⟩, rfl, E, K1, (by omega), (same_step (0 : Int) (by omega) c4 aa (by first | omega | (simpa using c7)))⟩
 simp only [qz1, qz2, qz3, qz4, qz5, qz6, ne_eq, qz7] at c4
 refine W.exit ?_
 refine sQ rfl <| sA (B true) rfl <| s_nil ?_
 refine W.ret ?_
 exact ⟨_, resE_tmp rfl, (eqB (same_done (by omega) c4 aa)), E⟩

end Go.Proofs.Ytndobgodeicloaa
end
section
set_option maxRecDepth 100000
set_option maxHeartbeats 16000000
namespace Go.Proofs.Ytndobgodeicloaa
open Go Go.Nm
end Go.Proofs.Ytndobgodeicloaa
end
section
set_option maxRecDepth 100000
set_option maxHeartbeats 16000000
namespace Go.Proofs.Ytndobgodeicloaa
open Go Go.Nm
end Go.Proofs.Ytndobgodeicloaa
end
namespace Go.Nm
open Go
/-- A slice value, as a row's one cell. -/
structure SV where
  v : Value
  one : v.oneCell' = true
instance : Inhabited SV := ⟨⟨.bool false, rfl⟩⟩
instance : Flat SV where
  rep _ cs x := cs = [x.v]
  sz := 1
  agg := false
  sz_pos := by decide
  len := fun h => by subst h; rfl
  mono := fun _ h => h
  one := fun {_ _ x} h v hv => by subst h; simp at hv; subst hv; exact x.one
  enc x := [x.v]
  rep_iff := Iff.rfl
/-- All rows are the call's own, and no two share memory. -/
structure Mat (B : Nat) (e1 e2 : TypeId) (w : World) (v : Value) (M : List (List Bool)) : Prop where
  ex : ∃ vs : List SV, OwnF B e1 w v vs /\ vs.length = M.length /\ (∀ i, i < M.length -> OwnF B e2 w (vs.getD i default).v (M.getD i [])) ∧
    (∀ i j, i < M.length -> j < M.length -> i ≠ j -> ∀ g, (vs.getD i default).v.ownBlock = some g -> (vs.getD j default).v.ownBlock ≠ some g) ∧
    ∀ i, i < M.length -> ∀ g, (vs.getD i default).v.ownBlock = some g -> v.ownBlock ≠ some g
/-- Nothing below a block has changed. -/
structure MGrow (B : Nat) (w w' : World) : Prop where
  os : w'.os = w.os
  out : w'.output = w.output
  size : w.heap.size <= w'.heap.size
  blk : ∀ b, b < w.heap.size -> b < B -> w'.heap[b]? = w.heap[b]?
  fz : ∀ a, w'.frozen? a = w.frozen? a
theorem Grow.m {B : Nat} {v : Value} {w w' : World} (h : Grow B v w w') : MGrow B w w' := ⟨h.os, h.out, h.size, fun b hb hlt => h.blk b hb (h.ne hlt), h.fz⟩
theorem Ext.mgrow {w0 w w' : World} {B : Nat} (h : Ext w0 w) (k : MGrow B w w') (hB : w0.heap.size <= B) : Ext w0 w' :=
  ⟨k.os.trans h.os, k.out.trans h.out, Nat.le_trans h.size k.size, fun b hb => (k.blk b (Nat.lt_of_lt_of_le hb h.size) (by omega)).trans (h.blk b hb), fun a => (k.fz a).trans (h.fz a)⟩
theorem KF.mgrow {lo B : Nat} {a w c : World} (h : KF lo a w) (k : MGrow B w c) (hB : a.heap.size <= B) : KF lo a c :=
  ⟨Nat.le_trans h.size k.size, fun i hl hi => (k.blk i (Nat.lt_of_lt_of_le hi h.size) (by omega)).trans (h.blk i hl hi)⟩
section
variable {P : Program} {w : World} {B : Nat} {e1 e2 : TypeId} {v : Value} {M : List (List Bool)}
theorem Mat.nil (B : Nat) (e1 e2 : TypeId) (w : World) : Mat B e1 e2 w (.slice none 0 0) [] :=
  ⟨[], OwnF.nil _ _ _, rfl, fun i h => by simp at h, fun i j h => by simp at h, fun i h => by simp at h⟩
theorem Mat.ext {w' : World} (h : Mat B e1 e2 w v M) (k : Ext w w') : Mat B e1 e2 w' v M := by
  obtain ⟨vs, h1, h2, h3, h4, h5⟩ := h.ex
  exact ⟨vs, h1.ext k, h2, fun i hi => (h3 i hi).ext k, h4, h5⟩
theorem Mat.sl (h : Mat B e1 e2 w v M) : Sl (frm w B) v M := by
  obtain ⟨vs, h1, h2, h3, h4, h5⟩ := h.ex
  obtain ⟨a, c, hv, hc, hm, hh⟩ := h1.sl.ex
  refine ⟨a, c, by rw [hv, h2], by omega, hm, fun k x hx => ?_⟩
  have hk := (List.getElem?_eq_some_iff.1 hx).1
  obtain ⟨b, o, cs, ha, hr, hy⟩ := hh k (vs.getD k default) (getD_some vs (by omega) default)
  have hcs : cs = [(vs.getD k default).v] := hr
  have hx' : M.getD k [] = x := by simp [List.getD, hx]
  exact ⟨b, o, cs, ha, ⟨_, hcs, hx' ▸ (h3 k hk).sl⟩, hy⟩
/-- A row, when it is read. -/
theorem Mat.row (h : Mat B e1 e2 w v M) {i : Nat} (hi : i < M.length) : ∃ u, At (frm w B) (vat v 1 i) [u] /\ OwnF B e2 w u (M.getD i []) ∧
    ∀ {t : TypeId} (_ : (P.info? t).map (·.size) = some 1) {j : Nat} (_ : j < (M.getD i []).length) (b : Bool),
      ∃ w', (Instr.storeAt t (vat u 1 j) (.bool b)).run P w = .ok () w' /\ Mat B e1 e2 w' v (M.set i ((M.getD i []).set j b)) /\ MGrow B w w' := by
  obtain ⟨vs, h1, h2, h3, h4, h5⟩ := h.ex
  obtain ⟨cs, ha, hr⟩ := h1.sl.at (getD_some vs (k := i) (by omega) default)
  have hcs : cs = [(vs.getD i default).v] := hr
  subst hcs
  refine ⟨(vs.getD i default).v, ha, h3 i hi, fun {t} ht {j} hj b => ?_⟩
  obtain ⟨w', hs, ho, hg⟩ := (h3 i hi).store (P := P) (val := .bool b) ht hj b rfl
  refine ⟨w', hs, ⟨vs, ?_, by simpa using h2, fun k hk => ?_, fun k l hk hl => ?_, fun k hk => ?_⟩, hg.m⟩
  · refine h1.grow hg fun g hg' => ?_
    intro he
    exact h5 i hi g he hg'
  · simp only [List.length_set] at hk
    by_cases e : k = i
    · subst e
      rw [show (M.set k ((M.getD k []).set j b)).getD k [] = (M.getD k []).set j b from by simp [List.getD, hk]]
      exact ho
    · rw [show (M.set i ((M.getD i []).set j b)).getD k [] = M.getD k [] from by simp [List.getD, List.getElem?_set_ne (Ne.symm e)]]
      exact (h3 k hk).grow hg fun g hg' => h4 k i hk hi e g hg' |> fun h6 he => h6 he
  · simp only [List.length_set] at hk hl
    exact h4 k l hk hl
  · simp only [List.length_set] at hk
    exact h5 k hk
variable {all rest : List Oper} {Q : Post} {σ : Env} {d : Nat} {ty : TypeId} {pos : String} {af : Array Edge}
end
end Go.Nm
namespace Go.Nm
open Go
theorem Sep.set {w w' : World} {c c' : Chunk} (hx : c.ex = true) (kp : w.heap.size <= w'.heap.size) (hs : ∀ b, b < w.heap.size -> ¬ c.D b -> w'.heap[b]? = w.heap[b]?)
    (hD : ∀ b, c'.D b -> c.D b ∨ w.heap.size <= b) (ho : c'.ok w') : ∀ (k : Nat) (L : List Chunk), Sep w L -> L[k]? = some c -> Sep w' (L.set k c') := by
  intro k L
  induction L generalizing k with
  | nil => intro _ h; simp at h
  | cons d L ih =>
    intro hS hk
    obtain ⟨h1, h2, h3⟩ := hS
    cases k with
    | zero =>
      simp only [List.getElem?_cons_zero, Option.some.injEq] at hk
      subst hk
      refine ⟨ho, fun e he _ b hb hb' => ?_, h3.old kp fun e he b hb => ?_⟩
      · rcases hD b hb with hb | hb
        · exact h2 e he (by simp [hx]) b hb hb'
        · have := e.bd w b (h3.get he) hb'
          omega
      · exact hs b (e.bd w b (h3.get he) hb) (fun hc => h2 e he (by simp [hx]) b hc hb)
    | succ k =>
      simp only [List.getElem?_cons_succ] at hk
      have hmem : c ∈ L := List.mem_of_getElem? hk
      have had := h2 c hmem
      refine ⟨d.st _ _ h1 kp fun b hb => hs b (d.bd w b h1 hb) (fun hc => had (by simp [hx]) b hb hc), fun e he => ?_, ih k h3 hk⟩
      rcases List.mem_or_eq_of_mem_set he with he | rfl
      · exact h2 e he
      · intro _ b hb hb'
        rcases hD b hb' with hb' | hb'
        · exact had (by simp [hx]) b hb hb'
        · have := d.bd w b h1 hb
          omega
/-- Parts as one. -/
def cAll (Ls : List Chunk) : Chunk where
  D b := ∃ c, c ∈ Ls /\ c.D b
  ex := true
  ok w := Sep w Ls
  st w w' h hs k := h.old hs fun c hc b hb => k b ⟨c, hc, hb⟩
  bd w b h hb := by
    obtain ⟨c, hc, hd⟩ := hb
    exact c.bd w b (h.get hc) hd
section
variable {α : Type} [Flat α] {e1 e2 : TypeId} {v : Value} {us : List SV} {T : List (List α)} {w0 w : World} {L L' R : List Chunk}
variable {P : Program} {all rest : List Oper} {Q : Post} {σ : Env} {d : Nat} {ty : TypeId} {pos : String} {af : Array Edge}
end
end Go.Nm
namespace Go.Nm
open Go
/-! ### Parts as one, and one object -/
def cObj (b : Nat) (o : Obj) : Chunk where
  D k := k = b
  ex := true
  ok w := w.heap[b]? = some o
  st w w' h _ k := (k b rfl).trans h
  bd w k h e := by rw [e]; exact heap_lt h
/-- Blocks for calls that are put off; none is. -/
def cMk (Ds : List Nat) : Chunk where
  D k := k ∈ Ds
  ex := true
  ok w := Ds.Nodup /\ ∀ D ∈ Ds, w.heap[D]? = some (.deferred (some []))
  st w w' h _ k := ⟨h.1, fun D hD => (k D hD).trans (h.2 D hD)⟩
  bd w k h e := heap_lt (h.2 k e)
section
variable {w0 w w' : World} {L L' R A T : List Chunk}
theorem Sep.bundle (hx : ∀ c ∈ A, c.ex = true) (h : Sep w (A ++ T)) : Sep w (cAll A :: T) := by
  rw [Sep.iff] at h
  obtain ⟨h1, h2⟩ := h
  rw [List.pairwise_append] at h2
  refine ⟨?_, fun d hd _ b hb hb' => ?_, ?_⟩
  · show Sep w A
    rw [Sep.iff]
    exact ⟨fun c hc => h1 c (List.mem_append_left _ hc), h2.1⟩
  · obtain ⟨c, hc, hb⟩ := hb
    exact h2.2.2 c hc d hd (by rw [hx c hc]; rfl) b hb hb'
  · rw [Sep.iff]
    exact ⟨fun c hc => h1 c (List.mem_append_right _ hc), h2.2.1⟩
theorem Sep.unbundle (h : Sep w (cAll A :: T)) : Sep w (A ++ T) := by
  obtain ⟨h1, h2, h3⟩ := h
  have h1' : Sep w A := h1
  rw [Sep.iff] at h1' h3 ⊢
  refine ⟨fun c hc => ?_, List.pairwise_append.2 ⟨h1'.2, h3.2, fun a ha b hb hex k hk hk' => ?_⟩⟩
  · rcases List.mem_append.1 hc with hc | hc
    · exact h1'.1 c hc
    · exact h3.1 c hc
  · exact h2 b hb rfl k ⟨a, ha, hk⟩ hk'
theorem St.bundle (hx : ∀ c ∈ A, c.ex = true) (H : St w0 w (A ++ T) R) : St w0 w (cAll A :: T) R :=
  ⟨H.kp, by have := H.sep; rw [List.append_assoc] at this; exact this.bundle hx⟩
theorem St.unbundle (H : St w0 w (cAll A :: T) R) : St w0 w (A ++ T) R :=
  ⟨H.kp, by rw [List.append_assoc]; exact Sep.unbundle H.sep⟩
theorem Keep.putObj {r : Nat} {o o' : Obj} (h : w.heap[r]? = some o) (ho : ∀ c e fr, o ≠ .cells c e fr) (ho' : ∀ c e fr, o' ≠ .cells c e fr) : Keep w (w.putObj r o') := by
  refine ⟨rfl, rfl, by simp, fun a => ?_⟩
  unfold World.frozen?
  by_cases e : a.block = r
  · rw [e, World.putObj_heap_same (heap_lt h), h]
    cases o with
    | cells c e fr => exact absurd rfl (ho c e fr)
    | _ => cases o' with
      | cells c e fr => exact absurd rfl (ho' c e fr)
      | _ => rfl
  · rw [World.putObj_heap_other e]
theorem St.putObj {l : Nat} {o o' : Obj} (H : St w0 w (cObj l o :: L) R) (ho : ∀ c e fr, o ≠ .cells c e fr) (ho' : ∀ c e fr, o' ≠ .cells c e fr) : St w0 (w.putObj l o') (cObj l o' :: L) R :=
  H.set (k := 0) (c := cObj l o) (c' := cObj l o') rfl rfl (Keep.putObj (H.get (k := 0) rfl) ho ho') (fun b _ hb => World.putObj_heap_other hb) (fun b hb => .inl hb)
    (World.putObj_heap_same (heap_lt (H.get (k := 0) rfl))) rfl
theorem St.tail {c : Chunk} (H : St w0 w (c :: L) R) : St w0 w L R := ⟨H.kp, H.sep.2.2⟩
theorem St.allocObj (H : St w0 w L R) (o : Obj) (hx : Ext w (w.alloc o)) : St w0 (w.alloc o) (cObj w.heap.size o :: L) R :=
  H.push (c := cObj w.heap.size o) hx (World.alloc_heap_new w o) (fun b hb => by rw [show b = w.heap.size from hb]; exact Nat.le_refl _)
theorem St.mk0 (H : St w0 w L R) : St w0 w (cMk [] :: L) R :=
  H.push (c := cMk []) (Ext.refl w) ⟨List.nodup_nil, fun _ h => by cases h⟩ (fun b hb => by cases hb)
/-- A block for calls that are put off comes to the others. -/
theorem St.mkCons {D : Nat} {Ds : List Nat} (H : St w0 w (cObj D (.deferred (some [])) :: cMk Ds :: L) R) : St w0 w (cMk (D :: Ds) :: L) R := by
  obtain ⟨h1, h2, h3, h4, h5⟩ := H.sep
  refine ⟨H.kp, ⟨List.nodup_cons.2 ⟨fun hD => h2 (cMk Ds) (by simp) rfl D rfl hD, h3.1⟩, fun E hE => ?_⟩, fun d hd _ b hb hb' => ?_, h5⟩
  · rcases List.mem_cons.1 hE with rfl | hE
    · exact h1
    · exact h3.2 E hE
  · rcases List.mem_cons.1 hb with rfl | hb
    · exact h2 d (List.mem_cons_of_mem _ hd) rfl b rfl hb'
    · exact h4 d hd rfl b hb hb'
end

/-! ### Frames that have come upon such loops -/
def mkD (D : Nat) : Deferred := { target := .collected D, args := #[] }
abbrev PostD := Exit -> List Nat -> Env -> World -> Prop
def WD (P : Program) (n : Nat) (Ds : List Nat) (c : Code) (Q : PostD) (σ : Env) (w : World) : Prop :=
  ∀ a, Fr (Ds.map mkD) n σ a -> c.wpIn (FR none) 0 P (fun e a' w' => ∃ Ds' σ', Fr (Ds'.map mkD) n σ' a' /\ Q e Ds' σ' w') a w
def thenD (K : List Nat -> Env -> World -> Prop) (Q : PostD) : PostD
  | .normal, Ds, σ, w => K Ds σ w
  | e, Ds, σ, w => Q e Ds σ w
def blockD (id : Nat) (Q : PostD) : PostD
  | .exit i, Ds, σ, w => bif Nat.beq i id then Q .normal Ds σ w else Q (.exit i) Ds σ w
  | e, Ds, σ, w => Q e Ds σ w
section
variable {P : Program} {n : Nat} {Q : PostD} {σ : Env} {w : World} {Ds : List Nat}
theorem WD.of {c : Code} (h : W P n c (fun e σ w => Q e Ds σ w) σ w) : WD P n Ds c Q σ w :=
  fun a ha => wpIn_mono (h _ a ha) fun _ _ _ ⟨s, hs, h'⟩ => ⟨Ds, s, hs, h'⟩
theorem WD.seq {x y : Code} (h : WD P n Ds x (thenD (fun Ds σ w => WD P n Ds y Q σ w) Q) σ w) : WD P n Ds (.seq x y) Q σ w := by
  intro a ha
  refine wpIn_seq (wpIn_mono (h a ha) ?_)
  rintro e a' w' ⟨Ds', s, hs, h'⟩
  cases e with
  | normal => exact h' a' hs
  | _ => exact ⟨Ds', s, hs, h'⟩
theorem WD.cond {c : Operand} {x y : Code} (b : Bool) (hc : ev σ c = .bool b) (ht : b = true -> WD P n Ds x Q σ w) (hf : b = false -> WD P n Ds y Q σ w) :
    WD P n Ds (.cond c x y) Q σ w := by
  intro a ha
  refine wpIn_cond_split (t := b) (by rw [ha.eval]; exact hc) (fun h => ht h a ha) (fun h => hf h a ha)
theorem WD.block {id : Nat} {c : Code} (h : WD P n Ds c (blockD id Q) σ w) : WD P n Ds (.block id c) Q σ w := by
  intro a ha
  refine wpIn_block (wpIn_mono (h a ha) ?_)
  rintro e a' w' ⟨Ds', s, hs, h'⟩
  cases e with
  | exit i =>
    simp only [Exit.inBlock]
    unfold blockD at h'
    by_cases e : i = id
    · subst e
      rw [if_pos rfl]
      simp only [Nat.beq_refl, cond_true] at h'
      exact ⟨Ds', s, hs, h'⟩
    · rw [if_neg e]
      have : Nat.beq i id = false := by
        cases hb : Nat.beq i id with
        | false => rfl
        | true => exact absurd (Nat.eq_of_beq_eq_true hb) e
      simp only [this, cond_false] at h'
      exact ⟨Ds', s, hs, h'⟩
  | _ => exact ⟨Ds', s, hs, h'⟩
theorem WD.loop {c : Code} (I : Nat -> List Nat -> Env -> World -> Prop) (h0' : ∃ m, I m Ds σ w)
    (round : ∀ m Ds σ w, I m Ds σ w -> WD P n Ds c (thenD (fun Ds' σ' w' => ∃ m', m' < m /\ I m' Ds' σ' w') Q) σ w) : WD P n Ds (.loop c) Q σ w := by
  obtain ⟨m, h0⟩ := h0'
  intro a ha
  refine wpIn_loop_ghost (fun m a w => ∃ Ds σ, Fr (Ds.map mkD) n σ a /\ I m Ds σ w) m ⟨Ds, σ, ha, h0⟩ ?_
  rintro m a w ⟨Ds, σ, ha, hI⟩
  refine wpIn_mono (round m Ds σ w hI a ha) ?_
  rintro e a' w' ⟨Ds', s, hs, h'⟩
  cases e with
  | normal =>
    obtain ⟨m', hlt, hI'⟩ := h'
    exact ⟨m', hlt, Ds', s, hs, hI'⟩
  | _ => exact ⟨Ds', s, hs, h'⟩
theorem WD.mono {c : Code} {Q' : PostD} (h : WD P n Ds c Q σ w) (hq : ∀ e Ds σ w, Q e Ds σ w -> Q' e Ds σ w) : WD P n Ds c Q' σ w :=
  fun a ha => wpIn_mono (h a ha) fun _ _ _ ⟨d, s, hs, h'⟩ => ⟨d, s, hs, hq _ _ _ _ h'⟩
end
/-! ### The body of a function with such loops -/
/-- The blocks are shut, one behind the other. -/
inductive Shut : List Nat -> World -> World -> Prop
  | nil {w : World} : Shut [] w w
  | cons {D : Nat} {Ds : List Nat} {w w' : World} (h : w.heap[D]? = some (.deferred (some []))) (k : Shut Ds (w.putObj D (.deferred none)) w') : Shut (D :: Ds) w w'
def bodyD (P : Program) (fn : Func) (R : Value -> World -> Prop) : PostD
  | .normal, Ds, σ, w | .ret, Ds, σ, w => ∃ w' v, Shut Ds w w' /\ resE P fn σ w' v /\ R v w'
  | _, _, _, _ => False
theorem shutSt {w0 : World} {L R : List Chunk} : ∀ {Ds : List Nat} {w : World}, St w0 w (cMk Ds :: L) R -> ∃ w', Shut Ds w w' /\ St w0 w' L R
  | [], w, H => ⟨w, .nil, H.tail⟩
  | D :: Ds, w, H => by
    have hD := (H.get (k := 0) rfl : _ /\ _).2 D (by simp)
    have hn := (H.get (k := 0) rfl : _ /\ _).1
    rw [List.nodup_cons] at hn
    have H' : St w0 (w.putObj D (.deferred none)) (cMk Ds :: L) R :=
      H.set (k := 0) (c := cMk (D :: Ds)) (c' := cMk Ds) rfl rfl (Keep.putObj hD (by simp) (by simp)) (fun b _ hb => World.putObj_heap_other (fun e => hb (by rw [e]; exact List.mem_cons_self ..)))
        (fun b hb => .inl (List.mem_cons_of_mem _ hb)) ⟨hn.2, fun E hE => by
          rw [World.putObj_heap_other (fun e => hn.1 (by rw [← e]; exact hE))]
          exact (H.get (k := 0) rfl : _ /\ _).2 E (List.mem_cons_of_mem _ hE)⟩ rfl
    obtain ⟨w', h1, h2⟩ := shutSt H'
    exact ⟨w', .cons hD h1, h2⟩
theorem bodyD_n {P : Program} {fn : Func} {Q : Value -> World -> Prop} {w0 w : World} {L R : List Chunk} {Ds : List Nat} {σ : Env} (H : St w0 w (cMk Ds :: L) R) (k : ∀ w', St w0 w' L R -> ∃ v, resE P fn σ w' v /\ Q v w') : bodyD P fn Q .normal Ds σ w := by
  obtain ⟨w', h1, h2⟩ := shutSt H
  obtain ⟨v, h3, h4⟩ := k w' h2
  exact ⟨w', v, h1, h3, h4⟩
theorem bodyD_r {P : Program} {fn : Func} {Q : Value -> World -> Prop} {w0 w : World} {L R : List Chunk} {Ds : List Nat} {σ : Env} (H : St w0 w (cMk Ds :: L) R) (k : ∀ w', St w0 w' L R -> ∃ v, resE P fn σ w' v /\ Q v w') : bodyD P fn Q .ret Ds σ w :=
  bodyD_n H k
theorem leavesOf {P : Program} {fn : Func} {σ : Env} {tmps : Array Value} {Q : Value -> World -> Prop} (ht : ∀ k, tmps.getD k undef = σ k) {v : Value} : ∀ {Ds : List Nat} {w w' : World}, Shut Ds w w' -> resE P fn σ w' v -> Q v w' →
    LeavesInM Fence.wide 0 P fn tmps (fun e w => ∃ v, e = .returned v /\ Q v w) (Ds.map mkD) .returning w
  | _, w, _, .nil, h, hq => by
    show LeavesIn Fence.wide 0 P fn tmps _ [] .returning w
    exact ⟨v, h tmps ht, v, rfl, hq⟩
  | _, _, _, .cons hD k, h, hq => ⟨by simp, .inl ⟨_, _, rfl, run_takeDeferred hD, leavesOf ht k h hq⟩⟩
theorem ret_of_WD {P : Program} {f : FuncId} {fn : Func} {c : Code} {n : Nat} {args : Array Value} {w : World} {R : Value -> World -> Prop}
    (hf : P.funcs[f]? = some fn) (hb : fn.body = some c) (hn : fn.ntmps = n) (hle' : Nat.ble args.size n = true)
    (h : WD P n [] c (bodyD P fn R) (argE args) w) : Ret P f args w R := by
  have hle := Nat.le_of_ble_eq_true hle'
  subst hn
  refine callsIn_wide.1 (callsIn_of_wp_marks (F := Fence.wide) (n := 0) hf hb trivial (wpIn_mono (h _ ⟨rfl, ?_, fun k => ?_⟩) ?_))
  · simp; omega
  · simp only [argE, Array.getD_eq_getD_getElem?, Array.getElem?_append]
    by_cases hk : k < args.size
    · simp [hk]
    · rw [if_neg hk]
      simp only [Array.getElem?_replicate]
      have : args[k]? = none := by simp; omega
      rw [this]
      split <;> rfl
  · rintro e a' w' ⟨Ds, s, hs, h'⟩
    cases e with
    | normal =>
      obtain ⟨w1, v, h1, h2, h3⟩ := h'
      show LeavesInM _ _ _ _ _ _ a'.defers _ _
      rw [hs.df]
      exact leavesOf hs.get h1 h2 h3
    | ret =>
      obtain ⟨w1, v, h1, h2, h3⟩ := h'
      show LeavesInM _ _ _ _ _ _ a'.defers _ _
      rw [hs.df]
      exact leavesOf hs.get h1 h2 h3
    | _ => exact h'.elim

/-! ### The function that an iterator is handed -/
def YieldC {α T : Type} (P : Program) (R : List Chunk) (AR : Cells -> List Value -> α -> Prop) (Y : T -> List Chunk -> Prop) (yv : Value) (ym : T -> α -> M (Bool × T)) : Prop :=
  ∃ l, yv = .func (.yield l) #[] #[] /\ ∀ (w : World) (L Ls : List Chunk) (t : T) (C : Cells) (vs : List Value) (x : α) (b : Bool) (t' : T), Sep w (cAll Ls :: (L ++ R)) -> Y t Ls -> Reads (L ++ R) C -> AR C vs x -> (ym t x).Ends (b, t') →
    ∃ f tmps assign body, (Instr.yield l vs.toArray).run P w = .ok (.round l f tmps assign body) w /\ RoundIn Fence.wide 0 P l f tmps assign body w fun e w' => e = .returned (B b) /\ ∃ Ls', Y t' Ls' /\ St w w' [cAll Ls'] (L ++ R)
theorem YieldC.app {α T : Type} {P : Program} {R : List Chunk} {AR : Cells -> List Value -> α -> Prop} {Y : T -> List Chunk -> Prop} {yv : Value} {ym : T -> α -> M (Bool × T)} (h : YieldC P R AR Y yv ym) (L : List Chunk) : YieldC P (L ++ R) AR Y yv ym := by
  obtain ⟨l, h1, h2⟩ := h
  refine ⟨l, h1, fun w L' Ls t C vs x b t' => ?_⟩
  rw [← List.append_assoc]
  exact h2 w (L' ++ L) Ls t C vs x b t'
section
variable {α T : Type} {P : Program} {all rest : List Oper} {Q : Post} {σ : Env} {w0 w : World} {L R : List Chunk} {d : Nat} {ty : TypeId} {pos : String} {af : Array Edge}
theorem y_exec {l : Nat} {dst : Option Nat} {x : Operand} {ops : Array Operand} {ts : Array TypeId} {g : Option (Nat × Bool)} {vs : List Value} {nx : Next} (hx : ev σ x = .func (.yield l) #[] #[]) (ha : ops.toList.map (ev σ) = vs)
    (h : (Instr.yield l vs.toArray).run P w = .ok nx w) : (execOp (ev σ) ⟨dst, .call ⟨.value x, ops, ts⟩, ty, pos, af, g⟩).run P w = .ok nx w := by
  subst ha
  simp [execOp, resolve, hx, Deferred.ofValue, invoke, amap]
  exact h
theorem t_yield {AR : Cells -> List Value -> α -> Prop} {Y : T -> List Chunk -> Prop} {x : Operand} {ops : Array Operand} {ts : Array TypeId} {yv : Value} {ym : T -> α -> M (Bool × T)} {C : Cells} {b : Bool} {t t' : T} {Ls : List Chunk} (H : St w0 w (cAll Ls :: L) R) (hf : YieldC P R AR Y yv ym)
    (hY : Y t Ls) (hx : ev σ x = yv) (vs : List Value) (ha : ops.toList.map (ev σ) = vs) (a : α) (hC : Reads (L ++ R) C) (hA : AR C vs a) (hp : (ym t a).Ends (b, t'))
    (k : ∀ Ls' w', Y t' Ls' -> St w0 w' (cAll Ls' :: L) R -> SL P all Q rest (upd σ d (B b)) w') : SL P all Q (⟨some d, .call ⟨.value x, ops, ts⟩, ty, pos, af, none⟩ :: rest) σ w := by
  obtain ⟨l, rfl, h⟩ := hf
  obtain ⟨f, tmps, asg, body, h1, h2⟩ := h w L Ls t C vs a b t' H.sep hY hC hA hp
  simp only [SL, opW, y_exec hx ha h1]
  refine h2.mono fun e w' ⟨he, Ls', hY', H'⟩ => ⟨_, he, k Ls' w' hY' ⟨H.kp.trans H'.kp, H'.sep⟩⟩
end
/-- What the function is, of what a round reckons. -/
def M.yl {S X α : Type} (bd : S -> α -> M (S ⊕ X)) : S ⊕ X -> α -> M (Bool × (S ⊕ X))
  | .inl s, a => M.bind (bd s a) fun r => match r with
    | .inl s' => M.pure (true, .inl s')
    | .inr x => M.pure (false, .inr x)
  | .inr _, _ => M.fail
end Go.Nm
namespace Go.Nm
open Go
theorem Ext.allocObj (w : World) (o : Obj) (ho : ∀ c e fr, o ≠ .cells c e fr) : Ext w (w.alloc o) := by
  refine ⟨rfl, rfl, by rw [World.size_alloc]; omega, fun b hb => ?_, fun a => ?_⟩
  · show (w.heap.push o)[b]? = _
    rw [Array.getElem?_push]
    rw [if_neg (by omega)]
  · unfold World.frozen?
    show (match (w.heap.push o)[a.block]? with | some (.cells _ _ (lo, hi)) => _ | _ => _) = _
    rw [Array.getElem?_push]
    by_cases e : a.block = w.heap.size
    · rw [if_pos e, e]
      have : w.heap[w.heap.size]? = none := by simp
      rw [this]
      cases o with
      | cells c e fr => exact absurd rfl (ho c e fr)
      | _ => rfl
    · rw [if_neg e]
      rfl
/-- What the record of the loop bears. -/
structure RecOf (r : Loop) (n : Nat) (σ : Env) (ps : Array Tmp) (assign body : Code) : Prop where
  st : r.state = .ready
  pd : r.pending = none
  sz : r.tmps.size = n
  get : ∀ k, r.tmps.getD k undef = σ k
  ps : r.params = ps
  asg : r.assign = assign
  body : r.body = body
section
variable {P : Program} {n : Nat} {σ : Env} {w0 w : World} {L R T : List Chunk} {Ds : List Nat}
theorem WD.range {Q : PostD} {g : Operand} {ps : Array Tmp} {assign body : Code} {f : FuncId} (cap : List Value) (H : St w0 w (cMk Ds :: L) R) (hg : ev σ g = .func (.func f) #[] cap.toArray) (hcf : CF P f)
    (k : ∀ (l D : Nat) (r : Loop) (w1 : World), RecOf r n σ ps assign body -> St w0 w1 (cObj l (.loop r) :: cMk (D :: Ds) :: L) R →
      Ret P f (.func (.yield l) #[] #[] :: cap).toArray w1 fun _ w2 => ∃ (r' : Loop) (L' : List Chunk), St w0 w2 (cObj l (.loop r') :: cMk (D :: Ds) :: L') R /\ r'.state ≠ .busy ∧
        ∀ w3, St w0 w3 (cMk (D :: Ds) :: L') R -> match r'.pending with
          | none => Q .normal (D :: Ds) σ w3
          | some c => WD P n (D :: Ds) c Q σ w3) :
    WD P n Ds (.rangeFunc g ps assign body) Q σ w := by
  intro a ha
  refine wpIn_rangeFunc fun fn _ => ?_
  have h1 := (H.allocObj (.deferred (some [])) (Ext.allocObj _ _ (by simp))).mkCons
  have h2 := h1.allocObj (.loop { state := .ready, pending := none, fn, tmps := a.tmps, params := ps, assign, body, defers := w.heap.size }) (Ext.allocObj _ _ (by simp))
  rw [World.size_alloc] at h2
  have hk := k (w.heap.size + 1) w.heap.size _ _ ⟨rfl, rfl, ha.sz, ha.get, rfl, rfl, rfl⟩ h2
  have hent := run_enterLoop_outer (P := P) (w := w) fn a.tmps ps assign body
  generalize (w.alloc (.deferred (some []))).alloc (.loop { state := .ready, pending := none, fn, tmps := a.tmps, params := ps, assign, body, defers := w.heap.size }) = W1 at hk hent
  refine ⟨w.heap.size + 1, [mkD w.heap.size], W1, { target := .fn (.func f) cap.toArray, args := #[.func (.yield (w.heap.size + 1)) #[] #[]] }, W1, f, (.func (.yield (w.heap.size + 1)) #[] #[] :: cap).toArray, W1, hent, ?_, fun _ _ => trivial, ?_, fun hc => by simp [FR, Fence.wide] at hc, ?_⟩
  · rw [ha.eval]
    have he : ev σ (.const (.func (.yield (w.heap.size + 1)) #[] #[])) = .func (.yield (w.heap.size + 1)) #[] #[] := rfl
    simp [resolve, rangeCall, hg, Deferred.ofValue, he]
  · simp [invoke, run_callFunc hcf]
  · refine CallsIn.mono (callsFR hk) ?_
    · rintro e w2 ⟨v, rfl, r', L', H', hb, hq⟩
      have hl := H'.get (k := 0) rfl
      refine ⟨_, _, run_endLoop hl hb, ?_⟩
      have hq := hq _ (H'.putObj (o' := .loop { r' with state := .exhausted }) (by simp) (by simp)).tail
      have hfr : Fr ((w.heap.size :: Ds).map mkD) n σ { a with defers := [mkD w.heap.size] ++ a.defers } := ⟨by show [mkD w.heap.size] ++ a.defers = _; rw [ha.df]; rfl, ha.sz, ha.get⟩
      cases hp : r'.pending with
      | none => rw [hp] at hq; exact ⟨_, _, hfr, hq⟩
      | some c => rw [hp] at hq; exact hq _ hfr
def setP (σ : Env) (ps : List Tmp) (vs : List Value) : Env := (ps.zip vs).foldl (fun σ x => upd σ x.1 x.2) σ
theorem setP_get {n : Nat} : ∀ (ps : List (Nat × Value)) {σ : Env} {tmps : Array Value}, tmps.size = n -> (∀ k, tmps.getD k undef = σ k) -> (∀ p ∈ ps, p.1 < n) →
    (ps.foldl (fun (tmps : Array Value) x => tmps.setIfInBounds x.1 x.2) tmps).size = n /\ ∀ k, (ps.foldl (fun (tmps : Array Value) x => tmps.setIfInBounds x.1 x.2) tmps).getD k undef = ps.foldl (fun σ x => upd σ x.1 x.2) σ k
  | [], _, _, hs, hg, _ => ⟨hs, hg⟩
  | (p, v) :: ps, σ, tmps, hs, hg, hp => by
    have hlt := hp (p, v) (by simp)
    refine setP_get ps (σ := upd σ p v) (tmps := tmps.setIfInBounds p v) (by simpa using hs) (fun k => ?_) (fun q hq => hp q (by simp [hq]))
    have := Fr.put (ds := []) (n := n) (σ := σ) (a := { tmps := tmps, defers := [] }) ⟨rfl, hs, hg⟩ hlt v
    exact this.get k
/-- How a round is left, as code. -/
def jumpOf : Exit -> Option Code
  | .ret => some .ret
  | .exit id => some (.exit id)
  | _ => none
variable {S X α : Type}
def rdQ (Ys : S -> List Chunk -> Prop) (Yx : X -> List Chunk -> Prop) (J : X -> Code) (w : World) (T R : List Chunk) (r : S ⊕ X) : Post
  | .normal, _, w' => ∃ s Ls, r = .inl s /\ Ys s Ls /\ St w w' (Ls ++ T) R
  | e, _, w' => ∃ x Ls, r = .inr x /\ Yx x Ls /\ St w w' (Ls ++ T) R /\ jumpOf e = some (J x)
def yJ (l : Nat) (r0 : Loop) (Ys : S -> List Chunk -> Prop) (Yx : X -> List Chunk -> Prop) (J : X -> Code) : S ⊕ X -> List Chunk -> Prop
  | .inl s, Ls => ∃ Ls', Ls = cObj l (.loop r0) :: Ls' /\ Ys s Ls'
  | .inr x, Ls => ∃ Ls', Ls = cObj l (.loop { r0 with state := .done, pending := some (J x) }) :: Ls' /\ Yx x Ls'
/-- These parts lie among those. -/
def Sup (R' R : List Chunk) : Prop := ∃ L, R' = L ++ R
theorem Reads.sub {R R' : List Chunk} {C : Cells} (h : Reads R C) (s : Sup R' R) : Reads R' C := by
  obtain ⟨L, rfl⟩ := s; exact h.app L
theorem Has.sub {R R' : List Chunk} {c : Chunk} (h : Has R c) (s : Sup R' R) : Has R' c := by
  obtain ⟨L, rfl⟩ := s; exact h.app L
theorem FnM.sub {α : Type} [Elt α] {P : Program} {R R' : List Chunk} {vf : Value} {p : α -> M Bool} (h : FnM P R vf p) (s : Sup R' R) : FnM P R' vf p := by
  obtain ⟨L, rfl⟩ := s; exact h.app L
theorem YieldC.sub {α T : Type} {P : Program} {R R' : List Chunk} {AR : Cells -> List Value -> α -> Prop} {Y : T -> List Chunk -> Prop} {yv : Value} {ym : T -> α -> M (Bool × T)} (h : YieldC P R AR Y yv ym) (s : Sup R' R) : YieldC P R' AR Y yv ym := by
  obtain ⟨L, rfl⟩ := s; exact h.app L
theorem permA {c : Chunk} {A L T R : List Chunk} : ((A ++ T) ++ (c :: L ++ R)).Perm ((c :: A) ++ (L ++ (T ++ R))) := by
  have h1 : ((A ++ T) ++ (c :: L ++ R)).Perm (c :: ((A ++ T) ++ (L ++ R))) := by
    rw [List.cons_append]
    exact List.perm_middle
  refine h1.trans ?_
  show List.Perm _ (c :: (A ++ (L ++ (T ++ R))))
  refine List.Perm.cons c ?_
  rw [List.append_assoc]
  refine List.Perm.append_left A ?_
  rw [← List.append_assoc, ← List.append_assoc]
  exact List.Perm.append_right R List.perm_append_comm
theorem exAll {L : List Chunk} (h : L.all (·.ex) = true) : ∀ c ∈ L, c.ex = true := fun c hc => List.all_eq_true.1 h c hc
theorem RecOf.nb {r : Loop} {ps : Array Tmp} {assign body : Code} (h : RecOf r n σ ps assign body) : r.state ≠ .busy := by rw [h.st]; simp
theorem St.bundleB {A : List Chunk} (hx : A.all (·.ex) = true) (H : St w0 w (A ++ T) R) : St w0 w (cAll A :: T) R := H.bundle (exAll hx)
/-- One round. -/
theorem YieldC.mk {l : Nat} {r0 : Loop} {ps : Array Tmp} {assign body : Code} (hr : RecOf r0 n σ ps assign body) {AR : Cells -> List Value -> α -> Prop} (Ys : S -> List Chunk -> Prop) (Yx : X -> List Chunk -> Prop) (J : X -> Code) (bd : S -> α -> M (S ⊕ X))
    (hexS : ∀ s Ls, Ys s Ls -> Ls.all (·.ex) = true) (hexX : ∀ x Ls, Yx x Ls -> Ls.all (·.ex) = true) (hps : (ps.toList.all fun p => Nat.blt p n) = true) (hAR : ∀ C vs x, AR C vs x -> vs.length = ps.size)
    (hab : ∀ C vs x w, AR C vs x -> WR (some l) P n assign (fun e σ1 w1 => e = .normal /\ w1 = w ∧
      ∀ (w : World) (R' : List Chunk), Sup R' R -> ∀ (Ls : List Chunk) (s : S) (r : S ⊕ X), Ys s Ls -> (bd s x).Ends r -> St w w (Ls ++ T) R' -> WR (some l) P n body (rdQ Ys Yx J w T R' r) σ1 w) (setP σ ps.toList vs) w) :
    YieldC P (T ++ R) AR (yJ l r0 Ys Yx J) (.func (.yield l) #[] #[]) (M.yl bd) := by
  refine ⟨l, rfl, fun w L Ls t C vs x b t' hS hY _ hA hp => ?_⟩
  cases t with
  | inr x => exact (M.e_fail hp).elim
  | inl s =>
    obtain ⟨Ls', rfl, hYs⟩ := hY
    have hU := hS.unbundle
    have hl : w.heap[l]? = some (.loop r0) := hU.get (c := cObj l (.loop r0)) (by simp)
    obtain ⟨r, hr1, hp⟩ := M.e_bind hp
    have hlen := hAR C vs x hA
    refine ⟨_, _, _, _, run_yield hl (by rw [hr.ps]; simpa using hlen), roundIn_of_wpIn trivial ?_⟩
    have hps' : ∀ p ∈ (ps.toList.zip vs), p.1 < n := by
      rintro ⟨p, v⟩ hp
      have := List.all_eq_true.1 hps p (List.of_mem_zip hp).1
      exact of_eq_true (Nat.blt_eq ▸ eq_true this)
    have hset := setP_get (ps.toList.zip vs) hr.sz hr.get hps'
    have hzip : ((r0.params.zip vs.toArray).foldl (fun (tmps : Array Value) (x : Tmp × Value) => match x with | (t, a) => tmps.setIfInBounds t a) r0.tmps) = (ps.toList.zip vs).foldl (fun (tmps : Array Value) x => tmps.setIfInBounds x.1 x.2) r0.tmps := by
      rw [hr.ps, ← Array.foldl_toList, Array.toList_zip]
    have h1 := hab C vs x w hA [] { tmps := (r0.params.zip vs.toArray).foldl (fun (tmps : Array Value) (x : Tmp × Value) => match x with | (t, a) => tmps.setIfInBounds t a) r0.tmps, defers := [] } ⟨rfl, by rw [hzip]; exact hset.1, fun k => by rw [hzip]; exact hset.2 k⟩
    rw [hr.asg, hr.body]
    refine wpIn_mono (F := FR (some l)) h1 ?_
    rintro e a1 w1 ⟨σ1, hs1, rfl, rfl, hb⟩
    have hperm : Sep w1 (cObj l (.loop r0) :: (Ls' ++ (L ++ (T ++ R)))) := hU
    have H0 : St w1 w1 (cObj l (.loop r0) :: (Ls' ++ (L ++ (T ++ R)))) [] := ⟨Keep.refl _, by rw [List.append_nil]; exact hperm⟩
    have H1 := H0.putObj (o' := .loop { r0 with state := .busy }) (by simp) (by simp)
    refine ⟨_, run_beginRound hl hr.st, ?_⟩
    have hS2 := H1.sep
    rw [List.append_nil] at hS2
    have H2 : St (w1.putObj l (.loop { r0 with state := .busy })) (w1.putObj l (.loop { r0 with state := .busy })) (Ls' ++ T) (cObj l (.loop { r0 with state := .busy }) :: L ++ R) := ⟨Keep.refl _, hS2.perm permA⟩
    have h3 := hb _ (cObj l (.loop { r0 with state := .busy }) :: L ++ R) ⟨_, rfl⟩ Ls' s r hYs hr1 H2 [] a1 hs1
    refine wpIn_mono h3 ?_
    rintro e a2 w3 ⟨σ2, hs2, hq⟩
    have fin : ∀ (jump : Option Code) (Ls'' : List Chunk) (t'' : S ⊕ X) (r1 : Loop), (∀ c ∈ Ls'', c.ex = true) -> St (w1.putObj l (.loop { r0 with state := .busy })) w3 (Ls'' ++ T) (cObj l (.loop { r0 with state := .busy }) :: L ++ R) →
        r1 = { r0 with state := if jump.isNone then .ready else .done, pending := jump } -> yJ l r0 Ys Yx J t' (cObj l (.loop r1) :: Ls'') -> b = jump.isNone →
        ∃ v w', (Instr.endRound l jump).run P w3 = .ok v w' /\ (Ending.returned v = .returned (B b) /\ ∃ Ls', yJ l r0 Ys Yx J t' Ls' /\ St w1 w' [cAll Ls'] (L ++ (T ++ R))) := by
      rintro jump Ls'' t'' r1 hx H' rfl hy rfl
      have hS3 : Sep w3 (cObj l (.loop { r0 with state := .busy }) :: (Ls'' ++ (L ++ (T ++ R)))) := H'.sep.perm permA.symm
      have H4 : St w3 w3 (cObj l (.loop { r0 with state := .busy }) :: (Ls'' ++ (L ++ (T ++ R)))) [] := ⟨Keep.refl _, by rw [List.append_nil]; exact hS3⟩
      have hl3 := H4.get (k := 0) rfl
      have H5 := H4.putObj (o' := .loop { r0 with state := if jump.isNone then .ready else .done, pending := jump }) (by simp) (by simp)
      refine ⟨_, _, run_endRound jump hl3, rfl, _, hy, (H1.kp.trans H'.kp).trans H5.kp, ?_⟩
      have h5 := H5.sep
      rw [List.append_nil] at h5
      refine Sep.bundle (A := cObj l (.loop { r0 with state := if jump.isNone then .ready else .done, pending := jump }) :: Ls'') (fun c hc => ?_) h5
      rcases List.mem_cons.1 hc with rfl | hc
      · rfl
      · exact hx c hc
    have hready : ({ r0 with state := .ready, pending := none } : Loop) = r0 := by rw [← hr.st, ← hr.pd]
    have two : ∀ (x : X) (_ : List Chunk), r = .inr x -> t' = .inr x /\ b = false := by
      rintro x _ rfl
      have := M.e_pure hp
      cases this
      exact ⟨rfl, rfl⟩
    cases e with
    | normal =>
      obtain ⟨s', Ls'', rfl, hy, H'⟩ := hq
      have := M.e_pure hp
      cases this
      exact fin none Ls'' (.inl s') r0 (exAll (hexS _ _ hy)) H' hready.symm ⟨Ls'', rfl, hy⟩ rfl
    | ret =>
      obtain ⟨x, Ls'', hr', hy, H', hj⟩ := hq
      obtain ⟨rfl, rfl⟩ := two x Ls'' hr'
      refine fin (some .ret) Ls'' (.inr x) _ (exAll (hexX _ _ hy)) H' rfl ?_ rfl
      refine ⟨Ls'', ?_, hy⟩
      rw [show J x = .ret from (Option.some.inj hj).symm]
      rfl
    | exit id =>
      obtain ⟨x, Ls'', hr', hy, H', hj⟩ := hq
      obtain ⟨rfl, rfl⟩ := two x Ls'' hr'
      refine fin (some (.exit id)) Ls'' (.inr x) _ (exAll (hexX _ _ hy)) H' rfl ?_ rfl
      refine ⟨Ls'', ?_, hy⟩
      rw [show J x = .exit id from (Option.some.inj hj).symm]
      rfl
    | goto id => obtain ⟨x, Ls'', _, _, _, hj⟩ := hq; cases hj
    | panic c => obtain ⟨x, Ls'', _, _, _, hj⟩ := hq; cases hj
    | outgrown => obtain ⟨x, Ls'', _, _, _, hj⟩ := hq; cases hj
end
theorem M.le_yl {S X α : Type} {n : Nat} {bd bd' : S -> α -> M (S ⊕ X)} (h : ∀ s a, M.LeN n (bd s a) (bd' s a)) (t : S ⊕ X) (a : α) : M.LeN n (M.yl bd t a) (M.yl bd' t a) := by
  cases t with
  | inl s => exact M.le_bind (h s a) fun _ => M.le_same _ _
  | inr x => exact M.le_same _ _
/-- What an iterator hands over. -/
def arI : Cells -> List Value -> Int -> Prop := fun _ vs x => vs = [I x]
theorem arI_len {k : Nat} (hk : k = 1) : ∀ C vs x, arI C vs x -> vs.length = k := fun _ _ _ h => by rw [show _ = _ from h, hk]; rfl
section
variable {P : Program} {all rest : List Oper} {Q : Post} {σ : Env} {w0 w : World} {L R : List Chunk} {d : Nat} {ty : TypeId} {pos : String} {af : Array Edge}
/-- A slice literal of plain data, under a guard: it is read on only. -/
theorem t_gbs {α : Type} [Flat α] {t e by' : Nat} {z : Value} {parts : Array (Nat × Operand)} (T : SlT P t e (Elt.sz α) by' z) {j : Nat} {want : Bool} (c : Bool) (hy : (yieldedE all σ j == some want) = c) (vs : List Value) (l : List α) (H : St w0 w L R)
    (hp : c = true -> parts.toList.map (fun x => (x.1, ev σ x.2)) = (vs.zipIdx 0).map fun x => (x.2, x.1)) (hr : Reps (fun _ => none) vs l) {n : Nat} (hn : l.length = n) (h0 : Nat.blt 0 n = true) (hsm : Nat.ble (n * Elt.sz α) 16777216 = true)
    (k : ∀ u B w', St w0 w' (cRo B :: L) R -> (c = true -> Sl B.cells u l) -> SL P all Q rest (upd σ d (gd c u)) w') : SL P all Q (⟨some d, .buildSlice t n parts, ty, pos, af, some (j, want)⟩ :: rest) σ w := by
  refine g_split rfl c hy (fun e => ?_) (fun e => ?_)
  · refine t_bs (α := α) T vs l H (hp e) hr hn h0 hsm fun u w' H' => ?_
    obtain ⟨B, H2, hs⟩ := H'.freezeE (k := 0) rfl
    have := k u B w' H2 (fun _ => hs)
    rwa [gd_of e] at this
  · have := k undef ⟨w, fun _ => False⟩ w (H.push (c := cRo ⟨w, fun _ => False⟩) (Ext.refl w) ⟨Nat.le_refl _, fun _ h => h.elim⟩ (fun _ h => h.1.elim)) (fun h => by rw [e] at h; cases h)
    rwa [gd_no e] at this
end
end Go.Nm
namespace Go.Nm
open Go
section
variable {P : Program} {w : World} {σ : Env} {d : Nat} {ty : TypeId} {pos : String} {af : Array Edge} {g : Option (Nat × Bool)}
end
end Go.Nm
namespace Go.Nm
open Go
section
variable {P : Program} {w : World} {σ : Env} {d : Nat} {ty : TypeId} {pos : String} {af : Array Edge} {g : Option (Nat × Bool)}
end
section
variable {P : Program} {all rest : List Oper} {Q : Post} {σ : Env} {w0 w : World} {L L' R : List Chunk} {d : Nat} {ty : TypeId} {pos : String} {af : Array Edge} {g : Option (Nat × Bool)}
end
section
variable {r : Option Nat} {P : Program} {n : Nat} {Q : Post} {σ : Env} {w : World}
theorem W.seqJ {x y : Code} (J : Env -> World -> Prop) (h : WR r P n x (thenQ J Q) σ w) (k : ∀ σ' w', J σ' w' -> WR r P n y Q σ' w') : WR r P n (.seq x y) Q σ w := by
  refine W.seq fun ds a ha => wpIn_mono (h ds a ha) ?_
  rintro e a' w' ⟨s, hs, h'⟩
  cases e with
  | normal => exact ⟨s, hs, k _ _ h'⟩
  | _ => exact ⟨s, hs, h'⟩
end
end Go.Nm
namespace Go.Nm
open Go
section
variable {P : Program} {w : World} {σ : Env} {d : Nat} {ty : TypeId} {pos : String} {af : Array Edge} {g : Option (Nat × Bool)}
theorem x_pand0 {c x y : Operand} {b : Bool} (hc : ev σ c = .bool b) (hx : b = true -> ev σ x = .bool false) (hy : ev σ y = .bool false) :
    (execOp (ev σ) ⟨some d, .pick c x y, ty, pos, af, g⟩).run P w = .ok (.value (.bool false)) w := by
  have := x_pand (P := P) (w := w) (d := d) (ty := ty) (pos := pos) (af := af) (g := g) hc hx hy
  rwa [Bool.and_false] at this
end
end Go.Nm
namespace Go.Proofs.Ytndobgodeicloaa
open Go Go.Nm
theorem cf17 : CF Try.prog 17 := ⟨_, Try.func17, rfl, by decide +kernel⟩
theorem cf19 : CF Try.prog 19 := ⟨_, Try.func19, rfl, by decide +kernel⟩
theorem cf25 : CF Try.prog 25 := ⟨_, Try.func25, rfl, by decide +kernel⟩
theorem cf26 : CF Try.prog 26 := ⟨_, Try.func26, rfl, by decide +kernel⟩
theorem cf32 : CF Try.prog 32 := ⟨_, Try.func32, rfl, by decide +kernel⟩
theorem cf34 : CF Try.prog 34 := ⟨_, Try.func34, rfl, by decide +kernel⟩
theorem cf36 : CF Try.prog 36 := ⟨_, Try.func36, rfl, by decide +kernel⟩
theorem cf38 : CF Try.prog 38 := ⟨_, Try.func38, rfl, by decide +kernel⟩
theorem cf40 : CF Try.prog 40 := ⟨_, Try.func40, rfl, by decide +kernel⟩
theorem cf41 : CF Try.prog 41 := ⟨_, Try.func41, rfl, by decide +kernel⟩
theorem cf42 : CF Try.prog 42 := ⟨_, Try.func42, rfl, by decide +kernel⟩
theorem cf43 : CF Try.prog 43 := ⟨_, Try.func43, rfl, by decide +kernel⟩
theorem cf44 : CF Try.prog 44 := ⟨_, Try.func44, rfl, by decide +kernel⟩
theorem cf46 : CF Try.prog 46 := ⟨_, Try.func46, rfl, by decide +kernel⟩
theorem cf47 : CF Try.prog 47 := ⟨_, Try.func47, rfl, by decide +kernel⟩
theorem cf64 : CF Try.prog 64 := ⟨_, Try.func64, rfl, by decide +kernel⟩
theorem cf65 : CF Try.prog 65 := ⟨_, Try.func65, rfl, by decide +kernel⟩
theorem cf78 : CF Try.prog 78 := ⟨_, Try.func78, rfl, by decide +kernel⟩
theorem cf79 : CF Try.prog 79 := ⟨_, Try.func79, rfl, by decide +kernel⟩
theorem cf97 : CF Try.prog 97 := ⟨_, Try.func97, rfl, by decide +kernel⟩
theorem cf98 : CF Try.prog 98 := ⟨_, Try.func98, rfl, by decide +kernel⟩
theorem cf116 : CF Try.prog 116 := ⟨_, Try.func116, rfl, by decide +kernel⟩
theorem cf125 : CF Try.prog 125 := ⟨_, Try.func125, rfl, by decide +kernel⟩
theorem cf126 : CF Try.prog 126 := ⟨_, Try.func126, rfl, by decide +kernel⟩
theorem cf127 : CF Try.prog 127 := ⟨_, Try.func127, rfl, by decide +kernel⟩
theorem cf128 : CF Try.prog 128 := ⟨_, Try.func128, rfl, by decide +kernel⟩
theorem cf129 : CF Try.prog 129 := ⟨_, Try.func129, rfl, by decide +kernel⟩
theorem cf148 : CF Try.prog 148 := ⟨_, Try.func148, rfl, by decide +kernel⟩
theorem cf149 : CF Try.prog 149 := ⟨_, Try.func149, rfl, by decide +kernel⟩
theorem cf159 : CF Try.prog 159 := ⟨_, Try.func159, rfl, by decide +kernel⟩
theorem cf160 : CF Try.prog 160 := ⟨_, Try.func160, rfl, by decide +kernel⟩
theorem T62 : SlT Try.prog 62 5 1 1 (.int .u8 0) := ⟨Try.underlying62, by kernel_rfl, rfl, by decide⟩
theorem Sc5 : isSc (Try.prog.underlying 5) = true := by rw [Try.underlying5]; rfl
theorem Sc35 : isSc (Try.prog.underlying 35) = true := by rw [Try.underlying35]; rfl
theorem Sc62 : isSc (Try.prog.underlying 62) = true := by rw [Try.underlying62]; rfl
theorem Sc127 : isSc (Try.prog.underlying 127) = true := by rw [Try.underlying127]; rfl
theorem Sc174 : isSc (Try.prog.underlying 174) = true := by rw [Try.underlying174]; rfl
theorem Sc177 : isSc (Try.prog.underlying 177) = true := by rw [Try.underlying177]; rfl
theorem Sc178 : isSc (Try.prog.underlying 178) = true := by rw [Try.underlying178]; rfl
theorem Sc183 : isSc (Try.prog.underlying 183) = true := by rw [Try.underlying183]; rfl
theorem Sz35 : (Try.prog.info? 35).map (·.size) = some 1 := by kernel_rfl
theorem Sz62 : (Try.prog.info? 62).map (·.size) = some 1 := by kernel_rfl
theorem Sz75 : (Try.prog.info? 75).map (·.size) = some 1 := by kernel_rfl
theorem Sz127 : (Try.prog.info? 127).map (·.size) = some 1 := by kernel_rfl
theorem Sz174 : (Try.prog.info? 174).map (·.size) = some 1 := by kernel_rfl
theorem Sz177 : (Try.prog.info? 177).map (·.size) = some 1 := by kernel_rfl
theorem Sz178 : (Try.prog.info? 178).map (·.size) = some 1 := by kernel_rfl
theorem Sz183 : (Try.prog.info? 183).map (·.size) = some 1 := by kernel_rfl
theorem Fd158_0 : (Try.prog.underlying 158).bind (fun d => match d with | .struct fs => (fs[0]?).map (fun f => (f.offset, f.type)) | _ => none) = some (0, 62) := by rw [Try.underlying158]; rfl
theorem Fd158_1 : (Try.prog.underlying 158).bind (fun d => match d with | .struct fs => (fs[1]?).map (fun f => (f.offset, f.type)) | _ => none) = some (1, 3) := by rw [Try.underlying158]; rfl
theorem Fd158_2 : (Try.prog.underlying 158).bind (fun d => match d with | .struct fs => (fs[2]?).map (fun f => (f.offset, f.type)) | _ => none) = some (2, 3) := by rw [Try.underlying158]; rfl
theorem Fd180_0 : (Try.prog.underlying 180).bind (fun d => match d with | .struct fs => (fs[0]?).map (fun f => (f.offset, f.type)) | _ => none) = some (0, 127) := by rw [Try.underlying180]; rfl
theorem Fd180_1 : (Try.prog.underlying 180).bind (fun d => match d with | .struct fs => (fs[1]?).map (fun f => (f.offset, f.type)) | _ => none) = some (1, 34) := by rw [Try.underlying180]; rfl
theorem Fd180_2 : (Try.prog.underlying 180).bind (fun d => match d with | .struct fs => (fs[2]?).map (fun f => (f.offset, f.type)) | _ => none) = some (2, 3) := by rw [Try.underlying180]; rfl
theorem Fd180_3 : (Try.prog.underlying 180).bind (fun d => match d with | .struct fs => (fs[3]?).map (fun f => (f.offset, f.type)) | _ => none) = some (3, 177) := by rw [Try.underlying180]; rfl
theorem Fd180_4 : (Try.prog.underlying 180).bind (fun d => match d with | .struct fs => (fs[4]?).map (fun f => (f.offset, f.type)) | _ => none) = some (4, 178) := by rw [Try.underlying180]; rfl
theorem Al4 : (Try.prog.info? 4).map (·.zero) = some (some (B false)) := by kernel_rfl
theorem Al35 : (Try.prog.info? 35).map (·.zero) = some (some (I 0)) := by kernel_rfl
theorem Al75 : (Try.prog.info? 75).map (·.zero) = some (some (.nilFunc)) := by kernel_rfl
theorem Al127 : (Try.prog.info? 127).map (·.zero) = some (some (.pointer none)) := by kernel_rfl
theorem Al158 : (Try.prog.info? 158).map (·.zero) = some (some (.agg #[.slice none 0 0, I 0, I 0])) := by kernel_rfl
theorem Al174 : (Try.prog.info? 174).map (·.zero) = some (some (.pointer none)) := by kernel_rfl
theorem Al180 : (Try.prog.info? 180).map (·.zero) = some (some (.agg #[.pointer none, .slice none 0 0, I 0, .map none, .map none])) := by kernel_rfl
theorem Al182 : (Try.prog.info? 182).map (·.zero) = some (some (.agg #[I 0, I 0])) := by kernel_rfl
theorem Al183 : (Try.prog.info? 183).map (·.zero) = some (some (.nilFunc)) := by kernel_rfl
theorem Bd30 {fs : Array Field} (h : Try.prog.underlying 30 = some (.struct fs)) : fs.toList.mapM (fun f => (Try.prog.info? f.type).map fun i => (f.offset, i.size)) = some [(0, 1), (1, 1), (2, 1)] := by rw [Try.underlying30] at h; simp only [Option.some.injEq, TypeDesc.struct.injEq] at h; subst h; kernel_rfl
theorem Bd33 {fs : Array Field} (h : Try.prog.underlying 33 = some (.struct fs)) : fs.toList.mapM (fun f => (Try.prog.info? f.type).map fun i => (f.offset, i.size)) = some [(0, 1), (1, 1)] := by rw [Try.underlying33] at h; simp only [Option.some.injEq, TypeDesc.struct.injEq] at h; subst h; kernel_rfl
theorem Bd60 {fs : Array Field} (h : Try.prog.underlying 60 = some (.struct fs)) : fs.toList.mapM (fun f => (Try.prog.info? f.type).map fun i => (f.offset, i.size)) = some [(0, 1), (1, 1), (2, 1)] := by rw [Try.underlying60] at h; simp only [Option.some.injEq, TypeDesc.struct.injEq] at h; subst h; kernel_rfl
theorem Bd158 {fs : Array Field} (h : Try.prog.underlying 158 = some (.struct fs)) : fs.toList.mapM (fun f => (Try.prog.info? f.type).map fun i => (f.offset, i.size)) = some [(0, 1), (1, 1), (2, 1)] := by rw [Try.underlying158] at h; simp only [Option.some.injEq, TypeDesc.struct.injEq] at h; subst h; kernel_rfl
theorem Bd180 {fs : Array Field} (h : Try.prog.underlying 180 = some (.struct fs)) : fs.toList.mapM (fun f => (Try.prog.info? f.type).map fun i => (f.offset, i.size)) = some [(0, 1), (1, 1), (2, 1), (3, 1), (4, 1)] := by rw [Try.underlying180] at h; simp only [Option.some.injEq, TypeDesc.struct.injEq] at h; subst h; kernel_rfl
theorem Bd182 {fs : Array Field} (h : Try.prog.underlying 182 = some (.struct fs)) : fs.toList.mapM (fun f => (Try.prog.info? f.type).map fun i => (f.offset, i.size)) = some [(0, 1), (1, 1)] := by rw [Try.underlying182] at h; simp only [Option.some.injEq, TypeDesc.struct.injEq] at h; subst h; kernel_rfl
end Go.Proofs.Ytndobgodeicloaa
section
set_option maxRecDepth 100000
set_option maxHeartbeats 16000000
namespace Go.Proofs.Ytndobgodeicloaa
open Go Go.Nm
def zad : M (List Work) :=
  M.pure ([(⟨([]), (1 : Int), (5 : Int)⟩ : Work), (⟨([]), (1 : Int), (6 : Int)⟩ : Work), (⟨([(0 : Int), (1 : Int)]), (1 : Int), (10 : Int)⟩ : Work), (⟨([(1 : Int)]), (1 : Int), (30 : Int)⟩ : Work), (⟨([(2 : Int), (3 : Int)]), (1 : Int), (20 : Int)⟩ : Work), (⟨([(4 : Int)]), (1 : Int), (1 : Int)⟩ : Work)])
theorem zae {R : List Chunk}    {r : (List Work)} (hM : (zad).Ends r) (w : World) (H : St w w [] R) : Ret Try.prog 79 #[] w fun v w' => ∃ (y0 : List Work) (u0 : Value) (rr1 : List (Raw 2)) (aD : Base), y0 = r /\ v = u0 /\ St w w' [cOwn (α := Raw 2) 60 u0 rr1, cRo aD] R /\ RepR (α := Work) aD.cells rr1 y0 := by
 refine ret_of_W Try.func79 rfl rfl rfl ?_
 refine sQ rfl <| sA (.slice none 0 0) rfl <| s_nil <| sQ rfl <| s_val (x_bld (ps := [(1, I 1), (2, I 5)]) (zs := [.slice none 0 0, I 0, I 0]) (L' := [.slice none 0 0, I 1, I 5]) rfl Try.underlying60 Al60 rfl (Bd60 Try.underlying60) (.cons (cs := [I 1]) rfl rfl rfl rfl rfl <| .cons (cs := [I 5]) rfl rfl rfl rfl rfl <| .nil)) <| s_val (x_bld (ps := [(1, I 1), (2, I 6)]) (zs := [.slice none 0 0, I 0, I 0]) (L' := [.slice none 0 0, I 1, I 6]) rfl Try.underlying60 Al60 rfl (Bd60 Try.underlying60) (.cons (cs := [I 1]) rfl rfl rfl rfl rfl <| .cons (cs := [I 6]) rfl rfl rfl rfl rfl <| .nil)) ?_
 refine t_bs (α := Int) T34 [I 0, I 1] [(0 : Int), (1 : Int)] H rfl (.cons rfl (Flat.rep_enc _ (0 : Int)) <| .cons rfl (Flat.rep_enc _ (1 : Int)) <| .nil) rfl rfl rfl ?_
 intro ah aZ H
 refine s_val (x_bld (ps := [(0, ah), (1, I 1), (2, I 10)]) (zs := [.slice none 0 0, I 0, I 0]) (L' := [ah, I 1, I 10]) rfl Try.underlying60 Al60 rfl (Bd60 Try.underlying60) (.cons (cs := [ah]) (Sl.cells (ownSl (H.get (k := 0) rfl))) rfl rfl rfl rfl <| .cons (cs := [I 1]) rfl rfl rfl rfl rfl <| .cons (cs := [I 10]) rfl rfl rfl rfl rfl <| .nil)) ?_
 refine t_bs (α := Int) T34 [I 1] [(1 : Int)] H rfl (.cons rfl (Flat.rep_enc _ (1 : Int)) <| .nil) rfl rfl rfl ?_
 intro ag a6 H
 refine s_val (x_bld (ps := [(0, ag), (1, I 1), (2, I 30)]) (zs := [.slice none 0 0, I 0, I 0]) (L' := [ag, I 1, I 30]) rfl Try.underlying60 Al60 rfl (Bd60 Try.underlying60) (.cons (cs := [ag]) (Sl.cells (ownSl (H.get (k := 0) rfl))) rfl rfl rfl rfl <| .cons (cs := [I 1]) rfl rfl rfl rfl rfl <| .cons (cs := [I 30]) rfl rfl rfl rfl rfl <| .nil)) ?_
 refine t_bs (α := Int) T34 [I 2, I 3] [(2 : Int), (3 : Int)] H rfl (.cons rfl (Flat.rep_enc _ (2 : Int)) <| .cons rfl (Flat.rep_enc _ (3 : Int)) <| .nil) rfl rfl rfl ?_
 intro ac a7 H
 refine s_val (x_bld (ps := [(0, ac), (1, I 1), (2, I 20)]) (zs := [.slice none 0 0, I 0, I 0]) (L' := [ac, I 1, I 20]) rfl Try.underlying60 Al60 rfl (Bd60 Try.underlying60) (.cons (cs := [ac]) (Sl.cells (ownSl (H.get (k := 0) rfl))) rfl rfl rfl rfl <| .cons (cs := [I 1]) rfl rfl rfl rfl rfl <| .cons (cs := [I 20]) rfl rfl rfl rfl rfl <| .nil)) ?_
 refine t_bs (α := Int) T34 [I 4] [(4 : Int)] H rfl (.cons rfl (Flat.rep_enc _ (4 : Int)) <| .nil) rfl rfl rfl ?_
 intro ab au H
 refine s_val (x_bld (ps := [(0, ab), (1, I 1), (2, I 1)]) (zs := [.slice none 0 0, I 0, I 0]) (L' := [ab, I 1, I 1]) rfl Try.underlying60 Al60 rfl (Bd60 Try.underlying60) (.cons (cs := [ab]) (Sl.cells (ownSl (H.get (k := 0) rfl))) rfl rfl rfl rfl <| .cons (cs := [I 1]) rfl rfl rfl rfl rfl <| .cons (cs := [I 1]) rfl rfl rfl rfl rfl <| .nil)) ?_
 obtain ⟨aq, H⟩ := H.emptyE
 obtain ⟨ar, H, aN⟩ := H.freezeE (k := 4) rfl
 replace H : St w au [cRo aq, cOwn (α := Int) 3 ab ([(4 : Int)]), cOwn (α := Int) 3 ac ([(2 : Int), (3 : Int)]), cOwn (α := Int) 3 ag ([(1 : Int)]), cRo ar] R := H
 have aa := aN
 obtain ⟨av, H, a8, aO⟩ := H.joinE (i := 0) (j := 4) rfl rfl
 replace aa := aa.mono aO
 obtain ⟨aw, H, aP⟩ := H.freezeE (k := 4) rfl
 replace H : St w au [cRo av, cRo aq, cOwn (α := Int) 3 ab ([(4 : Int)]), cOwn (α := Int) 3 ac ([(2 : Int), (3 : Int)]), cRo aw, cRo ar] R := H
 have ae := aP
 obtain ⟨ay, H, aQ, aR⟩ := H.joinE (i := 0) (j := 4) rfl rfl
 replace aa := aa.mono aQ
 replace ae := ae.mono aR
 obtain ⟨az, H, aS⟩ := H.freezeE (k := 4) rfl
 replace H : St w au [cRo ay, cRo av, cRo aq, cOwn (α := Int) 3 ab ([(4 : Int)]), cRo az, cRo aw, cRo ar] R := H
 have ai := aS
 obtain ⟨aE, H, aF, aT⟩ := H.joinE (i := 0) (j := 4) rfl rfl
 replace aa := aa.mono aF
 replace ae := ae.mono aF
 replace ai := ai.mono aT
 obtain ⟨aG, H, aU⟩ := H.freezeE (k := 4) rfl
 replace H : St w au [cRo aE, cRo ay, cRo av, cRo aq, cRo aG, cRo az, cRo aw, cRo ar] R := H
 have ax := aU
 obtain ⟨aA, H, aB, aV⟩ := H.joinE (i := 0) (j := 4) rfl rfl
 replace aa := aa.mono aB
 replace ae := ae.mono aB
 replace ai := ai.mono aB
 replace ax := ax.mono aV
 obtain ⟨aj, aH⟩ : ∃ r : Raw 2, r.cs = [.slice none 0 0, I 1, I 5] := ⟨Raw.of [.slice none 0 0, I 1, I 5] rfl rfl, rfl⟩
 obtain ⟨ak, aI⟩ : ∃ r : Raw 2, r.cs = [.slice none 0 0, I 1, I 6] := ⟨Raw.of [.slice none 0 0, I 1, I 6] rfl rfl, rfl⟩
 obtain ⟨al, aJ⟩ : ∃ r : Raw 2, r.cs = [ah, I 1, I 10] := ⟨Raw.of [ah, I 1, I 10] rfl (by simp only [List.all_cons, List.all_nil, Bool.true_and, Bool.and_true, Sl.oc aa]; try rfl), rfl⟩
 obtain ⟨am, aK⟩ : ∃ r : Raw 2, r.cs = [ag, I 1, I 30] := ⟨Raw.of [ag, I 1, I 30] rfl (by simp only [List.all_cons, List.all_nil, Bool.true_and, Bool.and_true, Sl.oc ae]; try rfl), rfl⟩
 obtain ⟨ao, aL⟩ : ∃ r : Raw 2, r.cs = [ac, I 1, I 20] := ⟨Raw.of [ac, I 1, I 20] rfl (by simp only [List.all_cons, List.all_nil, Bool.true_and, Bool.and_true, Sl.oc ai]; try rfl), rfl⟩
 obtain ⟨ap, aM⟩ : ∃ r : Raw 2, r.cs = [ab, I 1, I 1] := ⟨Raw.of [ab, I 1, I 1] rfl (by simp only [List.all_cons, List.all_nil, Bool.true_and, Bool.and_true, Sl.oc ax]; try rfl), rfl⟩
 have aW : RepR (α := Work) aA.cells [aj, ak, al, am, ao, ap] [(⟨([]), (1 : Int), (5 : Int)⟩ : Work), (⟨([]), (1 : Int), (6 : Int)⟩ : Work), (⟨([(0 : Int), (1 : Int)]), (1 : Int), (10 : Int)⟩ : Work), (⟨([(1 : Int)]), (1 : Int), (30 : Int)⟩ : Work), (⟨([(2 : Int), (3 : Int)]), (1 : Int), (20 : Int)⟩ : Work), (⟨([(4 : Int)]), (1 : Int), (1 : Int)⟩ : Work)] := .cons (by rw [aH]; exact ⟨_, rfl, (Sl.nil _)⟩) <| .cons (by rw [aI]; exact ⟨_, rfl, (Sl.nil _)⟩) <| .cons (by rw [aJ]; exact ⟨_, rfl, aa⟩) <| .cons (by rw [aK]; exact ⟨_, rfl, ae⟩) <| .cons (by rw [aL]; exact ⟨_, rfl, ai⟩) <| .cons (by rw [aM]; exact ⟨_, rfl, ax⟩) <| .nil
 refine t_bs (α := Raw 2) T22 [.agg #[.slice none 0 0, I 1, I 5], .agg #[.slice none 0 0, I 1, I 6], .agg #[ah, I 1, I 10], .agg #[ag, I 1, I 30], .agg #[ac, I 1, I 20], .agg #[ab, I 1, I 1]] [aj, ak, al, am, ao, ap] H rfl (.cons (by rw [show (Flat.enc aj : List Value) = aj.cs from rfl, aH]; rfl) (Flat.rep_enc _ _) <| .cons (by rw [show (Flat.enc ak : List Value) = ak.cs from rfl, aI]; rfl) (Flat.rep_enc _ _) <| .cons (by rw [show (Flat.enc al : List Value) = al.cs from rfl, aJ]; rfl) (Flat.rep_enc _ _) <| .cons (by rw [show (Flat.enc am : List Value) = am.cs from rfl, aK]; rfl) (Flat.rep_enc _ _) <| .cons (by rw [show (Flat.enc ao : List Value) = ao.cs from rfl, aL]; rfl) (Flat.rep_enc _ _) <| .cons (by rw [show (Flat.enc ap : List Value) = ap.cs from rfl, aM]; rfl) (Flat.rep_enc _ _) <| .nil) rfl rfl rfl ?_
 intro aC aX H
 replace H : St w aX [cOwn (α := Raw 2) 60 aC ([aj, ak, al, am, ao, ap]), cRo aA, cRo aE, cRo ay, cRo av, cRo aq, cRo aG, cRo az, cRo aw, cRo ar] R := H
 refine sA aC rfl <| s_nil ?_
 refine W.ret ?_
 have aY := M.e_pure hM
 exact ⟨_, resE_tmp rfl, ⟨([(⟨([]), (1 : Int), (5 : Int)⟩ : Work), (⟨([]), (1 : Int), (6 : Int)⟩ : Work), (⟨([(0 : Int), (1 : Int)]), (1 : Int), (10 : Int)⟩ : Work), (⟨([(1 : Int)]), (1 : Int), (30 : Int)⟩ : Work), (⟨([(2 : Int), (3 : Int)]), (1 : Int), (20 : Int)⟩ : Work), (⟨([(4 : Int)]), (1 : Int), (1 : Int)⟩ : Work)]), aC, [aj, ak, al, am, ao, ap], aA, aY, rfl, (H.pick [0, 1] (by decide) rfl), aW⟩⟩

def zbk (aa : List Work) (one : Int) : M Int :=
  M.pure one
theorem zbD {R : List Chunk} {aa : Nat} {ae : Cells} {ag : Value} (ah : List Work) (one : Int) (aj : Reads R ae) (ak : Sl ae ag ah) (al : Has R (cBlk aa [ag] 187)) {r : Int} (hM : (zbk ah one).Ends r) (w : World) (H : St w w [] R) : Ret Try.prog 98 #[Pz aa, I one] w fun v w' => ∃ (y0 : Int) (nb0 : Nat) (nb1 : Nat), y0 = r /\ v = .func (.func 148) #[] #[Pz nb0, Pz nb1] /\ St w w' [cBlk nb0 [Pz aa] 127, cBlk nb1 [I y0] 3] R := by
 refine ret_of_W Try.func98 rfl rfl rfl ?_
 refine sQ rfl ?_
 refine t_box (v := Pz aa) (cs := [Pz aa]) H rfl rfl ?_
 intro ab am H
 refine t_box (v := I one) (cs := [I one]) H rfl rfl ?_
 intro ac ao H
 refine sA .nilFunc rfl <| s_nil <| sQ rfl <| s_val (x_mf (fs := []) (cs := [Pz ab, Pz ac]) rfl rfl) <| sA (.func (.func 148) #[] #[Pz ab, Pz ac]) rfl <| s_nil ?_
 refine W.ret ?_
 have ai := M.e_pure hM
 exact ⟨_, resE_tmp rfl, ⟨one, ab, ac, ai, rfl, (H.pick [1, 0] (by decide) rfl)⟩⟩

def za5 (aa : List Work) (work : Int) (other : Int) : M Bool :=
  M.grd (decide ((0 : Int) <= work) && decide (work < (aa.length : Int))) <|
  M.pure (((aa.getD (Int.toNat work) default).of).contains other)
theorem zbj {R : List Chunk} {aa : Nat} {ai : Cells} {ab : Value} (ac : List Work) (work : Int) (other : Int) (aj : Reads R ai) (ag : Sl ai ab ac) (al : Has R (cBlk aa [ab] 187)) {r : Bool} (hM : (za5 ac work other).Ends r) (w : World) (H : St w w [] R) : Ret Try.prog 149 #[Pz aa, I work, I other] w fun v w' => ∃ (y0 : Bool), y0 = r /\ v = B y0 /\ St w w' [] R := by
 refine ret_of_W Try.func149 rfl rfl rfl ?_
 refine sQ rfl <| sA (B false) rfl <| s_nil <| sQ rfl <| sM (Pz aa) rfl <| s_val (x_nc (a := ⟨aa, 0, none⟩) rfl) <| s_val (x_fa (v := Pz aa) rfl (fa_blk (o := 0) Fd187_0 Sz185)) <| s_val (x_fa (v := Pz aa) rfl (fa_blk (o := 0) Fd185_0 Sz22)) <| s_val (x_ld (v := ab) rfl (ldb_sc Sc22 (al.blk H) rfl)) <| sM (I work) rfl ?_
 obtain ⟨aq, hM⟩ := M.e_gd hM
 refine s_val (x_ix (v := vat ab 3 (Int.toNat work)) rfl rfl (Sl.ix (α := Work) T22.und T22.size ag (by omega) (by omega))) <| s_val (x_fa (v := fat (vat ab 3 (Int.toNat work)) 0) rfl (fa_pl Fd60_0 Sz34 (Sl.pl (i := work) ag (by omega) (by omega)))) ?_
 obtain ⟨ah, am, ae⟩ := Work_at0 ag (i := work) (by omega) (by omega)
 replace ae : Sl _ ah (ac.getD (Int.toNat work) default).of := ae
 have ar := ae.len_le
 refine s_val (x_ld (v := ah) rfl (ld_sc Sc34 (At.mono (am) (aj.at H)))) <| sM (I other) rfl ?_
 refine s_call cf45 [ah, I other] rfl (contains_int other _ (ae.mono (aj.at H))) ?_
 rintro _ ao ⟨rfl, ak⟩
 replace H : St w ao [] R := H.ext ak
 clear ak
 refine sA (B (((ac.getD (Int.toNat work) default).of).contains other)) rfl <| s_nil ?_
 refine W.ret ?_
 have ap := M.e_pure hM
 exact ⟨_, resE_tmp rfl, ⟨(((ac.getD (Int.toNat work) default).of).contains other), ap, rfl, H⟩⟩

def zaO {T_ : Type} (ab : T_ -> Int -> M (Bool × T_)) (aa : List Work) (ac : Int) : (Nat × T_) -> M ((Nat × T_) ⊕ (T_ ⊕ T_)) := fun (s, t2) =>
  bif decide ((s : Int) < (aa.length : Int)) then (
  M.bind (za5 aa (s : Int) ac) fun r2 =>
  bif r2 then (
  M.bind (ab t2 (s : Int)) fun (go6, t9) =>
  bif (r2 && (!go6)) then (
  M.pure (.inr (.inl t9)))
  else (
  M.pure (.inl (s + 1, t9))))
  else (
  M.pure (.inl (s + 1, t2))))
  else (
  M.pure (.inr (.inr t2)))
def zaC {T_ : Type} (aa : T_ -> Int -> M (Bool × T_)) (t_ : T_) (ab : List Work) (ac : Int) : M T_ :=
  M.bind (M.iter (zaO aa ab ac) (0, t_)) fun x_ => match x_ with
  | (.inl t6) => (
  M.pure t6)
  | (.inr t7) => (
  M.pure t7)
theorem zbt {R : List Chunk} {T_ : Type} {Y_ : T_ -> List Chunk -> Prop} {ag : Value} {aj : List Chunk} {ak : Nat} {aa : Nat} {aw : Cells} {al : Value} {am : Nat} (ao : T_ -> Int -> M (Bool × T_)) (t_ : T_) (ab : List Work) (ac : Int) (aH : YieldC Try.prog R arI Y_ ag ao) (aI : Y_ t_ aj) (aJ : Reads R aw) (ap : Sl aw al ab) (ax : Has R (cBlk aa [al] 187)) (ay : Has R (cBlk ak [Pz aa] 127)) (aK : Has R (cBlk am [I ac] 3)) {r : T_} (hM : (zaC ao t_ ab ac).Ends r) (w : World) (H : St w w [cAll aj] R) : Ret Try.prog 148 #[ag, Pz ak, Pz am] w fun v w' => ∃ (y0 : T_) (Ls0 : List Chunk), y0 = r /\ v = .tuple #[] /\ St w w' [cAll Ls0] R /\ Y_ y0 Ls0 := by
 refine ret_of_W Try.func148 rfl rfl rfl ?_
 refine sQ rfl <| s_val (x_ld (v := Pz aa) rfl (ldb_sc Sc127 (ay.blk H) rfl)) <| s_val (x_nc (a := ⟨aa, 0, none⟩) rfl) <| s_val (x_fa (v := Pz aa) rfl (fa_blk (o := 0) Fd187_0 Sz185)) <| s_val (x_fa (v := Pz aa) rfl (fa_blk (o := 0) Fd185_0 Sz22)) <| s_val (x_ld (v := al) rfl (ldb_sc Sc22 (ax.blk H) rfl)) ?_
 have aT := (ap).len_le
 refine s_val (x_lenS T22.und rfl ap) <| sM (I 0) rfl <| s_nil <| W.block ?_
 obtain ⟨aL, aq, az⟩ := M.e_bind hM
 obtain ⟨aU, aq⟩ := M.e_iter aq
 refine W.loop (fun m σ W => ∃ (s : Nat) (t2 : T_) (Ls_t2 : List Chunk) (ρ : Env), σ = upds ρ [(0, ag), (1, Pz ak), (2, Pz am), (10, I (ab.length : Int)), (11, I (s : Int))] /\ M.iterN (zaO ao ab ac) m (s, t2) = some aL /\ St w W [cAll Ls_t2] R /\ Y_ t2 Ls_t2) ?_ ?_
 ·exact ⟨_, 0, t_, aj, _, upds_of _ _ ⟨rfl, rfl, rfl, rfl, rfl, trivial⟩, aq, H, aI⟩
 rintro aV σ aW ⟨s, t2, Ls_t2, ρ, rfl, aA, H, hY_t2⟩
 obtain ⟨aB, aC, aX, hM, ai⟩ := M.e_iterN aA
 simp only [zaO] at hM
 clear aA
 refine sQ rfl <| sC _ _ (decide ((s : Int) < (ab.length : Int))) rfl rfl rfl <| s_nil <| W.seq ?_
 refine W.cond (decide ((s : Int) < (ab.length : Int))) rfl (fun ah => ?_) (fun ah => ?_)
 ·replace hM := M.e_t hM ah
  simp only [qz1, qz2, qz3, qz4, qz5, qz6, ne_eq, qz7] at ah
  refine W.skip <| W.seq <| W.block <| sQ rfl <| sM (I (s : Int)) rfl <| sA (I (s : Int)) rfl <| s_nil <| sQ rfl <| s_val (x_ld (v := Pz aa) rfl (ldb_sc Sc127 (ay.blk H) rfl)) <| sM (I (s : Int)) rfl ?_
  refine s_val (x_ld (v := I ac) rfl (ldb_sc Sc3 (aK.blk H) rfl)) ?_
  obtain ⟨aY, aM, hM⟩ := M.e_bind hM
  refine s_call cf149 [Pz aa, I (s : Int), I ac] rfl (zbj ab (s : Int) ac (aJ.app _) ap (ax.app _) aM _ (St.give (T := [cAll Ls_t2]) H rfl)) ?_
  rintro vq aN ⟨r2, aO, hvq, aD⟩
  subst aO
  subst vq
  try dsimp only at hM
  replace H : St w aN [cAll Ls_t2] R := H.back aD rfl
  clear aD
  refine sM (B r2) rfl <| g_val r2 (gy_t rfl) (fun hg => x_mv (v := ag) rfl) <| g_val r2 (gy_t rfl) (fun hg => x_mv (v := I (s : Int)) rfl) ?_
  refine g_splitV r2 (B false) (gy_t rfl) (fun ae => ?_) (fun ae => ?_)
  ·replace hM := M.e_t hM ae
   obtain ⟨⟨go7, aE⟩, aP, hM⟩ := M.e_bind hM
   try dsimp only at hM
   refine t_yield (L := []) H aH hY_t2 (by exact (gd_of (c := r2) ae (ag))) [I (s : Int)] (lst1 (gd_of (c := r2) ae (I (s : Int)))) (s : Int) Reads.none rfl aP ?_
   intro ar aQ aF H
   replace H : St w aQ [cAll ar] R := H
   refine g_val r2 (gy_t rfl) (fun hg => x_not (b := go7) rfl) <| s_val (x_pand (b := r2) (r := !go7) rfl (fun hb => gd_of (c := r2) (by first | exact hb | (rw [hb]; rfl) | simp_all) (B (!go7))) rfl) <| s_nil ?_
   refine W.cond (r2 && (!go7)) rfl (fun au => ?_) (fun au => ?_)
   ·replace hM := M.e_t hM au
    refine W.ret ?_
    have aR := M.e_inr hM ai
    subst aR
    replace hM := az
    try dsimp only at hM
    have av := M.e_pure hM
    exact ⟨_, resE_tmp0 rfl, ⟨aE, ar, av, rfl, H, aF⟩⟩
   replace hM := M.e_f hM au
   refine W.skip <| W.region rfl <| sR _ _ ((s : Int) + 1) rfl rfl rfl (by omega) <| sM (I ((s : Int) + 1)) rfl <| s_nil ?_
   exact ⟨aB, aC, s + 1, aE, ar, _, upds_of _ _ ⟨rfl, rfl, rfl, rfl, rfl, trivial⟩, M.e_inl hM ai, H, aF⟩
  replace hM := M.e_f hM ae
  refine g_val (v := B false) r2 (gy_t rfl) (fun hg => Bool.noConfusion (ae.symm.trans hg)) <| s_val (x_pand0 (b := r2) rfl (fun hb => gd_of (c := r2) (by first | exact hb | (rw [hb]; rfl) | simp_all) (B false)) rfl) <| s_nil ?_
  refine W.cond false rfl (fun aG => ?_) (fun aG => ?_)
  ·skip
   exact absurd aG (by decide)
  skip
  refine W.skip <| W.region rfl <| sR _ _ ((s : Int) + 1) rfl rfl rfl (by omega) <| sM (I ((s : Int) + 1)) rfl <| s_nil ?_
  exact ⟨aB, aC, s + 1, t2, Ls_t2, _, upds_of _ _ ⟨rfl, rfl, rfl, rfl, rfl, trivial⟩, M.e_inl hM ai, H, hY_t2⟩
 replace hM := M.e_f hM ah
 simp only [qz1, qz2, qz3, qz4, qz5, qz6, ne_eq, qz7] at ah
 refine W.exit ?_
 have aS := M.e_inr hM ai
 subst aS
 replace hM := az
 try dsimp only at hM
 have av := M.e_pure hM
 exact ⟨_, resE_tmp0 rfl, ⟨t2, Ls_t2, av, rfl, H, hY_t2⟩⟩
theorem zbf {T_ : Type} {n_ : Nat} {y y' : T_ -> Int -> M (Bool × T_)} (h : ∀ s a, M.LeN n_ (y s a) (y' s a)) (t_ : T_) (aa : List Work) (ab : Int) : M.LeN n_ (zaC y t_ aa ab) (zaC y' t_ aa ab) := by
  simp only [zaC, zaO]
  repeat' (first | exact M.le_same _ _ | exact h _ _ | refine M.le_grd ?_ | refine M.le_if ?_ ?_ | refine M.le_bind ?_ (fun x => ?_) | refine M.le_opt ?_ | refine M.le_iter (fun x => ?_) _ | (rename_i x; cases x) | (rename_i x; obtain ⟨_, _⟩ := x))

def zaU (i : Int) (aa : List Int) : M Bool :=
  M.pure (aa.contains i)
theorem zba {R : List Chunk} {ac : Nat} {ae : Cells} {aa : Value} (i : Int) (ab : List Int) (ah : Reads R ae) (ai : Sl ae aa ab) (aj : Has R (cBlk ac [aa] 34)) {r : Bool} (hM : (zaU i ab).Ends r) (w : World) (H : St w w [] R) : Ret Try.prog 97 #[I i, Pz ac] w fun v w' => ∃ (y0 : Bool), y0 = r /\ v = B y0 /\ St w w' [] R := by
 refine ret_of_W Try.func97 rfl rfl rfl ?_
 refine sQ rfl <| sA (B false) rfl <| s_nil <| sQ rfl <| s_val (x_ld (v := aa) rfl (ldb_sc Sc34 (aj.blk H) rfl)) <| sM (I i) rfl ?_
 refine s_call cf45 [aa, I i] rfl (contains_int i _ (ai.mono (ah.at H))) ?_
 rintro _ ak ⟨rfl, ag⟩
 replace H : St w ak [] R := H.ext ag
 clear ag
 refine sA (B (ab.contains i)) rfl <| s_nil ?_
 refine W.ret ?_
 have al := M.e_pure hM
 exact ⟨_, resE_tmp rfl, ⟨(ab.contains i), al, rfl, H⟩⟩

def zan (s : List Int) (f : Int -> M Bool) : Nat -> M (Nat ⊕ (Int ⊕ Unit)) := fun s2 =>
  bif decide ((s2 : Int) < (s.length : Int)) then (
  M.grd (decide ((s2 : Int) < (s.length : Int))) <|
  M.bind (f (s.getD s2 0)) fun r2 =>
  bif r2 then (
  M.pure (.inr (.inl (s2 : Int))))
  else (
  M.pure (.inl (s2 + 1))))
  else (
  M.pure (.inr (.inr ())))
def zaJ (s : List Int) (f : Int -> M Bool) : M Int :=
  M.bind (M.iter (zan s f) 0) fun x_ => match x_ with
  | (.inl s3) => (
  M.pure s3)
  | (.inr (_ : Unit)) => (
  M.pure (-1))
theorem zbb {R : List Chunk} {ak : Cells} {aa : Value} {ac : Value} (s : List Int) (f : Int -> M Bool) (ao : Reads R ak) (ae : Sl ak aa s) (ap : FnM Try.prog R ac f) {r : Int} (hM : (zaJ s f).Ends r) (w : World) (H : St w w [] R) : Ret Try.prog 102 #[aa, ac] w fun v w' => ∃ (y0 : Int), y0 = r /\ v = I y0 /\ St w w' [] R := by
 refine ret_of_W Try.func102 rfl rfl rfl ?_
 refine sQ rfl <| sA (I 0) rfl <| s_nil <| W.seq <| sQ rfl <| sM aa rfl ?_
 have ay := (ae).len_le
 refine s_val (x_lenS T34.und rfl ae) <| sM (I 0) rfl <| s_nil <| W.block ?_
 obtain ⟨aq, ag, al⟩ := M.e_bind hM
 obtain ⟨az, ag⟩ := M.e_iter ag
 refine W.loop (fun m σ W => ∃ (s2 : Nat) (ρ : Env), σ = upds ρ [(0, aa), (1, ac), (7, I (s.length : Int)), (8, I (s2 : Int))] /\ M.iterN (zan s f) m s2 = some aq /\ St w W [] R) ?_ ?_
 ·exact ⟨_, 0, _, upds_of _ _ ⟨rfl, rfl, rfl, rfl, trivial⟩, ag, H⟩
 rintro aA σ aB ⟨s2, ρ, rfl, am, H⟩
 obtain ⟨ar, au, aC, hM, ah⟩ := M.e_iterN am
 simp only [zan] at hM
 clear am
 refine sQ rfl <| sC _ _ (decide ((s2 : Int) < (s.length : Int))) rfl rfl rfl <| s_nil <| W.seq ?_
 refine W.cond (decide ((s2 : Int) < (s.length : Int))) rfl (fun ab => ?_) (fun ab => ?_)
 ·replace hM := M.e_t hM ab
  simp only [qz1, qz2, qz3, qz4, qz5, qz6, ne_eq, qz7] at ab
  refine W.skip <| W.seq <| W.block <| sQ rfl <| sM (I (s2 : Int)) rfl <| sA (I (s2 : Int)) rfl <| s_nil <| sQ rfl <| sM ac rfl <| sM aa rfl ?_
  refine sM (I (s2 : Int)) rfl ?_
  obtain ⟨aD, hM⟩ := M.e_gd hM
  refine s_val (x_ix (v := vat aa 1 (Int.toNat (s2 : Int))) rfl rfl (Sl.ix (α := Int) T34.und T34.size ae (by omega) (by omega))) <| s_val (x_ld (v := I (s.getD s2 0)) rfl (ld_sc Sc3 (At.mono (Int_at ae (i := (s2 : Int)) (by omega) (by omega)) (ao.at H)))) ?_
  obtain ⟨r2, av, hM⟩ := M.e_bind hM
  refine t_callM H ap rfl rfl (s.getD s2 0) Reads.none (Arg.mkI (fun _ => none) _) av ?_
  intro aE H
  refine s_nil ?_
  refine W.cond r2 rfl (fun ai => ?_) (fun ai => ?_)
  ·replace hM := M.e_t hM ai
   refine sQ rfl <| sM (I (s2 : Int)) rfl <| sA (I (s2 : Int)) rfl <| s_nil ?_
   refine W.ret ?_
   have aw := M.e_inr hM ah
   subst aw
   replace hM := al
   try dsimp only at hM
   have aj := M.e_pure hM
   exact ⟨_, resE_tmp rfl, ⟨(s2 : Int), aj, rfl, H⟩⟩
  replace hM := M.e_f hM ai
  refine W.skip <| W.region rfl <| sR _ _ ((s2 : Int) + 1) rfl rfl rfl (by omega) <| sM (I ((s2 : Int) + 1)) rfl <| s_nil ?_
  exact ⟨ar, au, s2 + 1, _, upds_of _ _ ⟨rfl, rfl, rfl, rfl, trivial⟩, M.e_inl hM ah, H⟩
 replace hM := M.e_f hM ab
 simp only [qz1, qz2, qz3, qz4, qz5, qz6, ne_eq, qz7] at ab
 refine W.exit ?_
 have ax := M.e_inr hM ah
 subst ax
 replace hM := al
 try dsimp only at hM
 refine sQ rfl <| sA (I (-1)) rfl <| s_nil ?_
 refine W.ret ?_
 have aj := M.e_pure hM
 exact ⟨_, resE_tmp rfl, ⟨(-1), aj, rfl, H⟩⟩

def zaQ (s : List Int) (f : Int -> M Bool) : M Bool :=
  M.bind (zaJ s f) fun r2 =>
  M.pure (decide (0 <= r2))
theorem zbg {R : List Chunk} {ac : Cells} {aa : Value} {ab : Value} (s : List Int) (f : Int -> M Bool) (ag : Reads R ac) (ah : Sl ac aa s) (ai : FnM Try.prog R ab f) {r : Bool} (hM : (zaQ s f).Ends r) (w : World) (H : St w w [] R) : Ret Try.prog 48 #[aa, ab] w fun v w' => ∃ (y0 : Bool), y0 = r /\ v = B y0 /\ St w w' [] R := by
 refine ret_of_W Try.func48 rfl rfl rfl ?_
 refine sQ rfl <| sA (B false) rfl <| s_nil <| sQ rfl <| sM aa rfl <| sM ab rfl ?_
 obtain ⟨ao, aj, hM⟩ := M.e_bind hM
 refine s_call cf102 [aa, ab] rfl (zbb s f (ag.app _) ah (ai.app _) aj _ (St.give (T := []) H rfl)) ?_
 rintro vq ak ⟨r2, al, hvq, ae⟩
 subst al
 subst vq
 try dsimp only at hM
 replace H : St w ak [] R := H.back ae rfl
 clear ae
 refine sC _ _ (decide (0 <= r2)) rfl rfl rfl <| sA (B (decide (0 <= r2))) rfl <| s_nil ?_
 refine W.ret ?_
 have am := M.e_pure hM
 exact ⟨_, resE_tmp rfl, ⟨(decide (0 <= r2)), am, rfl, H⟩⟩

def za4 (x : Int) (aa : Int -> M Bool) : M Bool :=
  M.bind (aa x) fun r2 =>
  M.pure (!r2)
theorem zbw {R : List Chunk} {ab : Nat} {aa : Value} (x : Int) (ac : Int -> M Bool) (ae : FnM Try.prog R aa ac) (ag : Has R (cBlk ab [aa] 75)) {r : Bool} (hM : (za4 x ac).Ends r) (w : World) (H : St w w [] R) : Ret Try.prog 143 #[I x, Pz ab] w fun v w' => ∃ (y0 : Bool), y0 = r /\ v = B y0 /\ St w w' [] R := by
 refine ret_of_W Try.func143 rfl rfl rfl ?_
 refine sQ rfl <| sA (B false) rfl <| s_nil <| sQ rfl <| s_val (x_ld (v := aa) rfl (ldb_sc Sc75 (ag.blk H) rfl)) <| sM (I x) rfl ?_
 obtain ⟨r2, ah, hM⟩ := M.e_bind hM
 refine t_callM H ae rfl rfl x Reads.none (Arg.mkI (fun _ => none) _) ah ?_
 intro aj H
 refine s_val (x_not (b := r2) rfl) <| sA (B (!r2)) rfl <| s_nil ?_
 refine W.ret ?_
 have ai := M.e_pure hM
 exact ⟨_, resE_tmp rfl, ⟨(!r2), ai, rfl, H⟩⟩

def zbh (so : Int -> M Bool) (l : List Int) : M Bool :=
  M.bind (zaQ l (fun aa => za4 aa so)) fun r2 =>
  M.pure (!r2)
theorem zbz {R : List Chunk} {aa : Value} {ag : Cells} {ac : Value} (so : Int -> M Bool) (l : List Int) (ah : FnM Try.prog R aa so) (ak : Reads R ag) (al : Sl ag ac l) {r : Bool} (hM : (zbh so l).Ends r) (w : World) (H : St w w [] R) : Ret Try.prog 87 #[aa, ac] w fun v w' => ∃ (y0 : Bool), y0 = r /\ v = B y0 /\ St w w' [] R := by
 refine ret_of_W Try.func87 rfl rfl rfl ?_
 refine sQ rfl ?_
 refine t_box (v := aa) (cs := [aa]) H rfl (FnM.cells ah) ?_
 intro ab aA H
 refine sA (B false) rfl <| s_nil <| sQ rfl <| sM ac rfl <| s_val (x_mf (fs := []) (cs := [Pz ab]) rfl rfl) ?_
 obtain ⟨aB, am, hM⟩ := M.e_bind hM
 refine s_call cf48 [ac, .func (.func 143) #[] #[Pz ab]] rfl (zbg l (fun ae => za4 ae so) (ak.app _) al ⟨143, [Pz ab], rfl, cf143, fun ai aC aD ao ae aE ap aF aq ar => by obtain rfl := Arg.int aq; exact (zbw ae so (FnM.app (ah.app _) _) (Has.app (Has.here (k := 0) rfl) _) ar ai (St.refl ap)).mono fun ao ai ⟨aG, au, av, aw⟩ => by subst au; exact ⟨av, aw⟩⟩ am _ (St.give (T := [cBlk ab [aa] 75]) H rfl)) ?_
 rintro vq ax ⟨r2, ay, hvq, aj⟩
 subst ay
 subst vq
 try dsimp only at hM
 replace H : St w ax [cBlk ab [aa] 75] R := H.back aj rfl
 clear aj
 refine s_val (x_not (b := r2) rfl) <| sA (B (!r2)) rfl <| s_nil ?_
 refine W.ret ?_
 have az := M.e_pure hM
 exact ⟨_, resE_tmp rfl, ⟨(!r2), az, rfl, (H.pick [] (by decide) rfl)⟩⟩

def zas (fence : List Int) : Unit -> Int -> M (Unit ⊕ Unit) := fun (_ : Unit) x =>
  M.bind (zaU x fence) fun r2 =>
  bif !r2 then (
  M.pure (.inr ()))
  else (
  M.pure (.inl ()))
def za3 (w_ : List Work) (fence : List Int) : Nat -> M (Nat ⊕ (Unit ⊕ Unit)) := fun s =>
  bif decide ((s : Int) < (fence.length : Int)) then (
  M.grd (decide ((s : Int) < (fence.length : Int))) <|
  M.bind (zbk w_ (fence.getD s 0)) fun aa =>
  M.bind (zaC (M.yl (zas fence)) (.inl ()) w_ aa) fun x_ => match x_ with
  | .inl _ => (
  M.pure (.inl (s + 1)))
  | .inr _ => (
  M.pure (.inr (.inl ()))))
  else (
  M.pure (.inr (.inr ())))
def za1 (w_ : List Work) (revised : List Int) (fence : List Int) : M (Bool × Int) :=
  bif (askedE w_ revised == 0) then (
  bif (listedE w_.length fence) != 0 then (
  M.pure (false, (listedE w_.length fence)))
  else (
  M.bind (M.iter (za3 w_ fence) 0) fun x_ => match x_ with
  | (.inl (_ : Unit)) => (
  M.pure (false, 0))
  | (.inr (_ : Unit)) => (
  M.bind (zbh (fun aa => zaU aa fence) revised) fun r3 =>
  M.pure (r3, 0))))
  else (
  bif (askedE w_ revised) == 0 then (
  M.fail)
  else (
  bif (askedE w_ revised) != 0 then (
  M.pure (false, (askedE w_ revised)))
  else (
  M.fail)))
theorem zbi {R : List Chunk} {aV : Cells} {ay : Value} {aW : Cells} {av : Value} {aX : Cells} {ae : Value} (w_ : List Work) (revised : List Int) (fence : List Int) (az : Reads R aV) (aB : Sl aV ay w_) (aG : Reads R aW) (aK : Sl aW av revised) (aA : Reads R aX) (ar : Sl aX ae fence) {r : (Bool × Int)} (hM : (za1 w_ revised fence).Ends r) (w : World) (H : St w w [] R) : Ret Try.prog 34 #[ay, av, ae] w fun v w' => ∃ (y0 : Bool) (y1 : Int), (y0, y1) = r /\ v = .tuple #[B y0, I y1] /\ St w w' [] R := by
 refine ret_of_WD Try.func34 rfl rfl rfl ?_
 replace H : St w w [cMk ([])] R := H.mk0
 have bV := aB.len_le
 have bW := aK.len_le
 have bX := ar.len_le
 unfold za1 at hM
 refine WD.seq ?_
 refine WD.of ?_
 refine W.region rfl ?_
 refine t_box (v := ae) (cs := [ae]) H rfl (Sl.cells ar) ?_
 intro aa bY H
 refine t_alloc (cs := [B false]) H Al4 rfl ?_
 intro ab bZ H
 refine t_alloc (cs := [I 0]) H Al35 rfl ?_
 intro ac b6 H
 refine s_nil ?_
 refine WD.seq ?_
 refine WD.of ?_
 refine W.region rfl <| sM ay rfl <| sM av rfl ?_
 refine s_call cf92 [ay, av] rfl (asked_any _ (aB.mono (az.at H)) (aK.mono (aG.at H))) ?_
 rintro _ aY (⟨aL, rfl, aC⟩ | ⟨aL, ai, aw, rfl, aZ, aM⟩)
 ·replace hM := M.e_f hM (by simpa using aL)
  replace H : St w aY [cBlk ac [I 0] 35, cBlk ab [B false] 4, cBlk aa [ae] 34, cMk ([])] R := H.ext aC
  clear aC
  refine sM (.tuple #[.pointer none, .slice none 0 0, .agg (encB (List.replicate 30 false)).toArray, I (askedE w_ revised)]) rfl <| sX [.pointer none, .slice none 0 0, .agg (encB (List.replicate 30 false)).toArray, I (askedE w_ revised)] (.pointer none) rfl rfl <| sX [.pointer none, .slice none 0 0, .agg (encB (List.replicate 30 false)).toArray, I (askedE w_ revised)] (.slice none 0 0) rfl rfl <| sX [.pointer none, .slice none 0 0, .agg (encB (List.replicate 30 false)).toArray, I (askedE w_ revised)] (.agg (encB (List.replicate 30 false)).toArray) rfl rfl <| sX [.pointer none, .slice none 0 0, .agg (encB (List.replicate 30 false)).toArray, I (askedE w_ revised)] (I (askedE w_ revised)) rfl rfl ?_
  refine t_alloc (cs := encB (List.replicate 30 false)) H Al141 rfl ?_
  intro ag b8 H
  have aN : (List.replicate 30 false).length = 30 := by simp
  refine sA (.pointer none) rfl <| sA (.slice none 0 0) rfl ?_
  refine t_stArrA (k := 0) (b := ag) (l := List.replicate 30 false) (l' := List.replicate 30 false) (L' := [cBlk ag (encB (List.replicate 30 false)) 141, cBlk ac [I 0] 35, cBlk ab [B false] 4, cBlk aa [ae] 34, cMk ([])]) H rfl rfl rfl Sz141 aN (List.length_replicate) rfl ?_
  intro ca H
  refine sA (I (askedE w_ revised)) rfl <| s_nil ?_
  refine WD.seq ?_
  refine WD.seq ?_
  refine WD.of ?_
  refine W.region rfl <| sM (I (askedE w_ revised)) rfl <| sC _ _ ((askedE w_ revised) == 0) rfl rfl rfl <| s_nil ?_
  refine WD.cond ((askedE w_ revised) == 0) rfl (fun aH => ?_) (fun aH => ?_)
  ·replace hM := M.e_t hM aH
   exact (M.e_fail hM).elim
  replace hM := M.e_f hM aH
  simp only [qz1, qz2, qz3, qz4, qz5, qz6, ne_eq, qz7] at aH
  refine WD.of ?_
  refine W.skip ?_
  refine WD.seq ?_
  refine WD.seq ?_
  refine WD.of ?_
  refine W.region rfl <| sM (I (askedE w_ revised)) rfl <| sC _ _ ((askedE w_ revised) != 0) rfl rfl rfl <| s_nil ?_
  refine WD.cond ((askedE w_ revised) != 0) rfl (fun aI => ?_) (fun aI => ?_)
  ·replace hM := M.e_t hM aI
   simp only [qz1, qz2, qz3, qz4, qz5, qz6, ne_eq, qz7] at aI
   refine WD.seq ?_
   refine WD.of ?_
   refine W.region rfl <| sM (I (askedE w_ revised)) rfl ?_
   refine t_st (k := 2) (b := ab) (off := 0) (cs := [B false]) (vs := [B false]) (cs' := [B false]) (v := B false) (L' := [cBlk ag (encB (List.replicate 30 false)) 141, cBlk ac [I 0] 35, cBlk ab [B false] 4, cBlk aa [ae] 34, cMk ([])]) H rfl rfl rfl Sz4 rfl rfl rfl rfl rfl rfl ?_
   intro cb H
   refine t_st (k := 1) (b := ac) (off := 0) (cs := [I 0]) (vs := [I (askedE w_ revised)]) (cs' := [I (askedE w_ revised)]) (v := I (askedE w_ revised)) (L' := [cBlk ag (encB (List.replicate 30 false)) 141, cBlk ac [I (askedE w_ revised)] 35, cBlk ab [B false] 4, cBlk aa [ae] 34, cMk ([])]) H rfl rfl rfl Sz35 rfl rfl rfl rfl rfl rfl ?_
   intro cc H
   refine s_nil ?_
   refine WD.of ?_
   refine W.ret ?_
   refine bodyD_r (H.pick [4, 0, 1, 2, 3] (by decide) rfl) ?_
   intro bf H
   replace H : St w bf [cBlk ag (encB (List.replicate 30 false)) 141, cBlk ac [I (askedE w_ revised)] 35, cBlk ab [B false] 4, cBlk aa [ae] 34] R := H
   have bg := (H.blk (k := 2) rfl)
   have bh := (H.blk (k := 1) rfl)
   have ax := M.e_pure hM
   exact ⟨_, (resE_ofn (vs := [B false, I (askedE w_ revised)]) rfl rfl (.cell (v := B false) rfl (run_loadVar_sc Sc4 bg rfl) <| .cell (v := I (askedE w_ revised)) rfl (run_loadVar_sc Sc35 bh rfl) <| .nil)), ⟨false, (askedE w_ revised), ax, rfl, (H.pick [] (by decide) rfl)⟩⟩
  replace hM := M.e_f hM aI
  exact (M.e_fail hM).elim
 replace hM := M.e_t hM (by simpa using aL)
 obtain ⟨ah, ap, aM, a6⟩ := H.freshNB aZ aM
 replace H : St w aY [cRo ah, cBlk ac [I 0] 35, cBlk ab [B false] 4, cBlk aa [ae] 34, cMk ([])] R := ap
 clear ap aZ
 have cd := aM.len_le
 refine sM (.tuple #[Pz ai, aw, .agg (encB (staleL w_ revised)).toArray, I 0]) rfl <| sX [Pz ai, aw, .agg (encB (staleL w_ revised)).toArray, I 0] (Pz ai) rfl rfl <| sX [Pz ai, aw, .agg (encB (staleL w_ revised)).toArray, I 0] aw rfl rfl <| sX [Pz ai, aw, .agg (encB (staleL w_ revised)).toArray, I 0] (.agg (encB (staleL w_ revised)).toArray) rfl rfl <| sX [Pz ai, aw, .agg (encB (staleL w_ revised)).toArray, I 0] (I 0) rfl rfl ?_
 refine t_alloc (cs := encB (List.replicate 30 false)) H Al141 rfl ?_
 intro ag ce H
 have aN : (List.replicate 30 false).length = 30 := by simp
 refine sA (Pz ai) rfl <| sA aw rfl ?_
 refine t_stArrA (k := 0) (b := ag) (l := List.replicate 30 false) (l' := staleL w_ revised) (L' := [cBlk ag (encB (staleL w_ revised)) 141, cRo ah, cBlk ac [I 0] 35, cBlk ab [B false] 4, cBlk aa [ae] 34, cMk ([])]) H rfl rfl rfl Sz141 aN (staleL_len _ _) rfl ?_
 intro cf H
 refine sA (I 0) rfl <| s_nil ?_
 refine WD.seq ?_
 refine WD.seq ?_
 refine WD.of ?_
 refine W.region rfl <| sM (I 0) rfl <| sC _ _ ((0 : Int) == 0) rfl rfl rfl <| s_nil ?_
 refine WD.cond ((0 : Int) == 0) rfl (fun a7 => ?_) (fun a7 => ?_)
 ·skip
  refine WD.of ?_
  refine W.region rfl <| sM ay rfl <| s_val (x_ld (v := ae) rfl (ldb_sc Sc34 (H.blk (k := 4) rfl) rfl)) ?_
  refine s_call cf96 [ay, ae] rfl (listed_any _ (aB.mono (az.at H)) (ar.mono (aA.at H))) ?_
  rintro _ bi ⟨rfl, aC⟩
  replace H : St w bi [cBlk ag (encB (staleL w_ revised)) 141, cRo ah, cBlk ac [I 0] 35, cBlk ab [B false] 4, cBlk aa [ae] 34, cMk ([])] R := H.ext aC
  clear aC
  refine sA (I (listedE w_.length fence)) rfl <| s_nil ?_
  refine WD.seq ?_
  refine WD.seq ?_
  refine WD.of ?_
  refine W.region rfl <| sM (I (listedE w_.length fence)) rfl <| sC _ _ ((listedE w_.length fence) != 0) rfl rfl rfl <| s_nil ?_
  refine WD.cond ((listedE w_.length fence) != 0) rfl (fun aD => ?_) (fun aD => ?_)
  ·replace hM := M.e_t hM aD
   simp only [qz1, qz2, qz3, qz4, qz5, qz6, ne_eq, qz7] at aD
   refine WD.seq ?_
   refine WD.of ?_
   refine W.region rfl <| sM (I (listedE w_.length fence)) rfl ?_
   refine t_st (k := 3) (b := ab) (off := 0) (cs := [B false]) (vs := [B false]) (cs' := [B false]) (v := B false) (L' := [cBlk ag (encB (staleL w_ revised)) 141, cRo ah, cBlk ac [I 0] 35, cBlk ab [B false] 4, cBlk aa [ae] 34, cMk ([])]) H rfl rfl rfl Sz4 rfl rfl rfl rfl rfl rfl ?_
   intro cg H
   refine t_st (k := 2) (b := ac) (off := 0) (cs := [I 0]) (vs := [I (listedE w_.length fence)]) (cs' := [I (listedE w_.length fence)]) (v := I (listedE w_.length fence)) (L' := [cBlk ag (encB (staleL w_ revised)) 141, cRo ah, cBlk ac [I (listedE w_.length fence)] 35, cBlk ab [B false] 4, cBlk aa [ae] 34, cMk ([])]) H rfl rfl rfl Sz35 rfl rfl rfl rfl rfl rfl ?_
   intro ci H
   refine s_nil ?_
   refine WD.of ?_
   refine W.ret ?_
   refine bodyD_r (H.pick [5, 0, 1, 2, 3, 4] (by decide) rfl) ?_
   intro bj H
   replace H : St w bj [cBlk ag (encB (staleL w_ revised)) 141, cRo ah, cBlk ac [I (listedE w_.length fence)] 35, cBlk ab [B false] 4, cBlk aa [ae] 34] R := H
   have bk := (H.blk (k := 3) rfl)
   have bl := (H.blk (k := 2) rfl)
   have ax := M.e_pure hM
   exact ⟨_, (resE_ofn (vs := [B false, I (listedE w_.length fence)]) rfl rfl (.cell (v := B false) rfl (run_loadVar_sc Sc4 bk rfl) <| .cell (v := I (listedE w_.length fence)) rfl (run_loadVar_sc Sc35 bl rfl) <| .nil)), ⟨false, (listedE w_.length fence), ax, rfl, (H.pick [] (by decide) rfl)⟩⟩
  replace hM := M.e_f hM aD
  simp only [qz1, qz2, qz3, qz4, qz5, qz6, ne_eq, qz7] at aD
  refine WD.of ?_
  refine W.skip ?_
  refine WD.seq ?_
  refine WD.of ?_
  refine W.region rfl <| s_val (x_mf (fs := []) (cs := [Pz aa]) rfl rfl) ?_
  refine t_alloc (cs := [.nilFunc]) H Al75 rfl ?_
  intro aj cj H
  refine t_st (k := 0) (b := aj) (off := 0) (cs := [.nilFunc]) (vs := [.func (.func 97) #[] #[Pz aa]]) (cs' := [.func (.func 97) #[] #[Pz aa]]) (v := .func (.func 97) #[] #[Pz aa]) (L' := [cBlk aj [.func (.func 97) #[] #[Pz aa]] 75, cBlk ag (encB (staleL w_ revised)) 141, cRo ah, cBlk ac [I 0] 35, cBlk ab [B false] 4, cBlk aa [ae] 34, cMk ([])]) H rfl rfl rfl Sz75 rfl rfl rfl rfl rfl rfl ?_
  intro ck H
  refine s_nil ?_
  refine WD.seq ?_
  refine WD.seq ?_
  refine WD.of ?_
  refine W.region rfl <| s_val (x_ld (v := ae) rfl (ldb_sc Sc34 (H.blk (k := 5) rfl) rfl)) ?_
  have cm := (ar).len_le
  refine s_val (x_lenS T34.und rfl ar) <| sM (I 0) rfl <| s_nil ?_
  refine WD.block ?_
  obtain ⟨bm, aO, a8⟩ := M.e_bind hM
  obtain ⟨cn, aO⟩ := M.e_iter aO
  refine WD.loop (fun m ak σ W => ∃ (s : Nat) (ρ : Env), σ = upds ρ [(1, av), (6, Pz ab), (7, Pz ac), (8, Pz ai), (12, Pz aj), (33, ae), (34, I (fence.length : Int)), (35, I (s : Int))] /\ M.iterN (za3 w_ fence) m s = some bm /\ St w W [cBlk aj [.func (.func 97) #[] #[Pz aa]] 75, cBlk ag (encB (staleL w_ revised)) 141, cRo ah, cBlk ac [I 0] 35, cBlk ab [B false] 4, cBlk aa [ae] 34, cMk ak] R) ?_ ?_
  ·exact ⟨_, 0, _, upds_of _ _ ⟨rfl, rfl, rfl, rfl, rfl, rfl, rfl, rfl, trivial⟩, aO, H⟩
  rintro co ak σ cp ⟨s, ρ, rfl, ba, H⟩
  obtain ⟨bn, bo, cq, hM, aP⟩ := M.e_iterN ba
  simp only [za3] at hM
  clear ba
  refine WD.seq ?_
  refine WD.of ?_
  refine W.region rfl <| sC _ _ (decide ((s : Int) < (fence.length : Int))) rfl rfl rfl <| s_nil ?_
  refine WD.seq ?_
  refine WD.cond (decide ((s : Int) < (fence.length : Int))) rfl (fun aE => ?_) (fun aE => ?_)
  ·replace hM := M.e_t hM aE
   simp only [qz1, qz2, qz3, qz4, qz5, qz6, ne_eq, qz7] at aE
   refine WD.of ?_
   refine W.skip ?_
   refine WD.seq ?_
   refine WD.block ?_
   refine WD.seq ?_
   refine WD.of ?_
   refine W.region rfl ?_
   obtain ⟨cr, hM⟩ := M.e_gd hM
   refine s_val (x_ix (v := vat ae 1 (Int.toNat (s : Int))) rfl rfl (Sl.ix (α := Int) T34.und T34.size ar (by omega) (by omega))) <| s_val (x_ld (v := I (fence.getD s 0)) rfl (ld_sc Sc3 (At.mono (Int_at ar (i := (s : Int)) (by omega) (by omega)) (aA.at H)))) <| sA (I (fence.getD s 0)) rfl <| s_nil ?_
   refine WD.seq ?_
   refine WD.of ?_
   refine W.region rfl <| sM (Pz ai) rfl <| sM (I (fence.getD s 0)) rfl ?_
   obtain ⟨ct, bp, hM⟩ := M.e_bind hM
   refine s_call cf98 [Pz ai, I (fence.getD s 0)] rfl (zbD w_ (fence.getD s 0) (az.app _) aB (Has.ro (k := 2) rfl a6) bp _ (St.give (T := [cBlk aj [.func (.func 97) #[] #[Pz aa]] 75, cBlk ag (encB (staleL w_ revised)) 141, cRo ah, cBlk ac [I 0] 35, cBlk ab [B false] 4, cBlk aa [ae] 34, cMk ak]) H rfl)) ?_
   rintro vq bq ⟨al, am, ao, br, hvq, ap⟩
   subst br
   subst vq
   try dsimp only at hM
   replace H : St w bq [cBlk am [Pz ai] 127, cBlk ao [I al] 3, cBlk aj [.func (.func 97) #[] #[Pz aa]] 75, cBlk ag (encB (staleL w_ revised)) 141, cRo ah, cBlk ac [I 0] 35, cBlk ab [B false] 4, cBlk aa [ae] 34, cMk ak] R := H.back ap rfl
   clear ap
   refine s_nil ?_
   refine WD.block ?_
   obtain ⟨cu, bt, hM⟩ := M.e_bind hM
   refine WD.range (L := [cBlk ac [I 0] 35, cBlk ab [B false] 4, cBlk am [Pz ai] 127, cBlk ao [I al] 3, cBlk aj [.func (.func 97) #[] #[Pz aa]] 75, cBlk ag (encB (staleL w_ revised)) 141, cRo ah, cBlk aa [ae] 34]) [Pz am, Pz ao] (H.pick [8, 5, 6, 0, 1, 2, 3, 4, 7] (by decide) rfl) rfl cf148 ?_
   intro aF aq aJ bu aQ H
   have hYC : YieldC Try.prog ([cMk (aq :: ak), cBlk am [Pz ai] 127, cBlk ao [I al] 3, cBlk aj [.func (.func 97) #[] #[Pz aa]] 75, cBlk ag (encB (staleL w_ revised)) 141, cRo ah, cBlk aa [ae] 34] ++ R) arI (yJ aF aJ (fun _ au => au = [cBlk ac [I 0] 35, cBlk ab [B false] 4]) (fun _ au => au = [cBlk ac [I 0] 35, cBlk ab [B false] 4]) (fun _ => .ret)) (.func (.yield aF) #[] #[]) (M.yl (zas fence)) := by
    refine YieldC.mk aQ (fun _ au => au = [cBlk ac [I 0] 35, cBlk ab [B false] 4]) (fun _ au => au = [cBlk ac [I 0] 35, cBlk ab [B false] 4]) (fun _ => .ret) (zas fence) (by rintro _ _ h_; obtain ⟨rfl⟩ := h_; rfl) (by rintro _ _ h_; (obtain ⟨rfl⟩ := h_; rfl)) rfl (arI_len rfl) ?_
    intro C_ cv x W_ bv
    obtain rfl := bv
    refine W.region rfl <| sA (I x) rfl <| s_nil ?_
    refine ⟨rfl, rfl, ?_⟩
    intro w R aR au s_ r bw hM H
    skip
    obtain ⟨rfl⟩ := bw
    replace az := az.sub aR
    replace aG := aG.sub aR
    replace aA := aA.sub aR
    replace hM : (zas fence () x).Ends r := hM
    simp only [zas] at hM
    replace H : St w w [cBlk ac [I 0] 35, cBlk ab [B false] 4, cBlk am [Pz ai] 127, cBlk ao [I al] 3, cBlk aj [.func (.func 97) #[] #[Pz aa]] 75, cBlk ag (encB (staleL w_ revised)) 141, cRo ah, cBlk aa [ae] 34, cMk (aq :: ak)] R := H.pick [0, 1, 3, 4, 5, 6, 7, 8, 2] (by decide) rfl
    refine W.block <| sQ rfl <| s_val (x_ld (v := .func (.func 97) #[] #[Pz aa]) rfl (ldb_sc Sc75 (H.blk (k := 4) rfl) rfl)) <| sM (I x) rfl ?_
    obtain ⟨cw, bx, hM⟩ := M.e_bind hM
    refine s_callv (f := 97) rfl cf97 [I x] rfl (zba x fence (aA.app _) ar (Has.here (k := 7) rfl) bx _ (St.give (T := [cBlk ac [I 0] 35, cBlk ab [B false] 4, cBlk am [Pz ai] 127, cBlk ao [I al] 3, cBlk aj [.func (.func 97) #[] #[Pz aa]] 75, cBlk ag (encB (staleL w_ revised)) 141, cRo ah, cBlk aa [ae] 34, cMk (aq :: ak)]) H rfl)) ?_
    rintro vq bz ⟨r2, bA, hvq, ap⟩
    subst bA
    subst vq
    try dsimp only at hM
    replace H : St w bz [cBlk ac [I 0] 35, cBlk ab [B false] 4, cBlk am [Pz ai] 127, cBlk ao [I al] 3, cBlk aj [.func (.func 97) #[] #[Pz aa]] 75, cBlk ag (encB (staleL w_ revised)) 141, cRo ah, cBlk aa [ae] 34, cMk (aq :: ak)] R := H.back ap rfl
    clear ap
    refine s_val (x_not (b := r2) rfl) <| s_nil ?_
    refine W.cond (!r2) rfl (fun aS => ?_) (fun aS => ?_)
    ·replace hM := M.e_t hM aS
     refine sQ rfl ?_
     refine t_st (k := 1) (b := ab) (off := 0) (cs := [B false]) (vs := [B false]) (cs' := [B false]) (v := B false) (L' := [cBlk ac [I 0] 35, cBlk ab [B false] 4, cBlk am [Pz ai] 127, cBlk ao [I al] 3, cBlk aj [.func (.func 97) #[] #[Pz aa]] 75, cBlk ag (encB (staleL w_ revised)) 141, cRo ah, cBlk aa [ae] 34, cMk (aq :: ak)]) H rfl rfl rfl Sz4 rfl rfl rfl rfl rfl rfl ?_
     intro cx H
     refine t_st (k := 0) (b := ac) (off := 0) (cs := [I 0]) (vs := [I 0]) (cs' := [I 0]) (v := I 0) (L' := [cBlk ac [I 0] 35, cBlk ab [B false] 4, cBlk am [Pz ai] 127, cBlk ao [I al] 3, cBlk aj [.func (.func 97) #[] #[Pz aa]] 75, cBlk ag (encB (staleL w_ revised)) 141, cRo ah, cBlk aa [ae] 34, cMk (aq :: ak)]) H rfl rfl rfl Sz35 rfl rfl rfl rfl rfl rfl ?_
     intro cy H
     refine s_nil ?_
     refine W.ret ?_
     exact ⟨(), [cBlk ac [I 0] 35, cBlk ab [B false] 4], (M.e_pure hM).symm, rfl, H.pick [0, 1, 8, 2, 3, 4, 5, 6, 7] (by decide) rfl, rfl⟩
    replace hM := M.e_f hM aS
    refine W.skip ?_
    exact ⟨(), [cBlk ac [I 0] 35, cBlk ab [B false] 4], (M.e_pure hM).symm, rfl, H.pick [0, 1, 8, 2, 3, 4, 5, 6, 7] (by decide) rfl⟩
   replace H : St w bu (cAll (cObj aF (.loop aJ) :: [cBlk ac [I 0] 35, cBlk ab [B false] 4]) :: [cMk (aq :: ak), cBlk am [Pz ai] 127, cBlk ao [I al] 3, cBlk aj [.func (.func 97) #[] #[Pz aa]] 75, cBlk ag (encB (staleL w_ revised)) 141, cRo ah, cBlk aa [ae] 34]) R := St.bundleB (A := cObj aF (.loop aJ) :: [cBlk ac [I 0] 35, cBlk ab [B false] 4]) (T := [cMk (aq :: ak), cBlk am [Pz ai] 127, cBlk ao [I al] 3, cBlk aj [.func (.func 97) #[] #[Pz aa]] 75, cBlk ag (encB (staleL w_ revised)) 141, cRo ah, cBlk aa [ae] 34]) rfl (H.pick [0, 2, 3, 1, 4, 5, 6, 7, 8, 9] (by decide) rfl)
   refine (zbt (M.yl (zas fence)) (.inl ()) w_ al hYC ⟨_, rfl, rfl⟩ (az.app _) aB (Has.ro (k := 5) rfl a6) (Has.here (k := 1) rfl) (Has.here (k := 2) rfl) bt _ (St.give (A := [cAll (cObj aF (.loop aJ) :: [cBlk ac [I 0] 35, cBlk ab [B false] 4])]) (T := [cMk (aq :: ak), cBlk am [Pz ai] 127, cBlk ao [I al] 3, cBlk aj [.func (.func 97) #[] #[Pz aa]] 75, cBlk ag (encB (staleL w_ revised)) 141, cRo ah, cBlk aa [ae] 34]) H rfl)).mono ?_
   rintro vq cz ⟨bB, cA, bC, hvq, ap, bb⟩
   subst bC
   replace H := H.back ap rfl
   clear ap hYC
   rcases bB with _ | _
   ·try dsimp only at hM
    obtain ⟨_, rfl, rfl⟩ := bb
    refine ⟨_, [cBlk ac [I 0] 35, cBlk ab [B false] 4, cBlk am [Pz ai] 127, cBlk ao [I al] 3, cBlk aj [.func (.func 97) #[] #[Pz aa]] 75, cBlk ag (encB (staleL w_ revised)) 141, cRo ah, cBlk aa [ae] 34], H.unbundle.pick [0, 3, 1, 2, 4, 5, 6, 7, 8, 9] (by decide) rfl, aQ.nb, ?_⟩
    intro aT H
    rw [aQ.pd]
    replace H : St w aT [cMk (aq :: ak), cBlk ac [I 0] 35, cBlk ab [B false] 4, cBlk am [Pz ai] 127, cBlk ao [I al] 3, cBlk aj [.func (.func 97) #[] #[Pz aa]] 75, cBlk ag (encB (staleL w_ revised)) 141, cRo ah, cBlk aa [ae] 34] R := H
    try simp only []
    refine WD.of ?_
    refine W.region rfl <| sR _ _ ((s : Int) + 1) rfl rfl rfl (by omega) <| sM (I ((s : Int) + 1)) rfl <| s_nil ?_
    exact ⟨bn, bo, s + 1, _, upds_of _ _ ⟨rfl, rfl, rfl, rfl, rfl, rfl, rfl, rfl, trivial⟩, M.e_inl hM aP, (H.pick [5, 6, 7, 1, 2, 8, 0] (by decide) rfl)⟩
   try dsimp only at hM
   obtain ⟨_, rfl, rfl⟩ := bb
   refine ⟨_, [cBlk ac [I 0] 35, cBlk ab [B false] 4, cBlk am [Pz ai] 127, cBlk ao [I al] 3, cBlk aj [.func (.func 97) #[] #[Pz aa]] 75, cBlk ag (encB (staleL w_ revised)) 141, cRo ah, cBlk aa [ae] 34], H.unbundle.pick [0, 3, 1, 2, 4, 5, 6, 7, 8, 9] (by decide) rfl, nofun, ?_⟩
   intro aT H
   show WD _ _ _ (.ret) _ _ _
   refine WD.of ?_
   refine W.ret ?_
   replace H : St w aT [cMk (aq :: ak), cBlk ac [I 0] 35, cBlk ab [B false] 4, cBlk am [Pz ai] 127, cBlk ao [I al] 3, cBlk aj [.func (.func 97) #[] #[Pz aa]] 75, cBlk ag (encB (staleL w_ revised)) 141, cRo ah, cBlk aa [ae] 34] R := H
   have bD := M.e_inr hM aP
   subst bD
   replace hM := a8
   try dsimp only at hM
   refine bodyD_r (H.pick [0, 1, 2, 3, 4, 5, 6, 7, 8] (by decide) rfl) ?_
   intro bE H
   replace H : St w bE [cBlk ac [I 0] 35, cBlk ab [B false] 4, cBlk am [Pz ai] 127, cBlk ao [I al] 3, cBlk aj [.func (.func 97) #[] #[Pz aa]] 75, cBlk ag (encB (staleL w_ revised)) 141, cRo ah, cBlk aa [ae] 34] R := H
   have bF := (H.blk (k := 1) rfl)
   have bG := (H.blk (k := 0) rfl)
   have ax := M.e_pure hM
   exact ⟨_, (resE_ofn (vs := [B false, I 0]) rfl rfl (.cell (v := B false) rfl (run_loadVar_sc Sc4 bF rfl) <| .cell (v := I 0) rfl (run_loadVar_sc Sc35 bG rfl) <| .nil)), ⟨false, 0, ax, rfl, (H.pick [] (by decide) rfl)⟩⟩
  replace hM := M.e_f hM aE
  simp only [qz1, qz2, qz3, qz4, qz5, qz6, ne_eq, qz7] at aE
  refine WD.of ?_
  refine W.exit ?_
  have bH := M.e_inr hM aP
  subst bH
  replace hM := a8
  try dsimp only at hM
  refine WD.seq ?_
  refine WD.of ?_
  refine W.region rfl <| s_val (x_ld (v := .func (.func 97) #[] #[Pz aa]) rfl (ldb_sc Sc75 (H.blk (k := 0) rfl) rfl)) <| sM av rfl ?_
  obtain ⟨cB, bI, hM⟩ := M.e_bind hM
  refine s_call cf87 [.func (.func 97) #[] #[Pz aa], av] rfl (zbz (fun aU => zaU aU fence) revised ⟨97, [Pz aa], rfl, cf97, fun bc cC cD bJ aU cE bK cF bL bM => by obtain rfl := Arg.int bL; exact (zba aU fence (Reads.app (aA.app _) _) ar (Has.app (Has.here (k := 5) rfl) _) bM bc (St.refl bK)).mono fun bJ bc ⟨cG, bN, bO, bP⟩ => by subst bN; exact ⟨bO, bP⟩⟩ (aG.app _) aK bI _ (St.give (T := [cBlk aj [.func (.func 97) #[] #[Pz aa]] 75, cBlk ag (encB (staleL w_ revised)) 141, cRo ah, cBlk ac [I 0] 35, cBlk ab [B false] 4, cBlk aa [ae] 34, cMk ak]) H rfl)) ?_
  rintro vq bQ ⟨r3, bR, hvq, ap⟩
  subst bR
  subst vq
  try dsimp only at hM
  replace H : St w bQ [cBlk aj [.func (.func 97) #[] #[Pz aa]] 75, cBlk ag (encB (staleL w_ revised)) 141, cRo ah, cBlk ac [I 0] 35, cBlk ab [B false] 4, cBlk aa [ae] 34, cMk ak] R := H.back ap rfl
  clear ap
  refine t_st (k := 4) (b := ab) (off := 0) (cs := [B false]) (vs := [B r3]) (cs' := [B r3]) (v := B r3) (L' := [cBlk aj [.func (.func 97) #[] #[Pz aa]] 75, cBlk ag (encB (staleL w_ revised)) 141, cRo ah, cBlk ac [I 0] 35, cBlk ab [B r3] 4, cBlk aa [ae] 34, cMk ak]) H rfl rfl rfl Sz4 rfl rfl rfl rfl rfl rfl ?_
  intro cH H
  refine t_st (k := 3) (b := ac) (off := 0) (cs := [I 0]) (vs := [I 0]) (cs' := [I 0]) (v := I 0) (L' := [cBlk aj [.func (.func 97) #[] #[Pz aa]] 75, cBlk ag (encB (staleL w_ revised)) 141, cRo ah, cBlk ac [I 0] 35, cBlk ab [B r3] 4, cBlk aa [ae] 34, cMk ak]) H rfl rfl rfl Sz35 rfl rfl rfl rfl rfl rfl ?_
  intro cI H
  refine s_nil ?_
  refine WD.of ?_
  refine W.ret ?_
  refine bodyD_r (H.pick [6, 0, 1, 2, 3, 4, 5] (by decide) rfl) ?_
  intro bS H
  replace H : St w bS [cBlk aj [.func (.func 97) #[] #[Pz aa]] 75, cBlk ag (encB (staleL w_ revised)) 141, cRo ah, cBlk ac [I 0] 35, cBlk ab [B r3] 4, cBlk aa [ae] 34] R := H
  have bT := (H.blk (k := 4) rfl)
  have bU := (H.blk (k := 3) rfl)
  have ax := M.e_pure hM
  exact ⟨_, (resE_ofn (vs := [B r3, I 0]) rfl rfl (.cell (v := B r3) rfl (run_loadVar_sc Sc4 bT rfl) <| .cell (v := I 0) rfl (run_loadVar_sc Sc35 bU rfl) <| .nil)), ⟨r3, 0, ax, rfl, (H.pick [] (by decide) rfl)⟩⟩
 skip
 exact absurd a7 (by decide)

def zat (w_ : List Work) (revised : List Int) (work : Int) : M (Int ⊕ Int) :=
  bif (askedE w_ revised == 0) then (
  bif !(inB work 0 ((w_.length : Int) - 1)) then (
  M.pure (.inl 2))
  else (
  bif revised.contains work then (
  M.pure (.inl 8))
  else (
  M.pure (.inr 0))))
  else (
  bif (askedE w_ revised) != 0 then (
  M.pure (.inl (askedE w_ revised)))
  else (
  M.fail))
theorem zbu {R : List Chunk} {au : Cells} {ah : Value} {av : Cells} {ai : Value} (w_ : List Work) (revised : List Int) (work : Int) (aD : Reads R au) (al : Sl au ah w_) (aw : Reads R av) (ax : Sl av ai revised) {r : (Int ⊕ Int)} (hM : (zat w_ revised work).Ends r) (w : World) (H : St w w [] R) : Ret Try.prog 116 #[ah, ai, I work] w fun v w' => (∃ (y0 : Int), (.inl y0) = r /\ v = .tuple #[.pointer none, I y0] /\ St w w' [] R) ∨ (∃ (y0 : Int) (nb0 : Nat) (ay : Base), (.inr y0) = r /\ v = .tuple #[Pz nb0, I y0] /\ St w w' [cRo ay] R /\ (∀ W, (cRo ay).ok W -> W.heap[nb0]? = some (.cells [ah].toArray 187 (0, 0)))) := by
 refine ret_of_W Try.func116 rfl rfl rfl ?_
 refine sQ rfl <| sA (.pointer none) rfl <| sA (I 0) rfl <| s_nil <| sQ rfl <| sM ah rfl <| sM ai rfl ?_
 refine s_call cf92 [ah, ai] rfl (asked_any _ (al.mono (aD.at H)) (ax.mono (aw.at H))) ?_
 rintro _ az (⟨am, rfl, ab⟩ | ⟨am, aa, ac, rfl, aA, ao⟩)
 ·replace hM := M.e_f hM (by simpa using am)
  replace H : St w az [] R := H.ext ab
  clear ab
  refine sM (.tuple #[.pointer none, .slice none 0 0, .agg (encB (List.replicate 30 false)).toArray, I (askedE w_ revised)]) rfl <| sX [.pointer none, .slice none 0 0, .agg (encB (List.replicate 30 false)).toArray, I (askedE w_ revised)] (.pointer none) rfl rfl <| sX [.pointer none, .slice none 0 0, .agg (encB (List.replicate 30 false)).toArray, I (askedE w_ revised)] (.slice none 0 0) rfl rfl <| sX [.pointer none, .slice none 0 0, .agg (encB (List.replicate 30 false)).toArray, I (askedE w_ revised)] (.agg (encB (List.replicate 30 false)).toArray) rfl rfl <| sX [.pointer none, .slice none 0 0, .agg (encB (List.replicate 30 false)).toArray, I (askedE w_ revised)] (I (askedE w_ revised)) rfl rfl ?_
  refine t_alloc (cs := encB (List.replicate 30 false)) H Al141 rfl ?_
  intro ae aH H
  have ap : (List.replicate 30 false).length = 30 := by simp
  refine sA (.pointer none) rfl <| sA (.slice none 0 0) rfl ?_
  refine t_stArrA (k := 0) (b := ae) (l := List.replicate 30 false) (l' := List.replicate 30 false) (L' := [cBlk ae (encB (List.replicate 30 false)) 141]) H rfl rfl rfl Sz141 ap (List.length_replicate) rfl ?_
  intro aI H
  refine sA (I (askedE w_ revised)) rfl <| s_nil <| W.seq <| W.block <| sQ rfl <| sM (I (askedE w_ revised)) rfl <| sC _ _ ((askedE w_ revised) != 0) rfl rfl rfl <| sA (B ((askedE w_ revised) != 0)) rfl <| s_nil ?_
  refine W.cond ((askedE w_ revised) != 0) rfl (fun ak => ?_) (fun ak => ?_)
  ·replace hM := M.e_t hM ak
   simp only [qz1, qz2, qz3, qz4, qz5, qz6, ne_eq, qz7] at ak
   refine sQ rfl <| sM (I (askedE w_ revised)) rfl <| sA (.pointer none) rfl <| sA (I (askedE w_ revised)) rfl <| s_nil ?_
   refine W.ret ?_
   have ag := M.e_pure hM
   exact ⟨_, resE_tmp2 rfl, .inl (⟨(askedE w_ revised), ag, rfl, (H.pick [] (by decide) rfl)⟩)⟩
  replace hM := M.e_f hM ak
  exact (M.e_fail hM).elim
 replace hM := M.e_t hM (by simpa using am)
 obtain ⟨aj, aB, ao, aE⟩ := H.freshNB aA ao
 replace H : St w az [cRo aj] R := aB
 clear aB aA
 have aJ := ao.len_le
 refine sM (.tuple #[Pz aa, ac, .agg (encB (staleL w_ revised)).toArray, I 0]) rfl <| sX [Pz aa, ac, .agg (encB (staleL w_ revised)).toArray, I 0] (Pz aa) rfl rfl <| sX [Pz aa, ac, .agg (encB (staleL w_ revised)).toArray, I 0] ac rfl rfl <| sX [Pz aa, ac, .agg (encB (staleL w_ revised)).toArray, I 0] (.agg (encB (staleL w_ revised)).toArray) rfl rfl <| sX [Pz aa, ac, .agg (encB (staleL w_ revised)).toArray, I 0] (I 0) rfl rfl ?_
 refine t_alloc (cs := encB (List.replicate 30 false)) H Al141 rfl ?_
 intro ae aK H
 have ap : (List.replicate 30 false).length = 30 := by simp
 refine sA (Pz aa) rfl <| sA ac rfl ?_
 refine t_stArrA (k := 0) (b := ae) (l := List.replicate 30 false) (l' := staleL w_ revised) (L' := [cBlk ae (encB (staleL w_ revised)) 141, cRo aj]) H rfl rfl rfl Sz141 ap (staleL_len _ _) rfl ?_
 intro aL H
 refine sA (I 0) rfl <| s_nil <| W.seq <| W.block <| sQ rfl <| sM (I 0) rfl <| sC _ _ ((0 : Int) != 0) rfl rfl rfl <| sA (B ((0 : Int) != 0)) rfl <| s_nil ?_
 refine W.cond ((0 : Int) != 0) rfl (fun aC => ?_) (fun aC => ?_)
 ·skip
  exact absurd aC (by decide)
 skip
 refine sQ rfl <| sM (I work) rfl <| sM ah rfl ?_
 have aM := (al).len_le
 refine s_val (x_lenS T22.und rfl al) <| sR _ _ ((w_.length : Int) - 1) rfl rfl rfl (by omega) ?_
 refine s_call cf84 [I work, I 0, I ((w_.length : Int) - 1)] rfl (in_any work 0 ((w_.length : Int) - 1) _) ?_
 rintro _ aF ⟨rfl, ab⟩
 replace H : St w aF [cBlk ae (encB (staleL w_ revised)) 141, cRo aj] R := H.ext ab
 clear ab
 refine s_val (x_not (b := inB work 0 ((w_.length : Int) - 1)) rfl) <| sA (B (!(inB work 0 ((w_.length : Int) - 1)))) rfl <| s_nil ?_
 refine W.cond (!(inB work 0 ((w_.length : Int) - 1))) rfl (fun aq => ?_) (fun aq => ?_)
 ·replace hM := M.e_t hM aq
  refine sQ rfl <| sA (.pointer none) rfl <| sA (I 2) rfl <| s_nil ?_
  refine W.ret ?_
  have ag := M.e_pure hM
  exact ⟨_, resE_tmp2 rfl, .inl (⟨2, ag, rfl, (H.pick [] (by decide) rfl)⟩)⟩
 replace hM := M.e_f hM aq
 refine sQ rfl <| sM ai rfl <| sM (I work) rfl ?_
 refine s_call cf45 [ai, I work] rfl (contains_int work _ (ax.mono (aw.at H))) ?_
 rintro _ aG ⟨rfl, ab⟩
 replace H : St w aG [cBlk ae (encB (staleL w_ revised)) 141, cRo aj] R := H.ext ab
 clear ab
 refine sA (B (revised.contains work)) rfl <| s_nil ?_
 refine W.cond (revised.contains work) rfl (fun ar => ?_) (fun ar => ?_)
 ·replace hM := M.e_t hM ar
  refine sQ rfl <| sA (.pointer none) rfl <| sA (I 8) rfl <| s_nil ?_
  refine W.ret ?_
  have ag := M.e_pure hM
  exact ⟨_, resE_tmp2 rfl, .inl (⟨8, ag, rfl, (H.pick [] (by decide) rfl)⟩)⟩
 replace hM := M.e_f hM ar
 refine W.skip <| sQ rfl <| sM (Pz aa) rfl <| sA (Pz aa) rfl <| sA (I 0) rfl <| s_nil ?_
 refine W.ret ?_
 have ag := M.e_pure hM
 exact ⟨_, resE_tmp2 rfl, .inr (⟨0, aa, aj, ag, rfl, (H.pick [1] (by decide) rfl), aE⟩)⟩

def zaH (i : Int) (aa : List Work) (ab : Int) : M Bool :=
  M.bind (za5 aa ab i) fun r2 =>
  M.pure r2
theorem zbA {R : List Chunk} {ae : Nat} {ab : Nat} {ag : Cells} {ah : Value} {ai : Nat} (i : Int) (ac : List Work) (aa : Int) (ak : Reads R ag) (al : Sl ag ah ac) (am : Has R (cBlk ab [ah] 187)) (ao : Has R (cBlk ae [Pz ab] 127)) (ap : Has R (cBlk ai [I aa] 3)) {r : Bool} (hM : (zaH i ac aa).Ends r) (w : World) (H : St w w [] R) : Ret Try.prog 159 #[I i, Pz ae, Pz ai] w fun v w' => ∃ (y0 : Bool), y0 = r /\ v = B y0 /\ St w w' [] R := by
 refine ret_of_W Try.func159 rfl rfl rfl ?_
 refine sQ rfl <| sA (B false) rfl <| s_nil <| sQ rfl <| s_val (x_ld (v := Pz ab) rfl (ldb_sc Sc127 (ao.blk H) rfl)) <| s_val (x_ld (v := I aa) rfl (ldb_sc Sc3 (ap.blk H) rfl)) <| sM (I i) rfl ?_
 obtain ⟨aw, aq, hM⟩ := M.e_bind hM
 refine s_call cf149 [Pz ab, I aa, I i] rfl (zbj ac aa i (ak.app _) al (am.app _) aq _ (St.give (T := []) H rfl)) ?_
 rintro vq ar ⟨r2, au, hvq, aj⟩
 subst au
 subst vq
 try dsimp only at hM
 replace H : St w ar [] R := H.back aj rfl
 clear aj
 refine sA (B r2) rfl <| s_nil ?_
 refine W.ret ?_
 have av := M.e_pure hM
 exact ⟨_, resE_tmp rfl, ⟨r2, av, rfl, H⟩⟩

def zaf (ab : List Work) (aa : List Int) (n_work : Int) (ac : Gate -> Option Int) (ae : Int -> Option Bool) (i : Int) : M Bool :=
  M.pure ((i != n_work) && (!(aa.contains i)))
theorem zaV {R : List Chunk} {aa : Nat} {ae : Nat} {ag : Cells} {ah : Value} {ai : Cells} {ac : Value} {aj : Nat} {ak : Nat} (al : List Work) (ab : List Int) (n_work : Int) (am : Gate -> Option Int) (ao : Int -> Option Bool) (i : Int) (ax : Reads R ag) (ay : Sl ag ah al) (az : Has R (cBlk ae [ah] 187)) (aq : Reads R ai) (ar : Sl ai ac ab) (aA : Has R (cMap encG I aj am)) (aB : Has R (cMap I B ak ao)) (ap : Has R (cBlk aa [Pz ae, ac, I n_work, .map (some aj), .map (some ak)] 180)) {r : Bool} (hM : (zaf al ab n_work am ao i).Ends r) (w : World) (H : St w w [] R) : Ret Try.prog 127 #[Pz aa, I i] w fun v w' => ∃ (y0 : Bool), y0 = r /\ v = B y0 /\ St w w' [] R := by
 refine ret_of_W Try.func127 rfl rfl rfl ?_
 refine sQ rfl <| sA (B false) rfl <| s_nil <| sQ rfl <| sM (I i) rfl <| sM (Pz aa) rfl <| s_val (x_nc (a := ⟨aa, 0, none⟩) rfl) <| s_val (x_fa (v := Oz aa 2) rfl (fa_blk (o := 0) Fd180_2 Sz3)) <| s_val (x_ld (v := I n_work) rfl (ldb_sc Sc3 (ap.blk H) rfl)) <| sC _ _ (i != n_work) rfl rfl rfl ?_
 refine sM (B (i != n_work)) rfl <| g_val (i != n_work) (gy_t rfl) (fun hg => x_mv (v := Pz aa) rfl) <| g_val (i != n_work) (gy_t rfl) (fun hg => x_nc (a := ⟨aa, 0, none⟩) (gd_of hg (Pz aa))) <| g_val (i != n_work) (gy_t rfl) (fun hg => x_fa (v := Oz aa 1) (gd_of hg (Pz aa)) (fa_blk (o := 0) Fd180_1 Sz34)) <| g_val (i != n_work) (gy_t rfl) (fun hg => x_ld (v := ac) (gd_of hg (Oz aa 1)) (ldb_sc Sc34 (ap.blk H) rfl)) <| g_val (i != n_work) (gy_t rfl) (fun hg => x_mv (v := I i) rfl) ?_
 refine t_gcall (i != n_work) (gy_t rfl) cf45 (B (ab.contains i)) (fun _ => [ac, I i]) (fun hg => lst2 (gd_of hg (ac)) (gd_of hg (I i))) H (fun hg => Ret.mono (contains_int i _ (ar.mono (aq.at H))) fun v_ w_ ⟨au, av⟩ => ⟨au, H.ext av⟩) ?_
 intro aC H
 refine g_val (i != n_work) (gy_t rfl) (fun hg => x_not (b := ab.contains i) (gd_of hg (B (ab.contains i)))) <| s_val (x_pand (b := i != n_work) (r := !(ab.contains i)) rfl (fun hb => gd_of (c := i != n_work) (by first | exact hb | (rw [hb]; rfl) | simp_all) (B (!(ab.contains i)))) rfl) <| sA (B ((i != n_work) && (!(ab.contains i)))) rfl <| s_nil ?_
 refine W.ret ?_
 have aw := M.e_pure hM
 exact ⟨_, resE_tmp rfl, ⟨((i != n_work) && (!(ab.contains i))), aw, rfl, H⟩⟩

def zam (ac : List Work) (ag : List Int) (n_work : Int) (at_ : Int) (ah : ((List Work) × (List Int) × Int × (Gate -> Option Int) × (Int -> Option Bool) × Int) -> M (Bool × (Gate -> Option Int) × (Int -> Option Bool))) : ((Gate -> Option Int) × (Int -> Option Bool) × Nat) -> M (((Gate -> Option Int) × (Int -> Option Bool) × Nat) ⊕ (((Gate -> Option Int) × (Int -> Option Bool)) ⊕ ((Gate -> Option Int) × (Int -> Option Bool)))) := fun (mp, ab, s) =>
  bif decide ((s : Int) < (2 * (ac.length : Int))) then (
  bif ((decide (0 < ((mp (⟨(at_ : Int), (s : Int)⟩ : Gate)).getD 0))) && (!((ab (s : Int)).getD false))) then (
  M.bind (ah (ac, ag, n_work, mp, ab, (s : Int))) fun (r8, aa, ae) =>
  bif (((decide (0 < ((mp (⟨(at_ : Int), (s : Int)⟩ : Gate)).getD 0))) && (!((ab (s : Int)).getD false))) && r8) then (
  M.grd (decide ((-9223372036854775808 : Int) <= (((aa (⟨(at_ : Int), (s : Int)⟩ : Gate)).getD 0) - 1)) && decide ((((aa (⟨(at_ : Int), (s : Int)⟩ : Gate)).getD 0) - 1) <= (9223372036854775807 : Int))) <|
  M.grd (decide ((-9223372036854775808 : Int) <= ((((updF aa (⟨(at_ : Int), (s : Int)⟩ : Gate) (((aa (⟨(at_ : Int), (s : Int)⟩ : Gate)).getD 0) - 1 : Int)) (⟨(s : Int), (at_ : Int)⟩ : Gate)).getD 0) + 1)) && decide (((((updF aa (⟨(at_ : Int), (s : Int)⟩ : Gate) (((aa (⟨(at_ : Int), (s : Int)⟩ : Gate)).getD 0) - 1 : Int)) (⟨(s : Int), (at_ : Int)⟩ : Gate)).getD 0) + 1) <= (9223372036854775807 : Int))) <|
  M.pure (.inr (.inl (updF (updF aa (⟨(at_ : Int), (s : Int)⟩ : Gate) (((aa (⟨(at_ : Int), (s : Int)⟩ : Gate)).getD 0) - 1 : Int)) (⟨(s : Int), (at_ : Int)⟩ : Gate) ((((updF aa (⟨(at_ : Int), (s : Int)⟩ : Gate) (((aa (⟨(at_ : Int), (s : Int)⟩ : Gate)).getD 0) - 1 : Int)) (⟨(s : Int), (at_ : Int)⟩ : Gate)).getD 0) + 1 : Int), ae))))
  else (
  M.grd (decide ((-9223372036854775808 : Int) <= ((s : Int) + 1)) && decide (((s : Int) + 1) <= (9223372036854775807 : Int))) <|
  M.pure (.inl (aa, ae, s + 1))))
  else (
  M.grd (decide ((-9223372036854775808 : Int) <= ((s : Int) + 1)) && decide (((s : Int) + 1) <= (9223372036854775807 : Int))) <|
  M.pure (.inl (mp, ab, s + 1))))
  else (
  M.pure (.inr (.inr (mp, ab))))
def zah (ae : ((List Work) × (List Int) × Int × (Gate -> Option Int) × (Int -> Option Bool) × Int) -> M (Bool × (Gate -> Option Int) × (Int -> Option Bool))) : ((List Work) × (List Int) × Int × (Gate -> Option Int) × (Int -> Option Bool) × Int) -> M (Bool × (Gate -> Option Int) × (Int -> Option Bool)) := fun (aa, ag, n_work, ab, ac, at_) =>
  M.grd (decide ((-9223372036854775808 : Int) <= (2 * n_work)) && decide ((2 * n_work) <= (9223372036854775807 : Int))) <|
  bif at_ == (2 * n_work) then (
  M.pure (true, ab, ac))
  else (
  M.grd (decide ((-9223372036854775808 : Int) <= (2 * (aa.length : Int))) && decide ((2 * (aa.length : Int)) <= (9223372036854775807 : Int))) <|
  M.bind (M.iter (zam aa ag n_work at_ ae) (ab, updF ac (at_ : Int) true, 0)) fun x_ => match x_ with
  | (.inl (ah, ai)) => (
  M.pure (true, ah, ai))
  | (.inr (aj, ak)) => (
  M.pure (false, aj, ak)))
theorem zbd : M.Mon zah := by
  intro n f g h a
  obtain ⟨aa, ab, n_work, ac, ae, at_⟩ := a
  simp only [zah, zam]
  repeat' (first | (with_reducible refine M.le_iter ?_ _; simp only [Prod.forall, zam]; intros) | with_reducible exact M.le_same _ _ | with_reducible exact h _ | with_reducible refine M.le_grd ?_ | with_reducible refine M.le_if ?_ ?_ | with_reducible refine M.le_bind ?_ (fun x => ?_) | with_reducible refine M.le_opt ?_ | with_reducible refine M.le_iter (fun x => ?_) _ | with_reducible refine zbf (M.le_yl (fun s_ a_ => ?_)) _ _ _ | (rename_i x; cases x) | (rename_i x; obtain ⟨_, _⟩ := x) | refine M.le_grd ?_ | refine M.le_if ?_ ?_ | refine M.le_bind ?_ (fun x => ?_) | refine M.le_opt ?_ | refine M.le_iter (fun x => ?_) _ | refine zbf (M.le_yl (fun s_ a_ => ?_)) _ _ _ | (rename_i x; cases x) | (rename_i x; obtain ⟨_, _⟩ := x))
def zaT (aa : List Work) (ab : List Int) (n_work : Int) (ac : Gate -> Option Int) (ae : Int -> Option Bool) (at_ : Int) : M (Bool × (Gate -> Option Int) × (Int -> Option Bool)) := M.fix zah zbd (aa, ab, n_work, ac, ae, at_)
theorem zbC (n_ : Nat) : ∀ {R : List Chunk} {ab : Nat} {al : Nat} {aA : Cells} {au : Value} {aB : Cells} {aC : Value} {ae : Nat} {ac : Nat} (ak : List Work) (ar : List Int) (n_work : Int) (ap : Gate -> Option Int) (am : Int -> Option Bool) (at_ : Int) (aE : Reads R aA) (av : Sl aA au ak) (aD : Has R (cBlk al [au] 187)) (aF : Reads R aB) (aG : Sl aB aC ar) (ai : Has R (cBlk ab [Pz al, aC, I n_work, .map (some ae), .map (some ac)] 180)) {r : (Bool × (Gate -> Option Int) × (Int -> Option Bool))} (hM : (M.fixN zah n_ (ak, ar, n_work, ap, am, at_)).Ends r) (w : World) (H : St w w [cMap encG I ae ap, cMap I B ac am] R), Ret Try.prog 126 #[Pz ab, I at_] w fun v w' => ∃ (y0 : Bool) (y1 : Gate -> Option Int) (y2 : Int -> Option Bool), (y0, y1, y2) = r /\ v = B y0 /\ St w w' [cMap encG I ae y1, cMap I B ac y2] R := by
  induction n_ with
  | zero => intro R ab al aA au aB aC ae ac ak ar n_work ap am at_ aE av aD aF aG ai r hM w H; exact (M.e_fail hM).elim
  | succ n_ ih =>
    intro R ab al aA au aB aC ae ac ak ar n_work ap am at_ aE av aD aF aG ai r hM w H
    refine ret_of_W Try.func126 rfl rfl rfl ?_
    refine sQ rfl <| sA (B false) rfl <| s_nil <| W.seq <| sQ rfl <| sM (I at_) rfl <| sM (Pz ab) rfl <| s_val (x_nc (a := ⟨ab, 0, none⟩) rfl) <| s_val (x_fa (v := Oz ab 2) rfl (fa_blk (o := 0) Fd180_2 Sz3)) <| s_val (x_ld (v := I n_work) rfl (ldb_sc Sc3 (ai.blk H) rfl)) ?_
    obtain ⟨bl, hM⟩ := M.e_gd hM
    refine sR _ _ (2 * n_work) rfl rfl rfl (by omega) <| sC _ _ (at_ == (2 * n_work)) rfl rfl rfl <| s_nil ?_
    refine W.cond (at_ == (2 * n_work)) rfl (fun aw => ?_) (fun aw => ?_)
    ·replace hM := M.e_t hM aw
     simp only [qz1, qz2, qz3, qz4, qz5, qz6, ne_eq, qz7] at aw
     refine sQ rfl <| sA (B true) rfl <| s_nil ?_
     refine W.ret ?_
     have aj := M.e_pure hM
     exact ⟨_, resE_tmp rfl, ⟨true, ap, am, aj, rfl, H⟩⟩
    replace hM := M.e_f hM aw
    simp only [qz1, qz2, qz3, qz4, qz5, qz6, ne_eq, qz7] at aw
    refine W.skip <| sQ rfl <| sM (Pz ab) rfl <| s_val (x_nc (a := ⟨ab, 0, none⟩) rfl) <| s_val (x_fa (v := Oz ab 4) rfl (fa_blk (o := 0) Fd180_4 Sz178)) <| s_val (x_ld (v := .map (some ac)) rfl (ldb_sc Sc178 (ai.blk H) rfl)) <| sM (I at_) rfl ?_
    refine t_mapu (i := 1) (kenc := I) (venc := B) (f := am) (k := (at_ : Int)) (v := true) (L' := [cMap encG I ae ap, cMap I B ac (updF am (at_ : Int) true)]) keyIntB Try.underlying178 H rfl rfl rfl rfl rfl ?_
    intro bm H
    refine s_nil <| W.seq <| sQ rfl <| sM (Pz ab) rfl <| s_val (x_nc (a := ⟨ab, 0, none⟩) rfl) <| s_val (x_fa (v := Pz ab) rfl (fa_blk (o := 0) Fd180_0 Sz127)) <| s_val (x_ld (v := Pz al) rfl (ldb_sc Sc127 (ai.blk H) rfl)) <| s_val (x_nc (a := ⟨al, 0, none⟩) rfl) <| s_val (x_fa (v := Pz al) rfl (fa_blk (o := 0) Fd187_0 Sz185)) <| s_val (x_fa (v := Pz al) rfl (fa_blk (o := 0) Fd185_0 Sz22)) <| s_val (x_ld (v := au) rfl (ldb_sc Sc22 (aD.blk H) rfl)) ?_
    have bn := (av).len_le
    refine s_val (x_lenS T22.und rfl av) ?_
    obtain ⟨bo, hM⟩ := M.e_gd hM
    refine sR _ _ (2 * (ak.length : Int)) rfl rfl rfl (by omega) <| sM (I 0) rfl <| s_nil <| W.block ?_
    obtain ⟨aU, aH, ax⟩ := M.e_bind hM
    obtain ⟨bp, aH⟩ := M.e_iter aH
    refine W.loop (fun m σ W => ∃ (mp : Gate -> Option Int) (ah : Int -> Option Bool) (s : Nat) (ρ : Env), σ = upds ρ [(0, Pz ab), (1, I at_), (27, I (2 * (ak.length : Int))), (28, I (s : Int))] /\ M.iterN (zam ak ar n_work at_ (M.fixN zah n_)) m (mp, ah, s) = some aU /\ St w W [cMap encG I ae mp, cMap I B ac ah] R) ?_ ?_
    ·exact ⟨_, ap, updF am (at_ : Int) true, 0, _, upds_of _ _ ⟨rfl, rfl, rfl, rfl, trivial⟩, aH, H⟩
    rintro bq σ br ⟨mp, ah, s, ρ, rfl, aP, H⟩
    obtain ⟨aQ, aR, bt, hM, aq⟩ := M.e_iterN aP
    simp only [zam] at hM
    clear aP
    refine sQ rfl <| sC _ _ (decide ((s : Int) < (2 * (ak.length : Int)))) rfl rfl rfl <| s_nil <| W.seq ?_
    refine W.cond (decide ((s : Int) < (2 * (ak.length : Int)))) rfl (fun ay => ?_) (fun ay => ?_)
    ·replace hM := M.e_t hM ay
     simp only [qz1, qz2, qz3, qz4, qz5, qz6, ne_eq, qz7] at ay
     refine W.skip <| W.seq <| W.block <| sQ rfl <| sM (I (s : Int)) rfl <| sA (I (s : Int)) rfl <| s_nil <| sQ rfl <| sM (Pz ab) rfl <| s_val (x_nc (a := ⟨ab, 0, none⟩) rfl) ?_
     refine s_val (x_fa (v := Oz ab 3) rfl (fa_blk (o := 0) Fd180_3 Sz177)) <| s_val (x_ld (v := .map (some ae)) rfl (ldb_sc Sc177 (ai.blk H) rfl)) <| sM (I at_) rfl <| sM (I (s : Int)) rfl <| s_val (x_bld (ps := [(0, I at_), (1, I (s : Int))]) (zs := [I 0, I 0]) (L' := [I at_, I (s : Int)]) rfl Try.underlying182 Al182 rfl (Bd182 Try.underlying182) (.cons (cs := [I at_]) rfl rfl rfl rfl rfl <| .cons (cs := [I (s : Int)]) rfl rfl rfl rfl rfl <| .nil)) <| s_val (q_look (kenc := encG) (venc := I) (f := mp) (k := (⟨(at_ : Int), (s : Int)⟩ : Gate)) (v := I ((mp (⟨(at_ : Int), (s : Int)⟩ : Gate)).getD 0)) keyGate Try.underlying177 Al3 rfl rfl (H.get (k := 0) rfl) false (by rw [if_neg (by decide), int_val])) <| sC _ _ (decide (0 < ((mp (⟨(at_ : Int), (s : Int)⟩ : Gate)).getD 0))) rfl rfl rfl <| sM (B (decide (0 < ((mp (⟨(at_ : Int), (s : Int)⟩ : Gate)).getD 0)))) rfl <| g_val (decide (0 < ((mp (⟨(at_ : Int), (s : Int)⟩ : Gate)).getD 0))) (gy_t rfl) (fun hg => x_mv (v := Pz ab) rfl) <| g_val (decide (0 < ((mp (⟨(at_ : Int), (s : Int)⟩ : Gate)).getD 0))) (gy_t rfl) (fun hg => x_nc (a := ⟨ab, 0, none⟩) (gd_of hg (Pz ab))) <| g_val (decide (0 < ((mp (⟨(at_ : Int), (s : Int)⟩ : Gate)).getD 0))) (gy_t rfl) (fun hg => x_fa (v := Oz ab 4) (gd_of hg (Pz ab)) (fa_blk (o := 0) Fd180_4 Sz178)) <| g_val (decide (0 < ((mp (⟨(at_ : Int), (s : Int)⟩ : Gate)).getD 0))) (gy_t rfl) (fun hg => x_ld (v := .map (some ac)) (gd_of hg (Oz ab 4)) (ldb_sc Sc178 (ai.blk H) rfl)) ?_
     refine g_val (decide (0 < ((mp (⟨(at_ : Int), (s : Int)⟩ : Gate)).getD 0))) (gy_t rfl) (fun hg => x_mv (v := I (s : Int)) rfl) <| g_val (decide (0 < ((mp (⟨(at_ : Int), (s : Int)⟩ : Gate)).getD 0))) (gy_t rfl) (fun hg => q_look (kenc := I) (venc := B) (f := ah) (k := (s : Int)) (v := B ((ah (s : Int)).getD false)) keyIntB Try.underlying178 Al4 (by exact (gd_of hg (.map (some ac)))) (by exact (gd_of hg (I (s : Int)))) (H.get (k := 1) rfl) false (by rw [if_neg (by decide), bool_val])) <| g_val (decide (0 < ((mp (⟨(at_ : Int), (s : Int)⟩ : Gate)).getD 0))) (gy_t rfl) (fun hg => x_not (b := (ah (s : Int)).getD false) (gd_of hg (B ((ah (s : Int)).getD false)))) <| s_val (x_pand (b := decide (0 < ((mp (⟨(at_ : Int), (s : Int)⟩ : Gate)).getD 0))) (r := !((ah (s : Int)).getD false)) rfl (fun hb => gd_of (c := decide (0 < ((mp (⟨(at_ : Int), (s : Int)⟩ : Gate)).getD 0))) (by first | exact hb | (rw [hb]; rfl) | simp_all) (B (!((ah (s : Int)).getD false)))) rfl) <| sM (B ((decide (0 < ((mp (⟨(at_ : Int), (s : Int)⟩ : Gate)).getD 0))) && (!((ah (s : Int)).getD false)))) rfl <| g_val ((decide (0 < ((mp (⟨(at_ : Int), (s : Int)⟩ : Gate)).getD 0))) && (!((ah (s : Int)).getD false))) (gy_t rfl) (fun hg => x_mv (v := Pz ab) rfl) <| g_val ((decide (0 < ((mp (⟨(at_ : Int), (s : Int)⟩ : Gate)).getD 0))) && (!((ah (s : Int)).getD false))) (gy_t rfl) (fun hg => x_mv (v := I (s : Int)) rfl) ?_
     refine g_splitV ((decide (0 < ((mp (⟨(at_ : Int), (s : Int)⟩ : Gate)).getD 0))) && (!((ah (s : Int)).getD false))) (B false) (gy_t rfl) (fun az => ?_) (fun az => ?_)
     ·replace hM := M.e_t hM az
      obtain ⟨bu, aV, hM⟩ := M.e_bind hM
      refine s_call cf126 [Pz ab, I (s : Int)] (lst2 (gd_of (c := ((decide (0 < ((mp (⟨(at_ : Int), (s : Int)⟩ : Gate)).getD 0))) && (!((ah (s : Int)).getD false)))) az (Pz ab)) (gd_of (c := ((decide (0 < ((mp (⟨(at_ : Int), (s : Int)⟩ : Gate)).getD 0))) && (!((ah (s : Int)).getD false)))) az (I (s : Int)))) (ih ak ar n_work mp ah (s : Int) (aE.app _) av (aD.app _) (aF.app _) aG (ai.app _) aV _ (St.give (T := []) H rfl)) ?_
      rintro vq aW ⟨r9, aa, ag, aX, hvq, aS⟩
      subst aX
      subst vq
      try dsimp only at hM
      replace H : St w aW [cMap encG I ae aa, cMap I B ac ag] R := H.back aS rfl
      clear aS
      refine s_val (x_pand (b := ((decide (0 < ((mp (⟨(at_ : Int), (s : Int)⟩ : Gate)).getD 0))) && (!((ah (s : Int)).getD false)))) (r := r9) rfl (fun _ => rfl) rfl) <| s_nil ?_
      refine W.cond (((decide (0 < ((mp (⟨(at_ : Int), (s : Int)⟩ : Gate)).getD 0))) && (!((ah (s : Int)).getD false))) && r9) rfl (fun aI => ?_) (fun aI => ?_)
      ·replace hM := M.e_t hM aI
       refine W.seq ?_
       refine W.drawT (fun W => St w W [cMap I B ac ag] R) (.q 0 (.q 1 (.q 2 (.q 3 (.q 4 (.q 5 (.q 6 (.l2 7 (.q 8 (.l 9 (.q 10 (.l 11 .nil)))) 9 (.q 10 (.l 7 (.q 8 (.l 11 .nil)))))))))))) mixed (by decide +kernel) rfl ?_
       intro aY ao
       replace H : St w aY [cMap encG I ae aa, cMap I B ac ag] R := H.ext ao
       clear ao
       refine ⟨(H.pick [1] (by decide) rfl), ?_⟩
       refine t_q rfl (fun w' H => x_mv (v := Pz ab) rfl) ?_
       refine t_q rfl (fun w' H => x_nc (a := ⟨ab, 0, none⟩) rfl) ?_
       refine t_q rfl (fun w' H => x_fa (v := Oz ab 3) rfl (fa_blk (o := 0) Fd180_3 Sz177)) ?_
       refine t_q rfl (fun w' H => x_ld (v := .map (some ae)) rfl (ldb_sc Sc177 (ai.blk H) rfl)) ?_
       refine t_q rfl (fun w' H => x_mv (v := I at_) rfl) ?_
       refine t_q rfl (fun w' H => x_mv (v := I (s : Int)) rfl) ?_
       refine t_q rfl (fun w' H => x_bld (ps := [(0, I at_), (1, I (s : Int))]) (zs := [I 0, I 0]) (L' := [I at_, I (s : Int)]) rfl Try.underlying182 Al182 rfl (Bd182 Try.underlying182) (.cons (cs := [I at_]) rfl rfl rfl rfl rfl <| .cons (cs := [I (s : Int)]) rfl rfl rfl rfl rfl <| .nil)) ?_
       obtain ⟨bv, hM⟩ := M.e_gd hM
       refine t_l2 rfl rfl ?_ ?_
       ·skip
        refine s_val (q_look (kenc := encG) (venc := I) (f := aa) (k := (⟨(at_ : Int), (s : Int)⟩ : Gate)) (v := I ((aa (⟨(at_ : Int), (s : Int)⟩ : Gate)).getD 0)) keyGate Try.underlying177 Al3 rfl rfl (H.get (k := 0) rfl) false (by rw [if_neg (by decide), int_val])) ?_
        refine s_nil ⟨(H.pick [1] (by decide) rfl), ?_⟩
        refine t_q rfl (fun w' H => x_ari (r := ((aa (⟨(at_ : Int), (s : Int)⟩ : Gate)).getD 0) - 1) rfl rfl rfl (by omega)) ?_
        refine t_l rfl ?_
        refine t_ment (i := 0) (kenc := encG) (venc := I) (f := aa) (k := (⟨(at_ : Int), (s : Int)⟩ : Gate)) (z := 0) keyGate Try.underlying177 Al3 H rfl rfl rfl ?_
        intro aJ aZ H
        replace H : St w aZ [cEnt encG I ae (updF aa (⟨(at_ : Int), (s : Int)⟩ : Gate) ((aa (⟨(at_ : Int), (s : Int)⟩ : Gate)).getD 0)) (⟨(at_ : Int), (s : Int)⟩ : Gate) aJ, cMap I B ac ag] R := H
        refine s_nil ⟨(H.pick [1] (by decide) rfl), ?_⟩
        refine t_q rfl (fun w' H => x_ext (vs := [I ((aa (⟨(at_ : Int), (s : Int)⟩ : Gate)).getD 0), .int .i64 aJ]) (v := .int .i64 aJ) rfl rfl) ?_
        refine t_l rfl ?_
        refine t_enst (i := 0) (kenc := encG) (venc := I) (f0 := aa) (k := (⟨(at_ : Int), (s : Int)⟩ : Gate)) (v := (((aa (⟨(at_ : Int), (s : Int)⟩ : Gate)).getD 0) - 1 : Int)) (L' := [cMap encG I ae (updF aa (⟨(at_ : Int), (s : Int)⟩ : Gate) (((aa (⟨(at_ : Int), (s : Int)⟩ : Gate)).getD 0) - 1 : Int)), cMap I B ac ag]) H rfl rfl rfl rfl rfl ?_
        intro bw H
        refine s_nil ⟨(H.pick [1] (by decide) rfl), ?_⟩
        refine t_nil ?_
        refine W.seq ?_
        refine W.drawT (fun W => St w W [cMap I B ac ag] R) (.q 0 (.q 1 (.q 2 (.q 3 (.q 4 (.q 5 (.q 6 (.l2 7 (.q 8 (.l 9 (.q 10 (.l 11 .nil)))) 9 (.q 10 (.l 7 (.q 8 (.l 11 .nil)))))))))))) mixed (by decide +kernel) rfl ?_
        intro a6 ao
        replace H : St w a6 [cMap encG I ae (updF aa (⟨(at_ : Int), (s : Int)⟩ : Gate) (((aa (⟨(at_ : Int), (s : Int)⟩ : Gate)).getD 0) - 1 : Int)), cMap I B ac ag] R := H.ext ao
        clear ao
        refine ⟨(H.pick [1] (by decide) rfl), ?_⟩
        refine t_q rfl (fun w' H => x_mv (v := Pz ab) rfl) ?_
        refine t_q rfl (fun w' H => x_nc (a := ⟨ab, 0, none⟩) rfl) ?_
        refine t_q rfl (fun w' H => x_fa (v := Oz ab 3) rfl (fa_blk (o := 0) Fd180_3 Sz177)) ?_
        refine t_q rfl (fun w' H => x_ld (v := .map (some ae)) rfl (ldb_sc Sc177 (ai.blk H) rfl)) ?_
        refine t_q rfl (fun w' H => x_mv (v := I (s : Int)) rfl) ?_
        refine t_q rfl (fun w' H => x_mv (v := I at_) rfl) ?_
        refine t_q rfl (fun w' H => x_bld (ps := [(0, I (s : Int)), (1, I at_)]) (zs := [I 0, I 0]) (L' := [I (s : Int), I at_]) rfl Try.underlying182 Al182 rfl (Bd182 Try.underlying182) (.cons (cs := [I (s : Int)]) rfl rfl rfl rfl rfl <| .cons (cs := [I at_]) rfl rfl rfl rfl rfl <| .nil)) ?_
        obtain ⟨bx, hM⟩ := M.e_gd hM
        refine t_l2 rfl rfl ?_ ?_
        ·skip
         refine s_val (q_look (kenc := encG) (venc := I) (f := updF aa (⟨(at_ : Int), (s : Int)⟩ : Gate) (((aa (⟨(at_ : Int), (s : Int)⟩ : Gate)).getD 0) - 1 : Int)) (k := (⟨(s : Int), (at_ : Int)⟩ : Gate)) (v := I (((updF aa (⟨(at_ : Int), (s : Int)⟩ : Gate) (((aa (⟨(at_ : Int), (s : Int)⟩ : Gate)).getD 0) - 1 : Int)) (⟨(s : Int), (at_ : Int)⟩ : Gate)).getD 0)) keyGate Try.underlying177 Al3 rfl rfl (H.get (k := 0) rfl) false (by rw [if_neg (by decide), int_val])) ?_
         refine s_nil ⟨(H.pick [1] (by decide) rfl), ?_⟩
         refine t_q rfl (fun w' H => x_ari (r := (((updF aa (⟨(at_ : Int), (s : Int)⟩ : Gate) (((aa (⟨(at_ : Int), (s : Int)⟩ : Gate)).getD 0) - 1 : Int)) (⟨(s : Int), (at_ : Int)⟩ : Gate)).getD 0) + 1) rfl rfl rfl (by omega)) ?_
         refine t_l rfl ?_
         refine t_ment (i := 0) (kenc := encG) (venc := I) (f := updF aa (⟨(at_ : Int), (s : Int)⟩ : Gate) (((aa (⟨(at_ : Int), (s : Int)⟩ : Gate)).getD 0) - 1 : Int)) (k := (⟨(s : Int), (at_ : Int)⟩ : Gate)) (z := 0) keyGate Try.underlying177 Al3 H rfl rfl rfl ?_
         intro aK a7 H
         replace H : St w a7 [cEnt encG I ae (updF (updF aa (⟨(at_ : Int), (s : Int)⟩ : Gate) (((aa (⟨(at_ : Int), (s : Int)⟩ : Gate)).getD 0) - 1 : Int)) (⟨(s : Int), (at_ : Int)⟩ : Gate) (((updF aa (⟨(at_ : Int), (s : Int)⟩ : Gate) (((aa (⟨(at_ : Int), (s : Int)⟩ : Gate)).getD 0) - 1 : Int)) (⟨(s : Int), (at_ : Int)⟩ : Gate)).getD 0)) (⟨(s : Int), (at_ : Int)⟩ : Gate) aK, cMap I B ac ag] R := H
         refine s_nil ⟨(H.pick [1] (by decide) rfl), ?_⟩
         refine t_q rfl (fun w' H => x_ext (vs := [I (((updF aa (⟨(at_ : Int), (s : Int)⟩ : Gate) (((aa (⟨(at_ : Int), (s : Int)⟩ : Gate)).getD 0) - 1 : Int)) (⟨(s : Int), (at_ : Int)⟩ : Gate)).getD 0), .int .i64 aK]) (v := .int .i64 aK) rfl rfl) ?_
         refine t_l rfl ?_
         refine t_enst (i := 0) (kenc := encG) (venc := I) (f0 := updF aa (⟨(at_ : Int), (s : Int)⟩ : Gate) (((aa (⟨(at_ : Int), (s : Int)⟩ : Gate)).getD 0) - 1 : Int)) (k := (⟨(s : Int), (at_ : Int)⟩ : Gate)) (v := ((((updF aa (⟨(at_ : Int), (s : Int)⟩ : Gate) (((aa (⟨(at_ : Int), (s : Int)⟩ : Gate)).getD 0) - 1 : Int)) (⟨(s : Int), (at_ : Int)⟩ : Gate)).getD 0) + 1 : Int)) (L' := [cMap encG I ae (updF (updF aa (⟨(at_ : Int), (s : Int)⟩ : Gate) (((aa (⟨(at_ : Int), (s : Int)⟩ : Gate)).getD 0) - 1 : Int)) (⟨(s : Int), (at_ : Int)⟩ : Gate) ((((updF aa (⟨(at_ : Int), (s : Int)⟩ : Gate) (((aa (⟨(at_ : Int), (s : Int)⟩ : Gate)).getD 0) - 1 : Int)) (⟨(s : Int), (at_ : Int)⟩ : Gate)).getD 0) + 1 : Int)), cMap I B ac ag]) H rfl rfl rfl rfl rfl ?_
         intro bz H
         refine s_nil ⟨(H.pick [1] (by decide) rfl), ?_⟩
         refine t_nil ?_
         refine sQ rfl <| sA (B true) rfl <| s_nil ?_
         refine W.ret ?_
         have a8 := M.e_inr hM aq
         subst a8
         replace hM := ax
         try dsimp only at hM
         have aj := M.e_pure hM
         exact ⟨_, resE_tmp rfl, ⟨true, (updF (updF aa (⟨(at_ : Int), (s : Int)⟩ : Gate) (((aa (⟨(at_ : Int), (s : Int)⟩ : Gate)).getD 0) - 1 : Int)) (⟨(s : Int), (at_ : Int)⟩ : Gate) ((((updF aa (⟨(at_ : Int), (s : Int)⟩ : Gate) (((aa (⟨(at_ : Int), (s : Int)⟩ : Gate)).getD 0) - 1 : Int)) (⟨(s : Int), (at_ : Int)⟩ : Gate)).getD 0) + 1 : Int)), ag, aj, rfl, H⟩⟩
        skip
        refine t_ment (i := 0) (kenc := encG) (venc := I) (f := updF aa (⟨(at_ : Int), (s : Int)⟩ : Gate) (((aa (⟨(at_ : Int), (s : Int)⟩ : Gate)).getD 0) - 1 : Int)) (k := (⟨(s : Int), (at_ : Int)⟩ : Gate)) (z := 0) keyGate Try.underlying177 Al3 H rfl rfl rfl ?_
        intro aL ba H
        replace H : St w ba [cEnt encG I ae (updF (updF aa (⟨(at_ : Int), (s : Int)⟩ : Gate) (((aa (⟨(at_ : Int), (s : Int)⟩ : Gate)).getD 0) - 1 : Int)) (⟨(s : Int), (at_ : Int)⟩ : Gate) (((updF aa (⟨(at_ : Int), (s : Int)⟩ : Gate) (((aa (⟨(at_ : Int), (s : Int)⟩ : Gate)).getD 0) - 1 : Int)) (⟨(s : Int), (at_ : Int)⟩ : Gate)).getD 0)) (⟨(s : Int), (at_ : Int)⟩ : Gate) aL, cMap I B ac ag] R := H
        refine s_nil ⟨(H.pick [1] (by decide) rfl), ?_⟩
        refine t_q rfl (fun w' H => x_ext (vs := [I (((updF aa (⟨(at_ : Int), (s : Int)⟩ : Gate) (((aa (⟨(at_ : Int), (s : Int)⟩ : Gate)).getD 0) - 1 : Int)) (⟨(s : Int), (at_ : Int)⟩ : Gate)).getD 0), .int .i64 aL]) (v := .int .i64 aL) rfl rfl) ?_
        refine t_l rfl ?_
        refine s_val (q_look (kenc := encG) (venc := I) (f := updF (updF aa (⟨(at_ : Int), (s : Int)⟩ : Gate) (((aa (⟨(at_ : Int), (s : Int)⟩ : Gate)).getD 0) - 1 : Int)) (⟨(s : Int), (at_ : Int)⟩ : Gate) (((updF aa (⟨(at_ : Int), (s : Int)⟩ : Gate) (((aa (⟨(at_ : Int), (s : Int)⟩ : Gate)).getD 0) - 1 : Int)) (⟨(s : Int), (at_ : Int)⟩ : Gate)).getD 0)) (k := (⟨(s : Int), (at_ : Int)⟩ : Gate)) (v := I (((updF aa (⟨(at_ : Int), (s : Int)⟩ : Gate) (((aa (⟨(at_ : Int), (s : Int)⟩ : Gate)).getD 0) - 1 : Int)) (⟨(s : Int), (at_ : Int)⟩ : Gate)).getD 0)) keyGate Try.underlying177 Al3 rfl rfl (entMap (H.get (k := 0) rfl)) false (by rw [if_neg (by decide), int_val, updF_same])) ?_
        refine s_nil ⟨(H.pick [1] (by decide) rfl), ?_⟩
        refine t_q rfl (fun w' H => x_ari (r := (((updF aa (⟨(at_ : Int), (s : Int)⟩ : Gate) (((aa (⟨(at_ : Int), (s : Int)⟩ : Gate)).getD 0) - 1 : Int)) (⟨(s : Int), (at_ : Int)⟩ : Gate)).getD 0) + 1) rfl rfl rfl (by omega)) ?_
        refine t_l rfl ?_
        refine t_enst (i := 0) (kenc := encG) (venc := I) (f0 := updF aa (⟨(at_ : Int), (s : Int)⟩ : Gate) (((aa (⟨(at_ : Int), (s : Int)⟩ : Gate)).getD 0) - 1 : Int)) (k := (⟨(s : Int), (at_ : Int)⟩ : Gate)) (v := ((((updF aa (⟨(at_ : Int), (s : Int)⟩ : Gate) (((aa (⟨(at_ : Int), (s : Int)⟩ : Gate)).getD 0) - 1 : Int)) (⟨(s : Int), (at_ : Int)⟩ : Gate)).getD 0) + 1 : Int)) (L' := [cMap encG I ae (updF (updF aa (⟨(at_ : Int), (s : Int)⟩ : Gate) (((aa (⟨(at_ : Int), (s : Int)⟩ : Gate)).getD 0) - 1 : Int)) (⟨(s : Int), (at_ : Int)⟩ : Gate) ((((updF aa (⟨(at_ : Int), (s : Int)⟩ : Gate) (((aa (⟨(at_ : Int), (s : Int)⟩ : Gate)).getD 0) - 1 : Int)) (⟨(s : Int), (at_ : Int)⟩ : Gate)).getD 0) + 1 : Int)), cMap I B ac ag]) H rfl rfl rfl rfl rfl ?_
        intro bA H
        refine s_nil ⟨(H.pick [1] (by decide) rfl), ?_⟩
        refine t_nil ?_
        refine sQ rfl <| sA (B true) rfl <| s_nil ?_
        refine W.ret ?_
        have bb := M.e_inr hM aq
        subst bb
        replace hM := ax
        try dsimp only at hM
        have aj := M.e_pure hM
        exact ⟨_, resE_tmp rfl, ⟨true, (updF (updF aa (⟨(at_ : Int), (s : Int)⟩ : Gate) (((aa (⟨(at_ : Int), (s : Int)⟩ : Gate)).getD 0) - 1 : Int)) (⟨(s : Int), (at_ : Int)⟩ : Gate) ((((updF aa (⟨(at_ : Int), (s : Int)⟩ : Gate) (((aa (⟨(at_ : Int), (s : Int)⟩ : Gate)).getD 0) - 1 : Int)) (⟨(s : Int), (at_ : Int)⟩ : Gate)).getD 0) + 1 : Int)), ag, aj, rfl, H⟩⟩
       skip
       refine t_ment (i := 0) (kenc := encG) (venc := I) (f := aa) (k := (⟨(at_ : Int), (s : Int)⟩ : Gate)) (z := 0) keyGate Try.underlying177 Al3 H rfl rfl rfl ?_
       intro aM bc H
       replace H : St w bc [cEnt encG I ae (updF aa (⟨(at_ : Int), (s : Int)⟩ : Gate) ((aa (⟨(at_ : Int), (s : Int)⟩ : Gate)).getD 0)) (⟨(at_ : Int), (s : Int)⟩ : Gate) aM, cMap I B ac ag] R := H
       refine s_nil ⟨(H.pick [1] (by decide) rfl), ?_⟩
       refine t_q rfl (fun w' H => x_ext (vs := [I ((aa (⟨(at_ : Int), (s : Int)⟩ : Gate)).getD 0), .int .i64 aM]) (v := .int .i64 aM) rfl rfl) ?_
       refine t_l rfl ?_
       refine s_val (q_look (kenc := encG) (venc := I) (f := updF aa (⟨(at_ : Int), (s : Int)⟩ : Gate) ((aa (⟨(at_ : Int), (s : Int)⟩ : Gate)).getD 0)) (k := (⟨(at_ : Int), (s : Int)⟩ : Gate)) (v := I ((aa (⟨(at_ : Int), (s : Int)⟩ : Gate)).getD 0)) keyGate Try.underlying177 Al3 rfl rfl (entMap (H.get (k := 0) rfl)) false (by rw [if_neg (by decide), int_val, updF_same])) ?_
       refine s_nil ⟨(H.pick [1] (by decide) rfl), ?_⟩
       refine t_q rfl (fun w' H => x_ari (r := ((aa (⟨(at_ : Int), (s : Int)⟩ : Gate)).getD 0) - 1) rfl rfl rfl (by omega)) ?_
       refine t_l rfl ?_
       refine t_enst (i := 0) (kenc := encG) (venc := I) (f0 := aa) (k := (⟨(at_ : Int), (s : Int)⟩ : Gate)) (v := (((aa (⟨(at_ : Int), (s : Int)⟩ : Gate)).getD 0) - 1 : Int)) (L' := [cMap encG I ae (updF aa (⟨(at_ : Int), (s : Int)⟩ : Gate) (((aa (⟨(at_ : Int), (s : Int)⟩ : Gate)).getD 0) - 1 : Int)), cMap I B ac ag]) H rfl rfl rfl rfl rfl ?_
       intro bB H
       refine s_nil ⟨(H.pick [1] (by decide) rfl), ?_⟩
       refine t_nil ?_
       refine W.seq ?_
       refine W.drawT (fun W => St w W [cMap I B ac ag] R) (.q 0 (.q 1 (.q 2 (.q 3 (.q 4 (.q 5 (.q 6 (.l2 7 (.q 8 (.l 9 (.q 10 (.l 11 .nil)))) 9 (.q 10 (.l 7 (.q 8 (.l 11 .nil)))))))))))) mixed (by decide +kernel) rfl ?_
       intro bf ao
       replace H : St w bf [cMap encG I ae (updF aa (⟨(at_ : Int), (s : Int)⟩ : Gate) (((aa (⟨(at_ : Int), (s : Int)⟩ : Gate)).getD 0) - 1 : Int)), cMap I B ac ag] R := H.ext ao
       clear ao
       refine ⟨(H.pick [1] (by decide) rfl), ?_⟩
       refine t_q rfl (fun w' H => x_mv (v := Pz ab) rfl) ?_
       refine t_q rfl (fun w' H => x_nc (a := ⟨ab, 0, none⟩) rfl) ?_
       refine t_q rfl (fun w' H => x_fa (v := Oz ab 3) rfl (fa_blk (o := 0) Fd180_3 Sz177)) ?_
       refine t_q rfl (fun w' H => x_ld (v := .map (some ae)) rfl (ldb_sc Sc177 (ai.blk H) rfl)) ?_
       refine t_q rfl (fun w' H => x_mv (v := I (s : Int)) rfl) ?_
       refine t_q rfl (fun w' H => x_mv (v := I at_) rfl) ?_
       refine t_q rfl (fun w' H => x_bld (ps := [(0, I (s : Int)), (1, I at_)]) (zs := [I 0, I 0]) (L' := [I (s : Int), I at_]) rfl Try.underlying182 Al182 rfl (Bd182 Try.underlying182) (.cons (cs := [I (s : Int)]) rfl rfl rfl rfl rfl <| .cons (cs := [I at_]) rfl rfl rfl rfl rfl <| .nil)) ?_
       obtain ⟨bC, hM⟩ := M.e_gd hM
       refine t_l2 rfl rfl ?_ ?_
       ·skip
        refine s_val (q_look (kenc := encG) (venc := I) (f := updF aa (⟨(at_ : Int), (s : Int)⟩ : Gate) (((aa (⟨(at_ : Int), (s : Int)⟩ : Gate)).getD 0) - 1 : Int)) (k := (⟨(s : Int), (at_ : Int)⟩ : Gate)) (v := I (((updF aa (⟨(at_ : Int), (s : Int)⟩ : Gate) (((aa (⟨(at_ : Int), (s : Int)⟩ : Gate)).getD 0) - 1 : Int)) (⟨(s : Int), (at_ : Int)⟩ : Gate)).getD 0)) keyGate Try.underlying177 Al3 rfl rfl (H.get (k := 0) rfl) false (by rw [if_neg (by decide), int_val])) ?_
        refine s_nil ⟨(H.pick [1] (by decide) rfl), ?_⟩
        refine t_q rfl (fun w' H => x_ari (r := (((updF aa (⟨(at_ : Int), (s : Int)⟩ : Gate) (((aa (⟨(at_ : Int), (s : Int)⟩ : Gate)).getD 0) - 1 : Int)) (⟨(s : Int), (at_ : Int)⟩ : Gate)).getD 0) + 1) rfl rfl rfl (by omega)) ?_
        refine t_l rfl ?_
        refine t_ment (i := 0) (kenc := encG) (venc := I) (f := updF aa (⟨(at_ : Int), (s : Int)⟩ : Gate) (((aa (⟨(at_ : Int), (s : Int)⟩ : Gate)).getD 0) - 1 : Int)) (k := (⟨(s : Int), (at_ : Int)⟩ : Gate)) (z := 0) keyGate Try.underlying177 Al3 H rfl rfl rfl ?_
        intro aN bg H
        replace H : St w bg [cEnt encG I ae (updF (updF aa (⟨(at_ : Int), (s : Int)⟩ : Gate) (((aa (⟨(at_ : Int), (s : Int)⟩ : Gate)).getD 0) - 1 : Int)) (⟨(s : Int), (at_ : Int)⟩ : Gate) (((updF aa (⟨(at_ : Int), (s : Int)⟩ : Gate) (((aa (⟨(at_ : Int), (s : Int)⟩ : Gate)).getD 0) - 1 : Int)) (⟨(s : Int), (at_ : Int)⟩ : Gate)).getD 0)) (⟨(s : Int), (at_ : Int)⟩ : Gate) aN, cMap I B ac ag] R := H
        refine s_nil ⟨(H.pick [1] (by decide) rfl), ?_⟩
        refine t_q rfl (fun w' H => x_ext (vs := [I (((updF aa (⟨(at_ : Int), (s : Int)⟩ : Gate) (((aa (⟨(at_ : Int), (s : Int)⟩ : Gate)).getD 0) - 1 : Int)) (⟨(s : Int), (at_ : Int)⟩ : Gate)).getD 0), .int .i64 aN]) (v := .int .i64 aN) rfl rfl) ?_
        refine t_l rfl ?_
        refine t_enst (i := 0) (kenc := encG) (venc := I) (f0 := updF aa (⟨(at_ : Int), (s : Int)⟩ : Gate) (((aa (⟨(at_ : Int), (s : Int)⟩ : Gate)).getD 0) - 1 : Int)) (k := (⟨(s : Int), (at_ : Int)⟩ : Gate)) (v := ((((updF aa (⟨(at_ : Int), (s : Int)⟩ : Gate) (((aa (⟨(at_ : Int), (s : Int)⟩ : Gate)).getD 0) - 1 : Int)) (⟨(s : Int), (at_ : Int)⟩ : Gate)).getD 0) + 1 : Int)) (L' := [cMap encG I ae (updF (updF aa (⟨(at_ : Int), (s : Int)⟩ : Gate) (((aa (⟨(at_ : Int), (s : Int)⟩ : Gate)).getD 0) - 1 : Int)) (⟨(s : Int), (at_ : Int)⟩ : Gate) ((((updF aa (⟨(at_ : Int), (s : Int)⟩ : Gate) (((aa (⟨(at_ : Int), (s : Int)⟩ : Gate)).getD 0) - 1 : Int)) (⟨(s : Int), (at_ : Int)⟩ : Gate)).getD 0) + 1 : Int)), cMap I B ac ag]) H rfl rfl rfl rfl rfl ?_
        intro bD H
        refine s_nil ⟨(H.pick [1] (by decide) rfl), ?_⟩
        refine t_nil ?_
        refine sQ rfl <| sA (B true) rfl <| s_nil ?_
        refine W.ret ?_
        have bh := M.e_inr hM aq
        subst bh
        replace hM := ax
        try dsimp only at hM
        have aj := M.e_pure hM
        exact ⟨_, resE_tmp rfl, ⟨true, (updF (updF aa (⟨(at_ : Int), (s : Int)⟩ : Gate) (((aa (⟨(at_ : Int), (s : Int)⟩ : Gate)).getD 0) - 1 : Int)) (⟨(s : Int), (at_ : Int)⟩ : Gate) ((((updF aa (⟨(at_ : Int), (s : Int)⟩ : Gate) (((aa (⟨(at_ : Int), (s : Int)⟩ : Gate)).getD 0) - 1 : Int)) (⟨(s : Int), (at_ : Int)⟩ : Gate)).getD 0) + 1 : Int)), ag, aj, rfl, H⟩⟩
       skip
       refine t_ment (i := 0) (kenc := encG) (venc := I) (f := updF aa (⟨(at_ : Int), (s : Int)⟩ : Gate) (((aa (⟨(at_ : Int), (s : Int)⟩ : Gate)).getD 0) - 1 : Int)) (k := (⟨(s : Int), (at_ : Int)⟩ : Gate)) (z := 0) keyGate Try.underlying177 Al3 H rfl rfl rfl ?_
       intro aO bi H
       replace H : St w bi [cEnt encG I ae (updF (updF aa (⟨(at_ : Int), (s : Int)⟩ : Gate) (((aa (⟨(at_ : Int), (s : Int)⟩ : Gate)).getD 0) - 1 : Int)) (⟨(s : Int), (at_ : Int)⟩ : Gate) (((updF aa (⟨(at_ : Int), (s : Int)⟩ : Gate) (((aa (⟨(at_ : Int), (s : Int)⟩ : Gate)).getD 0) - 1 : Int)) (⟨(s : Int), (at_ : Int)⟩ : Gate)).getD 0)) (⟨(s : Int), (at_ : Int)⟩ : Gate) aO, cMap I B ac ag] R := H
       refine s_nil ⟨(H.pick [1] (by decide) rfl), ?_⟩
       refine t_q rfl (fun w' H => x_ext (vs := [I (((updF aa (⟨(at_ : Int), (s : Int)⟩ : Gate) (((aa (⟨(at_ : Int), (s : Int)⟩ : Gate)).getD 0) - 1 : Int)) (⟨(s : Int), (at_ : Int)⟩ : Gate)).getD 0), .int .i64 aO]) (v := .int .i64 aO) rfl rfl) ?_
       refine t_l rfl ?_
       refine s_val (q_look (kenc := encG) (venc := I) (f := updF (updF aa (⟨(at_ : Int), (s : Int)⟩ : Gate) (((aa (⟨(at_ : Int), (s : Int)⟩ : Gate)).getD 0) - 1 : Int)) (⟨(s : Int), (at_ : Int)⟩ : Gate) (((updF aa (⟨(at_ : Int), (s : Int)⟩ : Gate) (((aa (⟨(at_ : Int), (s : Int)⟩ : Gate)).getD 0) - 1 : Int)) (⟨(s : Int), (at_ : Int)⟩ : Gate)).getD 0)) (k := (⟨(s : Int), (at_ : Int)⟩ : Gate)) (v := I (((updF aa (⟨(at_ : Int), (s : Int)⟩ : Gate) (((aa (⟨(at_ : Int), (s : Int)⟩ : Gate)).getD 0) - 1 : Int)) (⟨(s : Int), (at_ : Int)⟩ : Gate)).getD 0)) keyGate Try.underlying177 Al3 rfl rfl (entMap (H.get (k := 0) rfl)) false (by rw [if_neg (by decide), int_val, updF_same])) ?_
       refine s_nil ⟨(H.pick [1] (by decide) rfl), ?_⟩
       refine t_q rfl (fun w' H => x_ari (r := (((updF aa (⟨(at_ : Int), (s : Int)⟩ : Gate) (((aa (⟨(at_ : Int), (s : Int)⟩ : Gate)).getD 0) - 1 : Int)) (⟨(s : Int), (at_ : Int)⟩ : Gate)).getD 0) + 1) rfl rfl rfl (by omega)) ?_
       refine t_l rfl ?_
       refine t_enst (i := 0) (kenc := encG) (venc := I) (f0 := updF aa (⟨(at_ : Int), (s : Int)⟩ : Gate) (((aa (⟨(at_ : Int), (s : Int)⟩ : Gate)).getD 0) - 1 : Int)) (k := (⟨(s : Int), (at_ : Int)⟩ : Gate)) (v := ((((updF aa (⟨(at_ : Int), (s : Int)⟩ : Gate) (((aa (⟨(at_ : Int), (s : Int)⟩ : Gate)).getD 0) - 1 : Int)) (⟨(s : Int), (at_ : Int)⟩ : Gate)).getD 0) + 1 : Int)) (L' := [cMap encG I ae (updF (updF aa (⟨(at_ : Int), (s : Int)⟩ : Gate) (((aa (⟨(at_ : Int), (s : Int)⟩ : Gate)).getD 0) - 1 : Int)) (⟨(s : Int), (at_ : Int)⟩ : Gate) ((((updF aa (⟨(at_ : Int), (s : Int)⟩ : Gate) (((aa (⟨(at_ : Int), (s : Int)⟩ : Gate)).getD 0) - 1 : Int)) (⟨(s : Int), (at_ : Int)⟩ : Gate)).getD 0) + 1 : Int)), cMap I B ac ag]) H rfl rfl rfl rfl rfl ?_
       intro bE H
       refine s_nil ⟨(H.pick [1] (by decide) rfl), ?_⟩
       refine t_nil ?_
       refine sQ rfl <| sA (B true) rfl <| s_nil ?_
       refine W.ret ?_
       have bj := M.e_inr hM aq
       subst bj
       replace hM := ax
       try dsimp only at hM
       have aj := M.e_pure hM
       exact ⟨_, resE_tmp rfl, ⟨true, (updF (updF aa (⟨(at_ : Int), (s : Int)⟩ : Gate) (((aa (⟨(at_ : Int), (s : Int)⟩ : Gate)).getD 0) - 1 : Int)) (⟨(s : Int), (at_ : Int)⟩ : Gate) ((((updF aa (⟨(at_ : Int), (s : Int)⟩ : Gate) (((aa (⟨(at_ : Int), (s : Int)⟩ : Gate)).getD 0) - 1 : Int)) (⟨(s : Int), (at_ : Int)⟩ : Gate)).getD 0) + 1 : Int)), ag, aj, rfl, H⟩⟩
      replace hM := M.e_f hM aI
      refine W.skip <| W.region rfl ?_
      obtain ⟨bF, hM⟩ := M.e_gd hM
      refine sR _ _ ((s : Int) + 1) rfl rfl rfl (by omega) <| sM (I ((s : Int) + 1)) rfl <| s_nil ?_
      exact ⟨aQ, aR, aa, ag, s + 1, _, upds_of _ _ ⟨rfl, rfl, rfl, rfl, trivial⟩, M.e_inl hM aq, H⟩
     replace hM := M.e_f hM az
     refine s_val (x_pand0 (b := ((decide (0 < ((mp (⟨(at_ : Int), (s : Int)⟩ : Gate)).getD 0))) && (!((ah (s : Int)).getD false)))) rfl (fun hb => gd_of (c := ((decide (0 < ((mp (⟨(at_ : Int), (s : Int)⟩ : Gate)).getD 0))) && (!((ah (s : Int)).getD false)))) (by first | exact hb | (rw [hb]; rfl) | simp_all) (B false)) rfl) <| s_nil ?_
     refine W.cond false rfl (fun aT => ?_) (fun aT => ?_)
     ·skip
      exact absurd aT (by decide)
     skip
     refine W.skip <| W.region rfl ?_
     obtain ⟨bG, hM⟩ := M.e_gd hM
     refine sR _ _ ((s : Int) + 1) rfl rfl rfl (by omega) <| sM (I ((s : Int) + 1)) rfl <| s_nil ?_
     exact ⟨aQ, aR, mp, ah, s + 1, _, upds_of _ _ ⟨rfl, rfl, rfl, rfl, trivial⟩, M.e_inl hM aq, H⟩
    replace hM := M.e_f hM ay
    simp only [qz1, qz2, qz3, qz4, qz5, qz6, ne_eq, qz7] at ay
    refine W.exit ?_
    have bk := M.e_inr hM aq
    subst bk
    replace hM := ax
    try dsimp only at hM
    refine sQ rfl <| sA (B false) rfl <| s_nil ?_
    refine W.ret ?_
    have aj := M.e_pure hM
    exact ⟨_, resE_tmp rfl, ⟨false, mp, ah, aj, rfl, H⟩⟩
theorem zbe {R : List Chunk} {ai : Nat} {aj : Nat} {ak : Cells} {al : Value} {am : Cells} {ao : Value} {aa : Nat} {ab : Nat} (ac : List Work) (ae : List Int) (n_work : Int) (ag : Gate -> Option Int) (ah : Int -> Option Bool) (at_ : Int) (ap : Reads R ak) (aq : Sl ak al ac) (ar : Has R (cBlk aj [al] 187)) (au : Reads R am) (av : Sl am ao ae) (aw : Has R (cBlk ai [Pz aj, ao, I n_work, .map (some aa), .map (some ab)] 180)) {r : (Bool × (Gate -> Option Int) × (Int -> Option Bool))} (hM : (zaT ac ae n_work ag ah at_).Ends r) (w : World) (H : St w w [cMap encG I aa ag, cMap I B ab ah] R) : Ret Try.prog 126 #[Pz ai, I at_] w fun v w' => ∃ (y0 : Bool) (y1 : Gate -> Option Int) (y2 : Int -> Option Bool), (y0, y1, y2) = r /\ v = B y0 /\ St w w' [cMap encG I aa y1, cMap I B ab y2] R := by
  obtain ⟨n_, hM⟩ := M.e_fix hM
  exact zbC n_ ac ae n_work ag ah at_ ap aq ar au av aw hM w H

def zaj (aa : List Work) (revised : List Int) (work : Int) (s2 : Nat) : ((Gate -> Option Int) × Nat) -> M (((Gate -> Option Int) × Nat) ⊕ (Gate -> Option Int)) := fun (ab, s) =>
  bif decide ((s : Int) < (((aa.getD s2 default).of).length : Int)) then (
  M.grd (decide ((s : Int) < (((aa.getD s2 default).of).length : Int))) <|
  M.bind (M.opt (((((aa.getD s2 default).of).getD s 0) != work) && !((s2 : Int) == work)) (zaf aa revised work ab (fun _ => none) (s2 : Int)) false) fun r3 =>
  bif (((((aa.getD s2 default).of).getD s 0) != work) && (((s2 : Int) == work) || r3)) then (
  M.grd (decide ((-9223372036854775808 : Int) <= (2 * (((aa.getD s2 default).of).getD s 0))) && decide ((2 * (((aa.getD s2 default).of).getD s 0)) <= (9223372036854775807 : Int))) <|
  M.grd (decide ((-9223372036854775808 : Int) <= ((2 * (((aa.getD s2 default).of).getD s 0)) + 1)) && decide (((2 * (((aa.getD s2 default).of).getD s 0)) + 1) <= (9223372036854775807 : Int))) <|
  M.grd (decide ((-9223372036854775808 : Int) <= (2 * (s2 : Int))) && decide ((2 * (s2 : Int)) <= (9223372036854775807 : Int))) <|
  M.pure (.inl (updF ab (⟨((2 * (((aa.getD s2 default).of).getD s 0)) + 1 : Int), 2 * (s2 : Int)⟩ : Gate) (30 : Int), s + 1)))
  else (
  M.pure (.inl (ab, s + 1))))
  else (
  M.pure (.inr ab))
def zav (aa : List Work) (revised : List Int) (work : Int) (s2 : Nat) (mp : Gate -> Option Int) : M (((Gate -> Option Int) × Nat) ⊕ (Gate -> Option Int)) :=
  M.bind (M.iter (zaj aa revised work s2) (mp, 0)) fun ab =>
  M.pure (.inl (ab, s2 + 1))
def zay (aa : List Work) (revised : List Int) (work : Int) : ((Gate -> Option Int) × Nat) -> M (((Gate -> Option Int) × Nat) ⊕ (Gate -> Option Int)) := fun (ab, s2) =>
  bif decide ((s2 : Int) < (aa.length : Int)) then (
  M.grd (decide ((s2 : Int) < (aa.length : Int))) <|
  M.bind (zaf aa revised work ab (fun _ => none) (s2 : Int)) fun r2 =>
  bif r2 then (
  M.grd (decide ((-9223372036854775808 : Int) <= (2 * (s2 : Int))) && decide ((2 * (s2 : Int)) <= (9223372036854775807 : Int))) <|
  M.grd (decide ((-9223372036854775808 : Int) <= ((2 * (s2 : Int)) + 1)) && decide (((2 * (s2 : Int)) + 1) <= (9223372036854775807 : Int))) <|
  zav aa revised work s2 (updF ab (⟨2 * (s2 : Int), ((2 * (s2 : Int)) + 1 : Int)⟩ : Gate) (1 : Int)))
  else (
  zav aa revised work s2 ab))
  else (
  M.pure (.inr ab))
def zaF (ac : List Work) (revised : List Int) (work : Int) (s3 : Nat) : ((Gate -> Option Int) × (Int -> Option Bool)) -> M (((Gate -> Option Int) × (Int -> Option Bool)) ⊕ ((Gate -> Option Int) × (Int -> Option Bool))) := fun (ae, ag) =>
  M.grd (decide ((-9223372036854775808 : Int) <= (2 * (revised.getD s3 0))) && decide ((2 * (revised.getD s3 0)) <= (9223372036854775807 : Int))) <|
  M.grd (decide ((-9223372036854775808 : Int) <= ((2 * (revised.getD s3 0)) + 1)) && decide (((2 * (revised.getD s3 0)) + 1) <= (9223372036854775807 : Int))) <|
  M.bind (zaT ac revised work ae (fun _ => none) ((2 * (revised.getD s3 0)) + 1)) fun (r4, aa, ab) =>
  bif !r4 then (
  M.pure (.inr (aa, ab)))
  else (
  M.pure (.inl (aa, ab)))
def zaI (ac : List Work) (revised : List Int) (work : Int) : ((Gate -> Option Int) × (Int -> Option Bool) × Nat) -> M (((Gate -> Option Int) × (Int -> Option Bool) × Nat) ⊕ ((Gate -> Option Int) × (Int -> Option Bool))) := fun (aa, ab, s3) =>
  bif decide ((s3 : Int) < (revised.length : Int)) then (
  M.grd (decide ((s3 : Int) < (revised.length : Int))) <|
  M.bind (M.iter (zaF ac revised work s3) (aa, ab)) fun (ae, ag) =>
  M.pure (.inl (ae, ag, s3 + 1)))
  else (
  M.pure (.inr (aa, ab)))
def zaN (aa : List Work) (revised : List Int) (work : Int) : M (Int × (Gate -> Option Int) × (Int -> Option Bool)) :=
  M.bind (M.iter (zay aa revised work) ((fun _ => none), 0)) fun ab =>
  M.bind (M.iter (zaI aa revised work) (ab, (fun _ => none), 0)) fun (ac, ae) =>
  M.pure (work, ac, ae)
theorem zbx {R : List Chunk} {ah : Nat} {aQ : Cells} {ap : Value} {aR : Cells} {ag : Value} (aa : List Work) (revised : List Int) (work : Int) (au : Reads R aQ) (aq : Sl aQ ap aa) (aB : Has R (cBlk ah [ap] 187)) (aC : Reads R aR) (am : Sl aR ag revised) {r : (Int × (Gate -> Option Int) × (Int -> Option Bool))} (hM : (zaN aa revised work).Ends r) (w : World) (H : St w w [] R) : Ret Try.prog 160 #[Pz ah, ag, I work] w fun v w' => ∃ (y0 : Int) (y1 : Gate -> Option Int) (y2 : Int -> Option Bool) (nb0 : Nat) (nb1 : Nat) (nb2 : Nat), (y0, y1, y2) = r /\ v = Pz nb0 /\ St w w' [cBlk nb0 [Pz ah, ag, I y0, .map (some nb1), .map (some nb2)] 180, cMap encG I nb1 y1, cMap I B nb2 y2] R := by
 refine ret_of_W Try.func160 rfl rfl rfl ?_
 refine sQ rfl <| sA (.pointer none) rfl <| s_nil <| sQ rfl <| sM (Pz ah) rfl <| sM ag rfl <| sM (I work) rfl ?_
 refine t_mkmap (κ := Gate) (ν := Int) encG I H ?_
 intro ac bE H
 refine t_mkmap (κ := Int) (ν := Bool) I B H ?_
 intro ae bF H
 refine s_val (x_bld (ps := [(0, Pz ah), (1, ag), (2, I work), (3, .map (some ac)), (4, .map (some ae))]) (zs := [.pointer none, .slice none 0 0, I 0, .map none, .map none]) (L' := [Pz ah, ag, I work, .map (some ac), .map (some ae)]) rfl Try.underlying180 Al180 rfl (Bd180 Try.underlying180) (.cons (cs := [Pz ah]) rfl rfl rfl rfl rfl <| .cons (cs := [ag]) (Sl.cells am) rfl rfl rfl rfl <| .cons (cs := [I work]) rfl rfl rfl rfl rfl <| .cons (cs := [.map (some ac)]) rfl rfl rfl rfl rfl <| .cons (cs := [.map (some ae)]) rfl rfl rfl rfl rfl <| .nil)) ?_
 refine t_box (v := .agg #[Pz ah, ag, I work, .map (some ac), .map (some ae)]) (cs := [Pz ah, ag, I work, .map (some ac), .map (some ae)]) H rfl rfl ?_
 intro ab bG H
 refine sA (Pz ab) rfl <| s_nil <| W.seq <| sQ rfl <| sM (Pz ah) rfl <| s_val (x_nc (a := ⟨ah, 0, none⟩) rfl) <| s_val (x_fa (v := Pz ah) rfl (fa_blk (o := 0) Fd187_0 Sz185)) <| s_val (x_fa (v := Pz ah) rfl (fa_blk (o := 0) Fd185_0 Sz22)) <| s_val (x_ld (v := ap) rfl (ldb_sc Sc22 (aB.blk H) rfl)) ?_
 have bH := (aq).len_le
 refine s_val (x_lenS T22.und rfl aq) <| sM (I 0) rfl <| s_nil <| W.block ?_
 obtain ⟨a7, aE, a8⟩ := M.e_bind hM
 obtain ⟨aF, aE⟩ := M.e_iter aE
 refine W.loop (fun m σ W => ∃ (aj : Gate -> Option Int) (s2 : Nat) (ρ : Env), σ = upds ρ [(1, ag), (2, I work), (7, Pz ab), (25, ap), (26, I (aa.length : Int)), (27, I (s2 : Int))] /\ M.iterN (zay aa revised work) m (aj, s2) = some a7 /\ St w W [cBlk ab [Pz ah, ag, I work, .map (some ac), .map (some ae)] 180, cMap I B ae (fun _ => none), cMap encG I ac aj] R) ?_ ?_
 ·exact ⟨_, (fun _ => none), 0, _, upds_of _ _ ⟨rfl, rfl, rfl, rfl, rfl, rfl, trivial⟩, aE, H⟩
 rintro bI σ bJ ⟨aj, s2, ρ, rfl, aS, H⟩
 obtain ⟨ba, bb, bc, hM, aT⟩ := M.e_iterN aS
 simp only [zay] at hM
 clear aS
 refine sQ rfl <| sC _ _ (decide ((s2 : Int) < (aa.length : Int))) rfl rfl rfl <| s_nil <| W.seq ?_
 refine W.cond (decide ((s2 : Int) < (aa.length : Int))) rfl (fun av => ?_) (fun av => ?_)
 ·replace hM := M.e_t hM av
  simp only [qz1, qz2, qz3, qz4, qz5, qz6, ne_eq, qz7] at av
  refine W.skip <| W.seq <| W.block <| sQ rfl <| sM (I (s2 : Int)) rfl ?_
  obtain ⟨bK, hM⟩ := M.e_gd hM
  refine s_val (x_ix (v := vat ap 3 (Int.toNat (s2 : Int))) rfl rfl (Sl.ix (α := Work) T22.und T22.size aq (by omega) (by omega))) ?_
  obtain ⟨ai, bf, ao⟩ := Work_atA aq (i := (s2 : Int)) (by omega) (by omega)
  replace ao : Sl _ ai (aa.getD s2 default).of := ao
  have bL := ao.len_le
  refine s_val (x_ld (v := .agg #[ai, I ((aa.getD s2 default).base), I ((aa.getD s2 default).minutes)]) rfl (ld_ag Ag60 Sz60 (At.mono bf (au.at H)))) ?_
  refine t_alloc (cs := [.slice none 0 0, I 0, I 0]) H Al60 rfl ?_
  intro ak bM H
  refine sA (I (s2 : Int)) rfl ?_
  refine t_st (k := 0) (b := ak) (off := 0) (cs := [.slice none 0 0, I 0, I 0]) (vs := [ai, I ((aa.getD s2 default).base), I ((aa.getD s2 default).minutes)]) (cs' := [ai, I ((aa.getD s2 default).base), I ((aa.getD s2 default).minutes)]) (v := .agg #[ai, I ((aa.getD s2 default).base), I ((aa.getD s2 default).minutes)]) (L' := [cBlk ak [ai, I ((aa.getD s2 default).base), I ((aa.getD s2 default).minutes)] 60, cBlk ab [Pz ah, ag, I work, .map (some ac), .map (some ae)] 180, cMap I B ae (fun _ => none), cMap encG I ac aj]) H rfl rfl rfl Sz60 rfl rfl rfl (by simp only [List.all_cons, List.all_nil, Bool.true_and, Bool.and_true, Sl.oc ao]; try rfl) rfl rfl ?_
  intro bN H
  refine s_nil ?_
  refine W.seqJ (fun σ W => ∃ (mp : Gate -> Option Int) (ρ : Env), σ = upds ρ [(1, ag), (2, I work), (7, Pz ab), (8, I (s2 : Int)), (9, Pz ak), (25, ap), (26, I (aa.length : Int)), (27, I (s2 : Int))] /\ (zav aa revised work s2 mp).Ends bc /\ St w W [cBlk ak [ai, I ((aa.getD s2 default).base), I ((aa.getD s2 default).minutes)] 60, cBlk ab [Pz ah, ag, I work, .map (some ac), .map (some ae)] 180, cMap I B ae (fun _ => none), cMap encG I ac mp] R) ?_ ?_
  ·skip
   refine sQ rfl <| sM (Pz ab) rfl <| sM (I (s2 : Int)) rfl ?_
   obtain ⟨bO, bg, hM⟩ := M.e_bind hM
   refine s_call cf127 [Pz ab, I (s2 : Int)] rfl (zaV aa revised work aj (fun _ => none) (s2 : Int) (au.app _) aq (aB.app _) (aC.app _) am (Has.here (k := 3) rfl) (Has.here (k := 2) rfl) (Has.here (k := 1) rfl) bg _ (St.give (T := [cBlk ak [ai, I ((aa.getD s2 default).base), I ((aa.getD s2 default).minutes)] 60, cBlk ab [Pz ah, ag, I work, .map (some ac), .map (some ae)] 180, cMap I B ae (fun _ => none), cMap encG I ac aj]) H rfl)) ?_
   rintro vq bh ⟨r2, bi, hvq, aw⟩
   subst bi
   subst vq
   try dsimp only at hM
   replace H : St w bh [cBlk ak [ai, I ((aa.getD s2 default).base), I ((aa.getD s2 default).minutes)] 60, cBlk ab [Pz ah, ag, I work, .map (some ac), .map (some ae)] 180, cMap I B ae (fun _ => none), cMap encG I ac aj] R := H.back aw rfl
   clear aw
   refine s_nil ?_
   refine W.cond r2 rfl (fun aG => ?_) (fun aG => ?_)
   ·replace hM := M.e_t hM aG
    refine W.region rfl <| sM (Pz ab) rfl <| s_val (x_nc (a := ⟨ab, 0, none⟩) rfl) <| s_val (x_fa (v := Oz ab 3) rfl (fa_blk (o := 0) Fd180_3 Sz177)) <| s_val (x_ld (v := .map (some ac)) rfl (ldb_sc Sc177 (H.blk (k := 1) rfl) rfl)) <| sM (I (s2 : Int)) rfl ?_
    obtain ⟨bP, hM⟩ := M.e_gd hM
    refine sR _ _ (2 * (s2 : Int)) rfl rfl rfl (by omega) <| sM (I (s2 : Int)) rfl <| sR _ _ (2 * (s2 : Int)) rfl rfl rfl (by omega) ?_
    obtain ⟨bQ, hM⟩ := M.e_gd hM
    refine sR _ _ ((2 * (s2 : Int)) + 1) rfl rfl rfl (by omega) <| s_val (x_bld (ps := [(0, I (2 * (s2 : Int))), (1, I ((2 * (s2 : Int)) + 1))]) (zs := [I 0, I 0]) (L' := [I (2 * (s2 : Int)), I ((2 * (s2 : Int)) + 1)]) rfl Try.underlying182 Al182 rfl (Bd182 Try.underlying182) (.cons (cs := [I (2 * (s2 : Int))]) rfl rfl rfl rfl rfl <| .cons (cs := [I ((2 * (s2 : Int)) + 1)]) rfl rfl rfl rfl rfl <| .nil)) ?_
    refine t_mapu (i := 3) (kenc := encG) (venc := I) (f := aj) (k := (⟨2 * (s2 : Int), ((2 * (s2 : Int)) + 1 : Int)⟩ : Gate)) (v := (1 : Int)) (L' := [cBlk ak [ai, I ((aa.getD s2 default).base), I ((aa.getD s2 default).minutes)] 60, cBlk ab [Pz ah, ag, I work, .map (some ac), .map (some ae)] 180, cMap I B ae (fun _ => none), cMap encG I ac (updF aj (⟨2 * (s2 : Int), ((2 * (s2 : Int)) + 1 : Int)⟩ : Gate) (1 : Int))]) keyGate Try.underlying177 H rfl rfl rfl rfl rfl ?_
    intro bR H
    refine s_nil ?_
    exact ⟨updF aj (⟨2 * (s2 : Int), ((2 * (s2 : Int)) + 1 : Int)⟩ : Gate) (1 : Int), _, upds_of _ _ ⟨rfl, rfl, rfl, rfl, rfl, rfl, rfl, rfl, trivial⟩, hM, H⟩
   replace hM := M.e_f hM aG
   refine W.skip ?_
   exact ⟨aj, _, upds_of _ _ ⟨rfl, rfl, rfl, rfl, rfl, rfl, rfl, rfl, trivial⟩, hM, H⟩
  rintro _ bS ⟨mp, ρ, rfl, hM, H⟩
  unfold zav at hM
  refine sQ rfl <| s_val (x_fa (v := Pz ak) rfl (fa_blk (o := 0) Fd60_0 Sz34)) <| s_val (x_ld (v := ai) rfl (ldb_sc Sc34 (H.blk (k := 0) rfl) rfl)) ?_
  have bT := (ao).len_le
  refine s_val (x_lenS T34.und rfl ao) <| sM (I 0) rfl <| s_nil <| W.block ?_
  obtain ⟨bj, aH, bk⟩ := M.e_bind hM
  obtain ⟨aF, aH⟩ := M.e_iter aH
  refine W.loop (fun m σ W => ∃ (al : Gate -> Option Int) (s : Nat) (ρ : Env), σ = upds ρ [(1, ag), (2, I work), (7, Pz ab), (8, I (s2 : Int)), (25, ap), (26, I (aa.length : Int)), (27, I (s2 : Int)), (46, ai), (47, I (((aa.getD s2 default).of).length : Int)), (48, I (s : Int))] /\ M.iterN (zaj aa revised work s2) m (al, s) = some bj /\ St w W [cBlk ak [ai, I ((aa.getD s2 default).base), I ((aa.getD s2 default).minutes)] 60, cBlk ab [Pz ah, ag, I work, .map (some ac), .map (some ae)] 180, cMap I B ae (fun _ => none), cMap encG I ac al] R) ?_ ?_
  ·exact ⟨_, mp, 0, _, upds_of _ _ ⟨rfl, rfl, rfl, rfl, rfl, rfl, rfl, rfl, rfl, rfl, trivial⟩, aH, H⟩
  rintro bU σ bV ⟨al, s, ρ, rfl, aU, H⟩
  obtain ⟨aV, aW, bW, hM, aI⟩ := M.e_iterN aU
  simp only [zaj] at hM
  clear aU
  refine sQ rfl <| sC _ _ (decide ((s : Int) < (((aa.getD s2 default).of).length : Int))) rfl rfl rfl <| s_nil <| W.seq ?_
  refine W.cond (decide ((s : Int) < (((aa.getD s2 default).of).length : Int))) rfl (fun ax => ?_) (fun ax => ?_)
  ·replace hM := M.e_t hM ax
   simp only [qz1, qz2, qz3, qz4, qz5, qz6, ne_eq, qz7] at ax
   refine W.skip <| W.seq <| W.block <| sQ rfl ?_
   obtain ⟨bX, hM⟩ := M.e_gd hM
   refine s_val (x_ix (v := vat ai 1 (Int.toNat (s : Int))) rfl rfl (Sl.ix (α := Int) T34.und T34.size ao (by omega) (by omega))) <| s_val (x_ld (v := I (((aa.getD s2 default).of).getD s 0)) rfl (ld_sc Sc3 (At.mono (Int_at ao (i := (s : Int)) (by omega) (by omega)) (au.at H)))) <| sA (I (((aa.getD s2 default).of).getD s 0)) rfl <| s_nil <| sQ rfl <| sM (I (((aa.getD s2 default).of).getD s 0)) rfl <| sM (I work) rfl <| sC _ _ ((((aa.getD s2 default).of).getD s 0) != work) rfl rfl rfl <| sM (B ((((aa.getD s2 default).of).getD s 0) != work)) rfl <| g_val ((((aa.getD s2 default).of).getD s 0) != work) (gy_t rfl) (fun hg => x_mv (v := I (s2 : Int)) rfl) <| g_val ((((aa.getD s2 default).of).getD s 0) != work) (gy_t rfl) (fun hg => x_mv (v := I work) rfl) ?_
   refine g_val ((((aa.getD s2 default).of).getD s 0) != work) (gy_t rfl) (fun hg => x_cmp (kd := .i64) (r := (s2 : Int) == work) (gd_of hg (I (s2 : Int))) (gd_of hg (I work)) rfl) <| g_val ((((aa.getD s2 default).of).getD s 0) != work) (gy_t rfl) (fun hg => x_mv (v := B ((s2 : Int) == work)) (gd_of hg (B ((s2 : Int) == work)))) <| g_val (((((aa.getD s2 default).of).getD s 0) != work) && !((s2 : Int) == work)) (gy_gf rfl rfl) (fun hg => x_mv (v := Pz ab) rfl) <| g_val (((((aa.getD s2 default).of).getD s 0) != work) && !((s2 : Int) == work)) (gy_gf rfl rfl) (fun hg => x_mv (v := I (s2 : Int)) rfl) ?_
   obtain ⟨r3, bl, hM⟩ := M.e_bind hM
   refine t_gcall (((((aa.getD s2 default).of).getD s 0) != work) && !((s2 : Int) == work)) (gy_gf rfl rfl) cf127 (B r3) (fun _ => [Pz ab, I (s2 : Int)]) (fun hg => lst2 (gd_of hg (Pz ab)) (gd_of hg (I (s2 : Int)))) H (fun hg => (zaV aa revised work al (fun _ => none) (s2 : Int) (au.app _) aq (aB.app _) (aC.app _) am (Has.here (k := 3) rfl) (Has.here (k := 2) rfl) (Has.here (k := 1) rfl) (M.e_opt bl hg) _ (H.give (A := []) rfl)).mono fun v_ w_ ⟨y_, aJ, bm, H_⟩ => by subst aJ; exact ⟨bm, H.via H_⟩) ?_
   intro bY H
   refine g_val ((((aa.getD s2 default).of).getD s 0) != work) (gy_t rfl) (fun hg => x_por (b := (s2 : Int) == work) (r := r3) (gd_of hg (B ((s2 : Int) == work))) rfl (fun hb => gd_of (c := (((((aa.getD s2 default).of).getD s 0) != work) && !((s2 : Int) == work))) (by first | exact hb | (rw [hb]; rfl) | simp_all) (B r3))) <| s_val (x_pand (b := (((aa.getD s2 default).of).getD s 0) != work) (r := (((s2 : Int) == work) || r3)) rfl (fun hb => gd_of (c := (((aa.getD s2 default).of).getD s 0) != work) (by first | exact hb | (rw [hb]; rfl) | simp_all) (B (((s2 : Int) == work) || r3))) rfl) <| s_nil ?_
   refine W.cond (((((aa.getD s2 default).of).getD s 0) != work) && (((s2 : Int) == work) || r3)) rfl (fun aK => ?_) (fun aK => ?_)
   ·replace hM := M.e_t hM aK
    refine W.region rfl <| sM (Pz ab) rfl <| s_val (x_nc (a := ⟨ab, 0, none⟩) rfl) <| s_val (x_fa (v := Oz ab 3) rfl (fa_blk (o := 0) Fd180_3 Sz177)) <| s_val (x_ld (v := .map (some ac)) rfl (ldb_sc Sc177 (H.blk (k := 1) rfl) rfl)) <| sM (I (((aa.getD s2 default).of).getD s 0)) rfl ?_
    obtain ⟨bZ, hM⟩ := M.e_gd hM
    refine sR _ _ (2 * (((aa.getD s2 default).of).getD s 0)) rfl rfl rfl (by omega) ?_
    obtain ⟨b6, hM⟩ := M.e_gd hM
    refine sR _ _ ((2 * (((aa.getD s2 default).of).getD s 0)) + 1) rfl rfl rfl (by omega) <| sM (I (s2 : Int)) rfl ?_
    obtain ⟨b8, hM⟩ := M.e_gd hM
    refine sR _ _ (2 * (s2 : Int)) rfl rfl rfl (by omega) <| s_val (x_bld (ps := [(0, I ((2 * (((aa.getD s2 default).of).getD s 0)) + 1)), (1, I (2 * (s2 : Int)))]) (zs := [I 0, I 0]) (L' := [I ((2 * (((aa.getD s2 default).of).getD s 0)) + 1), I (2 * (s2 : Int))]) rfl Try.underlying182 Al182 rfl (Bd182 Try.underlying182) (.cons (cs := [I ((2 * (((aa.getD s2 default).of).getD s 0)) + 1)]) rfl rfl rfl rfl rfl <| .cons (cs := [I (2 * (s2 : Int))]) rfl rfl rfl rfl rfl <| .nil)) ?_
    refine t_mapu (i := 3) (kenc := encG) (venc := I) (f := al) (k := (⟨((2 * (((aa.getD s2 default).of).getD s 0)) + 1 : Int), 2 * (s2 : Int)⟩ : Gate)) (v := (30 : Int)) (L' := [cBlk ak [ai, I ((aa.getD s2 default).base), I ((aa.getD s2 default).minutes)] 60, cBlk ab [Pz ah, ag, I work, .map (some ac), .map (some ae)] 180, cMap I B ae (fun _ => none), cMap encG I ac (updF al (⟨((2 * (((aa.getD s2 default).of).getD s 0)) + 1 : Int), 2 * (s2 : Int)⟩ : Gate) (30 : Int))]) keyGate Try.underlying177 H rfl rfl rfl rfl rfl ?_
    intro ca H
    refine s_nil <| W.region rfl <| sR _ _ ((s : Int) + 1) rfl rfl rfl (by omega) <| sM (I ((s : Int) + 1)) rfl <| s_nil ?_
    exact ⟨aV, aW, updF al (⟨((2 * (((aa.getD s2 default).of).getD s 0)) + 1 : Int), 2 * (s2 : Int)⟩ : Gate) (30 : Int), s + 1, _, upds_of _ _ ⟨rfl, rfl, rfl, rfl, rfl, rfl, rfl, rfl, rfl, rfl, trivial⟩, M.e_inl hM aI, H⟩
   replace hM := M.e_f hM aK
   refine W.skip <| W.region rfl <| sR _ _ ((s : Int) + 1) rfl rfl rfl (by omega) <| sM (I ((s : Int) + 1)) rfl <| s_nil ?_
   exact ⟨aV, aW, al, s + 1, _, upds_of _ _ ⟨rfl, rfl, rfl, rfl, rfl, rfl, rfl, rfl, rfl, rfl, trivial⟩, M.e_inl hM aI, H⟩
  replace hM := M.e_f hM ax
  simp only [qz1, qz2, qz3, qz4, qz5, qz6, ne_eq, qz7] at ax
  refine W.exit ?_
  have bn := M.e_inr hM aI
  subst bn
  replace hM := bk
  try dsimp only at hM
  refine W.region rfl <| sR _ _ ((s2 : Int) + 1) rfl rfl rfl (by omega) <| sM (I ((s2 : Int) + 1)) rfl <| s_nil ?_
  exact ⟨ba, bb, al, s2 + 1, _, upds_of _ _ ⟨rfl, rfl, rfl, rfl, rfl, rfl, trivial⟩, M.e_inl hM aT, (H.pick [1, 2, 3] (by decide) rfl)⟩
 replace hM := M.e_f hM av
 simp only [qz1, qz2, qz3, qz4, qz5, qz6, ne_eq, qz7] at av
 refine W.exit ?_
 have bo := M.e_inr hM aT
 subst bo
 replace hM := a8
 try dsimp only at hM
 refine W.seq <| sQ rfl <| sM ag rfl ?_
 have cb := (am).len_le
 refine s_val (x_lenS T34.und rfl am) <| sM (I 0) rfl <| s_nil <| W.block ?_
 obtain ⟨bp, aL, bq⟩ := M.e_bind hM
 obtain ⟨aF, aL⟩ := M.e_iter aL
 refine W.loop (fun m σ W => ∃ (ay : Gate -> Option Int) (az : Int -> Option Bool) (s3 : Nat) (ρ : Env), σ = upds ρ [(7, Pz ab), (77, ag), (78, I (revised.length : Int)), (79, I (s3 : Int))] /\ M.iterN (zaI aa revised work) m (ay, az, s3) = some bp /\ St w W [cBlk ab [Pz ah, ag, I work, .map (some ac), .map (some ae)] 180, cMap I B ae az, cMap encG I ac ay] R) ?_ ?_
 ·exact ⟨_, aj, (fun _ => none), 0, _, upds_of _ _ ⟨rfl, rfl, rfl, rfl, trivial⟩, aL, H⟩
 rintro cc σ cd ⟨ay, az, s3, ρ, rfl, aX, H⟩
 obtain ⟨br, bt, ce, hM, aY⟩ := M.e_iterN aX
 simp only [zaI] at hM
 clear aX
 refine sQ rfl <| sC _ _ (decide ((s3 : Int) < (revised.length : Int))) rfl rfl rfl <| s_nil <| W.seq ?_
 refine W.cond (decide ((s3 : Int) < (revised.length : Int))) rfl (fun aA => ?_) (fun aA => ?_)
 ·replace hM := M.e_t hM aA
  simp only [qz1, qz2, qz3, qz4, qz5, qz6, ne_eq, qz7] at aA
  refine W.skip <| W.seq <| W.block <| sQ rfl ?_
  obtain ⟨cf, hM⟩ := M.e_gd hM
  refine s_val (x_ix (v := vat ag 1 (Int.toNat (s3 : Int))) rfl rfl (Sl.ix (α := Int) T34.und T34.size am (by omega) (by omega))) <| s_val (x_ld (v := I (revised.getD s3 0)) rfl (ld_sc Sc3 (At.mono (Int_at am (i := (s3 : Int)) (by omega) (by omega)) (aC.at H)))) <| sA (I (revised.getD s3 0)) rfl <| s_nil ?_
  refine W.scope ?_
  refine W.seq ?_
  refine W.label ?_
  refine W.block ?_
  obtain ⟨bu, aM, bv⟩ := M.e_bind hM
  obtain ⟨aF, aM⟩ := M.e_iter aM
  refine W.loop (fun m σ W => ∃ (ar : Gate -> Option Int) (aD : Int -> Option Bool) (ρ : Env), σ = upds ρ [(7, Pz ab), (13, I (revised.getD s3 0)), (77, ag), (78, I (revised.length : Int)), (79, I (s3 : Int))] /\ M.iterN (zaF aa revised work s3) m (ar, aD) = some bu /\ St w W [cBlk ab [Pz ah, ag, I work, .map (some ac), .map (some ae)] 180, cMap I B ae aD, cMap encG I ac ar] R) ?_ ?_
  ·exact ⟨_, ay, az, _, upds_of _ _ ⟨rfl, rfl, rfl, rfl, rfl, trivial⟩, aM, H⟩
  rintro cg σ ci ⟨ar, aD, ρ, rfl, aZ, H⟩
  obtain ⟨bw, bx, cj, hM, a6⟩ := M.e_iterN aZ
  simp only [zaF] at hM
  clear aZ
  refine W.block <| sQ rfl <| sM (Pz ab) rfl <| s_val (x_nc (a := ⟨ab, 0, none⟩) rfl) <| s_val (x_fa (v := Oz ab 4) rfl (fa_blk (o := 0) Fd180_4 Sz178)) <| s_val (x_ld (v := .map (some ae)) rfl (ldb_sc Sc178 (H.blk (k := 0) rfl) rfl)) ?_
  refine t_clearm (i := 1) (kenc := I) (venc := B) (f := aD) (L' := [cBlk ab [Pz ah, ag, I work, .map (some ac), .map (some ae)] 180, cMap I B ae (fun _ => none), cMap encG I ac ar]) (by rw [show (#[178] : Array TypeId)[0]?.bind Try.prog.underlying = Try.prog.underlying 178 from rfl, Try.underlying178]; rfl) H rfl rfl rfl ?_
  intro ck H
  refine s_nil <| sQ rfl <| sM (Pz ab) rfl <| sM (I (revised.getD s3 0)) rfl ?_
  obtain ⟨cm, hM⟩ := M.e_gd hM
  refine sR _ _ (2 * (revised.getD s3 0)) rfl rfl rfl (by omega) ?_
  obtain ⟨cn, hM⟩ := M.e_gd hM
  refine sR _ _ ((2 * (revised.getD s3 0)) + 1) rfl rfl rfl (by omega) ?_
  obtain ⟨co, bz, hM⟩ := M.e_bind hM
  refine s_call cf126 [Pz ab, I ((2 * (revised.getD s3 0)) + 1)] rfl (zbe aa revised work ar (fun _ => none) ((2 * (revised.getD s3 0)) + 1) (au.app _) aq (aB.app _) (aC.app _) am (Has.here (k := 0) rfl) bz _ (St.give (L := [cMap encG I ac ar, cMap I B ae (fun _ => none), cBlk ab [Pz ah, ag, I work, .map (some ac), .map (some ae)] 180]) (A := [cMap encG I ac ar, cMap I B ae (fun _ => none)]) (T := [cBlk ab [Pz ah, ag, I work, .map (some ac), .map (some ae)] 180]) (H.pick [2, 1, 0] (by decide) rfl) rfl)) ?_
  rintro vq bA ⟨r4, aN, aO, bB, hvq, aw⟩
  subst bB
  subst vq
  try dsimp only at hM
  replace H : St w bA [cMap encG I ac aN, cMap I B ae aO, cBlk ab [Pz ah, ag, I work, .map (some ac), .map (some ae)] 180] R := H.pick [2, 1, 0] (by decide) rfl |>.back aw rfl
  clear aw
  refine s_val (x_not (b := r4) rfl) <| s_nil ?_
  refine W.cond (!r4) rfl (fun aP => ?_) (fun aP => ?_)
  ·replace hM := M.e_t hM aP
   refine W.exit ?_
   have bC := M.e_inr hM a6
   subst bC
   replace hM := bv
   try dsimp only at hM
   refine W.region rfl <| sR _ _ ((s3 : Int) + 1) rfl rfl rfl (by omega) <| sM (I ((s3 : Int) + 1)) rfl <| s_nil ?_
   exact ⟨br, bt, aN, aO, s3 + 1, _, upds_of _ _ ⟨rfl, rfl, rfl, rfl, trivial⟩, M.e_inl hM aY, (H.pick [2, 1, 0] (by decide) rfl)⟩
  replace hM := M.e_f hM aP
  refine W.skip ?_
  exact ⟨bw, bx, aN, aO, _, upds_of _ _ ⟨rfl, rfl, rfl, rfl, rfl, trivial⟩, M.e_inl hM a6, (H.pick [2, 1, 0] (by decide) rfl)⟩
 replace hM := M.e_f hM aA
 simp only [qz1, qz2, qz3, qz4, qz5, qz6, ne_eq, qz7] at aA
 refine W.exit ?_
 have bD := M.e_inr hM aY
 subst bD
 replace hM := bq
 try dsimp only at hM
 refine sQ rfl <| sM (Pz ab) rfl <| sA (Pz ab) rfl <| s_nil ?_
 refine W.ret ?_
 have aJ := M.e_pure hM
 exact ⟨_, resE_tmp rfl, ⟨work, ay, az, ab, ac, ae, aJ, rfl, (H.pick [0, 2, 1] (by decide) rfl)⟩⟩

def zag (w_ : List Work) (revised : List Int) (work : Int) : M (Int ⊕ (Int × (Gate -> Option Int) × (Int -> Option Bool) × Int)) :=
  M.bind (zat w_ revised work) fun x_ => match x_ with
  | (.inl r1) => (
  bif r1 != 0 then (
  M.pure (.inl r1))
  else (
  M.fail))
  | (.inr aa) => (
  bif aa != 0 then (
  M.fail)
  else (
  M.bind (zaQ revised (fun ab => zaH ab w_ work)) fun r2 =>
  bif r2 then (
  M.pure (.inl 5))
  else (
  M.bind (zaN w_ revised work) fun (ac, r3, r4) =>
  M.pure (.inr (ac, r3, r4, 0)))))
theorem za8 {R : List Chunk} {aA : Cells} {aj : Value} {aB : Cells} {ag : Value} (w_ : List Work) (revised : List Int) (work : Int) (ao : Reads R aA) (ap : Sl aA aj w_) (aq : Reads R aB) (ar : Sl aB ag revised) {r : (Int ⊕ (Int × (Gate -> Option Int) × (Int -> Option Bool) × Int))} (hM : (zag w_ revised work).Ends r) (w : World) (H : St w w [] R) : Ret Try.prog 125 #[aj, ag, I work] w fun v w' => (∃ (y0 : Int), (.inl y0) = r /\ v = .tuple #[.pointer none, I y0] /\ St w w' [] R) ∨ (∃ (y0 : Int) (y1 : Gate -> Option Int) (y2 : Int -> Option Bool) (y3 : Int) (nb0 : Nat) (nb1 : Nat) (aC : Base) (nb3 : Nat) (nb4 : Nat), (.inr (y0, y1, y2, y3)) = r /\ v = .tuple #[Pz nb0, I y3] /\ St w w' [cBlk nb0 [Pz nb1, ag, I y0, .map (some nb3), .map (some nb4)] 180, cRo aC, cMap encG I nb3 y1, cMap I B nb4 y2] R /\ (∀ W, (cRo aC).ok W -> W.heap[nb1]? = some (.cells [aj].toArray 187 (0, 0)))) := by
 refine ret_of_W Try.func125 rfl rfl rfl ?_
 refine sQ rfl ?_
 refine t_box (v := I work) (cs := [I work]) H rfl rfl ?_
 intro ab aW H
 refine sA (.pointer none) rfl <| sA (I 0) rfl <| s_nil <| sQ rfl <| sM aj rfl <| sM ag rfl <| s_val (x_ld (v := I work) rfl (ldb_sc Sc3 (H.blk (k := 0) rfl) rfl)) ?_
 obtain ⟨aX, aG, hM⟩ := M.e_bind hM
 refine s_call cf116 [aj, ag, I work] rfl (zbu w_ revised work (ao.app _) ap (aq.app _) ar aG _ (St.give (T := [cBlk ab [I work] 3]) H rfl)) ?_
 rintro vq aD (⟨r1, aH, hvq, ae⟩ | ⟨ah, aa, ai, aI, hvq, ae, au⟩)
 ·subst aH
  subst vq
  try dsimp only at hM
  replace H : St w aD [cBlk ab [I work] 3] R := H.back ae rfl
  clear ae
  refine sM (.tuple #[.pointer none, I r1]) rfl <| sX [.pointer none, I r1] (.pointer none) rfl rfl <| sX [.pointer none, I r1] (I r1) rfl rfl ?_
  refine t_alloc (cs := [.pointer none]) H Al127 rfl ?_
  intro ac aY H
  refine t_st (k := 0) (b := ac) (off := 0) (cs := [.pointer none]) (vs := [.pointer none]) (cs' := [.pointer none]) (v := .pointer none) (L' := [cBlk ac [.pointer none] 127, cBlk ab [I work] 3]) H rfl rfl rfl Sz127 rfl rfl rfl rfl rfl rfl ?_
  intro aZ H
  refine sA (I r1) rfl <| s_nil <| W.seq <| W.block <| sQ rfl <| sM (I r1) rfl <| sC _ _ (r1 != 0) rfl rfl rfl <| sA (B (r1 != 0)) rfl <| s_nil ?_
  refine W.cond (r1 != 0) rfl (fun al => ?_) (fun al => ?_)
  ·replace hM := M.e_t hM al
   simp only [qz1, qz2, qz3, qz4, qz5, qz6, ne_eq, qz7] at al
   refine sQ rfl <| sM (I r1) rfl <| sA (.pointer none) rfl <| sA (I r1) rfl <| s_nil ?_
   refine W.ret ?_
   have ak := M.e_pure hM
   exact ⟨_, resE_tmp2 rfl, .inl (⟨r1, ak, rfl, (H.pick [] (by decide) rfl)⟩)⟩
  replace hM := M.e_f hM al
  exact (M.e_fail hM).elim
 subst aI
 subst vq
 try dsimp only at hM
 replace H : St w aD [cRo ai, cBlk ab [I work] 3] R := H.back ae rfl
 clear ae
 refine sM (.tuple #[Pz aa, I ah]) rfl <| sX [Pz aa, I ah] (Pz aa) rfl rfl <| sX [Pz aa, I ah] (I ah) rfl rfl ?_
 refine t_alloc (cs := [.pointer none]) H Al127 rfl ?_
 intro ac a6 H
 refine t_st (k := 0) (b := ac) (off := 0) (cs := [.pointer none]) (vs := [Pz aa]) (cs' := [Pz aa]) (v := Pz aa) (L' := [cBlk ac [Pz aa] 127, cRo ai, cBlk ab [I work] 3]) H rfl rfl rfl Sz127 rfl rfl rfl rfl rfl rfl ?_
 intro a7 H
 refine sA (I ah) rfl <| s_nil <| W.seq <| W.block <| sQ rfl <| sM (I ah) rfl <| sC _ _ (ah != 0) rfl rfl rfl <| sA (B (ah != 0)) rfl <| s_nil ?_
 refine W.cond (ah != 0) rfl (fun am => ?_) (fun am => ?_)
 ·replace hM := M.e_t hM am
  exact (M.e_fail hM).elim
 replace hM := M.e_f hM am
 simp only [qz1, qz2, qz3, qz4, qz5, qz6, ne_eq, qz7] at am
 refine sQ rfl <| sM ag rfl <| s_val (x_mf (fs := []) (cs := [Pz ac, Pz ab]) rfl rfl) ?_
 obtain ⟨a8, aJ, hM⟩ := M.e_bind hM
 refine s_call cf48 [ag, .func (.func 159) #[] #[Pz ac, Pz ab]] rfl (zbg revised (fun av => zaH av w_ work) (aq.app _) ar ⟨159, [Pz ac, Pz ab], rfl, cf159, fun aE ba bb aK av bc aL bf aM aN => by obtain rfl := Arg.int aM; exact (zbA av w_ work (Reads.app (ao.app _) _) ap (Has.app (Has.ro (k := 1) rfl au) _) (Has.app (Has.here (k := 0) rfl) _) (Has.app (Has.here (k := 2) rfl) _) aN aE (St.refl aL)).mono fun aK aE ⟨bg, aO, aP, aQ⟩ => by subst aO; exact ⟨aP, aQ⟩⟩ aJ _ (St.give (T := [cBlk ac [Pz aa] 127, cRo ai, cBlk ab [I work] 3]) H rfl)) ?_
 rintro vq aR ⟨r2, aS, hvq, ae⟩
 subst aS
 subst vq
 try dsimp only at hM
 replace H : St w aR [cBlk ac [Pz aa] 127, cRo ai, cBlk ab [I work] 3] R := H.back ae rfl
 clear ae
 refine sA (B r2) rfl <| s_nil ?_
 refine W.cond r2 rfl (fun aw => ?_) (fun aw => ?_)
 ·replace hM := M.e_t hM aw
  refine sQ rfl <| sA (.pointer none) rfl <| sA (I 5) rfl <| s_nil ?_
  refine W.ret ?_
  have ak := M.e_pure hM
  exact ⟨_, resE_tmp2 rfl, .inl (⟨5, ak, rfl, (H.pick [] (by decide) rfl)⟩)⟩
 replace hM := M.e_f hM aw
 refine W.skip <| sQ rfl <| s_val (x_ld (v := Pz aa) rfl (ldb_sc Sc127 (H.blk (k := 0) rfl) rfl)) <| sM ag rfl <| s_val (x_ld (v := I work) rfl (ldb_sc Sc3 (H.blk (k := 2) rfl) rfl)) ?_
 obtain ⟨bh, aT, hM⟩ := M.e_bind hM
 refine s_call cf160 [Pz aa, ag, I work] rfl (zbx w_ revised work (ao.app _) ap (Has.ro (k := 1) rfl au) (aq.app _) ar aT _ (St.give (T := [cBlk ac [Pz aa] 127, cRo ai, cBlk ab [I work] 3]) H rfl)) ?_
 rintro vq aU ⟨aF, r3, r4, ax, ay, az, aV, hvq, ae⟩
 subst aV
 subst vq
 try dsimp only at hM
 replace H : St w aU [cBlk ax [Pz aa, ag, I aF, .map (some ay), .map (some az)] 180, cMap encG I ay r3, cMap I B az r4, cBlk ac [Pz aa] 127, cRo ai, cBlk ab [I work] 3] R := H.back ae rfl
 clear ae
 refine sA (Pz ax) rfl <| sA (I 0) rfl <| s_nil ?_
 refine W.ret ?_
 have ak := M.e_pure hM
 exact ⟨_, resE_tmp2 rfl, .inr (⟨aF, r3, r4, 0, ax, aa, ai, ay, az, ak, rfl, (H.pick [0, 4, 1, 2] (by decide) rfl), au⟩)⟩

end Go.Proofs.Ytndobgodeicloaa
end
