/- Part 7 of the texts on which the proof rests. Conditions: none. -/
import Derived.Test.YtcgalcbkkijkhaaZY6
set_option linter.unusedVariables false
set_option linter.unusedSimpArgs false
set_option linter.unusedSectionVars false
section
set_option maxRecDepth 100000
set_option maxHeartbeats 16000000
namespace Go.Proofs.Ytcgalcbkkijkhaa
open Go Go.Nm
def zaR (b_First : Int) (to_ : Int) (stage : Int) (r03 : List Int) : (Nat × Int) -> M ((Nat × Int) ⊕ Int) := fun (n, year) =>
  bif decide (year <= to_) then (
  M.grd (decide ((-9223372036854775808 : Int) <= (year - b_First)) && decide ((year - b_First) <= (9223372036854775807 : Int))) <|
  M.grd (decide ((0 : Int) <= (year - b_First)) && decide ((year - b_First) < (r03.length : Int))) <|
  bif decide (stage <= (r03.getD (Int.toNat (year - b_First)) 0)) then (
  M.grd (decide ((-9223372036854775808 : Int) <= ((n : Int) + 1)) && decide (((n : Int) + 1) <= (9223372036854775807 : Int))) <|
  M.grd (decide ((-9223372036854775808 : Int) <= (year + 1)) && decide ((year + 1) <= (9223372036854775807 : Int))) <|
  M.pure (.inl (n + 1, year + 1)))
  else (
  M.grd (decide ((-9223372036854775808 : Int) <= (year + 1)) && decide ((year + 1) <= (9223372036854775807 : Int))) <|
  M.pure (.inl (n, year + 1))))
  else (
  M.pure (.inr (n : Int)))
def zau (b_Years : List Yr) (b_Olds : List Old10) (b_First : Int) (b_Last : Int) (from_ : Int) (to_ : Int) (stage : Int) (times : Int) (r0 : List Yr) (r1 : List Old10) (r22 : Int) (r32 : Int) (r02 : List Yr) (r12 : List Old10) (r23 : Int) (r33 : Int) : M Bool :=
  M.bind (zbo r0 r1 r22 r32 stage) fun (r003, r013, r10, r11, r24) =>
  M.bind (za2 r02 r12 r23 r33 b_First b_Last stage) fun (r004, r014, r17) =>
  M.bind (M.opt ((!((r24 != r17) || ((r24 != 0) && ((!(decide ((⟨(r003 : Int), (r013 : Int)⟩ : Rto) = (⟨(0 : Int), (0 : Int)⟩ : Rto)))) || (!(decide ((⟨(r10 : Int), (r11 : Int)⟩ : Rto) = (⟨(0 : Int), (0 : Int)⟩ : Rto)))))))) && (r24 == 0)) (zaQ r02 r12 r23 r33 (⟨(r003 : Int), (r013 : Int)⟩ : Rto) r004) false) fun r4 =>
  M.bind (M.opt (((!((r24 != r17) || ((r24 != 0) && ((!(decide ((⟨(r003 : Int), (r013 : Int)⟩ : Rto) = (⟨(0 : Int), (0 : Int)⟩ : Rto)))) || (!(decide ((⟨(r10 : Int), (r11 : Int)⟩ : Rto) = (⟨(0 : Int), (0 : Int)⟩ : Rto)))))))) && (r24 == 0)) && !(!r4)) (zaQ r02 r12 r23 r33 (⟨(r10 : Int), (r11 : Int)⟩ : Rto) r014) false) fun r5 =>
  bif (((r24 != r17) || ((r24 != 0) && ((!(decide ((⟨(r003 : Int), (r013 : Int)⟩ : Rto) = (⟨(0 : Int), (0 : Int)⟩ : Rto)))) || (!(decide ((⟨(r10 : Int), (r11 : Int)⟩ : Rto) = (⟨(0 : Int), (0 : Int)⟩ : Rto))))))) || ((r24 == 0) && ((!r4) || (!r5)))) then (
  M.pure false)
  else (
  M.bind (zaq r0 r1 r22 r32 from_ to_ times) fun (r005, r015, r18) =>
  M.bind (zbg r02 r12 r23 r33 from_ to_ times) fun (r006, r016, r19) =>
  M.bind (M.opt ((r18 == r19) && (decide ((⟨(r005 : Int), (r015 : Int)⟩ : Span) = (⟨(r006 : Int), (r016 : Int)⟩ : Span)))) (zbr r0 r1 r22 r32 b_Years b_Olds b_First b_Last) false) fun r6 =>
  M.bind (M.opt (((r18 == r19) && (decide ((⟨(r005 : Int), (r015 : Int)⟩ : Span) = (⟨(r006 : Int), (r016 : Int)⟩ : Span)))) && r6) (zaZ) false) fun r7 =>
  M.pure ((((r18 == r19) && (decide ((⟨(r005 : Int), (r015 : Int)⟩ : Span) = (⟨(r006 : Int), (r016 : Int)⟩ : Span)))) && r6) && r7))
def zbR (b_Years : List Yr) (b_Olds : List Old10) (b_First : Int) (b_Last : Int) (from_ : Int) (to_ : Int) (stage : Int) (times : Int) (most : Bool) (r0 : List Yr) (r1 : List Old10) (r22 : Int) (r32 : Int) (r02 : List Yr) (r12 : List Old10) (r23 : Int) (r33 : Int) : M Bool :=
  M.bind (zah r0 r1 r22 r32 from_ to_ stage) fun (r00, r01, r13) =>
  M.bind (za2 r02 r12 r23 r33 from_ to_ stage) fun (r002, r012, r14) =>
  bif ((r13 != r14) || (!(decide ((⟨(r00 : Int), (r01 : Int)⟩ : Span) = (⟨(r002 : Int), (r012 : Int)⟩ : Span))))) then (
  M.pure false)
  else (
  M.bind (zbj r0 r1 r22 r32 from_ to_ stage most) fun (r03, r15) =>
  bif ((r15 != r14) || ((r15 != 0) && (decide (0 < (r03.length : Int))))) then (
  M.pure false)
  else (
  bif r15 == 0 then (
  M.bind (zbP r02 r12 r23 r33 r03) fun (r04, r16) =>
  bif ((r16 != 0) || (!r04)) then (
  M.pure false)
  else (
  M.grd (decide ((-9223372036854775808 : Int) <= (b_Last - b_First)) && decide ((b_Last - b_First) <= (9223372036854775807 : Int))) <|
  M.grd (decide ((-9223372036854775808 : Int) <= ((b_Last - b_First) + 1)) && decide (((b_Last - b_First) + 1) <= (9223372036854775807 : Int))) <|
  bif (r03.length : Int) != ((b_Last - b_First) + 1) then (
  M.pure false)
  else (
  M.bind (M.iter (zaR b_First to_ stage r03) (0, from_)) fun n2 =>
  bif ((most && (n2 != r012)) || ((!most) && (n2 != r002))) then (
  M.pure false)
  else (
  zau b_Years b_Olds b_First b_Last from_ to_ stage times r0 r1 r22 r32 r02 r12 r23 r33))))
  else (
  zau b_Years b_Olds b_First b_Last from_ to_ stage times r0 r1 r22 r32 r02 r12 r23 r33)))
def zcb (b_Years : List Yr) (b_Olds : List Old10) (b_First : Int) (b_Last : Int) (from_ : Int) (to_ : Int) (stage : Int) (times : Int) (most : Bool) : M Bool :=
  M.bind (zbJ b_Years b_Olds b_First b_Last) fun r2 =>
  bif r2 then (
  M.bind (zaZ) fun r3 =>
  M.pure r3)
  else (
  M.bind (zbz b_Years b_Olds b_First b_Last) fun (r0, r1, r22, r32) =>
  M.bind (zbK b_Years b_Olds b_First b_Last) fun (r02, r12, r23, r33) =>
  zbR b_Years b_Olds b_First b_Last from_ to_ stage times most r0 r1 r22 r32 r02 r12 r23 r33)
theorem zc9 {R : List Chunk} {C_b_Years : Cells} {v_b_Years : Value} {C_b_Olds : Cells} {v_b_Olds : Value} (b_Years : List Yr) (b_Olds : List Old10) (b_First : Int) (b_Last : Int) (from_ : Int) (to_ : Int) (stage : Int) (times : Int) (most : Bool) (hC_b_Years : Reads R C_b_Years) (hs_b_Years : Sl C_b_Years v_b_Years b_Years) (hC_b_Olds : Reads R C_b_Olds) (hs_b_Olds : Sl C_b_Olds v_b_Olds b_Olds) {r : Bool} (hM : (zcb b_Years b_Olds b_First b_Last from_ to_ stage times most).Ends r) (w : World) (H : St w w [] R) : Ret Try.prog 5 #[.agg #[v_b_Years, v_b_Olds, I b_First, I b_Last], I from_, I to_, I stage, I times, B most] w fun v w' => ∃ (y0 : Bool), y0 = r /\ v = B y0 /\ St w w' [] R := by
 refine ret_of_W Try.func5 rfl rfl rfl ?_
 refine W.seq ?_
 refine W.region rfl ?_
 refine t_box (v := .agg #[v_b_Years, v_b_Olds, I b_First, I b_Last]) (cs := [v_b_Years, v_b_Olds, I b_First, I b_Last]) H rfl rfl ?_
 intro b_1 w1z H
 refine s_val (x_as (v := B false) rfl) ?_
 refine s_nil ?_
 refine W.seq ?_
 refine W.seq ?_
 refine W.region rfl ?_
 refine s_val (x_ld (p := .pointer (some ⟨b_1, 0, none⟩)) (v := .agg #[v_b_Years, v_b_Olds, I b_First, I b_Last]) rfl (ldb_ag (ds := [v_b_Years, v_b_Olds, I b_First, I b_Last]) Ag26 Sz26 (H.blk (k := 0) rfl) rfl rfl)) ?_
 obtain ⟨r3z, hx2z, hM⟩ := M.e_bind hM
 refine s_call cf21 [.agg #[v_b_Years, v_b_Olds, I b_First, I b_Last]] rfl (zc3 b_Years b_Olds b_First b_Last (hC_b_Years.app _) hs_b_Years (hC_b_Olds.app _) hs_b_Olds hx2z _ (St.give (T := [cBlk b_1 [v_b_Years, v_b_Olds, I b_First, I b_Last] 26]) H rfl)) ?_
 rintro vq w4z ⟨r2, hr5z, hvq, H2_⟩
 subst hr5z
 subst vq
 try dsimp only at hM
 replace H : St w w4z [cBlk b_1 [v_b_Years, v_b_Olds, I b_First, I b_Last] 26] R := H.back H2_ rfl
 clear H2_
 refine s_nil ?_
 refine W.cond r2 rfl (fun c6z => ?_) (fun c6z => ?_)
 ·replace hM := M.e_t hM c6z
  refine W.seq ?_
  refine W.region rfl ?_
  obtain ⟨r8z, hx7z, hM⟩ := M.e_bind hM
  refine s_call cf18 [] rfl (zcx hx7z _ (St.give (T := [cBlk b_1 [v_b_Years, v_b_Olds, I b_First, I b_Last] 26]) H rfl)) ?_
  rintro vq w9z ⟨r3, hr10z, hvq, H2_⟩
  subst hr10z
  subst vq
  try dsimp only at hM
  replace H : St w w9z [cBlk b_1 [v_b_Years, v_b_Olds, I b_First, I b_Last] 26] R := H.back H2_ rfl
  clear H2_
  refine s_val (x_as (v := B r3) rfl) ?_
  refine s_nil ?_
  refine W.ret ?_
  have hr_ := M.e_pure hM
  exact ⟨_, resE_tmp rfl, ⟨r3, hr_, rfl, (H.pick [] (by decide) rfl)⟩⟩
 replace hM := M.e_f hM c6z
 refine W.skip ?_
 refine W.seqJ (fun σ W => ∃ (b_10 : Nat) (b_11 : Nat) (r0 : List Yr) (r1 : List Old10) (r22 : Int) (r32 : Int) (r02 : List Yr) (r12 : List Old10) (r23 : Int) (r33 : Int) (u0_6 : Value) (u1_7 : Value) (u0_2 : Value) (u1_3 : Value) (rr2_8 : List (Raw 3)) (Bs3_9 : Base) (rr2_4 : List (Raw 3)) (Bs3_5 : Base) (ρ : Env), σ = upds ρ [(1, I from_), (2, I to_), (3, I stage), (4, I times), (5, B most), (6, .pointer (some ⟨b_1, 0, none⟩)), (13, .pointer (some ⟨b_10, 0, none⟩)), (14, .pointer (some ⟨b_11, 0, none⟩))] /\ (zbR b_Years b_Olds b_First b_Last from_ to_ stage times most r0 r1 r22 r32 r02 r12 r23 r33).Ends r /\ St w W [cBlk b_11 [u0_6, u1_7, I r23, I r33] 55, cBlk b_10 [u0_2, u1_3, I r22, I r32] 26, cOwn (α := Yr) 127 u0_6 r02, cOwn (α := Raw 3) 128 u1_7 rr2_8, cRo Bs3_9, cOwn (α := Yr) 41 u0_2 r0, cOwn (α := Raw 3) 43 u1_3 rr2_4, cRo Bs3_5, cBlk b_1 [v_b_Years, v_b_Olds, I b_First, I b_Last] 26] R /\ RepR (α := Old10) (Cells.sup C_b_Olds Bs3_9.cells) rr2_8 r12 /\ RepR (α := Old10) Bs3_5.cells rr2_4 r1) ?_ ?_
 ·skip
  refine W.drawT (fun W => St w W [cBlk b_1 [v_b_Years, v_b_Olds, I b_First, I b_Last] 26] R) (.q 0 (.q 2 (.l3 1 (.l3 3 (.l2 4 (.l 5 (.l 6 (.l 7 .nil))) 5 (.l 4 (.l 6 (.l 7 .nil)))) 4 (.l2 3 (.l 5 (.l 6 (.l 7 .nil))) 5 (.l 3 (.l 6 (.l 7 .nil)))) 5 (.l2 3 (.l 4 (.l 6 (.l 7 .nil))) 4 (.l 3 (.l 6 (.l 7 .nil))))) 4 (.l2 1 (.l2 3 (.l 5 (.l 6 (.l 7 .nil))) 5 (.l 3 (.l 6 (.l 7 .nil)))) 5 (.l 1 (.l 3 (.l 6 (.l 7 .nil))))) 5 (.l2 1 (.l2 3 (.l 4 (.l 6 (.l 7 .nil))) 4 (.l 3 (.l 6 (.l 7 .nil)))) 4 (.l 1 (.l 3 (.l 6 (.l 7 .nil)))))))) mixed (by decide +kernel) rfl ?_
  intro w11z hx_
  replace H : St w w11z [cBlk b_1 [v_b_Years, v_b_Olds, I b_First, I b_Last] 26] R := H.ext hx_
  clear hx_
  refine ⟨(H.pick [0] (by decide) rfl), ?_⟩
  refine t_q rfl (fun w' H => x_ld (p := .pointer (some ⟨b_1, 0, none⟩)) (v := .agg #[v_b_Years, v_b_Olds, I b_First, I b_Last]) rfl (ldb_ag (ds := [v_b_Years, v_b_Olds, I b_First, I b_Last]) Ag26 Sz26 (H.blk (k := 0) rfl) rfl rfl)) ?_
  refine t_q rfl (fun w' H => x_ld (p := .pointer (some ⟨b_1, 0, none⟩)) (v := .agg #[v_b_Years, v_b_Olds, I b_First, I b_Last]) rfl (ldb_ag (ds := [v_b_Years, v_b_Olds, I b_First, I b_Last]) Ag26 Sz26 (H.blk (k := 0) rfl) rfl rfl)) ?_
  refine t_l3 rfl rfl rfl ?_ ?_ ?_
  ·skip
   obtain ⟨r20z, hx19z, hM⟩ := M.e_bind hM
   refine s_call cf16 [.agg #[v_b_Years, v_b_Olds, I b_First, I b_Last]] rfl (zbt b_Years b_Olds b_First b_Last (hC_b_Years.app _) hs_b_Years (hC_b_Olds.app _) hs_b_Olds hx19z _ (St.give (T := [cBlk b_1 [v_b_Years, v_b_Olds, I b_First, I b_Last] 26]) H rfl)) ?_
   rintro vq w21z ⟨r0, r1, r22, r32, u0_2, u1_3, rr2_4, Bs3_5, hr22z, hvq, H2_, hf23z⟩
   subst hr22z
   subst vq
   try dsimp only at hM
   replace H : St w w21z [cOwn (α := Yr) 41 u0_2 r0, cOwn (α := Raw 3) 43 u1_3 rr2_4, cRo Bs3_5, cBlk b_1 [v_b_Years, v_b_Olds, I b_First, I b_Last] 26] R := H.back H2_ rfl
   clear H2_
   have hvc_q24z := Sl.cells (ownSl (H.get (k := 0) rfl))
   have hvo_q24z := Sl.oc (ownSl (H.get (k := 0) rfl))
   have hvc_q25z := Sl.cells (ownSl (H.get (k := 1) rfl))
   have hvo_q25z := Sl.oc (ownSl (H.get (k := 1) rfl))
   refine s_nil ⟨(H.pick [3] (by decide) rfl), ?_⟩
   refine t_l3 rfl rfl rfl ?_ ?_ ?_
   ·skip
    obtain ⟨r34z, hx33z, hM⟩ := M.e_bind hM
    refine s_call cf22 [.agg #[v_b_Years, v_b_Olds, I b_First, I b_Last]] rfl (zaf b_Years b_Olds b_First b_Last (hC_b_Years.app _) hs_b_Years (hC_b_Olds.app _) hs_b_Olds hx33z _ (St.give (T := [cOwn (α := Yr) 41 u0_2 r0, cOwn (α := Raw 3) 43 u1_3 rr2_4, cRo Bs3_5, cBlk b_1 [v_b_Years, v_b_Olds, I b_First, I b_Last] 26]) H rfl)) ?_
    rintro vq w35z ⟨r02, r12, r23, r33, u0_6, u1_7, rr2_8, Bs3_9, hr36z, hvq, H2_, hf37z⟩
    subst hr36z
    subst vq
    try dsimp only at hM
    replace H : St w w35z [cOwn (α := Yr) 127 u0_6 r02, cOwn (α := Raw 3) 128 u1_7 rr2_8, cRo Bs3_9, cOwn (α := Yr) 41 u0_2 r0, cOwn (α := Raw 3) 43 u1_3 rr2_4, cRo Bs3_5, cBlk b_1 [v_b_Years, v_b_Olds, I b_First, I b_Last] 26] R := H.back H2_ rfl
    clear H2_
    have hvc_q38z := Sl.cells (ownSl (H.get (k := 0) rfl))
    have hvo_q38z := Sl.oc (ownSl (H.get (k := 0) rfl))
    have hvc_q39z := Sl.cells (ownSl (H.get (k := 1) rfl))
    have hvo_q39z := Sl.oc (ownSl (H.get (k := 1) rfl))
    refine s_nil ⟨(H.pick [6] (by decide) rfl), ?_⟩
    refine t_l2 rfl rfl ?_ ?_
    ·skip
     refine t_alloc (cs := [.slice none 0 0, .slice none 0 0, I 0, I 0]) H Al26 rfl ?_
     intro b_10 w44z H
     refine s_nil ⟨(H.pick [7] (by decide) rfl), ?_⟩
     refine t_l rfl ?_
     refine t_alloc (cs := [.slice none 0 0, .slice none 0 0, I 0, I 0]) H Al55 rfl ?_
     intro b_11 w45z H
     refine s_nil ⟨(H.pick [8] (by decide) rfl), ?_⟩
     refine t_l rfl ?_
     refine t_st (k := 1) (b := b_10) (off := 0) (cs := [.slice none 0 0, .slice none 0 0, I 0, I 0]) (vs := [u0_2, u1_3, I r22, I r32]) (cs' := [u0_2, u1_3, I r22, I r32]) (v := .agg #[u0_2, u1_3, I r22, I r32]) (L' := [cBlk b_11 [.slice none 0 0, .slice none 0 0, I 0, I 0] 55, cBlk b_10 [u0_2, u1_3, I r22, I r32] 26, cOwn (α := Yr) 127 u0_6 r02, cOwn (α := Raw 3) 128 u1_7 rr2_8, cRo Bs3_9, cOwn (α := Yr) 41 u0_2 r0, cOwn (α := Raw 3) 43 u1_3 rr2_4, cRo Bs3_5, cBlk b_1 [v_b_Years, v_b_Olds, I b_First, I b_Last] 26]) H rfl rfl rfl Sz26 rfl rfl rfl (by simp only [List.all_cons, List.all_nil, Bool.true_and, Bool.and_true, Sl.oc (ownSl (H.get (k := 5) rfl)), Sl.oc (rowSl rfl (H.get (k := 6) rfl) (roLe _ (H.get (k := 7) rfl)) hf23z)]; try rfl) rfl rfl ?_
     intro w46z H
     refine s_nil ⟨(H.pick [8] (by decide) rfl), ?_⟩
     refine t_l rfl ?_
     refine t_st (k := 0) (b := b_11) (off := 0) (cs := [.slice none 0 0, .slice none 0 0, I 0, I 0]) (vs := [u0_6, u1_7, I r23, I r33]) (cs' := [u0_6, u1_7, I r23, I r33]) (v := .agg #[u0_6, u1_7, I r23, I r33]) (L' := [cBlk b_11 [u0_6, u1_7, I r23, I r33] 55, cBlk b_10 [u0_2, u1_3, I r22, I r32] 26, cOwn (α := Yr) 127 u0_6 r02, cOwn (α := Raw 3) 128 u1_7 rr2_8, cRo Bs3_9, cOwn (α := Yr) 41 u0_2 r0, cOwn (α := Raw 3) 43 u1_3 rr2_4, cRo Bs3_5, cBlk b_1 [v_b_Years, v_b_Olds, I b_First, I b_Last] 26]) H rfl rfl rfl Sz55 rfl rfl rfl (by simp only [List.all_cons, List.all_nil, Bool.true_and, Bool.and_true, Sl.oc (ownSl (H.get (k := 2) rfl)), Sl.oc (rowSl rfl (H.get (k := 3) rfl) (Cells.sup_le (hC_b_Olds.at H) (roLe _ (H.get (k := 4) rfl))) hf37z)]; try rfl) rfl rfl ?_
     intro w47z H
     refine s_nil ⟨(H.pick [8] (by decide) rfl), ?_⟩
     refine t_nil ?_
     exact ⟨b_10, b_11, r0, r1, r22, r32, r02, r12, r23, r33, u0_6, u1_7, u0_2, u1_3, rr2_8, Bs3_9, rr2_4, Bs3_5, _, upds_of _ _ ⟨rfl, rfl, rfl, rfl, rfl, rfl, rfl, rfl, trivial⟩, hM, H, hf37z, hf23z⟩
    skip
    refine t_alloc (cs := [.slice none 0 0, .slice none 0 0, I 0, I 0]) H Al55 rfl ?_
    intro b_11 w48z H
    refine s_nil ⟨(H.pick [7] (by decide) rfl), ?_⟩
    refine t_l rfl ?_
    refine t_alloc (cs := [.slice none 0 0, .slice none 0 0, I 0, I 0]) H Al26 rfl ?_
    intro b_10 w49z H
    refine s_nil ⟨(H.pick [8] (by decide) rfl), ?_⟩
    refine t_l rfl ?_
    refine t_st (k := 0) (b := b_10) (off := 0) (cs := [.slice none 0 0, .slice none 0 0, I 0, I 0]) (vs := [u0_2, u1_3, I r22, I r32]) (cs' := [u0_2, u1_3, I r22, I r32]) (v := .agg #[u0_2, u1_3, I r22, I r32]) (L' := [cBlk b_10 [u0_2, u1_3, I r22, I r32] 26, cBlk b_11 [.slice none 0 0, .slice none 0 0, I 0, I 0] 55, cOwn (α := Yr) 127 u0_6 r02, cOwn (α := Raw 3) 128 u1_7 rr2_8, cRo Bs3_9, cOwn (α := Yr) 41 u0_2 r0, cOwn (α := Raw 3) 43 u1_3 rr2_4, cRo Bs3_5, cBlk b_1 [v_b_Years, v_b_Olds, I b_First, I b_Last] 26]) H rfl rfl rfl Sz26 rfl rfl rfl (by simp only [List.all_cons, List.all_nil, Bool.true_and, Bool.and_true, Sl.oc (ownSl (H.get (k := 5) rfl)), Sl.oc (rowSl rfl (H.get (k := 6) rfl) (roLe _ (H.get (k := 7) rfl)) hf23z)]; try rfl) rfl rfl ?_
    intro w50z H
    refine s_nil ⟨(H.pick [8] (by decide) rfl), ?_⟩
    refine t_l rfl ?_
    refine t_st (k := 1) (b := b_11) (off := 0) (cs := [.slice none 0 0, .slice none 0 0, I 0, I 0]) (vs := [u0_6, u1_7, I r23, I r33]) (cs' := [u0_6, u1_7, I r23, I r33]) (v := .agg #[u0_6, u1_7, I r23, I r33]) (L' := [cBlk b_10 [u0_2, u1_3, I r22, I r32] 26, cBlk b_11 [u0_6, u1_7, I r23, I r33] 55, cOwn (α := Yr) 127 u0_6 r02, cOwn (α := Raw 3) 128 u1_7 rr2_8, cRo Bs3_9, cOwn (α := Yr) 41 u0_2 r0, cOwn (α := Raw 3) 43 u1_3 rr2_4, cRo Bs3_5, cBlk b_1 [v_b_Years, v_b_Olds, I b_First, I b_Last] 26]) H rfl rfl rfl Sz55 rfl rfl rfl (by simp only [List.all_cons, List.all_nil, Bool.true_and, Bool.and_true, Sl.oc (ownSl (H.get (k := 2) rfl)), Sl.oc (rowSl rfl (H.get (k := 3) rfl) (Cells.sup_le (hC_b_Olds.at H) (roLe _ (H.get (k := 4) rfl))) hf37z)]; try rfl) rfl rfl ?_
    intro w51z H
    refine s_nil ⟨(H.pick [8] (by decide) rfl), ?_⟩
    refine t_nil ?_
    exact ⟨b_10, b_11, r0, r1, r22, r32, r02, r12, r23, r33, u0_6, u1_7, u0_2, u1_3, rr2_8, Bs3_9, rr2_4, Bs3_5, _, upds_of _ _ ⟨rfl, rfl, rfl, rfl, rfl, rfl, rfl, rfl, trivial⟩, hM, (H.pick [1, 0, 2, 3, 4, 5, 6, 7, 8] (by decide) rfl), hf37z, hf23z⟩
   ·skip
    refine t_alloc (cs := [.slice none 0 0, .slice none 0 0, I 0, I 0]) H Al26 rfl ?_
    intro b_10 w52z H
    refine s_nil ⟨(H.pick [4] (by decide) rfl), ?_⟩
    refine t_l2 rfl rfl ?_ ?_
    ·skip
     obtain ⟨r68z, hx67z, hM⟩ := M.e_bind hM
     refine s_call cf22 [.agg #[v_b_Years, v_b_Olds, I b_First, I b_Last]] rfl (zaf b_Years b_Olds b_First b_Last (hC_b_Years.app _) hs_b_Years (hC_b_Olds.app _) hs_b_Olds hx67z _ (St.give (T := [cBlk b_10 [.slice none 0 0, .slice none 0 0, I 0, I 0] 26, cOwn (α := Yr) 41 u0_2 r0, cOwn (α := Raw 3) 43 u1_3 rr2_4, cRo Bs3_5, cBlk b_1 [v_b_Years, v_b_Olds, I b_First, I b_Last] 26]) H rfl)) ?_
     rintro vq w69z ⟨r02, r12, r23, r33, u0_6, u1_7, rr2_8, Bs3_9, hr70z, hvq, H2_, hf71z⟩
     subst hr70z
     subst vq
     try dsimp only at hM
     replace H : St w w69z [cOwn (α := Yr) 127 u0_6 r02, cOwn (α := Raw 3) 128 u1_7 rr2_8, cRo Bs3_9, cBlk b_10 [.slice none 0 0, .slice none 0 0, I 0, I 0] 26, cOwn (α := Yr) 41 u0_2 r0, cOwn (α := Raw 3) 43 u1_3 rr2_4, cRo Bs3_5, cBlk b_1 [v_b_Years, v_b_Olds, I b_First, I b_Last] 26] R := H.back H2_ rfl
     clear H2_
     have hvc_q72z := Sl.cells (ownSl (H.get (k := 0) rfl))
     have hvo_q72z := Sl.oc (ownSl (H.get (k := 0) rfl))
     have hvc_q73z := Sl.cells (ownSl (H.get (k := 1) rfl))
     have hvo_q73z := Sl.oc (ownSl (H.get (k := 1) rfl))
     refine s_nil ⟨(H.pick [7] (by decide) rfl), ?_⟩
     refine t_l rfl ?_
     refine t_alloc (cs := [.slice none 0 0, .slice none 0 0, I 0, I 0]) H Al55 rfl ?_
     intro b_11 w74z H
     refine s_nil ⟨(H.pick [8] (by decide) rfl), ?_⟩
     refine t_l rfl ?_
     refine t_st (k := 4) (b := b_10) (off := 0) (cs := [.slice none 0 0, .slice none 0 0, I 0, I 0]) (vs := [u0_2, u1_3, I r22, I r32]) (cs' := [u0_2, u1_3, I r22, I r32]) (v := .agg #[u0_2, u1_3, I r22, I r32]) (L' := [cBlk b_11 [.slice none 0 0, .slice none 0 0, I 0, I 0] 55, cOwn (α := Yr) 127 u0_6 r02, cOwn (α := Raw 3) 128 u1_7 rr2_8, cRo Bs3_9, cBlk b_10 [u0_2, u1_3, I r22, I r32] 26, cOwn (α := Yr) 41 u0_2 r0, cOwn (α := Raw 3) 43 u1_3 rr2_4, cRo Bs3_5, cBlk b_1 [v_b_Years, v_b_Olds, I b_First, I b_Last] 26]) H rfl rfl rfl Sz26 rfl rfl rfl (by simp only [List.all_cons, List.all_nil, Bool.true_and, Bool.and_true, Sl.oc (ownSl (H.get (k := 5) rfl)), Sl.oc (rowSl rfl (H.get (k := 6) rfl) (roLe _ (H.get (k := 7) rfl)) hf23z)]; try rfl) rfl rfl ?_
     intro w75z H
     refine s_nil ⟨(H.pick [8] (by decide) rfl), ?_⟩
     refine t_l rfl ?_
     refine t_st (k := 0) (b := b_11) (off := 0) (cs := [.slice none 0 0, .slice none 0 0, I 0, I 0]) (vs := [u0_6, u1_7, I r23, I r33]) (cs' := [u0_6, u1_7, I r23, I r33]) (v := .agg #[u0_6, u1_7, I r23, I r33]) (L' := [cBlk b_11 [u0_6, u1_7, I r23, I r33] 55, cOwn (α := Yr) 127 u0_6 r02, cOwn (α := Raw 3) 128 u1_7 rr2_8, cRo Bs3_9, cBlk b_10 [u0_2, u1_3, I r22, I r32] 26, cOwn (α := Yr) 41 u0_2 r0, cOwn (α := Raw 3) 43 u1_3 rr2_4, cRo Bs3_5, cBlk b_1 [v_b_Years, v_b_Olds, I b_First, I b_Last] 26]) H rfl rfl rfl Sz55 rfl rfl rfl (by simp only [List.all_cons, List.all_nil, Bool.true_and, Bool.and_true, Sl.oc (ownSl (H.get (k := 1) rfl)), Sl.oc (rowSl rfl (H.get (k := 2) rfl) (Cells.sup_le (hC_b_Olds.at H) (roLe _ (H.get (k := 3) rfl))) hf71z)]; try rfl) rfl rfl ?_
     intro w76z H
     refine s_nil ⟨(H.pick [8] (by decide) rfl), ?_⟩
     refine t_nil ?_
     exact ⟨b_10, b_11, r0, r1, r22, r32, r02, r12, r23, r33, u0_6, u1_7, u0_2, u1_3, rr2_8, Bs3_9, rr2_4, Bs3_5, _, upds_of _ _ ⟨rfl, rfl, rfl, rfl, rfl, rfl, rfl, rfl, trivial⟩, hM, (H.pick [0, 4, 1, 2, 3, 5, 6, 7, 8] (by decide) rfl), hf71z, hf23z⟩
    skip
    refine t_alloc (cs := [.slice none 0 0, .slice none 0 0, I 0, I 0]) H Al55 rfl ?_
    intro b_11 w77z H
    refine s_nil ⟨(H.pick [5] (by decide) rfl), ?_⟩
    refine t_l rfl ?_
    obtain ⟨r79z, hx78z, hM⟩ := M.e_bind hM
    refine s_call cf22 [.agg #[v_b_Years, v_b_Olds, I b_First, I b_Last]] rfl (zaf b_Years b_Olds b_First b_Last (hC_b_Years.app _) hs_b_Years (hC_b_Olds.app _) hs_b_Olds hx78z _ (St.give (T := [cBlk b_11 [.slice none 0 0, .slice none 0 0, I 0, I 0] 55, cBlk b_10 [.slice none 0 0, .slice none 0 0, I 0, I 0] 26, cOwn (α := Yr) 41 u0_2 r0, cOwn (α := Raw 3) 43 u1_3 rr2_4, cRo Bs3_5, cBlk b_1 [v_b_Years, v_b_Olds, I b_First, I b_Last] 26]) H rfl)) ?_
    rintro vq w80z ⟨r02, r12, r23, r33, u0_6, u1_7, rr2_8, Bs3_9, hr81z, hvq, H2_, hf82z⟩
    subst hr81z
    subst vq
    try dsimp only at hM
    replace H : St w w80z [cOwn (α := Yr) 127 u0_6 r02, cOwn (α := Raw 3) 128 u1_7 rr2_8, cRo Bs3_9, cBlk b_11 [.slice none 0 0, .slice none 0 0, I 0, I 0] 55, cBlk b_10 [.slice none 0 0, .slice none 0 0, I 0, I 0] 26, cOwn (α := Yr) 41 u0_2 r0, cOwn (α := Raw 3) 43 u1_3 rr2_4, cRo Bs3_5, cBlk b_1 [v_b_Years, v_b_Olds, I b_First, I b_Last] 26] R := H.back H2_ rfl
    clear H2_
    have hvc_q83z := Sl.cells (ownSl (H.get (k := 0) rfl))
    have hvo_q83z := Sl.oc (ownSl (H.get (k := 0) rfl))
    have hvc_q84z := Sl.cells (ownSl (H.get (k := 1) rfl))
    have hvo_q84z := Sl.oc (ownSl (H.get (k := 1) rfl))
    refine s_nil ⟨(H.pick [8] (by decide) rfl), ?_⟩
    refine t_l rfl ?_
    refine t_st (k := 4) (b := b_10) (off := 0) (cs := [.slice none 0 0, .slice none 0 0, I 0, I 0]) (vs := [u0_2, u1_3, I r22, I r32]) (cs' := [u0_2, u1_3, I r22, I r32]) (v := .agg #[u0_2, u1_3, I r22, I r32]) (L' := [cOwn (α := Yr) 127 u0_6 r02, cOwn (α := Raw 3) 128 u1_7 rr2_8, cRo Bs3_9, cBlk b_11 [.slice none 0 0, .slice none 0 0, I 0, I 0] 55, cBlk b_10 [u0_2, u1_3, I r22, I r32] 26, cOwn (α := Yr) 41 u0_2 r0, cOwn (α := Raw 3) 43 u1_3 rr2_4, cRo Bs3_5, cBlk b_1 [v_b_Years, v_b_Olds, I b_First, I b_Last] 26]) H rfl rfl rfl Sz26 rfl rfl rfl (by simp only [List.all_cons, List.all_nil, Bool.true_and, Bool.and_true, Sl.oc (ownSl (H.get (k := 5) rfl)), Sl.oc (rowSl rfl (H.get (k := 6) rfl) (roLe _ (H.get (k := 7) rfl)) hf23z)]; try rfl) rfl rfl ?_
    intro w85z H
    refine s_nil ⟨(H.pick [8] (by decide) rfl), ?_⟩
    refine t_l rfl ?_
    refine t_st (k := 3) (b := b_11) (off := 0) (cs := [.slice none 0 0, .slice none 0 0, I 0, I 0]) (vs := [u0_6, u1_7, I r23, I r33]) (cs' := [u0_6, u1_7, I r23, I r33]) (v := .agg #[u0_6, u1_7, I r23, I r33]) (L' := [cOwn (α := Yr) 127 u0_6 r02, cOwn (α := Raw 3) 128 u1_7 rr2_8, cRo Bs3_9, cBlk b_11 [u0_6, u1_7, I r23, I r33] 55, cBlk b_10 [u0_2, u1_3, I r22, I r32] 26, cOwn (α := Yr) 41 u0_2 r0, cOwn (α := Raw 3) 43 u1_3 rr2_4, cRo Bs3_5, cBlk b_1 [v_b_Years, v_b_Olds, I b_First, I b_Last] 26]) H rfl rfl rfl Sz55 rfl rfl rfl (by simp only [List.all_cons, List.all_nil, Bool.true_and, Bool.and_true, Sl.oc (ownSl (H.get (k := 0) rfl)), Sl.oc (rowSl rfl (H.get (k := 1) rfl) (Cells.sup_le (hC_b_Olds.at H) (roLe _ (H.get (k := 2) rfl))) hf82z)]; try rfl) rfl rfl ?_
    intro w86z H
    refine s_nil ⟨(H.pick [8] (by decide) rfl), ?_⟩
    refine t_nil ?_
    exact ⟨b_10, b_11, r0, r1, r22, r32, r02, r12, r23, r33, u0_6, u1_7, u0_2, u1_3, rr2_8, Bs3_9, rr2_4, Bs3_5, _, upds_of _ _ ⟨rfl, rfl, rfl, rfl, rfl, rfl, rfl, rfl, trivial⟩, hM, (H.pick [3, 4, 0, 1, 2, 5, 6, 7, 8] (by decide) rfl), hf82z, hf23z⟩
   skip
   refine t_alloc (cs := [.slice none 0 0, .slice none 0 0, I 0, I 0]) H Al55 rfl ?_
   intro b_11 w87z H
   refine s_nil ⟨(H.pick [4] (by decide) rfl), ?_⟩
   refine t_l2 rfl rfl ?_ ?_
   ·skip
    obtain ⟨r103z, hx102z, hM⟩ := M.e_bind hM
    refine s_call cf22 [.agg #[v_b_Years, v_b_Olds, I b_First, I b_Last]] rfl (zaf b_Years b_Olds b_First b_Last (hC_b_Years.app _) hs_b_Years (hC_b_Olds.app _) hs_b_Olds hx102z _ (St.give (T := [cBlk b_11 [.slice none 0 0, .slice none 0 0, I 0, I 0] 55, cOwn (α := Yr) 41 u0_2 r0, cOwn (α := Raw 3) 43 u1_3 rr2_4, cRo Bs3_5, cBlk b_1 [v_b_Years, v_b_Olds, I b_First, I b_Last] 26]) H rfl)) ?_
    rintro vq w104z ⟨r02, r12, r23, r33, u0_6, u1_7, rr2_8, Bs3_9, hr105z, hvq, H2_, hf106z⟩
    subst hr105z
    subst vq
    try dsimp only at hM
    replace H : St w w104z [cOwn (α := Yr) 127 u0_6 r02, cOwn (α := Raw 3) 128 u1_7 rr2_8, cRo Bs3_9, cBlk b_11 [.slice none 0 0, .slice none 0 0, I 0, I 0] 55, cOwn (α := Yr) 41 u0_2 r0, cOwn (α := Raw 3) 43 u1_3 rr2_4, cRo Bs3_5, cBlk b_1 [v_b_Years, v_b_Olds, I b_First, I b_Last] 26] R := H.back H2_ rfl
    clear H2_
    have hvc_q107z := Sl.cells (ownSl (H.get (k := 0) rfl))
    have hvo_q107z := Sl.oc (ownSl (H.get (k := 0) rfl))
    have hvc_q108z := Sl.cells (ownSl (H.get (k := 1) rfl))
    have hvo_q108z := Sl.oc (ownSl (H.get (k := 1) rfl))
    refine s_nil ⟨(H.pick [7] (by decide) rfl), ?_⟩
    refine t_l rfl ?_
    refine t_alloc (cs := [.slice none 0 0, .slice none 0 0, I 0, I 0]) H Al26 rfl ?_
    intro b_10 w109z H
    refine s_nil ⟨(H.pick [8] (by decide) rfl), ?_⟩
    refine t_l rfl ?_
    refine t_st (k := 0) (b := b_10) (off := 0) (cs := [.slice none 0 0, .slice none 0 0, I 0, I 0]) (vs := [u0_2, u1_3, I r22, I r32]) (cs' := [u0_2, u1_3, I r22, I r32]) (v := .agg #[u0_2, u1_3, I r22, I r32]) (L' := [cBlk b_10 [u0_2, u1_3, I r22, I r32] 26, cOwn (α := Yr) 127 u0_6 r02, cOwn (α := Raw 3) 128 u1_7 rr2_8, cRo Bs3_9, cBlk b_11 [.slice none 0 0, .slice none 0 0, I 0, I 0] 55, cOwn (α := Yr) 41 u0_2 r0, cOwn (α := Raw 3) 43 u1_3 rr2_4, cRo Bs3_5, cBlk b_1 [v_b_Years, v_b_Olds, I b_First, I b_Last] 26]) H rfl rfl rfl Sz26 rfl rfl rfl (by simp only [List.all_cons, List.all_nil, Bool.true_and, Bool.and_true, Sl.oc (ownSl (H.get (k := 5) rfl)), Sl.oc (rowSl rfl (H.get (k := 6) rfl) (roLe _ (H.get (k := 7) rfl)) hf23z)]; try rfl) rfl rfl ?_
    intro w110z H
    refine s_nil ⟨(H.pick [8] (by decide) rfl), ?_⟩
    refine t_l rfl ?_
    refine t_st (k := 4) (b := b_11) (off := 0) (cs := [.slice none 0 0, .slice none 0 0, I 0, I 0]) (vs := [u0_6, u1_7, I r23, I r33]) (cs' := [u0_6, u1_7, I r23, I r33]) (v := .agg #[u0_6, u1_7, I r23, I r33]) (L' := [cBlk b_10 [u0_2, u1_3, I r22, I r32] 26, cOwn (α := Yr) 127 u0_6 r02, cOwn (α := Raw 3) 128 u1_7 rr2_8, cRo Bs3_9, cBlk b_11 [u0_6, u1_7, I r23, I r33] 55, cOwn (α := Yr) 41 u0_2 r0, cOwn (α := Raw 3) 43 u1_3 rr2_4, cRo Bs3_5, cBlk b_1 [v_b_Years, v_b_Olds, I b_First, I b_Last] 26]) H rfl rfl rfl Sz55 rfl rfl rfl (by simp only [List.all_cons, List.all_nil, Bool.true_and, Bool.and_true, Sl.oc (ownSl (H.get (k := 1) rfl)), Sl.oc (rowSl rfl (H.get (k := 2) rfl) (Cells.sup_le (hC_b_Olds.at H) (roLe _ (H.get (k := 3) rfl))) hf106z)]; try rfl) rfl rfl ?_
    intro w111z H
    refine s_nil ⟨(H.pick [8] (by decide) rfl), ?_⟩
    refine t_nil ?_
    exact ⟨b_10, b_11, r0, r1, r22, r32, r02, r12, r23, r33, u0_6, u1_7, u0_2, u1_3, rr2_8, Bs3_9, rr2_4, Bs3_5, _, upds_of _ _ ⟨rfl, rfl, rfl, rfl, rfl, rfl, rfl, rfl, trivial⟩, hM, (H.pick [4, 0, 1, 2, 3, 5, 6, 7, 8] (by decide) rfl), hf106z, hf23z⟩
   skip
   refine t_alloc (cs := [.slice none 0 0, .slice none 0 0, I 0, I 0]) H Al26 rfl ?_
   intro b_10 w112z H
   refine s_nil ⟨(H.pick [5] (by decide) rfl), ?_⟩
   refine t_l rfl ?_
   obtain ⟨r114z, hx113z, hM⟩ := M.e_bind hM
   refine s_call cf22 [.agg #[v_b_Years, v_b_Olds, I b_First, I b_Last]] rfl (zaf b_Years b_Olds b_First b_Last (hC_b_Years.app _) hs_b_Years (hC_b_Olds.app _) hs_b_Olds hx113z _ (St.give (T := [cBlk b_10 [.slice none 0 0, .slice none 0 0, I 0, I 0] 26, cBlk b_11 [.slice none 0 0, .slice none 0 0, I 0, I 0] 55, cOwn (α := Yr) 41 u0_2 r0, cOwn (α := Raw 3) 43 u1_3 rr2_4, cRo Bs3_5, cBlk b_1 [v_b_Years, v_b_Olds, I b_First, I b_Last] 26]) H rfl)) ?_
   rintro vq w115z ⟨r02, r12, r23, r33, u0_6, u1_7, rr2_8, Bs3_9, hr116z, hvq, H2_, hf117z⟩
   subst hr116z
   subst vq
   try dsimp only at hM
   replace H : St w w115z [cOwn (α := Yr) 127 u0_6 r02, cOwn (α := Raw 3) 128 u1_7 rr2_8, cRo Bs3_9, cBlk b_10 [.slice none 0 0, .slice none 0 0, I 0, I 0] 26, cBlk b_11 [.slice none 0 0, .slice none 0 0, I 0, I 0] 55, cOwn (α := Yr) 41 u0_2 r0, cOwn (α := Raw 3) 43 u1_3 rr2_4, cRo Bs3_5, cBlk b_1 [v_b_Years, v_b_Olds, I b_First, I b_Last] 26] R := H.back H2_ rfl
   clear H2_
   have hvc_q118z := Sl.cells (ownSl (H.get (k := 0) rfl))
   have hvo_q118z := Sl.oc (ownSl (H.get (k := 0) rfl))
   have hvc_q119z := Sl.cells (ownSl (H.get (k := 1) rfl))
   have hvo_q119z := Sl.oc (ownSl (H.get (k := 1) rfl))
   refine s_nil ⟨(H.pick [8] (by decide) rfl), ?_⟩
   refine t_l rfl ?_
   refine t_st (k := 3) (b := b_10) (off := 0) (cs := [.slice none 0 0, .slice none 0 0, I 0, I 0]) (vs := [u0_2, u1_3, I r22, I r32]) (cs' := [u0_2, u1_3, I r22, I r32]) (v := .agg #[u0_2, u1_3, I r22, I r32]) (L' := [cOwn (α := Yr) 127 u0_6 r02, cOwn (α := Raw 3) 128 u1_7 rr2_8, cRo Bs3_9, cBlk b_10 [u0_2, u1_3, I r22, I r32] 26, cBlk b_11 [.slice none 0 0, .slice none 0 0, I 0, I 0] 55, cOwn (α := Yr) 41 u0_2 r0, cOwn (α := Raw 3) 43 u1_3 rr2_4, cRo Bs3_5, cBlk b_1 [v_b_Years, v_b_Olds, I b_First, I b_Last] 26]) H rfl rfl rfl Sz26 rfl rfl rfl (by simp only [List.all_cons, List.all_nil, Bool.true_and, Bool.and_true, Sl.oc (ownSl (H.get (k := 5) rfl)), Sl.oc (rowSl rfl (H.get (k := 6) rfl) (roLe _ (H.get (k := 7) rfl)) hf23z)]; try rfl) rfl rfl ?_
   intro w120z H
   refine s_nil ⟨(H.pick [8] (by decide) rfl), ?_⟩
   refine t_l rfl ?_
   refine t_st (k := 4) (b := b_11) (off := 0) (cs := [.slice none 0 0, .slice none 0 0, I 0, I 0]) (vs := [u0_6, u1_7, I r23, I r33]) (cs' := [u0_6, u1_7, I r23, I r33]) (v := .agg #[u0_6, u1_7, I r23, I r33]) (L' := [cOwn (α := Yr) 127 u0_6 r02, cOwn (α := Raw 3) 128 u1_7 rr2_8, cRo Bs3_9, cBlk b_10 [u0_2, u1_3, I r22, I r32] 26, cBlk b_11 [u0_6, u1_7, I r23, I r33] 55, cOwn (α := Yr) 41 u0_2 r0, cOwn (α := Raw 3) 43 u1_3 rr2_4, cRo Bs3_5, cBlk b_1 [v_b_Years, v_b_Olds, I b_First, I b_Last] 26]) H rfl rfl rfl Sz55 rfl rfl rfl (by simp only [List.all_cons, List.all_nil, Bool.true_and, Bool.and_true, Sl.oc (ownSl (H.get (k := 0) rfl)), Sl.oc (rowSl rfl (H.get (k := 1) rfl) (Cells.sup_le (hC_b_Olds.at H) (roLe _ (H.get (k := 2) rfl))) hf117z)]; try rfl) rfl rfl ?_
   intro w121z H
   refine s_nil ⟨(H.pick [8] (by decide) rfl), ?_⟩
   refine t_nil ?_
   exact ⟨b_10, b_11, r0, r1, r22, r32, r02, r12, r23, r33, u0_6, u1_7, u0_2, u1_3, rr2_8, Bs3_9, rr2_4, Bs3_5, _, upds_of _ _ ⟨rfl, rfl, rfl, rfl, rfl, rfl, rfl, rfl, trivial⟩, hM, (H.pick [4, 3, 0, 1, 2, 5, 6, 7, 8] (by decide) rfl), hf117z, hf23z⟩
  ·skip
   refine t_alloc (cs := [.slice none 0 0, .slice none 0 0, I 0, I 0]) H Al26 rfl ?_
   intro b_10 w122z H
   refine s_nil ⟨(H.pick [1] (by decide) rfl), ?_⟩
   refine t_l2 rfl rfl ?_ ?_
   ·skip
    obtain ⟨r143z, hx142z, hM⟩ := M.e_bind hM
    refine s_call cf16 [.agg #[v_b_Years, v_b_Olds, I b_First, I b_Last]] rfl (zbt b_Years b_Olds b_First b_Last (hC_b_Years.app _) hs_b_Years (hC_b_Olds.app _) hs_b_Olds hx142z _ (St.give (T := [cBlk b_10 [.slice none 0 0, .slice none 0 0, I 0, I 0] 26, cBlk b_1 [v_b_Years, v_b_Olds, I b_First, I b_Last] 26]) H rfl)) ?_
    rintro vq w144z ⟨r0, r1, r22, r32, u0_2, u1_3, rr2_4, Bs3_5, hr145z, hvq, H2_, hf146z⟩
    subst hr145z
    subst vq
    try dsimp only at hM
    replace H : St w w144z [cOwn (α := Yr) 41 u0_2 r0, cOwn (α := Raw 3) 43 u1_3 rr2_4, cRo Bs3_5, cBlk b_10 [.slice none 0 0, .slice none 0 0, I 0, I 0] 26, cBlk b_1 [v_b_Years, v_b_Olds, I b_First, I b_Last] 26] R := H.back H2_ rfl
    clear H2_
    have hvc_q147z := Sl.cells (ownSl (H.get (k := 0) rfl))
    have hvo_q147z := Sl.oc (ownSl (H.get (k := 0) rfl))
    have hvc_q148z := Sl.cells (ownSl (H.get (k := 1) rfl))
    have hvo_q148z := Sl.oc (ownSl (H.get (k := 1) rfl))
    refine s_nil ⟨(H.pick [4] (by decide) rfl), ?_⟩
    refine t_l2 rfl rfl ?_ ?_
    ·skip
     obtain ⟨r164z, hx163z, hM⟩ := M.e_bind hM
     refine s_call cf22 [.agg #[v_b_Years, v_b_Olds, I b_First, I b_Last]] rfl (zaf b_Years b_Olds b_First b_Last (hC_b_Years.app _) hs_b_Years (hC_b_Olds.app _) hs_b_Olds hx163z _ (St.give (T := [cOwn (α := Yr) 41 u0_2 r0, cOwn (α := Raw 3) 43 u1_3 rr2_4, cRo Bs3_5, cBlk b_10 [.slice none 0 0, .slice none 0 0, I 0, I 0] 26, cBlk b_1 [v_b_Years, v_b_Olds, I b_First, I b_Last] 26]) H rfl)) ?_
     rintro vq w165z ⟨r02, r12, r23, r33, u0_6, u1_7, rr2_8, Bs3_9, hr166z, hvq, H2_, hf167z⟩
     subst hr166z
     subst vq
     try dsimp only at hM
     replace H : St w w165z [cOwn (α := Yr) 127 u0_6 r02, cOwn (α := Raw 3) 128 u1_7 rr2_8, cRo Bs3_9, cOwn (α := Yr) 41 u0_2 r0, cOwn (α := Raw 3) 43 u1_3 rr2_4, cRo Bs3_5, cBlk b_10 [.slice none 0 0, .slice none 0 0, I 0, I 0] 26, cBlk b_1 [v_b_Years, v_b_Olds, I b_First, I b_Last] 26] R := H.back H2_ rfl
     clear H2_
     have hvc_q168z := Sl.cells (ownSl (H.get (k := 0) rfl))
     have hvo_q168z := Sl.oc (ownSl (H.get (k := 0) rfl))
     have hvc_q169z := Sl.cells (ownSl (H.get (k := 1) rfl))
     have hvo_q169z := Sl.oc (ownSl (H.get (k := 1) rfl))
     refine s_nil ⟨(H.pick [7] (by decide) rfl), ?_⟩
     refine t_l rfl ?_
     refine t_alloc (cs := [.slice none 0 0, .slice none 0 0, I 0, I 0]) H Al55 rfl ?_
     intro b_11 w170z H
     refine s_nil ⟨(H.pick [8] (by decide) rfl), ?_⟩
     refine t_l rfl ?_
     refine t_st (k := 7) (b := b_10) (off := 0) (cs := [.slice none 0 0, .slice none 0 0, I 0, I 0]) (vs := [u0_2, u1_3, I r22, I r32]) (cs' := [u0_2, u1_3, I r22, I r32]) (v := .agg #[u0_2, u1_3, I r22, I r32]) (L' := [cBlk b_11 [.slice none 0 0, .slice none 0 0, I 0, I 0] 55, cOwn (α := Yr) 127 u0_6 r02, cOwn (α := Raw 3) 128 u1_7 rr2_8, cRo Bs3_9, cOwn (α := Yr) 41 u0_2 r0, cOwn (α := Raw 3) 43 u1_3 rr2_4, cRo Bs3_5, cBlk b_10 [u0_2, u1_3, I r22, I r32] 26, cBlk b_1 [v_b_Years, v_b_Olds, I b_First, I b_Last] 26]) H rfl rfl rfl Sz26 rfl rfl rfl (by simp only [List.all_cons, List.all_nil, Bool.true_and, Bool.and_true, Sl.oc (ownSl (H.get (k := 4) rfl)), Sl.oc (rowSl rfl (H.get (k := 5) rfl) (roLe _ (H.get (k := 6) rfl)) hf146z)]; try rfl) rfl rfl ?_
     intro w171z H
     refine s_nil ⟨(H.pick [8] (by decide) rfl), ?_⟩
     refine t_l rfl ?_
     refine t_st (k := 0) (b := b_11) (off := 0) (cs := [.slice none 0 0, .slice none 0 0, I 0, I 0]) (vs := [u0_6, u1_7, I r23, I r33]) (cs' := [u0_6, u1_7, I r23, I r33]) (v := .agg #[u0_6, u1_7, I r23, I r33]) (L' := [cBlk b_11 [u0_6, u1_7, I r23, I r33] 55, cOwn (α := Yr) 127 u0_6 r02, cOwn (α := Raw 3) 128 u1_7 rr2_8, cRo Bs3_9, cOwn (α := Yr) 41 u0_2 r0, cOwn (α := Raw 3) 43 u1_3 rr2_4, cRo Bs3_5, cBlk b_10 [u0_2, u1_3, I r22, I r32] 26, cBlk b_1 [v_b_Years, v_b_Olds, I b_First, I b_Last] 26]) H rfl rfl rfl Sz55 rfl rfl rfl (by simp only [List.all_cons, List.all_nil, Bool.true_and, Bool.and_true, Sl.oc (ownSl (H.get (k := 1) rfl)), Sl.oc (rowSl rfl (H.get (k := 2) rfl) (Cells.sup_le (hC_b_Olds.at H) (roLe _ (H.get (k := 3) rfl))) hf167z)]; try rfl) rfl rfl ?_
     intro w172z H
     refine s_nil ⟨(H.pick [8] (by decide) rfl), ?_⟩
     refine t_nil ?_
     exact ⟨b_10, b_11, r0, r1, r22, r32, r02, r12, r23, r33, u0_6, u1_7, u0_2, u1_3, rr2_8, Bs3_9, rr2_4, Bs3_5, _, upds_of _ _ ⟨rfl, rfl, rfl, rfl, rfl, rfl, rfl, rfl, trivial⟩, hM, (H.pick [0, 7, 1, 2, 3, 4, 5, 6, 8] (by decide) rfl), hf167z, hf146z⟩
    skip
    refine t_alloc (cs := [.slice none 0 0, .slice none 0 0, I 0, I 0]) H Al55 rfl ?_
    intro b_11 w173z H
    refine s_nil ⟨(H.pick [5] (by decide) rfl), ?_⟩
    refine t_l rfl ?_
    obtain ⟨r175z, hx174z, hM⟩ := M.e_bind hM
    refine s_call cf22 [.agg #[v_b_Years, v_b_Olds, I b_First, I b_Last]] rfl (zaf b_Years b_Olds b_First b_Last (hC_b_Years.app _) hs_b_Years (hC_b_Olds.app _) hs_b_Olds hx174z _ (St.give (T := [cBlk b_11 [.slice none 0 0, .slice none 0 0, I 0, I 0] 55, cOwn (α := Yr) 41 u0_2 r0, cOwn (α := Raw 3) 43 u1_3 rr2_4, cRo Bs3_5, cBlk b_10 [.slice none 0 0, .slice none 0 0, I 0, I 0] 26, cBlk b_1 [v_b_Years, v_b_Olds, I b_First, I b_Last] 26]) H rfl)) ?_
    rintro vq w176z ⟨r02, r12, r23, r33, u0_6, u1_7, rr2_8, Bs3_9, hr177z, hvq, H2_, hf178z⟩
    subst hr177z
    subst vq
    try dsimp only at hM
    replace H : St w w176z [cOwn (α := Yr) 127 u0_6 r02, cOwn (α := Raw 3) 128 u1_7 rr2_8, cRo Bs3_9, cBlk b_11 [.slice none 0 0, .slice none 0 0, I 0, I 0] 55, cOwn (α := Yr) 41 u0_2 r0, cOwn (α := Raw 3) 43 u1_3 rr2_4, cRo Bs3_5, cBlk b_10 [.slice none 0 0, .slice none 0 0, I 0, I 0] 26, cBlk b_1 [v_b_Years, v_b_Olds, I b_First, I b_Last] 26] R := H.back H2_ rfl
    clear H2_
    have hvc_q179z := Sl.cells (ownSl (H.get (k := 0) rfl))
    have hvo_q179z := Sl.oc (ownSl (H.get (k := 0) rfl))
    have hvc_q180z := Sl.cells (ownSl (H.get (k := 1) rfl))
    have hvo_q180z := Sl.oc (ownSl (H.get (k := 1) rfl))
    refine s_nil ⟨(H.pick [8] (by decide) rfl), ?_⟩
    refine t_l rfl ?_
    refine t_st (k := 7) (b := b_10) (off := 0) (cs := [.slice none 0 0, .slice none 0 0, I 0, I 0]) (vs := [u0_2, u1_3, I r22, I r32]) (cs' := [u0_2, u1_3, I r22, I r32]) (v := .agg #[u0_2, u1_3, I r22, I r32]) (L' := [cOwn (α := Yr) 127 u0_6 r02, cOwn (α := Raw 3) 128 u1_7 rr2_8, cRo Bs3_9, cBlk b_11 [.slice none 0 0, .slice none 0 0, I 0, I 0] 55, cOwn (α := Yr) 41 u0_2 r0, cOwn (α := Raw 3) 43 u1_3 rr2_4, cRo Bs3_5, cBlk b_10 [u0_2, u1_3, I r22, I r32] 26, cBlk b_1 [v_b_Years, v_b_Olds, I b_First, I b_Last] 26]) H rfl rfl rfl Sz26 rfl rfl rfl (by simp only [List.all_cons, List.all_nil, Bool.true_and, Bool.and_true, Sl.oc (ownSl (H.get (k := 4) rfl)), Sl.oc (rowSl rfl (H.get (k := 5) rfl) (roLe _ (H.get (k := 6) rfl)) hf146z)]; try rfl) rfl rfl ?_
    intro w181z H
    refine s_nil ⟨(H.pick [8] (by decide) rfl), ?_⟩
    refine t_l rfl ?_
    refine t_st (k := 3) (b := b_11) (off := 0) (cs := [.slice none 0 0, .slice none 0 0, I 0, I 0]) (vs := [u0_6, u1_7, I r23, I r33]) (cs' := [u0_6, u1_7, I r23, I r33]) (v := .agg #[u0_6, u1_7, I r23, I r33]) (L' := [cOwn (α := Yr) 127 u0_6 r02, cOwn (α := Raw 3) 128 u1_7 rr2_8, cRo Bs3_9, cBlk b_11 [u0_6, u1_7, I r23, I r33] 55, cOwn (α := Yr) 41 u0_2 r0, cOwn (α := Raw 3) 43 u1_3 rr2_4, cRo Bs3_5, cBlk b_10 [u0_2, u1_3, I r22, I r32] 26, cBlk b_1 [v_b_Years, v_b_Olds, I b_First, I b_Last] 26]) H rfl rfl rfl Sz55 rfl rfl rfl (by simp only [List.all_cons, List.all_nil, Bool.true_and, Bool.and_true, Sl.oc (ownSl (H.get (k := 0) rfl)), Sl.oc (rowSl rfl (H.get (k := 1) rfl) (Cells.sup_le (hC_b_Olds.at H) (roLe _ (H.get (k := 2) rfl))) hf178z)]; try rfl) rfl rfl ?_
    intro w182z H
    refine s_nil ⟨(H.pick [8] (by decide) rfl), ?_⟩
    refine t_nil ?_
    exact ⟨b_10, b_11, r0, r1, r22, r32, r02, r12, r23, r33, u0_6, u1_7, u0_2, u1_3, rr2_8, Bs3_9, rr2_4, Bs3_5, _, upds_of _ _ ⟨rfl, rfl, rfl, rfl, rfl, rfl, rfl, rfl, trivial⟩, hM, (H.pick [3, 7, 0, 1, 2, 4, 5, 6, 8] (by decide) rfl), hf178z, hf146z⟩
   skip
   refine t_alloc (cs := [.slice none 0 0, .slice none 0 0, I 0, I 0]) H Al55 rfl ?_
   intro b_11 w183z H
   refine s_nil ⟨(H.pick [2] (by decide) rfl), ?_⟩
   refine t_l rfl ?_
   obtain ⟨r185z, hx184z, hM⟩ := M.e_bind hM
   refine s_call cf16 [.agg #[v_b_Years, v_b_Olds, I b_First, I b_Last]] rfl (zbt b_Years b_Olds b_First b_Last (hC_b_Years.app _) hs_b_Years (hC_b_Olds.app _) hs_b_Olds hx184z _ (St.give (T := [cBlk b_11 [.slice none 0 0, .slice none 0 0, I 0, I 0] 55, cBlk b_10 [.slice none 0 0, .slice none 0 0, I 0, I 0] 26, cBlk b_1 [v_b_Years, v_b_Olds, I b_First, I b_Last] 26]) H rfl)) ?_
   rintro vq w186z ⟨r0, r1, r22, r32, u0_2, u1_3, rr2_4, Bs3_5, hr187z, hvq, H2_, hf188z⟩
   subst hr187z
   subst vq
   try dsimp only at hM
   replace H : St w w186z [cOwn (α := Yr) 41 u0_2 r0, cOwn (α := Raw 3) 43 u1_3 rr2_4, cRo Bs3_5, cBlk b_11 [.slice none 0 0, .slice none 0 0, I 0, I 0] 55, cBlk b_10 [.slice none 0 0, .slice none 0 0, I 0, I 0] 26, cBlk b_1 [v_b_Years, v_b_Olds, I b_First, I b_Last] 26] R := H.back H2_ rfl
   clear H2_
   have hvc_q189z := Sl.cells (ownSl (H.get (k := 0) rfl))
   have hvo_q189z := Sl.oc (ownSl (H.get (k := 0) rfl))
   have hvc_q190z := Sl.cells (ownSl (H.get (k := 1) rfl))
   have hvo_q190z := Sl.oc (ownSl (H.get (k := 1) rfl))
   refine s_nil ⟨(H.pick [5] (by decide) rfl), ?_⟩
   refine t_l rfl ?_
   obtain ⟨r192z, hx191z, hM⟩ := M.e_bind hM
   refine s_call cf22 [.agg #[v_b_Years, v_b_Olds, I b_First, I b_Last]] rfl (zaf b_Years b_Olds b_First b_Last (hC_b_Years.app _) hs_b_Years (hC_b_Olds.app _) hs_b_Olds hx191z _ (St.give (T := [cOwn (α := Yr) 41 u0_2 r0, cOwn (α := Raw 3) 43 u1_3 rr2_4, cRo Bs3_5, cBlk b_11 [.slice none 0 0, .slice none 0 0, I 0, I 0] 55, cBlk b_10 [.slice none 0 0, .slice none 0 0, I 0, I 0] 26, cBlk b_1 [v_b_Years, v_b_Olds, I b_First, I b_Last] 26]) H rfl)) ?_
   rintro vq w193z ⟨r02, r12, r23, r33, u0_6, u1_7, rr2_8, Bs3_9, hr194z, hvq, H2_, hf195z⟩
   subst hr194z
   subst vq
   try dsimp only at hM
   replace H : St w w193z [cOwn (α := Yr) 127 u0_6 r02, cOwn (α := Raw 3) 128 u1_7 rr2_8, cRo Bs3_9, cOwn (α := Yr) 41 u0_2 r0, cOwn (α := Raw 3) 43 u1_3 rr2_4, cRo Bs3_5, cBlk b_11 [.slice none 0 0, .slice none 0 0, I 0, I 0] 55, cBlk b_10 [.slice none 0 0, .slice none 0 0, I 0, I 0] 26, cBlk b_1 [v_b_Years, v_b_Olds, I b_First, I b_Last] 26] R := H.back H2_ rfl
   clear H2_
   have hvc_q196z := Sl.cells (ownSl (H.get (k := 0) rfl))
   have hvo_q196z := Sl.oc (ownSl (H.get (k := 0) rfl))
   have hvc_q197z := Sl.cells (ownSl (H.get (k := 1) rfl))
   have hvo_q197z := Sl.oc (ownSl (H.get (k := 1) rfl))
   refine s_nil ⟨(H.pick [8] (by decide) rfl), ?_⟩
   refine t_l rfl ?_
   refine t_st (k := 7) (b := b_10) (off := 0) (cs := [.slice none 0 0, .slice none 0 0, I 0, I 0]) (vs := [u0_2, u1_3, I r22, I r32]) (cs' := [u0_2, u1_3, I r22, I r32]) (v := .agg #[u0_2, u1_3, I r22, I r32]) (L' := [cOwn (α := Yr) 127 u0_6 r02, cOwn (α := Raw 3) 128 u1_7 rr2_8, cRo Bs3_9, cOwn (α := Yr) 41 u0_2 r0, cOwn (α := Raw 3) 43 u1_3 rr2_4, cRo Bs3_5, cBlk b_11 [.slice none 0 0, .slice none 0 0, I 0, I 0] 55, cBlk b_10 [u0_2, u1_3, I r22, I r32] 26, cBlk b_1 [v_b_Years, v_b_Olds, I b_First, I b_Last] 26]) H rfl rfl rfl Sz26 rfl rfl rfl (by simp only [List.all_cons, List.all_nil, Bool.true_and, Bool.and_true, Sl.oc (ownSl (H.get (k := 3) rfl)), Sl.oc (rowSl rfl (H.get (k := 4) rfl) (roLe _ (H.get (k := 5) rfl)) hf188z)]; try rfl) rfl rfl ?_
   intro w198z H
   refine s_nil ⟨(H.pick [8] (by decide) rfl), ?_⟩
   refine t_l rfl ?_
   refine t_st (k := 6) (b := b_11) (off := 0) (cs := [.slice none 0 0, .slice none 0 0, I 0, I 0]) (vs := [u0_6, u1_7, I r23, I r33]) (cs' := [u0_6, u1_7, I r23, I r33]) (v := .agg #[u0_6, u1_7, I r23, I r33]) (L' := [cOwn (α := Yr) 127 u0_6 r02, cOwn (α := Raw 3) 128 u1_7 rr2_8, cRo Bs3_9, cOwn (α := Yr) 41 u0_2 r0, cOwn (α := Raw 3) 43 u1_3 rr2_4, cRo Bs3_5, cBlk b_11 [u0_6, u1_7, I r23, I r33] 55, cBlk b_10 [u0_2, u1_3, I r22, I r32] 26, cBlk b_1 [v_b_Years, v_b_Olds, I b_First, I b_Last] 26]) H rfl rfl rfl Sz55 rfl rfl rfl (by simp only [List.all_cons, List.all_nil, Bool.true_and, Bool.and_true, Sl.oc (ownSl (H.get (k := 0) rfl)), Sl.oc (rowSl rfl (H.get (k := 1) rfl) (Cells.sup_le (hC_b_Olds.at H) (roLe _ (H.get (k := 2) rfl))) hf195z)]; try rfl) rfl rfl ?_
   intro w199z H
   refine s_nil ⟨(H.pick [8] (by decide) rfl), ?_⟩
   refine t_nil ?_
   exact ⟨b_10, b_11, r0, r1, r22, r32, r02, r12, r23, r33, u0_6, u1_7, u0_2, u1_3, rr2_8, Bs3_9, rr2_4, Bs3_5, _, upds_of _ _ ⟨rfl, rfl, rfl, rfl, rfl, rfl, rfl, rfl, trivial⟩, hM, (H.pick [6, 7, 0, 1, 2, 3, 4, 5, 8] (by decide) rfl), hf195z, hf188z⟩
  skip
  refine t_alloc (cs := [.slice none 0 0, .slice none 0 0, I 0, I 0]) H Al55 rfl ?_
  intro b_11 w200z H
  refine s_nil ⟨(H.pick [1] (by decide) rfl), ?_⟩
  refine t_l2 rfl rfl ?_ ?_
  ·skip
   obtain ⟨r221z, hx220z, hM⟩ := M.e_bind hM
   refine s_call cf16 [.agg #[v_b_Years, v_b_Olds, I b_First, I b_Last]] rfl (zbt b_Years b_Olds b_First b_Last (hC_b_Years.app _) hs_b_Years (hC_b_Olds.app _) hs_b_Olds hx220z _ (St.give (T := [cBlk b_11 [.slice none 0 0, .slice none 0 0, I 0, I 0] 55, cBlk b_1 [v_b_Years, v_b_Olds, I b_First, I b_Last] 26]) H rfl)) ?_
   rintro vq w222z ⟨r0, r1, r22, r32, u0_2, u1_3, rr2_4, Bs3_5, hr223z, hvq, H2_, hf224z⟩
   subst hr223z
   subst vq
   try dsimp only at hM
   replace H : St w w222z [cOwn (α := Yr) 41 u0_2 r0, cOwn (α := Raw 3) 43 u1_3 rr2_4, cRo Bs3_5, cBlk b_11 [.slice none 0 0, .slice none 0 0, I 0, I 0] 55, cBlk b_1 [v_b_Years, v_b_Olds, I b_First, I b_Last] 26] R := H.back H2_ rfl
   clear H2_
   have hvc_q225z := Sl.cells (ownSl (H.get (k := 0) rfl))
   have hvo_q225z := Sl.oc (ownSl (H.get (k := 0) rfl))
   have hvc_q226z := Sl.cells (ownSl (H.get (k := 1) rfl))
   have hvo_q226z := Sl.oc (ownSl (H.get (k := 1) rfl))
   refine s_nil ⟨(H.pick [4] (by decide) rfl), ?_⟩
   refine t_l2 rfl rfl ?_ ?_
   ·skip
    obtain ⟨r242z, hx241z, hM⟩ := M.e_bind hM
    refine s_call cf22 [.agg #[v_b_Years, v_b_Olds, I b_First, I b_Last]] rfl (zaf b_Years b_Olds b_First b_Last (hC_b_Years.app _) hs_b_Years (hC_b_Olds.app _) hs_b_Olds hx241z _ (St.give (T := [cOwn (α := Yr) 41 u0_2 r0, cOwn (α := Raw 3) 43 u1_3 rr2_4, cRo Bs3_5, cBlk b_11 [.slice none 0 0, .slice none 0 0, I 0, I 0] 55, cBlk b_1 [v_b_Years, v_b_Olds, I b_First, I b_Last] 26]) H rfl)) ?_
    rintro vq w243z ⟨r02, r12, r23, r33, u0_6, u1_7, rr2_8, Bs3_9, hr244z, hvq, H2_, hf245z⟩
    subst hr244z
    subst vq
    try dsimp only at hM
    replace H : St w w243z [cOwn (α := Yr) 127 u0_6 r02, cOwn (α := Raw 3) 128 u1_7 rr2_8, cRo Bs3_9, cOwn (α := Yr) 41 u0_2 r0, cOwn (α := Raw 3) 43 u1_3 rr2_4, cRo Bs3_5, cBlk b_11 [.slice none 0 0, .slice none 0 0, I 0, I 0] 55, cBlk b_1 [v_b_Years, v_b_Olds, I b_First, I b_Last] 26] R := H.back H2_ rfl
    clear H2_
    have hvc_q246z := Sl.cells (ownSl (H.get (k := 0) rfl))
    have hvo_q246z := Sl.oc (ownSl (H.get (k := 0) rfl))
    have hvc_q247z := Sl.cells (ownSl (H.get (k := 1) rfl))
    have hvo_q247z := Sl.oc (ownSl (H.get (k := 1) rfl))
    refine s_nil ⟨(H.pick [7] (by decide) rfl), ?_⟩
    refine t_l rfl ?_
    refine t_alloc (cs := [.slice none 0 0, .slice none 0 0, I 0, I 0]) H Al26 rfl ?_
    intro b_10 w248z H
    refine s_nil ⟨(H.pick [8] (by decide) rfl), ?_⟩
    refine t_l rfl ?_
    refine t_st (k := 0) (b := b_10) (off := 0) (cs := [.slice none 0 0, .slice none 0 0, I 0, I 0]) (vs := [u0_2, u1_3, I r22, I r32]) (cs' := [u0_2, u1_3, I r22, I r32]) (v := .agg #[u0_2, u1_3, I r22, I r32]) (L' := [cBlk b_10 [u0_2, u1_3, I r22, I r32] 26, cOwn (α := Yr) 127 u0_6 r02, cOwn (α := Raw 3) 128 u1_7 rr2_8, cRo Bs3_9, cOwn (α := Yr) 41 u0_2 r0, cOwn (α := Raw 3) 43 u1_3 rr2_4, cRo Bs3_5, cBlk b_11 [.slice none 0 0, .slice none 0 0, I 0, I 0] 55, cBlk b_1 [v_b_Years, v_b_Olds, I b_First, I b_Last] 26]) H rfl rfl rfl Sz26 rfl rfl rfl (by simp only [List.all_cons, List.all_nil, Bool.true_and, Bool.and_true, Sl.oc (ownSl (H.get (k := 4) rfl)), Sl.oc (rowSl rfl (H.get (k := 5) rfl) (roLe _ (H.get (k := 6) rfl)) hf224z)]; try rfl) rfl rfl ?_
    intro w249z H
    refine s_nil ⟨(H.pick [8] (by decide) rfl), ?_⟩
    refine t_l rfl ?_
    refine t_st (k := 7) (b := b_11) (off := 0) (cs := [.slice none 0 0, .slice none 0 0, I 0, I 0]) (vs := [u0_6, u1_7, I r23, I r33]) (cs' := [u0_6, u1_7, I r23, I r33]) (v := .agg #[u0_6, u1_7, I r23, I r33]) (L' := [cBlk b_10 [u0_2, u1_3, I r22, I r32] 26, cOwn (α := Yr) 127 u0_6 r02, cOwn (α := Raw 3) 128 u1_7 rr2_8, cRo Bs3_9, cOwn (α := Yr) 41 u0_2 r0, cOwn (α := Raw 3) 43 u1_3 rr2_4, cRo Bs3_5, cBlk b_11 [u0_6, u1_7, I r23, I r33] 55, cBlk b_1 [v_b_Years, v_b_Olds, I b_First, I b_Last] 26]) H rfl rfl rfl Sz55 rfl rfl rfl (by simp only [List.all_cons, List.all_nil, Bool.true_and, Bool.and_true, Sl.oc (ownSl (H.get (k := 1) rfl)), Sl.oc (rowSl rfl (H.get (k := 2) rfl) (Cells.sup_le (hC_b_Olds.at H) (roLe _ (H.get (k := 3) rfl))) hf245z)]; try rfl) rfl rfl ?_
    intro w250z H
    refine s_nil ⟨(H.pick [8] (by decide) rfl), ?_⟩
    refine t_nil ?_
    exact ⟨b_10, b_11, r0, r1, r22, r32, r02, r12, r23, r33, u0_6, u1_7, u0_2, u1_3, rr2_8, Bs3_9, rr2_4, Bs3_5, _, upds_of _ _ ⟨rfl, rfl, rfl, rfl, rfl, rfl, rfl, rfl, trivial⟩, hM, (H.pick [7, 0, 1, 2, 3, 4, 5, 6, 8] (by decide) rfl), hf245z, hf224z⟩
   skip
   refine t_alloc (cs := [.slice none 0 0, .slice none 0 0, I 0, I 0]) H Al26 rfl ?_
   intro b_10 w251z H
   refine s_nil ⟨(H.pick [5] (by decide) rfl), ?_⟩
   refine t_l rfl ?_
   obtain ⟨r253z, hx252z, hM⟩ := M.e_bind hM
   refine s_call cf22 [.agg #[v_b_Years, v_b_Olds, I b_First, I b_Last]] rfl (zaf b_Years b_Olds b_First b_Last (hC_b_Years.app _) hs_b_Years (hC_b_Olds.app _) hs_b_Olds hx252z _ (St.give (T := [cBlk b_10 [.slice none 0 0, .slice none 0 0, I 0, I 0] 26, cOwn (α := Yr) 41 u0_2 r0, cOwn (α := Raw 3) 43 u1_3 rr2_4, cRo Bs3_5, cBlk b_11 [.slice none 0 0, .slice none 0 0, I 0, I 0] 55, cBlk b_1 [v_b_Years, v_b_Olds, I b_First, I b_Last] 26]) H rfl)) ?_
   rintro vq w254z ⟨r02, r12, r23, r33, u0_6, u1_7, rr2_8, Bs3_9, hr255z, hvq, H2_, hf256z⟩
   subst hr255z
   subst vq
   try dsimp only at hM
   replace H : St w w254z [cOwn (α := Yr) 127 u0_6 r02, cOwn (α := Raw 3) 128 u1_7 rr2_8, cRo Bs3_9, cBlk b_10 [.slice none 0 0, .slice none 0 0, I 0, I 0] 26, cOwn (α := Yr) 41 u0_2 r0, cOwn (α := Raw 3) 43 u1_3 rr2_4, cRo Bs3_5, cBlk b_11 [.slice none 0 0, .slice none 0 0, I 0, I 0] 55, cBlk b_1 [v_b_Years, v_b_Olds, I b_First, I b_Last] 26] R := H.back H2_ rfl
   clear H2_
   have hvc_q257z := Sl.cells (ownSl (H.get (k := 0) rfl))
   have hvo_q257z := Sl.oc (ownSl (H.get (k := 0) rfl))
   have hvc_q258z := Sl.cells (ownSl (H.get (k := 1) rfl))
   have hvo_q258z := Sl.oc (ownSl (H.get (k := 1) rfl))
   refine s_nil ⟨(H.pick [8] (by decide) rfl), ?_⟩
   refine t_l rfl ?_
   refine t_st (k := 3) (b := b_10) (off := 0) (cs := [.slice none 0 0, .slice none 0 0, I 0, I 0]) (vs := [u0_2, u1_3, I r22, I r32]) (cs' := [u0_2, u1_3, I r22, I r32]) (v := .agg #[u0_2, u1_3, I r22, I r32]) (L' := [cOwn (α := Yr) 127 u0_6 r02, cOwn (α := Raw 3) 128 u1_7 rr2_8, cRo Bs3_9, cBlk b_10 [u0_2, u1_3, I r22, I r32] 26, cOwn (α := Yr) 41 u0_2 r0, cOwn (α := Raw 3) 43 u1_3 rr2_4, cRo Bs3_5, cBlk b_11 [.slice none 0 0, .slice none 0 0, I 0, I 0] 55, cBlk b_1 [v_b_Years, v_b_Olds, I b_First, I b_Last] 26]) H rfl rfl rfl Sz26 rfl rfl rfl (by simp only [List.all_cons, List.all_nil, Bool.true_and, Bool.and_true, Sl.oc (ownSl (H.get (k := 4) rfl)), Sl.oc (rowSl rfl (H.get (k := 5) rfl) (roLe _ (H.get (k := 6) rfl)) hf224z)]; try rfl) rfl rfl ?_
   intro w259z H
   refine s_nil ⟨(H.pick [8] (by decide) rfl), ?_⟩
   refine t_l rfl ?_
   refine t_st (k := 7) (b := b_11) (off := 0) (cs := [.slice none 0 0, .slice none 0 0, I 0, I 0]) (vs := [u0_6, u1_7, I r23, I r33]) (cs' := [u0_6, u1_7, I r23, I r33]) (v := .agg #[u0_6, u1_7, I r23, I r33]) (L' := [cOwn (α := Yr) 127 u0_6 r02, cOwn (α := Raw 3) 128 u1_7 rr2_8, cRo Bs3_9, cBlk b_10 [u0_2, u1_3, I r22, I r32] 26, cOwn (α := Yr) 41 u0_2 r0, cOwn (α := Raw 3) 43 u1_3 rr2_4, cRo Bs3_5, cBlk b_11 [u0_6, u1_7, I r23, I r33] 55, cBlk b_1 [v_b_Years, v_b_Olds, I b_First, I b_Last] 26]) H rfl rfl rfl Sz55 rfl rfl rfl (by simp only [List.all_cons, List.all_nil, Bool.true_and, Bool.and_true, Sl.oc (ownSl (H.get (k := 0) rfl)), Sl.oc (rowSl rfl (H.get (k := 1) rfl) (Cells.sup_le (hC_b_Olds.at H) (roLe _ (H.get (k := 2) rfl))) hf256z)]; try rfl) rfl rfl ?_
   intro w260z H
   refine s_nil ⟨(H.pick [8] (by decide) rfl), ?_⟩
   refine t_nil ?_
   exact ⟨b_10, b_11, r0, r1, r22, r32, r02, r12, r23, r33, u0_6, u1_7, u0_2, u1_3, rr2_8, Bs3_9, rr2_4, Bs3_5, _, upds_of _ _ ⟨rfl, rfl, rfl, rfl, rfl, rfl, rfl, rfl, trivial⟩, hM, (H.pick [7, 3, 0, 1, 2, 4, 5, 6, 8] (by decide) rfl), hf256z, hf224z⟩
  skip
  refine t_alloc (cs := [.slice none 0 0, .slice none 0 0, I 0, I 0]) H Al26 rfl ?_
  intro b_10 w261z H
  refine s_nil ⟨(H.pick [2] (by decide) rfl), ?_⟩
  refine t_l rfl ?_
  obtain ⟨r263z, hx262z, hM⟩ := M.e_bind hM
  refine s_call cf16 [.agg #[v_b_Years, v_b_Olds, I b_First, I b_Last]] rfl (zbt b_Years b_Olds b_First b_Last (hC_b_Years.app _) hs_b_Years (hC_b_Olds.app _) hs_b_Olds hx262z _ (St.give (T := [cBlk b_10 [.slice none 0 0, .slice none 0 0, I 0, I 0] 26, cBlk b_11 [.slice none 0 0, .slice none 0 0, I 0, I 0] 55, cBlk b_1 [v_b_Years, v_b_Olds, I b_First, I b_Last] 26]) H rfl)) ?_
  rintro vq w264z ⟨r0, r1, r22, r32, u0_2, u1_3, rr2_4, Bs3_5, hr265z, hvq, H2_, hf266z⟩
  subst hr265z
  subst vq
  try dsimp only at hM
  replace H : St w w264z [cOwn (α := Yr) 41 u0_2 r0, cOwn (α := Raw 3) 43 u1_3 rr2_4, cRo Bs3_5, cBlk b_10 [.slice none 0 0, .slice none 0 0, I 0, I 0] 26, cBlk b_11 [.slice none 0 0, .slice none 0 0, I 0, I 0] 55, cBlk b_1 [v_b_Years, v_b_Olds, I b_First, I b_Last] 26] R := H.back H2_ rfl
  clear H2_
  have hvc_q267z := Sl.cells (ownSl (H.get (k := 0) rfl))
  have hvo_q267z := Sl.oc (ownSl (H.get (k := 0) rfl))
  have hvc_q268z := Sl.cells (ownSl (H.get (k := 1) rfl))
  have hvo_q268z := Sl.oc (ownSl (H.get (k := 1) rfl))
  refine s_nil ⟨(H.pick [5] (by decide) rfl), ?_⟩
  refine t_l rfl ?_
  obtain ⟨r270z, hx269z, hM⟩ := M.e_bind hM
  refine s_call cf22 [.agg #[v_b_Years, v_b_Olds, I b_First, I b_Last]] rfl (zaf b_Years b_Olds b_First b_Last (hC_b_Years.app _) hs_b_Years (hC_b_Olds.app _) hs_b_Olds hx269z _ (St.give (T := [cOwn (α := Yr) 41 u0_2 r0, cOwn (α := Raw 3) 43 u1_3 rr2_4, cRo Bs3_5, cBlk b_10 [.slice none 0 0, .slice none 0 0, I 0, I 0] 26, cBlk b_11 [.slice none 0 0, .slice none 0 0, I 0, I 0] 55, cBlk b_1 [v_b_Years, v_b_Olds, I b_First, I b_Last] 26]) H rfl)) ?_
  rintro vq w271z ⟨r02, r12, r23, r33, u0_6, u1_7, rr2_8, Bs3_9, hr272z, hvq, H2_, hf273z⟩
  subst hr272z
  subst vq
  try dsimp only at hM
  replace H : St w w271z [cOwn (α := Yr) 127 u0_6 r02, cOwn (α := Raw 3) 128 u1_7 rr2_8, cRo Bs3_9, cOwn (α := Yr) 41 u0_2 r0, cOwn (α := Raw 3) 43 u1_3 rr2_4, cRo Bs3_5, cBlk b_10 [.slice none 0 0, .slice none 0 0, I 0, I 0] 26, cBlk b_11 [.slice none 0 0, .slice none 0 0, I 0, I 0] 55, cBlk b_1 [v_b_Years, v_b_Olds, I b_First, I b_Last] 26] R := H.back H2_ rfl
  clear H2_
  have hvc_q274z := Sl.cells (ownSl (H.get (k := 0) rfl))
  have hvo_q274z := Sl.oc (ownSl (H.get (k := 0) rfl))
  have hvc_q275z := Sl.cells (ownSl (H.get (k := 1) rfl))
  have hvo_q275z := Sl.oc (ownSl (H.get (k := 1) rfl))
  refine s_nil ⟨(H.pick [8] (by decide) rfl), ?_⟩
  refine t_l rfl ?_
  refine t_st (k := 6) (b := b_10) (off := 0) (cs := [.slice none 0 0, .slice none 0 0, I 0, I 0]) (vs := [u0_2, u1_3, I r22, I r32]) (cs' := [u0_2, u1_3, I r22, I r32]) (v := .agg #[u0_2, u1_3, I r22, I r32]) (L' := [cOwn (α := Yr) 127 u0_6 r02, cOwn (α := Raw 3) 128 u1_7 rr2_8, cRo Bs3_9, cOwn (α := Yr) 41 u0_2 r0, cOwn (α := Raw 3) 43 u1_3 rr2_4, cRo Bs3_5, cBlk b_10 [u0_2, u1_3, I r22, I r32] 26, cBlk b_11 [.slice none 0 0, .slice none 0 0, I 0, I 0] 55, cBlk b_1 [v_b_Years, v_b_Olds, I b_First, I b_Last] 26]) H rfl rfl rfl Sz26 rfl rfl rfl (by simp only [List.all_cons, List.all_nil, Bool.true_and, Bool.and_true, Sl.oc (ownSl (H.get (k := 3) rfl)), Sl.oc (rowSl rfl (H.get (k := 4) rfl) (roLe _ (H.get (k := 5) rfl)) hf266z)]; try rfl) rfl rfl ?_
  intro w276z H
  refine s_nil ⟨(H.pick [8] (by decide) rfl), ?_⟩
  refine t_l rfl ?_
  refine t_st (k := 7) (b := b_11) (off := 0) (cs := [.slice none 0 0, .slice none 0 0, I 0, I 0]) (vs := [u0_6, u1_7, I r23, I r33]) (cs' := [u0_6, u1_7, I r23, I r33]) (v := .agg #[u0_6, u1_7, I r23, I r33]) (L' := [cOwn (α := Yr) 127 u0_6 r02, cOwn (α := Raw 3) 128 u1_7 rr2_8, cRo Bs3_9, cOwn (α := Yr) 41 u0_2 r0, cOwn (α := Raw 3) 43 u1_3 rr2_4, cRo Bs3_5, cBlk b_10 [u0_2, u1_3, I r22, I r32] 26, cBlk b_11 [u0_6, u1_7, I r23, I r33] 55, cBlk b_1 [v_b_Years, v_b_Olds, I b_First, I b_Last] 26]) H rfl rfl rfl Sz55 rfl rfl rfl (by simp only [List.all_cons, List.all_nil, Bool.true_and, Bool.and_true, Sl.oc (ownSl (H.get (k := 0) rfl)), Sl.oc (rowSl rfl (H.get (k := 1) rfl) (Cells.sup_le (hC_b_Olds.at H) (roLe _ (H.get (k := 2) rfl))) hf273z)]; try rfl) rfl rfl ?_
  intro w277z H
  refine s_nil ⟨(H.pick [8] (by decide) rfl), ?_⟩
  refine t_nil ?_
  exact ⟨b_10, b_11, r0, r1, r22, r32, r02, r12, r23, r33, u0_6, u1_7, u0_2, u1_3, rr2_8, Bs3_9, rr2_4, Bs3_5, _, upds_of _ _ ⟨rfl, rfl, rfl, rfl, rfl, rfl, rfl, rfl, trivial⟩, hM, (H.pick [7, 6, 0, 1, 2, 3, 4, 5, 8] (by decide) rfl), hf273z, hf266z⟩
 rintro _ w278z ⟨b_10, b_11, r0, r1, r22, r32, r02, r12, r23, r33, u0_6, u1_7, u0_2, u1_3, rr2_8, Bs3_9, rr2_4, Bs3_5, ρ, rfl, hM, H, hrj279z, hrj280z⟩
 unfold zbR at hM
 refine W.seq ?_
 refine W.region rfl ?_
 refine s_val (x_ld (p := .pointer (some ⟨b_10, 0, none⟩)) (v := .agg #[u0_2, u1_3, I r22, I r32]) rfl (ldb_ag (ds := [u0_2, u1_3, I r22, I r32]) Ag26 Sz26 (H.blk (k := 1) rfl) rfl rfl)) ?_
 refine s_val (x_mv (v := I from_) rfl) ?_
 refine s_val (x_mv (v := I to_) rfl) ?_
 refine s_val (x_mv (v := I stage) rfl) ?_
 obtain ⟨r282z, hx281z, hM⟩ := M.e_bind hM
 refine s_call cf15 [.agg #[u0_2, u1_3, I r22, I r32], I from_, I to_, I stage] rfl (zbv r0 r1 r22 r32 from_ to_ stage (Reads.of (k := 5) rfl ownLe) (ownSl (H.get (k := 5) rfl)) (Reads.sup (Reads.of (k := 6) rfl ownLe) (Reads.of (k := 7) rfl roLe)) (rowSl rfl (H.get (k := 6) rfl) (roLe _ (H.get (k := 7) rfl)) hrj280z) hx281z _ (St.give (T := [cBlk b_11 [u0_6, u1_7, I r23, I r33] 55, cBlk b_10 [u0_2, u1_3, I r22, I r32] 26, cOwn (α := Yr) 127 u0_6 r02, cOwn (α := Raw 3) 128 u1_7 rr2_8, cRo Bs3_9, cOwn (α := Yr) 41 u0_2 r0, cOwn (α := Raw 3) 43 u1_3 rr2_4, cRo Bs3_5, cBlk b_1 [v_b_Years, v_b_Olds, I b_First, I b_Last] 26]) H rfl)) ?_
 rintro vq w283z ⟨r00, r01, r13, hr284z, hvq, H2_⟩
 subst hr284z
 subst vq
 try dsimp only at hM
 replace H : St w w283z [cBlk b_11 [u0_6, u1_7, I r23, I r33] 55, cBlk b_10 [u0_2, u1_3, I r22, I r32] 26, cOwn (α := Yr) 127 u0_6 r02, cOwn (α := Raw 3) 128 u1_7 rr2_8, cRo Bs3_9, cOwn (α := Yr) 41 u0_2 r0, cOwn (α := Raw 3) 43 u1_3 rr2_4, cRo Bs3_5, cBlk b_1 [v_b_Years, v_b_Olds, I b_First, I b_Last] 26] R := H.back H2_ rfl
 clear H2_
 refine s_val (x_mv (v := .tuple #[.agg #[I r00, I r01], I r13]) rfl) ?_
 refine s_val (x_ext (vs := [.agg #[I r00, I r01], I r13]) (v := .agg #[I r00, I r01]) rfl rfl) ?_
 refine s_val (x_ext (vs := [.agg #[I r00, I r01], I r13]) (v := I r13) rfl rfl) ?_
 refine t_alloc (cs := [I 0, I 0]) H Al35 rfl ?_
 intro b_12 w285z H
 refine t_st (k := 0) (b := b_12) (off := 0) (cs := [I 0, I 0]) (vs := [I r00, I r01]) (cs' := [I r00, I r01]) (v := .agg #[I r00, I r01]) (L' := [cBlk b_12 [I r00, I r01] 35, cBlk b_11 [u0_6, u1_7, I r23, I r33] 55, cBlk b_10 [u0_2, u1_3, I r22, I r32] 26, cOwn (α := Yr) 127 u0_6 r02, cOwn (α := Raw 3) 128 u1_7 rr2_8, cRo Bs3_9, cOwn (α := Yr) 41 u0_2 r0, cOwn (α := Raw 3) 43 u1_3 rr2_4, cRo Bs3_5, cBlk b_1 [v_b_Years, v_b_Olds, I b_First, I b_Last] 26]) H rfl rfl rfl Sz35 rfl rfl rfl rfl rfl rfl ?_
 intro w286z H
 refine s_val (x_as (v := I r13) rfl) ?_
 refine s_nil ?_
 refine W.seq ?_
 refine W.region rfl ?_
 refine s_val (x_ld (p := .pointer (some ⟨b_11, 0, none⟩)) (v := .agg #[u0_6, u1_7, I r23, I r33]) rfl (ldb_ag (ds := [u0_6, u1_7, I r23, I r33]) Ag55 Sz55 (H.blk (k := 1) rfl) rfl rfl)) ?_
 refine s_val (x_mv (v := I from_) rfl) ?_
 refine s_val (x_mv (v := I to_) rfl) ?_
 refine s_val (x_mv (v := I stage) rfl) ?_
 obtain ⟨r288z, hx287z, hM⟩ := M.e_bind hM
 refine s_call cf23 [.agg #[u0_6, u1_7, I r23, I r33], I from_, I to_, I stage] rfl (zcs r02 r12 r23 r33 from_ to_ stage (Reads.of (k := 3) rfl ownLe) (ownSl (H.get (k := 3) rfl)) (Reads.sup (Reads.of (k := 4) rfl ownLe) (Reads.sup (hC_b_Olds.app _) (Reads.of (k := 5) rfl roLe))) (rowSl rfl (H.get (k := 4) rfl) (Cells.sup_le (hC_b_Olds.at H) (roLe _ (H.get (k := 5) rfl))) hrj279z) hx287z _ (St.give (T := [cBlk b_12 [I r00, I r01] 35, cBlk b_11 [u0_6, u1_7, I r23, I r33] 55, cBlk b_10 [u0_2, u1_3, I r22, I r32] 26, cOwn (α := Yr) 127 u0_6 r02, cOwn (α := Raw 3) 128 u1_7 rr2_8, cRo Bs3_9, cOwn (α := Yr) 41 u0_2 r0, cOwn (α := Raw 3) 43 u1_3 rr2_4, cRo Bs3_5, cBlk b_1 [v_b_Years, v_b_Olds, I b_First, I b_Last] 26]) H rfl)) ?_
 rintro vq w289z ⟨r002, r012, r14, hr290z, hvq, H2_⟩
 subst hr290z
 subst vq
 try dsimp only at hM
 replace H : St w w289z [cBlk b_12 [I r00, I r01] 35, cBlk b_11 [u0_6, u1_7, I r23, I r33] 55, cBlk b_10 [u0_2, u1_3, I r22, I r32] 26, cOwn (α := Yr) 127 u0_6 r02, cOwn (α := Raw 3) 128 u1_7 rr2_8, cRo Bs3_9, cOwn (α := Yr) 41 u0_2 r0, cOwn (α := Raw 3) 43 u1_3 rr2_4, cRo Bs3_5, cBlk b_1 [v_b_Years, v_b_Olds, I b_First, I b_Last] 26] R := H.back H2_ rfl
 clear H2_
 refine s_val (x_mv (v := .tuple #[.agg #[I r002, I r012], I r14]) rfl) ?_
 refine s_val (x_ext (vs := [.agg #[I r002, I r012], I r14]) (v := .agg #[I r002, I r012]) rfl rfl) ?_
 refine s_val (x_ext (vs := [.agg #[I r002, I r012], I r14]) (v := I r14) rfl rfl) ?_
 refine t_alloc (cs := [I 0, I 0]) H Al35 rfl ?_
 intro b_13 w291z H
 refine t_st (k := 0) (b := b_13) (off := 0) (cs := [I 0, I 0]) (vs := [I r002, I r012]) (cs' := [I r002, I r012]) (v := .agg #[I r002, I r012]) (L' := [cBlk b_13 [I r002, I r012] 35, cBlk b_12 [I r00, I r01] 35, cBlk b_11 [u0_6, u1_7, I r23, I r33] 55, cBlk b_10 [u0_2, u1_3, I r22, I r32] 26, cOwn (α := Yr) 127 u0_6 r02, cOwn (α := Raw 3) 128 u1_7 rr2_8, cRo Bs3_9, cOwn (α := Yr) 41 u0_2 r0, cOwn (α := Raw 3) 43 u1_3 rr2_4, cRo Bs3_5, cBlk b_1 [v_b_Years, v_b_Olds, I b_First, I b_Last] 26]) H rfl rfl rfl Sz35 rfl rfl rfl rfl rfl rfl ?_
 intro w292z H
 refine s_val (x_as (v := I r14) rfl) ?_
 refine s_nil ?_
 refine W.seq ?_
 refine W.seq ?_
 refine W.region rfl ?_
 refine s_val (x_mv (v := I r13) rfl) ?_
 refine s_val (x_mv (v := I r14) rfl) ?_
 refine s_val (x_cmp (kd := .i64) (a := r13) (b := r14) (r := r13 != r14) rfl rfl rfl) ?_
 refine s_val (x_mv (v := B (r13 != r14)) rfl) ?_
 refine g_val (!(r13 != r14)) (gy_f rfl) (fun hg => x_ld (p := .pointer (some ⟨b_12, 0, none⟩)) (v := .agg #[I r00, I r01]) rfl (ldb_ag (ds := [I r00, I r01]) Ag35 Sz35 (H.blk (k := 1) rfl) rfl rfl)) ?_
 refine g_val (!(r13 != r14)) (gy_f rfl) (fun hg => x_ld (p := .pointer (some ⟨b_13, 0, none⟩)) (v := .agg #[I r002, I r012]) rfl (ldb_ag (ds := [I r002, I r012]) Ag35 Sz35 (H.blk (k := 0) rfl) rfl rfl)) ?_
 refine g_val (!(r13 != r14)) (gy_f rfl) (fun hg => x_neS (eqT35 (⟨(r00 : Int), (r01 : Int)⟩ : Span) (⟨(r002 : Int), (r012 : Int)⟩ : Span) _) gdT35 (gd_of (c := !(r13 != r14)) hg (.agg #[I r00, I r01])) (gd_of (c := !(r13 != r14)) hg (.agg #[I r002, I r012]))) ?_
 refine s_val (x_por (b := r13 != r14) (r := !(decide ((⟨(r00 : Int), (r01 : Int)⟩ : Span) = (⟨(r002 : Int), (r012 : Int)⟩ : Span)))) rfl rfl (fun hb => gd_of (c := !(r13 != r14)) (by first | exact hb | (rw [hb]; rfl) | (rw [hg, hb]; rfl) | simp_all) (B (!(decide ((⟨(r00 : Int), (r01 : Int)⟩ : Span) = (⟨(r002 : Int), (r012 : Int)⟩ : Span))))))) ?_
 refine s_nil ?_
 refine W.cond ((r13 != r14) || (!(decide ((⟨(r00 : Int), (r01 : Int)⟩ : Span) = (⟨(r002 : Int), (r012 : Int)⟩ : Span))))) rfl (fun c293z => ?_) (fun c293z => ?_)
 ·replace hM := M.e_t hM c293z
  refine W.seq ?_
  refine W.region rfl ?_
  refine s_val (x_as (v := B false) rfl) ?_
  refine s_nil ?_
  refine W.ret ?_
  have hr_ := M.e_pure hM
  exact ⟨_, resE_tmp rfl, ⟨false, hr_, rfl, (H.pick [] (by decide) rfl)⟩⟩
 replace hM := M.e_f hM c293z
 refine W.skip ?_
 refine W.seq ?_
 refine W.region rfl ?_
 refine s_val (x_ld (p := .pointer (some ⟨b_10, 0, none⟩)) (v := .agg #[u0_2, u1_3, I r22, I r32]) rfl (ldb_ag (ds := [u0_2, u1_3, I r22, I r32]) Ag26 Sz26 (H.blk (k := 3) rfl) rfl rfl)) ?_
 refine s_val (x_mv (v := I from_) rfl) ?_
 refine s_val (x_mv (v := I to_) rfl) ?_
 refine s_val (x_mv (v := I stage) rfl) ?_
 refine s_val (x_mv (v := B most) rfl) ?_
 obtain ⟨r295z, hx294z, hM⟩ := M.e_bind hM
 refine s_call cf24 [.agg #[u0_2, u1_3, I r22, I r32], I from_, I to_, I stage, B most] rfl (zdi r0 r1 r22 r32 from_ to_ stage most (Reads.of (k := 7) rfl ownLe) (ownSl (H.get (k := 7) rfl)) (Reads.sup (Reads.of (k := 8) rfl ownLe) (Reads.of (k := 9) rfl roLe)) (rowSl rfl (H.get (k := 8) rfl) (roLe _ (H.get (k := 9) rfl)) hrj280z) hx294z _ (St.give (T := [cBlk b_13 [I r002, I r012] 35, cBlk b_12 [I r00, I r01] 35, cBlk b_11 [u0_6, u1_7, I r23, I r33] 55, cBlk b_10 [u0_2, u1_3, I r22, I r32] 26, cOwn (α := Yr) 127 u0_6 r02, cOwn (α := Raw 3) 128 u1_7 rr2_8, cRo Bs3_9, cOwn (α := Yr) 41 u0_2 r0, cOwn (α := Raw 3) 43 u1_3 rr2_4, cRo Bs3_5, cBlk b_1 [v_b_Years, v_b_Olds, I b_First, I b_Last] 26]) H rfl)) ?_
 rintro vq w296z ⟨r03, r15, u0_14, hr297z, hvq, H2_⟩
 subst hr297z
 subst vq
 try dsimp only at hM
 replace H : St w w296z [cOwn (α := Int) 3 u0_14 r03, cBlk b_13 [I r002, I r012] 35, cBlk b_12 [I r00, I r01] 35, cBlk b_11 [u0_6, u1_7, I r23, I r33] 55, cBlk b_10 [u0_2, u1_3, I r22, I r32] 26, cOwn (α := Yr) 127 u0_6 r02, cOwn (α := Raw 3) 128 u1_7 rr2_8, cRo Bs3_9, cOwn (α := Yr) 41 u0_2 r0, cOwn (α := Raw 3) 43 u1_3 rr2_4, cRo Bs3_5, cBlk b_1 [v_b_Years, v_b_Olds, I b_First, I b_Last] 26] R := H.back H2_ rfl
 clear H2_
 refine s_val (x_mv (v := .tuple #[u0_14, I r15]) rfl) ?_
 refine s_val (x_ext (vs := [u0_14, I r15]) (v := u0_14) rfl rfl) ?_
 refine s_val (x_ext (vs := [u0_14, I r15]) (v := I r15) rfl rfl) ?_
 refine s_val (x_as (v := u0_14) rfl) ?_
 refine s_val (x_as (v := I r15) rfl) ?_
 refine s_nil ?_
 refine W.seq ?_
 refine W.seq ?_
 refine W.region rfl ?_
 refine s_val (x_mv (v := I r15) rfl) ?_
 refine s_val (x_mv (v := I r14) rfl) ?_
 refine s_val (x_cmp (kd := .i64) (a := r15) (b := r14) (r := r15 != r14) rfl rfl rfl) ?_
 refine s_val (x_mv (v := B (r15 != r14)) rfl) ?_
 refine g_val (!(r15 != r14)) (gy_f rfl) (fun hg => x_mv (v := I r15) rfl) ?_
 refine g_val (!(r15 != r14)) (gy_f rfl) (fun hg => x_cmp (kd := .i64) (a := r15) (b := 0) (r := r15 != 0) (gd_of (c := !(r15 != r14)) hg (I r15)) rfl rfl) ?_
 refine g_val (!(r15 != r14)) (gy_f rfl) (fun hg => x_mv (v := B (r15 != 0)) (gd_of (c := !(r15 != r14)) hg (B (r15 != 0)))) ?_
 refine g_val ((!(r15 != r14)) && (r15 != 0)) (gy_gt rfl rfl) (fun hg => x_mv (v := u0_14) rfl) ?_
 refine g_val ((!(r15 != r14)) && (r15 != 0)) (gy_gt rfl rfl) (fun hg => x_lenS T27.und (gd_of (c := ((!(r15 != r14)) && (r15 != 0))) hg (u0_14)) (ownSl (H.get (k := 0) rfl))) ?_
 refine g_val ((!(r15 != r14)) && (r15 != 0)) (gy_gt rfl rfl) (fun hg => x_cmp (kd := .i64) (a := (r03.length : Int)) (b := 0) (r := decide (0 < (r03.length : Int))) (gd_of (c := ((!(r15 != r14)) && (r15 != 0))) hg (I (r03.length : Int))) rfl rfl) ?_
 refine g_val (!(r15 != r14)) (gy_f rfl) (fun hg => x_pand (b := r15 != 0) (r := decide (0 < (r03.length : Int))) (gd_of (c := !(r15 != r14)) hg (B (r15 != 0))) (fun hb => gd_of (c := ((!(r15 != r14)) && (r15 != 0))) (by first | exact hb | (rw [hb]; rfl) | (rw [hg, hb]; rfl) | simp_all) (B (decide (0 < (r03.length : Int))))) rfl) ?_
 refine s_val (x_por (b := r15 != r14) (r := ((r15 != 0) && (decide (0 < (r03.length : Int))))) rfl rfl (fun hb => gd_of (c := !(r15 != r14)) (by first | exact hb | (rw [hb]; rfl) | (rw [hg, hb]; rfl) | simp_all) (B ((r15 != 0) && (decide (0 < (r03.length : Int))))))) ?_
 refine s_nil ?_
 refine W.cond ((r15 != r14) || ((r15 != 0) && (decide (0 < (r03.length : Int))))) rfl (fun c299z => ?_) (fun c299z => ?_)
 ·replace hM := M.e_t hM c299z
  refine W.seq ?_
  refine W.region rfl ?_
  refine s_val (x_as (v := B false) rfl) ?_
  refine s_nil ?_
  refine W.ret ?_
  have hr_ := M.e_pure hM
  exact ⟨_, resE_tmp rfl, ⟨false, hr_, rfl, (H.pick [] (by decide) rfl)⟩⟩
 replace hM := M.e_f hM c299z
 refine W.skip ?_
 refine W.seqJ (fun σ W => ∃ (ρ : Env), σ = upds ρ [(1, I from_), (2, I to_), (3, I stage), (4, I times), (6, .pointer (some ⟨b_1, 0, none⟩)), (13, .pointer (some ⟨b_10, 0, none⟩)), (14, .pointer (some ⟨b_11, 0, none⟩)), (15, .pointer (some ⟨b_12, 0, none⟩)), (17, .pointer (some ⟨b_13, 0, none⟩))] /\ (zau b_Years b_Olds b_First b_Last from_ to_ stage times r0 r1 r22 r32 r02 r12 r23 r33).Ends r /\ St w W [cOwn (α := Int) 3 u0_14 r03, cBlk b_13 [I r002, I r012] 35, cBlk b_12 [I r00, I r01] 35, cBlk b_11 [u0_6, u1_7, I r23, I r33] 55, cBlk b_10 [u0_2, u1_3, I r22, I r32] 26, cOwn (α := Yr) 127 u0_6 r02, cOwn (α := Raw 3) 128 u1_7 rr2_8, cRo Bs3_9, cOwn (α := Yr) 41 u0_2 r0, cOwn (α := Raw 3) 43 u1_3 rr2_4, cRo Bs3_5, cBlk b_1 [v_b_Years, v_b_Olds, I b_First, I b_Last] 26] R) ?_ ?_
 ·skip
  refine W.seq ?_
  refine W.region rfl ?_
  refine s_val (x_mv (v := I r15) rfl) ?_
  refine s_val (x_cmp (kd := .i64) (a := r15) (b := 0) (r := r15 == 0) rfl rfl rfl) ?_
  refine s_nil ?_
  refine W.cond (r15 == 0) rfl (fun c300z => ?_) (fun c300z => ?_)
  ·replace hM := M.e_t hM c300z
   simp only [decide_eq_true_eq, decide_eq_false_iff_not, beq_iff_eq, bne_iff_ne, beq_eq_false_iff_ne, bne_eq_false_iff_eq, ne_eq, Decidable.not_not] at c300z
   refine W.seq ?_
   refine W.seq ?_
   refine W.region rfl ?_
   refine s_val (x_ld (p := .pointer (some ⟨b_11, 0, none⟩)) (v := .agg #[u0_6, u1_7, I r23, I r33]) rfl (ldb_ag (ds := [u0_6, u1_7, I r23, I r33]) Ag55 Sz55 (H.blk (k := 3) rfl) rfl rfl)) ?_
   refine s_val (x_mv (v := u0_14) rfl) ?_
   obtain ⟨r302z, hx301z, hM⟩ := M.e_bind hM
   refine s_call cf25 [.agg #[u0_6, u1_7, I r23, I r33], u0_14] rfl (zcO r02 r12 r23 r33 r03 (Reads.of (k := 5) rfl ownLe) (ownSl (H.get (k := 5) rfl)) (Reads.sup (Reads.of (k := 6) rfl ownLe) (Reads.sup (hC_b_Olds.app _) (Reads.of (k := 7) rfl roLe))) (rowSl rfl (H.get (k := 6) rfl) (Cells.sup_le (hC_b_Olds.at H) (roLe _ (H.get (k := 7) rfl))) hrj279z) (Reads.of (k := 0) rfl ownLe) (ownSl (H.get (k := 0) rfl)) hx301z _ (St.give (T := [cOwn (α := Int) 3 u0_14 r03, cBlk b_13 [I r002, I r012] 35, cBlk b_12 [I r00, I r01] 35, cBlk b_11 [u0_6, u1_7, I r23, I r33] 55, cBlk b_10 [u0_2, u1_3, I r22, I r32] 26, cOwn (α := Yr) 127 u0_6 r02, cOwn (α := Raw 3) 128 u1_7 rr2_8, cRo Bs3_9, cOwn (α := Yr) 41 u0_2 r0, cOwn (α := Raw 3) 43 u1_3 rr2_4, cRo Bs3_5, cBlk b_1 [v_b_Years, v_b_Olds, I b_First, I b_Last] 26]) H rfl)) ?_
   rintro vq w303z ⟨r04, r16, hr304z, hvq, H2_⟩
   subst hr304z
   subst vq
   try dsimp only at hM
   replace H : St w w303z [cOwn (α := Int) 3 u0_14 r03, cBlk b_13 [I r002, I r012] 35, cBlk b_12 [I r00, I r01] 35, cBlk b_11 [u0_6, u1_7, I r23, I r33] 55, cBlk b_10 [u0_2, u1_3, I r22, I r32] 26, cOwn (α := Yr) 127 u0_6 r02, cOwn (α := Raw 3) 128 u1_7 rr2_8, cRo Bs3_9, cOwn (α := Yr) 41 u0_2 r0, cOwn (α := Raw 3) 43 u1_3 rr2_4, cRo Bs3_5, cBlk b_1 [v_b_Years, v_b_Olds, I b_First, I b_Last] 26] R := H.back H2_ rfl
   clear H2_
   refine s_val (x_mv (v := .tuple #[B r04, I r16]) rfl) ?_
   refine s_val (x_ext (vs := [B r04, I r16]) (v := B r04) rfl rfl) ?_
   refine s_val (x_ext (vs := [B r04, I r16]) (v := I r16) rfl rfl) ?_
   refine s_val (x_as (v := B r04) rfl) ?_
   refine s_val (x_as (v := I r16) rfl) ?_
   refine s_nil ?_
   refine W.seq ?_
   refine W.region rfl ?_
   refine s_val (x_mv (v := I r16) rfl) ?_
   refine s_val (x_cmp (kd := .i64) (a := r16) (b := 0) (r := r16 != 0) rfl rfl rfl) ?_
   refine s_val (x_mv (v := B (r16 != 0)) rfl) ?_
   refine g_val (!(r16 != 0)) (gy_f rfl) (fun hg => x_mv (v := B r04) rfl) ?_
   refine g_val (!(r16 != 0)) (gy_f rfl) (fun hg => x_not (b := r04) (gd_of (c := !(r16 != 0)) hg (B r04))) ?_
   refine s_val (x_por (b := r16 != 0) (r := !r04) rfl rfl (fun hb => gd_of (c := !(r16 != 0)) (by first | exact hb | (rw [hb]; rfl) | (rw [hg, hb]; rfl) | simp_all) (B (!r04)))) ?_
   refine s_nil ?_
   refine W.cond ((r16 != 0) || (!r04)) rfl (fun c305z => ?_) (fun c305z => ?_)
   ·replace hM := M.e_t hM c305z
    refine W.seq ?_
    refine W.region rfl ?_
    refine s_val (x_as (v := B false) rfl) ?_
    refine s_nil ?_
    refine W.ret ?_
    have hr_ := M.e_pure hM
    exact ⟨_, resE_tmp rfl, ⟨false, hr_, rfl, (H.pick [] (by decide) rfl)⟩⟩
   replace hM := M.e_f hM c305z
   refine W.skip ?_
   refine W.seq ?_
   refine W.region rfl ?_
   refine s_val (x_as (v := I 0) rfl) ?_
   refine s_nil ?_
   refine W.seq ?_
   refine W.seq ?_
   refine W.region rfl ?_
   refine s_val (x_mv (v := u0_14) rfl) ?_
   have hl306z := ((ownSl (H.get (k := 0) rfl))).len_le
   refine s_val (x_lenS T27.und rfl (ownSl (H.get (k := 0) rfl))) ?_
   refine s_val (x_fa (a := .pointer (some ⟨b_1, 0, none⟩)) (v := .pointer (some ⟨b_1, 3, none⟩)) rfl (fa_blk (o := 0) Fd26_3 Sz3)) ?_
   refine s_val (x_ld (p := .pointer (some ⟨b_1, 3, none⟩)) (v := I b_Last) rfl (ldb_sc Sc3 (H.blk (k := 11) rfl) rfl)) ?_
   refine s_val (x_fa (a := .pointer (some ⟨b_1, 0, none⟩)) (v := .pointer (some ⟨b_1, 2, none⟩)) rfl (fa_blk (o := 0) Fd26_2 Sz3)) ?_
   refine s_val (x_ld (p := .pointer (some ⟨b_1, 2, none⟩)) (v := I b_First) rfl (ldb_sc Sc3 (H.blk (k := 11) rfl) rfl)) ?_
   obtain ⟨sd307z, hM⟩ := M.e_grd hM
   simp only [Bool.and_eq_true, decide_eq_true_eq] at sd307z
   refine s_val (x_ari (a := b_Last) (b := b_First) (r := b_Last - b_First) rfl rfl rfl (by omega)) ?_
   obtain ⟨sd308z, hM⟩ := M.e_grd hM
   simp only [Bool.and_eq_true, decide_eq_true_eq] at sd308z
   refine s_val (x_ari (a := b_Last - b_First) (b := 1) (r := (b_Last - b_First) + 1) rfl rfl rfl (by omega)) ?_
   refine s_val (x_cmp (kd := .i64) (a := (r03.length : Int)) (b := (b_Last - b_First) + 1) (r := (r03.length : Int) != ((b_Last - b_First) + 1)) rfl rfl rfl) ?_
   refine s_nil ?_
   refine W.cond ((r03.length : Int) != ((b_Last - b_First) + 1)) rfl (fun c309z => ?_) (fun c309z => ?_)
   ·replace hM := M.e_t hM c309z
    simp only [decide_eq_true_eq, decide_eq_false_iff_not, beq_iff_eq, bne_iff_ne, beq_eq_false_iff_ne, bne_eq_false_iff_eq, ne_eq, Decidable.not_not] at c309z
    refine W.seq ?_
    refine W.region rfl ?_
    refine s_val (x_as (v := B false) rfl) ?_
    refine s_nil ?_
    refine W.ret ?_
    have hr_ := M.e_pure hM
    exact ⟨_, resE_tmp rfl, ⟨false, hr_, rfl, (H.pick [] (by decide) rfl)⟩⟩
   replace hM := M.e_f hM c309z
   simp only [decide_eq_true_eq, decide_eq_false_iff_not, beq_iff_eq, bne_iff_ne, beq_eq_false_iff_ne, bne_eq_false_iff_eq, ne_eq, Decidable.not_not] at c309z
   refine W.skip ?_
   refine W.seq ?_
   refine W.seq ?_
   refine W.region rfl ?_
   refine s_val (x_mv (v := I from_) rfl) ?_
   refine s_val (x_as (v := I from_) rfl) ?_
   refine s_nil ?_
   refine W.block ?_
   obtain ⟨ex310z, hi311z, hk312z⟩ := M.e_bind hM
   obtain ⟨m0_, hi311z⟩ := M.e_iter hi311z
   refine W.loop (fun m σ W => ∃ (n : Nat) (year : Int) (ρ : Env), σ = upds ρ [(1, I from_), (2, I to_), (3, I stage), (4, I times), (5, B most), (6, .pointer (some ⟨b_1, 0, none⟩)), (13, .pointer (some ⟨b_10, 0, none⟩)), (14, .pointer (some ⟨b_11, 0, none⟩)), (15, .pointer (some ⟨b_12, 0, none⟩)), (17, .pointer (some ⟨b_13, 0, none⟩)), (19, u0_14), (22, I (n : Int)), (23, I year)] /\ M.iterN (zaR b_First to_ stage r03) m (n, year) = some ex310z /\ St w W [cOwn (α := Int) 3 u0_14 r03, cBlk b_13 [I r002, I r012] 35, cBlk b_12 [I r00, I r01] 35, cBlk b_11 [u0_6, u1_7, I r23, I r33] 55, cBlk b_10 [u0_2, u1_3, I r22, I r32] 26, cOwn (α := Yr) 127 u0_6 r02, cOwn (α := Raw 3) 128 u1_7 rr2_8, cRo Bs3_9, cOwn (α := Yr) 41 u0_2 r0, cOwn (α := Raw 3) 43 u1_3 rr2_4, cRo Bs3_5, cBlk b_1 [v_b_Years, v_b_Olds, I b_First, I b_Last] 26] R) ?_ ?_
   ·exact ⟨_, 0, from_, _, upds_of _ _ ⟨rfl, rfl, rfl, rfl, rfl, rfl, rfl, rfl, rfl, rfl, rfl, rfl, rfl, trivial⟩, hi311z, H⟩
   rintro m315z σ w313z ⟨n, year, ρ, rfl, hI314z, H⟩
   obtain ⟨m316z, lt317z, x318z, hM, hN319z⟩ := M.e_iterN hI314z
   simp only [zaR] at hM
   clear hI314z
   refine W.seq ?_
   refine W.seq ?_
   refine W.region rfl ?_
   refine s_val (x_mv (v := I year) rfl) ?_
   refine s_val (x_mv (v := I to_) rfl) ?_
   refine s_val (x_cmp (kd := .i64) (a := year) (b := to_) (r := decide (year <= to_)) rfl rfl rfl) ?_
   refine s_nil ?_
   refine W.cond (decide (year <= to_)) rfl (fun c320z => ?_) (fun c320z => ?_)
   ·replace hM := M.e_t hM c320z
    simp only [decide_eq_true_eq, decide_eq_false_iff_not, beq_iff_eq, bne_iff_ne, beq_eq_false_iff_ne, bne_eq_false_iff_eq, ne_eq, Decidable.not_not] at c320z
    refine W.skip ?_
    refine W.seq ?_
    refine W.block ?_
    refine W.seq ?_
    refine W.region rfl ?_
    refine s_val (x_mv (v := u0_14) rfl) ?_
    refine s_val (x_mv (v := I year) rfl) ?_
    refine s_val (x_fa (a := .pointer (some ⟨b_1, 0, none⟩)) (v := .pointer (some ⟨b_1, 2, none⟩)) rfl (fa_blk (o := 0) Fd26_2 Sz3)) ?_
    refine s_val (x_ld (p := .pointer (some ⟨b_1, 2, none⟩)) (v := I b_First) rfl (ldb_sc Sc3 (H.blk (k := 11) rfl) rfl)) ?_
    obtain ⟨sd321z, hM⟩ := M.e_grd hM
    simp only [Bool.and_eq_true, decide_eq_true_eq] at sd321z
    refine s_val (x_ari (a := year) (b := b_First) (r := year - b_First) rfl rfl rfl (by omega)) ?_
    obtain ⟨sd322z, hM⟩ := M.e_grd hM
    simp only [Bool.and_eq_true, decide_eq_true_eq] at sd322z
    refine s_val (x_ix (a := u0_14) (b := I (year - b_First)) (v := vat u0_14 1 (Int.toNat (year - b_First))) rfl rfl (Sl.ix (α := Int) T27.und T27.size (ownSl (H.get (k := 0) rfl)) (by omega) (by omega))) ?_
    refine s_val (x_ld (p := vat u0_14 1 (Int.toNat (year - b_First))) (v := I (r03.getD (Int.toNat (year - b_First)) 0)) rfl (ld_sc Sc3 (At.mono (Int_at (ownSl (H.get (k := 0) rfl)) (i := year - b_First) (by omega) (by omega)) (ownLe _ (H.get (k := 0) rfl))))) ?_
    refine s_val (x_mv (v := I stage) rfl) ?_
    refine s_val (x_cmp (kd := .i64) (a := r03.getD (Int.toNat (year - b_First)) 0) (b := stage) (r := decide (stage <= (r03.getD (Int.toNat (year - b_First)) 0))) rfl rfl rfl) ?_
    refine s_nil ?_
    refine W.cond (decide (stage <= (r03.getD (Int.toNat (year - b_First)) 0))) rfl (fun c323z => ?_) (fun c323z => ?_)
    ·replace hM := M.e_t hM c323z
     simp only [decide_eq_true_eq, decide_eq_false_iff_not, beq_iff_eq, bne_iff_ne, beq_eq_false_iff_ne, bne_eq_false_iff_eq, ne_eq, Decidable.not_not] at c323z
     refine W.region rfl ?_
     refine s_val (x_mv (v := I (n : Int)) rfl) ?_
     obtain ⟨sd324z, hM⟩ := M.e_grd hM
     simp only [Bool.and_eq_true, decide_eq_true_eq] at sd324z
     refine s_val (x_ari (a := (n : Int)) (b := 1) (r := (n : Int) + 1) rfl rfl rfl (by omega)) ?_
     refine s_val (x_as (v := I ((n : Int) + 1)) rfl) ?_
     refine s_nil ?_
     refine W.region rfl ?_
     refine s_val (x_mv (v := I year) rfl) ?_
     obtain ⟨sd325z, hM⟩ := M.e_grd hM
     simp only [Bool.and_eq_true, decide_eq_true_eq] at sd325z
     refine s_val (x_ari (a := year) (b := 1) (r := year + 1) rfl rfl rfl (by omega)) ?_
     refine s_val (x_as (v := I (year + 1)) rfl) ?_
     refine s_nil ?_
     exact ⟨m316z, lt317z, n + 1, year + 1, _, upds_of _ _ ⟨rfl, rfl, rfl, rfl, rfl, rfl, rfl, rfl, rfl, rfl, rfl, rfl, rfl, trivial⟩, M.e_inl hM hN319z, H⟩
    replace hM := M.e_f hM c323z
    simp only [decide_eq_true_eq, decide_eq_false_iff_not, beq_iff_eq, bne_iff_ne, beq_eq_false_iff_ne, bne_eq_false_iff_eq, ne_eq, Decidable.not_not] at c323z
    refine W.skip ?_
    refine W.region rfl ?_
    refine s_val (x_mv (v := I year) rfl) ?_
    obtain ⟨sd326z, hM⟩ := M.e_grd hM
    simp only [Bool.and_eq_true, decide_eq_true_eq] at sd326z
    refine s_val (x_ari (a := year) (b := 1) (r := year + 1) rfl rfl rfl (by omega)) ?_
    refine s_val (x_as (v := I (year + 1)) rfl) ?_
    refine s_nil ?_
    exact ⟨m316z, lt317z, n, year + 1, _, upds_of _ _ ⟨rfl, rfl, rfl, rfl, rfl, rfl, rfl, rfl, rfl, rfl, rfl, rfl, rfl, trivial⟩, M.e_inl hM hN319z, H⟩
   replace hM := M.e_f hM c320z
   simp only [decide_eq_true_eq, decide_eq_false_iff_not, beq_iff_eq, bne_iff_ne, beq_eq_false_iff_ne, bne_eq_false_iff_eq, ne_eq, Decidable.not_not] at c320z
   refine W.exit ?_
   have hX327z := M.e_inr hM hN319z
   subst hX327z
   replace hM := hk312z
   try dsimp only at hM
   refine W.seq ?_
   refine W.region rfl ?_
   refine s_val (x_mv (v := B most) rfl) ?_
   refine s_val (x_mv (v := B most) rfl) ?_
   refine g_val most (gy_t rfl) (fun hg => x_mv (v := I (n : Int)) rfl) ?_
   refine g_val most (gy_t rfl) (fun hg => x_fa (a := .pointer (some ⟨b_13, 0, none⟩)) (v := .pointer (some ⟨b_13, 1, none⟩)) rfl (fa_blk (o := 0) Fd35_1 Sz3)) ?_
   refine g_val most (gy_t rfl) (fun hg => x_ld (p := .pointer (some ⟨b_13, 1, none⟩)) (v := I r012) (gd_of (c := most) hg (.pointer (some ⟨b_13, 1, none⟩))) (ldb_sc Sc3 (H.blk (k := 1) rfl) rfl)) ?_
   refine g_val most (gy_t rfl) (fun hg => x_cmp (kd := .i64) (a := (n : Int)) (b := r012) (r := (n : Int) != r012) (gd_of (c := most) hg (I (n : Int))) (gd_of (c := most) hg (I r012)) rfl) ?_
   refine s_val (x_pand (b := most) (r := (n : Int) != r012) rfl (fun hb => gd_of (c := most) (by first | exact hb | (rw [hb]; rfl) | (rw [hg, hb]; rfl) | simp_all) (B ((n : Int) != r012))) rfl) ?_
   refine s_val (x_mv (v := B (most && ((n : Int) != r012))) rfl) ?_
   refine g_val (!(most && ((n : Int) != r012))) (gy_f rfl) (fun hg => x_mv (v := B most) rfl) ?_
   refine g_val (!(most && ((n : Int) != r012))) (gy_f rfl) (fun hg => x_not (b := most) (gd_of (c := !(most && ((n : Int) != r012))) hg (B most))) ?_
   refine g_val (!(most && ((n : Int) != r012))) (gy_f rfl) (fun hg => x_mv (v := B (!most)) (gd_of (c := !(most && ((n : Int) != r012))) hg (B (!most)))) ?_
   refine g_val ((!(most && ((n : Int) != r012))) && (!most)) (gy_gt rfl rfl) (fun hg => x_mv (v := I (n : Int)) rfl) ?_
   refine g_val ((!(most && ((n : Int) != r012))) && (!most)) (gy_gt rfl rfl) (fun hg => x_fa (a := .pointer (some ⟨b_13, 0, none⟩)) (v := .pointer (some ⟨b_13, 0, none⟩)) rfl (fa_blk (o := 0) Fd35_0 Sz3)) ?_
   refine g_val ((!(most && ((n : Int) != r012))) && (!most)) (gy_gt rfl rfl) (fun hg => x_ld (p := .pointer (some ⟨b_13, 0, none⟩)) (v := I r002) (gd_of (c := ((!(most && ((n : Int) != r012))) && (!most))) hg (.pointer (some ⟨b_13, 0, none⟩))) (ldb_sc Sc3 (H.blk (k := 1) rfl) rfl)) ?_
   refine g_val ((!(most && ((n : Int) != r012))) && (!most)) (gy_gt rfl rfl) (fun hg => x_cmp (kd := .i64) (a := (n : Int)) (b := r002) (r := (n : Int) != r002) (gd_of (c := ((!(most && ((n : Int) != r012))) && (!most))) hg (I (n : Int))) (gd_of (c := ((!(most && ((n : Int) != r012))) && (!most))) hg (I r002)) rfl) ?_
   refine g_val (!(most && ((n : Int) != r012))) (gy_f rfl) (fun hg => x_pand (b := !most) (r := (n : Int) != r002) (gd_of (c := !(most && ((n : Int) != r012))) hg (B (!most))) (fun hb => gd_of (c := ((!(most && ((n : Int) != r012))) && (!most))) (by first | exact hb | (rw [hb]; rfl) | (rw [hg, hb]; rfl) | simp_all) (B ((n : Int) != r002))) rfl) ?_
   refine s_val (x_por (b := (most && ((n : Int) != r012))) (r := ((!most) && ((n : Int) != r002))) rfl rfl (fun hb => gd_of (c := !(most && ((n : Int) != r012))) (by first | exact hb | (rw [hb]; rfl) | (rw [hg, hb]; rfl) | simp_all) (B ((!most) && ((n : Int) != r002))))) ?_
   refine s_nil ?_
   refine W.cond ((most && ((n : Int) != r012)) || ((!most) && ((n : Int) != r002))) rfl (fun c328z => ?_) (fun c328z => ?_)
   ·replace hM := M.e_t hM c328z
    refine W.seq ?_
    refine W.region rfl ?_
    refine s_val (x_as (v := B false) rfl) ?_
    refine s_nil ?_
    refine W.ret ?_
    have hr_ := M.e_pure hM
    exact ⟨_, resE_tmp rfl, ⟨false, hr_, rfl, (H.pick [] (by decide) rfl)⟩⟩
   replace hM := M.e_f hM c328z
   refine W.skip ?_
   exact ⟨_, upds_of _ _ ⟨rfl, rfl, rfl, rfl, rfl, rfl, rfl, rfl, rfl, trivial⟩, hM, H⟩
  replace hM := M.e_f hM c300z
  simp only [decide_eq_true_eq, decide_eq_false_iff_not, beq_iff_eq, bne_iff_ne, beq_eq_false_iff_ne, bne_eq_false_iff_eq, ne_eq, Decidable.not_not] at c300z
  refine W.skip ?_
  exact ⟨_, upds_of _ _ ⟨rfl, rfl, rfl, rfl, rfl, rfl, rfl, rfl, rfl, trivial⟩, hM, H⟩
 rintro _ w329z ⟨ρ, rfl, hM, H⟩
 unfold zau at hM
 refine W.seq ?_
 refine W.region rfl ?_
 refine s_val (x_ld (p := .pointer (some ⟨b_10, 0, none⟩)) (v := .agg #[u0_2, u1_3, I r22, I r32]) rfl (ldb_ag (ds := [u0_2, u1_3, I r22, I r32]) Ag26 Sz26 (H.blk (k := 4) rfl) rfl rfl)) ?_
 refine s_val (x_mv (v := I stage) rfl) ?_
 obtain ⟨r331z, hx330z, hM⟩ := M.e_bind hM
 refine s_call cf26 [.agg #[u0_2, u1_3, I r22, I r32], I stage] rfl (zcz r0 r1 r22 r32 stage (Reads.of (k := 8) rfl ownLe) (ownSl (H.get (k := 8) rfl)) (Reads.sup (Reads.of (k := 9) rfl ownLe) (Reads.of (k := 10) rfl roLe)) (rowSl rfl (H.get (k := 9) rfl) (roLe _ (H.get (k := 10) rfl)) hrj280z) hx330z _ (St.give (T := [cOwn (α := Int) 3 u0_14 r03, cBlk b_13 [I r002, I r012] 35, cBlk b_12 [I r00, I r01] 35, cBlk b_11 [u0_6, u1_7, I r23, I r33] 55, cBlk b_10 [u0_2, u1_3, I r22, I r32] 26, cOwn (α := Yr) 127 u0_6 r02, cOwn (α := Raw 3) 128 u1_7 rr2_8, cRo Bs3_9, cOwn (α := Yr) 41 u0_2 r0, cOwn (α := Raw 3) 43 u1_3 rr2_4, cRo Bs3_5, cBlk b_1 [v_b_Years, v_b_Olds, I b_First, I b_Last] 26]) H rfl)) ?_
 rintro vq w332z ⟨r003, r013, r10, r11, r24, hr333z, hvq, H2_⟩
 subst hr333z
 subst vq
 try dsimp only at hM
 replace H : St w w332z [cOwn (α := Int) 3 u0_14 r03, cBlk b_13 [I r002, I r012] 35, cBlk b_12 [I r00, I r01] 35, cBlk b_11 [u0_6, u1_7, I r23, I r33] 55, cBlk b_10 [u0_2, u1_3, I r22, I r32] 26, cOwn (α := Yr) 127 u0_6 r02, cOwn (α := Raw 3) 128 u1_7 rr2_8, cRo Bs3_9, cOwn (α := Yr) 41 u0_2 r0, cOwn (α := Raw 3) 43 u1_3 rr2_4, cRo Bs3_5, cBlk b_1 [v_b_Years, v_b_Olds, I b_First, I b_Last] 26] R := H.back H2_ rfl
 clear H2_
 refine s_val (x_mv (v := .tuple #[.agg #[I r003, I r013], .agg #[I r10, I r11], I r24]) rfl) ?_
 refine s_val (x_ext (vs := [.agg #[I r003, I r013], .agg #[I r10, I r11], I r24]) (v := .agg #[I r003, I r013]) rfl rfl) ?_
 refine s_val (x_ext (vs := [.agg #[I r003, I r013], .agg #[I r10, I r11], I r24]) (v := .agg #[I r10, I r11]) rfl rfl) ?_
 refine s_val (x_ext (vs := [.agg #[I r003, I r013], .agg #[I r10, I r11], I r24]) (v := I r24) rfl rfl) ?_
 refine t_alloc (cs := [I 0, I 0]) H Al63 rfl ?_
 intro b_15 w334z H
 refine t_alloc (cs := [I 0, I 0]) H Al63 rfl ?_
 intro b_16 w335z H
 refine t_st (k := 1) (b := b_15) (off := 0) (cs := [I 0, I 0]) (vs := [I r003, I r013]) (cs' := [I r003, I r013]) (v := .agg #[I r003, I r013]) (L' := [cBlk b_16 [I 0, I 0] 63, cBlk b_15 [I r003, I r013] 63, cOwn (α := Int) 3 u0_14 r03, cBlk b_13 [I r002, I r012] 35, cBlk b_12 [I r00, I r01] 35, cBlk b_11 [u0_6, u1_7, I r23, I r33] 55, cBlk b_10 [u0_2, u1_3, I r22, I r32] 26, cOwn (α := Yr) 127 u0_6 r02, cOwn (α := Raw 3) 128 u1_7 rr2_8, cRo Bs3_9, cOwn (α := Yr) 41 u0_2 r0, cOwn (α := Raw 3) 43 u1_3 rr2_4, cRo Bs3_5, cBlk b_1 [v_b_Years, v_b_Olds, I b_First, I b_Last] 26]) H rfl rfl rfl Sz63 rfl rfl rfl rfl rfl rfl ?_
 intro w336z H
 refine t_st (k := 0) (b := b_16) (off := 0) (cs := [I 0, I 0]) (vs := [I r10, I r11]) (cs' := [I r10, I r11]) (v := .agg #[I r10, I r11]) (L' := [cBlk b_16 [I r10, I r11] 63, cBlk b_15 [I r003, I r013] 63, cOwn (α := Int) 3 u0_14 r03, cBlk b_13 [I r002, I r012] 35, cBlk b_12 [I r00, I r01] 35, cBlk b_11 [u0_6, u1_7, I r23, I r33] 55, cBlk b_10 [u0_2, u1_3, I r22, I r32] 26, cOwn (α := Yr) 127 u0_6 r02, cOwn (α := Raw 3) 128 u1_7 rr2_8, cRo Bs3_9, cOwn (α := Yr) 41 u0_2 r0, cOwn (α := Raw 3) 43 u1_3 rr2_4, cRo Bs3_5, cBlk b_1 [v_b_Years, v_b_Olds, I b_First, I b_Last] 26]) H rfl rfl rfl Sz63 rfl rfl rfl rfl rfl rfl ?_
 intro w337z H
 refine s_val (x_as (v := I r24) rfl) ?_
 refine s_nil ?_
 refine W.seq ?_
 refine W.region rfl ?_
 refine s_val (x_ld (p := .pointer (some ⟨b_11, 0, none⟩)) (v := .agg #[u0_6, u1_7, I r23, I r33]) rfl (ldb_ag (ds := [u0_6, u1_7, I r23, I r33]) Ag55 Sz55 (H.blk (k := 5) rfl) rfl rfl)) ?_
 refine s_val (x_fa (a := .pointer (some ⟨b_1, 0, none⟩)) (v := .pointer (some ⟨b_1, 2, none⟩)) rfl (fa_blk (o := 0) Fd26_2 Sz3)) ?_
 refine s_val (x_ld (p := .pointer (some ⟨b_1, 2, none⟩)) (v := I b_First) rfl (ldb_sc Sc3 (H.blk (k := 13) rfl) rfl)) ?_
 refine s_val (x_fa (a := .pointer (some ⟨b_1, 0, none⟩)) (v := .pointer (some ⟨b_1, 3, none⟩)) rfl (fa_blk (o := 0) Fd26_3 Sz3)) ?_
 refine s_val (x_ld (p := .pointer (some ⟨b_1, 3, none⟩)) (v := I b_Last) rfl (ldb_sc Sc3 (H.blk (k := 13) rfl) rfl)) ?_
 refine s_val (x_mv (v := I stage) rfl) ?_
 obtain ⟨r339z, hx338z, hM⟩ := M.e_bind hM
 refine s_call cf23 [.agg #[u0_6, u1_7, I r23, I r33], I b_First, I b_Last, I stage] rfl (zcs r02 r12 r23 r33 b_First b_Last stage (Reads.of (k := 7) rfl ownLe) (ownSl (H.get (k := 7) rfl)) (Reads.sup (Reads.of (k := 8) rfl ownLe) (Reads.sup (hC_b_Olds.app _) (Reads.of (k := 9) rfl roLe))) (rowSl rfl (H.get (k := 8) rfl) (Cells.sup_le (hC_b_Olds.at H) (roLe _ (H.get (k := 9) rfl))) hrj279z) hx338z _ (St.give (T := [cBlk b_16 [I r10, I r11] 63, cBlk b_15 [I r003, I r013] 63, cOwn (α := Int) 3 u0_14 r03, cBlk b_13 [I r002, I r012] 35, cBlk b_12 [I r00, I r01] 35, cBlk b_11 [u0_6, u1_7, I r23, I r33] 55, cBlk b_10 [u0_2, u1_3, I r22, I r32] 26, cOwn (α := Yr) 127 u0_6 r02, cOwn (α := Raw 3) 128 u1_7 rr2_8, cRo Bs3_9, cOwn (α := Yr) 41 u0_2 r0, cOwn (α := Raw 3) 43 u1_3 rr2_4, cRo Bs3_5, cBlk b_1 [v_b_Years, v_b_Olds, I b_First, I b_Last] 26]) H rfl)) ?_
 rintro vq w340z ⟨r004, r014, r17, hr341z, hvq, H2_⟩
 subst hr341z
 subst vq
 try dsimp only at hM
 replace H : St w w340z [cBlk b_16 [I r10, I r11] 63, cBlk b_15 [I r003, I r013] 63, cOwn (α := Int) 3 u0_14 r03, cBlk b_13 [I r002, I r012] 35, cBlk b_12 [I r00, I r01] 35, cBlk b_11 [u0_6, u1_7, I r23, I r33] 55, cBlk b_10 [u0_2, u1_3, I r22, I r32] 26, cOwn (α := Yr) 127 u0_6 r02, cOwn (α := Raw 3) 128 u1_7 rr2_8, cRo Bs3_9, cOwn (α := Yr) 41 u0_2 r0, cOwn (α := Raw 3) 43 u1_3 rr2_4, cRo Bs3_5, cBlk b_1 [v_b_Years, v_b_Olds, I b_First, I b_Last] 26] R := H.back H2_ rfl
 clear H2_
 refine s_val (x_mv (v := .tuple #[.agg #[I r004, I r014], I r17]) rfl) ?_
 refine s_val (x_ext (vs := [.agg #[I r004, I r014], I r17]) (v := .agg #[I r004, I r014]) rfl rfl) ?_
 refine s_val (x_ext (vs := [.agg #[I r004, I r014], I r17]) (v := I r17) rfl rfl) ?_
 refine t_st (k := 3) (b := b_13) (off := 0) (cs := [I r002, I r012]) (vs := [I r004, I r014]) (cs' := [I r004, I r014]) (v := .agg #[I r004, I r014]) (L' := [cBlk b_16 [I r10, I r11] 63, cBlk b_15 [I r003, I r013] 63, cOwn (α := Int) 3 u0_14 r03, cBlk b_13 [I r004, I r014] 35, cBlk b_12 [I r00, I r01] 35, cBlk b_11 [u0_6, u1_7, I r23, I r33] 55, cBlk b_10 [u0_2, u1_3, I r22, I r32] 26, cOwn (α := Yr) 127 u0_6 r02, cOwn (α := Raw 3) 128 u1_7 rr2_8, cRo Bs3_9, cOwn (α := Yr) 41 u0_2 r0, cOwn (α := Raw 3) 43 u1_3 rr2_4, cRo Bs3_5, cBlk b_1 [v_b_Years, v_b_Olds, I b_First, I b_Last] 26]) H rfl rfl rfl Sz35 rfl rfl rfl rfl rfl rfl ?_
 intro w342z H
 refine s_val (x_as (v := I r17) rfl) ?_
 refine s_nil ?_
 refine W.seq ?_
 refine W.seq ?_
 refine W.region rfl ?_
 refine s_val (x_mv (v := I r24) rfl) ?_
 refine s_val (x_mv (v := I r17) rfl) ?_
 refine s_val (x_cmp (kd := .i64) (a := r24) (b := r17) (r := r24 != r17) rfl rfl rfl) ?_
 refine s_val (x_mv (v := B (r24 != r17)) rfl) ?_
 refine g_val (!(r24 != r17)) (gy_f rfl) (fun hg => x_mv (v := I r24) rfl) ?_
 refine g_val (!(r24 != r17)) (gy_f rfl) (fun hg => x_cmp (kd := .i64) (a := r24) (b := 0) (r := r24 != 0) (gd_of (c := !(r24 != r17)) hg (I r24)) rfl rfl) ?_
 refine g_val (!(r24 != r17)) (gy_f rfl) (fun hg => x_mv (v := B (r24 != 0)) (gd_of (c := !(r24 != r17)) hg (B (r24 != 0)))) ?_
 refine g_val ((!(r24 != r17)) && (r24 != 0)) (gy_gt rfl rfl) (fun hg => x_ld (p := .pointer (some ⟨b_15, 0, none⟩)) (v := .agg #[I r003, I r013]) rfl (ldb_ag (ds := [I r003, I r013]) Ag63 Sz63 (H.blk (k := 1) rfl) rfl rfl)) ?_
 refine g_val ((!(r24 != r17)) && (r24 != 0)) (gy_gt rfl rfl) (fun hg => x_bld (ps := []) (zs := [I 0, I 0]) (L' := [I 0, I 0]) rfl Try.underlying63 Al63 rfl (Bd63 Try.underlying63) (.nil)) ?_
 refine g_val ((!(r24 != r17)) && (r24 != 0)) (gy_gt rfl rfl) (fun hg => x_neS (eqT63 (⟨(r003 : Int), (r013 : Int)⟩ : Rto) (⟨(0 : Int), (0 : Int)⟩ : Rto) _) gdT63 (gd_of (c := ((!(r24 != r17)) && (r24 != 0))) hg (.agg #[I r003, I r013])) (gd_of (c := ((!(r24 != r17)) && (r24 != 0))) hg (.agg #[I 0, I 0]))) ?_
 refine g_val ((!(r24 != r17)) && (r24 != 0)) (gy_gt rfl rfl) (fun hg => x_mv (v := B (!(decide ((⟨(r003 : Int), (r013 : Int)⟩ : Rto) = (⟨(0 : Int), (0 : Int)⟩ : Rto))))) (gd_of (c := ((!(r24 != r17)) && (r24 != 0))) hg (B (!(decide ((⟨(r003 : Int), (r013 : Int)⟩ : Rto) = (⟨(0 : Int), (0 : Int)⟩ : Rto))))))) ?_
 refine g_val (((!(r24 != r17)) && (r24 != 0)) && !(!(decide ((⟨(r003 : Int), (r013 : Int)⟩ : Rto) = (⟨(0 : Int), (0 : Int)⟩ : Rto))))) (gy_gf rfl rfl) (fun hg => x_ld (p := .pointer (some ⟨b_16, 0, none⟩)) (v := .agg #[I r10, I r11]) rfl (ldb_ag (ds := [I r10, I r11]) Ag63 Sz63 (H.blk (k := 0) rfl) rfl rfl)) ?_
 refine g_val (((!(r24 != r17)) && (r24 != 0)) && !(!(decide ((⟨(r003 : Int), (r013 : Int)⟩ : Rto) = (⟨(0 : Int), (0 : Int)⟩ : Rto))))) (gy_gf rfl rfl) (fun hg => x_bld (ps := []) (zs := [I 0, I 0]) (L' := [I 0, I 0]) rfl Try.underlying63 Al63 rfl (Bd63 Try.underlying63) (.nil)) ?_
 refine g_val (((!(r24 != r17)) && (r24 != 0)) && !(!(decide ((⟨(r003 : Int), (r013 : Int)⟩ : Rto) = (⟨(0 : Int), (0 : Int)⟩ : Rto))))) (gy_gf rfl rfl) (fun hg => x_neS (eqT63 (⟨(r10 : Int), (r11 : Int)⟩ : Rto) (⟨(0 : Int), (0 : Int)⟩ : Rto) _) gdT63 (gd_of (c := (((!(r24 != r17)) && (r24 != 0)) && !(!(decide ((⟨(r003 : Int), (r013 : Int)⟩ : Rto) = (⟨(0 : Int), (0 : Int)⟩ : Rto)))))) hg (.agg #[I r10, I r11])) (gd_of (c := (((!(r24 != r17)) && (r24 != 0)) && !(!(decide ((⟨(r003 : Int), (r013 : Int)⟩ : Rto) = (⟨(0 : Int), (0 : Int)⟩ : Rto)))))) hg (.agg #[I 0, I 0]))) ?_
 refine g_val ((!(r24 != r17)) && (r24 != 0)) (gy_gt rfl rfl) (fun hg => x_por (b := !(decide ((⟨(r003 : Int), (r013 : Int)⟩ : Rto) = (⟨(0 : Int), (0 : Int)⟩ : Rto)))) (r := !(decide ((⟨(r10 : Int), (r11 : Int)⟩ : Rto) = (⟨(0 : Int), (0 : Int)⟩ : Rto)))) (gd_of (c := ((!(r24 != r17)) && (r24 != 0))) hg (B (!(decide ((⟨(r003 : Int), (r013 : Int)⟩ : Rto) = (⟨(0 : Int), (0 : Int)⟩ : Rto)))))) rfl (fun hb => gd_of (c := (((!(r24 != r17)) && (r24 != 0)) && !(!(decide ((⟨(r003 : Int), (r013 : Int)⟩ : Rto) = (⟨(0 : Int), (0 : Int)⟩ : Rto)))))) (by first | exact hb | (rw [hb]; rfl) | (rw [hg, hb]; rfl) | simp_all) (B (!(decide ((⟨(r10 : Int), (r11 : Int)⟩ : Rto) = (⟨(0 : Int), (0 : Int)⟩ : Rto))))))) ?_
 refine g_val (!(r24 != r17)) (gy_f rfl) (fun hg => x_pand (b := r24 != 0) (r := ((!(decide ((⟨(r003 : Int), (r013 : Int)⟩ : Rto) = (⟨(0 : Int), (0 : Int)⟩ : Rto)))) || (!(decide ((⟨(r10 : Int), (r11 : Int)⟩ : Rto) = (⟨(0 : Int), (0 : Int)⟩ : Rto)))))) (gd_of (c := !(r24 != r17)) hg (B (r24 != 0))) (fun hb => gd_of (c := ((!(r24 != r17)) && (r24 != 0))) (by first | exact hb | (rw [hb]; rfl) | (rw [hg, hb]; rfl) | simp_all) (B ((!(decide ((⟨(r003 : Int), (r013 : Int)⟩ : Rto) = (⟨(0 : Int), (0 : Int)⟩ : Rto)))) || (!(decide ((⟨(r10 : Int), (r11 : Int)⟩ : Rto) = (⟨(0 : Int), (0 : Int)⟩ : Rto))))))) rfl) ?_
 refine s_val (x_por (b := r24 != r17) (r := ((r24 != 0) && ((!(decide ((⟨(r003 : Int), (r013 : Int)⟩ : Rto) = (⟨(0 : Int), (0 : Int)⟩ : Rto)))) || (!(decide ((⟨(r10 : Int), (r11 : Int)⟩ : Rto) = (⟨(0 : Int), (0 : Int)⟩ : Rto))))))) rfl rfl (fun hb => gd_of (c := !(r24 != r17)) (by first | exact hb | (rw [hb]; rfl) | (rw [hg, hb]; rfl) | simp_all) (B ((r24 != 0) && ((!(decide ((⟨(r003 : Int), (r013 : Int)⟩ : Rto) = (⟨(0 : Int), (0 : Int)⟩ : Rto)))) || (!(decide ((⟨(r10 : Int), (r11 : Int)⟩ : Rto) = (⟨(0 : Int), (0 : Int)⟩ : Rto))))))))) ?_
 refine s_val (x_mv (v := B ((r24 != r17) || ((r24 != 0) && ((!(decide ((⟨(r003 : Int), (r013 : Int)⟩ : Rto) = (⟨(0 : Int), (0 : Int)⟩ : Rto)))) || (!(decide ((⟨(r10 : Int), (r11 : Int)⟩ : Rto) = (⟨(0 : Int), (0 : Int)⟩ : Rto)))))))) rfl) ?_
 refine g_val (!((r24 != r17) || ((r24 != 0) && ((!(decide ((⟨(r003 : Int), (r013 : Int)⟩ : Rto) = (⟨(0 : Int), (0 : Int)⟩ : Rto)))) || (!(decide ((⟨(r10 : Int), (r11 : Int)⟩ : Rto) = (⟨(0 : Int), (0 : Int)⟩ : Rto)))))))) (gy_f rfl) (fun hg => x_mv (v := I r24) rfl) ?_
 refine g_val (!((r24 != r17) || ((r24 != 0) && ((!(decide ((⟨(r003 : Int), (r013 : Int)⟩ : Rto) = (⟨(0 : Int), (0 : Int)⟩ : Rto)))) || (!(decide ((⟨(r10 : Int), (r11 : Int)⟩ : Rto) = (⟨(0 : Int), (0 : Int)⟩ : Rto)))))))) (gy_f rfl) (fun hg => x_cmp (kd := .i64) (a := r24) (b := 0) (r := r24 == 0) (gd_of (c := !((r24 != r17) || ((r24 != 0) && ((!(decide ((⟨(r003 : Int), (r013 : Int)⟩ : Rto) = (⟨(0 : Int), (0 : Int)⟩ : Rto)))) || (!(decide ((⟨(r10 : Int), (r11 : Int)⟩ : Rto) = (⟨(0 : Int), (0 : Int)⟩ : Rto)))))))) hg (I r24)) rfl rfl) ?_
 refine g_val (!((r24 != r17) || ((r24 != 0) && ((!(decide ((⟨(r003 : Int), (r013 : Int)⟩ : Rto) = (⟨(0 : Int), (0 : Int)⟩ : Rto)))) || (!(decide ((⟨(r10 : Int), (r11 : Int)⟩ : Rto) = (⟨(0 : Int), (0 : Int)⟩ : Rto)))))))) (gy_f rfl) (fun hg => x_mv (v := B (r24 == 0)) (gd_of (c := !((r24 != r17) || ((r24 != 0) && ((!(decide ((⟨(r003 : Int), (r013 : Int)⟩ : Rto) = (⟨(0 : Int), (0 : Int)⟩ : Rto)))) || (!(decide ((⟨(r10 : Int), (r11 : Int)⟩ : Rto) = (⟨(0 : Int), (0 : Int)⟩ : Rto)))))))) hg (B (r24 == 0)))) ?_
 refine g_val ((!((r24 != r17) || ((r24 != 0) && ((!(decide ((⟨(r003 : Int), (r013 : Int)⟩ : Rto) = (⟨(0 : Int), (0 : Int)⟩ : Rto)))) || (!(decide ((⟨(r10 : Int), (r11 : Int)⟩ : Rto) = (⟨(0 : Int), (0 : Int)⟩ : Rto)))))))) && (r24 == 0)) (gy_gt rfl rfl) (fun hg => x_ld (p := .pointer (some ⟨b_11, 0, none⟩)) (v := .agg #[u0_6, u1_7, I r23, I r33]) rfl (ldb_ag (ds := [u0_6, u1_7, I r23, I r33]) Ag55 Sz55 (H.blk (k := 5) rfl) rfl rfl)) ?_
 refine g_val ((!((r24 != r17) || ((r24 != 0) && ((!(decide ((⟨(r003 : Int), (r013 : Int)⟩ : Rto) = (⟨(0 : Int), (0 : Int)⟩ : Rto)))) || (!(decide ((⟨(r10 : Int), (r11 : Int)⟩ : Rto) = (⟨(0 : Int), (0 : Int)⟩ : Rto)))))))) && (r24 == 0)) (gy_gt rfl rfl) (fun hg => x_ld (p := .pointer (some ⟨b_15, 0, none⟩)) (v := .agg #[I r003, I r013]) rfl (ldb_ag (ds := [I r003, I r013]) Ag63 Sz63 (H.blk (k := 1) rfl) rfl rfl)) ?_
 refine g_val ((!((r24 != r17) || ((r24 != 0) && ((!(decide ((⟨(r003 : Int), (r013 : Int)⟩ : Rto) = (⟨(0 : Int), (0 : Int)⟩ : Rto)))) || (!(decide ((⟨(r10 : Int), (r11 : Int)⟩ : Rto) = (⟨(0 : Int), (0 : Int)⟩ : Rto)))))))) && (r24 == 0)) (gy_gt rfl rfl) (fun hg => x_fa (a := .pointer (some ⟨b_13, 0, none⟩)) (v := .pointer (some ⟨b_13, 0, none⟩)) rfl (fa_blk (o := 0) Fd35_0 Sz3)) ?_
 refine g_val ((!((r24 != r17) || ((r24 != 0) && ((!(decide ((⟨(r003 : Int), (r013 : Int)⟩ : Rto) = (⟨(0 : Int), (0 : Int)⟩ : Rto)))) || (!(decide ((⟨(r10 : Int), (r11 : Int)⟩ : Rto) = (⟨(0 : Int), (0 : Int)⟩ : Rto)))))))) && (r24 == 0)) (gy_gt rfl rfl) (fun hg => x_ld (p := .pointer (some ⟨b_13, 0, none⟩)) (v := I r004) (gd_of (c := ((!((r24 != r17) || ((r24 != 0) && ((!(decide ((⟨(r003 : Int), (r013 : Int)⟩ : Rto) = (⟨(0 : Int), (0 : Int)⟩ : Rto)))) || (!(decide ((⟨(r10 : Int), (r11 : Int)⟩ : Rto) = (⟨(0 : Int), (0 : Int)⟩ : Rto)))))))) && (r24 == 0))) hg (.pointer (some ⟨b_13, 0, none⟩))) (ldb_sc Sc3 (H.blk (k := 3) rfl) rfl)) ?_
 obtain ⟨r4, hx343z, hM⟩ := M.e_bind hM
 refine t_gcall ((!((r24 != r17) || ((r24 != 0) && ((!(decide ((⟨(r003 : Int), (r013 : Int)⟩ : Rto) = (⟨(0 : Int), (0 : Int)⟩ : Rto)))) || (!(decide ((⟨(r10 : Int), (r11 : Int)⟩ : Rto) = (⟨(0 : Int), (0 : Int)⟩ : Rto)))))))) && (r24 == 0)) (gy_gt rfl rfl) cf27 (B r4) (fun _ => [.agg #[u0_6, u1_7, I r23, I r33], .agg #[I r003, I r013], I r004]) (fun hg => lst3 (gd_of (c := ((!((r24 != r17) || ((r24 != 0) && ((!(decide ((⟨(r003 : Int), (r013 : Int)⟩ : Rto) = (⟨(0 : Int), (0 : Int)⟩ : Rto)))) || (!(decide ((⟨(r10 : Int), (r11 : Int)⟩ : Rto) = (⟨(0 : Int), (0 : Int)⟩ : Rto)))))))) && (r24 == 0))) hg (.agg #[u0_6, u1_7, I r23, I r33])) (gd_of (c := ((!((r24 != r17) || ((r24 != 0) && ((!(decide ((⟨(r003 : Int), (r013 : Int)⟩ : Rto) = (⟨(0 : Int), (0 : Int)⟩ : Rto)))) || (!(decide ((⟨(r10 : Int), (r11 : Int)⟩ : Rto) = (⟨(0 : Int), (0 : Int)⟩ : Rto)))))))) && (r24 == 0))) hg (.agg #[I r003, I r013])) (gd_of (c := ((!((r24 != r17) || ((r24 != 0) && ((!(decide ((⟨(r003 : Int), (r013 : Int)⟩ : Rto) = (⟨(0 : Int), (0 : Int)⟩ : Rto)))) || (!(decide ((⟨(r10 : Int), (r11 : Int)⟩ : Rto) = (⟨(0 : Int), (0 : Int)⟩ : Rto)))))))) && (r24 == 0))) hg (I r004))) H (fun hg => (zct r02 r12 r23 r33 (⟨(r003 : Int), (r013 : Int)⟩ : Rto) r004 (Reads.of (k := 7) rfl ownLe) (ownSl (H.get (k := 7) rfl)) (Reads.sup (Reads.of (k := 8) rfl ownLe) (Reads.sup (hC_b_Olds.app _) (Reads.of (k := 9) rfl roLe))) (rowSl rfl (H.get (k := 8) rfl) (Cells.sup_le (hC_b_Olds.at H) (roLe _ (H.get (k := 9) rfl))) hrj279z) (M.e_opt hx343z hg) _ (H.give (A := []) rfl)).mono fun v_ w_ ⟨y_, hr_, hv_, H_⟩ => by subst hr_; exact ⟨hv_, H.via H_⟩) ?_
 intro w344z H
 refine g_val ((!((r24 != r17) || ((r24 != 0) && ((!(decide ((⟨(r003 : Int), (r013 : Int)⟩ : Rto) = (⟨(0 : Int), (0 : Int)⟩ : Rto)))) || (!(decide ((⟨(r10 : Int), (r11 : Int)⟩ : Rto) = (⟨(0 : Int), (0 : Int)⟩ : Rto)))))))) && (r24 == 0)) (gy_gt rfl rfl) (fun hg => x_not (b := r4) (gd_of (c := ((!((r24 != r17) || ((r24 != 0) && ((!(decide ((⟨(r003 : Int), (r013 : Int)⟩ : Rto) = (⟨(0 : Int), (0 : Int)⟩ : Rto)))) || (!(decide ((⟨(r10 : Int), (r11 : Int)⟩ : Rto) = (⟨(0 : Int), (0 : Int)⟩ : Rto)))))))) && (r24 == 0))) hg (B r4))) ?_
 refine g_val ((!((r24 != r17) || ((r24 != 0) && ((!(decide ((⟨(r003 : Int), (r013 : Int)⟩ : Rto) = (⟨(0 : Int), (0 : Int)⟩ : Rto)))) || (!(decide ((⟨(r10 : Int), (r11 : Int)⟩ : Rto) = (⟨(0 : Int), (0 : Int)⟩ : Rto)))))))) && (r24 == 0)) (gy_gt rfl rfl) (fun hg => x_mv (v := B (!r4)) (gd_of (c := ((!((r24 != r17) || ((r24 != 0) && ((!(decide ((⟨(r003 : Int), (r013 : Int)⟩ : Rto) = (⟨(0 : Int), (0 : Int)⟩ : Rto)))) || (!(decide ((⟨(r10 : Int), (r11 : Int)⟩ : Rto) = (⟨(0 : Int), (0 : Int)⟩ : Rto)))))))) && (r24 == 0))) hg (B (!r4)))) ?_
 refine g_val (((!((r24 != r17) || ((r24 != 0) && ((!(decide ((⟨(r003 : Int), (r013 : Int)⟩ : Rto) = (⟨(0 : Int), (0 : Int)⟩ : Rto)))) || (!(decide ((⟨(r10 : Int), (r11 : Int)⟩ : Rto) = (⟨(0 : Int), (0 : Int)⟩ : Rto)))))))) && (r24 == 0)) && !(!r4)) (gy_gf rfl rfl) (fun hg => x_ld (p := .pointer (some ⟨b_11, 0, none⟩)) (v := .agg #[u0_6, u1_7, I r23, I r33]) rfl (ldb_ag (ds := [u0_6, u1_7, I r23, I r33]) Ag55 Sz55 (H.blk (k := 5) rfl) rfl rfl)) ?_
 refine g_val (((!((r24 != r17) || ((r24 != 0) && ((!(decide ((⟨(r003 : Int), (r013 : Int)⟩ : Rto) = (⟨(0 : Int), (0 : Int)⟩ : Rto)))) || (!(decide ((⟨(r10 : Int), (r11 : Int)⟩ : Rto) = (⟨(0 : Int), (0 : Int)⟩ : Rto)))))))) && (r24 == 0)) && !(!r4)) (gy_gf rfl rfl) (fun hg => x_ld (p := .pointer (some ⟨b_16, 0, none⟩)) (v := .agg #[I r10, I r11]) rfl (ldb_ag (ds := [I r10, I r11]) Ag63 Sz63 (H.blk (k := 0) rfl) rfl rfl)) ?_
 refine g_val (((!((r24 != r17) || ((r24 != 0) && ((!(decide ((⟨(r003 : Int), (r013 : Int)⟩ : Rto) = (⟨(0 : Int), (0 : Int)⟩ : Rto)))) || (!(decide ((⟨(r10 : Int), (r11 : Int)⟩ : Rto) = (⟨(0 : Int), (0 : Int)⟩ : Rto)))))))) && (r24 == 0)) && !(!r4)) (gy_gf rfl rfl) (fun hg => x_fa (a := .pointer (some ⟨b_13, 0, none⟩)) (v := .pointer (some ⟨b_13, 1, none⟩)) rfl (fa_blk (o := 0) Fd35_1 Sz3)) ?_
 refine g_val (((!((r24 != r17) || ((r24 != 0) && ((!(decide ((⟨(r003 : Int), (r013 : Int)⟩ : Rto) = (⟨(0 : Int), (0 : Int)⟩ : Rto)))) || (!(decide ((⟨(r10 : Int), (r11 : Int)⟩ : Rto) = (⟨(0 : Int), (0 : Int)⟩ : Rto)))))))) && (r24 == 0)) && !(!r4)) (gy_gf rfl rfl) (fun hg => x_ld (p := .pointer (some ⟨b_13, 1, none⟩)) (v := I r014) (gd_of (c := (((!((r24 != r17) || ((r24 != 0) && ((!(decide ((⟨(r003 : Int), (r013 : Int)⟩ : Rto) = (⟨(0 : Int), (0 : Int)⟩ : Rto)))) || (!(decide ((⟨(r10 : Int), (r11 : Int)⟩ : Rto) = (⟨(0 : Int), (0 : Int)⟩ : Rto)))))))) && (r24 == 0)) && !(!r4))) hg (.pointer (some ⟨b_13, 1, none⟩))) (ldb_sc Sc3 (H.blk (k := 3) rfl) rfl)) ?_
 obtain ⟨r5, hx345z, hM⟩ := M.e_bind hM
 refine t_gcall (((!((r24 != r17) || ((r24 != 0) && ((!(decide ((⟨(r003 : Int), (r013 : Int)⟩ : Rto) = (⟨(0 : Int), (0 : Int)⟩ : Rto)))) || (!(decide ((⟨(r10 : Int), (r11 : Int)⟩ : Rto) = (⟨(0 : Int), (0 : Int)⟩ : Rto)))))))) && (r24 == 0)) && !(!r4)) (gy_gf rfl rfl) cf27 (B r5) (fun _ => [.agg #[u0_6, u1_7, I r23, I r33], .agg #[I r10, I r11], I r014]) (fun hg => lst3 (gd_of (c := (((!((r24 != r17) || ((r24 != 0) && ((!(decide ((⟨(r003 : Int), (r013 : Int)⟩ : Rto) = (⟨(0 : Int), (0 : Int)⟩ : Rto)))) || (!(decide ((⟨(r10 : Int), (r11 : Int)⟩ : Rto) = (⟨(0 : Int), (0 : Int)⟩ : Rto)))))))) && (r24 == 0)) && !(!r4))) hg (.agg #[u0_6, u1_7, I r23, I r33])) (gd_of (c := (((!((r24 != r17) || ((r24 != 0) && ((!(decide ((⟨(r003 : Int), (r013 : Int)⟩ : Rto) = (⟨(0 : Int), (0 : Int)⟩ : Rto)))) || (!(decide ((⟨(r10 : Int), (r11 : Int)⟩ : Rto) = (⟨(0 : Int), (0 : Int)⟩ : Rto)))))))) && (r24 == 0)) && !(!r4))) hg (.agg #[I r10, I r11])) (gd_of (c := (((!((r24 != r17) || ((r24 != 0) && ((!(decide ((⟨(r003 : Int), (r013 : Int)⟩ : Rto) = (⟨(0 : Int), (0 : Int)⟩ : Rto)))) || (!(decide ((⟨(r10 : Int), (r11 : Int)⟩ : Rto) = (⟨(0 : Int), (0 : Int)⟩ : Rto)))))))) && (r24 == 0)) && !(!r4))) hg (I r014))) H (fun hg => (zct r02 r12 r23 r33 (⟨(r10 : Int), (r11 : Int)⟩ : Rto) r014 (Reads.of (k := 7) rfl ownLe) (ownSl (H.get (k := 7) rfl)) (Reads.sup (Reads.of (k := 8) rfl ownLe) (Reads.sup (hC_b_Olds.app _) (Reads.of (k := 9) rfl roLe))) (rowSl rfl (H.get (k := 8) rfl) (Cells.sup_le (hC_b_Olds.at H) (roLe _ (H.get (k := 9) rfl))) hrj279z) (M.e_opt hx345z hg) _ (H.give (A := []) rfl)).mono fun v_ w_ ⟨y_, hr_, hv_, H_⟩ => by subst hr_; exact ⟨hv_, H.via H_⟩) ?_
 intro w346z H
 refine g_val (((!((r24 != r17) || ((r24 != 0) && ((!(decide ((⟨(r003 : Int), (r013 : Int)⟩ : Rto) = (⟨(0 : Int), (0 : Int)⟩ : Rto)))) || (!(decide ((⟨(r10 : Int), (r11 : Int)⟩ : Rto) = (⟨(0 : Int), (0 : Int)⟩ : Rto)))))))) && (r24 == 0)) && !(!r4)) (gy_gf rfl rfl) (fun hg => x_not (b := r5) (gd_of (c := (((!((r24 != r17) || ((r24 != 0) && ((!(decide ((⟨(r003 : Int), (r013 : Int)⟩ : Rto) = (⟨(0 : Int), (0 : Int)⟩ : Rto)))) || (!(decide ((⟨(r10 : Int), (r11 : Int)⟩ : Rto) = (⟨(0 : Int), (0 : Int)⟩ : Rto)))))))) && (r24 == 0)) && !(!r4))) hg (B r5))) ?_
 refine g_val ((!((r24 != r17) || ((r24 != 0) && ((!(decide ((⟨(r003 : Int), (r013 : Int)⟩ : Rto) = (⟨(0 : Int), (0 : Int)⟩ : Rto)))) || (!(decide ((⟨(r10 : Int), (r11 : Int)⟩ : Rto) = (⟨(0 : Int), (0 : Int)⟩ : Rto)))))))) && (r24 == 0)) (gy_gt rfl rfl) (fun hg => x_por (b := !r4) (r := !r5) (gd_of (c := ((!((r24 != r17) || ((r24 != 0) && ((!(decide ((⟨(r003 : Int), (r013 : Int)⟩ : Rto) = (⟨(0 : Int), (0 : Int)⟩ : Rto)))) || (!(decide ((⟨(r10 : Int), (r11 : Int)⟩ : Rto) = (⟨(0 : Int), (0 : Int)⟩ : Rto)))))))) && (r24 == 0))) hg (B (!r4))) rfl (fun hb => gd_of (c := (((!((r24 != r17) || ((r24 != 0) && ((!(decide ((⟨(r003 : Int), (r013 : Int)⟩ : Rto) = (⟨(0 : Int), (0 : Int)⟩ : Rto)))) || (!(decide ((⟨(r10 : Int), (r11 : Int)⟩ : Rto) = (⟨(0 : Int), (0 : Int)⟩ : Rto)))))))) && (r24 == 0)) && !(!r4))) (by first | exact hb | (rw [hb]; rfl) | (rw [hg, hb]; rfl) | simp_all) (B (!r5)))) ?_
 refine g_val (!((r24 != r17) || ((r24 != 0) && ((!(decide ((⟨(r003 : Int), (r013 : Int)⟩ : Rto) = (⟨(0 : Int), (0 : Int)⟩ : Rto)))) || (!(decide ((⟨(r10 : Int), (r11 : Int)⟩ : Rto) = (⟨(0 : Int), (0 : Int)⟩ : Rto)))))))) (gy_f rfl) (fun hg => x_pand (b := r24 == 0) (r := ((!r4) || (!r5))) (gd_of (c := !((r24 != r17) || ((r24 != 0) && ((!(decide ((⟨(r003 : Int), (r013 : Int)⟩ : Rto) = (⟨(0 : Int), (0 : Int)⟩ : Rto)))) || (!(decide ((⟨(r10 : Int), (r11 : Int)⟩ : Rto) = (⟨(0 : Int), (0 : Int)⟩ : Rto)))))))) hg (B (r24 == 0))) (fun hb => gd_of (c := ((!((r24 != r17) || ((r24 != 0) && ((!(decide ((⟨(r003 : Int), (r013 : Int)⟩ : Rto) = (⟨(0 : Int), (0 : Int)⟩ : Rto)))) || (!(decide ((⟨(r10 : Int), (r11 : Int)⟩ : Rto) = (⟨(0 : Int), (0 : Int)⟩ : Rto)))))))) && (r24 == 0))) (by first | exact hb | (rw [hb]; rfl) | (rw [hg, hb]; rfl) | simp_all) (B ((!r4) || (!r5)))) rfl) ?_
 refine s_val (x_por (b := ((r24 != r17) || ((r24 != 0) && ((!(decide ((⟨(r003 : Int), (r013 : Int)⟩ : Rto) = (⟨(0 : Int), (0 : Int)⟩ : Rto)))) || (!(decide ((⟨(r10 : Int), (r11 : Int)⟩ : Rto) = (⟨(0 : Int), (0 : Int)⟩ : Rto)))))))) (r := ((r24 == 0) && ((!r4) || (!r5)))) rfl rfl (fun hb => gd_of (c := !((r24 != r17) || ((r24 != 0) && ((!(decide ((⟨(r003 : Int), (r013 : Int)⟩ : Rto) = (⟨(0 : Int), (0 : Int)⟩ : Rto)))) || (!(decide ((⟨(r10 : Int), (r11 : Int)⟩ : Rto) = (⟨(0 : Int), (0 : Int)⟩ : Rto)))))))) (by first | exact hb | (rw [hb]; rfl) | (rw [hg, hb]; rfl) | simp_all) (B ((r24 == 0) && ((!r4) || (!r5)))))) ?_
 refine s_nil ?_
 refine W.cond (((r24 != r17) || ((r24 != 0) && ((!(decide ((⟨(r003 : Int), (r013 : Int)⟩ : Rto) = (⟨(0 : Int), (0 : Int)⟩ : Rto)))) || (!(decide ((⟨(r10 : Int), (r11 : Int)⟩ : Rto) = (⟨(0 : Int), (0 : Int)⟩ : Rto))))))) || ((r24 == 0) && ((!r4) || (!r5)))) rfl (fun c347z => ?_) (fun c347z => ?_)
 ·replace hM := M.e_t hM c347z
  refine W.seq ?_
  refine W.region rfl ?_
  refine s_val (x_as (v := B false) rfl) ?_
  refine s_nil ?_
  refine W.ret ?_
  have hr_ := M.e_pure hM
  exact ⟨_, resE_tmp rfl, ⟨false, hr_, rfl, (H.pick [] (by decide) rfl)⟩⟩
 replace hM := M.e_f hM c347z
 refine W.skip ?_
 refine W.seq ?_
 refine W.region rfl ?_
 refine s_val (x_ld (p := .pointer (some ⟨b_10, 0, none⟩)) (v := .agg #[u0_2, u1_3, I r22, I r32]) rfl (ldb_ag (ds := [u0_2, u1_3, I r22, I r32]) Ag26 Sz26 (H.blk (k := 6) rfl) rfl rfl)) ?_
 refine s_val (x_mv (v := I from_) rfl) ?_
 refine s_val (x_mv (v := I to_) rfl) ?_
 refine s_val (x_mv (v := I times) rfl) ?_
 obtain ⟨r349z, hx348z, hM⟩ := M.e_bind hM
 refine s_call cf17 [.agg #[u0_2, u1_3, I r22, I r32], I from_, I to_, I times] rfl (zcG r0 r1 r22 r32 from_ to_ times (Reads.of (k := 10) rfl ownLe) (ownSl (H.get (k := 10) rfl)) (Reads.sup (Reads.of (k := 11) rfl ownLe) (Reads.of (k := 12) rfl roLe)) (rowSl rfl (H.get (k := 11) rfl) (roLe _ (H.get (k := 12) rfl)) hrj280z) hx348z _ (St.give (T := [cBlk b_16 [I r10, I r11] 63, cBlk b_15 [I r003, I r013] 63, cOwn (α := Int) 3 u0_14 r03, cBlk b_13 [I r004, I r014] 35, cBlk b_12 [I r00, I r01] 35, cBlk b_11 [u0_6, u1_7, I r23, I r33] 55, cBlk b_10 [u0_2, u1_3, I r22, I r32] 26, cOwn (α := Yr) 127 u0_6 r02, cOwn (α := Raw 3) 128 u1_7 rr2_8, cRo Bs3_9, cOwn (α := Yr) 41 u0_2 r0, cOwn (α := Raw 3) 43 u1_3 rr2_4, cRo Bs3_5, cBlk b_1 [v_b_Years, v_b_Olds, I b_First, I b_Last] 26]) H rfl)) ?_
 rintro vq w350z ⟨r005, r015, r18, hr351z, hvq, H2_⟩
 subst hr351z
 subst vq
 try dsimp only at hM
 replace H : St w w350z [cBlk b_16 [I r10, I r11] 63, cBlk b_15 [I r003, I r013] 63, cOwn (α := Int) 3 u0_14 r03, cBlk b_13 [I r004, I r014] 35, cBlk b_12 [I r00, I r01] 35, cBlk b_11 [u0_6, u1_7, I r23, I r33] 55, cBlk b_10 [u0_2, u1_3, I r22, I r32] 26, cOwn (α := Yr) 127 u0_6 r02, cOwn (α := Raw 3) 128 u1_7 rr2_8, cRo Bs3_9, cOwn (α := Yr) 41 u0_2 r0, cOwn (α := Raw 3) 43 u1_3 rr2_4, cRo Bs3_5, cBlk b_1 [v_b_Years, v_b_Olds, I b_First, I b_Last] 26] R := H.back H2_ rfl
 clear H2_
 refine s_val (x_mv (v := .tuple #[.agg #[I r005, I r015], I r18]) rfl) ?_
 refine s_val (x_ext (vs := [.agg #[I r005, I r015], I r18]) (v := .agg #[I r005, I r015]) rfl rfl) ?_
 refine s_val (x_ext (vs := [.agg #[I r005, I r015], I r18]) (v := I r18) rfl rfl) ?_
 refine t_st (k := 4) (b := b_12) (off := 0) (cs := [I r00, I r01]) (vs := [I r005, I r015]) (cs' := [I r005, I r015]) (v := .agg #[I r005, I r015]) (L' := [cBlk b_16 [I r10, I r11] 63, cBlk b_15 [I r003, I r013] 63, cOwn (α := Int) 3 u0_14 r03, cBlk b_13 [I r004, I r014] 35, cBlk b_12 [I r005, I r015] 35, cBlk b_11 [u0_6, u1_7, I r23, I r33] 55, cBlk b_10 [u0_2, u1_3, I r22, I r32] 26, cOwn (α := Yr) 127 u0_6 r02, cOwn (α := Raw 3) 128 u1_7 rr2_8, cRo Bs3_9, cOwn (α := Yr) 41 u0_2 r0, cOwn (α := Raw 3) 43 u1_3 rr2_4, cRo Bs3_5, cBlk b_1 [v_b_Years, v_b_Olds, I b_First, I b_Last] 26]) H rfl rfl rfl Sz35 rfl rfl rfl rfl rfl rfl ?_
 intro w352z H
 refine s_val (x_as (v := I r18) rfl) ?_
 refine s_nil ?_
 refine W.seq ?_
 refine W.region rfl ?_
 refine s_val (x_ld (p := .pointer (some ⟨b_11, 0, none⟩)) (v := .agg #[u0_6, u1_7, I r23, I r33]) rfl (ldb_ag (ds := [u0_6, u1_7, I r23, I r33]) Ag55 Sz55 (H.blk (k := 5) rfl) rfl rfl)) ?_
 refine s_val (x_mv (v := I from_) rfl) ?_
 refine s_val (x_mv (v := I to_) rfl) ?_
 refine s_val (x_mv (v := I times) rfl) ?_
 obtain ⟨r354z, hx353z, hM⟩ := M.e_bind hM
 refine s_call cf28 [.agg #[u0_6, u1_7, I r23, I r33], I from_, I to_, I times] rfl (zcR r02 r12 r23 r33 from_ to_ times (Reads.of (k := 7) rfl ownLe) (ownSl (H.get (k := 7) rfl)) (Reads.sup (Reads.of (k := 8) rfl ownLe) (Reads.sup (hC_b_Olds.app _) (Reads.of (k := 9) rfl roLe))) (rowSl rfl (H.get (k := 8) rfl) (Cells.sup_le (hC_b_Olds.at H) (roLe _ (H.get (k := 9) rfl))) hrj279z) hx353z _ (St.give (T := [cBlk b_16 [I r10, I r11] 63, cBlk b_15 [I r003, I r013] 63, cOwn (α := Int) 3 u0_14 r03, cBlk b_13 [I r004, I r014] 35, cBlk b_12 [I r005, I r015] 35, cBlk b_11 [u0_6, u1_7, I r23, I r33] 55, cBlk b_10 [u0_2, u1_3, I r22, I r32] 26, cOwn (α := Yr) 127 u0_6 r02, cOwn (α := Raw 3) 128 u1_7 rr2_8, cRo Bs3_9, cOwn (α := Yr) 41 u0_2 r0, cOwn (α := Raw 3) 43 u1_3 rr2_4, cRo Bs3_5, cBlk b_1 [v_b_Years, v_b_Olds, I b_First, I b_Last] 26]) H rfl)) ?_
 rintro vq w355z ⟨r006, r016, r19, hr356z, hvq, H2_⟩
 subst hr356z
 subst vq
 try dsimp only at hM
 replace H : St w w355z [cBlk b_16 [I r10, I r11] 63, cBlk b_15 [I r003, I r013] 63, cOwn (α := Int) 3 u0_14 r03, cBlk b_13 [I r004, I r014] 35, cBlk b_12 [I r005, I r015] 35, cBlk b_11 [u0_6, u1_7, I r23, I r33] 55, cBlk b_10 [u0_2, u1_3, I r22, I r32] 26, cOwn (α := Yr) 127 u0_6 r02, cOwn (α := Raw 3) 128 u1_7 rr2_8, cRo Bs3_9, cOwn (α := Yr) 41 u0_2 r0, cOwn (α := Raw 3) 43 u1_3 rr2_4, cRo Bs3_5, cBlk b_1 [v_b_Years, v_b_Olds, I b_First, I b_Last] 26] R := H.back H2_ rfl
 clear H2_
 refine s_val (x_mv (v := .tuple #[.agg #[I r006, I r016], I r19]) rfl) ?_
 refine s_val (x_ext (vs := [.agg #[I r006, I r016], I r19]) (v := .agg #[I r006, I r016]) rfl rfl) ?_
 refine s_val (x_ext (vs := [.agg #[I r006, I r016], I r19]) (v := I r19) rfl rfl) ?_
 refine t_st (k := 3) (b := b_13) (off := 0) (cs := [I r004, I r014]) (vs := [I r006, I r016]) (cs' := [I r006, I r016]) (v := .agg #[I r006, I r016]) (L' := [cBlk b_16 [I r10, I r11] 63, cBlk b_15 [I r003, I r013] 63, cOwn (α := Int) 3 u0_14 r03, cBlk b_13 [I r006, I r016] 35, cBlk b_12 [I r005, I r015] 35, cBlk b_11 [u0_6, u1_7, I r23, I r33] 55, cBlk b_10 [u0_2, u1_3, I r22, I r32] 26, cOwn (α := Yr) 127 u0_6 r02, cOwn (α := Raw 3) 128 u1_7 rr2_8, cRo Bs3_9, cOwn (α := Yr) 41 u0_2 r0, cOwn (α := Raw 3) 43 u1_3 rr2_4, cRo Bs3_5, cBlk b_1 [v_b_Years, v_b_Olds, I b_First, I b_Last] 26]) H rfl rfl rfl Sz35 rfl rfl rfl rfl rfl rfl ?_
 intro w357z H
 refine s_val (x_as (v := I r19) rfl) ?_
 refine s_nil ?_
 refine W.seq ?_
 refine W.region rfl ?_
 refine s_val (x_mv (v := I r18) rfl) ?_
 refine s_val (x_mv (v := I r19) rfl) ?_
 refine s_val (x_cmp (kd := .i64) (a := r18) (b := r19) (r := r18 == r19) rfl rfl rfl) ?_
 refine s_val (x_mv (v := B (r18 == r19)) rfl) ?_
 refine g_val (r18 == r19) (gy_t rfl) (fun hg => x_ld (p := .pointer (some ⟨b_12, 0, none⟩)) (v := .agg #[I r005, I r015]) rfl (ldb_ag (ds := [I r005, I r015]) Ag35 Sz35 (H.blk (k := 4) rfl) rfl rfl)) ?_
 refine g_val (r18 == r19) (gy_t rfl) (fun hg => x_ld (p := .pointer (some ⟨b_13, 0, none⟩)) (v := .agg #[I r006, I r016]) rfl (ldb_ag (ds := [I r006, I r016]) Ag35 Sz35 (H.blk (k := 3) rfl) rfl rfl)) ?_
 refine g_val (r18 == r19) (gy_t rfl) (fun hg => x_eqS (eqT35 (⟨(r005 : Int), (r015 : Int)⟩ : Span) (⟨(r006 : Int), (r016 : Int)⟩ : Span) _) gdT35 (gd_of (c := r18 == r19) hg (.agg #[I r005, I r015])) (gd_of (c := r18 == r19) hg (.agg #[I r006, I r016]))) ?_
 refine s_val (x_pand (b := r18 == r19) (r := decide ((⟨(r005 : Int), (r015 : Int)⟩ : Span) = (⟨(r006 : Int), (r016 : Int)⟩ : Span))) rfl (fun hb => gd_of (c := r18 == r19) (by first | exact hb | (rw [hb]; rfl) | (rw [hg, hb]; rfl) | simp_all) (B (decide ((⟨(r005 : Int), (r015 : Int)⟩ : Span) = (⟨(r006 : Int), (r016 : Int)⟩ : Span))))) rfl) ?_
 refine s_val (x_mv (v := B ((r18 == r19) && (decide ((⟨(r005 : Int), (r015 : Int)⟩ : Span) = (⟨(r006 : Int), (r016 : Int)⟩ : Span))))) rfl) ?_
 refine g_val ((r18 == r19) && (decide ((⟨(r005 : Int), (r015 : Int)⟩ : Span) = (⟨(r006 : Int), (r016 : Int)⟩ : Span)))) (gy_t rfl) (fun hg => x_ld (p := .pointer (some ⟨b_10, 0, none⟩)) (v := .agg #[u0_2, u1_3, I r22, I r32]) rfl (ldb_ag (ds := [u0_2, u1_3, I r22, I r32]) Ag26 Sz26 (H.blk (k := 6) rfl) rfl rfl)) ?_
 refine g_val ((r18 == r19) && (decide ((⟨(r005 : Int), (r015 : Int)⟩ : Span) = (⟨(r006 : Int), (r016 : Int)⟩ : Span)))) (gy_t rfl) (fun hg => x_ld (p := .pointer (some ⟨b_1, 0, none⟩)) (v := .agg #[v_b_Years, v_b_Olds, I b_First, I b_Last]) rfl (ldb_ag (ds := [v_b_Years, v_b_Olds, I b_First, I b_Last]) Ag26 Sz26 (H.blk (k := 13) rfl) rfl rfl)) ?_
 obtain ⟨r6, hx358z, hM⟩ := M.e_bind hM
 refine t_gcall ((r18 == r19) && (decide ((⟨(r005 : Int), (r015 : Int)⟩ : Span) = (⟨(r006 : Int), (r016 : Int)⟩ : Span)))) (gy_t rfl) cf29 (B r6) (fun _ => [.agg #[u0_2, u1_3, I r22, I r32], .agg #[v_b_Years, v_b_Olds, I b_First, I b_Last]]) (fun hg => lst2 (gd_of (c := ((r18 == r19) && (decide ((⟨(r005 : Int), (r015 : Int)⟩ : Span) = (⟨(r006 : Int), (r016 : Int)⟩ : Span))))) hg (.agg #[u0_2, u1_3, I r22, I r32])) (gd_of (c := ((r18 == r19) && (decide ((⟨(r005 : Int), (r015 : Int)⟩ : Span) = (⟨(r006 : Int), (r016 : Int)⟩ : Span))))) hg (.agg #[v_b_Years, v_b_Olds, I b_First, I b_Last]))) H (fun hg => (zcV r0 r1 r22 r32 b_Years b_Olds b_First b_Last (Reads.of (k := 10) rfl ownLe) (ownSl (H.get (k := 10) rfl)) (Reads.sup (Reads.of (k := 11) rfl ownLe) (Reads.of (k := 12) rfl roLe)) (rowSl rfl (H.get (k := 11) rfl) (roLe _ (H.get (k := 12) rfl)) hrj280z) (hC_b_Years.app _) hs_b_Years (hC_b_Olds.app _) hs_b_Olds (M.e_opt hx358z hg) _ (H.give (A := []) rfl)).mono fun v_ w_ ⟨y_, hr_, hv_, H_⟩ => by subst hr_; exact ⟨hv_, H.via H_⟩) ?_
 intro w359z H
 refine s_val (x_pand (b := ((r18 == r19) && (decide ((⟨(r005 : Int), (r015 : Int)⟩ : Span) = (⟨(r006 : Int), (r016 : Int)⟩ : Span))))) (r := r6) rfl (fun hb => gd_of (c := ((r18 == r19) && (decide ((⟨(r005 : Int), (r015 : Int)⟩ : Span) = (⟨(r006 : Int), (r016 : Int)⟩ : Span))))) (by first | exact hb | (rw [hb]; rfl) | (rw [hg, hb]; rfl) | simp_all) (B r6)) rfl) ?_
 refine s_val (x_mv (v := B (((r18 == r19) && (decide ((⟨(r005 : Int), (r015 : Int)⟩ : Span) = (⟨(r006 : Int), (r016 : Int)⟩ : Span)))) && r6)) rfl) ?_
 obtain ⟨r7, hx360z, hM⟩ := M.e_bind hM
 refine t_gcall (((r18 == r19) && (decide ((⟨(r005 : Int), (r015 : Int)⟩ : Span) = (⟨(r006 : Int), (r016 : Int)⟩ : Span)))) && r6) (gy_t rfl) cf18 (B r7) (fun _ => []) (fun _ => rfl) H (fun hg => (zcx (M.e_opt hx360z hg) _ (H.give (A := []) rfl)).mono fun v_ w_ ⟨y_, hr_, hv_, H_⟩ => by subst hr_; exact ⟨hv_, H.via H_⟩) ?_
 intro w361z H
 refine s_val (x_pand (b := (((r18 == r19) && (decide ((⟨(r005 : Int), (r015 : Int)⟩ : Span) = (⟨(r006 : Int), (r016 : Int)⟩ : Span)))) && r6)) (r := r7) rfl (fun hb => gd_of (c := (((r18 == r19) && (decide ((⟨(r005 : Int), (r015 : Int)⟩ : Span) = (⟨(r006 : Int), (r016 : Int)⟩ : Span)))) && r6)) (by first | exact hb | (rw [hb]; rfl) | (rw [hg, hb]; rfl) | simp_all) (B r7)) rfl) ?_
 refine s_val (x_as (v := B ((((r18 == r19) && (decide ((⟨(r005 : Int), (r015 : Int)⟩ : Span) = (⟨(r006 : Int), (r016 : Int)⟩ : Span)))) && r6) && r7)) rfl) ?_
 refine s_nil ?_
 refine W.ret ?_
 have hr_ := M.e_pure hM
 exact ⟨_, resE_tmp rfl, ⟨((((r18 == r19) && (decide ((⟨(r005 : Int), (r015 : Int)⟩ : Span) = (⟨(r006 : Int), (r016 : Int)⟩ : Span)))) && r6) && r7), hr_, rfl, (H.pick [] (by decide) rfl)⟩⟩

end Go.Proofs.Ytcgalcbkkijkhaa
end
namespace Go.Nm
namespace Bk
/-- The shares of all years, or the error. -/
def RtE (ys : List Yr) (os : List Old10) (f l st : Int) (r : Int × Int × Int × Int × Int) : Prop := (r.2.2.2.2 ≠ 0 /\ WrE ys os f l f l st 0 2000 r.2.2.2.2 /\ r.1 = 0 /\ r.2.1 = 0 /\ r.2.2.1 = 0 /\ r.2.2.2.1 = 0) ∨
  (r.2.2.2.2 = 0 /\ WrE ys os f l f l st 0 2000 0 /\ ∃ a b : Nat, a <= 100000 /\ b <= 100000 /\ many (lop st) ys os f l = a /\ many (hip st) ys os f l = b /\ r.1 = ((a / Nat.gcd a (Int.toNat (l - f + 1)) : Nat) : Int) /\ r.2.1 = ((Int.toNat (l - f + 1) / Nat.gcd a (Int.toNat (l - f + 1)) : Nat) : Int) ∧
    r.2.2.1 = ((b / Nat.gcd b (Int.toNat (l - f + 1)) : Nat) : Int) /\ r.2.2.2.1 = ((Int.toNat (l - f + 1) / Nat.gcd b (Int.toNat (l - f + 1)) : Nat) : Int))
end Bk
end Go.Nm
namespace Go.Proofs.Ytcgalcbkkijkhaa
open Go Go.Nm
variable {ys : List Yr} {os : List Old10} {f l : Int}
theorem of_returns (hy : ys.length <= 1000000) (ho : os.length <= 1000000) (st : Int) : (zbo ys os f l st).Out (Bk.RtE ys os f l st) := by
  unfold zbo
  refine M.o_bind (of_passed hy ho f l st) ?_
  rintro ⟨a, b, e⟩ (⟨h1, h2, h3, h4⟩ | ⟨h1, h2, h3, h4⟩)
  · dsimp only at h1 h2 ⊢
    exact M.o_t (bne_iff_ne.2 h1) (M.o_pure (.inl ⟨h1, h2, rfl, rfl, rfl, rfl⟩))
  · dsimp only at h1 h3 h4 ⊢
    subst h1 h3 h4
    obtain ⟨h0, hI, hn, hF⟩ := h2.ok
    have h := Bk.chk_ok h0
    have hf0 := h.f0
    have hfl := h.fl
    have hl3 := h.l3
    have hln := h.ln
    have c1 := cnt_le (ys := ys) (os := os) (Bk.lop st) f (Int.toNat (l + 1 - f))
    have c2 := cnt_le (ys := ys) (os := os) (Bk.hip st) f (Int.toNat (l + 1 - f))
    have k1 := share_ends (n := (Bk.kl ys os f (Int.toNat (l + 1 - f))).countP (Bk.lop st)) (d := Int.toNat (l - f + 1)) (by omega) (by omega) (by omega)
    have k2 := share_ends (n := (Bk.kl ys os f (Int.toNat (l + 1 - f))).countP (Bk.hip st)) (d := Int.toNat (l - f + 1)) (by omega) (by omega) (by omega)
    rw [show ((Int.toNat (l - f + 1) : Nat) : Int) = l - f + 1 by omega] at k1 k2
    exact M.o_f rfl (M.o_grd (gA2 (by omega) (by omega)) (M.o_grd (gA2 (by omega) (by omega)) (M.o_bindE k1 (M.o_bindE k2 (M.o_pure (.inr ⟨rfl, h2, _, _, by omega, by omega, rfl, rfl, rfl, rfl, rfl, rfl⟩))))))
theorem zcq (hs : Short ys os) (fr to st t : Int) : (zau ys os f l fr to st t ys os f l ys os f l).Out (fun r => r = true) := by
  have hy := hs.y
  have ho := hs.o
  have fin : (M.bind (zaq ys os f l fr to t) fun (r005, r015, r18) => M.bind (zbg ys os f l fr to t) fun (r006, r016, r19) =>
      M.bind (M.opt ((r18 == r19) && (decide ((⟨(r005 : Int), (r015 : Int)⟩ : Span) = (⟨(r006 : Int), (r016 : Int)⟩ : Span)))) (zbr ys os f l ys os f l) false) fun r6 =>
      M.bind (M.opt (((r18 == r19) && (decide ((⟨(r005 : Int), (r015 : Int)⟩ : Span) = (⟨(r006 : Int), (r016 : Int)⟩ : Span)))) && r6) (zaZ) false) fun r7 =>
      M.pure ((((r18 == r19) && (decide ((⟨(r005 : Int), (r015 : Int)⟩ : Span) = (⟨(r006 : Int), (r016 : Int)⟩ : Span)))) && r6) && r7)).Out (fun r => r = true) := by
    obtain ⟨a5, g5, e5⟩ := of_reaches (ys := ys) (os := os) (f := f) (l := l) (by omega) (by omega) fr to t
    obtain ⟨a6, g6, e6⟩ := ref_reaches (ys := ys) (os := os) (f := f) (l := l) (by omega) (by omega) fr to t
    obtain rfl := e5.uniq e6
    refine M.o_bindE g5 (M.o_bindE g6 ?_)
    obtain ⟨b1, b2, b3⟩ := a5
    have e0 : ((b3 == b3) && (decide ((⟨(b1 : Int), (b2 : Int)⟩ : Span) = (⟨(b1 : Int), (b2 : Int)⟩ : Span)))) = true := by simp
    dsimp only
    rw [e0]
    exact M.o_bindE (M.i_opt (fun _ => sameB_ends ys os f l) (fun h => by cases h)) (M.o_bindE (M.i_opt (fun _ => awake_ends) (fun h => by cases h)) (M.o_pure rfl))
  unfold zau
  obtain ⟨⟨r1, r2, r3, r4, e⟩, g1, e1⟩ := of_returns (ys := ys) (os := os) (f := f) (l := l) (by omega) (by omega) st
  obtain ⟨⟨p1, p2, e'⟩, g2, e2⟩ := ref_passed (ys := ys) (os := os) (f := f) (l := l) (by omega) (by omega) f l st
  refine M.o_bindE g1 (M.o_bindE g2 ?_)
  dsimp only
  rcases e1 with ⟨h1, h2, h3, h4, h5, h6⟩ | ⟨h1, h2, a, b, ha, hb, h3, h4, h5, h6, h7, h8⟩
  · dsimp only at h1 h2 h3 h4 h5 h6
    subst h3 h4 h5 h6
    have ee : e = e' := h2.uniq e2.wr
    subst ee
    have z1 : (e == 0) = false := beq_eq_false_iff_ne.2 h1
    have z2 : (e != e) = false := by simp
    have z3 : (decide ((⟨(0 : Int), (0 : Int)⟩ : Rto) = (⟨(0 : Int), (0 : Int)⟩ : Rto))) = true := decide_eq_true rfl
    rw [z1, z2, z3]
    refine M.o_bindE (M.i_opt (fun h => by simp at h) (fun _ => rfl)) (M.o_bindE (M.i_opt (fun h => by simp at h) (fun _ => rfl)) (M.o_f (by simp) fin))
  · dsimp only at h1 h5 h6 h7 h8
    subst h1 h5 h6 h7 h8
    have ee : 0 = e' := h2.uniq e2.wr
    subst ee
    rcases e2 with ⟨k1, _⟩ | ⟨k1, k2, k3, k4⟩
    · exact absurd rfl k1
    · dsimp only at k3 k4
      rw [h3] at k3
      rw [h4] at k4
      subst k3 k4
      obtain ⟨h0, hI, hn, hF⟩ := h2.ok
      have h := Bk.chk_ok h0
      exact M.o_bindE (M.i_opt (fun _ => shared_ends h.fl h.ln ha) (fun h => by simp at h)) (M.o_bindE (M.i_opt (fun _ => shared_ends h.fl h.ln hb) (fun h => by simp at h)) (M.o_f (by simp) fin))
theorem zc4 (ys : List Yr) (os : List Old10) (f l fr to st t : Int) (most : Bool) : (zcb ys os f l fr to st t most).Ends true := by
  refine M.Out.ends ?_
  unfold zcb
  refine M.o_bind (long_out ys os f l) ?_
  intro r hr
  refine M.o_if (fun hb => M.o_bindE awake_ends (M.o_pure rfl)) (fun hb => ?_)
  have hs := hr hb
  have hy := hs.y
  have ho := hs.o
  refine M.o_bindE (copyB_ends hs) (M.o_bindE (bookB_ends hs) ?_)
  unfold zbR
  obtain ⟨⟨a1, a2, a3⟩, g1, e1⟩ := of_passed (ys := ys) (os := os) (f := f) (l := l) (by omega) (by omega) fr to st
  obtain ⟨b, g2, e2⟩ := ref_passed (ys := ys) (os := os) (f := f) (l := l) (by omega) (by omega) fr to st
  obtain rfl := e1.uniq e2
  obtain ⟨⟨L, e⟩, g3, e3⟩ := of_told (ys := ys) (os := os) (f := f) (l := l) (by omega) (by omega) fr to st most
  refine M.o_bindE g1 (M.o_bindE g2 (M.o_f (by simp) (M.o_bindE g3 ?_)))
  dsimp only
  rcases e3 with ⟨h1, h2, h3⟩ | ⟨h1, h2, h3⟩
  · dsimp only at h1 h2 h3
    subst h3
    have ee : e = a3 := h2.uniq e1.wr
    subst ee
    exact M.o_f (by simp) (M.o_f (beq_eq_false_iff_ne.2 h1) (zcq hs fr to st t))
  · dsimp only at h1 h3
    subst h1 h3
    have ee : 0 = a3 := h2.uniq e1.wr
    subst ee
    rcases e1 with ⟨k1, _⟩ | ⟨k1, k2, k3, k4⟩
    · exact absurd rfl k1
    · dsimp only at k3 k4
      subst k3 k4
      obtain ⟨h0, ⟨i1, i2, i3⟩, hn, hF⟩ := h2.ok
      have h := Bk.chk_ok h0
      have hf0 := h.f0
      have hfl := h.fl
      have hl3 := h.l3
      have hln := h.ln
      have hlen : ((Bk.kl ys os f (Int.toNat (l + 1 - f))).map (Bk.ofs most)).length = Int.toNat (l + 1 - f) := by rw [List.length_map, Bk.kl_len]
      have hget : ∀ i, i < Int.toNat (l + 1 - f) -> ((Bk.kl ys os f (Int.toNat (l + 1 - f))).map (Bk.ofs most)).getD i 0 = Bk.ofs most (Bk.kn ys os (f + i)) := by
        intro i hi
        rw [List.getD_eq_getElem?_getD, List.getElem?_map, Bk.kl_at ys os f hi]
        rfl
      obtain ⟨hv, g4, e4⟩ := ref_holds (ys := ys) (os := os) (f := f) (l := l) (by omega) (by omega) ((Bk.kl ys os f (Int.toNat (l + 1 - f))).map (Bk.ofs most))
      have hok : Bk.HoE ys os f l ((Bk.kl ys os f (Int.toNat (l + 1 - f))).map (Bk.ofs most)) (true, 0) := by
        refine .inr (.inr (.inr (.inr ⟨h0, by rw [hlen]; omega, fun i hi => ?_, fun i hi => ?_, rfl⟩)))
        · rw [hlen] at hi
          rw [hget i hi]
          have := Bk.kn_in h.y h.o (f + i)
          unfold Bk.ofs
          split <;> omega
        · rw [hlen] at hi
          rw [hget i hi]
          have := hF (f + i) (by omega) (by omega)
          unfold Bk.ofs
          split <;> omega
      obtain rfl := e4.uniq hok
      refine M.o_f (by simp) (M.o_t rfl (M.o_bindE g4 (M.o_f rfl (M.o_grd (gA2 (by omega) (by omega)) (M.o_grd (gA2 (by omega) (by omega)) (M.o_f (by rw [hlen]; simp; omega) ?_))))))
      refine M.o_bind (P := fun n => n = if most = true then Bk.many (Bk.hip st) ys os fr to else Bk.many (Bk.lop st) ys os fr to) ?_ ?_
      · refine M.o_for (Int.toNat (to + 1 - fr)) (fun i (s : Nat × Int) => s.2 = fr + i /\ (s.1 : Int) = ((Bk.kl ys os fr i).countP (fun s => decide (st <= Bk.ofs most s)) : Nat)) ?_ ?_ ⟨by simp, rfl⟩
        · rintro i ⟨n, y⟩ hi ⟨e5, e6⟩
          dsimp only at e5 e6
          subst e5
          simp only [zaR]
          have d1 := cnt_succ (ys := ys) (os := os) (fun s => decide (st <= Bk.ofs most s)) fr i
          have c1 := cnt_le (ys := ys) (os := os) (fun s => decide (st <= Bk.ofs most s)) fr i
          have hg := hget (Int.toNat (fr + i - f)) (by omega)
          rw [show f + ((Int.toNat (fr + i - f) : Nat) : Int) = fr + i by omega] at hg
          refine M.o_t (decide_eq_true (by omega)) (M.o_grd (gA2 (by omega) (by omega)) (M.o_grd (gA2 (by omega) (by rw [hlen]; omega)) ?_))
          rw [hg]
          refine M.o_if (fun hb => ?_) (fun hb => ?_)
          · rw [if_pos hb] at d1
            exact M.o_grd (gA2 (by omega) (by omega)) (M.o_grd (gA2 (by omega) (by omega)) (M.o_pure ⟨by dsimp only; omega, by dsimp only; omega⟩))
          · rw [if_neg (by rw [hb]; simp)] at d1
            exact M.o_grd (gA2 (by omega) (by omega)) (M.o_pure ⟨by dsimp only; omega, by dsimp only; omega⟩)
        · rintro ⟨n, y⟩ ⟨e5, e6⟩
          dsimp only at e5 e6
          subst e5
          simp only [zaR]
          refine M.o_f (decide_eq_false (by omega)) (M.o_pure ?_)
          show (n : Int) = _
          rw [e6]
          cases most <;> rfl
      · rintro n rfl
        refine M.o_f ?_ (zcq hs fr to st t)
        cases most <;> simp
end Go.Proofs.Ytcgalcbkkijkhaa
