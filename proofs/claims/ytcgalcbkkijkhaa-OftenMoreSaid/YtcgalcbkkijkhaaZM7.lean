/- Part 7 of the texts on which the proof rests. Conditions: none. -/
import Derived.Test.YtcgalcbkkijkhaaZM6
set_option linter.unusedVariables false
set_option linter.unusedSimpArgs false
set_option linter.unusedSectionVars false
section
set_option maxRecDepth 100000
set_option maxHeartbeats 16000000
namespace Go.Proofs.Ytcgalcbkkijkhaa
open Go Go.Nm
def zbd (r02 : Int) (r03 : Int) (r15 : List Old10) (r24 : Int) (r32 : Int) (l2 : List Yr) (r06 : List Yr) (r17 : List Old10) (r26 : Int) (r34 : Int) (r7 : Int) (r8 : Int) (r002 : Int) (r012 : Int) (r003 : Int) (r013 : Int) : Nat -> M (Nat ⊕ (Unit ⊕ Unit)) := fun s5 =>
  bif decide ((s5 : Int) < (([(⟨l2, r15, (r24 : Int), (r32 : Int)⟩ : Bk10), (⟨(r06.drop 1), r17, (r26 : Int), (r34 : Int)⟩ : Bk10)]).length : Int)) then (
  M.grd (decide ((s5 : Int) < (([(⟨l2, r15, (r24 : Int), (r32 : Int)⟩ : Bk10), (⟨(r06.drop 1), r17, (r26 : Int), (r34 : Int)⟩ : Bk10)]).length : Int))) <|
  M.bind (zae ((([(⟨l2, r15, (r24 : Int), (r32 : Int)⟩ : Bk10), (⟨(r06.drop 1), r17, (r26 : Int), (r34 : Int)⟩ : Bk10)]).getD s5 default).years) ((([(⟨l2, r15, (r24 : Int), (r32 : Int)⟩ : Bk10), (⟨(r06.drop 1), r17, (r26 : Int), (r34 : Int)⟩ : Bk10)]).getD s5 default).olds) ((([(⟨l2, r15, (r24 : Int), (r32 : Int)⟩ : Bk10), (⟨(r06.drop 1), r17, (r26 : Int), (r34 : Int)⟩ : Bk10)]).getD s5 default).first) ((([(⟨l2, r15, (r24 : Int), (r32 : Int)⟩ : Bk10), (⟨(r06.drop 1), r17, (r26 : Int), (r34 : Int)⟩ : Bk10)]).getD s5 default).last) r02 r03 r8) fun (r006, r016, r112) =>
  M.bind (zag ((([(⟨l2, r15, (r24 : Int), (r32 : Int)⟩ : Bk10), (⟨(r06.drop 1), r17, (r26 : Int), (r34 : Int)⟩ : Bk10)]).getD s5 default).years) ((([(⟨l2, r15, (r24 : Int), (r32 : Int)⟩ : Bk10), (⟨(r06.drop 1), r17, (r26 : Int), (r34 : Int)⟩ : Bk10)]).getD s5 default).olds) ((([(⟨l2, r15, (r24 : Int), (r32 : Int)⟩ : Bk10), (⟨(r06.drop 1), r17, (r26 : Int), (r34 : Int)⟩ : Bk10)]).getD s5 default).first) ((([(⟨l2, r15, (r24 : Int), (r32 : Int)⟩ : Bk10), (⟨(r06.drop 1), r17, (r26 : Int), (r34 : Int)⟩ : Bk10)]).getD s5 default).last) (r02 + r7)) fun (r007, r017, r113) =>
  bif ((((((r112 != 0) || (r113 != 0)) || (decide (r002 < r006))) || (decide (r016 < r012))) || (decide (r003 < r007))) || (decide (r017 < r013))) then (
  M.pure (.inr (.inl ())))
  else (
  M.pure (.inl (s5 + 1))))
  else (
  M.pure (.inr (.inr ())))
def zaT (r02 : Int) (r03 : Int) (r15 : List Old10) (r24 : Int) (r32 : Int) (l2 : List Yr) (r06 : List Yr) (r17 : List Old10) (r26 : Int) (r34 : Int) (r7 : Int) (r8 : Int) (r002 : Int) (r012 : Int) (r003 : Int) (r013 : Int) : Nat -> M (Nat ⊕ (Unit ⊕ Unit)) := fun s5 =>
  bif decide ((s5 : Int) < (([(⟨l2, r15, (r24 : Int), (r32 : Int)⟩ : Bk10), (⟨r06, r17, (r26 : Int), (r34 : Int)⟩ : Bk10)]).length : Int)) then (
  M.grd (decide ((s5 : Int) < (([(⟨l2, r15, (r24 : Int), (r32 : Int)⟩ : Bk10), (⟨r06, r17, (r26 : Int), (r34 : Int)⟩ : Bk10)]).length : Int))) <|
  M.bind (zae ((([(⟨l2, r15, (r24 : Int), (r32 : Int)⟩ : Bk10), (⟨r06, r17, (r26 : Int), (r34 : Int)⟩ : Bk10)]).getD s5 default).years) ((([(⟨l2, r15, (r24 : Int), (r32 : Int)⟩ : Bk10), (⟨r06, r17, (r26 : Int), (r34 : Int)⟩ : Bk10)]).getD s5 default).olds) ((([(⟨l2, r15, (r24 : Int), (r32 : Int)⟩ : Bk10), (⟨r06, r17, (r26 : Int), (r34 : Int)⟩ : Bk10)]).getD s5 default).first) ((([(⟨l2, r15, (r24 : Int), (r32 : Int)⟩ : Bk10), (⟨r06, r17, (r26 : Int), (r34 : Int)⟩ : Bk10)]).getD s5 default).last) r02 r03 r8) fun (r006, r016, r112) =>
  M.bind (zag ((([(⟨l2, r15, (r24 : Int), (r32 : Int)⟩ : Bk10), (⟨r06, r17, (r26 : Int), (r34 : Int)⟩ : Bk10)]).getD s5 default).years) ((([(⟨l2, r15, (r24 : Int), (r32 : Int)⟩ : Bk10), (⟨r06, r17, (r26 : Int), (r34 : Int)⟩ : Bk10)]).getD s5 default).olds) ((([(⟨l2, r15, (r24 : Int), (r32 : Int)⟩ : Bk10), (⟨r06, r17, (r26 : Int), (r34 : Int)⟩ : Bk10)]).getD s5 default).first) ((([(⟨l2, r15, (r24 : Int), (r32 : Int)⟩ : Bk10), (⟨r06, r17, (r26 : Int), (r34 : Int)⟩ : Bk10)]).getD s5 default).last) (r02 + r7)) fun (r007, r017, r113) =>
  bif ((((((r112 != 0) || (r113 != 0)) || (decide (r002 < r006))) || (decide (r016 < r012))) || (decide (r003 < r007))) || (decide (r017 < r013))) then (
  M.pure (.inr (.inl ())))
  else (
  M.pure (.inl (s5 + 1))))
  else (
  M.pure (.inr (.inr ())))
def zaz (at_ : Int) (level : Int) (r00 : List Yr) (r01 : List Old10) (r02 : Int) (r03 : Int) (r12 : List Int) (r0 : List Yr) (r23 : Int) (r3 : Int) (r15 : List Old10) (r24 : Int) (r32 : Int) (l : List Old10) (l2 : List Yr) (s3 : Int) (s4 : Int) : M Bool :=
  M.bind (zaC r00 r01 r02 r03) fun (r06, r17, r26, r34) =>
  bif decide (0 < (r06.length : Int)) then (
  M.grd (decide (1 <= (r06.length : Int))) <|
  M.bind (zam at_ (r12.length : Int)) fun r7 =>
  M.grd (decide ((-9223372036854775808 : Int) <= (r02 + r7)) && decide ((r02 + r7) <= (9223372036854775807 : Int))) <|
  M.bind (zam level 700) fun r8 =>
  M.bind (zae r00 r01 r02 r03 r02 r03 r8) fun (r002, r012, r18) =>
  M.bind (zag r00 r01 r02 r03 (r02 + r7)) fun (r003, r013, r19) =>
  M.bind (zae r0 l r23 r3 r02 r03 r8) fun (r004, r014, r110) =>
  M.bind (zag r0 l r23 r3 (r02 + r7)) fun (r005, r015, r111) =>
  bif ((((((((r18 != 0) || (r19 != 0)) || (r110 != 0)) || (r111 != 0)) || (decide (r004 < r002))) || (decide (r012 < r014))) || (decide (r005 < r003))) || (decide (r013 < r015))) then (
  M.pure false)
  else (
  M.bind (M.iter (zbd r02 r03 r15 r24 r32 l2 r06 r17 r26 r34 r7 r8 r002 r012 r003 r013) 0) fun x_ => match x_ with
  | (.inl (_ : Unit)) => (
  M.pure false)
  | (.inr (_ : Unit)) => (
  M.bind (zbc) fun r9 =>
  M.pure r9)))
  else (
  M.bind (zam at_ (r12.length : Int)) fun r7 =>
  M.grd (decide ((-9223372036854775808 : Int) <= (r02 + r7)) && decide ((r02 + r7) <= (9223372036854775807 : Int))) <|
  M.bind (zam level 700) fun r8 =>
  M.bind (zae r00 r01 r02 r03 r02 r03 r8) fun (r002, r012, r18) =>
  M.bind (zag r00 r01 r02 r03 (r02 + r7)) fun (r003, r013, r19) =>
  M.bind (zae r0 l r23 r3 r02 r03 r8) fun (r004, r014, r110) =>
  M.bind (zag r0 l r23 r3 (r02 + r7)) fun (r005, r015, r111) =>
  bif ((((((((r18 != 0) || (r19 != 0)) || (r110 != 0)) || (r111 != 0)) || (decide (r004 < r002))) || (decide (r012 < r014))) || (decide (r005 < r003))) || (decide (r013 < r015))) then (
  M.pure false)
  else (
  M.bind (M.iter (zaT r02 r03 r15 r24 r32 l2 r06 r17 r26 r34 r7 r8 r002 r012 r003 r013) 0) fun x_ => match x_ with
  | (.inl (_ : Unit)) => (
  M.pure false)
  | (.inr (_ : Unit)) => (
  M.bind (zbc) fun r9 =>
  M.pure r9)))
def zaP (more : List UInt8) (at_ : Int) (level : Int) (r00 : List Yr) (r01 : List Old10) (r02 : Int) (r03 : Int) (r12 : List Int) (r0 : List Yr) (r23 : Int) (r3 : Int) (r04 : List Yr) (r15 : List Old10) (r24 : Int) (r32 : Int) (s : Int) (s2 : Int) (l : List Old10) : M Bool :=
  bif decide (0 < (r04.length : Int)) then (
  M.bind (zaf more s s2 (r04.length : Int)) fun (r4, q13, q23) =>
  M.grd (decide ((0 : Int) <= r4) && decide (r4 < (r04.length : Int))) <|
  M.bind (zaf more q13 q23 30) fun (r5, q14, q24) =>
  M.grd (decide ((-9223372036854775808 : Int) <= (((r04.getD (Int.toNat r4) default).lo) - r5)) && decide ((((r04.getD (Int.toNat r4) default).lo) - r5) <= (9223372036854775807 : Int))) <|
  M.bind (zaf more q14 q24 30) fun (r6, q15, q25) =>
  M.grd (decide ((-9223372036854775808 : Int) <= (((r04.getD (Int.toNat r4) default).hi) + r6)) && decide ((((r04.getD (Int.toNat r4) default).hi) + r6) <= (9223372036854775807 : Int))) <|
  zaz at_ level r00 r01 r02 r03 r12 r0 r23 r3 r15 r24 r32 l (r04.set (Int.toNat r4) ({ (r04.getD (Int.toNat r4) default) with lo := max 0 (((r04.getD (Int.toNat r4) default).lo) - r5), hi := min 2000 (((r04.getD (Int.toNat r4) default).hi) + r6) })) q15 q25)
  else (
  zaz at_ level r00 r01 r02 r03 r12 r0 r23 r3 r15 r24 r32 l r04 s s2)
def zbb (more : List UInt8) (at_ : Int) (level : Int) (r00 : List Yr) (r01 : List Old10) (r02 : Int) (r03 : Int) (r12 : List Int) (r13 : Int) (r22 : Int) (r0 : List Yr) (r14 : List Old10) (r23 : Int) (r3 : Int) (r04 : List Yr) (r15 : List Old10) (r24 : Int) (r32 : Int) : M Bool :=
  bif decide ((r14.length : Int) < 8) then (
  M.bind (zaE more r13 r22 r00 r01 r02 r03 r12) fun (r05, r16, r25, r33, q12, q22) =>
  M.grd (decide ((r14.length + ([(⟨(r05 : Int), (r16 : Int), (r25 : Int), r33⟩ : Old10)]).length) * 48 <= 140737488355328)) <|
  zaP more at_ level r00 r01 r02 r03 r12 r0 r23 r3 r04 r15 r24 r32 q12 q22 (r14 ++ ([(⟨(r05 : Int), (r16 : Int), (r25 : Int), r33⟩ : Old10)])))
  else (
  zaP more at_ level r00 r01 r02 r03 r12 r0 r23 r3 r04 r15 r24 r32 r13 r22 r14)
def zbi (numbers : List UInt8) (more : List UInt8) (at_ : Int) (level : Int) : M Bool :=
  M.bind (za1 numbers) fun (r1, r2) =>
  M.bind (za7 numbers r1 r2 40) fun (r00, r01, r02, r03, r12, q1, q2) =>
  M.bind (za1 more) fun (r13, r22) =>
  M.bind (zaC r00 r01 r02 r03) fun (r0, r14, r23, r3) =>
  M.bind (zaC r00 r01 r02 r03) fun (r04, r15, r24, r32) =>
  zbb more at_ level r00 r01 r02 r03 r12 r13 r22 r0 r14 r23 r3 r04 r15 r24 r32
theorem zcl {R : List Chunk} {C_numbers : Cells} {v_numbers : Value} {C_more : Cells} {v_more : Value} (numbers : List UInt8) (more : List UInt8) (at_ : Int) (level : Int) (hC_numbers : Reads R C_numbers) (hs_numbers : Sl C_numbers v_numbers numbers) (hC_more : Reads R C_more) (hs_more : Sl C_more v_more more) {r : Bool} (hM : (zbi numbers more at_ level).Ends r) (w : World) (H : St w w [] R) : Ret Try.prog 4 #[v_numbers, v_more, I at_, I level] w fun v w' => ∃ (y0 : Bool), y0 = r /\ v = B y0 /\ St w w' [] R := by
 refine ret_of_W Try.func4 rfl rfl rfl ?_
 refine W.seq ?_
 refine W.region rfl ?_
 refine s_val (x_as (v := B false) rfl) ?_
 refine s_nil ?_
 refine W.seq ?_
 refine W.region rfl ?_
 refine s_val (x_mv (v := v_numbers) rfl) ?_
 obtain ⟨r2z, hx1z, hM⟩ := M.e_bind hM
 refine s_call cf12 [v_numbers] rfl (zb9 numbers (hC_numbers.app _) hs_numbers hx1z _ (St.give (T := []) H rfl)) ?_
 rintro vq w3z ⟨r1, r2, nb0_1, hr4z, hvq, H2_⟩
 subst hr4z
 subst vq
 try dsimp only at hM
 replace H : St w w3z [cBlk nb0_1 [v_numbers, I r1, I r2] 101] R := H.back H2_ rfl
 clear H2_
 obtain ⟨r6z, hx5z, hM⟩ := M.e_bind hM
 refine s_call cf11 [.pointer (some ⟨nb0_1, 0, none⟩), I 40] rfl (zct numbers r1 r2 40 (hC_numbers.app _) hs_numbers hx5z _ (St.give (T := []) H rfl)) ?_
 rintro vq w7z ⟨r00, r01, r02, r03, r12, q1, q2, u0_2, u1_3, rr2_4, Bs3_5, u4_6, hr8z, hvq, H2_, hf9z⟩
 subst hr8z
 subst vq
 try dsimp only at hM
 replace H : St w w7z [cOwn (α := Yr) 41 u0_2 r00, cOwn (α := Raw 3) 43 u1_3 rr2_4, cRo Bs3_5, cOwn (α := Int) 3 u4_6 r12, cBlk nb0_1 [v_numbers, I q1, I q2] 101] R := H.back H2_ rfl
 clear H2_
 refine s_val (x_mv (v := .tuple #[.agg #[u0_2, u1_3, I r02, I r03], u4_6]) rfl) ?_
 refine s_val (x_ext (vs := [.agg #[u0_2, u1_3, I r02, I r03], u4_6]) (v := .agg #[u0_2, u1_3, I r02, I r03]) rfl rfl) ?_
 refine s_val (x_ext (vs := [.agg #[u0_2, u1_3, I r02, I r03], u4_6]) (v := u4_6) rfl rfl) ?_
 refine t_alloc (cs := [.slice none 0 0, .slice none 0 0, I 0, I 0]) H Al26 rfl ?_
 intro b_7 w10z H
 refine t_st (k := 0) (b := b_7) (off := 0) (cs := [.slice none 0 0, .slice none 0 0, I 0, I 0]) (vs := [u0_2, u1_3, I r02, I r03]) (cs' := [u0_2, u1_3, I r02, I r03]) (v := .agg #[u0_2, u1_3, I r02, I r03]) (L' := [cBlk b_7 [u0_2, u1_3, I r02, I r03] 26, cOwn (α := Yr) 41 u0_2 r00, cOwn (α := Raw 3) 43 u1_3 rr2_4, cRo Bs3_5, cOwn (α := Int) 3 u4_6 r12, cBlk nb0_1 [v_numbers, I q1, I q2] 101]) H rfl rfl rfl Sz26 rfl rfl rfl (by simp only [List.all_cons, List.all_nil, Bool.true_and, Bool.and_true, Sl.oc (ownSl (H.get (k := 1) rfl)), Sl.oc (rowSl rfl (H.get (k := 2) rfl) (roLe _ (H.get (k := 3) rfl)) hf9z)]; try rfl) rfl rfl ?_
 intro w11z H
 refine s_val (x_as (v := u4_6) rfl) ?_
 refine s_nil ?_
 refine W.seq ?_
 refine W.region rfl ?_
 refine s_val (x_mv (v := v_more) rfl) ?_
 obtain ⟨r13z, hx12z, hM⟩ := M.e_bind hM
 refine s_call cf12 [v_more] rfl (zb9 more (hC_more.app _) hs_more hx12z _ (St.give (T := [cBlk b_7 [u0_2, u1_3, I r02, I r03] 26, cOwn (α := Yr) 41 u0_2 r00, cOwn (α := Raw 3) 43 u1_3 rr2_4, cRo Bs3_5, cOwn (α := Int) 3 u4_6 r12, cBlk nb0_1 [v_numbers, I q1, I q2] 101]) H rfl)) ?_
 rintro vq w14z ⟨r13, r22, nb0_8, hr15z, hvq, H2_⟩
 subst hr15z
 subst vq
 try dsimp only at hM
 replace H : St w w14z [cBlk nb0_8 [v_more, I r13, I r22] 101, cBlk b_7 [u0_2, u1_3, I r02, I r03] 26, cOwn (α := Yr) 41 u0_2 r00, cOwn (α := Raw 3) 43 u1_3 rr2_4, cRo Bs3_5, cOwn (α := Int) 3 u4_6 r12, cBlk nb0_1 [v_numbers, I q1, I q2] 101] R := H.back H2_ rfl
 clear H2_
 refine s_val (x_as (v := .pointer (some ⟨nb0_8, 0, none⟩)) rfl) ?_
 refine s_nil ?_
 refine W.seqJ (fun σ W => ∃ (b_17 : Nat) (b_18 : Nat) (r0 : List Yr) (r14 : List Old10) (r23 : Int) (r3 : Int) (r04 : List Yr) (r15 : List Old10) (r24 : Int) (r32 : Int) (u0_13 : Value) (u1_14 : Value) (u0_9 : Value) (u1_10 : Value) (rr2_15 : List (Raw 3)) (Bs3_16 : Base) (rr2_11 : List (Raw 3)) (Bs3_12 : Base) (ρ : Env), σ = upds ρ [(2, I at_), (3, I level), (9, .pointer (some ⟨b_7, 0, none⟩)), (10, u4_6), (11, .pointer (some ⟨nb0_8, 0, none⟩)), (12, .pointer (some ⟨b_17, 0, none⟩)), (13, .pointer (some ⟨b_18, 0, none⟩))] /\ (zbb more at_ level r00 r01 r02 r03 r12 r13 r22 r0 r14 r23 r3 r04 r15 r24 r32).Ends r /\ St w W [cBlk b_18 [u0_13, u1_14, I r24, I r32] 26, cBlk b_17 [u0_9, u1_10, I r23, I r3] 26, cOwn (α := Yr) 41 u0_13 r04, cOwn (α := Raw 3) 43 u1_14 rr2_15, cRo Bs3_16, cOwn (α := Yr) 41 u0_9 r0, cOwn (α := Raw 3) 43 u1_10 rr2_11, cRo Bs3_12, cBlk nb0_8 [v_more, I r13, I r22] 101, cBlk b_7 [u0_2, u1_3, I r02, I r03] 26, cOwn (α := Yr) 41 u0_2 r00, cOwn (α := Raw 3) 43 u1_3 rr2_4, cRo Bs3_5, cOwn (α := Int) 3 u4_6 r12, cBlk nb0_1 [v_numbers, I q1, I q2] 101] R /\ RepR (α := Old10) Bs3_16.cells rr2_15 r15 /\ RepR (α := Old10) Bs3_12.cells rr2_11 r14) ?_ ?_
 ·skip
  refine W.drawT (fun W => St w W [cBlk nb0_8 [v_more, I r13, I r22] 101, cBlk b_7 [u0_2, u1_3, I r02, I r03] 26, cOwn (α := Yr) 41 u0_2 r00, cOwn (α := Raw 3) 43 u1_3 rr2_4, cRo Bs3_5, cOwn (α := Int) 3 u4_6 r12, cBlk nb0_1 [v_numbers, I q1, I q2] 101] R) (.q 0 (.q 2 (.l3 1 (.l3 3 (.l2 4 (.l 5 (.l 6 (.l 7 .nil))) 5 (.l 4 (.l 6 (.l 7 .nil)))) 4 (.l2 3 (.l 5 (.l 6 (.l 7 .nil))) 5 (.l 3 (.l 6 (.l 7 .nil)))) 5 (.l2 3 (.l 4 (.l 6 (.l 7 .nil))) 4 (.l 3 (.l 6 (.l 7 .nil))))) 4 (.l2 1 (.l2 3 (.l 5 (.l 6 (.l 7 .nil))) 5 (.l 3 (.l 6 (.l 7 .nil)))) 5 (.l 1 (.l 3 (.l 6 (.l 7 .nil))))) 5 (.l2 1 (.l2 3 (.l 4 (.l 6 (.l 7 .nil))) 4 (.l 3 (.l 6 (.l 7 .nil)))) 4 (.l 1 (.l 3 (.l 6 (.l 7 .nil)))))))) mixed (by decide +kernel) rfl ?_
  intro w16z hx_
  replace H : St w w16z [cBlk nb0_8 [v_more, I r13, I r22] 101, cBlk b_7 [u0_2, u1_3, I r02, I r03] 26, cOwn (α := Yr) 41 u0_2 r00, cOwn (α := Raw 3) 43 u1_3 rr2_4, cRo Bs3_5, cOwn (α := Int) 3 u4_6 r12, cBlk nb0_1 [v_numbers, I q1, I q2] 101] R := H.ext hx_
  clear hx_
  refine ⟨(H.pick [0, 1, 2, 3, 4, 5, 6] (by decide) rfl), ?_⟩
  refine t_q rfl (fun w' H => x_ld (p := .pointer (some ⟨b_7, 0, none⟩)) (v := .agg #[u0_2, u1_3, I r02, I r03]) rfl (ldb_ag (ds := [u0_2, u1_3, I r02, I r03]) Ag26 Sz26 (H.blk (k := 1) rfl) rfl rfl)) ?_
  refine t_q rfl (fun w' H => x_ld (p := .pointer (some ⟨b_7, 0, none⟩)) (v := .agg #[u0_2, u1_3, I r02, I r03]) rfl (ldb_ag (ds := [u0_2, u1_3, I r02, I r03]) Ag26 Sz26 (H.blk (k := 1) rfl) rfl rfl)) ?_
  refine t_l3 rfl rfl rfl ?_ ?_ ?_
  ·skip
   obtain ⟨r25z, hx24z, hM⟩ := M.e_bind hM
   refine s_call cf16 [.agg #[u0_2, u1_3, I r02, I r03]] rfl (zad r00 r01 r02 r03 (Reads.of (k := 2) rfl ownLe) (ownSl (H.get (k := 2) rfl)) (Reads.sup (Reads.of (k := 3) rfl ownLe) (Reads.of (k := 4) rfl roLe)) (rowSl rfl (H.get (k := 3) rfl) (roLe _ (H.get (k := 4) rfl)) hf9z) hx24z _ (St.give (T := [cBlk nb0_8 [v_more, I r13, I r22] 101, cBlk b_7 [u0_2, u1_3, I r02, I r03] 26, cOwn (α := Yr) 41 u0_2 r00, cOwn (α := Raw 3) 43 u1_3 rr2_4, cRo Bs3_5, cOwn (α := Int) 3 u4_6 r12, cBlk nb0_1 [v_numbers, I q1, I q2] 101]) H rfl)) ?_
   rintro vq w26z ⟨r0, r14, r23, r3, u0_9, u1_10, rr2_11, Bs3_12, hr27z, hvq, H2_, hf28z⟩
   subst hr27z
   subst vq
   try dsimp only at hM
   replace H : St w w26z [cOwn (α := Yr) 41 u0_9 r0, cOwn (α := Raw 3) 43 u1_10 rr2_11, cRo Bs3_12, cBlk nb0_8 [v_more, I r13, I r22] 101, cBlk b_7 [u0_2, u1_3, I r02, I r03] 26, cOwn (α := Yr) 41 u0_2 r00, cOwn (α := Raw 3) 43 u1_3 rr2_4, cRo Bs3_5, cOwn (α := Int) 3 u4_6 r12, cBlk nb0_1 [v_numbers, I q1, I q2] 101] R := H.back H2_ rfl
   clear H2_
   have hvc_q29z := Sl.cells (ownSl (H.get (k := 0) rfl))
   have hvo_q29z := Sl.oc (ownSl (H.get (k := 0) rfl))
   have hvc_q30z := Sl.cells (ownSl (H.get (k := 1) rfl))
   have hvo_q30z := Sl.oc (ownSl (H.get (k := 1) rfl))
   refine s_nil ⟨(H.pick [3, 4, 5, 6, 7, 8, 9] (by decide) rfl), ?_⟩
   refine t_l3 rfl rfl rfl ?_ ?_ ?_
   ·skip
    obtain ⟨r39z, hx38z, hM⟩ := M.e_bind hM
    refine s_call cf16 [.agg #[u0_2, u1_3, I r02, I r03]] rfl (zad r00 r01 r02 r03 (Reads.of (k := 5) rfl ownLe) (ownSl (H.get (k := 5) rfl)) (Reads.sup (Reads.of (k := 6) rfl ownLe) (Reads.of (k := 7) rfl roLe)) (rowSl rfl (H.get (k := 6) rfl) (roLe _ (H.get (k := 7) rfl)) hf9z) hx38z _ (St.give (T := [cOwn (α := Yr) 41 u0_9 r0, cOwn (α := Raw 3) 43 u1_10 rr2_11, cRo Bs3_12, cBlk nb0_8 [v_more, I r13, I r22] 101, cBlk b_7 [u0_2, u1_3, I r02, I r03] 26, cOwn (α := Yr) 41 u0_2 r00, cOwn (α := Raw 3) 43 u1_3 rr2_4, cRo Bs3_5, cOwn (α := Int) 3 u4_6 r12, cBlk nb0_1 [v_numbers, I q1, I q2] 101]) H rfl)) ?_
    rintro vq w40z ⟨r04, r15, r24, r32, u0_13, u1_14, rr2_15, Bs3_16, hr41z, hvq, H2_, hf42z⟩
    subst hr41z
    subst vq
    try dsimp only at hM
    replace H : St w w40z [cOwn (α := Yr) 41 u0_13 r04, cOwn (α := Raw 3) 43 u1_14 rr2_15, cRo Bs3_16, cOwn (α := Yr) 41 u0_9 r0, cOwn (α := Raw 3) 43 u1_10 rr2_11, cRo Bs3_12, cBlk nb0_8 [v_more, I r13, I r22] 101, cBlk b_7 [u0_2, u1_3, I r02, I r03] 26, cOwn (α := Yr) 41 u0_2 r00, cOwn (α := Raw 3) 43 u1_3 rr2_4, cRo Bs3_5, cOwn (α := Int) 3 u4_6 r12, cBlk nb0_1 [v_numbers, I q1, I q2] 101] R := H.back H2_ rfl
    clear H2_
    have hvc_q43z := Sl.cells (ownSl (H.get (k := 0) rfl))
    have hvo_q43z := Sl.oc (ownSl (H.get (k := 0) rfl))
    have hvc_q44z := Sl.cells (ownSl (H.get (k := 1) rfl))
    have hvo_q44z := Sl.oc (ownSl (H.get (k := 1) rfl))
    refine s_nil ⟨(H.pick [6, 7, 8, 9, 10, 11, 12] (by decide) rfl), ?_⟩
    refine t_l2 rfl rfl ?_ ?_
    ·skip
     refine t_alloc (cs := [.slice none 0 0, .slice none 0 0, I 0, I 0]) H Al26 rfl ?_
     intro b_17 w49z H
     refine s_nil ⟨(H.pick [7, 8, 9, 10, 11, 12, 13] (by decide) rfl), ?_⟩
     refine t_l rfl ?_
     refine t_alloc (cs := [.slice none 0 0, .slice none 0 0, I 0, I 0]) H Al26 rfl ?_
     intro b_18 w50z H
     refine s_nil ⟨(H.pick [8, 9, 10, 11, 12, 13, 14] (by decide) rfl), ?_⟩
     refine t_l rfl ?_
     refine t_st (k := 1) (b := b_17) (off := 0) (cs := [.slice none 0 0, .slice none 0 0, I 0, I 0]) (vs := [u0_9, u1_10, I r23, I r3]) (cs' := [u0_9, u1_10, I r23, I r3]) (v := .agg #[u0_9, u1_10, I r23, I r3]) (L' := [cBlk b_18 [.slice none 0 0, .slice none 0 0, I 0, I 0] 26, cBlk b_17 [u0_9, u1_10, I r23, I r3] 26, cOwn (α := Yr) 41 u0_13 r04, cOwn (α := Raw 3) 43 u1_14 rr2_15, cRo Bs3_16, cOwn (α := Yr) 41 u0_9 r0, cOwn (α := Raw 3) 43 u1_10 rr2_11, cRo Bs3_12, cBlk nb0_8 [v_more, I r13, I r22] 101, cBlk b_7 [u0_2, u1_3, I r02, I r03] 26, cOwn (α := Yr) 41 u0_2 r00, cOwn (α := Raw 3) 43 u1_3 rr2_4, cRo Bs3_5, cOwn (α := Int) 3 u4_6 r12, cBlk nb0_1 [v_numbers, I q1, I q2] 101]) H rfl rfl rfl Sz26 rfl rfl rfl (by simp only [List.all_cons, List.all_nil, Bool.true_and, Bool.and_true, Sl.oc (ownSl (H.get (k := 5) rfl)), Sl.oc (rowSl rfl (H.get (k := 6) rfl) (roLe _ (H.get (k := 7) rfl)) hf28z)]; try rfl) rfl rfl ?_
     intro w51z H
     refine s_nil ⟨(H.pick [8, 9, 10, 11, 12, 13, 14] (by decide) rfl), ?_⟩
     refine t_l rfl ?_
     refine t_st (k := 0) (b := b_18) (off := 0) (cs := [.slice none 0 0, .slice none 0 0, I 0, I 0]) (vs := [u0_13, u1_14, I r24, I r32]) (cs' := [u0_13, u1_14, I r24, I r32]) (v := .agg #[u0_13, u1_14, I r24, I r32]) (L' := [cBlk b_18 [u0_13, u1_14, I r24, I r32] 26, cBlk b_17 [u0_9, u1_10, I r23, I r3] 26, cOwn (α := Yr) 41 u0_13 r04, cOwn (α := Raw 3) 43 u1_14 rr2_15, cRo Bs3_16, cOwn (α := Yr) 41 u0_9 r0, cOwn (α := Raw 3) 43 u1_10 rr2_11, cRo Bs3_12, cBlk nb0_8 [v_more, I r13, I r22] 101, cBlk b_7 [u0_2, u1_3, I r02, I r03] 26, cOwn (α := Yr) 41 u0_2 r00, cOwn (α := Raw 3) 43 u1_3 rr2_4, cRo Bs3_5, cOwn (α := Int) 3 u4_6 r12, cBlk nb0_1 [v_numbers, I q1, I q2] 101]) H rfl rfl rfl Sz26 rfl rfl rfl (by simp only [List.all_cons, List.all_nil, Bool.true_and, Bool.and_true, Sl.oc (ownSl (H.get (k := 2) rfl)), Sl.oc (rowSl rfl (H.get (k := 3) rfl) (roLe _ (H.get (k := 4) rfl)) hf42z)]; try rfl) rfl rfl ?_
     intro w52z H
     refine s_nil ⟨(H.pick [8, 9, 10, 11, 12, 13, 14] (by decide) rfl), ?_⟩
     refine t_nil ?_
     exact ⟨b_17, b_18, r0, r14, r23, r3, r04, r15, r24, r32, u0_13, u1_14, u0_9, u1_10, rr2_15, Bs3_16, rr2_11, Bs3_12, _, upds_of _ _ ⟨rfl, rfl, rfl, rfl, rfl, rfl, rfl, trivial⟩, hM, H, hf42z, hf28z⟩
    skip
    refine t_alloc (cs := [.slice none 0 0, .slice none 0 0, I 0, I 0]) H Al26 rfl ?_
    intro b_18 w53z H
    refine s_nil ⟨(H.pick [7, 8, 9, 10, 11, 12, 13] (by decide) rfl), ?_⟩
    refine t_l rfl ?_
    refine t_alloc (cs := [.slice none 0 0, .slice none 0 0, I 0, I 0]) H Al26 rfl ?_
    intro b_17 w54z H
    refine s_nil ⟨(H.pick [8, 9, 10, 11, 12, 13, 14] (by decide) rfl), ?_⟩
    refine t_l rfl ?_
    refine t_st (k := 0) (b := b_17) (off := 0) (cs := [.slice none 0 0, .slice none 0 0, I 0, I 0]) (vs := [u0_9, u1_10, I r23, I r3]) (cs' := [u0_9, u1_10, I r23, I r3]) (v := .agg #[u0_9, u1_10, I r23, I r3]) (L' := [cBlk b_17 [u0_9, u1_10, I r23, I r3] 26, cBlk b_18 [.slice none 0 0, .slice none 0 0, I 0, I 0] 26, cOwn (α := Yr) 41 u0_13 r04, cOwn (α := Raw 3) 43 u1_14 rr2_15, cRo Bs3_16, cOwn (α := Yr) 41 u0_9 r0, cOwn (α := Raw 3) 43 u1_10 rr2_11, cRo Bs3_12, cBlk nb0_8 [v_more, I r13, I r22] 101, cBlk b_7 [u0_2, u1_3, I r02, I r03] 26, cOwn (α := Yr) 41 u0_2 r00, cOwn (α := Raw 3) 43 u1_3 rr2_4, cRo Bs3_5, cOwn (α := Int) 3 u4_6 r12, cBlk nb0_1 [v_numbers, I q1, I q2] 101]) H rfl rfl rfl Sz26 rfl rfl rfl (by simp only [List.all_cons, List.all_nil, Bool.true_and, Bool.and_true, Sl.oc (ownSl (H.get (k := 5) rfl)), Sl.oc (rowSl rfl (H.get (k := 6) rfl) (roLe _ (H.get (k := 7) rfl)) hf28z)]; try rfl) rfl rfl ?_
    intro w55z H
    refine s_nil ⟨(H.pick [8, 9, 10, 11, 12, 13, 14] (by decide) rfl), ?_⟩
    refine t_l rfl ?_
    refine t_st (k := 1) (b := b_18) (off := 0) (cs := [.slice none 0 0, .slice none 0 0, I 0, I 0]) (vs := [u0_13, u1_14, I r24, I r32]) (cs' := [u0_13, u1_14, I r24, I r32]) (v := .agg #[u0_13, u1_14, I r24, I r32]) (L' := [cBlk b_17 [u0_9, u1_10, I r23, I r3] 26, cBlk b_18 [u0_13, u1_14, I r24, I r32] 26, cOwn (α := Yr) 41 u0_13 r04, cOwn (α := Raw 3) 43 u1_14 rr2_15, cRo Bs3_16, cOwn (α := Yr) 41 u0_9 r0, cOwn (α := Raw 3) 43 u1_10 rr2_11, cRo Bs3_12, cBlk nb0_8 [v_more, I r13, I r22] 101, cBlk b_7 [u0_2, u1_3, I r02, I r03] 26, cOwn (α := Yr) 41 u0_2 r00, cOwn (α := Raw 3) 43 u1_3 rr2_4, cRo Bs3_5, cOwn (α := Int) 3 u4_6 r12, cBlk nb0_1 [v_numbers, I q1, I q2] 101]) H rfl rfl rfl Sz26 rfl rfl rfl (by simp only [List.all_cons, List.all_nil, Bool.true_and, Bool.and_true, Sl.oc (ownSl (H.get (k := 2) rfl)), Sl.oc (rowSl rfl (H.get (k := 3) rfl) (roLe _ (H.get (k := 4) rfl)) hf42z)]; try rfl) rfl rfl ?_
    intro w56z H
    refine s_nil ⟨(H.pick [8, 9, 10, 11, 12, 13, 14] (by decide) rfl), ?_⟩
    refine t_nil ?_
    exact ⟨b_17, b_18, r0, r14, r23, r3, r04, r15, r24, r32, u0_13, u1_14, u0_9, u1_10, rr2_15, Bs3_16, rr2_11, Bs3_12, _, upds_of _ _ ⟨rfl, rfl, rfl, rfl, rfl, rfl, rfl, trivial⟩, hM, (H.pick [1, 0, 2, 3, 4, 5, 6, 7, 8, 9, 10, 11, 12, 13, 14] (by decide) rfl), hf42z, hf28z⟩
   ·skip
    refine t_alloc (cs := [.slice none 0 0, .slice none 0 0, I 0, I 0]) H Al26 rfl ?_
    intro b_17 w57z H
    refine s_nil ⟨(H.pick [4, 5, 6, 7, 8, 9, 10] (by decide) rfl), ?_⟩
    refine t_l2 rfl rfl ?_ ?_
    ·skip
     obtain ⟨r73z, hx72z, hM⟩ := M.e_bind hM
     refine s_call cf16 [.agg #[u0_2, u1_3, I r02, I r03]] rfl (zad r00 r01 r02 r03 (Reads.of (k := 6) rfl ownLe) (ownSl (H.get (k := 6) rfl)) (Reads.sup (Reads.of (k := 7) rfl ownLe) (Reads.of (k := 8) rfl roLe)) (rowSl rfl (H.get (k := 7) rfl) (roLe _ (H.get (k := 8) rfl)) hf9z) hx72z _ (St.give (T := [cBlk b_17 [.slice none 0 0, .slice none 0 0, I 0, I 0] 26, cOwn (α := Yr) 41 u0_9 r0, cOwn (α := Raw 3) 43 u1_10 rr2_11, cRo Bs3_12, cBlk nb0_8 [v_more, I r13, I r22] 101, cBlk b_7 [u0_2, u1_3, I r02, I r03] 26, cOwn (α := Yr) 41 u0_2 r00, cOwn (α := Raw 3) 43 u1_3 rr2_4, cRo Bs3_5, cOwn (α := Int) 3 u4_6 r12, cBlk nb0_1 [v_numbers, I q1, I q2] 101]) H rfl)) ?_
     rintro vq w74z ⟨r04, r15, r24, r32, u0_13, u1_14, rr2_15, Bs3_16, hr75z, hvq, H2_, hf76z⟩
     subst hr75z
     subst vq
     try dsimp only at hM
     replace H : St w w74z [cOwn (α := Yr) 41 u0_13 r04, cOwn (α := Raw 3) 43 u1_14 rr2_15, cRo Bs3_16, cBlk b_17 [.slice none 0 0, .slice none 0 0, I 0, I 0] 26, cOwn (α := Yr) 41 u0_9 r0, cOwn (α := Raw 3) 43 u1_10 rr2_11, cRo Bs3_12, cBlk nb0_8 [v_more, I r13, I r22] 101, cBlk b_7 [u0_2, u1_3, I r02, I r03] 26, cOwn (α := Yr) 41 u0_2 r00, cOwn (α := Raw 3) 43 u1_3 rr2_4, cRo Bs3_5, cOwn (α := Int) 3 u4_6 r12, cBlk nb0_1 [v_numbers, I q1, I q2] 101] R := H.back H2_ rfl
     clear H2_
     have hvc_q77z := Sl.cells (ownSl (H.get (k := 0) rfl))
     have hvo_q77z := Sl.oc (ownSl (H.get (k := 0) rfl))
     have hvc_q78z := Sl.cells (ownSl (H.get (k := 1) rfl))
     have hvo_q78z := Sl.oc (ownSl (H.get (k := 1) rfl))
     refine s_nil ⟨(H.pick [7, 8, 9, 10, 11, 12, 13] (by decide) rfl), ?_⟩
     refine t_l rfl ?_
     refine t_alloc (cs := [.slice none 0 0, .slice none 0 0, I 0, I 0]) H Al26 rfl ?_
     intro b_18 w79z H
     refine s_nil ⟨(H.pick [8, 9, 10, 11, 12, 13, 14] (by decide) rfl), ?_⟩
     refine t_l rfl ?_
     refine t_st (k := 4) (b := b_17) (off := 0) (cs := [.slice none 0 0, .slice none 0 0, I 0, I 0]) (vs := [u0_9, u1_10, I r23, I r3]) (cs' := [u0_9, u1_10, I r23, I r3]) (v := .agg #[u0_9, u1_10, I r23, I r3]) (L' := [cBlk b_18 [.slice none 0 0, .slice none 0 0, I 0, I 0] 26, cOwn (α := Yr) 41 u0_13 r04, cOwn (α := Raw 3) 43 u1_14 rr2_15, cRo Bs3_16, cBlk b_17 [u0_9, u1_10, I r23, I r3] 26, cOwn (α := Yr) 41 u0_9 r0, cOwn (α := Raw 3) 43 u1_10 rr2_11, cRo Bs3_12, cBlk nb0_8 [v_more, I r13, I r22] 101, cBlk b_7 [u0_2, u1_3, I r02, I r03] 26, cOwn (α := Yr) 41 u0_2 r00, cOwn (α := Raw 3) 43 u1_3 rr2_4, cRo Bs3_5, cOwn (α := Int) 3 u4_6 r12, cBlk nb0_1 [v_numbers, I q1, I q2] 101]) H rfl rfl rfl Sz26 rfl rfl rfl (by simp only [List.all_cons, List.all_nil, Bool.true_and, Bool.and_true, Sl.oc (ownSl (H.get (k := 5) rfl)), Sl.oc (rowSl rfl (H.get (k := 6) rfl) (roLe _ (H.get (k := 7) rfl)) hf28z)]; try rfl) rfl rfl ?_
     intro w80z H
     refine s_nil ⟨(H.pick [8, 9, 10, 11, 12, 13, 14] (by decide) rfl), ?_⟩
     refine t_l rfl ?_
     refine t_st (k := 0) (b := b_18) (off := 0) (cs := [.slice none 0 0, .slice none 0 0, I 0, I 0]) (vs := [u0_13, u1_14, I r24, I r32]) (cs' := [u0_13, u1_14, I r24, I r32]) (v := .agg #[u0_13, u1_14, I r24, I r32]) (L' := [cBlk b_18 [u0_13, u1_14, I r24, I r32] 26, cOwn (α := Yr) 41 u0_13 r04, cOwn (α := Raw 3) 43 u1_14 rr2_15, cRo Bs3_16, cBlk b_17 [u0_9, u1_10, I r23, I r3] 26, cOwn (α := Yr) 41 u0_9 r0, cOwn (α := Raw 3) 43 u1_10 rr2_11, cRo Bs3_12, cBlk nb0_8 [v_more, I r13, I r22] 101, cBlk b_7 [u0_2, u1_3, I r02, I r03] 26, cOwn (α := Yr) 41 u0_2 r00, cOwn (α := Raw 3) 43 u1_3 rr2_4, cRo Bs3_5, cOwn (α := Int) 3 u4_6 r12, cBlk nb0_1 [v_numbers, I q1, I q2] 101]) H rfl rfl rfl Sz26 rfl rfl rfl (by simp only [List.all_cons, List.all_nil, Bool.true_and, Bool.and_true, Sl.oc (ownSl (H.get (k := 1) rfl)), Sl.oc (rowSl rfl (H.get (k := 2) rfl) (roLe _ (H.get (k := 3) rfl)) hf76z)]; try rfl) rfl rfl ?_
     intro w81z H
     refine s_nil ⟨(H.pick [8, 9, 10, 11, 12, 13, 14] (by decide) rfl), ?_⟩
     refine t_nil ?_
     exact ⟨b_17, b_18, r0, r14, r23, r3, r04, r15, r24, r32, u0_13, u1_14, u0_9, u1_10, rr2_15, Bs3_16, rr2_11, Bs3_12, _, upds_of _ _ ⟨rfl, rfl, rfl, rfl, rfl, rfl, rfl, trivial⟩, hM, (H.pick [0, 4, 1, 2, 3, 5, 6, 7, 8, 9, 10, 11, 12, 13, 14] (by decide) rfl), hf76z, hf28z⟩
    skip
    refine t_alloc (cs := [.slice none 0 0, .slice none 0 0, I 0, I 0]) H Al26 rfl ?_
    intro b_18 w82z H
    refine s_nil ⟨(H.pick [5, 6, 7, 8, 9, 10, 11] (by decide) rfl), ?_⟩
    refine t_l rfl ?_
    obtain ⟨r84z, hx83z, hM⟩ := M.e_bind hM
    refine s_call cf16 [.agg #[u0_2, u1_3, I r02, I r03]] rfl (zad r00 r01 r02 r03 (Reads.of (k := 7) rfl ownLe) (ownSl (H.get (k := 7) rfl)) (Reads.sup (Reads.of (k := 8) rfl ownLe) (Reads.of (k := 9) rfl roLe)) (rowSl rfl (H.get (k := 8) rfl) (roLe _ (H.get (k := 9) rfl)) hf9z) hx83z _ (St.give (T := [cBlk b_18 [.slice none 0 0, .slice none 0 0, I 0, I 0] 26, cBlk b_17 [.slice none 0 0, .slice none 0 0, I 0, I 0] 26, cOwn (α := Yr) 41 u0_9 r0, cOwn (α := Raw 3) 43 u1_10 rr2_11, cRo Bs3_12, cBlk nb0_8 [v_more, I r13, I r22] 101, cBlk b_7 [u0_2, u1_3, I r02, I r03] 26, cOwn (α := Yr) 41 u0_2 r00, cOwn (α := Raw 3) 43 u1_3 rr2_4, cRo Bs3_5, cOwn (α := Int) 3 u4_6 r12, cBlk nb0_1 [v_numbers, I q1, I q2] 101]) H rfl)) ?_
    rintro vq w85z ⟨r04, r15, r24, r32, u0_13, u1_14, rr2_15, Bs3_16, hr86z, hvq, H2_, hf87z⟩
    subst hr86z
    subst vq
    try dsimp only at hM
    replace H : St w w85z [cOwn (α := Yr) 41 u0_13 r04, cOwn (α := Raw 3) 43 u1_14 rr2_15, cRo Bs3_16, cBlk b_18 [.slice none 0 0, .slice none 0 0, I 0, I 0] 26, cBlk b_17 [.slice none 0 0, .slice none 0 0, I 0, I 0] 26, cOwn (α := Yr) 41 u0_9 r0, cOwn (α := Raw 3) 43 u1_10 rr2_11, cRo Bs3_12, cBlk nb0_8 [v_more, I r13, I r22] 101, cBlk b_7 [u0_2, u1_3, I r02, I r03] 26, cOwn (α := Yr) 41 u0_2 r00, cOwn (α := Raw 3) 43 u1_3 rr2_4, cRo Bs3_5, cOwn (α := Int) 3 u4_6 r12, cBlk nb0_1 [v_numbers, I q1, I q2] 101] R := H.back H2_ rfl
    clear H2_
    have hvc_q88z := Sl.cells (ownSl (H.get (k := 0) rfl))
    have hvo_q88z := Sl.oc (ownSl (H.get (k := 0) rfl))
    have hvc_q89z := Sl.cells (ownSl (H.get (k := 1) rfl))
    have hvo_q89z := Sl.oc (ownSl (H.get (k := 1) rfl))
    refine s_nil ⟨(H.pick [8, 9, 10, 11, 12, 13, 14] (by decide) rfl), ?_⟩
    refine t_l rfl ?_
    refine t_st (k := 4) (b := b_17) (off := 0) (cs := [.slice none 0 0, .slice none 0 0, I 0, I 0]) (vs := [u0_9, u1_10, I r23, I r3]) (cs' := [u0_9, u1_10, I r23, I r3]) (v := .agg #[u0_9, u1_10, I r23, I r3]) (L' := [cOwn (α := Yr) 41 u0_13 r04, cOwn (α := Raw 3) 43 u1_14 rr2_15, cRo Bs3_16, cBlk b_18 [.slice none 0 0, .slice none 0 0, I 0, I 0] 26, cBlk b_17 [u0_9, u1_10, I r23, I r3] 26, cOwn (α := Yr) 41 u0_9 r0, cOwn (α := Raw 3) 43 u1_10 rr2_11, cRo Bs3_12, cBlk nb0_8 [v_more, I r13, I r22] 101, cBlk b_7 [u0_2, u1_3, I r02, I r03] 26, cOwn (α := Yr) 41 u0_2 r00, cOwn (α := Raw 3) 43 u1_3 rr2_4, cRo Bs3_5, cOwn (α := Int) 3 u4_6 r12, cBlk nb0_1 [v_numbers, I q1, I q2] 101]) H rfl rfl rfl Sz26 rfl rfl rfl (by simp only [List.all_cons, List.all_nil, Bool.true_and, Bool.and_true, Sl.oc (ownSl (H.get (k := 5) rfl)), Sl.oc (rowSl rfl (H.get (k := 6) rfl) (roLe _ (H.get (k := 7) rfl)) hf28z)]; try rfl) rfl rfl ?_
    intro w90z H
    refine s_nil ⟨(H.pick [8, 9, 10, 11, 12, 13, 14] (by decide) rfl), ?_⟩
    refine t_l rfl ?_
    refine t_st (k := 3) (b := b_18) (off := 0) (cs := [.slice none 0 0, .slice none 0 0, I 0, I 0]) (vs := [u0_13, u1_14, I r24, I r32]) (cs' := [u0_13, u1_14, I r24, I r32]) (v := .agg #[u0_13, u1_14, I r24, I r32]) (L' := [cOwn (α := Yr) 41 u0_13 r04, cOwn (α := Raw 3) 43 u1_14 rr2_15, cRo Bs3_16, cBlk b_18 [u0_13, u1_14, I r24, I r32] 26, cBlk b_17 [u0_9, u1_10, I r23, I r3] 26, cOwn (α := Yr) 41 u0_9 r0, cOwn (α := Raw 3) 43 u1_10 rr2_11, cRo Bs3_12, cBlk nb0_8 [v_more, I r13, I r22] 101, cBlk b_7 [u0_2, u1_3, I r02, I r03] 26, cOwn (α := Yr) 41 u0_2 r00, cOwn (α := Raw 3) 43 u1_3 rr2_4, cRo Bs3_5, cOwn (α := Int) 3 u4_6 r12, cBlk nb0_1 [v_numbers, I q1, I q2] 101]) H rfl rfl rfl Sz26 rfl rfl rfl (by simp only [List.all_cons, List.all_nil, Bool.true_and, Bool.and_true, Sl.oc (ownSl (H.get (k := 0) rfl)), Sl.oc (rowSl rfl (H.get (k := 1) rfl) (roLe _ (H.get (k := 2) rfl)) hf87z)]; try rfl) rfl rfl ?_
    intro w91z H
    refine s_nil ⟨(H.pick [8, 9, 10, 11, 12, 13, 14] (by decide) rfl), ?_⟩
    refine t_nil ?_
    exact ⟨b_17, b_18, r0, r14, r23, r3, r04, r15, r24, r32, u0_13, u1_14, u0_9, u1_10, rr2_15, Bs3_16, rr2_11, Bs3_12, _, upds_of _ _ ⟨rfl, rfl, rfl, rfl, rfl, rfl, rfl, trivial⟩, hM, (H.pick [3, 4, 0, 1, 2, 5, 6, 7, 8, 9, 10, 11, 12, 13, 14] (by decide) rfl), hf87z, hf28z⟩
   skip
   refine t_alloc (cs := [.slice none 0 0, .slice none 0 0, I 0, I 0]) H Al26 rfl ?_
   intro b_18 w92z H
   refine s_nil ⟨(H.pick [4, 5, 6, 7, 8, 9, 10] (by decide) rfl), ?_⟩
   refine t_l2 rfl rfl ?_ ?_
   ·skip
    obtain ⟨r108z, hx107z, hM⟩ := M.e_bind hM
    refine s_call cf16 [.agg #[u0_2, u1_3, I r02, I r03]] rfl (zad r00 r01 r02 r03 (Reads.of (k := 6) rfl ownLe) (ownSl (H.get (k := 6) rfl)) (Reads.sup (Reads.of (k := 7) rfl ownLe) (Reads.of (k := 8) rfl roLe)) (rowSl rfl (H.get (k := 7) rfl) (roLe _ (H.get (k := 8) rfl)) hf9z) hx107z _ (St.give (T := [cBlk b_18 [.slice none 0 0, .slice none 0 0, I 0, I 0] 26, cOwn (α := Yr) 41 u0_9 r0, cOwn (α := Raw 3) 43 u1_10 rr2_11, cRo Bs3_12, cBlk nb0_8 [v_more, I r13, I r22] 101, cBlk b_7 [u0_2, u1_3, I r02, I r03] 26, cOwn (α := Yr) 41 u0_2 r00, cOwn (α := Raw 3) 43 u1_3 rr2_4, cRo Bs3_5, cOwn (α := Int) 3 u4_6 r12, cBlk nb0_1 [v_numbers, I q1, I q2] 101]) H rfl)) ?_
    rintro vq w109z ⟨r04, r15, r24, r32, u0_13, u1_14, rr2_15, Bs3_16, hr110z, hvq, H2_, hf111z⟩
    subst hr110z
    subst vq
    try dsimp only at hM
    replace H : St w w109z [cOwn (α := Yr) 41 u0_13 r04, cOwn (α := Raw 3) 43 u1_14 rr2_15, cRo Bs3_16, cBlk b_18 [.slice none 0 0, .slice none 0 0, I 0, I 0] 26, cOwn (α := Yr) 41 u0_9 r0, cOwn (α := Raw 3) 43 u1_10 rr2_11, cRo Bs3_12, cBlk nb0_8 [v_more, I r13, I r22] 101, cBlk b_7 [u0_2, u1_3, I r02, I r03] 26, cOwn (α := Yr) 41 u0_2 r00, cOwn (α := Raw 3) 43 u1_3 rr2_4, cRo Bs3_5, cOwn (α := Int) 3 u4_6 r12, cBlk nb0_1 [v_numbers, I q1, I q2] 101] R := H.back H2_ rfl
    clear H2_
    have hvc_q112z := Sl.cells (ownSl (H.get (k := 0) rfl))
    have hvo_q112z := Sl.oc (ownSl (H.get (k := 0) rfl))
    have hvc_q113z := Sl.cells (ownSl (H.get (k := 1) rfl))
    have hvo_q113z := Sl.oc (ownSl (H.get (k := 1) rfl))
    refine s_nil ⟨(H.pick [7, 8, 9, 10, 11, 12, 13] (by decide) rfl), ?_⟩
    refine t_l rfl ?_
    refine t_alloc (cs := [.slice none 0 0, .slice none 0 0, I 0, I 0]) H Al26 rfl ?_
    intro b_17 w114z H
    refine s_nil ⟨(H.pick [8, 9, 10, 11, 12, 13, 14] (by decide) rfl), ?_⟩
    refine t_l rfl ?_
    refine t_st (k := 0) (b := b_17) (off := 0) (cs := [.slice none 0 0, .slice none 0 0, I 0, I 0]) (vs := [u0_9, u1_10, I r23, I r3]) (cs' := [u0_9, u1_10, I r23, I r3]) (v := .agg #[u0_9, u1_10, I r23, I r3]) (L' := [cBlk b_17 [u0_9, u1_10, I r23, I r3] 26, cOwn (α := Yr) 41 u0_13 r04, cOwn (α := Raw 3) 43 u1_14 rr2_15, cRo Bs3_16, cBlk b_18 [.slice none 0 0, .slice none 0 0, I 0, I 0] 26, cOwn (α := Yr) 41 u0_9 r0, cOwn (α := Raw 3) 43 u1_10 rr2_11, cRo Bs3_12, cBlk nb0_8 [v_more, I r13, I r22] 101, cBlk b_7 [u0_2, u1_3, I r02, I r03] 26, cOwn (α := Yr) 41 u0_2 r00, cOwn (α := Raw 3) 43 u1_3 rr2_4, cRo Bs3_5, cOwn (α := Int) 3 u4_6 r12, cBlk nb0_1 [v_numbers, I q1, I q2] 101]) H rfl rfl rfl Sz26 rfl rfl rfl (by simp only [List.all_cons, List.all_nil, Bool.true_and, Bool.and_true, Sl.oc (ownSl (H.get (k := 5) rfl)), Sl.oc (rowSl rfl (H.get (k := 6) rfl) (roLe _ (H.get (k := 7) rfl)) hf28z)]; try rfl) rfl rfl ?_
    intro w115z H
    refine s_nil ⟨(H.pick [8, 9, 10, 11, 12, 13, 14] (by decide) rfl), ?_⟩
    refine t_l rfl ?_
    refine t_st (k := 4) (b := b_18) (off := 0) (cs := [.slice none 0 0, .slice none 0 0, I 0, I 0]) (vs := [u0_13, u1_14, I r24, I r32]) (cs' := [u0_13, u1_14, I r24, I r32]) (v := .agg #[u0_13, u1_14, I r24, I r32]) (L' := [cBlk b_17 [u0_9, u1_10, I r23, I r3] 26, cOwn (α := Yr) 41 u0_13 r04, cOwn (α := Raw 3) 43 u1_14 rr2_15, cRo Bs3_16, cBlk b_18 [u0_13, u1_14, I r24, I r32] 26, cOwn (α := Yr) 41 u0_9 r0, cOwn (α := Raw 3) 43 u1_10 rr2_11, cRo Bs3_12, cBlk nb0_8 [v_more, I r13, I r22] 101, cBlk b_7 [u0_2, u1_3, I r02, I r03] 26, cOwn (α := Yr) 41 u0_2 r00, cOwn (α := Raw 3) 43 u1_3 rr2_4, cRo Bs3_5, cOwn (α := Int) 3 u4_6 r12, cBlk nb0_1 [v_numbers, I q1, I q2] 101]) H rfl rfl rfl Sz26 rfl rfl rfl (by simp only [List.all_cons, List.all_nil, Bool.true_and, Bool.and_true, Sl.oc (ownSl (H.get (k := 1) rfl)), Sl.oc (rowSl rfl (H.get (k := 2) rfl) (roLe _ (H.get (k := 3) rfl)) hf111z)]; try rfl) rfl rfl ?_
    intro w116z H
    refine s_nil ⟨(H.pick [8, 9, 10, 11, 12, 13, 14] (by decide) rfl), ?_⟩
    refine t_nil ?_
    exact ⟨b_17, b_18, r0, r14, r23, r3, r04, r15, r24, r32, u0_13, u1_14, u0_9, u1_10, rr2_15, Bs3_16, rr2_11, Bs3_12, _, upds_of _ _ ⟨rfl, rfl, rfl, rfl, rfl, rfl, rfl, trivial⟩, hM, (H.pick [4, 0, 1, 2, 3, 5, 6, 7, 8, 9, 10, 11, 12, 13, 14] (by decide) rfl), hf111z, hf28z⟩
   skip
   refine t_alloc (cs := [.slice none 0 0, .slice none 0 0, I 0, I 0]) H Al26 rfl ?_
   intro b_17 w117z H
   refine s_nil ⟨(H.pick [5, 6, 7, 8, 9, 10, 11] (by decide) rfl), ?_⟩
   refine t_l rfl ?_
   obtain ⟨r119z, hx118z, hM⟩ := M.e_bind hM
   refine s_call cf16 [.agg #[u0_2, u1_3, I r02, I r03]] rfl (zad r00 r01 r02 r03 (Reads.of (k := 7) rfl ownLe) (ownSl (H.get (k := 7) rfl)) (Reads.sup (Reads.of (k := 8) rfl ownLe) (Reads.of (k := 9) rfl roLe)) (rowSl rfl (H.get (k := 8) rfl) (roLe _ (H.get (k := 9) rfl)) hf9z) hx118z _ (St.give (T := [cBlk b_17 [.slice none 0 0, .slice none 0 0, I 0, I 0] 26, cBlk b_18 [.slice none 0 0, .slice none 0 0, I 0, I 0] 26, cOwn (α := Yr) 41 u0_9 r0, cOwn (α := Raw 3) 43 u1_10 rr2_11, cRo Bs3_12, cBlk nb0_8 [v_more, I r13, I r22] 101, cBlk b_7 [u0_2, u1_3, I r02, I r03] 26, cOwn (α := Yr) 41 u0_2 r00, cOwn (α := Raw 3) 43 u1_3 rr2_4, cRo Bs3_5, cOwn (α := Int) 3 u4_6 r12, cBlk nb0_1 [v_numbers, I q1, I q2] 101]) H rfl)) ?_
   rintro vq w120z ⟨r04, r15, r24, r32, u0_13, u1_14, rr2_15, Bs3_16, hr121z, hvq, H2_, hf122z⟩
   subst hr121z
   subst vq
   try dsimp only at hM
   replace H : St w w120z [cOwn (α := Yr) 41 u0_13 r04, cOwn (α := Raw 3) 43 u1_14 rr2_15, cRo Bs3_16, cBlk b_17 [.slice none 0 0, .slice none 0 0, I 0, I 0] 26, cBlk b_18 [.slice none 0 0, .slice none 0 0, I 0, I 0] 26, cOwn (α := Yr) 41 u0_9 r0, cOwn (α := Raw 3) 43 u1_10 rr2_11, cRo Bs3_12, cBlk nb0_8 [v_more, I r13, I r22] 101, cBlk b_7 [u0_2, u1_3, I r02, I r03] 26, cOwn (α := Yr) 41 u0_2 r00, cOwn (α := Raw 3) 43 u1_3 rr2_4, cRo Bs3_5, cOwn (α := Int) 3 u4_6 r12, cBlk nb0_1 [v_numbers, I q1, I q2] 101] R := H.back H2_ rfl
   clear H2_
   have hvc_q123z := Sl.cells (ownSl (H.get (k := 0) rfl))
   have hvo_q123z := Sl.oc (ownSl (H.get (k := 0) rfl))
   have hvc_q124z := Sl.cells (ownSl (H.get (k := 1) rfl))
   have hvo_q124z := Sl.oc (ownSl (H.get (k := 1) rfl))
   refine s_nil ⟨(H.pick [8, 9, 10, 11, 12, 13, 14] (by decide) rfl), ?_⟩
   refine t_l rfl ?_
   refine t_st (k := 3) (b := b_17) (off := 0) (cs := [.slice none 0 0, .slice none 0 0, I 0, I 0]) (vs := [u0_9, u1_10, I r23, I r3]) (cs' := [u0_9, u1_10, I r23, I r3]) (v := .agg #[u0_9, u1_10, I r23, I r3]) (L' := [cOwn (α := Yr) 41 u0_13 r04, cOwn (α := Raw 3) 43 u1_14 rr2_15, cRo Bs3_16, cBlk b_17 [u0_9, u1_10, I r23, I r3] 26, cBlk b_18 [.slice none 0 0, .slice none 0 0, I 0, I 0] 26, cOwn (α := Yr) 41 u0_9 r0, cOwn (α := Raw 3) 43 u1_10 rr2_11, cRo Bs3_12, cBlk nb0_8 [v_more, I r13, I r22] 101, cBlk b_7 [u0_2, u1_3, I r02, I r03] 26, cOwn (α := Yr) 41 u0_2 r00, cOwn (α := Raw 3) 43 u1_3 rr2_4, cRo Bs3_5, cOwn (α := Int) 3 u4_6 r12, cBlk nb0_1 [v_numbers, I q1, I q2] 101]) H rfl rfl rfl Sz26 rfl rfl rfl (by simp only [List.all_cons, List.all_nil, Bool.true_and, Bool.and_true, Sl.oc (ownSl (H.get (k := 5) rfl)), Sl.oc (rowSl rfl (H.get (k := 6) rfl) (roLe _ (H.get (k := 7) rfl)) hf28z)]; try rfl) rfl rfl ?_
   intro w125z H
   refine s_nil ⟨(H.pick [8, 9, 10, 11, 12, 13, 14] (by decide) rfl), ?_⟩
   refine t_l rfl ?_
   refine t_st (k := 4) (b := b_18) (off := 0) (cs := [.slice none 0 0, .slice none 0 0, I 0, I 0]) (vs := [u0_13, u1_14, I r24, I r32]) (cs' := [u0_13, u1_14, I r24, I r32]) (v := .agg #[u0_13, u1_14, I r24, I r32]) (L' := [cOwn (α := Yr) 41 u0_13 r04, cOwn (α := Raw 3) 43 u1_14 rr2_15, cRo Bs3_16, cBlk b_17 [u0_9, u1_10, I r23, I r3] 26, cBlk b_18 [u0_13, u1_14, I r24, I r32] 26, cOwn (α := Yr) 41 u0_9 r0, cOwn (α := Raw 3) 43 u1_10 rr2_11, cRo Bs3_12, cBlk nb0_8 [v_more, I r13, I r22] 101, cBlk b_7 [u0_2, u1_3, I r02, I r03] 26, cOwn (α := Yr) 41 u0_2 r00, cOwn (α := Raw 3) 43 u1_3 rr2_4, cRo Bs3_5, cOwn (α := Int) 3 u4_6 r12, cBlk nb0_1 [v_numbers, I q1, I q2] 101]) H rfl rfl rfl Sz26 rfl rfl rfl (by simp only [List.all_cons, List.all_nil, Bool.true_and, Bool.and_true, Sl.oc (ownSl (H.get (k := 0) rfl)), Sl.oc (rowSl rfl (H.get (k := 1) rfl) (roLe _ (H.get (k := 2) rfl)) hf122z)]; try rfl) rfl rfl ?_
   intro w126z H
   refine s_nil ⟨(H.pick [8, 9, 10, 11, 12, 13, 14] (by decide) rfl), ?_⟩
   refine t_nil ?_
   exact ⟨b_17, b_18, r0, r14, r23, r3, r04, r15, r24, r32, u0_13, u1_14, u0_9, u1_10, rr2_15, Bs3_16, rr2_11, Bs3_12, _, upds_of _ _ ⟨rfl, rfl, rfl, rfl, rfl, rfl, rfl, trivial⟩, hM, (H.pick [4, 3, 0, 1, 2, 5, 6, 7, 8, 9, 10, 11, 12, 13, 14] (by decide) rfl), hf122z, hf28z⟩
  ·skip
   refine t_alloc (cs := [.slice none 0 0, .slice none 0 0, I 0, I 0]) H Al26 rfl ?_
   intro b_17 w127z H
   refine s_nil ⟨(H.pick [1, 2, 3, 4, 5, 6, 7] (by decide) rfl), ?_⟩
   refine t_l2 rfl rfl ?_ ?_
   ·skip
    obtain ⟨r148z, hx147z, hM⟩ := M.e_bind hM
    refine s_call cf16 [.agg #[u0_2, u1_3, I r02, I r03]] rfl (zad r00 r01 r02 r03 (Reads.of (k := 3) rfl ownLe) (ownSl (H.get (k := 3) rfl)) (Reads.sup (Reads.of (k := 4) rfl ownLe) (Reads.of (k := 5) rfl roLe)) (rowSl rfl (H.get (k := 4) rfl) (roLe _ (H.get (k := 5) rfl)) hf9z) hx147z _ (St.give (T := [cBlk b_17 [.slice none 0 0, .slice none 0 0, I 0, I 0] 26, cBlk nb0_8 [v_more, I r13, I r22] 101, cBlk b_7 [u0_2, u1_3, I r02, I r03] 26, cOwn (α := Yr) 41 u0_2 r00, cOwn (α := Raw 3) 43 u1_3 rr2_4, cRo Bs3_5, cOwn (α := Int) 3 u4_6 r12, cBlk nb0_1 [v_numbers, I q1, I q2] 101]) H rfl)) ?_
    rintro vq w149z ⟨r0, r14, r23, r3, u0_9, u1_10, rr2_11, Bs3_12, hr150z, hvq, H2_, hf151z⟩
    subst hr150z
    subst vq
    try dsimp only at hM
    replace H : St w w149z [cOwn (α := Yr) 41 u0_9 r0, cOwn (α := Raw 3) 43 u1_10 rr2_11, cRo Bs3_12, cBlk b_17 [.slice none 0 0, .slice none 0 0, I 0, I 0] 26, cBlk nb0_8 [v_more, I r13, I r22] 101, cBlk b_7 [u0_2, u1_3, I r02, I r03] 26, cOwn (α := Yr) 41 u0_2 r00, cOwn (α := Raw 3) 43 u1_3 rr2_4, cRo Bs3_5, cOwn (α := Int) 3 u4_6 r12, cBlk nb0_1 [v_numbers, I q1, I q2] 101] R := H.back H2_ rfl
    clear H2_
    have hvc_q152z := Sl.cells (ownSl (H.get (k := 0) rfl))
    have hvo_q152z := Sl.oc (ownSl (H.get (k := 0) rfl))
    have hvc_q153z := Sl.cells (ownSl (H.get (k := 1) rfl))
    have hvo_q153z := Sl.oc (ownSl (H.get (k := 1) rfl))
    refine s_nil ⟨(H.pick [4, 5, 6, 7, 8, 9, 10] (by decide) rfl), ?_⟩
    refine t_l2 rfl rfl ?_ ?_
    ·skip
     obtain ⟨r169z, hx168z, hM⟩ := M.e_bind hM
     refine s_call cf16 [.agg #[u0_2, u1_3, I r02, I r03]] rfl (zad r00 r01 r02 r03 (Reads.of (k := 6) rfl ownLe) (ownSl (H.get (k := 6) rfl)) (Reads.sup (Reads.of (k := 7) rfl ownLe) (Reads.of (k := 8) rfl roLe)) (rowSl rfl (H.get (k := 7) rfl) (roLe _ (H.get (k := 8) rfl)) hf9z) hx168z _ (St.give (T := [cOwn (α := Yr) 41 u0_9 r0, cOwn (α := Raw 3) 43 u1_10 rr2_11, cRo Bs3_12, cBlk b_17 [.slice none 0 0, .slice none 0 0, I 0, I 0] 26, cBlk nb0_8 [v_more, I r13, I r22] 101, cBlk b_7 [u0_2, u1_3, I r02, I r03] 26, cOwn (α := Yr) 41 u0_2 r00, cOwn (α := Raw 3) 43 u1_3 rr2_4, cRo Bs3_5, cOwn (α := Int) 3 u4_6 r12, cBlk nb0_1 [v_numbers, I q1, I q2] 101]) H rfl)) ?_
     rintro vq w170z ⟨r04, r15, r24, r32, u0_13, u1_14, rr2_15, Bs3_16, hr171z, hvq, H2_, hf172z⟩
     subst hr171z
     subst vq
     try dsimp only at hM
     replace H : St w w170z [cOwn (α := Yr) 41 u0_13 r04, cOwn (α := Raw 3) 43 u1_14 rr2_15, cRo Bs3_16, cOwn (α := Yr) 41 u0_9 r0, cOwn (α := Raw 3) 43 u1_10 rr2_11, cRo Bs3_12, cBlk b_17 [.slice none 0 0, .slice none 0 0, I 0, I 0] 26, cBlk nb0_8 [v_more, I r13, I r22] 101, cBlk b_7 [u0_2, u1_3, I r02, I r03] 26, cOwn (α := Yr) 41 u0_2 r00, cOwn (α := Raw 3) 43 u1_3 rr2_4, cRo Bs3_5, cOwn (α := Int) 3 u4_6 r12, cBlk nb0_1 [v_numbers, I q1, I q2] 101] R := H.back H2_ rfl
     clear H2_
     have hvc_q173z := Sl.cells (ownSl (H.get (k := 0) rfl))
     have hvo_q173z := Sl.oc (ownSl (H.get (k := 0) rfl))
     have hvc_q174z := Sl.cells (ownSl (H.get (k := 1) rfl))
     have hvo_q174z := Sl.oc (ownSl (H.get (k := 1) rfl))
     refine s_nil ⟨(H.pick [7, 8, 9, 10, 11, 12, 13] (by decide) rfl), ?_⟩
     refine t_l rfl ?_
     refine t_alloc (cs := [.slice none 0 0, .slice none 0 0, I 0, I 0]) H Al26 rfl ?_
     intro b_18 w175z H
     refine s_nil ⟨(H.pick [8, 9, 10, 11, 12, 13, 14] (by decide) rfl), ?_⟩
     refine t_l rfl ?_
     refine t_st (k := 7) (b := b_17) (off := 0) (cs := [.slice none 0 0, .slice none 0 0, I 0, I 0]) (vs := [u0_9, u1_10, I r23, I r3]) (cs' := [u0_9, u1_10, I r23, I r3]) (v := .agg #[u0_9, u1_10, I r23, I r3]) (L' := [cBlk b_18 [.slice none 0 0, .slice none 0 0, I 0, I 0] 26, cOwn (α := Yr) 41 u0_13 r04, cOwn (α := Raw 3) 43 u1_14 rr2_15, cRo Bs3_16, cOwn (α := Yr) 41 u0_9 r0, cOwn (α := Raw 3) 43 u1_10 rr2_11, cRo Bs3_12, cBlk b_17 [u0_9, u1_10, I r23, I r3] 26, cBlk nb0_8 [v_more, I r13, I r22] 101, cBlk b_7 [u0_2, u1_3, I r02, I r03] 26, cOwn (α := Yr) 41 u0_2 r00, cOwn (α := Raw 3) 43 u1_3 rr2_4, cRo Bs3_5, cOwn (α := Int) 3 u4_6 r12, cBlk nb0_1 [v_numbers, I q1, I q2] 101]) H rfl rfl rfl Sz26 rfl rfl rfl (by simp only [List.all_cons, List.all_nil, Bool.true_and, Bool.and_true, Sl.oc (ownSl (H.get (k := 4) rfl)), Sl.oc (rowSl rfl (H.get (k := 5) rfl) (roLe _ (H.get (k := 6) rfl)) hf151z)]; try rfl) rfl rfl ?_
     intro w176z H
     refine s_nil ⟨(H.pick [8, 9, 10, 11, 12, 13, 14] (by decide) rfl), ?_⟩
     refine t_l rfl ?_
     refine t_st (k := 0) (b := b_18) (off := 0) (cs := [.slice none 0 0, .slice none 0 0, I 0, I 0]) (vs := [u0_13, u1_14, I r24, I r32]) (cs' := [u0_13, u1_14, I r24, I r32]) (v := .agg #[u0_13, u1_14, I r24, I r32]) (L' := [cBlk b_18 [u0_13, u1_14, I r24, I r32] 26, cOwn (α := Yr) 41 u0_13 r04, cOwn (α := Raw 3) 43 u1_14 rr2_15, cRo Bs3_16, cOwn (α := Yr) 41 u0_9 r0, cOwn (α := Raw 3) 43 u1_10 rr2_11, cRo Bs3_12, cBlk b_17 [u0_9, u1_10, I r23, I r3] 26, cBlk nb0_8 [v_more, I r13, I r22] 101, cBlk b_7 [u0_2, u1_3, I r02, I r03] 26, cOwn (α := Yr) 41 u0_2 r00, cOwn (α := Raw 3) 43 u1_3 rr2_4, cRo Bs3_5, cOwn (α := Int) 3 u4_6 r12, cBlk nb0_1 [v_numbers, I q1, I q2] 101]) H rfl rfl rfl Sz26 rfl rfl rfl (by simp only [List.all_cons, List.all_nil, Bool.true_and, Bool.and_true, Sl.oc (ownSl (H.get (k := 1) rfl)), Sl.oc (rowSl rfl (H.get (k := 2) rfl) (roLe _ (H.get (k := 3) rfl)) hf172z)]; try rfl) rfl rfl ?_
     intro w177z H
     refine s_nil ⟨(H.pick [8, 9, 10, 11, 12, 13, 14] (by decide) rfl), ?_⟩
     refine t_nil ?_
     exact ⟨b_17, b_18, r0, r14, r23, r3, r04, r15, r24, r32, u0_13, u1_14, u0_9, u1_10, rr2_15, Bs3_16, rr2_11, Bs3_12, _, upds_of _ _ ⟨rfl, rfl, rfl, rfl, rfl, rfl, rfl, trivial⟩, hM, (H.pick [0, 7, 1, 2, 3, 4, 5, 6, 8, 9, 10, 11, 12, 13, 14] (by decide) rfl), hf172z, hf151z⟩
    skip
    refine t_alloc (cs := [.slice none 0 0, .slice none 0 0, I 0, I 0]) H Al26 rfl ?_
    intro b_18 w178z H
    refine s_nil ⟨(H.pick [5, 6, 7, 8, 9, 10, 11] (by decide) rfl), ?_⟩
    refine t_l rfl ?_
    obtain ⟨r180z, hx179z, hM⟩ := M.e_bind hM
    refine s_call cf16 [.agg #[u0_2, u1_3, I r02, I r03]] rfl (zad r00 r01 r02 r03 (Reads.of (k := 7) rfl ownLe) (ownSl (H.get (k := 7) rfl)) (Reads.sup (Reads.of (k := 8) rfl ownLe) (Reads.of (k := 9) rfl roLe)) (rowSl rfl (H.get (k := 8) rfl) (roLe _ (H.get (k := 9) rfl)) hf9z) hx179z _ (St.give (T := [cBlk b_18 [.slice none 0 0, .slice none 0 0, I 0, I 0] 26, cOwn (α := Yr) 41 u0_9 r0, cOwn (α := Raw 3) 43 u1_10 rr2_11, cRo Bs3_12, cBlk b_17 [.slice none 0 0, .slice none 0 0, I 0, I 0] 26, cBlk nb0_8 [v_more, I r13, I r22] 101, cBlk b_7 [u0_2, u1_3, I r02, I r03] 26, cOwn (α := Yr) 41 u0_2 r00, cOwn (α := Raw 3) 43 u1_3 rr2_4, cRo Bs3_5, cOwn (α := Int) 3 u4_6 r12, cBlk nb0_1 [v_numbers, I q1, I q2] 101]) H rfl)) ?_
    rintro vq w181z ⟨r04, r15, r24, r32, u0_13, u1_14, rr2_15, Bs3_16, hr182z, hvq, H2_, hf183z⟩
    subst hr182z
    subst vq
    try dsimp only at hM
    replace H : St w w181z [cOwn (α := Yr) 41 u0_13 r04, cOwn (α := Raw 3) 43 u1_14 rr2_15, cRo Bs3_16, cBlk b_18 [.slice none 0 0, .slice none 0 0, I 0, I 0] 26, cOwn (α := Yr) 41 u0_9 r0, cOwn (α := Raw 3) 43 u1_10 rr2_11, cRo Bs3_12, cBlk b_17 [.slice none 0 0, .slice none 0 0, I 0, I 0] 26, cBlk nb0_8 [v_more, I r13, I r22] 101, cBlk b_7 [u0_2, u1_3, I r02, I r03] 26, cOwn (α := Yr) 41 u0_2 r00, cOwn (α := Raw 3) 43 u1_3 rr2_4, cRo Bs3_5, cOwn (α := Int) 3 u4_6 r12, cBlk nb0_1 [v_numbers, I q1, I q2] 101] R := H.back H2_ rfl
    clear H2_
    have hvc_q184z := Sl.cells (ownSl (H.get (k := 0) rfl))
    have hvo_q184z := Sl.oc (ownSl (H.get (k := 0) rfl))
    have hvc_q185z := Sl.cells (ownSl (H.get (k := 1) rfl))
    have hvo_q185z := Sl.oc (ownSl (H.get (k := 1) rfl))
    refine s_nil ⟨(H.pick [8, 9, 10, 11, 12, 13, 14] (by decide) rfl), ?_⟩
    refine t_l rfl ?_
    refine t_st (k := 7) (b := b_17) (off := 0) (cs := [.slice none 0 0, .slice none 0 0, I 0, I 0]) (vs := [u0_9, u1_10, I r23, I r3]) (cs' := [u0_9, u1_10, I r23, I r3]) (v := .agg #[u0_9, u1_10, I r23, I r3]) (L' := [cOwn (α := Yr) 41 u0_13 r04, cOwn (α := Raw 3) 43 u1_14 rr2_15, cRo Bs3_16, cBlk b_18 [.slice none 0 0, .slice none 0 0, I 0, I 0] 26, cOwn (α := Yr) 41 u0_9 r0, cOwn (α := Raw 3) 43 u1_10 rr2_11, cRo Bs3_12, cBlk b_17 [u0_9, u1_10, I r23, I r3] 26, cBlk nb0_8 [v_more, I r13, I r22] 101, cBlk b_7 [u0_2, u1_3, I r02, I r03] 26, cOwn (α := Yr) 41 u0_2 r00, cOwn (α := Raw 3) 43 u1_3 rr2_4, cRo Bs3_5, cOwn (α := Int) 3 u4_6 r12, cBlk nb0_1 [v_numbers, I q1, I q2] 101]) H rfl rfl rfl Sz26 rfl rfl rfl (by simp only [List.all_cons, List.all_nil, Bool.true_and, Bool.and_true, Sl.oc (ownSl (H.get (k := 4) rfl)), Sl.oc (rowSl rfl (H.get (k := 5) rfl) (roLe _ (H.get (k := 6) rfl)) hf151z)]; try rfl) rfl rfl ?_
    intro w186z H
    refine s_nil ⟨(H.pick [8, 9, 10, 11, 12, 13, 14] (by decide) rfl), ?_⟩
    refine t_l rfl ?_
    refine t_st (k := 3) (b := b_18) (off := 0) (cs := [.slice none 0 0, .slice none 0 0, I 0, I 0]) (vs := [u0_13, u1_14, I r24, I r32]) (cs' := [u0_13, u1_14, I r24, I r32]) (v := .agg #[u0_13, u1_14, I r24, I r32]) (L' := [cOwn (α := Yr) 41 u0_13 r04, cOwn (α := Raw 3) 43 u1_14 rr2_15, cRo Bs3_16, cBlk b_18 [u0_13, u1_14, I r24, I r32] 26, cOwn (α := Yr) 41 u0_9 r0, cOwn (α := Raw 3) 43 u1_10 rr2_11, cRo Bs3_12, cBlk b_17 [u0_9, u1_10, I r23, I r3] 26, cBlk nb0_8 [v_more, I r13, I r22] 101, cBlk b_7 [u0_2, u1_3, I r02, I r03] 26, cOwn (α := Yr) 41 u0_2 r00, cOwn (α := Raw 3) 43 u1_3 rr2_4, cRo Bs3_5, cOwn (α := Int) 3 u4_6 r12, cBlk nb0_1 [v_numbers, I q1, I q2] 101]) H rfl rfl rfl Sz26 rfl rfl rfl (by simp only [List.all_cons, List.all_nil, Bool.true_and, Bool.and_true, Sl.oc (ownSl (H.get (k := 0) rfl)), Sl.oc (rowSl rfl (H.get (k := 1) rfl) (roLe _ (H.get (k := 2) rfl)) hf183z)]; try rfl) rfl rfl ?_
    intro w187z H
    refine s_nil ⟨(H.pick [8, 9, 10, 11, 12, 13, 14] (by decide) rfl), ?_⟩
    refine t_nil ?_
    exact ⟨b_17, b_18, r0, r14, r23, r3, r04, r15, r24, r32, u0_13, u1_14, u0_9, u1_10, rr2_15, Bs3_16, rr2_11, Bs3_12, _, upds_of _ _ ⟨rfl, rfl, rfl, rfl, rfl, rfl, rfl, trivial⟩, hM, (H.pick [3, 7, 0, 1, 2, 4, 5, 6, 8, 9, 10, 11, 12, 13, 14] (by decide) rfl), hf183z, hf151z⟩
   skip
   refine t_alloc (cs := [.slice none 0 0, .slice none 0 0, I 0, I 0]) H Al26 rfl ?_
   intro b_18 w188z H
   refine s_nil ⟨(H.pick [2, 3, 4, 5, 6, 7, 8] (by decide) rfl), ?_⟩
   refine t_l rfl ?_
   obtain ⟨r190z, hx189z, hM⟩ := M.e_bind hM
   refine s_call cf16 [.agg #[u0_2, u1_3, I r02, I r03]] rfl (zad r00 r01 r02 r03 (Reads.of (k := 4) rfl ownLe) (ownSl (H.get (k := 4) rfl)) (Reads.sup (Reads.of (k := 5) rfl ownLe) (Reads.of (k := 6) rfl roLe)) (rowSl rfl (H.get (k := 5) rfl) (roLe _ (H.get (k := 6) rfl)) hf9z) hx189z _ (St.give (T := [cBlk b_18 [.slice none 0 0, .slice none 0 0, I 0, I 0] 26, cBlk b_17 [.slice none 0 0, .slice none 0 0, I 0, I 0] 26, cBlk nb0_8 [v_more, I r13, I r22] 101, cBlk b_7 [u0_2, u1_3, I r02, I r03] 26, cOwn (α := Yr) 41 u0_2 r00, cOwn (α := Raw 3) 43 u1_3 rr2_4, cRo Bs3_5, cOwn (α := Int) 3 u4_6 r12, cBlk nb0_1 [v_numbers, I q1, I q2] 101]) H rfl)) ?_
   rintro vq w191z ⟨r0, r14, r23, r3, u0_9, u1_10, rr2_11, Bs3_12, hr192z, hvq, H2_, hf193z⟩
   subst hr192z
   subst vq
   try dsimp only at hM
   replace H : St w w191z [cOwn (α := Yr) 41 u0_9 r0, cOwn (α := Raw 3) 43 u1_10 rr2_11, cRo Bs3_12, cBlk b_18 [.slice none 0 0, .slice none 0 0, I 0, I 0] 26, cBlk b_17 [.slice none 0 0, .slice none 0 0, I 0, I 0] 26, cBlk nb0_8 [v_more, I r13, I r22] 101, cBlk b_7 [u0_2, u1_3, I r02, I r03] 26, cOwn (α := Yr) 41 u0_2 r00, cOwn (α := Raw 3) 43 u1_3 rr2_4, cRo Bs3_5, cOwn (α := Int) 3 u4_6 r12, cBlk nb0_1 [v_numbers, I q1, I q2] 101] R := H.back H2_ rfl
   clear H2_
   have hvc_q194z := Sl.cells (ownSl (H.get (k := 0) rfl))
   have hvo_q194z := Sl.oc (ownSl (H.get (k := 0) rfl))
   have hvc_q195z := Sl.cells (ownSl (H.get (k := 1) rfl))
   have hvo_q195z := Sl.oc (ownSl (H.get (k := 1) rfl))
   refine s_nil ⟨(H.pick [5, 6, 7, 8, 9, 10, 11] (by decide) rfl), ?_⟩
   refine t_l rfl ?_
   obtain ⟨r197z, hx196z, hM⟩ := M.e_bind hM
   refine s_call cf16 [.agg #[u0_2, u1_3, I r02, I r03]] rfl (zad r00 r01 r02 r03 (Reads.of (k := 7) rfl ownLe) (ownSl (H.get (k := 7) rfl)) (Reads.sup (Reads.of (k := 8) rfl ownLe) (Reads.of (k := 9) rfl roLe)) (rowSl rfl (H.get (k := 8) rfl) (roLe _ (H.get (k := 9) rfl)) hf9z) hx196z _ (St.give (T := [cOwn (α := Yr) 41 u0_9 r0, cOwn (α := Raw 3) 43 u1_10 rr2_11, cRo Bs3_12, cBlk b_18 [.slice none 0 0, .slice none 0 0, I 0, I 0] 26, cBlk b_17 [.slice none 0 0, .slice none 0 0, I 0, I 0] 26, cBlk nb0_8 [v_more, I r13, I r22] 101, cBlk b_7 [u0_2, u1_3, I r02, I r03] 26, cOwn (α := Yr) 41 u0_2 r00, cOwn (α := Raw 3) 43 u1_3 rr2_4, cRo Bs3_5, cOwn (α := Int) 3 u4_6 r12, cBlk nb0_1 [v_numbers, I q1, I q2] 101]) H rfl)) ?_
   rintro vq w198z ⟨r04, r15, r24, r32, u0_13, u1_14, rr2_15, Bs3_16, hr199z, hvq, H2_, hf200z⟩
   subst hr199z
   subst vq
   try dsimp only at hM
   replace H : St w w198z [cOwn (α := Yr) 41 u0_13 r04, cOwn (α := Raw 3) 43 u1_14 rr2_15, cRo Bs3_16, cOwn (α := Yr) 41 u0_9 r0, cOwn (α := Raw 3) 43 u1_10 rr2_11, cRo Bs3_12, cBlk b_18 [.slice none 0 0, .slice none 0 0, I 0, I 0] 26, cBlk b_17 [.slice none 0 0, .slice none 0 0, I 0, I 0] 26, cBlk nb0_8 [v_more, I r13, I r22] 101, cBlk b_7 [u0_2, u1_3, I r02, I r03] 26, cOwn (α := Yr) 41 u0_2 r00, cOwn (α := Raw 3) 43 u1_3 rr2_4, cRo Bs3_5, cOwn (α := Int) 3 u4_6 r12, cBlk nb0_1 [v_numbers, I q1, I q2] 101] R := H.back H2_ rfl
   clear H2_
   have hvc_q201z := Sl.cells (ownSl (H.get (k := 0) rfl))
   have hvo_q201z := Sl.oc (ownSl (H.get (k := 0) rfl))
   have hvc_q202z := Sl.cells (ownSl (H.get (k := 1) rfl))
   have hvo_q202z := Sl.oc (ownSl (H.get (k := 1) rfl))
   refine s_nil ⟨(H.pick [8, 9, 10, 11, 12, 13, 14] (by decide) rfl), ?_⟩
   refine t_l rfl ?_
   refine t_st (k := 7) (b := b_17) (off := 0) (cs := [.slice none 0 0, .slice none 0 0, I 0, I 0]) (vs := [u0_9, u1_10, I r23, I r3]) (cs' := [u0_9, u1_10, I r23, I r3]) (v := .agg #[u0_9, u1_10, I r23, I r3]) (L' := [cOwn (α := Yr) 41 u0_13 r04, cOwn (α := Raw 3) 43 u1_14 rr2_15, cRo Bs3_16, cOwn (α := Yr) 41 u0_9 r0, cOwn (α := Raw 3) 43 u1_10 rr2_11, cRo Bs3_12, cBlk b_18 [.slice none 0 0, .slice none 0 0, I 0, I 0] 26, cBlk b_17 [u0_9, u1_10, I r23, I r3] 26, cBlk nb0_8 [v_more, I r13, I r22] 101, cBlk b_7 [u0_2, u1_3, I r02, I r03] 26, cOwn (α := Yr) 41 u0_2 r00, cOwn (α := Raw 3) 43 u1_3 rr2_4, cRo Bs3_5, cOwn (α := Int) 3 u4_6 r12, cBlk nb0_1 [v_numbers, I q1, I q2] 101]) H rfl rfl rfl Sz26 rfl rfl rfl (by simp only [List.all_cons, List.all_nil, Bool.true_and, Bool.and_true, Sl.oc (ownSl (H.get (k := 3) rfl)), Sl.oc (rowSl rfl (H.get (k := 4) rfl) (roLe _ (H.get (k := 5) rfl)) hf193z)]; try rfl) rfl rfl ?_
   intro w203z H
   refine s_nil ⟨(H.pick [8, 9, 10, 11, 12, 13, 14] (by decide) rfl), ?_⟩
   refine t_l rfl ?_
   refine t_st (k := 6) (b := b_18) (off := 0) (cs := [.slice none 0 0, .slice none 0 0, I 0, I 0]) (vs := [u0_13, u1_14, I r24, I r32]) (cs' := [u0_13, u1_14, I r24, I r32]) (v := .agg #[u0_13, u1_14, I r24, I r32]) (L' := [cOwn (α := Yr) 41 u0_13 r04, cOwn (α := Raw 3) 43 u1_14 rr2_15, cRo Bs3_16, cOwn (α := Yr) 41 u0_9 r0, cOwn (α := Raw 3) 43 u1_10 rr2_11, cRo Bs3_12, cBlk b_18 [u0_13, u1_14, I r24, I r32] 26, cBlk b_17 [u0_9, u1_10, I r23, I r3] 26, cBlk nb0_8 [v_more, I r13, I r22] 101, cBlk b_7 [u0_2, u1_3, I r02, I r03] 26, cOwn (α := Yr) 41 u0_2 r00, cOwn (α := Raw 3) 43 u1_3 rr2_4, cRo Bs3_5, cOwn (α := Int) 3 u4_6 r12, cBlk nb0_1 [v_numbers, I q1, I q2] 101]) H rfl rfl rfl Sz26 rfl rfl rfl (by simp only [List.all_cons, List.all_nil, Bool.true_and, Bool.and_true, Sl.oc (ownSl (H.get (k := 0) rfl)), Sl.oc (rowSl rfl (H.get (k := 1) rfl) (roLe _ (H.get (k := 2) rfl)) hf200z)]; try rfl) rfl rfl ?_
   intro w204z H
   refine s_nil ⟨(H.pick [8, 9, 10, 11, 12, 13, 14] (by decide) rfl), ?_⟩
   refine t_nil ?_
   exact ⟨b_17, b_18, r0, r14, r23, r3, r04, r15, r24, r32, u0_13, u1_14, u0_9, u1_10, rr2_15, Bs3_16, rr2_11, Bs3_12, _, upds_of _ _ ⟨rfl, rfl, rfl, rfl, rfl, rfl, rfl, trivial⟩, hM, (H.pick [6, 7, 0, 1, 2, 3, 4, 5, 8, 9, 10, 11, 12, 13, 14] (by decide) rfl), hf200z, hf193z⟩
  skip
  refine t_alloc (cs := [.slice none 0 0, .slice none 0 0, I 0, I 0]) H Al26 rfl ?_
  intro b_18 w205z H
  refine s_nil ⟨(H.pick [1, 2, 3, 4, 5, 6, 7] (by decide) rfl), ?_⟩
  refine t_l2 rfl rfl ?_ ?_
  ·skip
   obtain ⟨r226z, hx225z, hM⟩ := M.e_bind hM
   refine s_call cf16 [.agg #[u0_2, u1_3, I r02, I r03]] rfl (zad r00 r01 r02 r03 (Reads.of (k := 3) rfl ownLe) (ownSl (H.get (k := 3) rfl)) (Reads.sup (Reads.of (k := 4) rfl ownLe) (Reads.of (k := 5) rfl roLe)) (rowSl rfl (H.get (k := 4) rfl) (roLe _ (H.get (k := 5) rfl)) hf9z) hx225z _ (St.give (T := [cBlk b_18 [.slice none 0 0, .slice none 0 0, I 0, I 0] 26, cBlk nb0_8 [v_more, I r13, I r22] 101, cBlk b_7 [u0_2, u1_3, I r02, I r03] 26, cOwn (α := Yr) 41 u0_2 r00, cOwn (α := Raw 3) 43 u1_3 rr2_4, cRo Bs3_5, cOwn (α := Int) 3 u4_6 r12, cBlk nb0_1 [v_numbers, I q1, I q2] 101]) H rfl)) ?_
   rintro vq w227z ⟨r0, r14, r23, r3, u0_9, u1_10, rr2_11, Bs3_12, hr228z, hvq, H2_, hf229z⟩
   subst hr228z
   subst vq
   try dsimp only at hM
   replace H : St w w227z [cOwn (α := Yr) 41 u0_9 r0, cOwn (α := Raw 3) 43 u1_10 rr2_11, cRo Bs3_12, cBlk b_18 [.slice none 0 0, .slice none 0 0, I 0, I 0] 26, cBlk nb0_8 [v_more, I r13, I r22] 101, cBlk b_7 [u0_2, u1_3, I r02, I r03] 26, cOwn (α := Yr) 41 u0_2 r00, cOwn (α := Raw 3) 43 u1_3 rr2_4, cRo Bs3_5, cOwn (α := Int) 3 u4_6 r12, cBlk nb0_1 [v_numbers, I q1, I q2] 101] R := H.back H2_ rfl
   clear H2_
   have hvc_q230z := Sl.cells (ownSl (H.get (k := 0) rfl))
   have hvo_q230z := Sl.oc (ownSl (H.get (k := 0) rfl))
   have hvc_q231z := Sl.cells (ownSl (H.get (k := 1) rfl))
   have hvo_q231z := Sl.oc (ownSl (H.get (k := 1) rfl))
   refine s_nil ⟨(H.pick [4, 5, 6, 7, 8, 9, 10] (by decide) rfl), ?_⟩
   refine t_l2 rfl rfl ?_ ?_
   ·skip
    obtain ⟨r247z, hx246z, hM⟩ := M.e_bind hM
    refine s_call cf16 [.agg #[u0_2, u1_3, I r02, I r03]] rfl (zad r00 r01 r02 r03 (Reads.of (k := 6) rfl ownLe) (ownSl (H.get (k := 6) rfl)) (Reads.sup (Reads.of (k := 7) rfl ownLe) (Reads.of (k := 8) rfl roLe)) (rowSl rfl (H.get (k := 7) rfl) (roLe _ (H.get (k := 8) rfl)) hf9z) hx246z _ (St.give (T := [cOwn (α := Yr) 41 u0_9 r0, cOwn (α := Raw 3) 43 u1_10 rr2_11, cRo Bs3_12, cBlk b_18 [.slice none 0 0, .slice none 0 0, I 0, I 0] 26, cBlk nb0_8 [v_more, I r13, I r22] 101, cBlk b_7 [u0_2, u1_3, I r02, I r03] 26, cOwn (α := Yr) 41 u0_2 r00, cOwn (α := Raw 3) 43 u1_3 rr2_4, cRo Bs3_5, cOwn (α := Int) 3 u4_6 r12, cBlk nb0_1 [v_numbers, I q1, I q2] 101]) H rfl)) ?_
    rintro vq w248z ⟨r04, r15, r24, r32, u0_13, u1_14, rr2_15, Bs3_16, hr249z, hvq, H2_, hf250z⟩
    subst hr249z
    subst vq
    try dsimp only at hM
    replace H : St w w248z [cOwn (α := Yr) 41 u0_13 r04, cOwn (α := Raw 3) 43 u1_14 rr2_15, cRo Bs3_16, cOwn (α := Yr) 41 u0_9 r0, cOwn (α := Raw 3) 43 u1_10 rr2_11, cRo Bs3_12, cBlk b_18 [.slice none 0 0, .slice none 0 0, I 0, I 0] 26, cBlk nb0_8 [v_more, I r13, I r22] 101, cBlk b_7 [u0_2, u1_3, I r02, I r03] 26, cOwn (α := Yr) 41 u0_2 r00, cOwn (α := Raw 3) 43 u1_3 rr2_4, cRo Bs3_5, cOwn (α := Int) 3 u4_6 r12, cBlk nb0_1 [v_numbers, I q1, I q2] 101] R := H.back H2_ rfl
    clear H2_
    have hvc_q251z := Sl.cells (ownSl (H.get (k := 0) rfl))
    have hvo_q251z := Sl.oc (ownSl (H.get (k := 0) rfl))
    have hvc_q252z := Sl.cells (ownSl (H.get (k := 1) rfl))
    have hvo_q252z := Sl.oc (ownSl (H.get (k := 1) rfl))
    refine s_nil ⟨(H.pick [7, 8, 9, 10, 11, 12, 13] (by decide) rfl), ?_⟩
    refine t_l rfl ?_
    refine t_alloc (cs := [.slice none 0 0, .slice none 0 0, I 0, I 0]) H Al26 rfl ?_
    intro b_17 w253z H
    refine s_nil ⟨(H.pick [8, 9, 10, 11, 12, 13, 14] (by decide) rfl), ?_⟩
    refine t_l rfl ?_
    refine t_st (k := 0) (b := b_17) (off := 0) (cs := [.slice none 0 0, .slice none 0 0, I 0, I 0]) (vs := [u0_9, u1_10, I r23, I r3]) (cs' := [u0_9, u1_10, I r23, I r3]) (v := .agg #[u0_9, u1_10, I r23, I r3]) (L' := [cBlk b_17 [u0_9, u1_10, I r23, I r3] 26, cOwn (α := Yr) 41 u0_13 r04, cOwn (α := Raw 3) 43 u1_14 rr2_15, cRo Bs3_16, cOwn (α := Yr) 41 u0_9 r0, cOwn (α := Raw 3) 43 u1_10 rr2_11, cRo Bs3_12, cBlk b_18 [.slice none 0 0, .slice none 0 0, I 0, I 0] 26, cBlk nb0_8 [v_more, I r13, I r22] 101, cBlk b_7 [u0_2, u1_3, I r02, I r03] 26, cOwn (α := Yr) 41 u0_2 r00, cOwn (α := Raw 3) 43 u1_3 rr2_4, cRo Bs3_5, cOwn (α := Int) 3 u4_6 r12, cBlk nb0_1 [v_numbers, I q1, I q2] 101]) H rfl rfl rfl Sz26 rfl rfl rfl (by simp only [List.all_cons, List.all_nil, Bool.true_and, Bool.and_true, Sl.oc (ownSl (H.get (k := 4) rfl)), Sl.oc (rowSl rfl (H.get (k := 5) rfl) (roLe _ (H.get (k := 6) rfl)) hf229z)]; try rfl) rfl rfl ?_
    intro w254z H
    refine s_nil ⟨(H.pick [8, 9, 10, 11, 12, 13, 14] (by decide) rfl), ?_⟩
    refine t_l rfl ?_
    refine t_st (k := 7) (b := b_18) (off := 0) (cs := [.slice none 0 0, .slice none 0 0, I 0, I 0]) (vs := [u0_13, u1_14, I r24, I r32]) (cs' := [u0_13, u1_14, I r24, I r32]) (v := .agg #[u0_13, u1_14, I r24, I r32]) (L' := [cBlk b_17 [u0_9, u1_10, I r23, I r3] 26, cOwn (α := Yr) 41 u0_13 r04, cOwn (α := Raw 3) 43 u1_14 rr2_15, cRo Bs3_16, cOwn (α := Yr) 41 u0_9 r0, cOwn (α := Raw 3) 43 u1_10 rr2_11, cRo Bs3_12, cBlk b_18 [u0_13, u1_14, I r24, I r32] 26, cBlk nb0_8 [v_more, I r13, I r22] 101, cBlk b_7 [u0_2, u1_3, I r02, I r03] 26, cOwn (α := Yr) 41 u0_2 r00, cOwn (α := Raw 3) 43 u1_3 rr2_4, cRo Bs3_5, cOwn (α := Int) 3 u4_6 r12, cBlk nb0_1 [v_numbers, I q1, I q2] 101]) H rfl rfl rfl Sz26 rfl rfl rfl (by simp only [List.all_cons, List.all_nil, Bool.true_and, Bool.and_true, Sl.oc (ownSl (H.get (k := 1) rfl)), Sl.oc (rowSl rfl (H.get (k := 2) rfl) (roLe _ (H.get (k := 3) rfl)) hf250z)]; try rfl) rfl rfl ?_
    intro w255z H
    refine s_nil ⟨(H.pick [8, 9, 10, 11, 12, 13, 14] (by decide) rfl), ?_⟩
    refine t_nil ?_
    exact ⟨b_17, b_18, r0, r14, r23, r3, r04, r15, r24, r32, u0_13, u1_14, u0_9, u1_10, rr2_15, Bs3_16, rr2_11, Bs3_12, _, upds_of _ _ ⟨rfl, rfl, rfl, rfl, rfl, rfl, rfl, trivial⟩, hM, (H.pick [7, 0, 1, 2, 3, 4, 5, 6, 8, 9, 10, 11, 12, 13, 14] (by decide) rfl), hf250z, hf229z⟩
   skip
   refine t_alloc (cs := [.slice none 0 0, .slice none 0 0, I 0, I 0]) H Al26 rfl ?_
   intro b_17 w256z H
   refine s_nil ⟨(H.pick [5, 6, 7, 8, 9, 10, 11] (by decide) rfl), ?_⟩
   refine t_l rfl ?_
   obtain ⟨r258z, hx257z, hM⟩ := M.e_bind hM
   refine s_call cf16 [.agg #[u0_2, u1_3, I r02, I r03]] rfl (zad r00 r01 r02 r03 (Reads.of (k := 7) rfl ownLe) (ownSl (H.get (k := 7) rfl)) (Reads.sup (Reads.of (k := 8) rfl ownLe) (Reads.of (k := 9) rfl roLe)) (rowSl rfl (H.get (k := 8) rfl) (roLe _ (H.get (k := 9) rfl)) hf9z) hx257z _ (St.give (T := [cBlk b_17 [.slice none 0 0, .slice none 0 0, I 0, I 0] 26, cOwn (α := Yr) 41 u0_9 r0, cOwn (α := Raw 3) 43 u1_10 rr2_11, cRo Bs3_12, cBlk b_18 [.slice none 0 0, .slice none 0 0, I 0, I 0] 26, cBlk nb0_8 [v_more, I r13, I r22] 101, cBlk b_7 [u0_2, u1_3, I r02, I r03] 26, cOwn (α := Yr) 41 u0_2 r00, cOwn (α := Raw 3) 43 u1_3 rr2_4, cRo Bs3_5, cOwn (α := Int) 3 u4_6 r12, cBlk nb0_1 [v_numbers, I q1, I q2] 101]) H rfl)) ?_
   rintro vq w259z ⟨r04, r15, r24, r32, u0_13, u1_14, rr2_15, Bs3_16, hr260z, hvq, H2_, hf261z⟩
   subst hr260z
   subst vq
   try dsimp only at hM
   replace H : St w w259z [cOwn (α := Yr) 41 u0_13 r04, cOwn (α := Raw 3) 43 u1_14 rr2_15, cRo Bs3_16, cBlk b_17 [.slice none 0 0, .slice none 0 0, I 0, I 0] 26, cOwn (α := Yr) 41 u0_9 r0, cOwn (α := Raw 3) 43 u1_10 rr2_11, cRo Bs3_12, cBlk b_18 [.slice none 0 0, .slice none 0 0, I 0, I 0] 26, cBlk nb0_8 [v_more, I r13, I r22] 101, cBlk b_7 [u0_2, u1_3, I r02, I r03] 26, cOwn (α := Yr) 41 u0_2 r00, cOwn (α := Raw 3) 43 u1_3 rr2_4, cRo Bs3_5, cOwn (α := Int) 3 u4_6 r12, cBlk nb0_1 [v_numbers, I q1, I q2] 101] R := H.back H2_ rfl
   clear H2_
   have hvc_q262z := Sl.cells (ownSl (H.get (k := 0) rfl))
   have hvo_q262z := Sl.oc (ownSl (H.get (k := 0) rfl))
   have hvc_q263z := Sl.cells (ownSl (H.get (k := 1) rfl))
   have hvo_q263z := Sl.oc (ownSl (H.get (k := 1) rfl))
   refine s_nil ⟨(H.pick [8, 9, 10, 11, 12, 13, 14] (by decide) rfl), ?_⟩
   refine t_l rfl ?_
   refine t_st (k := 3) (b := b_17) (off := 0) (cs := [.slice none 0 0, .slice none 0 0, I 0, I 0]) (vs := [u0_9, u1_10, I r23, I r3]) (cs' := [u0_9, u1_10, I r23, I r3]) (v := .agg #[u0_9, u1_10, I r23, I r3]) (L' := [cOwn (α := Yr) 41 u0_13 r04, cOwn (α := Raw 3) 43 u1_14 rr2_15, cRo Bs3_16, cBlk b_17 [u0_9, u1_10, I r23, I r3] 26, cOwn (α := Yr) 41 u0_9 r0, cOwn (α := Raw 3) 43 u1_10 rr2_11, cRo Bs3_12, cBlk b_18 [.slice none 0 0, .slice none 0 0, I 0, I 0] 26, cBlk nb0_8 [v_more, I r13, I r22] 101, cBlk b_7 [u0_2, u1_3, I r02, I r03] 26, cOwn (α := Yr) 41 u0_2 r00, cOwn (α := Raw 3) 43 u1_3 rr2_4, cRo Bs3_5, cOwn (α := Int) 3 u4_6 r12, cBlk nb0_1 [v_numbers, I q1, I q2] 101]) H rfl rfl rfl Sz26 rfl rfl rfl (by simp only [List.all_cons, List.all_nil, Bool.true_and, Bool.and_true, Sl.oc (ownSl (H.get (k := 4) rfl)), Sl.oc (rowSl rfl (H.get (k := 5) rfl) (roLe _ (H.get (k := 6) rfl)) hf229z)]; try rfl) rfl rfl ?_
   intro w264z H
   refine s_nil ⟨(H.pick [8, 9, 10, 11, 12, 13, 14] (by decide) rfl), ?_⟩
   refine t_l rfl ?_
   refine t_st (k := 7) (b := b_18) (off := 0) (cs := [.slice none 0 0, .slice none 0 0, I 0, I 0]) (vs := [u0_13, u1_14, I r24, I r32]) (cs' := [u0_13, u1_14, I r24, I r32]) (v := .agg #[u0_13, u1_14, I r24, I r32]) (L' := [cOwn (α := Yr) 41 u0_13 r04, cOwn (α := Raw 3) 43 u1_14 rr2_15, cRo Bs3_16, cBlk b_17 [u0_9, u1_10, I r23, I r3] 26, cOwn (α := Yr) 41 u0_9 r0, cOwn (α := Raw 3) 43 u1_10 rr2_11, cRo Bs3_12, cBlk b_18 [u0_13, u1_14, I r24, I r32] 26, cBlk nb0_8 [v_more, I r13, I r22] 101, cBlk b_7 [u0_2, u1_3, I r02, I r03] 26, cOwn (α := Yr) 41 u0_2 r00, cOwn (α := Raw 3) 43 u1_3 rr2_4, cRo Bs3_5, cOwn (α := Int) 3 u4_6 r12, cBlk nb0_1 [v_numbers, I q1, I q2] 101]) H rfl rfl rfl Sz26 rfl rfl rfl (by simp only [List.all_cons, List.all_nil, Bool.true_and, Bool.and_true, Sl.oc (ownSl (H.get (k := 0) rfl)), Sl.oc (rowSl rfl (H.get (k := 1) rfl) (roLe _ (H.get (k := 2) rfl)) hf261z)]; try rfl) rfl rfl ?_
   intro w265z H
   refine s_nil ⟨(H.pick [8, 9, 10, 11, 12, 13, 14] (by decide) rfl), ?_⟩
   refine t_nil ?_
   exact ⟨b_17, b_18, r0, r14, r23, r3, r04, r15, r24, r32, u0_13, u1_14, u0_9, u1_10, rr2_15, Bs3_16, rr2_11, Bs3_12, _, upds_of _ _ ⟨rfl, rfl, rfl, rfl, rfl, rfl, rfl, trivial⟩, hM, (H.pick [7, 3, 0, 1, 2, 4, 5, 6, 8, 9, 10, 11, 12, 13, 14] (by decide) rfl), hf261z, hf229z⟩
  skip
  refine t_alloc (cs := [.slice none 0 0, .slice none 0 0, I 0, I 0]) H Al26 rfl ?_
  intro b_17 w266z H
  refine s_nil ⟨(H.pick [2, 3, 4, 5, 6, 7, 8] (by decide) rfl), ?_⟩
  refine t_l rfl ?_
  obtain ⟨r268z, hx267z, hM⟩ := M.e_bind hM
  refine s_call cf16 [.agg #[u0_2, u1_3, I r02, I r03]] rfl (zad r00 r01 r02 r03 (Reads.of (k := 4) rfl ownLe) (ownSl (H.get (k := 4) rfl)) (Reads.sup (Reads.of (k := 5) rfl ownLe) (Reads.of (k := 6) rfl roLe)) (rowSl rfl (H.get (k := 5) rfl) (roLe _ (H.get (k := 6) rfl)) hf9z) hx267z _ (St.give (T := [cBlk b_17 [.slice none 0 0, .slice none 0 0, I 0, I 0] 26, cBlk b_18 [.slice none 0 0, .slice none 0 0, I 0, I 0] 26, cBlk nb0_8 [v_more, I r13, I r22] 101, cBlk b_7 [u0_2, u1_3, I r02, I r03] 26, cOwn (α := Yr) 41 u0_2 r00, cOwn (α := Raw 3) 43 u1_3 rr2_4, cRo Bs3_5, cOwn (α := Int) 3 u4_6 r12, cBlk nb0_1 [v_numbers, I q1, I q2] 101]) H rfl)) ?_
  rintro vq w269z ⟨r0, r14, r23, r3, u0_9, u1_10, rr2_11, Bs3_12, hr270z, hvq, H2_, hf271z⟩
  subst hr270z
  subst vq
  try dsimp only at hM
  replace H : St w w269z [cOwn (α := Yr) 41 u0_9 r0, cOwn (α := Raw 3) 43 u1_10 rr2_11, cRo Bs3_12, cBlk b_17 [.slice none 0 0, .slice none 0 0, I 0, I 0] 26, cBlk b_18 [.slice none 0 0, .slice none 0 0, I 0, I 0] 26, cBlk nb0_8 [v_more, I r13, I r22] 101, cBlk b_7 [u0_2, u1_3, I r02, I r03] 26, cOwn (α := Yr) 41 u0_2 r00, cOwn (α := Raw 3) 43 u1_3 rr2_4, cRo Bs3_5, cOwn (α := Int) 3 u4_6 r12, cBlk nb0_1 [v_numbers, I q1, I q2] 101] R := H.back H2_ rfl
  clear H2_
  have hvc_q272z := Sl.cells (ownSl (H.get (k := 0) rfl))
  have hvo_q272z := Sl.oc (ownSl (H.get (k := 0) rfl))
  have hvc_q273z := Sl.cells (ownSl (H.get (k := 1) rfl))
  have hvo_q273z := Sl.oc (ownSl (H.get (k := 1) rfl))
  refine s_nil ⟨(H.pick [5, 6, 7, 8, 9, 10, 11] (by decide) rfl), ?_⟩
  refine t_l rfl ?_
  obtain ⟨r275z, hx274z, hM⟩ := M.e_bind hM
  refine s_call cf16 [.agg #[u0_2, u1_3, I r02, I r03]] rfl (zad r00 r01 r02 r03 (Reads.of (k := 7) rfl ownLe) (ownSl (H.get (k := 7) rfl)) (Reads.sup (Reads.of (k := 8) rfl ownLe) (Reads.of (k := 9) rfl roLe)) (rowSl rfl (H.get (k := 8) rfl) (roLe _ (H.get (k := 9) rfl)) hf9z) hx274z _ (St.give (T := [cOwn (α := Yr) 41 u0_9 r0, cOwn (α := Raw 3) 43 u1_10 rr2_11, cRo Bs3_12, cBlk b_17 [.slice none 0 0, .slice none 0 0, I 0, I 0] 26, cBlk b_18 [.slice none 0 0, .slice none 0 0, I 0, I 0] 26, cBlk nb0_8 [v_more, I r13, I r22] 101, cBlk b_7 [u0_2, u1_3, I r02, I r03] 26, cOwn (α := Yr) 41 u0_2 r00, cOwn (α := Raw 3) 43 u1_3 rr2_4, cRo Bs3_5, cOwn (α := Int) 3 u4_6 r12, cBlk nb0_1 [v_numbers, I q1, I q2] 101]) H rfl)) ?_
  rintro vq w276z ⟨r04, r15, r24, r32, u0_13, u1_14, rr2_15, Bs3_16, hr277z, hvq, H2_, hf278z⟩
  subst hr277z
  subst vq
  try dsimp only at hM
  replace H : St w w276z [cOwn (α := Yr) 41 u0_13 r04, cOwn (α := Raw 3) 43 u1_14 rr2_15, cRo Bs3_16, cOwn (α := Yr) 41 u0_9 r0, cOwn (α := Raw 3) 43 u1_10 rr2_11, cRo Bs3_12, cBlk b_17 [.slice none 0 0, .slice none 0 0, I 0, I 0] 26, cBlk b_18 [.slice none 0 0, .slice none 0 0, I 0, I 0] 26, cBlk nb0_8 [v_more, I r13, I r22] 101, cBlk b_7 [u0_2, u1_3, I r02, I r03] 26, cOwn (α := Yr) 41 u0_2 r00, cOwn (α := Raw 3) 43 u1_3 rr2_4, cRo Bs3_5, cOwn (α := Int) 3 u4_6 r12, cBlk nb0_1 [v_numbers, I q1, I q2] 101] R := H.back H2_ rfl
  clear H2_
  have hvc_q279z := Sl.cells (ownSl (H.get (k := 0) rfl))
  have hvo_q279z := Sl.oc (ownSl (H.get (k := 0) rfl))
  have hvc_q280z := Sl.cells (ownSl (H.get (k := 1) rfl))
  have hvo_q280z := Sl.oc (ownSl (H.get (k := 1) rfl))
  refine s_nil ⟨(H.pick [8, 9, 10, 11, 12, 13, 14] (by decide) rfl), ?_⟩
  refine t_l rfl ?_
  refine t_st (k := 6) (b := b_17) (off := 0) (cs := [.slice none 0 0, .slice none 0 0, I 0, I 0]) (vs := [u0_9, u1_10, I r23, I r3]) (cs' := [u0_9, u1_10, I r23, I r3]) (v := .agg #[u0_9, u1_10, I r23, I r3]) (L' := [cOwn (α := Yr) 41 u0_13 r04, cOwn (α := Raw 3) 43 u1_14 rr2_15, cRo Bs3_16, cOwn (α := Yr) 41 u0_9 r0, cOwn (α := Raw 3) 43 u1_10 rr2_11, cRo Bs3_12, cBlk b_17 [u0_9, u1_10, I r23, I r3] 26, cBlk b_18 [.slice none 0 0, .slice none 0 0, I 0, I 0] 26, cBlk nb0_8 [v_more, I r13, I r22] 101, cBlk b_7 [u0_2, u1_3, I r02, I r03] 26, cOwn (α := Yr) 41 u0_2 r00, cOwn (α := Raw 3) 43 u1_3 rr2_4, cRo Bs3_5, cOwn (α := Int) 3 u4_6 r12, cBlk nb0_1 [v_numbers, I q1, I q2] 101]) H rfl rfl rfl Sz26 rfl rfl rfl (by simp only [List.all_cons, List.all_nil, Bool.true_and, Bool.and_true, Sl.oc (ownSl (H.get (k := 3) rfl)), Sl.oc (rowSl rfl (H.get (k := 4) rfl) (roLe _ (H.get (k := 5) rfl)) hf271z)]; try rfl) rfl rfl ?_
  intro w281z H
  refine s_nil ⟨(H.pick [8, 9, 10, 11, 12, 13, 14] (by decide) rfl), ?_⟩
  refine t_l rfl ?_
  refine t_st (k := 7) (b := b_18) (off := 0) (cs := [.slice none 0 0, .slice none 0 0, I 0, I 0]) (vs := [u0_13, u1_14, I r24, I r32]) (cs' := [u0_13, u1_14, I r24, I r32]) (v := .agg #[u0_13, u1_14, I r24, I r32]) (L' := [cOwn (α := Yr) 41 u0_13 r04, cOwn (α := Raw 3) 43 u1_14 rr2_15, cRo Bs3_16, cOwn (α := Yr) 41 u0_9 r0, cOwn (α := Raw 3) 43 u1_10 rr2_11, cRo Bs3_12, cBlk b_17 [u0_9, u1_10, I r23, I r3] 26, cBlk b_18 [u0_13, u1_14, I r24, I r32] 26, cBlk nb0_8 [v_more, I r13, I r22] 101, cBlk b_7 [u0_2, u1_3, I r02, I r03] 26, cOwn (α := Yr) 41 u0_2 r00, cOwn (α := Raw 3) 43 u1_3 rr2_4, cRo Bs3_5, cOwn (α := Int) 3 u4_6 r12, cBlk nb0_1 [v_numbers, I q1, I q2] 101]) H rfl rfl rfl Sz26 rfl rfl rfl (by simp only [List.all_cons, List.all_nil, Bool.true_and, Bool.and_true, Sl.oc (ownSl (H.get (k := 0) rfl)), Sl.oc (rowSl rfl (H.get (k := 1) rfl) (roLe _ (H.get (k := 2) rfl)) hf278z)]; try rfl) rfl rfl ?_
  intro w282z H
  refine s_nil ⟨(H.pick [8, 9, 10, 11, 12, 13, 14] (by decide) rfl), ?_⟩
  refine t_nil ?_
  exact ⟨b_17, b_18, r0, r14, r23, r3, r04, r15, r24, r32, u0_13, u1_14, u0_9, u1_10, rr2_15, Bs3_16, rr2_11, Bs3_12, _, upds_of _ _ ⟨rfl, rfl, rfl, rfl, rfl, rfl, rfl, trivial⟩, hM, (H.pick [7, 6, 0, 1, 2, 3, 4, 5, 8, 9, 10, 11, 12, 13, 14] (by decide) rfl), hf278z, hf271z⟩
 rintro _ w283z ⟨b_17, b_18, r0, r14, r23, r3, r04, r15, r24, r32, u0_13, u1_14, u0_9, u1_10, rr2_15, Bs3_16, rr2_11, Bs3_12, ρ, rfl, hM, H, hrj284z, hrj285z⟩
 unfold zbb at hM
 refine W.seqJ (fun σ W => ∃ (s : Int) (s2 : Int) (l : List Old10) (v_l : Value) (rw_l : List (Raw 3)) (B_l : Base) (ρ : Env), σ = upds ρ [(2, I at_), (3, I level), (9, .pointer (some ⟨b_7, 0, none⟩)), (10, u4_6), (11, .pointer (some ⟨nb0_8, 0, none⟩)), (12, .pointer (some ⟨b_17, 0, none⟩)), (13, .pointer (some ⟨b_18, 0, none⟩))] /\ (zaP more at_ level r00 r01 r02 r03 r12 r0 r23 r3 r04 r15 r24 r32 s s2 l).Ends r /\ St w W [cBlk b_18 [u0_13, u1_14, I r24, I r32] 26, cBlk b_17 [u0_9, v_l, I r23, I r3] 26, cOwn (α := Yr) 41 u0_13 r04, cOwn (α := Raw 3) 43 u1_14 rr2_15, cRo Bs3_16, cOwn (α := Yr) 41 u0_9 r0, cOwn (α := Raw 3) 43 v_l rw_l, cRo B_l, cBlk nb0_8 [v_more, I s, I s2] 101, cBlk b_7 [u0_2, u1_3, I r02, I r03] 26, cOwn (α := Yr) 41 u0_2 r00, cOwn (α := Raw 3) 43 u1_3 rr2_4, cRo Bs3_5, cOwn (α := Int) 3 u4_6 r12, cBlk nb0_1 [v_numbers, I q1, I q2] 101] R /\ RepR (α := Old10) B_l.cells rw_l l) ?_ ?_
 ·skip
  refine W.seq ?_
  refine W.region rfl ?_
  refine s_val (x_fa (a := .pointer (some ⟨b_17, 0, none⟩)) (v := .pointer (some ⟨b_17, 1, none⟩)) rfl (fa_blk (o := 0) Fd26_1 Sz24)) ?_
  refine s_val (x_ld (p := .pointer (some ⟨b_17, 1, none⟩)) (v := u1_10) rfl (ldb_sc Sc24 (H.blk (k := 1) rfl) rfl)) ?_
  have hl286z := ((rowSl rfl (H.get (k := 6) rfl) (roLe _ (H.get (k := 7) rfl)) hrj285z)).len_le
  refine s_val (x_lenS T24.und rfl (rowSl rfl (H.get (k := 6) rfl) (roLe _ (H.get (k := 7) rfl)) hrj285z)) ?_
  refine s_val (x_cmp (kd := .i64) (a := (r14.length : Int)) (b := 8) (r := decide ((r14.length : Int) < 8)) rfl rfl rfl) ?_
  refine s_nil ?_
  refine W.cond (decide ((r14.length : Int) < 8)) rfl (fun c287z => ?_) (fun c287z => ?_)
  ·replace hM := M.e_t hM c287z
   simp only [decide_eq_true_eq, decide_eq_false_iff_not, beq_iff_eq, bne_iff_ne, beq_eq_false_iff_ne, bne_eq_false_iff_eq, ne_eq, Decidable.not_not] at c287z
   refine W.drawTZ (fun W => St w W [cBlk b_18 [u0_13, u1_14, I r24, I r32] 26, cBlk b_17 [u0_9, u1_10, I r23, I r3] 26, cOwn (α := Yr) 41 u0_13 r04, cOwn (α := Raw 3) 43 u1_14 rr2_15, cRo Bs3_16, cOwn (α := Yr) 41 u0_9 r0, cRo Bs3_12, cBlk b_7 [u0_2, u1_3, I r02, I r03] 26, cOwn (α := Yr) 41 u0_2 r00, cOwn (α := Raw 3) 43 u1_3 rr2_4, cRo Bs3_5, cOwn (α := Int) 3 u4_6 r12, cBlk nb0_1 [v_numbers, I q1, I q2] 101] R) (.q 0 (.q 1 (.q 2 (.q 3 (.q 4 (.l 5 (.l 6 (.l 7 (.q 8 .nil))))))))) 9 9 mixed (by decide +kernel) rfl ?_
   intro w288z hx_
   replace H : St w w288z [cBlk b_18 [u0_13, u1_14, I r24, I r32] 26, cBlk b_17 [u0_9, u1_10, I r23, I r3] 26, cOwn (α := Yr) 41 u0_13 r04, cOwn (α := Raw 3) 43 u1_14 rr2_15, cRo Bs3_16, cOwn (α := Yr) 41 u0_9 r0, cOwn (α := Raw 3) 43 u1_10 rr2_11, cRo Bs3_12, cBlk nb0_8 [v_more, I r13, I r22] 101, cBlk b_7 [u0_2, u1_3, I r02, I r03] 26, cOwn (α := Yr) 41 u0_2 r00, cOwn (α := Raw 3) 43 u1_3 rr2_4, cRo Bs3_5, cOwn (α := Int) 3 u4_6 r12, cBlk nb0_1 [v_numbers, I q1, I q2] 101] R := H.ext hx_
   clear hx_
   refine ⟨(H.pick [0, 1, 2, 3, 4, 5, 7, 9, 10, 11, 12, 13, 14] (by decide) rfl), ?_⟩
   refine tz_q rfl (fun w' H => x_fa (a := .pointer (some ⟨b_17, 0, none⟩)) (v := .pointer (some ⟨b_17, 1, none⟩)) rfl (fa_blk (o := 0) Fd26_1 Sz24)) ?_
   refine tz_q rfl (fun w' H => x_ld (p := .pointer (some ⟨b_17, 1, none⟩)) (v := u1_10) rfl (ldb_sc Sc24 (H.blk (k := 1) rfl) rfl)) ?_
   refine tz_q rfl (fun w' H => x_mv (v := .pointer (some ⟨nb0_8, 0, none⟩)) rfl) ?_
   refine tz_q rfl (fun w' H => x_ld (p := .pointer (some ⟨b_7, 0, none⟩)) (v := .agg #[u0_2, u1_3, I r02, I r03]) rfl (ldb_ag (ds := [u0_2, u1_3, I r02, I r03]) Ag26 Sz26 (H.blk (k := 7) rfl) rfl rfl)) ?_
   refine tz_q rfl (fun w' H => x_mv (v := u4_6) rfl) ?_
   refine tz_l rfl ?_
   obtain ⟨r290z, hx289z, hM⟩ := M.e_bind hM
   refine s_call cf19 [.pointer (some ⟨nb0_8, 0, none⟩), .agg #[u0_2, u1_3, I r02, I r03], u4_6] rfl (zal more r13 r22 r00 r01 r02 r03 r12 (hC_more.app _) hs_more (Reads.of (k := 9) rfl ownLe) (ownSl (H.get (k := 10) rfl)) (Reads.sup (Reads.of (k := 10) rfl ownLe) (Reads.of (k := 11) rfl roLe)) (rowSl rfl (H.get (k := 11) rfl) (roLe _ (H.get (k := 12) rfl)) hf9z) (Reads.of (k := 12) rfl ownLe) (ownSl (H.get (k := 13) rfl)) hx289z _ (St.give (L := [cBlk nb0_8 [v_more, I r13, I r22] 101, cBlk b_18 [u0_13, u1_14, I r24, I r32] 26, cBlk b_17 [u0_9, u1_10, I r23, I r3] 26, cOwn (α := Yr) 41 u0_13 r04, cOwn (α := Raw 3) 43 u1_14 rr2_15, cRo Bs3_16, cOwn (α := Yr) 41 u0_9 r0, cOwn (α := Raw 3) 43 u1_10 rr2_11, cRo Bs3_12, cBlk b_7 [u0_2, u1_3, I r02, I r03] 26, cOwn (α := Yr) 41 u0_2 r00, cOwn (α := Raw 3) 43 u1_3 rr2_4, cRo Bs3_5, cOwn (α := Int) 3 u4_6 r12, cBlk nb0_1 [v_numbers, I q1, I q2] 101]) (A := [cBlk nb0_8 [v_more, I r13, I r22] 101]) (T := [cBlk b_18 [u0_13, u1_14, I r24, I r32] 26, cBlk b_17 [u0_9, u1_10, I r23, I r3] 26, cOwn (α := Yr) 41 u0_13 r04, cOwn (α := Raw 3) 43 u1_14 rr2_15, cRo Bs3_16, cOwn (α := Yr) 41 u0_9 r0, cOwn (α := Raw 3) 43 u1_10 rr2_11, cRo Bs3_12, cBlk b_7 [u0_2, u1_3, I r02, I r03] 26, cOwn (α := Yr) 41 u0_2 r00, cOwn (α := Raw 3) 43 u1_3 rr2_4, cRo Bs3_5, cOwn (α := Int) 3 u4_6 r12, cBlk nb0_1 [v_numbers, I q1, I q2] 101]) (H.pick [8, 0, 1, 2, 3, 4, 5, 6, 7, 9, 10, 11, 12, 13, 14] (by decide) rfl) rfl)) ?_
   rintro vq w291z ⟨r05, r16, r25, r33, q12, q22, u0_19, hr292z, hvq, H2_⟩
   subst hr292z
   subst vq
   try dsimp only at hM
   replace H : St w w291z [cOwn (α := Int) 3 u0_19 r33, cBlk nb0_8 [v_more, I q12, I q22] 101, cBlk b_18 [u0_13, u1_14, I r24, I r32] 26, cBlk b_17 [u0_9, u1_10, I r23, I r3] 26, cOwn (α := Yr) 41 u0_13 r04, cOwn (α := Raw 3) 43 u1_14 rr2_15, cRo Bs3_16, cOwn (α := Yr) 41 u0_9 r0, cOwn (α := Raw 3) 43 u1_10 rr2_11, cRo Bs3_12, cBlk b_7 [u0_2, u1_3, I r02, I r03] 26, cOwn (α := Yr) 41 u0_2 r00, cOwn (α := Raw 3) 43 u1_3 rr2_4, cRo Bs3_5, cOwn (α := Int) 3 u4_6 r12, cBlk nb0_1 [v_numbers, I q1, I q2] 101] R := H.pick [8, 0, 1, 2, 3, 4, 5, 6, 7, 9, 10, 11, 12, 13, 14] (by decide) rfl |>.back H2_ rfl
   clear H2_
   have hvc_q293z := Sl.cells (ownSl (H.get (k := 0) rfl))
   have hvo_q293z := Sl.oc (ownSl (H.get (k := 0) rfl))
   have hvc_q294z := Sl.cells (ownSl (H.get (k := 8) rfl))
   have hvo_q294z := Sl.oc (ownSl (H.get (k := 8) rfl))
   refine s_nil ⟨(H.pick [2, 3, 4, 5, 6, 7, 9, 10, 11, 12, 13, 14, 15] (by decide) rfl), ?_⟩
   refine tz_l rfl ?_
   obtain ⟨Bs_20, H⟩ := H.emptyE
   obtain ⟨Bs_21, H, hs296z⟩ := H.freezeE (k := 1) rfl
   replace H : St w w291z [cRo Bs_20, cRo Bs_21, cBlk nb0_8 [v_more, I q12, I q22] 101, cBlk b_18 [u0_13, u1_14, I r24, I r32] 26, cBlk b_17 [u0_9, u1_10, I r23, I r3] 26, cOwn (α := Yr) 41 u0_13 r04, cOwn (α := Raw 3) 43 u1_14 rr2_15, cRo Bs3_16, cOwn (α := Yr) 41 u0_9 r0, cOwn (α := Raw 3) 43 u1_10 rr2_11, cRo Bs3_12, cBlk b_7 [u0_2, u1_3, I r02, I r03] 26, cOwn (α := Yr) 41 u0_2 r00, cOwn (α := Raw 3) 43 u1_3 rr2_4, cRo Bs3_5, cOwn (α := Int) 3 u4_6 r12, cBlk nb0_1 [v_numbers, I q1, I q2] 101] R := H
   have hq295z := hs296z
   obtain ⟨Bs_22, H, le297z, le298z⟩ := H.joinE (i := 0) (j := 1) rfl rfl
   replace hq295z := hq295z.mono le298z
   obtain ⟨rw299z, hrw_rw299z⟩ : ∃ r : Raw 3, r.cs = [I r05, I r16, I r25, u0_19] := ⟨Raw.of [I r05, I r16, I r25, u0_19] rfl (by simp only [List.all_cons, List.all_nil, Bool.true_and, Bool.and_true, Sl.oc hq295z]; try rfl), rfl⟩
   have hr300z : RepR (α := Old10) Bs_22.cells [rw299z] [(⟨(r05 : Int), (r16 : Int), (r25 : Int), r33⟩ : Old10)] := .cons (by rw [hrw_rw299z]; exact ⟨_, rfl, hq295z⟩) <| .nil
   refine t_bs (α := Raw 3) T24 [.agg #[I r05, I r16, I r25, u0_19]] [rw299z] H rfl (.cons (by rw [show (Flat.enc rw299z : List Value) = rw299z.cs from rfl, hrw_rw299z]; rfl) (Flat.rep_enc _ _) <| .nil) rfl rfl rfl ?_
   intro v301z w302z H
   replace H : St w w302z [cOwn (α := Raw 3) 43 v301z ([rw299z]), cRo Bs_22, cRo Bs_20, cRo Bs_21, cBlk nb0_8 [v_more, I q12, I q22] 101, cBlk b_18 [u0_13, u1_14, I r24, I r32] 26, cBlk b_17 [u0_9, u1_10, I r23, I r3] 26, cOwn (α := Yr) 41 u0_13 r04, cOwn (α := Raw 3) 43 u1_14 rr2_15, cRo Bs3_16, cOwn (α := Yr) 41 u0_9 r0, cOwn (α := Raw 3) 43 u1_10 rr2_11, cRo Bs3_12, cBlk b_7 [u0_2, u1_3, I r02, I r03] 26, cOwn (α := Yr) 41 u0_2 r00, cOwn (α := Raw 3) 43 u1_3 rr2_4, cRo Bs3_5, cOwn (α := Int) 3 u4_6 r12, cBlk nb0_1 [v_numbers, I q1, I q2] 101] R := H
   have hvc_q303z := Sl.cells (ownSl (H.get (k := 0) rfl))
   have hvo_q303z := Sl.oc (ownSl (H.get (k := 0) rfl))
   refine s_nil ⟨(H.pick [5, 6, 7, 8, 9, 10, 12, 13, 14, 15, 16, 17, 18] (by decide) rfl), ?_⟩
   refine tz_l rfl ?_
   obtain ⟨sd304z, hM⟩ := M.e_grd hM
   simp only [Bool.and_eq_true, decide_eq_true_eq] at sd304z
   have hr305z := hr300z
   obtain ⟨Bs_24, H, le306z, le307z⟩ := H.joinE (i := 12) (j := 1) rfl rfl
   replace hrj285z := hrj285z.mono le306z
   replace hr305z := hr305z.mono le307z
   have hr310z := hrj285z.app hr305z
   refine t_app (α := Raw 3) (k := 12) (l := rr2_11) (l2 := [rw299z]) (l' := rr2_11 ++ ([rw299z])) (vy := v301z) T24 rfl H rfl rfl rfl (ownSl (H.get (k := 1) rfl)) (ownLe _ (H.get (k := 1) rfl)) (rfl) (by have a_ := hrj285z.len; have b_ := hr305z.len; (try simp only [List.length_nil] at *); first | omega | (rw [a_, b_]; omega)) ?_
   intro v308z w309z H
   replace H : St w w309z [cRo Bs_24, cOwn (α := Raw 3) 43 v301z ([rw299z]), cRo Bs_22, cRo Bs_20, cRo Bs_21, cBlk nb0_8 [v_more, I q12, I q22] 101, cBlk b_18 [u0_13, u1_14, I r24, I r32] 26, cBlk b_17 [u0_9, u1_10, I r23, I r3] 26, cOwn (α := Yr) 41 u0_13 r04, cOwn (α := Raw 3) 43 u1_14 rr2_15, cRo Bs3_16, cOwn (α := Yr) 41 u0_9 r0, cOwn (α := Raw 3) 43 v308z (rr2_11 ++ ([rw299z])), cRo Bs3_12, cBlk b_7 [u0_2, u1_3, I r02, I r03] 26, cOwn (α := Yr) 41 u0_2 r00, cOwn (α := Raw 3) 43 u1_3 rr2_4, cRo Bs3_5, cOwn (α := Int) 3 u4_6 r12, cBlk nb0_1 [v_numbers, I q1, I q2] 101] R := H
   have hvc_q311z := Sl.cells (ownSl (H.get (k := 12) rfl))
   have hvo_q311z := Sl.oc (ownSl (H.get (k := 12) rfl))
   refine s_nil ⟨(H.pick [6, 7, 8, 9, 10, 11, 13, 14, 15, 16, 17, 18, 19] (by decide) rfl), ?_⟩
   refine tz_q rfl (fun w' H => x_fa (a := .pointer (some ⟨b_17, 0, none⟩)) (v := .pointer (some ⟨b_17, 1, none⟩)) rfl (fa_blk (o := 0) Fd26_1 Sz24)) ?_
   refine tz_nil rfl ?_
   refine t_st (k := 7) (b := b_17) (off := 1) (cs := [u0_9, u1_10, I r23, I r3]) (vs := [v308z]) (cs' := [u0_9, v308z, I r23, I r3]) (v := v308z) (L' := [cRo Bs_24, cOwn (α := Raw 3) 43 v301z ([rw299z]), cRo Bs_22, cRo Bs_20, cRo Bs_21, cBlk nb0_8 [v_more, I q12, I q22] 101, cBlk b_18 [u0_13, u1_14, I r24, I r32] 26, cBlk b_17 [u0_9, v308z, I r23, I r3] 26, cOwn (α := Yr) 41 u0_13 r04, cOwn (α := Raw 3) 43 u1_14 rr2_15, cRo Bs3_16, cOwn (α := Yr) 41 u0_9 r0, cOwn (α := Raw 3) 43 v308z (rr2_11 ++ ([rw299z])), cRo Bs3_12, cBlk b_7 [u0_2, u1_3, I r02, I r03] 26, cOwn (α := Yr) 41 u0_2 r00, cOwn (α := Raw 3) 43 u1_3 rr2_4, cRo Bs3_5, cOwn (α := Int) 3 u4_6 r12, cBlk nb0_1 [v_numbers, I q1, I q2] 101]) H rfl rfl rfl Sz24 (Sl.cells (rowSl rfl (H.get (k := 12) rfl) (roLe _ (H.get (k := 0) rfl)) hr310z)) rfl rfl (by simp only [List.all_cons, List.all_nil, Bool.true_and, Bool.and_true, Sl.oc (rowSl rfl (H.get (k := 12) rfl) (roLe _ (H.get (k := 0) rfl)) hr310z)]; try rfl) rfl rfl ?_
   intro w312z H
   refine s_nil ⟨trivial, ?_⟩
   exact ⟨q12, q22, r14 ++ ([(⟨(r05 : Int), (r16 : Int), (r25 : Int), r33⟩ : Old10)]), v308z, rr2_11 ++ ([rw299z]), Bs_24, _, upds_of _ _ ⟨rfl, rfl, rfl, rfl, rfl, rfl, rfl, trivial⟩, hM, (H.pick [6, 7, 8, 9, 10, 11, 12, 0, 5, 14, 15, 16, 17, 18, 19] (by decide) rfl), hr310z⟩
  replace hM := M.e_f hM c287z
  simp only [decide_eq_true_eq, decide_eq_false_iff_not, beq_iff_eq, bne_iff_ne, beq_eq_false_iff_ne, bne_eq_false_iff_eq, ne_eq, Decidable.not_not] at c287z
  refine W.skip ?_
  exact ⟨r13, r22, r14, u1_10, rr2_11, Bs3_12, _, upds_of _ _ ⟨rfl, rfl, rfl, rfl, rfl, rfl, rfl, trivial⟩, hM, H, hrj285z⟩
 rintro _ w313z ⟨s, s2, l, v_l, rw_l, B_l, ρ, rfl, hM, H, hr_l⟩
 unfold zaP at hM
 refine W.seqJ (fun σ W => ∃ (l2 : List Yr) (s3 : Int) (s4 : Int) (v_l2 : Value) (ρ : Env), σ = upds ρ [(2, I at_), (3, I level), (9, .pointer (some ⟨b_7, 0, none⟩)), (10, u4_6), (12, .pointer (some ⟨b_17, 0, none⟩)), (13, .pointer (some ⟨b_18, 0, none⟩))] /\ (zaz at_ level r00 r01 r02 r03 r12 r0 r23 r3 r15 r24 r32 l l2 s3 s4).Ends r /\ St w W [cBlk nb0_8 [v_more, I s3, I s4] 101, cBlk b_18 [v_l2, u1_14, I r24, I r32] 26, cBlk b_17 [u0_9, v_l, I r23, I r3] 26, cOwn (α := Yr) 41 v_l2 l2, cOwn (α := Raw 3) 43 u1_14 rr2_15, cRo Bs3_16, cOwn (α := Yr) 41 u0_9 r0, cOwn (α := Raw 3) 43 v_l rw_l, cRo B_l, cBlk b_7 [u0_2, u1_3, I r02, I r03] 26, cOwn (α := Yr) 41 u0_2 r00, cOwn (α := Raw 3) 43 u1_3 rr2_4, cRo Bs3_5, cOwn (α := Int) 3 u4_6 r12, cBlk nb0_1 [v_numbers, I q1, I q2] 101] R) ?_ ?_
 ·skip
  refine W.seq ?_
  refine W.region rfl ?_
  refine s_val (x_fa (a := .pointer (some ⟨b_18, 0, none⟩)) (v := .pointer (some ⟨b_18, 0, none⟩)) rfl (fa_blk (o := 0) Fd26_0 Sz23)) ?_
  refine s_val (x_ld (p := .pointer (some ⟨b_18, 0, none⟩)) (v := u0_13) rfl (ldb_sc Sc23 (H.blk (k := 0) rfl) rfl)) ?_
  have hl314z := ((ownSl (H.get (k := 2) rfl))).len_le
  refine s_val (x_lenS T23.und rfl (ownSl (H.get (k := 2) rfl))) ?_
  refine s_val (x_cmp (kd := .i64) (a := (r04.length : Int)) (b := 0) (r := decide (0 < (r04.length : Int))) rfl rfl rfl) ?_
  refine s_nil ?_
  refine W.cond (decide (0 < (r04.length : Int))) rfl (fun c315z => ?_) (fun c315z => ?_)
  ·replace hM := M.e_t hM c315z
   simp only [decide_eq_true_eq, decide_eq_false_iff_not, beq_iff_eq, bne_iff_ne, beq_eq_false_iff_ne, bne_eq_false_iff_eq, ne_eq, Decidable.not_not] at c315z
   refine W.seq ?_
   refine W.draw (fun W => St w W [cBlk b_18 [u0_13, u1_14, I r24, I r32] 26, cBlk b_17 [u0_9, v_l, I r23, I r3] 26, cOwn (α := Yr) 41 u0_13 r04, cOwn (α := Raw 3) 43 u1_14 rr2_15, cRo Bs3_16, cOwn (α := Yr) 41 u0_9 r0, cOwn (α := Raw 3) 43 v_l rw_l, cRo B_l, cBlk b_7 [u0_2, u1_3, I r02, I r03] 26, cOwn (α := Yr) 41 u0_2 r00, cOwn (α := Raw 3) 43 u1_3 rr2_4, cRo Bs3_5, cOwn (α := Int) 3 u4_6 r12, cBlk nb0_1 [v_numbers, I q1, I q2] 101] R) [(0, true), (1, true), (2, true), (3, true), (4, true), (5, true), (6, false), (7, true), (8, true)] mixed (by decide +kernel) rfl ?_
   intro w316z hx_
   replace H : St w w316z [cBlk b_18 [u0_13, u1_14, I r24, I r32] 26, cBlk b_17 [u0_9, v_l, I r23, I r3] 26, cOwn (α := Yr) 41 u0_13 r04, cOwn (α := Raw 3) 43 u1_14 rr2_15, cRo Bs3_16, cOwn (α := Yr) 41 u0_9 r0, cOwn (α := Raw 3) 43 v_l rw_l, cRo B_l, cBlk nb0_8 [v_more, I s, I s2] 101, cBlk b_7 [u0_2, u1_3, I r02, I r03] 26, cOwn (α := Yr) 41 u0_2 r00, cOwn (α := Raw 3) 43 u1_3 rr2_4, cRo Bs3_5, cOwn (α := Int) 3 u4_6 r12, cBlk nb0_1 [v_numbers, I q1, I q2] 101] R := H.ext hx_
   clear hx_
   refine ⟨(H.pick [0, 1, 2, 3, 4, 5, 6, 7, 9, 10, 11, 12, 13, 14] (by decide) rfl), ?_⟩
   refine d_q rfl (fun w' H => x_fa (a := .pointer (some ⟨b_18, 0, none⟩)) (v := .pointer (some ⟨b_18, 0, none⟩)) rfl (fa_blk (o := 0) Fd26_0 Sz23)) ?_
   refine d_q rfl (fun w' H => x_ld (p := .pointer (some ⟨b_18, 0, none⟩)) (v := u0_13) rfl (ldb_sc Sc23 (H.blk (k := 0) rfl) rfl)) ?_
   refine d_q rfl (fun w' H => x_mv (v := .pointer (some ⟨nb0_8, 0, none⟩)) rfl) ?_
   refine d_q rfl (fun w' H => x_fa (a := .pointer (some ⟨b_18, 0, none⟩)) (v := .pointer (some ⟨b_18, 0, none⟩)) rfl (fa_blk (o := 0) Fd26_0 Sz23)) ?_
   refine d_q rfl (fun w' H => x_ld (p := .pointer (some ⟨b_18, 0, none⟩)) (v := u0_13) rfl (ldb_sc Sc23 (H.blk (k := 0) rfl) rfl)) ?_
   have hl317z := ((ownSl (H.get (k := 2) rfl))).len_le
   refine d_q rfl (fun w' H => x_lenS T23.und rfl (ownSl (H.get (k := 2) rfl))) ?_
   refine d_l rfl ?_
   obtain ⟨r319z, hx318z, hM⟩ := M.e_bind hM
   refine s_call cf14 [.pointer (some ⟨nb0_8, 0, none⟩), I (r04.length : Int)] rfl (zaa more s s2 (r04.length : Int) (hC_more.app _) hs_more hx318z _ (St.give (L := [cBlk nb0_8 [v_more, I s, I s2] 101, cBlk b_18 [u0_13, u1_14, I r24, I r32] 26, cBlk b_17 [u0_9, v_l, I r23, I r3] 26, cOwn (α := Yr) 41 u0_13 r04, cOwn (α := Raw 3) 43 u1_14 rr2_15, cRo Bs3_16, cOwn (α := Yr) 41 u0_9 r0, cOwn (α := Raw 3) 43 v_l rw_l, cRo B_l, cBlk b_7 [u0_2, u1_3, I r02, I r03] 26, cOwn (α := Yr) 41 u0_2 r00, cOwn (α := Raw 3) 43 u1_3 rr2_4, cRo Bs3_5, cOwn (α := Int) 3 u4_6 r12, cBlk nb0_1 [v_numbers, I q1, I q2] 101]) (A := [cBlk nb0_8 [v_more, I s, I s2] 101]) (T := [cBlk b_18 [u0_13, u1_14, I r24, I r32] 26, cBlk b_17 [u0_9, v_l, I r23, I r3] 26, cOwn (α := Yr) 41 u0_13 r04, cOwn (α := Raw 3) 43 u1_14 rr2_15, cRo Bs3_16, cOwn (α := Yr) 41 u0_9 r0, cOwn (α := Raw 3) 43 v_l rw_l, cRo B_l, cBlk b_7 [u0_2, u1_3, I r02, I r03] 26, cOwn (α := Yr) 41 u0_2 r00, cOwn (α := Raw 3) 43 u1_3 rr2_4, cRo Bs3_5, cOwn (α := Int) 3 u4_6 r12, cBlk nb0_1 [v_numbers, I q1, I q2] 101]) (H.pick [8, 0, 1, 2, 3, 4, 5, 6, 7, 9, 10, 11, 12, 13, 14] (by decide) rfl) rfl)) ?_
   rintro vq w320z ⟨r4, q13, q23, hr321z, hvq, H2_⟩
   subst hr321z
   subst vq
   try dsimp only at hM
   replace H : St w w320z [cBlk nb0_8 [v_more, I q13, I q23] 101, cBlk b_18 [u0_13, u1_14, I r24, I r32] 26, cBlk b_17 [u0_9, v_l, I r23, I r3] 26, cOwn (α := Yr) 41 u0_13 r04, cOwn (α := Raw 3) 43 u1_14 rr2_15, cRo Bs3_16, cOwn (α := Yr) 41 u0_9 r0, cOwn (α := Raw 3) 43 v_l rw_l, cRo B_l, cBlk b_7 [u0_2, u1_3, I r02, I r03] 26, cOwn (α := Yr) 41 u0_2 r00, cOwn (α := Raw 3) 43 u1_3 rr2_4, cRo Bs3_5, cOwn (α := Int) 3 u4_6 r12, cBlk nb0_1 [v_numbers, I q1, I q2] 101] R := H.pick [8, 0, 1, 2, 3, 4, 5, 6, 7, 9, 10, 11, 12, 13, 14] (by decide) rfl |>.back H2_ rfl
   clear H2_
   refine s_nil ⟨(H.pick [1, 2, 3, 4, 5, 6, 7, 8, 9, 10, 11, 12, 13, 14] (by decide) rfl), ?_⟩
   obtain ⟨sd322z, hM⟩ := M.e_grd hM
   simp only [Bool.and_eq_true, decide_eq_true_eq] at sd322z
   refine d_q rfl (fun w' H => x_ix (a := u0_13) (b := I r4) (v := vat u0_13 3 (Int.toNat r4)) rfl rfl (Sl.ix (α := Yr) T23.und T23.size (ownSl (H.get (k := 2) rfl)) (by omega) (by omega))) ?_
   refine d_q rfl (fun w' H => x_as (v := vat u0_13 3 (Int.toNat r4)) rfl) ?_
   refine d_nil ?_
   refine W.drawTZ (fun W => St w W [cBlk b_18 [u0_13, u1_14, I r24, I r32] 26, cBlk b_17 [u0_9, v_l, I r23, I r3] 26, cOwn (α := Yr) 41 u0_13 r04, cOwn (α := Raw 3) 43 u1_14 rr2_15, cRo Bs3_16, cOwn (α := Yr) 41 u0_9 r0, cOwn (α := Raw 3) 43 v_l rw_l, cRo B_l, cBlk b_7 [u0_2, u1_3, I r02, I r03] 26, cOwn (α := Yr) 41 u0_2 r00, cOwn (α := Raw 3) 43 u1_3 rr2_4, cRo Bs3_5, cOwn (α := Int) 3 u4_6 r12, cBlk nb0_1 [v_numbers, I q1, I q2] 101] R) (.q 0 (.q 1 (.q 2 (.q 3 (.q 4 (.q 5 (.q 6 (.q 10 (.q 11 (.q 12 (.q 13 (.q 14 (.q 15 (.l 7 (.q 8 (.q 9 (.l 16 (.q 17 (.q 18 (.q 19 (.l 20 (.l 21 .nil)))))))))))))))))))))) 22 22 mixed (by decide +kernel) rfl ?_
   intro w323z hx_
   replace H : St w w323z [cBlk nb0_8 [v_more, I q13, I q23] 101, cBlk b_18 [u0_13, u1_14, I r24, I r32] 26, cBlk b_17 [u0_9, v_l, I r23, I r3] 26, cOwn (α := Yr) 41 u0_13 r04, cOwn (α := Raw 3) 43 u1_14 rr2_15, cRo Bs3_16, cOwn (α := Yr) 41 u0_9 r0, cOwn (α := Raw 3) 43 v_l rw_l, cRo B_l, cBlk b_7 [u0_2, u1_3, I r02, I r03] 26, cOwn (α := Yr) 41 u0_2 r00, cOwn (α := Raw 3) 43 u1_3 rr2_4, cRo Bs3_5, cOwn (α := Int) 3 u4_6 r12, cBlk nb0_1 [v_numbers, I q1, I q2] 101] R := H.ext hx_
   clear hx_
   refine ⟨(H.pick [1, 2, 3, 4, 5, 6, 7, 8, 9, 10, 11, 12, 13, 14] (by decide) rfl), ?_⟩
   refine tz_q rfl (fun w' H => x_mv (v := vat u0_13 3 (Int.toNat r4)) rfl) ?_
   refine tz_q rfl (fun w' H => x_mv (v := vat u0_13 3 (Int.toNat r4)) rfl) ?_
   refine tz_q rfl (fun w' H => x_ncE (p := vat u0_13 3 (Int.toNat r4)) rfl (Sl.pl (i := r4) (ownSl (H.get (k := 2) rfl)) (by omega) (by omega))) ?_
   refine tz_q rfl (fun w' H => x_fa (a := vat u0_13 3 (Int.toNat r4)) (v := fat (vat u0_13 3 (Int.toNat r4)) 1) rfl (fa_pl Fd41_1 Sz35 (Sl.pl (i := r4) (ownSl (H.get (k := 2) rfl)) (by omega) (by omega)))) ?_
   refine tz_q rfl (fun w' H => x_fa (a := fat (vat u0_13 3 (Int.toNat r4)) 1) (v := fat (vat u0_13 3 (Int.toNat r4)) 1) rfl (fa_pl2 (a := 1) (c := 1) Fd35_0 Sz3 (Sl.pl (i := r4) (ownSl (H.get (k := 2) rfl)) (by omega) (by omega)) rfl)) ?_
   refine tz_q rfl (fun w' H => x_ld (p := fat (vat u0_13 3 (Int.toNat r4)) 1) (v := I ((r04.getD (Int.toNat r4) default).lo)) rfl (ld_sc Sc3 (At.mono (Yr_at1 (ownSl (H.get (k := 2) rfl)) (i := r4) (by omega) (by omega)) (ownLe _ (H.get (k := 2) rfl))))) ?_
   refine tz_q rfl (fun w' H => x_mv (v := .pointer (some ⟨nb0_8, 0, none⟩)) rfl) ?_
   refine tz_q rfl (fun w' H => x_mv (v := vat u0_13 3 (Int.toNat r4)) rfl) ?_
   refine tz_q rfl (fun w' H => x_ncE (p := vat u0_13 3 (Int.toNat r4)) rfl (Sl.pl (i := r4) (ownSl (H.get (k := 2) rfl)) (by omega) (by omega))) ?_
   refine tz_q rfl (fun w' H => x_fa (a := vat u0_13 3 (Int.toNat r4)) (v := fat (vat u0_13 3 (Int.toNat r4)) 1) rfl (fa_pl Fd41_1 Sz35 (Sl.pl (i := r4) (ownSl (H.get (k := 2) rfl)) (by omega) (by omega)))) ?_
   refine tz_q rfl (fun w' H => x_fa (a := fat (vat u0_13 3 (Int.toNat r4)) 1) (v := fat (vat u0_13 3 (Int.toNat r4)) 2) rfl (fa_pl2 (a := 1) (c := 2) Fd35_1 Sz3 (Sl.pl (i := r4) (ownSl (H.get (k := 2) rfl)) (by omega) (by omega)) rfl)) ?_
   refine tz_q rfl (fun w' H => x_ld (p := fat (vat u0_13 3 (Int.toNat r4)) 2) (v := I ((r04.getD (Int.toNat r4) default).hi)) rfl (ld_sc Sc3 (At.mono (Yr_at2 (ownSl (H.get (k := 2) rfl)) (i := r4) (by omega) (by omega)) (ownLe _ (H.get (k := 2) rfl))))) ?_
   refine tz_q rfl (fun w' H => x_mv (v := .pointer (some ⟨nb0_8, 0, none⟩)) rfl) ?_
   refine tz_l rfl ?_
   obtain ⟨r325z, hx324z, hM⟩ := M.e_bind hM
   refine s_call cf14 [.pointer (some ⟨nb0_8, 0, none⟩), I 30] rfl (zaa more q13 q23 30 (hC_more.app _) hs_more hx324z _ (St.give (T := [cBlk b_18 [u0_13, u1_14, I r24, I r32] 26, cBlk b_17 [u0_9, v_l, I r23, I r3] 26, cOwn (α := Yr) 41 u0_13 r04, cOwn (α := Raw 3) 43 u1_14 rr2_15, cRo Bs3_16, cOwn (α := Yr) 41 u0_9 r0, cOwn (α := Raw 3) 43 v_l rw_l, cRo B_l, cBlk b_7 [u0_2, u1_3, I r02, I r03] 26, cOwn (α := Yr) 41 u0_2 r00, cOwn (α := Raw 3) 43 u1_3 rr2_4, cRo Bs3_5, cOwn (α := Int) 3 u4_6 r12, cBlk nb0_1 [v_numbers, I q1, I q2] 101]) H rfl)) ?_
   rintro vq w326z ⟨r5, q14, q24, hr327z, hvq, H2_⟩
   subst hr327z
   subst vq
   try dsimp only at hM
   replace H : St w w326z [cBlk nb0_8 [v_more, I q14, I q24] 101, cBlk b_18 [u0_13, u1_14, I r24, I r32] 26, cBlk b_17 [u0_9, v_l, I r23, I r3] 26, cOwn (α := Yr) 41 u0_13 r04, cOwn (α := Raw 3) 43 u1_14 rr2_15, cRo Bs3_16, cOwn (α := Yr) 41 u0_9 r0, cOwn (α := Raw 3) 43 v_l rw_l, cRo B_l, cBlk b_7 [u0_2, u1_3, I r02, I r03] 26, cOwn (α := Yr) 41 u0_2 r00, cOwn (α := Raw 3) 43 u1_3 rr2_4, cRo Bs3_5, cOwn (α := Int) 3 u4_6 r12, cBlk nb0_1 [v_numbers, I q1, I q2] 101] R := H.back H2_ rfl
   clear H2_
   refine s_nil ⟨(H.pick [1, 2, 3, 4, 5, 6, 7, 8, 9, 10, 11, 12, 13, 14] (by decide) rfl), ?_⟩
   obtain ⟨sd328z, hM⟩ := M.e_grd hM
   simp only [Bool.and_eq_true, decide_eq_true_eq] at sd328z
   refine tz_q rfl (fun w' H => x_ari (a := (r04.getD (Int.toNat r4) default).lo) (b := r5) (r := ((r04.getD (Int.toNat r4) default).lo) - r5) rfl rfl rfl (by omega)) ?_
   refine tz_q rfl (fun w' H => x_max (kd := .i64) (a := 0) (b := ((r04.getD (Int.toNat r4) default).lo) - r5) rfl rfl) ?_
   refine tz_l rfl ?_
   obtain ⟨r330z, hx329z, hM⟩ := M.e_bind hM
   refine s_call cf14 [.pointer (some ⟨nb0_8, 0, none⟩), I 30] rfl (zaa more q14 q24 30 (hC_more.app _) hs_more hx329z _ (St.give (T := [cBlk b_18 [u0_13, u1_14, I r24, I r32] 26, cBlk b_17 [u0_9, v_l, I r23, I r3] 26, cOwn (α := Yr) 41 u0_13 r04, cOwn (α := Raw 3) 43 u1_14 rr2_15, cRo Bs3_16, cOwn (α := Yr) 41 u0_9 r0, cOwn (α := Raw 3) 43 v_l rw_l, cRo B_l, cBlk b_7 [u0_2, u1_3, I r02, I r03] 26, cOwn (α := Yr) 41 u0_2 r00, cOwn (α := Raw 3) 43 u1_3 rr2_4, cRo Bs3_5, cOwn (α := Int) 3 u4_6 r12, cBlk nb0_1 [v_numbers, I q1, I q2] 101]) H rfl)) ?_
   rintro vq w331z ⟨r6, q15, q25, hr332z, hvq, H2_⟩
   subst hr332z
   subst vq
   try dsimp only at hM
   replace H : St w w331z [cBlk nb0_8 [v_more, I q15, I q25] 101, cBlk b_18 [u0_13, u1_14, I r24, I r32] 26, cBlk b_17 [u0_9, v_l, I r23, I r3] 26, cOwn (α := Yr) 41 u0_13 r04, cOwn (α := Raw 3) 43 u1_14 rr2_15, cRo Bs3_16, cOwn (α := Yr) 41 u0_9 r0, cOwn (α := Raw 3) 43 v_l rw_l, cRo B_l, cBlk b_7 [u0_2, u1_3, I r02, I r03] 26, cOwn (α := Yr) 41 u0_2 r00, cOwn (α := Raw 3) 43 u1_3 rr2_4, cRo Bs3_5, cOwn (α := Int) 3 u4_6 r12, cBlk nb0_1 [v_numbers, I q1, I q2] 101] R := H.back H2_ rfl
   clear H2_
   refine s_nil ⟨(H.pick [1, 2, 3, 4, 5, 6, 7, 8, 9, 10, 11, 12, 13, 14] (by decide) rfl), ?_⟩
   obtain ⟨sd333z, hM⟩ := M.e_grd hM
   simp only [Bool.and_eq_true, decide_eq_true_eq] at sd333z
   refine tz_q rfl (fun w' H => x_ari (a := (r04.getD (Int.toNat r4) default).hi) (b := r6) (r := ((r04.getD (Int.toNat r4) default).hi) + r6) rfl rfl rfl (by omega)) ?_
   refine tz_q rfl (fun w' H => x_min (kd := .i64) (a := 2000) (b := ((r04.getD (Int.toNat r4) default).hi) + r6) rfl rfl) ?_
   refine tz_q rfl (fun w' H => x_bld (ps := [(0, I (max 0 (((r04.getD (Int.toNat r4) default).lo) - r5))), (1, I (min 2000 (((r04.getD (Int.toNat r4) default).hi) + r6)))]) (zs := [I 0, I 0]) (L' := [I (max 0 (((r04.getD (Int.toNat r4) default).lo) - r5)), I (min 2000 (((r04.getD (Int.toNat r4) default).hi) + r6))]) rfl Try.underlying35 Al35 rfl (Bd35 Try.underlying35) (.cons (cs := [I (max 0 (((r04.getD (Int.toNat r4) default).lo) - r5))]) rfl rfl rfl rfl rfl <| .cons (cs := [I (min 2000 (((r04.getD (Int.toNat r4) default).hi) + r6))]) rfl rfl rfl rfl rfl <| .nil)) ?_
   refine tz_l rfl ?_
   refine s_val (x_ncE (p := vat u0_13 3 (Int.toNat r4)) rfl (Sl.pl (i := r4) (ownSl (H.get (k := 3) rfl)) (by omega) (by omega))) ?_
   refine s_nil ⟨(H.pick [1, 2, 3, 4, 5, 6, 7, 8, 9, 10, 11, 12, 13, 14] (by decide) rfl), ?_⟩
   refine tz_l rfl ?_
   refine s_val (x_fa (a := vat u0_13 3 (Int.toNat r4)) (v := fat (vat u0_13 3 (Int.toNat r4)) 1) rfl (fa_pl Fd41_1 Sz35 (Sl.pl (i := r4) (ownSl (H.get (k := 3) rfl)) (by omega) (by omega)))) ?_
   refine s_nil ⟨(H.pick [1, 2, 3, 4, 5, 6, 7, 8, 9, 10, 11, 12, 13, 14] (by decide) rfl), ?_⟩
   refine tz_nil rfl ?_
   refine t_fst (α := Yr) (k := 3) (i := r4) (off := 1) (l := r04) (l' := r04.set (Int.toNat r4) ({ (r04.getD (Int.toNat r4) default) with lo := max 0 (((r04.getD (Int.toNat r4) default).lo) - r5), hi := min 2000 (((r04.getD (Int.toNat r4) default).hi) + r6) })) (val := .agg #[I (max 0 (((r04.getD (Int.toNat r4) default).lo) - r5)), I (min 2000 (((r04.getD (Int.toNat r4) default).hi) + r6))]) (L' := [cBlk nb0_8 [v_more, I q15, I q25] 101, cBlk b_18 [u0_13, u1_14, I r24, I r32] 26, cBlk b_17 [u0_9, v_l, I r23, I r3] 26, cOwn (α := Yr) 41 u0_13 (r04.set (Int.toNat r4) ({ (r04.getD (Int.toNat r4) default) with lo := max 0 (((r04.getD (Int.toNat r4) default).lo) - r5), hi := min 2000 (((r04.getD (Int.toNat r4) default).hi) + r6) })), cOwn (α := Raw 3) 43 u1_14 rr2_15, cRo Bs3_16, cOwn (α := Yr) 41 u0_9 r0, cOwn (α := Raw 3) 43 v_l rw_l, cRo B_l, cBlk b_7 [u0_2, u1_3, I r02, I r03] 26, cOwn (α := Yr) 41 u0_2 r00, cOwn (α := Raw 3) 43 u1_3 rr2_4, cRo Bs3_5, cOwn (α := Int) 3 u4_6 r12, cBlk nb0_1 [v_numbers, I q1, I q2] 101]) H rfl Sz35 (by omega) (by omega) (r04.getD (Int.toNat r4) default) ({ (r04.getD (Int.toNat r4) default) with lo := max 0 (((r04.getD (Int.toNat r4) default).lo) - r5), hi := min 2000 (((r04.getD (Int.toNat r4) default).hi) + r6) }) (getD_some _ (by omega) _) rfl rfl [I (max 0 (((r04.getD (Int.toNat r4) default).lo) - r5)), I (min 2000 (((r04.getD (Int.toNat r4) default).hi) + r6))] rfl rfl rfl rfl rfl rfl rfl ?_
   intro w334z H
   have hls_q335z : (r04.set (Int.toNat r4) ({ (r04.getD (Int.toNat r4) default) with lo := max 0 (((r04.getD (Int.toNat r4) default).lo) - r5), hi := min 2000 (((r04.getD (Int.toNat r4) default).hi) + r6) })).length = (r04).length := List.length_set
   refine s_nil ⟨trivial, ?_⟩
   exact ⟨r04.set (Int.toNat r4) ({ (r04.getD (Int.toNat r4) default) with lo := max 0 (((r04.getD (Int.toNat r4) default).lo) - r5), hi := min 2000 (((r04.getD (Int.toNat r4) default).hi) + r6) }), q15, q25, u0_13, _, upds_of _ _ ⟨rfl, rfl, rfl, rfl, rfl, rfl, trivial⟩, hM, H⟩
  replace hM := M.e_f hM c315z
  simp only [decide_eq_true_eq, decide_eq_false_iff_not, beq_iff_eq, bne_iff_ne, beq_eq_false_iff_ne, bne_eq_false_iff_eq, ne_eq, Decidable.not_not] at c315z
  refine W.skip ?_
  exact ⟨r04, s, s2, u0_13, _, upds_of _ _ ⟨rfl, rfl, rfl, rfl, rfl, rfl, trivial⟩, hM, (H.pick [8, 0, 1, 2, 3, 4, 5, 6, 7, 9, 10, 11, 12, 13, 14] (by decide) rfl)⟩
 rintro _ w336z ⟨l2, s3, s4, v_l2, ρ, rfl, hM, H⟩
 unfold zaz at hM
 refine W.seq ?_
 refine W.region rfl ?_
 refine s_val (x_ld (p := .pointer (some ⟨b_7, 0, none⟩)) (v := .agg #[u0_2, u1_3, I r02, I r03]) rfl (ldb_ag (ds := [u0_2, u1_3, I r02, I r03]) Ag26 Sz26 (H.blk (k := 9) rfl) rfl rfl)) ?_
 obtain ⟨r338z, hx337z, hM⟩ := M.e_bind hM
 refine s_call cf16 [.agg #[u0_2, u1_3, I r02, I r03]] rfl (zad r00 r01 r02 r03 (Reads.of (k := 10) rfl ownLe) (ownSl (H.get (k := 10) rfl)) (Reads.sup (Reads.of (k := 11) rfl ownLe) (Reads.of (k := 12) rfl roLe)) (rowSl rfl (H.get (k := 11) rfl) (roLe _ (H.get (k := 12) rfl)) hf9z) hx337z _ (St.give (T := [cBlk nb0_8 [v_more, I s3, I s4] 101, cBlk b_18 [v_l2, u1_14, I r24, I r32] 26, cBlk b_17 [u0_9, v_l, I r23, I r3] 26, cOwn (α := Yr) 41 v_l2 l2, cOwn (α := Raw 3) 43 u1_14 rr2_15, cRo Bs3_16, cOwn (α := Yr) 41 u0_9 r0, cOwn (α := Raw 3) 43 v_l rw_l, cRo B_l, cBlk b_7 [u0_2, u1_3, I r02, I r03] 26, cOwn (α := Yr) 41 u0_2 r00, cOwn (α := Raw 3) 43 u1_3 rr2_4, cRo Bs3_5, cOwn (α := Int) 3 u4_6 r12, cBlk nb0_1 [v_numbers, I q1, I q2] 101]) H rfl)) ?_
 rintro vq w339z ⟨r06, r17, r26, r34, u0_25, u1_26, rr2_27, Bs3_28, hr340z, hvq, H2_, hf341z⟩
 subst hr340z
 subst vq
 try dsimp only at hM
 replace H : St w w339z [cOwn (α := Yr) 41 u0_25 r06, cOwn (α := Raw 3) 43 u1_26 rr2_27, cRo Bs3_28, cBlk nb0_8 [v_more, I s3, I s4] 101, cBlk b_18 [v_l2, u1_14, I r24, I r32] 26, cBlk b_17 [u0_9, v_l, I r23, I r3] 26, cOwn (α := Yr) 41 v_l2 l2, cOwn (α := Raw 3) 43 u1_14 rr2_15, cRo Bs3_16, cOwn (α := Yr) 41 u0_9 r0, cOwn (α := Raw 3) 43 v_l rw_l, cRo B_l, cBlk b_7 [u0_2, u1_3, I r02, I r03] 26, cOwn (α := Yr) 41 u0_2 r00, cOwn (α := Raw 3) 43 u1_3 rr2_4, cRo Bs3_5, cOwn (α := Int) 3 u4_6 r12, cBlk nb0_1 [v_numbers, I q1, I q2] 101] R := H.back H2_ rfl
 clear H2_
 refine t_alloc (cs := [.slice none 0 0, .slice none 0 0, I 0, I 0]) H Al26 rfl ?_
 intro b_29 w342z H
 refine t_st (k := 0) (b := b_29) (off := 0) (cs := [.slice none 0 0, .slice none 0 0, I 0, I 0]) (vs := [u0_25, u1_26, I r26, I r34]) (cs' := [u0_25, u1_26, I r26, I r34]) (v := .agg #[u0_25, u1_26, I r26, I r34]) (L' := [cBlk b_29 [u0_25, u1_26, I r26, I r34] 26, cOwn (α := Yr) 41 u0_25 r06, cOwn (α := Raw 3) 43 u1_26 rr2_27, cRo Bs3_28, cBlk nb0_8 [v_more, I s3, I s4] 101, cBlk b_18 [v_l2, u1_14, I r24, I r32] 26, cBlk b_17 [u0_9, v_l, I r23, I r3] 26, cOwn (α := Yr) 41 v_l2 l2, cOwn (α := Raw 3) 43 u1_14 rr2_15, cRo Bs3_16, cOwn (α := Yr) 41 u0_9 r0, cOwn (α := Raw 3) 43 v_l rw_l, cRo B_l, cBlk b_7 [u0_2, u1_3, I r02, I r03] 26, cOwn (α := Yr) 41 u0_2 r00, cOwn (α := Raw 3) 43 u1_3 rr2_4, cRo Bs3_5, cOwn (α := Int) 3 u4_6 r12, cBlk nb0_1 [v_numbers, I q1, I q2] 101]) H rfl rfl rfl Sz26 rfl rfl rfl (by simp only [List.all_cons, List.all_nil, Bool.true_and, Bool.and_true, Sl.oc (ownSl (H.get (k := 1) rfl)), Sl.oc (rowSl rfl (H.get (k := 2) rfl) (roLe _ (H.get (k := 3) rfl)) hf341z)]; try rfl) rfl rfl ?_
 intro w343z H
 refine s_nil ?_
 refine W.seq ?_
 refine W.seq ?_
 refine W.region rfl ?_
 refine s_val (x_fa (a := .pointer (some ⟨b_29, 0, none⟩)) (v := .pointer (some ⟨b_29, 0, none⟩)) rfl (fa_blk (o := 0) Fd26_0 Sz23)) ?_
 refine s_val (x_ld (p := .pointer (some ⟨b_29, 0, none⟩)) (v := u0_25) rfl (ldb_sc Sc23 (H.blk (k := 0) rfl) rfl)) ?_
 have hl344z := ((ownSl (H.get (k := 1) rfl))).len_le
 refine s_val (x_lenS T23.und rfl (ownSl (H.get (k := 1) rfl))) ?_
 refine s_val (x_cmp (kd := .i64) (a := (r06.length : Int)) (b := 0) (r := decide (0 < (r06.length : Int))) rfl rfl rfl) ?_
 refine s_nil ?_
 refine W.cond (decide (0 < (r06.length : Int))) rfl (fun c345z => ?_) (fun c345z => ?_)
 ·replace hM := M.e_t hM c345z
  simp only [decide_eq_true_eq, decide_eq_false_iff_not, beq_iff_eq, bne_iff_ne, beq_eq_false_iff_ne, bne_eq_false_iff_eq, ne_eq, Decidable.not_not] at c345z
  refine W.region rfl ?_
  refine s_val (x_fa (a := .pointer (some ⟨b_29, 0, none⟩)) (v := .pointer (some ⟨b_29, 0, none⟩)) rfl (fa_blk (o := 0) Fd26_0 Sz23)) ?_
  refine s_val (x_ld (p := .pointer (some ⟨b_29, 0, none⟩)) (v := u0_25) rfl (ldb_sc Sc23 (H.blk (k := 0) rfl) rfl)) ?_
  obtain ⟨sd348z, hM⟩ := M.e_grd hM
  simp only [Bool.and_eq_true, decide_eq_true_eq] at sd348z
  obtain ⟨u346z, hr_u346z, hs347z⟩ := sl_lo T23.und T23.size (ownSl (H.get (k := 1) rfl)) (i := 1) (by omega) (by omega)
  replace hs347z : Sl _ u346z (r06.drop 1) := hs347z
  refine s_val (x_sl (v := u0_25) (u := u346z) (lo' := some (I 1)) (hi' := none) (mx' := none) rfl rfl rfl rfl (hr_u346z _)) ?_
  refine s_val (x_fa (a := .pointer (some ⟨b_29, 0, none⟩)) (v := .pointer (some ⟨b_29, 0, none⟩)) rfl (fa_blk (o := 0) Fd26_0 Sz23)) ?_
  refine t_st (k := 0) (b := b_29) (off := 0) (cs := [u0_25, u1_26, I r26, I r34]) (vs := [u346z]) (cs' := [u346z, u1_26, I r26, I r34]) (v := u346z) (L' := [cBlk b_29 [u346z, u1_26, I r26, I r34] 26, cOwn (α := Yr) 41 u0_25 r06, cOwn (α := Raw 3) 43 u1_26 rr2_27, cRo Bs3_28, cBlk nb0_8 [v_more, I s3, I s4] 101, cBlk b_18 [v_l2, u1_14, I r24, I r32] 26, cBlk b_17 [u0_9, v_l, I r23, I r3] 26, cOwn (α := Yr) 41 v_l2 l2, cOwn (α := Raw 3) 43 u1_14 rr2_15, cRo Bs3_16, cOwn (α := Yr) 41 u0_9 r0, cOwn (α := Raw 3) 43 v_l rw_l, cRo B_l, cBlk b_7 [u0_2, u1_3, I r02, I r03] 26, cOwn (α := Yr) 41 u0_2 r00, cOwn (α := Raw 3) 43 u1_3 rr2_4, cRo Bs3_5, cOwn (α := Int) 3 u4_6 r12, cBlk nb0_1 [v_numbers, I q1, I q2] 101]) H rfl rfl rfl Sz23 (Sl.cells hs347z) rfl rfl (by simp only [List.all_cons, List.all_nil, Bool.true_and, Bool.and_true, Sl.oc hs347z]; try rfl) rfl rfl ?_
  intro w349z H
  refine s_nil ?_
  refine W.seq ?_
  refine W.draw (fun W => St w W [cBlk b_29 [u346z, u1_26, I r26, I r34] 26, cOwn (α := Yr) 41 u0_25 r06, cOwn (α := Raw 3) 43 u1_26 rr2_27, cRo Bs3_28, cBlk nb0_8 [v_more, I s3, I s4] 101, cBlk b_18 [v_l2, u1_14, I r24, I r32] 26, cBlk b_17 [u0_9, v_l, I r23, I r3] 26, cOwn (α := Yr) 41 v_l2 l2, cOwn (α := Raw 3) 43 u1_14 rr2_15, cRo Bs3_16, cOwn (α := Yr) 41 u0_9 r0, cOwn (α := Raw 3) 43 v_l rw_l, cRo B_l, cBlk b_7 [u0_2, u1_3, I r02, I r03] 26, cOwn (α := Yr) 41 u0_2 r00, cOwn (α := Raw 3) 43 u1_3 rr2_4, cRo Bs3_5, cOwn (α := Int) 3 u4_6 r12, cBlk nb0_1 [v_numbers, I q1, I q2] 101] R) [(0, true), (1, true), (2, true), (3, true), (4, true), (7, true), (5, false), (6, true), (8, false), (9, true), (10, true)] mixed (by decide +kernel) rfl ?_
  intro w350z hx_
  replace H : St w w350z [cBlk b_29 [u346z, u1_26, I r26, I r34] 26, cOwn (α := Yr) 41 u0_25 r06, cOwn (α := Raw 3) 43 u1_26 rr2_27, cRo Bs3_28, cBlk nb0_8 [v_more, I s3, I s4] 101, cBlk b_18 [v_l2, u1_14, I r24, I r32] 26, cBlk b_17 [u0_9, v_l, I r23, I r3] 26, cOwn (α := Yr) 41 v_l2 l2, cOwn (α := Raw 3) 43 u1_14 rr2_15, cRo Bs3_16, cOwn (α := Yr) 41 u0_9 r0, cOwn (α := Raw 3) 43 v_l rw_l, cRo B_l, cBlk b_7 [u0_2, u1_3, I r02, I r03] 26, cOwn (α := Yr) 41 u0_2 r00, cOwn (α := Raw 3) 43 u1_3 rr2_4, cRo Bs3_5, cOwn (α := Int) 3 u4_6 r12, cBlk nb0_1 [v_numbers, I q1, I q2] 101] R := H.ext hx_
  clear hx_
  refine ⟨(H.pick [0, 1, 2, 3, 4, 5, 6, 7, 8, 9, 10, 11, 12, 13, 14, 15, 16, 17, 18] (by decide) rfl), ?_⟩
  refine d_q rfl (fun w' H => x_fa (a := .pointer (some ⟨b_7, 0, none⟩)) (v := .pointer (some ⟨b_7, 2, none⟩)) rfl (fa_blk (o := 0) Fd26_2 Sz3)) ?_
  refine d_q rfl (fun w' H => x_ld (p := .pointer (some ⟨b_7, 2, none⟩)) (v := I r02) rfl (ldb_sc Sc3 (H.blk (k := 13) rfl) rfl)) ?_
  refine d_q rfl (fun w' H => x_mv (v := I at_) rfl) ?_
  refine d_q rfl (fun w' H => x_mv (v := u4_6) rfl) ?_
  have hl351z := ((ownSl (H.get (k := 17) rfl))).len_le
  refine d_q rfl (fun w' H => x_lenS T27.und rfl (ownSl (H.get (k := 17) rfl))) ?_
  refine d_q rfl (fun w' H => x_mv (v := I level) rfl) ?_
  refine d_l rfl ?_
  obtain ⟨r353z, hx352z, hM⟩ := M.e_bind hM
  refine s_call cf13 [I at_, I (r12.length : Int)] rfl (zaW at_ (r12.length : Int) hx352z _ (St.give (T := [cBlk b_29 [u346z, u1_26, I r26, I r34] 26, cOwn (α := Yr) 41 u0_25 r06, cOwn (α := Raw 3) 43 u1_26 rr2_27, cRo Bs3_28, cBlk nb0_8 [v_more, I s3, I s4] 101, cBlk b_18 [v_l2, u1_14, I r24, I r32] 26, cBlk b_17 [u0_9, v_l, I r23, I r3] 26, cOwn (α := Yr) 41 v_l2 l2, cOwn (α := Raw 3) 43 u1_14 rr2_15, cRo Bs3_16, cOwn (α := Yr) 41 u0_9 r0, cOwn (α := Raw 3) 43 v_l rw_l, cRo B_l, cBlk b_7 [u0_2, u1_3, I r02, I r03] 26, cOwn (α := Yr) 41 u0_2 r00, cOwn (α := Raw 3) 43 u1_3 rr2_4, cRo Bs3_5, cOwn (α := Int) 3 u4_6 r12, cBlk nb0_1 [v_numbers, I q1, I q2] 101]) H rfl)) ?_
  rintro vq w354z ⟨r7, hr355z, hvq, H2_⟩
  subst hr355z
  subst vq
  try dsimp only at hM
  replace H : St w w354z [cBlk b_29 [u346z, u1_26, I r26, I r34] 26, cOwn (α := Yr) 41 u0_25 r06, cOwn (α := Raw 3) 43 u1_26 rr2_27, cRo Bs3_28, cBlk nb0_8 [v_more, I s3, I s4] 101, cBlk b_18 [v_l2, u1_14, I r24, I r32] 26, cBlk b_17 [u0_9, v_l, I r23, I r3] 26, cOwn (α := Yr) 41 v_l2 l2, cOwn (α := Raw 3) 43 u1_14 rr2_15, cRo Bs3_16, cOwn (α := Yr) 41 u0_9 r0, cOwn (α := Raw 3) 43 v_l rw_l, cRo B_l, cBlk b_7 [u0_2, u1_3, I r02, I r03] 26, cOwn (α := Yr) 41 u0_2 r00, cOwn (α := Raw 3) 43 u1_3 rr2_4, cRo Bs3_5, cOwn (α := Int) 3 u4_6 r12, cBlk nb0_1 [v_numbers, I q1, I q2] 101] R := H.back H2_ rfl
  clear H2_
  refine s_nil ⟨(H.pick [0, 1, 2, 3, 4, 5, 6, 7, 8, 9, 10, 11, 12, 13, 14, 15, 16, 17, 18] (by decide) rfl), ?_⟩
  obtain ⟨sd356z, hM⟩ := M.e_grd hM
  simp only [Bool.and_eq_true, decide_eq_true_eq] at sd356z
  refine d_q rfl (fun w' H => x_ari (a := r02) (b := r7) (r := r02 + r7) rfl rfl rfl (by omega)) ?_
  refine d_l rfl ?_
  obtain ⟨r358z, hx357z, hM⟩ := M.e_bind hM
  refine s_call cf13 [I level, I 700] rfl (zaW level 700 hx357z _ (St.give (T := [cBlk b_29 [u346z, u1_26, I r26, I r34] 26, cOwn (α := Yr) 41 u0_25 r06, cOwn (α := Raw 3) 43 u1_26 rr2_27, cRo Bs3_28, cBlk nb0_8 [v_more, I s3, I s4] 101, cBlk b_18 [v_l2, u1_14, I r24, I r32] 26, cBlk b_17 [u0_9, v_l, I r23, I r3] 26, cOwn (α := Yr) 41 v_l2 l2, cOwn (α := Raw 3) 43 u1_14 rr2_15, cRo Bs3_16, cOwn (α := Yr) 41 u0_9 r0, cOwn (α := Raw 3) 43 v_l rw_l, cRo B_l, cBlk b_7 [u0_2, u1_3, I r02, I r03] 26, cOwn (α := Yr) 41 u0_2 r00, cOwn (α := Raw 3) 43 u1_3 rr2_4, cRo Bs3_5, cOwn (α := Int) 3 u4_6 r12, cBlk nb0_1 [v_numbers, I q1, I q2] 101]) H rfl)) ?_
  rintro vq w359z ⟨r8, hr360z, hvq, H2_⟩
  subst hr360z
  subst vq
  try dsimp only at hM
  replace H : St w w359z [cBlk b_29 [u346z, u1_26, I r26, I r34] 26, cOwn (α := Yr) 41 u0_25 r06, cOwn (α := Raw 3) 43 u1_26 rr2_27, cRo Bs3_28, cBlk nb0_8 [v_more, I s3, I s4] 101, cBlk b_18 [v_l2, u1_14, I r24, I r32] 26, cBlk b_17 [u0_9, v_l, I r23, I r3] 26, cOwn (α := Yr) 41 v_l2 l2, cOwn (α := Raw 3) 43 u1_14 rr2_15, cRo Bs3_16, cOwn (α := Yr) 41 u0_9 r0, cOwn (α := Raw 3) 43 v_l rw_l, cRo B_l, cBlk b_7 [u0_2, u1_3, I r02, I r03] 26, cOwn (α := Yr) 41 u0_2 r00, cOwn (α := Raw 3) 43 u1_3 rr2_4, cRo Bs3_5, cOwn (α := Int) 3 u4_6 r12, cBlk nb0_1 [v_numbers, I q1, I q2] 101] R := H.back H2_ rfl
  clear H2_
  refine s_nil ⟨(H.pick [0, 1, 2, 3, 4, 5, 6, 7, 8, 9, 10, 11, 12, 13, 14, 15, 16, 17, 18] (by decide) rfl), ?_⟩
  refine d_q rfl (fun w' H => x_as (v := I (r02 + r7)) rfl) ?_
  refine d_q rfl (fun w' H => x_as (v := I r8) rfl) ?_
  refine d_nil ?_
  refine W.seq ?_
  refine W.region rfl ?_
  refine s_val (x_ld (p := .pointer (some ⟨b_7, 0, none⟩)) (v := .agg #[u0_2, u1_3, I r02, I r03]) rfl (ldb_ag (ds := [u0_2, u1_3, I r02, I r03]) Ag26 Sz26 (H.blk (k := 13) rfl) rfl rfl)) ?_
  refine s_val (x_fa (a := .pointer (some ⟨b_7, 0, none⟩)) (v := .pointer (some ⟨b_7, 2, none⟩)) rfl (fa_blk (o := 0) Fd26_2 Sz3)) ?_
  refine s_val (x_ld (p := .pointer (some ⟨b_7, 2, none⟩)) (v := I r02) rfl (ldb_sc Sc3 (H.blk (k := 13) rfl) rfl)) ?_
  refine s_val (x_fa (a := .pointer (some ⟨b_7, 0, none⟩)) (v := .pointer (some ⟨b_7, 3, none⟩)) rfl (fa_blk (o := 0) Fd26_3 Sz3)) ?_
  refine s_val (x_ld (p := .pointer (some ⟨b_7, 3, none⟩)) (v := I r03) rfl (ldb_sc Sc3 (H.blk (k := 13) rfl) rfl)) ?_
  refine s_val (x_mv (v := I r8) rfl) ?_
  obtain ⟨r362z, hx361z, hM⟩ := M.e_bind hM
  refine s_call cf15 [.agg #[u0_2, u1_3, I r02, I r03], I r02, I r03, I r8] rfl (zah r00 r01 r02 r03 r02 r03 r8 (Reads.of (k := 14) rfl ownLe) (ownSl (H.get (k := 14) rfl)) (Reads.sup (Reads.of (k := 15) rfl ownLe) (Reads.of (k := 16) rfl roLe)) (rowSl rfl (H.get (k := 15) rfl) (roLe _ (H.get (k := 16) rfl)) hf9z) hx361z _ (St.give (T := [cBlk b_29 [u346z, u1_26, I r26, I r34] 26, cOwn (α := Yr) 41 u0_25 r06, cOwn (α := Raw 3) 43 u1_26 rr2_27, cRo Bs3_28, cBlk nb0_8 [v_more, I s3, I s4] 101, cBlk b_18 [v_l2, u1_14, I r24, I r32] 26, cBlk b_17 [u0_9, v_l, I r23, I r3] 26, cOwn (α := Yr) 41 v_l2 l2, cOwn (α := Raw 3) 43 u1_14 rr2_15, cRo Bs3_16, cOwn (α := Yr) 41 u0_9 r0, cOwn (α := Raw 3) 43 v_l rw_l, cRo B_l, cBlk b_7 [u0_2, u1_3, I r02, I r03] 26, cOwn (α := Yr) 41 u0_2 r00, cOwn (α := Raw 3) 43 u1_3 rr2_4, cRo Bs3_5, cOwn (α := Int) 3 u4_6 r12, cBlk nb0_1 [v_numbers, I q1, I q2] 101]) H rfl)) ?_
  rintro vq w363z ⟨r002, r012, r18, hr364z, hvq, H2_⟩
  subst hr364z
  subst vq
  try dsimp only at hM
  replace H : St w w363z [cBlk b_29 [u346z, u1_26, I r26, I r34] 26, cOwn (α := Yr) 41 u0_25 r06, cOwn (α := Raw 3) 43 u1_26 rr2_27, cRo Bs3_28, cBlk nb0_8 [v_more, I s3, I s4] 101, cBlk b_18 [v_l2, u1_14, I r24, I r32] 26, cBlk b_17 [u0_9, v_l, I r23, I r3] 26, cOwn (α := Yr) 41 v_l2 l2, cOwn (α := Raw 3) 43 u1_14 rr2_15, cRo Bs3_16, cOwn (α := Yr) 41 u0_9 r0, cOwn (α := Raw 3) 43 v_l rw_l, cRo B_l, cBlk b_7 [u0_2, u1_3, I r02, I r03] 26, cOwn (α := Yr) 41 u0_2 r00, cOwn (α := Raw 3) 43 u1_3 rr2_4, cRo Bs3_5, cOwn (α := Int) 3 u4_6 r12, cBlk nb0_1 [v_numbers, I q1, I q2] 101] R := H.back H2_ rfl
  clear H2_
  refine s_val (x_mv (v := .tuple #[.agg #[I r002, I r012], I r18]) rfl) ?_
  refine s_val (x_ext (vs := [.agg #[I r002, I r012], I r18]) (v := .agg #[I r002, I r012]) rfl rfl) ?_
  refine s_val (x_ext (vs := [.agg #[I r002, I r012], I r18]) (v := I r18) rfl rfl) ?_
  refine t_alloc (cs := [I 0, I 0]) H Al35 rfl ?_
  intro b_30 w365z H
  refine t_st (k := 0) (b := b_30) (off := 0) (cs := [I 0, I 0]) (vs := [I r002, I r012]) (cs' := [I r002, I r012]) (v := .agg #[I r002, I r012]) (L' := [cBlk b_30 [I r002, I r012] 35, cBlk b_29 [u346z, u1_26, I r26, I r34] 26, cOwn (α := Yr) 41 u0_25 r06, cOwn (α := Raw 3) 43 u1_26 rr2_27, cRo Bs3_28, cBlk nb0_8 [v_more, I s3, I s4] 101, cBlk b_18 [v_l2, u1_14, I r24, I r32] 26, cBlk b_17 [u0_9, v_l, I r23, I r3] 26, cOwn (α := Yr) 41 v_l2 l2, cOwn (α := Raw 3) 43 u1_14 rr2_15, cRo Bs3_16, cOwn (α := Yr) 41 u0_9 r0, cOwn (α := Raw 3) 43 v_l rw_l, cRo B_l, cBlk b_7 [u0_2, u1_3, I r02, I r03] 26, cOwn (α := Yr) 41 u0_2 r00, cOwn (α := Raw 3) 43 u1_3 rr2_4, cRo Bs3_5, cOwn (α := Int) 3 u4_6 r12, cBlk nb0_1 [v_numbers, I q1, I q2] 101]) H rfl rfl rfl Sz35 rfl rfl rfl rfl rfl rfl ?_
  intro w366z H
  refine s_val (x_as (v := I r18) rfl) ?_
  refine s_nil ?_
  refine W.seq ?_
  refine W.region rfl ?_
  refine s_val (x_ld (p := .pointer (some ⟨b_7, 0, none⟩)) (v := .agg #[u0_2, u1_3, I r02, I r03]) rfl (ldb_ag (ds := [u0_2, u1_3, I r02, I r03]) Ag26 Sz26 (H.blk (k := 14) rfl) rfl rfl)) ?_
  refine s_val (x_mv (v := I (r02 + r7)) rfl) ?_
  obtain ⟨r368z, hx367z, hM⟩ := M.e_bind hM
  refine s_call cf20 [.agg #[u0_2, u1_3, I r02, I r03], I (r02 + r7)] rfl (zaw r00 r01 r02 r03 (r02 + r7) (Reads.of (k := 15) rfl ownLe) (ownSl (H.get (k := 15) rfl)) (Reads.sup (Reads.of (k := 16) rfl ownLe) (Reads.of (k := 17) rfl roLe)) (rowSl rfl (H.get (k := 16) rfl) (roLe _ (H.get (k := 17) rfl)) hf9z) hx367z _ (St.give (T := [cBlk b_30 [I r002, I r012] 35, cBlk b_29 [u346z, u1_26, I r26, I r34] 26, cOwn (α := Yr) 41 u0_25 r06, cOwn (α := Raw 3) 43 u1_26 rr2_27, cRo Bs3_28, cBlk nb0_8 [v_more, I s3, I s4] 101, cBlk b_18 [v_l2, u1_14, I r24, I r32] 26, cBlk b_17 [u0_9, v_l, I r23, I r3] 26, cOwn (α := Yr) 41 v_l2 l2, cOwn (α := Raw 3) 43 u1_14 rr2_15, cRo Bs3_16, cOwn (α := Yr) 41 u0_9 r0, cOwn (α := Raw 3) 43 v_l rw_l, cRo B_l, cBlk b_7 [u0_2, u1_3, I r02, I r03] 26, cOwn (α := Yr) 41 u0_2 r00, cOwn (α := Raw 3) 43 u1_3 rr2_4, cRo Bs3_5, cOwn (α := Int) 3 u4_6 r12, cBlk nb0_1 [v_numbers, I q1, I q2] 101]) H rfl)) ?_
  rintro vq w369z ⟨r003, r013, r19, hr370z, hvq, H2_⟩
  subst hr370z
  subst vq
  try dsimp only at hM
  replace H : St w w369z [cBlk b_30 [I r002, I r012] 35, cBlk b_29 [u346z, u1_26, I r26, I r34] 26, cOwn (α := Yr) 41 u0_25 r06, cOwn (α := Raw 3) 43 u1_26 rr2_27, cRo Bs3_28, cBlk nb0_8 [v_more, I s3, I s4] 101, cBlk b_18 [v_l2, u1_14, I r24, I r32] 26, cBlk b_17 [u0_9, v_l, I r23, I r3] 26, cOwn (α := Yr) 41 v_l2 l2, cOwn (α := Raw 3) 43 u1_14 rr2_15, cRo Bs3_16, cOwn (α := Yr) 41 u0_9 r0, cOwn (α := Raw 3) 43 v_l rw_l, cRo B_l, cBlk b_7 [u0_2, u1_3, I r02, I r03] 26, cOwn (α := Yr) 41 u0_2 r00, cOwn (α := Raw 3) 43 u1_3 rr2_4, cRo Bs3_5, cOwn (α := Int) 3 u4_6 r12, cBlk nb0_1 [v_numbers, I q1, I q2] 101] R := H.back H2_ rfl
  clear H2_
  refine s_val (x_mv (v := .tuple #[.agg #[I r003, I r013], I r19]) rfl) ?_
  refine s_val (x_ext (vs := [.agg #[I r003, I r013], I r19]) (v := .agg #[I r003, I r013]) rfl rfl) ?_
  refine s_val (x_ext (vs := [.agg #[I r003, I r013], I r19]) (v := I r19) rfl rfl) ?_
  refine t_alloc (cs := [I 0, I 0]) H Al35 rfl ?_
  intro b_31 w371z H
  refine t_st (k := 0) (b := b_31) (off := 0) (cs := [I 0, I 0]) (vs := [I r003, I r013]) (cs' := [I r003, I r013]) (v := .agg #[I r003, I r013]) (L' := [cBlk b_31 [I r003, I r013] 35, cBlk b_30 [I r002, I r012] 35, cBlk b_29 [u346z, u1_26, I r26, I r34] 26, cOwn (α := Yr) 41 u0_25 r06, cOwn (α := Raw 3) 43 u1_26 rr2_27, cRo Bs3_28, cBlk nb0_8 [v_more, I s3, I s4] 101, cBlk b_18 [v_l2, u1_14, I r24, I r32] 26, cBlk b_17 [u0_9, v_l, I r23, I r3] 26, cOwn (α := Yr) 41 v_l2 l2, cOwn (α := Raw 3) 43 u1_14 rr2_15, cRo Bs3_16, cOwn (α := Yr) 41 u0_9 r0, cOwn (α := Raw 3) 43 v_l rw_l, cRo B_l, cBlk b_7 [u0_2, u1_3, I r02, I r03] 26, cOwn (α := Yr) 41 u0_2 r00, cOwn (α := Raw 3) 43 u1_3 rr2_4, cRo Bs3_5, cOwn (α := Int) 3 u4_6 r12, cBlk nb0_1 [v_numbers, I q1, I q2] 101]) H rfl rfl rfl Sz35 rfl rfl rfl rfl rfl rfl ?_
  intro w372z H
  refine s_val (x_as (v := I r19) rfl) ?_
  refine s_nil ?_
  refine W.seq ?_
  refine W.region rfl ?_
  refine s_val (x_ld (p := .pointer (some ⟨b_17, 0, none⟩)) (v := .agg #[u0_9, v_l, I r23, I r3]) rfl (ldb_ag (ds := [u0_9, v_l, I r23, I r3]) Ag26 Sz26 (H.blk (k := 8) rfl) rfl rfl)) ?_
  refine s_val (x_fa (a := .pointer (some ⟨b_7, 0, none⟩)) (v := .pointer (some ⟨b_7, 2, none⟩)) rfl (fa_blk (o := 0) Fd26_2 Sz3)) ?_
  refine s_val (x_ld (p := .pointer (some ⟨b_7, 2, none⟩)) (v := I r02) rfl (ldb_sc Sc3 (H.blk (k := 15) rfl) rfl)) ?_
  refine s_val (x_fa (a := .pointer (some ⟨b_7, 0, none⟩)) (v := .pointer (some ⟨b_7, 3, none⟩)) rfl (fa_blk (o := 0) Fd26_3 Sz3)) ?_
  refine s_val (x_ld (p := .pointer (some ⟨b_7, 3, none⟩)) (v := I r03) rfl (ldb_sc Sc3 (H.blk (k := 15) rfl) rfl)) ?_
  refine s_val (x_mv (v := I r8) rfl) ?_
  obtain ⟨r374z, hx373z, hM⟩ := M.e_bind hM
  refine s_call cf15 [.agg #[u0_9, v_l, I r23, I r3], I r02, I r03, I r8] rfl (zah r0 l r23 r3 r02 r03 r8 (Reads.of (k := 12) rfl ownLe) (ownSl (H.get (k := 12) rfl)) (Reads.sup (Reads.of (k := 13) rfl ownLe) (Reads.of (k := 14) rfl roLe)) (rowSl rfl (H.get (k := 13) rfl) (roLe _ (H.get (k := 14) rfl)) hr_l) hx373z _ (St.give (T := [cBlk b_31 [I r003, I r013] 35, cBlk b_30 [I r002, I r012] 35, cBlk b_29 [u346z, u1_26, I r26, I r34] 26, cOwn (α := Yr) 41 u0_25 r06, cOwn (α := Raw 3) 43 u1_26 rr2_27, cRo Bs3_28, cBlk nb0_8 [v_more, I s3, I s4] 101, cBlk b_18 [v_l2, u1_14, I r24, I r32] 26, cBlk b_17 [u0_9, v_l, I r23, I r3] 26, cOwn (α := Yr) 41 v_l2 l2, cOwn (α := Raw 3) 43 u1_14 rr2_15, cRo Bs3_16, cOwn (α := Yr) 41 u0_9 r0, cOwn (α := Raw 3) 43 v_l rw_l, cRo B_l, cBlk b_7 [u0_2, u1_3, I r02, I r03] 26, cOwn (α := Yr) 41 u0_2 r00, cOwn (α := Raw 3) 43 u1_3 rr2_4, cRo Bs3_5, cOwn (α := Int) 3 u4_6 r12, cBlk nb0_1 [v_numbers, I q1, I q2] 101]) H rfl)) ?_
  rintro vq w375z ⟨r004, r014, r110, hr376z, hvq, H2_⟩
  subst hr376z
  subst vq
  try dsimp only at hM
  replace H : St w w375z [cBlk b_31 [I r003, I r013] 35, cBlk b_30 [I r002, I r012] 35, cBlk b_29 [u346z, u1_26, I r26, I r34] 26, cOwn (α := Yr) 41 u0_25 r06, cOwn (α := Raw 3) 43 u1_26 rr2_27, cRo Bs3_28, cBlk nb0_8 [v_more, I s3, I s4] 101, cBlk b_18 [v_l2, u1_14, I r24, I r32] 26, cBlk b_17 [u0_9, v_l, I r23, I r3] 26, cOwn (α := Yr) 41 v_l2 l2, cOwn (α := Raw 3) 43 u1_14 rr2_15, cRo Bs3_16, cOwn (α := Yr) 41 u0_9 r0, cOwn (α := Raw 3) 43 v_l rw_l, cRo B_l, cBlk b_7 [u0_2, u1_3, I r02, I r03] 26, cOwn (α := Yr) 41 u0_2 r00, cOwn (α := Raw 3) 43 u1_3 rr2_4, cRo Bs3_5, cOwn (α := Int) 3 u4_6 r12, cBlk nb0_1 [v_numbers, I q1, I q2] 101] R := H.back H2_ rfl
  clear H2_
  refine s_val (x_mv (v := .tuple #[.agg #[I r004, I r014], I r110]) rfl) ?_
  refine s_val (x_ext (vs := [.agg #[I r004, I r014], I r110]) (v := .agg #[I r004, I r014]) rfl rfl) ?_
  refine s_val (x_ext (vs := [.agg #[I r004, I r014], I r110]) (v := I r110) rfl rfl) ?_
  refine t_alloc (cs := [I 0, I 0]) H Al35 rfl ?_
  intro b_32 w377z H
  refine t_st (k := 0) (b := b_32) (off := 0) (cs := [I 0, I 0]) (vs := [I r004, I r014]) (cs' := [I r004, I r014]) (v := .agg #[I r004, I r014]) (L' := [cBlk b_32 [I r004, I r014] 35, cBlk b_31 [I r003, I r013] 35, cBlk b_30 [I r002, I r012] 35, cBlk b_29 [u346z, u1_26, I r26, I r34] 26, cOwn (α := Yr) 41 u0_25 r06, cOwn (α := Raw 3) 43 u1_26 rr2_27, cRo Bs3_28, cBlk nb0_8 [v_more, I s3, I s4] 101, cBlk b_18 [v_l2, u1_14, I r24, I r32] 26, cBlk b_17 [u0_9, v_l, I r23, I r3] 26, cOwn (α := Yr) 41 v_l2 l2, cOwn (α := Raw 3) 43 u1_14 rr2_15, cRo Bs3_16, cOwn (α := Yr) 41 u0_9 r0, cOwn (α := Raw 3) 43 v_l rw_l, cRo B_l, cBlk b_7 [u0_2, u1_3, I r02, I r03] 26, cOwn (α := Yr) 41 u0_2 r00, cOwn (α := Raw 3) 43 u1_3 rr2_4, cRo Bs3_5, cOwn (α := Int) 3 u4_6 r12, cBlk nb0_1 [v_numbers, I q1, I q2] 101]) H rfl rfl rfl Sz35 rfl rfl rfl rfl rfl rfl ?_
  intro w378z H
  refine s_val (x_as (v := I r110) rfl) ?_
  refine s_nil ?_
  refine W.seq ?_
  refine W.region rfl ?_
  refine s_val (x_ld (p := .pointer (some ⟨b_17, 0, none⟩)) (v := .agg #[u0_9, v_l, I r23, I r3]) rfl (ldb_ag (ds := [u0_9, v_l, I r23, I r3]) Ag26 Sz26 (H.blk (k := 9) rfl) rfl rfl)) ?_
  refine s_val (x_mv (v := I (r02 + r7)) rfl) ?_
  obtain ⟨r380z, hx379z, hM⟩ := M.e_bind hM
  refine s_call cf20 [.agg #[u0_9, v_l, I r23, I r3], I (r02 + r7)] rfl (zaw r0 l r23 r3 (r02 + r7) (Reads.of (k := 13) rfl ownLe) (ownSl (H.get (k := 13) rfl)) (Reads.sup (Reads.of (k := 14) rfl ownLe) (Reads.of (k := 15) rfl roLe)) (rowSl rfl (H.get (k := 14) rfl) (roLe _ (H.get (k := 15) rfl)) hr_l) hx379z _ (St.give (T := [cBlk b_32 [I r004, I r014] 35, cBlk b_31 [I r003, I r013] 35, cBlk b_30 [I r002, I r012] 35, cBlk b_29 [u346z, u1_26, I r26, I r34] 26, cOwn (α := Yr) 41 u0_25 r06, cOwn (α := Raw 3) 43 u1_26 rr2_27, cRo Bs3_28, cBlk nb0_8 [v_more, I s3, I s4] 101, cBlk b_18 [v_l2, u1_14, I r24, I r32] 26, cBlk b_17 [u0_9, v_l, I r23, I r3] 26, cOwn (α := Yr) 41 v_l2 l2, cOwn (α := Raw 3) 43 u1_14 rr2_15, cRo Bs3_16, cOwn (α := Yr) 41 u0_9 r0, cOwn (α := Raw 3) 43 v_l rw_l, cRo B_l, cBlk b_7 [u0_2, u1_3, I r02, I r03] 26, cOwn (α := Yr) 41 u0_2 r00, cOwn (α := Raw 3) 43 u1_3 rr2_4, cRo Bs3_5, cOwn (α := Int) 3 u4_6 r12, cBlk nb0_1 [v_numbers, I q1, I q2] 101]) H rfl)) ?_
  rintro vq w381z ⟨r005, r015, r111, hr382z, hvq, H2_⟩
  subst hr382z
  subst vq
  try dsimp only at hM
  replace H : St w w381z [cBlk b_32 [I r004, I r014] 35, cBlk b_31 [I r003, I r013] 35, cBlk b_30 [I r002, I r012] 35, cBlk b_29 [u346z, u1_26, I r26, I r34] 26, cOwn (α := Yr) 41 u0_25 r06, cOwn (α := Raw 3) 43 u1_26 rr2_27, cRo Bs3_28, cBlk nb0_8 [v_more, I s3, I s4] 101, cBlk b_18 [v_l2, u1_14, I r24, I r32] 26, cBlk b_17 [u0_9, v_l, I r23, I r3] 26, cOwn (α := Yr) 41 v_l2 l2, cOwn (α := Raw 3) 43 u1_14 rr2_15, cRo Bs3_16, cOwn (α := Yr) 41 u0_9 r0, cOwn (α := Raw 3) 43 v_l rw_l, cRo B_l, cBlk b_7 [u0_2, u1_3, I r02, I r03] 26, cOwn (α := Yr) 41 u0_2 r00, cOwn (α := Raw 3) 43 u1_3 rr2_4, cRo Bs3_5, cOwn (α := Int) 3 u4_6 r12, cBlk nb0_1 [v_numbers, I q1, I q2] 101] R := H.back H2_ rfl
  clear H2_
  refine s_val (x_mv (v := .tuple #[.agg #[I r005, I r015], I r111]) rfl) ?_
  refine s_val (x_ext (vs := [.agg #[I r005, I r015], I r111]) (v := .agg #[I r005, I r015]) rfl rfl) ?_
  refine s_val (x_ext (vs := [.agg #[I r005, I r015], I r111]) (v := I r111) rfl rfl) ?_
  refine t_alloc (cs := [I 0, I 0]) H Al35 rfl ?_
  intro b_33 w383z H
  refine t_st (k := 0) (b := b_33) (off := 0) (cs := [I 0, I 0]) (vs := [I r005, I r015]) (cs' := [I r005, I r015]) (v := .agg #[I r005, I r015]) (L' := [cBlk b_33 [I r005, I r015] 35, cBlk b_32 [I r004, I r014] 35, cBlk b_31 [I r003, I r013] 35, cBlk b_30 [I r002, I r012] 35, cBlk b_29 [u346z, u1_26, I r26, I r34] 26, cOwn (α := Yr) 41 u0_25 r06, cOwn (α := Raw 3) 43 u1_26 rr2_27, cRo Bs3_28, cBlk nb0_8 [v_more, I s3, I s4] 101, cBlk b_18 [v_l2, u1_14, I r24, I r32] 26, cBlk b_17 [u0_9, v_l, I r23, I r3] 26, cOwn (α := Yr) 41 v_l2 l2, cOwn (α := Raw 3) 43 u1_14 rr2_15, cRo Bs3_16, cOwn (α := Yr) 41 u0_9 r0, cOwn (α := Raw 3) 43 v_l rw_l, cRo B_l, cBlk b_7 [u0_2, u1_3, I r02, I r03] 26, cOwn (α := Yr) 41 u0_2 r00, cOwn (α := Raw 3) 43 u1_3 rr2_4, cRo Bs3_5, cOwn (α := Int) 3 u4_6 r12, cBlk nb0_1 [v_numbers, I q1, I q2] 101]) H rfl rfl rfl Sz35 rfl rfl rfl rfl rfl rfl ?_
  intro w384z H
  refine s_val (x_as (v := I r111) rfl) ?_
  refine s_nil ?_
  refine W.seq ?_
  refine W.seq ?_
  refine W.region rfl ?_
  refine s_val (x_mv (v := I r18) rfl) ?_
  refine s_val (x_cmp (kd := .i64) (a := r18) (b := 0) (r := r18 != 0) rfl rfl rfl) ?_
  refine s_val (x_mv (v := B (r18 != 0)) rfl) ?_
  refine g_val (!(r18 != 0)) (gy_f rfl) (fun hg => x_mv (v := I r19) rfl) ?_
  refine g_val (!(r18 != 0)) (gy_f rfl) (fun hg => x_cmp (kd := .i64) (a := r19) (b := 0) (r := r19 != 0) (gd_of (c := !(r18 != 0)) hg (I r19)) rfl rfl) ?_
  refine s_val (x_por (b := r18 != 0) (r := r19 != 0) rfl rfl (fun hb => gd_of (c := !(r18 != 0)) (by first | exact hb | (rw [hb]; rfl) | simp_all) (B (r19 != 0)))) ?_
  refine s_val (x_mv (v := B ((r18 != 0) || (r19 != 0))) rfl) ?_
  refine g_val (!((r18 != 0) || (r19 != 0))) (gy_f rfl) (fun hg => x_mv (v := I r110) rfl) ?_
  refine g_val (!((r18 != 0) || (r19 != 0))) (gy_f rfl) (fun hg => x_cmp (kd := .i64) (a := r110) (b := 0) (r := r110 != 0) (gd_of (c := !((r18 != 0) || (r19 != 0))) hg (I r110)) rfl rfl) ?_
  refine s_val (x_por (b := ((r18 != 0) || (r19 != 0))) (r := r110 != 0) rfl rfl (fun hb => gd_of (c := !((r18 != 0) || (r19 != 0))) (by first | exact hb | (rw [hb]; rfl) | simp_all) (B (r110 != 0)))) ?_
  refine s_val (x_mv (v := B (((r18 != 0) || (r19 != 0)) || (r110 != 0))) rfl) ?_
  refine g_val (!(((r18 != 0) || (r19 != 0)) || (r110 != 0))) (gy_f rfl) (fun hg => x_mv (v := I r111) rfl) ?_
  refine g_val (!(((r18 != 0) || (r19 != 0)) || (r110 != 0))) (gy_f rfl) (fun hg => x_cmp (kd := .i64) (a := r111) (b := 0) (r := r111 != 0) (gd_of (c := !(((r18 != 0) || (r19 != 0)) || (r110 != 0))) hg (I r111)) rfl rfl) ?_
  refine s_val (x_por (b := (((r18 != 0) || (r19 != 0)) || (r110 != 0))) (r := r111 != 0) rfl rfl (fun hb => gd_of (c := !(((r18 != 0) || (r19 != 0)) || (r110 != 0))) (by first | exact hb | (rw [hb]; rfl) | simp_all) (B (r111 != 0)))) ?_
  refine s_val (x_mv (v := B ((((r18 != 0) || (r19 != 0)) || (r110 != 0)) || (r111 != 0))) rfl) ?_
  refine g_val (!((((r18 != 0) || (r19 != 0)) || (r110 != 0)) || (r111 != 0))) (gy_f rfl) (fun hg => x_fa (a := .pointer (some ⟨b_32, 0, none⟩)) (v := .pointer (some ⟨b_32, 0, none⟩)) rfl (fa_blk (o := 0) Fd35_0 Sz3)) ?_
  refine g_val (!((((r18 != 0) || (r19 != 0)) || (r110 != 0)) || (r111 != 0))) (gy_f rfl) (fun hg => x_ld (p := .pointer (some ⟨b_32, 0, none⟩)) (v := I r004) (gd_of (c := !((((r18 != 0) || (r19 != 0)) || (r110 != 0)) || (r111 != 0))) hg (.pointer (some ⟨b_32, 0, none⟩))) (ldb_sc Sc3 (H.blk (k := 1) rfl) rfl)) ?_
  refine g_val (!((((r18 != 0) || (r19 != 0)) || (r110 != 0)) || (r111 != 0))) (gy_f rfl) (fun hg => x_fa (a := .pointer (some ⟨b_30, 0, none⟩)) (v := .pointer (some ⟨b_30, 0, none⟩)) rfl (fa_blk (o := 0) Fd35_0 Sz3)) ?_
  refine g_val (!((((r18 != 0) || (r19 != 0)) || (r110 != 0)) || (r111 != 0))) (gy_f rfl) (fun hg => x_ld (p := .pointer (some ⟨b_30, 0, none⟩)) (v := I r002) (gd_of (c := !((((r18 != 0) || (r19 != 0)) || (r110 != 0)) || (r111 != 0))) hg (.pointer (some ⟨b_30, 0, none⟩))) (ldb_sc Sc3 (H.blk (k := 3) rfl) rfl)) ?_
  refine g_val (!((((r18 != 0) || (r19 != 0)) || (r110 != 0)) || (r111 != 0))) (gy_f rfl) (fun hg => x_cmp (kd := .i64) (a := r004) (b := r002) (r := decide (r004 < r002)) (gd_of (c := !((((r18 != 0) || (r19 != 0)) || (r110 != 0)) || (r111 != 0))) hg (I r004)) (gd_of (c := !((((r18 != 0) || (r19 != 0)) || (r110 != 0)) || (r111 != 0))) hg (I r002)) rfl) ?_
  refine s_val (x_por (b := ((((r18 != 0) || (r19 != 0)) || (r110 != 0)) || (r111 != 0))) (r := decide (r004 < r002)) rfl rfl (fun hb => gd_of (c := !((((r18 != 0) || (r19 != 0)) || (r110 != 0)) || (r111 != 0))) (by first | exact hb | (rw [hb]; rfl) | simp_all) (B (decide (r004 < r002))))) ?_
  refine s_val (x_mv (v := B (((((r18 != 0) || (r19 != 0)) || (r110 != 0)) || (r111 != 0)) || (decide (r004 < r002)))) rfl) ?_
  refine g_val (!(((((r18 != 0) || (r19 != 0)) || (r110 != 0)) || (r111 != 0)) || (decide (r004 < r002)))) (gy_f rfl) (fun hg => x_fa (a := .pointer (some ⟨b_32, 0, none⟩)) (v := .pointer (some ⟨b_32, 1, none⟩)) rfl (fa_blk (o := 0) Fd35_1 Sz3)) ?_
  refine g_val (!(((((r18 != 0) || (r19 != 0)) || (r110 != 0)) || (r111 != 0)) || (decide (r004 < r002)))) (gy_f rfl) (fun hg => x_ld (p := .pointer (some ⟨b_32, 1, none⟩)) (v := I r014) (gd_of (c := !(((((r18 != 0) || (r19 != 0)) || (r110 != 0)) || (r111 != 0)) || (decide (r004 < r002)))) hg (.pointer (some ⟨b_32, 1, none⟩))) (ldb_sc Sc3 (H.blk (k := 1) rfl) rfl)) ?_
  refine g_val (!(((((r18 != 0) || (r19 != 0)) || (r110 != 0)) || (r111 != 0)) || (decide (r004 < r002)))) (gy_f rfl) (fun hg => x_fa (a := .pointer (some ⟨b_30, 0, none⟩)) (v := .pointer (some ⟨b_30, 1, none⟩)) rfl (fa_blk (o := 0) Fd35_1 Sz3)) ?_
  refine g_val (!(((((r18 != 0) || (r19 != 0)) || (r110 != 0)) || (r111 != 0)) || (decide (r004 < r002)))) (gy_f rfl) (fun hg => x_ld (p := .pointer (some ⟨b_30, 1, none⟩)) (v := I r012) (gd_of (c := !(((((r18 != 0) || (r19 != 0)) || (r110 != 0)) || (r111 != 0)) || (decide (r004 < r002)))) hg (.pointer (some ⟨b_30, 1, none⟩))) (ldb_sc Sc3 (H.blk (k := 3) rfl) rfl)) ?_
  refine g_val (!(((((r18 != 0) || (r19 != 0)) || (r110 != 0)) || (r111 != 0)) || (decide (r004 < r002)))) (gy_f rfl) (fun hg => x_cmp (kd := .i64) (a := r014) (b := r012) (r := decide (r012 < r014)) (gd_of (c := !(((((r18 != 0) || (r19 != 0)) || (r110 != 0)) || (r111 != 0)) || (decide (r004 < r002)))) hg (I r014)) (gd_of (c := !(((((r18 != 0) || (r19 != 0)) || (r110 != 0)) || (r111 != 0)) || (decide (r004 < r002)))) hg (I r012)) rfl) ?_
  refine s_val (x_por (b := (((((r18 != 0) || (r19 != 0)) || (r110 != 0)) || (r111 != 0)) || (decide (r004 < r002)))) (r := decide (r012 < r014)) rfl rfl (fun hb => gd_of (c := !(((((r18 != 0) || (r19 != 0)) || (r110 != 0)) || (r111 != 0)) || (decide (r004 < r002)))) (by first | exact hb | (rw [hb]; rfl) | simp_all) (B (decide (r012 < r014))))) ?_
  refine s_val (x_mv (v := B ((((((r18 != 0) || (r19 != 0)) || (r110 != 0)) || (r111 != 0)) || (decide (r004 < r002))) || (decide (r012 < r014)))) rfl) ?_
  refine g_val (!((((((r18 != 0) || (r19 != 0)) || (r110 != 0)) || (r111 != 0)) || (decide (r004 < r002))) || (decide (r012 < r014)))) (gy_f rfl) (fun hg => x_fa (a := .pointer (some ⟨b_33, 0, none⟩)) (v := .pointer (some ⟨b_33, 0, none⟩)) rfl (fa_blk (o := 0) Fd35_0 Sz3)) ?_
  refine g_val (!((((((r18 != 0) || (r19 != 0)) || (r110 != 0)) || (r111 != 0)) || (decide (r004 < r002))) || (decide (r012 < r014)))) (gy_f rfl) (fun hg => x_ld (p := .pointer (some ⟨b_33, 0, none⟩)) (v := I r005) (gd_of (c := !((((((r18 != 0) || (r19 != 0)) || (r110 != 0)) || (r111 != 0)) || (decide (r004 < r002))) || (decide (r012 < r014)))) hg (.pointer (some ⟨b_33, 0, none⟩))) (ldb_sc Sc3 (H.blk (k := 0) rfl) rfl)) ?_
  refine g_val (!((((((r18 != 0) || (r19 != 0)) || (r110 != 0)) || (r111 != 0)) || (decide (r004 < r002))) || (decide (r012 < r014)))) (gy_f rfl) (fun hg => x_fa (a := .pointer (some ⟨b_31, 0, none⟩)) (v := .pointer (some ⟨b_31, 0, none⟩)) rfl (fa_blk (o := 0) Fd35_0 Sz3)) ?_
  refine g_val (!((((((r18 != 0) || (r19 != 0)) || (r110 != 0)) || (r111 != 0)) || (decide (r004 < r002))) || (decide (r012 < r014)))) (gy_f rfl) (fun hg => x_ld (p := .pointer (some ⟨b_31, 0, none⟩)) (v := I r003) (gd_of (c := !((((((r18 != 0) || (r19 != 0)) || (r110 != 0)) || (r111 != 0)) || (decide (r004 < r002))) || (decide (r012 < r014)))) hg (.pointer (some ⟨b_31, 0, none⟩))) (ldb_sc Sc3 (H.blk (k := 2) rfl) rfl)) ?_
  refine g_val (!((((((r18 != 0) || (r19 != 0)) || (r110 != 0)) || (r111 != 0)) || (decide (r004 < r002))) || (decide (r012 < r014)))) (gy_f rfl) (fun hg => x_cmp (kd := .i64) (a := r005) (b := r003) (r := decide (r005 < r003)) (gd_of (c := !((((((r18 != 0) || (r19 != 0)) || (r110 != 0)) || (r111 != 0)) || (decide (r004 < r002))) || (decide (r012 < r014)))) hg (I r005)) (gd_of (c := !((((((r18 != 0) || (r19 != 0)) || (r110 != 0)) || (r111 != 0)) || (decide (r004 < r002))) || (decide (r012 < r014)))) hg (I r003)) rfl) ?_
  refine s_val (x_por (b := ((((((r18 != 0) || (r19 != 0)) || (r110 != 0)) || (r111 != 0)) || (decide (r004 < r002))) || (decide (r012 < r014)))) (r := decide (r005 < r003)) rfl rfl (fun hb => gd_of (c := !((((((r18 != 0) || (r19 != 0)) || (r110 != 0)) || (r111 != 0)) || (decide (r004 < r002))) || (decide (r012 < r014)))) (by first | exact hb | (rw [hb]; rfl) | simp_all) (B (decide (r005 < r003))))) ?_
  refine s_val (x_mv (v := B (((((((r18 != 0) || (r19 != 0)) || (r110 != 0)) || (r111 != 0)) || (decide (r004 < r002))) || (decide (r012 < r014))) || (decide (r005 < r003)))) rfl) ?_
  refine g_val (!(((((((r18 != 0) || (r19 != 0)) || (r110 != 0)) || (r111 != 0)) || (decide (r004 < r002))) || (decide (r012 < r014))) || (decide (r005 < r003)))) (gy_f rfl) (fun hg => x_fa (a := .pointer (some ⟨b_33, 0, none⟩)) (v := .pointer (some ⟨b_33, 1, none⟩)) rfl (fa_blk (o := 0) Fd35_1 Sz3)) ?_
  refine g_val (!(((((((r18 != 0) || (r19 != 0)) || (r110 != 0)) || (r111 != 0)) || (decide (r004 < r002))) || (decide (r012 < r014))) || (decide (r005 < r003)))) (gy_f rfl) (fun hg => x_ld (p := .pointer (some ⟨b_33, 1, none⟩)) (v := I r015) (gd_of (c := !(((((((r18 != 0) || (r19 != 0)) || (r110 != 0)) || (r111 != 0)) || (decide (r004 < r002))) || (decide (r012 < r014))) || (decide (r005 < r003)))) hg (.pointer (some ⟨b_33, 1, none⟩))) (ldb_sc Sc3 (H.blk (k := 0) rfl) rfl)) ?_
  refine g_val (!(((((((r18 != 0) || (r19 != 0)) || (r110 != 0)) || (r111 != 0)) || (decide (r004 < r002))) || (decide (r012 < r014))) || (decide (r005 < r003)))) (gy_f rfl) (fun hg => x_fa (a := .pointer (some ⟨b_31, 0, none⟩)) (v := .pointer (some ⟨b_31, 1, none⟩)) rfl (fa_blk (o := 0) Fd35_1 Sz3)) ?_
  refine g_val (!(((((((r18 != 0) || (r19 != 0)) || (r110 != 0)) || (r111 != 0)) || (decide (r004 < r002))) || (decide (r012 < r014))) || (decide (r005 < r003)))) (gy_f rfl) (fun hg => x_ld (p := .pointer (some ⟨b_31, 1, none⟩)) (v := I r013) (gd_of (c := !(((((((r18 != 0) || (r19 != 0)) || (r110 != 0)) || (r111 != 0)) || (decide (r004 < r002))) || (decide (r012 < r014))) || (decide (r005 < r003)))) hg (.pointer (some ⟨b_31, 1, none⟩))) (ldb_sc Sc3 (H.blk (k := 2) rfl) rfl)) ?_
  refine g_val (!(((((((r18 != 0) || (r19 != 0)) || (r110 != 0)) || (r111 != 0)) || (decide (r004 < r002))) || (decide (r012 < r014))) || (decide (r005 < r003)))) (gy_f rfl) (fun hg => x_cmp (kd := .i64) (a := r015) (b := r013) (r := decide (r013 < r015)) (gd_of (c := !(((((((r18 != 0) || (r19 != 0)) || (r110 != 0)) || (r111 != 0)) || (decide (r004 < r002))) || (decide (r012 < r014))) || (decide (r005 < r003)))) hg (I r015)) (gd_of (c := !(((((((r18 != 0) || (r19 != 0)) || (r110 != 0)) || (r111 != 0)) || (decide (r004 < r002))) || (decide (r012 < r014))) || (decide (r005 < r003)))) hg (I r013)) rfl) ?_
  refine s_val (x_por (b := (((((((r18 != 0) || (r19 != 0)) || (r110 != 0)) || (r111 != 0)) || (decide (r004 < r002))) || (decide (r012 < r014))) || (decide (r005 < r003)))) (r := decide (r013 < r015)) rfl rfl (fun hb => gd_of (c := !(((((((r18 != 0) || (r19 != 0)) || (r110 != 0)) || (r111 != 0)) || (decide (r004 < r002))) || (decide (r012 < r014))) || (decide (r005 < r003)))) (by first | exact hb | (rw [hb]; rfl) | simp_all) (B (decide (r013 < r015))))) ?_
  refine s_nil ?_
  refine W.cond ((((((((r18 != 0) || (r19 != 0)) || (r110 != 0)) || (r111 != 0)) || (decide (r004 < r002))) || (decide (r012 < r014))) || (decide (r005 < r003))) || (decide (r013 < r015))) rfl (fun c385z => ?_) (fun c385z => ?_)
  ·replace hM := M.e_t hM c385z
   refine W.seq ?_
   refine W.region rfl ?_
   refine s_val (x_as (v := B false) rfl) ?_
   refine s_nil ?_
   refine W.ret ?_
   have hr_ := M.e_pure hM
   exact ⟨_, resE_tmp rfl, ⟨false, hr_, rfl, (H.pick [] (by decide) rfl)⟩⟩
  replace hM := M.e_f hM c385z
  refine W.skip ?_
  refine W.seq ?_
  refine W.seq ?_
  refine W.region rfl ?_
  refine s_val (x_ld (p := .pointer (some ⟨b_18, 0, none⟩)) (v := .agg #[v_l2, u1_14, I r24, I r32]) rfl (ldb_ag (ds := [v_l2, u1_14, I r24, I r32]) Ag26 Sz26 (H.blk (k := 9) rfl) rfl rfl)) ?_
  refine s_val (x_ld (p := .pointer (some ⟨b_29, 0, none⟩)) (v := .agg #[u346z, u1_26, I r26, I r34]) rfl (ldb_ag (ds := [u346z, u1_26, I r26, I r34]) Ag26 Sz26 (H.blk (k := 4) rfl) rfl rfl)) ?_
  obtain ⟨Bs_34, H⟩ := H.emptyE
  obtain ⟨Bs_35, H, hs387z⟩ := H.freezeE (k := 12) rfl
  replace H : St w w384z [cRo Bs_34, cBlk b_33 [I r005, I r015] 35, cBlk b_32 [I r004, I r014] 35, cBlk b_31 [I r003, I r013] 35, cBlk b_30 [I r002, I r012] 35, cBlk b_29 [u346z, u1_26, I r26, I r34] 26, cOwn (α := Yr) 41 u0_25 r06, cOwn (α := Raw 3) 43 u1_26 rr2_27, cRo Bs3_28, cBlk nb0_8 [v_more, I s3, I s4] 101, cBlk b_18 [v_l2, u1_14, I r24, I r32] 26, cBlk b_17 [u0_9, v_l, I r23, I r3] 26, cRo Bs_35, cOwn (α := Raw 3) 43 u1_14 rr2_15, cRo Bs3_16, cOwn (α := Yr) 41 u0_9 r0, cOwn (α := Raw 3) 43 v_l rw_l, cRo B_l, cBlk b_7 [u0_2, u1_3, I r02, I r03] 26, cOwn (α := Yr) 41 u0_2 r00, cOwn (α := Raw 3) 43 u1_3 rr2_4, cRo Bs3_5, cOwn (α := Int) 3 u4_6 r12, cBlk nb0_1 [v_numbers, I q1, I q2] 101] R := H
  have hq386z := hs387z
  obtain ⟨Bs_36, H, le388z, le389z⟩ := H.joinE (i := 0) (j := 12) rfl rfl
  replace hq386z := hq386z.mono le389z
  obtain ⟨Bs_37, H, hs391z⟩ := H.freezeE (k := 14) rfl
  obtain ⟨Bs_38, H, le392z, le393z⟩ := H.joinE (i := 14) (j := 15) rfl rfl
  have hs394z := unraw (α := Old10) rfl (hs391z.mono le392z) (hrj284z.mono le393z)
  replace H : St w w384z [cRo Bs_38, cRo Bs_36, cRo Bs_34, cBlk b_33 [I r005, I r015] 35, cBlk b_32 [I r004, I r014] 35, cBlk b_31 [I r003, I r013] 35, cBlk b_30 [I r002, I r012] 35, cBlk b_29 [u346z, u1_26, I r26, I r34] 26, cOwn (α := Yr) 41 u0_25 r06, cOwn (α := Raw 3) 43 u1_26 rr2_27, cRo Bs3_28, cBlk nb0_8 [v_more, I s3, I s4] 101, cBlk b_18 [v_l2, u1_14, I r24, I r32] 26, cBlk b_17 [u0_9, v_l, I r23, I r3] 26, cRo Bs_35, cRo Bs_37, cRo Bs3_16, cOwn (α := Yr) 41 u0_9 r0, cOwn (α := Raw 3) 43 v_l rw_l, cRo B_l, cBlk b_7 [u0_2, u1_3, I r02, I r03] 26, cOwn (α := Yr) 41 u0_2 r00, cOwn (α := Raw 3) 43 u1_3 rr2_4, cRo Bs3_5, cOwn (α := Int) 3 u4_6 r12, cBlk nb0_1 [v_numbers, I q1, I q2] 101] R := H
  have hq390z := hs394z
  obtain ⟨Bs_39, H, le395z, le396z⟩ := H.joinE (i := 1) (j := 0) rfl rfl
  replace hq386z := hq386z.mono le395z
  replace hq390z := hq390z.mono le396z
  obtain ⟨Bs_40, H, hs398z, le399z⟩ := H.freezeV (k := 9) rfl
  replace H : St w w384z [cRo Bs_39, cRo Bs_38, cRo Bs_36, cRo Bs_34, cBlk b_33 [I r005, I r015] 35, cBlk b_32 [I r004, I r014] 35, cBlk b_31 [I r003, I r013] 35, cBlk b_30 [I r002, I r012] 35, cBlk b_29 [u346z, u1_26, I r26, I r34] 26, cRo Bs_40, cOwn (α := Raw 3) 43 u1_26 rr2_27, cRo Bs3_28, cBlk nb0_8 [v_more, I s3, I s4] 101, cBlk b_18 [v_l2, u1_14, I r24, I r32] 26, cBlk b_17 [u0_9, v_l, I r23, I r3] 26, cRo Bs_35, cRo Bs_37, cRo Bs3_16, cOwn (α := Yr) 41 u0_9 r0, cOwn (α := Raw 3) 43 v_l rw_l, cRo B_l, cBlk b_7 [u0_2, u1_3, I r02, I r03] 26, cOwn (α := Yr) 41 u0_2 r00, cOwn (α := Raw 3) 43 u1_3 rr2_4, cRo Bs3_5, cOwn (α := Int) 3 u4_6 r12, cBlk nb0_1 [v_numbers, I q1, I q2] 101] R := H
  have hs400z := hs347z.mono le399z
  have hq397z := hs400z
  obtain ⟨Bs_41, H, le401z, le402z⟩ := H.joinE (i := 0) (j := 9) rfl rfl
  replace hq386z := hq386z.mono le401z
  replace hq390z := hq390z.mono le401z
  replace hq397z := hq397z.mono le402z
  obtain ⟨Bs_42, H, hs404z⟩ := H.freezeE (k := 11) rfl
  obtain ⟨Bs_43, H, le405z, le406z⟩ := H.joinE (i := 11) (j := 12) rfl rfl
  have hs407z := unraw (α := Old10) rfl (hs404z.mono le405z) (hf341z.mono le406z)
  replace H : St w w384z [cRo Bs_43, cRo Bs_41, cRo Bs_39, cRo Bs_38, cRo Bs_36, cRo Bs_34, cBlk b_33 [I r005, I r015] 35, cBlk b_32 [I r004, I r014] 35, cBlk b_31 [I r003, I r013] 35, cBlk b_30 [I r002, I r012] 35, cBlk b_29 [u346z, u1_26, I r26, I r34] 26, cRo Bs_40, cRo Bs_42, cRo Bs3_28, cBlk nb0_8 [v_more, I s3, I s4] 101, cBlk b_18 [v_l2, u1_14, I r24, I r32] 26, cBlk b_17 [u0_9, v_l, I r23, I r3] 26, cRo Bs_35, cRo Bs_37, cRo Bs3_16, cOwn (α := Yr) 41 u0_9 r0, cOwn (α := Raw 3) 43 v_l rw_l, cRo B_l, cBlk b_7 [u0_2, u1_3, I r02, I r03] 26, cOwn (α := Yr) 41 u0_2 r00, cOwn (α := Raw 3) 43 u1_3 rr2_4, cRo Bs3_5, cOwn (α := Int) 3 u4_6 r12, cBlk nb0_1 [v_numbers, I q1, I q2] 101] R := H
  have hq403z := hs407z
  obtain ⟨Bs_44, H, le408z, le409z⟩ := H.joinE (i := 1) (j := 0) rfl rfl
  replace hq386z := hq386z.mono le408z
  replace hq390z := hq390z.mono le408z
  replace hq397z := hq397z.mono le408z
  replace hq403z := hq403z.mono le409z
  obtain ⟨rw410z, hrw_rw410z⟩ : ∃ r : Raw 3, r.cs = [v_l2, u1_14, I r24, I r32] := ⟨Raw.of [v_l2, u1_14, I r24, I r32] rfl (by simp only [List.all_cons, List.all_nil, Bool.true_and, Bool.and_true, Sl.oc hq386z, Sl.oc hq390z]; try rfl), rfl⟩
  obtain ⟨rw411z, hrw_rw411z⟩ : ∃ r : Raw 3, r.cs = [u346z, u1_26, I r26, I r34] := ⟨Raw.of [u346z, u1_26, I r26, I r34] rfl (by simp only [List.all_cons, List.all_nil, Bool.true_and, Bool.and_true, Sl.oc hq397z, Sl.oc hq403z]; try rfl), rfl⟩
  have hr412z : RepR (α := Bk10) Bs_44.cells [rw410z, rw411z] [(⟨l2, r15, (r24 : Int), (r32 : Int)⟩ : Bk10), (⟨(r06.drop 1), r17, (r26 : Int), (r34 : Int)⟩ : Bk10)] := .cons (by rw [hrw_rw410z]; exact ⟨_, _, rfl, hq386z, hq390z⟩) <| .cons (by rw [hrw_rw411z]; exact ⟨_, _, rfl, hq397z, hq403z⟩) <| .nil
  refine t_bs (α := Raw 3) T49 [.agg #[v_l2, u1_14, I r24, I r32], .agg #[u346z, u1_26, I r26, I r34]] [rw410z, rw411z] H rfl (.cons (by rw [show (Flat.enc rw410z : List Value) = rw410z.cs from rfl, hrw_rw410z]; rfl) (Flat.rep_enc _ _) <| .cons (by rw [show (Flat.enc rw411z : List Value) = rw411z.cs from rfl, hrw_rw411z]; rfl) (Flat.rep_enc _ _) <| .nil) rfl rfl rfl ?_
  intro v413z w414z H
  replace H : St w w414z [cOwn (α := Raw 3) 26 v413z ([rw410z, rw411z]), cRo Bs_44, cRo Bs_43, cRo Bs_41, cRo Bs_39, cRo Bs_38, cRo Bs_36, cRo Bs_34, cBlk b_33 [I r005, I r015] 35, cBlk b_32 [I r004, I r014] 35, cBlk b_31 [I r003, I r013] 35, cBlk b_30 [I r002, I r012] 35, cBlk b_29 [u346z, u1_26, I r26, I r34] 26, cRo Bs_40, cRo Bs_42, cRo Bs3_28, cBlk nb0_8 [v_more, I s3, I s4] 101, cBlk b_18 [v_l2, u1_14, I r24, I r32] 26, cBlk b_17 [u0_9, v_l, I r23, I r3] 26, cRo Bs_35, cRo Bs_37, cRo Bs3_16, cOwn (α := Yr) 41 u0_9 r0, cOwn (α := Raw 3) 43 v_l rw_l, cRo B_l, cBlk b_7 [u0_2, u1_3, I r02, I r03] 26, cOwn (α := Yr) 41 u0_2 r00, cOwn (α := Raw 3) 43 u1_3 rr2_4, cRo Bs3_5, cOwn (α := Int) 3 u4_6 r12, cBlk nb0_1 [v_numbers, I q1, I q2] 101] R := H
  have hl415z := ((rowSl rfl (H.get (k := 0) rfl) (roLe _ (H.get (k := 1) rfl)) hr412z)).len_le
  refine s_val (x_lenS T49.und rfl (rowSl rfl (H.get (k := 0) rfl) (roLe _ (H.get (k := 1) rfl)) hr412z)) ?_
  refine s_val (x_mv (v := I 0) rfl) ?_
  refine s_nil ?_
  refine W.block ?_
  obtain ⟨ex416z, hi417z, hk418z⟩ := M.e_bind hM
  obtain ⟨m0_, hi417z⟩ := M.e_iter hi417z
  refine W.loop (fun m σ W => ∃ (s5 : Nat) (ρ : Env), σ = upds ρ [(9, .pointer (some ⟨b_7, 0, none⟩)), (16, I (r02 + r7)), (17, I r8), (18, .pointer (some ⟨b_30, 0, none⟩)), (20, .pointer (some ⟨b_31, 0, none⟩)), (186, v413z), (187, I (([(⟨l2, r15, (r24 : Int), (r32 : Int)⟩ : Bk10), (⟨(r06.drop 1), r17, (r26 : Int), (r34 : Int)⟩ : Bk10)]).length : Int)), (188, I (s5 : Int))] /\ M.iterN (zbd r02 r03 r15 r24 r32 l2 r06 r17 r26 r34 r7 r8 r002 r012 r003 r013) m s5 = some ex416z /\ St w W [cOwn (α := Raw 3) 26 v413z ([rw410z, rw411z]), cRo Bs_44, cRo Bs_43, cRo Bs_41, cRo Bs_39, cRo Bs_38, cRo Bs_36, cRo Bs_34, cBlk b_33 [I r005, I r015] 35, cBlk b_32 [I r004, I r014] 35, cBlk b_31 [I r003, I r013] 35, cBlk b_30 [I r002, I r012] 35, cBlk b_29 [u346z, u1_26, I r26, I r34] 26, cRo Bs_40, cRo Bs_42, cRo Bs3_28, cBlk nb0_8 [v_more, I s3, I s4] 101, cBlk b_18 [v_l2, u1_14, I r24, I r32] 26, cBlk b_17 [u0_9, v_l, I r23, I r3] 26, cRo Bs_35, cRo Bs_37, cRo Bs3_16, cOwn (α := Yr) 41 u0_9 r0, cOwn (α := Raw 3) 43 v_l rw_l, cRo B_l, cBlk b_7 [u0_2, u1_3, I r02, I r03] 26, cOwn (α := Yr) 41 u0_2 r00, cOwn (α := Raw 3) 43 u1_3 rr2_4, cRo Bs3_5, cOwn (α := Int) 3 u4_6 r12, cBlk nb0_1 [v_numbers, I q1, I q2] 101] R) ?_ ?_
  ·exact ⟨_, 0, _, upds_of _ _ ⟨rfl, rfl, rfl, rfl, rfl, rfl, rfl, rfl, trivial⟩, hi417z, H⟩
  rintro m421z σ w419z ⟨s5, ρ, rfl, hI420z, H⟩
  obtain ⟨m422z, lt423z, x424z, hM, hN425z⟩ := M.e_iterN hI420z
  simp only [zbd] at hM
  clear hI420z
  refine W.seq ?_
  refine W.region rfl ?_
  refine s_val (x_cmp (kd := .i64) (a := (s5 : Int)) (b := (([(⟨l2, r15, (r24 : Int), (r32 : Int)⟩ : Bk10), (⟨(r06.drop 1), r17, (r26 : Int), (r34 : Int)⟩ : Bk10)]).length : Int)) (r := decide ((s5 : Int) < (([(⟨l2, r15, (r24 : Int), (r32 : Int)⟩ : Bk10), (⟨(r06.drop 1), r17, (r26 : Int), (r34 : Int)⟩ : Bk10)]).length : Int))) rfl rfl rfl) ?_
  refine s_nil ?_
  refine W.seq ?_
  refine W.cond (decide ((s5 : Int) < (([(⟨l2, r15, (r24 : Int), (r32 : Int)⟩ : Bk10), (⟨(r06.drop 1), r17, (r26 : Int), (r34 : Int)⟩ : Bk10)]).length : Int))) rfl (fun c426z => ?_) (fun c426z => ?_)
  ·replace hM := M.e_t hM c426z
   simp only [decide_eq_true_eq, decide_eq_false_iff_not, beq_iff_eq, bne_iff_ne, beq_eq_false_iff_ne, bne_eq_false_iff_eq, ne_eq, Decidable.not_not] at c426z
   refine W.skip ?_
   refine W.seq ?_
   refine W.block ?_
   refine W.seq ?_
   refine W.region rfl ?_
   obtain ⟨sd427z, hM⟩ := M.e_grd hM
   simp only [Bool.and_eq_true, decide_eq_true_eq] at sd427z
   refine s_val (x_ix (a := v413z) (b := I (s5 : Int)) (v := vat v413z 4 (Int.toNat (s5 : Int))) rfl rfl (Sl.ix (α := Bk10) T49.und T49.size (rowSl rfl (H.get (k := 0) rfl) (roLe _ (H.get (k := 1) rfl)) hr412z) (by omega) (by omega))) ?_
   obtain ⟨u428z, u429z, ha432z, hs430z, hs431z⟩ := Bk10_atA (rowSl rfl (H.get (k := 0) rfl) (roLe _ (H.get (k := 1) rfl)) hr412z) (i := (s5 : Int)) (by omega) (by omega)
   replace hs430z : Sl _ u428z (([(⟨l2, r15, (r24 : Int), (r32 : Int)⟩ : Bk10), (⟨(r06.drop 1), r17, (r26 : Int), (r34 : Int)⟩ : Bk10)]).getD s5 default).years := hs430z
   have hl_hs430z := hs430z.len_le
   replace hs431z : Sl _ u429z (([(⟨l2, r15, (r24 : Int), (r32 : Int)⟩ : Bk10), (⟨(r06.drop 1), r17, (r26 : Int), (r34 : Int)⟩ : Bk10)]).getD s5 default).olds := hs431z
   have hl_hs431z := hs431z.len_le
   refine s_val (x_ld (p := vat v413z 4 (Int.toNat (s5 : Int))) (v := .agg #[u428z, u429z, I ((([(⟨l2, r15, (r24 : Int), (r32 : Int)⟩ : Bk10), (⟨(r06.drop 1), r17, (r26 : Int), (r34 : Int)⟩ : Bk10)]).getD s5 default).first), I ((([(⟨l2, r15, (r24 : Int), (r32 : Int)⟩ : Bk10), (⟨(r06.drop 1), r17, (r26 : Int), (r34 : Int)⟩ : Bk10)]).getD s5 default).last)]) rfl (ld_ag Ag26 Sz26 (At.mono ha432z (Cells.sup_le (ownLe _ (H.get (k := 0) rfl)) (roLe _ (H.get (k := 1) rfl)))))) ?_
   refine t_alloc (cs := [.slice none 0 0, .slice none 0 0, I 0, I 0]) H Al26 rfl ?_
   intro b_46 w433z H
   refine t_st (k := 0) (b := b_46) (off := 0) (cs := [.slice none 0 0, .slice none 0 0, I 0, I 0]) (vs := [u428z, u429z, I ((([(⟨l2, r15, (r24 : Int), (r32 : Int)⟩ : Bk10), (⟨(r06.drop 1), r17, (r26 : Int), (r34 : Int)⟩ : Bk10)]).getD s5 default).first), I ((([(⟨l2, r15, (r24 : Int), (r32 : Int)⟩ : Bk10), (⟨(r06.drop 1), r17, (r26 : Int), (r34 : Int)⟩ : Bk10)]).getD s5 default).last)]) (cs' := [u428z, u429z, I ((([(⟨l2, r15, (r24 : Int), (r32 : Int)⟩ : Bk10), (⟨(r06.drop 1), r17, (r26 : Int), (r34 : Int)⟩ : Bk10)]).getD s5 default).first), I ((([(⟨l2, r15, (r24 : Int), (r32 : Int)⟩ : Bk10), (⟨(r06.drop 1), r17, (r26 : Int), (r34 : Int)⟩ : Bk10)]).getD s5 default).last)]) (v := .agg #[u428z, u429z, I ((([(⟨l2, r15, (r24 : Int), (r32 : Int)⟩ : Bk10), (⟨(r06.drop 1), r17, (r26 : Int), (r34 : Int)⟩ : Bk10)]).getD s5 default).first), I ((([(⟨l2, r15, (r24 : Int), (r32 : Int)⟩ : Bk10), (⟨(r06.drop 1), r17, (r26 : Int), (r34 : Int)⟩ : Bk10)]).getD s5 default).last)]) (L' := [cBlk b_46 [u428z, u429z, I ((([(⟨l2, r15, (r24 : Int), (r32 : Int)⟩ : Bk10), (⟨(r06.drop 1), r17, (r26 : Int), (r34 : Int)⟩ : Bk10)]).getD s5 default).first), I ((([(⟨l2, r15, (r24 : Int), (r32 : Int)⟩ : Bk10), (⟨(r06.drop 1), r17, (r26 : Int), (r34 : Int)⟩ : Bk10)]).getD s5 default).last)] 26, cOwn (α := Raw 3) 26 v413z ([rw410z, rw411z]), cRo Bs_44, cRo Bs_43, cRo Bs_41, cRo Bs_39, cRo Bs_38, cRo Bs_36, cRo Bs_34, cBlk b_33 [I r005, I r015] 35, cBlk b_32 [I r004, I r014] 35, cBlk b_31 [I r003, I r013] 35, cBlk b_30 [I r002, I r012] 35, cBlk b_29 [u346z, u1_26, I r26, I r34] 26, cRo Bs_40, cRo Bs_42, cRo Bs3_28, cBlk nb0_8 [v_more, I s3, I s4] 101, cBlk b_18 [v_l2, u1_14, I r24, I r32] 26, cBlk b_17 [u0_9, v_l, I r23, I r3] 26, cRo Bs_35, cRo Bs_37, cRo Bs3_16, cOwn (α := Yr) 41 u0_9 r0, cOwn (α := Raw 3) 43 v_l rw_l, cRo B_l, cBlk b_7 [u0_2, u1_3, I r02, I r03] 26, cOwn (α := Yr) 41 u0_2 r00, cOwn (α := Raw 3) 43 u1_3 rr2_4, cRo Bs3_5, cOwn (α := Int) 3 u4_6 r12, cBlk nb0_1 [v_numbers, I q1, I q2] 101]) H rfl rfl rfl Sz26 rfl rfl rfl (by simp only [List.all_cons, List.all_nil, Bool.true_and, Bool.and_true, Sl.oc hs430z, Sl.oc hs431z]; try rfl) rfl rfl ?_
   intro w434z H
   refine s_nil ?_
   refine W.seq ?_
   refine W.region rfl ?_
   refine s_val (x_ld (p := .pointer (some ⟨b_46, 0, none⟩)) (v := .agg #[u428z, u429z, I ((([(⟨l2, r15, (r24 : Int), (r32 : Int)⟩ : Bk10), (⟨(r06.drop 1), r17, (r26 : Int), (r34 : Int)⟩ : Bk10)]).getD s5 default).first), I ((([(⟨l2, r15, (r24 : Int), (r32 : Int)⟩ : Bk10), (⟨(r06.drop 1), r17, (r26 : Int), (r34 : Int)⟩ : Bk10)]).getD s5 default).last)]) rfl (ldb_ag (ds := [u428z, u429z, I ((([(⟨l2, r15, (r24 : Int), (r32 : Int)⟩ : Bk10), (⟨(r06.drop 1), r17, (r26 : Int), (r34 : Int)⟩ : Bk10)]).getD s5 default).first), I ((([(⟨l2, r15, (r24 : Int), (r32 : Int)⟩ : Bk10), (⟨(r06.drop 1), r17, (r26 : Int), (r34 : Int)⟩ : Bk10)]).getD s5 default).last)]) Ag26 Sz26 (H.blk (k := 0) rfl) rfl rfl)) ?_
   refine s_val (x_fa (a := .pointer (some ⟨b_7, 0, none⟩)) (v := .pointer (some ⟨b_7, 2, none⟩)) rfl (fa_blk (o := 0) Fd26_2 Sz3)) ?_
   refine s_val (x_ld (p := .pointer (some ⟨b_7, 2, none⟩)) (v := I r02) rfl (ldb_sc Sc3 (H.blk (k := 26) rfl) rfl)) ?_
   refine s_val (x_fa (a := .pointer (some ⟨b_7, 0, none⟩)) (v := .pointer (some ⟨b_7, 3, none⟩)) rfl (fa_blk (o := 0) Fd26_3 Sz3)) ?_
   refine s_val (x_ld (p := .pointer (some ⟨b_7, 3, none⟩)) (v := I r03) rfl (ldb_sc Sc3 (H.blk (k := 26) rfl) rfl)) ?_
   refine s_val (x_mv (v := I r8) rfl) ?_
   obtain ⟨r436z, hx435z, hM⟩ := M.e_bind hM
   refine s_call cf15 [.agg #[u428z, u429z, I ((([(⟨l2, r15, (r24 : Int), (r32 : Int)⟩ : Bk10), (⟨(r06.drop 1), r17, (r26 : Int), (r34 : Int)⟩ : Bk10)]).getD s5 default).first), I ((([(⟨l2, r15, (r24 : Int), (r32 : Int)⟩ : Bk10), (⟨(r06.drop 1), r17, (r26 : Int), (r34 : Int)⟩ : Bk10)]).getD s5 default).last)], I r02, I r03, I r8] rfl (zah ((([(⟨l2, r15, (r24 : Int), (r32 : Int)⟩ : Bk10), (⟨(r06.drop 1), r17, (r26 : Int), (r34 : Int)⟩ : Bk10)]).getD s5 default).years) ((([(⟨l2, r15, (r24 : Int), (r32 : Int)⟩ : Bk10), (⟨(r06.drop 1), r17, (r26 : Int), (r34 : Int)⟩ : Bk10)]).getD s5 default).olds) ((([(⟨l2, r15, (r24 : Int), (r32 : Int)⟩ : Bk10), (⟨(r06.drop 1), r17, (r26 : Int), (r34 : Int)⟩ : Bk10)]).getD s5 default).first) ((([(⟨l2, r15, (r24 : Int), (r32 : Int)⟩ : Bk10), (⟨(r06.drop 1), r17, (r26 : Int), (r34 : Int)⟩ : Bk10)]).getD s5 default).last) r02 r03 r8 (Reads.sup (Reads.of (k := 1) rfl ownLe) (Reads.of (k := 2) rfl roLe)) hs430z (Reads.sup (Reads.of (k := 1) rfl ownLe) (Reads.of (k := 2) rfl roLe)) hs431z hx435z _ (St.give (T := [cBlk b_46 [u428z, u429z, I ((([(⟨l2, r15, (r24 : Int), (r32 : Int)⟩ : Bk10), (⟨(r06.drop 1), r17, (r26 : Int), (r34 : Int)⟩ : Bk10)]).getD s5 default).first), I ((([(⟨l2, r15, (r24 : Int), (r32 : Int)⟩ : Bk10), (⟨(r06.drop 1), r17, (r26 : Int), (r34 : Int)⟩ : Bk10)]).getD s5 default).last)] 26, cOwn (α := Raw 3) 26 v413z ([rw410z, rw411z]), cRo Bs_44, cRo Bs_43, cRo Bs_41, cRo Bs_39, cRo Bs_38, cRo Bs_36, cRo Bs_34, cBlk b_33 [I r005, I r015] 35, cBlk b_32 [I r004, I r014] 35, cBlk b_31 [I r003, I r013] 35, cBlk b_30 [I r002, I r012] 35, cBlk b_29 [u346z, u1_26, I r26, I r34] 26, cRo Bs_40, cRo Bs_42, cRo Bs3_28, cBlk nb0_8 [v_more, I s3, I s4] 101, cBlk b_18 [v_l2, u1_14, I r24, I r32] 26, cBlk b_17 [u0_9, v_l, I r23, I r3] 26, cRo Bs_35, cRo Bs_37, cRo Bs3_16, cOwn (α := Yr) 41 u0_9 r0, cOwn (α := Raw 3) 43 v_l rw_l, cRo B_l, cBlk b_7 [u0_2, u1_3, I r02, I r03] 26, cOwn (α := Yr) 41 u0_2 r00, cOwn (α := Raw 3) 43 u1_3 rr2_4, cRo Bs3_5, cOwn (α := Int) 3 u4_6 r12, cBlk nb0_1 [v_numbers, I q1, I q2] 101]) H rfl)) ?_
   rintro vq w437z ⟨r006, r016, r112, hr438z, hvq, H2_⟩
   subst hr438z
   subst vq
   try dsimp only at hM
   replace H : St w w437z [cBlk b_46 [u428z, u429z, I ((([(⟨l2, r15, (r24 : Int), (r32 : Int)⟩ : Bk10), (⟨(r06.drop 1), r17, (r26 : Int), (r34 : Int)⟩ : Bk10)]).getD s5 default).first), I ((([(⟨l2, r15, (r24 : Int), (r32 : Int)⟩ : Bk10), (⟨(r06.drop 1), r17, (r26 : Int), (r34 : Int)⟩ : Bk10)]).getD s5 default).last)] 26, cOwn (α := Raw 3) 26 v413z ([rw410z, rw411z]), cRo Bs_44, cRo Bs_43, cRo Bs_41, cRo Bs_39, cRo Bs_38, cRo Bs_36, cRo Bs_34, cBlk b_33 [I r005, I r015] 35, cBlk b_32 [I r004, I r014] 35, cBlk b_31 [I r003, I r013] 35, cBlk b_30 [I r002, I r012] 35, cBlk b_29 [u346z, u1_26, I r26, I r34] 26, cRo Bs_40, cRo Bs_42, cRo Bs3_28, cBlk nb0_8 [v_more, I s3, I s4] 101, cBlk b_18 [v_l2, u1_14, I r24, I r32] 26, cBlk b_17 [u0_9, v_l, I r23, I r3] 26, cRo Bs_35, cRo Bs_37, cRo Bs3_16, cOwn (α := Yr) 41 u0_9 r0, cOwn (α := Raw 3) 43 v_l rw_l, cRo B_l, cBlk b_7 [u0_2, u1_3, I r02, I r03] 26, cOwn (α := Yr) 41 u0_2 r00, cOwn (α := Raw 3) 43 u1_3 rr2_4, cRo Bs3_5, cOwn (α := Int) 3 u4_6 r12, cBlk nb0_1 [v_numbers, I q1, I q2] 101] R := H.back H2_ rfl
   clear H2_
   refine s_val (x_mv (v := .tuple #[.agg #[I r006, I r016], I r112]) rfl) ?_
   refine s_val (x_ext (vs := [.agg #[I r006, I r016], I r112]) (v := .agg #[I r006, I r016]) rfl rfl) ?_
   refine s_val (x_ext (vs := [.agg #[I r006, I r016], I r112]) (v := I r112) rfl rfl) ?_
   refine t_alloc (cs := [I 0, I 0]) H Al35 rfl ?_
   intro b_47 w439z H
   refine t_st (k := 0) (b := b_47) (off := 0) (cs := [I 0, I 0]) (vs := [I r006, I r016]) (cs' := [I r006, I r016]) (v := .agg #[I r006, I r016]) (L' := [cBlk b_47 [I r006, I r016] 35, cBlk b_46 [u428z, u429z, I ((([(⟨l2, r15, (r24 : Int), (r32 : Int)⟩ : Bk10), (⟨(r06.drop 1), r17, (r26 : Int), (r34 : Int)⟩ : Bk10)]).getD s5 default).first), I ((([(⟨l2, r15, (r24 : Int), (r32 : Int)⟩ : Bk10), (⟨(r06.drop 1), r17, (r26 : Int), (r34 : Int)⟩ : Bk10)]).getD s5 default).last)] 26, cOwn (α := Raw 3) 26 v413z ([rw410z, rw411z]), cRo Bs_44, cRo Bs_43, cRo Bs_41, cRo Bs_39, cRo Bs_38, cRo Bs_36, cRo Bs_34, cBlk b_33 [I r005, I r015] 35, cBlk b_32 [I r004, I r014] 35, cBlk b_31 [I r003, I r013] 35, cBlk b_30 [I r002, I r012] 35, cBlk b_29 [u346z, u1_26, I r26, I r34] 26, cRo Bs_40, cRo Bs_42, cRo Bs3_28, cBlk nb0_8 [v_more, I s3, I s4] 101, cBlk b_18 [v_l2, u1_14, I r24, I r32] 26, cBlk b_17 [u0_9, v_l, I r23, I r3] 26, cRo Bs_35, cRo Bs_37, cRo Bs3_16, cOwn (α := Yr) 41 u0_9 r0, cOwn (α := Raw 3) 43 v_l rw_l, cRo B_l, cBlk b_7 [u0_2, u1_3, I r02, I r03] 26, cOwn (α := Yr) 41 u0_2 r00, cOwn (α := Raw 3) 43 u1_3 rr2_4, cRo Bs3_5, cOwn (α := Int) 3 u4_6 r12, cBlk nb0_1 [v_numbers, I q1, I q2] 101]) H rfl rfl rfl Sz35 rfl rfl rfl rfl rfl rfl ?_
   intro w440z H
   refine s_val (x_as (v := I r112) rfl) ?_
   refine s_nil ?_
   refine W.seq ?_
   refine W.region rfl ?_
   refine s_val (x_ld (p := .pointer (some ⟨b_46, 0, none⟩)) (v := .agg #[u428z, u429z, I ((([(⟨l2, r15, (r24 : Int), (r32 : Int)⟩ : Bk10), (⟨(r06.drop 1), r17, (r26 : Int), (r34 : Int)⟩ : Bk10)]).getD s5 default).first), I ((([(⟨l2, r15, (r24 : Int), (r32 : Int)⟩ : Bk10), (⟨(r06.drop 1), r17, (r26 : Int), (r34 : Int)⟩ : Bk10)]).getD s5 default).last)]) rfl (ldb_ag (ds := [u428z, u429z, I ((([(⟨l2, r15, (r24 : Int), (r32 : Int)⟩ : Bk10), (⟨(r06.drop 1), r17, (r26 : Int), (r34 : Int)⟩ : Bk10)]).getD s5 default).first), I ((([(⟨l2, r15, (r24 : Int), (r32 : Int)⟩ : Bk10), (⟨(r06.drop 1), r17, (r26 : Int), (r34 : Int)⟩ : Bk10)]).getD s5 default).last)]) Ag26 Sz26 (H.blk (k := 1) rfl) rfl rfl)) ?_
   refine s_val (x_mv (v := I (r02 + r7)) rfl) ?_
   obtain ⟨r442z, hx441z, hM⟩ := M.e_bind hM
   refine s_call cf20 [.agg #[u428z, u429z, I ((([(⟨l2, r15, (r24 : Int), (r32 : Int)⟩ : Bk10), (⟨(r06.drop 1), r17, (r26 : Int), (r34 : Int)⟩ : Bk10)]).getD s5 default).first), I ((([(⟨l2, r15, (r24 : Int), (r32 : Int)⟩ : Bk10), (⟨(r06.drop 1), r17, (r26 : Int), (r34 : Int)⟩ : Bk10)]).getD s5 default).last)], I (r02 + r7)] rfl (zaw ((([(⟨l2, r15, (r24 : Int), (r32 : Int)⟩ : Bk10), (⟨(r06.drop 1), r17, (r26 : Int), (r34 : Int)⟩ : Bk10)]).getD s5 default).years) ((([(⟨l2, r15, (r24 : Int), (r32 : Int)⟩ : Bk10), (⟨(r06.drop 1), r17, (r26 : Int), (r34 : Int)⟩ : Bk10)]).getD s5 default).olds) ((([(⟨l2, r15, (r24 : Int), (r32 : Int)⟩ : Bk10), (⟨(r06.drop 1), r17, (r26 : Int), (r34 : Int)⟩ : Bk10)]).getD s5 default).first) ((([(⟨l2, r15, (r24 : Int), (r32 : Int)⟩ : Bk10), (⟨(r06.drop 1), r17, (r26 : Int), (r34 : Int)⟩ : Bk10)]).getD s5 default).last) (r02 + r7) (Reads.sup (Reads.of (k := 2) rfl ownLe) (Reads.of (k := 3) rfl roLe)) hs430z (Reads.sup (Reads.of (k := 2) rfl ownLe) (Reads.of (k := 3) rfl roLe)) hs431z hx441z _ (St.give (T := [cBlk b_47 [I r006, I r016] 35, cBlk b_46 [u428z, u429z, I ((([(⟨l2, r15, (r24 : Int), (r32 : Int)⟩ : Bk10), (⟨(r06.drop 1), r17, (r26 : Int), (r34 : Int)⟩ : Bk10)]).getD s5 default).first), I ((([(⟨l2, r15, (r24 : Int), (r32 : Int)⟩ : Bk10), (⟨(r06.drop 1), r17, (r26 : Int), (r34 : Int)⟩ : Bk10)]).getD s5 default).last)] 26, cOwn (α := Raw 3) 26 v413z ([rw410z, rw411z]), cRo Bs_44, cRo Bs_43, cRo Bs_41, cRo Bs_39, cRo Bs_38, cRo Bs_36, cRo Bs_34, cBlk b_33 [I r005, I r015] 35, cBlk b_32 [I r004, I r014] 35, cBlk b_31 [I r003, I r013] 35, cBlk b_30 [I r002, I r012] 35, cBlk b_29 [u346z, u1_26, I r26, I r34] 26, cRo Bs_40, cRo Bs_42, cRo Bs3_28, cBlk nb0_8 [v_more, I s3, I s4] 101, cBlk b_18 [v_l2, u1_14, I r24, I r32] 26, cBlk b_17 [u0_9, v_l, I r23, I r3] 26, cRo Bs_35, cRo Bs_37, cRo Bs3_16, cOwn (α := Yr) 41 u0_9 r0, cOwn (α := Raw 3) 43 v_l rw_l, cRo B_l, cBlk b_7 [u0_2, u1_3, I r02, I r03] 26, cOwn (α := Yr) 41 u0_2 r00, cOwn (α := Raw 3) 43 u1_3 rr2_4, cRo Bs3_5, cOwn (α := Int) 3 u4_6 r12, cBlk nb0_1 [v_numbers, I q1, I q2] 101]) H rfl)) ?_
   rintro vq w443z ⟨r007, r017, r113, hr444z, hvq, H2_⟩
   subst hr444z
   subst vq
   try dsimp only at hM
   replace H : St w w443z [cBlk b_47 [I r006, I r016] 35, cBlk b_46 [u428z, u429z, I ((([(⟨l2, r15, (r24 : Int), (r32 : Int)⟩ : Bk10), (⟨(r06.drop 1), r17, (r26 : Int), (r34 : Int)⟩ : Bk10)]).getD s5 default).first), I ((([(⟨l2, r15, (r24 : Int), (r32 : Int)⟩ : Bk10), (⟨(r06.drop 1), r17, (r26 : Int), (r34 : Int)⟩ : Bk10)]).getD s5 default).last)] 26, cOwn (α := Raw 3) 26 v413z ([rw410z, rw411z]), cRo Bs_44, cRo Bs_43, cRo Bs_41, cRo Bs_39, cRo Bs_38, cRo Bs_36, cRo Bs_34, cBlk b_33 [I r005, I r015] 35, cBlk b_32 [I r004, I r014] 35, cBlk b_31 [I r003, I r013] 35, cBlk b_30 [I r002, I r012] 35, cBlk b_29 [u346z, u1_26, I r26, I r34] 26, cRo Bs_40, cRo Bs_42, cRo Bs3_28, cBlk nb0_8 [v_more, I s3, I s4] 101, cBlk b_18 [v_l2, u1_14, I r24, I r32] 26, cBlk b_17 [u0_9, v_l, I r23, I r3] 26, cRo Bs_35, cRo Bs_37, cRo Bs3_16, cOwn (α := Yr) 41 u0_9 r0, cOwn (α := Raw 3) 43 v_l rw_l, cRo B_l, cBlk b_7 [u0_2, u1_3, I r02, I r03] 26, cOwn (α := Yr) 41 u0_2 r00, cOwn (α := Raw 3) 43 u1_3 rr2_4, cRo Bs3_5, cOwn (α := Int) 3 u4_6 r12, cBlk nb0_1 [v_numbers, I q1, I q2] 101] R := H.back H2_ rfl
   clear H2_
   refine s_val (x_mv (v := .tuple #[.agg #[I r007, I r017], I r113]) rfl) ?_
   refine s_val (x_ext (vs := [.agg #[I r007, I r017], I r113]) (v := .agg #[I r007, I r017]) rfl rfl) ?_
   refine s_val (x_ext (vs := [.agg #[I r007, I r017], I r113]) (v := I r113) rfl rfl) ?_
   refine t_alloc (cs := [I 0, I 0]) H Al35 rfl ?_
   intro b_48 w445z H
   refine t_st (k := 0) (b := b_48) (off := 0) (cs := [I 0, I 0]) (vs := [I r007, I r017]) (cs' := [I r007, I r017]) (v := .agg #[I r007, I r017]) (L' := [cBlk b_48 [I r007, I r017] 35, cBlk b_47 [I r006, I r016] 35, cBlk b_46 [u428z, u429z, I ((([(⟨l2, r15, (r24 : Int), (r32 : Int)⟩ : Bk10), (⟨(r06.drop 1), r17, (r26 : Int), (r34 : Int)⟩ : Bk10)]).getD s5 default).first), I ((([(⟨l2, r15, (r24 : Int), (r32 : Int)⟩ : Bk10), (⟨(r06.drop 1), r17, (r26 : Int), (r34 : Int)⟩ : Bk10)]).getD s5 default).last)] 26, cOwn (α := Raw 3) 26 v413z ([rw410z, rw411z]), cRo Bs_44, cRo Bs_43, cRo Bs_41, cRo Bs_39, cRo Bs_38, cRo Bs_36, cRo Bs_34, cBlk b_33 [I r005, I r015] 35, cBlk b_32 [I r004, I r014] 35, cBlk b_31 [I r003, I r013] 35, cBlk b_30 [I r002, I r012] 35, cBlk b_29 [u346z, u1_26, I r26, I r34] 26, cRo Bs_40, cRo Bs_42, cRo Bs3_28, cBlk nb0_8 [v_more, I s3, I s4] 101, cBlk b_18 [v_l2, u1_14, I r24, I r32] 26, cBlk b_17 [u0_9, v_l, I r23, I r3] 26, cRo Bs_35, cRo Bs_37, cRo Bs3_16, cOwn (α := Yr) 41 u0_9 r0, cOwn (α := Raw 3) 43 v_l rw_l, cRo B_l, cBlk b_7 [u0_2, u1_3, I r02, I r03] 26, cOwn (α := Yr) 41 u0_2 r00, cOwn (α := Raw 3) 43 u1_3 rr2_4, cRo Bs3_5, cOwn (α := Int) 3 u4_6 r12, cBlk nb0_1 [v_numbers, I q1, I q2] 101]) H rfl rfl rfl Sz35 rfl rfl rfl rfl rfl rfl ?_
   intro w446z H
   refine s_val (x_as (v := I r113) rfl) ?_
   refine s_nil ?_
   refine W.seq ?_
   refine W.region rfl ?_
   refine s_val (x_mv (v := I r112) rfl) ?_
   refine s_val (x_cmp (kd := .i64) (a := r112) (b := 0) (r := r112 != 0) rfl rfl rfl) ?_
   refine s_val (x_mv (v := B (r112 != 0)) rfl) ?_
   refine g_val (!(r112 != 0)) (gy_f rfl) (fun hg => x_mv (v := I r113) rfl) ?_
   refine g_val (!(r112 != 0)) (gy_f rfl) (fun hg => x_cmp (kd := .i64) (a := r113) (b := 0) (r := r113 != 0) (gd_of (c := !(r112 != 0)) hg (I r113)) rfl rfl) ?_
   refine s_val (x_por (b := r112 != 0) (r := r113 != 0) rfl rfl (fun hb => gd_of (c := !(r112 != 0)) (by first | exact hb | (rw [hb]; rfl) | simp_all) (B (r113 != 0)))) ?_
   refine s_val (x_mv (v := B ((r112 != 0) || (r113 != 0))) rfl) ?_
   refine g_val (!((r112 != 0) || (r113 != 0))) (gy_f rfl) (fun hg => x_fa (a := .pointer (some ⟨b_47, 0, none⟩)) (v := .pointer (some ⟨b_47, 0, none⟩)) rfl (fa_blk (o := 0) Fd35_0 Sz3)) ?_
   refine g_val (!((r112 != 0) || (r113 != 0))) (gy_f rfl) (fun hg => x_ld (p := .pointer (some ⟨b_47, 0, none⟩)) (v := I r006) (gd_of (c := !((r112 != 0) || (r113 != 0))) hg (.pointer (some ⟨b_47, 0, none⟩))) (ldb_sc Sc3 (H.blk (k := 1) rfl) rfl)) ?_
   refine g_val (!((r112 != 0) || (r113 != 0))) (gy_f rfl) (fun hg => x_fa (a := .pointer (some ⟨b_30, 0, none⟩)) (v := .pointer (some ⟨b_30, 0, none⟩)) rfl (fa_blk (o := 0) Fd35_0 Sz3)) ?_
   refine g_val (!((r112 != 0) || (r113 != 0))) (gy_f rfl) (fun hg => x_ld (p := .pointer (some ⟨b_30, 0, none⟩)) (v := I r002) (gd_of (c := !((r112 != 0) || (r113 != 0))) hg (.pointer (some ⟨b_30, 0, none⟩))) (ldb_sc Sc3 (H.blk (k := 14) rfl) rfl)) ?_
   refine g_val (!((r112 != 0) || (r113 != 0))) (gy_f rfl) (fun hg => x_cmp (kd := .i64) (a := r006) (b := r002) (r := decide (r002 < r006)) (gd_of (c := !((r112 != 0) || (r113 != 0))) hg (I r006)) (gd_of (c := !((r112 != 0) || (r113 != 0))) hg (I r002)) rfl) ?_
   refine s_val (x_por (b := ((r112 != 0) || (r113 != 0))) (r := decide (r002 < r006)) rfl rfl (fun hb => gd_of (c := !((r112 != 0) || (r113 != 0))) (by first | exact hb | (rw [hb]; rfl) | simp_all) (B (decide (r002 < r006))))) ?_
   refine s_val (x_mv (v := B (((r112 != 0) || (r113 != 0)) || (decide (r002 < r006)))) rfl) ?_
   refine g_val (!(((r112 != 0) || (r113 != 0)) || (decide (r002 < r006)))) (gy_f rfl) (fun hg => x_fa (a := .pointer (some ⟨b_47, 0, none⟩)) (v := .pointer (some ⟨b_47, 1, none⟩)) rfl (fa_blk (o := 0) Fd35_1 Sz3)) ?_
   refine g_val (!(((r112 != 0) || (r113 != 0)) || (decide (r002 < r006)))) (gy_f rfl) (fun hg => x_ld (p := .pointer (some ⟨b_47, 1, none⟩)) (v := I r016) (gd_of (c := !(((r112 != 0) || (r113 != 0)) || (decide (r002 < r006)))) hg (.pointer (some ⟨b_47, 1, none⟩))) (ldb_sc Sc3 (H.blk (k := 1) rfl) rfl)) ?_
   refine g_val (!(((r112 != 0) || (r113 != 0)) || (decide (r002 < r006)))) (gy_f rfl) (fun hg => x_fa (a := .pointer (some ⟨b_30, 0, none⟩)) (v := .pointer (some ⟨b_30, 1, none⟩)) rfl (fa_blk (o := 0) Fd35_1 Sz3)) ?_
   refine g_val (!(((r112 != 0) || (r113 != 0)) || (decide (r002 < r006)))) (gy_f rfl) (fun hg => x_ld (p := .pointer (some ⟨b_30, 1, none⟩)) (v := I r012) (gd_of (c := !(((r112 != 0) || (r113 != 0)) || (decide (r002 < r006)))) hg (.pointer (some ⟨b_30, 1, none⟩))) (ldb_sc Sc3 (H.blk (k := 14) rfl) rfl)) ?_
   refine g_val (!(((r112 != 0) || (r113 != 0)) || (decide (r002 < r006)))) (gy_f rfl) (fun hg => x_cmp (kd := .i64) (a := r016) (b := r012) (r := decide (r016 < r012)) (gd_of (c := !(((r112 != 0) || (r113 != 0)) || (decide (r002 < r006)))) hg (I r016)) (gd_of (c := !(((r112 != 0) || (r113 != 0)) || (decide (r002 < r006)))) hg (I r012)) rfl) ?_
   refine s_val (x_por (b := (((r112 != 0) || (r113 != 0)) || (decide (r002 < r006)))) (r := decide (r016 < r012)) rfl rfl (fun hb => gd_of (c := !(((r112 != 0) || (r113 != 0)) || (decide (r002 < r006)))) (by first | exact hb | (rw [hb]; rfl) | simp_all) (B (decide (r016 < r012))))) ?_
   refine s_val (x_mv (v := B ((((r112 != 0) || (r113 != 0)) || (decide (r002 < r006))) || (decide (r016 < r012)))) rfl) ?_
   refine g_val (!((((r112 != 0) || (r113 != 0)) || (decide (r002 < r006))) || (decide (r016 < r012)))) (gy_f rfl) (fun hg => x_fa (a := .pointer (some ⟨b_48, 0, none⟩)) (v := .pointer (some ⟨b_48, 0, none⟩)) rfl (fa_blk (o := 0) Fd35_0 Sz3)) ?_
   refine g_val (!((((r112 != 0) || (r113 != 0)) || (decide (r002 < r006))) || (decide (r016 < r012)))) (gy_f rfl) (fun hg => x_ld (p := .pointer (some ⟨b_48, 0, none⟩)) (v := I r007) (gd_of (c := !((((r112 != 0) || (r113 != 0)) || (decide (r002 < r006))) || (decide (r016 < r012)))) hg (.pointer (some ⟨b_48, 0, none⟩))) (ldb_sc Sc3 (H.blk (k := 0) rfl) rfl)) ?_
   refine g_val (!((((r112 != 0) || (r113 != 0)) || (decide (r002 < r006))) || (decide (r016 < r012)))) (gy_f rfl) (fun hg => x_fa (a := .pointer (some ⟨b_31, 0, none⟩)) (v := .pointer (some ⟨b_31, 0, none⟩)) rfl (fa_blk (o := 0) Fd35_0 Sz3)) ?_
   refine g_val (!((((r112 != 0) || (r113 != 0)) || (decide (r002 < r006))) || (decide (r016 < r012)))) (gy_f rfl) (fun hg => x_ld (p := .pointer (some ⟨b_31, 0, none⟩)) (v := I r003) (gd_of (c := !((((r112 != 0) || (r113 != 0)) || (decide (r002 < r006))) || (decide (r016 < r012)))) hg (.pointer (some ⟨b_31, 0, none⟩))) (ldb_sc Sc3 (H.blk (k := 13) rfl) rfl)) ?_
   refine g_val (!((((r112 != 0) || (r113 != 0)) || (decide (r002 < r006))) || (decide (r016 < r012)))) (gy_f rfl) (fun hg => x_cmp (kd := .i64) (a := r007) (b := r003) (r := decide (r003 < r007)) (gd_of (c := !((((r112 != 0) || (r113 != 0)) || (decide (r002 < r006))) || (decide (r016 < r012)))) hg (I r007)) (gd_of (c := !((((r112 != 0) || (r113 != 0)) || (decide (r002 < r006))) || (decide (r016 < r012)))) hg (I r003)) rfl) ?_
   refine s_val (x_por (b := ((((r112 != 0) || (r113 != 0)) || (decide (r002 < r006))) || (decide (r016 < r012)))) (r := decide (r003 < r007)) rfl rfl (fun hb => gd_of (c := !((((r112 != 0) || (r113 != 0)) || (decide (r002 < r006))) || (decide (r016 < r012)))) (by first | exact hb | (rw [hb]; rfl) | simp_all) (B (decide (r003 < r007))))) ?_
   refine s_val (x_mv (v := B (((((r112 != 0) || (r113 != 0)) || (decide (r002 < r006))) || (decide (r016 < r012))) || (decide (r003 < r007)))) rfl) ?_
   refine g_val (!(((((r112 != 0) || (r113 != 0)) || (decide (r002 < r006))) || (decide (r016 < r012))) || (decide (r003 < r007)))) (gy_f rfl) (fun hg => x_fa (a := .pointer (some ⟨b_48, 0, none⟩)) (v := .pointer (some ⟨b_48, 1, none⟩)) rfl (fa_blk (o := 0) Fd35_1 Sz3)) ?_
   refine g_val (!(((((r112 != 0) || (r113 != 0)) || (decide (r002 < r006))) || (decide (r016 < r012))) || (decide (r003 < r007)))) (gy_f rfl) (fun hg => x_ld (p := .pointer (some ⟨b_48, 1, none⟩)) (v := I r017) (gd_of (c := !(((((r112 != 0) || (r113 != 0)) || (decide (r002 < r006))) || (decide (r016 < r012))) || (decide (r003 < r007)))) hg (.pointer (some ⟨b_48, 1, none⟩))) (ldb_sc Sc3 (H.blk (k := 0) rfl) rfl)) ?_
   refine g_val (!(((((r112 != 0) || (r113 != 0)) || (decide (r002 < r006))) || (decide (r016 < r012))) || (decide (r003 < r007)))) (gy_f rfl) (fun hg => x_fa (a := .pointer (some ⟨b_31, 0, none⟩)) (v := .pointer (some ⟨b_31, 1, none⟩)) rfl (fa_blk (o := 0) Fd35_1 Sz3)) ?_
   refine g_val (!(((((r112 != 0) || (r113 != 0)) || (decide (r002 < r006))) || (decide (r016 < r012))) || (decide (r003 < r007)))) (gy_f rfl) (fun hg => x_ld (p := .pointer (some ⟨b_31, 1, none⟩)) (v := I r013) (gd_of (c := !(((((r112 != 0) || (r113 != 0)) || (decide (r002 < r006))) || (decide (r016 < r012))) || (decide (r003 < r007)))) hg (.pointer (some ⟨b_31, 1, none⟩))) (ldb_sc Sc3 (H.blk (k := 13) rfl) rfl)) ?_
   refine g_val (!(((((r112 != 0) || (r113 != 0)) || (decide (r002 < r006))) || (decide (r016 < r012))) || (decide (r003 < r007)))) (gy_f rfl) (fun hg => x_cmp (kd := .i64) (a := r017) (b := r013) (r := decide (r017 < r013)) (gd_of (c := !(((((r112 != 0) || (r113 != 0)) || (decide (r002 < r006))) || (decide (r016 < r012))) || (decide (r003 < r007)))) hg (I r017)) (gd_of (c := !(((((r112 != 0) || (r113 != 0)) || (decide (r002 < r006))) || (decide (r016 < r012))) || (decide (r003 < r007)))) hg (I r013)) rfl) ?_
   refine s_val (x_por (b := (((((r112 != 0) || (r113 != 0)) || (decide (r002 < r006))) || (decide (r016 < r012))) || (decide (r003 < r007)))) (r := decide (r017 < r013)) rfl rfl (fun hb => gd_of (c := !(((((r112 != 0) || (r113 != 0)) || (decide (r002 < r006))) || (decide (r016 < r012))) || (decide (r003 < r007)))) (by first | exact hb | (rw [hb]; rfl) | simp_all) (B (decide (r017 < r013))))) ?_
   refine s_nil ?_
   refine W.cond ((((((r112 != 0) || (r113 != 0)) || (decide (r002 < r006))) || (decide (r016 < r012))) || (decide (r003 < r007))) || (decide (r017 < r013))) rfl (fun c447z => ?_) (fun c447z => ?_)
   ·replace hM := M.e_t hM c447z
    refine W.seq ?_
    refine W.region rfl ?_
    refine s_val (x_as (v := B false) rfl) ?_
    refine s_nil ?_
    refine W.ret ?_
    have hX448z := M.e_inr hM hN425z
    subst hX448z
    replace hM := hk418z
    try dsimp only at hM
    have hr_ := M.e_pure hM
    exact ⟨_, resE_tmp rfl, ⟨false, hr_, rfl, (H.pick [] (by decide) rfl)⟩⟩
   replace hM := M.e_f hM c447z
   refine W.skip ?_
   refine W.region rfl ?_
   refine s_val (x_ari (a := (s5 : Int)) (b := 1) (r := (s5 : Int) + 1) rfl rfl rfl (by omega)) ?_
   refine s_val (x_mv (v := I ((s5 : Int) + 1)) rfl) ?_
   refine s_nil ?_
   exact ⟨m422z, lt423z, s5 + 1, _, upds_of _ _ ⟨rfl, rfl, rfl, rfl, rfl, rfl, rfl, rfl, trivial⟩, M.e_inl hM hN425z, (H.pick [3, 4, 5, 6, 7, 8, 9, 10, 11, 12, 13, 14, 15, 16, 17, 18, 19, 20, 21, 22, 23, 24, 25, 26, 27, 28, 29, 30, 31, 32, 33] (by decide) rfl)⟩
  replace hM := M.e_f hM c426z
  simp only [decide_eq_true_eq, decide_eq_false_iff_not, beq_iff_eq, bne_iff_ne, beq_eq_false_iff_ne, bne_eq_false_iff_eq, ne_eq, Decidable.not_not] at c426z
  refine W.exit ?_
  have hX449z := M.e_inr hM hN425z
  subst hX449z
  replace hM := hk418z
  try dsimp only at hM
  refine W.seq ?_
  refine W.region rfl ?_
  obtain ⟨r451z, hx450z, hM⟩ := M.e_bind hM
  refine s_call cf18 [] rfl (zb4 hx450z _ (St.give (T := [cOwn (α := Raw 3) 26 v413z ([rw410z, rw411z]), cRo Bs_44, cRo Bs_43, cRo Bs_41, cRo Bs_39, cRo Bs_38, cRo Bs_36, cRo Bs_34, cBlk b_33 [I r005, I r015] 35, cBlk b_32 [I r004, I r014] 35, cBlk b_31 [I r003, I r013] 35, cBlk b_30 [I r002, I r012] 35, cBlk b_29 [u346z, u1_26, I r26, I r34] 26, cRo Bs_40, cRo Bs_42, cRo Bs3_28, cBlk nb0_8 [v_more, I s3, I s4] 101, cBlk b_18 [v_l2, u1_14, I r24, I r32] 26, cBlk b_17 [u0_9, v_l, I r23, I r3] 26, cRo Bs_35, cRo Bs_37, cRo Bs3_16, cOwn (α := Yr) 41 u0_9 r0, cOwn (α := Raw 3) 43 v_l rw_l, cRo B_l, cBlk b_7 [u0_2, u1_3, I r02, I r03] 26, cOwn (α := Yr) 41 u0_2 r00, cOwn (α := Raw 3) 43 u1_3 rr2_4, cRo Bs3_5, cOwn (α := Int) 3 u4_6 r12, cBlk nb0_1 [v_numbers, I q1, I q2] 101]) H rfl)) ?_
  rintro vq w452z ⟨r9, hr453z, hvq, H2_⟩
  subst hr453z
  subst vq
  try dsimp only at hM
  replace H : St w w452z [cOwn (α := Raw 3) 26 v413z ([rw410z, rw411z]), cRo Bs_44, cRo Bs_43, cRo Bs_41, cRo Bs_39, cRo Bs_38, cRo Bs_36, cRo Bs_34, cBlk b_33 [I r005, I r015] 35, cBlk b_32 [I r004, I r014] 35, cBlk b_31 [I r003, I r013] 35, cBlk b_30 [I r002, I r012] 35, cBlk b_29 [u346z, u1_26, I r26, I r34] 26, cRo Bs_40, cRo Bs_42, cRo Bs3_28, cBlk nb0_8 [v_more, I s3, I s4] 101, cBlk b_18 [v_l2, u1_14, I r24, I r32] 26, cBlk b_17 [u0_9, v_l, I r23, I r3] 26, cRo Bs_35, cRo Bs_37, cRo Bs3_16, cOwn (α := Yr) 41 u0_9 r0, cOwn (α := Raw 3) 43 v_l rw_l, cRo B_l, cBlk b_7 [u0_2, u1_3, I r02, I r03] 26, cOwn (α := Yr) 41 u0_2 r00, cOwn (α := Raw 3) 43 u1_3 rr2_4, cRo Bs3_5, cOwn (α := Int) 3 u4_6 r12, cBlk nb0_1 [v_numbers, I q1, I q2] 101] R := H.back H2_ rfl
  clear H2_
  refine s_val (x_as (v := B r9) rfl) ?_
  refine s_nil ?_
  refine W.ret ?_
  have hr_ := M.e_pure hM
  exact ⟨_, resE_tmp rfl, ⟨r9, hr_, rfl, (H.pick [] (by decide) rfl)⟩⟩
 replace hM := M.e_f hM c345z
 simp only [decide_eq_true_eq, decide_eq_false_iff_not, beq_iff_eq, bne_iff_ne, beq_eq_false_iff_ne, bne_eq_false_iff_eq, ne_eq, Decidable.not_not] at c345z
 refine W.skip ?_
 refine W.seq ?_
 refine W.draw (fun W => St w W [cBlk b_29 [u0_25, u1_26, I r26, I r34] 26, cOwn (α := Yr) 41 u0_25 r06, cOwn (α := Raw 3) 43 u1_26 rr2_27, cRo Bs3_28, cBlk nb0_8 [v_more, I s3, I s4] 101, cBlk b_18 [v_l2, u1_14, I r24, I r32] 26, cBlk b_17 [u0_9, v_l, I r23, I r3] 26, cOwn (α := Yr) 41 v_l2 l2, cOwn (α := Raw 3) 43 u1_14 rr2_15, cRo Bs3_16, cOwn (α := Yr) 41 u0_9 r0, cOwn (α := Raw 3) 43 v_l rw_l, cRo B_l, cBlk b_7 [u0_2, u1_3, I r02, I r03] 26, cOwn (α := Yr) 41 u0_2 r00, cOwn (α := Raw 3) 43 u1_3 rr2_4, cRo Bs3_5, cOwn (α := Int) 3 u4_6 r12, cBlk nb0_1 [v_numbers, I q1, I q2] 101] R) [(0, true), (1, true), (2, true), (3, true), (4, true), (7, true), (5, false), (6, true), (8, false), (9, true), (10, true)] mixed (by decide +kernel) rfl ?_
 intro w454z hx_
 replace H : St w w454z [cBlk b_29 [u0_25, u1_26, I r26, I r34] 26, cOwn (α := Yr) 41 u0_25 r06, cOwn (α := Raw 3) 43 u1_26 rr2_27, cRo Bs3_28, cBlk nb0_8 [v_more, I s3, I s4] 101, cBlk b_18 [v_l2, u1_14, I r24, I r32] 26, cBlk b_17 [u0_9, v_l, I r23, I r3] 26, cOwn (α := Yr) 41 v_l2 l2, cOwn (α := Raw 3) 43 u1_14 rr2_15, cRo Bs3_16, cOwn (α := Yr) 41 u0_9 r0, cOwn (α := Raw 3) 43 v_l rw_l, cRo B_l, cBlk b_7 [u0_2, u1_3, I r02, I r03] 26, cOwn (α := Yr) 41 u0_2 r00, cOwn (α := Raw 3) 43 u1_3 rr2_4, cRo Bs3_5, cOwn (α := Int) 3 u4_6 r12, cBlk nb0_1 [v_numbers, I q1, I q2] 101] R := H.ext hx_
 clear hx_
 refine ⟨(H.pick [0, 1, 2, 3, 4, 5, 6, 7, 8, 9, 10, 11, 12, 13, 14, 15, 16, 17, 18] (by decide) rfl), ?_⟩
 refine d_q rfl (fun w' H => x_fa (a := .pointer (some ⟨b_7, 0, none⟩)) (v := .pointer (some ⟨b_7, 2, none⟩)) rfl (fa_blk (o := 0) Fd26_2 Sz3)) ?_
 refine d_q rfl (fun w' H => x_ld (p := .pointer (some ⟨b_7, 2, none⟩)) (v := I r02) rfl (ldb_sc Sc3 (H.blk (k := 13) rfl) rfl)) ?_
 refine d_q rfl (fun w' H => x_mv (v := I at_) rfl) ?_
 refine d_q rfl (fun w' H => x_mv (v := u4_6) rfl) ?_
 have hl455z := ((ownSl (H.get (k := 17) rfl))).len_le
 refine d_q rfl (fun w' H => x_lenS T27.und rfl (ownSl (H.get (k := 17) rfl))) ?_
 refine d_q rfl (fun w' H => x_mv (v := I level) rfl) ?_
 refine d_l rfl ?_
 obtain ⟨r457z, hx456z, hM⟩ := M.e_bind hM
 refine s_call cf13 [I at_, I (r12.length : Int)] rfl (zaW at_ (r12.length : Int) hx456z _ (St.give (T := [cBlk b_29 [u0_25, u1_26, I r26, I r34] 26, cOwn (α := Yr) 41 u0_25 r06, cOwn (α := Raw 3) 43 u1_26 rr2_27, cRo Bs3_28, cBlk nb0_8 [v_more, I s3, I s4] 101, cBlk b_18 [v_l2, u1_14, I r24, I r32] 26, cBlk b_17 [u0_9, v_l, I r23, I r3] 26, cOwn (α := Yr) 41 v_l2 l2, cOwn (α := Raw 3) 43 u1_14 rr2_15, cRo Bs3_16, cOwn (α := Yr) 41 u0_9 r0, cOwn (α := Raw 3) 43 v_l rw_l, cRo B_l, cBlk b_7 [u0_2, u1_3, I r02, I r03] 26, cOwn (α := Yr) 41 u0_2 r00, cOwn (α := Raw 3) 43 u1_3 rr2_4, cRo Bs3_5, cOwn (α := Int) 3 u4_6 r12, cBlk nb0_1 [v_numbers, I q1, I q2] 101]) H rfl)) ?_
 rintro vq w458z ⟨r7, hr459z, hvq, H2_⟩
 subst hr459z
 subst vq
 try dsimp only at hM
 replace H : St w w458z [cBlk b_29 [u0_25, u1_26, I r26, I r34] 26, cOwn (α := Yr) 41 u0_25 r06, cOwn (α := Raw 3) 43 u1_26 rr2_27, cRo Bs3_28, cBlk nb0_8 [v_more, I s3, I s4] 101, cBlk b_18 [v_l2, u1_14, I r24, I r32] 26, cBlk b_17 [u0_9, v_l, I r23, I r3] 26, cOwn (α := Yr) 41 v_l2 l2, cOwn (α := Raw 3) 43 u1_14 rr2_15, cRo Bs3_16, cOwn (α := Yr) 41 u0_9 r0, cOwn (α := Raw 3) 43 v_l rw_l, cRo B_l, cBlk b_7 [u0_2, u1_3, I r02, I r03] 26, cOwn (α := Yr) 41 u0_2 r00, cOwn (α := Raw 3) 43 u1_3 rr2_4, cRo Bs3_5, cOwn (α := Int) 3 u4_6 r12, cBlk nb0_1 [v_numbers, I q1, I q2] 101] R := H.back H2_ rfl
 clear H2_
 refine s_nil ⟨(H.pick [0, 1, 2, 3, 4, 5, 6, 7, 8, 9, 10, 11, 12, 13, 14, 15, 16, 17, 18] (by decide) rfl), ?_⟩
 obtain ⟨sd460z, hM⟩ := M.e_grd hM
 simp only [Bool.and_eq_true, decide_eq_true_eq] at sd460z
 refine d_q rfl (fun w' H => x_ari (a := r02) (b := r7) (r := r02 + r7) rfl rfl rfl (by omega)) ?_
 refine d_l rfl ?_
 obtain ⟨r462z, hx461z, hM⟩ := M.e_bind hM
 refine s_call cf13 [I level, I 700] rfl (zaW level 700 hx461z _ (St.give (T := [cBlk b_29 [u0_25, u1_26, I r26, I r34] 26, cOwn (α := Yr) 41 u0_25 r06, cOwn (α := Raw 3) 43 u1_26 rr2_27, cRo Bs3_28, cBlk nb0_8 [v_more, I s3, I s4] 101, cBlk b_18 [v_l2, u1_14, I r24, I r32] 26, cBlk b_17 [u0_9, v_l, I r23, I r3] 26, cOwn (α := Yr) 41 v_l2 l2, cOwn (α := Raw 3) 43 u1_14 rr2_15, cRo Bs3_16, cOwn (α := Yr) 41 u0_9 r0, cOwn (α := Raw 3) 43 v_l rw_l, cRo B_l, cBlk b_7 [u0_2, u1_3, I r02, I r03] 26, cOwn (α := Yr) 41 u0_2 r00, cOwn (α := Raw 3) 43 u1_3 rr2_4, cRo Bs3_5, cOwn (α := Int) 3 u4_6 r12, cBlk nb0_1 [v_numbers, I q1, I q2] 101]) H rfl)) ?_
 rintro vq w463z ⟨r8, hr464z, hvq, H2_⟩
 subst hr464z
 subst vq
 try dsimp only at hM
 replace H : St w w463z [cBlk b_29 [u0_25, u1_26, I r26, I r34] 26, cOwn (α := Yr) 41 u0_25 r06, cOwn (α := Raw 3) 43 u1_26 rr2_27, cRo Bs3_28, cBlk nb0_8 [v_more, I s3, I s4] 101, cBlk b_18 [v_l2, u1_14, I r24, I r32] 26, cBlk b_17 [u0_9, v_l, I r23, I r3] 26, cOwn (α := Yr) 41 v_l2 l2, cOwn (α := Raw 3) 43 u1_14 rr2_15, cRo Bs3_16, cOwn (α := Yr) 41 u0_9 r0, cOwn (α := Raw 3) 43 v_l rw_l, cRo B_l, cBlk b_7 [u0_2, u1_3, I r02, I r03] 26, cOwn (α := Yr) 41 u0_2 r00, cOwn (α := Raw 3) 43 u1_3 rr2_4, cRo Bs3_5, cOwn (α := Int) 3 u4_6 r12, cBlk nb0_1 [v_numbers, I q1, I q2] 101] R := H.back H2_ rfl
 clear H2_
 refine s_nil ⟨(H.pick [0, 1, 2, 3, 4, 5, 6, 7, 8, 9, 10, 11, 12, 13, 14, 15, 16, 17, 18] (by decide) rfl), ?_⟩
 refine d_q rfl (fun w' H => x_as (v := I (r02 + r7)) rfl) ?_
 refine d_q rfl (fun w' H => x_as (v := I r8) rfl) ?_
 refine d_nil ?_
 refine W.seq ?_
 refine W.region rfl ?_
 refine s_val (x_ld (p := .pointer (some ⟨b_7, 0, none⟩)) (v := .agg #[u0_2, u1_3, I r02, I r03]) rfl (ldb_ag (ds := [u0_2, u1_3, I r02, I r03]) Ag26 Sz26 (H.blk (k := 13) rfl) rfl rfl)) ?_
 refine s_val (x_fa (a := .pointer (some ⟨b_7, 0, none⟩)) (v := .pointer (some ⟨b_7, 2, none⟩)) rfl (fa_blk (o := 0) Fd26_2 Sz3)) ?_
 refine s_val (x_ld (p := .pointer (some ⟨b_7, 2, none⟩)) (v := I r02) rfl (ldb_sc Sc3 (H.blk (k := 13) rfl) rfl)) ?_
 refine s_val (x_fa (a := .pointer (some ⟨b_7, 0, none⟩)) (v := .pointer (some ⟨b_7, 3, none⟩)) rfl (fa_blk (o := 0) Fd26_3 Sz3)) ?_
 refine s_val (x_ld (p := .pointer (some ⟨b_7, 3, none⟩)) (v := I r03) rfl (ldb_sc Sc3 (H.blk (k := 13) rfl) rfl)) ?_
 refine s_val (x_mv (v := I r8) rfl) ?_
 obtain ⟨r466z, hx465z, hM⟩ := M.e_bind hM
 refine s_call cf15 [.agg #[u0_2, u1_3, I r02, I r03], I r02, I r03, I r8] rfl (zah r00 r01 r02 r03 r02 r03 r8 (Reads.of (k := 14) rfl ownLe) (ownSl (H.get (k := 14) rfl)) (Reads.sup (Reads.of (k := 15) rfl ownLe) (Reads.of (k := 16) rfl roLe)) (rowSl rfl (H.get (k := 15) rfl) (roLe _ (H.get (k := 16) rfl)) hf9z) hx465z _ (St.give (T := [cBlk b_29 [u0_25, u1_26, I r26, I r34] 26, cOwn (α := Yr) 41 u0_25 r06, cOwn (α := Raw 3) 43 u1_26 rr2_27, cRo Bs3_28, cBlk nb0_8 [v_more, I s3, I s4] 101, cBlk b_18 [v_l2, u1_14, I r24, I r32] 26, cBlk b_17 [u0_9, v_l, I r23, I r3] 26, cOwn (α := Yr) 41 v_l2 l2, cOwn (α := Raw 3) 43 u1_14 rr2_15, cRo Bs3_16, cOwn (α := Yr) 41 u0_9 r0, cOwn (α := Raw 3) 43 v_l rw_l, cRo B_l, cBlk b_7 [u0_2, u1_3, I r02, I r03] 26, cOwn (α := Yr) 41 u0_2 r00, cOwn (α := Raw 3) 43 u1_3 rr2_4, cRo Bs3_5, cOwn (α := Int) 3 u4_6 r12, cBlk nb0_1 [v_numbers, I q1, I q2] 101]) H rfl)) ?_
 rintro vq w467z ⟨r002, r012, r18, hr468z, hvq, H2_⟩
 subst hr468z
 subst vq
 try dsimp only at hM
 replace H : St w w467z [cBlk b_29 [u0_25, u1_26, I r26, I r34] 26, cOwn (α := Yr) 41 u0_25 r06, cOwn (α := Raw 3) 43 u1_26 rr2_27, cRo Bs3_28, cBlk nb0_8 [v_more, I s3, I s4] 101, cBlk b_18 [v_l2, u1_14, I r24, I r32] 26, cBlk b_17 [u0_9, v_l, I r23, I r3] 26, cOwn (α := Yr) 41 v_l2 l2, cOwn (α := Raw 3) 43 u1_14 rr2_15, cRo Bs3_16, cOwn (α := Yr) 41 u0_9 r0, cOwn (α := Raw 3) 43 v_l rw_l, cRo B_l, cBlk b_7 [u0_2, u1_3, I r02, I r03] 26, cOwn (α := Yr) 41 u0_2 r00, cOwn (α := Raw 3) 43 u1_3 rr2_4, cRo Bs3_5, cOwn (α := Int) 3 u4_6 r12, cBlk nb0_1 [v_numbers, I q1, I q2] 101] R := H.back H2_ rfl
 clear H2_
 refine s_val (x_mv (v := .tuple #[.agg #[I r002, I r012], I r18]) rfl) ?_
 refine s_val (x_ext (vs := [.agg #[I r002, I r012], I r18]) (v := .agg #[I r002, I r012]) rfl rfl) ?_
 refine s_val (x_ext (vs := [.agg #[I r002, I r012], I r18]) (v := I r18) rfl rfl) ?_
 refine t_alloc (cs := [I 0, I 0]) H Al35 rfl ?_
 intro b_30 w469z H
 refine t_st (k := 0) (b := b_30) (off := 0) (cs := [I 0, I 0]) (vs := [I r002, I r012]) (cs' := [I r002, I r012]) (v := .agg #[I r002, I r012]) (L' := [cBlk b_30 [I r002, I r012] 35, cBlk b_29 [u0_25, u1_26, I r26, I r34] 26, cOwn (α := Yr) 41 u0_25 r06, cOwn (α := Raw 3) 43 u1_26 rr2_27, cRo Bs3_28, cBlk nb0_8 [v_more, I s3, I s4] 101, cBlk b_18 [v_l2, u1_14, I r24, I r32] 26, cBlk b_17 [u0_9, v_l, I r23, I r3] 26, cOwn (α := Yr) 41 v_l2 l2, cOwn (α := Raw 3) 43 u1_14 rr2_15, cRo Bs3_16, cOwn (α := Yr) 41 u0_9 r0, cOwn (α := Raw 3) 43 v_l rw_l, cRo B_l, cBlk b_7 [u0_2, u1_3, I r02, I r03] 26, cOwn (α := Yr) 41 u0_2 r00, cOwn (α := Raw 3) 43 u1_3 rr2_4, cRo Bs3_5, cOwn (α := Int) 3 u4_6 r12, cBlk nb0_1 [v_numbers, I q1, I q2] 101]) H rfl rfl rfl Sz35 rfl rfl rfl rfl rfl rfl ?_
 intro w470z H
 refine s_val (x_as (v := I r18) rfl) ?_
 refine s_nil ?_
 refine W.seq ?_
 refine W.region rfl ?_
 refine s_val (x_ld (p := .pointer (some ⟨b_7, 0, none⟩)) (v := .agg #[u0_2, u1_3, I r02, I r03]) rfl (ldb_ag (ds := [u0_2, u1_3, I r02, I r03]) Ag26 Sz26 (H.blk (k := 14) rfl) rfl rfl)) ?_
 refine s_val (x_mv (v := I (r02 + r7)) rfl) ?_
 obtain ⟨r472z, hx471z, hM⟩ := M.e_bind hM
 refine s_call cf20 [.agg #[u0_2, u1_3, I r02, I r03], I (r02 + r7)] rfl (zaw r00 r01 r02 r03 (r02 + r7) (Reads.of (k := 15) rfl ownLe) (ownSl (H.get (k := 15) rfl)) (Reads.sup (Reads.of (k := 16) rfl ownLe) (Reads.of (k := 17) rfl roLe)) (rowSl rfl (H.get (k := 16) rfl) (roLe _ (H.get (k := 17) rfl)) hf9z) hx471z _ (St.give (T := [cBlk b_30 [I r002, I r012] 35, cBlk b_29 [u0_25, u1_26, I r26, I r34] 26, cOwn (α := Yr) 41 u0_25 r06, cOwn (α := Raw 3) 43 u1_26 rr2_27, cRo Bs3_28, cBlk nb0_8 [v_more, I s3, I s4] 101, cBlk b_18 [v_l2, u1_14, I r24, I r32] 26, cBlk b_17 [u0_9, v_l, I r23, I r3] 26, cOwn (α := Yr) 41 v_l2 l2, cOwn (α := Raw 3) 43 u1_14 rr2_15, cRo Bs3_16, cOwn (α := Yr) 41 u0_9 r0, cOwn (α := Raw 3) 43 v_l rw_l, cRo B_l, cBlk b_7 [u0_2, u1_3, I r02, I r03] 26, cOwn (α := Yr) 41 u0_2 r00, cOwn (α := Raw 3) 43 u1_3 rr2_4, cRo Bs3_5, cOwn (α := Int) 3 u4_6 r12, cBlk nb0_1 [v_numbers, I q1, I q2] 101]) H rfl)) ?_
 rintro vq w473z ⟨r003, r013, r19, hr474z, hvq, H2_⟩
 subst hr474z
 subst vq
 try dsimp only at hM
 replace H : St w w473z [cBlk b_30 [I r002, I r012] 35, cBlk b_29 [u0_25, u1_26, I r26, I r34] 26, cOwn (α := Yr) 41 u0_25 r06, cOwn (α := Raw 3) 43 u1_26 rr2_27, cRo Bs3_28, cBlk nb0_8 [v_more, I s3, I s4] 101, cBlk b_18 [v_l2, u1_14, I r24, I r32] 26, cBlk b_17 [u0_9, v_l, I r23, I r3] 26, cOwn (α := Yr) 41 v_l2 l2, cOwn (α := Raw 3) 43 u1_14 rr2_15, cRo Bs3_16, cOwn (α := Yr) 41 u0_9 r0, cOwn (α := Raw 3) 43 v_l rw_l, cRo B_l, cBlk b_7 [u0_2, u1_3, I r02, I r03] 26, cOwn (α := Yr) 41 u0_2 r00, cOwn (α := Raw 3) 43 u1_3 rr2_4, cRo Bs3_5, cOwn (α := Int) 3 u4_6 r12, cBlk nb0_1 [v_numbers, I q1, I q2] 101] R := H.back H2_ rfl
 clear H2_
 refine s_val (x_mv (v := .tuple #[.agg #[I r003, I r013], I r19]) rfl) ?_
 refine s_val (x_ext (vs := [.agg #[I r003, I r013], I r19]) (v := .agg #[I r003, I r013]) rfl rfl) ?_
 refine s_val (x_ext (vs := [.agg #[I r003, I r013], I r19]) (v := I r19) rfl rfl) ?_
 refine t_alloc (cs := [I 0, I 0]) H Al35 rfl ?_
 intro b_31 w475z H
 refine t_st (k := 0) (b := b_31) (off := 0) (cs := [I 0, I 0]) (vs := [I r003, I r013]) (cs' := [I r003, I r013]) (v := .agg #[I r003, I r013]) (L' := [cBlk b_31 [I r003, I r013] 35, cBlk b_30 [I r002, I r012] 35, cBlk b_29 [u0_25, u1_26, I r26, I r34] 26, cOwn (α := Yr) 41 u0_25 r06, cOwn (α := Raw 3) 43 u1_26 rr2_27, cRo Bs3_28, cBlk nb0_8 [v_more, I s3, I s4] 101, cBlk b_18 [v_l2, u1_14, I r24, I r32] 26, cBlk b_17 [u0_9, v_l, I r23, I r3] 26, cOwn (α := Yr) 41 v_l2 l2, cOwn (α := Raw 3) 43 u1_14 rr2_15, cRo Bs3_16, cOwn (α := Yr) 41 u0_9 r0, cOwn (α := Raw 3) 43 v_l rw_l, cRo B_l, cBlk b_7 [u0_2, u1_3, I r02, I r03] 26, cOwn (α := Yr) 41 u0_2 r00, cOwn (α := Raw 3) 43 u1_3 rr2_4, cRo Bs3_5, cOwn (α := Int) 3 u4_6 r12, cBlk nb0_1 [v_numbers, I q1, I q2] 101]) H rfl rfl rfl Sz35 rfl rfl rfl rfl rfl rfl ?_
 intro w476z H
 refine s_val (x_as (v := I r19) rfl) ?_
 refine s_nil ?_
 refine W.seq ?_
 refine W.region rfl ?_
 refine s_val (x_ld (p := .pointer (some ⟨b_17, 0, none⟩)) (v := .agg #[u0_9, v_l, I r23, I r3]) rfl (ldb_ag (ds := [u0_9, v_l, I r23, I r3]) Ag26 Sz26 (H.blk (k := 8) rfl) rfl rfl)) ?_
 refine s_val (x_fa (a := .pointer (some ⟨b_7, 0, none⟩)) (v := .pointer (some ⟨b_7, 2, none⟩)) rfl (fa_blk (o := 0) Fd26_2 Sz3)) ?_
 refine s_val (x_ld (p := .pointer (some ⟨b_7, 2, none⟩)) (v := I r02) rfl (ldb_sc Sc3 (H.blk (k := 15) rfl) rfl)) ?_
 refine s_val (x_fa (a := .pointer (some ⟨b_7, 0, none⟩)) (v := .pointer (some ⟨b_7, 3, none⟩)) rfl (fa_blk (o := 0) Fd26_3 Sz3)) ?_
 refine s_val (x_ld (p := .pointer (some ⟨b_7, 3, none⟩)) (v := I r03) rfl (ldb_sc Sc3 (H.blk (k := 15) rfl) rfl)) ?_
 refine s_val (x_mv (v := I r8) rfl) ?_
 obtain ⟨r478z, hx477z, hM⟩ := M.e_bind hM
 refine s_call cf15 [.agg #[u0_9, v_l, I r23, I r3], I r02, I r03, I r8] rfl (zah r0 l r23 r3 r02 r03 r8 (Reads.of (k := 12) rfl ownLe) (ownSl (H.get (k := 12) rfl)) (Reads.sup (Reads.of (k := 13) rfl ownLe) (Reads.of (k := 14) rfl roLe)) (rowSl rfl (H.get (k := 13) rfl) (roLe _ (H.get (k := 14) rfl)) hr_l) hx477z _ (St.give (T := [cBlk b_31 [I r003, I r013] 35, cBlk b_30 [I r002, I r012] 35, cBlk b_29 [u0_25, u1_26, I r26, I r34] 26, cOwn (α := Yr) 41 u0_25 r06, cOwn (α := Raw 3) 43 u1_26 rr2_27, cRo Bs3_28, cBlk nb0_8 [v_more, I s3, I s4] 101, cBlk b_18 [v_l2, u1_14, I r24, I r32] 26, cBlk b_17 [u0_9, v_l, I r23, I r3] 26, cOwn (α := Yr) 41 v_l2 l2, cOwn (α := Raw 3) 43 u1_14 rr2_15, cRo Bs3_16, cOwn (α := Yr) 41 u0_9 r0, cOwn (α := Raw 3) 43 v_l rw_l, cRo B_l, cBlk b_7 [u0_2, u1_3, I r02, I r03] 26, cOwn (α := Yr) 41 u0_2 r00, cOwn (α := Raw 3) 43 u1_3 rr2_4, cRo Bs3_5, cOwn (α := Int) 3 u4_6 r12, cBlk nb0_1 [v_numbers, I q1, I q2] 101]) H rfl)) ?_
 rintro vq w479z ⟨r004, r014, r110, hr480z, hvq, H2_⟩
 subst hr480z
 subst vq
 try dsimp only at hM
 replace H : St w w479z [cBlk b_31 [I r003, I r013] 35, cBlk b_30 [I r002, I r012] 35, cBlk b_29 [u0_25, u1_26, I r26, I r34] 26, cOwn (α := Yr) 41 u0_25 r06, cOwn (α := Raw 3) 43 u1_26 rr2_27, cRo Bs3_28, cBlk nb0_8 [v_more, I s3, I s4] 101, cBlk b_18 [v_l2, u1_14, I r24, I r32] 26, cBlk b_17 [u0_9, v_l, I r23, I r3] 26, cOwn (α := Yr) 41 v_l2 l2, cOwn (α := Raw 3) 43 u1_14 rr2_15, cRo Bs3_16, cOwn (α := Yr) 41 u0_9 r0, cOwn (α := Raw 3) 43 v_l rw_l, cRo B_l, cBlk b_7 [u0_2, u1_3, I r02, I r03] 26, cOwn (α := Yr) 41 u0_2 r00, cOwn (α := Raw 3) 43 u1_3 rr2_4, cRo Bs3_5, cOwn (α := Int) 3 u4_6 r12, cBlk nb0_1 [v_numbers, I q1, I q2] 101] R := H.back H2_ rfl
 clear H2_
 refine s_val (x_mv (v := .tuple #[.agg #[I r004, I r014], I r110]) rfl) ?_
 refine s_val (x_ext (vs := [.agg #[I r004, I r014], I r110]) (v := .agg #[I r004, I r014]) rfl rfl) ?_
 refine s_val (x_ext (vs := [.agg #[I r004, I r014], I r110]) (v := I r110) rfl rfl) ?_
 refine t_alloc (cs := [I 0, I 0]) H Al35 rfl ?_
 intro b_32 w481z H
 refine t_st (k := 0) (b := b_32) (off := 0) (cs := [I 0, I 0]) (vs := [I r004, I r014]) (cs' := [I r004, I r014]) (v := .agg #[I r004, I r014]) (L' := [cBlk b_32 [I r004, I r014] 35, cBlk b_31 [I r003, I r013] 35, cBlk b_30 [I r002, I r012] 35, cBlk b_29 [u0_25, u1_26, I r26, I r34] 26, cOwn (α := Yr) 41 u0_25 r06, cOwn (α := Raw 3) 43 u1_26 rr2_27, cRo Bs3_28, cBlk nb0_8 [v_more, I s3, I s4] 101, cBlk b_18 [v_l2, u1_14, I r24, I r32] 26, cBlk b_17 [u0_9, v_l, I r23, I r3] 26, cOwn (α := Yr) 41 v_l2 l2, cOwn (α := Raw 3) 43 u1_14 rr2_15, cRo Bs3_16, cOwn (α := Yr) 41 u0_9 r0, cOwn (α := Raw 3) 43 v_l rw_l, cRo B_l, cBlk b_7 [u0_2, u1_3, I r02, I r03] 26, cOwn (α := Yr) 41 u0_2 r00, cOwn (α := Raw 3) 43 u1_3 rr2_4, cRo Bs3_5, cOwn (α := Int) 3 u4_6 r12, cBlk nb0_1 [v_numbers, I q1, I q2] 101]) H rfl rfl rfl Sz35 rfl rfl rfl rfl rfl rfl ?_
 intro w482z H
 refine s_val (x_as (v := I r110) rfl) ?_
 refine s_nil ?_
 refine W.seq ?_
 refine W.region rfl ?_
 refine s_val (x_ld (p := .pointer (some ⟨b_17, 0, none⟩)) (v := .agg #[u0_9, v_l, I r23, I r3]) rfl (ldb_ag (ds := [u0_9, v_l, I r23, I r3]) Ag26 Sz26 (H.blk (k := 9) rfl) rfl rfl)) ?_
 refine s_val (x_mv (v := I (r02 + r7)) rfl) ?_
 obtain ⟨r484z, hx483z, hM⟩ := M.e_bind hM
 refine s_call cf20 [.agg #[u0_9, v_l, I r23, I r3], I (r02 + r7)] rfl (zaw r0 l r23 r3 (r02 + r7) (Reads.of (k := 13) rfl ownLe) (ownSl (H.get (k := 13) rfl)) (Reads.sup (Reads.of (k := 14) rfl ownLe) (Reads.of (k := 15) rfl roLe)) (rowSl rfl (H.get (k := 14) rfl) (roLe _ (H.get (k := 15) rfl)) hr_l) hx483z _ (St.give (T := [cBlk b_32 [I r004, I r014] 35, cBlk b_31 [I r003, I r013] 35, cBlk b_30 [I r002, I r012] 35, cBlk b_29 [u0_25, u1_26, I r26, I r34] 26, cOwn (α := Yr) 41 u0_25 r06, cOwn (α := Raw 3) 43 u1_26 rr2_27, cRo Bs3_28, cBlk nb0_8 [v_more, I s3, I s4] 101, cBlk b_18 [v_l2, u1_14, I r24, I r32] 26, cBlk b_17 [u0_9, v_l, I r23, I r3] 26, cOwn (α := Yr) 41 v_l2 l2, cOwn (α := Raw 3) 43 u1_14 rr2_15, cRo Bs3_16, cOwn (α := Yr) 41 u0_9 r0, cOwn (α := Raw 3) 43 v_l rw_l, cRo B_l, cBlk b_7 [u0_2, u1_3, I r02, I r03] 26, cOwn (α := Yr) 41 u0_2 r00, cOwn (α := Raw 3) 43 u1_3 rr2_4, cRo Bs3_5, cOwn (α := Int) 3 u4_6 r12, cBlk nb0_1 [v_numbers, I q1, I q2] 101]) H rfl)) ?_
 rintro vq w485z ⟨r005, r015, r111, hr486z, hvq, H2_⟩
 subst hr486z
 subst vq
 try dsimp only at hM
 replace H : St w w485z [cBlk b_32 [I r004, I r014] 35, cBlk b_31 [I r003, I r013] 35, cBlk b_30 [I r002, I r012] 35, cBlk b_29 [u0_25, u1_26, I r26, I r34] 26, cOwn (α := Yr) 41 u0_25 r06, cOwn (α := Raw 3) 43 u1_26 rr2_27, cRo Bs3_28, cBlk nb0_8 [v_more, I s3, I s4] 101, cBlk b_18 [v_l2, u1_14, I r24, I r32] 26, cBlk b_17 [u0_9, v_l, I r23, I r3] 26, cOwn (α := Yr) 41 v_l2 l2, cOwn (α := Raw 3) 43 u1_14 rr2_15, cRo Bs3_16, cOwn (α := Yr) 41 u0_9 r0, cOwn (α := Raw 3) 43 v_l rw_l, cRo B_l, cBlk b_7 [u0_2, u1_3, I r02, I r03] 26, cOwn (α := Yr) 41 u0_2 r00, cOwn (α := Raw 3) 43 u1_3 rr2_4, cRo Bs3_5, cOwn (α := Int) 3 u4_6 r12, cBlk nb0_1 [v_numbers, I q1, I q2] 101] R := H.back H2_ rfl
 clear H2_
 refine s_val (x_mv (v := .tuple #[.agg #[I r005, I r015], I r111]) rfl) ?_
 refine s_val (x_ext (vs := [.agg #[I r005, I r015], I r111]) (v := .agg #[I r005, I r015]) rfl rfl) ?_
 refine s_val (x_ext (vs := [.agg #[I r005, I r015], I r111]) (v := I r111) rfl rfl) ?_
 refine t_alloc (cs := [I 0, I 0]) H Al35 rfl ?_
 intro b_33 w487z H
 refine t_st (k := 0) (b := b_33) (off := 0) (cs := [I 0, I 0]) (vs := [I r005, I r015]) (cs' := [I r005, I r015]) (v := .agg #[I r005, I r015]) (L' := [cBlk b_33 [I r005, I r015] 35, cBlk b_32 [I r004, I r014] 35, cBlk b_31 [I r003, I r013] 35, cBlk b_30 [I r002, I r012] 35, cBlk b_29 [u0_25, u1_26, I r26, I r34] 26, cOwn (α := Yr) 41 u0_25 r06, cOwn (α := Raw 3) 43 u1_26 rr2_27, cRo Bs3_28, cBlk nb0_8 [v_more, I s3, I s4] 101, cBlk b_18 [v_l2, u1_14, I r24, I r32] 26, cBlk b_17 [u0_9, v_l, I r23, I r3] 26, cOwn (α := Yr) 41 v_l2 l2, cOwn (α := Raw 3) 43 u1_14 rr2_15, cRo Bs3_16, cOwn (α := Yr) 41 u0_9 r0, cOwn (α := Raw 3) 43 v_l rw_l, cRo B_l, cBlk b_7 [u0_2, u1_3, I r02, I r03] 26, cOwn (α := Yr) 41 u0_2 r00, cOwn (α := Raw 3) 43 u1_3 rr2_4, cRo Bs3_5, cOwn (α := Int) 3 u4_6 r12, cBlk nb0_1 [v_numbers, I q1, I q2] 101]) H rfl rfl rfl Sz35 rfl rfl rfl rfl rfl rfl ?_
 intro w488z H
 refine s_val (x_as (v := I r111) rfl) ?_
 refine s_nil ?_
 refine W.seq ?_
 refine W.seq ?_
 refine W.region rfl ?_
 refine s_val (x_mv (v := I r18) rfl) ?_
 refine s_val (x_cmp (kd := .i64) (a := r18) (b := 0) (r := r18 != 0) rfl rfl rfl) ?_
 refine s_val (x_mv (v := B (r18 != 0)) rfl) ?_
 refine g_val (!(r18 != 0)) (gy_f rfl) (fun hg => x_mv (v := I r19) rfl) ?_
 refine g_val (!(r18 != 0)) (gy_f rfl) (fun hg => x_cmp (kd := .i64) (a := r19) (b := 0) (r := r19 != 0) (gd_of (c := !(r18 != 0)) hg (I r19)) rfl rfl) ?_
 refine s_val (x_por (b := r18 != 0) (r := r19 != 0) rfl rfl (fun hb => gd_of (c := !(r18 != 0)) (by first | exact hb | (rw [hb]; rfl) | simp_all) (B (r19 != 0)))) ?_
 refine s_val (x_mv (v := B ((r18 != 0) || (r19 != 0))) rfl) ?_
 refine g_val (!((r18 != 0) || (r19 != 0))) (gy_f rfl) (fun hg => x_mv (v := I r110) rfl) ?_
 refine g_val (!((r18 != 0) || (r19 != 0))) (gy_f rfl) (fun hg => x_cmp (kd := .i64) (a := r110) (b := 0) (r := r110 != 0) (gd_of (c := !((r18 != 0) || (r19 != 0))) hg (I r110)) rfl rfl) ?_
 refine s_val (x_por (b := ((r18 != 0) || (r19 != 0))) (r := r110 != 0) rfl rfl (fun hb => gd_of (c := !((r18 != 0) || (r19 != 0))) (by first | exact hb | (rw [hb]; rfl) | simp_all) (B (r110 != 0)))) ?_
 refine s_val (x_mv (v := B (((r18 != 0) || (r19 != 0)) || (r110 != 0))) rfl) ?_
 refine g_val (!(((r18 != 0) || (r19 != 0)) || (r110 != 0))) (gy_f rfl) (fun hg => x_mv (v := I r111) rfl) ?_
 refine g_val (!(((r18 != 0) || (r19 != 0)) || (r110 != 0))) (gy_f rfl) (fun hg => x_cmp (kd := .i64) (a := r111) (b := 0) (r := r111 != 0) (gd_of (c := !(((r18 != 0) || (r19 != 0)) || (r110 != 0))) hg (I r111)) rfl rfl) ?_
 refine s_val (x_por (b := (((r18 != 0) || (r19 != 0)) || (r110 != 0))) (r := r111 != 0) rfl rfl (fun hb => gd_of (c := !(((r18 != 0) || (r19 != 0)) || (r110 != 0))) (by first | exact hb | (rw [hb]; rfl) | simp_all) (B (r111 != 0)))) ?_
 refine s_val (x_mv (v := B ((((r18 != 0) || (r19 != 0)) || (r110 != 0)) || (r111 != 0))) rfl) ?_
 refine g_val (!((((r18 != 0) || (r19 != 0)) || (r110 != 0)) || (r111 != 0))) (gy_f rfl) (fun hg => x_fa (a := .pointer (some ⟨b_32, 0, none⟩)) (v := .pointer (some ⟨b_32, 0, none⟩)) rfl (fa_blk (o := 0) Fd35_0 Sz3)) ?_
 refine g_val (!((((r18 != 0) || (r19 != 0)) || (r110 != 0)) || (r111 != 0))) (gy_f rfl) (fun hg => x_ld (p := .pointer (some ⟨b_32, 0, none⟩)) (v := I r004) (gd_of (c := !((((r18 != 0) || (r19 != 0)) || (r110 != 0)) || (r111 != 0))) hg (.pointer (some ⟨b_32, 0, none⟩))) (ldb_sc Sc3 (H.blk (k := 1) rfl) rfl)) ?_
 refine g_val (!((((r18 != 0) || (r19 != 0)) || (r110 != 0)) || (r111 != 0))) (gy_f rfl) (fun hg => x_fa (a := .pointer (some ⟨b_30, 0, none⟩)) (v := .pointer (some ⟨b_30, 0, none⟩)) rfl (fa_blk (o := 0) Fd35_0 Sz3)) ?_
 refine g_val (!((((r18 != 0) || (r19 != 0)) || (r110 != 0)) || (r111 != 0))) (gy_f rfl) (fun hg => x_ld (p := .pointer (some ⟨b_30, 0, none⟩)) (v := I r002) (gd_of (c := !((((r18 != 0) || (r19 != 0)) || (r110 != 0)) || (r111 != 0))) hg (.pointer (some ⟨b_30, 0, none⟩))) (ldb_sc Sc3 (H.blk (k := 3) rfl) rfl)) ?_
 refine g_val (!((((r18 != 0) || (r19 != 0)) || (r110 != 0)) || (r111 != 0))) (gy_f rfl) (fun hg => x_cmp (kd := .i64) (a := r004) (b := r002) (r := decide (r004 < r002)) (gd_of (c := !((((r18 != 0) || (r19 != 0)) || (r110 != 0)) || (r111 != 0))) hg (I r004)) (gd_of (c := !((((r18 != 0) || (r19 != 0)) || (r110 != 0)) || (r111 != 0))) hg (I r002)) rfl) ?_
 refine s_val (x_por (b := ((((r18 != 0) || (r19 != 0)) || (r110 != 0)) || (r111 != 0))) (r := decide (r004 < r002)) rfl rfl (fun hb => gd_of (c := !((((r18 != 0) || (r19 != 0)) || (r110 != 0)) || (r111 != 0))) (by first | exact hb | (rw [hb]; rfl) | simp_all) (B (decide (r004 < r002))))) ?_
 refine s_val (x_mv (v := B (((((r18 != 0) || (r19 != 0)) || (r110 != 0)) || (r111 != 0)) || (decide (r004 < r002)))) rfl) ?_
 refine g_val (!(((((r18 != 0) || (r19 != 0)) || (r110 != 0)) || (r111 != 0)) || (decide (r004 < r002)))) (gy_f rfl) (fun hg => x_fa (a := .pointer (some ⟨b_32, 0, none⟩)) (v := .pointer (some ⟨b_32, 1, none⟩)) rfl (fa_blk (o := 0) Fd35_1 Sz3)) ?_
 refine g_val (!(((((r18 != 0) || (r19 != 0)) || (r110 != 0)) || (r111 != 0)) || (decide (r004 < r002)))) (gy_f rfl) (fun hg => x_ld (p := .pointer (some ⟨b_32, 1, none⟩)) (v := I r014) (gd_of (c := !(((((r18 != 0) || (r19 != 0)) || (r110 != 0)) || (r111 != 0)) || (decide (r004 < r002)))) hg (.pointer (some ⟨b_32, 1, none⟩))) (ldb_sc Sc3 (H.blk (k := 1) rfl) rfl)) ?_
 refine g_val (!(((((r18 != 0) || (r19 != 0)) || (r110 != 0)) || (r111 != 0)) || (decide (r004 < r002)))) (gy_f rfl) (fun hg => x_fa (a := .pointer (some ⟨b_30, 0, none⟩)) (v := .pointer (some ⟨b_30, 1, none⟩)) rfl (fa_blk (o := 0) Fd35_1 Sz3)) ?_
 refine g_val (!(((((r18 != 0) || (r19 != 0)) || (r110 != 0)) || (r111 != 0)) || (decide (r004 < r002)))) (gy_f rfl) (fun hg => x_ld (p := .pointer (some ⟨b_30, 1, none⟩)) (v := I r012) (gd_of (c := !(((((r18 != 0) || (r19 != 0)) || (r110 != 0)) || (r111 != 0)) || (decide (r004 < r002)))) hg (.pointer (some ⟨b_30, 1, none⟩))) (ldb_sc Sc3 (H.blk (k := 3) rfl) rfl)) ?_
 refine g_val (!(((((r18 != 0) || (r19 != 0)) || (r110 != 0)) || (r111 != 0)) || (decide (r004 < r002)))) (gy_f rfl) (fun hg => x_cmp (kd := .i64) (a := r014) (b := r012) (r := decide (r012 < r014)) (gd_of (c := !(((((r18 != 0) || (r19 != 0)) || (r110 != 0)) || (r111 != 0)) || (decide (r004 < r002)))) hg (I r014)) (gd_of (c := !(((((r18 != 0) || (r19 != 0)) || (r110 != 0)) || (r111 != 0)) || (decide (r004 < r002)))) hg (I r012)) rfl) ?_
 refine s_val (x_por (b := (((((r18 != 0) || (r19 != 0)) || (r110 != 0)) || (r111 != 0)) || (decide (r004 < r002)))) (r := decide (r012 < r014)) rfl rfl (fun hb => gd_of (c := !(((((r18 != 0) || (r19 != 0)) || (r110 != 0)) || (r111 != 0)) || (decide (r004 < r002)))) (by first | exact hb | (rw [hb]; rfl) | simp_all) (B (decide (r012 < r014))))) ?_
 refine s_val (x_mv (v := B ((((((r18 != 0) || (r19 != 0)) || (r110 != 0)) || (r111 != 0)) || (decide (r004 < r002))) || (decide (r012 < r014)))) rfl) ?_
 refine g_val (!((((((r18 != 0) || (r19 != 0)) || (r110 != 0)) || (r111 != 0)) || (decide (r004 < r002))) || (decide (r012 < r014)))) (gy_f rfl) (fun hg => x_fa (a := .pointer (some ⟨b_33, 0, none⟩)) (v := .pointer (some ⟨b_33, 0, none⟩)) rfl (fa_blk (o := 0) Fd35_0 Sz3)) ?_
 refine g_val (!((((((r18 != 0) || (r19 != 0)) || (r110 != 0)) || (r111 != 0)) || (decide (r004 < r002))) || (decide (r012 < r014)))) (gy_f rfl) (fun hg => x_ld (p := .pointer (some ⟨b_33, 0, none⟩)) (v := I r005) (gd_of (c := !((((((r18 != 0) || (r19 != 0)) || (r110 != 0)) || (r111 != 0)) || (decide (r004 < r002))) || (decide (r012 < r014)))) hg (.pointer (some ⟨b_33, 0, none⟩))) (ldb_sc Sc3 (H.blk (k := 0) rfl) rfl)) ?_
 refine g_val (!((((((r18 != 0) || (r19 != 0)) || (r110 != 0)) || (r111 != 0)) || (decide (r004 < r002))) || (decide (r012 < r014)))) (gy_f rfl) (fun hg => x_fa (a := .pointer (some ⟨b_31, 0, none⟩)) (v := .pointer (some ⟨b_31, 0, none⟩)) rfl (fa_blk (o := 0) Fd35_0 Sz3)) ?_
 refine g_val (!((((((r18 != 0) || (r19 != 0)) || (r110 != 0)) || (r111 != 0)) || (decide (r004 < r002))) || (decide (r012 < r014)))) (gy_f rfl) (fun hg => x_ld (p := .pointer (some ⟨b_31, 0, none⟩)) (v := I r003) (gd_of (c := !((((((r18 != 0) || (r19 != 0)) || (r110 != 0)) || (r111 != 0)) || (decide (r004 < r002))) || (decide (r012 < r014)))) hg (.pointer (some ⟨b_31, 0, none⟩))) (ldb_sc Sc3 (H.blk (k := 2) rfl) rfl)) ?_
 refine g_val (!((((((r18 != 0) || (r19 != 0)) || (r110 != 0)) || (r111 != 0)) || (decide (r004 < r002))) || (decide (r012 < r014)))) (gy_f rfl) (fun hg => x_cmp (kd := .i64) (a := r005) (b := r003) (r := decide (r005 < r003)) (gd_of (c := !((((((r18 != 0) || (r19 != 0)) || (r110 != 0)) || (r111 != 0)) || (decide (r004 < r002))) || (decide (r012 < r014)))) hg (I r005)) (gd_of (c := !((((((r18 != 0) || (r19 != 0)) || (r110 != 0)) || (r111 != 0)) || (decide (r004 < r002))) || (decide (r012 < r014)))) hg (I r003)) rfl) ?_
 refine s_val (x_por (b := ((((((r18 != 0) || (r19 != 0)) || (r110 != 0)) || (r111 != 0)) || (decide (r004 < r002))) || (decide (r012 < r014)))) (r := decide (r005 < r003)) rfl rfl (fun hb => gd_of (c := !((((((r18 != 0) || (r19 != 0)) || (r110 != 0)) || (r111 != 0)) || (decide (r004 < r002))) || (decide (r012 < r014)))) (by first | exact hb | (rw [hb]; rfl) | simp_all) (B (decide (r005 < r003))))) ?_
 refine s_val (x_mv (v := B (((((((r18 != 0) || (r19 != 0)) || (r110 != 0)) || (r111 != 0)) || (decide (r004 < r002))) || (decide (r012 < r014))) || (decide (r005 < r003)))) rfl) ?_
 refine g_val (!(((((((r18 != 0) || (r19 != 0)) || (r110 != 0)) || (r111 != 0)) || (decide (r004 < r002))) || (decide (r012 < r014))) || (decide (r005 < r003)))) (gy_f rfl) (fun hg => x_fa (a := .pointer (some ⟨b_33, 0, none⟩)) (v := .pointer (some ⟨b_33, 1, none⟩)) rfl (fa_blk (o := 0) Fd35_1 Sz3)) ?_
 refine g_val (!(((((((r18 != 0) || (r19 != 0)) || (r110 != 0)) || (r111 != 0)) || (decide (r004 < r002))) || (decide (r012 < r014))) || (decide (r005 < r003)))) (gy_f rfl) (fun hg => x_ld (p := .pointer (some ⟨b_33, 1, none⟩)) (v := I r015) (gd_of (c := !(((((((r18 != 0) || (r19 != 0)) || (r110 != 0)) || (r111 != 0)) || (decide (r004 < r002))) || (decide (r012 < r014))) || (decide (r005 < r003)))) hg (.pointer (some ⟨b_33, 1, none⟩))) (ldb_sc Sc3 (H.blk (k := 0) rfl) rfl)) ?_
 refine g_val (!(((((((r18 != 0) || (r19 != 0)) || (r110 != 0)) || (r111 != 0)) || (decide (r004 < r002))) || (decide (r012 < r014))) || (decide (r005 < r003)))) (gy_f rfl) (fun hg => x_fa (a := .pointer (some ⟨b_31, 0, none⟩)) (v := .pointer (some ⟨b_31, 1, none⟩)) rfl (fa_blk (o := 0) Fd35_1 Sz3)) ?_
 refine g_val (!(((((((r18 != 0) || (r19 != 0)) || (r110 != 0)) || (r111 != 0)) || (decide (r004 < r002))) || (decide (r012 < r014))) || (decide (r005 < r003)))) (gy_f rfl) (fun hg => x_ld (p := .pointer (some ⟨b_31, 1, none⟩)) (v := I r013) (gd_of (c := !(((((((r18 != 0) || (r19 != 0)) || (r110 != 0)) || (r111 != 0)) || (decide (r004 < r002))) || (decide (r012 < r014))) || (decide (r005 < r003)))) hg (.pointer (some ⟨b_31, 1, none⟩))) (ldb_sc Sc3 (H.blk (k := 2) rfl) rfl)) ?_
 refine g_val (!(((((((r18 != 0) || (r19 != 0)) || (r110 != 0)) || (r111 != 0)) || (decide (r004 < r002))) || (decide (r012 < r014))) || (decide (r005 < r003)))) (gy_f rfl) (fun hg => x_cmp (kd := .i64) (a := r015) (b := r013) (r := decide (r013 < r015)) (gd_of (c := !(((((((r18 != 0) || (r19 != 0)) || (r110 != 0)) || (r111 != 0)) || (decide (r004 < r002))) || (decide (r012 < r014))) || (decide (r005 < r003)))) hg (I r015)) (gd_of (c := !(((((((r18 != 0) || (r19 != 0)) || (r110 != 0)) || (r111 != 0)) || (decide (r004 < r002))) || (decide (r012 < r014))) || (decide (r005 < r003)))) hg (I r013)) rfl) ?_
 refine s_val (x_por (b := (((((((r18 != 0) || (r19 != 0)) || (r110 != 0)) || (r111 != 0)) || (decide (r004 < r002))) || (decide (r012 < r014))) || (decide (r005 < r003)))) (r := decide (r013 < r015)) rfl rfl (fun hb => gd_of (c := !(((((((r18 != 0) || (r19 != 0)) || (r110 != 0)) || (r111 != 0)) || (decide (r004 < r002))) || (decide (r012 < r014))) || (decide (r005 < r003)))) (by first | exact hb | (rw [hb]; rfl) | simp_all) (B (decide (r013 < r015))))) ?_
 refine s_nil ?_
 refine W.cond ((((((((r18 != 0) || (r19 != 0)) || (r110 != 0)) || (r111 != 0)) || (decide (r004 < r002))) || (decide (r012 < r014))) || (decide (r005 < r003))) || (decide (r013 < r015))) rfl (fun c489z => ?_) (fun c489z => ?_)
 ·replace hM := M.e_t hM c489z
  refine W.seq ?_
  refine W.region rfl ?_
  refine s_val (x_as (v := B false) rfl) ?_
  refine s_nil ?_
  refine W.ret ?_
  have hr_ := M.e_pure hM
  exact ⟨_, resE_tmp rfl, ⟨false, hr_, rfl, (H.pick [] (by decide) rfl)⟩⟩
 replace hM := M.e_f hM c489z
 refine W.skip ?_
 refine W.seq ?_
 refine W.seq ?_
 refine W.region rfl ?_
 refine s_val (x_ld (p := .pointer (some ⟨b_18, 0, none⟩)) (v := .agg #[v_l2, u1_14, I r24, I r32]) rfl (ldb_ag (ds := [v_l2, u1_14, I r24, I r32]) Ag26 Sz26 (H.blk (k := 9) rfl) rfl rfl)) ?_
 refine s_val (x_ld (p := .pointer (some ⟨b_29, 0, none⟩)) (v := .agg #[u0_25, u1_26, I r26, I r34]) rfl (ldb_ag (ds := [u0_25, u1_26, I r26, I r34]) Ag26 Sz26 (H.blk (k := 4) rfl) rfl rfl)) ?_
 obtain ⟨Bs_34, H⟩ := H.emptyE
 obtain ⟨Bs_35, H, hs491z⟩ := H.freezeE (k := 12) rfl
 replace H : St w w488z [cRo Bs_34, cBlk b_33 [I r005, I r015] 35, cBlk b_32 [I r004, I r014] 35, cBlk b_31 [I r003, I r013] 35, cBlk b_30 [I r002, I r012] 35, cBlk b_29 [u0_25, u1_26, I r26, I r34] 26, cOwn (α := Yr) 41 u0_25 r06, cOwn (α := Raw 3) 43 u1_26 rr2_27, cRo Bs3_28, cBlk nb0_8 [v_more, I s3, I s4] 101, cBlk b_18 [v_l2, u1_14, I r24, I r32] 26, cBlk b_17 [u0_9, v_l, I r23, I r3] 26, cRo Bs_35, cOwn (α := Raw 3) 43 u1_14 rr2_15, cRo Bs3_16, cOwn (α := Yr) 41 u0_9 r0, cOwn (α := Raw 3) 43 v_l rw_l, cRo B_l, cBlk b_7 [u0_2, u1_3, I r02, I r03] 26, cOwn (α := Yr) 41 u0_2 r00, cOwn (α := Raw 3) 43 u1_3 rr2_4, cRo Bs3_5, cOwn (α := Int) 3 u4_6 r12, cBlk nb0_1 [v_numbers, I q1, I q2] 101] R := H
 have hq490z := hs491z
 obtain ⟨Bs_36, H, le492z, le493z⟩ := H.joinE (i := 0) (j := 12) rfl rfl
 replace hq490z := hq490z.mono le493z
 obtain ⟨Bs_37, H, hs495z⟩ := H.freezeE (k := 14) rfl
 obtain ⟨Bs_38, H, le496z, le497z⟩ := H.joinE (i := 14) (j := 15) rfl rfl
 have hs498z := unraw (α := Old10) rfl (hs495z.mono le496z) (hrj284z.mono le497z)
 replace H : St w w488z [cRo Bs_38, cRo Bs_36, cRo Bs_34, cBlk b_33 [I r005, I r015] 35, cBlk b_32 [I r004, I r014] 35, cBlk b_31 [I r003, I r013] 35, cBlk b_30 [I r002, I r012] 35, cBlk b_29 [u0_25, u1_26, I r26, I r34] 26, cOwn (α := Yr) 41 u0_25 r06, cOwn (α := Raw 3) 43 u1_26 rr2_27, cRo Bs3_28, cBlk nb0_8 [v_more, I s3, I s4] 101, cBlk b_18 [v_l2, u1_14, I r24, I r32] 26, cBlk b_17 [u0_9, v_l, I r23, I r3] 26, cRo Bs_35, cRo Bs_37, cRo Bs3_16, cOwn (α := Yr) 41 u0_9 r0, cOwn (α := Raw 3) 43 v_l rw_l, cRo B_l, cBlk b_7 [u0_2, u1_3, I r02, I r03] 26, cOwn (α := Yr) 41 u0_2 r00, cOwn (α := Raw 3) 43 u1_3 rr2_4, cRo Bs3_5, cOwn (α := Int) 3 u4_6 r12, cBlk nb0_1 [v_numbers, I q1, I q2] 101] R := H
 have hq494z := hs498z
 obtain ⟨Bs_39, H, le499z, le500z⟩ := H.joinE (i := 1) (j := 0) rfl rfl
 replace hq490z := hq490z.mono le499z
 replace hq494z := hq494z.mono le500z
 obtain ⟨Bs_49, H, hs502z⟩ := H.freezeE (k := 9) rfl
 replace H : St w w488z [cRo Bs_39, cRo Bs_38, cRo Bs_36, cRo Bs_34, cBlk b_33 [I r005, I r015] 35, cBlk b_32 [I r004, I r014] 35, cBlk b_31 [I r003, I r013] 35, cBlk b_30 [I r002, I r012] 35, cBlk b_29 [u0_25, u1_26, I r26, I r34] 26, cRo Bs_49, cOwn (α := Raw 3) 43 u1_26 rr2_27, cRo Bs3_28, cBlk nb0_8 [v_more, I s3, I s4] 101, cBlk b_18 [v_l2, u1_14, I r24, I r32] 26, cBlk b_17 [u0_9, v_l, I r23, I r3] 26, cRo Bs_35, cRo Bs_37, cRo Bs3_16, cOwn (α := Yr) 41 u0_9 r0, cOwn (α := Raw 3) 43 v_l rw_l, cRo B_l, cBlk b_7 [u0_2, u1_3, I r02, I r03] 26, cOwn (α := Yr) 41 u0_2 r00, cOwn (α := Raw 3) 43 u1_3 rr2_4, cRo Bs3_5, cOwn (α := Int) 3 u4_6 r12, cBlk nb0_1 [v_numbers, I q1, I q2] 101] R := H
 have hq501z := hs502z
 obtain ⟨Bs_41, H, le503z, le504z⟩ := H.joinE (i := 0) (j := 9) rfl rfl
 replace hq490z := hq490z.mono le503z
 replace hq494z := hq494z.mono le503z
 replace hq501z := hq501z.mono le504z
 obtain ⟨Bs_42, H, hs506z⟩ := H.freezeE (k := 11) rfl
 obtain ⟨Bs_43, H, le507z, le508z⟩ := H.joinE (i := 11) (j := 12) rfl rfl
 have hs509z := unraw (α := Old10) rfl (hs506z.mono le507z) (hf341z.mono le508z)
 replace H : St w w488z [cRo Bs_43, cRo Bs_41, cRo Bs_39, cRo Bs_38, cRo Bs_36, cRo Bs_34, cBlk b_33 [I r005, I r015] 35, cBlk b_32 [I r004, I r014] 35, cBlk b_31 [I r003, I r013] 35, cBlk b_30 [I r002, I r012] 35, cBlk b_29 [u0_25, u1_26, I r26, I r34] 26, cRo Bs_49, cRo Bs_42, cRo Bs3_28, cBlk nb0_8 [v_more, I s3, I s4] 101, cBlk b_18 [v_l2, u1_14, I r24, I r32] 26, cBlk b_17 [u0_9, v_l, I r23, I r3] 26, cRo Bs_35, cRo Bs_37, cRo Bs3_16, cOwn (α := Yr) 41 u0_9 r0, cOwn (α := Raw 3) 43 v_l rw_l, cRo B_l, cBlk b_7 [u0_2, u1_3, I r02, I r03] 26, cOwn (α := Yr) 41 u0_2 r00, cOwn (α := Raw 3) 43 u1_3 rr2_4, cRo Bs3_5, cOwn (α := Int) 3 u4_6 r12, cBlk nb0_1 [v_numbers, I q1, I q2] 101] R := H
 have hq505z := hs509z
 obtain ⟨Bs_44, H, le510z, le511z⟩ := H.joinE (i := 1) (j := 0) rfl rfl
 replace hq490z := hq490z.mono le510z
 replace hq494z := hq494z.mono le510z
 replace hq501z := hq501z.mono le510z
 replace hq505z := hq505z.mono le511z
 obtain ⟨rw512z, hrw_rw512z⟩ : ∃ r : Raw 3, r.cs = [v_l2, u1_14, I r24, I r32] := ⟨Raw.of [v_l2, u1_14, I r24, I r32] rfl (by simp only [List.all_cons, List.all_nil, Bool.true_and, Bool.and_true, Sl.oc hq490z, Sl.oc hq494z]; try rfl), rfl⟩
 obtain ⟨rw513z, hrw_rw513z⟩ : ∃ r : Raw 3, r.cs = [u0_25, u1_26, I r26, I r34] := ⟨Raw.of [u0_25, u1_26, I r26, I r34] rfl (by simp only [List.all_cons, List.all_nil, Bool.true_and, Bool.and_true, Sl.oc hq501z, Sl.oc hq505z]; try rfl), rfl⟩
 have hr514z : RepR (α := Bk10) Bs_44.cells [rw512z, rw513z] [(⟨l2, r15, (r24 : Int), (r32 : Int)⟩ : Bk10), (⟨r06, r17, (r26 : Int), (r34 : Int)⟩ : Bk10)] := .cons (by rw [hrw_rw512z]; exact ⟨_, _, rfl, hq490z, hq494z⟩) <| .cons (by rw [hrw_rw513z]; exact ⟨_, _, rfl, hq501z, hq505z⟩) <| .nil
 refine t_bs (α := Raw 3) T49 [.agg #[v_l2, u1_14, I r24, I r32], .agg #[u0_25, u1_26, I r26, I r34]] [rw512z, rw513z] H rfl (.cons (by rw [show (Flat.enc rw512z : List Value) = rw512z.cs from rfl, hrw_rw512z]; rfl) (Flat.rep_enc _ _) <| .cons (by rw [show (Flat.enc rw513z : List Value) = rw513z.cs from rfl, hrw_rw513z]; rfl) (Flat.rep_enc _ _) <| .nil) rfl rfl rfl ?_
 intro v515z w516z H
 replace H : St w w516z [cOwn (α := Raw 3) 26 v515z ([rw512z, rw513z]), cRo Bs_44, cRo Bs_43, cRo Bs_41, cRo Bs_39, cRo Bs_38, cRo Bs_36, cRo Bs_34, cBlk b_33 [I r005, I r015] 35, cBlk b_32 [I r004, I r014] 35, cBlk b_31 [I r003, I r013] 35, cBlk b_30 [I r002, I r012] 35, cBlk b_29 [u0_25, u1_26, I r26, I r34] 26, cRo Bs_49, cRo Bs_42, cRo Bs3_28, cBlk nb0_8 [v_more, I s3, I s4] 101, cBlk b_18 [v_l2, u1_14, I r24, I r32] 26, cBlk b_17 [u0_9, v_l, I r23, I r3] 26, cRo Bs_35, cRo Bs_37, cRo Bs3_16, cOwn (α := Yr) 41 u0_9 r0, cOwn (α := Raw 3) 43 v_l rw_l, cRo B_l, cBlk b_7 [u0_2, u1_3, I r02, I r03] 26, cOwn (α := Yr) 41 u0_2 r00, cOwn (α := Raw 3) 43 u1_3 rr2_4, cRo Bs3_5, cOwn (α := Int) 3 u4_6 r12, cBlk nb0_1 [v_numbers, I q1, I q2] 101] R := H
 have hl517z := ((rowSl rfl (H.get (k := 0) rfl) (roLe _ (H.get (k := 1) rfl)) hr514z)).len_le
 refine s_val (x_lenS T49.und rfl (rowSl rfl (H.get (k := 0) rfl) (roLe _ (H.get (k := 1) rfl)) hr514z)) ?_
 refine s_val (x_mv (v := I 0) rfl) ?_
 refine s_nil ?_
 refine W.block ?_
 obtain ⟨ex518z, hi519z, hk520z⟩ := M.e_bind hM
 obtain ⟨m0_, hi519z⟩ := M.e_iter hi519z
 refine W.loop (fun m σ W => ∃ (s5 : Nat) (ρ : Env), σ = upds ρ [(9, .pointer (some ⟨b_7, 0, none⟩)), (16, I (r02 + r7)), (17, I r8), (18, .pointer (some ⟨b_30, 0, none⟩)), (20, .pointer (some ⟨b_31, 0, none⟩)), (186, v515z), (187, I (([(⟨l2, r15, (r24 : Int), (r32 : Int)⟩ : Bk10), (⟨r06, r17, (r26 : Int), (r34 : Int)⟩ : Bk10)]).length : Int)), (188, I (s5 : Int))] /\ M.iterN (zaT r02 r03 r15 r24 r32 l2 r06 r17 r26 r34 r7 r8 r002 r012 r003 r013) m s5 = some ex518z /\ St w W [cOwn (α := Raw 3) 26 v515z ([rw512z, rw513z]), cRo Bs_44, cRo Bs_43, cRo Bs_41, cRo Bs_39, cRo Bs_38, cRo Bs_36, cRo Bs_34, cBlk b_33 [I r005, I r015] 35, cBlk b_32 [I r004, I r014] 35, cBlk b_31 [I r003, I r013] 35, cBlk b_30 [I r002, I r012] 35, cBlk b_29 [u0_25, u1_26, I r26, I r34] 26, cRo Bs_49, cRo Bs_42, cRo Bs3_28, cBlk nb0_8 [v_more, I s3, I s4] 101, cBlk b_18 [v_l2, u1_14, I r24, I r32] 26, cBlk b_17 [u0_9, v_l, I r23, I r3] 26, cRo Bs_35, cRo Bs_37, cRo Bs3_16, cOwn (α := Yr) 41 u0_9 r0, cOwn (α := Raw 3) 43 v_l rw_l, cRo B_l, cBlk b_7 [u0_2, u1_3, I r02, I r03] 26, cOwn (α := Yr) 41 u0_2 r00, cOwn (α := Raw 3) 43 u1_3 rr2_4, cRo Bs3_5, cOwn (α := Int) 3 u4_6 r12, cBlk nb0_1 [v_numbers, I q1, I q2] 101] R) ?_ ?_
 ·exact ⟨_, 0, _, upds_of _ _ ⟨rfl, rfl, rfl, rfl, rfl, rfl, rfl, rfl, trivial⟩, hi519z, H⟩
 rintro m523z σ w521z ⟨s5, ρ, rfl, hI522z, H⟩
 obtain ⟨m524z, lt525z, x526z, hM, hN527z⟩ := M.e_iterN hI522z
 simp only [zaT] at hM
 clear hI522z
 refine W.seq ?_
 refine W.region rfl ?_
 refine s_val (x_cmp (kd := .i64) (a := (s5 : Int)) (b := (([(⟨l2, r15, (r24 : Int), (r32 : Int)⟩ : Bk10), (⟨r06, r17, (r26 : Int), (r34 : Int)⟩ : Bk10)]).length : Int)) (r := decide ((s5 : Int) < (([(⟨l2, r15, (r24 : Int), (r32 : Int)⟩ : Bk10), (⟨r06, r17, (r26 : Int), (r34 : Int)⟩ : Bk10)]).length : Int))) rfl rfl rfl) ?_
 refine s_nil ?_
 refine W.seq ?_
 refine W.cond (decide ((s5 : Int) < (([(⟨l2, r15, (r24 : Int), (r32 : Int)⟩ : Bk10), (⟨r06, r17, (r26 : Int), (r34 : Int)⟩ : Bk10)]).length : Int))) rfl (fun c528z => ?_) (fun c528z => ?_)
 ·replace hM := M.e_t hM c528z
  simp only [decide_eq_true_eq, decide_eq_false_iff_not, beq_iff_eq, bne_iff_ne, beq_eq_false_iff_ne, bne_eq_false_iff_eq, ne_eq, Decidable.not_not] at c528z
  refine W.skip ?_
  refine W.seq ?_
  refine W.block ?_
  refine W.seq ?_
  refine W.region rfl ?_
  obtain ⟨sd529z, hM⟩ := M.e_grd hM
  simp only [Bool.and_eq_true, decide_eq_true_eq] at sd529z
  refine s_val (x_ix (a := v515z) (b := I (s5 : Int)) (v := vat v515z 4 (Int.toNat (s5 : Int))) rfl rfl (Sl.ix (α := Bk10) T49.und T49.size (rowSl rfl (H.get (k := 0) rfl) (roLe _ (H.get (k := 1) rfl)) hr514z) (by omega) (by omega))) ?_
  obtain ⟨u530z, u531z, ha534z, hs532z, hs533z⟩ := Bk10_atA (rowSl rfl (H.get (k := 0) rfl) (roLe _ (H.get (k := 1) rfl)) hr514z) (i := (s5 : Int)) (by omega) (by omega)
  replace hs532z : Sl _ u530z (([(⟨l2, r15, (r24 : Int), (r32 : Int)⟩ : Bk10), (⟨r06, r17, (r26 : Int), (r34 : Int)⟩ : Bk10)]).getD s5 default).years := hs532z
  have hl_hs532z := hs532z.len_le
  replace hs533z : Sl _ u531z (([(⟨l2, r15, (r24 : Int), (r32 : Int)⟩ : Bk10), (⟨r06, r17, (r26 : Int), (r34 : Int)⟩ : Bk10)]).getD s5 default).olds := hs533z
  have hl_hs533z := hs533z.len_le
  refine s_val (x_ld (p := vat v515z 4 (Int.toNat (s5 : Int))) (v := .agg #[u530z, u531z, I ((([(⟨l2, r15, (r24 : Int), (r32 : Int)⟩ : Bk10), (⟨r06, r17, (r26 : Int), (r34 : Int)⟩ : Bk10)]).getD s5 default).first), I ((([(⟨l2, r15, (r24 : Int), (r32 : Int)⟩ : Bk10), (⟨r06, r17, (r26 : Int), (r34 : Int)⟩ : Bk10)]).getD s5 default).last)]) rfl (ld_ag Ag26 Sz26 (At.mono ha534z (Cells.sup_le (ownLe _ (H.get (k := 0) rfl)) (roLe _ (H.get (k := 1) rfl)))))) ?_
  refine t_alloc (cs := [.slice none 0 0, .slice none 0 0, I 0, I 0]) H Al26 rfl ?_
  intro b_46 w535z H
  refine t_st (k := 0) (b := b_46) (off := 0) (cs := [.slice none 0 0, .slice none 0 0, I 0, I 0]) (vs := [u530z, u531z, I ((([(⟨l2, r15, (r24 : Int), (r32 : Int)⟩ : Bk10), (⟨r06, r17, (r26 : Int), (r34 : Int)⟩ : Bk10)]).getD s5 default).first), I ((([(⟨l2, r15, (r24 : Int), (r32 : Int)⟩ : Bk10), (⟨r06, r17, (r26 : Int), (r34 : Int)⟩ : Bk10)]).getD s5 default).last)]) (cs' := [u530z, u531z, I ((([(⟨l2, r15, (r24 : Int), (r32 : Int)⟩ : Bk10), (⟨r06, r17, (r26 : Int), (r34 : Int)⟩ : Bk10)]).getD s5 default).first), I ((([(⟨l2, r15, (r24 : Int), (r32 : Int)⟩ : Bk10), (⟨r06, r17, (r26 : Int), (r34 : Int)⟩ : Bk10)]).getD s5 default).last)]) (v := .agg #[u530z, u531z, I ((([(⟨l2, r15, (r24 : Int), (r32 : Int)⟩ : Bk10), (⟨r06, r17, (r26 : Int), (r34 : Int)⟩ : Bk10)]).getD s5 default).first), I ((([(⟨l2, r15, (r24 : Int), (r32 : Int)⟩ : Bk10), (⟨r06, r17, (r26 : Int), (r34 : Int)⟩ : Bk10)]).getD s5 default).last)]) (L' := [cBlk b_46 [u530z, u531z, I ((([(⟨l2, r15, (r24 : Int), (r32 : Int)⟩ : Bk10), (⟨r06, r17, (r26 : Int), (r34 : Int)⟩ : Bk10)]).getD s5 default).first), I ((([(⟨l2, r15, (r24 : Int), (r32 : Int)⟩ : Bk10), (⟨r06, r17, (r26 : Int), (r34 : Int)⟩ : Bk10)]).getD s5 default).last)] 26, cOwn (α := Raw 3) 26 v515z ([rw512z, rw513z]), cRo Bs_44, cRo Bs_43, cRo Bs_41, cRo Bs_39, cRo Bs_38, cRo Bs_36, cRo Bs_34, cBlk b_33 [I r005, I r015] 35, cBlk b_32 [I r004, I r014] 35, cBlk b_31 [I r003, I r013] 35, cBlk b_30 [I r002, I r012] 35, cBlk b_29 [u0_25, u1_26, I r26, I r34] 26, cRo Bs_49, cRo Bs_42, cRo Bs3_28, cBlk nb0_8 [v_more, I s3, I s4] 101, cBlk b_18 [v_l2, u1_14, I r24, I r32] 26, cBlk b_17 [u0_9, v_l, I r23, I r3] 26, cRo Bs_35, cRo Bs_37, cRo Bs3_16, cOwn (α := Yr) 41 u0_9 r0, cOwn (α := Raw 3) 43 v_l rw_l, cRo B_l, cBlk b_7 [u0_2, u1_3, I r02, I r03] 26, cOwn (α := Yr) 41 u0_2 r00, cOwn (α := Raw 3) 43 u1_3 rr2_4, cRo Bs3_5, cOwn (α := Int) 3 u4_6 r12, cBlk nb0_1 [v_numbers, I q1, I q2] 101]) H rfl rfl rfl Sz26 rfl rfl rfl (by simp only [List.all_cons, List.all_nil, Bool.true_and, Bool.and_true, Sl.oc hs532z, Sl.oc hs533z]; try rfl) rfl rfl ?_
  intro w536z H
  refine s_nil ?_
  refine W.seq ?_
  refine W.region rfl ?_
  refine s_val (x_ld (p := .pointer (some ⟨b_46, 0, none⟩)) (v := .agg #[u530z, u531z, I ((([(⟨l2, r15, (r24 : Int), (r32 : Int)⟩ : Bk10), (⟨r06, r17, (r26 : Int), (r34 : Int)⟩ : Bk10)]).getD s5 default).first), I ((([(⟨l2, r15, (r24 : Int), (r32 : Int)⟩ : Bk10), (⟨r06, r17, (r26 : Int), (r34 : Int)⟩ : Bk10)]).getD s5 default).last)]) rfl (ldb_ag (ds := [u530z, u531z, I ((([(⟨l2, r15, (r24 : Int), (r32 : Int)⟩ : Bk10), (⟨r06, r17, (r26 : Int), (r34 : Int)⟩ : Bk10)]).getD s5 default).first), I ((([(⟨l2, r15, (r24 : Int), (r32 : Int)⟩ : Bk10), (⟨r06, r17, (r26 : Int), (r34 : Int)⟩ : Bk10)]).getD s5 default).last)]) Ag26 Sz26 (H.blk (k := 0) rfl) rfl rfl)) ?_
  refine s_val (x_fa (a := .pointer (some ⟨b_7, 0, none⟩)) (v := .pointer (some ⟨b_7, 2, none⟩)) rfl (fa_blk (o := 0) Fd26_2 Sz3)) ?_
  refine s_val (x_ld (p := .pointer (some ⟨b_7, 2, none⟩)) (v := I r02) rfl (ldb_sc Sc3 (H.blk (k := 26) rfl) rfl)) ?_
  refine s_val (x_fa (a := .pointer (some ⟨b_7, 0, none⟩)) (v := .pointer (some ⟨b_7, 3, none⟩)) rfl (fa_blk (o := 0) Fd26_3 Sz3)) ?_
  refine s_val (x_ld (p := .pointer (some ⟨b_7, 3, none⟩)) (v := I r03) rfl (ldb_sc Sc3 (H.blk (k := 26) rfl) rfl)) ?_
  refine s_val (x_mv (v := I r8) rfl) ?_
  obtain ⟨r538z, hx537z, hM⟩ := M.e_bind hM
  refine s_call cf15 [.agg #[u530z, u531z, I ((([(⟨l2, r15, (r24 : Int), (r32 : Int)⟩ : Bk10), (⟨r06, r17, (r26 : Int), (r34 : Int)⟩ : Bk10)]).getD s5 default).first), I ((([(⟨l2, r15, (r24 : Int), (r32 : Int)⟩ : Bk10), (⟨r06, r17, (r26 : Int), (r34 : Int)⟩ : Bk10)]).getD s5 default).last)], I r02, I r03, I r8] rfl (zah ((([(⟨l2, r15, (r24 : Int), (r32 : Int)⟩ : Bk10), (⟨r06, r17, (r26 : Int), (r34 : Int)⟩ : Bk10)]).getD s5 default).years) ((([(⟨l2, r15, (r24 : Int), (r32 : Int)⟩ : Bk10), (⟨r06, r17, (r26 : Int), (r34 : Int)⟩ : Bk10)]).getD s5 default).olds) ((([(⟨l2, r15, (r24 : Int), (r32 : Int)⟩ : Bk10), (⟨r06, r17, (r26 : Int), (r34 : Int)⟩ : Bk10)]).getD s5 default).first) ((([(⟨l2, r15, (r24 : Int), (r32 : Int)⟩ : Bk10), (⟨r06, r17, (r26 : Int), (r34 : Int)⟩ : Bk10)]).getD s5 default).last) r02 r03 r8 (Reads.sup (Reads.of (k := 1) rfl ownLe) (Reads.of (k := 2) rfl roLe)) hs532z (Reads.sup (Reads.of (k := 1) rfl ownLe) (Reads.of (k := 2) rfl roLe)) hs533z hx537z _ (St.give (T := [cBlk b_46 [u530z, u531z, I ((([(⟨l2, r15, (r24 : Int), (r32 : Int)⟩ : Bk10), (⟨r06, r17, (r26 : Int), (r34 : Int)⟩ : Bk10)]).getD s5 default).first), I ((([(⟨l2, r15, (r24 : Int), (r32 : Int)⟩ : Bk10), (⟨r06, r17, (r26 : Int), (r34 : Int)⟩ : Bk10)]).getD s5 default).last)] 26, cOwn (α := Raw 3) 26 v515z ([rw512z, rw513z]), cRo Bs_44, cRo Bs_43, cRo Bs_41, cRo Bs_39, cRo Bs_38, cRo Bs_36, cRo Bs_34, cBlk b_33 [I r005, I r015] 35, cBlk b_32 [I r004, I r014] 35, cBlk b_31 [I r003, I r013] 35, cBlk b_30 [I r002, I r012] 35, cBlk b_29 [u0_25, u1_26, I r26, I r34] 26, cRo Bs_49, cRo Bs_42, cRo Bs3_28, cBlk nb0_8 [v_more, I s3, I s4] 101, cBlk b_18 [v_l2, u1_14, I r24, I r32] 26, cBlk b_17 [u0_9, v_l, I r23, I r3] 26, cRo Bs_35, cRo Bs_37, cRo Bs3_16, cOwn (α := Yr) 41 u0_9 r0, cOwn (α := Raw 3) 43 v_l rw_l, cRo B_l, cBlk b_7 [u0_2, u1_3, I r02, I r03] 26, cOwn (α := Yr) 41 u0_2 r00, cOwn (α := Raw 3) 43 u1_3 rr2_4, cRo Bs3_5, cOwn (α := Int) 3 u4_6 r12, cBlk nb0_1 [v_numbers, I q1, I q2] 101]) H rfl)) ?_
  rintro vq w539z ⟨r006, r016, r112, hr540z, hvq, H2_⟩
  subst hr540z
  subst vq
  try dsimp only at hM
  replace H : St w w539z [cBlk b_46 [u530z, u531z, I ((([(⟨l2, r15, (r24 : Int), (r32 : Int)⟩ : Bk10), (⟨r06, r17, (r26 : Int), (r34 : Int)⟩ : Bk10)]).getD s5 default).first), I ((([(⟨l2, r15, (r24 : Int), (r32 : Int)⟩ : Bk10), (⟨r06, r17, (r26 : Int), (r34 : Int)⟩ : Bk10)]).getD s5 default).last)] 26, cOwn (α := Raw 3) 26 v515z ([rw512z, rw513z]), cRo Bs_44, cRo Bs_43, cRo Bs_41, cRo Bs_39, cRo Bs_38, cRo Bs_36, cRo Bs_34, cBlk b_33 [I r005, I r015] 35, cBlk b_32 [I r004, I r014] 35, cBlk b_31 [I r003, I r013] 35, cBlk b_30 [I r002, I r012] 35, cBlk b_29 [u0_25, u1_26, I r26, I r34] 26, cRo Bs_49, cRo Bs_42, cRo Bs3_28, cBlk nb0_8 [v_more, I s3, I s4] 101, cBlk b_18 [v_l2, u1_14, I r24, I r32] 26, cBlk b_17 [u0_9, v_l, I r23, I r3] 26, cRo Bs_35, cRo Bs_37, cRo Bs3_16, cOwn (α := Yr) 41 u0_9 r0, cOwn (α := Raw 3) 43 v_l rw_l, cRo B_l, cBlk b_7 [u0_2, u1_3, I r02, I r03] 26, cOwn (α := Yr) 41 u0_2 r00, cOwn (α := Raw 3) 43 u1_3 rr2_4, cRo Bs3_5, cOwn (α := Int) 3 u4_6 r12, cBlk nb0_1 [v_numbers, I q1, I q2] 101] R := H.back H2_ rfl
  clear H2_
  refine s_val (x_mv (v := .tuple #[.agg #[I r006, I r016], I r112]) rfl) ?_
  refine s_val (x_ext (vs := [.agg #[I r006, I r016], I r112]) (v := .agg #[I r006, I r016]) rfl rfl) ?_
  refine s_val (x_ext (vs := [.agg #[I r006, I r016], I r112]) (v := I r112) rfl rfl) ?_
  refine t_alloc (cs := [I 0, I 0]) H Al35 rfl ?_
  intro b_47 w541z H
  refine t_st (k := 0) (b := b_47) (off := 0) (cs := [I 0, I 0]) (vs := [I r006, I r016]) (cs' := [I r006, I r016]) (v := .agg #[I r006, I r016]) (L' := [cBlk b_47 [I r006, I r016] 35, cBlk b_46 [u530z, u531z, I ((([(⟨l2, r15, (r24 : Int), (r32 : Int)⟩ : Bk10), (⟨r06, r17, (r26 : Int), (r34 : Int)⟩ : Bk10)]).getD s5 default).first), I ((([(⟨l2, r15, (r24 : Int), (r32 : Int)⟩ : Bk10), (⟨r06, r17, (r26 : Int), (r34 : Int)⟩ : Bk10)]).getD s5 default).last)] 26, cOwn (α := Raw 3) 26 v515z ([rw512z, rw513z]), cRo Bs_44, cRo Bs_43, cRo Bs_41, cRo Bs_39, cRo Bs_38, cRo Bs_36, cRo Bs_34, cBlk b_33 [I r005, I r015] 35, cBlk b_32 [I r004, I r014] 35, cBlk b_31 [I r003, I r013] 35, cBlk b_30 [I r002, I r012] 35, cBlk b_29 [u0_25, u1_26, I r26, I r34] 26, cRo Bs_49, cRo Bs_42, cRo Bs3_28, cBlk nb0_8 [v_more, I s3, I s4] 101, cBlk b_18 [v_l2, u1_14, I r24, I r32] 26, cBlk b_17 [u0_9, v_l, I r23, I r3] 26, cRo Bs_35, cRo Bs_37, cRo Bs3_16, cOwn (α := Yr) 41 u0_9 r0, cOwn (α := Raw 3) 43 v_l rw_l, cRo B_l, cBlk b_7 [u0_2, u1_3, I r02, I r03] 26, cOwn (α := Yr) 41 u0_2 r00, cOwn (α := Raw 3) 43 u1_3 rr2_4, cRo Bs3_5, cOwn (α := Int) 3 u4_6 r12, cBlk nb0_1 [v_numbers, I q1, I q2] 101]) H rfl rfl rfl Sz35 rfl rfl rfl rfl rfl rfl ?_
  intro w542z H
  refine s_val (x_as (v := I r112) rfl) ?_
  refine s_nil ?_
  refine W.seq ?_
  refine W.region rfl ?_
  refine s_val (x_ld (p := .pointer (some ⟨b_46, 0, none⟩)) (v := .agg #[u530z, u531z, I ((([(⟨l2, r15, (r24 : Int), (r32 : Int)⟩ : Bk10), (⟨r06, r17, (r26 : Int), (r34 : Int)⟩ : Bk10)]).getD s5 default).first), I ((([(⟨l2, r15, (r24 : Int), (r32 : Int)⟩ : Bk10), (⟨r06, r17, (r26 : Int), (r34 : Int)⟩ : Bk10)]).getD s5 default).last)]) rfl (ldb_ag (ds := [u530z, u531z, I ((([(⟨l2, r15, (r24 : Int), (r32 : Int)⟩ : Bk10), (⟨r06, r17, (r26 : Int), (r34 : Int)⟩ : Bk10)]).getD s5 default).first), I ((([(⟨l2, r15, (r24 : Int), (r32 : Int)⟩ : Bk10), (⟨r06, r17, (r26 : Int), (r34 : Int)⟩ : Bk10)]).getD s5 default).last)]) Ag26 Sz26 (H.blk (k := 1) rfl) rfl rfl)) ?_
  refine s_val (x_mv (v := I (r02 + r7)) rfl) ?_
  obtain ⟨r544z, hx543z, hM⟩ := M.e_bind hM
  refine s_call cf20 [.agg #[u530z, u531z, I ((([(⟨l2, r15, (r24 : Int), (r32 : Int)⟩ : Bk10), (⟨r06, r17, (r26 : Int), (r34 : Int)⟩ : Bk10)]).getD s5 default).first), I ((([(⟨l2, r15, (r24 : Int), (r32 : Int)⟩ : Bk10), (⟨r06, r17, (r26 : Int), (r34 : Int)⟩ : Bk10)]).getD s5 default).last)], I (r02 + r7)] rfl (zaw ((([(⟨l2, r15, (r24 : Int), (r32 : Int)⟩ : Bk10), (⟨r06, r17, (r26 : Int), (r34 : Int)⟩ : Bk10)]).getD s5 default).years) ((([(⟨l2, r15, (r24 : Int), (r32 : Int)⟩ : Bk10), (⟨r06, r17, (r26 : Int), (r34 : Int)⟩ : Bk10)]).getD s5 default).olds) ((([(⟨l2, r15, (r24 : Int), (r32 : Int)⟩ : Bk10), (⟨r06, r17, (r26 : Int), (r34 : Int)⟩ : Bk10)]).getD s5 default).first) ((([(⟨l2, r15, (r24 : Int), (r32 : Int)⟩ : Bk10), (⟨r06, r17, (r26 : Int), (r34 : Int)⟩ : Bk10)]).getD s5 default).last) (r02 + r7) (Reads.sup (Reads.of (k := 2) rfl ownLe) (Reads.of (k := 3) rfl roLe)) hs532z (Reads.sup (Reads.of (k := 2) rfl ownLe) (Reads.of (k := 3) rfl roLe)) hs533z hx543z _ (St.give (T := [cBlk b_47 [I r006, I r016] 35, cBlk b_46 [u530z, u531z, I ((([(⟨l2, r15, (r24 : Int), (r32 : Int)⟩ : Bk10), (⟨r06, r17, (r26 : Int), (r34 : Int)⟩ : Bk10)]).getD s5 default).first), I ((([(⟨l2, r15, (r24 : Int), (r32 : Int)⟩ : Bk10), (⟨r06, r17, (r26 : Int), (r34 : Int)⟩ : Bk10)]).getD s5 default).last)] 26, cOwn (α := Raw 3) 26 v515z ([rw512z, rw513z]), cRo Bs_44, cRo Bs_43, cRo Bs_41, cRo Bs_39, cRo Bs_38, cRo Bs_36, cRo Bs_34, cBlk b_33 [I r005, I r015] 35, cBlk b_32 [I r004, I r014] 35, cBlk b_31 [I r003, I r013] 35, cBlk b_30 [I r002, I r012] 35, cBlk b_29 [u0_25, u1_26, I r26, I r34] 26, cRo Bs_49, cRo Bs_42, cRo Bs3_28, cBlk nb0_8 [v_more, I s3, I s4] 101, cBlk b_18 [v_l2, u1_14, I r24, I r32] 26, cBlk b_17 [u0_9, v_l, I r23, I r3] 26, cRo Bs_35, cRo Bs_37, cRo Bs3_16, cOwn (α := Yr) 41 u0_9 r0, cOwn (α := Raw 3) 43 v_l rw_l, cRo B_l, cBlk b_7 [u0_2, u1_3, I r02, I r03] 26, cOwn (α := Yr) 41 u0_2 r00, cOwn (α := Raw 3) 43 u1_3 rr2_4, cRo Bs3_5, cOwn (α := Int) 3 u4_6 r12, cBlk nb0_1 [v_numbers, I q1, I q2] 101]) H rfl)) ?_
  rintro vq w545z ⟨r007, r017, r113, hr546z, hvq, H2_⟩
  subst hr546z
  subst vq
  try dsimp only at hM
  replace H : St w w545z [cBlk b_47 [I r006, I r016] 35, cBlk b_46 [u530z, u531z, I ((([(⟨l2, r15, (r24 : Int), (r32 : Int)⟩ : Bk10), (⟨r06, r17, (r26 : Int), (r34 : Int)⟩ : Bk10)]).getD s5 default).first), I ((([(⟨l2, r15, (r24 : Int), (r32 : Int)⟩ : Bk10), (⟨r06, r17, (r26 : Int), (r34 : Int)⟩ : Bk10)]).getD s5 default).last)] 26, cOwn (α := Raw 3) 26 v515z ([rw512z, rw513z]), cRo Bs_44, cRo Bs_43, cRo Bs_41, cRo Bs_39, cRo Bs_38, cRo Bs_36, cRo Bs_34, cBlk b_33 [I r005, I r015] 35, cBlk b_32 [I r004, I r014] 35, cBlk b_31 [I r003, I r013] 35, cBlk b_30 [I r002, I r012] 35, cBlk b_29 [u0_25, u1_26, I r26, I r34] 26, cRo Bs_49, cRo Bs_42, cRo Bs3_28, cBlk nb0_8 [v_more, I s3, I s4] 101, cBlk b_18 [v_l2, u1_14, I r24, I r32] 26, cBlk b_17 [u0_9, v_l, I r23, I r3] 26, cRo Bs_35, cRo Bs_37, cRo Bs3_16, cOwn (α := Yr) 41 u0_9 r0, cOwn (α := Raw 3) 43 v_l rw_l, cRo B_l, cBlk b_7 [u0_2, u1_3, I r02, I r03] 26, cOwn (α := Yr) 41 u0_2 r00, cOwn (α := Raw 3) 43 u1_3 rr2_4, cRo Bs3_5, cOwn (α := Int) 3 u4_6 r12, cBlk nb0_1 [v_numbers, I q1, I q2] 101] R := H.back H2_ rfl
  clear H2_
  refine s_val (x_mv (v := .tuple #[.agg #[I r007, I r017], I r113]) rfl) ?_
  refine s_val (x_ext (vs := [.agg #[I r007, I r017], I r113]) (v := .agg #[I r007, I r017]) rfl rfl) ?_
  refine s_val (x_ext (vs := [.agg #[I r007, I r017], I r113]) (v := I r113) rfl rfl) ?_
  refine t_alloc (cs := [I 0, I 0]) H Al35 rfl ?_
  intro b_48 w547z H
  refine t_st (k := 0) (b := b_48) (off := 0) (cs := [I 0, I 0]) (vs := [I r007, I r017]) (cs' := [I r007, I r017]) (v := .agg #[I r007, I r017]) (L' := [cBlk b_48 [I r007, I r017] 35, cBlk b_47 [I r006, I r016] 35, cBlk b_46 [u530z, u531z, I ((([(⟨l2, r15, (r24 : Int), (r32 : Int)⟩ : Bk10), (⟨r06, r17, (r26 : Int), (r34 : Int)⟩ : Bk10)]).getD s5 default).first), I ((([(⟨l2, r15, (r24 : Int), (r32 : Int)⟩ : Bk10), (⟨r06, r17, (r26 : Int), (r34 : Int)⟩ : Bk10)]).getD s5 default).last)] 26, cOwn (α := Raw 3) 26 v515z ([rw512z, rw513z]), cRo Bs_44, cRo Bs_43, cRo Bs_41, cRo Bs_39, cRo Bs_38, cRo Bs_36, cRo Bs_34, cBlk b_33 [I r005, I r015] 35, cBlk b_32 [I r004, I r014] 35, cBlk b_31 [I r003, I r013] 35, cBlk b_30 [I r002, I r012] 35, cBlk b_29 [u0_25, u1_26, I r26, I r34] 26, cRo Bs_49, cRo Bs_42, cRo Bs3_28, cBlk nb0_8 [v_more, I s3, I s4] 101, cBlk b_18 [v_l2, u1_14, I r24, I r32] 26, cBlk b_17 [u0_9, v_l, I r23, I r3] 26, cRo Bs_35, cRo Bs_37, cRo Bs3_16, cOwn (α := Yr) 41 u0_9 r0, cOwn (α := Raw 3) 43 v_l rw_l, cRo B_l, cBlk b_7 [u0_2, u1_3, I r02, I r03] 26, cOwn (α := Yr) 41 u0_2 r00, cOwn (α := Raw 3) 43 u1_3 rr2_4, cRo Bs3_5, cOwn (α := Int) 3 u4_6 r12, cBlk nb0_1 [v_numbers, I q1, I q2] 101]) H rfl rfl rfl Sz35 rfl rfl rfl rfl rfl rfl ?_
  intro w548z H
  refine s_val (x_as (v := I r113) rfl) ?_
  refine s_nil ?_
  refine W.seq ?_
  refine W.region rfl ?_
  refine s_val (x_mv (v := I r112) rfl) ?_
  refine s_val (x_cmp (kd := .i64) (a := r112) (b := 0) (r := r112 != 0) rfl rfl rfl) ?_
  refine s_val (x_mv (v := B (r112 != 0)) rfl) ?_
  refine g_val (!(r112 != 0)) (gy_f rfl) (fun hg => x_mv (v := I r113) rfl) ?_
  refine g_val (!(r112 != 0)) (gy_f rfl) (fun hg => x_cmp (kd := .i64) (a := r113) (b := 0) (r := r113 != 0) (gd_of (c := !(r112 != 0)) hg (I r113)) rfl rfl) ?_
  refine s_val (x_por (b := r112 != 0) (r := r113 != 0) rfl rfl (fun hb => gd_of (c := !(r112 != 0)) (by first | exact hb | (rw [hb]; rfl) | simp_all) (B (r113 != 0)))) ?_
  refine s_val (x_mv (v := B ((r112 != 0) || (r113 != 0))) rfl) ?_
  refine g_val (!((r112 != 0) || (r113 != 0))) (gy_f rfl) (fun hg => x_fa (a := .pointer (some ⟨b_47, 0, none⟩)) (v := .pointer (some ⟨b_47, 0, none⟩)) rfl (fa_blk (o := 0) Fd35_0 Sz3)) ?_
  refine g_val (!((r112 != 0) || (r113 != 0))) (gy_f rfl) (fun hg => x_ld (p := .pointer (some ⟨b_47, 0, none⟩)) (v := I r006) (gd_of (c := !((r112 != 0) || (r113 != 0))) hg (.pointer (some ⟨b_47, 0, none⟩))) (ldb_sc Sc3 (H.blk (k := 1) rfl) rfl)) ?_
  refine g_val (!((r112 != 0) || (r113 != 0))) (gy_f rfl) (fun hg => x_fa (a := .pointer (some ⟨b_30, 0, none⟩)) (v := .pointer (some ⟨b_30, 0, none⟩)) rfl (fa_blk (o := 0) Fd35_0 Sz3)) ?_
  refine g_val (!((r112 != 0) || (r113 != 0))) (gy_f rfl) (fun hg => x_ld (p := .pointer (some ⟨b_30, 0, none⟩)) (v := I r002) (gd_of (c := !((r112 != 0) || (r113 != 0))) hg (.pointer (some ⟨b_30, 0, none⟩))) (ldb_sc Sc3 (H.blk (k := 14) rfl) rfl)) ?_
  refine g_val (!((r112 != 0) || (r113 != 0))) (gy_f rfl) (fun hg => x_cmp (kd := .i64) (a := r006) (b := r002) (r := decide (r002 < r006)) (gd_of (c := !((r112 != 0) || (r113 != 0))) hg (I r006)) (gd_of (c := !((r112 != 0) || (r113 != 0))) hg (I r002)) rfl) ?_
  refine s_val (x_por (b := ((r112 != 0) || (r113 != 0))) (r := decide (r002 < r006)) rfl rfl (fun hb => gd_of (c := !((r112 != 0) || (r113 != 0))) (by first | exact hb | (rw [hb]; rfl) | simp_all) (B (decide (r002 < r006))))) ?_
  refine s_val (x_mv (v := B (((r112 != 0) || (r113 != 0)) || (decide (r002 < r006)))) rfl) ?_
  refine g_val (!(((r112 != 0) || (r113 != 0)) || (decide (r002 < r006)))) (gy_f rfl) (fun hg => x_fa (a := .pointer (some ⟨b_47, 0, none⟩)) (v := .pointer (some ⟨b_47, 1, none⟩)) rfl (fa_blk (o := 0) Fd35_1 Sz3)) ?_
  refine g_val (!(((r112 != 0) || (r113 != 0)) || (decide (r002 < r006)))) (gy_f rfl) (fun hg => x_ld (p := .pointer (some ⟨b_47, 1, none⟩)) (v := I r016) (gd_of (c := !(((r112 != 0) || (r113 != 0)) || (decide (r002 < r006)))) hg (.pointer (some ⟨b_47, 1, none⟩))) (ldb_sc Sc3 (H.blk (k := 1) rfl) rfl)) ?_
  refine g_val (!(((r112 != 0) || (r113 != 0)) || (decide (r002 < r006)))) (gy_f rfl) (fun hg => x_fa (a := .pointer (some ⟨b_30, 0, none⟩)) (v := .pointer (some ⟨b_30, 1, none⟩)) rfl (fa_blk (o := 0) Fd35_1 Sz3)) ?_
  refine g_val (!(((r112 != 0) || (r113 != 0)) || (decide (r002 < r006)))) (gy_f rfl) (fun hg => x_ld (p := .pointer (some ⟨b_30, 1, none⟩)) (v := I r012) (gd_of (c := !(((r112 != 0) || (r113 != 0)) || (decide (r002 < r006)))) hg (.pointer (some ⟨b_30, 1, none⟩))) (ldb_sc Sc3 (H.blk (k := 14) rfl) rfl)) ?_
  refine g_val (!(((r112 != 0) || (r113 != 0)) || (decide (r002 < r006)))) (gy_f rfl) (fun hg => x_cmp (kd := .i64) (a := r016) (b := r012) (r := decide (r016 < r012)) (gd_of (c := !(((r112 != 0) || (r113 != 0)) || (decide (r002 < r006)))) hg (I r016)) (gd_of (c := !(((r112 != 0) || (r113 != 0)) || (decide (r002 < r006)))) hg (I r012)) rfl) ?_
  refine s_val (x_por (b := (((r112 != 0) || (r113 != 0)) || (decide (r002 < r006)))) (r := decide (r016 < r012)) rfl rfl (fun hb => gd_of (c := !(((r112 != 0) || (r113 != 0)) || (decide (r002 < r006)))) (by first | exact hb | (rw [hb]; rfl) | simp_all) (B (decide (r016 < r012))))) ?_
  refine s_val (x_mv (v := B ((((r112 != 0) || (r113 != 0)) || (decide (r002 < r006))) || (decide (r016 < r012)))) rfl) ?_
  refine g_val (!((((r112 != 0) || (r113 != 0)) || (decide (r002 < r006))) || (decide (r016 < r012)))) (gy_f rfl) (fun hg => x_fa (a := .pointer (some ⟨b_48, 0, none⟩)) (v := .pointer (some ⟨b_48, 0, none⟩)) rfl (fa_blk (o := 0) Fd35_0 Sz3)) ?_
  refine g_val (!((((r112 != 0) || (r113 != 0)) || (decide (r002 < r006))) || (decide (r016 < r012)))) (gy_f rfl) (fun hg => x_ld (p := .pointer (some ⟨b_48, 0, none⟩)) (v := I r007) (gd_of (c := !((((r112 != 0) || (r113 != 0)) || (decide (r002 < r006))) || (decide (r016 < r012)))) hg (.pointer (some ⟨b_48, 0, none⟩))) (ldb_sc Sc3 (H.blk (k := 0) rfl) rfl)) ?_
  refine g_val (!((((r112 != 0) || (r113 != 0)) || (decide (r002 < r006))) || (decide (r016 < r012)))) (gy_f rfl) (fun hg => x_fa (a := .pointer (some ⟨b_31, 0, none⟩)) (v := .pointer (some ⟨b_31, 0, none⟩)) rfl (fa_blk (o := 0) Fd35_0 Sz3)) ?_
  refine g_val (!((((r112 != 0) || (r113 != 0)) || (decide (r002 < r006))) || (decide (r016 < r012)))) (gy_f rfl) (fun hg => x_ld (p := .pointer (some ⟨b_31, 0, none⟩)) (v := I r003) (gd_of (c := !((((r112 != 0) || (r113 != 0)) || (decide (r002 < r006))) || (decide (r016 < r012)))) hg (.pointer (some ⟨b_31, 0, none⟩))) (ldb_sc Sc3 (H.blk (k := 13) rfl) rfl)) ?_
  refine g_val (!((((r112 != 0) || (r113 != 0)) || (decide (r002 < r006))) || (decide (r016 < r012)))) (gy_f rfl) (fun hg => x_cmp (kd := .i64) (a := r007) (b := r003) (r := decide (r003 < r007)) (gd_of (c := !((((r112 != 0) || (r113 != 0)) || (decide (r002 < r006))) || (decide (r016 < r012)))) hg (I r007)) (gd_of (c := !((((r112 != 0) || (r113 != 0)) || (decide (r002 < r006))) || (decide (r016 < r012)))) hg (I r003)) rfl) ?_
  refine s_val (x_por (b := ((((r112 != 0) || (r113 != 0)) || (decide (r002 < r006))) || (decide (r016 < r012)))) (r := decide (r003 < r007)) rfl rfl (fun hb => gd_of (c := !((((r112 != 0) || (r113 != 0)) || (decide (r002 < r006))) || (decide (r016 < r012)))) (by first | exact hb | (rw [hb]; rfl) | simp_all) (B (decide (r003 < r007))))) ?_
  refine s_val (x_mv (v := B (((((r112 != 0) || (r113 != 0)) || (decide (r002 < r006))) || (decide (r016 < r012))) || (decide (r003 < r007)))) rfl) ?_
  refine g_val (!(((((r112 != 0) || (r113 != 0)) || (decide (r002 < r006))) || (decide (r016 < r012))) || (decide (r003 < r007)))) (gy_f rfl) (fun hg => x_fa (a := .pointer (some ⟨b_48, 0, none⟩)) (v := .pointer (some ⟨b_48, 1, none⟩)) rfl (fa_blk (o := 0) Fd35_1 Sz3)) ?_
  refine g_val (!(((((r112 != 0) || (r113 != 0)) || (decide (r002 < r006))) || (decide (r016 < r012))) || (decide (r003 < r007)))) (gy_f rfl) (fun hg => x_ld (p := .pointer (some ⟨b_48, 1, none⟩)) (v := I r017) (gd_of (c := !(((((r112 != 0) || (r113 != 0)) || (decide (r002 < r006))) || (decide (r016 < r012))) || (decide (r003 < r007)))) hg (.pointer (some ⟨b_48, 1, none⟩))) (ldb_sc Sc3 (H.blk (k := 0) rfl) rfl)) ?_
  refine g_val (!(((((r112 != 0) || (r113 != 0)) || (decide (r002 < r006))) || (decide (r016 < r012))) || (decide (r003 < r007)))) (gy_f rfl) (fun hg => x_fa (a := .pointer (some ⟨b_31, 0, none⟩)) (v := .pointer (some ⟨b_31, 1, none⟩)) rfl (fa_blk (o := 0) Fd35_1 Sz3)) ?_
  refine g_val (!(((((r112 != 0) || (r113 != 0)) || (decide (r002 < r006))) || (decide (r016 < r012))) || (decide (r003 < r007)))) (gy_f rfl) (fun hg => x_ld (p := .pointer (some ⟨b_31, 1, none⟩)) (v := I r013) (gd_of (c := !(((((r112 != 0) || (r113 != 0)) || (decide (r002 < r006))) || (decide (r016 < r012))) || (decide (r003 < r007)))) hg (.pointer (some ⟨b_31, 1, none⟩))) (ldb_sc Sc3 (H.blk (k := 13) rfl) rfl)) ?_
  refine g_val (!(((((r112 != 0) || (r113 != 0)) || (decide (r002 < r006))) || (decide (r016 < r012))) || (decide (r003 < r007)))) (gy_f rfl) (fun hg => x_cmp (kd := .i64) (a := r017) (b := r013) (r := decide (r017 < r013)) (gd_of (c := !(((((r112 != 0) || (r113 != 0)) || (decide (r002 < r006))) || (decide (r016 < r012))) || (decide (r003 < r007)))) hg (I r017)) (gd_of (c := !(((((r112 != 0) || (r113 != 0)) || (decide (r002 < r006))) || (decide (r016 < r012))) || (decide (r003 < r007)))) hg (I r013)) rfl) ?_
  refine s_val (x_por (b := (((((r112 != 0) || (r113 != 0)) || (decide (r002 < r006))) || (decide (r016 < r012))) || (decide (r003 < r007)))) (r := decide (r017 < r013)) rfl rfl (fun hb => gd_of (c := !(((((r112 != 0) || (r113 != 0)) || (decide (r002 < r006))) || (decide (r016 < r012))) || (decide (r003 < r007)))) (by first | exact hb | (rw [hb]; rfl) | simp_all) (B (decide (r017 < r013))))) ?_
  refine s_nil ?_
  refine W.cond ((((((r112 != 0) || (r113 != 0)) || (decide (r002 < r006))) || (decide (r016 < r012))) || (decide (r003 < r007))) || (decide (r017 < r013))) rfl (fun c549z => ?_) (fun c549z => ?_)
  ·replace hM := M.e_t hM c549z
   refine W.seq ?_
   refine W.region rfl ?_
   refine s_val (x_as (v := B false) rfl) ?_
   refine s_nil ?_
   refine W.ret ?_
   have hX550z := M.e_inr hM hN527z
   subst hX550z
   replace hM := hk520z
   try dsimp only at hM
   have hr_ := M.e_pure hM
   exact ⟨_, resE_tmp rfl, ⟨false, hr_, rfl, (H.pick [] (by decide) rfl)⟩⟩
  replace hM := M.e_f hM c549z
  refine W.skip ?_
  refine W.region rfl ?_
  refine s_val (x_ari (a := (s5 : Int)) (b := 1) (r := (s5 : Int) + 1) rfl rfl rfl (by omega)) ?_
  refine s_val (x_mv (v := I ((s5 : Int) + 1)) rfl) ?_
  refine s_nil ?_
  exact ⟨m524z, lt525z, s5 + 1, _, upds_of _ _ ⟨rfl, rfl, rfl, rfl, rfl, rfl, rfl, rfl, trivial⟩, M.e_inl hM hN527z, (H.pick [3, 4, 5, 6, 7, 8, 9, 10, 11, 12, 13, 14, 15, 16, 17, 18, 19, 20, 21, 22, 23, 24, 25, 26, 27, 28, 29, 30, 31, 32, 33] (by decide) rfl)⟩
 replace hM := M.e_f hM c528z
 simp only [decide_eq_true_eq, decide_eq_false_iff_not, beq_iff_eq, bne_iff_ne, beq_eq_false_iff_ne, bne_eq_false_iff_eq, ne_eq, Decidable.not_not] at c528z
 refine W.exit ?_
 have hX551z := M.e_inr hM hN527z
 subst hX551z
 replace hM := hk520z
 try dsimp only at hM
 refine W.seq ?_
 refine W.region rfl ?_
 obtain ⟨r553z, hx552z, hM⟩ := M.e_bind hM
 refine s_call cf18 [] rfl (zb4 hx552z _ (St.give (T := [cOwn (α := Raw 3) 26 v515z ([rw512z, rw513z]), cRo Bs_44, cRo Bs_43, cRo Bs_41, cRo Bs_39, cRo Bs_38, cRo Bs_36, cRo Bs_34, cBlk b_33 [I r005, I r015] 35, cBlk b_32 [I r004, I r014] 35, cBlk b_31 [I r003, I r013] 35, cBlk b_30 [I r002, I r012] 35, cBlk b_29 [u0_25, u1_26, I r26, I r34] 26, cRo Bs_49, cRo Bs_42, cRo Bs3_28, cBlk nb0_8 [v_more, I s3, I s4] 101, cBlk b_18 [v_l2, u1_14, I r24, I r32] 26, cBlk b_17 [u0_9, v_l, I r23, I r3] 26, cRo Bs_35, cRo Bs_37, cRo Bs3_16, cOwn (α := Yr) 41 u0_9 r0, cOwn (α := Raw 3) 43 v_l rw_l, cRo B_l, cBlk b_7 [u0_2, u1_3, I r02, I r03] 26, cOwn (α := Yr) 41 u0_2 r00, cOwn (α := Raw 3) 43 u1_3 rr2_4, cRo Bs3_5, cOwn (α := Int) 3 u4_6 r12, cBlk nb0_1 [v_numbers, I q1, I q2] 101]) H rfl)) ?_
 rintro vq w554z ⟨r9, hr555z, hvq, H2_⟩
 subst hr555z
 subst vq
 try dsimp only at hM
 replace H : St w w554z [cOwn (α := Raw 3) 26 v515z ([rw512z, rw513z]), cRo Bs_44, cRo Bs_43, cRo Bs_41, cRo Bs_39, cRo Bs_38, cRo Bs_36, cRo Bs_34, cBlk b_33 [I r005, I r015] 35, cBlk b_32 [I r004, I r014] 35, cBlk b_31 [I r003, I r013] 35, cBlk b_30 [I r002, I r012] 35, cBlk b_29 [u0_25, u1_26, I r26, I r34] 26, cRo Bs_49, cRo Bs_42, cRo Bs3_28, cBlk nb0_8 [v_more, I s3, I s4] 101, cBlk b_18 [v_l2, u1_14, I r24, I r32] 26, cBlk b_17 [u0_9, v_l, I r23, I r3] 26, cRo Bs_35, cRo Bs_37, cRo Bs3_16, cOwn (α := Yr) 41 u0_9 r0, cOwn (α := Raw 3) 43 v_l rw_l, cRo B_l, cBlk b_7 [u0_2, u1_3, I r02, I r03] 26, cOwn (α := Yr) 41 u0_2 r00, cOwn (α := Raw 3) 43 u1_3 rr2_4, cRo Bs3_5, cOwn (α := Int) 3 u4_6 r12, cBlk nb0_1 [v_numbers, I q1, I q2] 101] R := H.back H2_ rfl
 clear H2_
 refine s_val (x_as (v := B r9) rfl) ?_
 refine s_nil ?_
 refine W.ret ?_
 have hr_ := M.e_pure hM
 exact ⟨_, resE_tmp rfl, ⟨r9, hr_, rfl, (H.pick [] (by decide) rfl)⟩⟩

end Go.Proofs.Ytcgalcbkkijkhaa
end
namespace Go.Nm
namespace Bk
/-- A span that lies in another one. -/
def Nar (a b : Span) : Prop := b.lo <= a.lo /\ a.hi <= b.hi
theorem Nar.refl (a : Span) : Nar a a := ⟨Int.le_refl _, Int.le_refl _⟩
theorem told_nar (y : Int) (s : Span) (o : Old10) : Nar (told y s o) s := by
  unfold told Nar
  split
  · split
    · dsimp only; omega
    · dsimp only; omega
  · exact ⟨Int.le_refl _, Int.le_refl _⟩
theorem told_mono (y : Int) {a b : Span} (h : Nar a b) (o : Old10) : Nar (told y a o) (told y b o) := by
  unfold told Nar at *
  split
  · split
    · dsimp only; omega
    · dsimp only; omega
  · exact h
theorem fold_mono (y : Int) : ∀ (os : List Old10) {a b : Span}, Nar a b -> Nar (os.foldl (told y) a) (os.foldl (told y) b)
  | [], _, _, h => h
  | o :: os, _, _, h => fold_mono y os (told_mono y h o)
theorem kn_more (ys : List Yr) (os : List Old10) (o : Old10) (y : Int) : Nar (kn ys (os ++ [o]) y) (kn ys os y) := by
  unfold kn
  rw [List.foldl_append]
  exact told_nar y _ o
theorem rec_cons (r : Yr) (ys : List Yr) (y : Int) : rec (r :: ys) y = if r.year = y then ⟨r.lo, r.hi⟩ else rec ys y := by
  unfold rec
  rw [List.find?_cons]
  by_cases h : r.year = y
  · rw [if_pos h, beq_iff_eq.2 h]
  · rw [if_neg h, beq_eq_false_iff_ne.2 h]
theorem rec_set (y : Int) : ∀ (ys : List Yr) (k : Nat) (r' : Yr), (∀ r, ys[k]? = some r -> r'.year = r.year /\ r'.lo <= r.lo /\ r.hi <= r'.hi) -> Nar (rec ys y) (rec (ys.set k r') y)
  | [], _, _, _ => Nar.refl _
  | r :: ys, 0, r', h => by
    obtain ⟨h1, h2, h3⟩ := h r rfl
    rw [List.set_cons_zero, rec_cons, rec_cons, h1]
    split
    · exact ⟨h2, h3⟩
    · exact Nar.refl _
  | r :: ys, k + 1, r', h => by
    rw [List.set_cons_succ, rec_cons, rec_cons]
    split
    · exact Nar.refl _
    · exact rec_set y ys k r' (fun q hq => h q (by simpa using hq))
theorem rec_drop {ys : List Yr} {f l : Int} (h : OkY f l ys) (y : Int) : Nar (rec ys y) (rec (ys.drop 1) y) := by
  cases ys with
  | nil => exact Nar.refl _
  | cons r ys =>
    rw [List.drop_one, List.tail_cons, rec_cons]
    split
    · rename_i e
      have hn : rec ys y = ⟨0, 2000⟩ := by
        unfold rec
        have : ys.find? (fun q => q.year == y) = none := by
          rw [List.find?_eq_none]
          intro q hq
          have := (List.pairwise_cons.1 h.up).1 q hq
          rw [beq_iff_eq]
          omega
        rw [this]
      rw [hn]
      have := h.in_ r (by simp)
      exact ⟨by dsimp only; omega, by dsimp only; omega⟩
    · exact Nar.refl _
theorem nar_many {ys ys' : List Yr} {os os' : List Old10} (h : ∀ y, Nar (kn ys' os' y) (kn ys os y)) (fr to st : Int) : many (lop st) ys os fr to <= many (lop st) ys' os' fr to /\ many (hip st) ys' os' fr to <= many (hip st) ys os fr to := by
  rw [many_lo, many_lo, many_hi, many_hi, los, los, his, his]
  have h1 := mapc (g := fun i : Nat => (kn ys os (fr + (i : Int))).lo) (h := fun i : Nat => (kn ys' os' (fr + (i : Int))).lo) (n := Int.toNat (to + 1 - fr)) (fun i _ => (h _).1) st
  have h2 := mapc (g := fun i : Nat => (kn ys' os' (fr + (i : Int))).hi) (h := fun i : Nat => (kn ys os (fr + (i : Int))).hi) (n := Int.toNat (to + 1 - fr)) (fun i _ => (h _).2) st
  omega
theorem Yt.drop {f l : Int} {t : List Int} {ys : List Yr} (h : Yt f l t ys) : Yt f l t (ys.drop 1) := ⟨fun r hr => h.in_ r (List.mem_of_mem_drop hr), h.up.sublist (List.drop_sublist _ _)⟩
theorem Yt.set {f l : Int} {t : List Int} {ys : List Yr} (h : Yt f l t ys) {k : Nat} (hk : k < ys.length) {r' : Yr} (h1 : r'.year = ys[k].year) (h2 : 0 <= r'.lo) (h3 : r'.lo <= ys[k].lo) (h4 : ys[k].hi <= r'.hi) (h5 : r'.hi <= 2000) : Yt f l t (ys.set k r') := by
  refine ⟨fun r hr => ?_, ?_⟩
  · rcases List.mem_or_eq_of_mem_set hr with hr | rfl
    · exact h.in_ r hr
    · have := h.in_ ys[k] (List.getElem_mem hk)
      rw [h1]
      omega
  · have e : (ys.set k r').map Yr.year = ys.map Yr.year := by
      rw [List.map_set, h1]
      have : (ys.map Yr.year)[k]'(by simpa using hk) = ys[k].year := by simp
      rw [← this]
      exact List.set_getElem_self _
    have hp : (ys.map Yr.year).Pairwise (· < ·) := List.pairwise_map.2 h.up
    rw [← e] at hp
    exact List.pairwise_map.1 hp
end Bk
end Go.Nm
namespace Go.Proofs.Ytcgalcbkkijkhaa
open Go Go.Nm
variable {ys ys2 ys3 : List Yr} {os : List Old10} {f l : Int} {t : List Int}
/-- What is told of a wider book is wider. -/
theorem more_one (h : Bk.Tr ys2 os f l t) (hw : ∀ y, Bk.Nar (Bk.kn ys os y) (Bk.kn ys2 os y)) {y st : Int} (h1 : f <= y) (h2 : y <= l) (hs : 0 <= st /\ st <= 2000) {k : Nat} :
    (M.bind (zae ys2 os f l f l st) fun (r006, r016, r112) => M.bind (zag ys2 os f l y) fun (r007, r017, r113) =>
      bif ((((((r112 != 0) || (r113 != 0)) || (decide (Bk.many (Bk.lop st) ys os f l < r006))) || (decide (r016 < Bk.many (Bk.hip st) ys os f l))) || (decide ((Bk.kn ys os y).lo < r007))) || (decide (r017 < (Bk.kn ys os y).hi))) then (
        M.pure (.inr (.inl ()) : Nat ⊕ (Unit ⊕ Unit))) else (M.pure (.inl (k + 1)))).Ends (.inl (k + 1)) := by
  have hW : Bk.In f l f l := ⟨Int.le_refl _, h.ok.fl, Int.le_refl _⟩
  have m := Bk.nar_many hw f l st
  have n := hw y
  unfold Bk.Nar at n
  refine M.i_bind (tr_passed h hW hs) (M.i_bind (tr_highest h h1 h2) ?_)
  dsimp only
  refine M.i_f ?_ M.i_pure
  rw [decide_eq_false (by omega), decide_eq_false (by omega), decide_eq_false (by omega), decide_eq_false (by omega)]
  rfl
theorem more_loop0 (h2 : Bk.Tr ys2 os f l t) (h3 : Bk.Tr (ys.drop 1) os f l t) (w2 : ∀ y, Bk.Nar (Bk.kn ys os y) (Bk.kn ys2 os y)) (w3 : ∀ y, Bk.Nar (Bk.kn ys os y) (Bk.kn (ys.drop 1) os y)) {r7 st : Int} (a1 : 0 <= r7) (a2 : f + r7 <= l) (hs : 0 <= st /\ st <= 2000) :
    (M.iter (zbd f l os f l ys2 ys os f l r7 st (Bk.many (Bk.lop st) ys os f l) (Bk.many (Bk.hip st) ys os f l) (Bk.kn ys os (f + r7)).lo (Bk.kn ys os (f + r7)).hi) 0).Ends (.inr ()) := by
  refine M.i_for (fun i => i) 2 (fun i hi => ?_) ?_
  · rcases (by omega : i = 0 ∨ i = 1) with rfl | rfl
    · exact M.i_t rfl (M.i_grd rfl (more_one h2 w2 (by omega) a2 hs))
    · exact M.i_t rfl (M.i_grd rfl (more_one h3 w3 (by omega) a2 hs))
  · exact M.i_f rfl M.i_pure
theorem more_loop1 (h2 : Bk.Tr ys2 os f l t) (h3 : Bk.Tr ys os f l t) (w2 : ∀ y, Bk.Nar (Bk.kn ys os y) (Bk.kn ys2 os y)) {r7 st : Int} (a1 : 0 <= r7) (a2 : f + r7 <= l) (hs : 0 <= st /\ st <= 2000) :
    (M.iter (zaT f l os f l ys2 ys os f l r7 st (Bk.many (Bk.lop st) ys os f l) (Bk.many (Bk.hip st) ys os f l) (Bk.kn ys os (f + r7)).lo (Bk.kn ys os (f + r7)).hi) 0).Ends (.inr ()) := by
  refine M.i_for (fun i => i) 2 (fun i hi => ?_) ?_
  · rcases (by omega : i = 0 ∨ i = 1) with rfl | rfl
    · exact M.i_t rfl (M.i_grd rfl (more_one h2 w2 (by omega) a2 hs))
    · exact M.i_t rfl (M.i_grd rfl (more_one h3 (fun _ => Bk.Nar.refl _) (by omega) a2 hs))
  · exact M.i_f rfl M.i_pure
theorem more_j2 {os1 : List Old10} (hS : Short ys os) (h : Bk.Tr ys os f l t) (h1 : Bk.Tr ys os1 f l t) (h2 : Bk.Tr ys2 os f l t) (h3 : Bk.Tr (ys.drop 1) os f l t) (w1 : ∀ y, Bk.Nar (Bk.kn ys os1 y) (Bk.kn ys os y)) (w2 : ∀ y, Bk.Nar (Bk.kn ys os y) (Bk.kn ys2 os y)) (a b u x : Int) :
    (zaz a b ys os f l t ys f l os f l os1 ys2 u x).Out (fun r => r = true) := by
  have hW : Bk.In f l f l := ⟨Int.le_refl _, h.ok.fl, Int.le_refl _⟩
  have hlen := h.len
  have hf0 := h.ok.f0
  have hl3 := h.ok.l3
  have hfl := h.ok.fl
  have hln := h.ok.ln
  unfold zaz
  refine M.o_bindE (copyB_ends hS) ?_
  dsimp only
  refine M.o_if (fun hb => ?_) (fun hb => ?_)
  · have hb := of_decide_eq_true hb
    refine M.o_grdD (by omega) (M.o_bind (pick_num (by omega)) fun r7 h7 => M.o_grd (gA2 (by omega) (by omega)) (M.o_bind (pick_num (by omega)) fun r8 h8 => ?_))
    have m := Bk.nar_many w1 f l r8
    have n := w1 (f + r7)
    unfold Bk.Nar at n
    refine M.o_bindE (tr_passed h hW (by omega)) (M.o_bindE (tr_highest h (y := f + r7) (by omega) (by omega)) (M.o_bindE (tr_passed h1 hW (by omega)) (M.o_bindE (tr_highest h1 (y := f + r7) (by omega) (by omega)) ?_)))
    dsimp only
    refine M.o_f ?_ (M.o_bindE (more_loop0 h2 h3 w2 (fun y => Bk.fold_mono y os (Bk.rec_drop h.ok.y y)) (by omega) (by omega) (by omega)) (M.o_bindE awake_ends (M.o_pure rfl)))
    rw [decide_eq_false (by omega), decide_eq_false (by omega), decide_eq_false (by omega), decide_eq_false (by omega)]
    rfl
  · refine M.o_bind (pick_num (by omega)) fun r7 h7 => M.o_grd (gA2 (by omega) (by omega)) (M.o_bind (pick_num (by omega)) fun r8 h8 => ?_)
    have m := Bk.nar_many w1 f l r8
    have n := w1 (f + r7)
    unfold Bk.Nar at n
    refine M.o_bindE (tr_passed h hW (by omega)) (M.o_bindE (tr_highest h (y := f + r7) (by omega) (by omega)) (M.o_bindE (tr_passed h1 hW (by omega)) (M.o_bindE (tr_highest h1 (y := f + r7) (by omega) (by omega)) ?_)))
    dsimp only
    refine M.o_f ?_ (M.o_bindE (more_loop1 h2 h w2 (by omega) (by omega) (by omega)) (M.o_bindE awake_ends (M.o_pure rfl)))
    rw [decide_eq_false (by omega), decide_eq_false (by omega), decide_eq_false (by omega), decide_eq_false (by omega)]
    rfl
theorem zcf (p q : List UInt8) (a b : Int) : (zbi p q a b).Ends true := by
  refine M.Out.ends ?_
  unfold zbi
  have hnew : ∀ p, (za1 p).Ends (0, 0) := fun p => M.i_pure
  refine M.o_bindE (hnew p) (M.o_bind (made_out SOk.zero (by omega) (by omega)) ?_)
  rintro ⟨ys, os, f, l, t, q1, q2⟩ ⟨hM, _⟩
  dsimp only at hM ⊢
  have h := hM.tr (by omega)
  have hlen := h.len
  have hf0 := hM.f0
  have hf2 := hM.f2
  have hfl := hM.fl
  have hnear := hM.near
  have hy60 := hM.y60
  have ho3 := hM.o3
  have hS : Short ys os := ⟨by omega, by omega, fun o ho => by have := (hM.o o ho).few; omega⟩
  refine M.o_bindE (hnew q) (M.o_bindE (copyB_ends hS) (M.o_bindE (copyB_ends hS) ?_))
  dsimp only
  unfold zbb
  refine M.o_t (decide_eq_true (by omega)) (M.o_bind (noted_out SOk.zero (by omega) ⟨hf0, hf2⟩ hfl (by omega) hlen hM.t6) ?_)
  rintro ⟨r05, r16, r25, r33, q12, q22⟩ ⟨hN, kS⟩
  dsimp only at hN kS ⊢
  refine M.o_grdD (by simp only [List.length_cons, List.length_nil]; omega) ?_
  have h1 : Bk.Tr ys (os ++ [⟨r05, r16, r25, r33⟩]) f l t := .of hf0 hfl (by omega) (by omega) hy60 (by rw [List.length_append, List.length_singleton]; omega) hlen h.all hM.y (fun o ho => by
    rcases List.mem_append.1 ho with ho | ho
    · exact hM.o o ho
    · rw [List.mem_singleton] at ho
      subst ho
      exact hN)
  have h3 : Bk.Tr (ys.drop 1) os f l t := .of hf0 hfl (by omega) (by omega) (by rw [List.length_drop]; omega) (by omega) hlen h.all hM.y.drop hM.o
  unfold zaP
  refine M.o_if (fun hb => ?_) (fun hb => ?_)
  · have hb := of_decide_eq_true hb
    refine M.o_bind (next_out kS (by omega) (by omega)) ?_
    rintro ⟨r4, u4, x4⟩ ⟨k4, g4, _⟩
    have g4 := g4 (by omega)
    dsimp only at k4 g4 ⊢
    obtain ⟨k, rfl⟩ := Int.eq_ofNat_of_zero_le g4.1
    have hk : k < ys.length := by omega
    have e : ys.getD (Int.toNat (k : Int)) default = ys[k] := by rw [Int.toNat_natCast, List.getD_eq_getElem?_getD, List.getElem?_eq_getElem hk, Option.getD_some]
    have hr := (hM.y.in_ ys[k] (List.getElem_mem hk)).1
    rw [e]
    refine M.o_grd (gA2 (by omega) (by omega)) (M.o_bind (next_out k4 (by omega) (by omega)) ?_)
    rintro ⟨r5, u5, x5⟩ ⟨k5, g5, _⟩
    have g5 := g5 (by omega)
    dsimp only at k5 g5 ⊢
    refine M.o_grd (gA2 (by omega) (by omega)) (M.o_bind (next_out k5 (by omega) (by omega)) ?_)
    rintro ⟨r6, u6, x6⟩ ⟨k6, g6, _⟩
    have g6 := g6 (by omega)
    dsimp only at k6 g6 ⊢
    have hY2 : Bk.Yt f l t (ys.set k { ys[k] with lo := max 0 (ys[k].lo - r5), hi := min 2000 (ys[k].hi + r6) }) := hM.y.set hk rfl (by dsimp only; omega) (by dsimp only; omega) (by dsimp only; omega) (by dsimp only; omega)
    have h2 : Bk.Tr (ys.set k { ys[k] with lo := max 0 (ys[k].lo - r5), hi := min 2000 (ys[k].hi + r6) }) os f l t := .of hf0 hfl (by omega) (by omega) (by rw [List.length_set]; exact hy60) (by omega) hlen h.all hY2 hM.o
    refine M.o_grd (gA2 (by omega) (by omega)) ?_
    rw [Int.toNat_natCast]
    exact more_j2 hS h h1 h2 h3 (fun y => Bk.kn_more ys os _ y) (fun y => Bk.fold_mono y os (Bk.rec_set y ys k _ (fun r hr' => by
      rw [List.getElem?_eq_getElem hk, Option.some.injEq] at hr'
      subst hr'
      exact ⟨rfl, by dsimp only; omega, by dsimp only; omega⟩))) a b _ _
  · exact more_j2 hS h h1 h h3 (fun y => Bk.kn_more ys os _ y) (fun _ => Bk.Nar.refl _) a b _ _
end Go.Proofs.Ytcgalcbkkijkhaa
