/- Part 7 of the texts on which the proof rests. Conditions: none. -/
import Derived.Test.YtbldmjejckjflaaGreatZA6
set_option linter.unusedVariables false
set_option linter.unusedSimpArgs false
set_option linter.unusedSectionVars false
namespace Go.Proofs.YtbldmjejckjflaaGreat
open Go Go.Nm
def a_nilometerlaw06_FloodSmall_j4 (n:Nat) (l:List Sect) (l2:List Mrk) (l3:List Rch) (s:Int) (s2:Int) (s3:Int) (s4:Int) (s5:Int) (l4:List (List Int)) (l5:List Int) (s6:Int) (s7:Int) (s8:Int) (s9:Int) (s10:Int) (s11:Int) (s12:Int):M (Nat ⊕ (Unit ⊕ Unit)) :=
  M.bind (M.opt (decide ((n:Int)<21)) (zaj l l2 l3 s s2 s3 s4 s5 l4) false) fun r4 =>
  M.grd ((!((!((decide ((n:Int)<21))&&(!r4)))&&((decide ((n:Int)<14))||(decide (20<(n:Int)))))||(decide ((0:Int)<=(n:Int))&&decide ((0:Int)<2)))) <|
  M.bind (M.opt ((!((decide ((n:Int)<21))&&(!r4)))&&((decide ((n:Int)<14))||(decide (20<(n:Int))))) (M.pure true) false) fun r5 =>
  bif (((decide ((n:Int)<21))&&(!r4))||(((decide ((n:Int)<14))||(decide (20<(n:Int))))&&(!r5))) then (
  M.pure (.inr (.inl ())))
  else (
  M.pure (.inl (n+1)))
set_option maxRecDepth 100000 in
theorem le_nilometerlaw06_FloodSmall_j4 (n:Nat) (l:List Sect) (l2:List Mrk) (l3:List Rch) (s:Int) (s2:Int) (s3:Int) (s4:Int) (s5:Int) (l4:List (List Int)) (l5:List Int) (s6:Int) (s7:Int) (s8:Int) (s9:Int) (s10:Int) (s11:Int) (s12:Int):M.Le (a_nilometerlaw06_FloodSmall_j4 n l l2 l3 s s2 s3 s4 s5 l4 l5 s6 s7 s8 s9 s10 s11 s12) (zcn n l l2 l3 s s2 s3 s4 s5 l4 l5 s6 s7 s8 s9 s10 s11 s12):=by
  unfold a_nilometerlaw06_FloodSmall_j4 zcn
  repeat' (first | with_reducible exact M.Le.same _ | with_reducible exact M.Le.of (zci ..) | (with_reducible refine M.Le.iter (fun x=>?_) _) | with_reducible refine M.Le.grd ?_ | with_reducible refine M.Le.ite ?_ ?_ | with_reducible refine M.Le.opt ?_ | with_reducible refine M.Le.bind ?_ (fun x=>?_) | split)
def a_nilometerlaw06_FloodSmall_b5 (s13:Nat)  : Nat->M (Nat ⊕ (Unit ⊕ Unit)):=zb6 a_nilometerlaw06_FloodSmall_j4 s13
set_option maxRecDepth 100000 in
theorem le_nilometerlaw06_FloodSmall_b5F {J J':Nat->List Sect->List Mrk->List Rch->Int->Int->Int->Int->Int->List (List Int)->List Int->Int->Int->Int->Int->Int->Int->Int->M (Nat ⊕ (Unit ⊕ Unit))} (h:∀ x0 x1 x2 x3 x4 x5 x6 x7 x8 x9 x10 x11 x12 x13 x14 x15 x16 x17,M.Le (J x0 x1 x2 x3 x4 x5 x6 x7 x8 x9 x10 x11 x12 x13 x14 x15 x16 x17) (J' x0 x1 x2 x3 x4 x5 x6 x7 x8 x9 x10 x11 x12 x13 x14 x15 x16 x17)) (s13:Nat)  : ∀ x,M.Le (zb6 J s13 x) (zb6 J' s13 x):=by
  intro x;unfold zb6
  repeat' (first | with_reducible exact M.Le.same _ | with_reducible apply h | with_reducible refine M.Le.grd ?_ | with_reducible refine M.Le.ite ?_ ?_ | with_reducible refine M.Le.opt ?_ | with_reducible refine M.Le.bind ?_ (fun x=>?_) | split)
theorem le_nilometerlaw06_FloodSmall_b5 (s13:Nat)  : ∀ x,M.Le (a_nilometerlaw06_FloodSmall_b5 s13 x) (zdI s13 x):=le_nilometerlaw06_FloodSmall_b5F le_nilometerlaw06_FloodSmall_j4 s13
def a_nilometerlaw06_FloodSmall_b6:Nat->M (Nat ⊕ (Unit ⊕ Unit)):=fun s13 =>
  bif decide ((s13:Int)<(vl34.length:Int)) then (
  M.grd (decide ((s13:Int)<(vl34.length:Int))) <|
  M.bind (M.iter (a_nilometerlaw06_FloodSmall_b5 s13) 0) fun x_=>match x_ with
  | (.inl (_:Unit))=>(
  M.pure (.inr (.inl ())))
  | (.inr (_:Unit))=>(
  M.pure (.inl (s13+1))))
  else (
  M.pure (.inr (.inr ())))
set_option maxRecDepth 100000 in
theorem le_nilometerlaw06_FloodSmall_b6  : ∀ x,M.Le (a_nilometerlaw06_FloodSmall_b6 x) (zcK x):=by
  intro x;unfold a_nilometerlaw06_FloodSmall_b6 zcK
  repeat' (first | with_reducible exact M.Le.same _ | with_reducible apply le_nilometerlaw06_FloodSmall_j4 | (with_reducible refine M.Le.iter (fun x=>?_) _; apply le_nilometerlaw06_FloodSmall_b5) | with_reducible apply le_nilometerlaw06_FloodSmall_b5 | with_reducible exact M.Le.of (zci ..) | (with_reducible refine M.Le.iter (fun x=>?_) _) | with_reducible refine M.Le.grd ?_ | with_reducible refine M.Le.ite ?_ ?_ | with_reducible refine M.Le.opt ?_ | with_reducible refine M.Le.bind ?_ (fun x=>?_) | split)
def a_nilometerlaw06_FloodSmall_b9:Nat->M (Nat ⊕ (Unit ⊕ Unit)):=fun n2 =>
  bif decide ((n2:Int)<3000) then (
  M.bind (zae ([]:List Mrk)) fun (r03,r13,r23) =>
  M.bind (M.iter (zdx n2) (0,[])) fun (l7,l8) =>
  M.grd (decide ((0:Int)<=(n2:Int))&&decide ((0:Int)<4)) <|
  M.grd (decide (0<=(n2:Int))&&decide ((n2:Int)<=(9223372036854775807:Int))&&decide ((0:Int)<2)) <|
  M.grd (decide ((0:Int)<=((n2:Int) / 2))&&decide ((0:Int)<4)) <|
  M.grd (decide ((0:Int)<=((n2:Int) / 3))&&decide ((0:Int)<4)) <|
  M.grd (decide ((0:Int)<=((n2:Int) / 4))&&decide ((0:Int)<4)) <|
  M.grd (decide ((0:Int)<=((n2:Int) / 5))&&decide ((0:Int)<4)) <|
  M.grd (decide ((0:Int)<=((n2:Int) / 7))&&decide ((0:Int)<4)) <|
  M.grd (decide ((-9223372036854775808:Int)<=(1+((n2:Int) % 3)))&&decide ((1+((n2:Int) % 3))<=(9223372036854775807:Int))) <|
  M.grd (decide ((0:Int)<=(1+((n2:Int) % 3)))&&decide ((1+((n2:Int) % 3))<=(([[((n2:Int) % 4:Int),(((n2:Int) / 2) % 4:Int)],[(((n2:Int) / 3) % 4:Int)],[(((n2:Int) / 4) % 4:Int),(((n2:Int) / 5) % 4:Int),(((n2:Int) / 7) % 4:Int)]]).length:Int))) <|
  M.bind (zaj r03 l8 r23 ((n2:Int) % 2) ((n2:Int) % 9) ((n2:Int) % 4) (((n2:Int) / 4) % 4) ((n2:Int) % 5) (([[((n2:Int) % 4:Int),(((n2:Int) / 2) % 4:Int)],[(((n2:Int) / 3) % 4:Int)],[(((n2:Int) / 4) % 4:Int),(((n2:Int) / 5) % 4:Int),(((n2:Int) / 7) % 4:Int)]]).take (Int.toNat (1+((n2:Int) % 3))))) fun r6 =>
  bif !r6 then (
  M.pure (.inr (.inl ())))
  else (
  bif decide (0<((n2:Int) % 6)) then (
  M.pure (.inl (n2+1)))
  else (
  M.grd (decide ((-9223372036854775808:Int)<=(5+((n2:Int) % 7)))&&decide ((5+((n2:Int) % 7))<=(9223372036854775807:Int))) <|
  M.grd (decide ((-9223372036854775808:Int)<=(6+((n2:Int) % 4)))&&decide ((6+((n2:Int) % 4))<=(9223372036854775807:Int))) <|
  M.grd (decide ((-9223372036854775808:Int)<=(40+((n2:Int) % 30)))&&decide ((40+((n2:Int) % 30))<=(9223372036854775807:Int))) <|
  M.grd (decide ((r03.length+([(⟨(150:Int),([(⟨((n2:Int) % 3:Int),(((n2:Int) / 3) % 4:Int)⟩:FRow),(⟨(4:Int),(5+((n2:Int) % 7):Int)⟩:FRow),(⟨(6+((n2:Int) % 4):Int),(40+((n2:Int) % 30):Int)⟩:FRow)])⟩:Sect)]).length)*32<=140737488355328)) <|
  M.grd (decide ((-9223372036854775808:Int)<=(1+((n2:Int) % 5)))&&decide ((1+((n2:Int) % 5))<=(9223372036854775807:Int))) <|
  M.grd (decide ((-9223372036854775808:Int)<=((1+((n2:Int) % 5))+((n2:Int) % 3)))&&decide (((1+((n2:Int) % 5))+((n2:Int) % 3))<=(9223372036854775807:Int))) <|
  M.grd (decide ((r23.length+([(⟨((n2:Int) % 2:Int),(2:Int),(1+((n2:Int) % 3):Int),((1+((n2:Int) % 5))+((n2:Int) % 3):Int),(((n2:Int) % 5)==0)⟩:Rch)]).length)*40<=140737488355328)) <|
  M.grd (decide ((-9223372036854775808:Int)<=(12+((n2:Int) % 4)))&&decide ((12+((n2:Int) % 4))<=(9223372036854775807:Int))) <|
  M.bind (zao 0 6 (12+((n2:Int) % 4))) fun (r05,r15,r25) =>
  M.bind (zao 150 ((n2:Int) % 3) 5) fun (r06,r16,r26) =>
  M.grd (decide ((l8.length+([(⟨(r05:Int),(r15:Int),(r25:Int)⟩:Mrk),(⟨(r06:Int),(r16:Int),(r26:Int)⟩:Mrk)]).length)*24<=140737488355328)) <|
  M.grd (decide ((-9223372036854775808:Int)<=(2+((n2:Int) % 2)))&&decide ((2+((n2:Int) % 2))<=(9223372036854775807:Int))) <|
  M.grd (decide ((-9223372036854775808:Int)<=(((n2:Int) % 40)+30))&&decide ((((n2:Int) % 40)+30)<=(9223372036854775807:Int))) <|
  M.bind (M.pure true) fun r7 =>
  M.grd ((!(!(!r7))||(decide ((-9223372036854775808:Int)<=(4+((n2:Int) % 2)))&&decide ((4+((n2:Int) % 2))<=(9223372036854775807:Int))))) <|
  M.bind (M.opt (!(!r7)) (M.pure true) false) fun r8 =>
  bif ((!r7)||(!r8)) then (
  M.pure (.inr (.inl ())))
  else (
  M.pure (.inl (n2+1))))))
  else (
  M.pure (.inr (.inr ())))
set_option maxRecDepth 100000 in
theorem le_nilometerlaw06_FloodSmall_b9  : ∀ x,M.Le (a_nilometerlaw06_FloodSmall_b9 x) (zcB x):=by
  intro x;unfold a_nilometerlaw06_FloodSmall_b9 zcB
  repeat' (first | with_reducible exact M.Le.same _ | with_reducible apply le_nilometerlaw06_FloodSmall_j4 | (with_reducible refine M.Le.iter (fun x=>?_) _; apply le_nilometerlaw06_FloodSmall_b5) | with_reducible apply le_nilometerlaw06_FloodSmall_b5 | (with_reducible refine M.Le.iter (fun x=>?_) _; apply le_nilometerlaw06_FloodSmall_b6) | with_reducible apply le_nilometerlaw06_FloodSmall_b6 | with_reducible exact M.Le.of (zci ..) | (with_reducible refine M.Le.iter (fun x=>?_) _) | with_reducible refine M.Le.grd ?_ | with_reducible refine M.Le.ite ?_ ?_ | with_reducible refine M.Le.opt ?_ | with_reducible refine M.Le.bind ?_ (fun x=>?_) | split)
def a_nilometerlaw06_FloodSmall_b16:Nat->M (Nat ⊕ (Unit ⊕ Unit)):=fun n3 =>
  bif decide ((n3:Int)<19) then (
  M.bind (zae ([]:List Mrk)) fun (r07,r17,r27) =>
  M.bind (zae ([]:List Mrk)) fun (r08,r18,r28) =>
  M.bind (zae ([]:List Mrk)) fun (r09,r19,r29) =>
  M.bind (zae ([]:List Mrk)) fun (r010,r110,r210) =>
  M.bind (M.iter (zdW n3) (0,[],[])) fun (l11,l12,l13,l14) =>
  M.bind (M.iter (zdc n3) (0,[])) fun (l16,l17) =>
  M.grd (decide (1<(([(⟨(0:Int),([(⟨(0:Int),(0:Int)⟩:FRow),(⟨(200:Int),(2000:Int)⟩:FRow)])⟩:Sect),(⟨(100:Int),([(⟨(0:Int),(0:Int)⟩:FRow),(⟨(200:Int),(2000:Int)⟩:FRow)])⟩:Sect)]).length:Int))) <|
  M.bind (M.iter (zdf n3) ([],0)) fun (l19,l20) =>
  M.grd (decide ((-9223372036854775808:Int)<=((n3:Int)-1))&&decide (((n3:Int)-1)<=(9223372036854775807:Int))) <|
  M.bind (zaj l14 r17 r27 ((n3:Int)-1) 100 0 1 2 ([]:List (List Int))) fun r9 =>
  M.bind (M.opt (!(!r9)) (M.pure true) false) fun r10 =>
  M.bind (M.opt (!((!r9)||(!r10))) (zaj r08 l17 r28 0 7 ((n3:Int)-1) 0 (n3:Int) ([[(0:Int)]])) false) fun r11 =>
  M.bind (M.opt (!(((!r9)||(!r10))||(!r11))) (M.pure true) false) fun r20 =>
  M.grd ((!(!((((!r9)||(!r10))||(!r11))||(!r20)))||(decide ((0:Int)<=(n3:Int))&&decide ((24:Int)*(n3:Int)<=281474976710656)&&decide ((n3:Int)<=(9223372036854775807:Int))))) <|
  M.bind (M.opt (!((((!r9)||(!r10))||(!r11))||(!r20))) (zaj ([(⟨(0:Int),([(⟨(0:Int),(0:Int)⟩:FRow),(⟨(200:Int),(2000:Int)⟩:FRow)])⟩:Sect),(⟨(100:Int),l20⟩:Sect)]) r110 r210 1 100 0 0 0 (List.replicate n3 ([]:List Int))) false) fun r21 =>
  M.bind (M.opt (!(((((!r9)||(!r10))||(!r11))||(!r20))||(!r21))) (M.pure true) false) fun r30 =>
  bif ((((((!r9)||(!r10))||(!r11))||(!r20))||(!r21))||(!r30)) then (
  M.pure (.inr (.inl ())))
  else (
  M.bind (zag l14 r17 r27) fun r31 =>
  M.bind (M.opt (!((r31==0) != ((decide (1<(n3:Int)))&&(decide ((n3:Int)<7))))) (zag r08 l17 r28) 0) fun r32 =>
  M.bind (M.opt (!(((r31==0) != ((decide (1<(n3:Int)))&&(decide ((n3:Int)<7))))||((r32==0) != ((decide (0<(n3:Int)))&&(decide ((n3:Int)<17)))))) (zag r09 r19 l13) 0) fun r33 =>
  M.bind (M.opt (!((((r31==0) != ((decide (1<(n3:Int)))&&(decide ((n3:Int)<7))))||((r32==0) != ((decide (0<(n3:Int)))&&(decide ((n3:Int)<17)))))||((r33==0) != ((decide (0<(n3:Int)))&&(decide ((n3:Int)<7)))))) (zag ([(⟨(0:Int),([(⟨(0:Int),(0:Int)⟩:FRow),(⟨(200:Int),(2000:Int)⟩:FRow)])⟩:Sect),(⟨(100:Int),l20⟩:Sect)]) r110 r210) 0) fun r34 =>
  bif (((((r31==0) != ((decide (1<(n3:Int)))&&(decide ((n3:Int)<7))))||((r32==0) != ((decide (0<(n3:Int)))&&(decide ((n3:Int)<17)))))||((r33==0) != ((decide (0<(n3:Int)))&&(decide ((n3:Int)<7)))))||((r34==0) != ((decide (1<(n3:Int)))&&(decide ((n3:Int)<9))))) then (
  M.pure (.inr (.inl ())))
  else (
  M.pure (.inl (n3+1)))))
  else (
  M.pure (.inr (.inr ())))
set_option maxRecDepth 100000 in
theorem le_nilometerlaw06_FloodSmall_b16  : ∀ x,M.Le (a_nilometerlaw06_FloodSmall_b16 x) (zcQ x):=by
  intro x;unfold a_nilometerlaw06_FloodSmall_b16 zcQ
  repeat' (first | with_reducible exact M.Le.same _ | with_reducible apply le_nilometerlaw06_FloodSmall_j4 | (with_reducible refine M.Le.iter (fun x=>?_) _; apply le_nilometerlaw06_FloodSmall_b5) | with_reducible apply le_nilometerlaw06_FloodSmall_b5 | (with_reducible refine M.Le.iter (fun x=>?_) _; apply le_nilometerlaw06_FloodSmall_b6) | with_reducible apply le_nilometerlaw06_FloodSmall_b6 | (with_reducible refine M.Le.iter (fun x=>?_) _; apply le_nilometerlaw06_FloodSmall_b9) | with_reducible apply le_nilometerlaw06_FloodSmall_b9 | with_reducible exact M.Le.of (zci ..) | (with_reducible refine M.Le.iter (fun x=>?_) _) | with_reducible refine M.Le.grd ?_ | with_reducible refine M.Le.ite ?_ ?_ | with_reducible refine M.Le.opt ?_ | with_reducible refine M.Le.bind ?_ (fun x=>?_) | split)
def a_nilometerlaw06_FloodSmall:M Bool :=
  M.bind (M.iter (a_nilometerlaw06_FloodSmall_b6) 0) fun x_=>match x_ with
  | (.inl (_:Unit))=>(
  M.pure false)
  | (.inr (_:Unit))=>(
  M.bind (M.iter (a_nilometerlaw06_FloodSmall_b9) 0) fun x_=>match x_ with
  | (.inl (_:Unit))=>(
  M.pure false)
  | (.inr (_:Unit))=>(
  M.bind (M.iter (a_nilometerlaw06_FloodSmall_b16) 0) fun x_=>match x_ with
  | (.inl (_:Unit))=>(
  M.pure false)
  | (.inr (_:Unit))=>(
  M.bind (zae ([]:List Mrk)) fun (r012,r112,r212) =>
  M.grd (decide (1<(r012.length:Int))) <|
  M.bind (M.iter (zdB) (r012.set 1 ({ (r012.getD 1 default) with place:=(1:Int) }),0)) fun (l22,l23) =>
  M.grd (decide (0<(r212.length:Int))) <|
  M.bind (zaL l23 r112 (r212.set 0 ({ (r212.getD 0 default) with lo:=1,hi:=400 })) 0 (⟨(2000:Int),(0:Int),(1:Int),(1:Int)⟩:Cas)) fun (r013,r113) =>
  M.bind (M.opt ((r113==0)&&(r013==447213595)) (zaj ([]:List Sect) ([]:List Mrk) ([]:List Rch) 0 0 0 0 0 ([]:List (List Int))) false) fun r35 =>
  M.bind (M.opt (((r113==0)&&(r013==447213595))&&r35) (M.pure true) false) fun r36 =>
  M.bind (M.opt ((((r113==0)&&(r013==447213595))&&r35)&&r36) (zam) false) fun r37 =>
  M.pure (((((r113==0)&&(r013==447213595))&&r35)&&r36)&&r37))))
set_option maxRecDepth 100000 in
theorem le_nilometerlaw06_FloodSmall  : M.Le (a_nilometerlaw06_FloodSmall) (zcH):=by
  unfold a_nilometerlaw06_FloodSmall zcH
  repeat' (first | with_reducible exact M.Le.same _ | with_reducible apply le_nilometerlaw06_FloodSmall_j4 | (with_reducible refine M.Le.iter (fun x=>?_) _; apply le_nilometerlaw06_FloodSmall_b5) | with_reducible apply le_nilometerlaw06_FloodSmall_b5 | (with_reducible refine M.Le.iter (fun x=>?_) _; apply le_nilometerlaw06_FloodSmall_b6) | with_reducible apply le_nilometerlaw06_FloodSmall_b6 | (with_reducible refine M.Le.iter (fun x=>?_) _; apply le_nilometerlaw06_FloodSmall_b9) | with_reducible apply le_nilometerlaw06_FloodSmall_b9 | (with_reducible refine M.Le.iter (fun x=>?_) _; apply le_nilometerlaw06_FloodSmall_b16) | with_reducible apply le_nilometerlaw06_FloodSmall_b16 | with_reducible exact M.Le.of (zci ..) | (with_reducible refine M.Le.iter (fun x=>?_) _) | with_reducible refine M.Le.grd ?_ | with_reducible refine M.Le.ite ?_ ?_ | with_reducible refine M.Le.opt ?_ | with_reducible refine M.Le.bind ?_ (fun x=>?_) | split)
end Go.Proofs.YtbldmjejckjflaaGreat
