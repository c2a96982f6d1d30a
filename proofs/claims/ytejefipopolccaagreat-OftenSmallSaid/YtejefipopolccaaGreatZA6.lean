/- Part 6 of the texts on which the proof rests. Conditions: none. -/
import Derived.Test.YtejefipopolccaaGreatZA5
set_option linter.unusedVariables false
set_option linter.unusedSimpArgs false
set_option linter.unusedSectionVars false
section
set_option maxRecDepth 100000
set_option maxHeartbeats 16000000
namespace Go.Proofs.YtejefipopolccaaGreat
open Go Go.Nm
attribute [local irreducible] gd execOp SL SLD SLT WR
def zaa (n:Nat) (l:List Pk) (s:Int) (s2:Int) (l2:List Int) (s3:Int) (l3:List Int) (s4:Int) (s5:Int) (l4:List Yr) (l5:List Old10) (l6:List Int) (s6:Int) (s7:Int) (s8:Int) (s9:Int) (s10:Int):M (Nat ⊕ (Unit ⊕ Unit)) :=
  M.bind (M.opt (decide ((n:Int)<11)) (zav l s s2 l2 s3 l3) false) fun r4 =>
  M.bind (M.opt ((!((decide ((n:Int)<11))&&(!r4)))&&((decide (10<(n:Int)))&&(decide ((n:Int)<23)))) (zan l4 l5 s4 s5 l6 s6) false) fun r5 =>
  M.grd ((!((!(((decide ((n:Int)<11))&&(!r4))||(((decide (10<(n:Int)))&&(decide ((n:Int)<23)))&&(!r5))))&&(((decide (10<(n:Int)))&&(decide ((n:Int)<20)))||(decide (22<(n:Int)))))||(decide ((0:Int)<=(n:Int))&&decide ((0:Int)<2)))) <|
  M.bind (M.opt ((!(((decide ((n:Int)<11))&&(!r4))||(((decide (10<(n:Int)))&&(decide ((n:Int)<23)))&&(!r5))))&&(((decide (10<(n:Int)))&&(decide ((n:Int)<20)))||(decide (22<(n:Int))))) (zal l4 l5 s4 s5 s7 s8 s9 s10 (((n:Int) % 2)==0)) false) fun r6 =>
  bif ((((decide ((n:Int)<11))&&(!r4))||(((decide (10<(n:Int)))&&(decide ((n:Int)<23)))&&(!r5)))||((((decide (10<(n:Int)))&&(decide ((n:Int)<20)))||(decide (22<(n:Int))))&&(!r6))) then (
  M.pure (.inr (.inl ())))
  else (
  M.pure (.inl (n+1)))
def zb6 (s11:Nat):Nat->M (Nat ⊕ (Unit ⊕ Unit)):=fun n =>
  bif decide ((n:Int)<27) then (
  M.bind (zaF) fun r2 =>
  M.bind (zdq) fun (r0,r1,r22,r3) =>
  M.grd (decide (0<(r2.length:Int))) <|
  M.grd (decide (1<(r2.length:Int))) <|
  M.grd (decide (3<(r2.length:Int))) <|
  M.grd (decide (0<(([(0:Int),(2:Int),(3:Int)]).length:Int))) <|
  M.grd (decide (1<(([(0:Int),(2:Int),(3:Int)]).length:Int))) <|
  M.grd (decide (2<(([(0:Int),(2:Int),(3:Int)]).length:Int))) <|
  M.grd (decide (0<(([(0:Int),(100:Int),(120:Int),(80:Int)]).length:Int))) <|
  M.grd (decide (2<(([(0:Int),(100:Int),(120:Int),(80:Int)]).length:Int))) <|
  M.grd (decide (0<(r0.length:Int))) <|
  M.grd (decide (1<(r0.length:Int))) <|
  M.grd (decide (0<(r1.length:Int))) <|
  M.grd (decide (0<(((r1.getD 0 default).passed).length:Int))) <|
  M.grd (decide (2<(([(0:Int),(499:Int),(500:Int),(3:Int),(4:Int),(400:Int),(250:Int),(0:Int),(2000:Int),(7:Int)]).length:Int))) <|
  M.grd (decide (5<(([(0:Int),(499:Int),(500:Int),(3:Int),(4:Int),(400:Int),(250:Int),(0:Int),(2000:Int),(7:Int)]).length:Int))) <|
  bif (n:Int)==0 then (
  M.grd (decide ((n:Int)<(27:Int))) <|
  zaa n (r2.set 0 ({ (r2.getD 0 default) with day:=(vl41).getD s11 0 })) 7 200 ([(0:Int),(2:Int),(3:Int)]) 300 ([(0:Int),(100:Int),(120:Int),(80:Int)]) r22 r3 r0 r1 ([(0:Int),(499:Int),(500:Int),(3:Int),(4:Int),(400:Int),(250:Int),(0:Int),(2000:Int),(7:Int)]) 1903 1900 1906 410 2)
  else (
  bif (n:Int)==1 then (
  M.grd (decide ((n:Int)<(27:Int))) <|
  zaa n (r2.set 1 ({ (r2.getD 1 default) with stage:=(vl41).getD s11 0 })) 7 200 ([(0:Int),(2:Int),(3:Int)]) 300 ([(0:Int),(100:Int),(120:Int),(80:Int)]) r22 r3 r0 r1 ([(0:Int),(499:Int),(500:Int),(3:Int),(4:Int),(400:Int),(250:Int),(0:Int),(2000:Int),(7:Int)]) 1903 1900 1906 410 2)
  else (
  bif (n:Int)==2 then (
  M.grd (decide ((n:Int)<(27:Int))) <|
  zaa n (r2.set 3 ({ (r2.getD 3 default) with day:=(vl41).getD s11 0 })) 7 200 ([(0:Int),(2:Int),(3:Int)]) 300 ([(0:Int),(100:Int),(120:Int),(80:Int)]) r22 r3 r0 r1 ([(0:Int),(499:Int),(500:Int),(3:Int),(4:Int),(400:Int),(250:Int),(0:Int),(2000:Int),(7:Int)]) 1903 1900 1906 410 2)
  else (
  bif (n:Int)==3 then (
  M.grd (decide ((n:Int)<(27:Int))) <|
  zaa n r2 ((vl41).getD s11 0) 200 ([(0:Int),(2:Int),(3:Int)]) 300 ([(0:Int),(100:Int),(120:Int),(80:Int)]) r22 r3 r0 r1 ([(0:Int),(499:Int),(500:Int),(3:Int),(4:Int),(400:Int),(250:Int),(0:Int),(2000:Int),(7:Int)]) 1903 1900 1906 410 2)
  else (
  bif (n:Int)==4 then (
  M.grd (decide ((n:Int)<(27:Int))) <|
  zaa n r2 7 ((vl41).getD s11 0) ([(0:Int),(2:Int),(3:Int)]) 300 ([(0:Int),(100:Int),(120:Int),(80:Int)]) r22 r3 r0 r1 ([(0:Int),(499:Int),(500:Int),(3:Int),(4:Int),(400:Int),(250:Int),(0:Int),(2000:Int),(7:Int)]) 1903 1900 1906 410 2)
  else (
  bif (n:Int)==5 then (
  M.grd (decide ((n:Int)<(27:Int))) <|
  zaa n r2 7 200 (([(0:Int),(2:Int),(3:Int)]).set 0 ((vl41).getD s11 0:Int)) 300 ([(0:Int),(100:Int),(120:Int),(80:Int)]) r22 r3 r0 r1 ([(0:Int),(499:Int),(500:Int),(3:Int),(4:Int),(400:Int),(250:Int),(0:Int),(2000:Int),(7:Int)]) 1903 1900 1906 410 2)
  else (
  bif (n:Int)==6 then (
  M.grd (decide ((n:Int)<(27:Int))) <|
  zaa n r2 7 200 (([(0:Int),(2:Int),(3:Int)]).set 1 ((vl41).getD s11 0:Int)) 300 ([(0:Int),(100:Int),(120:Int),(80:Int)]) r22 r3 r0 r1 ([(0:Int),(499:Int),(500:Int),(3:Int),(4:Int),(400:Int),(250:Int),(0:Int),(2000:Int),(7:Int)]) 1903 1900 1906 410 2)
  else (
  bif (n:Int)==7 then (
  M.grd (decide ((n:Int)<(27:Int))) <|
  zaa n r2 7 200 (([(0:Int),(2:Int),(3:Int)]).set 2 ((vl41).getD s11 0:Int)) 300 ([(0:Int),(100:Int),(120:Int),(80:Int)]) r22 r3 r0 r1 ([(0:Int),(499:Int),(500:Int),(3:Int),(4:Int),(400:Int),(250:Int),(0:Int),(2000:Int),(7:Int)]) 1903 1900 1906 410 2)
  else (
  bif (n:Int)==8 then (
  M.grd (decide ((n:Int)<(27:Int))) <|
  zaa n r2 7 200 ([(0:Int),(2:Int),(3:Int)]) ((vl41).getD s11 0) ([(0:Int),(100:Int),(120:Int),(80:Int)]) r22 r3 r0 r1 ([(0:Int),(499:Int),(500:Int),(3:Int),(4:Int),(400:Int),(250:Int),(0:Int),(2000:Int),(7:Int)]) 1903 1900 1906 410 2)
  else (
  bif (n:Int)==9 then (
  M.grd (decide ((n:Int)<(27:Int))) <|
  zaa n r2 7 200 ([(0:Int),(2:Int),(3:Int)]) 300 (([(0:Int),(100:Int),(120:Int),(80:Int)]).set 0 ((vl41).getD s11 0:Int)) r22 r3 r0 r1 ([(0:Int),(499:Int),(500:Int),(3:Int),(4:Int),(400:Int),(250:Int),(0:Int),(2000:Int),(7:Int)]) 1903 1900 1906 410 2)
  else (
  bif (n:Int)==10 then (
  M.grd (decide ((n:Int)<(27:Int))) <|
  zaa n r2 7 200 ([(0:Int),(2:Int),(3:Int)]) 300 (([(0:Int),(100:Int),(120:Int),(80:Int)]).set 2 ((vl41).getD s11 0:Int)) r22 r3 r0 r1 ([(0:Int),(499:Int),(500:Int),(3:Int),(4:Int),(400:Int),(250:Int),(0:Int),(2000:Int),(7:Int)]) 1903 1900 1906 410 2)
  else (
  bif (n:Int)==11 then (
  M.grd (decide ((n:Int)<(27:Int))) <|
  zaa n r2 7 200 ([(0:Int),(2:Int),(3:Int)]) 300 ([(0:Int),(100:Int),(120:Int),(80:Int)]) ((vl41).getD s11 0) r3 r0 r1 ([(0:Int),(499:Int),(500:Int),(3:Int),(4:Int),(400:Int),(250:Int),(0:Int),(2000:Int),(7:Int)]) 1903 1900 1906 410 2)
  else (
  bif (n:Int)==12 then (
  M.grd (decide ((n:Int)<(27:Int))) <|
  zaa n r2 7 200 ([(0:Int),(2:Int),(3:Int)]) 300 ([(0:Int),(100:Int),(120:Int),(80:Int)]) r22 ((vl41).getD s11 0) r0 r1 ([(0:Int),(499:Int),(500:Int),(3:Int),(4:Int),(400:Int),(250:Int),(0:Int),(2000:Int),(7:Int)]) 1903 1900 1906 410 2)
  else (
  bif (n:Int)==13 then (
  M.grd (decide ((n:Int)<(27:Int))) <|
  zaa n r2 7 200 ([(0:Int),(2:Int),(3:Int)]) 300 ([(0:Int),(100:Int),(120:Int),(80:Int)]) r22 r3 (r0.set 0 ({ (r0.getD 0 default) with year:=(vl41).getD s11 0 })) r1 ([(0:Int),(499:Int),(500:Int),(3:Int),(4:Int),(400:Int),(250:Int),(0:Int),(2000:Int),(7:Int)]) 1903 1900 1906 410 2)
  else (
  bif (n:Int)==14 then (
  M.grd (decide ((n:Int)<(27:Int))) <|
  zaa n r2 7 200 ([(0:Int),(2:Int),(3:Int)]) 300 ([(0:Int),(100:Int),(120:Int),(80:Int)]) r22 r3 (r0.set 0 ({ (r0.getD 0 default) with lo:=(vl41).getD s11 0 })) r1 ([(0:Int),(499:Int),(500:Int),(3:Int),(4:Int),(400:Int),(250:Int),(0:Int),(2000:Int),(7:Int)]) 1903 1900 1906 410 2)
  else (
  bif (n:Int)==15 then (
  M.grd (decide ((n:Int)<(27:Int))) <|
  zaa n r2 7 200 ([(0:Int),(2:Int),(3:Int)]) 300 ([(0:Int),(100:Int),(120:Int),(80:Int)]) r22 r3 (r0.set 1 ({ (r0.getD 1 default) with hi:=(vl41).getD s11 0 })) r1 ([(0:Int),(499:Int),(500:Int),(3:Int),(4:Int),(400:Int),(250:Int),(0:Int),(2000:Int),(7:Int)]) 1903 1900 1906 410 2)
  else (
  bif (n:Int)==16 then (
  M.grd (decide ((n:Int)<(27:Int))) <|
  zaa n r2 7 200 ([(0:Int),(2:Int),(3:Int)]) 300 ([(0:Int),(100:Int),(120:Int),(80:Int)]) r22 r3 r0 (r1.set 0 ({ (r1.getD 0 default) with src:=(vl41).getD s11 0 })) ([(0:Int),(499:Int),(500:Int),(3:Int),(4:Int),(400:Int),(250:Int),(0:Int),(2000:Int),(7:Int)]) 1903 1900 1906 410 2)
  else (
  bif (n:Int)==17 then (
  M.grd (decide ((n:Int)<(27:Int))) <|
  zaa n r2 7 200 ([(0:Int),(2:Int),(3:Int)]) 300 ([(0:Int),(100:Int),(120:Int),(80:Int)]) r22 r3 r0 (r1.set 0 ({ (r1.getD 0 default) with dst:=(vl41).getD s11 0 })) ([(0:Int),(499:Int),(500:Int),(3:Int),(4:Int),(400:Int),(250:Int),(0:Int),(2000:Int),(7:Int)]) 1903 1900 1906 410 2)
  else (
  bif (n:Int)==18 then (
  M.grd (decide ((n:Int)<(27:Int))) <|
  zaa n r2 7 200 ([(0:Int),(2:Int),(3:Int)]) 300 ([(0:Int),(100:Int),(120:Int),(80:Int)]) r22 r3 r0 (r1.set 0 ({ (r1.getD 0 default) with stage:=(vl41).getD s11 0 })) ([(0:Int),(499:Int),(500:Int),(3:Int),(4:Int),(400:Int),(250:Int),(0:Int),(2000:Int),(7:Int)]) 1903 1900 1906 410 2)
  else (
  bif (n:Int)==19 then (
  M.grd (decide ((n:Int)<(27:Int))) <|
  zaa n r2 7 200 ([(0:Int),(2:Int),(3:Int)]) 300 ([(0:Int),(100:Int),(120:Int),(80:Int)]) r22 r3 r0 (r1.set 0 { (r1.getD 0 default) with passed:=(r1.getD 0 default).passed.set 0 ((vl41).getD s11 0:Int) }) ([(0:Int),(499:Int),(500:Int),(3:Int),(4:Int),(400:Int),(250:Int),(0:Int),(2000:Int),(7:Int)]) 1903 1900 1906 410 2)
  else (
  bif (n:Int)==20 then (
  M.grd (decide ((n:Int)<(27:Int))) <|
  zaa n r2 7 200 ([(0:Int),(2:Int),(3:Int)]) 300 ([(0:Int),(100:Int),(120:Int),(80:Int)]) r22 r3 r0 r1 (([(0:Int),(499:Int),(500:Int),(3:Int),(4:Int),(400:Int),(250:Int),(0:Int),(2000:Int),(7:Int)]).set 2 ((vl41).getD s11 0:Int)) 1903 1900 1906 410 2)
  else (
  bif (n:Int)==21 then (
  M.grd (decide ((n:Int)<(27:Int))) <|
  zaa n r2 7 200 ([(0:Int),(2:Int),(3:Int)]) 300 ([(0:Int),(100:Int),(120:Int),(80:Int)]) r22 r3 r0 r1 (([(0:Int),(499:Int),(500:Int),(3:Int),(4:Int),(400:Int),(250:Int),(0:Int),(2000:Int),(7:Int)]).set 5 ((vl41).getD s11 0:Int)) 1903 1900 1906 410 2)
  else (
  bif (n:Int)==22 then (
  M.grd (decide ((n:Int)<(27:Int))) <|
  zaa n r2 7 200 ([(0:Int),(2:Int),(3:Int)]) 300 ([(0:Int),(100:Int),(120:Int),(80:Int)]) r22 r3 r0 r1 ([(0:Int),(499:Int),(500:Int),(3:Int),(4:Int),(400:Int),(250:Int),(0:Int),(2000:Int),(7:Int)]) ((vl41).getD s11 0) 1900 1906 410 2)
  else (
  bif (n:Int)==23 then (
  M.grd (decide ((n:Int)<(27:Int))) <|
  zaa n r2 7 200 ([(0:Int),(2:Int),(3:Int)]) 300 ([(0:Int),(100:Int),(120:Int),(80:Int)]) r22 r3 r0 r1 ([(0:Int),(499:Int),(500:Int),(3:Int),(4:Int),(400:Int),(250:Int),(0:Int),(2000:Int),(7:Int)]) 1903 ((vl41).getD s11 0) 1906 410 2)
  else (
  bif (n:Int)==24 then (
  M.grd (decide ((n:Int)<(27:Int))) <|
  zaa n r2 7 200 ([(0:Int),(2:Int),(3:Int)]) 300 ([(0:Int),(100:Int),(120:Int),(80:Int)]) r22 r3 r0 r1 ([(0:Int),(499:Int),(500:Int),(3:Int),(4:Int),(400:Int),(250:Int),(0:Int),(2000:Int),(7:Int)]) 1903 1900 ((vl41).getD s11 0) 410 2)
  else (
  bif (n:Int)==25 then (
  M.grd (decide ((n:Int)<(27:Int))) <|
  zaa n r2 7 200 ([(0:Int),(2:Int),(3:Int)]) 300 ([(0:Int),(100:Int),(120:Int),(80:Int)]) r22 r3 r0 r1 ([(0:Int),(499:Int),(500:Int),(3:Int),(4:Int),(400:Int),(250:Int),(0:Int),(2000:Int),(7:Int)]) 1903 1900 1906 ((vl41).getD s11 0) 2)
  else (
  bif (n:Int)==26 then (
  M.grd (decide ((n:Int)<(27:Int))) <|
  zaa n r2 7 200 ([(0:Int),(2:Int),(3:Int)]) 300 ([(0:Int),(100:Int),(120:Int),(80:Int)]) r22 r3 r0 r1 ([(0:Int),(499:Int),(500:Int),(3:Int),(4:Int),(400:Int),(250:Int),(0:Int),(2000:Int),(7:Int)]) 1903 1900 1906 410 ((vl41).getD s11 0))
  else (
  M.fail))))))))))))))))))))))))))))
  else (
  M.pure (.inr (.inr ())))
def zbI:Nat->M (Nat ⊕ (Unit ⊕ Unit)):=fun s11 =>
  bif decide ((s11:Int)<((vl41).length:Int)) then (
  M.grd (decide ((s11:Int)<((vl41).length:Int))) <|
  M.bind (M.iter (zb6 s11) 0) fun x_=>match x_ with
  | (.inl (_:Unit))=>(
  M.pure (.inr (.inl ())))
  | (.inr (_:Unit))=>(
  M.pure (.inl (s11+1))))
  else (
  M.pure (.inr (.inr ())))
def zbr (n2:Nat):(Int × Nat × (List Pk))->M ((Int × Nat × (List Pk)) ⊕ ((List Pk) × (List Pk))):=fun (day,i,l7) =>
  bif decide ((i:Int)<4) then (
  M.grd (decide ((-9223372036854775808:Int)<=(3*(i:Int)))&&decide ((3*(i:Int))<=(9223372036854775807:Int))) <|
  M.grd (decide ((-9223372036854775808:Int)<=((3*(i:Int))+1))&&decide (((3*(i:Int))+1)<=(9223372036854775807:Int))) <|
  M.grd (decide (0<=(n2:Int))&&decide ((n2:Int)<=(9223372036854775807:Int))&&decide ((0:Int)<((3*(i:Int))+1))) <|
  M.grd (decide ((0:Int)<=((n2:Int) / ((3*(i:Int))+1)))&&decide ((0:Int)<4)) <|
  M.grd (decide ((-9223372036854775808:Int)<=(1+(((n2:Int) / ((3*(i:Int))+1)) % 4)))&&decide ((1+(((n2:Int) / ((3*(i:Int))+1)) % 4))<=(9223372036854775807:Int))) <|
  M.grd (decide ((-9223372036854775808:Int)<=(day+(1+(((n2:Int) / ((3*(i:Int))+1)) % 4))))&&decide ((day+(1+(((n2:Int) / ((3*(i:Int))+1)) % 4)))<=(9223372036854775807:Int))) <|
  M.grd (decide ((-9223372036854775808:Int)<=(2*(i:Int)))&&decide ((2*(i:Int))<=(9223372036854775807:Int))) <|
  M.grd (decide ((-9223372036854775808:Int)<=((2*(i:Int))+1))&&decide (((2*(i:Int))+1)<=(9223372036854775807:Int))) <|
  M.grd (decide (0<=(n2:Int))&&decide ((n2:Int)<=(9223372036854775807:Int))&&decide ((0:Int)<((2*(i:Int))+1))) <|
  M.grd (decide ((0:Int)<=((n2:Int) / ((2*(i:Int))+1)))&&decide ((0:Int)<8)) <|
  M.grd (decide ((l7.length+([(⟨(day+(1+(((n2:Int) / ((3*(i:Int))+1)) % 4)):Int),(((n2:Int) / ((2*(i:Int))+1)) % 8:Int)⟩:Pk)]).length)*16<=140737488355328)) <|
  M.pure (.inl (day+(1+(((n2:Int) / ((3*(i:Int))+1)) % 4)),i+1,l7++([(⟨(day+(1+(((n2:Int) / ((3*(i:Int))+1)) % 4)):Int),(((n2:Int) / ((2*(i:Int))+1)) % 8:Int)⟩:Pk)]))))
  else (
  M.pure (.inr (l7,l7)))
def zcw:Nat->M (Nat ⊕ (Unit ⊕ Unit)):=fun n2 =>
  bif decide ((n2:Int)<3000) then (
  M.grd (decide ((0:Int)<=(n2:Int))&&decide ((0:Int)<2)) <|
  M.bind (M.iter (zbr n2) ((n2:Int) % 2,0,[])) fun (l8,l9) =>
  M.grd (decide (0<=(n2:Int))&&decide ((n2:Int)<=(9223372036854775807:Int))&&decide ((0:Int)<5)) <|
  M.grd (decide ((0:Int)<=((n2:Int) / 5))&&decide ((0:Int)<5)) <|
  M.grd (decide ((0:Int)<=((n2:Int) / 7))&&decide ((0:Int)<5)) <|
  M.grd (decide ((0:Int)<=((n2:Int) / 3))&&decide ((0:Int)<5)) <|
  M.grd (decide ((-9223372036854775808:Int)<=(1+((n2:Int) % 5)))&&decide ((1+((n2:Int) % 5))<=(9223372036854775807:Int))) <|
  M.grd (decide ((0:Int)<=((n2:Int) / 4))&&decide ((0:Int)<4)) <|
  M.grd (decide ((0:Int)<=((n2:Int) / 2))&&decide ((0:Int)<2)) <|
  M.grd (decide ((-9223372036854775808:Int)<=(2+(((n2:Int) / 2) % 2)))&&decide ((2+(((n2:Int) / 2) % 2))<=(9223372036854775807:Int))) <|
  M.grd (decide ((0:Int)<=((n2:Int) % 3))&&decide (((n2:Int) % 3)<=(([((n2:Int) % 2:Int),(2+(((n2:Int) / 2) % 2):Int)]).length:Int))) <|
  M.bind (zav l9 (1+((n2:Int) % 5)) (((n2:Int) / 4) % 4) (([((n2:Int) % 2:Int),(2+(((n2:Int) / 2) % 2):Int)]).take (Int.toNat ((n2:Int) % 3))) ((n2:Int) % 12) ([((n2:Int) % 5:Int),(((n2:Int) / 5) % 5:Int),(((n2:Int) / 7) % 5:Int),(((n2:Int) / 3) % 5:Int)])) fun r7 =>
  bif !r7 then (
  M.pure (.inr (.inl ())))
  else (
  bif decide (0<((n2:Int) % 4)) then (
  M.pure (.inl (n2+1)))
  else (
  M.grd (decide ((-9223372036854775808:Int)<=(5+((n2:Int) % 2)))&&decide ((5+((n2:Int) % 2))<=(9223372036854775807:Int))) <|
  M.grd (decide ((-9223372036854775808:Int)<=(7+(((n2:Int) / 3) % 2)))&&decide ((7+(((n2:Int) / 3) % 2))<=(9223372036854775807:Int))) <|
  M.grd (decide ((-9223372036854775808:Int)<=(3+((n2:Int) % 4)))&&decide ((3+((n2:Int) % 4))<=(9223372036854775807:Int))) <|
  M.grd (decide ((0:Int)<=(((n2:Int) / 5) % 3))&&decide ((((n2:Int) / 5) % 3)<=(([(6:Int),(7:Int)]).length:Int))) <|
  M.grd (decide ((-9223372036854775808:Int)<=(6+(((n2:Int) / 7) % 3)))&&decide ((6+(((n2:Int) / 7) % 3))<=(9223372036854775807:Int))) <|
  M.grd (decide ((-9223372036854775808:Int)<=(1+((n2:Int) % 7)))&&decide ((1+((n2:Int) % 7))<=(9223372036854775807:Int))) <|
  M.grd (decide ((-9223372036854775808:Int)<=(5+(((n2:Int) / 2) % 2)))&&decide ((5+(((n2:Int) / 2) % 2))<=(9223372036854775807:Int))) <|
  bif decide (0<((n2:Int) % 3)) then (
  M.grd (decide ((0:Int)<=((n2:Int) / 8))&&decide ((0:Int)<3)) <|
  M.grd (decide ((-9223372036854775808:Int)<=(5+(((n2:Int) / 8) % 3)))&&decide ((5+(((n2:Int) / 8) % 3))<=(9223372036854775807:Int))) <|
  M.grd (decide ((0:Int)<=((n2:Int) / 6))&&decide ((0:Int)<5)) <|
  M.grd (decide ((-9223372036854775808:Int)<=((((n2:Int) / 6) % 5)+((n2:Int) % 6)))&&decide (((((n2:Int) / 6) % 5)+((n2:Int) % 6))<=(9223372036854775807:Int))) <|
  M.grd (decide ((0:Int)<=((n2:Int) / 8))&&decide ((0:Int)<8)) <|
  M.grd (decide ((0:Int)<=((n2:Int) / 64))&&decide ((0:Int)<8)) <|
  M.grd (decide ((0:Int)<=((n2:Int) / 512))&&decide ((0:Int)<8)) <|
  M.grd (decide ((-9223372036854775808:Int)<=(5+((n2:Int) % 4)))&&decide ((5+((n2:Int) % 4))<=(9223372036854775807:Int))) <|
  M.bind (zan ([(⟨(5+(((n2:Int) / 8) % 3):Int),(((n2:Int) / 6) % 5:Int),((((n2:Int) / 6) % 5)+((n2:Int) % 6):Int)⟩:Yr)]) ([(⟨(5+((n2:Int) % 2):Int),(7+(((n2:Int) / 3) % 2):Int),(3+((n2:Int) % 4):Int),(([(6:Int),(7:Int)]).take (Int.toNat (((n2:Int) / 5) % 3)))⟩:Old10),(⟨(5:Int),(6+(((n2:Int) / 7) % 3):Int),(1+((n2:Int) % 7):Int),([(5+(((n2:Int) / 2) % 2):Int)])⟩:Old10)]) 5 8 ([((n2:Int) % 8:Int),(((n2:Int) / 8) % 8:Int),(((n2:Int) / 64) % 8:Int),(((n2:Int) / 512) % 8:Int)]) (5+((n2:Int) % 4))) fun r8 =>
  M.grd ((!(!(!r8))||(decide ((-9223372036854775808:Int)<=(5+((n2:Int) % 3)))&&decide ((5+((n2:Int) % 3))<=(9223372036854775807:Int))))) <|
  M.grd ((!(!(!r8))||(decide ((-9223372036854775808:Int)<=(6+(((n2:Int) / 3) % 3)))&&decide ((6+(((n2:Int) / 3) % 3))<=(9223372036854775807:Int))))) <|
  M.grd ((!(!(!r8))||(decide ((-9223372036854775808:Int)<=(1+((n2:Int) % 4)))&&decide ((1+((n2:Int) % 4))<=(9223372036854775807:Int))))) <|
  M.bind (M.opt (!(!r8)) (zal ([(⟨(5+(((n2:Int) / 8) % 3):Int),(((n2:Int) / 6) % 5:Int),((((n2:Int) / 6) % 5)+((n2:Int) % 6):Int)⟩:Yr)]) ([(⟨(5+((n2:Int) % 2):Int),(7+(((n2:Int) / 3) % 2):Int),(3+((n2:Int) % 4):Int),(([(6:Int),(7:Int)]).take (Int.toNat (((n2:Int) / 5) % 3)))⟩:Old10),(⟨(5:Int),(6+(((n2:Int) / 7) % 3):Int),(1+((n2:Int) % 7):Int),([(5+(((n2:Int) / 2) % 2):Int)])⟩:Old10)]) 5 8 (5+((n2:Int) % 3)) (6+(((n2:Int) / 3) % 3)) ((n2:Int) % 9) (1+((n2:Int) % 4)) (((n2:Int) % 8)==0)) false) fun r9 =>
  bif ((!r8)||(!r9)) then (
  M.pure (.inr (.inl ())))
  else (
  M.pure (.inl (n2+1))))
  else (
  M.grd (decide ((0:Int)<=((n2:Int) / 8))&&decide ((0:Int)<8)) <|
  M.grd (decide ((0:Int)<=((n2:Int) / 64))&&decide ((0:Int)<8)) <|
  M.grd (decide ((0:Int)<=((n2:Int) / 512))&&decide ((0:Int)<8)) <|
  M.grd (decide ((-9223372036854775808:Int)<=(5+((n2:Int) % 4)))&&decide ((5+((n2:Int) % 4))<=(9223372036854775807:Int))) <|
  M.bind (zan ([]:List Yr) ([(⟨(5+((n2:Int) % 2):Int),(7+(((n2:Int) / 3) % 2):Int),(3+((n2:Int) % 4):Int),(([(6:Int),(7:Int)]).take (Int.toNat (((n2:Int) / 5) % 3)))⟩:Old10),(⟨(5:Int),(6+(((n2:Int) / 7) % 3):Int),(1+((n2:Int) % 7):Int),([(5+(((n2:Int) / 2) % 2):Int)])⟩:Old10)]) 5 8 ([((n2:Int) % 8:Int),(((n2:Int) / 8) % 8:Int),(((n2:Int) / 64) % 8:Int),(((n2:Int) / 512) % 8:Int)]) (5+((n2:Int) % 4))) fun r8 =>
  M.grd ((!(!(!r8))||(decide ((-9223372036854775808:Int)<=(5+((n2:Int) % 3)))&&decide ((5+((n2:Int) % 3))<=(9223372036854775807:Int))))) <|
  M.grd ((!(!(!r8))||(decide ((-9223372036854775808:Int)<=(6+(((n2:Int) / 3) % 3)))&&decide ((6+(((n2:Int) / 3) % 3))<=(9223372036854775807:Int))))) <|
  M.grd ((!(!(!r8))||(decide ((-9223372036854775808:Int)<=(1+((n2:Int) % 4)))&&decide ((1+((n2:Int) % 4))<=(9223372036854775807:Int))))) <|
  M.bind (M.opt (!(!r8)) (zal ([]:List Yr) ([(⟨(5+((n2:Int) % 2):Int),(7+(((n2:Int) / 3) % 2):Int),(3+((n2:Int) % 4):Int),(([(6:Int),(7:Int)]).take (Int.toNat (((n2:Int) / 5) % 3)))⟩:Old10),(⟨(5:Int),(6+(((n2:Int) / 7) % 3):Int),(1+((n2:Int) % 7):Int),([(5+(((n2:Int) / 2) % 2):Int)])⟩:Old10)]) 5 8 (5+((n2:Int) % 3)) (6+(((n2:Int) / 3) % 3)) ((n2:Int) % 9) (1+((n2:Int) % 4)) (((n2:Int) % 8)==0)) false) fun r9 =>
  bif ((!r8)||(!r9)) then (
  M.pure (.inr (.inl ())))
  else (
  M.pure (.inl (n2+1)))))))
  else (
  M.pure (.inr (.inr ())))
def zby (s12:Nat):((List Old10) × Nat × (List Pk) × (List Int) × (List Yr) × (List Old10))->M (((List Old10) × Nat × (List Pk) × (List Int) × (List Yr) × (List Old10)) ⊕ ((List Pk) × (List Int) × (List Yr) × (List Old10) × (List Old10) × (List Int) × (List Pk) × (List Old10) × (List Yr) × (List Old10))):=fun (l14,i2,l10,l11,l12,l13) =>
  bif decide ((i2:Int)<((vl12).getD s12 0)) then (
  bif decide ((i2:Int)<45) then (
  M.grd (decide ((-9223372036854775808:Int)<=(3*(i2:Int)))&&decide ((3*(i2:Int))<=(9223372036854775807:Int))) <|
  M.grd (decide ((-9223372036854775808:Int)<=((i2:Int)*(i2:Int)))&&decide (((i2:Int)*(i2:Int))<=(9223372036854775807:Int))) <|
  M.grd (decide ((0:Int)<=((i2:Int)*(i2:Int)))&&decide ((0:Int)<2000)) <|
  M.grd (decide ((l10.length+([(⟨3*(i2:Int),(((i2:Int)*(i2:Int)) % 2000:Int)⟩:Pk)]).length)*16<=140737488355328)) <|
  M.grd (decide ((l11.length+([(i2:Int)]).length)*8<=140737488355328)) <|
  M.grd (decide ((-9223372036854775808:Int)<=(1800+(i2:Int)))&&decide ((1800+(i2:Int))<=(9223372036854775807:Int))) <|
  M.grd (decide ((-9223372036854775808:Int)<=(9*(i2:Int)))&&decide ((9*(i2:Int))<=(9223372036854775807:Int))) <|
  M.grd (decide ((l12.length+([(⟨1800+(i2:Int),(i2:Int),9*(i2:Int)⟩:Yr)]).length)*24<=140737488355328)) <|
  bif decide ((i2:Int)<10) then (
  M.grd (decide ((-9223372036854775808:Int)<=(10*((i2:Int)+1)))&&decide ((10*((i2:Int)+1))<=(9223372036854775807:Int))) <|
  M.grd (decide ((l13.length+([(⟨(i2:Int),(40:Int),(10*((i2:Int)+1):Int),([])⟩:Old10)]).length)*48<=140737488355328)) <|
  bif decide ((i2:Int)<12) then (
  M.grd (decide (0<(l14.length:Int))) <|
  M.grd (decide (((l14.getD 0 default).passed.length+([(i2:Int)]).length)*8<=140737488355328)) <|
  M.grd (decide ((-9223372036854775808:Int)<=((i2:Int)+1))&&decide (((i2:Int)+1)<=(9223372036854775807:Int))) <|
  M.pure (.inl (l14.set 0 ({ (l14.getD 0 default) with passed:=(l14.getD 0 default).passed++([(i2:Int)]) }),i2+1,l10++([(⟨3*(i2:Int),(((i2:Int)*(i2:Int)) % 2000:Int)⟩:Pk)]),l11++([(i2:Int)]),l12++([(⟨1800+(i2:Int),(i2:Int),9*(i2:Int)⟩:Yr)]),l13++([(⟨(i2:Int),(40:Int),(10*((i2:Int)+1):Int),([])⟩:Old10)]))))
  else (
  M.grd (decide ((-9223372036854775808:Int)<=((i2:Int)+1))&&decide (((i2:Int)+1)<=(9223372036854775807:Int))) <|
  M.pure (.inl (l14,i2+1,l10++([(⟨3*(i2:Int),(((i2:Int)*(i2:Int)) % 2000:Int)⟩:Pk)]),l11++([(i2:Int)]),l12++([(⟨1800+(i2:Int),(i2:Int),9*(i2:Int)⟩:Yr)]),l13++([(⟨(i2:Int),(40:Int),(10*((i2:Int)+1):Int),([])⟩:Old10)])))))
  else (
  bif decide ((i2:Int)<12) then (
  M.grd (decide (0<(l14.length:Int))) <|
  M.grd (decide (((l14.getD 0 default).passed.length+([(i2:Int)]).length)*8<=140737488355328)) <|
  M.grd (decide ((-9223372036854775808:Int)<=((i2:Int)+1))&&decide (((i2:Int)+1)<=(9223372036854775807:Int))) <|
  M.pure (.inl (l14.set 0 ({ (l14.getD 0 default) with passed:=(l14.getD 0 default).passed++([(i2:Int)]) }),i2+1,l10++([(⟨3*(i2:Int),(((i2:Int)*(i2:Int)) % 2000:Int)⟩:Pk)]),l11++([(i2:Int)]),l12++([(⟨1800+(i2:Int),(i2:Int),9*(i2:Int)⟩:Yr)]),l13)))
  else (
  M.grd (decide ((-9223372036854775808:Int)<=((i2:Int)+1))&&decide (((i2:Int)+1)<=(9223372036854775807:Int))) <|
  M.pure (.inl (l14,i2+1,l10++([(⟨3*(i2:Int),(((i2:Int)*(i2:Int)) % 2000:Int)⟩:Pk)]),l11++([(i2:Int)]),l12++([(⟨1800+(i2:Int),(i2:Int),9*(i2:Int)⟩:Yr)]),l13)))))
  else (
  M.grd (decide ((-9223372036854775808:Int)<=(1800+(i2:Int)))&&decide ((1800+(i2:Int))<=(9223372036854775807:Int))) <|
  M.grd (decide ((-9223372036854775808:Int)<=(9*(i2:Int)))&&decide ((9*(i2:Int))<=(9223372036854775807:Int))) <|
  M.grd (decide ((l12.length+([(⟨1800+(i2:Int),(i2:Int),9*(i2:Int)⟩:Yr)]).length)*24<=140737488355328)) <|
  bif decide ((i2:Int)<10) then (
  M.grd (decide ((-9223372036854775808:Int)<=(10*((i2:Int)+1)))&&decide ((10*((i2:Int)+1))<=(9223372036854775807:Int))) <|
  M.grd (decide ((l13.length+([(⟨(i2:Int),(40:Int),(10*((i2:Int)+1):Int),([])⟩:Old10)]).length)*48<=140737488355328)) <|
  bif decide ((i2:Int)<12) then (
  M.grd (decide (0<(l14.length:Int))) <|
  M.grd (decide (((l14.getD 0 default).passed.length+([(i2:Int)]).length)*8<=140737488355328)) <|
  M.grd (decide ((-9223372036854775808:Int)<=((i2:Int)+1))&&decide (((i2:Int)+1)<=(9223372036854775807:Int))) <|
  M.pure (.inl (l14.set 0 ({ (l14.getD 0 default) with passed:=(l14.getD 0 default).passed++([(i2:Int)]) }),i2+1,l10,l11,l12++([(⟨1800+(i2:Int),(i2:Int),9*(i2:Int)⟩:Yr)]),l13++([(⟨(i2:Int),(40:Int),(10*((i2:Int)+1):Int),([])⟩:Old10)]))))
  else (
  M.grd (decide ((-9223372036854775808:Int)<=((i2:Int)+1))&&decide (((i2:Int)+1)<=(9223372036854775807:Int))) <|
  M.pure (.inl (l14,i2+1,l10,l11,l12++([(⟨1800+(i2:Int),(i2:Int),9*(i2:Int)⟩:Yr)]),l13++([(⟨(i2:Int),(40:Int),(10*((i2:Int)+1):Int),([])⟩:Old10)])))))
  else (
  bif decide ((i2:Int)<12) then (
  M.grd (decide (0<(l14.length:Int))) <|
  M.grd (decide (((l14.getD 0 default).passed.length+([(i2:Int)]).length)*8<=140737488355328)) <|
  M.grd (decide ((-9223372036854775808:Int)<=((i2:Int)+1))&&decide (((i2:Int)+1)<=(9223372036854775807:Int))) <|
  M.pure (.inl (l14.set 0 ({ (l14.getD 0 default) with passed:=(l14.getD 0 default).passed++([(i2:Int)]) }),i2+1,l10,l11,l12++([(⟨1800+(i2:Int),(i2:Int),9*(i2:Int)⟩:Yr)]),l13)))
  else (
  M.grd (decide ((-9223372036854775808:Int)<=((i2:Int)+1))&&decide (((i2:Int)+1)<=(9223372036854775807:Int))) <|
  M.pure (.inl (l14,i2+1,l10,l11,l12++([(⟨1800+(i2:Int),(i2:Int),9*(i2:Int)⟩:Yr)]),l13))))))
  else (
  M.pure (.inr (l10,l11,l12,l13,l14,l11,l10,l13,l12,l14)))
def zca:Nat->M (Nat ⊕ (Unit ⊕ Unit)):=fun s12 =>
  bif decide ((s12:Int)<((vl12).length:Int)) then (
  M.grd (decide ((s12:Int)<((vl12).length:Int))) <|
  M.bind (M.iter (zby s12) ([(⟨(0:Int),(20:Int),(7:Int),([])⟩:Old10)],0,[],[],[],[])) fun (l15,l16,l17,l18,l19,l20,l21,l22,l23,l24) =>
  M.bind (zav l21 7 5 l20 3000 l20) fun r10 =>
  M.bind (M.opt (!(!r10)) (zan ([]:List Yr) l22 0 40 (List.replicate 41 (0:Int)) 3) false) fun r11 =>
  M.bind (M.opt (!((!r10)||(!r11))) (zal ([]:List Yr) l22 0 40 0 40 50 5 true) false) fun r12 =>
  M.bind (M.opt (!(((!r10)||(!r11))||(!r12))) (zan ([]:List Yr) l24 0 20 (List.replicate 21 (0:Int)) 9) false) fun r13 =>
  M.bind (M.opt (!((((!r10)||(!r11))||(!r12))||(!r13))) (zal ([]:List Yr) l24 0 20 3 20 7 4 false) false) fun r14 =>
  bif (((((!r10)||(!r11))||(!r12))||(!r13))||(!r14)) then (
  M.pure (.inr (.inl ())))
  else (
  M.bind (zaY l21) fun r15 =>
  M.bind (M.opt (!((r15==0) != (decide (((vl12).getD s12 0)<41)))) (zam l23 ([]:List Old10) 1800 2799) 0) fun r16 =>
  M.bind (M.opt (!(((r15==0) != (decide (((vl12).getD s12 0)<41)))||((r16==0) != (decide (((vl12).getD s12 0)<61))))) (zam ([]:List Yr) l22 0 40) 0) fun r17 =>
  M.bind (M.opt (!((((r15==0) != (decide (((vl12).getD s12 0)<41)))||((r16==0) != (decide (((vl12).getD s12 0)<61))))||((r17==0) != (decide (((vl12).getD s12 0)<9))))) (zam ([]:List Yr) l24 0 20) 0) fun r18 =>
  bif (((((r15==0) != (decide (((vl12).getD s12 0)<41)))||((r16==0) != (decide (((vl12).getD s12 0)<61))))||((r17==0) != (decide (((vl12).getD s12 0)<9))))||((r18==0) != (decide (((vl12).getD s12 0)<11)))) then (
  M.pure (.inr (.inl ())))
  else (
  M.pure (.inl (s12+1)))))
  else (
  M.pure (.inr (.inr ())))
def zcO:M Bool :=
  M.bind (M.iter (zbI) 0) fun x_=>match x_ with
  | (.inl (_:Unit))=>(
  M.pure false)
  | (.inr (_:Unit))=>(
  M.bind (M.iter (zcw) 0) fun x_=>match x_ with
  | (.inl (_:Unit))=>(
  M.pure false)
  | (.inr (_:Unit))=>(
  M.bind (M.iter (zca) 0) fun x_=>match x_ with
  | (.inl (_:Unit))=>(
  M.pure false)
  | (.inr (_:Unit))=>(
  M.bind (zak ([]:List Yr) ([(⟨(2001:Int),(2999:Int),(1000:Int),([(2500:Int)])⟩:Old10)]) 2001 3000 2001 3000 1000) fun (r00,r01,r19) =>
  M.bind (zaI ([]:List Yr) ([(⟨(2001:Int),(2999:Int),(1000:Int),([(2500:Int)])⟩:Old10)]) 2001 3000 2001 3000 1000 true) fun (r02,r110) =>
  M.bind (zaM ([]:List Yr) ([(⟨(2001:Int),(2999:Int),(1000:Int),([(2500:Int)])⟩:Old10)]) 2001 3000 1000) fun (r002,r012,r102,r112,r23) =>
  M.bind (zap ([]:List Yr) ([(⟨(2001:Int),(2999:Int),(1000:Int),([(2500:Int)])⟩:Old10)]) 2001 3000 2001 3000 1000) fun (r003,r013,r111) =>
  M.bind (M.opt (((((((((r19==0)&&(r110==0))&&(r23==0))&&(r111==0))&&(decide ((⟨(r00:Int),(r01:Int)⟩:Span)=(⟨(1:Int),(2:Int)⟩:Span))))&&((r02.length:Int)==1000))&&(decide ((⟨(r002:Int),(r012:Int)⟩:Rto)=(⟨(1:Int),(1000:Int)⟩:Rto))))&&(decide ((⟨(r102:Int),(r112:Int)⟩:Rto)=(⟨(1:Int),(500:Int)⟩:Rto))))&&(decide ((⟨(r003:Int),(r013:Int)⟩:Span)=(⟨(0:Int),(999:Int)⟩:Span)))) (zam ([]:List Yr) ([(⟨(2001:Int),(2999:Int),(1000:Int),([(2500:Int)])⟩:Old10)]) 2000 3000) 0) fun r20 =>
  M.bind (M.opt ((((((((((r19==0)&&(r110==0))&&(r23==0))&&(r111==0))&&(decide ((⟨(r00:Int),(r01:Int)⟩:Span)=(⟨(1:Int),(2:Int)⟩:Span))))&&((r02.length:Int)==1000))&&(decide ((⟨(r002:Int),(r012:Int)⟩:Rto)=(⟨(1:Int),(1000:Int)⟩:Rto))))&&(decide ((⟨(r102:Int),(r112:Int)⟩:Rto)=(⟨(1:Int),(500:Int)⟩:Rto))))&&(decide ((⟨(r003:Int),(r013:Int)⟩:Span)=(⟨(0:Int),(999:Int)⟩:Span))))&&(r20==110)) (zav ([]:List Pk) 1 0 ([]:List Int) 0 ([]:List Int)) false) fun r21 =>
  M.bind (M.opt (((((((((((r19==0)&&(r110==0))&&(r23==0))&&(r111==0))&&(decide ((⟨(r00:Int),(r01:Int)⟩:Span)=(⟨(1:Int),(2:Int)⟩:Span))))&&((r02.length:Int)==1000))&&(decide ((⟨(r002:Int),(r012:Int)⟩:Rto)=(⟨(1:Int),(1000:Int)⟩:Rto))))&&(decide ((⟨(r102:Int),(r112:Int)⟩:Rto)=(⟨(1:Int),(500:Int)⟩:Rto))))&&(decide ((⟨(r003:Int),(r013:Int)⟩:Span)=(⟨(0:Int),(999:Int)⟩:Span))))&&(r20==110))&&r21) (zan ([]:List Yr) ([]:List Old10) 0 0 ([]:List Int) 0) false) fun r24 =>
  M.bind (M.opt ((((((((((((r19==0)&&(r110==0))&&(r23==0))&&(r111==0))&&(decide ((⟨(r00:Int),(r01:Int)⟩:Span)=(⟨(1:Int),(2:Int)⟩:Span))))&&((r02.length:Int)==1000))&&(decide ((⟨(r002:Int),(r012:Int)⟩:Rto)=(⟨(1:Int),(1000:Int)⟩:Rto))))&&(decide ((⟨(r102:Int),(r112:Int)⟩:Rto)=(⟨(1:Int),(500:Int)⟩:Rto))))&&(decide ((⟨(r003:Int),(r013:Int)⟩:Span)=(⟨(0:Int),(999:Int)⟩:Span))))&&(r20==110))&&r21)&&r24) (zal ([]:List Yr) ([]:List Old10) 0 0 0 0 0 0 true) false) fun r25 =>
  M.bind (M.opt (((((((((((((r19==0)&&(r110==0))&&(r23==0))&&(r111==0))&&(decide ((⟨(r00:Int),(r01:Int)⟩:Span)=(⟨(1:Int),(2:Int)⟩:Span))))&&((r02.length:Int)==1000))&&(decide ((⟨(r002:Int),(r012:Int)⟩:Rto)=(⟨(1:Int),(1000:Int)⟩:Rto))))&&(decide ((⟨(r102:Int),(r112:Int)⟩:Rto)=(⟨(1:Int),(500:Int)⟩:Rto))))&&(decide ((⟨(r003:Int),(r013:Int)⟩:Span)=(⟨(0:Int),(999:Int)⟩:Span))))&&(r20==110))&&r21)&&r24)&&r25) (zag) false) fun r26 =>
  M.pure ((((((((((((((r19==0)&&(r110==0))&&(r23==0))&&(r111==0))&&(decide ((⟨(r00:Int),(r01:Int)⟩:Span)=(⟨(1:Int),(2:Int)⟩:Span))))&&((r02.length:Int)==1000))&&(decide ((⟨(r002:Int),(r012:Int)⟩:Rto)=(⟨(1:Int),(1000:Int)⟩:Rto))))&&(decide ((⟨(r102:Int),(r112:Int)⟩:Rto)=(⟨(1:Int),(500:Int)⟩:Rto))))&&(decide ((⟨(r003:Int),(r013:Int)⟩:Span)=(⟨(0:Int),(999:Int)⟩:Span))))&&(r20==110))&&r21)&&r24)&&r25)&&r26))))
theorem zek {R:List Chunk}    {r:Bool} (hM:(zcO).Ends r) (w:World) (H:St w w [] R):Ret Tryz.prog 3 #[] w fun v w'=>∃ (y0:Bool),y0=r/\v=B y0/\St w w' [] R:=by
 refine ret_of_W Tryz.func3 rfl rfl rfl ?_
 refine kg 7 ?_
 refine t_bs (α:=Int) T22 (I (-1) :: I 0 :: I 1 :: I 2 :: I 3 :: I 4 :: I 6 :: I 7 :: I 9 :: I 10 :: I 11 :: I 14 :: I 59 :: I 60 :: I 61 :: I 199 :: I 200 :: I 300 :: I 301 :: I 349 :: I 400 :: I 410 :: I 420 :: I 500 :: I 1899 :: I 1900 :: I 1902 :: I 1905 :: I 1906 :: I 1909 :: I 1910 :: I 2000 :: I 2001 :: I 2899 :: I 2900 :: I 3000 :: I 3001 :: I 4000 :: I 4001 :: I 9223372036854775807 :: I (-9223372036854775808) :: []) vl41 H rfl (.cons rfl (Flat.rep_enc _ (-1:Int))<|.cons rfl (Flat.rep_enc _ (0:Int))<|.cons rfl (Flat.rep_enc _ (1:Int))<|.cons rfl (Flat.rep_enc _ (2:Int))<|.cons rfl (Flat.rep_enc _ (3:Int))<|.cons rfl (Flat.rep_enc _ (4:Int))<|.cons rfl (Flat.rep_enc _ (6:Int))<|.cons rfl (Flat.rep_enc _ (7:Int))<|.cons rfl (Flat.rep_enc _ (9:Int))<|.cons rfl (Flat.rep_enc _ (10:Int))<|.cons rfl (Flat.rep_enc _ (11:Int))<|.cons rfl (Flat.rep_enc _ (14:Int))<|.cons rfl (Flat.rep_enc _ (59:Int))<|.cons rfl (Flat.rep_enc _ (60:Int))<|.cons rfl (Flat.rep_enc _ (61:Int))<|.cons rfl (Flat.rep_enc _ (199:Int))<|.cons rfl (Flat.rep_enc _ (200:Int))<|.cons rfl (Flat.rep_enc _ (300:Int))<|.cons rfl (Flat.rep_enc _ (301:Int))<|.cons rfl (Flat.rep_enc _ (349:Int))<|.cons rfl (Flat.rep_enc _ (400:Int))<|.cons rfl (Flat.rep_enc _ (410:Int))<|.cons rfl (Flat.rep_enc _ (420:Int))<|.cons rfl (Flat.rep_enc _ (500:Int))<|.cons rfl (Flat.rep_enc _ (1899:Int))<|.cons rfl (Flat.rep_enc _ (1900:Int))<|.cons rfl (Flat.rep_enc _ (1902:Int))<|.cons rfl (Flat.rep_enc _ (1905:Int))<|.cons rfl (Flat.rep_enc _ (1906:Int))<|.cons rfl (Flat.rep_enc _ (1909:Int))<|.cons rfl (Flat.rep_enc _ (1910:Int))<|.cons rfl (Flat.rep_enc _ (2000:Int))<|.cons rfl (Flat.rep_enc _ (2001:Int))<|.cons rfl (Flat.rep_enc _ (2899:Int))<|.cons rfl (Flat.rep_enc _ (2900:Int))<|.cons rfl (Flat.rep_enc _ (3000:Int))<|.cons rfl (Flat.rep_enc _ (3001:Int))<|.cons rfl (Flat.rep_enc _ (4000:Int))<|.cons rfl (Flat.rep_enc _ (4001:Int))<|.cons rfl (Flat.rep_enc _ (9223372036854775807:Int))<|.cons rfl (Flat.rep_enc _ (-9223372036854775808:Int))<|.nil) rfl rfl rfl ?_
 intro v1z w2z H
 have hl3z:=((H.os 0)).len_le
 refine kg 4 ?_
 obtain ⟨ex4z,hi5z,hk6z⟩:=M.e_bind hM
 obtain ⟨m0_,hi5z⟩:=M.e_iter hi5z
 refine W.loop (fun m σ W=>∃ (s11:Nat) (ρ:Env),σ=upds ρ [(42,v1z),(43,I ((vl41).length:Int)),(44,I (s11:Int))]/\M.iterN (zbI) m s11=some ex4z/\St w W [cOwn (α:=Int) 3 v1z (vl41)] R) ?_ ?_
 ·exact ⟨_,0,_,upds_of _ _ ⟨rfl,rfl,rfl,trivial⟩,hi5z,H⟩
 rintro m9z σ w7z ⟨s11,ρ,rfl,hI8z,H⟩
 obtain ⟨m10z,lt11z,x12z,hM,hN13z⟩:=M.e_iterN hI8z
 clear hI8z
 refine kg 5 ?_
 refine W.cond (decide ((s11:Int)<((vl41).length:Int))) rfl (fun c14z=>?_) (fun c14z=>?_)
 ·replace hM:=M.e_t hM c14z
  simp only [qy1,qy2,qy3,qy4,qy5,qy6,ne_eq,qy7] at c14z
  obtain ⟨sd15z,hM⟩:=M.e_grd hM
  simp only [Bool.and_eq_true,decide_eq_true_eq] at sd15z
  refine kg 14 ?_
  obtain ⟨ex16z,hi17z,hk18z⟩:=M.e_bind hM
  obtain ⟨m0_,hi17z⟩:=M.e_iter hi17z
  refine W.loop (fun m σ W=>∃ (n:Nat) (ρ:Env),σ=upds ρ [(2,I ((vl41).getD s11 0)),(3,I (n:Int)),(42,v1z),(43,I ((vl41).length:Int)),(44,I (s11:Int))]/\M.iterN (zb6 s11) m n=some ex16z/\St w W [cOwn (α:=Int) 3 v1z (vl41)] R) ?_ ?_
  ·exact ⟨_,0,_,upds_of _ _ ⟨rfl,rfl,rfl,rfl,rfl,trivial⟩,hi17z,H⟩
  rintro m21z σ w19z ⟨n,ρ,rfl,hI20z,H⟩
  obtain ⟨m22z,lt23z,x24z,hM,hN25z⟩:=M.e_iterN hI20z
  clear hI20z
  refine kg 6 ?_
  refine W.cond (decide ((n:Int)<27)) rfl (fun c26z=>?_) (fun c26z=>?_)
  ·replace hM:=M.e_t hM c26z
   simp only [qy1,qy2,qy3,qy4,qy5,qy6,ne_eq,qy7] at c26z
   refine kg 5 ?_
   obtain ⟨r28z,hx27z,hM⟩:=M.e_bind hM
   refine s_call cf4 [] rfl (zcj hx27z _ (H.gt 1)) ?_
   rintro vq w29z ⟨r2,u0_2,hr30z,hvq,H2_⟩
   subst hr30z
   subst vq
   try dsimp only at hM
   replace H:=H.bk H2_
   clear H2_
   refine t_bs (α:=Int) T22 [I 0,I 2,I 3] [(0:Int),(2:Int),(3:Int)] H rfl (.cons rfl (Flat.rep_enc _ (0:Int))<|.cons rfl (Flat.rep_enc _ (2:Int))<|.cons rfl (Flat.rep_enc _ (3:Int))<|.nil) rfl rfl rfl ?_
   intro v31z w32z H
   refine t_bs (α:=Int) T22 [I 0,I 100,I 120,I 80] [(0:Int),(100:Int),(120:Int),(80:Int)] H rfl (.cons rfl (Flat.rep_enc _ (0:Int))<|.cons rfl (Flat.rep_enc _ (100:Int))<|.cons rfl (Flat.rep_enc _ (120:Int))<|.cons rfl (Flat.rep_enc _ (80:Int))<|.nil) rfl rfl rfl ?_
   intro v33z w34z H
   refine t_alloc (cs:=[I 0]) H Al3 rfl ?_
   intro b_5 w35z H
   refine t_alloc (cs:=[I 0]) H Al3 rfl ?_
   intro b_6 w36z H
   refine t_alloc (cs:=[I 0]) H Al3 rfl ?_
   intro b_7 w37z H
   refine kg 1 ?_
   refine t_sw 2 0 [I 7] (I 7) H rfl rfl Sz3 rfl rfl rfl rfl ?_
   intro w38z H
   refine t_sw 1 0 [I 200] (I 200) H rfl rfl Sz3 rfl rfl rfl rfl ?_
   intro w39z H
   refine kg 1 ?_
   refine t_sw 0 0 [I 300] (I 300) H rfl rfl Sz3 rfl rfl rfl rfl ?_
   intro w40z H
   refine kg 4 ?_
   obtain ⟨r42z,hx41z,hM⟩:=M.e_bind hM
   refine s_call cf5 [] rfl (zd3 hx41z _ (H.gt 7)) ?_
   rintro vq w43z ⟨r0,r1,r22,r3,u0_8,u1_9,rr2_10,Bs3_11,hr44z,hvq,H2_,hf45z⟩
   subst hr44z
   subst vq
   try dsimp only at hM
   replace H:=H.bk H2_
   clear H2_
   refine t_bs (α:=Int) T22 [I 0,I 499,I 500,I 3,I 4,I 400,I 250,I 0,I 2000,I 7] [(0:Int),(499:Int),(500:Int),(3:Int),(4:Int),(400:Int),(250:Int),(0:Int),(2000:Int),(7:Int)] H rfl (.cons rfl (Flat.rep_enc _ (0:Int))<|.cons rfl (Flat.rep_enc _ (499:Int))<|.cons rfl (Flat.rep_enc _ (500:Int))<|.cons rfl (Flat.rep_enc _ (3:Int))<|.cons rfl (Flat.rep_enc _ (4:Int))<|.cons rfl (Flat.rep_enc _ (400:Int))<|.cons rfl (Flat.rep_enc _ (250:Int))<|.cons rfl (Flat.rep_enc _ (0:Int))<|.cons rfl (Flat.rep_enc _ (2000:Int))<|.cons rfl (Flat.rep_enc _ (7:Int))<|.nil) rfl rfl rfl ?_
   intro v46z w47z H
   refine t_alloc (cs:=[.slice none 0 0,.slice none 0 0,I 0,I 0]) H Al28 rfl ?_
   intro b_13 w48z H
   refine t_alloc (cs:=[I 0]) H Al3 rfl ?_
   intro b_14 w49z H
   refine t_alloc (cs:=[I 0]) H Al3 rfl ?_
   intro b_15 w50z H
   refine t_alloc (cs:=[I 0]) H Al3 rfl ?_
   intro b_16 w51z H
   refine t_alloc (cs:=[I 0]) H Al3 rfl ?_
   intro b_17 w52z H
   refine t_alloc (cs:=[I 0]) H Al3 rfl ?_
   intro b_18 w53z H
   refine t_sw 5 0 [u0_8,u1_9,I r22,I r3] (.agg #[u0_8,u1_9,I r22,I r3]) H rfl rfl Sz28 rfl rfl rfl (by simp only [List.all_cons,List.all_nil,Bool.true_and,Bool.and_true,Sl.oc (H.os 7),Sl.oc (deSl (H.get (k:=8) rfl))]; try rfl) ?_
   intro w54z H
   refine kg 1 ?_
   refine t_sw 4 0 [I 1903] (I 1903) H rfl rfl Sz3 rfl rfl rfl rfl ?_
   intro w55z H
   refine t_sw 3 0 [I 1900] (I 1900) H rfl rfl Sz3 rfl rfl rfl rfl ?_
   intro w56z H
   refine t_sw 2 0 [I 1906] (I 1906) H rfl rfl Sz3 rfl rfl rfl rfl ?_
   intro w57z H
   refine t_sw 1 0 [I 410] (I 410) H rfl rfl Sz3 rfl rfl rfl rfl ?_
   intro w58z H
   refine t_sw 0 0 [I 2] (I 2) H rfl rfl Sz3 rfl rfl rfl rfl ?_
   intro w59z H
   refine kg 2 ?_
   refine W.draw (fun W=>St w W [cBlk b_18 [I 2] 3,cBlk b_17 [I 410] 3,cBlk b_16 [I 1906] 3,cBlk b_15 [I 1900] 3,cBlk b_14 [I 1903] 3,cBlk b_13 [u0_8,u1_9,I r22,I r3] 28,cOwn (α:=Int) 3 v46z ([(0:Int),(499:Int),(500:Int),(3:Int),(4:Int),(400:Int),(250:Int),(0:Int),(2000:Int),(7:Int)]),cOwn (α:=Yr) 36 u0_8 r0,cDO 38 3 u1_9 rr2_10 r1,cRo Bs3_11,cBlk b_7 [I 300] 3,cBlk b_6 [I 200] 3,cBlk b_5 [I 7] 3,cOwn (α:=Int) 3 v33z ([(0:Int),(100:Int),(120:Int),(80:Int)]),cOwn (α:=Int) 3 v31z ([(0:Int),(2:Int),(3:Int)]),cOwn (α:=Pk) 32 u0_2 r2,cOwn (α:=Int) 3 v1z (vl41)] R) ((0,true) :: (1,true) :: (2,true) :: (3,true) :: (4,true) :: (5,true) :: (6,true) :: (7,true) :: (8,true) :: (9,true) :: (10,true) :: (11,true) :: (12,true) :: (13,true) :: (14,true) :: (15,true) :: (16,true) :: (17,true) :: (18,true) :: (19,true) :: (20,true) :: (21,true) :: (22,true) :: (23,true) :: (24,true) :: (25,true) :: (26,true) :: (27,true) :: (28,true) :: (29,true) :: (30,true) :: (31,true) :: (32,true) :: (33,true) :: (34,true) :: (35,true) :: (36,true) :: (37,true) :: (38,true) :: (39,true) :: (40,true) :: (41,true) :: (42,true) :: (43,true) :: (44,true) :: (45,true) :: (46,true) :: (47,true) :: (48,true) :: (49,true) :: (50,true) :: (51,true) :: (52,true) :: (53,true) :: (54,true) :: (55,true) :: (56,true) :: (57,false) :: (58,true) :: []) mixed (by decide +kernel) rfl ?_
   intro w60z hx_
   replace H:=H.ext hx_
   clear hx_
   refine ⟨(H.pk [0,1,2,3,4,5,6,7,8,9,10,11,12,13,14,15,16]),?_⟩
   obtain ⟨sd61z,hM⟩:=M.e_grd hM
   simp only [Bool.and_eq_true,decide_eq_true_eq] at sd61z
   refine kg 1 ?_
   refine d_q rfl (fun w' H=>x_ix (a:=u0_2) (b:=I 0) (v:=vat u0_2 2 (Int.toNat 0)) rfl rfl (Sl.ix (α:=Pk) T23.und T23.size (H.os 15) (by omega) (by omega))) ?_
   refine d_q rfl (fun w' H=>x_fa (a:=vat u0_2 2 (Int.toNat 0)) (v:=fat (vat u0_2 2 (Int.toNat 0)) 0) rfl (fa_pl Fd32_0 Sz3 (Sl.pl (i:=0) (H.os 15) (by omega) (by omega)))) ?_
   obtain ⟨sd62z,hM⟩:=M.e_grd hM
   simp only [Bool.and_eq_true,decide_eq_true_eq] at sd62z
   refine kg 1 ?_
   refine d_q rfl (fun w' H=>x_ix (a:=u0_2) (b:=I 1) (v:=vat u0_2 2 (Int.toNat 1)) rfl rfl (Sl.ix (α:=Pk) T23.und T23.size (H.os 15) (by omega) (by omega))) ?_
   refine d_q rfl (fun w' H=>x_fa (a:=vat u0_2 2 (Int.toNat 1)) (v:=fat (vat u0_2 2 (Int.toNat 1)) 1) rfl (fa_pl Fd32_1 Sz3 (Sl.pl (i:=1) (H.os 15) (by omega) (by omega)))) ?_
   obtain ⟨sd63z,hM⟩:=M.e_grd hM
   simp only [Bool.and_eq_true,decide_eq_true_eq] at sd63z
   refine kg 1 ?_
   refine d_q rfl (fun w' H=>x_ix (a:=u0_2) (b:=I 3) (v:=vat u0_2 2 (Int.toNat 3)) rfl rfl (Sl.ix (α:=Pk) T23.und T23.size (H.os 15) (by omega) (by omega))) ?_
   refine d_q rfl (fun w' H=>x_fa (a:=vat u0_2 2 (Int.toNat 3)) (v:=fat (vat u0_2 2 (Int.toNat 3)) 0) rfl (fa_pl Fd32_0 Sz3 (Sl.pl (i:=3) (H.os 15) (by omega) (by omega)))) ?_
   obtain ⟨sd64z,hM⟩:=M.e_grd hM
   simp only [Bool.and_eq_true,decide_eq_true_eq] at sd64z
   refine kg 1 ?_
   refine d_q rfl (fun w' H=>x_ix (a:=v31z) (b:=I 0) (v:=vat v31z 1 (Int.toNat 0)) rfl rfl (Sl.ix (α:=Int) T22.und T22.size (H.os 14) (by omega) (by omega))) ?_
   obtain ⟨sd65z,hM⟩:=M.e_grd hM
   simp only [Bool.and_eq_true,decide_eq_true_eq] at sd65z
   refine kg 1 ?_
   refine d_q rfl (fun w' H=>x_ix (a:=v31z) (b:=I 1) (v:=vat v31z 1 (Int.toNat 1)) rfl rfl (Sl.ix (α:=Int) T22.und T22.size (H.os 14) (by omega) (by omega))) ?_
   obtain ⟨sd66z,hM⟩:=M.e_grd hM
   simp only [Bool.and_eq_true,decide_eq_true_eq] at sd66z
   refine kg 1 ?_
   refine d_q rfl (fun w' H=>x_ix (a:=v31z) (b:=I 2) (v:=vat v31z 1 (Int.toNat 2)) rfl rfl (Sl.ix (α:=Int) T22.und T22.size (H.os 14) (by omega) (by omega))) ?_
   obtain ⟨sd67z,hM⟩:=M.e_grd hM
   simp only [Bool.and_eq_true,decide_eq_true_eq] at sd67z
   refine kg 1 ?_
   refine d_q rfl (fun w' H=>x_ix (a:=v33z) (b:=I 0) (v:=vat v33z 1 (Int.toNat 0)) rfl rfl (Sl.ix (α:=Int) T22.und T22.size (H.os 13) (by omega) (by omega))) ?_
   obtain ⟨sd68z,hM⟩:=M.e_grd hM
   simp only [Bool.and_eq_true,decide_eq_true_eq] at sd68z
   refine kg 1 ?_
   refine d_q rfl (fun w' H=>x_ix (a:=v33z) (b:=I 2) (v:=vat v33z 1 (Int.toNat 2)) rfl rfl (Sl.ix (α:=Int) T22.und T22.size (H.os 13) (by omega) (by omega))) ?_
   obtain ⟨sd69z,hM⟩:=M.e_grd hM
   simp only [Bool.and_eq_true,decide_eq_true_eq] at sd69z
   obtain ⟨sd70z,hM⟩:=M.e_grd hM
   simp only [Bool.and_eq_true,decide_eq_true_eq] at sd70z
   obtain ⟨sd71z,hM⟩:=M.e_grd hM
   simp only [Bool.and_eq_true,decide_eq_true_eq] at sd71z
   refine kg 18 ?_
   refine d_q rfl (fun w' H=>x_ix (a:=u1_9) (b:=I 0) (v:=vat u1_9 4 (Int.toNat 0)) rfl rfl (Sl.ix (α:=Old10) T26.und T26.size (deSl (H.get (k:=8) rfl)) (by omega) (by omega))) ?_
   refine d_q rfl (fun w' H=>x_fa (a:=vat u1_9 4 (Int.toNat 0)) (v:=fat (vat u1_9 4 (Int.toNat 0)) 0) rfl (fa_pl Fd38_0 Sz3 (Sl.pl (i:=0) (deSl (H.get (k:=8) rfl)) (by omega) (by omega)))) ?_
   refine kg 2 ?_
   refine d_q rfl (fun w' H=>x_ix (a:=u1_9) (b:=I 0) (v:=vat u1_9 4 (Int.toNat 0)) rfl rfl (Sl.ix (α:=Old10) T26.und T26.size (deSl (H.get (k:=8) rfl)) (by omega) (by omega))) ?_
   refine d_q rfl (fun w' H=>x_fa (a:=vat u1_9 4 (Int.toNat 0)) (v:=fat (vat u1_9 4 (Int.toNat 0)) 1) rfl (fa_pl Fd38_1 Sz3 (Sl.pl (i:=0) (deSl (H.get (k:=8) rfl)) (by omega) (by omega)))) ?_
   refine kg 2 ?_
   refine d_q rfl (fun w' H=>x_ix (a:=u1_9) (b:=I 0) (v:=vat u1_9 4 (Int.toNat 0)) rfl rfl (Sl.ix (α:=Old10) T26.und T26.size (deSl (H.get (k:=8) rfl)) (by omega) (by omega))) ?_
   refine d_q rfl (fun w' H=>x_fa (a:=vat u1_9 4 (Int.toNat 0)) (v:=fat (vat u1_9 4 (Int.toNat 0)) 2) rfl (fa_pl Fd38_2 Sz3 (Sl.pl (i:=0) (deSl (H.get (k:=8) rfl)) (by omega) (by omega)))) ?_
   refine kg 2 ?_
   refine d_q rfl (fun w' H=>x_ix (a:=u1_9) (b:=I 0) (v:=vat u1_9 4 (Int.toNat 0)) rfl rfl (Sl.ix (α:=Old10) T26.und T26.size (deSl (H.get (k:=8) rfl)) (by omega) (by omega))) ?_
   refine d_q rfl (fun w' H=>x_fa (a:=vat u1_9 4 (Int.toNat 0)) (v:=fat (vat u1_9 4 (Int.toNat 0)) 3) rfl (fa_pl Fd38_3 Sz22 (Sl.pl (i:=0) (deSl (H.get (k:=8) rfl)) (by omega) (by omega)))) ?_
   obtain ⟨u72z,ha_u72z,hs73z⟩:=Old10_at3 (deSl (H.get (k:=8) rfl)) (i:=0) (by omega) (by omega)
   replace hs73z:Sl _ u72z (r1.getD 0 default).passed:=hs73z
   have hl_hs73z:=hs73z.len_le
   refine d_q rfl (fun w' H=>x_ld (p:=fat (vat u1_9 4 (Int.toNat 0)) 3) (v:=u72z) rfl (ld_sc Sc22 (At.mono (ha_u72z) (deLe _ (H.get (k:=8) rfl))))) ?_
   obtain ⟨sd74z,hM⟩:=M.e_grd hM
   simp only [Bool.and_eq_true,decide_eq_true_eq] at sd74z
   obtain ⟨sd75z,hM⟩:=M.e_grd hM
   simp only [Bool.and_eq_true,decide_eq_true_eq] at sd75z
   obtain ⟨sd76z,hM⟩:=M.e_grd hM
   simp only [Bool.and_eq_true,decide_eq_true_eq] at sd76z
   refine kg 5 ?_
   refine d_l rfl ?_
   have hp77z:=ptF (Sl.pl (i:=0) (H.os 15) (by omega) (by omega)) (off:=0)
   replace hp77z:PtV (fat (vat u0_2 2 (Int.toNat 0)) 0):=hp77z
   have hp78z:=ptF (Sl.pl (i:=1) (H.os 15) (by omega) (by omega)) (off:=1)
   replace hp78z:PtV (fat (vat u0_2 2 (Int.toNat 1)) 1):=hp78z
   have hp79z:=ptF (Sl.pl (i:=3) (H.os 15) (by omega) (by omega)) (off:=0)
   replace hp79z:PtV (fat (vat u0_2 2 (Int.toNat 3)) 0):=hp79z
   have hp80z:=ptE (Sl.pl (i:=0) (H.os 14) (by omega) (by omega))
   replace hp80z:PtV (vat v31z 1 (Int.toNat 0)):=hp80z
   have hp81z:=ptE (Sl.pl (i:=1) (H.os 14) (by omega) (by omega))
   replace hp81z:PtV (vat v31z 1 (Int.toNat 1)):=hp81z
   have hp82z:=ptE (Sl.pl (i:=2) (H.os 14) (by omega) (by omega))
   replace hp82z:PtV (vat v31z 1 (Int.toNat 2)):=hp82z
   have hp83z:=ptE (Sl.pl (i:=0) (H.os 13) (by omega) (by omega))
   replace hp83z:PtV (vat v33z 1 (Int.toNat 0)):=hp83z
   have hp84z:=ptE (Sl.pl (i:=2) (H.os 13) (by omega) (by omega))
   replace hp84z:PtV (vat v33z 1 (Int.toNat 2)):=hp84z
   have hp85z:=ptF (Sl.pl (i:=0) (H.os 7) (by omega) (by omega)) (off:=0)
   replace hp85z:PtV (fat (vat u0_8 3 (Int.toNat 0)) 0):=hp85z
   have hp86z:=ptF (Sl.pl (i:=0) (H.os 7) (by omega) (by omega)) (off:=1)
   replace hp86z:PtV (fat (vat u0_8 3 (Int.toNat 0)) 1):=hp86z
   have hp87z:=ptF (Sl.pl (i:=1) (H.os 7) (by omega) (by omega)) (off:=2)
   replace hp87z:PtV (fat (vat u0_8 3 (Int.toNat 1)) 2):=hp87z
   have hp88z:=ptF (Sl.pl (i:=0) (deSl (H.get (k:=8) rfl)) (by omega) (by omega)) (off:=0)
   replace hp88z:PtV (fat (vat u1_9 4 (Int.toNat 0)) 0):=hp88z
   have hp89z:=ptF (Sl.pl (i:=0) (deSl (H.get (k:=8) rfl)) (by omega) (by omega)) (off:=1)
   replace hp89z:PtV (fat (vat u1_9 4 (Int.toNat 0)) 1):=hp89z
   have hp90z:=ptF (Sl.pl (i:=0) (deSl (H.get (k:=8) rfl)) (by omega) (by omega)) (off:=2)
   replace hp90z:PtV (fat (vat u1_9 4 (Int.toNat 0)) 2):=hp90z
   have hp91z:=ptE (Sl.pl (i:=0) hs73z (by omega) (by omega))
   replace hp91z:PtV (vat u72z 1 (Int.toNat 0)):=hp91z
   have hp92z:=ptE (Sl.pl (i:=2) (H.os 6) (by omega) (by omega))
   replace hp92z:PtV (vat v46z 1 (Int.toNat 2)):=hp92z
   have hp93z:=ptE (Sl.pl (i:=5) (H.os 6) (by omega) (by omega))
   replace hp93z:PtV (vat v46z 1 (Int.toNat 5)):=hp93z
   refine t_bs (α:=Raw 0) T39 [fat (vat u0_2 2 (Int.toNat 0)) 0,fat (vat u0_2 2 (Int.toNat 1)) 1,fat (vat u0_2 2 (Int.toNat 3)) 0,Pq b_5,Pq b_6,vat v31z 1 (Int.toNat 0),vat v31z 1 (Int.toNat 1),vat v31z 1 (Int.toNat 2),Pq b_7,vat v33z 1 (Int.toNat 0),vat v33z 1 (Int.toNat 2),Oq b_13 2,Oq b_13 3,fat (vat u0_8 3 (Int.toNat 0)) 0,fat (vat u0_8 3 (Int.toNat 0)) 1,fat (vat u0_8 3 (Int.toNat 1)) 2,fat (vat u1_9 4 (Int.toNat 0)) 0,fat (vat u1_9 4 (Int.toNat 0)) 1,fat (vat u1_9 4 (Int.toNat 0)) 2,vat u72z 1 (Int.toNat 0),vat v46z 1 (Int.toNat 2),vat v46z 1 (Int.toNat 5),Pq b_14,Pq b_15,Pq b_16,Pq b_17,Pq b_18] [rawV (fat (vat u0_2 2 (Int.toNat 0)) 0) hp77z,rawV (fat (vat u0_2 2 (Int.toNat 1)) 1) hp78z,rawV (fat (vat u0_2 2 (Int.toNat 3)) 0) hp79z,rawV (Pq b_5) (ptB _),rawV (Pq b_6) (ptB _),rawV (vat v31z 1 (Int.toNat 0)) hp80z,rawV (vat v31z 1 (Int.toNat 1)) hp81z,rawV (vat v31z 1 (Int.toNat 2)) hp82z,rawV (Pq b_7) (ptB _),rawV (vat v33z 1 (Int.toNat 0)) hp83z,rawV (vat v33z 1 (Int.toNat 2)) hp84z,rawV (Oq b_13 2) (ptB _),rawV (Oq b_13 3) (ptB _),rawV (fat (vat u0_8 3 (Int.toNat 0)) 0) hp85z,rawV (fat (vat u0_8 3 (Int.toNat 0)) 1) hp86z,rawV (fat (vat u0_8 3 (Int.toNat 1)) 2) hp87z,rawV (fat (vat u1_9 4 (Int.toNat 0)) 0) hp88z,rawV (fat (vat u1_9 4 (Int.toNat 0)) 1) hp89z,rawV (fat (vat u1_9 4 (Int.toNat 0)) 2) hp90z,rawV (vat u72z 1 (Int.toNat 0)) hp91z,rawV (vat v46z 1 (Int.toNat 2)) hp92z,rawV (vat v46z 1 (Int.toNat 5)) hp93z,rawV (Pq b_14) (ptB _),rawV (Pq b_15) (ptB _),rawV (Pq b_16) (ptB _),rawV (Pq b_17) (ptB _),rawV (Pq b_18) (ptB _)] H rfl (.cons hp77z.1 rfl<|.cons hp78z.1 rfl<|.cons hp79z.1 rfl<|.cons (ptB _).1 rfl<|.cons (ptB _).1 rfl<|.cons hp80z.1 rfl<|.cons hp81z.1 rfl<|.cons hp82z.1 rfl<|.cons (ptB _).1 rfl<|.cons hp83z.1 rfl<|.cons hp84z.1 rfl<|.cons (ptB _).1 rfl<|.cons (ptB _).1 rfl<|.cons hp85z.1 rfl<|.cons hp86z.1 rfl<|.cons hp87z.1 rfl<|.cons hp88z.1 rfl<|.cons hp89z.1 rfl<|.cons hp90z.1 rfl<|.cons hp91z.1 rfl<|.cons hp92z.1 rfl<|.cons hp93z.1 rfl<|.cons (ptB _).1 rfl<|.cons (ptB _).1 rfl<|.cons (ptB _).1 rfl<|.cons (ptB _).1 rfl<|.cons (ptB _).1 rfl<|.nil) rfl rfl rfl ?_
   intro v94z w95z H
   have hl96z:([rawV (fat (vat u0_2 2 (Int.toNat 0)) 0) hp77z,rawV (fat (vat u0_2 2 (Int.toNat 1)) 1) hp78z,rawV (fat (vat u0_2 2 (Int.toNat 3)) 0) hp79z,rawV (Pq b_5) (ptB _),rawV (Pq b_6) (ptB _),rawV (vat v31z 1 (Int.toNat 0)) hp80z,rawV (vat v31z 1 (Int.toNat 1)) hp81z,rawV (vat v31z 1 (Int.toNat 2)) hp82z,rawV (Pq b_7) (ptB _),rawV (vat v33z 1 (Int.toNat 0)) hp83z,rawV (vat v33z 1 (Int.toNat 2)) hp84z,rawV (Oq b_13 2) (ptB _),rawV (Oq b_13 3) (ptB _),rawV (fat (vat u0_8 3 (Int.toNat 0)) 0) hp85z,rawV (fat (vat u0_8 3 (Int.toNat 0)) 1) hp86z,rawV (fat (vat u0_8 3 (Int.toNat 1)) 2) hp87z,rawV (fat (vat u1_9 4 (Int.toNat 0)) 0) hp88z,rawV (fat (vat u1_9 4 (Int.toNat 0)) 1) hp89z,rawV (fat (vat u1_9 4 (Int.toNat 0)) 2) hp90z,rawV (vat u72z 1 (Int.toNat 0)) hp91z,rawV (vat v46z 1 (Int.toNat 2)) hp92z,rawV (vat v46z 1 (Int.toNat 5)) hp93z,rawV (Pq b_14) (ptB _),rawV (Pq b_15) (ptB _),rawV (Pq b_16) (ptB _),rawV (Pq b_17) (ptB _),rawV (Pq b_18) (ptB _)]:List (Raw 0)).length=27:=rfl
   have hvc_q97z:=Sl.cells (H.os 0)
   have hvo_q97z:=Sl.oc (H.os 0)
   have hvs_q97z:=ownSl (H.get (k:=0) rfl)
   refine s_nil ⟨(H.pk [1,2,3,4,5,6,7,8,9,10,11,12,13,14,15,16,17]),?_⟩
   refine kg 2 ?_
   refine W.seqJ (fun σ W=>∃ (l:List Pk) (s:Int) (s2:Int) (l2:List Int) (s3:Int) (l3:List Int) (s4:Int) (s5:Int) (l4:List Yr) (l5:List Old10) (l6:List Int) (s6:Int) (s7:Int) (s8:Int) (s9:Int) (s10:Int) (v_l:Value) (v_l2:Value) (v_l3:Value) (v_l4:Value) (v_l5:Value) (v_l6:Value) (rw_l5:List (Raw 3)) (B_l5:Base) (ρ:Env),σ=upds ρ [(2,I ((vl41).getD s11 0)),(3,I (n:Int)),(4,v_l),(5,Pq b_5),(6,Pq b_6),(7,v_l2),(8,Pq b_7),(9,v_l3),(10,Pq b_13),(11,v_l6),(12,Pq b_14),(13,Pq b_15),(14,Pq b_16),(15,Pq b_17),(16,Pq b_18),(42,v1z),(43,I ((vl41).length:Int)),(44,I (s11:Int))]/\(zaa n l s s2 l2 s3 l3 s4 s5 l4 l5 l6 s6 s7 s8 s9 s10).Ends x24z/\St w W [cOwn (α:=Raw 0) 30 v94z ([rawV (fat (vat u0_2 2 (Int.toNat 0)) 0) hp77z,rawV (fat (vat u0_2 2 (Int.toNat 1)) 1) hp78z,rawV (fat (vat u0_2 2 (Int.toNat 3)) 0) hp79z,rawV (Pq b_5) (ptB _),rawV (Pq b_6) (ptB _),rawV (vat v31z 1 (Int.toNat 0)) hp80z,rawV (vat v31z 1 (Int.toNat 1)) hp81z,rawV (vat v31z 1 (Int.toNat 2)) hp82z,rawV (Pq b_7) (ptB _),rawV (vat v33z 1 (Int.toNat 0)) hp83z,rawV (vat v33z 1 (Int.toNat 2)) hp84z,rawV (Oq b_13 2) (ptB _),rawV (Oq b_13 3) (ptB _),rawV (fat (vat u0_8 3 (Int.toNat 0)) 0) hp85z,rawV (fat (vat u0_8 3 (Int.toNat 0)) 1) hp86z,rawV (fat (vat u0_8 3 (Int.toNat 1)) 2) hp87z,rawV (fat (vat u1_9 4 (Int.toNat 0)) 0) hp88z,rawV (fat (vat u1_9 4 (Int.toNat 0)) 1) hp89z,rawV (fat (vat u1_9 4 (Int.toNat 0)) 2) hp90z,rawV (vat u72z 1 (Int.toNat 0)) hp91z,rawV (vat v46z 1 (Int.toNat 2)) hp92z,rawV (vat v46z 1 (Int.toNat 5)) hp93z,rawV (Pq b_14) (ptB _),rawV (Pq b_15) (ptB _),rawV (Pq b_16) (ptB _),rawV (Pq b_17) (ptB _),rawV (Pq b_18) (ptB _)]),cBlk b_18 [I s10] 3,cBlk b_17 [I s9] 3,cBlk b_16 [I s8] 3,cBlk b_15 [I s7] 3,cBlk b_14 [I s6] 3,cBlk b_13 [v_l4,v_l5,I s4,I s5] 28,cOwn (α:=Int) 3 v_l6 l6,cOwn (α:=Yr) 36 v_l4 l4,cDO 38 3 v_l5 rw_l5 l5,cRo B_l5,cBlk b_7 [I s3] 3,cBlk b_6 [I s2] 3,cBlk b_5 [I s] 3,cOwn (α:=Int) 3 v_l3 l3,cOwn (α:=Int) 3 v_l2 l2,cOwn (α:=Pk) 32 v_l l,cOwn (α:=Int) 3 v1z (vl41)] R/\rw_l5.length=l5.length) ?_ ?_
   ·skip
    refine W.byc ((n:Int)==0) (fun c98z=>?_) (fun c98z=>?_)
    ·replace hM:=M.e_t hM c98z
     have hk99z:(n:Int)=0:=eq_of_beq c98z
     obtain ⟨sd100z,hM⟩:=M.e_grd hM
     simp only [Bool.and_eq_true,decide_eq_true_eq] at sd100z
     refine kg 3 ?_
     refine s_val (x_ix (a:=v94z) (b:=I (n:Int)) (v:=vat v94z 1 (Int.toNat (n:Int))) rfl rfl (Sl.ix (α:=Raw 0) T39.und T39.size (H.os 0) (by omega) (by have hl_:=hl96z; omega))) ?_
     refine s_val (x_ld (p:=vat v94z 1 (Int.toNat (n:Int))) (v:=fat (vat u0_2 2 (Int.toNat 0)) 0) rfl (ld_sc Sc30 (At.mono (raw_at (i:=(n:Int)) (k:=0) (H.os 0) hk99z rfl) (H.ol 0)))) ?_
     refine kg 1 ?_
     refine s_val (x_ncE (p:=fat (vat u0_2 2 (Int.toNat 0)) 0) rfl (ptr_fat (Sl.pl (i:=0) (H.os 16) (by omega) (by omega)))) ?_
     refine t_fst (α:=Pk) (k:=16) (i:=0) (off:=0) (l:=r2) (l':=r2.set 0 ({ (r2.getD 0 default) with day:=(vl41).getD s11 0 })) (val:=I ((vl41).getD s11 0)) (L':=[cOwn (α:=Raw 0) 30 v94z ([rawV (fat (vat u0_2 2 (Int.toNat 0)) 0) hp77z,rawV (fat (vat u0_2 2 (Int.toNat 1)) 1) hp78z,rawV (fat (vat u0_2 2 (Int.toNat 3)) 0) hp79z,rawV (Pq b_5) (ptB _),rawV (Pq b_6) (ptB _),rawV (vat v31z 1 (Int.toNat 0)) hp80z,rawV (vat v31z 1 (Int.toNat 1)) hp81z,rawV (vat v31z 1 (Int.toNat 2)) hp82z,rawV (Pq b_7) (ptB _),rawV (vat v33z 1 (Int.toNat 0)) hp83z,rawV (vat v33z 1 (Int.toNat 2)) hp84z,rawV (Oq b_13 2) (ptB _),rawV (Oq b_13 3) (ptB _),rawV (fat (vat u0_8 3 (Int.toNat 0)) 0) hp85z,rawV (fat (vat u0_8 3 (Int.toNat 0)) 1) hp86z,rawV (fat (vat u0_8 3 (Int.toNat 1)) 2) hp87z,rawV (fat (vat u1_9 4 (Int.toNat 0)) 0) hp88z,rawV (fat (vat u1_9 4 (Int.toNat 0)) 1) hp89z,rawV (fat (vat u1_9 4 (Int.toNat 0)) 2) hp90z,rawV (vat u72z 1 (Int.toNat 0)) hp91z,rawV (vat v46z 1 (Int.toNat 2)) hp92z,rawV (vat v46z 1 (Int.toNat 5)) hp93z,rawV (Pq b_14) (ptB _),rawV (Pq b_15) (ptB _),rawV (Pq b_16) (ptB _),rawV (Pq b_17) (ptB _),rawV (Pq b_18) (ptB _)]),cBlk b_18 [I 2] 3,cBlk b_17 [I 410] 3,cBlk b_16 [I 1906] 3,cBlk b_15 [I 1900] 3,cBlk b_14 [I 1903] 3,cBlk b_13 [u0_8,u1_9,I r22,I r3] 28,cOwn (α:=Int) 3 v46z ([(0:Int),(499:Int),(500:Int),(3:Int),(4:Int),(400:Int),(250:Int),(0:Int),(2000:Int),(7:Int)]),cOwn (α:=Yr) 36 u0_8 r0,cDO 38 3 u1_9 rr2_10 r1,cRo Bs3_11,cBlk b_7 [I 300] 3,cBlk b_6 [I 200] 3,cBlk b_5 [I 7] 3,cOwn (α:=Int) 3 v33z ([(0:Int),(100:Int),(120:Int),(80:Int)]),cOwn (α:=Int) 3 v31z ([(0:Int),(2:Int),(3:Int)]),cOwn (α:=Pk) 32 u0_2 (r2.set 0 ({ (r2.getD 0 default) with day:=(vl41).getD s11 0 })),cOwn (α:=Int) 3 v1z (vl41)]) H rfl Sz3 (by omega) (by omega) (r2.getD 0 default) ({ (r2.getD 0 default) with day:=(vl41).getD s11 0 }) (getD_some _ (by omega) _) rfl rfl [I ((vl41).getD s11 0)] rfl rfl rfl rfl rfl rfl rfl ?_
     intro w101z H
     have hls_q102z:(r2.set 0 ({ (r2.getD 0 default) with day:=(vl41).getD s11 0 })).length=(r2).length:=List.length_set
     refine s_nil ?_
     exact ⟨r2.set 0 ({ (r2.getD 0 default) with day:=(vl41).getD s11 0 }),7,200,[(0:Int),(2:Int),(3:Int)],300,[(0:Int),(100:Int),(120:Int),(80:Int)],r22,r3,r0,r1,[(0:Int),(499:Int),(500:Int),(3:Int),(4:Int),(400:Int),(250:Int),(0:Int),(2000:Int),(7:Int)],1903,1900,1906,410,2,u0_2,v31z,v33z,u0_8,u1_9,v46z,rr2_10,Bs3_11,_,upds_of _ _ ⟨rfl,rfl,rfl,rfl,rfl,rfl,rfl,rfl,rfl,rfl,rfl,rfl,rfl,rfl,rfl,rfl,rfl,rfl,trivial⟩,hM,H,hf45z⟩
    replace hM:=M.e_f hM c98z
    refine W.byc ((n:Int)==1) (fun c103z=>?_) (fun c103z=>?_)
    ·replace hM:=M.e_t hM c103z
     have hk104z:(n:Int)=1:=eq_of_beq c103z
     obtain ⟨sd105z,hM⟩:=M.e_grd hM
     simp only [Bool.and_eq_true,decide_eq_true_eq] at sd105z
     refine kg 3 ?_
     refine s_val (x_ix (a:=v94z) (b:=I (n:Int)) (v:=vat v94z 1 (Int.toNat (n:Int))) rfl rfl (Sl.ix (α:=Raw 0) T39.und T39.size (H.os 0) (by omega) (by have hl_:=hl96z; omega))) ?_
     refine s_val (x_ld (p:=vat v94z 1 (Int.toNat (n:Int))) (v:=fat (vat u0_2 2 (Int.toNat 1)) 1) rfl (ld_sc Sc30 (At.mono (raw_at (i:=(n:Int)) (k:=1) (H.os 0) hk104z rfl) (H.ol 0)))) ?_
     refine kg 1 ?_
     refine s_val (x_ncE (p:=fat (vat u0_2 2 (Int.toNat 1)) 1) rfl (ptr_fat (Sl.pl (i:=1) (H.os 16) (by omega) (by omega)))) ?_
     refine t_fst (α:=Pk) (k:=16) (i:=1) (off:=1) (l:=r2) (l':=r2.set 1 ({ (r2.getD 1 default) with stage:=(vl41).getD s11 0 })) (val:=I ((vl41).getD s11 0)) (L':=[cOwn (α:=Raw 0) 30 v94z ([rawV (fat (vat u0_2 2 (Int.toNat 0)) 0) hp77z,rawV (fat (vat u0_2 2 (Int.toNat 1)) 1) hp78z,rawV (fat (vat u0_2 2 (Int.toNat 3)) 0) hp79z,rawV (Pq b_5) (ptB _),rawV (Pq b_6) (ptB _),rawV (vat v31z 1 (Int.toNat 0)) hp80z,rawV (vat v31z 1 (Int.toNat 1)) hp81z,rawV (vat v31z 1 (Int.toNat 2)) hp82z,rawV (Pq b_7) (ptB _),rawV (vat v33z 1 (Int.toNat 0)) hp83z,rawV (vat v33z 1 (Int.toNat 2)) hp84z,rawV (Oq b_13 2) (ptB _),rawV (Oq b_13 3) (ptB _),rawV (fat (vat u0_8 3 (Int.toNat 0)) 0) hp85z,rawV (fat (vat u0_8 3 (Int.toNat 0)) 1) hp86z,rawV (fat (vat u0_8 3 (Int.toNat 1)) 2) hp87z,rawV (fat (vat u1_9 4 (Int.toNat 0)) 0) hp88z,rawV (fat (vat u1_9 4 (Int.toNat 0)) 1) hp89z,rawV (fat (vat u1_9 4 (Int.toNat 0)) 2) hp90z,rawV (vat u72z 1 (Int.toNat 0)) hp91z,rawV (vat v46z 1 (Int.toNat 2)) hp92z,rawV (vat v46z 1 (Int.toNat 5)) hp93z,rawV (Pq b_14) (ptB _),rawV (Pq b_15) (ptB _),rawV (Pq b_16) (ptB _),rawV (Pq b_17) (ptB _),rawV (Pq b_18) (ptB _)]),cBlk b_18 [I 2] 3,cBlk b_17 [I 410] 3,cBlk b_16 [I 1906] 3,cBlk b_15 [I 1900] 3,cBlk b_14 [I 1903] 3,cBlk b_13 [u0_8,u1_9,I r22,I r3] 28,cOwn (α:=Int) 3 v46z ([(0:Int),(499:Int),(500:Int),(3:Int),(4:Int),(400:Int),(250:Int),(0:Int),(2000:Int),(7:Int)]),cOwn (α:=Yr) 36 u0_8 r0,cDO 38 3 u1_9 rr2_10 r1,cRo Bs3_11,cBlk b_7 [I 300] 3,cBlk b_6 [I 200] 3,cBlk b_5 [I 7] 3,cOwn (α:=Int) 3 v33z ([(0:Int),(100:Int),(120:Int),(80:Int)]),cOwn (α:=Int) 3 v31z ([(0:Int),(2:Int),(3:Int)]),cOwn (α:=Pk) 32 u0_2 (r2.set 1 ({ (r2.getD 1 default) with stage:=(vl41).getD s11 0 })),cOwn (α:=Int) 3 v1z (vl41)]) H rfl Sz3 (by omega) (by omega) (r2.getD 1 default) ({ (r2.getD 1 default) with stage:=(vl41).getD s11 0 }) (getD_some _ (by omega) _) rfl rfl [I ((vl41).getD s11 0)] rfl rfl rfl rfl rfl rfl rfl ?_
     intro w106z H
     have hls_q107z:(r2.set 1 ({ (r2.getD 1 default) with stage:=(vl41).getD s11 0 })).length=(r2).length:=List.length_set
     refine s_nil ?_
     exact ⟨r2.set 1 ({ (r2.getD 1 default) with stage:=(vl41).getD s11 0 }),7,200,[(0:Int),(2:Int),(3:Int)],300,[(0:Int),(100:Int),(120:Int),(80:Int)],r22,r3,r0,r1,[(0:Int),(499:Int),(500:Int),(3:Int),(4:Int),(400:Int),(250:Int),(0:Int),(2000:Int),(7:Int)],1903,1900,1906,410,2,u0_2,v31z,v33z,u0_8,u1_9,v46z,rr2_10,Bs3_11,_,upds_of _ _ ⟨rfl,rfl,rfl,rfl,rfl,rfl,rfl,rfl,rfl,rfl,rfl,rfl,rfl,rfl,rfl,rfl,rfl,rfl,trivial⟩,hM,H,hf45z⟩
    replace hM:=M.e_f hM c103z
    refine W.byc ((n:Int)==2) (fun c108z=>?_) (fun c108z=>?_)
    ·replace hM:=M.e_t hM c108z
     have hk109z:(n:Int)=2:=eq_of_beq c108z
     obtain ⟨sd110z,hM⟩:=M.e_grd hM
     simp only [Bool.and_eq_true,decide_eq_true_eq] at sd110z
     refine kg 3 ?_
     refine s_val (x_ix (a:=v94z) (b:=I (n:Int)) (v:=vat v94z 1 (Int.toNat (n:Int))) rfl rfl (Sl.ix (α:=Raw 0) T39.und T39.size (H.os 0) (by omega) (by have hl_:=hl96z; omega))) ?_
     refine s_val (x_ld (p:=vat v94z 1 (Int.toNat (n:Int))) (v:=fat (vat u0_2 2 (Int.toNat 3)) 0) rfl (ld_sc Sc30 (At.mono (raw_at (i:=(n:Int)) (k:=2) (H.os 0) hk109z rfl) (H.ol 0)))) ?_
     refine kg 1 ?_
     refine s_val (x_ncE (p:=fat (vat u0_2 2 (Int.toNat 3)) 0) rfl (ptr_fat (Sl.pl (i:=3) (H.os 16) (by omega) (by omega)))) ?_
     refine t_fst (α:=Pk) (k:=16) (i:=3) (off:=0) (l:=r2) (l':=r2.set 3 ({ (r2.getD 3 default) with day:=(vl41).getD s11 0 })) (val:=I ((vl41).getD s11 0)) (L':=[cOwn (α:=Raw 0) 30 v94z ([rawV (fat (vat u0_2 2 (Int.toNat 0)) 0) hp77z,rawV (fat (vat u0_2 2 (Int.toNat 1)) 1) hp78z,rawV (fat (vat u0_2 2 (Int.toNat 3)) 0) hp79z,rawV (Pq b_5) (ptB _),rawV (Pq b_6) (ptB _),rawV (vat v31z 1 (Int.toNat 0)) hp80z,rawV (vat v31z 1 (Int.toNat 1)) hp81z,rawV (vat v31z 1 (Int.toNat 2)) hp82z,rawV (Pq b_7) (ptB _),rawV (vat v33z 1 (Int.toNat 0)) hp83z,rawV (vat v33z 1 (Int.toNat 2)) hp84z,rawV (Oq b_13 2) (ptB _),rawV (Oq b_13 3) (ptB _),rawV (fat (vat u0_8 3 (Int.toNat 0)) 0) hp85z,rawV (fat (vat u0_8 3 (Int.toNat 0)) 1) hp86z,rawV (fat (vat u0_8 3 (Int.toNat 1)) 2) hp87z,rawV (fat (vat u1_9 4 (Int.toNat 0)) 0) hp88z,rawV (fat (vat u1_9 4 (Int.toNat 0)) 1) hp89z,rawV (fat (vat u1_9 4 (Int.toNat 0)) 2) hp90z,rawV (vat u72z 1 (Int.toNat 0)) hp91z,rawV (vat v46z 1 (Int.toNat 2)) hp92z,rawV (vat v46z 1 (Int.toNat 5)) hp93z,rawV (Pq b_14) (ptB _),rawV (Pq b_15) (ptB _),rawV (Pq b_16) (ptB _),rawV (Pq b_17) (ptB _),rawV (Pq b_18) (ptB _)]),cBlk b_18 [I 2] 3,cBlk b_17 [I 410] 3,cBlk b_16 [I 1906] 3,cBlk b_15 [I 1900] 3,cBlk b_14 [I 1903] 3,cBlk b_13 [u0_8,u1_9,I r22,I r3] 28,cOwn (α:=Int) 3 v46z ([(0:Int),(499:Int),(500:Int),(3:Int),(4:Int),(400:Int),(250:Int),(0:Int),(2000:Int),(7:Int)]),cOwn (α:=Yr) 36 u0_8 r0,cDO 38 3 u1_9 rr2_10 r1,cRo Bs3_11,cBlk b_7 [I 300] 3,cBlk b_6 [I 200] 3,cBlk b_5 [I 7] 3,cOwn (α:=Int) 3 v33z ([(0:Int),(100:Int),(120:Int),(80:Int)]),cOwn (α:=Int) 3 v31z ([(0:Int),(2:Int),(3:Int)]),cOwn (α:=Pk) 32 u0_2 (r2.set 3 ({ (r2.getD 3 default) with day:=(vl41).getD s11 0 })),cOwn (α:=Int) 3 v1z (vl41)]) H rfl Sz3 (by omega) (by omega) (r2.getD 3 default) ({ (r2.getD 3 default) with day:=(vl41).getD s11 0 }) (getD_some _ (by omega) _) rfl rfl [I ((vl41).getD s11 0)] rfl rfl rfl rfl rfl rfl rfl ?_
     intro w111z H
     have hls_q112z:(r2.set 3 ({ (r2.getD 3 default) with day:=(vl41).getD s11 0 })).length=(r2).length:=List.length_set
     refine s_nil ?_
     exact ⟨r2.set 3 ({ (r2.getD 3 default) with day:=(vl41).getD s11 0 }),7,200,[(0:Int),(2:Int),(3:Int)],300,[(0:Int),(100:Int),(120:Int),(80:Int)],r22,r3,r0,r1,[(0:Int),(499:Int),(500:Int),(3:Int),(4:Int),(400:Int),(250:Int),(0:Int),(2000:Int),(7:Int)],1903,1900,1906,410,2,u0_2,v31z,v33z,u0_8,u1_9,v46z,rr2_10,Bs3_11,_,upds_of _ _ ⟨rfl,rfl,rfl,rfl,rfl,rfl,rfl,rfl,rfl,rfl,rfl,rfl,rfl,rfl,rfl,rfl,rfl,rfl,trivial⟩,hM,H,hf45z⟩
    replace hM:=M.e_f hM c108z
    refine W.byc ((n:Int)==3) (fun c113z=>?_) (fun c113z=>?_)
    ·replace hM:=M.e_t hM c113z
     have hk114z:(n:Int)=3:=eq_of_beq c113z
     obtain ⟨sd115z,hM⟩:=M.e_grd hM
     simp only [Bool.and_eq_true,decide_eq_true_eq] at sd115z
     refine kg 3 ?_
     refine s_val (x_ix (a:=v94z) (b:=I (n:Int)) (v:=vat v94z 1 (Int.toNat (n:Int))) rfl rfl (Sl.ix (α:=Raw 0) T39.und T39.size (H.os 0) (by omega) (by have hl_:=hl96z; omega))) ?_
     refine s_val (x_ld (p:=vat v94z 1 (Int.toNat (n:Int))) (v:=Pq b_5) rfl (ld_sc Sc30 (At.mono (raw_at (i:=(n:Int)) (k:=3) (H.os 0) hk114z rfl) (H.ol 0)))) ?_
     refine kg 2 ?_
     refine t_sw 13 0 [I ((vl41).getD s11 0)] (I ((vl41).getD s11 0)) H rfl rfl Sz3 rfl rfl rfl rfl ?_
     intro w116z H
     refine s_nil ?_
     exact ⟨r2,(vl41).getD s11 0,200,[(0:Int),(2:Int),(3:Int)],300,[(0:Int),(100:Int),(120:Int),(80:Int)],r22,r3,r0,r1,[(0:Int),(499:Int),(500:Int),(3:Int),(4:Int),(400:Int),(250:Int),(0:Int),(2000:Int),(7:Int)],1903,1900,1906,410,2,u0_2,v31z,v33z,u0_8,u1_9,v46z,rr2_10,Bs3_11,_,upds_of _ _ ⟨rfl,rfl,rfl,rfl,rfl,rfl,rfl,rfl,rfl,rfl,rfl,rfl,rfl,rfl,rfl,rfl,rfl,rfl,trivial⟩,hM,H,hf45z⟩
    replace hM:=M.e_f hM c113z
    refine W.byc ((n:Int)==4) (fun c117z=>?_) (fun c117z=>?_)
    ·replace hM:=M.e_t hM c117z
     have hk118z:(n:Int)=4:=eq_of_beq c117z
     obtain ⟨sd119z,hM⟩:=M.e_grd hM
     simp only [Bool.and_eq_true,decide_eq_true_eq] at sd119z
     refine kg 3 ?_
     refine s_val (x_ix (a:=v94z) (b:=I (n:Int)) (v:=vat v94z 1 (Int.toNat (n:Int))) rfl rfl (Sl.ix (α:=Raw 0) T39.und T39.size (H.os 0) (by omega) (by have hl_:=hl96z; omega))) ?_
     refine s_val (x_ld (p:=vat v94z 1 (Int.toNat (n:Int))) (v:=Pq b_6) rfl (ld_sc Sc30 (At.mono (raw_at (i:=(n:Int)) (k:=4) (H.os 0) hk118z rfl) (H.ol 0)))) ?_
     refine kg 2 ?_
     refine t_sw 12 0 [I ((vl41).getD s11 0)] (I ((vl41).getD s11 0)) H rfl rfl Sz3 rfl rfl rfl rfl ?_
     intro w120z H
     refine s_nil ?_
     exact ⟨r2,7,(vl41).getD s11 0,[(0:Int),(2:Int),(3:Int)],300,[(0:Int),(100:Int),(120:Int),(80:Int)],r22,r3,r0,r1,[(0:Int),(499:Int),(500:Int),(3:Int),(4:Int),(400:Int),(250:Int),(0:Int),(2000:Int),(7:Int)],1903,1900,1906,410,2,u0_2,v31z,v33z,u0_8,u1_9,v46z,rr2_10,Bs3_11,_,upds_of _ _ ⟨rfl,rfl,rfl,rfl,rfl,rfl,rfl,rfl,rfl,rfl,rfl,rfl,rfl,rfl,rfl,rfl,rfl,rfl,trivial⟩,hM,H,hf45z⟩
    replace hM:=M.e_f hM c117z
    refine W.byc ((n:Int)==5) (fun c121z=>?_) (fun c121z=>?_)
    ·replace hM:=M.e_t hM c121z
     have hk122z:(n:Int)=5:=eq_of_beq c121z
     obtain ⟨sd123z,hM⟩:=M.e_grd hM
     simp only [Bool.and_eq_true,decide_eq_true_eq] at sd123z
     refine kg 3 ?_
     refine s_val (x_ix (a:=v94z) (b:=I (n:Int)) (v:=vat v94z 1 (Int.toNat (n:Int))) rfl rfl (Sl.ix (α:=Raw 0) T39.und T39.size (H.os 0) (by omega) (by have hl_:=hl96z; omega))) ?_
     refine s_val (x_ld (p:=vat v94z 1 (Int.toNat (n:Int))) (v:=vat v31z 1 (Int.toNat 0)) rfl (ld_sc Sc30 (At.mono (raw_at (i:=(n:Int)) (k:=5) (H.os 0) hk122z rfl) (H.ol 0)))) ?_
     refine kg 1 ?_
     refine s_val (x_ncE (p:=vat v31z 1 (Int.toNat 0)) rfl (Sl.pl (i:=0) (H.os 15) (by omega) (by omega))) ?_
     refine t_ost (k:=15) (i:=0) (l:=[(0:Int),(2:Int),(3:Int)]) (l':=([(0:Int),(2:Int),(3:Int)]).set 0 ((vl41).getD s11 0:Int)) (val:=I ((vl41).getD s11 0)) (L':=[cOwn (α:=Raw 0) 30 v94z ([rawV (fat (vat u0_2 2 (Int.toNat 0)) 0) hp77z,rawV (fat (vat u0_2 2 (Int.toNat 1)) 1) hp78z,rawV (fat (vat u0_2 2 (Int.toNat 3)) 0) hp79z,rawV (Pq b_5) (ptB _),rawV (Pq b_6) (ptB _),rawV (vat v31z 1 (Int.toNat 0)) hp80z,rawV (vat v31z 1 (Int.toNat 1)) hp81z,rawV (vat v31z 1 (Int.toNat 2)) hp82z,rawV (Pq b_7) (ptB _),rawV (vat v33z 1 (Int.toNat 0)) hp83z,rawV (vat v33z 1 (Int.toNat 2)) hp84z,rawV (Oq b_13 2) (ptB _),rawV (Oq b_13 3) (ptB _),rawV (fat (vat u0_8 3 (Int.toNat 0)) 0) hp85z,rawV (fat (vat u0_8 3 (Int.toNat 0)) 1) hp86z,rawV (fat (vat u0_8 3 (Int.toNat 1)) 2) hp87z,rawV (fat (vat u1_9 4 (Int.toNat 0)) 0) hp88z,rawV (fat (vat u1_9 4 (Int.toNat 0)) 1) hp89z,rawV (fat (vat u1_9 4 (Int.toNat 0)) 2) hp90z,rawV (vat u72z 1 (Int.toNat 0)) hp91z,rawV (vat v46z 1 (Int.toNat 2)) hp92z,rawV (vat v46z 1 (Int.toNat 5)) hp93z,rawV (Pq b_14) (ptB _),rawV (Pq b_15) (ptB _),rawV (Pq b_16) (ptB _),rawV (Pq b_17) (ptB _),rawV (Pq b_18) (ptB _)]),cBlk b_18 [I 2] 3,cBlk b_17 [I 410] 3,cBlk b_16 [I 1906] 3,cBlk b_15 [I 1900] 3,cBlk b_14 [I 1903] 3,cBlk b_13 [u0_8,u1_9,I r22,I r3] 28,cOwn (α:=Int) 3 v46z ([(0:Int),(499:Int),(500:Int),(3:Int),(4:Int),(400:Int),(250:Int),(0:Int),(2000:Int),(7:Int)]),cOwn (α:=Yr) 36 u0_8 r0,cDO 38 3 u1_9 rr2_10 r1,cRo Bs3_11,cBlk b_7 [I 300] 3,cBlk b_6 [I 200] 3,cBlk b_5 [I 7] 3,cOwn (α:=Int) 3 v33z ([(0:Int),(100:Int),(120:Int),(80:Int)]),cOwn (α:=Int) 3 v31z (([(0:Int),(2:Int),(3:Int)]).set 0 ((vl41).getD s11 0:Int)),cOwn (α:=Pk) 32 u0_2 r2,cOwn (α:=Int) 3 v1z (vl41)]) H rfl Sz3 (by omega) (by omega) ((vl41).getD s11 0:Int) rfl rfl rfl rfl rfl ?_
     intro w124z H
     refine s_nil ?_
     exact ⟨r2,7,200,([(0:Int),(2:Int),(3:Int)]).set 0 ((vl41).getD s11 0:Int),300,[(0:Int),(100:Int),(120:Int),(80:Int)],r22,r3,r0,r1,[(0:Int),(499:Int),(500:Int),(3:Int),(4:Int),(400:Int),(250:Int),(0:Int),(2000:Int),(7:Int)],1903,1900,1906,410,2,u0_2,v31z,v33z,u0_8,u1_9,v46z,rr2_10,Bs3_11,_,upds_of _ _ ⟨rfl,rfl,rfl,rfl,rfl,rfl,rfl,rfl,rfl,rfl,rfl,rfl,rfl,rfl,rfl,rfl,rfl,rfl,trivial⟩,hM,H,hf45z⟩
    replace hM:=M.e_f hM c121z
    refine W.byc ((n:Int)==6) (fun c125z=>?_) (fun c125z=>?_)
    ·replace hM:=M.e_t hM c125z
     have hk126z:(n:Int)=6:=eq_of_beq c125z
     obtain ⟨sd127z,hM⟩:=M.e_grd hM
     simp only [Bool.and_eq_true,decide_eq_true_eq] at sd127z
     refine kg 3 ?_
     refine s_val (x_ix (a:=v94z) (b:=I (n:Int)) (v:=vat v94z 1 (Int.toNat (n:Int))) rfl rfl (Sl.ix (α:=Raw 0) T39.und T39.size (H.os 0) (by omega) (by have hl_:=hl96z; omega))) ?_
     refine s_val (x_ld (p:=vat v94z 1 (Int.toNat (n:Int))) (v:=vat v31z 1 (Int.toNat 1)) rfl (ld_sc Sc30 (At.mono (raw_at (i:=(n:Int)) (k:=6) (H.os 0) hk126z rfl) (H.ol 0)))) ?_
     refine kg 1 ?_
     refine s_val (x_ncE (p:=vat v31z 1 (Int.toNat 1)) rfl (Sl.pl (i:=1) (H.os 15) (by omega) (by omega))) ?_
     refine t_ost (k:=15) (i:=1) (l:=[(0:Int),(2:Int),(3:Int)]) (l':=([(0:Int),(2:Int),(3:Int)]).set 1 ((vl41).getD s11 0:Int)) (val:=I ((vl41).getD s11 0)) (L':=[cOwn (α:=Raw 0) 30 v94z ([rawV (fat (vat u0_2 2 (Int.toNat 0)) 0) hp77z,rawV (fat (vat u0_2 2 (Int.toNat 1)) 1) hp78z,rawV (fat (vat u0_2 2 (Int.toNat 3)) 0) hp79z,rawV (Pq b_5) (ptB _),rawV (Pq b_6) (ptB _),rawV (vat v31z 1 (Int.toNat 0)) hp80z,rawV (vat v31z 1 (Int.toNat 1)) hp81z,rawV (vat v31z 1 (Int.toNat 2)) hp82z,rawV (Pq b_7) (ptB _),rawV (vat v33z 1 (Int.toNat 0)) hp83z,rawV (vat v33z 1 (Int.toNat 2)) hp84z,rawV (Oq b_13 2) (ptB _),rawV (Oq b_13 3) (ptB _),rawV (fat (vat u0_8 3 (Int.toNat 0)) 0) hp85z,rawV (fat (vat u0_8 3 (Int.toNat 0)) 1) hp86z,rawV (fat (vat u0_8 3 (Int.toNat 1)) 2) hp87z,rawV (fat (vat u1_9 4 (Int.toNat 0)) 0) hp88z,rawV (fat (vat u1_9 4 (Int.toNat 0)) 1) hp89z,rawV (fat (vat u1_9 4 (Int.toNat 0)) 2) hp90z,rawV (vat u72z 1 (Int.toNat 0)) hp91z,rawV (vat v46z 1 (Int.toNat 2)) hp92z,rawV (vat v46z 1 (Int.toNat 5)) hp93z,rawV (Pq b_14) (ptB _),rawV (Pq b_15) (ptB _),rawV (Pq b_16) (ptB _),rawV (Pq b_17) (ptB _),rawV (Pq b_18) (ptB _)]),cBlk b_18 [I 2] 3,cBlk b_17 [I 410] 3,cBlk b_16 [I 1906] 3,cBlk b_15 [I 1900] 3,cBlk b_14 [I 1903] 3,cBlk b_13 [u0_8,u1_9,I r22,I r3] 28,cOwn (α:=Int) 3 v46z ([(0:Int),(499:Int),(500:Int),(3:Int),(4:Int),(400:Int),(250:Int),(0:Int),(2000:Int),(7:Int)]),cOwn (α:=Yr) 36 u0_8 r0,cDO 38 3 u1_9 rr2_10 r1,cRo Bs3_11,cBlk b_7 [I 300] 3,cBlk b_6 [I 200] 3,cBlk b_5 [I 7] 3,cOwn (α:=Int) 3 v33z ([(0:Int),(100:Int),(120:Int),(80:Int)]),cOwn (α:=Int) 3 v31z (([(0:Int),(2:Int),(3:Int)]).set 1 ((vl41).getD s11 0:Int)),cOwn (α:=Pk) 32 u0_2 r2,cOwn (α:=Int) 3 v1z (vl41)]) H rfl Sz3 (by omega) (by omega) ((vl41).getD s11 0:Int) rfl rfl rfl rfl rfl ?_
     intro w128z H
     refine s_nil ?_
     exact ⟨r2,7,200,([(0:Int),(2:Int),(3:Int)]).set 1 ((vl41).getD s11 0:Int),300,[(0:Int),(100:Int),(120:Int),(80:Int)],r22,r3,r0,r1,[(0:Int),(499:Int),(500:Int),(3:Int),(4:Int),(400:Int),(250:Int),(0:Int),(2000:Int),(7:Int)],1903,1900,1906,410,2,u0_2,v31z,v33z,u0_8,u1_9,v46z,rr2_10,Bs3_11,_,upds_of _ _ ⟨rfl,rfl,rfl,rfl,rfl,rfl,rfl,rfl,rfl,rfl,rfl,rfl,rfl,rfl,rfl,rfl,rfl,rfl,trivial⟩,hM,H,hf45z⟩
    replace hM:=M.e_f hM c125z
    refine W.byc ((n:Int)==7) (fun c129z=>?_) (fun c129z=>?_)
    ·replace hM:=M.e_t hM c129z
     have hk130z:(n:Int)=7:=eq_of_beq c129z
     obtain ⟨sd131z,hM⟩:=M.e_grd hM
     simp only [Bool.and_eq_true,decide_eq_true_eq] at sd131z
     refine kg 3 ?_
     refine s_val (x_ix (a:=v94z) (b:=I (n:Int)) (v:=vat v94z 1 (Int.toNat (n:Int))) rfl rfl (Sl.ix (α:=Raw 0) T39.und T39.size (H.os 0) (by omega) (by have hl_:=hl96z; omega))) ?_
     refine s_val (x_ld (p:=vat v94z 1 (Int.toNat (n:Int))) (v:=vat v31z 1 (Int.toNat 2)) rfl (ld_sc Sc30 (At.mono (raw_at (i:=(n:Int)) (k:=7) (H.os 0) hk130z rfl) (H.ol 0)))) ?_
     refine kg 1 ?_
     refine s_val (x_ncE (p:=vat v31z 1 (Int.toNat 2)) rfl (Sl.pl (i:=2) (H.os 15) (by omega) (by omega))) ?_
     refine t_ost (k:=15) (i:=2) (l:=[(0:Int),(2:Int),(3:Int)]) (l':=([(0:Int),(2:Int),(3:Int)]).set 2 ((vl41).getD s11 0:Int)) (val:=I ((vl41).getD s11 0)) (L':=[cOwn (α:=Raw 0) 30 v94z ([rawV (fat (vat u0_2 2 (Int.toNat 0)) 0) hp77z,rawV (fat (vat u0_2 2 (Int.toNat 1)) 1) hp78z,rawV (fat (vat u0_2 2 (Int.toNat 3)) 0) hp79z,rawV (Pq b_5) (ptB _),rawV (Pq b_6) (ptB _),rawV (vat v31z 1 (Int.toNat 0)) hp80z,rawV (vat v31z 1 (Int.toNat 1)) hp81z,rawV (vat v31z 1 (Int.toNat 2)) hp82z,rawV (Pq b_7) (ptB _),rawV (vat v33z 1 (Int.toNat 0)) hp83z,rawV (vat v33z 1 (Int.toNat 2)) hp84z,rawV (Oq b_13 2) (ptB _),rawV (Oq b_13 3) (ptB _),rawV (fat (vat u0_8 3 (Int.toNat 0)) 0) hp85z,rawV (fat (vat u0_8 3 (Int.toNat 0)) 1) hp86z,rawV (fat (vat u0_8 3 (Int.toNat 1)) 2) hp87z,rawV (fat (vat u1_9 4 (Int.toNat 0)) 0) hp88z,rawV (fat (vat u1_9 4 (Int.toNat 0)) 1) hp89z,rawV (fat (vat u1_9 4 (Int.toNat 0)) 2) hp90z,rawV (vat u72z 1 (Int.toNat 0)) hp91z,rawV (vat v46z 1 (Int.toNat 2)) hp92z,rawV (vat v46z 1 (Int.toNat 5)) hp93z,rawV (Pq b_14) (ptB _),rawV (Pq b_15) (ptB _),rawV (Pq b_16) (ptB _),rawV (Pq b_17) (ptB _),rawV (Pq b_18) (ptB _)]),cBlk b_18 [I 2] 3,cBlk b_17 [I 410] 3,cBlk b_16 [I 1906] 3,cBlk b_15 [I 1900] 3,cBlk b_14 [I 1903] 3,cBlk b_13 [u0_8,u1_9,I r22,I r3] 28,cOwn (α:=Int) 3 v46z ([(0:Int),(499:Int),(500:Int),(3:Int),(4:Int),(400:Int),(250:Int),(0:Int),(2000:Int),(7:Int)]),cOwn (α:=Yr) 36 u0_8 r0,cDO 38 3 u1_9 rr2_10 r1,cRo Bs3_11,cBlk b_7 [I 300] 3,cBlk b_6 [I 200] 3,cBlk b_5 [I 7] 3,cOwn (α:=Int) 3 v33z ([(0:Int),(100:Int),(120:Int),(80:Int)]),cOwn (α:=Int) 3 v31z (([(0:Int),(2:Int),(3:Int)]).set 2 ((vl41).getD s11 0:Int)),cOwn (α:=Pk) 32 u0_2 r2,cOwn (α:=Int) 3 v1z (vl41)]) H rfl Sz3 (by omega) (by omega) ((vl41).getD s11 0:Int) rfl rfl rfl rfl rfl ?_
     intro w132z H
     refine s_nil ?_
     exact ⟨r2,7,200,([(0:Int),(2:Int),(3:Int)]).set 2 ((vl41).getD s11 0:Int),300,[(0:Int),(100:Int),(120:Int),(80:Int)],r22,r3,r0,r1,[(0:Int),(499:Int),(500:Int),(3:Int),(4:Int),(400:Int),(250:Int),(0:Int),(2000:Int),(7:Int)],1903,1900,1906,410,2,u0_2,v31z,v33z,u0_8,u1_9,v46z,rr2_10,Bs3_11,_,upds_of _ _ ⟨rfl,rfl,rfl,rfl,rfl,rfl,rfl,rfl,rfl,rfl,rfl,rfl,rfl,rfl,rfl,rfl,rfl,rfl,trivial⟩,hM,H,hf45z⟩
    replace hM:=M.e_f hM c129z
    refine W.byc ((n:Int)==8) (fun c133z=>?_) (fun c133z=>?_)
    ·replace hM:=M.e_t hM c133z
     have hk134z:(n:Int)=8:=eq_of_beq c133z
     obtain ⟨sd135z,hM⟩:=M.e_grd hM
     simp only [Bool.and_eq_true,decide_eq_true_eq] at sd135z
     refine kg 3 ?_
     refine s_val (x_ix (a:=v94z) (b:=I (n:Int)) (v:=vat v94z 1 (Int.toNat (n:Int))) rfl rfl (Sl.ix (α:=Raw 0) T39.und T39.size (H.os 0) (by omega) (by have hl_:=hl96z; omega))) ?_
     refine s_val (x_ld (p:=vat v94z 1 (Int.toNat (n:Int))) (v:=Pq b_7) rfl (ld_sc Sc30 (At.mono (raw_at (i:=(n:Int)) (k:=8) (H.os 0) hk134z rfl) (H.ol 0)))) ?_
     refine kg 2 ?_
     refine t_sw 11 0 [I ((vl41).getD s11 0)] (I ((vl41).getD s11 0)) H rfl rfl Sz3 rfl rfl rfl rfl ?_
     intro w136z H
     refine s_nil ?_
     exact ⟨r2,7,200,[(0:Int),(2:Int),(3:Int)],(vl41).getD s11 0,[(0:Int),(100:Int),(120:Int),(80:Int)],r22,r3,r0,r1,[(0:Int),(499:Int),(500:Int),(3:Int),(4:Int),(400:Int),(250:Int),(0:Int),(2000:Int),(7:Int)],1903,1900,1906,410,2,u0_2,v31z,v33z,u0_8,u1_9,v46z,rr2_10,Bs3_11,_,upds_of _ _ ⟨rfl,rfl,rfl,rfl,rfl,rfl,rfl,rfl,rfl,rfl,rfl,rfl,rfl,rfl,rfl,rfl,rfl,rfl,trivial⟩,hM,H,hf45z⟩
    replace hM:=M.e_f hM c133z
    refine W.byc ((n:Int)==9) (fun c137z=>?_) (fun c137z=>?_)
    ·replace hM:=M.e_t hM c137z
     have hk138z:(n:Int)=9:=eq_of_beq c137z
     obtain ⟨sd139z,hM⟩:=M.e_grd hM
     simp only [Bool.and_eq_true,decide_eq_true_eq] at sd139z
     refine kg 3 ?_
     refine s_val (x_ix (a:=v94z) (b:=I (n:Int)) (v:=vat v94z 1 (Int.toNat (n:Int))) rfl rfl (Sl.ix (α:=Raw 0) T39.und T39.size (H.os 0) (by omega) (by have hl_:=hl96z; omega))) ?_
     refine s_val (x_ld (p:=vat v94z 1 (Int.toNat (n:Int))) (v:=vat v33z 1 (Int.toNat 0)) rfl (ld_sc Sc30 (At.mono (raw_at (i:=(n:Int)) (k:=9) (H.os 0) hk138z rfl) (H.ol 0)))) ?_
     refine kg 1 ?_
     refine s_val (x_ncE (p:=vat v33z 1 (Int.toNat 0)) rfl (Sl.pl (i:=0) (H.os 14) (by omega) (by omega))) ?_
     refine t_ost (k:=14) (i:=0) (l:=[(0:Int),(100:Int),(120:Int),(80:Int)]) (l':=([(0:Int),(100:Int),(120:Int),(80:Int)]).set 0 ((vl41).getD s11 0:Int)) (val:=I ((vl41).getD s11 0)) (L':=[cOwn (α:=Raw 0) 30 v94z ([rawV (fat (vat u0_2 2 (Int.toNat 0)) 0) hp77z,rawV (fat (vat u0_2 2 (Int.toNat 1)) 1) hp78z,rawV (fat (vat u0_2 2 (Int.toNat 3)) 0) hp79z,rawV (Pq b_5) (ptB _),rawV (Pq b_6) (ptB _),rawV (vat v31z 1 (Int.toNat 0)) hp80z,rawV (vat v31z 1 (Int.toNat 1)) hp81z,rawV (vat v31z 1 (Int.toNat 2)) hp82z,rawV (Pq b_7) (ptB _),rawV (vat v33z 1 (Int.toNat 0)) hp83z,rawV (vat v33z 1 (Int.toNat 2)) hp84z,rawV (Oq b_13 2) (ptB _),rawV (Oq b_13 3) (ptB _),rawV (fat (vat u0_8 3 (Int.toNat 0)) 0) hp85z,rawV (fat (vat u0_8 3 (Int.toNat 0)) 1) hp86z,rawV (fat (vat u0_8 3 (Int.toNat 1)) 2) hp87z,rawV (fat (vat u1_9 4 (Int.toNat 0)) 0) hp88z,rawV (fat (vat u1_9 4 (Int.toNat 0)) 1) hp89z,rawV (fat (vat u1_9 4 (Int.toNat 0)) 2) hp90z,rawV (vat u72z 1 (Int.toNat 0)) hp91z,rawV (vat v46z 1 (Int.toNat 2)) hp92z,rawV (vat v46z 1 (Int.toNat 5)) hp93z,rawV (Pq b_14) (ptB _),rawV (Pq b_15) (ptB _),rawV (Pq b_16) (ptB _),rawV (Pq b_17) (ptB _),rawV (Pq b_18) (ptB _)]),cBlk b_18 [I 2] 3,cBlk b_17 [I 410] 3,cBlk b_16 [I 1906] 3,cBlk b_15 [I 1900] 3,cBlk b_14 [I 1903] 3,cBlk b_13 [u0_8,u1_9,I r22,I r3] 28,cOwn (α:=Int) 3 v46z ([(0:Int),(499:Int),(500:Int),(3:Int),(4:Int),(400:Int),(250:Int),(0:Int),(2000:Int),(7:Int)]),cOwn (α:=Yr) 36 u0_8 r0,cDO 38 3 u1_9 rr2_10 r1,cRo Bs3_11,cBlk b_7 [I 300] 3,cBlk b_6 [I 200] 3,cBlk b_5 [I 7] 3,cOwn (α:=Int) 3 v33z (([(0:Int),(100:Int),(120:Int),(80:Int)]).set 0 ((vl41).getD s11 0:Int)),cOwn (α:=Int) 3 v31z ([(0:Int),(2:Int),(3:Int)]),cOwn (α:=Pk) 32 u0_2 r2,cOwn (α:=Int) 3 v1z (vl41)]) H rfl Sz3 (by omega) (by omega) ((vl41).getD s11 0:Int) rfl rfl rfl rfl rfl ?_
     intro w140z H
     refine s_nil ?_
     exact ⟨r2,7,200,[(0:Int),(2:Int),(3:Int)],300,([(0:Int),(100:Int),(120:Int),(80:Int)]).set 0 ((vl41).getD s11 0:Int),r22,r3,r0,r1,[(0:Int),(499:Int),(500:Int),(3:Int),(4:Int),(400:Int),(250:Int),(0:Int),(2000:Int),(7:Int)],1903,1900,1906,410,2,u0_2,v31z,v33z,u0_8,u1_9,v46z,rr2_10,Bs3_11,_,upds_of _ _ ⟨rfl,rfl,rfl,rfl,rfl,rfl,rfl,rfl,rfl,rfl,rfl,rfl,rfl,rfl,rfl,rfl,rfl,rfl,trivial⟩,hM,H,hf45z⟩
    replace hM:=M.e_f hM c137z
    refine W.byc ((n:Int)==10) (fun c141z=>?_) (fun c141z=>?_)
    ·replace hM:=M.e_t hM c141z
     have hk142z:(n:Int)=10:=eq_of_beq c141z
     obtain ⟨sd143z,hM⟩:=M.e_grd hM
     simp only [Bool.and_eq_true,decide_eq_true_eq] at sd143z
     refine kg 3 ?_
     refine s_val (x_ix (a:=v94z) (b:=I (n:Int)) (v:=vat v94z 1 (Int.toNat (n:Int))) rfl rfl (Sl.ix (α:=Raw 0) T39.und T39.size (H.os 0) (by omega) (by have hl_:=hl96z; omega))) ?_
     refine s_val (x_ld (p:=vat v94z 1 (Int.toNat (n:Int))) (v:=vat v33z 1 (Int.toNat 2)) rfl (ld_sc Sc30 (At.mono (raw_at (i:=(n:Int)) (k:=10) (H.os 0) hk142z rfl) (H.ol 0)))) ?_
     refine kg 1 ?_
     refine s_val (x_ncE (p:=vat v33z 1 (Int.toNat 2)) rfl (Sl.pl (i:=2) (H.os 14) (by omega) (by omega))) ?_
     refine t_ost (k:=14) (i:=2) (l:=[(0:Int),(100:Int),(120:Int),(80:Int)]) (l':=([(0:Int),(100:Int),(120:Int),(80:Int)]).set 2 ((vl41).getD s11 0:Int)) (val:=I ((vl41).getD s11 0)) (L':=[cOwn (α:=Raw 0) 30 v94z ([rawV (fat (vat u0_2 2 (Int.toNat 0)) 0) hp77z,rawV (fat (vat u0_2 2 (Int.toNat 1)) 1) hp78z,rawV (fat (vat u0_2 2 (Int.toNat 3)) 0) hp79z,rawV (Pq b_5) (ptB _),rawV (Pq b_6) (ptB _),rawV (vat v31z 1 (Int.toNat 0)) hp80z,rawV (vat v31z 1 (Int.toNat 1)) hp81z,rawV (vat v31z 1 (Int.toNat 2)) hp82z,rawV (Pq b_7) (ptB _),rawV (vat v33z 1 (Int.toNat 0)) hp83z,rawV (vat v33z 1 (Int.toNat 2)) hp84z,rawV (Oq b_13 2) (ptB _),rawV (Oq b_13 3) (ptB _),rawV (fat (vat u0_8 3 (Int.toNat 0)) 0) hp85z,rawV (fat (vat u0_8 3 (Int.toNat 0)) 1) hp86z,rawV (fat (vat u0_8 3 (Int.toNat 1)) 2) hp87z,rawV (fat (vat u1_9 4 (Int.toNat 0)) 0) hp88z,rawV (fat (vat u1_9 4 (Int.toNat 0)) 1) hp89z,rawV (fat (vat u1_9 4 (Int.toNat 0)) 2) hp90z,rawV (vat u72z 1 (Int.toNat 0)) hp91z,rawV (vat v46z 1 (Int.toNat 2)) hp92z,rawV (vat v46z 1 (Int.toNat 5)) hp93z,rawV (Pq b_14) (ptB _),rawV (Pq b_15) (ptB _),rawV (Pq b_16) (ptB _),rawV (Pq b_17) (ptB _),rawV (Pq b_18) (ptB _)]),cBlk b_18 [I 2] 3,cBlk b_17 [I 410] 3,cBlk b_16 [I 1906] 3,cBlk b_15 [I 1900] 3,cBlk b_14 [I 1903] 3,cBlk b_13 [u0_8,u1_9,I r22,I r3] 28,cOwn (α:=Int) 3 v46z ([(0:Int),(499:Int),(500:Int),(3:Int),(4:Int),(400:Int),(250:Int),(0:Int),(2000:Int),(7:Int)]),cOwn (α:=Yr) 36 u0_8 r0,cDO 38 3 u1_9 rr2_10 r1,cRo Bs3_11,cBlk b_7 [I 300] 3,cBlk b_6 [I 200] 3,cBlk b_5 [I 7] 3,cOwn (α:=Int) 3 v33z (([(0:Int),(100:Int),(120:Int),(80:Int)]).set 2 ((vl41).getD s11 0:Int)),cOwn (α:=Int) 3 v31z ([(0:Int),(2:Int),(3:Int)]),cOwn (α:=Pk) 32 u0_2 r2,cOwn (α:=Int) 3 v1z (vl41)]) H rfl Sz3 (by omega) (by omega) ((vl41).getD s11 0:Int) rfl rfl rfl rfl rfl ?_
     intro w144z H
     refine s_nil ?_
     exact ⟨r2,7,200,[(0:Int),(2:Int),(3:Int)],300,([(0:Int),(100:Int),(120:Int),(80:Int)]).set 2 ((vl41).getD s11 0:Int),r22,r3,r0,r1,[(0:Int),(499:Int),(500:Int),(3:Int),(4:Int),(400:Int),(250:Int),(0:Int),(2000:Int),(7:Int)],1903,1900,1906,410,2,u0_2,v31z,v33z,u0_8,u1_9,v46z,rr2_10,Bs3_11,_,upds_of _ _ ⟨rfl,rfl,rfl,rfl,rfl,rfl,rfl,rfl,rfl,rfl,rfl,rfl,rfl,rfl,rfl,rfl,rfl,rfl,trivial⟩,hM,H,hf45z⟩
    replace hM:=M.e_f hM c141z
    refine W.byc ((n:Int)==11) (fun c145z=>?_) (fun c145z=>?_)
    ·replace hM:=M.e_t hM c145z
     have hk146z:(n:Int)=11:=eq_of_beq c145z
     obtain ⟨sd147z,hM⟩:=M.e_grd hM
     simp only [Bool.and_eq_true,decide_eq_true_eq] at sd147z
     refine kg 3 ?_
     refine s_val (x_ix (a:=v94z) (b:=I (n:Int)) (v:=vat v94z 1 (Int.toNat (n:Int))) rfl rfl (Sl.ix (α:=Raw 0) T39.und T39.size (H.os 0) (by omega) (by have hl_:=hl96z; omega))) ?_
     refine s_val (x_ld (p:=vat v94z 1 (Int.toNat (n:Int))) (v:=Oq b_13 2) rfl (ld_sc Sc30 (At.mono (raw_at (i:=(n:Int)) (k:=11) (H.os 0) hk146z rfl) (H.ol 0)))) ?_
     refine kg 2 ?_
     refine t_sw 6 2 [I ((vl41).getD s11 0)] (I ((vl41).getD s11 0)) H rfl rfl Sz3 rfl rfl rfl rfl ?_
     intro w148z H
     refine s_nil ?_
     exact ⟨r2,7,200,[(0:Int),(2:Int),(3:Int)],300,[(0:Int),(100:Int),(120:Int),(80:Int)],(vl41).getD s11 0,r3,r0,r1,[(0:Int),(499:Int),(500:Int),(3:Int),(4:Int),(400:Int),(250:Int),(0:Int),(2000:Int),(7:Int)],1903,1900,1906,410,2,u0_2,v31z,v33z,u0_8,u1_9,v46z,rr2_10,Bs3_11,_,upds_of _ _ ⟨rfl,rfl,rfl,rfl,rfl,rfl,rfl,rfl,rfl,rfl,rfl,rfl,rfl,rfl,rfl,rfl,rfl,rfl,trivial⟩,hM,H,hf45z⟩
    replace hM:=M.e_f hM c145z
    refine W.byc ((n:Int)==12) (fun c149z=>?_) (fun c149z=>?_)
    ·replace hM:=M.e_t hM c149z
     have hk150z:(n:Int)=12:=eq_of_beq c149z
     obtain ⟨sd151z,hM⟩:=M.e_grd hM
     simp only [Bool.and_eq_true,decide_eq_true_eq] at sd151z
     refine kg 3 ?_
     refine s_val (x_ix (a:=v94z) (b:=I (n:Int)) (v:=vat v94z 1 (Int.toNat (n:Int))) rfl rfl (Sl.ix (α:=Raw 0) T39.und T39.size (H.os 0) (by omega) (by have hl_:=hl96z; omega))) ?_
     refine s_val (x_ld (p:=vat v94z 1 (Int.toNat (n:Int))) (v:=Oq b_13 3) rfl (ld_sc Sc30 (At.mono (raw_at (i:=(n:Int)) (k:=12) (H.os 0) hk150z rfl) (H.ol 0)))) ?_
     refine kg 2 ?_
     refine t_sw 6 3 [I ((vl41).getD s11 0)] (I ((vl41).getD s11 0)) H rfl rfl Sz3 rfl rfl rfl rfl ?_
     intro w152z H
     refine s_nil ?_
     exact ⟨r2,7,200,[(0:Int),(2:Int),(3:Int)],300,[(0:Int),(100:Int),(120:Int),(80:Int)],r22,(vl41).getD s11 0,r0,r1,[(0:Int),(499:Int),(500:Int),(3:Int),(4:Int),(400:Int),(250:Int),(0:Int),(2000:Int),(7:Int)],1903,1900,1906,410,2,u0_2,v31z,v33z,u0_8,u1_9,v46z,rr2_10,Bs3_11,_,upds_of _ _ ⟨rfl,rfl,rfl,rfl,rfl,rfl,rfl,rfl,rfl,rfl,rfl,rfl,rfl,rfl,rfl,rfl,rfl,rfl,trivial⟩,hM,H,hf45z⟩
    replace hM:=M.e_f hM c149z
    refine W.byc ((n:Int)==13) (fun c153z=>?_) (fun c153z=>?_)
    ·replace hM:=M.e_t hM c153z
     have hk154z:(n:Int)=13:=eq_of_beq c153z
     obtain ⟨sd155z,hM⟩:=M.e_grd hM
     simp only [Bool.and_eq_true,decide_eq_true_eq] at sd155z
     refine kg 3 ?_
     refine s_val (x_ix (a:=v94z) (b:=I (n:Int)) (v:=vat v94z 1 (Int.toNat (n:Int))) rfl rfl (Sl.ix (α:=Raw 0) T39.und T39.size (H.os 0) (by omega) (by have hl_:=hl96z; omega))) ?_
     refine s_val (x_ld (p:=vat v94z 1 (Int.toNat (n:Int))) (v:=fat (vat u0_8 3 (Int.toNat 0)) 0) rfl (ld_sc Sc30 (At.mono (raw_at (i:=(n:Int)) (k:=13) (H.os 0) hk154z rfl) (H.ol 0)))) ?_
     refine kg 1 ?_
     refine s_val (x_ncE (p:=fat (vat u0_8 3 (Int.toNat 0)) 0) rfl (ptr_fat (Sl.pl (i:=0) (H.os 8) (by omega) (by omega)))) ?_
     refine t_fst (α:=Yr) (k:=8) (i:=0) (off:=0) (l:=r0) (l':=r0.set 0 ({ (r0.getD 0 default) with year:=(vl41).getD s11 0 })) (val:=I ((vl41).getD s11 0)) (L':=[cOwn (α:=Raw 0) 30 v94z ([rawV (fat (vat u0_2 2 (Int.toNat 0)) 0) hp77z,rawV (fat (vat u0_2 2 (Int.toNat 1)) 1) hp78z,rawV (fat (vat u0_2 2 (Int.toNat 3)) 0) hp79z,rawV (Pq b_5) (ptB _),rawV (Pq b_6) (ptB _),rawV (vat v31z 1 (Int.toNat 0)) hp80z,rawV (vat v31z 1 (Int.toNat 1)) hp81z,rawV (vat v31z 1 (Int.toNat 2)) hp82z,rawV (Pq b_7) (ptB _),rawV (vat v33z 1 (Int.toNat 0)) hp83z,rawV (vat v33z 1 (Int.toNat 2)) hp84z,rawV (Oq b_13 2) (ptB _),rawV (Oq b_13 3) (ptB _),rawV (fat (vat u0_8 3 (Int.toNat 0)) 0) hp85z,rawV (fat (vat u0_8 3 (Int.toNat 0)) 1) hp86z,rawV (fat (vat u0_8 3 (Int.toNat 1)) 2) hp87z,rawV (fat (vat u1_9 4 (Int.toNat 0)) 0) hp88z,rawV (fat (vat u1_9 4 (Int.toNat 0)) 1) hp89z,rawV (fat (vat u1_9 4 (Int.toNat 0)) 2) hp90z,rawV (vat u72z 1 (Int.toNat 0)) hp91z,rawV (vat v46z 1 (Int.toNat 2)) hp92z,rawV (vat v46z 1 (Int.toNat 5)) hp93z,rawV (Pq b_14) (ptB _),rawV (Pq b_15) (ptB _),rawV (Pq b_16) (ptB _),rawV (Pq b_17) (ptB _),rawV (Pq b_18) (ptB _)]),cBlk b_18 [I 2] 3,cBlk b_17 [I 410] 3,cBlk b_16 [I 1906] 3,cBlk b_15 [I 1900] 3,cBlk b_14 [I 1903] 3,cBlk b_13 [u0_8,u1_9,I r22,I r3] 28,cOwn (α:=Int) 3 v46z ([(0:Int),(499:Int),(500:Int),(3:Int),(4:Int),(400:Int),(250:Int),(0:Int),(2000:Int),(7:Int)]),cOwn (α:=Yr) 36 u0_8 (r0.set 0 ({ (r0.getD 0 default) with year:=(vl41).getD s11 0 })),cDO 38 3 u1_9 rr2_10 r1,cRo Bs3_11,cBlk b_7 [I 300] 3,cBlk b_6 [I 200] 3,cBlk b_5 [I 7] 3,cOwn (α:=Int) 3 v33z ([(0:Int),(100:Int),(120:Int),(80:Int)]),cOwn (α:=Int) 3 v31z ([(0:Int),(2:Int),(3:Int)]),cOwn (α:=Pk) 32 u0_2 r2,cOwn (α:=Int) 3 v1z (vl41)]) H rfl Sz3 (by omega) (by omega) (r0.getD 0 default) ({ (r0.getD 0 default) with year:=(vl41).getD s11 0 }) (getD_some _ (by omega) _) rfl rfl [I ((vl41).getD s11 0)] rfl rfl rfl rfl rfl rfl rfl ?_
     intro w156z H
     have hls_q157z:(r0.set 0 ({ (r0.getD 0 default) with year:=(vl41).getD s11 0 })).length=(r0).length:=List.length_set
     refine s_nil ?_
     exact ⟨r2,7,200,[(0:Int),(2:Int),(3:Int)],300,[(0:Int),(100:Int),(120:Int),(80:Int)],r22,r3,r0.set 0 ({ (r0.getD 0 default) with year:=(vl41).getD s11 0 }),r1,[(0:Int),(499:Int),(500:Int),(3:Int),(4:Int),(400:Int),(250:Int),(0:Int),(2000:Int),(7:Int)],1903,1900,1906,410,2,u0_2,v31z,v33z,u0_8,u1_9,v46z,rr2_10,Bs3_11,_,upds_of _ _ ⟨rfl,rfl,rfl,rfl,rfl,rfl,rfl,rfl,rfl,rfl,rfl,rfl,rfl,rfl,rfl,rfl,rfl,rfl,trivial⟩,hM,H,hf45z⟩
    replace hM:=M.e_f hM c153z
    refine W.byc ((n:Int)==14) (fun c158z=>?_) (fun c158z=>?_)
    ·replace hM:=M.e_t hM c158z
     have hk159z:(n:Int)=14:=eq_of_beq c158z
     obtain ⟨sd160z,hM⟩:=M.e_grd hM
     simp only [Bool.and_eq_true,decide_eq_true_eq] at sd160z
     refine kg 3 ?_
     refine s_val (x_ix (a:=v94z) (b:=I (n:Int)) (v:=vat v94z 1 (Int.toNat (n:Int))) rfl rfl (Sl.ix (α:=Raw 0) T39.und T39.size (H.os 0) (by omega) (by have hl_:=hl96z; omega))) ?_
     refine s_val (x_ld (p:=vat v94z 1 (Int.toNat (n:Int))) (v:=fat (vat u0_8 3 (Int.toNat 0)) 1) rfl (ld_sc Sc30 (At.mono (raw_at (i:=(n:Int)) (k:=14) (H.os 0) hk159z rfl) (H.ol 0)))) ?_
     refine kg 1 ?_
     refine s_val (x_ncE (p:=fat (vat u0_8 3 (Int.toNat 0)) 1) rfl (ptr_fat (Sl.pl (i:=0) (H.os 8) (by omega) (by omega)))) ?_
     refine t_fst (α:=Yr) (k:=8) (i:=0) (off:=1) (l:=r0) (l':=r0.set 0 ({ (r0.getD 0 default) with lo:=(vl41).getD s11 0 })) (val:=I ((vl41).getD s11 0)) (L':=[cOwn (α:=Raw 0) 30 v94z ([rawV (fat (vat u0_2 2 (Int.toNat 0)) 0) hp77z,rawV (fat (vat u0_2 2 (Int.toNat 1)) 1) hp78z,rawV (fat (vat u0_2 2 (Int.toNat 3)) 0) hp79z,rawV (Pq b_5) (ptB _),rawV (Pq b_6) (ptB _),rawV (vat v31z 1 (Int.toNat 0)) hp80z,rawV (vat v31z 1 (Int.toNat 1)) hp81z,rawV (vat v31z 1 (Int.toNat 2)) hp82z,rawV (Pq b_7) (ptB _),rawV (vat v33z 1 (Int.toNat 0)) hp83z,rawV (vat v33z 1 (Int.toNat 2)) hp84z,rawV (Oq b_13 2) (ptB _),rawV (Oq b_13 3) (ptB _),rawV (fat (vat u0_8 3 (Int.toNat 0)) 0) hp85z,rawV (fat (vat u0_8 3 (Int.toNat 0)) 1) hp86z,rawV (fat (vat u0_8 3 (Int.toNat 1)) 2) hp87z,rawV (fat (vat u1_9 4 (Int.toNat 0)) 0) hp88z,rawV (fat (vat u1_9 4 (Int.toNat 0)) 1) hp89z,rawV (fat (vat u1_9 4 (Int.toNat 0)) 2) hp90z,rawV (vat u72z 1 (Int.toNat 0)) hp91z,rawV (vat v46z 1 (Int.toNat 2)) hp92z,rawV (vat v46z 1 (Int.toNat 5)) hp93z,rawV (Pq b_14) (ptB _),rawV (Pq b_15) (ptB _),rawV (Pq b_16) (ptB _),rawV (Pq b_17) (ptB _),rawV (Pq b_18) (ptB _)]),cBlk b_18 [I 2] 3,cBlk b_17 [I 410] 3,cBlk b_16 [I 1906] 3,cBlk b_15 [I 1900] 3,cBlk b_14 [I 1903] 3,cBlk b_13 [u0_8,u1_9,I r22,I r3] 28,cOwn (α:=Int) 3 v46z ([(0:Int),(499:Int),(500:Int),(3:Int),(4:Int),(400:Int),(250:Int),(0:Int),(2000:Int),(7:Int)]),cOwn (α:=Yr) 36 u0_8 (r0.set 0 ({ (r0.getD 0 default) with lo:=(vl41).getD s11 0 })),cDO 38 3 u1_9 rr2_10 r1,cRo Bs3_11,cBlk b_7 [I 300] 3,cBlk b_6 [I 200] 3,cBlk b_5 [I 7] 3,cOwn (α:=Int) 3 v33z ([(0:Int),(100:Int),(120:Int),(80:Int)]),cOwn (α:=Int) 3 v31z ([(0:Int),(2:Int),(3:Int)]),cOwn (α:=Pk) 32 u0_2 r2,cOwn (α:=Int) 3 v1z (vl41)]) H rfl Sz3 (by omega) (by omega) (r0.getD 0 default) ({ (r0.getD 0 default) with lo:=(vl41).getD s11 0 }) (getD_some _ (by omega) _) rfl rfl [I ((vl41).getD s11 0)] rfl rfl rfl rfl rfl rfl rfl ?_
     intro w161z H
     have hls_q162z:(r0.set 0 ({ (r0.getD 0 default) with lo:=(vl41).getD s11 0 })).length=(r0).length:=List.length_set
     refine s_nil ?_
     exact ⟨r2,7,200,[(0:Int),(2:Int),(3:Int)],300,[(0:Int),(100:Int),(120:Int),(80:Int)],r22,r3,r0.set 0 ({ (r0.getD 0 default) with lo:=(vl41).getD s11 0 }),r1,[(0:Int),(499:Int),(500:Int),(3:Int),(4:Int),(400:Int),(250:Int),(0:Int),(2000:Int),(7:Int)],1903,1900,1906,410,2,u0_2,v31z,v33z,u0_8,u1_9,v46z,rr2_10,Bs3_11,_,upds_of _ _ ⟨rfl,rfl,rfl,rfl,rfl,rfl,rfl,rfl,rfl,rfl,rfl,rfl,rfl,rfl,rfl,rfl,rfl,rfl,trivial⟩,hM,H,hf45z⟩
    replace hM:=M.e_f hM c158z
    refine W.byc ((n:Int)==15) (fun c163z=>?_) (fun c163z=>?_)
    ·replace hM:=M.e_t hM c163z
     have hk164z:(n:Int)=15:=eq_of_beq c163z
     obtain ⟨sd165z,hM⟩:=M.e_grd hM
     simp only [Bool.and_eq_true,decide_eq_true_eq] at sd165z
     refine kg 3 ?_
     refine s_val (x_ix (a:=v94z) (b:=I (n:Int)) (v:=vat v94z 1 (Int.toNat (n:Int))) rfl rfl (Sl.ix (α:=Raw 0) T39.und T39.size (H.os 0) (by omega) (by have hl_:=hl96z; omega))) ?_
     refine s_val (x_ld (p:=vat v94z 1 (Int.toNat (n:Int))) (v:=fat (vat u0_8 3 (Int.toNat 1)) 2) rfl (ld_sc Sc30 (At.mono (raw_at (i:=(n:Int)) (k:=15) (H.os 0) hk164z rfl) (H.ol 0)))) ?_
     refine kg 1 ?_
     refine s_val (x_ncE (p:=fat (vat u0_8 3 (Int.toNat 1)) 2) rfl (ptr_fat (Sl.pl (i:=1) (H.os 8) (by omega) (by omega)))) ?_
     refine t_fst (α:=Yr) (k:=8) (i:=1) (off:=2) (l:=r0) (l':=r0.set 1 ({ (r0.getD 1 default) with hi:=(vl41).getD s11 0 })) (val:=I ((vl41).getD s11 0)) (L':=[cOwn (α:=Raw 0) 30 v94z ([rawV (fat (vat u0_2 2 (Int.toNat 0)) 0) hp77z,rawV (fat (vat u0_2 2 (Int.toNat 1)) 1) hp78z,rawV (fat (vat u0_2 2 (Int.toNat 3)) 0) hp79z,rawV (Pq b_5) (ptB _),rawV (Pq b_6) (ptB _),rawV (vat v31z 1 (Int.toNat 0)) hp80z,rawV (vat v31z 1 (Int.toNat 1)) hp81z,rawV (vat v31z 1 (Int.toNat 2)) hp82z,rawV (Pq b_7) (ptB _),rawV (vat v33z 1 (Int.toNat 0)) hp83z,rawV (vat v33z 1 (Int.toNat 2)) hp84z,rawV (Oq b_13 2) (ptB _),rawV (Oq b_13 3) (ptB _),rawV (fat (vat u0_8 3 (Int.toNat 0)) 0) hp85z,rawV (fat (vat u0_8 3 (Int.toNat 0)) 1) hp86z,rawV (fat (vat u0_8 3 (Int.toNat 1)) 2) hp87z,rawV (fat (vat u1_9 4 (Int.toNat 0)) 0) hp88z,rawV (fat (vat u1_9 4 (Int.toNat 0)) 1) hp89z,rawV (fat (vat u1_9 4 (Int.toNat 0)) 2) hp90z,rawV (vat u72z 1 (Int.toNat 0)) hp91z,rawV (vat v46z 1 (Int.toNat 2)) hp92z,rawV (vat v46z 1 (Int.toNat 5)) hp93z,rawV (Pq b_14) (ptB _),rawV (Pq b_15) (ptB _),rawV (Pq b_16) (ptB _),rawV (Pq b_17) (ptB _),rawV (Pq b_18) (ptB _)]),cBlk b_18 [I 2] 3,cBlk b_17 [I 410] 3,cBlk b_16 [I 1906] 3,cBlk b_15 [I 1900] 3,cBlk b_14 [I 1903] 3,cBlk b_13 [u0_8,u1_9,I r22,I r3] 28,cOwn (α:=Int) 3 v46z ([(0:Int),(499:Int),(500:Int),(3:Int),(4:Int),(400:Int),(250:Int),(0:Int),(2000:Int),(7:Int)]),cOwn (α:=Yr) 36 u0_8 (r0.set 1 ({ (r0.getD 1 default) with hi:=(vl41).getD s11 0 })),cDO 38 3 u1_9 rr2_10 r1,cRo Bs3_11,cBlk b_7 [I 300] 3,cBlk b_6 [I 200] 3,cBlk b_5 [I 7] 3,cOwn (α:=Int) 3 v33z ([(0:Int),(100:Int),(120:Int),(80:Int)]),cOwn (α:=Int) 3 v31z ([(0:Int),(2:Int),(3:Int)]),cOwn (α:=Pk) 32 u0_2 r2,cOwn (α:=Int) 3 v1z (vl41)]) H rfl Sz3 (by omega) (by omega) (r0.getD 1 default) ({ (r0.getD 1 default) with hi:=(vl41).getD s11 0 }) (getD_some _ (by omega) _) rfl rfl [I ((vl41).getD s11 0)] rfl rfl rfl rfl rfl rfl rfl ?_
     intro w166z H
     have hls_q167z:(r0.set 1 ({ (r0.getD 1 default) with hi:=(vl41).getD s11 0 })).length=(r0).length:=List.length_set
     refine s_nil ?_
     exact ⟨r2,7,200,[(0:Int),(2:Int),(3:Int)],300,[(0:Int),(100:Int),(120:Int),(80:Int)],r22,r3,r0.set 1 ({ (r0.getD 1 default) with hi:=(vl41).getD s11 0 }),r1,[(0:Int),(499:Int),(500:Int),(3:Int),(4:Int),(400:Int),(250:Int),(0:Int),(2000:Int),(7:Int)],1903,1900,1906,410,2,u0_2,v31z,v33z,u0_8,u1_9,v46z,rr2_10,Bs3_11,_,upds_of _ _ ⟨rfl,rfl,rfl,rfl,rfl,rfl,rfl,rfl,rfl,rfl,rfl,rfl,rfl,rfl,rfl,rfl,rfl,rfl,trivial⟩,hM,H,hf45z⟩
    replace hM:=M.e_f hM c163z
    refine W.byc ((n:Int)==16) (fun c168z=>?_) (fun c168z=>?_)
    ·replace hM:=M.e_t hM c168z
     have hk169z:(n:Int)=16:=eq_of_beq c168z
     obtain ⟨sd170z,hM⟩:=M.e_grd hM
     simp only [Bool.and_eq_true,decide_eq_true_eq] at sd170z
     refine kg 3 ?_
     refine s_val (x_ix (a:=v94z) (b:=I (n:Int)) (v:=vat v94z 1 (Int.toNat (n:Int))) rfl rfl (Sl.ix (α:=Raw 0) T39.und T39.size (H.os 0) (by omega) (by have hl_:=hl96z; omega))) ?_
     refine s_val (x_ld (p:=vat v94z 1 (Int.toNat (n:Int))) (v:=fat (vat u1_9 4 (Int.toNat 0)) 0) rfl (ld_sc Sc30 (At.mono (raw_at (i:=(n:Int)) (k:=16) (H.os 0) hk169z rfl) (H.ol 0)))) ?_
     refine kg 1 ?_
     refine s_val (x_ncE (p:=fat (vat u1_9 4 (Int.toNat 0)) 0) rfl (ptr_fat (Sl.pl (i:=0) (deSl (H.get (k:=9) rfl)) (by omega) (by omega)))) ?_
     refine t_dofs (k:=9) (i:=0) (dl:=r1) (off:=0) (o':={ (r1.getD 0 default) with src:=(vl41).getD s11 0 }) H rfl Sz3 (by omega) (by omega) rfl rfl (by decide) rfl rfl rfl ?_
     intro w172z us173z hr174z H
     replace H:=H.nf
     refine s_nil ?_
     exact ⟨r2,7,200,[(0:Int),(2:Int),(3:Int)],300,[(0:Int),(100:Int),(120:Int),(80:Int)],r22,r3,r0,r1.set 0 ({ (r1.getD 0 default) with src:=(vl41).getD s11 0 }),[(0:Int),(499:Int),(500:Int),(3:Int),(4:Int),(400:Int),(250:Int),(0:Int),(2000:Int),(7:Int)],1903,1900,1906,410,2,u0_2,v31z,v33z,u0_8,u1_9,v46z,us173z,Bs3_11,_,upds_of _ _ ⟨rfl,rfl,rfl,rfl,rfl,rfl,rfl,rfl,rfl,rfl,rfl,rfl,rfl,rfl,rfl,rfl,rfl,rfl,trivial⟩,hM,H,hr174z⟩
    replace hM:=M.e_f hM c168z
    refine W.byc ((n:Int)==17) (fun c175z=>?_) (fun c175z=>?_)
    ·replace hM:=M.e_t hM c175z
     have hk176z:(n:Int)=17:=eq_of_beq c175z
     obtain ⟨sd177z,hM⟩:=M.e_grd hM
     simp only [Bool.and_eq_true,decide_eq_true_eq] at sd177z
     refine kg 3 ?_
     refine s_val (x_ix (a:=v94z) (b:=I (n:Int)) (v:=vat v94z 1 (Int.toNat (n:Int))) rfl rfl (Sl.ix (α:=Raw 0) T39.und T39.size (H.os 0) (by omega) (by have hl_:=hl96z; omega))) ?_
     refine s_val (x_ld (p:=vat v94z 1 (Int.toNat (n:Int))) (v:=fat (vat u1_9 4 (Int.toNat 0)) 1) rfl (ld_sc Sc30 (At.mono (raw_at (i:=(n:Int)) (k:=17) (H.os 0) hk176z rfl) (H.ol 0)))) ?_
     refine kg 1 ?_
     refine s_val (x_ncE (p:=fat (vat u1_9 4 (Int.toNat 0)) 1) rfl (ptr_fat (Sl.pl (i:=0) (deSl (H.get (k:=9) rfl)) (by omega) (by omega)))) ?_
     refine t_dofs (k:=9) (i:=0) (dl:=r1) (off:=1) (o':={ (r1.getD 0 default) with dst:=(vl41).getD s11 0 }) H rfl Sz3 (by omega) (by omega) rfl rfl (by decide) rfl rfl rfl ?_
     intro w179z us180z hr181z H
     replace H:=H.nf
     refine s_nil ?_
     exact ⟨r2,7,200,[(0:Int),(2:Int),(3:Int)],300,[(0:Int),(100:Int),(120:Int),(80:Int)],r22,r3,r0,r1.set 0 ({ (r1.getD 0 default) with dst:=(vl41).getD s11 0 }),[(0:Int),(499:Int),(500:Int),(3:Int),(4:Int),(400:Int),(250:Int),(0:Int),(2000:Int),(7:Int)],1903,1900,1906,410,2,u0_2,v31z,v33z,u0_8,u1_9,v46z,us180z,Bs3_11,_,upds_of _ _ ⟨rfl,rfl,rfl,rfl,rfl,rfl,rfl,rfl,rfl,rfl,rfl,rfl,rfl,rfl,rfl,rfl,rfl,rfl,trivial⟩,hM,H,hr181z⟩
    replace hM:=M.e_f hM c175z
    refine W.byc ((n:Int)==18) (fun c182z=>?_) (fun c182z=>?_)
    ·replace hM:=M.e_t hM c182z
     have hk183z:(n:Int)=18:=eq_of_beq c182z
     obtain ⟨sd184z,hM⟩:=M.e_grd hM
     simp only [Bool.and_eq_true,decide_eq_true_eq] at sd184z
     refine kg 3 ?_
     refine s_val (x_ix (a:=v94z) (b:=I (n:Int)) (v:=vat v94z 1 (Int.toNat (n:Int))) rfl rfl (Sl.ix (α:=Raw 0) T39.und T39.size (H.os 0) (by omega) (by have hl_:=hl96z; omega))) ?_
     refine s_val (x_ld (p:=vat v94z 1 (Int.toNat (n:Int))) (v:=fat (vat u1_9 4 (Int.toNat 0)) 2) rfl (ld_sc Sc30 (At.mono (raw_at (i:=(n:Int)) (k:=18) (H.os 0) hk183z rfl) (H.ol 0)))) ?_
     refine kg 1 ?_
     refine s_val (x_ncE (p:=fat (vat u1_9 4 (Int.toNat 0)) 2) rfl (ptr_fat (Sl.pl (i:=0) (deSl (H.get (k:=9) rfl)) (by omega) (by omega)))) ?_
     refine t_dofs (k:=9) (i:=0) (dl:=r1) (off:=2) (o':={ (r1.getD 0 default) with stage:=(vl41).getD s11 0 }) H rfl Sz3 (by omega) (by omega) rfl rfl (by decide) rfl rfl rfl ?_
     intro w186z us187z hr188z H
     replace H:=H.nf
     refine s_nil ?_
     exact ⟨r2,7,200,[(0:Int),(2:Int),(3:Int)],300,[(0:Int),(100:Int),(120:Int),(80:Int)],r22,r3,r0,r1.set 0 ({ (r1.getD 0 default) with stage:=(vl41).getD s11 0 }),[(0:Int),(499:Int),(500:Int),(3:Int),(4:Int),(400:Int),(250:Int),(0:Int),(2000:Int),(7:Int)],1903,1900,1906,410,2,u0_2,v31z,v33z,u0_8,u1_9,v46z,us187z,Bs3_11,_,upds_of _ _ ⟨rfl,rfl,rfl,rfl,rfl,rfl,rfl,rfl,rfl,rfl,rfl,rfl,rfl,rfl,rfl,rfl,rfl,rfl,trivial⟩,hM,H,hr188z⟩
    replace hM:=M.e_f hM c182z
    refine W.byc ((n:Int)==19) (fun c189z=>?_) (fun c189z=>?_)
    ·replace hM:=M.e_t hM c189z
     have hk190z:(n:Int)=19:=eq_of_beq c189z
     obtain ⟨sd191z,hM⟩:=M.e_grd hM
     simp only [Bool.and_eq_true,decide_eq_true_eq] at sd191z
     refine kg 3 ?_
     refine s_val (x_ix (a:=v94z) (b:=I (n:Int)) (v:=vat v94z 1 (Int.toNat (n:Int))) rfl rfl (Sl.ix (α:=Raw 0) T39.und T39.size (H.os 0) (by omega) (by have hl_:=hl96z; omega))) ?_
     refine s_val (x_ld (p:=vat v94z 1 (Int.toNat (n:Int))) (v:=vat u72z 1 (Int.toNat 0)) rfl (ld_sc Sc30 (At.mono (raw_at (i:=(n:Int)) (k:=19) (H.os 0) hk190z rfl) (H.ol 0)))) ?_
     refine kg 1 ?_
     refine s_val (x_ncE (p:=vat u72z 1 (Int.toNat 0)) rfl (Sl.pl (i:=0) hs73z (by omega) (by omega))) ?_
     refine t_dost (k:=9) (i:=0) (j:=0) (dl:=r1) (dl':=r1.set 0 { (r1.getD 0 default) with passed:=(r1.getD 0 default).passed.set 0 ((vl41).getD s11 0:Int) }) (L':=[cOwn (α:=Raw 0) 30 v94z ([rawV (fat (vat u0_2 2 (Int.toNat 0)) 0) hp77z,rawV (fat (vat u0_2 2 (Int.toNat 1)) 1) hp78z,rawV (fat (vat u0_2 2 (Int.toNat 3)) 0) hp79z,rawV (Pq b_5) (ptB _),rawV (Pq b_6) (ptB _),rawV (vat v31z 1 (Int.toNat 0)) hp80z,rawV (vat v31z 1 (Int.toNat 1)) hp81z,rawV (vat v31z 1 (Int.toNat 2)) hp82z,rawV (Pq b_7) (ptB _),rawV (vat v33z 1 (Int.toNat 0)) hp83z,rawV (vat v33z 1 (Int.toNat 2)) hp84z,rawV (Oq b_13 2) (ptB _),rawV (Oq b_13 3) (ptB _),rawV (fat (vat u0_8 3 (Int.toNat 0)) 0) hp85z,rawV (fat (vat u0_8 3 (Int.toNat 0)) 1) hp86z,rawV (fat (vat u0_8 3 (Int.toNat 1)) 2) hp87z,rawV (fat (vat u1_9 4 (Int.toNat 0)) 0) hp88z,rawV (fat (vat u1_9 4 (Int.toNat 0)) 1) hp89z,rawV (fat (vat u1_9 4 (Int.toNat 0)) 2) hp90z,rawV (vat u72z 1 (Int.toNat 0)) hp91z,rawV (vat v46z 1 (Int.toNat 2)) hp92z,rawV (vat v46z 1 (Int.toNat 5)) hp93z,rawV (Pq b_14) (ptB _),rawV (Pq b_15) (ptB _),rawV (Pq b_16) (ptB _),rawV (Pq b_17) (ptB _),rawV (Pq b_18) (ptB _)]),cBlk b_18 [I 2] 3,cBlk b_17 [I 410] 3,cBlk b_16 [I 1906] 3,cBlk b_15 [I 1900] 3,cBlk b_14 [I 1903] 3,cBlk b_13 [u0_8,u1_9,I r22,I r3] 28,cOwn (α:=Int) 3 v46z ([(0:Int),(499:Int),(500:Int),(3:Int),(4:Int),(400:Int),(250:Int),(0:Int),(2000:Int),(7:Int)]),cOwn (α:=Yr) 36 u0_8 r0,cDO 38 3 u1_9 rr2_10 (r1.set 0 { (r1.getD 0 default) with passed:=(r1.getD 0 default).passed.set 0 ((vl41).getD s11 0:Int) }),cRo Bs3_11,cBlk b_7 [I 300] 3,cBlk b_6 [I 200] 3,cBlk b_5 [I 7] 3,cOwn (α:=Int) 3 v33z ([(0:Int),(100:Int),(120:Int),(80:Int)]),cOwn (α:=Int) 3 v31z ([(0:Int),(2:Int),(3:Int)]),cOwn (α:=Pk) 32 u0_2 r2,cOwn (α:=Int) 3 v1z (vl41)]) H rfl Sz3 (by omega) (by omega) (deLe _ (H.get (k:=9) rfl)) ha_u72z (by omega) (by first | omega | (simp only [Int.toNat_natCast]; omega) | exact (show 0<((r1.getD 0 default).passed.length:Int) by omega)) ((vl41).getD s11 0:Int) rfl rfl rfl rfl rfl ?_
     intro w193z H
     have hr194z:(rr2_10).length=(r1.set 0 { (r1.getD 0 default) with passed:=(r1.getD 0 default).passed.set 0 ((vl41).getD s11 0:Int) }).length:=hf45z.trans (List.length_set).symm
     refine s_nil ?_
     exact ⟨r2,7,200,[(0:Int),(2:Int),(3:Int)],300,[(0:Int),(100:Int),(120:Int),(80:Int)],r22,r3,r0,r1.set 0 { (r1.getD 0 default) with passed:=(r1.getD 0 default).passed.set 0 ((vl41).getD s11 0:Int) },[(0:Int),(499:Int),(500:Int),(3:Int),(4:Int),(400:Int),(250:Int),(0:Int),(2000:Int),(7:Int)],1903,1900,1906,410,2,u0_2,v31z,v33z,u0_8,u1_9,v46z,rr2_10,Bs3_11,_,upds_of _ _ ⟨rfl,rfl,rfl,rfl,rfl,rfl,rfl,rfl,rfl,rfl,rfl,rfl,rfl,rfl,rfl,rfl,rfl,rfl,trivial⟩,hM,H,hr194z⟩
    replace hM:=M.e_f hM c189z
    refine W.byc ((n:Int)==20) (fun c195z=>?_) (fun c195z=>?_)
    ·replace hM:=M.e_t hM c195z
     have hk196z:(n:Int)=20:=eq_of_beq c195z
     obtain ⟨sd197z,hM⟩:=M.e_grd hM
     simp only [Bool.and_eq_true,decide_eq_true_eq] at sd197z
     refine kg 3 ?_
     refine s_val (x_ix (a:=v94z) (b:=I (n:Int)) (v:=vat v94z 1 (Int.toNat (n:Int))) rfl rfl (Sl.ix (α:=Raw 0) T39.und T39.size (H.os 0) (by omega) (by have hl_:=hl96z; omega))) ?_
     refine s_val (x_ld (p:=vat v94z 1 (Int.toNat (n:Int))) (v:=vat v46z 1 (Int.toNat 2)) rfl (ld_sc Sc30 (At.mono (raw_at (i:=(n:Int)) (k:=20) (H.os 0) hk196z rfl) (H.ol 0)))) ?_
     refine kg 1 ?_
     refine s_val (x_ncE (p:=vat v46z 1 (Int.toNat 2)) rfl (Sl.pl (i:=2) (H.os 7) (by omega) (by omega))) ?_
     refine t_ost (k:=7) (i:=2) (l:=[(0:Int),(499:Int),(500:Int),(3:Int),(4:Int),(400:Int),(250:Int),(0:Int),(2000:Int),(7:Int)]) (l':=([(0:Int),(499:Int),(500:Int),(3:Int),(4:Int),(400:Int),(250:Int),(0:Int),(2000:Int),(7:Int)]).set 2 ((vl41).getD s11 0:Int)) (val:=I ((vl41).getD s11 0)) (L':=[cOwn (α:=Raw 0) 30 v94z ([rawV (fat (vat u0_2 2 (Int.toNat 0)) 0) hp77z,rawV (fat (vat u0_2 2 (Int.toNat 1)) 1) hp78z,rawV (fat (vat u0_2 2 (Int.toNat 3)) 0) hp79z,rawV (Pq b_5) (ptB _),rawV (Pq b_6) (ptB _),rawV (vat v31z 1 (Int.toNat 0)) hp80z,rawV (vat v31z 1 (Int.toNat 1)) hp81z,rawV (vat v31z 1 (Int.toNat 2)) hp82z,rawV (Pq b_7) (ptB _),rawV (vat v33z 1 (Int.toNat 0)) hp83z,rawV (vat v33z 1 (Int.toNat 2)) hp84z,rawV (Oq b_13 2) (ptB _),rawV (Oq b_13 3) (ptB _),rawV (fat (vat u0_8 3 (Int.toNat 0)) 0) hp85z,rawV (fat (vat u0_8 3 (Int.toNat 0)) 1) hp86z,rawV (fat (vat u0_8 3 (Int.toNat 1)) 2) hp87z,rawV (fat (vat u1_9 4 (Int.toNat 0)) 0) hp88z,rawV (fat (vat u1_9 4 (Int.toNat 0)) 1) hp89z,rawV (fat (vat u1_9 4 (Int.toNat 0)) 2) hp90z,rawV (vat u72z 1 (Int.toNat 0)) hp91z,rawV (vat v46z 1 (Int.toNat 2)) hp92z,rawV (vat v46z 1 (Int.toNat 5)) hp93z,rawV (Pq b_14) (ptB _),rawV (Pq b_15) (ptB _),rawV (Pq b_16) (ptB _),rawV (Pq b_17) (ptB _),rawV (Pq b_18) (ptB _)]),cBlk b_18 [I 2] 3,cBlk b_17 [I 410] 3,cBlk b_16 [I 1906] 3,cBlk b_15 [I 1900] 3,cBlk b_14 [I 1903] 3,cBlk b_13 [u0_8,u1_9,I r22,I r3] 28,cOwn (α:=Int) 3 v46z (([(0:Int),(499:Int),(500:Int),(3:Int),(4:Int),(400:Int),(250:Int),(0:Int),(2000:Int),(7:Int)]).set 2 ((vl41).getD s11 0:Int)),cOwn (α:=Yr) 36 u0_8 r0,cDO 38 3 u1_9 rr2_10 r1,cRo Bs3_11,cBlk b_7 [I 300] 3,cBlk b_6 [I 200] 3,cBlk b_5 [I 7] 3,cOwn (α:=Int) 3 v33z ([(0:Int),(100:Int),(120:Int),(80:Int)]),cOwn (α:=Int) 3 v31z ([(0:Int),(2:Int),(3:Int)]),cOwn (α:=Pk) 32 u0_2 r2,cOwn (α:=Int) 3 v1z (vl41)]) H rfl Sz3 (by omega) (by omega) ((vl41).getD s11 0:Int) rfl rfl rfl rfl rfl ?_
     intro w198z H
     refine s_nil ?_
     exact ⟨r2,7,200,[(0:Int),(2:Int),(3:Int)],300,[(0:Int),(100:Int),(120:Int),(80:Int)],r22,r3,r0,r1,([(0:Int),(499:Int),(500:Int),(3:Int),(4:Int),(400:Int),(250:Int),(0:Int),(2000:Int),(7:Int)]).set 2 ((vl41).getD s11 0:Int),1903,1900,1906,410,2,u0_2,v31z,v33z,u0_8,u1_9,v46z,rr2_10,Bs3_11,_,upds_of _ _ ⟨rfl,rfl,rfl,rfl,rfl,rfl,rfl,rfl,rfl,rfl,rfl,rfl,rfl,rfl,rfl,rfl,rfl,rfl,trivial⟩,hM,H,hf45z⟩
    replace hM:=M.e_f hM c195z
    refine W.byc ((n:Int)==21) (fun c199z=>?_) (fun c199z=>?_)
    ·replace hM:=M.e_t hM c199z
     have hk200z:(n:Int)=21:=eq_of_beq c199z
     obtain ⟨sd201z,hM⟩:=M.e_grd hM
     simp only [Bool.and_eq_true,decide_eq_true_eq] at sd201z
     refine kg 3 ?_
     refine s_val (x_ix (a:=v94z) (b:=I (n:Int)) (v:=vat v94z 1 (Int.toNat (n:Int))) rfl rfl (Sl.ix (α:=Raw 0) T39.und T39.size (H.os 0) (by omega) (by have hl_:=hl96z; omega))) ?_
     refine s_val (x_ld (p:=vat v94z 1 (Int.toNat (n:Int))) (v:=vat v46z 1 (Int.toNat 5)) rfl (ld_sc Sc30 (At.mono (raw_at (i:=(n:Int)) (k:=21) (H.os 0) hk200z rfl) (H.ol 0)))) ?_
     refine kg 1 ?_
     refine s_val (x_ncE (p:=vat v46z 1 (Int.toNat 5)) rfl (Sl.pl (i:=5) (H.os 7) (by omega) (by omega))) ?_
     refine t_ost (k:=7) (i:=5) (l:=[(0:Int),(499:Int),(500:Int),(3:Int),(4:Int),(400:Int),(250:Int),(0:Int),(2000:Int),(7:Int)]) (l':=([(0:Int),(499:Int),(500:Int),(3:Int),(4:Int),(400:Int),(250:Int),(0:Int),(2000:Int),(7:Int)]).set 5 ((vl41).getD s11 0:Int)) (val:=I ((vl41).getD s11 0)) (L':=[cOwn (α:=Raw 0) 30 v94z ([rawV (fat (vat u0_2 2 (Int.toNat 0)) 0) hp77z,rawV (fat (vat u0_2 2 (Int.toNat 1)) 1) hp78z,rawV (fat (vat u0_2 2 (Int.toNat 3)) 0) hp79z,rawV (Pq b_5) (ptB _),rawV (Pq b_6) (ptB _),rawV (vat v31z 1 (Int.toNat 0)) hp80z,rawV (vat v31z 1 (Int.toNat 1)) hp81z,rawV (vat v31z 1 (Int.toNat 2)) hp82z,rawV (Pq b_7) (ptB _),rawV (vat v33z 1 (Int.toNat 0)) hp83z,rawV (vat v33z 1 (Int.toNat 2)) hp84z,rawV (Oq b_13 2) (ptB _),rawV (Oq b_13 3) (ptB _),rawV (fat (vat u0_8 3 (Int.toNat 0)) 0) hp85z,rawV (fat (vat u0_8 3 (Int.toNat 0)) 1) hp86z,rawV (fat (vat u0_8 3 (Int.toNat 1)) 2) hp87z,rawV (fat (vat u1_9 4 (Int.toNat 0)) 0) hp88z,rawV (fat (vat u1_9 4 (Int.toNat 0)) 1) hp89z,rawV (fat (vat u1_9 4 (Int.toNat 0)) 2) hp90z,rawV (vat u72z 1 (Int.toNat 0)) hp91z,rawV (vat v46z 1 (Int.toNat 2)) hp92z,rawV (vat v46z 1 (Int.toNat 5)) hp93z,rawV (Pq b_14) (ptB _),rawV (Pq b_15) (ptB _),rawV (Pq b_16) (ptB _),rawV (Pq b_17) (ptB _),rawV (Pq b_18) (ptB _)]),cBlk b_18 [I 2] 3,cBlk b_17 [I 410] 3,cBlk b_16 [I 1906] 3,cBlk b_15 [I 1900] 3,cBlk b_14 [I 1903] 3,cBlk b_13 [u0_8,u1_9,I r22,I r3] 28,cOwn (α:=Int) 3 v46z (([(0:Int),(499:Int),(500:Int),(3:Int),(4:Int),(400:Int),(250:Int),(0:Int),(2000:Int),(7:Int)]).set 5 ((vl41).getD s11 0:Int)),cOwn (α:=Yr) 36 u0_8 r0,cDO 38 3 u1_9 rr2_10 r1,cRo Bs3_11,cBlk b_7 [I 300] 3,cBlk b_6 [I 200] 3,cBlk b_5 [I 7] 3,cOwn (α:=Int) 3 v33z ([(0:Int),(100:Int),(120:Int),(80:Int)]),cOwn (α:=Int) 3 v31z ([(0:Int),(2:Int),(3:Int)]),cOwn (α:=Pk) 32 u0_2 r2,cOwn (α:=Int) 3 v1z (vl41)]) H rfl Sz3 (by omega) (by omega) ((vl41).getD s11 0:Int) rfl rfl rfl rfl rfl ?_
     intro w202z H
     refine s_nil ?_
     exact ⟨r2,7,200,[(0:Int),(2:Int),(3:Int)],300,[(0:Int),(100:Int),(120:Int),(80:Int)],r22,r3,r0,r1,([(0:Int),(499:Int),(500:Int),(3:Int),(4:Int),(400:Int),(250:Int),(0:Int),(2000:Int),(7:Int)]).set 5 ((vl41).getD s11 0:Int),1903,1900,1906,410,2,u0_2,v31z,v33z,u0_8,u1_9,v46z,rr2_10,Bs3_11,_,upds_of _ _ ⟨rfl,rfl,rfl,rfl,rfl,rfl,rfl,rfl,rfl,rfl,rfl,rfl,rfl,rfl,rfl,rfl,rfl,rfl,trivial⟩,hM,H,hf45z⟩
    replace hM:=M.e_f hM c199z
    refine W.byc ((n:Int)==22) (fun c203z=>?_) (fun c203z=>?_)
    ·replace hM:=M.e_t hM c203z
     have hk204z:(n:Int)=22:=eq_of_beq c203z
     obtain ⟨sd205z,hM⟩:=M.e_grd hM
     simp only [Bool.and_eq_true,decide_eq_true_eq] at sd205z
     refine kg 3 ?_
     refine s_val (x_ix (a:=v94z) (b:=I (n:Int)) (v:=vat v94z 1 (Int.toNat (n:Int))) rfl rfl (Sl.ix (α:=Raw 0) T39.und T39.size (H.os 0) (by omega) (by have hl_:=hl96z; omega))) ?_
     refine s_val (x_ld (p:=vat v94z 1 (Int.toNat (n:Int))) (v:=Pq b_14) rfl (ld_sc Sc30 (At.mono (raw_at (i:=(n:Int)) (k:=22) (H.os 0) hk204z rfl) (H.ol 0)))) ?_
     refine kg 2 ?_
     refine t_sw 5 0 [I ((vl41).getD s11 0)] (I ((vl41).getD s11 0)) H rfl rfl Sz3 rfl rfl rfl rfl ?_
     intro w206z H
     refine s_nil ?_
     exact ⟨r2,7,200,[(0:Int),(2:Int),(3:Int)],300,[(0:Int),(100:Int),(120:Int),(80:Int)],r22,r3,r0,r1,[(0:Int),(499:Int),(500:Int),(3:Int),(4:Int),(400:Int),(250:Int),(0:Int),(2000:Int),(7:Int)],(vl41).getD s11 0,1900,1906,410,2,u0_2,v31z,v33z,u0_8,u1_9,v46z,rr2_10,Bs3_11,_,upds_of _ _ ⟨rfl,rfl,rfl,rfl,rfl,rfl,rfl,rfl,rfl,rfl,rfl,rfl,rfl,rfl,rfl,rfl,rfl,rfl,trivial⟩,hM,H,hf45z⟩
    replace hM:=M.e_f hM c203z
    refine W.byc ((n:Int)==23) (fun c207z=>?_) (fun c207z=>?_)
    ·replace hM:=M.e_t hM c207z
     have hk208z:(n:Int)=23:=eq_of_beq c207z
     obtain ⟨sd209z,hM⟩:=M.e_grd hM
     simp only [Bool.and_eq_true,decide_eq_true_eq] at sd209z
     refine kg 3 ?_
     refine s_val (x_ix (a:=v94z) (b:=I (n:Int)) (v:=vat v94z 1 (Int.toNat (n:Int))) rfl rfl (Sl.ix (α:=Raw 0) T39.und T39.size (H.os 0) (by omega) (by have hl_:=hl96z; omega))) ?_
     refine s_val (x_ld (p:=vat v94z 1 (Int.toNat (n:Int))) (v:=Pq b_15) rfl (ld_sc Sc30 (At.mono (raw_at (i:=(n:Int)) (k:=23) (H.os 0) hk208z rfl) (H.ol 0)))) ?_
     refine kg 2 ?_
     refine t_sw 4 0 [I ((vl41).getD s11 0)] (I ((vl41).getD s11 0)) H rfl rfl Sz3 rfl rfl rfl rfl ?_
     intro w210z H
     refine s_nil ?_
     exact ⟨r2,7,200,[(0:Int),(2:Int),(3:Int)],300,[(0:Int),(100:Int),(120:Int),(80:Int)],r22,r3,r0,r1,[(0:Int),(499:Int),(500:Int),(3:Int),(4:Int),(400:Int),(250:Int),(0:Int),(2000:Int),(7:Int)],1903,(vl41).getD s11 0,1906,410,2,u0_2,v31z,v33z,u0_8,u1_9,v46z,rr2_10,Bs3_11,_,upds_of _ _ ⟨rfl,rfl,rfl,rfl,rfl,rfl,rfl,rfl,rfl,rfl,rfl,rfl,rfl,rfl,rfl,rfl,rfl,rfl,trivial⟩,hM,H,hf45z⟩
    replace hM:=M.e_f hM c207z
    refine W.byc ((n:Int)==24) (fun c211z=>?_) (fun c211z=>?_)
    ·replace hM:=M.e_t hM c211z
     have hk212z:(n:Int)=24:=eq_of_beq c211z
     obtain ⟨sd213z,hM⟩:=M.e_grd hM
     simp only [Bool.and_eq_true,decide_eq_true_eq] at sd213z
     refine kg 3 ?_
     refine s_val (x_ix (a:=v94z) (b:=I (n:Int)) (v:=vat v94z 1 (Int.toNat (n:Int))) rfl rfl (Sl.ix (α:=Raw 0) T39.und T39.size (H.os 0) (by omega) (by have hl_:=hl96z; omega))) ?_
     refine s_val (x_ld (p:=vat v94z 1 (Int.toNat (n:Int))) (v:=Pq b_16) rfl (ld_sc Sc30 (At.mono (raw_at (i:=(n:Int)) (k:=24) (H.os 0) hk212z rfl) (H.ol 0)))) ?_
     refine kg 2 ?_
     refine t_sw 3 0 [I ((vl41).getD s11 0)] (I ((vl41).getD s11 0)) H rfl rfl Sz3 rfl rfl rfl rfl ?_
     intro w214z H
     refine s_nil ?_
     exact ⟨r2,7,200,[(0:Int),(2:Int),(3:Int)],300,[(0:Int),(100:Int),(120:Int),(80:Int)],r22,r3,r0,r1,[(0:Int),(499:Int),(500:Int),(3:Int),(4:Int),(400:Int),(250:Int),(0:Int),(2000:Int),(7:Int)],1903,1900,(vl41).getD s11 0,410,2,u0_2,v31z,v33z,u0_8,u1_9,v46z,rr2_10,Bs3_11,_,upds_of _ _ ⟨rfl,rfl,rfl,rfl,rfl,rfl,rfl,rfl,rfl,rfl,rfl,rfl,rfl,rfl,rfl,rfl,rfl,rfl,trivial⟩,hM,H,hf45z⟩
    replace hM:=M.e_f hM c211z
    refine W.byc ((n:Int)==25) (fun c215z=>?_) (fun c215z=>?_)
    ·replace hM:=M.e_t hM c215z
     have hk216z:(n:Int)=25:=eq_of_beq c215z
     obtain ⟨sd217z,hM⟩:=M.e_grd hM
     simp only [Bool.and_eq_true,decide_eq_true_eq] at sd217z
     refine kg 3 ?_
     refine s_val (x_ix (a:=v94z) (b:=I (n:Int)) (v:=vat v94z 1 (Int.toNat (n:Int))) rfl rfl (Sl.ix (α:=Raw 0) T39.und T39.size (H.os 0) (by omega) (by have hl_:=hl96z; omega))) ?_
     refine s_val (x_ld (p:=vat v94z 1 (Int.toNat (n:Int))) (v:=Pq b_17) rfl (ld_sc Sc30 (At.mono (raw_at (i:=(n:Int)) (k:=25) (H.os 0) hk216z rfl) (H.ol 0)))) ?_
     refine kg 2 ?_
     refine t_sw 2 0 [I ((vl41).getD s11 0)] (I ((vl41).getD s11 0)) H rfl rfl Sz3 rfl rfl rfl rfl ?_
     intro w218z H
     refine s_nil ?_
     exact ⟨r2,7,200,[(0:Int),(2:Int),(3:Int)],300,[(0:Int),(100:Int),(120:Int),(80:Int)],r22,r3,r0,r1,[(0:Int),(499:Int),(500:Int),(3:Int),(4:Int),(400:Int),(250:Int),(0:Int),(2000:Int),(7:Int)],1903,1900,1906,(vl41).getD s11 0,2,u0_2,v31z,v33z,u0_8,u1_9,v46z,rr2_10,Bs3_11,_,upds_of _ _ ⟨rfl,rfl,rfl,rfl,rfl,rfl,rfl,rfl,rfl,rfl,rfl,rfl,rfl,rfl,rfl,rfl,rfl,rfl,trivial⟩,hM,H,hf45z⟩
    replace hM:=M.e_f hM c215z
    refine W.byc ((n:Int)==26) (fun c219z=>?_) (fun c219z=>?_)
    ·replace hM:=M.e_t hM c219z
     have hk220z:(n:Int)=26:=eq_of_beq c219z
     obtain ⟨sd221z,hM⟩:=M.e_grd hM
     simp only [Bool.and_eq_true,decide_eq_true_eq] at sd221z
     refine kg 3 ?_
     refine s_val (x_ix (a:=v94z) (b:=I (n:Int)) (v:=vat v94z 1 (Int.toNat (n:Int))) rfl rfl (Sl.ix (α:=Raw 0) T39.und T39.size (H.os 0) (by omega) (by have hl_:=hl96z; omega))) ?_
     refine s_val (x_ld (p:=vat v94z 1 (Int.toNat (n:Int))) (v:=Pq b_18) rfl (ld_sc Sc30 (At.mono (raw_at (i:=(n:Int)) (k:=26) (H.os 0) hk220z rfl) (H.ol 0)))) ?_
     refine kg 2 ?_
     refine t_sw 1 0 [I ((vl41).getD s11 0)] (I ((vl41).getD s11 0)) H rfl rfl Sz3 rfl rfl rfl rfl ?_
     intro w222z H
     refine s_nil ?_
     exact ⟨r2,7,200,[(0:Int),(2:Int),(3:Int)],300,[(0:Int),(100:Int),(120:Int),(80:Int)],r22,r3,r0,r1,[(0:Int),(499:Int),(500:Int),(3:Int),(4:Int),(400:Int),(250:Int),(0:Int),(2000:Int),(7:Int)],1903,1900,1906,410,(vl41).getD s11 0,u0_2,v31z,v33z,u0_8,u1_9,v46z,rr2_10,Bs3_11,_,upds_of _ _ ⟨rfl,rfl,rfl,rfl,rfl,rfl,rfl,rfl,rfl,rfl,rfl,rfl,rfl,rfl,rfl,rfl,rfl,rfl,trivial⟩,hM,H,hf45z⟩
    replace hM:=M.e_f hM c219z
    exact (M.e_fail hM).elim
   rintro _ w223z ⟨l,s,s2,l2,s3,l3,s4,s5,l4,l5,l6,s6,s7,s8,s9,s10,v_l,v_l2,v_l3,v_l4,v_l5,v_l6,rw_l5,B_l5,ρ,rfl,hM,H,hr_l5⟩
   unfold zaa at hM
   refine kg 11 ?_
   obtain ⟨r4,hx224z,hM⟩:=M.e_bind hM
   refine t_gcall (decide ((n:Int)<11)) (gy_t rfl) cf6 (B r4) (fun _=>[v_l,I s,I s2,v_l2,I s3,v_l3]) (fun hg=>lst6 (gd_of (c:=decide ((n:Int)<11)) hg (v_l)) (gd_of (c:=decide ((n:Int)<11)) hg (I s)) (gd_of (c:=decide ((n:Int)<11)) hg (I s2)) (gd_of (c:=decide ((n:Int)<11)) hg (v_l2)) (gd_of (c:=decide ((n:Int)<11)) hg (I s3)) (gd_of (c:=decide ((n:Int)<11)) hg (v_l3))) H (fun hg=>(zcZ l s s2 l2 s3 l3 (rdo 16) (H.os 16) (rdo 15) (H.os 15) (rdo 14) (H.os 14) (M.e_opt hx224z hg) _ (H.give (A:=[]) rfl)).mono fun v_ w_ ⟨y_,hr_,hv_,H_⟩=>by subst hr_; exact ⟨hv_,H.via H_⟩) ?_
   intro w225z H
   refine kg 1 ?_
   refine s_val (x_pand (b:=decide ((n:Int)<11)) (r:=!r4) rfl (fun hb=>gd_of (c:=decide ((n:Int)<11)) (by first | exact hb | (rw [hb]; rfl) | (rw [hg,hb]; rfl) | simp_all) (B (!r4))) rfl) ?_
   refine kg 6 ?_
   refine g_val (!((decide ((n:Int)<11))&&(!r4))) (gy_f rfl) (fun hg=>x_pand (b:=decide (10<(n:Int))) (r:=decide ((n:Int)<23)) (gd_of (c:=!((decide ((n:Int)<11))&&(!r4))) hg (B (decide (10<(n:Int))))) (fun hb=>gd_of (c:=((!((decide ((n:Int)<11))&&(!r4)))&&(decide (10<(n:Int))))) (by first | exact hb | (rw [hb]; rfl) | (rw [hg,hb]; rfl) | simp_all) (B (decide ((n:Int)<23)))) rfl) ?_
   refine kg 4 ?_
   obtain ⟨r5,hx226z,hM⟩:=M.e_bind hM
   refine t_gcall ((!((decide ((n:Int)<11))&&(!r4)))&&((decide (10<(n:Int)))&&(decide ((n:Int)<23)))) (gy_gt rfl rfl) cf7 (B r5) (fun _=>[.agg #[v_l4,v_l5,I s4,I s5],v_l6,I s6]) (fun hg=>lst3 (gd_of (c:=((!((decide ((n:Int)<11))&&(!r4)))&&((decide (10<(n:Int)))&&(decide ((n:Int)<23))))) hg (.agg #[v_l4,v_l5,I s4,I s5])) (gd_of (c:=((!((decide ((n:Int)<11))&&(!r4)))&&((decide (10<(n:Int)))&&(decide ((n:Int)<23))))) hg (v_l6)) (gd_of (c:=((!((decide ((n:Int)<11))&&(!r4)))&&((decide (10<(n:Int)))&&(decide ((n:Int)<23))))) hg (I s6))) H (fun hg=>(zbd l4 l5 s4 s5 l6 s6 (rdo 8) (H.os 8) (Reads.of (k:=9) rfl deLe) (deSl (H.get (k:=9) rfl)) (rdo 7) (H.os 7) (M.e_opt hx226z hg) _ (H.give (A:=[]) rfl)).mono fun v_ w_ ⟨y_,hr_,hv_,H_⟩=>by subst hr_; exact ⟨hv_,H.via H_⟩) ?_
   intro w227z H
   refine kg 1 ?_
   refine g_val (!((decide ((n:Int)<11))&&(!r4))) (gy_f rfl) (fun hg=>x_pand (b:=((decide (10<(n:Int)))&&(decide ((n:Int)<23)))) (r:=!r5) (gd_of (c:=!((decide ((n:Int)<11))&&(!r4))) hg (B ((decide (10<(n:Int)))&&(decide ((n:Int)<23))))) (fun hb=>gd_of (c:=((!((decide ((n:Int)<11))&&(!r4)))&&((decide (10<(n:Int)))&&(decide ((n:Int)<23))))) (by first | exact hb | (rw [hb]; rfl) | (rw [hg,hb]; rfl) | simp_all) (B (!r5))) rfl) ?_
   refine s_val (x_por (b:=((decide ((n:Int)<11))&&(!r4))) (r:=(((decide (10<(n:Int)))&&(decide ((n:Int)<23)))&&(!r5))) rfl rfl (fun hb=>gd_of (c:=!((decide ((n:Int)<11))&&(!r4))) (by first | exact hb | (rw [hb]; rfl) | (rw [hg,hb]; rfl) | simp_all) (B (((decide (10<(n:Int)))&&(decide ((n:Int)<23)))&&(!r5))))) ?_
   refine zM (B (((decide ((n:Int)<11))&&(!r4))||(((decide (10<(n:Int)))&&(decide ((n:Int)<23)))&&(!r5)))) rfl ?_
   refine g_val (!(((decide ((n:Int)<11))&&(!r4))||(((decide (10<(n:Int)))&&(decide ((n:Int)<23)))&&(!r5)))) (gy_f rfl) (fun hg=>x_mv (v:=I (n:Int)) rfl) ?_
   refine g_val (!(((decide ((n:Int)<11))&&(!r4))||(((decide (10<(n:Int)))&&(decide ((n:Int)<23)))&&(!r5)))) (gy_f rfl) (fun hg=>x_cmp (kd:=.i64) (a:=(n:Int)) (b:=10) (r:=decide (10<(n:Int))) (gd_of (c:=!(((decide ((n:Int)<11))&&(!r4))||(((decide (10<(n:Int)))&&(decide ((n:Int)<23)))&&(!r5)))) hg (I (n:Int))) rfl rfl) ?_
   refine g_val (!(((decide ((n:Int)<11))&&(!r4))||(((decide (10<(n:Int)))&&(decide ((n:Int)<23)))&&(!r5)))) (gy_f rfl) (fun hg=>x_mv (v:=B (decide (10<(n:Int)))) (gd_of (c:=!(((decide ((n:Int)<11))&&(!r4))||(((decide (10<(n:Int)))&&(decide ((n:Int)<23)))&&(!r5)))) hg (B (decide (10<(n:Int)))))) ?_
   refine g_val ((!(((decide ((n:Int)<11))&&(!r4))||(((decide (10<(n:Int)))&&(decide ((n:Int)<23)))&&(!r5))))&&(decide (10<(n:Int)))) (gy_gt rfl rfl) (fun hg=>x_mv (v:=I (n:Int)) rfl) ?_
   refine g_val ((!(((decide ((n:Int)<11))&&(!r4))||(((decide (10<(n:Int)))&&(decide ((n:Int)<23)))&&(!r5))))&&(decide (10<(n:Int)))) (gy_gt rfl rfl) (fun hg=>x_cmp (kd:=.i64) (a:=(n:Int)) (b:=20) (r:=decide ((n:Int)<20)) (gd_of (c:=((!(((decide ((n:Int)<11))&&(!r4))||(((decide (10<(n:Int)))&&(decide ((n:Int)<23)))&&(!r5))))&&(decide (10<(n:Int))))) hg (I (n:Int))) rfl rfl) ?_
   refine g_val (!(((decide ((n:Int)<11))&&(!r4))||(((decide (10<(n:Int)))&&(decide ((n:Int)<23)))&&(!r5)))) (gy_f rfl) (fun hg=>x_pand (b:=decide (10<(n:Int))) (r:=decide ((n:Int)<20)) (gd_of (c:=!(((decide ((n:Int)<11))&&(!r4))||(((decide (10<(n:Int)))&&(decide ((n:Int)<23)))&&(!r5)))) hg (B (decide (10<(n:Int))))) (fun hb=>gd_of (c:=((!(((decide ((n:Int)<11))&&(!r4))||(((decide (10<(n:Int)))&&(decide ((n:Int)<23)))&&(!r5))))&&(decide (10<(n:Int))))) (by first | exact hb | (rw [hb]; rfl) | (rw [hg,hb]; rfl) | simp_all) (B (decide ((n:Int)<20)))) rfl) ?_
   refine g_val (!(((decide ((n:Int)<11))&&(!r4))||(((decide (10<(n:Int)))&&(decide ((n:Int)<23)))&&(!r5)))) (gy_f rfl) (fun hg=>x_mv (v:=B ((decide (10<(n:Int)))&&(decide ((n:Int)<20)))) (gd_of (c:=!(((decide ((n:Int)<11))&&(!r4))||(((decide (10<(n:Int)))&&(decide ((n:Int)<23)))&&(!r5)))) hg (B ((decide (10<(n:Int)))&&(decide ((n:Int)<20)))))) ?_
   refine g_val ((!(((decide ((n:Int)<11))&&(!r4))||(((decide (10<(n:Int)))&&(decide ((n:Int)<23)))&&(!r5))))&&!((decide (10<(n:Int)))&&(decide ((n:Int)<20)))) (gy_gf rfl rfl) (fun hg=>x_mv (v:=I (n:Int)) rfl) ?_
   refine g_val ((!(((decide ((n:Int)<11))&&(!r4))||(((decide (10<(n:Int)))&&(decide ((n:Int)<23)))&&(!r5))))&&!((decide (10<(n:Int)))&&(decide ((n:Int)<20)))) (gy_gf rfl rfl) (fun hg=>x_cmp (kd:=.i64) (a:=(n:Int)) (b:=22) (r:=decide (22<(n:Int))) (gd_of (c:=((!(((decide ((n:Int)<11))&&(!r4))||(((decide (10<(n:Int)))&&(decide ((n:Int)<23)))&&(!r5))))&&!((decide (10<(n:Int)))&&(decide ((n:Int)<20))))) hg (I (n:Int))) rfl rfl) ?_
   refine g_val (!(((decide ((n:Int)<11))&&(!r4))||(((decide (10<(n:Int)))&&(decide ((n:Int)<23)))&&(!r5)))) (gy_f rfl) (fun hg=>x_por (b:=((decide (10<(n:Int)))&&(decide ((n:Int)<20)))) (r:=decide (22<(n:Int))) (gd_of (c:=!(((decide ((n:Int)<11))&&(!r4))||(((decide (10<(n:Int)))&&(decide ((n:Int)<23)))&&(!r5)))) hg (B ((decide (10<(n:Int)))&&(decide ((n:Int)<20))))) rfl (fun hb=>gd_of (c:=((!(((decide ((n:Int)<11))&&(!r4))||(((decide (10<(n:Int)))&&(decide ((n:Int)<23)))&&(!r5))))&&!((decide (10<(n:Int)))&&(decide ((n:Int)<20))))) (by first | exact hb | (rw [hb]; rfl) | (rw [hg,hb]; rfl) | simp_all) (B (decide (22<(n:Int)))))) ?_
   refine g_val (!(((decide ((n:Int)<11))&&(!r4))||(((decide (10<(n:Int)))&&(decide ((n:Int)<23)))&&(!r5)))) (gy_f rfl) (fun hg=>x_mv (v:=B (((decide (10<(n:Int)))&&(decide ((n:Int)<20)))||(decide (22<(n:Int))))) (gd_of (c:=!(((decide ((n:Int)<11))&&(!r4))||(((decide (10<(n:Int)))&&(decide ((n:Int)<23)))&&(!r5)))) hg (B (((decide (10<(n:Int)))&&(decide ((n:Int)<20)))||(decide (22<(n:Int))))))) ?_
   refine g_val ((!(((decide ((n:Int)<11))&&(!r4))||(((decide (10<(n:Int)))&&(decide ((n:Int)<23)))&&(!r5))))&&(((decide (10<(n:Int)))&&(decide ((n:Int)<20)))||(decide (22<(n:Int))))) (gy_gt rfl rfl) (fun hg=>x_ld (p:=Pq b_13) (v:=.agg #[v_l4,v_l5,I s4,I s5]) rfl (ldb_ag (ds:=[v_l4,v_l5,I s4,I s5]) Ag28 Sz28 (H.bl 6) rfl rfl)) ?_
   refine g_val ((!(((decide ((n:Int)<11))&&(!r4))||(((decide (10<(n:Int)))&&(decide ((n:Int)<23)))&&(!r5))))&&(((decide (10<(n:Int)))&&(decide ((n:Int)<20)))||(decide (22<(n:Int))))) (gy_gt rfl rfl) (fun hg=>x_ld (p:=Pq b_15) (v:=I s7) rfl (ldb_sc Sc3 (H.bl 4) rfl)) ?_
   refine g_val ((!(((decide ((n:Int)<11))&&(!r4))||(((decide (10<(n:Int)))&&(decide ((n:Int)<23)))&&(!r5))))&&(((decide (10<(n:Int)))&&(decide ((n:Int)<20)))||(decide (22<(n:Int))))) (gy_gt rfl rfl) (fun hg=>x_ld (p:=Pq b_16) (v:=I s8) rfl (ldb_sc Sc3 (H.bl 3) rfl)) ?_
   refine g_val ((!(((decide ((n:Int)<11))&&(!r4))||(((decide (10<(n:Int)))&&(decide ((n:Int)<23)))&&(!r5))))&&(((decide (10<(n:Int)))&&(decide ((n:Int)<20)))||(decide (22<(n:Int))))) (gy_gt rfl rfl) (fun hg=>x_ld (p:=Pq b_17) (v:=I s9) rfl (ldb_sc Sc3 (H.bl 2) rfl)) ?_
   refine g_val ((!(((decide ((n:Int)<11))&&(!r4))||(((decide (10<(n:Int)))&&(decide ((n:Int)<23)))&&(!r5))))&&(((decide (10<(n:Int)))&&(decide ((n:Int)<20)))||(decide (22<(n:Int))))) (gy_gt rfl rfl) (fun hg=>x_ld (p:=Pq b_18) (v:=I s10) rfl (ldb_sc Sc3 (H.bl 1) rfl)) ?_
   refine g_val ((!(((decide ((n:Int)<11))&&(!r4))||(((decide (10<(n:Int)))&&(decide ((n:Int)<23)))&&(!r5))))&&(((decide (10<(n:Int)))&&(decide ((n:Int)<20)))||(decide (22<(n:Int))))) (gy_gt rfl rfl) (fun hg=>x_mv (v:=I (n:Int)) rfl) ?_
   obtain ⟨sd228z,hM⟩:=M.e_grd hM
   replace sd228z:=M.imp_of sd228z
   simp only [Bool.and_eq_true,decide_eq_true_eq] at sd228z
   refine g_val ((!(((decide ((n:Int)<11))&&(!r4))||(((decide (10<(n:Int)))&&(decide ((n:Int)<23)))&&(!r5))))&&(((decide (10<(n:Int)))&&(decide ((n:Int)<20)))||(decide (22<(n:Int))))) (gy_gt rfl rfl) (fun hg=>x_rem' (a:=(n:Int)) (b:=2) (gd_of (c:=((!(((decide ((n:Int)<11))&&(!r4))||(((decide (10<(n:Int)))&&(decide ((n:Int)<23)))&&(!r5))))&&(((decide (10<(n:Int)))&&(decide ((n:Int)<20)))||(decide (22<(n:Int)))))) hg (I (n:Int))) rfl (by have h1_:=sd228z.resolve_left (by rw [hg]; decide); first | exact h1_ | exact h1_.1 | exact h1_.2 | omega | (have hx_:=hg; simp at hx_; omega))) ?_
   refine g_val ((!(((decide ((n:Int)<11))&&(!r4))||(((decide (10<(n:Int)))&&(decide ((n:Int)<23)))&&(!r5))))&&(((decide (10<(n:Int)))&&(decide ((n:Int)<20)))||(decide (22<(n:Int))))) (gy_gt rfl rfl) (fun hg=>x_cmp (kd:=.i64) (a:=(n:Int) % 2) (b:=0) (r:=((n:Int) % 2)==0) (gd_of (c:=((!(((decide ((n:Int)<11))&&(!r4))||(((decide (10<(n:Int)))&&(decide ((n:Int)<23)))&&(!r5))))&&(((decide (10<(n:Int)))&&(decide ((n:Int)<20)))||(decide (22<(n:Int)))))) hg (I ((n:Int) % 2))) rfl rfl) ?_
   obtain ⟨r6,hx229z,hM⟩:=M.e_bind hM
   refine t_gcall ((!(((decide ((n:Int)<11))&&(!r4))||(((decide (10<(n:Int)))&&(decide ((n:Int)<23)))&&(!r5))))&&(((decide (10<(n:Int)))&&(decide ((n:Int)<20)))||(decide (22<(n:Int))))) (gy_gt rfl rfl) cf8 (B r6) (fun _=>[.agg #[v_l4,v_l5,I s4,I s5],I s7,I s8,I s9,I s10,B (((n:Int) % 2)==0)]) (fun hg=>lst6 (gd_of (c:=((!(((decide ((n:Int)<11))&&(!r4))||(((decide (10<(n:Int)))&&(decide ((n:Int)<23)))&&(!r5))))&&(((decide (10<(n:Int)))&&(decide ((n:Int)<20)))||(decide (22<(n:Int)))))) hg (.agg #[v_l4,v_l5,I s4,I s5])) (gd_of (c:=((!(((decide ((n:Int)<11))&&(!r4))||(((decide (10<(n:Int)))&&(decide ((n:Int)<23)))&&(!r5))))&&(((decide (10<(n:Int)))&&(decide ((n:Int)<20)))||(decide (22<(n:Int)))))) hg (I s7)) (gd_of (c:=((!(((decide ((n:Int)<11))&&(!r4))||(((decide (10<(n:Int)))&&(decide ((n:Int)<23)))&&(!r5))))&&(((decide (10<(n:Int)))&&(decide ((n:Int)<20)))||(decide (22<(n:Int)))))) hg (I s8)) (gd_of (c:=((!(((decide ((n:Int)<11))&&(!r4))||(((decide (10<(n:Int)))&&(decide ((n:Int)<23)))&&(!r5))))&&(((decide (10<(n:Int)))&&(decide ((n:Int)<20)))||(decide (22<(n:Int)))))) hg (I s9)) (gd_of (c:=((!(((decide ((n:Int)<11))&&(!r4))||(((decide (10<(n:Int)))&&(decide ((n:Int)<23)))&&(!r5))))&&(((decide (10<(n:Int)))&&(decide ((n:Int)<20)))||(decide (22<(n:Int)))))) hg (I s10)) (gd_of (c:=((!(((decide ((n:Int)<11))&&(!r4))||(((decide (10<(n:Int)))&&(decide ((n:Int)<23)))&&(!r5))))&&(((decide (10<(n:Int)))&&(decide ((n:Int)<20)))||(decide (22<(n:Int)))))) hg (B (((n:Int) % 2)==0)))) H (fun hg=>(za2 l4 l5 s4 s5 s7 s8 s9 s10 (((n:Int) % 2)==0) (rdo 8) (H.os 8) (Reads.of (k:=9) rfl deLe) (deSl (H.get (k:=9) rfl)) (M.e_opt hx229z hg) _ (H.give (A:=[]) rfl)).mono fun v_ w_ ⟨y_,hr_,hv_,H_⟩=>by subst hr_; exact ⟨hv_,H.via H_⟩) ?_
   intro w230z H
   refine g_val ((!(((decide ((n:Int)<11))&&(!r4))||(((decide (10<(n:Int)))&&(decide ((n:Int)<23)))&&(!r5))))&&(((decide (10<(n:Int)))&&(decide ((n:Int)<20)))||(decide (22<(n:Int))))) (gy_gt rfl rfl) (fun hg=>x_not (b:=r6) (gd_of (c:=((!(((decide ((n:Int)<11))&&(!r4))||(((decide (10<(n:Int)))&&(decide ((n:Int)<23)))&&(!r5))))&&(((decide (10<(n:Int)))&&(decide ((n:Int)<20)))||(decide (22<(n:Int)))))) hg (B r6))) ?_
   refine g_val (!(((decide ((n:Int)<11))&&(!r4))||(((decide (10<(n:Int)))&&(decide ((n:Int)<23)))&&(!r5)))) (gy_f rfl) (fun hg=>x_pand (b:=(((decide (10<(n:Int)))&&(decide ((n:Int)<20)))||(decide (22<(n:Int))))) (r:=!r6) (gd_of (c:=!(((decide ((n:Int)<11))&&(!r4))||(((decide (10<(n:Int)))&&(decide ((n:Int)<23)))&&(!r5)))) hg (B (((decide (10<(n:Int)))&&(decide ((n:Int)<20)))||(decide (22<(n:Int)))))) (fun hb=>gd_of (c:=((!(((decide ((n:Int)<11))&&(!r4))||(((decide (10<(n:Int)))&&(decide ((n:Int)<23)))&&(!r5))))&&(((decide (10<(n:Int)))&&(decide ((n:Int)<20)))||(decide (22<(n:Int)))))) (by first | exact hb | (rw [hb]; rfl) | (rw [hg,hb]; rfl) | simp_all) (B (!r6))) rfl) ?_
   refine s_val (x_por (b:=(((decide ((n:Int)<11))&&(!r4))||(((decide (10<(n:Int)))&&(decide ((n:Int)<23)))&&(!r5)))) (r:=((((decide (10<(n:Int)))&&(decide ((n:Int)<20)))||(decide (22<(n:Int))))&&(!r6))) rfl rfl (fun hb=>gd_of (c:=!(((decide ((n:Int)<11))&&(!r4))||(((decide (10<(n:Int)))&&(decide ((n:Int)<23)))&&(!r5)))) (by first | exact hb | (rw [hb]; rfl) | (rw [hg,hb]; rfl) | simp_all) (B ((((decide (10<(n:Int)))&&(decide ((n:Int)<20)))||(decide (22<(n:Int))))&&(!r6))))) ?_
   refine s_nil ?_
   replace H:=H.pk [7,8,9,10,14,15,16,17]
   refine W.cond ((((decide ((n:Int)<11))&&(!r4))||(((decide (10<(n:Int)))&&(decide ((n:Int)<23)))&&(!r5)))||((((decide (10<(n:Int)))&&(decide ((n:Int)<20)))||(decide (22<(n:Int))))&&(!r6))) rfl (fun c231z=>?_) (fun c231z=>?_)
   ·replace hM:=M.e_t hM c231z
    refine kg 4 ?_
    replace H:=H.pk [7]
    refine W.ret ?_
    have hX232z:=M.e_inr hM hN25z
    subst hX232z
    replace hM:=hk18z
    try dsimp only at hM
    have hX233z:=M.e_inr hM hN13z
    subst hX233z
    replace hM:=hk6z
    try dsimp only at hM
    have hr_:=M.e_pure hM
    exact ⟨_,resE_tmp rfl,⟨false,hr_,rfl,(H.pk [])⟩⟩
   replace hM:=M.e_f hM c231z
   refine kg 6 ?_
   exact ⟨m22z,lt23z,n+1,_,upds_of _ _ ⟨rfl,rfl,rfl,rfl,rfl,trivial⟩,M.e_inl hM hN25z,(H.pk [7])⟩
  replace hM:=M.e_f hM c26z
  simp only [qy1,qy2,qy3,qy4,qy5,qy6,ne_eq,qy7] at c26z
  refine W.exit ?_
  have hX234z:=M.e_inr hM hN25z
  subst hX234z
  replace hM:=hk18z
  try dsimp only at hM
  refine kg 4 ?_
  exact ⟨m10z,lt11z,s11+1,_,upds_of _ _ ⟨rfl,rfl,rfl,trivial⟩,M.e_inl hM hN13z,H⟩
 replace hM:=M.e_f hM c14z
 simp only [qy1,qy2,qy3,qy4,qy5,qy6,ne_eq,qy7] at c14z
 refine W.exit ?_
 have hX235z:=M.e_inr hM hN13z
 subst hX235z
 replace hM:=hk6z
 try dsimp only at hM
 replace H:=H.pk []
 refine kg 6 ?_
 obtain ⟨ex236z,hi237z,hk238z⟩:=M.e_bind hM
 obtain ⟨m0_,hi237z⟩:=M.e_iter hi237z
 refine W.loop (fun m σ W=>∃ (n2:Nat) (ρ:Env),σ=upds ρ [(18,I (n2:Int))]/\M.iterN (zcw) m n2=some ex236z/\St w W [] R) ?_ ?_
 ·exact ⟨_,0,_,upds_of _ _ ⟨rfl,trivial⟩,hi237z,H⟩
 rintro m241z σ w239z ⟨n2,ρ,rfl,hI240z,H⟩
 obtain ⟨m242z,lt243z,x244z,hM,hN245z⟩:=M.e_iterN hI240z
 clear hI240z
 refine kg 6 ?_
 refine W.cond (decide ((n2:Int)<3000)) rfl (fun c246z=>?_) (fun c246z=>?_)
 ·replace hM:=M.e_t hM c246z
  simp only [qy1,qy2,qy3,qy4,qy5,qy6,ne_eq,qy7] at c246z
  obtain ⟨sd247z,hM⟩:=M.e_grd hM
  simp only [Bool.and_eq_true,decide_eq_true_eq] at sd247z
  refine kg 10 ?_
  refine s_val (x_rem' (a:=(n2:Int)) (b:=2) rfl rfl (by omega)) ?_
  refine kg 8 ?_
  replace H:=H.nilOwn (α:=Pk) 32
  obtain ⟨ex248z,hi249z,hk250z⟩:=M.e_bind hM
  obtain ⟨m0_,hi249z⟩:=M.e_iter hi249z
  refine W.loop (fun m σ W=>∃ (day:Int) (i:Nat) (l7:List Pk) (v_l7:Value) (ρ:Env),σ=upds ρ [(18,I (n2:Int)),(19,v_l7),(20,I day),(21,I (i:Int))]/\M.iterN (zbr n2) m (day,i,l7)=some ex248z/\St w W [cOwn (α:=Pk) 32 v_l7 l7] R) ?_ ?_
  ·exact ⟨_,(n2:Int) % 2,0,[],(.slice none 0 0),_,upds_of _ _ ⟨rfl,rfl,rfl,rfl,trivial⟩,hi249z,H⟩
  rintro m253z σ w251z ⟨day,i,l7,v_l7,ρ,rfl,hI252z,H⟩
  obtain ⟨m254z,lt255z,x256z,hM,hN257z⟩:=M.e_iterN hI252z
  clear hI252z
  refine kg 6 ?_
  refine W.cond (decide ((i:Int)<4)) rfl (fun c258z=>?_) (fun c258z=>?_)
  ·replace hM:=M.e_t hM c258z
   simp only [qy1,qy2,qy3,qy4,qy5,qy6,ne_eq,qy7] at c258z
   obtain ⟨sd259z,hM⟩:=M.e_grd hM
   simp only [Bool.and_eq_true,decide_eq_true_eq] at sd259z
   obtain ⟨sd260z,hM⟩:=M.e_grd hM
   simp only [Bool.and_eq_true,decide_eq_true_eq] at sd260z
   obtain ⟨sd261z,hM⟩:=M.e_grd hM
   simp only [Bool.and_eq_true,decide_eq_true_eq] at sd261z
   obtain ⟨sd262z,hM⟩:=M.e_grd hM
   simp only [Bool.and_eq_true,decide_eq_true_eq] at sd262z
   refine kg 11 ?_
   refine s_val (x_rem' (a:=(n2:Int) / ((3*(i:Int))+1)) (b:=4) rfl rfl (by omega)) ?_
   obtain ⟨sd263z,hM⟩:=M.e_grd hM
   simp only [Bool.and_eq_true,decide_eq_true_eq] at sd263z
   obtain ⟨sd264z,hM⟩:=M.e_grd hM
   simp only [Bool.and_eq_true,decide_eq_true_eq] at sd264z
   obtain ⟨sd265z,hM⟩:=M.e_grd hM
   simp only [Bool.and_eq_true,decide_eq_true_eq] at sd265z
   obtain ⟨sd266z,hM⟩:=M.e_grd hM
   simp only [Bool.and_eq_true,decide_eq_true_eq] at sd266z
   obtain ⟨sd267z,hM⟩:=M.e_grd hM
   simp only [Bool.and_eq_true,decide_eq_true_eq] at sd267z
   obtain ⟨sd268z,hM⟩:=M.e_grd hM
   simp only [Bool.and_eq_true,decide_eq_true_eq] at sd268z
   refine kg 12 ?_
   refine s_val (x_rem' (a:=(n2:Int) / ((2*(i:Int))+1)) (b:=8) rfl rfl (by omega)) ?_
   refine s_val (x_bld (ps:=[(0,I (day+(1+(((n2:Int) / ((3*(i:Int))+1)) % 4)))),(1,I (((n2:Int) / ((2*(i:Int))+1)) % 8))]) (zs:=[I 0,I 0]) (L':=[I (day+(1+(((n2:Int) / ((3*(i:Int))+1)) % 4))),I (((n2:Int) / ((2*(i:Int))+1)) % 8)]) rfl Tryz.underlying32 Al32 rfl (Bd32 Tryz.underlying32) (.cons (cs:=[I (day+(1+(((n2:Int) / ((3*(i:Int))+1)) % 4)))]) rfl rfl rfl rfl rfl<|.cons (cs:=[I (((n2:Int) / ((2*(i:Int))+1)) % 8)]) rfl rfl rfl rfl rfl<|.nil)) ?_
   refine t_bs (α:=Pk) T23 [.agg #[I (day+(1+(((n2:Int) / ((3*(i:Int))+1)) % 4))),I (((n2:Int) / ((2*(i:Int))+1)) % 8)]] [(⟨(day+(1+(((n2:Int) / ((3*(i:Int))+1)) % 4)):Int),(((n2:Int) / ((2*(i:Int))+1)) % 8:Int)⟩:Pk)] H rfl (.cons rfl (Flat.rep_enc _ (⟨(day+(1+(((n2:Int) / ((3*(i:Int))+1)) % 4)):Int),(((n2:Int) / ((2*(i:Int))+1)) % 8:Int)⟩:Pk))<|.nil) rfl rfl rfl ?_
   intro v269z w270z H
   obtain ⟨sd271z,hM⟩:=M.e_grd hM
   simp only [Bool.and_eq_true,decide_eq_true_eq] at sd271z
   refine t_app (α:=Pk) (k:=1) (l:=l7) (l2:=[(⟨(day+(1+(((n2:Int) / ((3*(i:Int))+1)) % 4)):Int),(((n2:Int) / ((2*(i:Int))+1)) % 8:Int)⟩:Pk)]) (l':=l7++([(⟨(day+(1+(((n2:Int) / ((3*(i:Int))+1)) % 4)):Int),(((n2:Int) / ((2*(i:Int))+1)) % 8:Int)⟩:Pk)])) (vy:=v269z) T23 rfl H rfl rfl rfl (H.os 0) (H.ol 0) (rfl) (by first | omega | (simp only [List.length_nil] at *; omega)) ?_
   intro v272z w273z H
   replace H:=H.nf
   refine kg 2 ?_
   replace H:=H.pk [1]
   refine kg 5 ?_
   exact ⟨m254z,lt255z,day+(1+(((n2:Int) / ((3*(i:Int))+1)) % 4)),i+1,l7++([(⟨(day+(1+(((n2:Int) / ((3*(i:Int))+1)) % 4)):Int),(((n2:Int) / ((2*(i:Int))+1)) % 8:Int)⟩:Pk)]),v272z,_,upds_of _ _ ⟨rfl,rfl,rfl,rfl,trivial⟩,M.e_inl hM hN257z,H⟩
  replace hM:=M.e_f hM c258z
  simp only [qy1,qy2,qy3,qy4,qy5,qy6,ne_eq,qy7] at c258z
  refine W.exit ?_
  have hX274z:=M.e_inr hM hN257z
  subst hX274z
  replace hM:=hk250z
  try dsimp only at hM
  refine kg 3 ?_
  refine s_val (x_rem' (a:=(n2:Int)) (b:=5) rfl rfl (by omega)) ?_
  obtain ⟨sd275z,hM⟩:=M.e_grd hM
  simp only [Bool.and_eq_true,decide_eq_true_eq] at sd275z
  obtain ⟨sd276z,hM⟩:=M.e_grd hM
  simp only [Bool.and_eq_true,decide_eq_true_eq] at sd276z
  refine kg 2 ?_
  refine s_val (x_rem' (a:=(n2:Int) / 5) (b:=5) rfl rfl (by omega)) ?_
  obtain ⟨sd277z,hM⟩:=M.e_grd hM
  simp only [Bool.and_eq_true,decide_eq_true_eq] at sd277z
  refine kg 2 ?_
  refine s_val (x_rem' (a:=(n2:Int) / 7) (b:=5) rfl rfl (by omega)) ?_
  obtain ⟨sd278z,hM⟩:=M.e_grd hM
  simp only [Bool.and_eq_true,decide_eq_true_eq] at sd278z
  refine kg 2 ?_
  refine s_val (x_rem' (a:=(n2:Int) / 3) (b:=5) rfl rfl (by omega)) ?_
  refine t_bs (α:=Int) T22 [I ((n2:Int) % 5),I (((n2:Int) / 5) % 5),I (((n2:Int) / 7) % 5),I (((n2:Int) / 3) % 5)] [((n2:Int) % 5:Int),(((n2:Int) / 5) % 5:Int),(((n2:Int) / 7) % 5:Int),(((n2:Int) / 3) % 5:Int)] H rfl (.cons rfl (Flat.rep_enc _ ((n2:Int) % 5:Int))<|.cons rfl (Flat.rep_enc _ (((n2:Int) / 5) % 5:Int))<|.cons rfl (Flat.rep_enc _ (((n2:Int) / 7) % 5:Int))<|.cons rfl (Flat.rep_enc _ (((n2:Int) / 3) % 5:Int))<|.nil) rfl rfl rfl ?_
  intro v279z w280z H
  refine kg 7 ?_
  refine s_val (x_rem' (a:=(n2:Int)) (b:=5) rfl rfl (by omega)) ?_
  obtain ⟨sd281z,hM⟩:=M.e_grd hM
  simp only [Bool.and_eq_true,decide_eq_true_eq] at sd281z
  obtain ⟨sd282z,hM⟩:=M.e_grd hM
  simp only [Bool.and_eq_true,decide_eq_true_eq] at sd282z
  refine kg 3 ?_
  refine s_val (x_rem' (a:=(n2:Int) / 4) (b:=4) rfl rfl (by omega)) ?_
  refine kg 1 ?_
  refine s_val (x_rem' (a:=(n2:Int)) (b:=2) rfl rfl (by omega)) ?_
  obtain ⟨sd283z,hM⟩:=M.e_grd hM
  simp only [Bool.and_eq_true,decide_eq_true_eq] at sd283z
  refine kg 2 ?_
  refine s_val (x_rem' (a:=(n2:Int) / 2) (b:=2) rfl rfl (by omega)) ?_
  obtain ⟨sd284z,hM⟩:=M.e_grd hM
  simp only [Bool.and_eq_true,decide_eq_true_eq] at sd284z
  refine kg 1 ?_
  refine t_bs (α:=Int) T22 [I ((n2:Int) % 2),I (2+(((n2:Int) / 2) % 2))] [((n2:Int) % 2:Int),(2+(((n2:Int) / 2) % 2):Int)] H rfl (.cons rfl (Flat.rep_enc _ ((n2:Int) % 2:Int))<|.cons rfl (Flat.rep_enc _ (2+(((n2:Int) / 2) % 2):Int))<|.nil) rfl rfl rfl ?_
  intro v285z w286z H
  refine kg 1 ?_
  refine s_val (x_rem' (a:=(n2:Int)) (b:=3) rfl rfl (by omega)) ?_
  obtain ⟨sd289z,hM⟩:=M.e_grd hM
  simp only [Bool.and_eq_true,decide_eq_true_eq] at sd289z
  obtain ⟨u287z,hr_u287z,hs288z⟩:=sl_hi T22.und T22.size (H.os 0) (j:=(n2:Int) % 3) (by omega) (by omega)
  replace hs288z:Sl _ u287z (([((n2:Int) % 2:Int),(2+(((n2:Int) / 2) % 2):Int)]).take (Int.toNat ((n2:Int) % 3))):=hs288z
  refine s_val (x_sl (v:=v285z) (u:=u287z) (lo':=none) (hi':=some (I ((n2:Int) % 3))) (mx':=none) rfl rfl rfl rfl (hr_u287z _)) ?_
  refine kg 1 ?_
  refine s_val (x_rem' (a:=(n2:Int)) (b:=12) rfl rfl (by omega)) ?_
  refine kg 1 ?_
  obtain ⟨r291z,hx290z,hM⟩:=M.e_bind hM
  refine s_call cf6 [v_l7,I (1+((n2:Int) % 5)),I (((n2:Int) / 4) % 4),u287z,I ((n2:Int) % 12),v279z] rfl (zcZ l7 (1+((n2:Int) % 5)) (((n2:Int) / 4) % 4) (([((n2:Int) % 2:Int),(2+(((n2:Int) / 2) % 2):Int)]).take (Int.toNat ((n2:Int) % 3))) ((n2:Int) % 12) ([((n2:Int) % 5:Int),(((n2:Int) / 5) % 5:Int),(((n2:Int) / 7) % 5:Int),(((n2:Int) / 3) % 5:Int)]) (rdo 2) (H.os 2) (rdo 0) hs288z (rdo 1) (H.os 1) hx290z _ (H.gt 3)) ?_
  rintro vq w292z ⟨r7,hr293z,hvq,H2_⟩
  subst hr293z
  subst vq
  try dsimp only at hM
  replace H:=H.bk H2_
  clear H2_
  refine kg 2 ?_
  replace H:=H.pk []
  refine W.cond (!r7) rfl (fun c294z=>?_) (fun c294z=>?_)
  ·replace hM:=M.e_t hM c294z
   refine kg 4 ?_
   refine W.ret ?_
   have hX295z:=M.e_inr hM hN245z
   subst hX295z
   replace hM:=hk238z
   try dsimp only at hM
   have hr_:=M.e_pure hM
   exact ⟨_,resE_tmp rfl,⟨false,hr_,rfl,H⟩⟩
  replace hM:=M.e_f hM c294z
  refine kg 5 ?_
  refine s_val (x_rem' (a:=(n2:Int)) (b:=4) rfl rfl (by omega)) ?_
  refine kg 2 ?_
  refine W.cond (decide (0<((n2:Int) % 4))) rfl (fun c296z=>?_) (fun c296z=>?_)
  ·replace hM:=M.e_t hM c296z
   simp only [qy1,qy2,qy3,qy4,qy5,qy6,ne_eq,qy7] at c296z
   refine W.exit ?_
   refine kg 5 ?_
   exact ⟨m242z,lt243z,n2+1,_,upds_of _ _ ⟨rfl,trivial⟩,M.e_inl hM hN245z,H⟩
  replace hM:=M.e_f hM c296z
  simp only [qy1,qy2,qy3,qy4,qy5,qy6,ne_eq,qy7] at c296z
  refine kg 4 ?_
  refine s_val (x_rem' (a:=(n2:Int)) (b:=2) rfl rfl (by omega)) ?_
  obtain ⟨sd297z,hM⟩:=M.e_grd hM
  simp only [Bool.and_eq_true,decide_eq_true_eq] at sd297z
  refine kg 3 ?_
  refine s_val (x_rem' (a:=(n2:Int) / 3) (b:=2) rfl rfl (by omega)) ?_
  obtain ⟨sd298z,hM⟩:=M.e_grd hM
  simp only [Bool.and_eq_true,decide_eq_true_eq] at sd298z
  refine kg 2 ?_
  refine s_val (x_rem' (a:=(n2:Int)) (b:=4) rfl rfl (by omega)) ?_
  obtain ⟨sd299z,hM⟩:=M.e_grd hM
  simp only [Bool.and_eq_true,decide_eq_true_eq] at sd299z
  refine kg 1 ?_
  refine t_bs (α:=Int) T22 [I 6,I 7] [(6:Int),(7:Int)] H rfl (.cons rfl (Flat.rep_enc _ (6:Int))<|.cons rfl (Flat.rep_enc _ (7:Int))<|.nil) rfl rfl rfl ?_
  intro v300z w301z H
  refine kg 2 ?_
  refine s_val (x_rem' (a:=(n2:Int) / 5) (b:=3) rfl rfl (by omega)) ?_
  obtain ⟨sd304z,hM⟩:=M.e_grd hM
  simp only [Bool.and_eq_true,decide_eq_true_eq] at sd304z
  obtain ⟨u302z,hr_u302z,hs303z⟩:=sl_hi T22.und T22.size (H.os 0) (j:=((n2:Int) / 5) % 3) (by omega) (by omega)
  replace hs303z:Sl _ u302z (([(6:Int),(7:Int)]).take (Int.toNat (((n2:Int) / 5) % 3))):=hs303z
  refine s_val (x_sl (v:=v300z) (u:=u302z) (lo':=none) (hi':=some (I (((n2:Int) / 5) % 3))) (mx':=none) rfl rfl rfl rfl (hr_u302z _)) ?_
  refine s_val (x_bld (ps:=[(0,I (5+((n2:Int) % 2))),(1,I (7+(((n2:Int) / 3) % 2))),(2,I (3+((n2:Int) % 4))),(3,u302z)]) (zs:=[I 0,I 0,I 0,.slice none 0 0]) (L':=[I (5+((n2:Int) % 2)),I (7+(((n2:Int) / 3) % 2)),I (3+((n2:Int) % 4)),u302z]) rfl Tryz.underlying38 Al38 rfl (Bd38 Tryz.underlying38) (.cons (cs:=[I (5+((n2:Int) % 2))]) rfl rfl rfl rfl rfl<|.cons (cs:=[I (7+(((n2:Int) / 3) % 2))]) rfl rfl rfl rfl rfl<|.cons (cs:=[I (3+((n2:Int) % 4))]) rfl rfl rfl rfl rfl<|.cons (cs:=[u302z]) (Sl.cells hs303z) rfl rfl rfl rfl<|.nil)) ?_
  refine kg 2 ?_
  refine s_val (x_rem' (a:=(n2:Int) / 7) (b:=3) rfl rfl (by omega)) ?_
  obtain ⟨sd305z,hM⟩:=M.e_grd hM
  simp only [Bool.and_eq_true,decide_eq_true_eq] at sd305z
  refine kg 2 ?_
  refine s_val (x_rem' (a:=(n2:Int)) (b:=7) rfl rfl (by omega)) ?_
  obtain ⟨sd306z,hM⟩:=M.e_grd hM
  simp only [Bool.and_eq_true,decide_eq_true_eq] at sd306z
  refine kg 3 ?_
  refine s_val (x_rem' (a:=(n2:Int) / 2) (b:=2) rfl rfl (by omega)) ?_
  obtain ⟨sd307z,hM⟩:=M.e_grd hM
  simp only [Bool.and_eq_true,decide_eq_true_eq] at sd307z
  refine kg 1 ?_
  refine t_bs (α:=Int) T22 [I (5+(((n2:Int) / 2) % 2))] [(5+(((n2:Int) / 2) % 2):Int)] H rfl (.cons rfl (Flat.rep_enc _ (5+(((n2:Int) / 2) % 2):Int))<|.nil) rfl rfl rfl ?_
  intro v308z w309z H
  refine s_val (x_bld (ps:=[(0,I 5),(1,I (6+(((n2:Int) / 7) % 3))),(2,I (1+((n2:Int) % 7))),(3,v308z)]) (zs:=[I 0,I 0,I 0,.slice none 0 0]) (L':=[I 5,I (6+(((n2:Int) / 7) % 3)),I (1+((n2:Int) % 7)),v308z]) rfl Tryz.underlying38 Al38 rfl (Bd38 Tryz.underlying38) (.cons (cs:=[I 5]) rfl rfl rfl rfl rfl<|.cons (cs:=[I (6+(((n2:Int) / 7) % 3))]) rfl rfl rfl rfl rfl<|.cons (cs:=[I (1+((n2:Int) % 7))]) rfl rfl rfl rfl rfl<|.cons (cs:=[v308z]) (Sl.cells (H.os 0)) rfl rfl rfl rfl<|.nil)) ?_
  obtain ⟨Bs_27,H⟩:=H.emptyE
  obtain ⟨Bs_28,H,hs311z,le312z⟩:=H.freezeV (k:=2) rfl
  replace H:=H.nf
  have hs313z:=hs303z.mono le312z
  have hq310z:=hs313z
  obtain ⟨Bs_29,H,le314z,le315z⟩:=H.joinE (i:=0) (j:=2) rfl rfl
  replace hq310z:=hq310z.mono le315z
  obtain ⟨Bs_30,H,hs317z⟩:=H.freezeE (k:=2) rfl
  replace H:=H.nf
  have hq316z:=hs317z
  obtain ⟨Bs_31,H,le318z,le319z⟩:=H.joinE (i:=0) (j:=2) rfl rfl
  replace hq310z:=hq310z.mono le318z
  replace hq316z:=hq316z.mono le319z
  obtain ⟨rw320z,hrw_rw320z⟩:∃ r:Raw 3,r.cs=[I (5+((n2:Int) % 2)),I (7+(((n2:Int) / 3) % 2)),I (3+((n2:Int) % 4)),u302z]:=⟨Raw.of [I (5+((n2:Int) % 2)),I (7+(((n2:Int) / 3) % 2)),I (3+((n2:Int) % 4)),u302z] rfl (by simp only [List.all_cons,List.all_nil,Bool.true_and,Bool.and_true,Sl.oc hq310z]; try rfl),rfl⟩
  obtain ⟨rw321z,hrw_rw321z⟩:∃ r:Raw 3,r.cs=[I 5,I (6+(((n2:Int) / 7) % 3)),I (1+((n2:Int) % 7)),v308z]:=⟨Raw.of [I 5,I (6+(((n2:Int) / 7) % 3)),I (1+((n2:Int) % 7)),v308z] rfl (by simp only [List.all_cons,List.all_nil,Bool.true_and,Bool.and_true,Sl.oc hq316z]; try rfl),rfl⟩
  have hr322z:RepR (α:=Old10) Bs_31.cells [rw320z,rw321z] [(⟨(5+((n2:Int) % 2):Int),(7+(((n2:Int) / 3) % 2):Int),(3+((n2:Int) % 4):Int),(([(6:Int),(7:Int)]).take (Int.toNat (((n2:Int) / 5) % 3)))⟩:Old10),(⟨(5:Int),(6+(((n2:Int) / 7) % 3):Int),(1+((n2:Int) % 7):Int),([(5+(((n2:Int) / 2) % 2):Int)])⟩:Old10)]:=.cons (by rw [hrw_rw320z]; exact ⟨_,rfl,hq310z⟩)<|.cons (by rw [hrw_rw321z]; exact ⟨_,rfl,hq316z⟩)<|.nil
  refine t_bs (α:=Raw 3) T26 [.agg #[I (5+((n2:Int) % 2)),I (7+(((n2:Int) / 3) % 2)),I (3+((n2:Int) % 4)),u302z],.agg #[I 5,I (6+(((n2:Int) / 7) % 3)),I (1+((n2:Int) % 7)),v308z]] [rw320z,rw321z] H rfl (.cons (by rw [show (Flat.enc rw320z:List Value)=rw320z.cs from rfl,hrw_rw320z]; rfl) (Flat.rep_enc _ _)<|.cons (by rw [show (Flat.enc rw321z:List Value)=rw321z.cs from rfl,hrw_rw321z]; rfl) (Flat.rep_enc _ _)<|.nil) rfl rfl rfl ?_
  intro v323z w324z H
  replace H:=H.nf
  refine s_val (x_bld (ps:=[(2,I 5),(3,I 8),(1,v323z)]) (zs:=[.slice none 0 0,.slice none 0 0,I 0,I 0]) (L':=[.slice none 0 0,v323z,I 5,I 8]) rfl Tryz.underlying28 Al28 rfl (Bd28 Tryz.underlying28) (.cons (cs:=[I 5]) rfl rfl rfl rfl rfl<|.cons (cs:=[I 8]) rfl rfl rfl rfl rfl<|.cons (cs:=[v323z]) (Sl.cells (rowSl rfl (H.get (k:=0) rfl) (roLe _ (H.get (k:=1) rfl)) hr322z)) rfl rfl rfl rfl<|.nil)) ?_
  refine t_alloc (cs:=[.slice none 0 0,.slice none 0 0,I 0,I 0]) H Al28 rfl ?_
  intro b_33 w325z H
  refine t_sw 0 0 [.slice none 0 0,v323z,I 5,I 8] (.agg #[.slice none 0 0,v323z,I 5,I 8]) H rfl rfl Sz28 rfl rfl rfl (by simp only [List.all_cons,List.all_nil,Bool.true_and,Bool.and_true,Sl.oc (rowSl rfl (H.get (k:=1) rfl) (roLe _ (H.get (k:=2) rfl)) hr322z)]; try rfl) ?_
  intro w326z H
  refine s_nil ?_
  replace H:=H.pk [0,1,2]
  refine kg 4 ?_
  refine s_val (x_rem' (a:=(n2:Int)) (b:=3) rfl rfl (by omega)) ?_
  refine kg 2 ?_
  refine W.cond (decide (0<((n2:Int) % 3))) rfl (fun c327z=>?_) (fun c327z=>?_)
  ·replace hM:=M.e_t hM c327z
   simp only [qy1,qy2,qy3,qy4,qy5,qy6,ne_eq,qy7] at c327z
   obtain ⟨sd328z,hM⟩:=M.e_grd hM
   simp only [Bool.and_eq_true,decide_eq_true_eq] at sd328z
   refine kg 3 ?_
   refine s_val (x_rem' (a:=(n2:Int) / 8) (b:=3) rfl rfl (by omega)) ?_
   obtain ⟨sd329z,hM⟩:=M.e_grd hM
   simp only [Bool.and_eq_true,decide_eq_true_eq] at sd329z
   obtain ⟨sd330z,hM⟩:=M.e_grd hM
   simp only [Bool.and_eq_true,decide_eq_true_eq] at sd330z
   refine kg 3 ?_
   refine s_val (x_rem' (a:=(n2:Int) / 6) (b:=5) rfl rfl (by omega)) ?_
   refine kg 2 ?_
   refine s_val (x_rem' (a:=(n2:Int) / 6) (b:=5) rfl rfl (by omega)) ?_
   refine kg 1 ?_
   refine s_val (x_rem' (a:=(n2:Int)) (b:=6) rfl rfl (by omega)) ?_
   obtain ⟨sd331z,hM⟩:=M.e_grd hM
   simp only [Bool.and_eq_true,decide_eq_true_eq] at sd331z
   refine kg 1 ?_
   refine s_val (x_bld (ps:=[(0,I (((n2:Int) / 6) % 5)),(1,I ((((n2:Int) / 6) % 5)+((n2:Int) % 6)))]) (zs:=[I 0,I 0]) (L':=[I (((n2:Int) / 6) % 5),I ((((n2:Int) / 6) % 5)+((n2:Int) % 6))]) rfl Tryz.underlying34 Al34 rfl (Bd34 Tryz.underlying34) (.cons (cs:=[I (((n2:Int) / 6) % 5)]) rfl rfl rfl rfl rfl<|.cons (cs:=[I ((((n2:Int) / 6) % 5)+((n2:Int) % 6))]) rfl rfl rfl rfl rfl<|.nil)) ?_
   refine s_val (x_bld (ps:=[(0,I (5+(((n2:Int) / 8) % 3))),(1,.agg #[I (((n2:Int) / 6) % 5),I ((((n2:Int) / 6) % 5)+((n2:Int) % 6))])]) (zs:=[I 0,I 0,I 0]) (L':=[I (5+(((n2:Int) / 8) % 3)),I (((n2:Int) / 6) % 5),I ((((n2:Int) / 6) % 5)+((n2:Int) % 6))]) rfl Tryz.underlying36 Al36 rfl (Bd36 Tryz.underlying36) (.cons (cs:=[I (5+(((n2:Int) / 8) % 3))]) rfl rfl rfl rfl rfl<|.cons (cs:=[I (((n2:Int) / 6) % 5),I ((((n2:Int) / 6) % 5)+((n2:Int) % 6))]) rfl rfl rfl rfl rfl<|.nil)) ?_
   refine t_bs (α:=Yr) T25 [.agg #[I (5+(((n2:Int) / 8) % 3)),I (((n2:Int) / 6) % 5),I ((((n2:Int) / 6) % 5)+((n2:Int) % 6))]] [(⟨(5+(((n2:Int) / 8) % 3):Int),(((n2:Int) / 6) % 5:Int),((((n2:Int) / 6) % 5)+((n2:Int) % 6):Int)⟩:Yr)] H rfl (.cons rfl (Flat.rep_enc _ (⟨(5+(((n2:Int) / 8) % 3):Int),(((n2:Int) / 6) % 5:Int),((((n2:Int) / 6) % 5)+((n2:Int) % 6):Int)⟩:Yr))<|.nil) rfl rfl rfl ?_
   intro v332z w333z H
   refine kg 1 ?_
   refine t_sw 1 0 [v332z] v332z H rfl rfl Sz25 (Sl.cells (H.os 0)) rfl rfl (by simp only [List.all_cons,List.all_nil,Bool.true_and,Bool.and_true,Sl.oc (H.os 0)]; try rfl) ?_
   intro w334z H
   refine kg 5 ?_
   refine s_val (x_rem' (a:=(n2:Int)) (b:=8) rfl rfl (by omega)) ?_
   obtain ⟨sd335z,hM⟩:=M.e_grd hM
   simp only [Bool.and_eq_true,decide_eq_true_eq] at sd335z
   refine kg 2 ?_
   refine s_val (x_rem' (a:=(n2:Int) / 8) (b:=8) rfl rfl (by omega)) ?_
   obtain ⟨sd336z,hM⟩:=M.e_grd hM
   simp only [Bool.and_eq_true,decide_eq_true_eq] at sd336z
   refine kg 2 ?_
   refine s_val (x_rem' (a:=(n2:Int) / 64) (b:=8) rfl rfl (by omega)) ?_
   obtain ⟨sd337z,hM⟩:=M.e_grd hM
   simp only [Bool.and_eq_true,decide_eq_true_eq] at sd337z
   refine kg 2 ?_
   refine s_val (x_rem' (a:=(n2:Int) / 512) (b:=8) rfl rfl (by omega)) ?_
   refine t_bs (α:=Int) T22 [I ((n2:Int) % 8),I (((n2:Int) / 8) % 8),I (((n2:Int) / 64) % 8),I (((n2:Int) / 512) % 8)] [((n2:Int) % 8:Int),(((n2:Int) / 8) % 8:Int),(((n2:Int) / 64) % 8:Int),(((n2:Int) / 512) % 8:Int)] H rfl (.cons rfl (Flat.rep_enc _ ((n2:Int) % 8:Int))<|.cons rfl (Flat.rep_enc _ (((n2:Int) / 8) % 8:Int))<|.cons rfl (Flat.rep_enc _ (((n2:Int) / 64) % 8:Int))<|.cons rfl (Flat.rep_enc _ (((n2:Int) / 512) % 8:Int))<|.nil) rfl rfl rfl ?_
   intro v338z w339z H
   refine kg 1 ?_
   refine s_val (x_rem' (a:=(n2:Int)) (b:=4) rfl rfl (by omega)) ?_
   obtain ⟨sd340z,hM⟩:=M.e_grd hM
   simp only [Bool.and_eq_true,decide_eq_true_eq] at sd340z
   refine kg 1 ?_
   obtain ⟨r342z,hx341z,hM⟩:=M.e_bind hM
   refine s_call cf7 [.agg #[v332z,v323z,I 5,I 8],v338z,I (5+((n2:Int) % 4))] rfl (zbd ([(⟨(5+(((n2:Int) / 8) % 3):Int),(((n2:Int) / 6) % 5:Int),((((n2:Int) / 6) % 5)+((n2:Int) % 6):Int)⟩:Yr)]) ([(⟨(5+((n2:Int) % 2):Int),(7+(((n2:Int) / 3) % 2):Int),(3+((n2:Int) % 4):Int),(([(6:Int),(7:Int)]).take (Int.toNat (((n2:Int) / 5) % 3)))⟩:Old10),(⟨(5:Int),(6+(((n2:Int) / 7) % 3):Int),(1+((n2:Int) % 7):Int),([(5+(((n2:Int) / 2) % 2):Int)])⟩:Old10)]) 5 8 ([((n2:Int) % 8:Int),(((n2:Int) / 8) % 8:Int),(((n2:Int) / 64) % 8:Int),(((n2:Int) / 512) % 8:Int)]) (5+((n2:Int) % 4)) (rdo 1) (H.os 1) (Reads.sup (rdo 3) (Reads.of (k:=4) rfl roLe)) (rowSl rfl (H.get (k:=3) rfl) (roLe _ (H.get (k:=4) rfl)) hr322z) (rdo 0) (H.os 0) hx341z _ (H.gt 5)) ?_
   rintro vq w343z ⟨r8,hr344z,hvq,H2_⟩
   subst hr344z
   subst vq
   try dsimp only at hM
   replace H:=H.bk H2_
   clear H2_
   refine kg 4 ?_
   refine g_val (!(!r8)) (gy_f rfl) (fun hg=>x_rem' (a:=(n2:Int)) (b:=3) (gd_of (c:=!(!r8)) hg (I (n2:Int))) rfl (by first | omega | (have hx_:=hg; simp at hx_; omega))) ?_
   obtain ⟨sd345z,hM⟩:=M.e_grd hM
   replace sd345z:=M.imp_of sd345z
   simp only [Bool.and_eq_true,decide_eq_true_eq] at sd345z
   refine kg 3 ?_
   refine g_val (!(!r8)) (gy_f rfl) (fun hg=>x_rem' (a:=(n2:Int) / 3) (b:=3) (gd_of (c:=!(!r8)) hg (I ((n2:Int) / 3))) rfl (by have h1_:=sd345z.resolve_left (by rw [hg]; decide); first | exact h1_ | exact h1_.1 | exact h1_.2 | omega | (have hx_:=hg; simp at hx_; omega))) ?_
   obtain ⟨sd346z,hM⟩:=M.e_grd hM
   replace sd346z:=M.imp_of sd346z
   simp only [Bool.and_eq_true,decide_eq_true_eq] at sd346z
   refine kg 2 ?_
   refine g_val (!(!r8)) (gy_f rfl) (fun hg=>x_rem' (a:=(n2:Int)) (b:=9) (gd_of (c:=!(!r8)) hg (I (n2:Int))) rfl (by have h1_:=sd345z.resolve_left (by rw [hg]; decide); have h2_:=sd346z.resolve_left (by rw [hg]; decide); first | exact h1_ | exact h1_.1 | exact h1_.2 | exact h2_ | exact h2_.1 | exact h2_.2 | omega | (have hx_:=hg; simp at hx_; omega))) ?_
   refine kg 1 ?_
   refine g_val (!(!r8)) (gy_f rfl) (fun hg=>x_rem' (a:=(n2:Int)) (b:=4) (gd_of (c:=!(!r8)) hg (I (n2:Int))) rfl (by have h1_:=sd345z.resolve_left (by rw [hg]; decide); have h2_:=sd346z.resolve_left (by rw [hg]; decide); first | exact h1_ | exact h1_.1 | exact h1_.2 | exact h2_ | exact h2_.1 | exact h2_.2 | omega | (have hx_:=hg; simp at hx_; omega))) ?_
   obtain ⟨sd347z,hM⟩:=M.e_grd hM
   replace sd347z:=M.imp_of sd347z
   simp only [Bool.and_eq_true,decide_eq_true_eq] at sd347z
   refine kg 2 ?_
   refine g_val (!(!r8)) (gy_f rfl) (fun hg=>x_rem' (a:=(n2:Int)) (b:=8) (gd_of (c:=!(!r8)) hg (I (n2:Int))) rfl (by have h1_:=sd345z.resolve_left (by rw [hg]; decide); have h2_:=sd346z.resolve_left (by rw [hg]; decide); have h3_:=sd347z.resolve_left (by rw [hg]; decide); first | exact h1_ | exact h1_.1 | exact h1_.2 | exact h2_ | exact h2_.1 | exact h2_.2 | exact h3_ | exact h3_.1 | exact h3_.2 | omega | (have hx_:=hg; simp at hx_; omega))) ?_
   refine kg 1 ?_
   obtain ⟨r9,hx348z,hM⟩:=M.e_bind hM
   refine t_gcall (!(!r8)) (gy_f rfl) cf8 (B r9) (fun _=>[.agg #[v332z,v323z,I 5,I 8],I (5+((n2:Int) % 3)),I (6+(((n2:Int) / 3) % 3)),I ((n2:Int) % 9),I (1+((n2:Int) % 4)),B (((n2:Int) % 8)==0)]) (fun hg=>lst6 (gd_of (c:=!(!r8)) hg (.agg #[v332z,v323z,I 5,I 8])) (gd_of (c:=!(!r8)) hg (I (5+((n2:Int) % 3)))) (gd_of (c:=!(!r8)) hg (I (6+(((n2:Int) / 3) % 3)))) (gd_of (c:=!(!r8)) hg (I ((n2:Int) % 9))) (gd_of (c:=!(!r8)) hg (I (1+((n2:Int) % 4)))) (gd_of (c:=!(!r8)) hg (B (((n2:Int) % 8)==0)))) H (fun hg=>(za2 ([(⟨(5+(((n2:Int) / 8) % 3):Int),(((n2:Int) / 6) % 5:Int),((((n2:Int) / 6) % 5)+((n2:Int) % 6):Int)⟩:Yr)]) ([(⟨(5+((n2:Int) % 2):Int),(7+(((n2:Int) / 3) % 2):Int),(3+((n2:Int) % 4):Int),(([(6:Int),(7:Int)]).take (Int.toNat (((n2:Int) / 5) % 3)))⟩:Old10),(⟨(5:Int),(6+(((n2:Int) / 7) % 3):Int),(1+((n2:Int) % 7):Int),([(5+(((n2:Int) / 2) % 2):Int)])⟩:Old10)]) 5 8 (5+((n2:Int) % 3)) (6+(((n2:Int) / 3) % 3)) ((n2:Int) % 9) (1+((n2:Int) % 4)) (((n2:Int) % 8)==0) (rdo 1) (H.os 1) (Reads.sup (rdo 3) (Reads.of (k:=4) rfl roLe)) (rowSl rfl (H.get (k:=3) rfl) (roLe _ (H.get (k:=4) rfl)) hr322z) (M.e_opt hx348z hg) _ (H.give (A:=[]) rfl)).mono fun v_ w_ ⟨y_,hr_,hv_,H_⟩=>by subst hr_; exact ⟨hv_,H.via H_⟩) ?_
   intro w349z H
   refine kg 1 ?_
   refine s_val (x_por (b:=!r8) (r:=!r9) rfl rfl (fun hb=>gd_of (c:=!(!r8)) (by first | exact hb | (rw [hb]; rfl) | (rw [hg,hb]; rfl) | simp_all) (B (!r9)))) ?_
   refine s_nil ?_
   replace H:=H.pk [1,3,4]
   refine W.cond ((!r8)||(!r9)) rfl (fun c350z=>?_) (fun c350z=>?_)
   ·replace hM:=M.e_t hM c350z
    refine kg 4 ?_
    replace H:=H.pk []
    refine W.ret ?_
    have hX351z:=M.e_inr hM hN245z
    subst hX351z
    replace hM:=hk238z
    try dsimp only at hM
    have hr_:=M.e_pure hM
    exact ⟨_,resE_tmp rfl,⟨false,hr_,rfl,H⟩⟩
   replace hM:=M.e_f hM c350z
   refine kg 6 ?_
   exact ⟨m242z,lt243z,n2+1,_,upds_of _ _ ⟨rfl,trivial⟩,M.e_inl hM hN245z,(H.pk [])⟩
  replace hM:=M.e_f hM c327z
  simp only [qy1,qy2,qy3,qy4,qy5,qy6,ne_eq,qy7] at c327z
  refine kg 5 ?_
  refine s_val (x_rem' (a:=(n2:Int)) (b:=8) rfl rfl (by omega)) ?_
  obtain ⟨sd352z,hM⟩:=M.e_grd hM
  simp only [Bool.and_eq_true,decide_eq_true_eq] at sd352z
  refine kg 2 ?_
  refine s_val (x_rem' (a:=(n2:Int) / 8) (b:=8) rfl rfl (by omega)) ?_
  obtain ⟨sd353z,hM⟩:=M.e_grd hM
  simp only [Bool.and_eq_true,decide_eq_true_eq] at sd353z
  refine kg 2 ?_
  refine s_val (x_rem' (a:=(n2:Int) / 64) (b:=8) rfl rfl (by omega)) ?_
  obtain ⟨sd354z,hM⟩:=M.e_grd hM
  simp only [Bool.and_eq_true,decide_eq_true_eq] at sd354z
  refine kg 2 ?_
  refine s_val (x_rem' (a:=(n2:Int) / 512) (b:=8) rfl rfl (by omega)) ?_
  refine t_bs (α:=Int) T22 [I ((n2:Int) % 8),I (((n2:Int) / 8) % 8),I (((n2:Int) / 64) % 8),I (((n2:Int) / 512) % 8)] [((n2:Int) % 8:Int),(((n2:Int) / 8) % 8:Int),(((n2:Int) / 64) % 8:Int),(((n2:Int) / 512) % 8:Int)] H rfl (.cons rfl (Flat.rep_enc _ ((n2:Int) % 8:Int))<|.cons rfl (Flat.rep_enc _ (((n2:Int) / 8) % 8:Int))<|.cons rfl (Flat.rep_enc _ (((n2:Int) / 64) % 8:Int))<|.cons rfl (Flat.rep_enc _ (((n2:Int) / 512) % 8:Int))<|.nil) rfl rfl rfl ?_
  intro v355z w356z H
  refine kg 1 ?_
  refine s_val (x_rem' (a:=(n2:Int)) (b:=4) rfl rfl (by omega)) ?_
  obtain ⟨sd357z,hM⟩:=M.e_grd hM
  simp only [Bool.and_eq_true,decide_eq_true_eq] at sd357z
  refine kg 1 ?_
  obtain ⟨r359z,hx358z,hM⟩:=M.e_bind hM
  refine s_call cf7 [.agg #[.slice none 0 0,v323z,I 5,I 8],v355z,I (5+((n2:Int) % 4))] rfl (zbd ([]:List Yr) ([(⟨(5+((n2:Int) % 2):Int),(7+(((n2:Int) / 3) % 2):Int),(3+((n2:Int) % 4):Int),(([(6:Int),(7:Int)]).take (Int.toNat (((n2:Int) / 5) % 3)))⟩:Old10),(⟨(5:Int),(6+(((n2:Int) / 7) % 3):Int),(1+((n2:Int) % 7):Int),([(5+(((n2:Int) / 2) % 2):Int)])⟩:Old10)]) 5 8 ([((n2:Int) % 8:Int),(((n2:Int) / 8) % 8:Int),(((n2:Int) / 64) % 8:Int),(((n2:Int) / 512) % 8:Int)]) (5+((n2:Int) % 4)) Reads.none (Sl.nil (fun _=>none)) (Reads.sup (rdo 2) (Reads.of (k:=3) rfl roLe)) (rowSl rfl (H.get (k:=2) rfl) (roLe _ (H.get (k:=3) rfl)) hr322z) (rdo 0) (H.os 0) hx358z _ (H.gt 4)) ?_
  rintro vq w360z ⟨r8,hr361z,hvq,H2_⟩
  subst hr361z
  subst vq
  try dsimp only at hM
  replace H:=H.bk H2_
  clear H2_
  refine kg 4 ?_
  refine g_val (!(!r8)) (gy_f rfl) (fun hg=>x_rem' (a:=(n2:Int)) (b:=3) (gd_of (c:=!(!r8)) hg (I (n2:Int))) rfl (by first | omega | (have hx_:=hg; simp at hx_; omega))) ?_
  obtain ⟨sd362z,hM⟩:=M.e_grd hM
  replace sd362z:=M.imp_of sd362z
  simp only [Bool.and_eq_true,decide_eq_true_eq] at sd362z
  refine kg 3 ?_
  refine g_val (!(!r8)) (gy_f rfl) (fun hg=>x_rem' (a:=(n2:Int) / 3) (b:=3) (gd_of (c:=!(!r8)) hg (I ((n2:Int) / 3))) rfl (by have h1_:=sd362z.resolve_left (by rw [hg]; decide); first | exact h1_ | exact h1_.1 | exact h1_.2 | omega | (have hx_:=hg; simp at hx_; omega))) ?_
  obtain ⟨sd363z,hM⟩:=M.e_grd hM
  replace sd363z:=M.imp_of sd363z
  simp only [Bool.and_eq_true,decide_eq_true_eq] at sd363z
  refine kg 2 ?_
  refine g_val (!(!r8)) (gy_f rfl) (fun hg=>x_rem' (a:=(n2:Int)) (b:=9) (gd_of (c:=!(!r8)) hg (I (n2:Int))) rfl (by have h1_:=sd362z.resolve_left (by rw [hg]; decide); have h2_:=sd363z.resolve_left (by rw [hg]; decide); first | exact h1_ | exact h1_.1 | exact h1_.2 | exact h2_ | exact h2_.1 | exact h2_.2 | omega | (have hx_:=hg; simp at hx_; omega))) ?_
  refine kg 1 ?_
  refine g_val (!(!r8)) (gy_f rfl) (fun hg=>x_rem' (a:=(n2:Int)) (b:=4) (gd_of (c:=!(!r8)) hg (I (n2:Int))) rfl (by have h1_:=sd362z.resolve_left (by rw [hg]; decide); have h2_:=sd363z.resolve_left (by rw [hg]; decide); first | exact h1_ | exact h1_.1 | exact h1_.2 | exact h2_ | exact h2_.1 | exact h2_.2 | omega | (have hx_:=hg; simp at hx_; omega))) ?_
  obtain ⟨sd364z,hM⟩:=M.e_grd hM
  replace sd364z:=M.imp_of sd364z
  simp only [Bool.and_eq_true,decide_eq_true_eq] at sd364z
  refine kg 2 ?_
  refine g_val (!(!r8)) (gy_f rfl) (fun hg=>x_rem' (a:=(n2:Int)) (b:=8) (gd_of (c:=!(!r8)) hg (I (n2:Int))) rfl (by have h1_:=sd362z.resolve_left (by rw [hg]; decide); have h2_:=sd363z.resolve_left (by rw [hg]; decide); have h3_:=sd364z.resolve_left (by rw [hg]; decide); first | exact h1_ | exact h1_.1 | exact h1_.2 | exact h2_ | exact h2_.1 | exact h2_.2 | exact h3_ | exact h3_.1 | exact h3_.2 | omega | (have hx_:=hg; simp at hx_; omega))) ?_
  refine kg 1 ?_
  obtain ⟨r9,hx365z,hM⟩:=M.e_bind hM
  refine t_gcall (!(!r8)) (gy_f rfl) cf8 (B r9) (fun _=>[.agg #[.slice none 0 0,v323z,I 5,I 8],I (5+((n2:Int) % 3)),I (6+(((n2:Int) / 3) % 3)),I ((n2:Int) % 9),I (1+((n2:Int) % 4)),B (((n2:Int) % 8)==0)]) (fun hg=>lst6 (gd_of (c:=!(!r8)) hg (.agg #[.slice none 0 0,v323z,I 5,I 8])) (gd_of (c:=!(!r8)) hg (I (5+((n2:Int) % 3)))) (gd_of (c:=!(!r8)) hg (I (6+(((n2:Int) / 3) % 3)))) (gd_of (c:=!(!r8)) hg (I ((n2:Int) % 9))) (gd_of (c:=!(!r8)) hg (I (1+((n2:Int) % 4)))) (gd_of (c:=!(!r8)) hg (B (((n2:Int) % 8)==0)))) H (fun hg=>(za2 ([]:List Yr) ([(⟨(5+((n2:Int) % 2):Int),(7+(((n2:Int) / 3) % 2):Int),(3+((n2:Int) % 4):Int),(([(6:Int),(7:Int)]).take (Int.toNat (((n2:Int) / 5) % 3)))⟩:Old10),(⟨(5:Int),(6+(((n2:Int) / 7) % 3):Int),(1+((n2:Int) % 7):Int),([(5+(((n2:Int) / 2) % 2):Int)])⟩:Old10)]) 5 8 (5+((n2:Int) % 3)) (6+(((n2:Int) / 3) % 3)) ((n2:Int) % 9) (1+((n2:Int) % 4)) (((n2:Int) % 8)==0) Reads.none (Sl.nil (fun _=>none)) (Reads.sup (rdo 2) (Reads.of (k:=3) rfl roLe)) (rowSl rfl (H.get (k:=2) rfl) (roLe _ (H.get (k:=3) rfl)) hr322z) (M.e_opt hx365z hg) _ (H.give (A:=[]) rfl)).mono fun v_ w_ ⟨y_,hr_,hv_,H_⟩=>by subst hr_; exact ⟨hv_,H.via H_⟩) ?_
  intro w366z H
  refine kg 1 ?_
  refine s_val (x_por (b:=!r8) (r:=!r9) rfl rfl (fun hb=>gd_of (c:=!(!r8)) (by first | exact hb | (rw [hb]; rfl) | (rw [hg,hb]; rfl) | simp_all) (B (!r9)))) ?_
  refine s_nil ?_
  replace H:=H.pk [2,3]
  refine W.cond ((!r8)||(!r9)) rfl (fun c367z=>?_) (fun c367z=>?_)
  ·replace hM:=M.e_t hM c367z
   refine kg 4 ?_
   replace H:=H.pk []
   refine W.ret ?_
   have hX368z:=M.e_inr hM hN245z
   subst hX368z
   replace hM:=hk238z
   try dsimp only at hM
   have hr_:=M.e_pure hM
   exact ⟨_,resE_tmp rfl,⟨false,hr_,rfl,H⟩⟩
  replace hM:=M.e_f hM c367z
  refine kg 6 ?_
  exact ⟨m242z,lt243z,n2+1,_,upds_of _ _ ⟨rfl,trivial⟩,M.e_inl hM hN245z,(H.pk [])⟩
 replace hM:=M.e_f hM c246z
 simp only [qy1,qy2,qy3,qy4,qy5,qy6,ne_eq,qy7] at c246z
 refine W.exit ?_
 have hX369z:=M.e_inr hM hN245z
 subst hX369z
 replace hM:=hk238z
 try dsimp only at hM
 refine kg 3 ?_
 refine t_bs (α:=Int) T22 [I 0,I 1,I 8,I 9,I 10,I 11,I 39,I 40,I 41,I 59,I 60,I 61] vl12 H rfl (.cons rfl (Flat.rep_enc _ (0:Int))<|.cons rfl (Flat.rep_enc _ (1:Int))<|.cons rfl (Flat.rep_enc _ (8:Int))<|.cons rfl (Flat.rep_enc _ (9:Int))<|.cons rfl (Flat.rep_enc _ (10:Int))<|.cons rfl (Flat.rep_enc _ (11:Int))<|.cons rfl (Flat.rep_enc _ (39:Int))<|.cons rfl (Flat.rep_enc _ (40:Int))<|.cons rfl (Flat.rep_enc _ (41:Int))<|.cons rfl (Flat.rep_enc _ (59:Int))<|.cons rfl (Flat.rep_enc _ (60:Int))<|.cons rfl (Flat.rep_enc _ (61:Int))<|.nil) rfl rfl rfl ?_
 intro v370z w371z H
 have hl372z:=((H.os 0)).len_le
 refine kg 4 ?_
 obtain ⟨ex373z,hi374z,hk375z⟩:=M.e_bind hM
 obtain ⟨m0_,hi374z⟩:=M.e_iter hi374z
 refine W.loop (fun m σ W=>∃ (s12:Nat) (ρ:Env),σ=upds ρ [(329,v370z),(330,I ((vl12).length:Int)),(331,I (s12:Int))]/\M.iterN (zca) m s12=some ex373z/\St w W [cOwn (α:=Int) 3 v370z (vl12)] R) ?_ ?_
 ·exact ⟨_,0,_,upds_of _ _ ⟨rfl,rfl,rfl,trivial⟩,hi374z,H⟩
 rintro m378z σ w376z ⟨s12,ρ,rfl,hI377z,H⟩
 obtain ⟨m379z,lt380z,x381z,hM,hN382z⟩:=M.e_iterN hI377z
 clear hI377z
 refine kg 5 ?_
 refine W.cond (decide ((s12:Int)<((vl12).length:Int))) rfl (fun c383z=>?_) (fun c383z=>?_)
 ·replace hM:=M.e_t hM c383z
  simp only [qy1,qy2,qy3,qy4,qy5,qy6,ne_eq,qy7] at c383z
  obtain ⟨sd384z,hM⟩:=M.e_grd hM
  simp only [Bool.and_eq_true,decide_eq_true_eq] at sd384z
  refine kg 19 ?_
  refine s_val (x_bld (ps:=[(2,I 1800),(3,I 2799)]) (zs:=[.slice none 0 0,.slice none 0 0,I 0,I 0]) (L':=[.slice none 0 0,.slice none 0 0,I 1800,I 2799]) rfl Tryz.underlying28 Al28 rfl (Bd28 Tryz.underlying28) (.cons (cs:=[I 1800]) rfl rfl rfl rfl rfl<|.cons (cs:=[I 2799]) rfl rfl rfl rfl rfl<|.nil)) ?_
  refine s_val (x_bld (ps:=[(3,I 40)]) (zs:=[.slice none 0 0,.slice none 0 0,I 0,I 0]) (L':=[.slice none 0 0,.slice none 0 0,I 0,I 40]) rfl Tryz.underlying28 Al28 rfl (Bd28 Tryz.underlying28) (.cons (cs:=[I 40]) rfl rfl rfl rfl rfl<|.nil)) ?_
  refine s_val (x_bld (ps:=[(1,I 20),(2,I 7)]) (zs:=[I 0,I 0,I 0,.slice none 0 0]) (L':=[I 0,I 20,I 7,.slice none 0 0]) rfl Tryz.underlying38 Al38 rfl (Bd38 Tryz.underlying38) (.cons (cs:=[I 20]) rfl rfl rfl rfl rfl<|.cons (cs:=[I 7]) rfl rfl rfl rfl rfl<|.nil)) ?_
  replace H:=H.nilOwn (α:=Int) 3
  obtain ⟨rw385z,hrw_rw385z⟩:∃ r:Raw 3,r.cs=[I 0,I 20,I 7,(.slice none 0 0)]:=⟨Raw.of [I 0,I 20,I 7,(.slice none 0 0)] rfl (by simp only [List.all_cons,List.all_nil,Bool.true_and,Bool.and_true,Sl.oc (H.os 0)]; try rfl),rfl⟩
  refine t_bs (α:=Raw 3) T26 [.agg #[I 0,I 20,I 7,(.slice none 0 0)]] [rw385z] H rfl (.cons (by rw [show (Flat.enc rw385z:List Value)=rw385z.cs from rfl,hrw_rw385z]; rfl) (Flat.rep_enc _ _)<|.nil) rfl rfl rfl ?_
  intro v386z w387z H
  replace H:=H.nf
  obtain ⟨Bs_39,H⟩:=H.emptyE
  replace H:=H.pk [1,2,0,3]
  replace H:St w w387z [cDO 38 3 v386z ([rw385z]) ([(⟨(0:Int),(20:Int),(7:Int),([])⟩:Old10)]),cRo Bs_39,cOwn (α:=Int) 3 v370z (vl12)] R:=St.doLit (⟨(0:Int),(20:Int),(7:Int),([])⟩:Old10) hrw_rw385z H
  have hr388z:=doLen (H.get (k:=0) rfl)
  refine s_val (x_bld (ps:=[(3,I 20),(1,v386z)]) (zs:=[.slice none 0 0,.slice none 0 0,I 0,I 0]) (L':=[.slice none 0 0,v386z,I 0,I 20]) rfl Tryz.underlying28 Al28 rfl (Bd28 Tryz.underlying28) (.cons (cs:=[I 20]) rfl rfl rfl rfl rfl<|.cons (cs:=[v386z]) (Sl.cells (deSl (H.get (k:=0) rfl))) rfl rfl rfl rfl<|.nil)) ?_
  refine t_alloc (cs:=[.slice none 0 0,.slice none 0 0,I 0,I 0]) H Al28 rfl ?_
  intro b_40 w389z H
  refine t_alloc (cs:=[.slice none 0 0,.slice none 0 0,I 0,I 0]) H Al28 rfl ?_
  intro b_41 w390z H
  refine t_alloc (cs:=[.slice none 0 0,.slice none 0 0,I 0,I 0]) H Al28 rfl ?_
  intro b_42 w391z H
  refine t_sw 2 0 [.slice none 0 0,.slice none 0 0,I 1800,I 2799] (.agg #[.slice none 0 0,.slice none 0 0,I 1800,I 2799]) H rfl rfl Sz28 rfl rfl rfl rfl ?_
  intro w392z H
  refine t_sw 1 0 [.slice none 0 0,.slice none 0 0,I 0,I 40] (.agg #[.slice none 0 0,.slice none 0 0,I 0,I 40]) H rfl rfl Sz28 rfl rfl rfl rfl ?_
  intro w393z H
  refine t_sw 0 0 [.slice none 0 0,v386z,I 0,I 20] (.agg #[.slice none 0 0,v386z,I 0,I 20]) H rfl rfl Sz28 rfl rfl rfl (by simp only [List.all_cons,List.all_nil,Bool.true_and,Bool.and_true,Sl.oc (deSl (H.get (k:=3) rfl))]; try rfl) ?_
  intro w394z H
  refine kg 7 ?_
  replace H:=H.nilOwn (α:=Yr) 36
  obtain ⟨Bs_56,H⟩:=H.emptyE
  replace H:=H.nilOwn (α:=Raw 3) 38
  have hr395z:RepR (α:=Old10) (n:=3) Bs_56.cells [] []:=.nil
  replace H:=H.nilOwn (α:=Pk) 32
  replace H:=H.nilOwn (α:=Int) 3
  obtain ⟨ex396z,hi397z,hk398z⟩:=M.e_bind hM
  obtain ⟨m0_,hi397z⟩:=M.e_iter hi397z
  refine W.loop (fun m σ W=>∃ (l14:List Old10) (i2:Nat) (l10:List Pk) (l11:List Int) (l12:List Yr) (l13:List Old10) (v_l14:Value) (v_l10:Value) (v_l11:Value) (v_l12:Value) (v_l13:Value) (rw_l14:List (Raw 3)) (B_l14:Base) (rw_l13:List (Raw 3)) (B_l13:Base) (ρ:Env),σ=upds ρ [(25,I ((vl12).getD s12 0)),(26,v_l10),(27,v_l11),(28,Pq b_40),(29,Pq b_41),(30,Pq b_42),(31,I (i2:Int)),(329,v370z),(330,I ((vl12).length:Int)),(331,I (s12:Int))]/\M.iterN (zby s12) m (l14,i2,l10,l11,l12,l13)=some ex396z/\St w W [cOwn (α:=Int) 3 v_l11 l11,cOwn (α:=Pk) 32 v_l10 l10,cOwn (α:=Raw 3) 38 v_l13 rw_l13,cRo B_l13,cOwn (α:=Yr) 36 v_l12 l12,cBlk b_42 [.slice none 0 0,v_l14,I 0,I 20] 28,cBlk b_41 [.slice none 0 0,v_l13,I 0,I 40] 28,cBlk b_40 [v_l12,.slice none 0 0,I 1800,I 2799] 28,cDO 38 3 v_l14 rw_l14 l14,cRo B_l14,cOwn (α:=Int) 3 v370z (vl12)] R/\rw_l14.length=l14.length/\RepR (α:=Old10) B_l13.cells rw_l13 l13) ?_ ?_
  ·exact ⟨_,[(⟨(0:Int),(20:Int),(7:Int),([])⟩:Old10)],0,[],[],[],[],v386z,(.slice none 0 0),(.slice none 0 0),(.slice none 0 0),(.slice none 0 0),[rw385z],Bs_39,[],Bs_56,_,upds_of _ _ ⟨rfl,rfl,rfl,rfl,rfl,rfl,rfl,rfl,rfl,rfl,trivial⟩,hi397z,H,hr388z,hr395z⟩
  rintro m401z σ w399z ⟨l14,i2,l10,l11,l12,l13,v_l14,v_l10,v_l11,v_l12,v_l13,rw_l14,B_l14,rw_l13,B_l13,ρ,rfl,hI400z,H,hr_l14,hr_l13⟩
  obtain ⟨m402z,lt403z,x404z,hM,hN405z⟩:=M.e_iterN hI400z
  clear hI400z
  refine kg 7 ?_
  refine W.cond (decide ((i2:Int)<((vl12).getD s12 0))) rfl (fun c406z=>?_) (fun c406z=>?_)
  ·replace hM:=M.e_t hM c406z
   simp only [qy1,qy2,qy3,qy4,qy5,qy6,ne_eq,qy7] at c406z
   refine kg 9 ?_
   refine W.cond (decide ((i2:Int)<45)) rfl (fun c407z=>?_) (fun c407z=>?_)
   ·replace hM:=M.e_t hM c407z
    simp only [qy1,qy2,qy3,qy4,qy5,qy6,ne_eq,qy7] at c407z
    obtain ⟨sd408z,hM⟩:=M.e_grd hM
    simp only [Bool.and_eq_true,decide_eq_true_eq] at sd408z
    obtain ⟨sd409z,hM⟩:=M.e_grd hM
    simp only [Bool.and_eq_true,decide_eq_true_eq] at sd409z
    obtain ⟨sd410z,hM⟩:=M.e_grd hM
    simp only [Bool.and_eq_true,decide_eq_true_eq] at sd410z
    refine kg 7 ?_
    refine s_val (x_rem' (a:=(i2:Int)*(i2:Int)) (b:=2000) rfl rfl (by omega)) ?_
    refine s_val (x_bld (ps:=[(0,I (3*(i2:Int))),(1,I (((i2:Int)*(i2:Int)) % 2000))]) (zs:=[I 0,I 0]) (L':=[I (3*(i2:Int)),I (((i2:Int)*(i2:Int)) % 2000)]) rfl Tryz.underlying32 Al32 rfl (Bd32 Tryz.underlying32) (.cons (cs:=[I (3*(i2:Int))]) rfl rfl rfl rfl rfl<|.cons (cs:=[I (((i2:Int)*(i2:Int)) % 2000)]) rfl rfl rfl rfl rfl<|.nil)) ?_
    refine t_bs (α:=Pk) T23 [.agg #[I (3*(i2:Int)),I (((i2:Int)*(i2:Int)) % 2000)]] [(⟨3*(i2:Int),(((i2:Int)*(i2:Int)) % 2000:Int)⟩:Pk)] H rfl (.cons rfl (Flat.rep_enc _ (⟨3*(i2:Int),(((i2:Int)*(i2:Int)) % 2000:Int)⟩:Pk))<|.nil) rfl rfl rfl ?_
    intro v411z w412z H
    obtain ⟨sd413z,hM⟩:=M.e_grd hM
    simp only [Bool.and_eq_true,decide_eq_true_eq] at sd413z
    refine t_app (α:=Pk) (k:=2) (l:=l10) (l2:=[(⟨3*(i2:Int),(((i2:Int)*(i2:Int)) % 2000:Int)⟩:Pk)]) (l':=l10++([(⟨3*(i2:Int),(((i2:Int)*(i2:Int)) % 2000:Int)⟩:Pk)])) (vy:=v411z) T23 rfl H rfl rfl rfl (H.os 0) (H.ol 0) (rfl) (by first | omega | (simp only [List.length_nil] at *; omega)) ?_
    intro v414z w415z H
    replace H:=H.nf
    refine kg 2 ?_
    refine t_bs (α:=Int) T22 [I (i2:Int)] [(i2:Int)] H rfl (.cons rfl (Flat.rep_enc _ (i2:Int))<|.nil) rfl rfl rfl ?_
    intro v416z w417z H
    obtain ⟨sd418z,hM⟩:=M.e_grd hM
    simp only [Bool.and_eq_true,decide_eq_true_eq] at sd418z
    refine t_app (α:=Int) (k:=2) (l:=l11) (l2:=[(i2:Int)]) (l':=l11++([(i2:Int)])) (vy:=v416z) T22 rfl H rfl rfl rfl (H.os 0) (H.ol 0) (rfl) (by first | omega | (simp only [List.length_nil] at *; omega)) ?_
    intro v419z w420z H
    replace H:=H.nf
    refine kg 3 ?_
    replace H:=H.pk [2,3,4,5,6,7,8,9,10,11,12]
    obtain ⟨sd421z,hM⟩:=M.e_grd hM
    simp only [Bool.and_eq_true,decide_eq_true_eq] at sd421z
    obtain ⟨sd422z,hM⟩:=M.e_grd hM
    simp only [Bool.and_eq_true,decide_eq_true_eq] at sd422z
    refine kg 9 ?_
    refine s_val (x_bld (ps:=[(0,I (i2:Int)),(1,I (9*(i2:Int)))]) (zs:=[I 0,I 0]) (L':=[I (i2:Int),I (9*(i2:Int))]) rfl Tryz.underlying34 Al34 rfl (Bd34 Tryz.underlying34) (.cons (cs:=[I (i2:Int)]) rfl rfl rfl rfl rfl<|.cons (cs:=[I (9*(i2:Int))]) rfl rfl rfl rfl rfl<|.nil)) ?_
    refine s_val (x_bld (ps:=[(0,I (1800+(i2:Int))),(1,.agg #[I (i2:Int),I (9*(i2:Int))])]) (zs:=[I 0,I 0,I 0]) (L':=[I (1800+(i2:Int)),I (i2:Int),I (9*(i2:Int))]) rfl Tryz.underlying36 Al36 rfl (Bd36 Tryz.underlying36) (.cons (cs:=[I (1800+(i2:Int))]) rfl rfl rfl rfl rfl<|.cons (cs:=[I (i2:Int),I (9*(i2:Int))]) rfl rfl rfl rfl rfl<|.nil)) ?_
    refine t_bs (α:=Yr) T25 [.agg #[I (1800+(i2:Int)),I (i2:Int),I (9*(i2:Int))]] [(⟨1800+(i2:Int),(i2:Int),9*(i2:Int)⟩:Yr)] H rfl (.cons rfl (Flat.rep_enc _ (⟨1800+(i2:Int),(i2:Int),9*(i2:Int)⟩:Yr))<|.nil) rfl rfl rfl ?_
    intro v423z w424z H
    obtain ⟨sd425z,hM⟩:=M.e_grd hM
    simp only [Bool.and_eq_true,decide_eq_true_eq] at sd425z
    refine t_app (α:=Yr) (k:=5) (l:=l12) (l2:=[(⟨1800+(i2:Int),(i2:Int),9*(i2:Int)⟩:Yr)]) (l':=l12++([(⟨1800+(i2:Int),(i2:Int),9*(i2:Int)⟩:Yr)])) (vy:=v423z) T25 rfl H rfl rfl rfl (H.os 0) (H.ol 0) (rfl) (by first | omega | (simp only [List.length_nil] at *; omega)) ?_
    intro v426z w427z H
    replace H:=H.nf
    refine kg 1 ?_
    refine t_sw 8 0 [v426z] v426z H rfl rfl Sz25 (Sl.cells (H.os 5)) rfl rfl (by simp only [List.all_cons,List.all_nil,Bool.true_and,Bool.and_true,Sl.oc (H.os 5)]; try rfl) ?_
    intro w428z H
    refine s_nil ?_
    replace H:=H.pk [1,2,3,4,5,6,7,8,9,10,11]
    refine kg 6 ?_
    refine W.cond (decide ((i2:Int)<10)) rfl (fun c429z=>?_) (fun c429z=>?_)
    ·replace hM:=M.e_t hM c429z
     simp only [qy1,qy2,qy3,qy4,qy5,qy6,ne_eq,qy7] at c429z
     obtain ⟨sd430z,hM⟩:=M.e_grd hM
     simp only [Bool.and_eq_true,decide_eq_true_eq] at sd430z
     refine kg 7 ?_
     refine s_val (x_bld (ps:=[(0,I (i2:Int)),(1,I 40),(2,I (10*((i2:Int)+1)))]) (zs:=[I 0,I 0,I 0,.slice none 0 0]) (L':=[I (i2:Int),I 40,I (10*((i2:Int)+1)),.slice none 0 0]) rfl Tryz.underlying38 Al38 rfl (Bd38 Tryz.underlying38) (.cons (cs:=[I (i2:Int)]) rfl rfl rfl rfl rfl<|.cons (cs:=[I 40]) rfl rfl rfl rfl rfl<|.cons (cs:=[I (10*((i2:Int)+1))]) rfl rfl rfl rfl rfl<|.nil)) ?_
     obtain ⟨Bs_49,H⟩:=H.emptyE
     obtain ⟨rw432z,hrw_rw432z⟩:∃ r:Raw 3,r.cs=[I (i2:Int),I 40,I (10*((i2:Int)+1)),.slice none 0 0]:=⟨Raw.of [I (i2:Int),I 40,I (10*((i2:Int)+1)),.slice none 0 0] rfl rfl,rfl⟩
     have hr433z:RepR (α:=Old10) Bs_49.cells [rw432z] [(⟨(i2:Int),(40:Int),(10*((i2:Int)+1):Int),([])⟩:Old10)]:=.cons (by rw [hrw_rw432z]; exact ⟨_,rfl,(Sl.nil _)⟩)<|.nil
     refine t_bs (α:=Raw 3) T26 [.agg #[I (i2:Int),I 40,I (10*((i2:Int)+1)),.slice none 0 0]] [rw432z] H rfl (.cons (by rw [show (Flat.enc rw432z:List Value)=rw432z.cs from rfl,hrw_rw432z]; rfl) (Flat.rep_enc _ _)<|.nil) rfl rfl rfl ?_
     intro v434z w435z H
     replace H:=H.nf
     obtain ⟨sd436z,hM⟩:=M.e_grd hM
     simp only [Bool.and_eq_true,decide_eq_true_eq] at sd436z
     have hr437z:=hr433z
     obtain ⟨Bs_53,H,le438z,le439z⟩:=H.joinE (i:=5) (j:=1) rfl rfl
     replace hr_l13:=hr_l13.mono le438z
     replace hr437z:=hr437z.mono le439z
     have hr442z:=hr_l13.app hr437z
     refine t_app (α:=Raw 3) (k:=5) (l:=rw_l13) (l2:=[rw432z]) (l':=rw_l13++([rw432z])) (vy:=v434z) T26 rfl H rfl rfl rfl (H.os 1) (H.ol 1) (rfl) (by have a_:=hr_l13.len; have b_:=hr437z.len; (try simp only [List.length_nil] at *); first | omega | (rw [a_,b_]; omega)) ?_
     intro v440z w441z H
     replace H:=H.nf
     refine kg 1 ?_
     refine t_sw 9 1 [v440z] v440z H rfl rfl Sz26 (Sl.cells (rowSl rfl (H.get (k:=5) rfl) (roLe _ (H.get (k:=0) rfl)) hr442z)) rfl rfl (by simp only [List.all_cons,List.all_nil,Bool.true_and,Bool.and_true,Sl.oc (rowSl rfl (H.get (k:=5) rfl) (roLe _ (H.get (k:=0) rfl)) hr442z)]; try rfl) ?_
     intro w443z H
     refine s_nil ?_
     replace H:=H.pk [0,3,4,5,6,7,8,9,10,11,12,13]
     refine kg 5 ?_
     refine W.cond (decide ((i2:Int)<12)) rfl (fun c444z=>?_) (fun c444z=>?_)
     ·replace hM:=M.e_t hM c444z
      simp only [qy1,qy2,qy3,qy4,qy5,qy6,ne_eq,qy7] at c444z
      refine W.drawT (fun W=>St w W [cRo Bs_53,cOwn (α:=Int) 3 v419z (l11++([(i2:Int)])),cOwn (α:=Pk) 32 v414z (l10++([(⟨3*(i2:Int),(((i2:Int)*(i2:Int)) % 2000:Int)⟩:Pk)])),cOwn (α:=Raw 3) 38 v440z (rw_l13++([rw432z])),cRo B_l13,cOwn (α:=Yr) 36 v426z (l12++([(⟨1800+(i2:Int),(i2:Int),9*(i2:Int)⟩:Yr)])),cBlk b_42 [.slice none 0 0,v_l14,I 0,I 20] 28,cBlk b_41 [.slice none 0 0,v440z,I 0,I 40] 28,cBlk b_40 [v426z,.slice none 0 0,I 1800,I 2799] 28,cRo B_l14,cOwn (α:=Int) 3 v370z (vl12)] R) (.q 0 (.q 1 (.q 2 (.q 3 (.q 7 (.l2 4 (.l2 5 (.l2 6 (.l 8 (.l 9 (.l 10 (.l 11 (.l 12 .nil))))) 8 (.l 6 (.l 9 (.l 10 (.l 11 (.l 12 .nil)))))) 8 (.l 5 (.l 6 (.l 9 (.l 10 (.l 11 (.l 12 .nil))))))) 8 (.l 4 (.l 5 (.l 6 (.l 9 (.l 10 (.l 11 (.l 12 .nil))))))))))))) mixed (by decide +kernel) rfl ?_
      intro w445z hx_
      replace H:=H.ext hx_
      clear hx_
      refine ⟨(H.pk [0,1,2,3,4,5,6,7,8,10,11]),?_⟩
      obtain ⟨sd446z,hM⟩:=M.e_grd hM
      simp only [Bool.and_eq_true,decide_eq_true_eq] at sd446z
      obtain ⟨sd451z,hM⟩:=M.e_grd hM
      simp only [Bool.and_eq_true,decide_eq_true_eq] at sd451z
      refine kg 5 ?_
      refine t_l2 rfl rfl ?_ ?_
      ·skip
       refine s_val (x_ix (a:=v_l14) (b:=I 0) (v:=vat v_l14 4 (Int.toNat 0)) rfl rfl (Sl.ix (α:=Old10) T26.und T26.size (deSl (H.get (k:=9) rfl)) (by omega) (by omega))) ?_
       have hvc_q464z:=Sl.cells (deSl (H.get (k:=9) rfl))
       have hvo_q464z:=Sl.oc (deSl (H.get (k:=9) rfl))
       have hvs_q464z:=deSl (H.get (k:=9) rfl)
       refine s_nil ⟨(H.pk [0,1,2,3,4,5,6,7,8,10,11]),?_⟩
       refine t_l2 rfl rfl ?_ ?_
       ·skip
        refine s_val (x_fa (a:=vat v_l14 4 (Int.toNat 0)) (v:=fat (vat v_l14 4 (Int.toNat 0)) 3) rfl (fa_pl Fd38_3 Sz22 (Sl.pl (i:=0) (deSl (H.get (k:=9) rfl)) (by omega) (by omega)))) ?_
        refine s_nil ⟨(H.pk [0,1,2,3,4,5,6,7,8,10,11]),?_⟩
        refine t_l2 rfl rfl ?_ ?_
        ·skip
         obtain ⟨u465z,ha_u465z,hs466z⟩:=Old10_at3 (deSl (H.get (k:=9) rfl)) (i:=0) (by omega) (by omega)
         replace hs466z:Sl _ u465z (l14.getD 0 default).passed:=hs466z
         have hl_hs466z:=hs466z.len_le
         refine s_val (x_ld (p:=fat (vat v_l14 4 (Int.toNat 0)) 3) (v:=u465z) rfl (ld_sc Sc22 (At.mono (ha_u465z) (deLe _ (H.get (k:=9) rfl))))) ?_
         refine s_nil ⟨(H.pk [0,1,2,3,4,5,6,7,8,10,11]),?_⟩
         refine t_l rfl ?_
         refine t_bs (α:=Int) T22 [I (i2:Int)] [(i2:Int)] H rfl (.cons rfl (Flat.rep_enc _ (i2:Int))<|.nil) rfl rfl rfl ?_
         intro v467z w468z H
         have hvc_q469z:=Sl.cells (H.os 0)
         have hvo_q469z:=Sl.oc (H.os 0)
         have hvs_q469z:=ownSl (H.get (k:=0) rfl)
         refine s_nil ⟨(H.pk [1,2,3,4,5,6,7,8,9,11,12]),?_⟩
         refine t_l rfl ?_
         replace H:=H.pk [10,0,1,2,3,4,5,6,7,8,9,11,12]
         have hu470z:=doU (H.get (k:=0) rfl) (deLe _ (H.get (k:=0) rfl)) (i:=0) (by omega) (by omega) ha_u465z
         have hm471z:=(H.get (k:=0) rfl).2.2
         refine t_diapp (dl:=l14) (i:=0) (l2:=[(i2:Int)]) T22 rfl H (by omega) (by omega) hu470z rfl rfl (H.os 1) (H.ol 1) (show ((l14.getD 0 default).passed.length+([(i2:Int)]).length)*8<=140737488355328 by first | omega | (simp only [List.length_cons,List.length_nil] at *; omega)) ?_
         intro v472z w473z rr474z fr475z fc476z fo477z H
         replace H:=H.nf
         refine s_nil ⟨(H.pk [2,3,4,5,6,7,8,9,10,11,12]),?_⟩
         refine t_l rfl ?_
         refine s_val (x_ix (a:=v_l14) (b:=I 0) (v:=vat v_l14 4 (Int.toNat 0)) rfl rfl (Sl.ix (α:=Raw 3) T26.und T26.size (daSl (H.get (k:=0) rfl)) (by omega) (by have hu_:=hr_l14; omega))) ?_
         refine s_nil ⟨(H.pk [2,3,4,5,6,7,8,9,10,11,12]),?_⟩
         refine t_l rfl ?_
         refine s_val (x_fa (a:=vat v_l14 4 (Int.toNat 0)) (v:=fat (vat v_l14 4 (Int.toNat 0)) 3) rfl (fa_pl Fd38_3 Sz22 (Sl.pl (i:=0) (daSl (H.get (k:=0) rfl)) (by omega) (by omega)))) ?_
         refine s_nil ⟨(H.pk [2,3,4,5,6,7,8,9,10,11,12]),?_⟩
         refine t_l rfl ?_
         refine t_diast (dl:=l14) (i:=0) H fr475z fc476z fo477z hr_l14 hm471z Sz22 (by omega) (by omega) rfl rfl rfl ?_
         intro w479z us480z hr481z H
         replace H:=H.nf
         refine s_nil ⟨(H.pk [2,3,4,5,6,7,8,9,10,11,12]),?_⟩
         refine t_nil ?_
         replace H:=H.pk [0,2,3,4,5,6,7,8,9,10,11,12]
         obtain ⟨sd482z,hM⟩:=M.e_grd hM
         simp only [Bool.and_eq_true,decide_eq_true_eq] at sd482z
         refine kg 5 ?_
         exact ⟨m402z,lt403z,l14.set 0 ({ (l14.getD 0 default) with passed:=(l14.getD 0 default).passed++([(i2:Int)]) }),i2+1,l10++([(⟨3*(i2:Int),(((i2:Int)*(i2:Int)) % 2000:Int)⟩:Pk)]),l11++([(i2:Int)]),l12++([(⟨1800+(i2:Int),(i2:Int),9*(i2:Int)⟩:Yr)]),l13++([(⟨(i2:Int),(40:Int),(10*((i2:Int)+1):Int),([])⟩:Old10)]),v_l14,v414z,v419z,v426z,v440z,us480z,B_l14,rw_l13++([rw432z]),Bs_53,_,upds_of _ _ ⟨rfl,rfl,rfl,rfl,rfl,rfl,rfl,rfl,rfl,rfl,trivial⟩,M.e_inl hM hN405z,(H.pk [2,3,4,1,6,7,8,9,0,10,11]),hr481z,hr442z⟩
        skip
        refine t_bs (α:=Int) T22 [I (i2:Int)] [(i2:Int)] H rfl (.cons rfl (Flat.rep_enc _ (i2:Int))<|.nil) rfl rfl rfl ?_
        intro v483z w484z H
        have hvc_q485z:=Sl.cells (H.os 0)
        have hvo_q485z:=Sl.oc (H.os 0)
        have hvs_q485z:=ownSl (H.get (k:=0) rfl)
        refine s_nil ⟨(H.pk [1,2,3,4,5,6,7,8,9,11,12]),?_⟩
        refine t_l rfl ?_
        obtain ⟨u486z,ha_u486z,hs487z⟩:=Old10_at3 (deSl (H.get (k:=10) rfl)) (i:=0) (by omega) (by omega)
        replace hs487z:Sl _ u486z (l14.getD 0 default).passed:=hs487z
        have hl_hs487z:=hs487z.len_le
        refine s_val (x_ld (p:=fat (vat v_l14 4 (Int.toNat 0)) 3) (v:=u486z) rfl (ld_sc Sc22 (At.mono (ha_u486z) (deLe _ (H.get (k:=10) rfl))))) ?_
        refine s_nil ⟨(H.pk [1,2,3,4,5,6,7,8,9,11,12]),?_⟩
        refine t_l rfl ?_
        replace H:=H.pk [10,0,1,2,3,4,5,6,7,8,9,11,12]
        have hu488z:=doU (H.get (k:=0) rfl) (deLe _ (H.get (k:=0) rfl)) (i:=0) (by omega) (by omega) ha_u486z
        have hm489z:=(H.get (k:=0) rfl).2.2
        refine t_diapp (dl:=l14) (i:=0) (l2:=[(i2:Int)]) T22 rfl H (by omega) (by omega) hu488z rfl rfl (H.os 1) (H.ol 1) (show ((l14.getD 0 default).passed.length+([(i2:Int)]).length)*8<=140737488355328 by first | omega | (simp only [List.length_cons,List.length_nil] at *; omega)) ?_
        intro v490z w491z rr492z fr493z fc494z fo495z H
        replace H:=H.nf
        refine s_nil ⟨(H.pk [2,3,4,5,6,7,8,9,10,11,12]),?_⟩
        refine t_l rfl ?_
        refine s_val (x_ix (a:=v_l14) (b:=I 0) (v:=vat v_l14 4 (Int.toNat 0)) rfl rfl (Sl.ix (α:=Raw 3) T26.und T26.size (daSl (H.get (k:=0) rfl)) (by omega) (by have hu_:=hr_l14; omega))) ?_
        refine s_nil ⟨(H.pk [2,3,4,5,6,7,8,9,10,11,12]),?_⟩
        refine t_l rfl ?_
        refine s_val (x_fa (a:=vat v_l14 4 (Int.toNat 0)) (v:=fat (vat v_l14 4 (Int.toNat 0)) 3) rfl (fa_pl Fd38_3 Sz22 (Sl.pl (i:=0) (daSl (H.get (k:=0) rfl)) (by omega) (by omega)))) ?_
        refine s_nil ⟨(H.pk [2,3,4,5,6,7,8,9,10,11,12]),?_⟩
        refine t_l rfl ?_
        refine t_diast (dl:=l14) (i:=0) H fr493z fc494z fo495z hr_l14 hm489z Sz22 (by omega) (by omega) rfl rfl rfl ?_
        intro w497z us498z hr499z H
        replace H:=H.nf
        refine s_nil ⟨(H.pk [2,3,4,5,6,7,8,9,10,11,12]),?_⟩
        refine t_nil ?_
        replace H:=H.pk [0,2,3,4,5,6,7,8,9,10,11,12]
        obtain ⟨sd500z,hM⟩:=M.e_grd hM
        simp only [Bool.and_eq_true,decide_eq_true_eq] at sd500z
        refine kg 5 ?_
        exact ⟨m402z,lt403z,l14.set 0 ({ (l14.getD 0 default) with passed:=(l14.getD 0 default).passed++([(i2:Int)]) }),i2+1,l10++([(⟨3*(i2:Int),(((i2:Int)*(i2:Int)) % 2000:Int)⟩:Pk)]),l11++([(i2:Int)]),l12++([(⟨1800+(i2:Int),(i2:Int),9*(i2:Int)⟩:Yr)]),l13++([(⟨(i2:Int),(40:Int),(10*((i2:Int)+1):Int),([])⟩:Old10)]),v_l14,v414z,v419z,v426z,v440z,us498z,B_l14,rw_l13++([rw432z]),Bs_53,_,upds_of _ _ ⟨rfl,rfl,rfl,rfl,rfl,rfl,rfl,rfl,rfl,rfl,trivial⟩,M.e_inl hM hN405z,(H.pk [2,3,4,1,6,7,8,9,0,10,11]),hr499z,hr442z⟩
       skip
       refine t_bs (α:=Int) T22 [I (i2:Int)] [(i2:Int)] H rfl (.cons rfl (Flat.rep_enc _ (i2:Int))<|.nil) rfl rfl rfl ?_
       intro v501z w502z H
       have hvc_q503z:=Sl.cells (H.os 0)
       have hvo_q503z:=Sl.oc (H.os 0)
       have hvs_q503z:=ownSl (H.get (k:=0) rfl)
       refine s_nil ⟨(H.pk [1,2,3,4,5,6,7,8,9,11,12]),?_⟩
       refine t_l rfl ?_
       refine s_val (x_fa (a:=vat v_l14 4 (Int.toNat 0)) (v:=fat (vat v_l14 4 (Int.toNat 0)) 3) rfl (fa_pl Fd38_3 Sz22 (Sl.pl (i:=0) (deSl (H.get (k:=10) rfl)) (by omega) (by omega)))) ?_
       refine s_nil ⟨(H.pk [1,2,3,4,5,6,7,8,9,11,12]),?_⟩
       refine t_l rfl ?_
       obtain ⟨u504z,ha_u504z,hs505z⟩:=Old10_at3 (deSl (H.get (k:=10) rfl)) (i:=0) (by omega) (by omega)
       replace hs505z:Sl _ u504z (l14.getD 0 default).passed:=hs505z
       have hl_hs505z:=hs505z.len_le
       refine s_val (x_ld (p:=fat (vat v_l14 4 (Int.toNat 0)) 3) (v:=u504z) rfl (ld_sc Sc22 (At.mono (ha_u504z) (deLe _ (H.get (k:=10) rfl))))) ?_
       refine s_nil ⟨(H.pk [1,2,3,4,5,6,7,8,9,11,12]),?_⟩
       refine t_l rfl ?_
       replace H:=H.pk [10,0,1,2,3,4,5,6,7,8,9,11,12]
       have hu506z:=doU (H.get (k:=0) rfl) (deLe _ (H.get (k:=0) rfl)) (i:=0) (by omega) (by omega) ha_u504z
       have hm507z:=(H.get (k:=0) rfl).2.2
       refine t_diapp (dl:=l14) (i:=0) (l2:=[(i2:Int)]) T22 rfl H (by omega) (by omega) hu506z rfl rfl (H.os 1) (H.ol 1) (show ((l14.getD 0 default).passed.length+([(i2:Int)]).length)*8<=140737488355328 by first | omega | (simp only [List.length_cons,List.length_nil] at *; omega)) ?_
       intro v508z w509z rr510z fr511z fc512z fo513z H
       replace H:=H.nf
       refine s_nil ⟨(H.pk [2,3,4,5,6,7,8,9,10,11,12]),?_⟩
       refine t_l rfl ?_
       refine s_val (x_ix (a:=v_l14) (b:=I 0) (v:=vat v_l14 4 (Int.toNat 0)) rfl rfl (Sl.ix (α:=Raw 3) T26.und T26.size (daSl (H.get (k:=0) rfl)) (by omega) (by have hu_:=hr_l14; omega))) ?_
       refine s_nil ⟨(H.pk [2,3,4,5,6,7,8,9,10,11,12]),?_⟩
       refine t_l rfl ?_
       refine s_val (x_fa (a:=vat v_l14 4 (Int.toNat 0)) (v:=fat (vat v_l14 4 (Int.toNat 0)) 3) rfl (fa_pl Fd38_3 Sz22 (Sl.pl (i:=0) (daSl (H.get (k:=0) rfl)) (by omega) (by omega)))) ?_
       refine s_nil ⟨(H.pk [2,3,4,5,6,7,8,9,10,11,12]),?_⟩
       refine t_l rfl ?_
       refine t_diast (dl:=l14) (i:=0) H fr511z fc512z fo513z hr_l14 hm507z Sz22 (by omega) (by omega) rfl rfl rfl ?_
       intro w515z us516z hr517z H
       replace H:=H.nf
       refine s_nil ⟨(H.pk [2,3,4,5,6,7,8,9,10,11,12]),?_⟩
       refine t_nil ?_
       replace H:=H.pk [0,2,3,4,5,6,7,8,9,10,11,12]
       obtain ⟨sd518z,hM⟩:=M.e_grd hM
       simp only [Bool.and_eq_true,decide_eq_true_eq] at sd518z
       refine kg 5 ?_
       exact ⟨m402z,lt403z,l14.set 0 ({ (l14.getD 0 default) with passed:=(l14.getD 0 default).passed++([(i2:Int)]) }),i2+1,l10++([(⟨3*(i2:Int),(((i2:Int)*(i2:Int)) % 2000:Int)⟩:Pk)]),l11++([(i2:Int)]),l12++([(⟨1800+(i2:Int),(i2:Int),9*(i2:Int)⟩:Yr)]),l13++([(⟨(i2:Int),(40:Int),(10*((i2:Int)+1):Int),([])⟩:Old10)]),v_l14,v414z,v419z,v426z,v440z,us516z,B_l14,rw_l13++([rw432z]),Bs_53,_,upds_of _ _ ⟨rfl,rfl,rfl,rfl,rfl,rfl,rfl,rfl,rfl,rfl,trivial⟩,M.e_inl hM hN405z,(H.pk [2,3,4,1,6,7,8,9,0,10,11]),hr517z,hr442z⟩
      skip
      refine t_bs (α:=Int) T22 [I (i2:Int)] [(i2:Int)] H rfl (.cons rfl (Flat.rep_enc _ (i2:Int))<|.nil) rfl rfl rfl ?_
      intro v519z w520z H
      have hvc_q521z:=Sl.cells (H.os 0)
      have hvo_q521z:=Sl.oc (H.os 0)
      have hvs_q521z:=ownSl (H.get (k:=0) rfl)
      have hvc_q522z:=Sl.cells (deSl (H.get (k:=10) rfl))
      have hvo_q522z:=Sl.oc (deSl (H.get (k:=10) rfl))
      have hvs_q522z:=deSl (H.get (k:=10) rfl)
      refine s_nil ⟨(H.pk [1,2,3,4,5,6,7,8,9,11,12]),?_⟩
      refine t_l rfl ?_
      refine s_val (x_ix (a:=v_l14) (b:=I 0) (v:=vat v_l14 4 (Int.toNat 0)) rfl rfl (Sl.ix (α:=Old10) T26.und T26.size (deSl (H.get (k:=10) rfl)) (by omega) (by omega))) ?_
      refine s_nil ⟨(H.pk [1,2,3,4,5,6,7,8,9,11,12]),?_⟩
      refine t_l rfl ?_
      refine s_val (x_fa (a:=vat v_l14 4 (Int.toNat 0)) (v:=fat (vat v_l14 4 (Int.toNat 0)) 3) rfl (fa_pl Fd38_3 Sz22 (Sl.pl (i:=0) (deSl (H.get (k:=10) rfl)) (by omega) (by omega)))) ?_
      refine s_nil ⟨(H.pk [1,2,3,4,5,6,7,8,9,11,12]),?_⟩
      refine t_l rfl ?_
      obtain ⟨u523z,ha_u523z,hs524z⟩:=Old10_at3 (deSl (H.get (k:=10) rfl)) (i:=0) (by omega) (by omega)
      replace hs524z:Sl _ u523z (l14.getD 0 default).passed:=hs524z
      have hl_hs524z:=hs524z.len_le
      refine s_val (x_ld (p:=fat (vat v_l14 4 (Int.toNat 0)) 3) (v:=u523z) rfl (ld_sc Sc22 (At.mono (ha_u523z) (deLe _ (H.get (k:=10) rfl))))) ?_
      refine s_nil ⟨(H.pk [1,2,3,4,5,6,7,8,9,11,12]),?_⟩
      refine t_l rfl ?_
      replace H:=H.pk [10,0,1,2,3,4,5,6,7,8,9,11,12]
      have hu525z:=doU (H.get (k:=0) rfl) (deLe _ (H.get (k:=0) rfl)) (i:=0) (by omega) (by omega) ha_u523z
      have hm526z:=(H.get (k:=0) rfl).2.2
      refine t_diapp (dl:=l14) (i:=0) (l2:=[(i2:Int)]) T22 rfl H (by omega) (by omega) hu525z rfl rfl (H.os 1) (H.ol 1) (show ((l14.getD 0 default).passed.length+([(i2:Int)]).length)*8<=140737488355328 by first | omega | (simp only [List.length_cons,List.length_nil] at *; omega)) ?_
      intro v527z w528z rr529z fr530z fc531z fo532z H
      replace H:=H.nf
      refine s_nil ⟨(H.pk [2,3,4,5,6,7,8,9,10,11,12]),?_⟩
      refine t_l rfl ?_
      refine s_val (x_ix (a:=v_l14) (b:=I 0) (v:=vat v_l14 4 (Int.toNat 0)) rfl rfl (Sl.ix (α:=Raw 3) T26.und T26.size (daSl (H.get (k:=0) rfl)) (by omega) (by have hu_:=hr_l14; omega))) ?_
      refine s_nil ⟨(H.pk [2,3,4,5,6,7,8,9,10,11,12]),?_⟩
      refine t_l rfl ?_
      refine s_val (x_fa (a:=vat v_l14 4 (Int.toNat 0)) (v:=fat (vat v_l14 4 (Int.toNat 0)) 3) rfl (fa_pl Fd38_3 Sz22 (Sl.pl (i:=0) (daSl (H.get (k:=0) rfl)) (by omega) (by omega)))) ?_
      refine s_nil ⟨(H.pk [2,3,4,5,6,7,8,9,10,11,12]),?_⟩
      refine t_l rfl ?_
      refine t_diast (dl:=l14) (i:=0) H fr530z fc531z fo532z hr_l14 hm526z Sz22 (by omega) (by omega) rfl rfl rfl ?_
      intro w534z us535z hr536z H
      replace H:=H.nf
      refine s_nil ⟨(H.pk [2,3,4,5,6,7,8,9,10,11,12]),?_⟩
      refine t_nil ?_
      replace H:=H.pk [0,2,3,4,5,6,7,8,9,10,11,12]
      obtain ⟨sd537z,hM⟩:=M.e_grd hM
      simp only [Bool.and_eq_true,decide_eq_true_eq] at sd537z
      refine kg 5 ?_
      exact ⟨m402z,lt403z,l14.set 0 ({ (l14.getD 0 default) with passed:=(l14.getD 0 default).passed++([(i2:Int)]) }),i2+1,l10++([(⟨3*(i2:Int),(((i2:Int)*(i2:Int)) % 2000:Int)⟩:Pk)]),l11++([(i2:Int)]),l12++([(⟨1800+(i2:Int),(i2:Int),9*(i2:Int)⟩:Yr)]),l13++([(⟨(i2:Int),(40:Int),(10*((i2:Int)+1):Int),([])⟩:Old10)]),v_l14,v414z,v419z,v426z,v440z,us535z,B_l14,rw_l13++([rw432z]),Bs_53,_,upds_of _ _ ⟨rfl,rfl,rfl,rfl,rfl,rfl,rfl,rfl,rfl,rfl,trivial⟩,M.e_inl hM hN405z,(H.pk [2,3,4,1,6,7,8,9,0,10,11]),hr536z,hr442z⟩
     replace hM:=M.e_f hM c444z
     simp only [qy1,qy2,qy3,qy4,qy5,qy6,ne_eq,qy7] at c444z
     obtain ⟨sd538z,hM⟩:=M.e_grd hM
     simp only [Bool.and_eq_true,decide_eq_true_eq] at sd538z
     refine kg 6 ?_
     exact ⟨m402z,lt403z,l14,i2+1,l10++([(⟨3*(i2:Int),(((i2:Int)*(i2:Int)) % 2000:Int)⟩:Pk)]),l11++([(i2:Int)]),l12++([(⟨1800+(i2:Int),(i2:Int),9*(i2:Int)⟩:Yr)]),l13++([(⟨(i2:Int),(40:Int),(10*((i2:Int)+1):Int),([])⟩:Old10)]),v_l14,v414z,v419z,v426z,v440z,rw_l14,B_l14,rw_l13++([rw432z]),Bs_53,_,upds_of _ _ ⟨rfl,rfl,rfl,rfl,rfl,rfl,rfl,rfl,rfl,rfl,trivial⟩,M.e_inl hM hN405z,(H.pk [1,2,3,0,5,6,7,8,9,10,11]),hr_l14,hr442z⟩
    replace hM:=M.e_f hM c429z
    simp only [qy1,qy2,qy3,qy4,qy5,qy6,ne_eq,qy7] at c429z
    refine kg 6 ?_
    refine W.cond (decide ((i2:Int)<12)) rfl (fun c539z=>?_) (fun c539z=>?_)
    ·replace hM:=M.e_t hM c539z
     simp only [qy1,qy2,qy3,qy4,qy5,qy6,ne_eq,qy7] at c539z
     refine W.drawT (fun W=>St w W [cOwn (α:=Int) 3 v419z (l11++([(i2:Int)])),cOwn (α:=Pk) 32 v414z (l10++([(⟨3*(i2:Int),(((i2:Int)*(i2:Int)) % 2000:Int)⟩:Pk)])),cOwn (α:=Raw 3) 38 v_l13 rw_l13,cRo B_l13,cOwn (α:=Yr) 36 v426z (l12++([(⟨1800+(i2:Int),(i2:Int),9*(i2:Int)⟩:Yr)])),cBlk b_42 [.slice none 0 0,v_l14,I 0,I 20] 28,cBlk b_41 [.slice none 0 0,v_l13,I 0,I 40] 28,cBlk b_40 [v426z,.slice none 0 0,I 1800,I 2799] 28,cRo B_l14,cOwn (α:=Int) 3 v370z (vl12)] R) (.q 0 (.q 1 (.q 2 (.q 3 (.q 7 (.l2 4 (.l2 5 (.l2 6 (.l 8 (.l 9 (.l 10 (.l 11 (.l 12 .nil))))) 8 (.l 6 (.l 9 (.l 10 (.l 11 (.l 12 .nil)))))) 8 (.l 5 (.l 6 (.l 9 (.l 10 (.l 11 (.l 12 .nil))))))) 8 (.l 4 (.l 5 (.l 6 (.l 9 (.l 10 (.l 11 (.l 12 .nil))))))))))))) mixed (by decide +kernel) rfl ?_
     intro w540z hx_
     replace H:=H.ext hx_
     clear hx_
     refine ⟨(H.pk [0,1,2,3,4,5,6,7,9,10]),?_⟩
     obtain ⟨sd541z,hM⟩:=M.e_grd hM
     simp only [Bool.and_eq_true,decide_eq_true_eq] at sd541z
     obtain ⟨sd546z,hM⟩:=M.e_grd hM
     simp only [Bool.and_eq_true,decide_eq_true_eq] at sd546z
     refine kg 5 ?_
     refine t_l2 rfl rfl ?_ ?_
     ·skip
      refine s_val (x_ix (a:=v_l14) (b:=I 0) (v:=vat v_l14 4 (Int.toNat 0)) rfl rfl (Sl.ix (α:=Old10) T26.und T26.size (deSl (H.get (k:=8) rfl)) (by omega) (by omega))) ?_
      have hvc_q559z:=Sl.cells (deSl (H.get (k:=8) rfl))
      have hvo_q559z:=Sl.oc (deSl (H.get (k:=8) rfl))
      have hvs_q559z:=deSl (H.get (k:=8) rfl)
      refine s_nil ⟨(H.pk [0,1,2,3,4,5,6,7,9,10]),?_⟩
      refine t_l2 rfl rfl ?_ ?_
      ·skip
       refine s_val (x_fa (a:=vat v_l14 4 (Int.toNat 0)) (v:=fat (vat v_l14 4 (Int.toNat 0)) 3) rfl (fa_pl Fd38_3 Sz22 (Sl.pl (i:=0) (deSl (H.get (k:=8) rfl)) (by omega) (by omega)))) ?_
       refine s_nil ⟨(H.pk [0,1,2,3,4,5,6,7,9,10]),?_⟩
       refine t_l2 rfl rfl ?_ ?_
       ·skip
        obtain ⟨u560z,ha_u560z,hs561z⟩:=Old10_at3 (deSl (H.get (k:=8) rfl)) (i:=0) (by omega) (by omega)
        replace hs561z:Sl _ u560z (l14.getD 0 default).passed:=hs561z
        have hl_hs561z:=hs561z.len_le
        refine s_val (x_ld (p:=fat (vat v_l14 4 (Int.toNat 0)) 3) (v:=u560z) rfl (ld_sc Sc22 (At.mono (ha_u560z) (deLe _ (H.get (k:=8) rfl))))) ?_
        refine s_nil ⟨(H.pk [0,1,2,3,4,5,6,7,9,10]),?_⟩
        refine t_l rfl ?_
        refine t_bs (α:=Int) T22 [I (i2:Int)] [(i2:Int)] H rfl (.cons rfl (Flat.rep_enc _ (i2:Int))<|.nil) rfl rfl rfl ?_
        intro v562z w563z H
        have hvc_q564z:=Sl.cells (H.os 0)
        have hvo_q564z:=Sl.oc (H.os 0)
        have hvs_q564z:=ownSl (H.get (k:=0) rfl)
        refine s_nil ⟨(H.pk [1,2,3,4,5,6,7,8,10,11]),?_⟩
        refine t_l rfl ?_
        replace H:=H.pk [9,0,1,2,3,4,5,6,7,8,10,11]
        have hu565z:=doU (H.get (k:=0) rfl) (deLe _ (H.get (k:=0) rfl)) (i:=0) (by omega) (by omega) ha_u560z
        have hm566z:=(H.get (k:=0) rfl).2.2
        refine t_diapp (dl:=l14) (i:=0) (l2:=[(i2:Int)]) T22 rfl H (by omega) (by omega) hu565z rfl rfl (H.os 1) (H.ol 1) (show ((l14.getD 0 default).passed.length+([(i2:Int)]).length)*8<=140737488355328 by first | omega | (simp only [List.length_cons,List.length_nil] at *; omega)) ?_
        intro v567z w568z rr569z fr570z fc571z fo572z H
        replace H:=H.nf
        refine s_nil ⟨(H.pk [2,3,4,5,6,7,8,9,10,11]),?_⟩
        refine t_l rfl ?_
        refine s_val (x_ix (a:=v_l14) (b:=I 0) (v:=vat v_l14 4 (Int.toNat 0)) rfl rfl (Sl.ix (α:=Raw 3) T26.und T26.size (daSl (H.get (k:=0) rfl)) (by omega) (by have hu_:=hr_l14; omega))) ?_
        refine s_nil ⟨(H.pk [2,3,4,5,6,7,8,9,10,11]),?_⟩
        refine t_l rfl ?_
        refine s_val (x_fa (a:=vat v_l14 4 (Int.toNat 0)) (v:=fat (vat v_l14 4 (Int.toNat 0)) 3) rfl (fa_pl Fd38_3 Sz22 (Sl.pl (i:=0) (daSl (H.get (k:=0) rfl)) (by omega) (by omega)))) ?_
        refine s_nil ⟨(H.pk [2,3,4,5,6,7,8,9,10,11]),?_⟩
        refine t_l rfl ?_
        refine t_diast (dl:=l14) (i:=0) H fr570z fc571z fo572z hr_l14 hm566z Sz22 (by omega) (by omega) rfl rfl rfl ?_
        intro w574z us575z hr576z H
        replace H:=H.nf
        refine s_nil ⟨(H.pk [2,3,4,5,6,7,8,9,10,11]),?_⟩
        refine t_nil ?_
        replace H:=H.pk [0,2,3,4,5,6,7,8,9,10,11]
        obtain ⟨sd577z,hM⟩:=M.e_grd hM
        simp only [Bool.and_eq_true,decide_eq_true_eq] at sd577z
        refine kg 5 ?_
        exact ⟨m402z,lt403z,l14.set 0 ({ (l14.getD 0 default) with passed:=(l14.getD 0 default).passed++([(i2:Int)]) }),i2+1,l10++([(⟨3*(i2:Int),(((i2:Int)*(i2:Int)) % 2000:Int)⟩:Pk)]),l11++([(i2:Int)]),l12++([(⟨1800+(i2:Int),(i2:Int),9*(i2:Int)⟩:Yr)]),l13,v_l14,v414z,v419z,v426z,v_l13,us575z,B_l14,rw_l13,B_l13,_,upds_of _ _ ⟨rfl,rfl,rfl,rfl,rfl,rfl,rfl,rfl,rfl,rfl,trivial⟩,M.e_inl hM hN405z,(H.pk [1,2,3,4,5,6,7,8,0,9,10]),hr576z,hr_l13⟩
       skip
       refine t_bs (α:=Int) T22 [I (i2:Int)] [(i2:Int)] H rfl (.cons rfl (Flat.rep_enc _ (i2:Int))<|.nil) rfl rfl rfl ?_
       intro v578z w579z H
       have hvc_q580z:=Sl.cells (H.os 0)
       have hvo_q580z:=Sl.oc (H.os 0)
       have hvs_q580z:=ownSl (H.get (k:=0) rfl)
       refine s_nil ⟨(H.pk [1,2,3,4,5,6,7,8,10,11]),?_⟩
       refine t_l rfl ?_
       obtain ⟨u581z,ha_u581z,hs582z⟩:=Old10_at3 (deSl (H.get (k:=9) rfl)) (i:=0) (by omega) (by omega)
       replace hs582z:Sl _ u581z (l14.getD 0 default).passed:=hs582z
       have hl_hs582z:=hs582z.len_le
       refine s_val (x_ld (p:=fat (vat v_l14 4 (Int.toNat 0)) 3) (v:=u581z) rfl (ld_sc Sc22 (At.mono (ha_u581z) (deLe _ (H.get (k:=9) rfl))))) ?_
       refine s_nil ⟨(H.pk [1,2,3,4,5,6,7,8,10,11]),?_⟩
       refine t_l rfl ?_
       replace H:=H.pk [9,0,1,2,3,4,5,6,7,8,10,11]
       have hu583z:=doU (H.get (k:=0) rfl) (deLe _ (H.get (k:=0) rfl)) (i:=0) (by omega) (by omega) ha_u581z
       have hm584z:=(H.get (k:=0) rfl).2.2
       refine t_diapp (dl:=l14) (i:=0) (l2:=[(i2:Int)]) T22 rfl H (by omega) (by omega) hu583z rfl rfl (H.os 1) (H.ol 1) (show ((l14.getD 0 default).passed.length+([(i2:Int)]).length)*8<=140737488355328 by first | omega | (simp only [List.length_cons,List.length_nil] at *; omega)) ?_
       intro v585z w586z rr587z fr588z fc589z fo590z H
       replace H:=H.nf
       refine s_nil ⟨(H.pk [2,3,4,5,6,7,8,9,10,11]),?_⟩
       refine t_l rfl ?_
       refine s_val (x_ix (a:=v_l14) (b:=I 0) (v:=vat v_l14 4 (Int.toNat 0)) rfl rfl (Sl.ix (α:=Raw 3) T26.und T26.size (daSl (H.get (k:=0) rfl)) (by omega) (by have hu_:=hr_l14; omega))) ?_
       refine s_nil ⟨(H.pk [2,3,4,5,6,7,8,9,10,11]),?_⟩
       refine t_l rfl ?_
       refine s_val (x_fa (a:=vat v_l14 4 (Int.toNat 0)) (v:=fat (vat v_l14 4 (Int.toNat 0)) 3) rfl (fa_pl Fd38_3 Sz22 (Sl.pl (i:=0) (daSl (H.get (k:=0) rfl)) (by omega) (by omega)))) ?_
       refine s_nil ⟨(H.pk [2,3,4,5,6,7,8,9,10,11]),?_⟩
       refine t_l rfl ?_
       refine t_diast (dl:=l14) (i:=0) H fr588z fc589z fo590z hr_l14 hm584z Sz22 (by omega) (by omega) rfl rfl rfl ?_
       intro w592z us593z hr594z H
       replace H:=H.nf
       refine s_nil ⟨(H.pk [2,3,4,5,6,7,8,9,10,11]),?_⟩
       refine t_nil ?_
       replace H:=H.pk [0,2,3,4,5,6,7,8,9,10,11]
       obtain ⟨sd595z,hM⟩:=M.e_grd hM
       simp only [Bool.and_eq_true,decide_eq_true_eq] at sd595z
       refine kg 5 ?_
       exact ⟨m402z,lt403z,l14.set 0 ({ (l14.getD 0 default) with passed:=(l14.getD 0 default).passed++([(i2:Int)]) }),i2+1,l10++([(⟨3*(i2:Int),(((i2:Int)*(i2:Int)) % 2000:Int)⟩:Pk)]),l11++([(i2:Int)]),l12++([(⟨1800+(i2:Int),(i2:Int),9*(i2:Int)⟩:Yr)]),l13,v_l14,v414z,v419z,v426z,v_l13,us593z,B_l14,rw_l13,B_l13,_,upds_of _ _ ⟨rfl,rfl,rfl,rfl,rfl,rfl,rfl,rfl,rfl,rfl,trivial⟩,M.e_inl hM hN405z,(H.pk [1,2,3,4,5,6,7,8,0,9,10]),hr594z,hr_l13⟩
      skip
      refine t_bs (α:=Int) T22 [I (i2:Int)] [(i2:Int)] H rfl (.cons rfl (Flat.rep_enc _ (i2:Int))<|.nil) rfl rfl rfl ?_
      intro v596z w597z H
      have hvc_q598z:=Sl.cells (H.os 0)
      have hvo_q598z:=Sl.oc (H.os 0)
      have hvs_q598z:=ownSl (H.get (k:=0) rfl)
      refine s_nil ⟨(H.pk [1,2,3,4,5,6,7,8,10,11]),?_⟩
      refine t_l rfl ?_
      refine s_val (x_fa (a:=vat v_l14 4 (Int.toNat 0)) (v:=fat (vat v_l14 4 (Int.toNat 0)) 3) rfl (fa_pl Fd38_3 Sz22 (Sl.pl (i:=0) (deSl (H.get (k:=9) rfl)) (by omega) (by omega)))) ?_
      refine s_nil ⟨(H.pk [1,2,3,4,5,6,7,8,10,11]),?_⟩
      refine t_l rfl ?_
      obtain ⟨u599z,ha_u599z,hs600z⟩:=Old10_at3 (deSl (H.get (k:=9) rfl)) (i:=0) (by omega) (by omega)
      replace hs600z:Sl _ u599z (l14.getD 0 default).passed:=hs600z
      have hl_hs600z:=hs600z.len_le
      refine s_val (x_ld (p:=fat (vat v_l14 4 (Int.toNat 0)) 3) (v:=u599z) rfl (ld_sc Sc22 (At.mono (ha_u599z) (deLe _ (H.get (k:=9) rfl))))) ?_
      refine s_nil ⟨(H.pk [1,2,3,4,5,6,7,8,10,11]),?_⟩
      refine t_l rfl ?_
      replace H:=H.pk [9,0,1,2,3,4,5,6,7,8,10,11]
      have hu601z:=doU (H.get (k:=0) rfl) (deLe _ (H.get (k:=0) rfl)) (i:=0) (by omega) (by omega) ha_u599z
      have hm602z:=(H.get (k:=0) rfl).2.2
      refine t_diapp (dl:=l14) (i:=0) (l2:=[(i2:Int)]) T22 rfl H (by omega) (by omega) hu601z rfl rfl (H.os 1) (H.ol 1) (show ((l14.getD 0 default).passed.length+([(i2:Int)]).length)*8<=140737488355328 by first | omega | (simp only [List.length_cons,List.length_nil] at *; omega)) ?_
      intro v603z w604z rr605z fr606z fc607z fo608z H
      replace H:=H.nf
      refine s_nil ⟨(H.pk [2,3,4,5,6,7,8,9,10,11]),?_⟩
      refine t_l rfl ?_
      refine s_val (x_ix (a:=v_l14) (b:=I 0) (v:=vat v_l14 4 (Int.toNat 0)) rfl rfl (Sl.ix (α:=Raw 3) T26.und T26.size (daSl (H.get (k:=0) rfl)) (by omega) (by have hu_:=hr_l14; omega))) ?_
      refine s_nil ⟨(H.pk [2,3,4,5,6,7,8,9,10,11]),?_⟩
      refine t_l rfl ?_
      refine s_val (x_fa (a:=vat v_l14 4 (Int.toNat 0)) (v:=fat (vat v_l14 4 (Int.toNat 0)) 3) rfl (fa_pl Fd38_3 Sz22 (Sl.pl (i:=0) (daSl (H.get (k:=0) rfl)) (by omega) (by omega)))) ?_
      refine s_nil ⟨(H.pk [2,3,4,5,6,7,8,9,10,11]),?_⟩
      refine t_l rfl ?_
      refine t_diast (dl:=l14) (i:=0) H fr606z fc607z fo608z hr_l14 hm602z Sz22 (by omega) (by omega) rfl rfl rfl ?_
      intro w610z us611z hr612z H
      replace H:=H.nf
      refine s_nil ⟨(H.pk [2,3,4,5,6,7,8,9,10,11]),?_⟩
      refine t_nil ?_
      replace H:=H.pk [0,2,3,4,5,6,7,8,9,10,11]
      obtain ⟨sd613z,hM⟩:=M.e_grd hM
      simp only [Bool.and_eq_true,decide_eq_true_eq] at sd613z
      refine kg 5 ?_
      exact ⟨m402z,lt403z,l14.set 0 ({ (l14.getD 0 default) with passed:=(l14.getD 0 default).passed++([(i2:Int)]) }),i2+1,l10++([(⟨3*(i2:Int),(((i2:Int)*(i2:Int)) % 2000:Int)⟩:Pk)]),l11++([(i2:Int)]),l12++([(⟨1800+(i2:Int),(i2:Int),9*(i2:Int)⟩:Yr)]),l13,v_l14,v414z,v419z,v426z,v_l13,us611z,B_l14,rw_l13,B_l13,_,upds_of _ _ ⟨rfl,rfl,rfl,rfl,rfl,rfl,rfl,rfl,rfl,rfl,trivial⟩,M.e_inl hM hN405z,(H.pk [1,2,3,4,5,6,7,8,0,9,10]),hr612z,hr_l13⟩
     skip
     refine t_bs (α:=Int) T22 [I (i2:Int)] [(i2:Int)] H rfl (.cons rfl (Flat.rep_enc _ (i2:Int))<|.nil) rfl rfl rfl ?_
     intro v614z w615z H
     have hvc_q616z:=Sl.cells (H.os 0)
     have hvo_q616z:=Sl.oc (H.os 0)
     have hvs_q616z:=ownSl (H.get (k:=0) rfl)
     have hvc_q617z:=Sl.cells (deSl (H.get (k:=9) rfl))
     have hvo_q617z:=Sl.oc (deSl (H.get (k:=9) rfl))
     have hvs_q617z:=deSl (H.get (k:=9) rfl)
     refine s_nil ⟨(H.pk [1,2,3,4,5,6,7,8,10,11]),?_⟩
     refine t_l rfl ?_
     refine s_val (x_ix (a:=v_l14) (b:=I 0) (v:=vat v_l14 4 (Int.toNat 0)) rfl rfl (Sl.ix (α:=Old10) T26.und T26.size (deSl (H.get (k:=9) rfl)) (by omega) (by omega))) ?_
     refine s_nil ⟨(H.pk [1,2,3,4,5,6,7,8,10,11]),?_⟩
     refine t_l rfl ?_
     refine s_val (x_fa (a:=vat v_l14 4 (Int.toNat 0)) (v:=fat (vat v_l14 4 (Int.toNat 0)) 3) rfl (fa_pl Fd38_3 Sz22 (Sl.pl (i:=0) (deSl (H.get (k:=9) rfl)) (by omega) (by omega)))) ?_
     refine s_nil ⟨(H.pk [1,2,3,4,5,6,7,8,10,11]),?_⟩
     refine t_l rfl ?_
     obtain ⟨u618z,ha_u618z,hs619z⟩:=Old10_at3 (deSl (H.get (k:=9) rfl)) (i:=0) (by omega) (by omega)
     replace hs619z:Sl _ u618z (l14.getD 0 default).passed:=hs619z
     have hl_hs619z:=hs619z.len_le
     refine s_val (x_ld (p:=fat (vat v_l14 4 (Int.toNat 0)) 3) (v:=u618z) rfl (ld_sc Sc22 (At.mono (ha_u618z) (deLe _ (H.get (k:=9) rfl))))) ?_
     refine s_nil ⟨(H.pk [1,2,3,4,5,6,7,8,10,11]),?_⟩
     refine t_l rfl ?_
     replace H:=H.pk [9,0,1,2,3,4,5,6,7,8,10,11]
     have hu620z:=doU (H.get (k:=0) rfl) (deLe _ (H.get (k:=0) rfl)) (i:=0) (by omega) (by omega) ha_u618z
     have hm621z:=(H.get (k:=0) rfl).2.2
     refine t_diapp (dl:=l14) (i:=0) (l2:=[(i2:Int)]) T22 rfl H (by omega) (by omega) hu620z rfl rfl (H.os 1) (H.ol 1) (show ((l14.getD 0 default).passed.length+([(i2:Int)]).length)*8<=140737488355328 by first | omega | (simp only [List.length_cons,List.length_nil] at *; omega)) ?_
     intro v622z w623z rr624z fr625z fc626z fo627z H
     replace H:=H.nf
     refine s_nil ⟨(H.pk [2,3,4,5,6,7,8,9,10,11]),?_⟩
     refine t_l rfl ?_
     refine s_val (x_ix (a:=v_l14) (b:=I 0) (v:=vat v_l14 4 (Int.toNat 0)) rfl rfl (Sl.ix (α:=Raw 3) T26.und T26.size (daSl (H.get (k:=0) rfl)) (by omega) (by have hu_:=hr_l14; omega))) ?_
     refine s_nil ⟨(H.pk [2,3,4,5,6,7,8,9,10,11]),?_⟩
     refine t_l rfl ?_
     refine s_val (x_fa (a:=vat v_l14 4 (Int.toNat 0)) (v:=fat (vat v_l14 4 (Int.toNat 0)) 3) rfl (fa_pl Fd38_3 Sz22 (Sl.pl (i:=0) (daSl (H.get (k:=0) rfl)) (by omega) (by omega)))) ?_
     refine s_nil ⟨(H.pk [2,3,4,5,6,7,8,9,10,11]),?_⟩
     refine t_l rfl ?_
     refine t_diast (dl:=l14) (i:=0) H fr625z fc626z fo627z hr_l14 hm621z Sz22 (by omega) (by omega) rfl rfl rfl ?_
     intro w629z us630z hr631z H
     replace H:=H.nf
     refine s_nil ⟨(H.pk [2,3,4,5,6,7,8,9,10,11]),?_⟩
     refine t_nil ?_
     replace H:=H.pk [0,2,3,4,5,6,7,8,9,10,11]
     obtain ⟨sd632z,hM⟩:=M.e_grd hM
     simp only [Bool.and_eq_true,decide_eq_true_eq] at sd632z
     refine kg 5 ?_
     exact ⟨m402z,lt403z,l14.set 0 ({ (l14.getD 0 default) with passed:=(l14.getD 0 default).passed++([(i2:Int)]) }),i2+1,l10++([(⟨3*(i2:Int),(((i2:Int)*(i2:Int)) % 2000:Int)⟩:Pk)]),l11++([(i2:Int)]),l12++([(⟨1800+(i2:Int),(i2:Int),9*(i2:Int)⟩:Yr)]),l13,v_l14,v414z,v419z,v426z,v_l13,us630z,B_l14,rw_l13,B_l13,_,upds_of _ _ ⟨rfl,rfl,rfl,rfl,rfl,rfl,rfl,rfl,rfl,rfl,trivial⟩,M.e_inl hM hN405z,(H.pk [1,2,3,4,5,6,7,8,0,9,10]),hr631z,hr_l13⟩
    replace hM:=M.e_f hM c539z
    simp only [qy1,qy2,qy3,qy4,qy5,qy6,ne_eq,qy7] at c539z
    obtain ⟨sd633z,hM⟩:=M.e_grd hM
    simp only [Bool.and_eq_true,decide_eq_true_eq] at sd633z
    refine kg 6 ?_
    exact ⟨m402z,lt403z,l14,i2+1,l10++([(⟨3*(i2:Int),(((i2:Int)*(i2:Int)) % 2000:Int)⟩:Pk)]),l11++([(i2:Int)]),l12++([(⟨1800+(i2:Int),(i2:Int),9*(i2:Int)⟩:Yr)]),l13,v_l14,v414z,v419z,v426z,v_l13,rw_l14,B_l14,rw_l13,B_l13,_,upds_of _ _ ⟨rfl,rfl,rfl,rfl,rfl,rfl,rfl,rfl,rfl,rfl,trivial⟩,M.e_inl hM hN405z,H,hr_l14,hr_l13⟩
   replace hM:=M.e_f hM c407z
   simp only [qy1,qy2,qy3,qy4,qy5,qy6,ne_eq,qy7] at c407z
   obtain ⟨sd634z,hM⟩:=M.e_grd hM
   simp only [Bool.and_eq_true,decide_eq_true_eq] at sd634z
   obtain ⟨sd635z,hM⟩:=M.e_grd hM
   simp only [Bool.and_eq_true,decide_eq_true_eq] at sd635z
   refine kg 10 ?_
   refine s_val (x_bld (ps:=[(0,I (i2:Int)),(1,I (9*(i2:Int)))]) (zs:=[I 0,I 0]) (L':=[I (i2:Int),I (9*(i2:Int))]) rfl Tryz.underlying34 Al34 rfl (Bd34 Tryz.underlying34) (.cons (cs:=[I (i2:Int)]) rfl rfl rfl rfl rfl<|.cons (cs:=[I (9*(i2:Int))]) rfl rfl rfl rfl rfl<|.nil)) ?_
   refine s_val (x_bld (ps:=[(0,I (1800+(i2:Int))),(1,.agg #[I (i2:Int),I (9*(i2:Int))])]) (zs:=[I 0,I 0,I 0]) (L':=[I (1800+(i2:Int)),I (i2:Int),I (9*(i2:Int))]) rfl Tryz.underlying36 Al36 rfl (Bd36 Tryz.underlying36) (.cons (cs:=[I (1800+(i2:Int))]) rfl rfl rfl rfl rfl<|.cons (cs:=[I (i2:Int),I (9*(i2:Int))]) rfl rfl rfl rfl rfl<|.nil)) ?_
   refine t_bs (α:=Yr) T25 [.agg #[I (1800+(i2:Int)),I (i2:Int),I (9*(i2:Int))]] [(⟨1800+(i2:Int),(i2:Int),9*(i2:Int)⟩:Yr)] H rfl (.cons rfl (Flat.rep_enc _ (⟨1800+(i2:Int),(i2:Int),9*(i2:Int)⟩:Yr))<|.nil) rfl rfl rfl ?_
   intro v636z w637z H
   obtain ⟨sd638z,hM⟩:=M.e_grd hM
   simp only [Bool.and_eq_true,decide_eq_true_eq] at sd638z
   refine t_app (α:=Yr) (k:=5) (l:=l12) (l2:=[(⟨1800+(i2:Int),(i2:Int),9*(i2:Int)⟩:Yr)]) (l':=l12++([(⟨1800+(i2:Int),(i2:Int),9*(i2:Int)⟩:Yr)])) (vy:=v636z) T25 rfl H rfl rfl rfl (H.os 0) (H.ol 0) (rfl) (by first | omega | (simp only [List.length_nil] at *; omega)) ?_
   intro v639z w640z H
   replace H:=H.nf
   refine kg 1 ?_
   refine t_sw 8 0 [v639z] v639z H rfl rfl Sz25 (Sl.cells (H.os 5)) rfl rfl (by simp only [List.all_cons,List.all_nil,Bool.true_and,Bool.and_true,Sl.oc (H.os 5)]; try rfl) ?_
   intro w641z H
   refine s_nil ?_
   replace H:=H.pk [1,2,3,4,5,6,7,8,9,10,11]
   refine kg 6 ?_
   refine W.cond (decide ((i2:Int)<10)) rfl (fun c642z=>?_) (fun c642z=>?_)
   ·replace hM:=M.e_t hM c642z
    simp only [qy1,qy2,qy3,qy4,qy5,qy6,ne_eq,qy7] at c642z
    obtain ⟨sd643z,hM⟩:=M.e_grd hM
    simp only [Bool.and_eq_true,decide_eq_true_eq] at sd643z
    refine kg 7 ?_
    refine s_val (x_bld (ps:=[(0,I (i2:Int)),(1,I 40),(2,I (10*((i2:Int)+1)))]) (zs:=[I 0,I 0,I 0,.slice none 0 0]) (L':=[I (i2:Int),I 40,I (10*((i2:Int)+1)),.slice none 0 0]) rfl Tryz.underlying38 Al38 rfl (Bd38 Tryz.underlying38) (.cons (cs:=[I (i2:Int)]) rfl rfl rfl rfl rfl<|.cons (cs:=[I 40]) rfl rfl rfl rfl rfl<|.cons (cs:=[I (10*((i2:Int)+1))]) rfl rfl rfl rfl rfl<|.nil)) ?_
    obtain ⟨Bs_49,H⟩:=H.emptyE
    obtain ⟨rw645z,hrw_rw645z⟩:∃ r:Raw 3,r.cs=[I (i2:Int),I 40,I (10*((i2:Int)+1)),.slice none 0 0]:=⟨Raw.of [I (i2:Int),I 40,I (10*((i2:Int)+1)),.slice none 0 0] rfl rfl,rfl⟩
    have hr646z:RepR (α:=Old10) Bs_49.cells [rw645z] [(⟨(i2:Int),(40:Int),(10*((i2:Int)+1):Int),([])⟩:Old10)]:=.cons (by rw [hrw_rw645z]; exact ⟨_,rfl,(Sl.nil _)⟩)<|.nil
    refine t_bs (α:=Raw 3) T26 [.agg #[I (i2:Int),I 40,I (10*((i2:Int)+1)),.slice none 0 0]] [rw645z] H rfl (.cons (by rw [show (Flat.enc rw645z:List Value)=rw645z.cs from rfl,hrw_rw645z]; rfl) (Flat.rep_enc _ _)<|.nil) rfl rfl rfl ?_
    intro v647z w648z H
    replace H:=H.nf
    obtain ⟨sd649z,hM⟩:=M.e_grd hM
    simp only [Bool.and_eq_true,decide_eq_true_eq] at sd649z
    have hr650z:=hr646z
    obtain ⟨Bs_53,H,le651z,le652z⟩:=H.joinE (i:=5) (j:=1) rfl rfl
    replace hr_l13:=hr_l13.mono le651z
    replace hr650z:=hr650z.mono le652z
    have hr655z:=hr_l13.app hr650z
    refine t_app (α:=Raw 3) (k:=5) (l:=rw_l13) (l2:=[rw645z]) (l':=rw_l13++([rw645z])) (vy:=v647z) T26 rfl H rfl rfl rfl (H.os 1) (H.ol 1) (rfl) (by have a_:=hr_l13.len; have b_:=hr650z.len; (try simp only [List.length_nil] at *); first | omega | (rw [a_,b_]; omega)) ?_
    intro v653z w654z H
    replace H:=H.nf
    refine kg 1 ?_
    refine t_sw 9 1 [v653z] v653z H rfl rfl Sz26 (Sl.cells (rowSl rfl (H.get (k:=5) rfl) (roLe _ (H.get (k:=0) rfl)) hr655z)) rfl rfl (by simp only [List.all_cons,List.all_nil,Bool.true_and,Bool.and_true,Sl.oc (rowSl rfl (H.get (k:=5) rfl) (roLe _ (H.get (k:=0) rfl)) hr655z)]; try rfl) ?_
    intro w656z H
    refine s_nil ?_
    replace H:=H.pk [0,3,4,5,6,7,8,9,10,11,12,13]
    refine kg 5 ?_
    refine W.cond (decide ((i2:Int)<12)) rfl (fun c657z=>?_) (fun c657z=>?_)
    ·replace hM:=M.e_t hM c657z
     simp only [qy1,qy2,qy3,qy4,qy5,qy6,ne_eq,qy7] at c657z
     refine W.drawT (fun W=>St w W [cRo Bs_53,cOwn (α:=Int) 3 v_l11 l11,cOwn (α:=Pk) 32 v_l10 l10,cOwn (α:=Raw 3) 38 v653z (rw_l13++([rw645z])),cRo B_l13,cOwn (α:=Yr) 36 v639z (l12++([(⟨1800+(i2:Int),(i2:Int),9*(i2:Int)⟩:Yr)])),cBlk b_42 [.slice none 0 0,v_l14,I 0,I 20] 28,cBlk b_41 [.slice none 0 0,v653z,I 0,I 40] 28,cBlk b_40 [v639z,.slice none 0 0,I 1800,I 2799] 28,cRo B_l14,cOwn (α:=Int) 3 v370z (vl12)] R) (.q 0 (.q 1 (.q 2 (.q 3 (.q 7 (.l2 4 (.l2 5 (.l2 6 (.l 8 (.l 9 (.l 10 (.l 11 (.l 12 .nil))))) 8 (.l 6 (.l 9 (.l 10 (.l 11 (.l 12 .nil)))))) 8 (.l 5 (.l 6 (.l 9 (.l 10 (.l 11 (.l 12 .nil))))))) 8 (.l 4 (.l 5 (.l 6 (.l 9 (.l 10 (.l 11 (.l 12 .nil))))))))))))) mixed (by decide +kernel) rfl ?_
     intro w658z hx_
     replace H:=H.ext hx_
     clear hx_
     refine ⟨(H.pk [0,1,2,3,4,5,6,7,8,10,11]),?_⟩
     obtain ⟨sd659z,hM⟩:=M.e_grd hM
     simp only [Bool.and_eq_true,decide_eq_true_eq] at sd659z
     obtain ⟨sd664z,hM⟩:=M.e_grd hM
     simp only [Bool.and_eq_true,decide_eq_true_eq] at sd664z
     refine kg 5 ?_
     refine t_l2 rfl rfl ?_ ?_
     ·skip
      refine s_val (x_ix (a:=v_l14) (b:=I 0) (v:=vat v_l14 4 (Int.toNat 0)) rfl rfl (Sl.ix (α:=Old10) T26.und T26.size (deSl (H.get (k:=9) rfl)) (by omega) (by omega))) ?_
      have hvc_q677z:=Sl.cells (deSl (H.get (k:=9) rfl))
      have hvo_q677z:=Sl.oc (deSl (H.get (k:=9) rfl))
      have hvs_q677z:=deSl (H.get (k:=9) rfl)
      refine s_nil ⟨(H.pk [0,1,2,3,4,5,6,7,8,10,11]),?_⟩
      refine t_l2 rfl rfl ?_ ?_
      ·skip
       refine s_val (x_fa (a:=vat v_l14 4 (Int.toNat 0)) (v:=fat (vat v_l14 4 (Int.toNat 0)) 3) rfl (fa_pl Fd38_3 Sz22 (Sl.pl (i:=0) (deSl (H.get (k:=9) rfl)) (by omega) (by omega)))) ?_
       refine s_nil ⟨(H.pk [0,1,2,3,4,5,6,7,8,10,11]),?_⟩
       refine t_l2 rfl rfl ?_ ?_
       ·skip
        obtain ⟨u678z,ha_u678z,hs679z⟩:=Old10_at3 (deSl (H.get (k:=9) rfl)) (i:=0) (by omega) (by omega)
        replace hs679z:Sl _ u678z (l14.getD 0 default).passed:=hs679z
        have hl_hs679z:=hs679z.len_le
        refine s_val (x_ld (p:=fat (vat v_l14 4 (Int.toNat 0)) 3) (v:=u678z) rfl (ld_sc Sc22 (At.mono (ha_u678z) (deLe _ (H.get (k:=9) rfl))))) ?_
        refine s_nil ⟨(H.pk [0,1,2,3,4,5,6,7,8,10,11]),?_⟩
        refine t_l rfl ?_
        refine t_bs (α:=Int) T22 [I (i2:Int)] [(i2:Int)] H rfl (.cons rfl (Flat.rep_enc _ (i2:Int))<|.nil) rfl rfl rfl ?_
        intro v680z w681z H
        have hvc_q682z:=Sl.cells (H.os 0)
        have hvo_q682z:=Sl.oc (H.os 0)
        have hvs_q682z:=ownSl (H.get (k:=0) rfl)
        refine s_nil ⟨(H.pk [1,2,3,4,5,6,7,8,9,11,12]),?_⟩
        refine t_l rfl ?_
        replace H:=H.pk [10,0,1,2,3,4,5,6,7,8,9,11,12]
        have hu683z:=doU (H.get (k:=0) rfl) (deLe _ (H.get (k:=0) rfl)) (i:=0) (by omega) (by omega) ha_u678z
        have hm684z:=(H.get (k:=0) rfl).2.2
        refine t_diapp (dl:=l14) (i:=0) (l2:=[(i2:Int)]) T22 rfl H (by omega) (by omega) hu683z rfl rfl (H.os 1) (H.ol 1) (show ((l14.getD 0 default).passed.length+([(i2:Int)]).length)*8<=140737488355328 by first | omega | (simp only [List.length_cons,List.length_nil] at *; omega)) ?_
        intro v685z w686z rr687z fr688z fc689z fo690z H
        replace H:=H.nf
        refine s_nil ⟨(H.pk [2,3,4,5,6,7,8,9,10,11,12]),?_⟩
        refine t_l rfl ?_
        refine s_val (x_ix (a:=v_l14) (b:=I 0) (v:=vat v_l14 4 (Int.toNat 0)) rfl rfl (Sl.ix (α:=Raw 3) T26.und T26.size (daSl (H.get (k:=0) rfl)) (by omega) (by have hu_:=hr_l14; omega))) ?_
        refine s_nil ⟨(H.pk [2,3,4,5,6,7,8,9,10,11,12]),?_⟩
        refine t_l rfl ?_
        refine s_val (x_fa (a:=vat v_l14 4 (Int.toNat 0)) (v:=fat (vat v_l14 4 (Int.toNat 0)) 3) rfl (fa_pl Fd38_3 Sz22 (Sl.pl (i:=0) (daSl (H.get (k:=0) rfl)) (by omega) (by omega)))) ?_
        refine s_nil ⟨(H.pk [2,3,4,5,6,7,8,9,10,11,12]),?_⟩
        refine t_l rfl ?_
        refine t_diast (dl:=l14) (i:=0) H fr688z fc689z fo690z hr_l14 hm684z Sz22 (by omega) (by omega) rfl rfl rfl ?_
        intro w692z us693z hr694z H
        replace H:=H.nf
        refine s_nil ⟨(H.pk [2,3,4,5,6,7,8,9,10,11,12]),?_⟩
        refine t_nil ?_
        replace H:=H.pk [0,2,3,4,5,6,7,8,9,10,11,12]
        obtain ⟨sd695z,hM⟩:=M.e_grd hM
        simp only [Bool.and_eq_true,decide_eq_true_eq] at sd695z
        refine kg 5 ?_
        exact ⟨m402z,lt403z,l14.set 0 ({ (l14.getD 0 default) with passed:=(l14.getD 0 default).passed++([(i2:Int)]) }),i2+1,l10,l11,l12++([(⟨1800+(i2:Int),(i2:Int),9*(i2:Int)⟩:Yr)]),l13++([(⟨(i2:Int),(40:Int),(10*((i2:Int)+1):Int),([])⟩:Old10)]),v_l14,v_l10,v_l11,v639z,v653z,us693z,B_l14,rw_l13++([rw645z]),Bs_53,_,upds_of _ _ ⟨rfl,rfl,rfl,rfl,rfl,rfl,rfl,rfl,rfl,rfl,trivial⟩,M.e_inl hM hN405z,(H.pk [2,3,4,1,6,7,8,9,0,10,11]),hr694z,hr655z⟩
       skip
       refine t_bs (α:=Int) T22 [I (i2:Int)] [(i2:Int)] H rfl (.cons rfl (Flat.rep_enc _ (i2:Int))<|.nil) rfl rfl rfl ?_
       intro v696z w697z H
       have hvc_q698z:=Sl.cells (H.os 0)
       have hvo_q698z:=Sl.oc (H.os 0)
       have hvs_q698z:=ownSl (H.get (k:=0) rfl)
       refine s_nil ⟨(H.pk [1,2,3,4,5,6,7,8,9,11,12]),?_⟩
       refine t_l rfl ?_
       obtain ⟨u699z,ha_u699z,hs700z⟩:=Old10_at3 (deSl (H.get (k:=10) rfl)) (i:=0) (by omega) (by omega)
       replace hs700z:Sl _ u699z (l14.getD 0 default).passed:=hs700z
       have hl_hs700z:=hs700z.len_le
       refine s_val (x_ld (p:=fat (vat v_l14 4 (Int.toNat 0)) 3) (v:=u699z) rfl (ld_sc Sc22 (At.mono (ha_u699z) (deLe _ (H.get (k:=10) rfl))))) ?_
       refine s_nil ⟨(H.pk [1,2,3,4,5,6,7,8,9,11,12]),?_⟩
       refine t_l rfl ?_
       replace H:=H.pk [10,0,1,2,3,4,5,6,7,8,9,11,12]
       have hu701z:=doU (H.get (k:=0) rfl) (deLe _ (H.get (k:=0) rfl)) (i:=0) (by omega) (by omega) ha_u699z
       have hm702z:=(H.get (k:=0) rfl).2.2
       refine t_diapp (dl:=l14) (i:=0) (l2:=[(i2:Int)]) T22 rfl H (by omega) (by omega) hu701z rfl rfl (H.os 1) (H.ol 1) (show ((l14.getD 0 default).passed.length+([(i2:Int)]).length)*8<=140737488355328 by first | omega | (simp only [List.length_cons,List.length_nil] at *; omega)) ?_
       intro v703z w704z rr705z fr706z fc707z fo708z H
       replace H:=H.nf
       refine s_nil ⟨(H.pk [2,3,4,5,6,7,8,9,10,11,12]),?_⟩
       refine t_l rfl ?_
       refine s_val (x_ix (a:=v_l14) (b:=I 0) (v:=vat v_l14 4 (Int.toNat 0)) rfl rfl (Sl.ix (α:=Raw 3) T26.und T26.size (daSl (H.get (k:=0) rfl)) (by omega) (by have hu_:=hr_l14; omega))) ?_
       refine s_nil ⟨(H.pk [2,3,4,5,6,7,8,9,10,11,12]),?_⟩
       refine t_l rfl ?_
       refine s_val (x_fa (a:=vat v_l14 4 (Int.toNat 0)) (v:=fat (vat v_l14 4 (Int.toNat 0)) 3) rfl (fa_pl Fd38_3 Sz22 (Sl.pl (i:=0) (daSl (H.get (k:=0) rfl)) (by omega) (by omega)))) ?_
       refine s_nil ⟨(H.pk [2,3,4,5,6,7,8,9,10,11,12]),?_⟩
       refine t_l rfl ?_
       refine t_diast (dl:=l14) (i:=0) H fr706z fc707z fo708z hr_l14 hm702z Sz22 (by omega) (by omega) rfl rfl rfl ?_
       intro w710z us711z hr712z H
       replace H:=H.nf
       refine s_nil ⟨(H.pk [2,3,4,5,6,7,8,9,10,11,12]),?_⟩
       refine t_nil ?_
       replace H:=H.pk [0,2,3,4,5,6,7,8,9,10,11,12]
       obtain ⟨sd713z,hM⟩:=M.e_grd hM
       simp only [Bool.and_eq_true,decide_eq_true_eq] at sd713z
       refine kg 5 ?_
       exact ⟨m402z,lt403z,l14.set 0 ({ (l14.getD 0 default) with passed:=(l14.getD 0 default).passed++([(i2:Int)]) }),i2+1,l10,l11,l12++([(⟨1800+(i2:Int),(i2:Int),9*(i2:Int)⟩:Yr)]),l13++([(⟨(i2:Int),(40:Int),(10*((i2:Int)+1):Int),([])⟩:Old10)]),v_l14,v_l10,v_l11,v639z,v653z,us711z,B_l14,rw_l13++([rw645z]),Bs_53,_,upds_of _ _ ⟨rfl,rfl,rfl,rfl,rfl,rfl,rfl,rfl,rfl,rfl,trivial⟩,M.e_inl hM hN405z,(H.pk [2,3,4,1,6,7,8,9,0,10,11]),hr712z,hr655z⟩
      skip
      refine t_bs (α:=Int) T22 [I (i2:Int)] [(i2:Int)] H rfl (.cons rfl (Flat.rep_enc _ (i2:Int))<|.nil) rfl rfl rfl ?_
      intro v714z w715z H
      have hvc_q716z:=Sl.cells (H.os 0)
      have hvo_q716z:=Sl.oc (H.os 0)
      have hvs_q716z:=ownSl (H.get (k:=0) rfl)
      refine s_nil ⟨(H.pk [1,2,3,4,5,6,7,8,9,11,12]),?_⟩
      refine t_l rfl ?_
      refine s_val (x_fa (a:=vat v_l14 4 (Int.toNat 0)) (v:=fat (vat v_l14 4 (Int.toNat 0)) 3) rfl (fa_pl Fd38_3 Sz22 (Sl.pl (i:=0) (deSl (H.get (k:=10) rfl)) (by omega) (by omega)))) ?_
      refine s_nil ⟨(H.pk [1,2,3,4,5,6,7,8,9,11,12]),?_⟩
      refine t_l rfl ?_
      obtain ⟨u717z,ha_u717z,hs718z⟩:=Old10_at3 (deSl (H.get (k:=10) rfl)) (i:=0) (by omega) (by omega)
      replace hs718z:Sl _ u717z (l14.getD 0 default).passed:=hs718z
      have hl_hs718z:=hs718z.len_le
      refine s_val (x_ld (p:=fat (vat v_l14 4 (Int.toNat 0)) 3) (v:=u717z) rfl (ld_sc Sc22 (At.mono (ha_u717z) (deLe _ (H.get (k:=10) rfl))))) ?_
      refine s_nil ⟨(H.pk [1,2,3,4,5,6,7,8,9,11,12]),?_⟩
      refine t_l rfl ?_
      replace H:=H.pk [10,0,1,2,3,4,5,6,7,8,9,11,12]
      have hu719z:=doU (H.get (k:=0) rfl) (deLe _ (H.get (k:=0) rfl)) (i:=0) (by omega) (by omega) ha_u717z
      have hm720z:=(H.get (k:=0) rfl).2.2
      refine t_diapp (dl:=l14) (i:=0) (l2:=[(i2:Int)]) T22 rfl H (by omega) (by omega) hu719z rfl rfl (H.os 1) (H.ol 1) (show ((l14.getD 0 default).passed.length+([(i2:Int)]).length)*8<=140737488355328 by first | omega | (simp only [List.length_cons,List.length_nil] at *; omega)) ?_
      intro v721z w722z rr723z fr724z fc725z fo726z H
      replace H:=H.nf
      refine s_nil ⟨(H.pk [2,3,4,5,6,7,8,9,10,11,12]),?_⟩
      refine t_l rfl ?_
      refine s_val (x_ix (a:=v_l14) (b:=I 0) (v:=vat v_l14 4 (Int.toNat 0)) rfl rfl (Sl.ix (α:=Raw 3) T26.und T26.size (daSl (H.get (k:=0) rfl)) (by omega) (by have hu_:=hr_l14; omega))) ?_
      refine s_nil ⟨(H.pk [2,3,4,5,6,7,8,9,10,11,12]),?_⟩
      refine t_l rfl ?_
      refine s_val (x_fa (a:=vat v_l14 4 (Int.toNat 0)) (v:=fat (vat v_l14 4 (Int.toNat 0)) 3) rfl (fa_pl Fd38_3 Sz22 (Sl.pl (i:=0) (daSl (H.get (k:=0) rfl)) (by omega) (by omega)))) ?_
      refine s_nil ⟨(H.pk [2,3,4,5,6,7,8,9,10,11,12]),?_⟩
      refine t_l rfl ?_
      refine t_diast (dl:=l14) (i:=0) H fr724z fc725z fo726z hr_l14 hm720z Sz22 (by omega) (by omega) rfl rfl rfl ?_
      intro w728z us729z hr730z H
      replace H:=H.nf
      refine s_nil ⟨(H.pk [2,3,4,5,6,7,8,9,10,11,12]),?_⟩
      refine t_nil ?_
      replace H:=H.pk [0,2,3,4,5,6,7,8,9,10,11,12]
      obtain ⟨sd731z,hM⟩:=M.e_grd hM
      simp only [Bool.and_eq_true,decide_eq_true_eq] at sd731z
      refine kg 5 ?_
      exact ⟨m402z,lt403z,l14.set 0 ({ (l14.getD 0 default) with passed:=(l14.getD 0 default).passed++([(i2:Int)]) }),i2+1,l10,l11,l12++([(⟨1800+(i2:Int),(i2:Int),9*(i2:Int)⟩:Yr)]),l13++([(⟨(i2:Int),(40:Int),(10*((i2:Int)+1):Int),([])⟩:Old10)]),v_l14,v_l10,v_l11,v639z,v653z,us729z,B_l14,rw_l13++([rw645z]),Bs_53,_,upds_of _ _ ⟨rfl,rfl,rfl,rfl,rfl,rfl,rfl,rfl,rfl,rfl,trivial⟩,M.e_inl hM hN405z,(H.pk [2,3,4,1,6,7,8,9,0,10,11]),hr730z,hr655z⟩
     skip
     refine t_bs (α:=Int) T22 [I (i2:Int)] [(i2:Int)] H rfl (.cons rfl (Flat.rep_enc _ (i2:Int))<|.nil) rfl rfl rfl ?_
     intro v732z w733z H
     have hvc_q734z:=Sl.cells (H.os 0)
     have hvo_q734z:=Sl.oc (H.os 0)
     have hvs_q734z:=ownSl (H.get (k:=0) rfl)
     have hvc_q735z:=Sl.cells (deSl (H.get (k:=10) rfl))
     have hvo_q735z:=Sl.oc (deSl (H.get (k:=10) rfl))
     have hvs_q735z:=deSl (H.get (k:=10) rfl)
     refine s_nil ⟨(H.pk [1,2,3,4,5,6,7,8,9,11,12]),?_⟩
     refine t_l rfl ?_
     refine s_val (x_ix (a:=v_l14) (b:=I 0) (v:=vat v_l14 4 (Int.toNat 0)) rfl rfl (Sl.ix (α:=Old10) T26.und T26.size (deSl (H.get (k:=10) rfl)) (by omega) (by omega))) ?_
     refine s_nil ⟨(H.pk [1,2,3,4,5,6,7,8,9,11,12]),?_⟩
     refine t_l rfl ?_
     refine s_val (x_fa (a:=vat v_l14 4 (Int.toNat 0)) (v:=fat (vat v_l14 4 (Int.toNat 0)) 3) rfl (fa_pl Fd38_3 Sz22 (Sl.pl (i:=0) (deSl (H.get (k:=10) rfl)) (by omega) (by omega)))) ?_
     refine s_nil ⟨(H.pk [1,2,3,4,5,6,7,8,9,11,12]),?_⟩
     refine t_l rfl ?_
     obtain ⟨u736z,ha_u736z,hs737z⟩:=Old10_at3 (deSl (H.get (k:=10) rfl)) (i:=0) (by omega) (by omega)
     replace hs737z:Sl _ u736z (l14.getD 0 default).passed:=hs737z
     have hl_hs737z:=hs737z.len_le
     refine s_val (x_ld (p:=fat (vat v_l14 4 (Int.toNat 0)) 3) (v:=u736z) rfl (ld_sc Sc22 (At.mono (ha_u736z) (deLe _ (H.get (k:=10) rfl))))) ?_
     refine s_nil ⟨(H.pk [1,2,3,4,5,6,7,8,9,11,12]),?_⟩
     refine t_l rfl ?_
     replace H:=H.pk [10,0,1,2,3,4,5,6,7,8,9,11,12]
     have hu738z:=doU (H.get (k:=0) rfl) (deLe _ (H.get (k:=0) rfl)) (i:=0) (by omega) (by omega) ha_u736z
     have hm739z:=(H.get (k:=0) rfl).2.2
     refine t_diapp (dl:=l14) (i:=0) (l2:=[(i2:Int)]) T22 rfl H (by omega) (by omega) hu738z rfl rfl (H.os 1) (H.ol 1) (show ((l14.getD 0 default).passed.length+([(i2:Int)]).length)*8<=140737488355328 by first | omega | (simp only [List.length_cons,List.length_nil] at *; omega)) ?_
     intro v740z w741z rr742z fr743z fc744z fo745z H
     replace H:=H.nf
     refine s_nil ⟨(H.pk [2,3,4,5,6,7,8,9,10,11,12]),?_⟩
     refine t_l rfl ?_
     refine s_val (x_ix (a:=v_l14) (b:=I 0) (v:=vat v_l14 4 (Int.toNat 0)) rfl rfl (Sl.ix (α:=Raw 3) T26.und T26.size (daSl (H.get (k:=0) rfl)) (by omega) (by have hu_:=hr_l14; omega))) ?_
     refine s_nil ⟨(H.pk [2,3,4,5,6,7,8,9,10,11,12]),?_⟩
     refine t_l rfl ?_
     refine s_val (x_fa (a:=vat v_l14 4 (Int.toNat 0)) (v:=fat (vat v_l14 4 (Int.toNat 0)) 3) rfl (fa_pl Fd38_3 Sz22 (Sl.pl (i:=0) (daSl (H.get (k:=0) rfl)) (by omega) (by omega)))) ?_
     refine s_nil ⟨(H.pk [2,3,4,5,6,7,8,9,10,11,12]),?_⟩
     refine t_l rfl ?_
     refine t_diast (dl:=l14) (i:=0) H fr743z fc744z fo745z hr_l14 hm739z Sz22 (by omega) (by omega) rfl rfl rfl ?_
     intro w747z us748z hr749z H
     replace H:=H.nf
     refine s_nil ⟨(H.pk [2,3,4,5,6,7,8,9,10,11,12]),?_⟩
     refine t_nil ?_
     replace H:=H.pk [0,2,3,4,5,6,7,8,9,10,11,12]
     obtain ⟨sd750z,hM⟩:=M.e_grd hM
     simp only [Bool.and_eq_true,decide_eq_true_eq] at sd750z
     refine kg 5 ?_
     exact ⟨m402z,lt403z,l14.set 0 ({ (l14.getD 0 default) with passed:=(l14.getD 0 default).passed++([(i2:Int)]) }),i2+1,l10,l11,l12++([(⟨1800+(i2:Int),(i2:Int),9*(i2:Int)⟩:Yr)]),l13++([(⟨(i2:Int),(40:Int),(10*((i2:Int)+1):Int),([])⟩:Old10)]),v_l14,v_l10,v_l11,v639z,v653z,us748z,B_l14,rw_l13++([rw645z]),Bs_53,_,upds_of _ _ ⟨rfl,rfl,rfl,rfl,rfl,rfl,rfl,rfl,rfl,rfl,trivial⟩,M.e_inl hM hN405z,(H.pk [2,3,4,1,6,7,8,9,0,10,11]),hr749z,hr655z⟩
    replace hM:=M.e_f hM c657z
    simp only [qy1,qy2,qy3,qy4,qy5,qy6,ne_eq,qy7] at c657z
    obtain ⟨sd751z,hM⟩:=M.e_grd hM
    simp only [Bool.and_eq_true,decide_eq_true_eq] at sd751z
    refine kg 6 ?_
    exact ⟨m402z,lt403z,l14,i2+1,l10,l11,l12++([(⟨1800+(i2:Int),(i2:Int),9*(i2:Int)⟩:Yr)]),l13++([(⟨(i2:Int),(40:Int),(10*((i2:Int)+1):Int),([])⟩:Old10)]),v_l14,v_l10,v_l11,v639z,v653z,rw_l14,B_l14,rw_l13++([rw645z]),Bs_53,_,upds_of _ _ ⟨rfl,rfl,rfl,rfl,rfl,rfl,rfl,rfl,rfl,rfl,trivial⟩,M.e_inl hM hN405z,(H.pk [1,2,3,0,5,6,7,8,9,10,11]),hr_l14,hr655z⟩
   replace hM:=M.e_f hM c642z
   simp only [qy1,qy2,qy3,qy4,qy5,qy6,ne_eq,qy7] at c642z
   refine kg 6 ?_
   refine W.cond (decide ((i2:Int)<12)) rfl (fun c752z=>?_) (fun c752z=>?_)
   ·replace hM:=M.e_t hM c752z
    simp only [qy1,qy2,qy3,qy4,qy5,qy6,ne_eq,qy7] at c752z
    refine W.drawT (fun W=>St w W [cOwn (α:=Int) 3 v_l11 l11,cOwn (α:=Pk) 32 v_l10 l10,cOwn (α:=Raw 3) 38 v_l13 rw_l13,cRo B_l13,cOwn (α:=Yr) 36 v639z (l12++([(⟨1800+(i2:Int),(i2:Int),9*(i2:Int)⟩:Yr)])),cBlk b_42 [.slice none 0 0,v_l14,I 0,I 20] 28,cBlk b_41 [.slice none 0 0,v_l13,I 0,I 40] 28,cBlk b_40 [v639z,.slice none 0 0,I 1800,I 2799] 28,cRo B_l14,cOwn (α:=Int) 3 v370z (vl12)] R) (.q 0 (.q 1 (.q 2 (.q 3 (.q 7 (.l2 4 (.l2 5 (.l2 6 (.l 8 (.l 9 (.l 10 (.l 11 (.l 12 .nil))))) 8 (.l 6 (.l 9 (.l 10 (.l 11 (.l 12 .nil)))))) 8 (.l 5 (.l 6 (.l 9 (.l 10 (.l 11 (.l 12 .nil))))))) 8 (.l 4 (.l 5 (.l 6 (.l 9 (.l 10 (.l 11 (.l 12 .nil))))))))))))) mixed (by decide +kernel) rfl ?_
    intro w753z hx_
    replace H:=H.ext hx_
    clear hx_
    refine ⟨(H.pk [0,1,2,3,4,5,6,7,9,10]),?_⟩
    obtain ⟨sd754z,hM⟩:=M.e_grd hM
    simp only [Bool.and_eq_true,decide_eq_true_eq] at sd754z
    obtain ⟨sd759z,hM⟩:=M.e_grd hM
    simp only [Bool.and_eq_true,decide_eq_true_eq] at sd759z
    refine kg 5 ?_
    refine t_l2 rfl rfl ?_ ?_
    ·skip
     refine s_val (x_ix (a:=v_l14) (b:=I 0) (v:=vat v_l14 4 (Int.toNat 0)) rfl rfl (Sl.ix (α:=Old10) T26.und T26.size (deSl (H.get (k:=8) rfl)) (by omega) (by omega))) ?_
     have hvc_q772z:=Sl.cells (deSl (H.get (k:=8) rfl))
     have hvo_q772z:=Sl.oc (deSl (H.get (k:=8) rfl))
     have hvs_q772z:=deSl (H.get (k:=8) rfl)
     refine s_nil ⟨(H.pk [0,1,2,3,4,5,6,7,9,10]),?_⟩
     refine t_l2 rfl rfl ?_ ?_
     ·skip
      refine s_val (x_fa (a:=vat v_l14 4 (Int.toNat 0)) (v:=fat (vat v_l14 4 (Int.toNat 0)) 3) rfl (fa_pl Fd38_3 Sz22 (Sl.pl (i:=0) (deSl (H.get (k:=8) rfl)) (by omega) (by omega)))) ?_
      refine s_nil ⟨(H.pk [0,1,2,3,4,5,6,7,9,10]),?_⟩
      refine t_l2 rfl rfl ?_ ?_
      ·skip
       obtain ⟨u773z,ha_u773z,hs774z⟩:=Old10_at3 (deSl (H.get (k:=8) rfl)) (i:=0) (by omega) (by omega)
       replace hs774z:Sl _ u773z (l14.getD 0 default).passed:=hs774z
       have hl_hs774z:=hs774z.len_le
       refine s_val (x_ld (p:=fat (vat v_l14 4 (Int.toNat 0)) 3) (v:=u773z) rfl (ld_sc Sc22 (At.mono (ha_u773z) (deLe _ (H.get (k:=8) rfl))))) ?_
       refine s_nil ⟨(H.pk [0,1,2,3,4,5,6,7,9,10]),?_⟩
       refine t_l rfl ?_
       refine t_bs (α:=Int) T22 [I (i2:Int)] [(i2:Int)] H rfl (.cons rfl (Flat.rep_enc _ (i2:Int))<|.nil) rfl rfl rfl ?_
       intro v775z w776z H
       have hvc_q777z:=Sl.cells (H.os 0)
       have hvo_q777z:=Sl.oc (H.os 0)
       have hvs_q777z:=ownSl (H.get (k:=0) rfl)
       refine s_nil ⟨(H.pk [1,2,3,4,5,6,7,8,10,11]),?_⟩
       refine t_l rfl ?_
       replace H:=H.pk [9,0,1,2,3,4,5,6,7,8,10,11]
       have hu778z:=doU (H.get (k:=0) rfl) (deLe _ (H.get (k:=0) rfl)) (i:=0) (by omega) (by omega) ha_u773z
       have hm779z:=(H.get (k:=0) rfl).2.2
       refine t_diapp (dl:=l14) (i:=0) (l2:=[(i2:Int)]) T22 rfl H (by omega) (by omega) hu778z rfl rfl (H.os 1) (H.ol 1) (show ((l14.getD 0 default).passed.length+([(i2:Int)]).length)*8<=140737488355328 by first | omega | (simp only [List.length_cons,List.length_nil] at *; omega)) ?_
       intro v780z w781z rr782z fr783z fc784z fo785z H
       replace H:=H.nf
       refine s_nil ⟨(H.pk [2,3,4,5,6,7,8,9,10,11]),?_⟩
       refine t_l rfl ?_
       refine s_val (x_ix (a:=v_l14) (b:=I 0) (v:=vat v_l14 4 (Int.toNat 0)) rfl rfl (Sl.ix (α:=Raw 3) T26.und T26.size (daSl (H.get (k:=0) rfl)) (by omega) (by have hu_:=hr_l14; omega))) ?_
       refine s_nil ⟨(H.pk [2,3,4,5,6,7,8,9,10,11]),?_⟩
       refine t_l rfl ?_
       refine s_val (x_fa (a:=vat v_l14 4 (Int.toNat 0)) (v:=fat (vat v_l14 4 (Int.toNat 0)) 3) rfl (fa_pl Fd38_3 Sz22 (Sl.pl (i:=0) (daSl (H.get (k:=0) rfl)) (by omega) (by omega)))) ?_
       refine s_nil ⟨(H.pk [2,3,4,5,6,7,8,9,10,11]),?_⟩
       refine t_l rfl ?_
       refine t_diast (dl:=l14) (i:=0) H fr783z fc784z fo785z hr_l14 hm779z Sz22 (by omega) (by omega) rfl rfl rfl ?_
       intro w787z us788z hr789z H
       replace H:=H.nf
       refine s_nil ⟨(H.pk [2,3,4,5,6,7,8,9,10,11]),?_⟩
       refine t_nil ?_
       replace H:=H.pk [0,2,3,4,5,6,7,8,9,10,11]
       obtain ⟨sd790z,hM⟩:=M.e_grd hM
       simp only [Bool.and_eq_true,decide_eq_true_eq] at sd790z
       refine kg 5 ?_
       exact ⟨m402z,lt403z,l14.set 0 ({ (l14.getD 0 default) with passed:=(l14.getD 0 default).passed++([(i2:Int)]) }),i2+1,l10,l11,l12++([(⟨1800+(i2:Int),(i2:Int),9*(i2:Int)⟩:Yr)]),l13,v_l14,v_l10,v_l11,v639z,v_l13,us788z,B_l14,rw_l13,B_l13,_,upds_of _ _ ⟨rfl,rfl,rfl,rfl,rfl,rfl,rfl,rfl,rfl,rfl,trivial⟩,M.e_inl hM hN405z,(H.pk [1,2,3,4,5,6,7,8,0,9,10]),hr789z,hr_l13⟩
      skip
      refine t_bs (α:=Int) T22 [I (i2:Int)] [(i2:Int)] H rfl (.cons rfl (Flat.rep_enc _ (i2:Int))<|.nil) rfl rfl rfl ?_
      intro v791z w792z H
      have hvc_q793z:=Sl.cells (H.os 0)
      have hvo_q793z:=Sl.oc (H.os 0)
      have hvs_q793z:=ownSl (H.get (k:=0) rfl)
      refine s_nil ⟨(H.pk [1,2,3,4,5,6,7,8,10,11]),?_⟩
      refine t_l rfl ?_
      obtain ⟨u794z,ha_u794z,hs795z⟩:=Old10_at3 (deSl (H.get (k:=9) rfl)) (i:=0) (by omega) (by omega)
      replace hs795z:Sl _ u794z (l14.getD 0 default).passed:=hs795z
      have hl_hs795z:=hs795z.len_le
      refine s_val (x_ld (p:=fat (vat v_l14 4 (Int.toNat 0)) 3) (v:=u794z) rfl (ld_sc Sc22 (At.mono (ha_u794z) (deLe _ (H.get (k:=9) rfl))))) ?_
      refine s_nil ⟨(H.pk [1,2,3,4,5,6,7,8,10,11]),?_⟩
      refine t_l rfl ?_
      replace H:=H.pk [9,0,1,2,3,4,5,6,7,8,10,11]
      have hu796z:=doU (H.get (k:=0) rfl) (deLe _ (H.get (k:=0) rfl)) (i:=0) (by omega) (by omega) ha_u794z
      have hm797z:=(H.get (k:=0) rfl).2.2
      refine t_diapp (dl:=l14) (i:=0) (l2:=[(i2:Int)]) T22 rfl H (by omega) (by omega) hu796z rfl rfl (H.os 1) (H.ol 1) (show ((l14.getD 0 default).passed.length+([(i2:Int)]).length)*8<=140737488355328 by first | omega | (simp only [List.length_cons,List.length_nil] at *; omega)) ?_
      intro v798z w799z rr800z fr801z fc802z fo803z H
      replace H:=H.nf
      refine s_nil ⟨(H.pk [2,3,4,5,6,7,8,9,10,11]),?_⟩
      refine t_l rfl ?_
      refine s_val (x_ix (a:=v_l14) (b:=I 0) (v:=vat v_l14 4 (Int.toNat 0)) rfl rfl (Sl.ix (α:=Raw 3) T26.und T26.size (daSl (H.get (k:=0) rfl)) (by omega) (by have hu_:=hr_l14; omega))) ?_
      refine s_nil ⟨(H.pk [2,3,4,5,6,7,8,9,10,11]),?_⟩
      refine t_l rfl ?_
      refine s_val (x_fa (a:=vat v_l14 4 (Int.toNat 0)) (v:=fat (vat v_l14 4 (Int.toNat 0)) 3) rfl (fa_pl Fd38_3 Sz22 (Sl.pl (i:=0) (daSl (H.get (k:=0) rfl)) (by omega) (by omega)))) ?_
      refine s_nil ⟨(H.pk [2,3,4,5,6,7,8,9,10,11]),?_⟩
      refine t_l rfl ?_
      refine t_diast (dl:=l14) (i:=0) H fr801z fc802z fo803z hr_l14 hm797z Sz22 (by omega) (by omega) rfl rfl rfl ?_
      intro w805z us806z hr807z H
      replace H:=H.nf
      refine s_nil ⟨(H.pk [2,3,4,5,6,7,8,9,10,11]),?_⟩
      refine t_nil ?_
      replace H:=H.pk [0,2,3,4,5,6,7,8,9,10,11]
      obtain ⟨sd808z,hM⟩:=M.e_grd hM
      simp only [Bool.and_eq_true,decide_eq_true_eq] at sd808z
      refine kg 5 ?_
      exact ⟨m402z,lt403z,l14.set 0 ({ (l14.getD 0 default) with passed:=(l14.getD 0 default).passed++([(i2:Int)]) }),i2+1,l10,l11,l12++([(⟨1800+(i2:Int),(i2:Int),9*(i2:Int)⟩:Yr)]),l13,v_l14,v_l10,v_l11,v639z,v_l13,us806z,B_l14,rw_l13,B_l13,_,upds_of _ _ ⟨rfl,rfl,rfl,rfl,rfl,rfl,rfl,rfl,rfl,rfl,trivial⟩,M.e_inl hM hN405z,(H.pk [1,2,3,4,5,6,7,8,0,9,10]),hr807z,hr_l13⟩
     skip
     refine t_bs (α:=Int) T22 [I (i2:Int)] [(i2:Int)] H rfl (.cons rfl (Flat.rep_enc _ (i2:Int))<|.nil) rfl rfl rfl ?_
     intro v809z w810z H
     have hvc_q811z:=Sl.cells (H.os 0)
     have hvo_q811z:=Sl.oc (H.os 0)
     have hvs_q811z:=ownSl (H.get (k:=0) rfl)
     refine s_nil ⟨(H.pk [1,2,3,4,5,6,7,8,10,11]),?_⟩
     refine t_l rfl ?_
     refine s_val (x_fa (a:=vat v_l14 4 (Int.toNat 0)) (v:=fat (vat v_l14 4 (Int.toNat 0)) 3) rfl (fa_pl Fd38_3 Sz22 (Sl.pl (i:=0) (deSl (H.get (k:=9) rfl)) (by omega) (by omega)))) ?_
     refine s_nil ⟨(H.pk [1,2,3,4,5,6,7,8,10,11]),?_⟩
     refine t_l rfl ?_
     obtain ⟨u812z,ha_u812z,hs813z⟩:=Old10_at3 (deSl (H.get (k:=9) rfl)) (i:=0) (by omega) (by omega)
     replace hs813z:Sl _ u812z (l14.getD 0 default).passed:=hs813z
     have hl_hs813z:=hs813z.len_le
     refine s_val (x_ld (p:=fat (vat v_l14 4 (Int.toNat 0)) 3) (v:=u812z) rfl (ld_sc Sc22 (At.mono (ha_u812z) (deLe _ (H.get (k:=9) rfl))))) ?_
     refine s_nil ⟨(H.pk [1,2,3,4,5,6,7,8,10,11]),?_⟩
     refine t_l rfl ?_
     replace H:=H.pk [9,0,1,2,3,4,5,6,7,8,10,11]
     have hu814z:=doU (H.get (k:=0) rfl) (deLe _ (H.get (k:=0) rfl)) (i:=0) (by omega) (by omega) ha_u812z
     have hm815z:=(H.get (k:=0) rfl).2.2
     refine t_diapp (dl:=l14) (i:=0) (l2:=[(i2:Int)]) T22 rfl H (by omega) (by omega) hu814z rfl rfl (H.os 1) (H.ol 1) (show ((l14.getD 0 default).passed.length+([(i2:Int)]).length)*8<=140737488355328 by first | omega | (simp only [List.length_cons,List.length_nil] at *; omega)) ?_
     intro v816z w817z rr818z fr819z fc820z fo821z H
     replace H:=H.nf
     refine s_nil ⟨(H.pk [2,3,4,5,6,7,8,9,10,11]),?_⟩
     refine t_l rfl ?_
     refine s_val (x_ix (a:=v_l14) (b:=I 0) (v:=vat v_l14 4 (Int.toNat 0)) rfl rfl (Sl.ix (α:=Raw 3) T26.und T26.size (daSl (H.get (k:=0) rfl)) (by omega) (by have hu_:=hr_l14; omega))) ?_
     refine s_nil ⟨(H.pk [2,3,4,5,6,7,8,9,10,11]),?_⟩
     refine t_l rfl ?_
     refine s_val (x_fa (a:=vat v_l14 4 (Int.toNat 0)) (v:=fat (vat v_l14 4 (Int.toNat 0)) 3) rfl (fa_pl Fd38_3 Sz22 (Sl.pl (i:=0) (daSl (H.get (k:=0) rfl)) (by omega) (by omega)))) ?_
     refine s_nil ⟨(H.pk [2,3,4,5,6,7,8,9,10,11]),?_⟩
     refine t_l rfl ?_
     refine t_diast (dl:=l14) (i:=0) H fr819z fc820z fo821z hr_l14 hm815z Sz22 (by omega) (by omega) rfl rfl rfl ?_
     intro w823z us824z hr825z H
     replace H:=H.nf
     refine s_nil ⟨(H.pk [2,3,4,5,6,7,8,9,10,11]),?_⟩
     refine t_nil ?_
     replace H:=H.pk [0,2,3,4,5,6,7,8,9,10,11]
     obtain ⟨sd826z,hM⟩:=M.e_grd hM
     simp only [Bool.and_eq_true,decide_eq_true_eq] at sd826z
     refine kg 5 ?_
     exact ⟨m402z,lt403z,l14.set 0 ({ (l14.getD 0 default) with passed:=(l14.getD 0 default).passed++([(i2:Int)]) }),i2+1,l10,l11,l12++([(⟨1800+(i2:Int),(i2:Int),9*(i2:Int)⟩:Yr)]),l13,v_l14,v_l10,v_l11,v639z,v_l13,us824z,B_l14,rw_l13,B_l13,_,upds_of _ _ ⟨rfl,rfl,rfl,rfl,rfl,rfl,rfl,rfl,rfl,rfl,trivial⟩,M.e_inl hM hN405z,(H.pk [1,2,3,4,5,6,7,8,0,9,10]),hr825z,hr_l13⟩
    skip
    refine t_bs (α:=Int) T22 [I (i2:Int)] [(i2:Int)] H rfl (.cons rfl (Flat.rep_enc _ (i2:Int))<|.nil) rfl rfl rfl ?_
    intro v827z w828z H
    have hvc_q829z:=Sl.cells (H.os 0)
    have hvo_q829z:=Sl.oc (H.os 0)
    have hvs_q829z:=ownSl (H.get (k:=0) rfl)
    have hvc_q830z:=Sl.cells (deSl (H.get (k:=9) rfl))
    have hvo_q830z:=Sl.oc (deSl (H.get (k:=9) rfl))
    have hvs_q830z:=deSl (H.get (k:=9) rfl)
    refine s_nil ⟨(H.pk [1,2,3,4,5,6,7,8,10,11]),?_⟩
    refine t_l rfl ?_
    refine s_val (x_ix (a:=v_l14) (b:=I 0) (v:=vat v_l14 4 (Int.toNat 0)) rfl rfl (Sl.ix (α:=Old10) T26.und T26.size (deSl (H.get (k:=9) rfl)) (by omega) (by omega))) ?_
    refine s_nil ⟨(H.pk [1,2,3,4,5,6,7,8,10,11]),?_⟩
    refine t_l rfl ?_
    refine s_val (x_fa (a:=vat v_l14 4 (Int.toNat 0)) (v:=fat (vat v_l14 4 (Int.toNat 0)) 3) rfl (fa_pl Fd38_3 Sz22 (Sl.pl (i:=0) (deSl (H.get (k:=9) rfl)) (by omega) (by omega)))) ?_
    refine s_nil ⟨(H.pk [1,2,3,4,5,6,7,8,10,11]),?_⟩
    refine t_l rfl ?_
    obtain ⟨u831z,ha_u831z,hs832z⟩:=Old10_at3 (deSl (H.get (k:=9) rfl)) (i:=0) (by omega) (by omega)
    replace hs832z:Sl _ u831z (l14.getD 0 default).passed:=hs832z
    have hl_hs832z:=hs832z.len_le
    refine s_val (x_ld (p:=fat (vat v_l14 4 (Int.toNat 0)) 3) (v:=u831z) rfl (ld_sc Sc22 (At.mono (ha_u831z) (deLe _ (H.get (k:=9) rfl))))) ?_
    refine s_nil ⟨(H.pk [1,2,3,4,5,6,7,8,10,11]),?_⟩
    refine t_l rfl ?_
    replace H:=H.pk [9,0,1,2,3,4,5,6,7,8,10,11]
    have hu833z:=doU (H.get (k:=0) rfl) (deLe _ (H.get (k:=0) rfl)) (i:=0) (by omega) (by omega) ha_u831z
    have hm834z:=(H.get (k:=0) rfl).2.2
    refine t_diapp (dl:=l14) (i:=0) (l2:=[(i2:Int)]) T22 rfl H (by omega) (by omega) hu833z rfl rfl (H.os 1) (H.ol 1) (show ((l14.getD 0 default).passed.length+([(i2:Int)]).length)*8<=140737488355328 by first | omega | (simp only [List.length_cons,List.length_nil] at *; omega)) ?_
    intro v835z w836z rr837z fr838z fc839z fo840z H
    replace H:=H.nf
    refine s_nil ⟨(H.pk [2,3,4,5,6,7,8,9,10,11]),?_⟩
    refine t_l rfl ?_
    refine s_val (x_ix (a:=v_l14) (b:=I 0) (v:=vat v_l14 4 (Int.toNat 0)) rfl rfl (Sl.ix (α:=Raw 3) T26.und T26.size (daSl (H.get (k:=0) rfl)) (by omega) (by have hu_:=hr_l14; omega))) ?_
    refine s_nil ⟨(H.pk [2,3,4,5,6,7,8,9,10,11]),?_⟩
    refine t_l rfl ?_
    refine s_val (x_fa (a:=vat v_l14 4 (Int.toNat 0)) (v:=fat (vat v_l14 4 (Int.toNat 0)) 3) rfl (fa_pl Fd38_3 Sz22 (Sl.pl (i:=0) (daSl (H.get (k:=0) rfl)) (by omega) (by omega)))) ?_
    refine s_nil ⟨(H.pk [2,3,4,5,6,7,8,9,10,11]),?_⟩
    refine t_l rfl ?_
    refine t_diast (dl:=l14) (i:=0) H fr838z fc839z fo840z hr_l14 hm834z Sz22 (by omega) (by omega) rfl rfl rfl ?_
    intro w842z us843z hr844z H
    replace H:=H.nf
    refine s_nil ⟨(H.pk [2,3,4,5,6,7,8,9,10,11]),?_⟩
    refine t_nil ?_
    replace H:=H.pk [0,2,3,4,5,6,7,8,9,10,11]
    obtain ⟨sd845z,hM⟩:=M.e_grd hM
    simp only [Bool.and_eq_true,decide_eq_true_eq] at sd845z
    refine kg 5 ?_
    exact ⟨m402z,lt403z,l14.set 0 ({ (l14.getD 0 default) with passed:=(l14.getD 0 default).passed++([(i2:Int)]) }),i2+1,l10,l11,l12++([(⟨1800+(i2:Int),(i2:Int),9*(i2:Int)⟩:Yr)]),l13,v_l14,v_l10,v_l11,v639z,v_l13,us843z,B_l14,rw_l13,B_l13,_,upds_of _ _ ⟨rfl,rfl,rfl,rfl,rfl,rfl,rfl,rfl,rfl,rfl,trivial⟩,M.e_inl hM hN405z,(H.pk [1,2,3,4,5,6,7,8,0,9,10]),hr844z,hr_l13⟩
   replace hM:=M.e_f hM c752z
   simp only [qy1,qy2,qy3,qy4,qy5,qy6,ne_eq,qy7] at c752z
   obtain ⟨sd846z,hM⟩:=M.e_grd hM
   simp only [Bool.and_eq_true,decide_eq_true_eq] at sd846z
   refine kg 6 ?_
   exact ⟨m402z,lt403z,l14,i2+1,l10,l11,l12++([(⟨1800+(i2:Int),(i2:Int),9*(i2:Int)⟩:Yr)]),l13,v_l14,v_l10,v_l11,v639z,v_l13,rw_l14,B_l14,rw_l13,B_l13,_,upds_of _ _ ⟨rfl,rfl,rfl,rfl,rfl,rfl,rfl,rfl,rfl,rfl,trivial⟩,M.e_inl hM hN405z,H,hr_l14,hr_l13⟩
  replace hM:=M.e_f hM c406z
  simp only [qy1,qy2,qy3,qy4,qy5,qy6,ne_eq,qy7] at c406z
  refine W.exit ?_
  have hX847z:=M.e_inr hM hN405z
  subst hX847z
  replace hM:=hk398z
  try dsimp only at hM
  refine kg 2 ?_
  refine W.draw (fun W=>St w W [cOwn (α:=Int) 3 v_l11 l11,cOwn (α:=Pk) 32 v_l10 l10,cOwn (α:=Raw 3) 38 v_l13 rw_l13,cRo B_l13,cOwn (α:=Yr) 36 v_l12 l12,cBlk b_42 [.slice none 0 0,v_l14,I 0,I 20] 28,cBlk b_41 [.slice none 0 0,v_l13,I 0,I 40] 28,cBlk b_40 [v_l12,.slice none 0 0,I 1800,I 2799] 28,cDO 38 3 v_l14 rw_l14 l14,cRo B_l14,cOwn (α:=Int) 3 v370z (vl12)] R) [(0,true),(1,true),(2,true),(3,false),(4,true),(5,true),(6,true),(7,false),(8,false),(9,true),(10,true),(11,true),(12,true),(13,false),(14,true),(15,true),(16,true),(17,true),(18,false),(19,false),(20,true),(21,true),(22,true),(23,true),(24,false),(25,true),(26,true)] mixed (by decide +kernel) rfl ?_
  intro w848z hx_
  replace H:=H.ext hx_
  clear hx_
  refine ⟨(H.pk [0,1,2,3,4,5,6,7,8,9,10]),?_⟩
  refine kg 3 ?_
  refine d_l rfl ?_
  obtain ⟨r850z,hx849z,hM⟩:=M.e_bind hM
  refine s_call cf6 [v_l10,I 7,I 5,v_l11,I 3000,v_l11] rfl (zcZ l10 7 5 l11 3000 l11 (rdo 1) (H.os 1) (rdo 0) (H.os 0) (rdo 0) (H.os 0) hx849z _ (H.gt 11)) ?_
  rintro vq w851z ⟨r10,hr852z,hvq,H2_⟩
  subst hr852z
  subst vq
  try dsimp only at hM
  replace H:=H.bk H2_
  clear H2_
  refine s_nil ⟨(H.pk [0,1,2,3,4,5,6,7,8,9,10]),?_⟩
  refine kg 3 ?_
  refine d_l rfl ?_
  refine t_gmk (α:=Int) T22 (0:Int) rfl (!(!r10)) (gy_f rfl) (n:=41) H (fun hg=>rfl) (fun hg=>rfl) (by omega) (by omega) (by omega) ?_
  intro v853z Bs_60 w854z H hf855z
  refine s_nil ⟨(H.pk [1,2,3,4,5,6,7,8,9,10,11]),?_⟩
  refine d_l rfl ?_
  obtain ⟨r11,hx856z,hM⟩:=M.e_bind hM
  refine t_gcall (!(!r10)) (gy_f rfl) cf7 (B r11) (fun _=>[.agg #[.slice none 0 0,v_l13,I 0,I 40],v853z,I 3]) (fun hg=>lst3 (gd_of (c:=!(!r10)) hg (.agg #[.slice none 0 0,v_l13,I 0,I 40])) (gd_of (c:=!(!r10)) hg (v853z)) rfl) H (fun hg=>(zbd ([]:List Yr) l13 0 40 (List.replicate 41 (0:Int)) 3 Reads.none (Sl.nil (fun _=>none)) (Reads.sup (rdo 3) (Reads.of (k:=4) rfl roLe)) (rowSl rfl (H.get (k:=3) rfl) (roLe _ (H.get (k:=4) rfl)) hr_l13) (Reads.of (k:=0) rfl roLe) (hf855z hg) (M.e_opt hx856z hg) _ (H.give (A:=[]) rfl)).mono fun v_ w_ ⟨y_,hr_,hv_,H_⟩=>by subst hr_; exact ⟨hv_,H.via H_⟩) ?_
  intro w857z H
  refine s_nil ⟨(H.pk [1,2,3,4,5,6,7,8,9,10,11]),?_⟩
  refine kg 1 ?_
  refine d_q rfl (fun w' H=>x_por (b:=!r10) (r:=!r11) rfl rfl (fun hb=>gd_of (c:=!(!r10)) (by first | exact hb | (rw [hb]; rfl) | (rw [hg,hb]; rfl) | simp_all) (B (!r11)))) ?_
  refine d_q rfl (fun w' H=>x_mv (v:=B ((!r10)||(!r11))) rfl) ?_
  refine d_qg (!((!r10)||(!r11))) rfl (gy_f rfl) (fun hg=>(fun w' H=>x_ld (p:=Pq b_41) (v:=.agg #[.slice none 0 0,v_l13,I 0,I 40]) rfl (ldb_ag (ds:=[.slice none 0 0,v_l13,I 0,I 40]) Ag28 Sz28 (H.bl 6) rfl rfl))) ?_
  refine d_l rfl ?_
  obtain ⟨r12,hx858z,hM⟩:=M.e_bind hM
  refine t_gcall (!((!r10)||(!r11))) (gy_f rfl) cf8 (B r12) (fun _=>[.agg #[.slice none 0 0,v_l13,I 0,I 40],I 0,I 40,I 50,I 5,B true]) (fun hg=>lst6 (gd_of (c:=!((!r10)||(!r11))) hg (.agg #[.slice none 0 0,v_l13,I 0,I 40])) rfl rfl rfl rfl rfl) H (fun hg=>(za2 ([]:List Yr) l13 0 40 0 40 50 5 true Reads.none (Sl.nil (fun _=>none)) (Reads.sup (rdo 3) (Reads.of (k:=4) rfl roLe)) (rowSl rfl (H.get (k:=3) rfl) (roLe _ (H.get (k:=4) rfl)) hr_l13) (M.e_opt hx858z hg) _ (H.give (A:=[]) rfl)).mono fun v_ w_ ⟨y_,hr_,hv_,H_⟩=>by subst hr_; exact ⟨hv_,H.via H_⟩) ?_
  intro w859z H
  refine s_nil ⟨(H.pk [1,2,3,4,5,6,7,8,9,10,11]),?_⟩
  refine d_qg (!((!r10)||(!r11))) rfl (gy_f rfl) (fun hg=>(fun w' H=>x_not (b:=r12) (gd_of (c:=!((!r10)||(!r11))) hg (B r12)))) ?_
  refine d_q rfl (fun w' H=>x_por (b:=((!r10)||(!r11))) (r:=!r12) rfl rfl (fun hb=>gd_of (c:=!((!r10)||(!r11))) (by first | exact hb | (rw [hb]; rfl) | (rw [hg,hb]; rfl) | simp_all) (B (!r12)))) ?_
  refine d_q rfl (fun w' H=>x_mv (v:=B (((!r10)||(!r11))||(!r12))) rfl) ?_
  refine d_qg (!(((!r10)||(!r11))||(!r12))) rfl (gy_f rfl) (fun hg=>(fun w' H=>x_ld (p:=Pq b_42) (v:=.agg #[.slice none 0 0,v_l14,I 0,I 20]) rfl (ldb_ag (ds:=[.slice none 0 0,v_l14,I 0,I 20]) Ag28 Sz28 (H.bl 5) rfl rfl))) ?_
  refine d_l rfl ?_
  refine t_gmk (α:=Int) T22 (0:Int) rfl (!(((!r10)||(!r11))||(!r12))) (gy_f rfl) (n:=21) H (fun hg=>rfl) (fun hg=>rfl) (by omega) (by omega) (by omega) ?_
  intro v860z Bs_61 w861z H hf862z
  refine s_nil ⟨(H.pk [2,3,4,5,6,7,8,9,10,11,12]),?_⟩
  refine d_l rfl ?_
  obtain ⟨r13,hx863z,hM⟩:=M.e_bind hM
  refine t_gcall (!(((!r10)||(!r11))||(!r12))) (gy_f rfl) cf7 (B r13) (fun _=>[.agg #[.slice none 0 0,v_l14,I 0,I 20],v860z,I 9]) (fun hg=>lst3 (gd_of (c:=!(((!r10)||(!r11))||(!r12))) hg (.agg #[.slice none 0 0,v_l14,I 0,I 20])) (gd_of (c:=!(((!r10)||(!r11))||(!r12))) hg (v860z)) rfl) H (fun hg=>(zbd ([]:List Yr) l14 0 20 (List.replicate 21 (0:Int)) 9 Reads.none (Sl.nil (fun _=>none)) (Reads.of (k:=10) rfl deLe) (deSl (H.get (k:=10) rfl)) (Reads.of (k:=0) rfl roLe) (hf862z hg) (M.e_opt hx863z hg) _ (H.give (A:=[]) rfl)).mono fun v_ w_ ⟨y_,hr_,hv_,H_⟩=>by subst hr_; exact ⟨hv_,H.via H_⟩) ?_
  intro w864z H
  refine s_nil ⟨(H.pk [2,3,4,5,6,7,8,9,10,11,12]),?_⟩
  refine d_qg (!(((!r10)||(!r11))||(!r12))) rfl (gy_f rfl) (fun hg=>(fun w' H=>x_not (b:=r13) (gd_of (c:=!(((!r10)||(!r11))||(!r12))) hg (B r13)))) ?_
  refine d_q rfl (fun w' H=>x_por (b:=(((!r10)||(!r11))||(!r12))) (r:=!r13) rfl rfl (fun hb=>gd_of (c:=!(((!r10)||(!r11))||(!r12))) (by first | exact hb | (rw [hb]; rfl) | (rw [hg,hb]; rfl) | simp_all) (B (!r13)))) ?_
  refine d_q rfl (fun w' H=>x_mv (v:=B ((((!r10)||(!r11))||(!r12))||(!r13))) rfl) ?_
  refine d_qg (!((((!r10)||(!r11))||(!r12))||(!r13))) rfl (gy_f rfl) (fun hg=>(fun w' H=>x_ld (p:=Pq b_42) (v:=.agg #[.slice none 0 0,v_l14,I 0,I 20]) rfl (ldb_ag (ds:=[.slice none 0 0,v_l14,I 0,I 20]) Ag28 Sz28 (H.bl 5) rfl rfl))) ?_
  refine d_l rfl ?_
  obtain ⟨r14,hx865z,hM⟩:=M.e_bind hM
  refine t_gcall (!((((!r10)||(!r11))||(!r12))||(!r13))) (gy_f rfl) cf8 (B r14) (fun _=>[.agg #[.slice none 0 0,v_l14,I 0,I 20],I 3,I 20,I 7,I 4,B false]) (fun hg=>lst6 (gd_of (c:=!((((!r10)||(!r11))||(!r12))||(!r13))) hg (.agg #[.slice none 0 0,v_l14,I 0,I 20])) rfl rfl rfl rfl rfl) H (fun hg=>(za2 ([]:List Yr) l14 0 20 3 20 7 4 false Reads.none (Sl.nil (fun _=>none)) (Reads.of (k:=10) rfl deLe) (deSl (H.get (k:=10) rfl)) (M.e_opt hx865z hg) _ (H.give (A:=[]) rfl)).mono fun v_ w_ ⟨y_,hr_,hv_,H_⟩=>by subst hr_; exact ⟨hv_,H.via H_⟩) ?_
  intro w866z H
  refine s_nil ⟨(H.pk [2,3,4,5,6,7,8,9,10,11,12]),?_⟩
  refine d_qg (!((((!r10)||(!r11))||(!r12))||(!r13))) rfl (gy_f rfl) (fun hg=>(fun w' H=>x_not (b:=r14) (gd_of (c:=!((((!r10)||(!r11))||(!r12))||(!r13))) hg (B r14)))) ?_
  refine d_q rfl (fun w' H=>x_por (b:=((((!r10)||(!r11))||(!r12))||(!r13))) (r:=!r14) rfl rfl (fun hb=>gd_of (c:=!((((!r10)||(!r11))||(!r12))||(!r13))) (by first | exact hb | (rw [hb]; rfl) | (rw [hg,hb]; rfl) | simp_all) (B (!r14)))) ?_
  refine d_nil ?_
  replace H:=H.pk [0,1,3,4,5,6,7,8,9,10,11,12]
  refine W.cond (((((!r10)||(!r11))||(!r12))||(!r13))||(!r14)) rfl (fun c867z=>?_) (fun c867z=>?_)
  ·replace hM:=M.e_t hM c867z
   refine kg 4 ?_
   replace H:=H.pk [11]
   refine W.ret ?_
   have hX868z:=M.e_inr hM hN382z
   subst hX868z
   replace hM:=hk375z
   try dsimp only at hM
   have hr_:=M.e_pure hM
   exact ⟨_,resE_tmp rfl,⟨false,hr_,rfl,(H.pk [])⟩⟩
  replace hM:=M.e_f hM c867z
  refine kg 4 ?_
  obtain ⟨r870z,hx869z,hM⟩:=M.e_bind hM
  refine s_call cf9 [v_l10] rfl (zdn l10 (rdo 2) (H.os 2) hx869z _ (H.gt 12)) ?_
  rintro vq w871z ⟨r15,hr872z,hvq,H2_⟩
  subst hr872z
  subst vq
  try dsimp only at hM
  replace H:=H.bk H2_
  clear H2_
  refine kg 3 ?_
  refine s_val (x_eqb (a:=r15==0) (b:=decide (((vl12).getD s12 0)<41)) (r:=((r15==0) != (decide (((vl12).getD s12 0)<41)))) rfl rfl Tryz.underlying4 rfl) ?_
  refine kg 2 ?_
  obtain ⟨r16,hx873z,hM⟩:=M.e_bind hM
  refine t_gcall (!((r15==0) != (decide (((vl12).getD s12 0)<41)))) (gy_f rfl) cf10 (I r16) (fun _=>[.agg #[v_l12,.slice none 0 0,I 1800,I 2799]]) (fun hg=>lst1 (gd_of (c:=!((r15==0) != (decide (((vl12).getD s12 0)<41)))) hg (.agg #[v_l12,.slice none 0 0,I 1800,I 2799]))) H (fun hg=>(za4 l12 ([]:List Old10) 1800 2799 (rdo 5) (H.os 5) Reads.none (Sl.nil (fun _=>none)) (M.e_opt hx873z hg) _ (H.give (A:=[]) rfl)).mono fun v_ w_ ⟨y_,hr_,hv_,H_⟩=>by subst hr_; exact ⟨hv_,H.via H_⟩) ?_
  intro w874z H
  refine kg 3 ?_
  refine g_val (!((r15==0) != (decide (((vl12).getD s12 0)<41)))) (gy_f rfl) (fun hg=>x_eqb (a:=r16==0) (b:=decide (((vl12).getD s12 0)<61)) (r:=((r16==0) != (decide (((vl12).getD s12 0)<61)))) (gd_of (c:=!((r15==0) != (decide (((vl12).getD s12 0)<41)))) hg (B (r16==0))) (gd_of (c:=!((r15==0) != (decide (((vl12).getD s12 0)<41)))) hg (B (decide (((vl12).getD s12 0)<61)))) Tryz.underlying4 rfl) ?_
  refine s_val (x_por (b:=((r15==0) != (decide (((vl12).getD s12 0)<41)))) (r:=((r16==0) != (decide (((vl12).getD s12 0)<61)))) rfl rfl (fun hb=>gd_of (c:=!((r15==0) != (decide (((vl12).getD s12 0)<41)))) (by first | exact hb | (rw [hb]; rfl) | (rw [hg,hb]; rfl) | simp_all) (B ((r16==0) != (decide (((vl12).getD s12 0)<61)))))) ?_
  refine zM (B (((r15==0) != (decide (((vl12).getD s12 0)<41)))||((r16==0) != (decide (((vl12).getD s12 0)<61))))) rfl ?_
  refine g_val (!(((r15==0) != (decide (((vl12).getD s12 0)<41)))||((r16==0) != (decide (((vl12).getD s12 0)<61))))) (gy_f rfl) (fun hg=>x_ld (p:=Pq b_41) (v:=.agg #[.slice none 0 0,v_l13,I 0,I 40]) rfl (ldb_ag (ds:=[.slice none 0 0,v_l13,I 0,I 40]) Ag28 Sz28 (H.bl 7) rfl rfl)) ?_
  obtain ⟨r17,hx875z,hM⟩:=M.e_bind hM
  refine t_gcall (!(((r15==0) != (decide (((vl12).getD s12 0)<41)))||((r16==0) != (decide (((vl12).getD s12 0)<61))))) (gy_f rfl) cf10 (I r17) (fun _=>[.agg #[.slice none 0 0,v_l13,I 0,I 40]]) (fun hg=>lst1 (gd_of (c:=!(((r15==0) != (decide (((vl12).getD s12 0)<41)))||((r16==0) != (decide (((vl12).getD s12 0)<61))))) hg (.agg #[.slice none 0 0,v_l13,I 0,I 40]))) H (fun hg=>(za4 ([]:List Yr) l13 0 40 Reads.none (Sl.nil (fun _=>none)) (Reads.sup (rdo 3) (Reads.of (k:=4) rfl roLe)) (rowSl rfl (H.get (k:=3) rfl) (roLe _ (H.get (k:=4) rfl)) hr_l13) (M.e_opt hx875z hg) _ (H.give (A:=[]) rfl)).mono fun v_ w_ ⟨y_,hr_,hv_,H_⟩=>by subst hr_; exact ⟨hv_,H.via H_⟩) ?_
  intro w876z H
  refine g_val (!(((r15==0) != (decide (((vl12).getD s12 0)<41)))||((r16==0) != (decide (((vl12).getD s12 0)<61))))) (gy_f rfl) (fun hg=>x_cmp (kd:=.i64) (a:=r17) (b:=0) (r:=r17==0) (gd_of (c:=!(((r15==0) != (decide (((vl12).getD s12 0)<41)))||((r16==0) != (decide (((vl12).getD s12 0)<61))))) hg (I r17)) rfl rfl) ?_
  refine g_val (!(((r15==0) != (decide (((vl12).getD s12 0)<41)))||((r16==0) != (decide (((vl12).getD s12 0)<61))))) (gy_f rfl) (fun hg=>x_mv (v:=I ((vl12).getD s12 0)) rfl) ?_
  refine g_val (!(((r15==0) != (decide (((vl12).getD s12 0)<41)))||((r16==0) != (decide (((vl12).getD s12 0)<61))))) (gy_f rfl) (fun hg=>x_cmp (kd:=.i64) (a:=(vl12).getD s12 0) (b:=9) (r:=decide (((vl12).getD s12 0)<9)) (gd_of (c:=!(((r15==0) != (decide (((vl12).getD s12 0)<41)))||((r16==0) != (decide (((vl12).getD s12 0)<61))))) hg (I ((vl12).getD s12 0))) rfl rfl) ?_
  refine g_val (!(((r15==0) != (decide (((vl12).getD s12 0)<41)))||((r16==0) != (decide (((vl12).getD s12 0)<61))))) (gy_f rfl) (fun hg=>x_eqb (a:=r17==0) (b:=decide (((vl12).getD s12 0)<9)) (r:=((r17==0) != (decide (((vl12).getD s12 0)<9)))) (gd_of (c:=!(((r15==0) != (decide (((vl12).getD s12 0)<41)))||((r16==0) != (decide (((vl12).getD s12 0)<61))))) hg (B (r17==0))) (gd_of (c:=!(((r15==0) != (decide (((vl12).getD s12 0)<41)))||((r16==0) != (decide (((vl12).getD s12 0)<61))))) hg (B (decide (((vl12).getD s12 0)<9)))) Tryz.underlying4 rfl) ?_
  refine s_val (x_por (b:=(((r15==0) != (decide (((vl12).getD s12 0)<41)))||((r16==0) != (decide (((vl12).getD s12 0)<61))))) (r:=((r17==0) != (decide (((vl12).getD s12 0)<9)))) rfl rfl (fun hb=>gd_of (c:=!(((r15==0) != (decide (((vl12).getD s12 0)<41)))||((r16==0) != (decide (((vl12).getD s12 0)<61))))) (by first | exact hb | (rw [hb]; rfl) | (rw [hg,hb]; rfl) | simp_all) (B ((r17==0) != (decide (((vl12).getD s12 0)<9)))))) ?_
  refine zM (B ((((r15==0) != (decide (((vl12).getD s12 0)<41)))||((r16==0) != (decide (((vl12).getD s12 0)<61))))||((r17==0) != (decide (((vl12).getD s12 0)<9))))) rfl ?_
  refine g_val (!((((r15==0) != (decide (((vl12).getD s12 0)<41)))||((r16==0) != (decide (((vl12).getD s12 0)<61))))||((r17==0) != (decide (((vl12).getD s12 0)<9))))) (gy_f rfl) (fun hg=>x_ld (p:=Pq b_42) (v:=.agg #[.slice none 0 0,v_l14,I 0,I 20]) rfl (ldb_ag (ds:=[.slice none 0 0,v_l14,I 0,I 20]) Ag28 Sz28 (H.bl 6) rfl rfl)) ?_
  obtain ⟨r18,hx877z,hM⟩:=M.e_bind hM
  refine t_gcall (!((((r15==0) != (decide (((vl12).getD s12 0)<41)))||((r16==0) != (decide (((vl12).getD s12 0)<61))))||((r17==0) != (decide (((vl12).getD s12 0)<9))))) (gy_f rfl) cf10 (I r18) (fun _=>[.agg #[.slice none 0 0,v_l14,I 0,I 20]]) (fun hg=>lst1 (gd_of (c:=!((((r15==0) != (decide (((vl12).getD s12 0)<41)))||((r16==0) != (decide (((vl12).getD s12 0)<61))))||((r17==0) != (decide (((vl12).getD s12 0)<9))))) hg (.agg #[.slice none 0 0,v_l14,I 0,I 20]))) H (fun hg=>(za4 ([]:List Yr) l14 0 20 Reads.none (Sl.nil (fun _=>none)) (Reads.of (k:=9) rfl deLe) (deSl (H.get (k:=9) rfl)) (M.e_opt hx877z hg) _ (H.give (A:=[]) rfl)).mono fun v_ w_ ⟨y_,hr_,hv_,H_⟩=>by subst hr_; exact ⟨hv_,H.via H_⟩) ?_
  intro w878z H
  refine g_val (!((((r15==0) != (decide (((vl12).getD s12 0)<41)))||((r16==0) != (decide (((vl12).getD s12 0)<61))))||((r17==0) != (decide (((vl12).getD s12 0)<9))))) (gy_f rfl) (fun hg=>x_cmp (kd:=.i64) (a:=r18) (b:=0) (r:=r18==0) (gd_of (c:=!((((r15==0) != (decide (((vl12).getD s12 0)<41)))||((r16==0) != (decide (((vl12).getD s12 0)<61))))||((r17==0) != (decide (((vl12).getD s12 0)<9))))) hg (I r18)) rfl rfl) ?_
  refine g_val (!((((r15==0) != (decide (((vl12).getD s12 0)<41)))||((r16==0) != (decide (((vl12).getD s12 0)<61))))||((r17==0) != (decide (((vl12).getD s12 0)<9))))) (gy_f rfl) (fun hg=>x_mv (v:=I ((vl12).getD s12 0)) rfl) ?_
  refine g_val (!((((r15==0) != (decide (((vl12).getD s12 0)<41)))||((r16==0) != (decide (((vl12).getD s12 0)<61))))||((r17==0) != (decide (((vl12).getD s12 0)<9))))) (gy_f rfl) (fun hg=>x_cmp (kd:=.i64) (a:=(vl12).getD s12 0) (b:=11) (r:=decide (((vl12).getD s12 0)<11)) (gd_of (c:=!((((r15==0) != (decide (((vl12).getD s12 0)<41)))||((r16==0) != (decide (((vl12).getD s12 0)<61))))||((r17==0) != (decide (((vl12).getD s12 0)<9))))) hg (I ((vl12).getD s12 0))) rfl rfl) ?_
  refine g_val (!((((r15==0) != (decide (((vl12).getD s12 0)<41)))||((r16==0) != (decide (((vl12).getD s12 0)<61))))||((r17==0) != (decide (((vl12).getD s12 0)<9))))) (gy_f rfl) (fun hg=>x_eqb (a:=r18==0) (b:=decide (((vl12).getD s12 0)<11)) (r:=((r18==0) != (decide (((vl12).getD s12 0)<11)))) (gd_of (c:=!((((r15==0) != (decide (((vl12).getD s12 0)<41)))||((r16==0) != (decide (((vl12).getD s12 0)<61))))||((r17==0) != (decide (((vl12).getD s12 0)<9))))) hg (B (r18==0))) (gd_of (c:=!((((r15==0) != (decide (((vl12).getD s12 0)<41)))||((r16==0) != (decide (((vl12).getD s12 0)<61))))||((r17==0) != (decide (((vl12).getD s12 0)<9))))) hg (B (decide (((vl12).getD s12 0)<11)))) Tryz.underlying4 rfl) ?_
  refine s_val (x_por (b:=((((r15==0) != (decide (((vl12).getD s12 0)<41)))||((r16==0) != (decide (((vl12).getD s12 0)<61))))||((r17==0) != (decide (((vl12).getD s12 0)<9))))) (r:=((r18==0) != (decide (((vl12).getD s12 0)<11)))) rfl rfl (fun hb=>gd_of (c:=!((((r15==0) != (decide (((vl12).getD s12 0)<41)))||((r16==0) != (decide (((vl12).getD s12 0)<61))))||((r17==0) != (decide (((vl12).getD s12 0)<9))))) (by first | exact hb | (rw [hb]; rfl) | (rw [hg,hb]; rfl) | simp_all) (B ((r18==0) != (decide (((vl12).getD s12 0)<11)))))) ?_
  refine s_nil ?_
  replace H:=H.pk [0,1,3,4,5,9,10,11]
  refine W.cond (((((r15==0) != (decide (((vl12).getD s12 0)<41)))||((r16==0) != (decide (((vl12).getD s12 0)<61))))||((r17==0) != (decide (((vl12).getD s12 0)<9))))||((r18==0) != (decide (((vl12).getD s12 0)<11)))) rfl (fun c879z=>?_) (fun c879z=>?_)
  ·replace hM:=M.e_t hM c879z
   refine kg 4 ?_
   replace H:=H.pk [7]
   refine W.ret ?_
   have hX880z:=M.e_inr hM hN382z
   subst hX880z
   replace hM:=hk375z
   try dsimp only at hM
   have hr_:=M.e_pure hM
   exact ⟨_,resE_tmp rfl,⟨false,hr_,rfl,(H.pk [])⟩⟩
  replace hM:=M.e_f hM c879z
  refine kg 5 ?_
  exact ⟨m379z,lt380z,s12+1,_,upds_of _ _ ⟨rfl,rfl,rfl,trivial⟩,M.e_inl hM hN382z,(H.pk [7])⟩
 replace hM:=M.e_f hM c383z
 simp only [qy1,qy2,qy3,qy4,qy5,qy6,ne_eq,qy7] at c383z
 refine W.exit ?_
 have hX881z:=M.e_inr hM hN382z
 subst hX881z
 replace hM:=hk375z
 try dsimp only at hM
 replace H:=H.pk []
 refine kg 2 ?_
 refine t_bs (α:=Int) T22 [I 2500] [(2500:Int)] H rfl (.cons rfl (Flat.rep_enc _ (2500:Int))<|.nil) rfl rfl rfl ?_
 intro v882z w883z H
 refine s_val (x_bld (ps:=[(0,I 2001),(1,I 2999),(2,I 1000),(3,v882z)]) (zs:=[I 0,I 0,I 0,.slice none 0 0]) (L':=[I 2001,I 2999,I 1000,v882z]) rfl Tryz.underlying38 Al38 rfl (Bd38 Tryz.underlying38) (.cons (cs:=[I 2001]) rfl rfl rfl rfl rfl<|.cons (cs:=[I 2999]) rfl rfl rfl rfl rfl<|.cons (cs:=[I 1000]) rfl rfl rfl rfl rfl<|.cons (cs:=[v882z]) (Sl.cells (H.os 0)) rfl rfl rfl rfl<|.nil)) ?_
 obtain ⟨Bs_63,H⟩:=H.emptyE
 obtain ⟨Bs_64,H,hs885z⟩:=H.freezeE (k:=1) rfl
 replace H:=H.nf
 have hq884z:=hs885z
 obtain ⟨Bs_65,H,le886z,le887z⟩:=H.joinE (i:=0) (j:=1) rfl rfl
 replace hq884z:=hq884z.mono le887z
 obtain ⟨rw888z,hrw_rw888z⟩:∃ r:Raw 3,r.cs=[I 2001,I 2999,I 1000,v882z]:=⟨Raw.of [I 2001,I 2999,I 1000,v882z] rfl (by simp only [List.all_cons,List.all_nil,Bool.true_and,Bool.and_true,Sl.oc hq884z]; try rfl),rfl⟩
 have hr889z:RepR (α:=Old10) Bs_65.cells [rw888z] [(⟨(2001:Int),(2999:Int),(1000:Int),([(2500:Int)])⟩:Old10)]:=.cons (by rw [hrw_rw888z]; exact ⟨_,rfl,hq884z⟩)<|.nil
 refine t_bs (α:=Raw 3) T26 [.agg #[I 2001,I 2999,I 1000,v882z]] [rw888z] H rfl (.cons (by rw [show (Flat.enc rw888z:List Value)=rw888z.cs from rfl,hrw_rw888z]; rfl) (Flat.rep_enc _ _)<|.nil) rfl rfl rfl ?_
 intro v890z w891z H
 replace H:=H.nf
 refine s_val (x_bld (ps:=[(2,I 2001),(3,I 3000),(1,v890z)]) (zs:=[.slice none 0 0,.slice none 0 0,I 0,I 0]) (L':=[.slice none 0 0,v890z,I 2001,I 3000]) rfl Tryz.underlying28 Al28 rfl (Bd28 Tryz.underlying28) (.cons (cs:=[I 2001]) rfl rfl rfl rfl rfl<|.cons (cs:=[I 3000]) rfl rfl rfl rfl rfl<|.cons (cs:=[v890z]) (Sl.cells (rowSl rfl (H.get (k:=0) rfl) (roLe _ (H.get (k:=1) rfl)) hr889z)) rfl rfl rfl rfl<|.nil)) ?_
 refine t_alloc (cs:=[.slice none 0 0,.slice none 0 0,I 0,I 0]) H Al28 rfl ?_
 intro b_67 w892z H
 refine t_sw 0 0 [.slice none 0 0,v890z,I 2001,I 3000] (.agg #[.slice none 0 0,v890z,I 2001,I 3000]) H rfl rfl Sz28 rfl rfl rfl (by simp only [List.all_cons,List.all_nil,Bool.true_and,Bool.and_true,Sl.oc (rowSl rfl (H.get (k:=1) rfl) (roLe _ (H.get (k:=2) rfl)) hr889z)]; try rfl) ?_
 intro w893z H
 refine s_nil ?_
 replace H:=H.pk [0,1,2]
 refine kg 3 ?_
 obtain ⟨r895z,hx894z,hM⟩:=M.e_bind hM
 refine s_call cf11 [.agg #[.slice none 0 0,v890z,I 2001,I 3000],I 2001,I 3000,I 1000] rfl (zbD ([]:List Yr) ([(⟨(2001:Int),(2999:Int),(1000:Int),([(2500:Int)])⟩:Old10)]) 2001 3000 2001 3000 1000 Reads.none (Sl.nil (fun _=>none)) (Reads.sup (rdo 1) (Reads.of (k:=2) rfl roLe)) (rowSl rfl (H.get (k:=1) rfl) (roLe _ (H.get (k:=2) rfl)) hr889z) hx894z _ (H.gt 3)) ?_
 rintro vq w896z ⟨r00,r01,r19,hr897z,hvq,H2_⟩
 subst hr897z
 subst vq
 try dsimp only at hM
 replace H:=H.bk H2_
 clear H2_
 refine kg 3 ?_
 refine t_alloc (cs:=[I 0,I 0]) H Al34 rfl ?_
 intro b_68 w898z H
 refine t_sw 0 0 [I r00,I r01] (.agg #[I r00,I r01]) H rfl rfl Sz34 rfl rfl rfl rfl ?_
 intro w899z H
 refine kg 5 ?_
 obtain ⟨r901z,hx900z,hM⟩:=M.e_bind hM
 refine s_call cf12 [.agg #[.slice none 0 0,v890z,I 2001,I 3000],I 2001,I 3000,I 1000,B true] rfl (zdt ([]:List Yr) ([(⟨(2001:Int),(2999:Int),(1000:Int),([(2500:Int)])⟩:Old10)]) 2001 3000 2001 3000 1000 true Reads.none (Sl.nil (fun _=>none)) (Reads.sup (rdo 2) (Reads.of (k:=3) rfl roLe)) (rowSl rfl (H.get (k:=2) rfl) (roLe _ (H.get (k:=3) rfl)) hr889z) hx900z _ (H.gt 4)) ?_
 rintro vq w902z ⟨r02,r110,u0_69,hr903z,hvq,H2_⟩
 subst hr903z
 subst vq
 try dsimp only at hM
 replace H:=H.bk H2_
 clear H2_
 refine kg 9 ?_
 obtain ⟨r905z,hx904z,hM⟩:=M.e_bind hM
 refine s_call cf13 [.agg #[.slice none 0 0,v890z,I 2001,I 3000],I 1000] rfl (zde ([]:List Yr) ([(⟨(2001:Int),(2999:Int),(1000:Int),([(2500:Int)])⟩:Old10)]) 2001 3000 1000 Reads.none (Sl.nil (fun _=>none)) (Reads.sup (rdo 3) (Reads.of (k:=4) rfl roLe)) (rowSl rfl (H.get (k:=3) rfl) (roLe _ (H.get (k:=4) rfl)) hr889z) hx904z _ (H.gt 5)) ?_
 rintro vq w906z ⟨r002,r012,r102,r112,r23,hr907z,hvq,H2_⟩
 subst hr907z
 subst vq
 try dsimp only at hM
 replace H:=H.bk H2_
 clear H2_
 refine kg 4 ?_
 refine t_alloc (cs:=[I 0,I 0]) H Al51 rfl ?_
 intro b_70 w908z H
 refine t_alloc (cs:=[I 0,I 0]) H Al51 rfl ?_
 intro b_71 w909z H
 refine t_sw 1 0 [I r002,I r012] (.agg #[I r002,I r012]) H rfl rfl Sz51 rfl rfl rfl rfl ?_
 intro w910z H
 refine t_sw 0 0 [I r102,I r112] (.agg #[I r102,I r112]) H rfl rfl Sz51 rfl rfl rfl rfl ?_
 intro w911z H
 refine kg 5 ?_
 obtain ⟨r913z,hx912z,hM⟩:=M.e_bind hM
 refine s_call cf14 [.agg #[.slice none 0 0,v890z,I 2001,I 3000],I 2001,I 3000,I 1000] rfl (zdp ([]:List Yr) ([(⟨(2001:Int),(2999:Int),(1000:Int),([(2500:Int)])⟩:Old10)]) 2001 3000 2001 3000 1000 Reads.none (Sl.nil (fun _=>none)) (Reads.sup (rdo 5) (Reads.of (k:=6) rfl roLe)) (rowSl rfl (H.get (k:=5) rfl) (roLe _ (H.get (k:=6) rfl)) hr889z) hx912z _ (H.gt 7)) ?_
 rintro vq w914z ⟨r003,r013,r111,hr915z,hvq,H2_⟩
 subst hr915z
 subst vq
 try dsimp only at hM
 replace H:=H.bk H2_
 clear H2_
 refine kg 3 ?_
 refine t_alloc (cs:=[I 0,I 0]) H Al34 rfl ?_
 intro b_72 w916z H
 refine t_sw 0 0 [I r003,I r013] (.agg #[I r003,I r013]) H rfl rfl Sz34 rfl rfl rfl rfl ?_
 intro w917z H
 refine kg 5 ?_
 refine t_sw 5 2 [I 2000] (I 2000) H rfl rfl Sz3 rfl rfl rfl rfl ?_
 intro w918z H
 refine kg 8 ?_
 refine s_val (x_pand (b:=r19==0) (r:=r110==0) rfl (fun hb=>gd_of (c:=r19==0) (by first | exact hb | (rw [hb]; rfl) | (rw [hg,hb]; rfl) | simp_all) (B (r110==0))) rfl) ?_
 refine kg 3 ?_
 refine s_val (x_pand (b:=((r19==0)&&(r110==0))) (r:=r23==0) rfl (fun hb=>gd_of (c:=((r19==0)&&(r110==0))) (by first | exact hb | (rw [hb]; rfl) | (rw [hg,hb]; rfl) | simp_all) (B (r23==0))) rfl) ?_
 refine kg 3 ?_
 refine s_val (x_pand (b:=(((r19==0)&&(r110==0))&&(r23==0))) (r:=r111==0) rfl (fun hb=>gd_of (c:=(((r19==0)&&(r110==0))&&(r23==0))) (by first | exact hb | (rw [hb]; rfl) | (rw [hg,hb]; rfl) | simp_all) (B (r111==0))) rfl) ?_
 refine kg 2 ?_
 refine g_val ((((r19==0)&&(r110==0))&&(r23==0))&&(r111==0)) (gy_t rfl) (fun hg=>x_bld (ps:=[(0,I 1),(1,I 2)]) (zs:=[I 0,I 0]) (L':=[I 1,I 2]) rfl Tryz.underlying34 Al34 rfl (Bd34 Tryz.underlying34) (.cons (cs:=[I 1]) rfl rfl rfl rfl rfl<|.cons (cs:=[I 2]) rfl rfl rfl rfl rfl<|.nil)) ?_
 refine g_val ((((r19==0)&&(r110==0))&&(r23==0))&&(r111==0)) (gy_t rfl) (fun hg=>x_eqS (eqT34 (⟨(r00:Int),(r01:Int)⟩:Span) (⟨(1:Int),(2:Int)⟩:Span) _) gdT34 (gd_of (c:=((((r19==0)&&(r110==0))&&(r23==0))&&(r111==0))) hg (.agg #[I r00,I r01])) (gd_of (c:=((((r19==0)&&(r110==0))&&(r23==0))&&(r111==0))) hg (.agg #[I 1,I 2]))) ?_
 refine s_val (x_pand (b:=((((r19==0)&&(r110==0))&&(r23==0))&&(r111==0))) (r:=decide ((⟨(r00:Int),(r01:Int)⟩:Span)=(⟨(1:Int),(2:Int)⟩:Span))) rfl (fun hb=>gd_of (c:=((((r19==0)&&(r110==0))&&(r23==0))&&(r111==0))) (by first | exact hb | (rw [hb]; rfl) | (rw [hg,hb]; rfl) | simp_all) (B (decide ((⟨(r00:Int),(r01:Int)⟩:Span)=(⟨(1:Int),(2:Int)⟩:Span))))) rfl) ?_
 refine kg 4 ?_
 refine s_val (x_pand (b:=(((((r19==0)&&(r110==0))&&(r23==0))&&(r111==0))&&(decide ((⟨(r00:Int),(r01:Int)⟩:Span)=(⟨(1:Int),(2:Int)⟩:Span))))) (r:=(r02.length:Int)==1000) rfl (fun hb=>gd_of (c:=(((((r19==0)&&(r110==0))&&(r23==0))&&(r111==0))&&(decide ((⟨(r00:Int),(r01:Int)⟩:Span)=(⟨(1:Int),(2:Int)⟩:Span))))) (by first | exact hb | (rw [hb]; rfl) | (rw [hg,hb]; rfl) | simp_all) (B ((r02.length:Int)==1000))) rfl) ?_
 refine kg 2 ?_
 refine g_val ((((((r19==0)&&(r110==0))&&(r23==0))&&(r111==0))&&(decide ((⟨(r00:Int),(r01:Int)⟩:Span)=(⟨(1:Int),(2:Int)⟩:Span))))&&((r02.length:Int)==1000)) (gy_t rfl) (fun hg=>x_bld (ps:=[(0,I 1),(1,I 1000)]) (zs:=[I 0,I 0]) (L':=[I 1,I 1000]) rfl Tryz.underlying51 Al51 rfl (Bd51 Tryz.underlying51) (.cons (cs:=[I 1]) rfl rfl rfl rfl rfl<|.cons (cs:=[I 1000]) rfl rfl rfl rfl rfl<|.nil)) ?_
 refine g_val ((((((r19==0)&&(r110==0))&&(r23==0))&&(r111==0))&&(decide ((⟨(r00:Int),(r01:Int)⟩:Span)=(⟨(1:Int),(2:Int)⟩:Span))))&&((r02.length:Int)==1000)) (gy_t rfl) (fun hg=>x_eqS (eqT51 (⟨(r002:Int),(r012:Int)⟩:Rto) (⟨(1:Int),(1000:Int)⟩:Rto) _) gdT51 (gd_of (c:=((((((r19==0)&&(r110==0))&&(r23==0))&&(r111==0))&&(decide ((⟨(r00:Int),(r01:Int)⟩:Span)=(⟨(1:Int),(2:Int)⟩:Span))))&&((r02.length:Int)==1000))) hg (.agg #[I r002,I r012])) (gd_of (c:=((((((r19==0)&&(r110==0))&&(r23==0))&&(r111==0))&&(decide ((⟨(r00:Int),(r01:Int)⟩:Span)=(⟨(1:Int),(2:Int)⟩:Span))))&&((r02.length:Int)==1000))) hg (.agg #[I 1,I 1000]))) ?_
 refine s_val (x_pand (b:=((((((r19==0)&&(r110==0))&&(r23==0))&&(r111==0))&&(decide ((⟨(r00:Int),(r01:Int)⟩:Span)=(⟨(1:Int),(2:Int)⟩:Span))))&&((r02.length:Int)==1000))) (r:=decide ((⟨(r002:Int),(r012:Int)⟩:Rto)=(⟨(1:Int),(1000:Int)⟩:Rto))) rfl (fun hb=>gd_of (c:=((((((r19==0)&&(r110==0))&&(r23==0))&&(r111==0))&&(decide ((⟨(r00:Int),(r01:Int)⟩:Span)=(⟨(1:Int),(2:Int)⟩:Span))))&&((r02.length:Int)==1000))) (by first | exact hb | (rw [hb]; rfl) | (rw [hg,hb]; rfl) | simp_all) (B (decide ((⟨(r002:Int),(r012:Int)⟩:Rto)=(⟨(1:Int),(1000:Int)⟩:Rto))))) rfl) ?_
 refine kg 2 ?_
 refine g_val (((((((r19==0)&&(r110==0))&&(r23==0))&&(r111==0))&&(decide ((⟨(r00:Int),(r01:Int)⟩:Span)=(⟨(1:Int),(2:Int)⟩:Span))))&&((r02.length:Int)==1000))&&(decide ((⟨(r002:Int),(r012:Int)⟩:Rto)=(⟨(1:Int),(1000:Int)⟩:Rto)))) (gy_t rfl) (fun hg=>x_bld (ps:=[(0,I 1),(1,I 500)]) (zs:=[I 0,I 0]) (L':=[I 1,I 500]) rfl Tryz.underlying51 Al51 rfl (Bd51 Tryz.underlying51) (.cons (cs:=[I 1]) rfl rfl rfl rfl rfl<|.cons (cs:=[I 500]) rfl rfl rfl rfl rfl<|.nil)) ?_
 refine g_val (((((((r19==0)&&(r110==0))&&(r23==0))&&(r111==0))&&(decide ((⟨(r00:Int),(r01:Int)⟩:Span)=(⟨(1:Int),(2:Int)⟩:Span))))&&((r02.length:Int)==1000))&&(decide ((⟨(r002:Int),(r012:Int)⟩:Rto)=(⟨(1:Int),(1000:Int)⟩:Rto)))) (gy_t rfl) (fun hg=>x_eqS (eqT51 (⟨(r102:Int),(r112:Int)⟩:Rto) (⟨(1:Int),(500:Int)⟩:Rto) _) gdT51 (gd_of (c:=(((((((r19==0)&&(r110==0))&&(r23==0))&&(r111==0))&&(decide ((⟨(r00:Int),(r01:Int)⟩:Span)=(⟨(1:Int),(2:Int)⟩:Span))))&&((r02.length:Int)==1000))&&(decide ((⟨(r002:Int),(r012:Int)⟩:Rto)=(⟨(1:Int),(1000:Int)⟩:Rto))))) hg (.agg #[I r102,I r112])) (gd_of (c:=(((((((r19==0)&&(r110==0))&&(r23==0))&&(r111==0))&&(decide ((⟨(r00:Int),(r01:Int)⟩:Span)=(⟨(1:Int),(2:Int)⟩:Span))))&&((r02.length:Int)==1000))&&(decide ((⟨(r002:Int),(r012:Int)⟩:Rto)=(⟨(1:Int),(1000:Int)⟩:Rto))))) hg (.agg #[I 1,I 500]))) ?_
 refine s_val (x_pand (b:=(((((((r19==0)&&(r110==0))&&(r23==0))&&(r111==0))&&(decide ((⟨(r00:Int),(r01:Int)⟩:Span)=(⟨(1:Int),(2:Int)⟩:Span))))&&((r02.length:Int)==1000))&&(decide ((⟨(r002:Int),(r012:Int)⟩:Rto)=(⟨(1:Int),(1000:Int)⟩:Rto))))) (r:=decide ((⟨(r102:Int),(r112:Int)⟩:Rto)=(⟨(1:Int),(500:Int)⟩:Rto))) rfl (fun hb=>gd_of (c:=(((((((r19==0)&&(r110==0))&&(r23==0))&&(r111==0))&&(decide ((⟨(r00:Int),(r01:Int)⟩:Span)=(⟨(1:Int),(2:Int)⟩:Span))))&&((r02.length:Int)==1000))&&(decide ((⟨(r002:Int),(r012:Int)⟩:Rto)=(⟨(1:Int),(1000:Int)⟩:Rto))))) (by first | exact hb | (rw [hb]; rfl) | (rw [hg,hb]; rfl) | simp_all) (B (decide ((⟨(r102:Int),(r112:Int)⟩:Rto)=(⟨(1:Int),(500:Int)⟩:Rto))))) rfl) ?_
 refine kg 2 ?_
 refine g_val ((((((((r19==0)&&(r110==0))&&(r23==0))&&(r111==0))&&(decide ((⟨(r00:Int),(r01:Int)⟩:Span)=(⟨(1:Int),(2:Int)⟩:Span))))&&((r02.length:Int)==1000))&&(decide ((⟨(r002:Int),(r012:Int)⟩:Rto)=(⟨(1:Int),(1000:Int)⟩:Rto))))&&(decide ((⟨(r102:Int),(r112:Int)⟩:Rto)=(⟨(1:Int),(500:Int)⟩:Rto)))) (gy_t rfl) (fun hg=>x_bld (ps:=[(1,I 999)]) (zs:=[I 0,I 0]) (L':=[I 0,I 999]) rfl Tryz.underlying34 Al34 rfl (Bd34 Tryz.underlying34) (.cons (cs:=[I 999]) rfl rfl rfl rfl rfl<|.nil)) ?_
 refine g_val ((((((((r19==0)&&(r110==0))&&(r23==0))&&(r111==0))&&(decide ((⟨(r00:Int),(r01:Int)⟩:Span)=(⟨(1:Int),(2:Int)⟩:Span))))&&((r02.length:Int)==1000))&&(decide ((⟨(r002:Int),(r012:Int)⟩:Rto)=(⟨(1:Int),(1000:Int)⟩:Rto))))&&(decide ((⟨(r102:Int),(r112:Int)⟩:Rto)=(⟨(1:Int),(500:Int)⟩:Rto)))) (gy_t rfl) (fun hg=>x_eqS (eqT34 (⟨(r003:Int),(r013:Int)⟩:Span) (⟨(0:Int),(999:Int)⟩:Span) _) gdT34 (gd_of (c:=((((((((r19==0)&&(r110==0))&&(r23==0))&&(r111==0))&&(decide ((⟨(r00:Int),(r01:Int)⟩:Span)=(⟨(1:Int),(2:Int)⟩:Span))))&&((r02.length:Int)==1000))&&(decide ((⟨(r002:Int),(r012:Int)⟩:Rto)=(⟨(1:Int),(1000:Int)⟩:Rto))))&&(decide ((⟨(r102:Int),(r112:Int)⟩:Rto)=(⟨(1:Int),(500:Int)⟩:Rto))))) hg (.agg #[I r003,I r013])) (gd_of (c:=((((((((r19==0)&&(r110==0))&&(r23==0))&&(r111==0))&&(decide ((⟨(r00:Int),(r01:Int)⟩:Span)=(⟨(1:Int),(2:Int)⟩:Span))))&&((r02.length:Int)==1000))&&(decide ((⟨(r002:Int),(r012:Int)⟩:Rto)=(⟨(1:Int),(1000:Int)⟩:Rto))))&&(decide ((⟨(r102:Int),(r112:Int)⟩:Rto)=(⟨(1:Int),(500:Int)⟩:Rto))))) hg (.agg #[I 0,I 999]))) ?_
 refine s_val (x_pand (b:=((((((((r19==0)&&(r110==0))&&(r23==0))&&(r111==0))&&(decide ((⟨(r00:Int),(r01:Int)⟩:Span)=(⟨(1:Int),(2:Int)⟩:Span))))&&((r02.length:Int)==1000))&&(decide ((⟨(r002:Int),(r012:Int)⟩:Rto)=(⟨(1:Int),(1000:Int)⟩:Rto))))&&(decide ((⟨(r102:Int),(r112:Int)⟩:Rto)=(⟨(1:Int),(500:Int)⟩:Rto))))) (r:=decide ((⟨(r003:Int),(r013:Int)⟩:Span)=(⟨(0:Int),(999:Int)⟩:Span))) rfl (fun hb=>gd_of (c:=((((((((r19==0)&&(r110==0))&&(r23==0))&&(r111==0))&&(decide ((⟨(r00:Int),(r01:Int)⟩:Span)=(⟨(1:Int),(2:Int)⟩:Span))))&&((r02.length:Int)==1000))&&(decide ((⟨(r002:Int),(r012:Int)⟩:Rto)=(⟨(1:Int),(1000:Int)⟩:Rto))))&&(decide ((⟨(r102:Int),(r112:Int)⟩:Rto)=(⟨(1:Int),(500:Int)⟩:Rto))))) (by first | exact hb | (rw [hb]; rfl) | (rw [hg,hb]; rfl) | simp_all) (B (decide ((⟨(r003:Int),(r013:Int)⟩:Span)=(⟨(0:Int),(999:Int)⟩:Span))))) rfl) ?_
 refine kg 2 ?_
 obtain ⟨r20,hx920z,hM⟩:=M.e_bind hM
 refine t_gcall (((((((((r19==0)&&(r110==0))&&(r23==0))&&(r111==0))&&(decide ((⟨(r00:Int),(r01:Int)⟩:Span)=(⟨(1:Int),(2:Int)⟩:Span))))&&((r02.length:Int)==1000))&&(decide ((⟨(r002:Int),(r012:Int)⟩:Rto)=(⟨(1:Int),(1000:Int)⟩:Rto))))&&(decide ((⟨(r102:Int),(r112:Int)⟩:Rto)=(⟨(1:Int),(500:Int)⟩:Rto))))&&(decide ((⟨(r003:Int),(r013:Int)⟩:Span)=(⟨(0:Int),(999:Int)⟩:Span)))) (gy_t rfl) cf10 (I r20) (fun _=>[.agg #[.slice none 0 0,v890z,I 2000,I 3000]]) (fun hg=>lst1 (gd_of (c:=(((((((((r19==0)&&(r110==0))&&(r23==0))&&(r111==0))&&(decide ((⟨(r00:Int),(r01:Int)⟩:Span)=(⟨(1:Int),(2:Int)⟩:Span))))&&((r02.length:Int)==1000))&&(decide ((⟨(r002:Int),(r012:Int)⟩:Rto)=(⟨(1:Int),(1000:Int)⟩:Rto))))&&(decide ((⟨(r102:Int),(r112:Int)⟩:Rto)=(⟨(1:Int),(500:Int)⟩:Rto))))&&(decide ((⟨(r003:Int),(r013:Int)⟩:Span)=(⟨(0:Int),(999:Int)⟩:Span))))) hg (.agg #[.slice none 0 0,v890z,I 2000,I 3000]))) H (fun hg=>(za4 ([]:List Yr) ([(⟨(2001:Int),(2999:Int),(1000:Int),([(2500:Int)])⟩:Old10)]) 2000 3000 Reads.none (Sl.nil (fun _=>none)) (Reads.sup (rdo 6) (Reads.of (k:=7) rfl roLe)) (rowSl rfl (H.get (k:=6) rfl) (roLe _ (H.get (k:=7) rfl)) hr889z) (M.e_opt hx920z hg) _ (H.give (A:=[]) rfl)).mono fun v_ w_ ⟨y_,hr_,hv_,H_⟩=>by subst hr_; exact ⟨hv_,H.via H_⟩) ?_
 intro w921z H
 refine kg 1 ?_
 refine s_val (x_pand (b:=(((((((((r19==0)&&(r110==0))&&(r23==0))&&(r111==0))&&(decide ((⟨(r00:Int),(r01:Int)⟩:Span)=(⟨(1:Int),(2:Int)⟩:Span))))&&((r02.length:Int)==1000))&&(decide ((⟨(r002:Int),(r012:Int)⟩:Rto)=(⟨(1:Int),(1000:Int)⟩:Rto))))&&(decide ((⟨(r102:Int),(r112:Int)⟩:Rto)=(⟨(1:Int),(500:Int)⟩:Rto))))&&(decide ((⟨(r003:Int),(r013:Int)⟩:Span)=(⟨(0:Int),(999:Int)⟩:Span))))) (r:=r20==110) rfl (fun hb=>gd_of (c:=(((((((((r19==0)&&(r110==0))&&(r23==0))&&(r111==0))&&(decide ((⟨(r00:Int),(r01:Int)⟩:Span)=(⟨(1:Int),(2:Int)⟩:Span))))&&((r02.length:Int)==1000))&&(decide ((⟨(r002:Int),(r012:Int)⟩:Rto)=(⟨(1:Int),(1000:Int)⟩:Rto))))&&(decide ((⟨(r102:Int),(r112:Int)⟩:Rto)=(⟨(1:Int),(500:Int)⟩:Rto))))&&(decide ((⟨(r003:Int),(r013:Int)⟩:Span)=(⟨(0:Int),(999:Int)⟩:Span))))) (by first | exact hb | (rw [hb]; rfl) | (rw [hg,hb]; rfl) | simp_all) (B (r20==110))) rfl) ?_
 refine kg 1 ?_
 obtain ⟨r21,hx922z,hM⟩:=M.e_bind hM
 refine t_gcall ((((((((((r19==0)&&(r110==0))&&(r23==0))&&(r111==0))&&(decide ((⟨(r00:Int),(r01:Int)⟩:Span)=(⟨(1:Int),(2:Int)⟩:Span))))&&((r02.length:Int)==1000))&&(decide ((⟨(r002:Int),(r012:Int)⟩:Rto)=(⟨(1:Int),(1000:Int)⟩:Rto))))&&(decide ((⟨(r102:Int),(r112:Int)⟩:Rto)=(⟨(1:Int),(500:Int)⟩:Rto))))&&(decide ((⟨(r003:Int),(r013:Int)⟩:Span)=(⟨(0:Int),(999:Int)⟩:Span))))&&(r20==110)) (gy_t rfl) cf6 (B r21) (fun _=>[.slice none 0 0,I 1,I 0,.slice none 0 0,I 0,.slice none 0 0]) (fun _=>rfl) H (fun hg=>(zcZ ([]:List Pk) 1 0 ([]:List Int) 0 ([]:List Int) Reads.none (Sl.nil (fun _=>none)) Reads.none (Sl.nil (fun _=>none)) Reads.none (Sl.nil (fun _=>none)) (M.e_opt hx922z hg) _ (H.give (A:=[]) rfl)).mono fun v_ w_ ⟨y_,hr_,hv_,H_⟩=>by subst hr_; exact ⟨hv_,H.via H_⟩) ?_
 intro w923z H
 refine s_val (x_pand (b:=((((((((((r19==0)&&(r110==0))&&(r23==0))&&(r111==0))&&(decide ((⟨(r00:Int),(r01:Int)⟩:Span)=(⟨(1:Int),(2:Int)⟩:Span))))&&((r02.length:Int)==1000))&&(decide ((⟨(r002:Int),(r012:Int)⟩:Rto)=(⟨(1:Int),(1000:Int)⟩:Rto))))&&(decide ((⟨(r102:Int),(r112:Int)⟩:Rto)=(⟨(1:Int),(500:Int)⟩:Rto))))&&(decide ((⟨(r003:Int),(r013:Int)⟩:Span)=(⟨(0:Int),(999:Int)⟩:Span))))&&(r20==110))) (r:=r21) rfl (fun hb=>gd_of (c:=((((((((((r19==0)&&(r110==0))&&(r23==0))&&(r111==0))&&(decide ((⟨(r00:Int),(r01:Int)⟩:Span)=(⟨(1:Int),(2:Int)⟩:Span))))&&((r02.length:Int)==1000))&&(decide ((⟨(r002:Int),(r012:Int)⟩:Rto)=(⟨(1:Int),(1000:Int)⟩:Rto))))&&(decide ((⟨(r102:Int),(r112:Int)⟩:Rto)=(⟨(1:Int),(500:Int)⟩:Rto))))&&(decide ((⟨(r003:Int),(r013:Int)⟩:Span)=(⟨(0:Int),(999:Int)⟩:Span))))&&(r20==110))) (by first | exact hb | (rw [hb]; rfl) | (rw [hg,hb]; rfl) | simp_all) (B r21)) rfl) ?_
 refine kg 1 ?_
 refine g_val (((((((((((r19==0)&&(r110==0))&&(r23==0))&&(r111==0))&&(decide ((⟨(r00:Int),(r01:Int)⟩:Span)=(⟨(1:Int),(2:Int)⟩:Span))))&&((r02.length:Int)==1000))&&(decide ((⟨(r002:Int),(r012:Int)⟩:Rto)=(⟨(1:Int),(1000:Int)⟩:Rto))))&&(decide ((⟨(r102:Int),(r112:Int)⟩:Rto)=(⟨(1:Int),(500:Int)⟩:Rto))))&&(decide ((⟨(r003:Int),(r013:Int)⟩:Span)=(⟨(0:Int),(999:Int)⟩:Span))))&&(r20==110))&&r21) (gy_t rfl) (fun hg=>x_bld (ps:=[]) (zs:=[.slice none 0 0,.slice none 0 0,I 0,I 0]) (L':=[.slice none 0 0,.slice none 0 0,I 0,I 0]) rfl Tryz.underlying28 Al28 rfl (Bd28 Tryz.underlying28) (.nil)) ?_
 obtain ⟨r24,hx924z,hM⟩:=M.e_bind hM
 refine t_gcall (((((((((((r19==0)&&(r110==0))&&(r23==0))&&(r111==0))&&(decide ((⟨(r00:Int),(r01:Int)⟩:Span)=(⟨(1:Int),(2:Int)⟩:Span))))&&((r02.length:Int)==1000))&&(decide ((⟨(r002:Int),(r012:Int)⟩:Rto)=(⟨(1:Int),(1000:Int)⟩:Rto))))&&(decide ((⟨(r102:Int),(r112:Int)⟩:Rto)=(⟨(1:Int),(500:Int)⟩:Rto))))&&(decide ((⟨(r003:Int),(r013:Int)⟩:Span)=(⟨(0:Int),(999:Int)⟩:Span))))&&(r20==110))&&r21) (gy_t rfl) cf7 (B r24) (fun _=>[.agg #[.slice none 0 0,.slice none 0 0,I 0,I 0],.slice none 0 0,I 0]) (fun hg=>lst3 (gd_of (c:=(((((((((((r19==0)&&(r110==0))&&(r23==0))&&(r111==0))&&(decide ((⟨(r00:Int),(r01:Int)⟩:Span)=(⟨(1:Int),(2:Int)⟩:Span))))&&((r02.length:Int)==1000))&&(decide ((⟨(r002:Int),(r012:Int)⟩:Rto)=(⟨(1:Int),(1000:Int)⟩:Rto))))&&(decide ((⟨(r102:Int),(r112:Int)⟩:Rto)=(⟨(1:Int),(500:Int)⟩:Rto))))&&(decide ((⟨(r003:Int),(r013:Int)⟩:Span)=(⟨(0:Int),(999:Int)⟩:Span))))&&(r20==110))&&r21)) hg (.agg #[.slice none 0 0,.slice none 0 0,I 0,I 0])) rfl rfl) H (fun hg=>(zbd ([]:List Yr) ([]:List Old10) 0 0 ([]:List Int) 0 Reads.none (Sl.nil (fun _=>none)) Reads.none (Sl.nil (fun _=>none)) Reads.none (Sl.nil (fun _=>none)) (M.e_opt hx924z hg) _ (H.give (A:=[]) rfl)).mono fun v_ w_ ⟨y_,hr_,hv_,H_⟩=>by subst hr_; exact ⟨hv_,H.via H_⟩) ?_
 intro w925z H
 refine s_val (x_pand (b:=(((((((((((r19==0)&&(r110==0))&&(r23==0))&&(r111==0))&&(decide ((⟨(r00:Int),(r01:Int)⟩:Span)=(⟨(1:Int),(2:Int)⟩:Span))))&&((r02.length:Int)==1000))&&(decide ((⟨(r002:Int),(r012:Int)⟩:Rto)=(⟨(1:Int),(1000:Int)⟩:Rto))))&&(decide ((⟨(r102:Int),(r112:Int)⟩:Rto)=(⟨(1:Int),(500:Int)⟩:Rto))))&&(decide ((⟨(r003:Int),(r013:Int)⟩:Span)=(⟨(0:Int),(999:Int)⟩:Span))))&&(r20==110))&&r21)) (r:=r24) rfl (fun hb=>gd_of (c:=(((((((((((r19==0)&&(r110==0))&&(r23==0))&&(r111==0))&&(decide ((⟨(r00:Int),(r01:Int)⟩:Span)=(⟨(1:Int),(2:Int)⟩:Span))))&&((r02.length:Int)==1000))&&(decide ((⟨(r002:Int),(r012:Int)⟩:Rto)=(⟨(1:Int),(1000:Int)⟩:Rto))))&&(decide ((⟨(r102:Int),(r112:Int)⟩:Rto)=(⟨(1:Int),(500:Int)⟩:Rto))))&&(decide ((⟨(r003:Int),(r013:Int)⟩:Span)=(⟨(0:Int),(999:Int)⟩:Span))))&&(r20==110))&&r21)) (by first | exact hb | (rw [hb]; rfl) | (rw [hg,hb]; rfl) | simp_all) (B r24)) rfl) ?_
 refine kg 1 ?_
 refine g_val ((((((((((((r19==0)&&(r110==0))&&(r23==0))&&(r111==0))&&(decide ((⟨(r00:Int),(r01:Int)⟩:Span)=(⟨(1:Int),(2:Int)⟩:Span))))&&((r02.length:Int)==1000))&&(decide ((⟨(r002:Int),(r012:Int)⟩:Rto)=(⟨(1:Int),(1000:Int)⟩:Rto))))&&(decide ((⟨(r102:Int),(r112:Int)⟩:Rto)=(⟨(1:Int),(500:Int)⟩:Rto))))&&(decide ((⟨(r003:Int),(r013:Int)⟩:Span)=(⟨(0:Int),(999:Int)⟩:Span))))&&(r20==110))&&r21)&&r24) (gy_t rfl) (fun hg=>x_bld (ps:=[]) (zs:=[.slice none 0 0,.slice none 0 0,I 0,I 0]) (L':=[.slice none 0 0,.slice none 0 0,I 0,I 0]) rfl Tryz.underlying28 Al28 rfl (Bd28 Tryz.underlying28) (.nil)) ?_
 obtain ⟨r25,hx926z,hM⟩:=M.e_bind hM
 refine t_gcall ((((((((((((r19==0)&&(r110==0))&&(r23==0))&&(r111==0))&&(decide ((⟨(r00:Int),(r01:Int)⟩:Span)=(⟨(1:Int),(2:Int)⟩:Span))))&&((r02.length:Int)==1000))&&(decide ((⟨(r002:Int),(r012:Int)⟩:Rto)=(⟨(1:Int),(1000:Int)⟩:Rto))))&&(decide ((⟨(r102:Int),(r112:Int)⟩:Rto)=(⟨(1:Int),(500:Int)⟩:Rto))))&&(decide ((⟨(r003:Int),(r013:Int)⟩:Span)=(⟨(0:Int),(999:Int)⟩:Span))))&&(r20==110))&&r21)&&r24) (gy_t rfl) cf8 (B r25) (fun _=>[.agg #[.slice none 0 0,.slice none 0 0,I 0,I 0],I 0,I 0,I 0,I 0,B true]) (fun hg=>lst6 (gd_of (c:=((((((((((((r19==0)&&(r110==0))&&(r23==0))&&(r111==0))&&(decide ((⟨(r00:Int),(r01:Int)⟩:Span)=(⟨(1:Int),(2:Int)⟩:Span))))&&((r02.length:Int)==1000))&&(decide ((⟨(r002:Int),(r012:Int)⟩:Rto)=(⟨(1:Int),(1000:Int)⟩:Rto))))&&(decide ((⟨(r102:Int),(r112:Int)⟩:Rto)=(⟨(1:Int),(500:Int)⟩:Rto))))&&(decide ((⟨(r003:Int),(r013:Int)⟩:Span)=(⟨(0:Int),(999:Int)⟩:Span))))&&(r20==110))&&r21)&&r24)) hg (.agg #[.slice none 0 0,.slice none 0 0,I 0,I 0])) rfl rfl rfl rfl rfl) H (fun hg=>(za2 ([]:List Yr) ([]:List Old10) 0 0 0 0 0 0 true Reads.none (Sl.nil (fun _=>none)) Reads.none (Sl.nil (fun _=>none)) (M.e_opt hx926z hg) _ (H.give (A:=[]) rfl)).mono fun v_ w_ ⟨y_,hr_,hv_,H_⟩=>by subst hr_; exact ⟨hv_,H.via H_⟩) ?_
 intro w927z H
 refine s_val (x_pand (b:=((((((((((((r19==0)&&(r110==0))&&(r23==0))&&(r111==0))&&(decide ((⟨(r00:Int),(r01:Int)⟩:Span)=(⟨(1:Int),(2:Int)⟩:Span))))&&((r02.length:Int)==1000))&&(decide ((⟨(r002:Int),(r012:Int)⟩:Rto)=(⟨(1:Int),(1000:Int)⟩:Rto))))&&(decide ((⟨(r102:Int),(r112:Int)⟩:Rto)=(⟨(1:Int),(500:Int)⟩:Rto))))&&(decide ((⟨(r003:Int),(r013:Int)⟩:Span)=(⟨(0:Int),(999:Int)⟩:Span))))&&(r20==110))&&r21)&&r24)) (r:=r25) rfl (fun hb=>gd_of (c:=((((((((((((r19==0)&&(r110==0))&&(r23==0))&&(r111==0))&&(decide ((⟨(r00:Int),(r01:Int)⟩:Span)=(⟨(1:Int),(2:Int)⟩:Span))))&&((r02.length:Int)==1000))&&(decide ((⟨(r002:Int),(r012:Int)⟩:Rto)=(⟨(1:Int),(1000:Int)⟩:Rto))))&&(decide ((⟨(r102:Int),(r112:Int)⟩:Rto)=(⟨(1:Int),(500:Int)⟩:Rto))))&&(decide ((⟨(r003:Int),(r013:Int)⟩:Span)=(⟨(0:Int),(999:Int)⟩:Span))))&&(r20==110))&&r21)&&r24)) (by first | exact hb | (rw [hb]; rfl) | (rw [hg,hb]; rfl) | simp_all) (B r25)) rfl) ?_
 refine kg 1 ?_
 obtain ⟨r26,hx928z,hM⟩:=M.e_bind hM
 refine t_gcall (((((((((((((r19==0)&&(r110==0))&&(r23==0))&&(r111==0))&&(decide ((⟨(r00:Int),(r01:Int)⟩:Span)=(⟨(1:Int),(2:Int)⟩:Span))))&&((r02.length:Int)==1000))&&(decide ((⟨(r002:Int),(r012:Int)⟩:Rto)=(⟨(1:Int),(1000:Int)⟩:Rto))))&&(decide ((⟨(r102:Int),(r112:Int)⟩:Rto)=(⟨(1:Int),(500:Int)⟩:Rto))))&&(decide ((⟨(r003:Int),(r013:Int)⟩:Span)=(⟨(0:Int),(999:Int)⟩:Span))))&&(r20==110))&&r21)&&r24)&&r25) (gy_t rfl) cf15 (B r26) (fun _=>[]) (fun _=>rfl) H (fun hg=>(zar (M.e_opt hx928z hg) _ (H.give (A:=[]) rfl)).mono fun v_ w_ ⟨y_,hr_,hv_,H_⟩=>by subst hr_; exact ⟨hv_,H.via H_⟩) ?_
 intro w929z H
 refine s_val (x_pand (b:=(((((((((((((r19==0)&&(r110==0))&&(r23==0))&&(r111==0))&&(decide ((⟨(r00:Int),(r01:Int)⟩:Span)=(⟨(1:Int),(2:Int)⟩:Span))))&&((r02.length:Int)==1000))&&(decide ((⟨(r002:Int),(r012:Int)⟩:Rto)=(⟨(1:Int),(1000:Int)⟩:Rto))))&&(decide ((⟨(r102:Int),(r112:Int)⟩:Rto)=(⟨(1:Int),(500:Int)⟩:Rto))))&&(decide ((⟨(r003:Int),(r013:Int)⟩:Span)=(⟨(0:Int),(999:Int)⟩:Span))))&&(r20==110))&&r21)&&r24)&&r25)) (r:=r26) rfl (fun hb=>gd_of (c:=(((((((((((((r19==0)&&(r110==0))&&(r23==0))&&(r111==0))&&(decide ((⟨(r00:Int),(r01:Int)⟩:Span)=(⟨(1:Int),(2:Int)⟩:Span))))&&((r02.length:Int)==1000))&&(decide ((⟨(r002:Int),(r012:Int)⟩:Rto)=(⟨(1:Int),(1000:Int)⟩:Rto))))&&(decide ((⟨(r102:Int),(r112:Int)⟩:Rto)=(⟨(1:Int),(500:Int)⟩:Rto))))&&(decide ((⟨(r003:Int),(r013:Int)⟩:Span)=(⟨(0:Int),(999:Int)⟩:Span))))&&(r20==110))&&r21)&&r24)&&r25)) (by first | exact hb | (rw [hb]; rfl) | (rw [hg,hb]; rfl) | simp_all) (B r26)) rfl) ?_
 refine kg 2 ?_
 replace H:=H.pk []
 refine W.ret ?_
 have hr_:=M.e_pure hM
 exact ⟨_,resE_tmp rfl,⟨((((((((((((((r19==0)&&(r110==0))&&(r23==0))&&(r111==0))&&(decide ((⟨(r00:Int),(r01:Int)⟩:Span)=(⟨(1:Int),(2:Int)⟩:Span))))&&((r02.length:Int)==1000))&&(decide ((⟨(r002:Int),(r012:Int)⟩:Rto)=(⟨(1:Int),(1000:Int)⟩:Rto))))&&(decide ((⟨(r102:Int),(r112:Int)⟩:Rto)=(⟨(1:Int),(500:Int)⟩:Rto))))&&(decide ((⟨(r003:Int),(r013:Int)⟩:Span)=(⟨(0:Int),(999:Int)⟩:Span))))&&(r20==110))&&r21)&&r24)&&r25)&&r26),hr_,rfl,H⟩⟩

end Go.Proofs.YtejefipopolccaaGreat
end
namespace Go.Nm
theorem M.o_opt {α:Type} {b:Bool} {m:M α} {d:α} {Q:α->Prop} (h:b=true->m.Out Q) (h':b=false->Q d):(M.opt b m d).Out Q:=by
  cases b with
  | true=>exact h rfl
  | false=>exact M.o_pure (h' rfl)
end Go.Nm
namespace Go.Proofs.YtejefipopolccaaGreat
open Go Go.Nm
theorem o_optT {c:Bool} {m:M Bool} (h:m.Ends true):(M.opt c m false).Out (fun z=>z=c):=M.o_opt (fun e=>⟨true,h,e.symm⟩) (fun e=>e.symm)
theorem j4_out (n:Nat) (l:List Pk) (s s2:Int) (l2:List Int) (s3:Int) (l3:List Int) (s4 s5:Int) (l4:List Yr) (l5:List Old10) (l6:List Int) (s6 s7 s8 s9 s10:Int) {Q:Nat ⊕ (Unit ⊕ Unit)->Prop} (hQ:Q (.inl (n+1))):(zaa n l s s2 l2 s3 l3 s4 s5 l4 l5 l6 s6 s7 s8 s9 s10).Out Q:=by
  unfold zaa
  refine M.o_bind (o_optT (zc5 ..)) ?_
  rintro _ rfl
  refine M.o_bind (o_optT (zbe ..)) ?_
  rintro _ rfl
  refine M.o_grd (by rw [gA2 (show (0:Int)<=(n:Int) by omega) (show (0:Int)<2 by omega),Bool.or_true]) (M.o_bind (o_optT (zaU ..)) ?_)
  rintro _ rfl
  refine M.o_f ?_ (M.o_pure hQ)
  generalize decide ((n:Int)<11)=b1
  generalize decide (10<(n:Int))=b2
  generalize decide ((n:Int)<23)=b3
  generalize decide ((n:Int)<20)=b4
  generalize decide (22<(n:Int))=b5
  cases b1 <;> cases b2 <;> cases b3 <;> cases b4 <;> cases b5 <;> rfl
theorem b5_out (s:Nat):(M.iter (zb6 s) 0).Out (fun r=>r = .inr ()):=by
  refine M.o_for 27 (fun i k=>k=i) ?_ ?_ rfl
  · rintro _ i hi rfl
    unfold zb6
    refine M.o_t (decide_eq_true (by omega)) (M.o_bindE (by unfold zaF; exact M.i_pure) (M.o_bindE (by unfold zdq; exact M.i_pure) ?_))
    dsimp only
    refine M.o_grd (by decide) (M.o_grd (by decide) (M.o_grd (by decide) (M.o_grd (by decide) (M.o_grd (by decide) (M.o_grd (by decide) (M.o_grd (by decide) (M.o_grd (by decide) (M.o_grd (by decide) (M.o_grd (by decide) (M.o_grd (by decide) (M.o_grd (by decide) (M.o_grd (by decide) (M.o_grd (by decide) ?_)))))))))))))
    refine M.o_if (fun _=>M.o_grd (decide_eq_true (by omega)) (j4_out (hQ:=rfl) ..)) (fun h0=>?_)
    refine M.o_if (fun _=>M.o_grd (decide_eq_true (by omega)) (j4_out (hQ:=rfl) ..)) (fun h1=>?_)
    refine M.o_if (fun _=>M.o_grd (decide_eq_true (by omega)) (j4_out (hQ:=rfl) ..)) (fun h2=>?_)
    refine M.o_if (fun _=>M.o_grd (decide_eq_true (by omega)) (j4_out (hQ:=rfl) ..)) (fun h3=>?_)
    refine M.o_if (fun _=>M.o_grd (decide_eq_true (by omega)) (j4_out (hQ:=rfl) ..)) (fun h4=>?_)
    refine M.o_if (fun _=>M.o_grd (decide_eq_true (by omega)) (j4_out (hQ:=rfl) ..)) (fun h5=>?_)
    refine M.o_if (fun _=>M.o_grd (decide_eq_true (by omega)) (j4_out (hQ:=rfl) ..)) (fun h6=>?_)
    refine M.o_if (fun _=>M.o_grd (decide_eq_true (by omega)) (j4_out (hQ:=rfl) ..)) (fun h7=>?_)
    refine M.o_if (fun _=>M.o_grd (decide_eq_true (by omega)) (j4_out (hQ:=rfl) ..)) (fun h8=>?_)
    refine M.o_if (fun _=>M.o_grd (decide_eq_true (by omega)) (j4_out (hQ:=rfl) ..)) (fun h9=>?_)
    refine M.o_if (fun _=>M.o_grd (decide_eq_true (by omega)) (j4_out (hQ:=rfl) ..)) (fun h10=>?_)
    refine M.o_if (fun _=>M.o_grd (decide_eq_true (by omega)) (j4_out (hQ:=rfl) ..)) (fun h11=>?_)
    refine M.o_if (fun _=>M.o_grd (decide_eq_true (by omega)) (j4_out (hQ:=rfl) ..)) (fun h12=>?_)
    refine M.o_if (fun _=>M.o_grd (decide_eq_true (by omega)) (j4_out (hQ:=rfl) ..)) (fun h13=>?_)
    refine M.o_if (fun _=>M.o_grd (decide_eq_true (by omega)) (j4_out (hQ:=rfl) ..)) (fun h14=>?_)
    refine M.o_if (fun _=>M.o_grd (decide_eq_true (by omega)) (j4_out (hQ:=rfl) ..)) (fun h15=>?_)
    refine M.o_if (fun _=>M.o_grd (decide_eq_true (by omega)) (j4_out (hQ:=rfl) ..)) (fun h16=>?_)
    refine M.o_if (fun _=>M.o_grd (decide_eq_true (by omega)) (j4_out (hQ:=rfl) ..)) (fun h17=>?_)
    refine M.o_if (fun _=>M.o_grd (decide_eq_true (by omega)) (j4_out (hQ:=rfl) ..)) (fun h18=>?_)
    refine M.o_if (fun _=>M.o_grd (decide_eq_true (by omega)) (j4_out (hQ:=rfl) ..)) (fun h19=>?_)
    refine M.o_if (fun _=>M.o_grd (decide_eq_true (by omega)) (j4_out (hQ:=rfl) ..)) (fun h20=>?_)
    refine M.o_if (fun _=>M.o_grd (decide_eq_true (by omega)) (j4_out (hQ:=rfl) ..)) (fun h21=>?_)
    refine M.o_if (fun _=>M.o_grd (decide_eq_true (by omega)) (j4_out (hQ:=rfl) ..)) (fun h22=>?_)
    refine M.o_if (fun _=>M.o_grd (decide_eq_true (by omega)) (j4_out (hQ:=rfl) ..)) (fun h23=>?_)
    refine M.o_if (fun _=>M.o_grd (decide_eq_true (by omega)) (j4_out (hQ:=rfl) ..)) (fun h24=>?_)
    refine M.o_if (fun _=>M.o_grd (decide_eq_true (by omega)) (j4_out (hQ:=rfl) ..)) (fun h25=>?_)
    refine M.o_if (fun _=>M.o_grd (decide_eq_true (by omega)) (j4_out (hQ:=rfl) ..)) (fun h26=>?_)
    rw [beq_eq_false_iff_ne] at *
    omega
  · rintro _ rfl
    unfold zb6
    exact M.o_f (by decide) (M.o_pure rfl)
theorem b6_out:(M.iter zbI 0).Out (fun r=>r = .inr ()):=by
  refine M.o_for 41 (fun i k=>k=i) ?_ ?_ rfl
  · rintro _ i hi rfl
    unfold zbI
    refine M.o_t (decide_eq_true (by simp only [List.length_cons,List.length_nil]; omega)) (M.o_grd (decide_eq_true (by simp only [List.length_cons,List.length_nil]; omega)) (M.o_bind (b5_out i) ?_))
    rintro _ rfl
    exact M.o_pure rfl
  · rintro _ rfl
    unfold zbI
    exact M.o_f (by decide) (M.o_pure rfl)
end Go.Proofs.YtejefipopolccaaGreat
