/- Part 6 of the texts on which the proof rests. Conditions: none. -/
import Derived.KernelRfl
import Derived.Test.YtfdgkdkfbaghpaaGreatZA5
set_option linter.unusedVariables false
set_option linter.unusedSimpArgs false
set_option linter.unusedSectionVars false
section
set_option maxRecDepth 100000
set_option maxHeartbeats 16000000
namespace Go.Proofs.YtfdgkdkfbaghpaaGreat
open Go Go.Nm
attribute [local irreducible] gd execOp SL SLD SLT WR
def zab (s7:Nat) (s2:Int) (l2:List Line) (l3:List Int) (l4:List Leg) (s3 s4 s5 s6:Int):M (Nat ⊕ (Unit ⊕ Unit)) :=
  M.bind (zaP s2 l2 l3) fun r2 =>
  M.bind (M.opt (!(!r2)) (zaG s2 l2 s5 s6 l4) false) fun r3 =>
  M.bind (M.opt (!((!r2)||(!r3))) (zaQ s2 l2 (⟨(s3:Int),(s4:Int)⟩:Mv)) false) fun r4 =>
  bif (((!r2)||(!r3))||(!r4)) then (
  M.pure (.inr (.inl ())))
  else (
  M.pure (.inl (s7+1)))
def za8 (s8 s7:Nat) (s:Int) (l:List Line):M (Nat ⊕ (Unit ⊕ Unit)) :=
  M.grd (decide (1<(l.length:Int))) <|
  M.grd (decide (2<(l.length:Int))) <|
  M.grd (decide (0<(([(0:Int),(100:Int),(150:Int)]).length:Int))) <|
  M.grd (decide (2<(([(0:Int),(100:Int),(150:Int)]).length:Int))) <|
  M.grd (decide (1<(([(⟨(0:Int),false⟩:Leg),(⟨(1:Int),false⟩:Leg),(⟨(2:Int),true⟩:Leg)]).length:Int))) <|
  M.grd (decide (0<(l.length:Int))) <|
  bif (s7:Int)==0 then (
  M.grd (decide ((s7:Int)<(14:Int))) <|
  zab s7 (([(-1000001:Int),(-1000000:Int),(-1:Int),(0:Int),(1:Int),(2:Int),(3:Int),(4:Int),(5:Int),(6:Int),(9:Int),(10:Int),(11:Int),(12:Int),(13:Int),(100:Int),(9999:Int),(10000:Int),(10001:Int),(39999:Int),(40000:Int),(40001:Int),(1000000:Int),(1000001:Int),(1000000000:Int),(1000000001:Int),(9223372036854775807:Int),(-9223372036854775808:Int)]).getD s8 0) l ([(0:Int),(100:Int),(150:Int)]) ([(⟨(0:Int),false⟩:Leg),(⟨(1:Int),false⟩:Leg),(⟨(2:Int),true⟩:Leg)]) 2 6 0 2)
  else (
  bif (s7:Int)==1 then (
  M.grd (decide ((s7:Int)<(14:Int))) <|
  zab s7 s (l.set 1 ({ (l.getD 1 default) with src:=([(-1000001:Int),(-1000000:Int),(-1:Int),(0:Int),(1:Int),(2:Int),(3:Int),(4:Int),(5:Int),(6:Int),(9:Int),(10:Int),(11:Int),(12:Int),(13:Int),(100:Int),(9999:Int),(10000:Int),(10001:Int),(39999:Int),(40000:Int),(40001:Int),(1000000:Int),(1000001:Int),(1000000000:Int),(1000000001:Int),(9223372036854775807:Int),(-9223372036854775808:Int)]).getD s8 0 })) ([(0:Int),(100:Int),(150:Int)]) ([(⟨(0:Int),false⟩:Leg),(⟨(1:Int),false⟩:Leg),(⟨(2:Int),true⟩:Leg)]) 2 6 0 2)
  else (
  bif (s7:Int)==2 then (
  M.grd (decide ((s7:Int)<(14:Int))) <|
  zab s7 s (l.set 2 ({ (l.getD 2 default) with dst:=([(-1000001:Int),(-1000000:Int),(-1:Int),(0:Int),(1:Int),(2:Int),(3:Int),(4:Int),(5:Int),(6:Int),(9:Int),(10:Int),(11:Int),(12:Int),(13:Int),(100:Int),(9999:Int),(10000:Int),(10001:Int),(39999:Int),(40000:Int),(40001:Int),(1000000:Int),(1000001:Int),(1000000000:Int),(1000000001:Int),(9223372036854775807:Int),(-9223372036854775808:Int)]).getD s8 0 })) ([(0:Int),(100:Int),(150:Int)]) ([(⟨(0:Int),false⟩:Leg),(⟨(1:Int),false⟩:Leg),(⟨(2:Int),true⟩:Leg)]) 2 6 0 2)
  else (
  bif (s7:Int)==3 then (
  M.grd (decide ((s7:Int)<(14:Int))) <|
  zab s7 s (l.set 2 ({ (l.getD 2 default) with day:=([(-1000001:Int),(-1000000:Int),(-1:Int),(0:Int),(1:Int),(2:Int),(3:Int),(4:Int),(5:Int),(6:Int),(9:Int),(10:Int),(11:Int),(12:Int),(13:Int),(100:Int),(9999:Int),(10000:Int),(10001:Int),(39999:Int),(40000:Int),(40001:Int),(1000000:Int),(1000001:Int),(1000000000:Int),(1000000001:Int),(9223372036854775807:Int),(-9223372036854775808:Int)]).getD s8 0 })) ([(0:Int),(100:Int),(150:Int)]) ([(⟨(0:Int),false⟩:Leg),(⟨(1:Int),false⟩:Leg),(⟨(2:Int),true⟩:Leg)]) 2 6 0 2)
  else (
  bif (s7:Int)==4 then (
  M.grd (decide ((s7:Int)<(14:Int))) <|
  zab s7 s (l.set 2 ({ (l.getD 2 default) with rise:=([(-1000001:Int),(-1000000:Int),(-1:Int),(0:Int),(1:Int),(2:Int),(3:Int),(4:Int),(5:Int),(6:Int),(9:Int),(10:Int),(11:Int),(12:Int),(13:Int),(100:Int),(9999:Int),(10000:Int),(10001:Int),(39999:Int),(40000:Int),(40001:Int),(1000000:Int),(1000001:Int),(1000000000:Int),(1000000001:Int),(9223372036854775807:Int),(-9223372036854775808:Int)]).getD s8 0 })) ([(0:Int),(100:Int),(150:Int)]) ([(⟨(0:Int),false⟩:Leg),(⟨(1:Int),false⟩:Leg),(⟨(2:Int),true⟩:Leg)]) 2 6 0 2)
  else (
  bif (s7:Int)==5 then (
  M.grd (decide ((s7:Int)<(14:Int))) <|
  zab s7 s (l.set 2 ({ (l.getD 2 default) with err:=([(-1000001:Int),(-1000000:Int),(-1:Int),(0:Int),(1:Int),(2:Int),(3:Int),(4:Int),(5:Int),(6:Int),(9:Int),(10:Int),(11:Int),(12:Int),(13:Int),(100:Int),(9999:Int),(10000:Int),(10001:Int),(39999:Int),(40000:Int),(40001:Int),(1000000:Int),(1000001:Int),(1000000000:Int),(1000000001:Int),(9223372036854775807:Int),(-9223372036854775808:Int)]).getD s8 0 })) ([(0:Int),(100:Int),(150:Int)]) ([(⟨(0:Int),false⟩:Leg),(⟨(1:Int),false⟩:Leg),(⟨(2:Int),true⟩:Leg)]) 2 6 0 2)
  else (
  bif (s7:Int)==6 then (
  M.grd (decide ((s7:Int)<(14:Int))) <|
  zab s7 s l (([(0:Int),(100:Int),(150:Int)]).set 0 (([(-1000001:Int),(-1000000:Int),(-1:Int),(0:Int),(1:Int),(2:Int),(3:Int),(4:Int),(5:Int),(6:Int),(9:Int),(10:Int),(11:Int),(12:Int),(13:Int),(100:Int),(9999:Int),(10000:Int),(10001:Int),(39999:Int),(40000:Int),(40001:Int),(1000000:Int),(1000001:Int),(1000000000:Int),(1000000001:Int),(9223372036854775807:Int),(-9223372036854775808:Int)]).getD s8 0:Int)) ([(⟨(0:Int),false⟩:Leg),(⟨(1:Int),false⟩:Leg),(⟨(2:Int),true⟩:Leg)]) 2 6 0 2)
  else (
  bif (s7:Int)==7 then (
  M.grd (decide ((s7:Int)<(14:Int))) <|
  zab s7 s l (([(0:Int),(100:Int),(150:Int)]).set 2 (([(-1000001:Int),(-1000000:Int),(-1:Int),(0:Int),(1:Int),(2:Int),(3:Int),(4:Int),(5:Int),(6:Int),(9:Int),(10:Int),(11:Int),(12:Int),(13:Int),(100:Int),(9999:Int),(10000:Int),(10001:Int),(39999:Int),(40000:Int),(40001:Int),(1000000:Int),(1000001:Int),(1000000000:Int),(1000000001:Int),(9223372036854775807:Int),(-9223372036854775808:Int)]).getD s8 0:Int)) ([(⟨(0:Int),false⟩:Leg),(⟨(1:Int),false⟩:Leg),(⟨(2:Int),true⟩:Leg)]) 2 6 0 2)
  else (
  bif (s7:Int)==8 then (
  M.grd (decide ((s7:Int)<(14:Int))) <|
  zab s7 s l ([(0:Int),(100:Int),(150:Int)]) (([(⟨(0:Int),false⟩:Leg),(⟨(1:Int),false⟩:Leg),(⟨(2:Int),true⟩:Leg)]).set 1 ({ (([(⟨(0:Int),false⟩:Leg),(⟨(1:Int),false⟩:Leg),(⟨(2:Int),true⟩:Leg)]).getD 1 default) with line:=([(-1000001:Int),(-1000000:Int),(-1:Int),(0:Int),(1:Int),(2:Int),(3:Int),(4:Int),(5:Int),(6:Int),(9:Int),(10:Int),(11:Int),(12:Int),(13:Int),(100:Int),(9999:Int),(10000:Int),(10001:Int),(39999:Int),(40000:Int),(40001:Int),(1000000:Int),(1000001:Int),(1000000000:Int),(1000000001:Int),(9223372036854775807:Int),(-9223372036854775808:Int)]).getD s8 0 })) 2 6 0 2)
  else (
  bif (s7:Int)==9 then (
  M.grd (decide ((s7:Int)<(14:Int))) <|
  zab s7 s l ([(0:Int),(100:Int),(150:Int)]) ([(⟨(0:Int),false⟩:Leg),(⟨(1:Int),false⟩:Leg),(⟨(2:Int),true⟩:Leg)]) (([(-1000001:Int),(-1000000:Int),(-1:Int),(0:Int),(1:Int),(2:Int),(3:Int),(4:Int),(5:Int),(6:Int),(9:Int),(10:Int),(11:Int),(12:Int),(13:Int),(100:Int),(9999:Int),(10000:Int),(10001:Int),(39999:Int),(40000:Int),(40001:Int),(1000000:Int),(1000001:Int),(1000000000:Int),(1000000001:Int),(9223372036854775807:Int),(-9223372036854775808:Int)]).getD s8 0) 6 0 2)
  else (
  bif (s7:Int)==10 then (
  M.grd (decide ((s7:Int)<(14:Int))) <|
  zab s7 s l ([(0:Int),(100:Int),(150:Int)]) ([(⟨(0:Int),false⟩:Leg),(⟨(1:Int),false⟩:Leg),(⟨(2:Int),true⟩:Leg)]) 2 (([(-1000001:Int),(-1000000:Int),(-1:Int),(0:Int),(1:Int),(2:Int),(3:Int),(4:Int),(5:Int),(6:Int),(9:Int),(10:Int),(11:Int),(12:Int),(13:Int),(100:Int),(9999:Int),(10000:Int),(10001:Int),(39999:Int),(40000:Int),(40001:Int),(1000000:Int),(1000001:Int),(1000000000:Int),(1000000001:Int),(9223372036854775807:Int),(-9223372036854775808:Int)]).getD s8 0) 0 2)
  else (
  bif (s7:Int)==11 then (
  M.grd (decide ((s7:Int)<(14:Int))) <|
  zab s7 s l ([(0:Int),(100:Int),(150:Int)]) ([(⟨(0:Int),false⟩:Leg),(⟨(1:Int),false⟩:Leg),(⟨(2:Int),true⟩:Leg)]) 2 6 (([(-1000001:Int),(-1000000:Int),(-1:Int),(0:Int),(1:Int),(2:Int),(3:Int),(4:Int),(5:Int),(6:Int),(9:Int),(10:Int),(11:Int),(12:Int),(13:Int),(100:Int),(9999:Int),(10000:Int),(10001:Int),(39999:Int),(40000:Int),(40001:Int),(1000000:Int),(1000001:Int),(1000000000:Int),(1000000001:Int),(9223372036854775807:Int),(-9223372036854775808:Int)]).getD s8 0) 2)
  else (
  bif (s7:Int)==12 then (
  M.grd (decide ((s7:Int)<(14:Int))) <|
  zab s7 s l ([(0:Int),(100:Int),(150:Int)]) ([(⟨(0:Int),false⟩:Leg),(⟨(1:Int),false⟩:Leg),(⟨(2:Int),true⟩:Leg)]) 2 6 0 (([(-1000001:Int),(-1000000:Int),(-1:Int),(0:Int),(1:Int),(2:Int),(3:Int),(4:Int),(5:Int),(6:Int),(9:Int),(10:Int),(11:Int),(12:Int),(13:Int),(100:Int),(9999:Int),(10000:Int),(10001:Int),(39999:Int),(40000:Int),(40001:Int),(1000000:Int),(1000001:Int),(1000000000:Int),(1000000001:Int),(9223372036854775807:Int),(-9223372036854775808:Int)]).getD s8 0))
  else (
  bif (s7:Int)==13 then (
  M.grd (decide ((s7:Int)<(14:Int))) <|
  zab s7 s (l.set 0 ({ (l.getD 0 default) with rise:=([(-1000001:Int),(-1000000:Int),(-1:Int),(0:Int),(1:Int),(2:Int),(3:Int),(4:Int),(5:Int),(6:Int),(9:Int),(10:Int),(11:Int),(12:Int),(13:Int),(100:Int),(9999:Int),(10000:Int),(10001:Int),(39999:Int),(40000:Int),(40001:Int),(1000000:Int),(1000001:Int),(1000000000:Int),(1000000001:Int),(9223372036854775807:Int),(-9223372036854775808:Int)]).getD s8 0 })) ([(0:Int),(100:Int),(150:Int)]) ([(⟨(0:Int),false⟩:Leg),(⟨(1:Int),false⟩:Leg),(⟨(2:Int),true⟩:Leg)]) 2 6 0 2)
  else (
  M.fail))))))))))))))
def zbR (s8:Nat):Nat->M (Nat ⊕ (Unit ⊕ Unit)):=fun s7 =>
  bif decide ((s7:Int)<14) then (
  M.bind (zag 160) fun (r0,r1) =>
  bif decide (10<(s7:Int)) then (
  M.bind (zag 148) fun (aa,ab) =>
  za8 s8 s7 aa ab)
  else (
  za8 s8 s7 r0 r1))
  else (
  M.pure (.inr (.inr ())))
def zbP  : Nat->M (Nat ⊕ (Unit ⊕ Unit)):=fun s8 =>
  bif decide ((s8:Int)<(([(-1000001:Int),(-1000000:Int),(-1:Int),(0:Int),(1:Int),(2:Int),(3:Int),(4:Int),(5:Int),(6:Int),(9:Int),(10:Int),(11:Int),(12:Int),(13:Int),(100:Int),(9999:Int),(10000:Int),(10001:Int),(39999:Int),(40000:Int),(40001:Int),(1000000:Int),(1000001:Int),(1000000000:Int),(1000000001:Int),(9223372036854775807:Int),(-9223372036854775808:Int)]).length:Int)) then (
  M.grd (decide ((s8:Int)<(([(-1000001:Int),(-1000000:Int),(-1:Int),(0:Int),(1:Int),(2:Int),(3:Int),(4:Int),(5:Int),(6:Int),(9:Int),(10:Int),(11:Int),(12:Int),(13:Int),(100:Int),(9999:Int),(10000:Int),(10001:Int),(39999:Int),(40000:Int),(40001:Int),(1000000:Int),(1000001:Int),(1000000000:Int),(1000000001:Int),(9223372036854775807:Int),(-9223372036854775808:Int)]).length:Int))) <|
  M.bind (M.iter (zbR s8) 0) fun x_=>match x_ with
  | (.inl (_:Unit))=>(
  M.pure (.inr (.inl ())))
  | (.inr (_:Unit))=>(
  M.pure (.inl (s8+1))))
  else (
  M.pure (.inr (.inr ())))
def zb9 (aa:Nat):(Nat × (List Line))->M ((Nat × (List Line)) ⊕ ((List Line) × (List Line))):=fun (s9,l5) =>
  bif decide ((s9:Int)<(1+((aa:Int) % 5))) then (
  M.grd (decide (0<=(aa:Int))&&decide ((aa:Int)<=(9223372036854775807:Int))&&decide ((0:Int)<3)) <|
  M.grd (decide ((-9223372036854775808:Int)<=((s9:Int)*(s9:Int)))&&decide (((s9:Int)*(s9:Int))<=(9223372036854775807:Int))) <|
  M.grd (decide ((-9223372036854775808:Int)<=(((aa:Int) / 3)+((s9:Int)*(s9:Int))))&&decide ((((aa:Int) / 3)+((s9:Int)*(s9:Int)))<=(9223372036854775807:Int))) <|
  M.grd (decide ((0:Int)<=(((aa:Int) / 3)+((s9:Int)*(s9:Int))))&&decide ((0:Int)<(2+((aa:Int) % 3)))) <|
  M.grd (decide ((-9223372036854775808:Int)<=(((((aa:Int) / 3)+((s9:Int)*(s9:Int))) % (2+((aa:Int) % 3)))+1))&&decide ((((((aa:Int) / 3)+((s9:Int)*(s9:Int))) % (2+((aa:Int) % 3)))+1)<=(9223372036854775807:Int))) <|
  M.grd (decide ((-9223372036854775808:Int)<=(((aa:Int) / 7)+(s9:Int)))&&decide ((((aa:Int) / 7)+(s9:Int))<=(9223372036854775807:Int))) <|
  M.grd (decide ((-9223372036854775808:Int)<=((s9:Int)+2))&&decide (((s9:Int)+2)<=(9223372036854775807:Int))) <|
  M.grd (decide (0<=(aa:Int))&&decide ((aa:Int)<=(9223372036854775807:Int))&&decide ((0:Int)<((s9:Int)+2))) <|
  M.grd (decide ((0:Int)<=((aa:Int) / ((s9:Int)+2)))&&decide ((0:Int)<4)) <|
  M.grd (decide ((-9223372036854775808:Int)<=(2*(s9:Int)))&&decide ((2*(s9:Int))<=(9223372036854775807:Int))) <|
  M.grd (decide ((-9223372036854775808:Int)<=((2*(s9:Int))+3))&&decide (((2*(s9:Int))+3)<=(9223372036854775807:Int))) <|
  M.grd (decide (0<=(aa:Int))&&decide ((aa:Int)<=(9223372036854775807:Int))&&decide ((0:Int)<((2*(s9:Int))+3))) <|
  M.grd (decide ((0:Int)<=((aa:Int) / ((2*(s9:Int))+3)))&&decide ((0:Int)<7)) <|
  M.grd (decide ((-9223372036854775808:Int)<=((((aa:Int) / ((2*(s9:Int))+3)) % 7)-3))&&decide (((((aa:Int) / ((2*(s9:Int))+3)) % 7)-3)<=(9223372036854775807:Int))) <|
  M.grd (decide ((-9223372036854775808:Int)<=((s9:Int)+5))&&decide (((s9:Int)+5)<=(9223372036854775807:Int))) <|
  M.grd (decide (0<=(aa:Int))&&decide ((aa:Int)<=(9223372036854775807:Int))&&decide ((0:Int)<((s9:Int)+5))) <|
  M.grd (decide ((0:Int)<=((aa:Int) / ((s9:Int)+5)))&&decide ((0:Int)<3)) <|
  M.grd (decide ((-9223372036854775808:Int)<=((2+((aa:Int) % 3))-1))&&decide (((2+((aa:Int) % 3))-1)<=(9223372036854775807:Int))) <|
  M.grd (decide ((0:Int)<=(((aa:Int) / 7)+(s9:Int)))&&decide ((0:Int)<((2+((aa:Int) % 3))-1))) <|
  M.grd (decide ((-9223372036854775808:Int)<=((((((aa:Int) / 3)+((s9:Int)*(s9:Int))) % (2+((aa:Int) % 3)))+1)+((((aa:Int) / 7)+(s9:Int)) % ((2+((aa:Int) % 3))-1))))&&decide (((((((aa:Int) / 3)+((s9:Int)*(s9:Int))) % (2+((aa:Int) % 3)))+1)+((((aa:Int) / 7)+(s9:Int)) % ((2+((aa:Int) % 3))-1)))<=(9223372036854775807:Int))) <|
  M.grd (decide ((0:Int)<=((((((aa:Int) / 3)+((s9:Int)*(s9:Int))) % (2+((aa:Int) % 3)))+1)+((((aa:Int) / 7)+(s9:Int)) % ((2+((aa:Int) % 3))-1))))&&decide ((0:Int)<(2+((aa:Int) % 3)))) <|
  M.grd (decide ((l5.length+([(⟨((((aa:Int) / 3)+((s9:Int)*(s9:Int))) % (2+((aa:Int) % 3)):Int),(((((((aa:Int) / 3)+((s9:Int)*(s9:Int))) % (2+((aa:Int) % 3)))+1)+((((aa:Int) / 7)+(s9:Int)) % ((2+((aa:Int) % 3))-1))) % (2+((aa:Int) % 3)):Int),(((aa:Int) / ((s9:Int)+2)) % 4:Int),((((aa:Int) / ((2*(s9:Int))+3)) % 7)-3:Int),(((aa:Int) / ((s9:Int)+5)) % 3:Int)⟩:Line)]).length)*40<=140737488355328)) <|
  M.grd (decide ((-9223372036854775808:Int)<=((s9:Int)+1))&&decide (((s9:Int)+1)<=(9223372036854775807:Int))) <|
  M.pure (.inl (s9+1,l5++([(⟨((((aa:Int) / 3)+((s9:Int)*(s9:Int))) % (2+((aa:Int) % 3)):Int),(((((((aa:Int) / 3)+((s9:Int)*(s9:Int))) % (2+((aa:Int) % 3)))+1)+((((aa:Int) / 7)+(s9:Int)) % ((2+((aa:Int) % 3))-1))) % (2+((aa:Int) % 3)):Int),(((aa:Int) / ((s9:Int)+2)) % 4:Int),((((aa:Int) / ((2*(s9:Int))+3)) % 7)-3:Int),(((aa:Int) / ((s9:Int)+5)) % 3:Int)⟩:Line)]))))
  else (
  M.pure (.inr (l5,l5)))
def zbJ  : Nat->M (Nat ⊕ (Unit ⊕ Unit)):=fun aa =>
  bif decide ((aa:Int)<3000) then (
  M.grd (decide ((0:Int)<=(aa:Int))&&decide ((0:Int)<3)) <|
  M.grd (decide ((-9223372036854775808:Int)<=(2+((aa:Int) % 3)))&&decide ((2+((aa:Int) % 3))<=(9223372036854775807:Int))) <|
  M.grd (decide ((-9223372036854775808:Int)<=(1+((aa:Int) % 5)))&&decide ((1+((aa:Int) % 5))<=(9223372036854775807:Int))) <|
  M.bind (M.iter (zb9 aa) (0,[])) fun (l6,l7) =>
  M.grd (decide (0<=(aa:Int))&&decide ((aa:Int)<=(9223372036854775807:Int))&&decide ((0:Int)<3)) <|
  M.grd (decide ((0:Int)<=((aa:Int) / 3))&&decide ((0:Int)<3)) <|
  M.grd (decide ((0:Int)<=((aa:Int) / 2))&&decide ((0:Int)<2)) <|
  M.grd (decide ((0:Int)<=((aa:Int) / 9))&&decide ((0:Int)<3)) <|
  M.grd (decide ((0:Int)<=((aa:Int) / 4))&&decide ((0:Int)<2)) <|
  M.grd (decide ((0:Int)<=((aa:Int) / 5))&&decide ((0:Int)<3)) <|
  M.grd (decide ((-9223372036854775808:Int)<=(1+(((aa:Int) / 5) % 3)))&&decide ((1+(((aa:Int) / 5) % 3))<=(9223372036854775807:Int))) <|
  M.grd (decide ((0:Int)<=(1+(((aa:Int) / 5) % 3)))&&decide ((1+(((aa:Int) / 5) % 3))<=(([(⟨((aa:Int) % 3:Int),(((aa:Int) % 2)==0)⟩:Leg),(⟨(((aa:Int) / 3) % 3:Int),((((aa:Int) / 2) % 2)==0)⟩:Leg),(⟨(((aa:Int) / 9) % 3:Int),((((aa:Int) / 4) % 2)==0)⟩:Leg)]).length:Int))) <|
  M.grd (decide ((-9223372036854775808:Int)<=(((aa:Int) % 5)-2))&&decide ((((aa:Int) % 5)-2)<=(9223372036854775807:Int))) <|
  M.grd (decide ((-9223372036854775808:Int)<=((((aa:Int) / 5) % 5)-2))&&decide (((((aa:Int) / 5) % 5)-2)<=(9223372036854775807:Int))) <|
  M.grd (decide ((0:Int)<=((aa:Int) / 25))&&decide ((0:Int)<5)) <|
  M.grd (decide ((-9223372036854775808:Int)<=((((aa:Int) / 25) % 5)-2))&&decide (((((aa:Int) / 25) % 5)-2)<=(9223372036854775807:Int))) <|
  M.grd (decide ((0:Int)<=(2+((aa:Int) % 3)))&&decide ((2+((aa:Int) % 3))<=(([(0:Int),(((aa:Int) % 5)-2:Int),((((aa:Int) / 5) % 5)-2:Int),((((aa:Int) / 25) % 5)-2:Int)]).length:Int))) <|
  M.bind (zaP (2+((aa:Int) % 3)) l7 (([(0:Int),(((aa:Int) % 5)-2:Int),((((aa:Int) / 5) % 5)-2:Int),((((aa:Int) / 25) % 5)-2:Int)]).take (Int.toNat (2+((aa:Int) % 3))))) fun r5 =>
  M.grd ((!(!(!r5))||(decide ((0:Int)<=(aa:Int))&&decide ((0:Int)<(2+((aa:Int) % 3)))))) <|
  M.grd ((!(!(!r5))||(decide ((0:Int)<=((aa:Int) / 4))&&decide ((0:Int)<(2+((aa:Int) % 3)))))) <|
  M.bind (M.opt (!(!r5)) (zaG (2+((aa:Int) % 3)) l7 ((aa:Int) % (2+((aa:Int) % 3))) (((aa:Int) / 4) % (2+((aa:Int) % 3))) (([(⟨((aa:Int) % 3:Int),(((aa:Int) % 2)==0)⟩:Leg),(⟨(((aa:Int) / 3) % 3:Int),((((aa:Int) / 2) % 2)==0)⟩:Leg),(⟨(((aa:Int) / 9) % 3:Int),((((aa:Int) / 4) % 2)==0)⟩:Leg)]).take (Int.toNat (1+(((aa:Int) / 5) % 3))))) false) fun r6 =>
  M.grd ((!(!((!r5)||(!r6)))||(decide ((-9223372036854775808:Int)<=(1+((aa:Int) % 4)))&&decide ((1+((aa:Int) % 4))<=(9223372036854775807:Int))))) <|
  M.bind (M.opt (!((!r5)||(!r6))) (zaQ (2+((aa:Int) % 3)) l7 (⟨((aa:Int) % 3:Int),(1+((aa:Int) % 4):Int)⟩:Mv)) false) fun r7 =>
  bif (((!r5)||(!r6))||(!r7)) then (
  M.pure (.inr (.inl ())))
  else (
  M.pure (.inl (aa+1))))
  else (
  M.pure (.inr (.inr ())))
def zb2 (ab:Nat):(Nat × (List Line))->M ((Nat × (List Line)) ⊕ ((List Line) × (List Line))):=fun (aa,l8) =>
  bif decide ((aa:Int)<(ab:Int)) then (
  M.grd (decide ((-9223372036854775808:Int)<=((aa:Int)+1))&&decide (((aa:Int)+1)<=(9223372036854775807:Int))) <|
  M.grd (decide ((0:Int)<=(aa:Int))&&decide ((0:Int)<(max 1 (min (ab:Int) 14)))) <|
  M.grd (decide ((0:Int)<=((aa:Int)+1))&&decide ((0:Int)<(max 1 (min (ab:Int) 14)))) <|
  M.grd (decide ((l8.length+([(⟨((aa:Int) % (max 1 (min (ab:Int) 14)):Int),(((aa:Int)+1) % (max 1 (min (ab:Int) 14)):Int),(aa:Int),(1000000:Int),(10000:Int)⟩:Line)]).length)*40<=140737488355328)) <|
  M.pure (.inl (aa+1,l8++([(⟨((aa:Int) % (max 1 (min (ab:Int) 14)):Int),(((aa:Int)+1) % (max 1 (min (ab:Int) 14)):Int),(aa:Int),(1000000:Int),(10000:Int)⟩:Line)]))))
  else (
  M.pure (.inr (l8,l8)))
def zbG (ac:Nat):((List Leg) × Nat)->M (((List Leg) × Nat) ⊕ ((List Leg) × (List Leg))):=fun (ab,aa) =>
  bif decide ((aa:Int)<((List.replicate (Int.toNat (2*(ac:Int))) (default:Leg)).length:Int)) then (
  M.grd (decide ((0:Int)<=(aa:Int))&&decide ((0:Int)<2)) <|
  M.grd (decide ((aa:Int)<(ab.length:Int))) <|
  M.pure (.inl (ab.set aa ({ (ab.getD aa default) with back:=((aa:Int) % 2)==1 }),aa+1)))
  else (
  M.pure (.inr (ab,ab)))
def zc1 (ac:Nat):((List Leg) × Nat)->M (((List Leg) × Nat) ⊕ ((List Leg) × (List Leg))):=fun (ab,aa) =>
  bif decide ((aa:Int)<((List.replicate (Int.toNat (2*(ac:Int))) (default:Leg)).length:Int)) then (
  M.grd (decide ((0:Int)<=(aa:Int))&&decide ((0:Int)<2)) <|
  M.grd (decide ((aa:Int)<(ab.length:Int))) <|
  M.pure (.inl (ab.set aa ({ (ab.getD aa default) with back:=((aa:Int) % 2)==1 }),aa+1)))
  else (
  M.pure (.inr (ab,ab)))
def zbx  : Nat->M (Nat ⊕ (Unit ⊕ Unit)):=fun aa =>
  bif decide ((aa:Int)<33) then (
  M.bind (M.iter (zb2 aa) (0,[])) fun (l9,ab) =>
  bif decide ((min (aa:Int) 14)<2) then (
  M.grd (decide ((-9223372036854775808:Int)<=(2*(aa:Int)))&&decide ((2*(aa:Int))<=(9223372036854775807:Int))) <|
  M.grd (decide ((0:Int)<=(2*(aa:Int)))&&decide ((16:Int)*(2*(aa:Int))<=281474976710656)&&decide ((2*(aa:Int))<=(9223372036854775807:Int))) <|
  M.bind (M.iter (zbG aa) (List.replicate (Int.toNat (2*(aa:Int))) (default:Leg),0)) fun (ah,ac) =>
  M.grd (decide ((0:Int)<=(min (aa:Int) 14))&&decide ((8:Int)*(min (aa:Int) 14)<=281474976710656)&&decide ((min (aa:Int) 14)<=(9223372036854775807:Int))) <|
  M.bind (zaP (min (aa:Int) 14) ([]:List Line) (List.replicate (Int.toNat (min (aa:Int) 14)) (0:Int))) fun r8 =>
  M.grd ((!(!(!r8))||(decide ((-9223372036854775808:Int)<=((min (aa:Int) 14)-1))&&decide (((min (aa:Int) 14)-1)<=(9223372036854775807:Int))))) <|
  M.bind (M.opt (!(!r8)) (zaG (min (aa:Int) 14) ([]:List Line) 0 ((min (aa:Int) 14)-1) ac) false) fun r9 =>
  M.bind (M.opt (!((!r8)||(!r9))) (zaQ (min (aa:Int) 14) ([]:List Line) (⟨(0:Int),(3:Int)⟩:Mv)) false) fun ae =>
  bif (((!r8)||(!r9))||(!ae)) then (
  M.pure (.inr (.inl ())))
  else (
  M.bind (zak (min (aa:Int) 14) ([]:List Line)) fun ag =>
  bif ((ag==0) != ((decide (0<(aa:Int)))&&(decide ((aa:Int)<13)))) then (
  M.pure (.inr (.inl ())))
  else (
  M.pure (.inl (aa+1)))))
  else (
  M.grd (decide ((-9223372036854775808:Int)<=(2*(aa:Int)))&&decide ((2*(aa:Int))<=(9223372036854775807:Int))) <|
  M.grd (decide ((0:Int)<=(2*(aa:Int)))&&decide ((16:Int)*(2*(aa:Int))<=281474976710656)&&decide ((2*(aa:Int))<=(9223372036854775807:Int))) <|
  M.bind (M.iter (zc1 aa) (List.replicate (Int.toNat (2*(aa:Int))) (default:Leg),0)) fun (ah,ac) =>
  M.grd (decide ((0:Int)<=(min (aa:Int) 14))&&decide ((8:Int)*(min (aa:Int) 14)<=281474976710656)&&decide ((min (aa:Int) 14)<=(9223372036854775807:Int))) <|
  M.bind (zaP (min (aa:Int) 14) ab (List.replicate (Int.toNat (min (aa:Int) 14)) (0:Int))) fun r8 =>
  M.grd ((!(!(!r8))||(decide ((-9223372036854775808:Int)<=((min (aa:Int) 14)-1))&&decide (((min (aa:Int) 14)-1)<=(9223372036854775807:Int))))) <|
  M.bind (M.opt (!(!r8)) (zaG (min (aa:Int) 14) ab 0 ((min (aa:Int) 14)-1) ac) false) fun r9 =>
  M.bind (M.opt (!((!r8)||(!r9))) (zaQ (min (aa:Int) 14) ab (⟨(0:Int),(3:Int)⟩:Mv)) false) fun ae =>
  bif (((!r8)||(!r9))||(!ae)) then (
  M.pure (.inr (.inl ())))
  else (
  M.bind (zak (min (aa:Int) 14) ab) fun ag =>
  bif ((ag==0) != ((decide (0<(aa:Int)))&&(decide ((aa:Int)<13)))) then (
  M.pure (.inr (.inl ())))
  else (
  M.pure (.inl (aa+1))))))
  else (
  M.pure (.inr (.inr ())))
def zc3  : (Nat × (List Line))->M ((Nat × (List Line)) ⊕ ((List Line) × (List Line))):=fun (aa,ab) =>
  bif decide ((aa:Int)<11) then (
  M.grd (decide ((ab.length+([(⟨(aa:Int),((aa:Int)+1:Int),(0:Int),(1000000:Int),(10000:Int)⟩:Line)]).length)*40<=140737488355328)) <|
  M.pure (.inl (aa+1,ab++([(⟨(aa:Int),((aa:Int)+1:Int),(0:Int),(1000000:Int),(10000:Int)⟩:Line)]))))
  else (
  M.pure (.inr (ab,ab)))
def zcA  : M Bool :=
  M.bind (M.iter (zbP) 0) fun x_=>match x_ with
  | (.inl (_:Unit))=>(
  M.pure false)
  | (.inr (_:Unit))=>(
  M.bind (M.iter (zbJ) 0) fun x_=>match x_ with
  | (.inl (_:Unit))=>(
  M.pure false)
  | (.inr (_:Unit))=>(
  M.bind (M.iter (zbx) 0) fun x_=>match x_ with
  | (.inl (_:Unit))=>(
  M.pure false)
  | (.inr (_:Unit))=>(
  M.bind (M.iter (zc3) (0,[])) fun (ai,aa) =>
  M.bind (zaj 12 aa 0 11) fun (ab,ac,ae) =>
  M.bind (zba 12 aa (⟨(0:Int),(1:Int)⟩:Mv)) fun (aj,al,ag) =>
  M.bind (M.opt (((ae==0)&&(ag==3))&&(decide ((⟨(ab:Int),(ac:Int)⟩:Span)=(⟨(10890000:Int),(11110000:Int)⟩:Span)))) (zax) false) fun ah =>
  M.pure ((((ae==0)&&(ag==3))&&(decide ((⟨(ab:Int),(ac:Int)⟩:Span)=(⟨(10890000:Int),(11110000:Int)⟩:Span))))&&ah))))
theorem zdo {R:List Chunk}    {r:Bool} (hM:(zcA).Ends r) (w:World) (H:St w w [] R):Ret Tryz.prog 3 #[] w fun v w'=>∃ (y0:Bool),y0=r/\v=B y0/\St w w' [] R:=by
 refine ret_of_W Tryz.func3 rfl rfl rfl ?_;refine kg 7 ?_;refine t_bs (α:=Int) T22 [I (-1000001),I (-1000000),I (-1),I 0,I 1,I 2,I 3,I 4,I 5,I 6,I 9,I 10,I 11,I 12,I 13,I 100,I 9999,I 10000,I 10001,I 39999,I 40000,I 40001,I 1000000,I 1000001,I 1000000000,I 1000000001,I 9223372036854775807,I (-9223372036854775808)] [(-1000001:Int),(-1000000:Int),(-1:Int),(0:Int),(1:Int),(2:Int),(3:Int),(4:Int),(5:Int),(6:Int),(9:Int),(10:Int),(11:Int),(12:Int),(13:Int),(100:Int),(9999:Int),(10000:Int),(10001:Int),(39999:Int),(40000:Int),(40001:Int),(1000000:Int),(1000001:Int),(1000000000:Int),(1000000001:Int),(9223372036854775807:Int),(-9223372036854775808:Int)] H rfl (.cons rfl (Flat.rep_enc _ (-1000001:Int))<|.cons rfl (Flat.rep_enc _ (-1000000:Int))<|.cons rfl (Flat.rep_enc _ (-1:Int))<|.cons rfl (Flat.rep_enc _ (0:Int))<|.cons rfl (Flat.rep_enc _ (1:Int))<|.cons rfl (Flat.rep_enc _ (2:Int))<|.cons rfl (Flat.rep_enc _ (3:Int))<|.cons rfl (Flat.rep_enc _ (4:Int))<|.cons rfl (Flat.rep_enc _ (5:Int))<|.cons rfl (Flat.rep_enc _ (6:Int))<|.cons rfl (Flat.rep_enc _ (9:Int))<|.cons rfl (Flat.rep_enc _ (10:Int))<|.cons rfl (Flat.rep_enc _ (11:Int))<|.cons rfl (Flat.rep_enc _ (12:Int))<|.cons rfl (Flat.rep_enc _ (13:Int))<|.cons rfl (Flat.rep_enc _ (100:Int))<|.cons rfl (Flat.rep_enc _ (9999:Int))<|.cons rfl (Flat.rep_enc _ (10000:Int))<|.cons rfl (Flat.rep_enc _ (10001:Int))<|.cons rfl (Flat.rep_enc _ (39999:Int))<|.cons rfl (Flat.rep_enc _ (40000:Int))<|.cons rfl (Flat.rep_enc _ (40001:Int))<|.cons rfl (Flat.rep_enc _ (1000000:Int))<|.cons rfl (Flat.rep_enc _ (1000001:Int))<|.cons rfl (Flat.rep_enc _ (1000000000:Int))<|.cons rfl (Flat.rep_enc _ (1000000001:Int))<|.cons rfl (Flat.rep_enc _ (9223372036854775807:Int))<|.cons rfl (Flat.rep_enc _ (-9223372036854775808:Int))<|.nil) rfl rfl rfl ?_;intro ax fy H
 have fA:=((H.os 0)).len_le
 refine kg 4 ?_;obtain ⟨dj,bT,cM⟩:=M.e_bind hM
 obtain ⟨aQ,bT⟩:=M.e_iter bT
 refine W.loop (fun m σ W=>∃ (s8:Nat) (ρ:Env),σ=upds ρ [(27,ax),(28,I (([(-1000001:Int),(-1000000:Int),(-1:Int),(0:Int),(1:Int),(2:Int),(3:Int),(4:Int),(5:Int),(6:Int),(9:Int),(10:Int),(11:Int),(12:Int),(13:Int),(100:Int),(9999:Int),(10000:Int),(10001:Int),(39999:Int),(40000:Int),(40001:Int),(1000000:Int),(1000001:Int),(1000000000:Int),(1000000001:Int),(9223372036854775807:Int),(-9223372036854775808:Int)]).length:Int)),(29,I (s8:Int))]/\M.iterN (zbP) m s8=some dj/\St w W [cOwn (α:=Int) 3 ax ([(-1000001:Int),(-1000000:Int),(-1:Int),(0:Int),(1:Int),(2:Int),(3:Int),(4:Int),(5:Int),(6:Int),(9:Int),(10:Int),(11:Int),(12:Int),(13:Int),(100:Int),(9999:Int),(10000:Int),(10001:Int),(39999:Int),(40000:Int),(40001:Int),(1000000:Int),(1000001:Int),(1000000000:Int),(1000000001:Int),(9223372036854775807:Int),(-9223372036854775808:Int)])] R) ?_ ?_
 ·exact ⟨_,0,_,upds_of _ _ ⟨rfl,rfl,rfl,trivial⟩,bT,H⟩
 rintro fB σ fC ⟨s8,ρ,rfl,cN,H⟩
 obtain ⟨dk,dl,fD,hM,bU⟩:=M.e_iterN cN
 clear cN;refine kg 5 ?_
 refine W.cond (decide ((s8:Int)<(([(-1000001:Int),(-1000000:Int),(-1:Int),(0:Int),(1:Int),(2:Int),(3:Int),(4:Int),(5:Int),(6:Int),(9:Int),(10:Int),(11:Int),(12:Int),(13:Int),(100:Int),(9999:Int),(10000:Int),(10001:Int),(39999:Int),(40000:Int),(40001:Int),(1000000:Int),(1000001:Int),(1000000000:Int),(1000000001:Int),(9223372036854775807:Int),(-9223372036854775808:Int)]).length:Int))) rfl (fun aX=>?_) (fun aX=>?_)
 ·replace hM:=M.e_t hM aX
  replace aX:=dI aX
  obtain ⟨fE,hM⟩:=M.e_gd hM;refine kg 14 ?_;obtain ⟨dm,bV,cO⟩:=M.e_bind hM
  obtain ⟨aQ,bV⟩:=M.e_iter bV
  refine W.loop (fun m σ W=>∃ (s7:Nat) (ρ:Env),σ=upds ρ [(2,I (([(-1000001:Int),(-1000000:Int),(-1:Int),(0:Int),(1:Int),(2:Int),(3:Int),(4:Int),(5:Int),(6:Int),(9:Int),(10:Int),(11:Int),(12:Int),(13:Int),(100:Int),(9999:Int),(10000:Int),(10001:Int),(39999:Int),(40000:Int),(40001:Int),(1000000:Int),(1000001:Int),(1000000000:Int),(1000000001:Int),(9223372036854775807:Int),(-9223372036854775808:Int)]).getD s8 0)),(27,ax),(28,I (([(-1000001:Int),(-1000000:Int),(-1:Int),(0:Int),(1:Int),(2:Int),(3:Int),(4:Int),(5:Int),(6:Int),(9:Int),(10:Int),(11:Int),(12:Int),(13:Int),(100:Int),(9999:Int),(10000:Int),(10001:Int),(39999:Int),(40000:Int),(40001:Int),(1000000:Int),(1000001:Int),(1000000000:Int),(1000000001:Int),(9223372036854775807:Int),(-9223372036854775808:Int)]).length:Int)),(29,I (s8:Int)),(33,I (s7:Int))]/\M.iterN (zbR s8) m s7=some dm/\St w W [cOwn (α:=Int) 3 ax ([(-1000001:Int),(-1000000:Int),(-1:Int),(0:Int),(1:Int),(2:Int),(3:Int),(4:Int),(5:Int),(6:Int),(9:Int),(10:Int),(11:Int),(12:Int),(13:Int),(100:Int),(9999:Int),(10000:Int),(10001:Int),(39999:Int),(40000:Int),(40001:Int),(1000000:Int),(1000001:Int),(1000000000:Int),(1000000001:Int),(9223372036854775807:Int),(-9223372036854775808:Int)])] R) ?_ ?_
  ·exact ⟨_,0,_,upds_of _ _ ⟨rfl,rfl,rfl,rfl,rfl,trivial⟩,bV,H⟩
  rintro fF σ fG ⟨s7,ρ,rfl,cP,H⟩
  obtain ⟨dp,dt,cQ,hM,bW⟩:=M.e_iterN cP
  clear cP;refine kg 5 ?_
  refine W.cond (decide ((s7:Int)<14)) rfl (fun aY=>?_) (fun aY=>?_)
  ·replace hM:=M.e_t hM aY
   replace aY:=dI aY
   refine kg 10 ?_;obtain ⟨fH,du,hM⟩:=M.e_bind hM;refine s_call cf4 [I 160] rfl (zar 160 du _ (H.gt 1)) ?_
   rintro vq fI ⟨r0,r1,bX,rfl,hvq,ao⟩
   subst vq;(try dsimp only at hM);replace H:=H.bk ao;clear ao;refine t_bs (α:=Int) T22 [I 0,I 100,I 150] [(0:Int),(100:Int),(150:Int)] H rfl (.cons rfl (Flat.rep_enc _ (0:Int))<|.cons rfl (Flat.rep_enc _ (100:Int))<|.cons rfl (Flat.rep_enc _ (150:Int))<|.nil) rfl rfl rfl ?_;intro ag fJ H;refine t_alloc (cs:=[I 0,.slice none 0 0]) H Al25 rfl ?_;intro ap fK H;refine t_alloc (cs:=[I 0]) H Al3 rfl ?_;intro aq fL H;refine t_alloc (cs:=[I 0]) H Al3 rfl ?_;intro ar fM H;refine t_sw 2 0 [I r0,bX] (.agg #[I r0,bX]) H rfl rfl Sz25 rfl rfl rfl (by simp only [List.all_cons,List.all_nil,Bool.true_and,Bool.and_true,Sl.oc (H.os 4)]; try rfl) ?_;intro fN H;refine kg 1 ?_;refine t_sw 1 0 [I 0] (I 0) H rfl rfl Sz3 rfl rfl rfl rfl ?_;intro fO H;refine t_sw 0 0 [I 2] (I 2) H rfl rfl Sz3 rfl rfl rfl rfl ?_;intro fP H;refine kg 3 ?_;refine s_val (x_bld (ps:=[(0,I 0)]) (zs:=[I 0,B false]) (L':=[I 0,B false]) rfl Tryz.underlying28 Al28 rfl (Bd28 Tryz.underlying28) (.cons (cs:=[I 0]) rfl rfl rfl rfl rfl<|.nil))<|s_val (x_bld (ps:=[(0,I 1)]) (zs:=[I 0,B false]) (L':=[I 1,B false]) rfl Tryz.underlying28 Al28 rfl (Bd28 Tryz.underlying28) (.cons (cs:=[I 1]) rfl rfl rfl rfl rfl<|.nil))<|s_val (x_bld (ps:=[(0,I 2),(1,B true)]) (zs:=[I 0,B false]) (L':=[I 2,B true]) rfl Tryz.underlying28 Al28 rfl (Bd28 Tryz.underlying28) (.cons (cs:=[I 2]) rfl rfl rfl rfl rfl<|.cons (cs:=[B true]) rfl rfl rfl rfl rfl<|.nil)) ?_;refine t_bs (α:=Leg) T29 [.agg #[I 0,B false],.agg #[I 1,B false],.agg #[I 2,B true]] [(⟨(0:Int),false⟩:Leg),(⟨(1:Int),false⟩:Leg),(⟨(2:Int),true⟩:Leg)] H rfl (.cons rfl (Flat.rep_enc _ (⟨(0:Int),false⟩:Leg))<|.cons rfl (Flat.rep_enc _ (⟨(1:Int),false⟩:Leg))<|.cons rfl (Flat.rep_enc _ (⟨(2:Int),true⟩:Leg))<|.nil) rfl rfl rfl ?_;intro ai fQ H;refine s_val (x_bld (ps:=[(0,I 2),(1,I 6)]) (zs:=[I 0,I 0]) (L':=[I 2,I 6]) rfl Tryz.underlying31 Al31 rfl (Bd31 Tryz.underlying31) (.cons (cs:=[I 2]) rfl rfl rfl rfl rfl<|.cons (cs:=[I 6]) rfl rfl rfl rfl rfl<|.nil)) ?_;refine t_alloc (cs:=[I 0,I 0]) H Al31 rfl ?_;intro aj fR H;refine kg 1 ?_;refine t_sw 0 0 [I 2,I 6] (.agg #[I 2,I 6]) H rfl rfl Sz31 rfl rfl rfl rfl ?_;intro fS H;refine s_nil ?_;refine W.seqJ (fun σ W=>∃ (s:Int) (l:List Line) (ae:Value) (ρ:Env),σ=upds ρ [(2,I (([(-1000001:Int),(-1000000:Int),(-1:Int),(0:Int),(1:Int),(2:Int),(3:Int),(4:Int),(5:Int),(6:Int),(9:Int),(10:Int),(11:Int),(12:Int),(13:Int),(100:Int),(9999:Int),(10000:Int),(10001:Int),(39999:Int),(40000:Int),(40001:Int),(1000000:Int),(1000001:Int),(1000000000:Int),(1000000001:Int),(9223372036854775807:Int),(-9223372036854775808:Int)]).getD s8 0)),(3,I (s7:Int)),(4,Pq ap),(5,ag),(6,Pq aq),(7,Pq ar),(8,ai),(9,Pq aj),(27,ax),(28,I (([(-1000001:Int),(-1000000:Int),(-1:Int),(0:Int),(1:Int),(2:Int),(3:Int),(4:Int),(5:Int),(6:Int),(9:Int),(10:Int),(11:Int),(12:Int),(13:Int),(100:Int),(9999:Int),(10000:Int),(10001:Int),(39999:Int),(40000:Int),(40001:Int),(1000000:Int),(1000001:Int),(1000000000:Int),(1000000001:Int),(9223372036854775807:Int),(-9223372036854775808:Int)]).length:Int)),(29,I (s8:Int)),(33,I (s7:Int))]/\(za8 s8 s7 s l).Ends cQ/\St w W [cBlk aj [I 2,I 6] 31,cOwn (α:=Leg) 28 ai ([(⟨(0:Int),false⟩:Leg),(⟨(1:Int),false⟩:Leg),(⟨(2:Int),true⟩:Leg)]),cBlk ar [I 2] 3,cBlk aq [I 0] 3,cBlk ap [I s,ae] 25,cOwn (α:=Int) 3 ag ([(0:Int),(100:Int),(150:Int)]),cOwn (α:=Line) 34 ae l,cOwn (α:=Int) 3 ax ([(-1000001:Int),(-1000000:Int),(-1:Int),(0:Int),(1:Int),(2:Int),(3:Int),(4:Int),(5:Int),(6:Int),(9:Int),(10:Int),(11:Int),(12:Int),(13:Int),(100:Int),(9999:Int),(10000:Int),(10001:Int),(39999:Int),(40000:Int),(40001:Int),(1000000:Int),(1000001:Int),(1000000000:Int),(1000000001:Int),(9223372036854775807:Int),(-9223372036854775808:Int)])] R) ?_ ?_
   ·skip
    refine kg 5 ?_
    refine W.cond (decide (10<(s7:Int))) rfl (fun aZ=>?_) (fun aZ=>?_)
    ·replace hM:=M.e_t hM aZ
     replace aZ:=dI aZ
     refine W.region rfl ?_;obtain ⟨fT,dv,hM⟩:=M.e_bind hM;refine s_call cf4 [I 148] rfl (zar 148 dv _ (H.gt 8)) ?_
     rintro vq fU ⟨bY,dw,bZ,rfl,hvq,ao⟩
     subst vq;(try dsimp only at hM);replace H:=H.bk ao;clear ao;refine t_sw 5 0 [I bY,bZ] (.agg #[I bY,bZ]) H rfl rfl Sz25 rfl rfl rfl (by simp only [List.all_cons,List.all_nil,Bool.true_and,Bool.and_true,Sl.oc (H.os 0)]; try rfl) ?_;intro fV H;refine s_nil ?_
     exact ⟨bY,dw,bZ,_,upds_of _ _ ⟨rfl,rfl,rfl,rfl,rfl,rfl,rfl,rfl,rfl,rfl,rfl,rfl,trivial⟩,hM,(H.pk [1,2,3,4,5,6,0,8])⟩
    replace hM:=M.e_f hM aZ
    replace aZ:=dI aZ
    refine W.skip ?_
    exact ⟨r0,r1,bX,_,upds_of _ _ ⟨rfl,rfl,rfl,rfl,rfl,rfl,rfl,rfl,rfl,rfl,rfl,rfl,trivial⟩,hM,H⟩
   rintro _ fW ⟨s,l,ae,ρ,rfl,hM,H⟩
   unfold za8 at hM
   refine W.seq ?_;refine W.draw (fun W=>St w W [cBlk aj [I 2,I 6] 31,cOwn (α:=Leg) 28 ai ([(⟨(0:Int),false⟩:Leg),(⟨(1:Int),false⟩:Leg),(⟨(2:Int),true⟩:Leg)]),cBlk ar [I 2] 3,cBlk aq [I 0] 3,cBlk ap [I s,ae] 25,cOwn (α:=Int) 3 ag ([(0:Int),(100:Int),(150:Int)]),cOwn (α:=Line) 34 ae l,cOwn (α:=Int) 3 ax ([(-1000001:Int),(-1000000:Int),(-1:Int),(0:Int),(1:Int),(2:Int),(3:Int),(4:Int),(5:Int),(6:Int),(9:Int),(10:Int),(11:Int),(12:Int),(13:Int),(100:Int),(9999:Int),(10000:Int),(10001:Int),(39999:Int),(40000:Int),(40001:Int),(1000000:Int),(1000001:Int),(1000000000:Int),(1000000001:Int),(9223372036854775807:Int),(-9223372036854775808:Int)])] R) [(0,true),(1,true),(2,true),(3,true),(4,true),(5,true),(6,true),(7,true),(8,true),(9,true),(10,true),(11,true),(12,true),(13,true),(14,true),(15,true),(16,true),(17,true),(18,true),(19,true),(20,true),(21,true),(22,true),(23,true),(24,true),(25,true),(26,true),(27,true),(28,true),(29,true),(30,true),(31,true),(32,true),(33,true),(34,false),(35,true)] mixed (by decide +kernel) rfl ?_;intro fX au;replace H:=H.ext au;clear au
   refine ⟨(H.pk [0,1,2,3,4,5,6,7]),?_⟩
   obtain ⟨fY,hM⟩:=M.e_gd hM;obtain ⟨fZ,hM⟩:=M.e_gd hM;obtain ⟨f0,hM⟩:=M.e_gd hM;obtain ⟨f9,hM⟩:=M.e_gd hM;obtain ⟨ga,hM⟩:=M.e_gd hM;obtain ⟨gc,hM⟩:=M.e_gd hM;refine kg 34 ?_;refine d_l rfl ?_
   have aA:=ptF (Sl.pl (i:=1) (H.os 6) (by omega) (by omega)) (off:=0)
   replace aA:PtV (fat (vat ae 5 (Int.toNat 1)) 0):=aA
   have aB:=ptF (Sl.pl (i:=2) (H.os 6) (by omega) (by omega)) (off:=1)
   replace aB:PtV (fat (vat ae 5 (Int.toNat 2)) 1):=aB
   have aC:=ptF (Sl.pl (i:=2) (H.os 6) (by omega) (by omega)) (off:=2)
   replace aC:PtV (fat (vat ae 5 (Int.toNat 2)) 2):=aC
   have aD:=ptF (Sl.pl (i:=2) (H.os 6) (by omega) (by omega)) (off:=3)
   replace aD:PtV (fat (vat ae 5 (Int.toNat 2)) 3):=aD
   have aE:=ptF (Sl.pl (i:=2) (H.os 6) (by omega) (by omega)) (off:=4)
   replace aE:PtV (fat (vat ae 5 (Int.toNat 2)) 4):=aE
   have aF:=ptE (Sl.pl (i:=0) (H.os 5) (by omega) (by omega))
   replace aF:PtV (vat ag 1 (Int.toNat 0)):=aF
   have aG:=ptE (Sl.pl (i:=2) (H.os 5) (by omega) (by omega))
   replace aG:PtV (vat ag 1 (Int.toNat 2)):=aG
   have aH:=ptF (Sl.pl (i:=1) (H.os 1) (by omega) (by omega)) (off:=0)
   replace aH:PtV (fat (vat ai 2 (Int.toNat 1)) 0):=aH
   have aI:=ptF (Sl.pl (i:=0) (H.os 6) (by omega) (by omega)) (off:=3)
   replace aI:PtV (fat (vat ae 5 (Int.toNat 0)) 3):=aI
   refine t_bs (α:=Raw 0) T35 [Pq ap,fat (vat ae 5 (Int.toNat 1)) 0,fat (vat ae 5 (Int.toNat 2)) 1,fat (vat ae 5 (Int.toNat 2)) 2,fat (vat ae 5 (Int.toNat 2)) 3,fat (vat ae 5 (Int.toNat 2)) 4,vat ag 1 (Int.toNat 0),vat ag 1 (Int.toNat 2),fat (vat ai 2 (Int.toNat 1)) 0,Pq aj,Oq aj 1,Pq aq,Pq ar,fat (vat ae 5 (Int.toNat 0)) 3] [rawV (Pq ap) (ptB _),rawV (fat (vat ae 5 (Int.toNat 1)) 0) aA,rawV (fat (vat ae 5 (Int.toNat 2)) 1) aB,rawV (fat (vat ae 5 (Int.toNat 2)) 2) aC,rawV (fat (vat ae 5 (Int.toNat 2)) 3) aD,rawV (fat (vat ae 5 (Int.toNat 2)) 4) aE,rawV (vat ag 1 (Int.toNat 0)) aF,rawV (vat ag 1 (Int.toNat 2)) aG,rawV (fat (vat ai 2 (Int.toNat 1)) 0) aH,rawV (Pq aj) (ptB _),rawV (Oq aj 1) (ptB _),rawV (Pq aq) (ptB _),rawV (Pq ar) (ptB _),rawV (fat (vat ae 5 (Int.toNat 0)) 3) aI] H rfl (.cons (ptB _).1 rfl<|.cons aA.1 rfl<|.cons aB.1 rfl<|.cons aC.1 rfl<|.cons aD.1 rfl<|.cons aE.1 rfl<|.cons aF.1 rfl<|.cons aG.1 rfl<|.cons aH.1 rfl<|.cons (ptB _).1 rfl<|.cons (ptB _).1 rfl<|.cons (ptB _).1 rfl<|.cons (ptB _).1 rfl<|.cons aI.1 rfl<|.nil) rfl rfl rfl ?_;intro av gf H
   have aK:([rawV (Pq ap) (ptB _),rawV (fat (vat ae 5 (Int.toNat 1)) 0) aA,rawV (fat (vat ae 5 (Int.toNat 2)) 1) aB,rawV (fat (vat ae 5 (Int.toNat 2)) 2) aC,rawV (fat (vat ae 5 (Int.toNat 2)) 3) aD,rawV (fat (vat ae 5 (Int.toNat 2)) 4) aE,rawV (vat ag 1 (Int.toNat 0)) aF,rawV (vat ag 1 (Int.toNat 2)) aG,rawV (fat (vat ai 2 (Int.toNat 1)) 0) aH,rawV (Pq aj) (ptB _),rawV (Oq aj 1) (ptB _),rawV (Pq aq) (ptB _),rawV (Pq ar) (ptB _),rawV (fat (vat ae 5 (Int.toNat 0)) 3) aI]:List (Raw 0)).length=14:=rfl
   have gg:=Sl.cells (H.os 0)
   have gh:=Sl.oc (H.os 0)
   have gi:=ownSl (H.get (k:=0) rfl)
   refine s_nil ⟨(H.pk [1,2,3,4,5,6,7,8]),?_⟩
   refine kg 2 ?_;refine W.seqJ (fun σ W=>∃ (s2:Int) (l2:List Line) (l3:List Int) (l4:List Leg) (s3:Int) (s4:Int) (s5:Int) (s6:Int) (aR:Value) (bA:Value) (bu:Value) (ρ:Env),σ=upds ρ [(2,I (([(-1000001:Int),(-1000000:Int),(-1:Int),(0:Int),(1:Int),(2:Int),(3:Int),(4:Int),(5:Int),(6:Int),(9:Int),(10:Int),(11:Int),(12:Int),(13:Int),(100:Int),(9999:Int),(10000:Int),(10001:Int),(39999:Int),(40000:Int),(40001:Int),(1000000:Int),(1000001:Int),(1000000000:Int),(1000000001:Int),(9223372036854775807:Int),(-9223372036854775808:Int)]).getD s8 0)),(4,Pq ap),(5,bA),(6,Pq aq),(7,Pq ar),(8,bu),(9,Pq aj),(27,ax),(28,I (([(-1000001:Int),(-1000000:Int),(-1:Int),(0:Int),(1:Int),(2:Int),(3:Int),(4:Int),(5:Int),(6:Int),(9:Int),(10:Int),(11:Int),(12:Int),(13:Int),(100:Int),(9999:Int),(10000:Int),(10001:Int),(39999:Int),(40000:Int),(40001:Int),(1000000:Int),(1000001:Int),(1000000000:Int),(1000000001:Int),(9223372036854775807:Int),(-9223372036854775808:Int)]).length:Int)),(29,I (s8:Int)),(33,I (s7:Int))]/\(zab s7 s2 l2 l3 l4 s3 s4 s5 s6).Ends cQ/\St w W [cOwn (α:=Raw 0) 32 av ([rawV (Pq ap) (ptB _),rawV (fat (vat ae 5 (Int.toNat 1)) 0) aA,rawV (fat (vat ae 5 (Int.toNat 2)) 1) aB,rawV (fat (vat ae 5 (Int.toNat 2)) 2) aC,rawV (fat (vat ae 5 (Int.toNat 2)) 3) aD,rawV (fat (vat ae 5 (Int.toNat 2)) 4) aE,rawV (vat ag 1 (Int.toNat 0)) aF,rawV (vat ag 1 (Int.toNat 2)) aG,rawV (fat (vat ai 2 (Int.toNat 1)) 0) aH,rawV (Pq aj) (ptB _),rawV (Oq aj 1) (ptB _),rawV (Pq aq) (ptB _),rawV (Pq ar) (ptB _),rawV (fat (vat ae 5 (Int.toNat 0)) 3) aI]),cBlk aj [I s3,I s4] 31,cOwn (α:=Leg) 28 bu l4,cBlk ar [I s6] 3,cBlk aq [I s5] 3,cBlk ap [I s2,aR] 25,cOwn (α:=Int) 3 bA l3,cOwn (α:=Line) 34 aR l2,cOwn (α:=Int) 3 ax ([(-1000001:Int),(-1000000:Int),(-1:Int),(0:Int),(1:Int),(2:Int),(3:Int),(4:Int),(5:Int),(6:Int),(9:Int),(10:Int),(11:Int),(12:Int),(13:Int),(100:Int),(9999:Int),(10000:Int),(10001:Int),(39999:Int),(40000:Int),(40001:Int),(1000000:Int),(1000001:Int),(1000000000:Int),(1000000001:Int),(9223372036854775807:Int),(-9223372036854775808:Int)])] R) ?_ ?_
   ·skip
    refine W.byc ((s7:Int)==0) (fun bB=>?_) (fun bB=>?_)
    ·replace hM:=M.e_t hM bB
     have dx:(s7:Int)=0:=eq_of_beq bB
     obtain ⟨gj,hM⟩:=M.e_gd hM;refine kg 3 ?_;refine s_val (x_ix (v:=vat av 1 (Int.toNat (s7:Int))) rfl rfl (Sl.ix (α:=Raw 0) T35.und T35.size (H.os 0) (by omega) (by have aL:=aK; omega)))<|s_val (x_ld (v:=Pq ap) rfl (ld_sc Sc32 (At.mono (raw_at (i:=(s7:Int)) (k:=0) (H.os 0) dx rfl) (H.ol 0)))) ?_;refine kg 2 ?_;refine t_sw 5 0 [I (([(-1000001:Int),(-1000000:Int),(-1:Int),(0:Int),(1:Int),(2:Int),(3:Int),(4:Int),(5:Int),(6:Int),(9:Int),(10:Int),(11:Int),(12:Int),(13:Int),(100:Int),(9999:Int),(10000:Int),(10001:Int),(39999:Int),(40000:Int),(40001:Int),(1000000:Int),(1000001:Int),(1000000000:Int),(1000000001:Int),(9223372036854775807:Int),(-9223372036854775808:Int)]).getD s8 0)] (I (([(-1000001:Int),(-1000000:Int),(-1:Int),(0:Int),(1:Int),(2:Int),(3:Int),(4:Int),(5:Int),(6:Int),(9:Int),(10:Int),(11:Int),(12:Int),(13:Int),(100:Int),(9999:Int),(10000:Int),(10001:Int),(39999:Int),(40000:Int),(40001:Int),(1000000:Int),(1000001:Int),(1000000000:Int),(1000000001:Int),(9223372036854775807:Int),(-9223372036854775808:Int)]).getD s8 0)) H rfl rfl Sz3 rfl rfl rfl rfl ?_;intro gk H;refine s_nil ?_
     exact ⟨([(-1000001:Int),(-1000000:Int),(-1:Int),(0:Int),(1:Int),(2:Int),(3:Int),(4:Int),(5:Int),(6:Int),(9:Int),(10:Int),(11:Int),(12:Int),(13:Int),(100:Int),(9999:Int),(10000:Int),(10001:Int),(39999:Int),(40000:Int),(40001:Int),(1000000:Int),(1000001:Int),(1000000000:Int),(1000000001:Int),(9223372036854775807:Int),(-9223372036854775808:Int)]).getD s8 0,l,[(0:Int),(100:Int),(150:Int)],[(⟨(0:Int),false⟩:Leg),(⟨(1:Int),false⟩:Leg),(⟨(2:Int),true⟩:Leg)],2,6,0,2,ae,ag,ai,_,upds_of _ _ ⟨rfl,rfl,rfl,rfl,rfl,rfl,rfl,rfl,rfl,rfl,rfl,trivial⟩,hM,H⟩
    replace hM:=M.e_f hM bB
    refine W.byc ((s7:Int)==1) (fun bC=>?_) (fun bC=>?_)
    ·replace hM:=M.e_t hM bC
     have dy:(s7:Int)=1:=eq_of_beq bC
     obtain ⟨gl,hM⟩:=M.e_gd hM;refine kg 3 ?_;refine s_val (x_ix (v:=vat av 1 (Int.toNat (s7:Int))) rfl rfl (Sl.ix (α:=Raw 0) T35.und T35.size (H.os 0) (by omega) (by have aL:=aK; omega)))<|s_val (x_ld (v:=fat (vat ae 5 (Int.toNat 1)) 0) rfl (ld_sc Sc32 (At.mono (raw_at (i:=(s7:Int)) (k:=1) (H.os 0) dy rfl) (H.ol 0)))) ?_;refine kg 1 ?_;refine s_val (x_ncE (p:=fat (vat ae 5 (Int.toNat 1)) 0) rfl (ptr_fat (Sl.pl (i:=1) (H.os 7) (by omega) (by omega)))) ?_;refine t_fst (α:=Line) (k:=7) (i:=1) (off:=0) (l:=l) (l':=l.set 1 ({ (l.getD 1 default) with src:=([(-1000001:Int),(-1000000:Int),(-1:Int),(0:Int),(1:Int),(2:Int),(3:Int),(4:Int),(5:Int),(6:Int),(9:Int),(10:Int),(11:Int),(12:Int),(13:Int),(100:Int),(9999:Int),(10000:Int),(10001:Int),(39999:Int),(40000:Int),(40001:Int),(1000000:Int),(1000001:Int),(1000000000:Int),(1000000001:Int),(9223372036854775807:Int),(-9223372036854775808:Int)]).getD s8 0 })) (val:=I (([(-1000001:Int),(-1000000:Int),(-1:Int),(0:Int),(1:Int),(2:Int),(3:Int),(4:Int),(5:Int),(6:Int),(9:Int),(10:Int),(11:Int),(12:Int),(13:Int),(100:Int),(9999:Int),(10000:Int),(10001:Int),(39999:Int),(40000:Int),(40001:Int),(1000000:Int),(1000001:Int),(1000000000:Int),(1000000001:Int),(9223372036854775807:Int),(-9223372036854775808:Int)]).getD s8 0)) (L':=[cOwn (α:=Raw 0) 32 av ([rawV (Pq ap) (ptB _),rawV (fat (vat ae 5 (Int.toNat 1)) 0) aA,rawV (fat (vat ae 5 (Int.toNat 2)) 1) aB,rawV (fat (vat ae 5 (Int.toNat 2)) 2) aC,rawV (fat (vat ae 5 (Int.toNat 2)) 3) aD,rawV (fat (vat ae 5 (Int.toNat 2)) 4) aE,rawV (vat ag 1 (Int.toNat 0)) aF,rawV (vat ag 1 (Int.toNat 2)) aG,rawV (fat (vat ai 2 (Int.toNat 1)) 0) aH,rawV (Pq aj) (ptB _),rawV (Oq aj 1) (ptB _),rawV (Pq aq) (ptB _),rawV (Pq ar) (ptB _),rawV (fat (vat ae 5 (Int.toNat 0)) 3) aI]),cBlk aj [I 2,I 6] 31,cOwn (α:=Leg) 28 ai ([(⟨(0:Int),false⟩:Leg),(⟨(1:Int),false⟩:Leg),(⟨(2:Int),true⟩:Leg)]),cBlk ar [I 2] 3,cBlk aq [I 0] 3,cBlk ap [I s,ae] 25,cOwn (α:=Int) 3 ag ([(0:Int),(100:Int),(150:Int)]),cOwn (α:=Line) 34 ae (l.set 1 ({ (l.getD 1 default) with src:=([(-1000001:Int),(-1000000:Int),(-1:Int),(0:Int),(1:Int),(2:Int),(3:Int),(4:Int),(5:Int),(6:Int),(9:Int),(10:Int),(11:Int),(12:Int),(13:Int),(100:Int),(9999:Int),(10000:Int),(10001:Int),(39999:Int),(40000:Int),(40001:Int),(1000000:Int),(1000001:Int),(1000000000:Int),(1000000001:Int),(9223372036854775807:Int),(-9223372036854775808:Int)]).getD s8 0 })),cOwn (α:=Int) 3 ax ([(-1000001:Int),(-1000000:Int),(-1:Int),(0:Int),(1:Int),(2:Int),(3:Int),(4:Int),(5:Int),(6:Int),(9:Int),(10:Int),(11:Int),(12:Int),(13:Int),(100:Int),(9999:Int),(10000:Int),(10001:Int),(39999:Int),(40000:Int),(40001:Int),(1000000:Int),(1000001:Int),(1000000000:Int),(1000000001:Int),(9223372036854775807:Int),(-9223372036854775808:Int)])]) H rfl Sz3 (by omega) (by omega) (l.getD 1 default) ({ (l.getD 1 default) with src:=([(-1000001:Int),(-1000000:Int),(-1:Int),(0:Int),(1:Int),(2:Int),(3:Int),(4:Int),(5:Int),(6:Int),(9:Int),(10:Int),(11:Int),(12:Int),(13:Int),(100:Int),(9999:Int),(10000:Int),(10001:Int),(39999:Int),(40000:Int),(40001:Int),(1000000:Int),(1000001:Int),(1000000000:Int),(1000000001:Int),(9223372036854775807:Int),(-9223372036854775808:Int)]).getD s8 0 }) (getD_some _ (by omega) _) rfl rfl [I (([(-1000001:Int),(-1000000:Int),(-1:Int),(0:Int),(1:Int),(2:Int),(3:Int),(4:Int),(5:Int),(6:Int),(9:Int),(10:Int),(11:Int),(12:Int),(13:Int),(100:Int),(9999:Int),(10000:Int),(10001:Int),(39999:Int),(40000:Int),(40001:Int),(1000000:Int),(1000001:Int),(1000000000:Int),(1000000001:Int),(9223372036854775807:Int),(-9223372036854775808:Int)]).getD s8 0)] rfl rfl rfl rfl rfl rfl rfl ?_;intro gm H
     have gn:(l.set 1 ({ (l.getD 1 default) with src:=([(-1000001:Int),(-1000000:Int),(-1:Int),(0:Int),(1:Int),(2:Int),(3:Int),(4:Int),(5:Int),(6:Int),(9:Int),(10:Int),(11:Int),(12:Int),(13:Int),(100:Int),(9999:Int),(10000:Int),(10001:Int),(39999:Int),(40000:Int),(40001:Int),(1000000:Int),(1000001:Int),(1000000000:Int),(1000000001:Int),(9223372036854775807:Int),(-9223372036854775808:Int)]).getD s8 0 })).length=(l).length:=List.length_set
     refine s_nil ?_
     exact ⟨s,l.set 1 ({ (l.getD 1 default) with src:=([(-1000001:Int),(-1000000:Int),(-1:Int),(0:Int),(1:Int),(2:Int),(3:Int),(4:Int),(5:Int),(6:Int),(9:Int),(10:Int),(11:Int),(12:Int),(13:Int),(100:Int),(9999:Int),(10000:Int),(10001:Int),(39999:Int),(40000:Int),(40001:Int),(1000000:Int),(1000001:Int),(1000000000:Int),(1000000001:Int),(9223372036854775807:Int),(-9223372036854775808:Int)]).getD s8 0 }),[(0:Int),(100:Int),(150:Int)],[(⟨(0:Int),false⟩:Leg),(⟨(1:Int),false⟩:Leg),(⟨(2:Int),true⟩:Leg)],2,6,0,2,ae,ag,ai,_,upds_of _ _ ⟨rfl,rfl,rfl,rfl,rfl,rfl,rfl,rfl,rfl,rfl,rfl,trivial⟩,hM,H⟩
    replace hM:=M.e_f hM bC
    refine W.byc ((s7:Int)==2) (fun bD=>?_) (fun bD=>?_)
    ·replace hM:=M.e_t hM bD
     have dz:(s7:Int)=2:=eq_of_beq bD
     obtain ⟨gp,hM⟩:=M.e_gd hM;refine kg 3 ?_;refine s_val (x_ix (v:=vat av 1 (Int.toNat (s7:Int))) rfl rfl (Sl.ix (α:=Raw 0) T35.und T35.size (H.os 0) (by omega) (by have aL:=aK; omega)))<|s_val (x_ld (v:=fat (vat ae 5 (Int.toNat 2)) 1) rfl (ld_sc Sc32 (At.mono (raw_at (i:=(s7:Int)) (k:=2) (H.os 0) dz rfl) (H.ol 0)))) ?_;refine kg 1 ?_;refine s_val (x_ncE (p:=fat (vat ae 5 (Int.toNat 2)) 1) rfl (ptr_fat (Sl.pl (i:=2) (H.os 7) (by omega) (by omega)))) ?_;refine t_fst (α:=Line) (k:=7) (i:=2) (off:=1) (l:=l) (l':=l.set 2 ({ (l.getD 2 default) with dst:=([(-1000001:Int),(-1000000:Int),(-1:Int),(0:Int),(1:Int),(2:Int),(3:Int),(4:Int),(5:Int),(6:Int),(9:Int),(10:Int),(11:Int),(12:Int),(13:Int),(100:Int),(9999:Int),(10000:Int),(10001:Int),(39999:Int),(40000:Int),(40001:Int),(1000000:Int),(1000001:Int),(1000000000:Int),(1000000001:Int),(9223372036854775807:Int),(-9223372036854775808:Int)]).getD s8 0 })) (val:=I (([(-1000001:Int),(-1000000:Int),(-1:Int),(0:Int),(1:Int),(2:Int),(3:Int),(4:Int),(5:Int),(6:Int),(9:Int),(10:Int),(11:Int),(12:Int),(13:Int),(100:Int),(9999:Int),(10000:Int),(10001:Int),(39999:Int),(40000:Int),(40001:Int),(1000000:Int),(1000001:Int),(1000000000:Int),(1000000001:Int),(9223372036854775807:Int),(-9223372036854775808:Int)]).getD s8 0)) (L':=[cOwn (α:=Raw 0) 32 av ([rawV (Pq ap) (ptB _),rawV (fat (vat ae 5 (Int.toNat 1)) 0) aA,rawV (fat (vat ae 5 (Int.toNat 2)) 1) aB,rawV (fat (vat ae 5 (Int.toNat 2)) 2) aC,rawV (fat (vat ae 5 (Int.toNat 2)) 3) aD,rawV (fat (vat ae 5 (Int.toNat 2)) 4) aE,rawV (vat ag 1 (Int.toNat 0)) aF,rawV (vat ag 1 (Int.toNat 2)) aG,rawV (fat (vat ai 2 (Int.toNat 1)) 0) aH,rawV (Pq aj) (ptB _),rawV (Oq aj 1) (ptB _),rawV (Pq aq) (ptB _),rawV (Pq ar) (ptB _),rawV (fat (vat ae 5 (Int.toNat 0)) 3) aI]),cBlk aj [I 2,I 6] 31,cOwn (α:=Leg) 28 ai ([(⟨(0:Int),false⟩:Leg),(⟨(1:Int),false⟩:Leg),(⟨(2:Int),true⟩:Leg)]),cBlk ar [I 2] 3,cBlk aq [I 0] 3,cBlk ap [I s,ae] 25,cOwn (α:=Int) 3 ag ([(0:Int),(100:Int),(150:Int)]),cOwn (α:=Line) 34 ae (l.set 2 ({ (l.getD 2 default) with dst:=([(-1000001:Int),(-1000000:Int),(-1:Int),(0:Int),(1:Int),(2:Int),(3:Int),(4:Int),(5:Int),(6:Int),(9:Int),(10:Int),(11:Int),(12:Int),(13:Int),(100:Int),(9999:Int),(10000:Int),(10001:Int),(39999:Int),(40000:Int),(40001:Int),(1000000:Int),(1000001:Int),(1000000000:Int),(1000000001:Int),(9223372036854775807:Int),(-9223372036854775808:Int)]).getD s8 0 })),cOwn (α:=Int) 3 ax ([(-1000001:Int),(-1000000:Int),(-1:Int),(0:Int),(1:Int),(2:Int),(3:Int),(4:Int),(5:Int),(6:Int),(9:Int),(10:Int),(11:Int),(12:Int),(13:Int),(100:Int),(9999:Int),(10000:Int),(10001:Int),(39999:Int),(40000:Int),(40001:Int),(1000000:Int),(1000001:Int),(1000000000:Int),(1000000001:Int),(9223372036854775807:Int),(-9223372036854775808:Int)])]) H rfl Sz3 (by omega) (by omega) (l.getD 2 default) ({ (l.getD 2 default) with dst:=([(-1000001:Int),(-1000000:Int),(-1:Int),(0:Int),(1:Int),(2:Int),(3:Int),(4:Int),(5:Int),(6:Int),(9:Int),(10:Int),(11:Int),(12:Int),(13:Int),(100:Int),(9999:Int),(10000:Int),(10001:Int),(39999:Int),(40000:Int),(40001:Int),(1000000:Int),(1000001:Int),(1000000000:Int),(1000000001:Int),(9223372036854775807:Int),(-9223372036854775808:Int)]).getD s8 0 }) (getD_some _ (by omega) _) rfl rfl [I (([(-1000001:Int),(-1000000:Int),(-1:Int),(0:Int),(1:Int),(2:Int),(3:Int),(4:Int),(5:Int),(6:Int),(9:Int),(10:Int),(11:Int),(12:Int),(13:Int),(100:Int),(9999:Int),(10000:Int),(10001:Int),(39999:Int),(40000:Int),(40001:Int),(1000000:Int),(1000001:Int),(1000000000:Int),(1000000001:Int),(9223372036854775807:Int),(-9223372036854775808:Int)]).getD s8 0)] rfl rfl rfl rfl rfl rfl rfl ?_;intro gq H
     have gr:(l.set 2 ({ (l.getD 2 default) with dst:=([(-1000001:Int),(-1000000:Int),(-1:Int),(0:Int),(1:Int),(2:Int),(3:Int),(4:Int),(5:Int),(6:Int),(9:Int),(10:Int),(11:Int),(12:Int),(13:Int),(100:Int),(9999:Int),(10000:Int),(10001:Int),(39999:Int),(40000:Int),(40001:Int),(1000000:Int),(1000001:Int),(1000000000:Int),(1000000001:Int),(9223372036854775807:Int),(-9223372036854775808:Int)]).getD s8 0 })).length=(l).length:=List.length_set
     refine s_nil ?_
     exact ⟨s,l.set 2 ({ (l.getD 2 default) with dst:=([(-1000001:Int),(-1000000:Int),(-1:Int),(0:Int),(1:Int),(2:Int),(3:Int),(4:Int),(5:Int),(6:Int),(9:Int),(10:Int),(11:Int),(12:Int),(13:Int),(100:Int),(9999:Int),(10000:Int),(10001:Int),(39999:Int),(40000:Int),(40001:Int),(1000000:Int),(1000001:Int),(1000000000:Int),(1000000001:Int),(9223372036854775807:Int),(-9223372036854775808:Int)]).getD s8 0 }),[(0:Int),(100:Int),(150:Int)],[(⟨(0:Int),false⟩:Leg),(⟨(1:Int),false⟩:Leg),(⟨(2:Int),true⟩:Leg)],2,6,0,2,ae,ag,ai,_,upds_of _ _ ⟨rfl,rfl,rfl,rfl,rfl,rfl,rfl,rfl,rfl,rfl,rfl,trivial⟩,hM,H⟩
    replace hM:=M.e_f hM bD
    refine W.byc ((s7:Int)==3) (fun bE=>?_) (fun bE=>?_)
    ·replace hM:=M.e_t hM bE
     have dA:(s7:Int)=3:=eq_of_beq bE
     obtain ⟨gu,hM⟩:=M.e_gd hM;refine kg 3 ?_;refine s_val (x_ix (v:=vat av 1 (Int.toNat (s7:Int))) rfl rfl (Sl.ix (α:=Raw 0) T35.und T35.size (H.os 0) (by omega) (by have aL:=aK; omega)))<|s_val (x_ld (v:=fat (vat ae 5 (Int.toNat 2)) 2) rfl (ld_sc Sc32 (At.mono (raw_at (i:=(s7:Int)) (k:=3) (H.os 0) dA rfl) (H.ol 0)))) ?_;refine kg 1 ?_;refine s_val (x_ncE (p:=fat (vat ae 5 (Int.toNat 2)) 2) rfl (ptr_fat (Sl.pl (i:=2) (H.os 7) (by omega) (by omega)))) ?_;refine t_fst (α:=Line) (k:=7) (i:=2) (off:=2) (l:=l) (l':=l.set 2 ({ (l.getD 2 default) with day:=([(-1000001:Int),(-1000000:Int),(-1:Int),(0:Int),(1:Int),(2:Int),(3:Int),(4:Int),(5:Int),(6:Int),(9:Int),(10:Int),(11:Int),(12:Int),(13:Int),(100:Int),(9999:Int),(10000:Int),(10001:Int),(39999:Int),(40000:Int),(40001:Int),(1000000:Int),(1000001:Int),(1000000000:Int),(1000000001:Int),(9223372036854775807:Int),(-9223372036854775808:Int)]).getD s8 0 })) (val:=I (([(-1000001:Int),(-1000000:Int),(-1:Int),(0:Int),(1:Int),(2:Int),(3:Int),(4:Int),(5:Int),(6:Int),(9:Int),(10:Int),(11:Int),(12:Int),(13:Int),(100:Int),(9999:Int),(10000:Int),(10001:Int),(39999:Int),(40000:Int),(40001:Int),(1000000:Int),(1000001:Int),(1000000000:Int),(1000000001:Int),(9223372036854775807:Int),(-9223372036854775808:Int)]).getD s8 0)) (L':=[cOwn (α:=Raw 0) 32 av ([rawV (Pq ap) (ptB _),rawV (fat (vat ae 5 (Int.toNat 1)) 0) aA,rawV (fat (vat ae 5 (Int.toNat 2)) 1) aB,rawV (fat (vat ae 5 (Int.toNat 2)) 2) aC,rawV (fat (vat ae 5 (Int.toNat 2)) 3) aD,rawV (fat (vat ae 5 (Int.toNat 2)) 4) aE,rawV (vat ag 1 (Int.toNat 0)) aF,rawV (vat ag 1 (Int.toNat 2)) aG,rawV (fat (vat ai 2 (Int.toNat 1)) 0) aH,rawV (Pq aj) (ptB _),rawV (Oq aj 1) (ptB _),rawV (Pq aq) (ptB _),rawV (Pq ar) (ptB _),rawV (fat (vat ae 5 (Int.toNat 0)) 3) aI]),cBlk aj [I 2,I 6] 31,cOwn (α:=Leg) 28 ai ([(⟨(0:Int),false⟩:Leg),(⟨(1:Int),false⟩:Leg),(⟨(2:Int),true⟩:Leg)]),cBlk ar [I 2] 3,cBlk aq [I 0] 3,cBlk ap [I s,ae] 25,cOwn (α:=Int) 3 ag ([(0:Int),(100:Int),(150:Int)]),cOwn (α:=Line) 34 ae (l.set 2 ({ (l.getD 2 default) with day:=([(-1000001:Int),(-1000000:Int),(-1:Int),(0:Int),(1:Int),(2:Int),(3:Int),(4:Int),(5:Int),(6:Int),(9:Int),(10:Int),(11:Int),(12:Int),(13:Int),(100:Int),(9999:Int),(10000:Int),(10001:Int),(39999:Int),(40000:Int),(40001:Int),(1000000:Int),(1000001:Int),(1000000000:Int),(1000000001:Int),(9223372036854775807:Int),(-9223372036854775808:Int)]).getD s8 0 })),cOwn (α:=Int) 3 ax ([(-1000001:Int),(-1000000:Int),(-1:Int),(0:Int),(1:Int),(2:Int),(3:Int),(4:Int),(5:Int),(6:Int),(9:Int),(10:Int),(11:Int),(12:Int),(13:Int),(100:Int),(9999:Int),(10000:Int),(10001:Int),(39999:Int),(40000:Int),(40001:Int),(1000000:Int),(1000001:Int),(1000000000:Int),(1000000001:Int),(9223372036854775807:Int),(-9223372036854775808:Int)])]) H rfl Sz3 (by omega) (by omega) (l.getD 2 default) ({ (l.getD 2 default) with day:=([(-1000001:Int),(-1000000:Int),(-1:Int),(0:Int),(1:Int),(2:Int),(3:Int),(4:Int),(5:Int),(6:Int),(9:Int),(10:Int),(11:Int),(12:Int),(13:Int),(100:Int),(9999:Int),(10000:Int),(10001:Int),(39999:Int),(40000:Int),(40001:Int),(1000000:Int),(1000001:Int),(1000000000:Int),(1000000001:Int),(9223372036854775807:Int),(-9223372036854775808:Int)]).getD s8 0 }) (getD_some _ (by omega) _) rfl rfl [I (([(-1000001:Int),(-1000000:Int),(-1:Int),(0:Int),(1:Int),(2:Int),(3:Int),(4:Int),(5:Int),(6:Int),(9:Int),(10:Int),(11:Int),(12:Int),(13:Int),(100:Int),(9999:Int),(10000:Int),(10001:Int),(39999:Int),(40000:Int),(40001:Int),(1000000:Int),(1000001:Int),(1000000000:Int),(1000000001:Int),(9223372036854775807:Int),(-9223372036854775808:Int)]).getD s8 0)] rfl rfl rfl rfl rfl rfl rfl ?_;intro gv H
     have gw:(l.set 2 ({ (l.getD 2 default) with day:=([(-1000001:Int),(-1000000:Int),(-1:Int),(0:Int),(1:Int),(2:Int),(3:Int),(4:Int),(5:Int),(6:Int),(9:Int),(10:Int),(11:Int),(12:Int),(13:Int),(100:Int),(9999:Int),(10000:Int),(10001:Int),(39999:Int),(40000:Int),(40001:Int),(1000000:Int),(1000001:Int),(1000000000:Int),(1000000001:Int),(9223372036854775807:Int),(-9223372036854775808:Int)]).getD s8 0 })).length=(l).length:=List.length_set
     refine s_nil ?_
     exact ⟨s,l.set 2 ({ (l.getD 2 default) with day:=([(-1000001:Int),(-1000000:Int),(-1:Int),(0:Int),(1:Int),(2:Int),(3:Int),(4:Int),(5:Int),(6:Int),(9:Int),(10:Int),(11:Int),(12:Int),(13:Int),(100:Int),(9999:Int),(10000:Int),(10001:Int),(39999:Int),(40000:Int),(40001:Int),(1000000:Int),(1000001:Int),(1000000000:Int),(1000000001:Int),(9223372036854775807:Int),(-9223372036854775808:Int)]).getD s8 0 }),[(0:Int),(100:Int),(150:Int)],[(⟨(0:Int),false⟩:Leg),(⟨(1:Int),false⟩:Leg),(⟨(2:Int),true⟩:Leg)],2,6,0,2,ae,ag,ai,_,upds_of _ _ ⟨rfl,rfl,rfl,rfl,rfl,rfl,rfl,rfl,rfl,rfl,rfl,trivial⟩,hM,H⟩
    replace hM:=M.e_f hM bE
    refine W.byc ((s7:Int)==4) (fun bF=>?_) (fun bF=>?_)
    ·replace hM:=M.e_t hM bF
     have dB:(s7:Int)=4:=eq_of_beq bF
     obtain ⟨gx,hM⟩:=M.e_gd hM;refine kg 3 ?_;refine s_val (x_ix (v:=vat av 1 (Int.toNat (s7:Int))) rfl rfl (Sl.ix (α:=Raw 0) T35.und T35.size (H.os 0) (by omega) (by have aL:=aK; omega)))<|s_val (x_ld (v:=fat (vat ae 5 (Int.toNat 2)) 3) rfl (ld_sc Sc32 (At.mono (raw_at (i:=(s7:Int)) (k:=4) (H.os 0) dB rfl) (H.ol 0)))) ?_;refine kg 1 ?_;refine s_val (x_ncE (p:=fat (vat ae 5 (Int.toNat 2)) 3) rfl (ptr_fat (Sl.pl (i:=2) (H.os 7) (by omega) (by omega)))) ?_;refine t_fst (α:=Line) (k:=7) (i:=2) (off:=3) (l:=l) (l':=l.set 2 ({ (l.getD 2 default) with rise:=([(-1000001:Int),(-1000000:Int),(-1:Int),(0:Int),(1:Int),(2:Int),(3:Int),(4:Int),(5:Int),(6:Int),(9:Int),(10:Int),(11:Int),(12:Int),(13:Int),(100:Int),(9999:Int),(10000:Int),(10001:Int),(39999:Int),(40000:Int),(40001:Int),(1000000:Int),(1000001:Int),(1000000000:Int),(1000000001:Int),(9223372036854775807:Int),(-9223372036854775808:Int)]).getD s8 0 })) (val:=I (([(-1000001:Int),(-1000000:Int),(-1:Int),(0:Int),(1:Int),(2:Int),(3:Int),(4:Int),(5:Int),(6:Int),(9:Int),(10:Int),(11:Int),(12:Int),(13:Int),(100:Int),(9999:Int),(10000:Int),(10001:Int),(39999:Int),(40000:Int),(40001:Int),(1000000:Int),(1000001:Int),(1000000000:Int),(1000000001:Int),(9223372036854775807:Int),(-9223372036854775808:Int)]).getD s8 0)) (L':=[cOwn (α:=Raw 0) 32 av ([rawV (Pq ap) (ptB _),rawV (fat (vat ae 5 (Int.toNat 1)) 0) aA,rawV (fat (vat ae 5 (Int.toNat 2)) 1) aB,rawV (fat (vat ae 5 (Int.toNat 2)) 2) aC,rawV (fat (vat ae 5 (Int.toNat 2)) 3) aD,rawV (fat (vat ae 5 (Int.toNat 2)) 4) aE,rawV (vat ag 1 (Int.toNat 0)) aF,rawV (vat ag 1 (Int.toNat 2)) aG,rawV (fat (vat ai 2 (Int.toNat 1)) 0) aH,rawV (Pq aj) (ptB _),rawV (Oq aj 1) (ptB _),rawV (Pq aq) (ptB _),rawV (Pq ar) (ptB _),rawV (fat (vat ae 5 (Int.toNat 0)) 3) aI]),cBlk aj [I 2,I 6] 31,cOwn (α:=Leg) 28 ai ([(⟨(0:Int),false⟩:Leg),(⟨(1:Int),false⟩:Leg),(⟨(2:Int),true⟩:Leg)]),cBlk ar [I 2] 3,cBlk aq [I 0] 3,cBlk ap [I s,ae] 25,cOwn (α:=Int) 3 ag ([(0:Int),(100:Int),(150:Int)]),cOwn (α:=Line) 34 ae (l.set 2 ({ (l.getD 2 default) with rise:=([(-1000001:Int),(-1000000:Int),(-1:Int),(0:Int),(1:Int),(2:Int),(3:Int),(4:Int),(5:Int),(6:Int),(9:Int),(10:Int),(11:Int),(12:Int),(13:Int),(100:Int),(9999:Int),(10000:Int),(10001:Int),(39999:Int),(40000:Int),(40001:Int),(1000000:Int),(1000001:Int),(1000000000:Int),(1000000001:Int),(9223372036854775807:Int),(-9223372036854775808:Int)]).getD s8 0 })),cOwn (α:=Int) 3 ax ([(-1000001:Int),(-1000000:Int),(-1:Int),(0:Int),(1:Int),(2:Int),(3:Int),(4:Int),(5:Int),(6:Int),(9:Int),(10:Int),(11:Int),(12:Int),(13:Int),(100:Int),(9999:Int),(10000:Int),(10001:Int),(39999:Int),(40000:Int),(40001:Int),(1000000:Int),(1000001:Int),(1000000000:Int),(1000000001:Int),(9223372036854775807:Int),(-9223372036854775808:Int)])]) H rfl Sz3 (by omega) (by omega) (l.getD 2 default) ({ (l.getD 2 default) with rise:=([(-1000001:Int),(-1000000:Int),(-1:Int),(0:Int),(1:Int),(2:Int),(3:Int),(4:Int),(5:Int),(6:Int),(9:Int),(10:Int),(11:Int),(12:Int),(13:Int),(100:Int),(9999:Int),(10000:Int),(10001:Int),(39999:Int),(40000:Int),(40001:Int),(1000000:Int),(1000001:Int),(1000000000:Int),(1000000001:Int),(9223372036854775807:Int),(-9223372036854775808:Int)]).getD s8 0 }) (getD_some _ (by omega) _) rfl rfl [I (([(-1000001:Int),(-1000000:Int),(-1:Int),(0:Int),(1:Int),(2:Int),(3:Int),(4:Int),(5:Int),(6:Int),(9:Int),(10:Int),(11:Int),(12:Int),(13:Int),(100:Int),(9999:Int),(10000:Int),(10001:Int),(39999:Int),(40000:Int),(40001:Int),(1000000:Int),(1000001:Int),(1000000000:Int),(1000000001:Int),(9223372036854775807:Int),(-9223372036854775808:Int)]).getD s8 0)] rfl rfl rfl rfl rfl rfl rfl ?_;intro gy H
     have gz:(l.set 2 ({ (l.getD 2 default) with rise:=([(-1000001:Int),(-1000000:Int),(-1:Int),(0:Int),(1:Int),(2:Int),(3:Int),(4:Int),(5:Int),(6:Int),(9:Int),(10:Int),(11:Int),(12:Int),(13:Int),(100:Int),(9999:Int),(10000:Int),(10001:Int),(39999:Int),(40000:Int),(40001:Int),(1000000:Int),(1000001:Int),(1000000000:Int),(1000000001:Int),(9223372036854775807:Int),(-9223372036854775808:Int)]).getD s8 0 })).length=(l).length:=List.length_set
     refine s_nil ?_
     exact ⟨s,l.set 2 ({ (l.getD 2 default) with rise:=([(-1000001:Int),(-1000000:Int),(-1:Int),(0:Int),(1:Int),(2:Int),(3:Int),(4:Int),(5:Int),(6:Int),(9:Int),(10:Int),(11:Int),(12:Int),(13:Int),(100:Int),(9999:Int),(10000:Int),(10001:Int),(39999:Int),(40000:Int),(40001:Int),(1000000:Int),(1000001:Int),(1000000000:Int),(1000000001:Int),(9223372036854775807:Int),(-9223372036854775808:Int)]).getD s8 0 }),[(0:Int),(100:Int),(150:Int)],[(⟨(0:Int),false⟩:Leg),(⟨(1:Int),false⟩:Leg),(⟨(2:Int),true⟩:Leg)],2,6,0,2,ae,ag,ai,_,upds_of _ _ ⟨rfl,rfl,rfl,rfl,rfl,rfl,rfl,rfl,rfl,rfl,rfl,trivial⟩,hM,H⟩
    replace hM:=M.e_f hM bF
    refine W.byc ((s7:Int)==5) (fun bG=>?_) (fun bG=>?_)
    ·replace hM:=M.e_t hM bG
     have dC:(s7:Int)=5:=eq_of_beq bG
     obtain ⟨gA,hM⟩:=M.e_gd hM;refine kg 3 ?_;refine s_val (x_ix (v:=vat av 1 (Int.toNat (s7:Int))) rfl rfl (Sl.ix (α:=Raw 0) T35.und T35.size (H.os 0) (by omega) (by have aL:=aK; omega)))<|s_val (x_ld (v:=fat (vat ae 5 (Int.toNat 2)) 4) rfl (ld_sc Sc32 (At.mono (raw_at (i:=(s7:Int)) (k:=5) (H.os 0) dC rfl) (H.ol 0)))) ?_;refine kg 1 ?_;refine s_val (x_ncE (p:=fat (vat ae 5 (Int.toNat 2)) 4) rfl (ptr_fat (Sl.pl (i:=2) (H.os 7) (by omega) (by omega)))) ?_;refine t_fst (α:=Line) (k:=7) (i:=2) (off:=4) (l:=l) (l':=l.set 2 ({ (l.getD 2 default) with err:=([(-1000001:Int),(-1000000:Int),(-1:Int),(0:Int),(1:Int),(2:Int),(3:Int),(4:Int),(5:Int),(6:Int),(9:Int),(10:Int),(11:Int),(12:Int),(13:Int),(100:Int),(9999:Int),(10000:Int),(10001:Int),(39999:Int),(40000:Int),(40001:Int),(1000000:Int),(1000001:Int),(1000000000:Int),(1000000001:Int),(9223372036854775807:Int),(-9223372036854775808:Int)]).getD s8 0 })) (val:=I (([(-1000001:Int),(-1000000:Int),(-1:Int),(0:Int),(1:Int),(2:Int),(3:Int),(4:Int),(5:Int),(6:Int),(9:Int),(10:Int),(11:Int),(12:Int),(13:Int),(100:Int),(9999:Int),(10000:Int),(10001:Int),(39999:Int),(40000:Int),(40001:Int),(1000000:Int),(1000001:Int),(1000000000:Int),(1000000001:Int),(9223372036854775807:Int),(-9223372036854775808:Int)]).getD s8 0)) (L':=[cOwn (α:=Raw 0) 32 av ([rawV (Pq ap) (ptB _),rawV (fat (vat ae 5 (Int.toNat 1)) 0) aA,rawV (fat (vat ae 5 (Int.toNat 2)) 1) aB,rawV (fat (vat ae 5 (Int.toNat 2)) 2) aC,rawV (fat (vat ae 5 (Int.toNat 2)) 3) aD,rawV (fat (vat ae 5 (Int.toNat 2)) 4) aE,rawV (vat ag 1 (Int.toNat 0)) aF,rawV (vat ag 1 (Int.toNat 2)) aG,rawV (fat (vat ai 2 (Int.toNat 1)) 0) aH,rawV (Pq aj) (ptB _),rawV (Oq aj 1) (ptB _),rawV (Pq aq) (ptB _),rawV (Pq ar) (ptB _),rawV (fat (vat ae 5 (Int.toNat 0)) 3) aI]),cBlk aj [I 2,I 6] 31,cOwn (α:=Leg) 28 ai ([(⟨(0:Int),false⟩:Leg),(⟨(1:Int),false⟩:Leg),(⟨(2:Int),true⟩:Leg)]),cBlk ar [I 2] 3,cBlk aq [I 0] 3,cBlk ap [I s,ae] 25,cOwn (α:=Int) 3 ag ([(0:Int),(100:Int),(150:Int)]),cOwn (α:=Line) 34 ae (l.set 2 ({ (l.getD 2 default) with err:=([(-1000001:Int),(-1000000:Int),(-1:Int),(0:Int),(1:Int),(2:Int),(3:Int),(4:Int),(5:Int),(6:Int),(9:Int),(10:Int),(11:Int),(12:Int),(13:Int),(100:Int),(9999:Int),(10000:Int),(10001:Int),(39999:Int),(40000:Int),(40001:Int),(1000000:Int),(1000001:Int),(1000000000:Int),(1000000001:Int),(9223372036854775807:Int),(-9223372036854775808:Int)]).getD s8 0 })),cOwn (α:=Int) 3 ax ([(-1000001:Int),(-1000000:Int),(-1:Int),(0:Int),(1:Int),(2:Int),(3:Int),(4:Int),(5:Int),(6:Int),(9:Int),(10:Int),(11:Int),(12:Int),(13:Int),(100:Int),(9999:Int),(10000:Int),(10001:Int),(39999:Int),(40000:Int),(40001:Int),(1000000:Int),(1000001:Int),(1000000000:Int),(1000000001:Int),(9223372036854775807:Int),(-9223372036854775808:Int)])]) H rfl Sz3 (by omega) (by omega) (l.getD 2 default) ({ (l.getD 2 default) with err:=([(-1000001:Int),(-1000000:Int),(-1:Int),(0:Int),(1:Int),(2:Int),(3:Int),(4:Int),(5:Int),(6:Int),(9:Int),(10:Int),(11:Int),(12:Int),(13:Int),(100:Int),(9999:Int),(10000:Int),(10001:Int),(39999:Int),(40000:Int),(40001:Int),(1000000:Int),(1000001:Int),(1000000000:Int),(1000000001:Int),(9223372036854775807:Int),(-9223372036854775808:Int)]).getD s8 0 }) (getD_some _ (by omega) _) rfl rfl [I (([(-1000001:Int),(-1000000:Int),(-1:Int),(0:Int),(1:Int),(2:Int),(3:Int),(4:Int),(5:Int),(6:Int),(9:Int),(10:Int),(11:Int),(12:Int),(13:Int),(100:Int),(9999:Int),(10000:Int),(10001:Int),(39999:Int),(40000:Int),(40001:Int),(1000000:Int),(1000001:Int),(1000000000:Int),(1000000001:Int),(9223372036854775807:Int),(-9223372036854775808:Int)]).getD s8 0)] rfl rfl rfl rfl rfl rfl rfl ?_;intro gB H
     have gC:(l.set 2 ({ (l.getD 2 default) with err:=([(-1000001:Int),(-1000000:Int),(-1:Int),(0:Int),(1:Int),(2:Int),(3:Int),(4:Int),(5:Int),(6:Int),(9:Int),(10:Int),(11:Int),(12:Int),(13:Int),(100:Int),(9999:Int),(10000:Int),(10001:Int),(39999:Int),(40000:Int),(40001:Int),(1000000:Int),(1000001:Int),(1000000000:Int),(1000000001:Int),(9223372036854775807:Int),(-9223372036854775808:Int)]).getD s8 0 })).length=(l).length:=List.length_set
     refine s_nil ?_
     exact ⟨s,l.set 2 ({ (l.getD 2 default) with err:=([(-1000001:Int),(-1000000:Int),(-1:Int),(0:Int),(1:Int),(2:Int),(3:Int),(4:Int),(5:Int),(6:Int),(9:Int),(10:Int),(11:Int),(12:Int),(13:Int),(100:Int),(9999:Int),(10000:Int),(10001:Int),(39999:Int),(40000:Int),(40001:Int),(1000000:Int),(1000001:Int),(1000000000:Int),(1000000001:Int),(9223372036854775807:Int),(-9223372036854775808:Int)]).getD s8 0 }),[(0:Int),(100:Int),(150:Int)],[(⟨(0:Int),false⟩:Leg),(⟨(1:Int),false⟩:Leg),(⟨(2:Int),true⟩:Leg)],2,6,0,2,ae,ag,ai,_,upds_of _ _ ⟨rfl,rfl,rfl,rfl,rfl,rfl,rfl,rfl,rfl,rfl,rfl,trivial⟩,hM,H⟩
    replace hM:=M.e_f hM bG
    refine W.byc ((s7:Int)==6) (fun bH=>?_) (fun bH=>?_)
    ·replace hM:=M.e_t hM bH
     have dD:(s7:Int)=6:=eq_of_beq bH
     obtain ⟨gD,hM⟩:=M.e_gd hM;refine kg 3 ?_;refine s_val (x_ix (v:=vat av 1 (Int.toNat (s7:Int))) rfl rfl (Sl.ix (α:=Raw 0) T35.und T35.size (H.os 0) (by omega) (by have aL:=aK; omega)))<|s_val (x_ld (v:=vat ag 1 (Int.toNat 0)) rfl (ld_sc Sc32 (At.mono (raw_at (i:=(s7:Int)) (k:=6) (H.os 0) dD rfl) (H.ol 0)))) ?_;refine kg 1 ?_;refine s_val (x_ncE (p:=vat ag 1 (Int.toNat 0)) rfl (Sl.pl (i:=0) (H.os 6) (by omega) (by omega))) ?_;refine t_ost (k:=6) (i:=0) (l:=[(0:Int),(100:Int),(150:Int)]) (l':=([(0:Int),(100:Int),(150:Int)]).set 0 (([(-1000001:Int),(-1000000:Int),(-1:Int),(0:Int),(1:Int),(2:Int),(3:Int),(4:Int),(5:Int),(6:Int),(9:Int),(10:Int),(11:Int),(12:Int),(13:Int),(100:Int),(9999:Int),(10000:Int),(10001:Int),(39999:Int),(40000:Int),(40001:Int),(1000000:Int),(1000001:Int),(1000000000:Int),(1000000001:Int),(9223372036854775807:Int),(-9223372036854775808:Int)]).getD s8 0:Int)) (val:=I (([(-1000001:Int),(-1000000:Int),(-1:Int),(0:Int),(1:Int),(2:Int),(3:Int),(4:Int),(5:Int),(6:Int),(9:Int),(10:Int),(11:Int),(12:Int),(13:Int),(100:Int),(9999:Int),(10000:Int),(10001:Int),(39999:Int),(40000:Int),(40001:Int),(1000000:Int),(1000001:Int),(1000000000:Int),(1000000001:Int),(9223372036854775807:Int),(-9223372036854775808:Int)]).getD s8 0)) (L':=[cOwn (α:=Raw 0) 32 av ([rawV (Pq ap) (ptB _),rawV (fat (vat ae 5 (Int.toNat 1)) 0) aA,rawV (fat (vat ae 5 (Int.toNat 2)) 1) aB,rawV (fat (vat ae 5 (Int.toNat 2)) 2) aC,rawV (fat (vat ae 5 (Int.toNat 2)) 3) aD,rawV (fat (vat ae 5 (Int.toNat 2)) 4) aE,rawV (vat ag 1 (Int.toNat 0)) aF,rawV (vat ag 1 (Int.toNat 2)) aG,rawV (fat (vat ai 2 (Int.toNat 1)) 0) aH,rawV (Pq aj) (ptB _),rawV (Oq aj 1) (ptB _),rawV (Pq aq) (ptB _),rawV (Pq ar) (ptB _),rawV (fat (vat ae 5 (Int.toNat 0)) 3) aI]),cBlk aj [I 2,I 6] 31,cOwn (α:=Leg) 28 ai ([(⟨(0:Int),false⟩:Leg),(⟨(1:Int),false⟩:Leg),(⟨(2:Int),true⟩:Leg)]),cBlk ar [I 2] 3,cBlk aq [I 0] 3,cBlk ap [I s,ae] 25,cOwn (α:=Int) 3 ag (([(0:Int),(100:Int),(150:Int)]).set 0 (([(-1000001:Int),(-1000000:Int),(-1:Int),(0:Int),(1:Int),(2:Int),(3:Int),(4:Int),(5:Int),(6:Int),(9:Int),(10:Int),(11:Int),(12:Int),(13:Int),(100:Int),(9999:Int),(10000:Int),(10001:Int),(39999:Int),(40000:Int),(40001:Int),(1000000:Int),(1000001:Int),(1000000000:Int),(1000000001:Int),(9223372036854775807:Int),(-9223372036854775808:Int)]).getD s8 0:Int)),cOwn (α:=Line) 34 ae l,cOwn (α:=Int) 3 ax ([(-1000001:Int),(-1000000:Int),(-1:Int),(0:Int),(1:Int),(2:Int),(3:Int),(4:Int),(5:Int),(6:Int),(9:Int),(10:Int),(11:Int),(12:Int),(13:Int),(100:Int),(9999:Int),(10000:Int),(10001:Int),(39999:Int),(40000:Int),(40001:Int),(1000000:Int),(1000001:Int),(1000000000:Int),(1000000001:Int),(9223372036854775807:Int),(-9223372036854775808:Int)])]) H rfl Sz3 (by omega) (by omega) (([(-1000001:Int),(-1000000:Int),(-1:Int),(0:Int),(1:Int),(2:Int),(3:Int),(4:Int),(5:Int),(6:Int),(9:Int),(10:Int),(11:Int),(12:Int),(13:Int),(100:Int),(9999:Int),(10000:Int),(10001:Int),(39999:Int),(40000:Int),(40001:Int),(1000000:Int),(1000001:Int),(1000000000:Int),(1000000001:Int),(9223372036854775807:Int),(-9223372036854775808:Int)]).getD s8 0:Int) rfl rfl rfl rfl rfl ?_;intro gE H;refine s_nil ?_
     exact ⟨s,l,([(0:Int),(100:Int),(150:Int)]).set 0 (([(-1000001:Int),(-1000000:Int),(-1:Int),(0:Int),(1:Int),(2:Int),(3:Int),(4:Int),(5:Int),(6:Int),(9:Int),(10:Int),(11:Int),(12:Int),(13:Int),(100:Int),(9999:Int),(10000:Int),(10001:Int),(39999:Int),(40000:Int),(40001:Int),(1000000:Int),(1000001:Int),(1000000000:Int),(1000000001:Int),(9223372036854775807:Int),(-9223372036854775808:Int)]).getD s8 0:Int),[(⟨(0:Int),false⟩:Leg),(⟨(1:Int),false⟩:Leg),(⟨(2:Int),true⟩:Leg)],2,6,0,2,ae,ag,ai,_,upds_of _ _ ⟨rfl,rfl,rfl,rfl,rfl,rfl,rfl,rfl,rfl,rfl,rfl,trivial⟩,hM,H⟩
    replace hM:=M.e_f hM bH
    refine W.byc ((s7:Int)==7) (fun bI=>?_) (fun bI=>?_)
    ·replace hM:=M.e_t hM bI
     have dE:(s7:Int)=7:=eq_of_beq bI
     obtain ⟨gF,hM⟩:=M.e_gd hM;refine kg 3 ?_;refine s_val (x_ix (v:=vat av 1 (Int.toNat (s7:Int))) rfl rfl (Sl.ix (α:=Raw 0) T35.und T35.size (H.os 0) (by omega) (by have aL:=aK; omega)))<|s_val (x_ld (v:=vat ag 1 (Int.toNat 2)) rfl (ld_sc Sc32 (At.mono (raw_at (i:=(s7:Int)) (k:=7) (H.os 0) dE rfl) (H.ol 0)))) ?_;refine kg 1 ?_;refine s_val (x_ncE (p:=vat ag 1 (Int.toNat 2)) rfl (Sl.pl (i:=2) (H.os 6) (by omega) (by omega))) ?_;refine t_ost (k:=6) (i:=2) (l:=[(0:Int),(100:Int),(150:Int)]) (l':=([(0:Int),(100:Int),(150:Int)]).set 2 (([(-1000001:Int),(-1000000:Int),(-1:Int),(0:Int),(1:Int),(2:Int),(3:Int),(4:Int),(5:Int),(6:Int),(9:Int),(10:Int),(11:Int),(12:Int),(13:Int),(100:Int),(9999:Int),(10000:Int),(10001:Int),(39999:Int),(40000:Int),(40001:Int),(1000000:Int),(1000001:Int),(1000000000:Int),(1000000001:Int),(9223372036854775807:Int),(-9223372036854775808:Int)]).getD s8 0:Int)) (val:=I (([(-1000001:Int),(-1000000:Int),(-1:Int),(0:Int),(1:Int),(2:Int),(3:Int),(4:Int),(5:Int),(6:Int),(9:Int),(10:Int),(11:Int),(12:Int),(13:Int),(100:Int),(9999:Int),(10000:Int),(10001:Int),(39999:Int),(40000:Int),(40001:Int),(1000000:Int),(1000001:Int),(1000000000:Int),(1000000001:Int),(9223372036854775807:Int),(-9223372036854775808:Int)]).getD s8 0)) (L':=[cOwn (α:=Raw 0) 32 av ([rawV (Pq ap) (ptB _),rawV (fat (vat ae 5 (Int.toNat 1)) 0) aA,rawV (fat (vat ae 5 (Int.toNat 2)) 1) aB,rawV (fat (vat ae 5 (Int.toNat 2)) 2) aC,rawV (fat (vat ae 5 (Int.toNat 2)) 3) aD,rawV (fat (vat ae 5 (Int.toNat 2)) 4) aE,rawV (vat ag 1 (Int.toNat 0)) aF,rawV (vat ag 1 (Int.toNat 2)) aG,rawV (fat (vat ai 2 (Int.toNat 1)) 0) aH,rawV (Pq aj) (ptB _),rawV (Oq aj 1) (ptB _),rawV (Pq aq) (ptB _),rawV (Pq ar) (ptB _),rawV (fat (vat ae 5 (Int.toNat 0)) 3) aI]),cBlk aj [I 2,I 6] 31,cOwn (α:=Leg) 28 ai ([(⟨(0:Int),false⟩:Leg),(⟨(1:Int),false⟩:Leg),(⟨(2:Int),true⟩:Leg)]),cBlk ar [I 2] 3,cBlk aq [I 0] 3,cBlk ap [I s,ae] 25,cOwn (α:=Int) 3 ag (([(0:Int),(100:Int),(150:Int)]).set 2 (([(-1000001:Int),(-1000000:Int),(-1:Int),(0:Int),(1:Int),(2:Int),(3:Int),(4:Int),(5:Int),(6:Int),(9:Int),(10:Int),(11:Int),(12:Int),(13:Int),(100:Int),(9999:Int),(10000:Int),(10001:Int),(39999:Int),(40000:Int),(40001:Int),(1000000:Int),(1000001:Int),(1000000000:Int),(1000000001:Int),(9223372036854775807:Int),(-9223372036854775808:Int)]).getD s8 0:Int)),cOwn (α:=Line) 34 ae l,cOwn (α:=Int) 3 ax ([(-1000001:Int),(-1000000:Int),(-1:Int),(0:Int),(1:Int),(2:Int),(3:Int),(4:Int),(5:Int),(6:Int),(9:Int),(10:Int),(11:Int),(12:Int),(13:Int),(100:Int),(9999:Int),(10000:Int),(10001:Int),(39999:Int),(40000:Int),(40001:Int),(1000000:Int),(1000001:Int),(1000000000:Int),(1000000001:Int),(9223372036854775807:Int),(-9223372036854775808:Int)])]) H rfl Sz3 (by omega) (by omega) (([(-1000001:Int),(-1000000:Int),(-1:Int),(0:Int),(1:Int),(2:Int),(3:Int),(4:Int),(5:Int),(6:Int),(9:Int),(10:Int),(11:Int),(12:Int),(13:Int),(100:Int),(9999:Int),(10000:Int),(10001:Int),(39999:Int),(40000:Int),(40001:Int),(1000000:Int),(1000001:Int),(1000000000:Int),(1000000001:Int),(9223372036854775807:Int),(-9223372036854775808:Int)]).getD s8 0:Int) rfl rfl rfl rfl rfl ?_;intro gG H;refine s_nil ?_
     exact ⟨s,l,([(0:Int),(100:Int),(150:Int)]).set 2 (([(-1000001:Int),(-1000000:Int),(-1:Int),(0:Int),(1:Int),(2:Int),(3:Int),(4:Int),(5:Int),(6:Int),(9:Int),(10:Int),(11:Int),(12:Int),(13:Int),(100:Int),(9999:Int),(10000:Int),(10001:Int),(39999:Int),(40000:Int),(40001:Int),(1000000:Int),(1000001:Int),(1000000000:Int),(1000000001:Int),(9223372036854775807:Int),(-9223372036854775808:Int)]).getD s8 0:Int),[(⟨(0:Int),false⟩:Leg),(⟨(1:Int),false⟩:Leg),(⟨(2:Int),true⟩:Leg)],2,6,0,2,ae,ag,ai,_,upds_of _ _ ⟨rfl,rfl,rfl,rfl,rfl,rfl,rfl,rfl,rfl,rfl,rfl,trivial⟩,hM,H⟩
    replace hM:=M.e_f hM bI
    refine W.byc ((s7:Int)==8) (fun bJ=>?_) (fun bJ=>?_)
    ·replace hM:=M.e_t hM bJ
     have dF:(s7:Int)=8:=eq_of_beq bJ
     obtain ⟨gH,hM⟩:=M.e_gd hM;refine kg 3 ?_;refine s_val (x_ix (v:=vat av 1 (Int.toNat (s7:Int))) rfl rfl (Sl.ix (α:=Raw 0) T35.und T35.size (H.os 0) (by omega) (by have aL:=aK; omega)))<|s_val (x_ld (v:=fat (vat ai 2 (Int.toNat 1)) 0) rfl (ld_sc Sc32 (At.mono (raw_at (i:=(s7:Int)) (k:=8) (H.os 0) dF rfl) (H.ol 0)))) ?_;refine kg 1 ?_;refine s_val (x_ncE (p:=fat (vat ai 2 (Int.toNat 1)) 0) rfl (ptr_fat (Sl.pl (i:=1) (H.os 2) (by omega) (by omega)))) ?_;refine t_fst (α:=Leg) (k:=2) (i:=1) (off:=0) (l:=[(⟨(0:Int),false⟩:Leg),(⟨(1:Int),false⟩:Leg),(⟨(2:Int),true⟩:Leg)]) (l':=([(⟨(0:Int),false⟩:Leg),(⟨(1:Int),false⟩:Leg),(⟨(2:Int),true⟩:Leg)]).set 1 ({ (([(⟨(0:Int),false⟩:Leg),(⟨(1:Int),false⟩:Leg),(⟨(2:Int),true⟩:Leg)]).getD 1 default) with line:=([(-1000001:Int),(-1000000:Int),(-1:Int),(0:Int),(1:Int),(2:Int),(3:Int),(4:Int),(5:Int),(6:Int),(9:Int),(10:Int),(11:Int),(12:Int),(13:Int),(100:Int),(9999:Int),(10000:Int),(10001:Int),(39999:Int),(40000:Int),(40001:Int),(1000000:Int),(1000001:Int),(1000000000:Int),(1000000001:Int),(9223372036854775807:Int),(-9223372036854775808:Int)]).getD s8 0 })) (val:=I (([(-1000001:Int),(-1000000:Int),(-1:Int),(0:Int),(1:Int),(2:Int),(3:Int),(4:Int),(5:Int),(6:Int),(9:Int),(10:Int),(11:Int),(12:Int),(13:Int),(100:Int),(9999:Int),(10000:Int),(10001:Int),(39999:Int),(40000:Int),(40001:Int),(1000000:Int),(1000001:Int),(1000000000:Int),(1000000001:Int),(9223372036854775807:Int),(-9223372036854775808:Int)]).getD s8 0)) (L':=[cOwn (α:=Raw 0) 32 av ([rawV (Pq ap) (ptB _),rawV (fat (vat ae 5 (Int.toNat 1)) 0) aA,rawV (fat (vat ae 5 (Int.toNat 2)) 1) aB,rawV (fat (vat ae 5 (Int.toNat 2)) 2) aC,rawV (fat (vat ae 5 (Int.toNat 2)) 3) aD,rawV (fat (vat ae 5 (Int.toNat 2)) 4) aE,rawV (vat ag 1 (Int.toNat 0)) aF,rawV (vat ag 1 (Int.toNat 2)) aG,rawV (fat (vat ai 2 (Int.toNat 1)) 0) aH,rawV (Pq aj) (ptB _),rawV (Oq aj 1) (ptB _),rawV (Pq aq) (ptB _),rawV (Pq ar) (ptB _),rawV (fat (vat ae 5 (Int.toNat 0)) 3) aI]),cBlk aj [I 2,I 6] 31,cOwn (α:=Leg) 28 ai (([(⟨(0:Int),false⟩:Leg),(⟨(1:Int),false⟩:Leg),(⟨(2:Int),true⟩:Leg)]).set 1 ({ (([(⟨(0:Int),false⟩:Leg),(⟨(1:Int),false⟩:Leg),(⟨(2:Int),true⟩:Leg)]).getD 1 default) with line:=([(-1000001:Int),(-1000000:Int),(-1:Int),(0:Int),(1:Int),(2:Int),(3:Int),(4:Int),(5:Int),(6:Int),(9:Int),(10:Int),(11:Int),(12:Int),(13:Int),(100:Int),(9999:Int),(10000:Int),(10001:Int),(39999:Int),(40000:Int),(40001:Int),(1000000:Int),(1000001:Int),(1000000000:Int),(1000000001:Int),(9223372036854775807:Int),(-9223372036854775808:Int)]).getD s8 0 })),cBlk ar [I 2] 3,cBlk aq [I 0] 3,cBlk ap [I s,ae] 25,cOwn (α:=Int) 3 ag ([(0:Int),(100:Int),(150:Int)]),cOwn (α:=Line) 34 ae l,cOwn (α:=Int) 3 ax ([(-1000001:Int),(-1000000:Int),(-1:Int),(0:Int),(1:Int),(2:Int),(3:Int),(4:Int),(5:Int),(6:Int),(9:Int),(10:Int),(11:Int),(12:Int),(13:Int),(100:Int),(9999:Int),(10000:Int),(10001:Int),(39999:Int),(40000:Int),(40001:Int),(1000000:Int),(1000001:Int),(1000000000:Int),(1000000001:Int),(9223372036854775807:Int),(-9223372036854775808:Int)])]) H rfl Sz3 (by omega) (by omega) (([(⟨(0:Int),false⟩:Leg),(⟨(1:Int),false⟩:Leg),(⟨(2:Int),true⟩:Leg)]).getD 1 default) ({ (([(⟨(0:Int),false⟩:Leg),(⟨(1:Int),false⟩:Leg),(⟨(2:Int),true⟩:Leg)]).getD 1 default) with line:=([(-1000001:Int),(-1000000:Int),(-1:Int),(0:Int),(1:Int),(2:Int),(3:Int),(4:Int),(5:Int),(6:Int),(9:Int),(10:Int),(11:Int),(12:Int),(13:Int),(100:Int),(9999:Int),(10000:Int),(10001:Int),(39999:Int),(40000:Int),(40001:Int),(1000000:Int),(1000001:Int),(1000000000:Int),(1000000001:Int),(9223372036854775807:Int),(-9223372036854775808:Int)]).getD s8 0 }) (getD_some _ (by omega) _) rfl rfl [I (([(-1000001:Int),(-1000000:Int),(-1:Int),(0:Int),(1:Int),(2:Int),(3:Int),(4:Int),(5:Int),(6:Int),(9:Int),(10:Int),(11:Int),(12:Int),(13:Int),(100:Int),(9999:Int),(10000:Int),(10001:Int),(39999:Int),(40000:Int),(40001:Int),(1000000:Int),(1000001:Int),(1000000000:Int),(1000000001:Int),(9223372036854775807:Int),(-9223372036854775808:Int)]).getD s8 0)] rfl rfl rfl rfl rfl rfl rfl ?_;intro gI H
     have gJ:(([(⟨(0:Int),false⟩:Leg),(⟨(1:Int),false⟩:Leg),(⟨(2:Int),true⟩:Leg)]).set 1 ({ (([(⟨(0:Int),false⟩:Leg),(⟨(1:Int),false⟩:Leg),(⟨(2:Int),true⟩:Leg)]).getD 1 default) with line:=([(-1000001:Int),(-1000000:Int),(-1:Int),(0:Int),(1:Int),(2:Int),(3:Int),(4:Int),(5:Int),(6:Int),(9:Int),(10:Int),(11:Int),(12:Int),(13:Int),(100:Int),(9999:Int),(10000:Int),(10001:Int),(39999:Int),(40000:Int),(40001:Int),(1000000:Int),(1000001:Int),(1000000000:Int),(1000000001:Int),(9223372036854775807:Int),(-9223372036854775808:Int)]).getD s8 0 })).length=([(⟨(0:Int),false⟩:Leg),(⟨(1:Int),false⟩:Leg),(⟨(2:Int),true⟩:Leg)]).length:=List.length_set
     refine s_nil ?_
     exact ⟨s,l,[(0:Int),(100:Int),(150:Int)],([(⟨(0:Int),false⟩:Leg),(⟨(1:Int),false⟩:Leg),(⟨(2:Int),true⟩:Leg)]).set 1 ({ (([(⟨(0:Int),false⟩:Leg),(⟨(1:Int),false⟩:Leg),(⟨(2:Int),true⟩:Leg)]).getD 1 default) with line:=([(-1000001:Int),(-1000000:Int),(-1:Int),(0:Int),(1:Int),(2:Int),(3:Int),(4:Int),(5:Int),(6:Int),(9:Int),(10:Int),(11:Int),(12:Int),(13:Int),(100:Int),(9999:Int),(10000:Int),(10001:Int),(39999:Int),(40000:Int),(40001:Int),(1000000:Int),(1000001:Int),(1000000000:Int),(1000000001:Int),(9223372036854775807:Int),(-9223372036854775808:Int)]).getD s8 0 }),2,6,0,2,ae,ag,ai,_,upds_of _ _ ⟨rfl,rfl,rfl,rfl,rfl,rfl,rfl,rfl,rfl,rfl,rfl,trivial⟩,hM,H⟩
    replace hM:=M.e_f hM bJ
    refine W.byc ((s7:Int)==9) (fun bK=>?_) (fun bK=>?_)
    ·replace hM:=M.e_t hM bK
     have dG:(s7:Int)=9:=eq_of_beq bK
     obtain ⟨gK,hM⟩:=M.e_gd hM;refine kg 3 ?_;refine s_val (x_ix (v:=vat av 1 (Int.toNat (s7:Int))) rfl rfl (Sl.ix (α:=Raw 0) T35.und T35.size (H.os 0) (by omega) (by have aL:=aK; omega)))<|s_val (x_ld (v:=Pq aj) rfl (ld_sc Sc32 (At.mono (raw_at (i:=(s7:Int)) (k:=9) (H.os 0) dG rfl) (H.ol 0)))) ?_;refine kg 2 ?_;refine t_sw 1 0 [I (([(-1000001:Int),(-1000000:Int),(-1:Int),(0:Int),(1:Int),(2:Int),(3:Int),(4:Int),(5:Int),(6:Int),(9:Int),(10:Int),(11:Int),(12:Int),(13:Int),(100:Int),(9999:Int),(10000:Int),(10001:Int),(39999:Int),(40000:Int),(40001:Int),(1000000:Int),(1000001:Int),(1000000000:Int),(1000000001:Int),(9223372036854775807:Int),(-9223372036854775808:Int)]).getD s8 0)] (I (([(-1000001:Int),(-1000000:Int),(-1:Int),(0:Int),(1:Int),(2:Int),(3:Int),(4:Int),(5:Int),(6:Int),(9:Int),(10:Int),(11:Int),(12:Int),(13:Int),(100:Int),(9999:Int),(10000:Int),(10001:Int),(39999:Int),(40000:Int),(40001:Int),(1000000:Int),(1000001:Int),(1000000000:Int),(1000000001:Int),(9223372036854775807:Int),(-9223372036854775808:Int)]).getD s8 0)) H rfl rfl Sz3 rfl rfl rfl rfl ?_;intro gL H;refine s_nil ?_
     exact ⟨s,l,[(0:Int),(100:Int),(150:Int)],[(⟨(0:Int),false⟩:Leg),(⟨(1:Int),false⟩:Leg),(⟨(2:Int),true⟩:Leg)],([(-1000001:Int),(-1000000:Int),(-1:Int),(0:Int),(1:Int),(2:Int),(3:Int),(4:Int),(5:Int),(6:Int),(9:Int),(10:Int),(11:Int),(12:Int),(13:Int),(100:Int),(9999:Int),(10000:Int),(10001:Int),(39999:Int),(40000:Int),(40001:Int),(1000000:Int),(1000001:Int),(1000000000:Int),(1000000001:Int),(9223372036854775807:Int),(-9223372036854775808:Int)]).getD s8 0,6,0,2,ae,ag,ai,_,upds_of _ _ ⟨rfl,rfl,rfl,rfl,rfl,rfl,rfl,rfl,rfl,rfl,rfl,trivial⟩,hM,H⟩
    replace hM:=M.e_f hM bK
    refine W.byc ((s7:Int)==10) (fun bL=>?_) (fun bL=>?_)
    ·replace hM:=M.e_t hM bL
     have dH:(s7:Int)=10:=eq_of_beq bL
     obtain ⟨gM,hM⟩:=M.e_gd hM;refine kg 3 ?_;refine s_val (x_ix (v:=vat av 1 (Int.toNat (s7:Int))) rfl rfl (Sl.ix (α:=Raw 0) T35.und T35.size (H.os 0) (by omega) (by have aL:=aK; omega)))<|s_val (x_ld (v:=Oq aj 1) rfl (ld_sc Sc32 (At.mono (raw_at (i:=(s7:Int)) (k:=10) (H.os 0) dH rfl) (H.ol 0)))) ?_;refine kg 2 ?_;refine t_sw 1 1 [I (([(-1000001:Int),(-1000000:Int),(-1:Int),(0:Int),(1:Int),(2:Int),(3:Int),(4:Int),(5:Int),(6:Int),(9:Int),(10:Int),(11:Int),(12:Int),(13:Int),(100:Int),(9999:Int),(10000:Int),(10001:Int),(39999:Int),(40000:Int),(40001:Int),(1000000:Int),(1000001:Int),(1000000000:Int),(1000000001:Int),(9223372036854775807:Int),(-9223372036854775808:Int)]).getD s8 0)] (I (([(-1000001:Int),(-1000000:Int),(-1:Int),(0:Int),(1:Int),(2:Int),(3:Int),(4:Int),(5:Int),(6:Int),(9:Int),(10:Int),(11:Int),(12:Int),(13:Int),(100:Int),(9999:Int),(10000:Int),(10001:Int),(39999:Int),(40000:Int),(40001:Int),(1000000:Int),(1000001:Int),(1000000000:Int),(1000000001:Int),(9223372036854775807:Int),(-9223372036854775808:Int)]).getD s8 0)) H rfl rfl Sz3 rfl rfl rfl rfl ?_;intro gN H;refine s_nil ?_
     exact ⟨s,l,[(0:Int),(100:Int),(150:Int)],[(⟨(0:Int),false⟩:Leg),(⟨(1:Int),false⟩:Leg),(⟨(2:Int),true⟩:Leg)],2,([(-1000001:Int),(-1000000:Int),(-1:Int),(0:Int),(1:Int),(2:Int),(3:Int),(4:Int),(5:Int),(6:Int),(9:Int),(10:Int),(11:Int),(12:Int),(13:Int),(100:Int),(9999:Int),(10000:Int),(10001:Int),(39999:Int),(40000:Int),(40001:Int),(1000000:Int),(1000001:Int),(1000000000:Int),(1000000001:Int),(9223372036854775807:Int),(-9223372036854775808:Int)]).getD s8 0,0,2,ae,ag,ai,_,upds_of _ _ ⟨rfl,rfl,rfl,rfl,rfl,rfl,rfl,rfl,rfl,rfl,rfl,trivial⟩,hM,H⟩
    replace hM:=M.e_f hM bL
    refine W.byc ((s7:Int)==11) (fun bM=>?_) (fun bM=>?_)
    ·replace hM:=M.e_t hM bM
     have dJ:(s7:Int)=11:=eq_of_beq bM
     obtain ⟨gO,hM⟩:=M.e_gd hM;refine kg 3 ?_;refine s_val (x_ix (v:=vat av 1 (Int.toNat (s7:Int))) rfl rfl (Sl.ix (α:=Raw 0) T35.und T35.size (H.os 0) (by omega) (by have aL:=aK; omega)))<|s_val (x_ld (v:=Pq aq) rfl (ld_sc Sc32 (At.mono (raw_at (i:=(s7:Int)) (k:=11) (H.os 0) dJ rfl) (H.ol 0)))) ?_;refine kg 2 ?_;refine t_sw 4 0 [I (([(-1000001:Int),(-1000000:Int),(-1:Int),(0:Int),(1:Int),(2:Int),(3:Int),(4:Int),(5:Int),(6:Int),(9:Int),(10:Int),(11:Int),(12:Int),(13:Int),(100:Int),(9999:Int),(10000:Int),(10001:Int),(39999:Int),(40000:Int),(40001:Int),(1000000:Int),(1000001:Int),(1000000000:Int),(1000000001:Int),(9223372036854775807:Int),(-9223372036854775808:Int)]).getD s8 0)] (I (([(-1000001:Int),(-1000000:Int),(-1:Int),(0:Int),(1:Int),(2:Int),(3:Int),(4:Int),(5:Int),(6:Int),(9:Int),(10:Int),(11:Int),(12:Int),(13:Int),(100:Int),(9999:Int),(10000:Int),(10001:Int),(39999:Int),(40000:Int),(40001:Int),(1000000:Int),(1000001:Int),(1000000000:Int),(1000000001:Int),(9223372036854775807:Int),(-9223372036854775808:Int)]).getD s8 0)) H rfl rfl Sz3 rfl rfl rfl rfl ?_;intro gP H;refine s_nil ?_
     exact ⟨s,l,[(0:Int),(100:Int),(150:Int)],[(⟨(0:Int),false⟩:Leg),(⟨(1:Int),false⟩:Leg),(⟨(2:Int),true⟩:Leg)],2,6,([(-1000001:Int),(-1000000:Int),(-1:Int),(0:Int),(1:Int),(2:Int),(3:Int),(4:Int),(5:Int),(6:Int),(9:Int),(10:Int),(11:Int),(12:Int),(13:Int),(100:Int),(9999:Int),(10000:Int),(10001:Int),(39999:Int),(40000:Int),(40001:Int),(1000000:Int),(1000001:Int),(1000000000:Int),(1000000001:Int),(9223372036854775807:Int),(-9223372036854775808:Int)]).getD s8 0,2,ae,ag,ai,_,upds_of _ _ ⟨rfl,rfl,rfl,rfl,rfl,rfl,rfl,rfl,rfl,rfl,rfl,trivial⟩,hM,H⟩
    replace hM:=M.e_f hM bM
    refine W.byc ((s7:Int)==12) (fun bN=>?_) (fun bN=>?_)
    ·replace hM:=M.e_t hM bN
     have dK:(s7:Int)=12:=eq_of_beq bN
     obtain ⟨gQ,hM⟩:=M.e_gd hM;refine kg 3 ?_;refine s_val (x_ix (v:=vat av 1 (Int.toNat (s7:Int))) rfl rfl (Sl.ix (α:=Raw 0) T35.und T35.size (H.os 0) (by omega) (by have aL:=aK; omega)))<|s_val (x_ld (v:=Pq ar) rfl (ld_sc Sc32 (At.mono (raw_at (i:=(s7:Int)) (k:=12) (H.os 0) dK rfl) (H.ol 0)))) ?_;refine kg 2 ?_;refine t_sw 3 0 [I (([(-1000001:Int),(-1000000:Int),(-1:Int),(0:Int),(1:Int),(2:Int),(3:Int),(4:Int),(5:Int),(6:Int),(9:Int),(10:Int),(11:Int),(12:Int),(13:Int),(100:Int),(9999:Int),(10000:Int),(10001:Int),(39999:Int),(40000:Int),(40001:Int),(1000000:Int),(1000001:Int),(1000000000:Int),(1000000001:Int),(9223372036854775807:Int),(-9223372036854775808:Int)]).getD s8 0)] (I (([(-1000001:Int),(-1000000:Int),(-1:Int),(0:Int),(1:Int),(2:Int),(3:Int),(4:Int),(5:Int),(6:Int),(9:Int),(10:Int),(11:Int),(12:Int),(13:Int),(100:Int),(9999:Int),(10000:Int),(10001:Int),(39999:Int),(40000:Int),(40001:Int),(1000000:Int),(1000001:Int),(1000000000:Int),(1000000001:Int),(9223372036854775807:Int),(-9223372036854775808:Int)]).getD s8 0)) H rfl rfl Sz3 rfl rfl rfl rfl ?_;intro gR H;refine s_nil ?_
     exact ⟨s,l,[(0:Int),(100:Int),(150:Int)],[(⟨(0:Int),false⟩:Leg),(⟨(1:Int),false⟩:Leg),(⟨(2:Int),true⟩:Leg)],2,6,0,([(-1000001:Int),(-1000000:Int),(-1:Int),(0:Int),(1:Int),(2:Int),(3:Int),(4:Int),(5:Int),(6:Int),(9:Int),(10:Int),(11:Int),(12:Int),(13:Int),(100:Int),(9999:Int),(10000:Int),(10001:Int),(39999:Int),(40000:Int),(40001:Int),(1000000:Int),(1000001:Int),(1000000000:Int),(1000000001:Int),(9223372036854775807:Int),(-9223372036854775808:Int)]).getD s8 0,ae,ag,ai,_,upds_of _ _ ⟨rfl,rfl,rfl,rfl,rfl,rfl,rfl,rfl,rfl,rfl,rfl,trivial⟩,hM,H⟩
    replace hM:=M.e_f hM bN
    refine W.byc ((s7:Int)==13) (fun bO=>?_) (fun bO=>?_)
    ·replace hM:=M.e_t hM bO
     have dL:(s7:Int)=13:=eq_of_beq bO
     obtain ⟨gS,hM⟩:=M.e_gd hM;refine kg 3 ?_;refine s_val (x_ix (v:=vat av 1 (Int.toNat (s7:Int))) rfl rfl (Sl.ix (α:=Raw 0) T35.und T35.size (H.os 0) (by omega) (by have aL:=aK; omega)))<|s_val (x_ld (v:=fat (vat ae 5 (Int.toNat 0)) 3) rfl (ld_sc Sc32 (At.mono (raw_at (i:=(s7:Int)) (k:=13) (H.os 0) dL rfl) (H.ol 0)))) ?_;refine kg 1 ?_;refine s_val (x_ncE (p:=fat (vat ae 5 (Int.toNat 0)) 3) rfl (ptr_fat (Sl.pl (i:=0) (H.os 7) (by omega) (by omega)))) ?_;refine t_fst (α:=Line) (k:=7) (i:=0) (off:=3) (l:=l) (l':=l.set 0 ({ (l.getD 0 default) with rise:=([(-1000001:Int),(-1000000:Int),(-1:Int),(0:Int),(1:Int),(2:Int),(3:Int),(4:Int),(5:Int),(6:Int),(9:Int),(10:Int),(11:Int),(12:Int),(13:Int),(100:Int),(9999:Int),(10000:Int),(10001:Int),(39999:Int),(40000:Int),(40001:Int),(1000000:Int),(1000001:Int),(1000000000:Int),(1000000001:Int),(9223372036854775807:Int),(-9223372036854775808:Int)]).getD s8 0 })) (val:=I (([(-1000001:Int),(-1000000:Int),(-1:Int),(0:Int),(1:Int),(2:Int),(3:Int),(4:Int),(5:Int),(6:Int),(9:Int),(10:Int),(11:Int),(12:Int),(13:Int),(100:Int),(9999:Int),(10000:Int),(10001:Int),(39999:Int),(40000:Int),(40001:Int),(1000000:Int),(1000001:Int),(1000000000:Int),(1000000001:Int),(9223372036854775807:Int),(-9223372036854775808:Int)]).getD s8 0)) (L':=[cOwn (α:=Raw 0) 32 av ([rawV (Pq ap) (ptB _),rawV (fat (vat ae 5 (Int.toNat 1)) 0) aA,rawV (fat (vat ae 5 (Int.toNat 2)) 1) aB,rawV (fat (vat ae 5 (Int.toNat 2)) 2) aC,rawV (fat (vat ae 5 (Int.toNat 2)) 3) aD,rawV (fat (vat ae 5 (Int.toNat 2)) 4) aE,rawV (vat ag 1 (Int.toNat 0)) aF,rawV (vat ag 1 (Int.toNat 2)) aG,rawV (fat (vat ai 2 (Int.toNat 1)) 0) aH,rawV (Pq aj) (ptB _),rawV (Oq aj 1) (ptB _),rawV (Pq aq) (ptB _),rawV (Pq ar) (ptB _),rawV (fat (vat ae 5 (Int.toNat 0)) 3) aI]),cBlk aj [I 2,I 6] 31,cOwn (α:=Leg) 28 ai ([(⟨(0:Int),false⟩:Leg),(⟨(1:Int),false⟩:Leg),(⟨(2:Int),true⟩:Leg)]),cBlk ar [I 2] 3,cBlk aq [I 0] 3,cBlk ap [I s,ae] 25,cOwn (α:=Int) 3 ag ([(0:Int),(100:Int),(150:Int)]),cOwn (α:=Line) 34 ae (l.set 0 ({ (l.getD 0 default) with rise:=([(-1000001:Int),(-1000000:Int),(-1:Int),(0:Int),(1:Int),(2:Int),(3:Int),(4:Int),(5:Int),(6:Int),(9:Int),(10:Int),(11:Int),(12:Int),(13:Int),(100:Int),(9999:Int),(10000:Int),(10001:Int),(39999:Int),(40000:Int),(40001:Int),(1000000:Int),(1000001:Int),(1000000000:Int),(1000000001:Int),(9223372036854775807:Int),(-9223372036854775808:Int)]).getD s8 0 })),cOwn (α:=Int) 3 ax ([(-1000001:Int),(-1000000:Int),(-1:Int),(0:Int),(1:Int),(2:Int),(3:Int),(4:Int),(5:Int),(6:Int),(9:Int),(10:Int),(11:Int),(12:Int),(13:Int),(100:Int),(9999:Int),(10000:Int),(10001:Int),(39999:Int),(40000:Int),(40001:Int),(1000000:Int),(1000001:Int),(1000000000:Int),(1000000001:Int),(9223372036854775807:Int),(-9223372036854775808:Int)])]) H rfl Sz3 (by omega) (by omega) (l.getD 0 default) ({ (l.getD 0 default) with rise:=([(-1000001:Int),(-1000000:Int),(-1:Int),(0:Int),(1:Int),(2:Int),(3:Int),(4:Int),(5:Int),(6:Int),(9:Int),(10:Int),(11:Int),(12:Int),(13:Int),(100:Int),(9999:Int),(10000:Int),(10001:Int),(39999:Int),(40000:Int),(40001:Int),(1000000:Int),(1000001:Int),(1000000000:Int),(1000000001:Int),(9223372036854775807:Int),(-9223372036854775808:Int)]).getD s8 0 }) (getD_some _ (by omega) _) rfl rfl [I (([(-1000001:Int),(-1000000:Int),(-1:Int),(0:Int),(1:Int),(2:Int),(3:Int),(4:Int),(5:Int),(6:Int),(9:Int),(10:Int),(11:Int),(12:Int),(13:Int),(100:Int),(9999:Int),(10000:Int),(10001:Int),(39999:Int),(40000:Int),(40001:Int),(1000000:Int),(1000001:Int),(1000000000:Int),(1000000001:Int),(9223372036854775807:Int),(-9223372036854775808:Int)]).getD s8 0)] rfl rfl rfl rfl rfl rfl rfl ?_;intro gT H
     have gU:(l.set 0 ({ (l.getD 0 default) with rise:=([(-1000001:Int),(-1000000:Int),(-1:Int),(0:Int),(1:Int),(2:Int),(3:Int),(4:Int),(5:Int),(6:Int),(9:Int),(10:Int),(11:Int),(12:Int),(13:Int),(100:Int),(9999:Int),(10000:Int),(10001:Int),(39999:Int),(40000:Int),(40001:Int),(1000000:Int),(1000001:Int),(1000000000:Int),(1000000001:Int),(9223372036854775807:Int),(-9223372036854775808:Int)]).getD s8 0 })).length=(l).length:=List.length_set
     refine s_nil ?_
     exact ⟨s,l.set 0 ({ (l.getD 0 default) with rise:=([(-1000001:Int),(-1000000:Int),(-1:Int),(0:Int),(1:Int),(2:Int),(3:Int),(4:Int),(5:Int),(6:Int),(9:Int),(10:Int),(11:Int),(12:Int),(13:Int),(100:Int),(9999:Int),(10000:Int),(10001:Int),(39999:Int),(40000:Int),(40001:Int),(1000000:Int),(1000001:Int),(1000000000:Int),(1000000001:Int),(9223372036854775807:Int),(-9223372036854775808:Int)]).getD s8 0 }),[(0:Int),(100:Int),(150:Int)],[(⟨(0:Int),false⟩:Leg),(⟨(1:Int),false⟩:Leg),(⟨(2:Int),true⟩:Leg)],2,6,0,2,ae,ag,ai,_,upds_of _ _ ⟨rfl,rfl,rfl,rfl,rfl,rfl,rfl,rfl,rfl,rfl,rfl,trivial⟩,hM,H⟩
    replace hM:=M.e_f hM bO
    exact (M.e_fail hM).elim
   rintro _ gV ⟨s2,l2,l3,l4,s3,s4,s5,s6,aR,bA,bu,ρ,rfl,hM,H⟩
   unfold zab at hM
   refine kg 4 ?_;obtain ⟨gW,dM,hM⟩:=M.e_bind hM;refine s_call cf5 [.agg #[I s2,aR],bA] rfl (zcJ s2 l2 l3 (rdo 7) (H.os 7) (rdo 6) (H.os 6) dM _ (H.gt 9)) ?_
   rintro vq gX ⟨r2,rfl,hvq,ao⟩
   subst vq;(try dsimp only at hM);replace H:=H.bk ao;clear ao;refine kg 6 ?_;obtain ⟨r3,dN,hM⟩:=M.e_bind hM;refine t_gcall (!(!r2)) (gy_f rfl) cf6 (B r3) (fun _=>[.agg #[I s2,aR],I s5,I s6,bu]) (fun hg=>lst4 (gd_of hg (.agg #[I s2,aR])) (gd_of hg (I s5)) (gd_of hg (I s6)) (gd_of hg (bu))) H (fun hg=>(zcD s2 l2 s5 s6 l4 (rdo 7) (H.os 7) (rdo 2) (H.os 2) (M.e_opt dN hg) _ (H.give (A:=[]) rfl)).mono fun v_ w_ ⟨y_,am,ay,H_⟩=>by subst am; exact ⟨ay,H.via H_⟩) ?_;intro gY H;refine kg 5 ?_;obtain ⟨r4,dO,hM⟩:=M.e_bind hM;refine t_gcall (!((!r2)||(!r3))) (gy_f rfl) cf7 (B r4) (fun _=>[.agg #[I s2,aR],.agg #[I s3,I s4]]) (fun hg=>lst2 (gd_of hg (.agg #[I s2,aR])) (gd_of hg (.agg #[I s3,I s4]))) H (fun hg=>(zcL s2 l2 (⟨(s3:Int),(s4:Int)⟩:Mv) (rdo 7) (H.os 7) (M.e_opt dO hg) _ (H.give (A:=[]) rfl)).mono fun v_ w_ ⟨y_,am,ay,H_⟩=>by subst am; exact ⟨ay,H.via H_⟩) ?_;intro gZ H;refine kg 3 ?_;replace H:=H.pk [2,7,8]
   refine W.cond (((!r2)||(!r3))||(!r4)) rfl (fun b0=>?_) (fun b0=>?_)
   ·replace hM:=M.e_t hM b0;refine kg 4 ?_;replace H:=H.pk [2];refine W.ret ?_
    have dP:=M.e_inr hM bW
    subst dP;replace hM:=cO;(try dsimp only at hM)
    have dQ:=M.e_inr hM bU
    subst dQ;replace hM:=cM;(try dsimp only at hM)
    have am:=M.e_pure hM
    exact ⟨_,resE_tmp rfl,⟨false,am,rfl,(H.pk [])⟩⟩
   replace hM:=M.e_f hM b0;refine kg 5 ?_
   exact ⟨dp,dt,s7+1,_,upds_of _ _ ⟨rfl,rfl,rfl,rfl,rfl,trivial⟩,M.e_inl hM bW,(H.pk [2])⟩
  replace hM:=M.e_f hM aY
  replace aY:=dI aY
  refine W.exit ?_
  have dR:=M.e_inr hM bW
  subst dR;replace hM:=cO;(try dsimp only at hM);refine kg 4 ?_
  exact ⟨dk,dl,s8+1,_,upds_of _ _ ⟨rfl,rfl,rfl,trivial⟩,M.e_inl hM bU,H⟩
 replace hM:=M.e_f hM aX
 replace aX:=dI aX
 refine W.exit ?_
 have dS:=M.e_inr hM bU
 subst dS;replace hM:=cM;(try dsimp only at hM);replace H:=H.pk [];refine kg 6 ?_;obtain ⟨dT,b7,cR⟩:=M.e_bind hM
 obtain ⟨aQ,b7⟩:=M.e_iter b7
 refine W.loop (fun m σ W=>∃ (aa:Nat) (ρ:Env),σ=upds ρ [(107,I (aa:Int))]/\M.iterN (zbJ) m aa=some dT/\St w W [] R) ?_ ?_
 ·exact ⟨_,0,_,upds_of _ _ ⟨rfl,trivial⟩,b7,H⟩
 rintro g5 σ g6 ⟨aa,ρ,rfl,cT,H⟩
 obtain ⟨dU,dV,g7,hM,b8⟩:=M.e_iterN cT
 clear cT;refine kg 5 ?_
 refine W.cond (decide ((aa:Int)<3000)) rfl (fun a7=>?_) (fun a7=>?_)
 ·replace hM:=M.e_t hM a7
  replace a7:=dI a7
  obtain ⟨g8,hM⟩:=M.e_gd hM;refine kg 11 ?_;refine s_val (x_rem' (a:=(aa:Int)) (b:=3) rfl rfl (by omega)) ?_;obtain ⟨g9,hM⟩:=M.e_gd hM;refine kg 1 ?_;refine s_val (x_bld (ps:=[(0,I (2+((aa:Int) % 3)))]) (zs:=[I 0,.slice none 0 0]) (L':=[I (2+((aa:Int) % 3)),.slice none 0 0]) rfl Tryz.underlying25 Al25 rfl (Bd25 Tryz.underlying25) (.cons (cs:=[I (2+((aa:Int) % 3))]) rfl rfl rfl rfl rfl<|.nil)) ?_;refine t_alloc (cs:=[I 0,.slice none 0 0]) H Al25 rfl ?_;intro b9 hO H;refine t_sw 0 0 [I (2+((aa:Int) % 3)),.slice none 0 0] (.agg #[I (2+((aa:Int) % 3)),.slice none 0 0]) H rfl rfl Sz25 rfl rfl rfl rfl ?_;intro hX H;refine kg 5 ?_;refine s_val (x_rem' (a:=(aa:Int)) (b:=5) rfl rfl (by omega)) ?_;obtain ⟨hZ,hM⟩:=M.e_gd hM;refine kg 4 ?_
  replace H:=H.nilOwn (α:=Line) 34
  obtain ⟨dW,ca,dX⟩:=M.e_bind hM
  obtain ⟨aQ,ca⟩:=M.e_iter ca
  refine W.loop (fun m σ W=>∃ (s9:Nat) (l5:List Line) (aM:Value) (ρ:Env),σ=upds ρ [(11,I (aa:Int)),(12,Pq b9),(107,I (aa:Int)),(116,I (1+((aa:Int) % 5))),(117,I (s9:Int))]/\M.iterN (zb9 aa) m (s9,l5)=some dW/\St w W [cOwn (α:=Line) 34 aM l5,cBlk b9 [I (2+((aa:Int) % 3)),aM] 25] R) ?_ ?_
  ·exact ⟨_,0,[],(.slice none 0 0),_,upds_of _ _ ⟨rfl,rfl,rfl,rfl,rfl,trivial⟩,ca,H⟩
  rintro ia σ ib ⟨s9,l5,aM,ρ,rfl,cU,H⟩
  obtain ⟨aS,aT,ic,hM,aO⟩:=M.e_iterN cU
  clear cU;refine kg 5 ?_
  refine W.cond (decide ((s9:Int)<(1+((aa:Int) % 5)))) rfl (fun a8=>?_) (fun a8=>?_)
  ·replace hM:=M.e_t hM a8
   replace a8:=dI a8
   obtain ⟨ie,hM⟩:=M.e_gd hM;obtain ⟨ig,hM⟩:=M.e_gd hM;obtain ⟨ii,hM⟩:=M.e_gd hM;obtain ⟨ik,hM⟩:=M.e_gd hM;refine kg 18 ?_;refine s_val (x_rem' (a:=((aa:Int) / 3)+((s9:Int)*(s9:Int))) (b:=2+((aa:Int) % 3)) rfl rfl (by omega)) ?_;refine kg 2 ?_;refine W.drawT (fun W=>St w W [] R) (.q 0 (.q 2 (.q 3 (.q 4 (.q 5 (.q 6 (.q 7 (.q 8 (.q 9 (.q 14 (.q 17 (.q 18 (.q 19 (.q 20 (.q 21 (.q 22 (.q 23 (.q 24 (.q 25 (.q 26 (.q 27 (.q 28 (.q 29 (.q 30 (.q 31 (.q 32 (.q 33 (.l3 1 (.l2 10 (.q 11 (.q 12 (.q 13 (.l 15 (.q 16 (.q 34 (.l 35 (.l 36 (.q 37 (.l 38 .nil)))))))))) 15 (.l 10 (.q 11 (.q 12 (.q 13 (.q 16 (.q 34 (.l 35 (.l 36 (.q 37 (.l 38 .nil))))))))))) 10 (.q 11 (.q 12 (.q 13 (.l2 1 (.l 15 (.q 16 (.q 34 (.l 35 (.l 36 (.q 37 (.l 38 .nil))))))) 15 (.q 16 (.q 34 (.l2 1 (.l 35 (.l 36 (.q 37 (.l 38 .nil)))) 35 (.l 1 (.l 36 (.q 37 (.l 38 .nil))))))))))) 15 (.l2 1 (.l 10 (.q 11 (.q 12 (.q 13 (.q 16 (.q 34 (.l 35 (.l 36 (.q 37 (.l 38 .nil)))))))))) 10 (.q 11 (.q 12 (.q 13 (.q 16 (.q 34 (.l2 1 (.l 35 (.l 36 (.q 37 (.l 38 .nil)))) 35 (.l 1 (.l 36 (.q 37 (.l 38 .nil))))))))))))))))))))))))))))))))))))))) mixed (by decide +kernel) rfl ?_;intro il au;replace H:=H.ext au;clear au
   refine ⟨(H.pk []),?_⟩
   obtain ⟨im,hM⟩:=M.e_gd hM;obtain ⟨io,hM⟩:=M.e_gd hM;obtain ⟨ip,hM⟩:=M.e_gd hM;obtain ⟨iq,hM⟩:=M.e_gd hM;obtain ⟨ir,hM⟩:=M.e_gd hM;refine kg 14 ?_;refine t_q rfl (fun w' H=>x_rem' (a:=(aa:Int) / ((s9:Int)+2)) (b:=4) rfl rfl (by omega)) ?_;obtain ⟨iu,hM⟩:=M.e_gd hM;obtain ⟨iv,hM⟩:=M.e_gd hM;obtain ⟨iw,hM⟩:=M.e_gd hM;obtain ⟨iy,hM⟩:=M.e_gd hM;refine kg 5 ?_;refine t_q rfl (fun w' H=>x_rem' (a:=(aa:Int) / ((2*(s9:Int))+3)) (b:=7) rfl rfl (by omega)) ?_;obtain ⟨iz,hM⟩:=M.e_gd hM;obtain ⟨iA,hM⟩:=M.e_gd hM;obtain ⟨iB,hM⟩:=M.e_gd hM;obtain ⟨iC,hM⟩:=M.e_gd hM;refine kg 5 ?_;refine t_q rfl (fun w' H=>x_rem' (a:=(aa:Int) / ((s9:Int)+5)) (b:=3) rfl rfl (by omega)) ?_;refine t_l3 rfl rfl rfl ?_ ?_ ?_
   ·skip
    refine kg 1 ?_
    have iD:=Sl.cells (H.os 0)
    have iE:=Sl.oc (H.os 0)
    have iF:=ownSl (H.get (k:=0) rfl)
    refine s_nil ⟨(H.pk []),?_⟩
    obtain ⟨iG,hM⟩:=M.e_gd hM;obtain ⟨iH,hM⟩:=M.e_gd hM;obtain ⟨iI,hM⟩:=M.e_gd hM;obtain ⟨iJ,hM⟩:=M.e_gd hM;obtain ⟨iK,hM⟩:=M.e_gd hM;refine t_l2 rfl rfl ?_ ?_
    ·skip
     refine kg 1 ?_
     refine s_nil ⟨(H.pk []),?_⟩
     refine kg 1 ?_;refine t_q rfl (fun w' H=>x_rem' (a:=((aa:Int) / 7)+(s9:Int)) (b:=(2+((aa:Int) % 3))-1) rfl rfl (by omega)) ?_;refine kg 1 ?_;refine t_l rfl ?_;refine kg 1 ?_
     refine s_nil ⟨(H.pk []),?_⟩
     refine t_q rfl (fun w' H=>x_rem' (a:=(((((aa:Int) / 3)+((s9:Int)*(s9:Int))) % (2+((aa:Int) % 3)))+1)+((((aa:Int) / 7)+(s9:Int)) % ((2+((aa:Int) % 3))-1))) (b:=2+((aa:Int) % 3)) rfl rfl (by omega))<|t_q rfl (fun w' H=>x_bld (ps:=[(0,I ((((aa:Int) / 3)+((s9:Int)*(s9:Int))) % (2+((aa:Int) % 3)))),(1,I (((((((aa:Int) / 3)+((s9:Int)*(s9:Int))) % (2+((aa:Int) % 3)))+1)+((((aa:Int) / 7)+(s9:Int)) % ((2+((aa:Int) % 3))-1))) % (2+((aa:Int) % 3)))),(2,I (((aa:Int) / ((s9:Int)+2)) % 4)),(3,I ((((aa:Int) / ((2*(s9:Int))+3)) % 7)-3)),(4,I (((aa:Int) / ((s9:Int)+5)) % 3))]) (zs:=[I 0,I 0,I 0,I 0,I 0]) (L':=[I ((((aa:Int) / 3)+((s9:Int)*(s9:Int))) % (2+((aa:Int) % 3))),I (((((((aa:Int) / 3)+((s9:Int)*(s9:Int))) % (2+((aa:Int) % 3)))+1)+((((aa:Int) / 7)+(s9:Int)) % ((2+((aa:Int) % 3))-1))) % (2+((aa:Int) % 3))),I (((aa:Int) / ((s9:Int)+2)) % 4),I ((((aa:Int) / ((2*(s9:Int))+3)) % 7)-3),I (((aa:Int) / ((s9:Int)+5)) % 3)]) rfl Tryz.underlying34 Al34 rfl (Bd34 Tryz.underlying34) (.cons (cs:=[I ((((aa:Int) / 3)+((s9:Int)*(s9:Int))) % (2+((aa:Int) % 3)))]) rfl rfl rfl rfl rfl<|.cons (cs:=[I (((((((aa:Int) / 3)+((s9:Int)*(s9:Int))) % (2+((aa:Int) % 3)))+1)+((((aa:Int) / 7)+(s9:Int)) % ((2+((aa:Int) % 3))-1))) % (2+((aa:Int) % 3)))]) rfl rfl rfl rfl rfl<|.cons (cs:=[I (((aa:Int) / ((s9:Int)+2)) % 4)]) rfl rfl rfl rfl rfl<|.cons (cs:=[I ((((aa:Int) / ((2*(s9:Int))+3)) % 7)-3)]) rfl rfl rfl rfl rfl<|.cons (cs:=[I (((aa:Int) / ((s9:Int)+5)) % 3)]) rfl rfl rfl rfl rfl<|.nil))<|t_l rfl ?_;refine t_bs (α:=Line) T23 [.agg #[I ((((aa:Int) / 3)+((s9:Int)*(s9:Int))) % (2+((aa:Int) % 3))),I (((((((aa:Int) / 3)+((s9:Int)*(s9:Int))) % (2+((aa:Int) % 3)))+1)+((((aa:Int) / 7)+(s9:Int)) % ((2+((aa:Int) % 3))-1))) % (2+((aa:Int) % 3))),I (((aa:Int) / ((s9:Int)+2)) % 4),I ((((aa:Int) / ((2*(s9:Int))+3)) % 7)-3),I (((aa:Int) / ((s9:Int)+5)) % 3)]] [(⟨((((aa:Int) / 3)+((s9:Int)*(s9:Int))) % (2+((aa:Int) % 3)):Int),(((((((aa:Int) / 3)+((s9:Int)*(s9:Int))) % (2+((aa:Int) % 3)))+1)+((((aa:Int) / 7)+(s9:Int)) % ((2+((aa:Int) % 3))-1))) % (2+((aa:Int) % 3)):Int),(((aa:Int) / ((s9:Int)+2)) % 4:Int),((((aa:Int) / ((2*(s9:Int))+3)) % 7)-3:Int),(((aa:Int) / ((s9:Int)+5)) % 3:Int)⟩:Line)] H rfl (.cons rfl (Flat.rep_enc _ (⟨((((aa:Int) / 3)+((s9:Int)*(s9:Int))) % (2+((aa:Int) % 3)):Int),(((((((aa:Int) / 3)+((s9:Int)*(s9:Int))) % (2+((aa:Int) % 3)))+1)+((((aa:Int) / 7)+(s9:Int)) % ((2+((aa:Int) % 3))-1))) % (2+((aa:Int) % 3)):Int),(((aa:Int) / ((s9:Int)+2)) % 4:Int),((((aa:Int) / ((2*(s9:Int))+3)) % 7)-3:Int),(((aa:Int) / ((s9:Int)+5)) % 3:Int)⟩:Line))<|.nil) rfl rfl rfl ?_;intro dY iL H
     have iM:=Sl.cells (H.os 0)
     have iN:=Sl.oc (H.os 0)
     have iO:=ownSl (H.get (k:=0) rfl)
     refine s_nil ⟨(H.pk []),?_⟩
     refine t_l rfl ?_;refine t_app (α:=Line) (k:=1) (l:=l5) (l2:=[(⟨((((aa:Int) / 3)+((s9:Int)*(s9:Int))) % (2+((aa:Int) % 3)):Int),(((((((aa:Int) / 3)+((s9:Int)*(s9:Int))) % (2+((aa:Int) % 3)))+1)+((((aa:Int) / 7)+(s9:Int)) % ((2+((aa:Int) % 3))-1))) % (2+((aa:Int) % 3)):Int),(((aa:Int) / ((s9:Int)+2)) % 4:Int),((((aa:Int) / ((2*(s9:Int))+3)) % 7)-3:Int),(((aa:Int) / ((s9:Int)+5)) % 3:Int)⟩:Line)]) (l':=l5++([(⟨((((aa:Int) / 3)+((s9:Int)*(s9:Int))) % (2+((aa:Int) % 3)):Int),(((((((aa:Int) / 3)+((s9:Int)*(s9:Int))) % (2+((aa:Int) % 3)))+1)+((((aa:Int) / 7)+(s9:Int)) % ((2+((aa:Int) % 3))-1))) % (2+((aa:Int) % 3)):Int),(((aa:Int) / ((s9:Int)+2)) % 4:Int),((((aa:Int) / ((2*(s9:Int))+3)) % 7)-3:Int),(((aa:Int) / ((s9:Int)+5)) % 3:Int)⟩:Line)])) (vy:=dY) T23 rfl H rfl rfl rfl (H.os 0) (H.ol 0) (rfl) (by first | omega | (simp only [List.length_nil] at *; omega)) ?_;intro cb iP H;replace H:=H.nf
     have iQ:=Sl.cells (H.os 1)
     have iR:=Sl.oc (H.os 1)
     have iS:=ownSl (H.get (k:=1) rfl)
     refine s_nil ⟨(H.pk []),?_⟩
     refine kg 1 ?_;refine t_l rfl ?_;refine t_sw 2 1 [cb] cb H rfl rfl Sz23 (Sl.cells (H.os 1)) rfl rfl (by simp only [List.all_cons,List.all_nil,Bool.true_and,Bool.and_true,Sl.oc (H.os 1)]; try rfl) ?_;intro iT H
     refine s_nil ⟨(H.pk []),?_⟩
     refine t_nil ?_;replace H:=H.pk [1,2];obtain ⟨iU,hM⟩:=M.e_gd hM;refine kg 4 ?_
     exact ⟨aS,aT,s9+1,l5++([(⟨((((aa:Int) / 3)+((s9:Int)*(s9:Int))) % (2+((aa:Int) % 3)):Int),(((((((aa:Int) / 3)+((s9:Int)*(s9:Int))) % (2+((aa:Int) % 3)))+1)+((((aa:Int) / 7)+(s9:Int)) % ((2+((aa:Int) % 3))-1))) % (2+((aa:Int) % 3)):Int),(((aa:Int) / ((s9:Int)+2)) % 4:Int),((((aa:Int) / ((2*(s9:Int))+3)) % 7)-3:Int),(((aa:Int) / ((s9:Int)+5)) % 3:Int)⟩:Line)]),cb,_,upds_of _ _ ⟨rfl,rfl,rfl,rfl,rfl,trivial⟩,M.e_inl hM aO,H⟩
    skip
    refine kg 1 ?_
    refine s_nil ⟨(H.pk []),?_⟩
    refine t_l rfl ?_;refine kg 1 ?_
    refine s_nil ⟨(H.pk []),?_⟩
    refine kg 1 ?_;refine t_q rfl (fun w' H=>x_rem' (a:=((aa:Int) / 7)+(s9:Int)) (b:=(2+((aa:Int) % 3))-1) rfl rfl (by omega)) ?_;refine kg 1 ?_;refine t_q rfl (fun w' H=>x_rem' (a:=(((((aa:Int) / 3)+((s9:Int)*(s9:Int))) % (2+((aa:Int) % 3)))+1)+((((aa:Int) / 7)+(s9:Int)) % ((2+((aa:Int) % 3))-1))) (b:=2+((aa:Int) % 3)) rfl rfl (by omega))<|t_q rfl (fun w' H=>x_bld (ps:=[(0,I ((((aa:Int) / 3)+((s9:Int)*(s9:Int))) % (2+((aa:Int) % 3)))),(1,I (((((((aa:Int) / 3)+((s9:Int)*(s9:Int))) % (2+((aa:Int) % 3)))+1)+((((aa:Int) / 7)+(s9:Int)) % ((2+((aa:Int) % 3))-1))) % (2+((aa:Int) % 3)))),(2,I (((aa:Int) / ((s9:Int)+2)) % 4)),(3,I ((((aa:Int) / ((2*(s9:Int))+3)) % 7)-3)),(4,I (((aa:Int) / ((s9:Int)+5)) % 3))]) (zs:=[I 0,I 0,I 0,I 0,I 0]) (L':=[I ((((aa:Int) / 3)+((s9:Int)*(s9:Int))) % (2+((aa:Int) % 3))),I (((((((aa:Int) / 3)+((s9:Int)*(s9:Int))) % (2+((aa:Int) % 3)))+1)+((((aa:Int) / 7)+(s9:Int)) % ((2+((aa:Int) % 3))-1))) % (2+((aa:Int) % 3))),I (((aa:Int) / ((s9:Int)+2)) % 4),I ((((aa:Int) / ((2*(s9:Int))+3)) % 7)-3),I (((aa:Int) / ((s9:Int)+5)) % 3)]) rfl Tryz.underlying34 Al34 rfl (Bd34 Tryz.underlying34) (.cons (cs:=[I ((((aa:Int) / 3)+((s9:Int)*(s9:Int))) % (2+((aa:Int) % 3)))]) rfl rfl rfl rfl rfl<|.cons (cs:=[I (((((((aa:Int) / 3)+((s9:Int)*(s9:Int))) % (2+((aa:Int) % 3)))+1)+((((aa:Int) / 7)+(s9:Int)) % ((2+((aa:Int) % 3))-1))) % (2+((aa:Int) % 3)))]) rfl rfl rfl rfl rfl<|.cons (cs:=[I (((aa:Int) / ((s9:Int)+2)) % 4)]) rfl rfl rfl rfl rfl<|.cons (cs:=[I ((((aa:Int) / ((2*(s9:Int))+3)) % 7)-3)]) rfl rfl rfl rfl rfl<|.cons (cs:=[I (((aa:Int) / ((s9:Int)+5)) % 3)]) rfl rfl rfl rfl rfl<|.nil))<|t_l rfl ?_;refine t_bs (α:=Line) T23 [.agg #[I ((((aa:Int) / 3)+((s9:Int)*(s9:Int))) % (2+((aa:Int) % 3))),I (((((((aa:Int) / 3)+((s9:Int)*(s9:Int))) % (2+((aa:Int) % 3)))+1)+((((aa:Int) / 7)+(s9:Int)) % ((2+((aa:Int) % 3))-1))) % (2+((aa:Int) % 3))),I (((aa:Int) / ((s9:Int)+2)) % 4),I ((((aa:Int) / ((2*(s9:Int))+3)) % 7)-3),I (((aa:Int) / ((s9:Int)+5)) % 3)]] [(⟨((((aa:Int) / 3)+((s9:Int)*(s9:Int))) % (2+((aa:Int) % 3)):Int),(((((((aa:Int) / 3)+((s9:Int)*(s9:Int))) % (2+((aa:Int) % 3)))+1)+((((aa:Int) / 7)+(s9:Int)) % ((2+((aa:Int) % 3))-1))) % (2+((aa:Int) % 3)):Int),(((aa:Int) / ((s9:Int)+2)) % 4:Int),((((aa:Int) / ((2*(s9:Int))+3)) % 7)-3:Int),(((aa:Int) / ((s9:Int)+5)) % 3:Int)⟩:Line)] H rfl (.cons rfl (Flat.rep_enc _ (⟨((((aa:Int) / 3)+((s9:Int)*(s9:Int))) % (2+((aa:Int) % 3)):Int),(((((((aa:Int) / 3)+((s9:Int)*(s9:Int))) % (2+((aa:Int) % 3)))+1)+((((aa:Int) / 7)+(s9:Int)) % ((2+((aa:Int) % 3))-1))) % (2+((aa:Int) % 3)):Int),(((aa:Int) / ((s9:Int)+2)) % 4:Int),((((aa:Int) / ((2*(s9:Int))+3)) % 7)-3:Int),(((aa:Int) / ((s9:Int)+5)) % 3:Int)⟩:Line))<|.nil) rfl rfl rfl ?_;intro dZ iV H
    have iW:=Sl.cells (H.os 0)
    have iX:=Sl.oc (H.os 0)
    have iY:=ownSl (H.get (k:=0) rfl)
    refine s_nil ⟨(H.pk []),?_⟩
    refine t_l rfl ?_;refine t_app (α:=Line) (k:=1) (l:=l5) (l2:=[(⟨((((aa:Int) / 3)+((s9:Int)*(s9:Int))) % (2+((aa:Int) % 3)):Int),(((((((aa:Int) / 3)+((s9:Int)*(s9:Int))) % (2+((aa:Int) % 3)))+1)+((((aa:Int) / 7)+(s9:Int)) % ((2+((aa:Int) % 3))-1))) % (2+((aa:Int) % 3)):Int),(((aa:Int) / ((s9:Int)+2)) % 4:Int),((((aa:Int) / ((2*(s9:Int))+3)) % 7)-3:Int),(((aa:Int) / ((s9:Int)+5)) % 3:Int)⟩:Line)]) (l':=l5++([(⟨((((aa:Int) / 3)+((s9:Int)*(s9:Int))) % (2+((aa:Int) % 3)):Int),(((((((aa:Int) / 3)+((s9:Int)*(s9:Int))) % (2+((aa:Int) % 3)))+1)+((((aa:Int) / 7)+(s9:Int)) % ((2+((aa:Int) % 3))-1))) % (2+((aa:Int) % 3)):Int),(((aa:Int) / ((s9:Int)+2)) % 4:Int),((((aa:Int) / ((2*(s9:Int))+3)) % 7)-3:Int),(((aa:Int) / ((s9:Int)+5)) % 3:Int)⟩:Line)])) (vy:=dZ) T23 rfl H rfl rfl rfl (H.os 0) (H.ol 0) (rfl) (by first | omega | (simp only [List.length_nil] at *; omega)) ?_;intro cd iZ H;replace H:=H.nf
    have i6:=Sl.cells (H.os 1)
    have i7:=Sl.oc (H.os 1)
    have i8:=ownSl (H.get (k:=1) rfl)
    refine s_nil ⟨(H.pk []),?_⟩
    refine kg 1 ?_;refine t_l rfl ?_;refine t_sw 2 1 [cd] cd H rfl rfl Sz23 (Sl.cells (H.os 1)) rfl rfl (by simp only [List.all_cons,List.all_nil,Bool.true_and,Bool.and_true,Sl.oc (H.os 1)]; try rfl) ?_;intro i9 H
    refine s_nil ⟨(H.pk []),?_⟩
    refine t_nil ?_;replace H:=H.pk [1,2];obtain ⟨ja,hM⟩:=M.e_gd hM;refine kg 4 ?_
    exact ⟨aS,aT,s9+1,l5++([(⟨((((aa:Int) / 3)+((s9:Int)*(s9:Int))) % (2+((aa:Int) % 3)):Int),(((((((aa:Int) / 3)+((s9:Int)*(s9:Int))) % (2+((aa:Int) % 3)))+1)+((((aa:Int) / 7)+(s9:Int)) % ((2+((aa:Int) % 3))-1))) % (2+((aa:Int) % 3)):Int),(((aa:Int) / ((s9:Int)+2)) % 4:Int),((((aa:Int) / ((2*(s9:Int))+3)) % 7)-3:Int),(((aa:Int) / ((s9:Int)+5)) % 3:Int)⟩:Line)]),cd,_,upds_of _ _ ⟨rfl,rfl,rfl,rfl,rfl,trivial⟩,M.e_inl hM aO,H⟩
   ·skip
    refine kg 1 ?_
    have jb:=Sl.cells (H.os 0)
    have jc:=Sl.oc (H.os 0)
    have jd:=ownSl (H.get (k:=0) rfl)
    refine s_nil ⟨(H.pk []),?_⟩
    obtain ⟨je,hM⟩:=M.e_gd hM;obtain ⟨jf,hM⟩:=M.e_gd hM;refine kg 1 ?_;refine t_q rfl (fun w' H=>x_rem' (a:=((aa:Int) / 7)+(s9:Int)) (b:=(2+((aa:Int) % 3))-1) rfl rfl (by omega)) ?_;obtain ⟨jg,hM⟩:=M.e_gd hM;obtain ⟨jh,hM⟩:=M.e_gd hM;obtain ⟨ji,hM⟩:=M.e_gd hM;refine kg 1 ?_;refine t_l2 rfl rfl ?_ ?_
    ·skip
     refine kg 1 ?_
     refine s_nil ⟨(H.pk []),?_⟩
     refine t_l rfl ?_;refine kg 1 ?_
     refine s_nil ⟨(H.pk []),?_⟩
     refine t_q rfl (fun w' H=>x_rem' (a:=(((((aa:Int) / 3)+((s9:Int)*(s9:Int))) % (2+((aa:Int) % 3)))+1)+((((aa:Int) / 7)+(s9:Int)) % ((2+((aa:Int) % 3))-1))) (b:=2+((aa:Int) % 3)) rfl rfl (by omega))<|t_q rfl (fun w' H=>x_bld (ps:=[(0,I ((((aa:Int) / 3)+((s9:Int)*(s9:Int))) % (2+((aa:Int) % 3)))),(1,I (((((((aa:Int) / 3)+((s9:Int)*(s9:Int))) % (2+((aa:Int) % 3)))+1)+((((aa:Int) / 7)+(s9:Int)) % ((2+((aa:Int) % 3))-1))) % (2+((aa:Int) % 3)))),(2,I (((aa:Int) / ((s9:Int)+2)) % 4)),(3,I ((((aa:Int) / ((2*(s9:Int))+3)) % 7)-3)),(4,I (((aa:Int) / ((s9:Int)+5)) % 3))]) (zs:=[I 0,I 0,I 0,I 0,I 0]) (L':=[I ((((aa:Int) / 3)+((s9:Int)*(s9:Int))) % (2+((aa:Int) % 3))),I (((((((aa:Int) / 3)+((s9:Int)*(s9:Int))) % (2+((aa:Int) % 3)))+1)+((((aa:Int) / 7)+(s9:Int)) % ((2+((aa:Int) % 3))-1))) % (2+((aa:Int) % 3))),I (((aa:Int) / ((s9:Int)+2)) % 4),I ((((aa:Int) / ((2*(s9:Int))+3)) % 7)-3),I (((aa:Int) / ((s9:Int)+5)) % 3)]) rfl Tryz.underlying34 Al34 rfl (Bd34 Tryz.underlying34) (.cons (cs:=[I ((((aa:Int) / 3)+((s9:Int)*(s9:Int))) % (2+((aa:Int) % 3)))]) rfl rfl rfl rfl rfl<|.cons (cs:=[I (((((((aa:Int) / 3)+((s9:Int)*(s9:Int))) % (2+((aa:Int) % 3)))+1)+((((aa:Int) / 7)+(s9:Int)) % ((2+((aa:Int) % 3))-1))) % (2+((aa:Int) % 3)))]) rfl rfl rfl rfl rfl<|.cons (cs:=[I (((aa:Int) / ((s9:Int)+2)) % 4)]) rfl rfl rfl rfl rfl<|.cons (cs:=[I ((((aa:Int) / ((2*(s9:Int))+3)) % 7)-3)]) rfl rfl rfl rfl rfl<|.cons (cs:=[I (((aa:Int) / ((s9:Int)+5)) % 3)]) rfl rfl rfl rfl rfl<|.nil))<|t_l rfl ?_;refine t_bs (α:=Line) T23 [.agg #[I ((((aa:Int) / 3)+((s9:Int)*(s9:Int))) % (2+((aa:Int) % 3))),I (((((((aa:Int) / 3)+((s9:Int)*(s9:Int))) % (2+((aa:Int) % 3)))+1)+((((aa:Int) / 7)+(s9:Int)) % ((2+((aa:Int) % 3))-1))) % (2+((aa:Int) % 3))),I (((aa:Int) / ((s9:Int)+2)) % 4),I ((((aa:Int) / ((2*(s9:Int))+3)) % 7)-3),I (((aa:Int) / ((s9:Int)+5)) % 3)]] [(⟨((((aa:Int) / 3)+((s9:Int)*(s9:Int))) % (2+((aa:Int) % 3)):Int),(((((((aa:Int) / 3)+((s9:Int)*(s9:Int))) % (2+((aa:Int) % 3)))+1)+((((aa:Int) / 7)+(s9:Int)) % ((2+((aa:Int) % 3))-1))) % (2+((aa:Int) % 3)):Int),(((aa:Int) / ((s9:Int)+2)) % 4:Int),((((aa:Int) / ((2*(s9:Int))+3)) % 7)-3:Int),(((aa:Int) / ((s9:Int)+5)) % 3:Int)⟩:Line)] H rfl (.cons rfl (Flat.rep_enc _ (⟨((((aa:Int) / 3)+((s9:Int)*(s9:Int))) % (2+((aa:Int) % 3)):Int),(((((((aa:Int) / 3)+((s9:Int)*(s9:Int))) % (2+((aa:Int) % 3)))+1)+((((aa:Int) / 7)+(s9:Int)) % ((2+((aa:Int) % 3))-1))) % (2+((aa:Int) % 3)):Int),(((aa:Int) / ((s9:Int)+2)) % 4:Int),((((aa:Int) / ((2*(s9:Int))+3)) % 7)-3:Int),(((aa:Int) / ((s9:Int)+5)) % 3:Int)⟩:Line))<|.nil) rfl rfl rfl ?_;intro d0 jj H
     have jl:=Sl.cells (H.os 0)
     have jm:=Sl.oc (H.os 0)
     have jn:=ownSl (H.get (k:=0) rfl)
     refine s_nil ⟨(H.pk []),?_⟩
     refine t_l rfl ?_;refine t_app (α:=Line) (k:=1) (l:=l5) (l2:=[(⟨((((aa:Int) / 3)+((s9:Int)*(s9:Int))) % (2+((aa:Int) % 3)):Int),(((((((aa:Int) / 3)+((s9:Int)*(s9:Int))) % (2+((aa:Int) % 3)))+1)+((((aa:Int) / 7)+(s9:Int)) % ((2+((aa:Int) % 3))-1))) % (2+((aa:Int) % 3)):Int),(((aa:Int) / ((s9:Int)+2)) % 4:Int),((((aa:Int) / ((2*(s9:Int))+3)) % 7)-3:Int),(((aa:Int) / ((s9:Int)+5)) % 3:Int)⟩:Line)]) (l':=l5++([(⟨((((aa:Int) / 3)+((s9:Int)*(s9:Int))) % (2+((aa:Int) % 3)):Int),(((((((aa:Int) / 3)+((s9:Int)*(s9:Int))) % (2+((aa:Int) % 3)))+1)+((((aa:Int) / 7)+(s9:Int)) % ((2+((aa:Int) % 3))-1))) % (2+((aa:Int) % 3)):Int),(((aa:Int) / ((s9:Int)+2)) % 4:Int),((((aa:Int) / ((2*(s9:Int))+3)) % 7)-3:Int),(((aa:Int) / ((s9:Int)+5)) % 3:Int)⟩:Line)])) (vy:=d0) T23 rfl H rfl rfl rfl (H.os 0) (H.ol 0) (rfl) (by first | omega | (simp only [List.length_nil] at *; omega)) ?_;intro ce jo H;replace H:=H.nf
     have jp:=Sl.cells (H.os 1)
     have jq:=Sl.oc (H.os 1)
     have jr:=ownSl (H.get (k:=1) rfl)
     refine s_nil ⟨(H.pk []),?_⟩
     refine kg 1 ?_;refine t_l rfl ?_;refine t_sw 2 1 [ce] ce H rfl rfl Sz23 (Sl.cells (H.os 1)) rfl rfl (by simp only [List.all_cons,List.all_nil,Bool.true_and,Bool.and_true,Sl.oc (H.os 1)]; try rfl) ?_;intro js H
     refine s_nil ⟨(H.pk []),?_⟩
     refine t_nil ?_;replace H:=H.pk [1,2];obtain ⟨jt,hM⟩:=M.e_gd hM;refine kg 4 ?_
     exact ⟨aS,aT,s9+1,l5++([(⟨((((aa:Int) / 3)+((s9:Int)*(s9:Int))) % (2+((aa:Int) % 3)):Int),(((((((aa:Int) / 3)+((s9:Int)*(s9:Int))) % (2+((aa:Int) % 3)))+1)+((((aa:Int) / 7)+(s9:Int)) % ((2+((aa:Int) % 3))-1))) % (2+((aa:Int) % 3)):Int),(((aa:Int) / ((s9:Int)+2)) % 4:Int),((((aa:Int) / ((2*(s9:Int))+3)) % 7)-3:Int),(((aa:Int) / ((s9:Int)+5)) % 3:Int)⟩:Line)]),ce,_,upds_of _ _ ⟨rfl,rfl,rfl,rfl,rfl,trivial⟩,M.e_inl hM aO,H⟩
    skip
    refine kg 1 ?_
    refine s_nil ⟨(H.pk []),?_⟩
    refine t_q rfl (fun w' H=>x_rem' (a:=(((((aa:Int) / 3)+((s9:Int)*(s9:Int))) % (2+((aa:Int) % 3)))+1)+((((aa:Int) / 7)+(s9:Int)) % ((2+((aa:Int) % 3))-1))) (b:=2+((aa:Int) % 3)) rfl rfl (by omega))<|t_q rfl (fun w' H=>x_bld (ps:=[(0,I ((((aa:Int) / 3)+((s9:Int)*(s9:Int))) % (2+((aa:Int) % 3)))),(1,I (((((((aa:Int) / 3)+((s9:Int)*(s9:Int))) % (2+((aa:Int) % 3)))+1)+((((aa:Int) / 7)+(s9:Int)) % ((2+((aa:Int) % 3))-1))) % (2+((aa:Int) % 3)))),(2,I (((aa:Int) / ((s9:Int)+2)) % 4)),(3,I ((((aa:Int) / ((2*(s9:Int))+3)) % 7)-3)),(4,I (((aa:Int) / ((s9:Int)+5)) % 3))]) (zs:=[I 0,I 0,I 0,I 0,I 0]) (L':=[I ((((aa:Int) / 3)+((s9:Int)*(s9:Int))) % (2+((aa:Int) % 3))),I (((((((aa:Int) / 3)+((s9:Int)*(s9:Int))) % (2+((aa:Int) % 3)))+1)+((((aa:Int) / 7)+(s9:Int)) % ((2+((aa:Int) % 3))-1))) % (2+((aa:Int) % 3))),I (((aa:Int) / ((s9:Int)+2)) % 4),I ((((aa:Int) / ((2*(s9:Int))+3)) % 7)-3),I (((aa:Int) / ((s9:Int)+5)) % 3)]) rfl Tryz.underlying34 Al34 rfl (Bd34 Tryz.underlying34) (.cons (cs:=[I ((((aa:Int) / 3)+((s9:Int)*(s9:Int))) % (2+((aa:Int) % 3)))]) rfl rfl rfl rfl rfl<|.cons (cs:=[I (((((((aa:Int) / 3)+((s9:Int)*(s9:Int))) % (2+((aa:Int) % 3)))+1)+((((aa:Int) / 7)+(s9:Int)) % ((2+((aa:Int) % 3))-1))) % (2+((aa:Int) % 3)))]) rfl rfl rfl rfl rfl<|.cons (cs:=[I (((aa:Int) / ((s9:Int)+2)) % 4)]) rfl rfl rfl rfl rfl<|.cons (cs:=[I ((((aa:Int) / ((2*(s9:Int))+3)) % 7)-3)]) rfl rfl rfl rfl rfl<|.cons (cs:=[I (((aa:Int) / ((s9:Int)+5)) % 3)]) rfl rfl rfl rfl rfl<|.nil)) ?_;refine t_l2 rfl rfl ?_ ?_
    ·skip
     refine kg 1 ?_
     refine s_nil ⟨(H.pk []),?_⟩
     refine t_l rfl ?_;refine t_bs (α:=Line) T23 [.agg #[I ((((aa:Int) / 3)+((s9:Int)*(s9:Int))) % (2+((aa:Int) % 3))),I (((((((aa:Int) / 3)+((s9:Int)*(s9:Int))) % (2+((aa:Int) % 3)))+1)+((((aa:Int) / 7)+(s9:Int)) % ((2+((aa:Int) % 3))-1))) % (2+((aa:Int) % 3))),I (((aa:Int) / ((s9:Int)+2)) % 4),I ((((aa:Int) / ((2*(s9:Int))+3)) % 7)-3),I (((aa:Int) / ((s9:Int)+5)) % 3)]] [(⟨((((aa:Int) / 3)+((s9:Int)*(s9:Int))) % (2+((aa:Int) % 3)):Int),(((((((aa:Int) / 3)+((s9:Int)*(s9:Int))) % (2+((aa:Int) % 3)))+1)+((((aa:Int) / 7)+(s9:Int)) % ((2+((aa:Int) % 3))-1))) % (2+((aa:Int) % 3)):Int),(((aa:Int) / ((s9:Int)+2)) % 4:Int),((((aa:Int) / ((2*(s9:Int))+3)) % 7)-3:Int),(((aa:Int) / ((s9:Int)+5)) % 3:Int)⟩:Line)] H rfl (.cons rfl (Flat.rep_enc _ (⟨((((aa:Int) / 3)+((s9:Int)*(s9:Int))) % (2+((aa:Int) % 3)):Int),(((((((aa:Int) / 3)+((s9:Int)*(s9:Int))) % (2+((aa:Int) % 3)))+1)+((((aa:Int) / 7)+(s9:Int)) % ((2+((aa:Int) % 3))-1))) % (2+((aa:Int) % 3)):Int),(((aa:Int) / ((s9:Int)+2)) % 4:Int),((((aa:Int) / ((2*(s9:Int))+3)) % 7)-3:Int),(((aa:Int) / ((s9:Int)+5)) % 3:Int)⟩:Line))<|.nil) rfl rfl rfl ?_;intro d5 ju H
     have jv:=Sl.cells (H.os 0)
     have jw:=Sl.oc (H.os 0)
     have jx:=ownSl (H.get (k:=0) rfl)
     refine s_nil ⟨(H.pk []),?_⟩
     refine t_l rfl ?_;refine t_app (α:=Line) (k:=1) (l:=l5) (l2:=[(⟨((((aa:Int) / 3)+((s9:Int)*(s9:Int))) % (2+((aa:Int) % 3)):Int),(((((((aa:Int) / 3)+((s9:Int)*(s9:Int))) % (2+((aa:Int) % 3)))+1)+((((aa:Int) / 7)+(s9:Int)) % ((2+((aa:Int) % 3))-1))) % (2+((aa:Int) % 3)):Int),(((aa:Int) / ((s9:Int)+2)) % 4:Int),((((aa:Int) / ((2*(s9:Int))+3)) % 7)-3:Int),(((aa:Int) / ((s9:Int)+5)) % 3:Int)⟩:Line)]) (l':=l5++([(⟨((((aa:Int) / 3)+((s9:Int)*(s9:Int))) % (2+((aa:Int) % 3)):Int),(((((((aa:Int) / 3)+((s9:Int)*(s9:Int))) % (2+((aa:Int) % 3)))+1)+((((aa:Int) / 7)+(s9:Int)) % ((2+((aa:Int) % 3))-1))) % (2+((aa:Int) % 3)):Int),(((aa:Int) / ((s9:Int)+2)) % 4:Int),((((aa:Int) / ((2*(s9:Int))+3)) % 7)-3:Int),(((aa:Int) / ((s9:Int)+5)) % 3:Int)⟩:Line)])) (vy:=d5) T23 rfl H rfl rfl rfl (H.os 0) (H.ol 0) (rfl) (by first | omega | (simp only [List.length_nil] at *; omega)) ?_;intro cf jy H;replace H:=H.nf
     have jz:=Sl.cells (H.os 1)
     have jA:=Sl.oc (H.os 1)
     have jC:=ownSl (H.get (k:=1) rfl)
     refine s_nil ⟨(H.pk []),?_⟩
     refine kg 1 ?_;refine t_l rfl ?_;refine t_sw 2 1 [cf] cf H rfl rfl Sz23 (Sl.cells (H.os 1)) rfl rfl (by simp only [List.all_cons,List.all_nil,Bool.true_and,Bool.and_true,Sl.oc (H.os 1)]; try rfl) ?_;intro jD H
     refine s_nil ⟨(H.pk []),?_⟩
     refine t_nil ?_;replace H:=H.pk [1,2];obtain ⟨jF,hM⟩:=M.e_gd hM;refine kg 4 ?_
     exact ⟨aS,aT,s9+1,l5++([(⟨((((aa:Int) / 3)+((s9:Int)*(s9:Int))) % (2+((aa:Int) % 3)):Int),(((((((aa:Int) / 3)+((s9:Int)*(s9:Int))) % (2+((aa:Int) % 3)))+1)+((((aa:Int) / 7)+(s9:Int)) % ((2+((aa:Int) % 3))-1))) % (2+((aa:Int) % 3)):Int),(((aa:Int) / ((s9:Int)+2)) % 4:Int),((((aa:Int) / ((2*(s9:Int))+3)) % 7)-3:Int),(((aa:Int) / ((s9:Int)+5)) % 3:Int)⟩:Line)]),cf,_,upds_of _ _ ⟨rfl,rfl,rfl,rfl,rfl,trivial⟩,M.e_inl hM aO,H⟩
    skip
    refine t_bs (α:=Line) T23 [.agg #[I ((((aa:Int) / 3)+((s9:Int)*(s9:Int))) % (2+((aa:Int) % 3))),I (((((((aa:Int) / 3)+((s9:Int)*(s9:Int))) % (2+((aa:Int) % 3)))+1)+((((aa:Int) / 7)+(s9:Int)) % ((2+((aa:Int) % 3))-1))) % (2+((aa:Int) % 3))),I (((aa:Int) / ((s9:Int)+2)) % 4),I ((((aa:Int) / ((2*(s9:Int))+3)) % 7)-3),I (((aa:Int) / ((s9:Int)+5)) % 3)]] [(⟨((((aa:Int) / 3)+((s9:Int)*(s9:Int))) % (2+((aa:Int) % 3)):Int),(((((((aa:Int) / 3)+((s9:Int)*(s9:Int))) % (2+((aa:Int) % 3)))+1)+((((aa:Int) / 7)+(s9:Int)) % ((2+((aa:Int) % 3))-1))) % (2+((aa:Int) % 3)):Int),(((aa:Int) / ((s9:Int)+2)) % 4:Int),((((aa:Int) / ((2*(s9:Int))+3)) % 7)-3:Int),(((aa:Int) / ((s9:Int)+5)) % 3:Int)⟩:Line)] H rfl (.cons rfl (Flat.rep_enc _ (⟨((((aa:Int) / 3)+((s9:Int)*(s9:Int))) % (2+((aa:Int) % 3)):Int),(((((((aa:Int) / 3)+((s9:Int)*(s9:Int))) % (2+((aa:Int) % 3)))+1)+((((aa:Int) / 7)+(s9:Int)) % ((2+((aa:Int) % 3))-1))) % (2+((aa:Int) % 3)):Int),(((aa:Int) / ((s9:Int)+2)) % 4:Int),((((aa:Int) / ((2*(s9:Int))+3)) % 7)-3:Int),(((aa:Int) / ((s9:Int)+5)) % 3:Int)⟩:Line))<|.nil) rfl rfl rfl ?_;intro d6 jH H
    have jI:=Sl.cells (H.os 0)
    have jJ:=Sl.oc (H.os 0)
    have jK:=ownSl (H.get (k:=0) rfl)
    refine s_nil ⟨(H.pk []),?_⟩
    refine t_l rfl ?_;refine kg 1 ?_
    refine s_nil ⟨(H.pk []),?_⟩
    refine t_l rfl ?_;refine t_app (α:=Line) (k:=1) (l:=l5) (l2:=[(⟨((((aa:Int) / 3)+((s9:Int)*(s9:Int))) % (2+((aa:Int) % 3)):Int),(((((((aa:Int) / 3)+((s9:Int)*(s9:Int))) % (2+((aa:Int) % 3)))+1)+((((aa:Int) / 7)+(s9:Int)) % ((2+((aa:Int) % 3))-1))) % (2+((aa:Int) % 3)):Int),(((aa:Int) / ((s9:Int)+2)) % 4:Int),((((aa:Int) / ((2*(s9:Int))+3)) % 7)-3:Int),(((aa:Int) / ((s9:Int)+5)) % 3:Int)⟩:Line)]) (l':=l5++([(⟨((((aa:Int) / 3)+((s9:Int)*(s9:Int))) % (2+((aa:Int) % 3)):Int),(((((((aa:Int) / 3)+((s9:Int)*(s9:Int))) % (2+((aa:Int) % 3)))+1)+((((aa:Int) / 7)+(s9:Int)) % ((2+((aa:Int) % 3))-1))) % (2+((aa:Int) % 3)):Int),(((aa:Int) / ((s9:Int)+2)) % 4:Int),((((aa:Int) / ((2*(s9:Int))+3)) % 7)-3:Int),(((aa:Int) / ((s9:Int)+5)) % 3:Int)⟩:Line)])) (vy:=d6) T23 rfl H rfl rfl rfl (H.os 0) (H.ol 0) (rfl) (by first | omega | (simp only [List.length_nil] at *; omega)) ?_;intro cg jM H;replace H:=H.nf
    have jN:=Sl.cells (H.os 1)
    have jP:=Sl.oc (H.os 1)
    have jQ:=ownSl (H.get (k:=1) rfl)
    refine s_nil ⟨(H.pk []),?_⟩
    refine kg 1 ?_;refine t_l rfl ?_;refine t_sw 2 1 [cg] cg H rfl rfl Sz23 (Sl.cells (H.os 1)) rfl rfl (by simp only [List.all_cons,List.all_nil,Bool.true_and,Bool.and_true,Sl.oc (H.os 1)]; try rfl) ?_;intro jR H
    refine s_nil ⟨(H.pk []),?_⟩
    refine t_nil ?_;replace H:=H.pk [1,2];obtain ⟨jT,hM⟩:=M.e_gd hM;refine kg 4 ?_
    exact ⟨aS,aT,s9+1,l5++([(⟨((((aa:Int) / 3)+((s9:Int)*(s9:Int))) % (2+((aa:Int) % 3)):Int),(((((((aa:Int) / 3)+((s9:Int)*(s9:Int))) % (2+((aa:Int) % 3)))+1)+((((aa:Int) / 7)+(s9:Int)) % ((2+((aa:Int) % 3))-1))) % (2+((aa:Int) % 3)):Int),(((aa:Int) / ((s9:Int)+2)) % 4:Int),((((aa:Int) / ((2*(s9:Int))+3)) % 7)-3:Int),(((aa:Int) / ((s9:Int)+5)) % 3:Int)⟩:Line)]),cg,_,upds_of _ _ ⟨rfl,rfl,rfl,rfl,rfl,trivial⟩,M.e_inl hM aO,H⟩
   skip
   refine kg 1 ?_
   have jW:=Sl.cells (H.os 0)
   have jX:=Sl.oc (H.os 0)
   have jY:=ownSl (H.get (k:=0) rfl)
   refine s_nil ⟨(H.pk []),?_⟩
   obtain ⟨jZ,hM⟩:=M.e_gd hM;obtain ⟨j6,hM⟩:=M.e_gd hM;obtain ⟨j7,hM⟩:=M.e_gd hM;obtain ⟨j8,hM⟩:=M.e_gd hM;obtain ⟨j9,hM⟩:=M.e_gd hM;refine t_l2 rfl rfl ?_ ?_
   ·skip
    refine kg 1 ?_
    refine s_nil ⟨(H.pk []),?_⟩
    refine t_l rfl ?_;refine kg 1 ?_
    refine s_nil ⟨(H.pk []),?_⟩
    refine kg 1 ?_;refine t_q rfl (fun w' H=>x_rem' (a:=((aa:Int) / 7)+(s9:Int)) (b:=(2+((aa:Int) % 3))-1) rfl rfl (by omega)) ?_;refine kg 1 ?_;refine t_q rfl (fun w' H=>x_rem' (a:=(((((aa:Int) / 3)+((s9:Int)*(s9:Int))) % (2+((aa:Int) % 3)))+1)+((((aa:Int) / 7)+(s9:Int)) % ((2+((aa:Int) % 3))-1))) (b:=2+((aa:Int) % 3)) rfl rfl (by omega))<|t_q rfl (fun w' H=>x_bld (ps:=[(0,I ((((aa:Int) / 3)+((s9:Int)*(s9:Int))) % (2+((aa:Int) % 3)))),(1,I (((((((aa:Int) / 3)+((s9:Int)*(s9:Int))) % (2+((aa:Int) % 3)))+1)+((((aa:Int) / 7)+(s9:Int)) % ((2+((aa:Int) % 3))-1))) % (2+((aa:Int) % 3)))),(2,I (((aa:Int) / ((s9:Int)+2)) % 4)),(3,I ((((aa:Int) / ((2*(s9:Int))+3)) % 7)-3)),(4,I (((aa:Int) / ((s9:Int)+5)) % 3))]) (zs:=[I 0,I 0,I 0,I 0,I 0]) (L':=[I ((((aa:Int) / 3)+((s9:Int)*(s9:Int))) % (2+((aa:Int) % 3))),I (((((((aa:Int) / 3)+((s9:Int)*(s9:Int))) % (2+((aa:Int) % 3)))+1)+((((aa:Int) / 7)+(s9:Int)) % ((2+((aa:Int) % 3))-1))) % (2+((aa:Int) % 3))),I (((aa:Int) / ((s9:Int)+2)) % 4),I ((((aa:Int) / ((2*(s9:Int))+3)) % 7)-3),I (((aa:Int) / ((s9:Int)+5)) % 3)]) rfl Tryz.underlying34 Al34 rfl (Bd34 Tryz.underlying34) (.cons (cs:=[I ((((aa:Int) / 3)+((s9:Int)*(s9:Int))) % (2+((aa:Int) % 3)))]) rfl rfl rfl rfl rfl<|.cons (cs:=[I (((((((aa:Int) / 3)+((s9:Int)*(s9:Int))) % (2+((aa:Int) % 3)))+1)+((((aa:Int) / 7)+(s9:Int)) % ((2+((aa:Int) % 3))-1))) % (2+((aa:Int) % 3)))]) rfl rfl rfl rfl rfl<|.cons (cs:=[I (((aa:Int) / ((s9:Int)+2)) % 4)]) rfl rfl rfl rfl rfl<|.cons (cs:=[I ((((aa:Int) / ((2*(s9:Int))+3)) % 7)-3)]) rfl rfl rfl rfl rfl<|.cons (cs:=[I (((aa:Int) / ((s9:Int)+5)) % 3)]) rfl rfl rfl rfl rfl<|.nil))<|t_l rfl ?_;refine t_bs (α:=Line) T23 [.agg #[I ((((aa:Int) / 3)+((s9:Int)*(s9:Int))) % (2+((aa:Int) % 3))),I (((((((aa:Int) / 3)+((s9:Int)*(s9:Int))) % (2+((aa:Int) % 3)))+1)+((((aa:Int) / 7)+(s9:Int)) % ((2+((aa:Int) % 3))-1))) % (2+((aa:Int) % 3))),I (((aa:Int) / ((s9:Int)+2)) % 4),I ((((aa:Int) / ((2*(s9:Int))+3)) % 7)-3),I (((aa:Int) / ((s9:Int)+5)) % 3)]] [(⟨((((aa:Int) / 3)+((s9:Int)*(s9:Int))) % (2+((aa:Int) % 3)):Int),(((((((aa:Int) / 3)+((s9:Int)*(s9:Int))) % (2+((aa:Int) % 3)))+1)+((((aa:Int) / 7)+(s9:Int)) % ((2+((aa:Int) % 3))-1))) % (2+((aa:Int) % 3)):Int),(((aa:Int) / ((s9:Int)+2)) % 4:Int),((((aa:Int) / ((2*(s9:Int))+3)) % 7)-3:Int),(((aa:Int) / ((s9:Int)+5)) % 3:Int)⟩:Line)] H rfl (.cons rfl (Flat.rep_enc _ (⟨((((aa:Int) / 3)+((s9:Int)*(s9:Int))) % (2+((aa:Int) % 3)):Int),(((((((aa:Int) / 3)+((s9:Int)*(s9:Int))) % (2+((aa:Int) % 3)))+1)+((((aa:Int) / 7)+(s9:Int)) % ((2+((aa:Int) % 3))-1))) % (2+((aa:Int) % 3)):Int),(((aa:Int) / ((s9:Int)+2)) % 4:Int),((((aa:Int) / ((2*(s9:Int))+3)) % 7)-3:Int),(((aa:Int) / ((s9:Int)+5)) % 3:Int)⟩:Line))<|.nil) rfl rfl rfl ?_;intro d7 ka H
    have ke:=Sl.cells (H.os 0)
    have kh:=Sl.oc (H.os 0)
    have ki:=ownSl (H.get (k:=0) rfl)
    refine s_nil ⟨(H.pk []),?_⟩
    refine t_l rfl ?_;refine t_app (α:=Line) (k:=1) (l:=l5) (l2:=[(⟨((((aa:Int) / 3)+((s9:Int)*(s9:Int))) % (2+((aa:Int) % 3)):Int),(((((((aa:Int) / 3)+((s9:Int)*(s9:Int))) % (2+((aa:Int) % 3)))+1)+((((aa:Int) / 7)+(s9:Int)) % ((2+((aa:Int) % 3))-1))) % (2+((aa:Int) % 3)):Int),(((aa:Int) / ((s9:Int)+2)) % 4:Int),((((aa:Int) / ((2*(s9:Int))+3)) % 7)-3:Int),(((aa:Int) / ((s9:Int)+5)) % 3:Int)⟩:Line)]) (l':=l5++([(⟨((((aa:Int) / 3)+((s9:Int)*(s9:Int))) % (2+((aa:Int) % 3)):Int),(((((((aa:Int) / 3)+((s9:Int)*(s9:Int))) % (2+((aa:Int) % 3)))+1)+((((aa:Int) / 7)+(s9:Int)) % ((2+((aa:Int) % 3))-1))) % (2+((aa:Int) % 3)):Int),(((aa:Int) / ((s9:Int)+2)) % 4:Int),((((aa:Int) / ((2*(s9:Int))+3)) % 7)-3:Int),(((aa:Int) / ((s9:Int)+5)) % 3:Int)⟩:Line)])) (vy:=d7) T23 rfl H rfl rfl rfl (H.os 0) (H.ol 0) (rfl) (by first | omega | (simp only [List.length_nil] at *; omega)) ?_;intro ch kl H;replace H:=H.nf
    have km:=Sl.cells (H.os 1)
    have kn:=Sl.oc (H.os 1)
    have ko:=ownSl (H.get (k:=1) rfl)
    refine s_nil ⟨(H.pk []),?_⟩
    refine kg 1 ?_;refine t_l rfl ?_;refine t_sw 2 1 [ch] ch H rfl rfl Sz23 (Sl.cells (H.os 1)) rfl rfl (by simp only [List.all_cons,List.all_nil,Bool.true_and,Bool.and_true,Sl.oc (H.os 1)]; try rfl) ?_;intro kq H
    refine s_nil ⟨(H.pk []),?_⟩
    refine t_nil ?_;replace H:=H.pk [1,2];obtain ⟨kr,hM⟩:=M.e_gd hM;refine kg 4 ?_
    exact ⟨aS,aT,s9+1,l5++([(⟨((((aa:Int) / 3)+((s9:Int)*(s9:Int))) % (2+((aa:Int) % 3)):Int),(((((((aa:Int) / 3)+((s9:Int)*(s9:Int))) % (2+((aa:Int) % 3)))+1)+((((aa:Int) / 7)+(s9:Int)) % ((2+((aa:Int) % 3))-1))) % (2+((aa:Int) % 3)):Int),(((aa:Int) / ((s9:Int)+2)) % 4:Int),((((aa:Int) / ((2*(s9:Int))+3)) % 7)-3:Int),(((aa:Int) / ((s9:Int)+5)) % 3:Int)⟩:Line)]),ch,_,upds_of _ _ ⟨rfl,rfl,rfl,rfl,rfl,trivial⟩,M.e_inl hM aO,H⟩
   skip
   refine kg 1 ?_
   refine s_nil ⟨(H.pk []),?_⟩
   refine kg 1 ?_;refine t_q rfl (fun w' H=>x_rem' (a:=((aa:Int) / 7)+(s9:Int)) (b:=(2+((aa:Int) % 3))-1) rfl rfl (by omega)) ?_;refine kg 1 ?_;refine t_q rfl (fun w' H=>x_rem' (a:=(((((aa:Int) / 3)+((s9:Int)*(s9:Int))) % (2+((aa:Int) % 3)))+1)+((((aa:Int) / 7)+(s9:Int)) % ((2+((aa:Int) % 3))-1))) (b:=2+((aa:Int) % 3)) rfl rfl (by omega))<|t_q rfl (fun w' H=>x_bld (ps:=[(0,I ((((aa:Int) / 3)+((s9:Int)*(s9:Int))) % (2+((aa:Int) % 3)))),(1,I (((((((aa:Int) / 3)+((s9:Int)*(s9:Int))) % (2+((aa:Int) % 3)))+1)+((((aa:Int) / 7)+(s9:Int)) % ((2+((aa:Int) % 3))-1))) % (2+((aa:Int) % 3)))),(2,I (((aa:Int) / ((s9:Int)+2)) % 4)),(3,I ((((aa:Int) / ((2*(s9:Int))+3)) % 7)-3)),(4,I (((aa:Int) / ((s9:Int)+5)) % 3))]) (zs:=[I 0,I 0,I 0,I 0,I 0]) (L':=[I ((((aa:Int) / 3)+((s9:Int)*(s9:Int))) % (2+((aa:Int) % 3))),I (((((((aa:Int) / 3)+((s9:Int)*(s9:Int))) % (2+((aa:Int) % 3)))+1)+((((aa:Int) / 7)+(s9:Int)) % ((2+((aa:Int) % 3))-1))) % (2+((aa:Int) % 3))),I (((aa:Int) / ((s9:Int)+2)) % 4),I ((((aa:Int) / ((2*(s9:Int))+3)) % 7)-3),I (((aa:Int) / ((s9:Int)+5)) % 3)]) rfl Tryz.underlying34 Al34 rfl (Bd34 Tryz.underlying34) (.cons (cs:=[I ((((aa:Int) / 3)+((s9:Int)*(s9:Int))) % (2+((aa:Int) % 3)))]) rfl rfl rfl rfl rfl<|.cons (cs:=[I (((((((aa:Int) / 3)+((s9:Int)*(s9:Int))) % (2+((aa:Int) % 3)))+1)+((((aa:Int) / 7)+(s9:Int)) % ((2+((aa:Int) % 3))-1))) % (2+((aa:Int) % 3)))]) rfl rfl rfl rfl rfl<|.cons (cs:=[I (((aa:Int) / ((s9:Int)+2)) % 4)]) rfl rfl rfl rfl rfl<|.cons (cs:=[I ((((aa:Int) / ((2*(s9:Int))+3)) % 7)-3)]) rfl rfl rfl rfl rfl<|.cons (cs:=[I (((aa:Int) / ((s9:Int)+5)) % 3)]) rfl rfl rfl rfl rfl<|.nil)) ?_;refine t_l2 rfl rfl ?_ ?_
   ·skip
    refine kg 1 ?_
    refine s_nil ⟨(H.pk []),?_⟩
    refine t_l rfl ?_;refine t_bs (α:=Line) T23 [.agg #[I ((((aa:Int) / 3)+((s9:Int)*(s9:Int))) % (2+((aa:Int) % 3))),I (((((((aa:Int) / 3)+((s9:Int)*(s9:Int))) % (2+((aa:Int) % 3)))+1)+((((aa:Int) / 7)+(s9:Int)) % ((2+((aa:Int) % 3))-1))) % (2+((aa:Int) % 3))),I (((aa:Int) / ((s9:Int)+2)) % 4),I ((((aa:Int) / ((2*(s9:Int))+3)) % 7)-3),I (((aa:Int) / ((s9:Int)+5)) % 3)]] [(⟨((((aa:Int) / 3)+((s9:Int)*(s9:Int))) % (2+((aa:Int) % 3)):Int),(((((((aa:Int) / 3)+((s9:Int)*(s9:Int))) % (2+((aa:Int) % 3)))+1)+((((aa:Int) / 7)+(s9:Int)) % ((2+((aa:Int) % 3))-1))) % (2+((aa:Int) % 3)):Int),(((aa:Int) / ((s9:Int)+2)) % 4:Int),((((aa:Int) / ((2*(s9:Int))+3)) % 7)-3:Int),(((aa:Int) / ((s9:Int)+5)) % 3:Int)⟩:Line)] H rfl (.cons rfl (Flat.rep_enc _ (⟨((((aa:Int) / 3)+((s9:Int)*(s9:Int))) % (2+((aa:Int) % 3)):Int),(((((((aa:Int) / 3)+((s9:Int)*(s9:Int))) % (2+((aa:Int) % 3)))+1)+((((aa:Int) / 7)+(s9:Int)) % ((2+((aa:Int) % 3))-1))) % (2+((aa:Int) % 3)):Int),(((aa:Int) / ((s9:Int)+2)) % 4:Int),((((aa:Int) / ((2*(s9:Int))+3)) % 7)-3:Int),(((aa:Int) / ((s9:Int)+5)) % 3:Int)⟩:Line))<|.nil) rfl rfl rfl ?_;intro d8 ku H
    have kv:=Sl.cells (H.os 0)
    have kw:=Sl.oc (H.os 0)
    have kx:=ownSl (H.get (k:=0) rfl)
    refine s_nil ⟨(H.pk []),?_⟩
    refine t_l rfl ?_;refine t_app (α:=Line) (k:=1) (l:=l5) (l2:=[(⟨((((aa:Int) / 3)+((s9:Int)*(s9:Int))) % (2+((aa:Int) % 3)):Int),(((((((aa:Int) / 3)+((s9:Int)*(s9:Int))) % (2+((aa:Int) % 3)))+1)+((((aa:Int) / 7)+(s9:Int)) % ((2+((aa:Int) % 3))-1))) % (2+((aa:Int) % 3)):Int),(((aa:Int) / ((s9:Int)+2)) % 4:Int),((((aa:Int) / ((2*(s9:Int))+3)) % 7)-3:Int),(((aa:Int) / ((s9:Int)+5)) % 3:Int)⟩:Line)]) (l':=l5++([(⟨((((aa:Int) / 3)+((s9:Int)*(s9:Int))) % (2+((aa:Int) % 3)):Int),(((((((aa:Int) / 3)+((s9:Int)*(s9:Int))) % (2+((aa:Int) % 3)))+1)+((((aa:Int) / 7)+(s9:Int)) % ((2+((aa:Int) % 3))-1))) % (2+((aa:Int) % 3)):Int),(((aa:Int) / ((s9:Int)+2)) % 4:Int),((((aa:Int) / ((2*(s9:Int))+3)) % 7)-3:Int),(((aa:Int) / ((s9:Int)+5)) % 3:Int)⟩:Line)])) (vy:=d8) T23 rfl H rfl rfl rfl (H.os 0) (H.ol 0) (rfl) (by first | omega | (simp only [List.length_nil] at *; omega)) ?_;intro ci ky H;replace H:=H.nf
    have kz:=Sl.cells (H.os 1)
    have kA:=Sl.oc (H.os 1)
    have kB:=ownSl (H.get (k:=1) rfl)
    refine s_nil ⟨(H.pk []),?_⟩
    refine kg 1 ?_;refine t_l rfl ?_;refine t_sw 2 1 [ci] ci H rfl rfl Sz23 (Sl.cells (H.os 1)) rfl rfl (by simp only [List.all_cons,List.all_nil,Bool.true_and,Bool.and_true,Sl.oc (H.os 1)]; try rfl) ?_;intro kC H
    refine s_nil ⟨(H.pk []),?_⟩
    refine t_nil ?_;replace H:=H.pk [1,2];obtain ⟨kD,hM⟩:=M.e_gd hM;refine kg 4 ?_
    exact ⟨aS,aT,s9+1,l5++([(⟨((((aa:Int) / 3)+((s9:Int)*(s9:Int))) % (2+((aa:Int) % 3)):Int),(((((((aa:Int) / 3)+((s9:Int)*(s9:Int))) % (2+((aa:Int) % 3)))+1)+((((aa:Int) / 7)+(s9:Int)) % ((2+((aa:Int) % 3))-1))) % (2+((aa:Int) % 3)):Int),(((aa:Int) / ((s9:Int)+2)) % 4:Int),((((aa:Int) / ((2*(s9:Int))+3)) % 7)-3:Int),(((aa:Int) / ((s9:Int)+5)) % 3:Int)⟩:Line)]),ci,_,upds_of _ _ ⟨rfl,rfl,rfl,rfl,rfl,trivial⟩,M.e_inl hM aO,H⟩
   skip
   refine t_bs (α:=Line) T23 [.agg #[I ((((aa:Int) / 3)+((s9:Int)*(s9:Int))) % (2+((aa:Int) % 3))),I (((((((aa:Int) / 3)+((s9:Int)*(s9:Int))) % (2+((aa:Int) % 3)))+1)+((((aa:Int) / 7)+(s9:Int)) % ((2+((aa:Int) % 3))-1))) % (2+((aa:Int) % 3))),I (((aa:Int) / ((s9:Int)+2)) % 4),I ((((aa:Int) / ((2*(s9:Int))+3)) % 7)-3),I (((aa:Int) / ((s9:Int)+5)) % 3)]] [(⟨((((aa:Int) / 3)+((s9:Int)*(s9:Int))) % (2+((aa:Int) % 3)):Int),(((((((aa:Int) / 3)+((s9:Int)*(s9:Int))) % (2+((aa:Int) % 3)))+1)+((((aa:Int) / 7)+(s9:Int)) % ((2+((aa:Int) % 3))-1))) % (2+((aa:Int) % 3)):Int),(((aa:Int) / ((s9:Int)+2)) % 4:Int),((((aa:Int) / ((2*(s9:Int))+3)) % 7)-3:Int),(((aa:Int) / ((s9:Int)+5)) % 3:Int)⟩:Line)] H rfl (.cons rfl (Flat.rep_enc _ (⟨((((aa:Int) / 3)+((s9:Int)*(s9:Int))) % (2+((aa:Int) % 3)):Int),(((((((aa:Int) / 3)+((s9:Int)*(s9:Int))) % (2+((aa:Int) % 3)))+1)+((((aa:Int) / 7)+(s9:Int)) % ((2+((aa:Int) % 3))-1))) % (2+((aa:Int) % 3)):Int),(((aa:Int) / ((s9:Int)+2)) % 4:Int),((((aa:Int) / ((2*(s9:Int))+3)) % 7)-3:Int),(((aa:Int) / ((s9:Int)+5)) % 3:Int)⟩:Line))<|.nil) rfl rfl rfl ?_;intro d9 kE H
   have kF:=Sl.cells (H.os 0)
   have kG:=Sl.oc (H.os 0)
   have kH:=ownSl (H.get (k:=0) rfl)
   refine s_nil ⟨(H.pk []),?_⟩
   refine t_l rfl ?_;refine kg 1 ?_
   refine s_nil ⟨(H.pk []),?_⟩
   refine t_l rfl ?_;refine t_app (α:=Line) (k:=1) (l:=l5) (l2:=[(⟨((((aa:Int) / 3)+((s9:Int)*(s9:Int))) % (2+((aa:Int) % 3)):Int),(((((((aa:Int) / 3)+((s9:Int)*(s9:Int))) % (2+((aa:Int) % 3)))+1)+((((aa:Int) / 7)+(s9:Int)) % ((2+((aa:Int) % 3))-1))) % (2+((aa:Int) % 3)):Int),(((aa:Int) / ((s9:Int)+2)) % 4:Int),((((aa:Int) / ((2*(s9:Int))+3)) % 7)-3:Int),(((aa:Int) / ((s9:Int)+5)) % 3:Int)⟩:Line)]) (l':=l5++([(⟨((((aa:Int) / 3)+((s9:Int)*(s9:Int))) % (2+((aa:Int) % 3)):Int),(((((((aa:Int) / 3)+((s9:Int)*(s9:Int))) % (2+((aa:Int) % 3)))+1)+((((aa:Int) / 7)+(s9:Int)) % ((2+((aa:Int) % 3))-1))) % (2+((aa:Int) % 3)):Int),(((aa:Int) / ((s9:Int)+2)) % 4:Int),((((aa:Int) / ((2*(s9:Int))+3)) % 7)-3:Int),(((aa:Int) / ((s9:Int)+5)) % 3:Int)⟩:Line)])) (vy:=d9) T23 rfl H rfl rfl rfl (H.os 0) (H.ol 0) (rfl) (by first | omega | (simp only [List.length_nil] at *; omega)) ?_;intro cj kI H;replace H:=H.nf
   have kJ:=Sl.cells (H.os 1)
   have kK:=Sl.oc (H.os 1)
   have kL:=ownSl (H.get (k:=1) rfl)
   refine s_nil ⟨(H.pk []),?_⟩
   refine kg 1 ?_;refine t_l rfl ?_;refine t_sw 2 1 [cj] cj H rfl rfl Sz23 (Sl.cells (H.os 1)) rfl rfl (by simp only [List.all_cons,List.all_nil,Bool.true_and,Bool.and_true,Sl.oc (H.os 1)]; try rfl) ?_;intro kM H
   refine s_nil ⟨(H.pk []),?_⟩
   refine t_nil ?_;replace H:=H.pk [1,2];obtain ⟨kO,hM⟩:=M.e_gd hM;refine kg 4 ?_
   exact ⟨aS,aT,s9+1,l5++([(⟨((((aa:Int) / 3)+((s9:Int)*(s9:Int))) % (2+((aa:Int) % 3)):Int),(((((((aa:Int) / 3)+((s9:Int)*(s9:Int))) % (2+((aa:Int) % 3)))+1)+((((aa:Int) / 7)+(s9:Int)) % ((2+((aa:Int) % 3))-1))) % (2+((aa:Int) % 3)):Int),(((aa:Int) / ((s9:Int)+2)) % 4:Int),((((aa:Int) / ((2*(s9:Int))+3)) % 7)-3:Int),(((aa:Int) / ((s9:Int)+5)) % 3:Int)⟩:Line)]),cj,_,upds_of _ _ ⟨rfl,rfl,rfl,rfl,rfl,trivial⟩,M.e_inl hM aO,H⟩
  replace hM:=M.e_f hM a8
  replace a8:=dI a8
  refine W.exit ?_
  have ec:=M.e_inr hM aO
  subst ec;replace hM:=dX;(try dsimp only at hM);refine kg 3 ?_;refine s_val (x_rem' (a:=(aa:Int)) (b:=3) rfl rfl (by omega)) ?_;refine kg 1 ?_;refine s_val (x_rem' (a:=(aa:Int)) (b:=2) rfl rfl (by omega)) ?_;refine kg 1 ?_;refine s_val (x_bld (ps:=[(0,I ((aa:Int) % 3)),(1,B (((aa:Int) % 2)==0))]) (zs:=[I 0,B false]) (L':=[I ((aa:Int) % 3),B (((aa:Int) % 2)==0)]) rfl Tryz.underlying28 Al28 rfl (Bd28 Tryz.underlying28) (.cons (cs:=[I ((aa:Int) % 3)]) rfl rfl rfl rfl rfl<|.cons (cs:=[B (((aa:Int) % 2)==0)]) rfl rfl rfl rfl rfl<|.nil)) ?_;obtain ⟨kP,hM⟩:=M.e_gd hM;obtain ⟨kQ,hM⟩:=M.e_gd hM;refine kg 2 ?_;refine s_val (x_rem' (a:=(aa:Int) / 3) (b:=3) rfl rfl (by omega)) ?_;obtain ⟨kR,hM⟩:=M.e_gd hM;refine kg 2 ?_;refine s_val (x_rem' (a:=(aa:Int) / 2) (b:=2) rfl rfl (by omega)) ?_;refine kg 1 ?_;refine s_val (x_bld (ps:=[(0,I (((aa:Int) / 3) % 3)),(1,B ((((aa:Int) / 2) % 2)==0))]) (zs:=[I 0,B false]) (L':=[I (((aa:Int) / 3) % 3),B ((((aa:Int) / 2) % 2)==0)]) rfl Tryz.underlying28 Al28 rfl (Bd28 Tryz.underlying28) (.cons (cs:=[I (((aa:Int) / 3) % 3)]) rfl rfl rfl rfl rfl<|.cons (cs:=[B ((((aa:Int) / 2) % 2)==0)]) rfl rfl rfl rfl rfl<|.nil)) ?_;obtain ⟨kS,hM⟩:=M.e_gd hM;refine kg 2 ?_;refine s_val (x_rem' (a:=(aa:Int) / 9) (b:=3) rfl rfl (by omega)) ?_;obtain ⟨kT,hM⟩:=M.e_gd hM;refine kg 2 ?_;refine s_val (x_rem' (a:=(aa:Int) / 4) (b:=2) rfl rfl (by omega)) ?_;refine kg 1 ?_;refine s_val (x_bld (ps:=[(0,I (((aa:Int) / 9) % 3)),(1,B ((((aa:Int) / 4) % 2)==0))]) (zs:=[I 0,B false]) (L':=[I (((aa:Int) / 9) % 3),B ((((aa:Int) / 4) % 2)==0)]) rfl Tryz.underlying28 Al28 rfl (Bd28 Tryz.underlying28) (.cons (cs:=[I (((aa:Int) / 9) % 3)]) rfl rfl rfl rfl rfl<|.cons (cs:=[B ((((aa:Int) / 4) % 2)==0)]) rfl rfl rfl rfl rfl<|.nil)) ?_;refine t_bs (α:=Leg) T29 [.agg #[I ((aa:Int) % 3),B (((aa:Int) % 2)==0)],.agg #[I (((aa:Int) / 3) % 3),B ((((aa:Int) / 2) % 2)==0)],.agg #[I (((aa:Int) / 9) % 3),B ((((aa:Int) / 4) % 2)==0)]] [(⟨((aa:Int) % 3:Int),(((aa:Int) % 2)==0)⟩:Leg),(⟨(((aa:Int) / 3) % 3:Int),((((aa:Int) / 2) % 2)==0)⟩:Leg),(⟨(((aa:Int) / 9) % 3:Int),((((aa:Int) / 4) % 2)==0)⟩:Leg)] H rfl (.cons rfl (Flat.rep_enc _ (⟨((aa:Int) % 3:Int),(((aa:Int) % 2)==0)⟩:Leg))<|.cons rfl (Flat.rep_enc _ (⟨(((aa:Int) / 3) % 3:Int),((((aa:Int) / 2) % 2)==0)⟩:Leg))<|.cons rfl (Flat.rep_enc _ (⟨(((aa:Int) / 9) % 3:Int),((((aa:Int) / 4) % 2)==0)⟩:Leg))<|.nil) rfl rfl rfl ?_;intro cV kU H;obtain ⟨kV,hM⟩:=M.e_gd hM;refine kg 2 ?_;refine s_val (x_rem' (a:=(aa:Int) / 5) (b:=3) rfl rfl (by omega)) ?_;obtain ⟨kW,hM⟩:=M.e_gd hM;obtain ⟨kX,hM⟩:=M.e_gd hM;refine kg 1 ?_
  obtain ⟨bP,ee,ck⟩:=sl_hi T29.und T29.size (H.os 0) (j:=1+(((aa:Int) / 5) % 3)) (by omega) (by omega)
  replace ck:Sl _ bP (([(⟨((aa:Int) % 3:Int),(((aa:Int) % 2)==0)⟩:Leg),(⟨(((aa:Int) / 3) % 3:Int),((((aa:Int) / 2) % 2)==0)⟩:Leg),(⟨(((aa:Int) / 9) % 3:Int),((((aa:Int) / 4) % 2)==0)⟩:Leg)]).take (Int.toNat (1+(((aa:Int) / 5) % 3)))):=ck
  refine s_val (x_sl (v:=cV) (u:=bP) (lo':=none) (hi':=some (I (1+(((aa:Int) / 5) % 3)))) (mx':=none) rfl rfl rfl rfl (ee _)) ?_;refine kg 3 ?_;refine W.draw (fun W=>St w W [cOwn (α:=Leg) 28 cV ([(⟨((aa:Int) % 3:Int),(((aa:Int) % 2)==0)⟩:Leg),(⟨(((aa:Int) / 3) % 3:Int),((((aa:Int) / 2) % 2)==0)⟩:Leg),(⟨(((aa:Int) / 9) % 3:Int),((((aa:Int) / 4) % 2)==0)⟩:Leg)]),cOwn (α:=Line) 34 aM l5,cBlk b9 [I (2+((aa:Int) % 3)),aM] 25] R) [(0,true),(1,true),(2,true),(3,true),(4,true),(5,true),(6,true),(7,true),(8,true),(9,true),(10,true),(11,true),(13,true),(14,true),(12,false),(15,true),(16,false),(17,true),(18,true),(19,true),(20,true),(21,true),(22,true),(23,true),(24,true),(25,true),(26,true),(27,true),(28,true),(29,true),(30,false),(31,true),(32,true),(33,true),(34,true),(35,true),(36,true),(37,true),(38,true),(39,true),(40,true),(41,false),(42,true),(43,true)] mixed (by decide +kernel) rfl ?_;intro kY au;replace H:=H.ext au;clear au
  refine ⟨(H.pk [0,1,2]),?_⟩
  refine kg 2 ?_;refine d_q rfl (fun w' H=>x_rem' (a:=(aa:Int)) (b:=5) rfl rfl (by omega)) ?_;obtain ⟨kZ,hM⟩:=M.e_gd hM;refine kg 3 ?_;refine d_q rfl (fun w' H=>x_rem' (a:=(aa:Int) / 5) (b:=5) rfl rfl (by omega)) ?_;obtain ⟨k5,hM⟩:=M.e_gd hM;obtain ⟨k6,hM⟩:=M.e_gd hM;refine kg 3 ?_;refine d_q rfl (fun w' H=>x_rem' (a:=(aa:Int) / 25) (b:=5) rfl rfl (by omega)) ?_;obtain ⟨k7,hM⟩:=M.e_gd hM;refine kg 3 ?_;refine d_l rfl ?_;refine t_bs (α:=Int) T22 [I 0,I (((aa:Int) % 5)-2),I ((((aa:Int) / 5) % 5)-2),I ((((aa:Int) / 25) % 5)-2)] [(0:Int),(((aa:Int) % 5)-2:Int),((((aa:Int) / 5) % 5)-2:Int),((((aa:Int) / 25) % 5)-2:Int)] H rfl (.cons rfl (Flat.rep_enc _ (0:Int))<|.cons rfl (Flat.rep_enc _ (((aa:Int) % 5)-2:Int))<|.cons rfl (Flat.rep_enc _ ((((aa:Int) / 5) % 5)-2:Int))<|.cons rfl (Flat.rep_enc _ ((((aa:Int) / 25) % 5)-2:Int))<|.nil) rfl rfl rfl ?_;intro eh k8 H
  have k9:=Sl.cells (H.os 0)
  have lf:=Sl.oc (H.os 0)
  have ei:=ownSl (H.get (k:=0) rfl)
  refine s_nil ⟨(H.pk [1,2,3]),?_⟩
  obtain ⟨lh,hM⟩:=M.e_gd hM
  obtain ⟨cm,em,cn⟩:=sl_hi T22.und T22.size ei (j:=2+((aa:Int) % 3)) (by omega) (by omega)
  replace cn:Sl _ cm (([(0:Int),(((aa:Int) % 5)-2:Int),((((aa:Int) / 5) % 5)-2:Int),((((aa:Int) / 25) % 5)-2:Int)]).take (Int.toNat (2+((aa:Int) % 3)))):=cn
  refine d_q rfl (fun w' H=>x_sl (v:=eh) (u:=cm) (lo':=none) (hi':=some (I (2+((aa:Int) % 3)))) (mx':=none) rfl rfl rfl rfl (em _))<|d_l rfl ?_;obtain ⟨li,eo,hM⟩:=M.e_bind hM;refine s_call cf5 [.agg #[I (2+((aa:Int) % 3)),aM],cm] rfl (zcJ (2+((aa:Int) % 3)) l5 (([(0:Int),(((aa:Int) % 5)-2:Int),((((aa:Int) / 5) % 5)-2:Int),((((aa:Int) / 25) % 5)-2:Int)]).take (Int.toNat (2+((aa:Int) % 3)))) (rdo 2) (H.os 2) (rdo 0) cn eo _ (H.gt 4)) ?_
  rintro vq lj ⟨r5,rfl,hvq,ao⟩
  subst vq;(try dsimp only at hM);replace H:=H.bk ao;clear ao
  refine s_nil ⟨(H.pk [1,2,3]),?_⟩
  obtain ⟨bv,hM⟩:=M.e_grd hM
  replace bv:=M.imp_of bv
  simp only [Bool.and_eq_true,decide_eq_true_eq] at bv
  refine kg 6 ?_;refine d_qg (!(!r5)) rfl (gy_f rfl) (fun hg=>(fun w' H=>x_rem' (a:=(aa:Int)) (b:=2+((aa:Int) % 3)) (gd_of hg (I (aa:Int))) (gd_of hg (I (2+((aa:Int) % 3)))) (by have ba:=bv.resolve_left (by rw [hg]; decide); first | exact ba | exact ba.1 | exact ba.2 | omega | (have au:=hg; simp at au; omega)))) ?_;obtain ⟨bQ,hM⟩:=M.e_grd hM
  replace bQ:=M.imp_of bQ
  simp only [Bool.and_eq_true,decide_eq_true_eq] at bQ
  refine kg 4 ?_;refine d_qg (!(!r5)) rfl (gy_f rfl) (fun hg=>(fun w' H=>x_rem' (a:=(aa:Int) / 4) (b:=2+((aa:Int) % 3)) (gd_of hg (I ((aa:Int) / 4))) (gd_of hg (I (2+((aa:Int) % 3)))) (by have ba:=bv.resolve_left (by rw [hg]; decide); have co:=bQ.resolve_left (by rw [hg]; decide); first | exact ba | exact ba.1 | exact ba.2 | exact co | exact co.1 | exact co.2 | omega | (have au:=hg; simp at au; omega)))) ?_;refine kg 1 ?_;refine d_l rfl ?_;obtain ⟨r6,eq,hM⟩:=M.e_bind hM;refine t_gcall (!(!r5)) (gy_f rfl) cf6 (B r6) (fun _=>[.agg #[I (2+((aa:Int) % 3)),aM],I ((aa:Int) % (2+((aa:Int) % 3))),I (((aa:Int) / 4) % (2+((aa:Int) % 3))),bP]) (fun hg=>lst4 (gd_of hg (.agg #[I (2+((aa:Int) % 3)),aM])) (gd_of hg (I ((aa:Int) % (2+((aa:Int) % 3))))) (gd_of hg (I (((aa:Int) / 4) % (2+((aa:Int) % 3))))) (gd_of hg (bP))) H (fun hg=>(zcD (2+((aa:Int) % 3)) l5 ((aa:Int) % (2+((aa:Int) % 3))) (((aa:Int) / 4) % (2+((aa:Int) % 3))) (([(⟨((aa:Int) % 3:Int),(((aa:Int) % 2)==0)⟩:Leg),(⟨(((aa:Int) / 3) % 3:Int),((((aa:Int) / 2) % 2)==0)⟩:Leg),(⟨(((aa:Int) / 9) % 3:Int),((((aa:Int) / 4) % 2)==0)⟩:Leg)]).take (Int.toNat (1+(((aa:Int) / 5) % 3)))) (rdo 2) (H.os 2) (rdo 1) ck (M.e_opt eq hg) _ (H.give (A:=[]) rfl)).mono fun v_ w_ ⟨y_,am,ay,H_⟩=>by subst am; exact ⟨ay,H.via H_⟩) ?_;intro lk H
  refine s_nil ⟨(H.pk [1,2,3]),?_⟩
  refine kg 5 ?_;refine d_qg (!((!r5)||(!r6))) rfl (gy_f rfl) (fun hg=>(fun w' H=>x_rem' (a:=(aa:Int)) (b:=3) (gd_of hg (I (aa:Int))) rfl (by first | omega | (have au:=hg; simp at au; omega)))) ?_;refine kg 1 ?_;refine d_qg (!((!r5)||(!r6))) rfl (gy_f rfl) (fun hg=>(fun w' H=>x_rem' (a:=(aa:Int)) (b:=4) (gd_of hg (I (aa:Int))) rfl (by first | omega | (have au:=hg; simp at au; omega)))) ?_;obtain ⟨cp,hM⟩:=M.e_grd hM
  replace cp:=M.imp_of cp
  simp only [Bool.and_eq_true,decide_eq_true_eq] at cp
  refine kg 1 ?_;refine d_qg (!((!r5)||(!r6))) rfl (gy_f rfl) (fun hg=>(fun w' H=>x_bld (ps:=[(0,I ((aa:Int) % 3)),(1,I (1+((aa:Int) % 4)))]) (zs:=[I 0,I 0]) (L':=[I ((aa:Int) % 3),I (1+((aa:Int) % 4))]) (by exact prs2 (gd_of hg (I ((aa:Int) % 3))) (gd_of hg (I (1+((aa:Int) % 4))))) Tryz.underlying31 Al31 rfl (Bd31 Tryz.underlying31) (.cons (cs:=[I ((aa:Int) % 3)]) rfl rfl rfl rfl rfl<|.cons (cs:=[I (1+((aa:Int) % 4))]) rfl rfl rfl rfl rfl<|.nil)))<|d_l rfl ?_;obtain ⟨r7,eu,hM⟩:=M.e_bind hM;refine t_gcall (!((!r5)||(!r6))) (gy_f rfl) cf7 (B r7) (fun _=>[.agg #[I (2+((aa:Int) % 3)),aM],.agg #[I ((aa:Int) % 3),I (1+((aa:Int) % 4))]]) (fun hg=>lst2 (gd_of hg (.agg #[I (2+((aa:Int) % 3)),aM])) (gd_of hg (.agg #[I ((aa:Int) % 3),I (1+((aa:Int) % 4))]))) H (fun hg=>(zcL (2+((aa:Int) % 3)) l5 (⟨((aa:Int) % 3:Int),(1+((aa:Int) % 4):Int)⟩:Mv) (rdo 2) (H.os 2) (M.e_opt eu hg) _ (H.give (A:=[]) rfl)).mono fun v_ w_ ⟨y_,am,ay,H_⟩=>by subst am; exact ⟨ay,H.via H_⟩) ?_;intro ll H
  refine s_nil ⟨(H.pk [1,2,3]),?_⟩
  refine kg 3 ?_;replace H:=H.pk [1,2,3]
  refine W.cond (((!r5)||(!r6))||(!r7)) rfl (fun cq=>?_) (fun cq=>?_)
  ·replace hM:=M.e_t hM cq;refine kg 4 ?_;replace H:=H.pk [];refine W.ret ?_
   have ew:=M.e_inr hM b8
   subst ew;replace hM:=cR;(try dsimp only at hM)
   have am:=M.e_pure hM
   exact ⟨_,resE_tmp rfl,⟨false,am,rfl,H⟩⟩
  replace hM:=M.e_f hM cq;refine kg 5 ?_
  exact ⟨dU,dV,aa+1,_,upds_of _ _ ⟨rfl,trivial⟩,M.e_inl hM b8,(H.pk [])⟩
 replace hM:=M.e_f hM a7
 replace a7:=dI a7
 refine W.exit ?_
 have ey:=M.e_inr hM b8
 subst ey;replace hM:=cR;(try dsimp only at hM);refine kg 6 ?_;obtain ⟨ez,cr,bw⟩:=M.e_bind hM
 obtain ⟨aQ,cr⟩:=M.e_iter cr
 refine W.loop (fun m σ W=>∃ (ab:Nat) (ρ:Env),σ=upds ρ [(241,I (ab:Int))]/\M.iterN (zbx) m ab=some ez/\St w W [] R) ?_ ?_
 ·exact ⟨_,0,_,upds_of _ _ ⟨rfl,trivial⟩,cr,H⟩
 rintro lq σ lr ⟨ab,ρ,rfl,cW,H⟩
 obtain ⟨cX,cY,lu,hM,bb⟩:=M.e_iterN cW
 clear cW;refine kg 5 ?_
 refine W.cond (decide ((ab:Int)<33)) rfl (fun bc=>?_) (fun bc=>?_)
 ·replace hM:=M.e_t hM bc
  replace bc:=dI bc
  refine kg 12 ?_;refine s_val (x_bld (ps:=[(0,I (min (ab:Int) 14))]) (zs:=[I 0,.slice none 0 0]) (L':=[I (min (ab:Int) 14),.slice none 0 0]) rfl Tryz.underlying25 Al25 rfl (Bd25 Tryz.underlying25) (.cons (cs:=[I (min (ab:Int) 14)]) rfl rfl rfl rfl rfl<|.nil)) ?_;refine t_alloc (cs:=[I 0,.slice none 0 0]) H Al25 rfl ?_;intro aN lv H;refine t_sw 0 0 [I (min (ab:Int) 14),.slice none 0 0] (.agg #[I (min (ab:Int) 14),.slice none 0 0]) H rfl rfl Sz25 rfl rfl rfl rfl ?_;intro lw H;refine kg 8 ?_
  replace H:=H.nilOwn (α:=Line) 34
  obtain ⟨eA,ct,eB⟩:=M.e_bind hM
  obtain ⟨aQ,ct⟩:=M.e_iter ct
  refine W.loop (fun m σ W=>∃ (ac:Nat) (l8:List Line) (aJ:Value) (ρ:Env),σ=upds ρ [(16,I (ab:Int)),(17,Pq aN),(241,I (ab:Int)),(247,I (ab:Int)),(248,I (ac:Int))]/\M.iterN (zb2 ab) m (ac,l8)=some eA/\St w W [cOwn (α:=Line) 34 aJ l8,cBlk aN [I (min (ab:Int) 14),aJ] 25] R) ?_ ?_
  ·exact ⟨_,0,[],(.slice none 0 0),_,upds_of _ _ ⟨rfl,rfl,rfl,rfl,rfl,trivial⟩,ct,H⟩
  rintro lx σ ly ⟨ac,l8,aJ,ρ,rfl,cZ,H⟩
  obtain ⟨aU,aV,lz,hM,aP⟩:=M.e_iterN cZ
  clear cZ;refine kg 5 ?_
  refine W.cond (decide ((ac:Int)<(ab:Int))) rfl (fun bg=>?_) (fun bg=>?_)
  ·replace hM:=M.e_t hM bg
   replace bg:=dI bg
   refine kg 8 ?_;refine W.drawT (fun W=>St w W [] R) (.q 0 (.q 2 (.q 3 (.q 7 (.q 8 (.q 9 (.q 13 (.l3 1 (.l2 4 (.q 5 (.q 6 (.l 10 (.q 11 (.q 12 (.q 14 (.l 15 (.l 16 (.q 17 (.l 18 .nil)))))))))) 10 (.q 11 (.q 12 (.l 4 (.q 5 (.q 6 (.q 14 (.l 15 (.l 16 (.q 17 (.l 18 .nil))))))))))) 4 (.q 5 (.q 6 (.l2 1 (.l 10 (.q 11 (.q 12 (.q 14 (.l 15 (.l 16 (.q 17 (.l 18 .nil)))))))) 10 (.q 11 (.q 12 (.q 14 (.l2 1 (.l 15 (.l 16 (.q 17 (.l 18 .nil)))) 15 (.l 1 (.l 16 (.q 17 (.l 18 .nil))))))))))) 10 (.q 11 (.q 12 (.l2 1 (.l 4 (.q 5 (.q 6 (.q 14 (.l 15 (.l 16 (.q 17 (.l 18 .nil)))))))) 4 (.q 5 (.q 6 (.q 14 (.l2 1 (.l 15 (.l 16 (.q 17 (.l 18 .nil)))) 15 (.l 1 (.l 16 (.q 17 (.l 18 .nil))))))))))))))))))) mixed (by decide +kernel) rfl ?_;intro lA au;replace H:=H.ext au;clear au
   refine ⟨(H.pk []),?_⟩
   obtain ⟨lB,hM⟩:=M.e_gd hM;refine kg 7 ?_;refine t_l3 rfl rfl rfl ?_ ?_ ?_
   ·skip
    refine kg 1 ?_
    have lC:=Sl.cells (H.os 0)
    have lD:=Sl.oc (H.os 0)
    have lE:=ownSl (H.get (k:=0) rfl)
    refine s_nil ⟨(H.pk []),?_⟩
    obtain ⟨lF,hM⟩:=M.e_gd hM;obtain ⟨lG,hM⟩:=M.e_gd hM;obtain ⟨lH,hM⟩:=M.e_gd hM;refine t_l2 rfl rfl ?_ ?_
    ·skip
     refine kg 1 ?_
     refine s_nil ⟨(H.pk []),?_⟩
     refine kg 1 ?_;refine t_q rfl (fun w' H=>x_rem' (a:=(ac:Int)) (b:=max 1 (min (ab:Int) 14)) rfl rfl (by omega))<|t_l rfl ?_;refine kg 1 ?_
     refine s_nil ⟨(H.pk []),?_⟩
     refine kg 1 ?_;refine t_q rfl (fun w' H=>x_rem' (a:=(ac:Int)+1) (b:=max 1 (min (ab:Int) 14)) rfl rfl (by omega))<|t_q rfl (fun w' H=>x_bld (ps:=[(0,I ((ac:Int) % (max 1 (min (ab:Int) 14)))),(1,I (((ac:Int)+1) % (max 1 (min (ab:Int) 14)))),(2,I (ac:Int)),(3,I 1000000),(4,I 10000)]) (zs:=[I 0,I 0,I 0,I 0,I 0]) (L':=[I ((ac:Int) % (max 1 (min (ab:Int) 14))),I (((ac:Int)+1) % (max 1 (min (ab:Int) 14))),I (ac:Int),I 1000000,I 10000]) rfl Tryz.underlying34 Al34 rfl (Bd34 Tryz.underlying34) (.cons (cs:=[I ((ac:Int) % (max 1 (min (ab:Int) 14)))]) rfl rfl rfl rfl rfl<|.cons (cs:=[I (((ac:Int)+1) % (max 1 (min (ab:Int) 14)))]) rfl rfl rfl rfl rfl<|.cons (cs:=[I (ac:Int)]) rfl rfl rfl rfl rfl<|.cons (cs:=[I 1000000]) rfl rfl rfl rfl rfl<|.cons (cs:=[I 10000]) rfl rfl rfl rfl rfl<|.nil))<|t_l rfl ?_;refine t_bs (α:=Line) T23 [.agg #[I ((ac:Int) % (max 1 (min (ab:Int) 14))),I (((ac:Int)+1) % (max 1 (min (ab:Int) 14))),I (ac:Int),I 1000000,I 10000]] [(⟨((ac:Int) % (max 1 (min (ab:Int) 14)):Int),(((ac:Int)+1) % (max 1 (min (ab:Int) 14)):Int),(ac:Int),(1000000:Int),(10000:Int)⟩:Line)] H rfl (.cons rfl (Flat.rep_enc _ (⟨((ac:Int) % (max 1 (min (ab:Int) 14)):Int),(((ac:Int)+1) % (max 1 (min (ab:Int) 14)):Int),(ac:Int),(1000000:Int),(10000:Int)⟩:Line))<|.nil) rfl rfl rfl ?_;intro eC lI H
     have lJ:=Sl.cells (H.os 0)
     have lK:=Sl.oc (H.os 0)
     have lL:=ownSl (H.get (k:=0) rfl)
     refine s_nil ⟨(H.pk []),?_⟩
     refine t_l rfl ?_;refine t_app (α:=Line) (k:=1) (l:=l8) (l2:=[(⟨((ac:Int) % (max 1 (min (ab:Int) 14)):Int),(((ac:Int)+1) % (max 1 (min (ab:Int) 14)):Int),(ac:Int),(1000000:Int),(10000:Int)⟩:Line)]) (l':=l8++([(⟨((ac:Int) % (max 1 (min (ab:Int) 14)):Int),(((ac:Int)+1) % (max 1 (min (ab:Int) 14)):Int),(ac:Int),(1000000:Int),(10000:Int)⟩:Line)])) (vy:=eC) T23 rfl H rfl rfl rfl (H.os 0) (H.ol 0) (rfl) (by first | omega | (simp only [List.length_nil] at *; omega)) ?_;intro cu lM H;replace H:=H.nf
     have lN:=Sl.cells (H.os 1)
     have lO:=Sl.oc (H.os 1)
     have lP:=ownSl (H.get (k:=1) rfl)
     refine s_nil ⟨(H.pk []),?_⟩
     refine kg 1 ?_;refine t_l rfl ?_;refine t_sw 2 1 [cu] cu H rfl rfl Sz23 (Sl.cells (H.os 1)) rfl rfl (by simp only [List.all_cons,List.all_nil,Bool.true_and,Bool.and_true,Sl.oc (H.os 1)]; try rfl) ?_;intro lQ H
     refine s_nil ⟨(H.pk []),?_⟩
     refine t_nil ?_;replace H:=H.pk [1,2];refine kg 4 ?_
     exact ⟨aU,aV,ac+1,l8++([(⟨((ac:Int) % (max 1 (min (ab:Int) 14)):Int),(((ac:Int)+1) % (max 1 (min (ab:Int) 14)):Int),(ac:Int),(1000000:Int),(10000:Int)⟩:Line)]),cu,_,upds_of _ _ ⟨rfl,rfl,rfl,rfl,rfl,trivial⟩,M.e_inl hM aP,H⟩
    skip
    refine kg 1 ?_
    refine s_nil ⟨(H.pk []),?_⟩
    refine kg 1 ?_;refine t_q rfl (fun w' H=>x_rem' (a:=(ac:Int)+1) (b:=max 1 (min (ab:Int) 14)) rfl rfl (by omega))<|t_l rfl ?_;refine kg 1 ?_
    refine s_nil ⟨(H.pk []),?_⟩
    refine kg 1 ?_;refine t_q rfl (fun w' H=>x_rem' (a:=(ac:Int)) (b:=max 1 (min (ab:Int) 14)) rfl rfl (by omega))<|t_q rfl (fun w' H=>x_bld (ps:=[(0,I ((ac:Int) % (max 1 (min (ab:Int) 14)))),(1,I (((ac:Int)+1) % (max 1 (min (ab:Int) 14)))),(2,I (ac:Int)),(3,I 1000000),(4,I 10000)]) (zs:=[I 0,I 0,I 0,I 0,I 0]) (L':=[I ((ac:Int) % (max 1 (min (ab:Int) 14))),I (((ac:Int)+1) % (max 1 (min (ab:Int) 14))),I (ac:Int),I 1000000,I 10000]) rfl Tryz.underlying34 Al34 rfl (Bd34 Tryz.underlying34) (.cons (cs:=[I ((ac:Int) % (max 1 (min (ab:Int) 14)))]) rfl rfl rfl rfl rfl<|.cons (cs:=[I (((ac:Int)+1) % (max 1 (min (ab:Int) 14)))]) rfl rfl rfl rfl rfl<|.cons (cs:=[I (ac:Int)]) rfl rfl rfl rfl rfl<|.cons (cs:=[I 1000000]) rfl rfl rfl rfl rfl<|.cons (cs:=[I 10000]) rfl rfl rfl rfl rfl<|.nil))<|t_l rfl ?_;refine t_bs (α:=Line) T23 [.agg #[I ((ac:Int) % (max 1 (min (ab:Int) 14))),I (((ac:Int)+1) % (max 1 (min (ab:Int) 14))),I (ac:Int),I 1000000,I 10000]] [(⟨((ac:Int) % (max 1 (min (ab:Int) 14)):Int),(((ac:Int)+1) % (max 1 (min (ab:Int) 14)):Int),(ac:Int),(1000000:Int),(10000:Int)⟩:Line)] H rfl (.cons rfl (Flat.rep_enc _ (⟨((ac:Int) % (max 1 (min (ab:Int) 14)):Int),(((ac:Int)+1) % (max 1 (min (ab:Int) 14)):Int),(ac:Int),(1000000:Int),(10000:Int)⟩:Line))<|.nil) rfl rfl rfl ?_;intro eD lR H
    have lS:=Sl.cells (H.os 0)
    have lT:=Sl.oc (H.os 0)
    have lU:=ownSl (H.get (k:=0) rfl)
    refine s_nil ⟨(H.pk []),?_⟩
    refine t_l rfl ?_;refine t_app (α:=Line) (k:=1) (l:=l8) (l2:=[(⟨((ac:Int) % (max 1 (min (ab:Int) 14)):Int),(((ac:Int)+1) % (max 1 (min (ab:Int) 14)):Int),(ac:Int),(1000000:Int),(10000:Int)⟩:Line)]) (l':=l8++([(⟨((ac:Int) % (max 1 (min (ab:Int) 14)):Int),(((ac:Int)+1) % (max 1 (min (ab:Int) 14)):Int),(ac:Int),(1000000:Int),(10000:Int)⟩:Line)])) (vy:=eD) T23 rfl H rfl rfl rfl (H.os 0) (H.ol 0) (rfl) (by first | omega | (simp only [List.length_nil] at *; omega)) ?_;intro cv lV H;replace H:=H.nf
    have lW:=Sl.cells (H.os 1)
    have lX:=Sl.oc (H.os 1)
    have lY:=ownSl (H.get (k:=1) rfl)
    refine s_nil ⟨(H.pk []),?_⟩
    refine kg 1 ?_;refine t_l rfl ?_;refine t_sw 2 1 [cv] cv H rfl rfl Sz23 (Sl.cells (H.os 1)) rfl rfl (by simp only [List.all_cons,List.all_nil,Bool.true_and,Bool.and_true,Sl.oc (H.os 1)]; try rfl) ?_;intro lZ H
    refine s_nil ⟨(H.pk []),?_⟩
    refine t_nil ?_;replace H:=H.pk [1,2];refine kg 4 ?_
    exact ⟨aU,aV,ac+1,l8++([(⟨((ac:Int) % (max 1 (min (ab:Int) 14)):Int),(((ac:Int)+1) % (max 1 (min (ab:Int) 14)):Int),(ac:Int),(1000000:Int),(10000:Int)⟩:Line)]),cv,_,upds_of _ _ ⟨rfl,rfl,rfl,rfl,rfl,trivial⟩,M.e_inl hM aP,H⟩
   ·skip
    refine kg 1 ?_
    have ma:=Sl.cells (H.os 0)
    have mb:=Sl.oc (H.os 0)
    have mc:=ownSl (H.get (k:=0) rfl)
    refine s_nil ⟨(H.pk []),?_⟩
    obtain ⟨me,hM⟩:=M.e_gd hM;refine kg 1 ?_;refine t_q rfl (fun w' H=>x_rem' (a:=(ac:Int)) (b:=max 1 (min (ab:Int) 14)) rfl rfl (by omega)) ?_;obtain ⟨mf,hM⟩:=M.e_gd hM;obtain ⟨mg,hM⟩:=M.e_gd hM;refine t_l2 rfl rfl ?_ ?_
    ·skip
     refine kg 1 ?_
     refine s_nil ⟨(H.pk []),?_⟩
     refine t_l rfl ?_;refine kg 1 ?_
     refine s_nil ⟨(H.pk []),?_⟩
     refine kg 1 ?_;refine t_q rfl (fun w' H=>x_rem' (a:=(ac:Int)+1) (b:=max 1 (min (ab:Int) 14)) rfl rfl (by omega))<|t_q rfl (fun w' H=>x_bld (ps:=[(0,I ((ac:Int) % (max 1 (min (ab:Int) 14)))),(1,I (((ac:Int)+1) % (max 1 (min (ab:Int) 14)))),(2,I (ac:Int)),(3,I 1000000),(4,I 10000)]) (zs:=[I 0,I 0,I 0,I 0,I 0]) (L':=[I ((ac:Int) % (max 1 (min (ab:Int) 14))),I (((ac:Int)+1) % (max 1 (min (ab:Int) 14))),I (ac:Int),I 1000000,I 10000]) rfl Tryz.underlying34 Al34 rfl (Bd34 Tryz.underlying34) (.cons (cs:=[I ((ac:Int) % (max 1 (min (ab:Int) 14)))]) rfl rfl rfl rfl rfl<|.cons (cs:=[I (((ac:Int)+1) % (max 1 (min (ab:Int) 14)))]) rfl rfl rfl rfl rfl<|.cons (cs:=[I (ac:Int)]) rfl rfl rfl rfl rfl<|.cons (cs:=[I 1000000]) rfl rfl rfl rfl rfl<|.cons (cs:=[I 10000]) rfl rfl rfl rfl rfl<|.nil))<|t_l rfl ?_;refine t_bs (α:=Line) T23 [.agg #[I ((ac:Int) % (max 1 (min (ab:Int) 14))),I (((ac:Int)+1) % (max 1 (min (ab:Int) 14))),I (ac:Int),I 1000000,I 10000]] [(⟨((ac:Int) % (max 1 (min (ab:Int) 14)):Int),(((ac:Int)+1) % (max 1 (min (ab:Int) 14)):Int),(ac:Int),(1000000:Int),(10000:Int)⟩:Line)] H rfl (.cons rfl (Flat.rep_enc _ (⟨((ac:Int) % (max 1 (min (ab:Int) 14)):Int),(((ac:Int)+1) % (max 1 (min (ab:Int) 14)):Int),(ac:Int),(1000000:Int),(10000:Int)⟩:Line))<|.nil) rfl rfl rfl ?_;intro eE mh H
     have mi:=Sl.cells (H.os 0)
     have mj:=Sl.oc (H.os 0)
     have ml:=ownSl (H.get (k:=0) rfl)
     refine s_nil ⟨(H.pk []),?_⟩
     refine t_l rfl ?_;refine t_app (α:=Line) (k:=1) (l:=l8) (l2:=[(⟨((ac:Int) % (max 1 (min (ab:Int) 14)):Int),(((ac:Int)+1) % (max 1 (min (ab:Int) 14)):Int),(ac:Int),(1000000:Int),(10000:Int)⟩:Line)]) (l':=l8++([(⟨((ac:Int) % (max 1 (min (ab:Int) 14)):Int),(((ac:Int)+1) % (max 1 (min (ab:Int) 14)):Int),(ac:Int),(1000000:Int),(10000:Int)⟩:Line)])) (vy:=eE) T23 rfl H rfl rfl rfl (H.os 0) (H.ol 0) (rfl) (by first | omega | (simp only [List.length_nil] at *; omega)) ?_;intro cw mm H;replace H:=H.nf
     have mn:=Sl.cells (H.os 1)
     have mo:=Sl.oc (H.os 1)
     have mq:=ownSl (H.get (k:=1) rfl)
     refine s_nil ⟨(H.pk []),?_⟩
     refine kg 1 ?_;refine t_l rfl ?_;refine t_sw 2 1 [cw] cw H rfl rfl Sz23 (Sl.cells (H.os 1)) rfl rfl (by simp only [List.all_cons,List.all_nil,Bool.true_and,Bool.and_true,Sl.oc (H.os 1)]; try rfl) ?_;intro mr H
     refine s_nil ⟨(H.pk []),?_⟩
     refine t_nil ?_;replace H:=H.pk [1,2];refine kg 4 ?_
     exact ⟨aU,aV,ac+1,l8++([(⟨((ac:Int) % (max 1 (min (ab:Int) 14)):Int),(((ac:Int)+1) % (max 1 (min (ab:Int) 14)):Int),(ac:Int),(1000000:Int),(10000:Int)⟩:Line)]),cw,_,upds_of _ _ ⟨rfl,rfl,rfl,rfl,rfl,trivial⟩,M.e_inl hM aP,H⟩
    skip
    refine kg 1 ?_
    refine s_nil ⟨(H.pk []),?_⟩
    refine kg 1 ?_;refine t_q rfl (fun w' H=>x_rem' (a:=(ac:Int)+1) (b:=max 1 (min (ab:Int) 14)) rfl rfl (by omega))<|t_q rfl (fun w' H=>x_bld (ps:=[(0,I ((ac:Int) % (max 1 (min (ab:Int) 14)))),(1,I (((ac:Int)+1) % (max 1 (min (ab:Int) 14)))),(2,I (ac:Int)),(3,I 1000000),(4,I 10000)]) (zs:=[I 0,I 0,I 0,I 0,I 0]) (L':=[I ((ac:Int) % (max 1 (min (ab:Int) 14))),I (((ac:Int)+1) % (max 1 (min (ab:Int) 14))),I (ac:Int),I 1000000,I 10000]) rfl Tryz.underlying34 Al34 rfl (Bd34 Tryz.underlying34) (.cons (cs:=[I ((ac:Int) % (max 1 (min (ab:Int) 14)))]) rfl rfl rfl rfl rfl<|.cons (cs:=[I (((ac:Int)+1) % (max 1 (min (ab:Int) 14)))]) rfl rfl rfl rfl rfl<|.cons (cs:=[I (ac:Int)]) rfl rfl rfl rfl rfl<|.cons (cs:=[I 1000000]) rfl rfl rfl rfl rfl<|.cons (cs:=[I 10000]) rfl rfl rfl rfl rfl<|.nil)) ?_;refine t_l2 rfl rfl ?_ ?_
    ·skip
     refine kg 1 ?_
     refine s_nil ⟨(H.pk []),?_⟩
     refine t_l rfl ?_;refine t_bs (α:=Line) T23 [.agg #[I ((ac:Int) % (max 1 (min (ab:Int) 14))),I (((ac:Int)+1) % (max 1 (min (ab:Int) 14))),I (ac:Int),I 1000000,I 10000]] [(⟨((ac:Int) % (max 1 (min (ab:Int) 14)):Int),(((ac:Int)+1) % (max 1 (min (ab:Int) 14)):Int),(ac:Int),(1000000:Int),(10000:Int)⟩:Line)] H rfl (.cons rfl (Flat.rep_enc _ (⟨((ac:Int) % (max 1 (min (ab:Int) 14)):Int),(((ac:Int)+1) % (max 1 (min (ab:Int) 14)):Int),(ac:Int),(1000000:Int),(10000:Int)⟩:Line))<|.nil) rfl rfl rfl ?_;intro eF mt H
     have mu:=Sl.cells (H.os 0)
     have mv:=Sl.oc (H.os 0)
     have mw:=ownSl (H.get (k:=0) rfl)
     refine s_nil ⟨(H.pk []),?_⟩
     refine t_l rfl ?_;refine t_app (α:=Line) (k:=1) (l:=l8) (l2:=[(⟨((ac:Int) % (max 1 (min (ab:Int) 14)):Int),(((ac:Int)+1) % (max 1 (min (ab:Int) 14)):Int),(ac:Int),(1000000:Int),(10000:Int)⟩:Line)]) (l':=l8++([(⟨((ac:Int) % (max 1 (min (ab:Int) 14)):Int),(((ac:Int)+1) % (max 1 (min (ab:Int) 14)):Int),(ac:Int),(1000000:Int),(10000:Int)⟩:Line)])) (vy:=eF) T23 rfl H rfl rfl rfl (H.os 0) (H.ol 0) (rfl) (by first | omega | (simp only [List.length_nil] at *; omega)) ?_;intro cx my H;replace H:=H.nf
     have mz:=Sl.cells (H.os 1)
     have mC:=Sl.oc (H.os 1)
     have mD:=ownSl (H.get (k:=1) rfl)
     refine s_nil ⟨(H.pk []),?_⟩
     refine kg 1 ?_;refine t_l rfl ?_;refine t_sw 2 1 [cx] cx H rfl rfl Sz23 (Sl.cells (H.os 1)) rfl rfl (by simp only [List.all_cons,List.all_nil,Bool.true_and,Bool.and_true,Sl.oc (H.os 1)]; try rfl) ?_;intro mE H
     refine s_nil ⟨(H.pk []),?_⟩
     refine t_nil ?_;replace H:=H.pk [1,2];refine kg 4 ?_
     exact ⟨aU,aV,ac+1,l8++([(⟨((ac:Int) % (max 1 (min (ab:Int) 14)):Int),(((ac:Int)+1) % (max 1 (min (ab:Int) 14)):Int),(ac:Int),(1000000:Int),(10000:Int)⟩:Line)]),cx,_,upds_of _ _ ⟨rfl,rfl,rfl,rfl,rfl,trivial⟩,M.e_inl hM aP,H⟩
    skip
    refine t_bs (α:=Line) T23 [.agg #[I ((ac:Int) % (max 1 (min (ab:Int) 14))),I (((ac:Int)+1) % (max 1 (min (ab:Int) 14))),I (ac:Int),I 1000000,I 10000]] [(⟨((ac:Int) % (max 1 (min (ab:Int) 14)):Int),(((ac:Int)+1) % (max 1 (min (ab:Int) 14)):Int),(ac:Int),(1000000:Int),(10000:Int)⟩:Line)] H rfl (.cons rfl (Flat.rep_enc _ (⟨((ac:Int) % (max 1 (min (ab:Int) 14)):Int),(((ac:Int)+1) % (max 1 (min (ab:Int) 14)):Int),(ac:Int),(1000000:Int),(10000:Int)⟩:Line))<|.nil) rfl rfl rfl ?_;intro eG mF H
    have mG:=Sl.cells (H.os 0)
    have mH:=Sl.oc (H.os 0)
    have mI:=ownSl (H.get (k:=0) rfl)
    refine s_nil ⟨(H.pk []),?_⟩
    refine t_l rfl ?_;refine kg 1 ?_
    refine s_nil ⟨(H.pk []),?_⟩
    refine t_l rfl ?_;refine t_app (α:=Line) (k:=1) (l:=l8) (l2:=[(⟨((ac:Int) % (max 1 (min (ab:Int) 14)):Int),(((ac:Int)+1) % (max 1 (min (ab:Int) 14)):Int),(ac:Int),(1000000:Int),(10000:Int)⟩:Line)]) (l':=l8++([(⟨((ac:Int) % (max 1 (min (ab:Int) 14)):Int),(((ac:Int)+1) % (max 1 (min (ab:Int) 14)):Int),(ac:Int),(1000000:Int),(10000:Int)⟩:Line)])) (vy:=eG) T23 rfl H rfl rfl rfl (H.os 0) (H.ol 0) (rfl) (by first | omega | (simp only [List.length_nil] at *; omega)) ?_;intro cy mJ H;replace H:=H.nf
    have mK:=Sl.cells (H.os 1)
    have mL:=Sl.oc (H.os 1)
    have mM:=ownSl (H.get (k:=1) rfl)
    refine s_nil ⟨(H.pk []),?_⟩
    refine kg 1 ?_;refine t_l rfl ?_;refine t_sw 2 1 [cy] cy H rfl rfl Sz23 (Sl.cells (H.os 1)) rfl rfl (by simp only [List.all_cons,List.all_nil,Bool.true_and,Bool.and_true,Sl.oc (H.os 1)]; try rfl) ?_;intro mN H
    refine s_nil ⟨(H.pk []),?_⟩
    refine t_nil ?_;replace H:=H.pk [1,2];refine kg 4 ?_
    exact ⟨aU,aV,ac+1,l8++([(⟨((ac:Int) % (max 1 (min (ab:Int) 14)):Int),(((ac:Int)+1) % (max 1 (min (ab:Int) 14)):Int),(ac:Int),(1000000:Int),(10000:Int)⟩:Line)]),cy,_,upds_of _ _ ⟨rfl,rfl,rfl,rfl,rfl,trivial⟩,M.e_inl hM aP,H⟩
   skip
   refine kg 1 ?_
   have mO:=Sl.cells (H.os 0)
   have mP:=Sl.oc (H.os 0)
   have mQ:=ownSl (H.get (k:=0) rfl)
   refine s_nil ⟨(H.pk []),?_⟩
   obtain ⟨mR,hM⟩:=M.e_gd hM;refine kg 1 ?_;refine t_q rfl (fun w' H=>x_rem' (a:=(ac:Int)+1) (b:=max 1 (min (ab:Int) 14)) rfl rfl (by omega)) ?_;obtain ⟨mS,hM⟩:=M.e_gd hM;obtain ⟨mT,hM⟩:=M.e_gd hM;refine t_l2 rfl rfl ?_ ?_
   ·skip
    refine kg 1 ?_
    refine s_nil ⟨(H.pk []),?_⟩
    refine t_l rfl ?_;refine kg 1 ?_
    refine s_nil ⟨(H.pk []),?_⟩
    refine kg 1 ?_;refine t_q rfl (fun w' H=>x_rem' (a:=(ac:Int)) (b:=max 1 (min (ab:Int) 14)) rfl rfl (by omega))<|t_q rfl (fun w' H=>x_bld (ps:=[(0,I ((ac:Int) % (max 1 (min (ab:Int) 14)))),(1,I (((ac:Int)+1) % (max 1 (min (ab:Int) 14)))),(2,I (ac:Int)),(3,I 1000000),(4,I 10000)]) (zs:=[I 0,I 0,I 0,I 0,I 0]) (L':=[I ((ac:Int) % (max 1 (min (ab:Int) 14))),I (((ac:Int)+1) % (max 1 (min (ab:Int) 14))),I (ac:Int),I 1000000,I 10000]) rfl Tryz.underlying34 Al34 rfl (Bd34 Tryz.underlying34) (.cons (cs:=[I ((ac:Int) % (max 1 (min (ab:Int) 14)))]) rfl rfl rfl rfl rfl<|.cons (cs:=[I (((ac:Int)+1) % (max 1 (min (ab:Int) 14)))]) rfl rfl rfl rfl rfl<|.cons (cs:=[I (ac:Int)]) rfl rfl rfl rfl rfl<|.cons (cs:=[I 1000000]) rfl rfl rfl rfl rfl<|.cons (cs:=[I 10000]) rfl rfl rfl rfl rfl<|.nil))<|t_l rfl ?_;refine t_bs (α:=Line) T23 [.agg #[I ((ac:Int) % (max 1 (min (ab:Int) 14))),I (((ac:Int)+1) % (max 1 (min (ab:Int) 14))),I (ac:Int),I 1000000,I 10000]] [(⟨((ac:Int) % (max 1 (min (ab:Int) 14)):Int),(((ac:Int)+1) % (max 1 (min (ab:Int) 14)):Int),(ac:Int),(1000000:Int),(10000:Int)⟩:Line)] H rfl (.cons rfl (Flat.rep_enc _ (⟨((ac:Int) % (max 1 (min (ab:Int) 14)):Int),(((ac:Int)+1) % (max 1 (min (ab:Int) 14)):Int),(ac:Int),(1000000:Int),(10000:Int)⟩:Line))<|.nil) rfl rfl rfl ?_;intro eH mU H
    have mV:=Sl.cells (H.os 0)
    have mW:=Sl.oc (H.os 0)
    have mX:=ownSl (H.get (k:=0) rfl)
    refine s_nil ⟨(H.pk []),?_⟩
    refine t_l rfl ?_;refine t_app (α:=Line) (k:=1) (l:=l8) (l2:=[(⟨((ac:Int) % (max 1 (min (ab:Int) 14)):Int),(((ac:Int)+1) % (max 1 (min (ab:Int) 14)):Int),(ac:Int),(1000000:Int),(10000:Int)⟩:Line)]) (l':=l8++([(⟨((ac:Int) % (max 1 (min (ab:Int) 14)):Int),(((ac:Int)+1) % (max 1 (min (ab:Int) 14)):Int),(ac:Int),(1000000:Int),(10000:Int)⟩:Line)])) (vy:=eH) T23 rfl H rfl rfl rfl (H.os 0) (H.ol 0) (rfl) (by first | omega | (simp only [List.length_nil] at *; omega)) ?_;intro cz mY H;replace H:=H.nf
    have mZ:=Sl.cells (H.os 1)
    have m0:=Sl.oc (H.os 1)
    have m1:=ownSl (H.get (k:=1) rfl)
    refine s_nil ⟨(H.pk []),?_⟩
    refine kg 1 ?_;refine t_l rfl ?_;refine t_sw 2 1 [cz] cz H rfl rfl Sz23 (Sl.cells (H.os 1)) rfl rfl (by simp only [List.all_cons,List.all_nil,Bool.true_and,Bool.and_true,Sl.oc (H.os 1)]; try rfl) ?_;intro m2 H
    refine s_nil ⟨(H.pk []),?_⟩
    refine t_nil ?_;replace H:=H.pk [1,2];refine kg 4 ?_
    exact ⟨aU,aV,ac+1,l8++([(⟨((ac:Int) % (max 1 (min (ab:Int) 14)):Int),(((ac:Int)+1) % (max 1 (min (ab:Int) 14)):Int),(ac:Int),(1000000:Int),(10000:Int)⟩:Line)]),cz,_,upds_of _ _ ⟨rfl,rfl,rfl,rfl,rfl,trivial⟩,M.e_inl hM aP,H⟩
   skip
   refine kg 1 ?_
   refine s_nil ⟨(H.pk []),?_⟩
   refine kg 1 ?_;refine t_q rfl (fun w' H=>x_rem' (a:=(ac:Int)) (b:=max 1 (min (ab:Int) 14)) rfl rfl (by omega))<|t_q rfl (fun w' H=>x_bld (ps:=[(0,I ((ac:Int) % (max 1 (min (ab:Int) 14)))),(1,I (((ac:Int)+1) % (max 1 (min (ab:Int) 14)))),(2,I (ac:Int)),(3,I 1000000),(4,I 10000)]) (zs:=[I 0,I 0,I 0,I 0,I 0]) (L':=[I ((ac:Int) % (max 1 (min (ab:Int) 14))),I (((ac:Int)+1) % (max 1 (min (ab:Int) 14))),I (ac:Int),I 1000000,I 10000]) rfl Tryz.underlying34 Al34 rfl (Bd34 Tryz.underlying34) (.cons (cs:=[I ((ac:Int) % (max 1 (min (ab:Int) 14)))]) rfl rfl rfl rfl rfl<|.cons (cs:=[I (((ac:Int)+1) % (max 1 (min (ab:Int) 14)))]) rfl rfl rfl rfl rfl<|.cons (cs:=[I (ac:Int)]) rfl rfl rfl rfl rfl<|.cons (cs:=[I 1000000]) rfl rfl rfl rfl rfl<|.cons (cs:=[I 10000]) rfl rfl rfl rfl rfl<|.nil)) ?_;refine t_l2 rfl rfl ?_ ?_
   ·skip
    refine kg 1 ?_
    refine s_nil ⟨(H.pk []),?_⟩
    refine t_l rfl ?_;refine t_bs (α:=Line) T23 [.agg #[I ((ac:Int) % (max 1 (min (ab:Int) 14))),I (((ac:Int)+1) % (max 1 (min (ab:Int) 14))),I (ac:Int),I 1000000,I 10000]] [(⟨((ac:Int) % (max 1 (min (ab:Int) 14)):Int),(((ac:Int)+1) % (max 1 (min (ab:Int) 14)):Int),(ac:Int),(1000000:Int),(10000:Int)⟩:Line)] H rfl (.cons rfl (Flat.rep_enc _ (⟨((ac:Int) % (max 1 (min (ab:Int) 14)):Int),(((ac:Int)+1) % (max 1 (min (ab:Int) 14)):Int),(ac:Int),(1000000:Int),(10000:Int)⟩:Line))<|.nil) rfl rfl rfl ?_;intro eI m3 H
    have m4:=Sl.cells (H.os 0)
    have m5:=Sl.oc (H.os 0)
    have m6:=ownSl (H.get (k:=0) rfl)
    refine s_nil ⟨(H.pk []),?_⟩
    refine t_l rfl ?_;refine t_app (α:=Line) (k:=1) (l:=l8) (l2:=[(⟨((ac:Int) % (max 1 (min (ab:Int) 14)):Int),(((ac:Int)+1) % (max 1 (min (ab:Int) 14)):Int),(ac:Int),(1000000:Int),(10000:Int)⟩:Line)]) (l':=l8++([(⟨((ac:Int) % (max 1 (min (ab:Int) 14)):Int),(((ac:Int)+1) % (max 1 (min (ab:Int) 14)):Int),(ac:Int),(1000000:Int),(10000:Int)⟩:Line)])) (vy:=eI) T23 rfl H rfl rfl rfl (H.os 0) (H.ol 0) (rfl) (by first | omega | (simp only [List.length_nil] at *; omega)) ?_;intro cA m7 H;replace H:=H.nf
    have m8:=Sl.cells (H.os 1)
    have m9:=Sl.oc (H.os 1)
    have na:=ownSl (H.get (k:=1) rfl)
    refine s_nil ⟨(H.pk []),?_⟩
    refine kg 1 ?_;refine t_l rfl ?_;refine t_sw 2 1 [cA] cA H rfl rfl Sz23 (Sl.cells (H.os 1)) rfl rfl (by simp only [List.all_cons,List.all_nil,Bool.true_and,Bool.and_true,Sl.oc (H.os 1)]; try rfl) ?_;intro nc H
    refine s_nil ⟨(H.pk []),?_⟩
    refine t_nil ?_;replace H:=H.pk [1,2];refine kg 4 ?_
    exact ⟨aU,aV,ac+1,l8++([(⟨((ac:Int) % (max 1 (min (ab:Int) 14)):Int),(((ac:Int)+1) % (max 1 (min (ab:Int) 14)):Int),(ac:Int),(1000000:Int),(10000:Int)⟩:Line)]),cA,_,upds_of _ _ ⟨rfl,rfl,rfl,rfl,rfl,trivial⟩,M.e_inl hM aP,H⟩
   skip
   refine t_bs (α:=Line) T23 [.agg #[I ((ac:Int) % (max 1 (min (ab:Int) 14))),I (((ac:Int)+1) % (max 1 (min (ab:Int) 14))),I (ac:Int),I 1000000,I 10000]] [(⟨((ac:Int) % (max 1 (min (ab:Int) 14)):Int),(((ac:Int)+1) % (max 1 (min (ab:Int) 14)):Int),(ac:Int),(1000000:Int),(10000:Int)⟩:Line)] H rfl (.cons rfl (Flat.rep_enc _ (⟨((ac:Int) % (max 1 (min (ab:Int) 14)):Int),(((ac:Int)+1) % (max 1 (min (ab:Int) 14)):Int),(ac:Int),(1000000:Int),(10000:Int)⟩:Line))<|.nil) rfl rfl rfl ?_;intro eJ nd H
   have ng:=Sl.cells (H.os 0)
   have nh:=Sl.oc (H.os 0)
   have ni:=ownSl (H.get (k:=0) rfl)
   refine s_nil ⟨(H.pk []),?_⟩
   refine t_l rfl ?_;refine kg 1 ?_
   refine s_nil ⟨(H.pk []),?_⟩
   refine t_l rfl ?_;refine t_app (α:=Line) (k:=1) (l:=l8) (l2:=[(⟨((ac:Int) % (max 1 (min (ab:Int) 14)):Int),(((ac:Int)+1) % (max 1 (min (ab:Int) 14)):Int),(ac:Int),(1000000:Int),(10000:Int)⟩:Line)]) (l':=l8++([(⟨((ac:Int) % (max 1 (min (ab:Int) 14)):Int),(((ac:Int)+1) % (max 1 (min (ab:Int) 14)):Int),(ac:Int),(1000000:Int),(10000:Int)⟩:Line)])) (vy:=eJ) T23 rfl H rfl rfl rfl (H.os 0) (H.ol 0) (rfl) (by first | omega | (simp only [List.length_nil] at *; omega)) ?_;intro cB nj H;replace H:=H.nf
   have nk:=Sl.cells (H.os 1)
   have nl:=Sl.oc (H.os 1)
   have nm:=ownSl (H.get (k:=1) rfl)
   refine s_nil ⟨(H.pk []),?_⟩
   refine kg 1 ?_;refine t_l rfl ?_;refine t_sw 2 1 [cB] cB H rfl rfl Sz23 (Sl.cells (H.os 1)) rfl rfl (by simp only [List.all_cons,List.all_nil,Bool.true_and,Bool.and_true,Sl.oc (H.os 1)]; try rfl) ?_;intro np H
   refine s_nil ⟨(H.pk []),?_⟩
   refine t_nil ?_;replace H:=H.pk [1,2];refine kg 4 ?_
   exact ⟨aU,aV,ac+1,l8++([(⟨((ac:Int) % (max 1 (min (ab:Int) 14)):Int),(((ac:Int)+1) % (max 1 (min (ab:Int) 14)):Int),(ac:Int),(1000000:Int),(10000:Int)⟩:Line)]),cB,_,upds_of _ _ ⟨rfl,rfl,rfl,rfl,rfl,trivial⟩,M.e_inl hM aP,H⟩
  replace hM:=M.e_f hM bg
  replace bg:=dI bg
  refine W.exit ?_
  have eK:=M.e_inr hM aP
  subst eK;replace hM:=eB;(try dsimp only at hM);refine kg 7 ?_
  refine W.cond (decide ((min (ab:Int) 14)<2)) rfl (fun bh=>?_) (fun bh=>?_)
  ·replace hM:=M.e_t hM bh
   replace bh:=dI bh
   refine kg 2 ?_;refine t_sw 1 1 [.slice none 0 0] (.slice none 0 0) H rfl rfl Sz23 rfl rfl rfl rfl ?_;intro nq H;refine s_nil ?_;replace H:=H.pk [1];obtain ⟨nr,hM⟩:=M.e_gd hM;obtain ⟨ns,hM⟩:=M.e_gd hM;refine kg 4 ?_;refine t_mk (α:=Leg) T29 (default:Leg) rfl (n:=2*(ab:Int)) H rfl rfl (by omega) (by omega) (by omega) ?_;intro eL nu H;replace H:=H.nf
   have nw:=((H.os 0)).len_le
   refine kg 10 ?_;obtain ⟨eM,cC,eN⟩:=M.e_bind hM
   obtain ⟨aQ,cC⟩:=M.e_iter cC
   refine W.loop (fun m σ W=>∃ (al:List Leg) (ah:Nat) (az:Value) (ρ:Env),σ=upds ρ [(16,I (ab:Int)),(17,Pq aN),(19,az),(241,I (ab:Int)),(278,I ((List.replicate (Int.toNat (2*(ab:Int))) (default:Leg)).length:Int)),(279,I (ah:Int))]/\M.iterN (zbG ab) m (al,ah)=some eM/\St w W [cOwn (α:=Leg) 28 az al,cBlk aN [I (min (ab:Int) 14),.slice none 0 0] 25] R) ?_ ?_
   ·exact ⟨_,List.replicate (Int.toNat (2*(ab:Int))) (default:Leg),0,eL,_,upds_of _ _ ⟨rfl,rfl,rfl,rfl,rfl,rfl,trivial⟩,cC,H⟩
   rintro ny σ nz ⟨al,ah,az,ρ,rfl,c5,H⟩
   obtain ⟨eO,eP,nA,hM,c6⟩:=M.e_iterN c5
   clear c5;refine kg 5 ?_
   refine W.cond (decide ((ah:Int)<((List.replicate (Int.toNat (2*(ab:Int))) (default:Leg)).length:Int))) rfl (fun bi=>?_) (fun bi=>?_)
   ·replace hM:=M.e_t hM bi
    replace bi:=dI bi
    obtain ⟨nB,hM⟩:=M.e_gd hM;refine kg 12 ?_;refine s_val (x_rem' (a:=(ah:Int)) (b:=2) rfl rfl (by omega)) ?_;obtain ⟨nC,hM⟩:=M.e_gd hM;refine kg 3 ?_;refine t_fst (α:=Leg) (k:=0) (i:=(ah:Int)) (off:=1) (l:=al) (l':=al.set ah ({ (al.getD ah default) with back:=((ah:Int) % 2)==1 })) (val:=B (((ah:Int) % 2)==1)) (L':=[cOwn (α:=Leg) 28 az (al.set ah ({ (al.getD ah default) with back:=((ah:Int) % 2)==1 })),cBlk aN [I (min (ab:Int) 14),.slice none 0 0] 25]) H rfl Sz4 (by omega) (by omega) (al.getD ah default) ({ (al.getD ah default) with back:=((ah:Int) % 2)==1 }) (getD_some _ (by omega) _) rfl rfl [B (((ah:Int) % 2)==1)] rfl rfl rfl rfl rfl rfl rfl ?_;intro nD H
    have nE:(al.set ah ({ (al.getD ah default) with back:=((ah:Int) % 2)==1 })).length=(al).length:=List.length_set
    refine kg 5 ?_
    exact ⟨eO,eP,al.set ah ({ (al.getD ah default) with back:=((ah:Int) % 2)==1 }),ah+1,az,_,upds_of _ _ ⟨rfl,rfl,rfl,rfl,rfl,rfl,trivial⟩,M.e_inl hM c6,H⟩
   replace hM:=M.e_f hM bi
   replace bi:=dI bi
   refine W.exit ?_
   have eQ:=M.e_inr hM c6
   subst eQ;replace hM:=eN;(try dsimp only at hM);refine kg 2 ?_;refine W.draw (fun W=>St w W [cOwn (α:=Leg) 28 az al,cBlk aN [I (min (ab:Int) 14),.slice none 0 0] 25] R) [(0,true),(1,true),(2,true),(3,false),(4,false),(5,true),(6,true),(7,true),(8,true),(9,true),(10,true),(11,true),(12,false),(13,true),(14,true),(15,true),(16,true),(17,true),(18,false),(19,true),(20,true)] mixed (by decide +kernel) rfl ?_;intro nF au;replace H:=H.ext au;clear au
   refine ⟨(H.pk [0,1]),?_⟩
   refine kg 3 ?_;refine d_l rfl ?_;obtain ⟨nG,hM⟩:=M.e_gd hM;refine t_mk (α:=Int) T22 (0:Int) rfl (n:=min (ab:Int) 14) H rfl rfl (by omega) (by omega) (by omega) ?_;intro eR nH H;replace H:=H.nf
   have nI:=Sl.cells (H.os 0)
   have nJ:=Sl.oc (H.os 0)
   have nK:=ownSl (H.get (k:=0) rfl)
   refine s_nil ⟨(H.pk [1,2]),?_⟩
   refine d_l rfl ?_;obtain ⟨nL,eS,hM⟩:=M.e_bind hM;refine s_call cf5 [.agg #[I (min (ab:Int) 14),.slice none 0 0],eR] rfl (zcJ (min (ab:Int) 14) ([]:List Line) (List.replicate (Int.toNat (min (ab:Int) 14)) (0:Int)) Reads.none (Sl.nil (fun _=>none)) (rdo 0) (H.os 0) eS _ (H.gt 3)) ?_
   rintro vq nM ⟨r8,rfl,hvq,ao⟩
   subst vq;(try dsimp only at hM);replace H:=H.bk ao;clear ao
   refine s_nil ⟨(H.pk [1,2]),?_⟩
   obtain ⟨cD,hM⟩:=M.e_grd hM
   replace cD:=M.imp_of cD
   simp only [Bool.and_eq_true,decide_eq_true_eq] at cD
   refine kg 7 ?_;refine d_l rfl ?_;obtain ⟨r9,eT,hM⟩:=M.e_bind hM;refine t_gcall (!(!r8)) (gy_f rfl) cf6 (B r9) (fun _=>[.agg #[I (min (ab:Int) 14),.slice none 0 0],I 0,I ((min (ab:Int) 14)-1),az]) (fun hg=>lst4 (gd_of hg (.agg #[I (min (ab:Int) 14),.slice none 0 0])) rfl (gd_of hg (I ((min (ab:Int) 14)-1))) (gd_of hg (az))) H (fun hg=>(zcD (min (ab:Int) 14) ([]:List Line) 0 ((min (ab:Int) 14)-1) al Reads.none (Sl.nil (fun _=>none)) (rdo 1) (H.os 1) (M.e_opt eT hg) _ (H.give (A:=[]) rfl)).mono fun v_ w_ ⟨y_,am,ay,H_⟩=>by subst am; exact ⟨ay,H.via H_⟩) ?_;intro nN H
   refine s_nil ⟨(H.pk [1,2]),?_⟩
   refine kg 4 ?_;refine d_qg (!((!r8)||(!r9))) rfl (gy_f rfl) (fun hg=>(fun w' H=>x_bld (ps:=[(0,I 0),(1,I 3)]) (zs:=[I 0,I 0]) (L':=[I 0,I 3]) rfl Tryz.underlying31 Al31 rfl (Bd31 Tryz.underlying31) (.cons (cs:=[I 0]) rfl rfl rfl rfl rfl<|.cons (cs:=[I 3]) rfl rfl rfl rfl rfl<|.nil)))<|d_l rfl ?_;obtain ⟨bx,eU,hM⟩:=M.e_bind hM;refine t_gcall (!((!r8)||(!r9))) (gy_f rfl) cf7 (B bx) (fun _=>[.agg #[I (min (ab:Int) 14),.slice none 0 0],.agg #[I 0,I 3]]) (fun hg=>lst2 (gd_of hg (.agg #[I (min (ab:Int) 14),.slice none 0 0])) (gd_of hg (.agg #[I 0,I 3]))) H (fun hg=>(zcL (min (ab:Int) 14) ([]:List Line) (⟨(0:Int),(3:Int)⟩:Mv) Reads.none (Sl.nil (fun _=>none)) (M.e_opt eU hg) _ (H.give (A:=[]) rfl)).mono fun v_ w_ ⟨y_,am,ay,H_⟩=>by subst am; exact ⟨ay,H.via H_⟩) ?_;intro nO H
   refine s_nil ⟨(H.pk [1,2]),?_⟩
   refine kg 3 ?_;replace H:=H.pk [1,2]
   refine W.cond (((!r8)||(!r9))||(!bx)) rfl (fun cE=>?_) (fun cE=>?_)
   ·replace hM:=M.e_t hM cE;refine kg 4 ?_;replace H:=H.pk [];refine W.ret ?_
    have eV:=M.e_inr hM bb
    subst eV;replace hM:=bw;(try dsimp only at hM)
    have am:=M.e_pure hM
    exact ⟨_,resE_tmp rfl,⟨false,am,rfl,H⟩⟩
   replace hM:=M.e_f hM cE;refine kg 4 ?_;obtain ⟨nP,eW,hM⟩:=M.e_bind hM;refine s_call cf8 [.agg #[I (min (ab:Int) 14),.slice none 0 0]] rfl (zaC (min (ab:Int) 14) ([]:List Line) Reads.none (Sl.nil (fun _=>none)) eW _ (H.gt 2)) ?_
   rintro vq nQ ⟨bj,rfl,hvq,ao⟩
   subst vq;(try dsimp only at hM);replace H:=H.bk ao;clear ao;refine kg 7 ?_;refine s_val (x_eqb (a:=bj==0) (b:=((decide (0<(ab:Int)))&&(decide ((ab:Int)<13)))) (r:=((bj==0) != ((decide (0<(ab:Int)))&&(decide ((ab:Int)<13))))) rfl rfl Tryz.underlying4 rfl)<|s_nil ?_
   refine W.cond ((bj==0) != ((decide (0<(ab:Int)))&&(decide ((ab:Int)<13)))) rfl (fun cF=>?_) (fun cF=>?_)
   ·replace hM:=M.e_t hM cF;refine kg 4 ?_;replace H:=H.pk [];refine W.ret ?_
    have eX:=M.e_inr hM bb
    subst eX;replace hM:=bw;(try dsimp only at hM)
    have am:=M.e_pure hM
    exact ⟨_,resE_tmp rfl,⟨false,am,rfl,H⟩⟩
   replace hM:=M.e_f hM cF;refine kg 5 ?_
   exact ⟨cX,cY,ab+1,_,upds_of _ _ ⟨rfl,trivial⟩,M.e_inl hM bb,(H.pk [])⟩
  replace hM:=M.e_f hM bh
  replace bh:=dI bh
  obtain ⟨nR,hM⟩:=M.e_gd hM;obtain ⟨nS,hM⟩:=M.e_gd hM;refine kg 5 ?_;refine t_mk (α:=Leg) T29 (default:Leg) rfl (n:=2*(ab:Int)) H rfl rfl (by omega) (by omega) (by omega) ?_;intro eY nT H;replace H:=H.nf
  have nU:=((H.os 0)).len_le
  refine kg 10 ?_;obtain ⟨eZ,cG,e7⟩:=M.e_bind hM
  obtain ⟨aQ,cG⟩:=M.e_iter cG
  refine W.loop (fun m σ W=>∃ (al:List Leg) (ah:Nat) (az:Value) (ρ:Env),σ=upds ρ [(16,I (ab:Int)),(17,Pq aN),(19,az),(241,I (ab:Int)),(278,I ((List.replicate (Int.toNat (2*(ab:Int))) (default:Leg)).length:Int)),(279,I (ah:Int))]/\M.iterN (zc1 ab) m (al,ah)=some eZ/\St w W [cOwn (α:=Leg) 28 az al,cOwn (α:=Line) 34 aJ l8,cBlk aN [I (min (ab:Int) 14),aJ] 25] R) ?_ ?_
  ·exact ⟨_,List.replicate (Int.toNat (2*(ab:Int))) (default:Leg),0,eY,_,upds_of _ _ ⟨rfl,rfl,rfl,rfl,rfl,rfl,trivial⟩,cG,H⟩
  rintro nV σ nW ⟨al,ah,az,ρ,rfl,c7,H⟩
  obtain ⟨e8,e9,nX,hM,c8⟩:=M.e_iterN c7
  clear c7;refine kg 5 ?_
  refine W.cond (decide ((ah:Int)<((List.replicate (Int.toNat (2*(ab:Int))) (default:Leg)).length:Int))) rfl (fun bn=>?_) (fun bn=>?_)
  ·replace hM:=M.e_t hM bn
   replace bn:=dI bn
   obtain ⟨nY,hM⟩:=M.e_gd hM;refine kg 12 ?_;refine s_val (x_rem' (a:=(ah:Int)) (b:=2) rfl rfl (by omega)) ?_;obtain ⟨nZ,hM⟩:=M.e_gd hM;refine kg 3 ?_;refine t_fst (α:=Leg) (k:=0) (i:=(ah:Int)) (off:=1) (l:=al) (l':=al.set ah ({ (al.getD ah default) with back:=((ah:Int) % 2)==1 })) (val:=B (((ah:Int) % 2)==1)) (L':=[cOwn (α:=Leg) 28 az (al.set ah ({ (al.getD ah default) with back:=((ah:Int) % 2)==1 })),cOwn (α:=Line) 34 aJ l8,cBlk aN [I (min (ab:Int) 14),aJ] 25]) H rfl Sz4 (by omega) (by omega) (al.getD ah default) ({ (al.getD ah default) with back:=((ah:Int) % 2)==1 }) (getD_some _ (by omega) _) rfl rfl [B (((ah:Int) % 2)==1)] rfl rfl rfl rfl rfl rfl rfl ?_;intro n0 H
   have n1:(al.set ah ({ (al.getD ah default) with back:=((ah:Int) % 2)==1 })).length=(al).length:=List.length_set
   refine kg 5 ?_
   exact ⟨e8,e9,al.set ah ({ (al.getD ah default) with back:=((ah:Int) % 2)==1 }),ah+1,az,_,upds_of _ _ ⟨rfl,rfl,rfl,rfl,rfl,rfl,trivial⟩,M.e_inl hM c8,H⟩
  replace hM:=M.e_f hM bn
  replace bn:=dI bn
  refine W.exit ?_
  have fa:=M.e_inr hM c8
  subst fa;replace hM:=e7;(try dsimp only at hM);refine kg 2 ?_;refine W.draw (fun W=>St w W [cOwn (α:=Leg) 28 az al,cOwn (α:=Line) 34 aJ l8,cBlk aN [I (min (ab:Int) 14),aJ] 25] R) [(0,true),(1,true),(2,true),(3,false),(4,false),(5,true),(6,true),(7,true),(8,true),(9,true),(10,true),(11,true),(12,false),(13,true),(14,true),(15,true),(16,true),(17,true),(18,false),(19,true),(20,true)] mixed (by decide +kernel) rfl ?_;intro n2 au;replace H:=H.ext au;clear au
  refine ⟨(H.pk [0,1,2]),?_⟩
  refine kg 3 ?_;refine d_l rfl ?_;obtain ⟨n3,hM⟩:=M.e_gd hM;refine t_mk (α:=Int) T22 (0:Int) rfl (n:=min (ab:Int) 14) H rfl rfl (by omega) (by omega) (by omega) ?_;intro fb n4 H;replace H:=H.nf
  have n8:=Sl.cells (H.os 0)
  have n9:=Sl.oc (H.os 0)
  have oa:=ownSl (H.get (k:=0) rfl)
  refine s_nil ⟨(H.pk [1,2,3]),?_⟩
  refine d_l rfl ?_;obtain ⟨ob,fd,hM⟩:=M.e_bind hM;refine s_call cf5 [.agg #[I (min (ab:Int) 14),aJ],fb] rfl (zcJ (min (ab:Int) 14) l8 (List.replicate (Int.toNat (min (ab:Int) 14)) (0:Int)) (rdo 2) (H.os 2) (rdo 0) (H.os 0) fd _ (H.gt 4)) ?_
  rintro vq od ⟨r8,rfl,hvq,ao⟩
  subst vq;(try dsimp only at hM);replace H:=H.bk ao;clear ao
  refine s_nil ⟨(H.pk [1,2,3]),?_⟩
  obtain ⟨cH,hM⟩:=M.e_grd hM
  replace cH:=M.imp_of cH
  simp only [Bool.and_eq_true,decide_eq_true_eq] at cH
  refine kg 7 ?_;refine d_l rfl ?_;obtain ⟨r9,fe,hM⟩:=M.e_bind hM;refine t_gcall (!(!r8)) (gy_f rfl) cf6 (B r9) (fun _=>[.agg #[I (min (ab:Int) 14),aJ],I 0,I ((min (ab:Int) 14)-1),az]) (fun hg=>lst4 (gd_of hg (.agg #[I (min (ab:Int) 14),aJ])) rfl (gd_of hg (I ((min (ab:Int) 14)-1))) (gd_of hg (az))) H (fun hg=>(zcD (min (ab:Int) 14) l8 0 ((min (ab:Int) 14)-1) al (rdo 2) (H.os 2) (rdo 1) (H.os 1) (M.e_opt fe hg) _ (H.give (A:=[]) rfl)).mono fun v_ w_ ⟨y_,am,ay,H_⟩=>by subst am; exact ⟨ay,H.via H_⟩) ?_;intro oe H
  refine s_nil ⟨(H.pk [1,2,3]),?_⟩
  refine kg 4 ?_;refine d_qg (!((!r8)||(!r9))) rfl (gy_f rfl) (fun hg=>(fun w' H=>x_bld (ps:=[(0,I 0),(1,I 3)]) (zs:=[I 0,I 0]) (L':=[I 0,I 3]) rfl Tryz.underlying31 Al31 rfl (Bd31 Tryz.underlying31) (.cons (cs:=[I 0]) rfl rfl rfl rfl rfl<|.cons (cs:=[I 3]) rfl rfl rfl rfl rfl<|.nil)))<|d_l rfl ?_;obtain ⟨bx,ff,hM⟩:=M.e_bind hM;refine t_gcall (!((!r8)||(!r9))) (gy_f rfl) cf7 (B bx) (fun _=>[.agg #[I (min (ab:Int) 14),aJ],.agg #[I 0,I 3]]) (fun hg=>lst2 (gd_of hg (.agg #[I (min (ab:Int) 14),aJ])) (gd_of hg (.agg #[I 0,I 3]))) H (fun hg=>(zcL (min (ab:Int) 14) l8 (⟨(0:Int),(3:Int)⟩:Mv) (rdo 2) (H.os 2) (M.e_opt ff hg) _ (H.give (A:=[]) rfl)).mono fun v_ w_ ⟨y_,am,ay,H_⟩=>by subst am; exact ⟨ay,H.via H_⟩) ?_;intro og H
  refine s_nil ⟨(H.pk [1,2,3]),?_⟩
  refine kg 3 ?_;replace H:=H.pk [1,2,3]
  refine W.cond (((!r8)||(!r9))||(!bx)) rfl (fun cI=>?_) (fun cI=>?_)
  ·replace hM:=M.e_t hM cI;refine kg 4 ?_;replace H:=H.pk [];refine W.ret ?_
   have fh:=M.e_inr hM bb
   subst fh;replace hM:=bw;(try dsimp only at hM)
   have am:=M.e_pure hM
   exact ⟨_,resE_tmp rfl,⟨false,am,rfl,H⟩⟩
  replace hM:=M.e_f hM cI;refine kg 4 ?_;obtain ⟨oh,fi,hM⟩:=M.e_bind hM;refine s_call cf8 [.agg #[I (min (ab:Int) 14),aJ]] rfl (zaC (min (ab:Int) 14) l8 (rdo 1) (H.os 1) fi _ (H.gt 3)) ?_
  rintro vq om ⟨bj,rfl,hvq,ao⟩
  subst vq;(try dsimp only at hM);replace H:=H.bk ao;clear ao;refine kg 7 ?_;refine s_val (x_eqb (a:=bj==0) (b:=((decide (0<(ab:Int)))&&(decide ((ab:Int)<13)))) (r:=((bj==0) != ((decide (0<(ab:Int)))&&(decide ((ab:Int)<13))))) rfl rfl Tryz.underlying4 rfl)<|s_nil ?_
  refine W.cond ((bj==0) != ((decide (0<(ab:Int)))&&(decide ((ab:Int)<13)))) rfl (fun cJ=>?_) (fun cJ=>?_)
  ·replace hM:=M.e_t hM cJ;refine kg 4 ?_;replace H:=H.pk [];refine W.ret ?_
   have fj:=M.e_inr hM bb
   subst fj;replace hM:=bw;(try dsimp only at hM)
   have am:=M.e_pure hM
   exact ⟨_,resE_tmp rfl,⟨false,am,rfl,H⟩⟩
  replace hM:=M.e_f hM cJ;refine kg 5 ?_
  exact ⟨cX,cY,ab+1,_,upds_of _ _ ⟨rfl,trivial⟩,M.e_inl hM bb,(H.pk [])⟩
 replace hM:=M.e_f hM bc
 replace bc:=dI bc
 refine W.exit ?_
 have fk:=M.e_inr hM bb
 subst fk;replace hM:=bw;(try dsimp only at hM);refine kg 2 ?_;refine s_val (x_bld (ps:=[(0,I 12)]) (zs:=[I 0,.slice none 0 0]) (L':=[I 12,.slice none 0 0]) rfl Tryz.underlying25 Al25 rfl (Bd25 Tryz.underlying25) (.cons (cs:=[I 12]) rfl rfl rfl rfl rfl<|.nil)) ?_;refine t_alloc (cs:=[I 0,.slice none 0 0]) H Al25 rfl ?_;intro c9 oo H;refine t_sw 0 0 [I 12,.slice none 0 0] (.agg #[I 12,.slice none 0 0]) H rfl rfl Sz25 rfl rfl rfl rfl ?_;intro oq H;refine kg 7 ?_
 replace H:=H.nilOwn (α:=Line) 34
 obtain ⟨fl,cK,fm⟩:=M.e_bind hM
 obtain ⟨aQ,cK⟩:=M.e_iter cK
 refine W.loop (fun m σ W=>∃ (aw:Nat) (aW:List Line) (bz:Value) (ρ:Env),σ=upds ρ [(21,Pq c9),(323,I (aw:Int))]/\M.iterN (zc3) m (aw,aW)=some fl/\St w W [cOwn (α:=Line) 34 bz aW,cBlk c9 [I 12,bz] 25] R) ?_ ?_
 ·exact ⟨_,0,[],(.slice none 0 0),_,upds_of _ _ ⟨rfl,rfl,trivial⟩,cK,H⟩
 rintro ot σ ou ⟨aw,aW,bz,ρ,rfl,da,H⟩
 obtain ⟨fo,fp,ov,hM,db⟩:=M.e_iterN da
 clear da;refine kg 5 ?_
 refine W.cond (decide ((aw:Int)<11)) rfl (fun bp=>?_) (fun bp=>?_)
 ·replace hM:=M.e_t hM bp
  replace bp:=dI bp
  refine kg 14 ?_;refine s_val (x_bld (ps:=[(0,I (aw:Int)),(1,I ((aw:Int)+1)),(3,I 1000000),(4,I 10000)]) (zs:=[I 0,I 0,I 0,I 0,I 0]) (L':=[I (aw:Int),I ((aw:Int)+1),I 0,I 1000000,I 10000]) rfl Tryz.underlying34 Al34 rfl (Bd34 Tryz.underlying34) (.cons (cs:=[I (aw:Int)]) rfl rfl rfl rfl rfl<|.cons (cs:=[I ((aw:Int)+1)]) rfl rfl rfl rfl rfl<|.cons (cs:=[I 1000000]) rfl rfl rfl rfl rfl<|.cons (cs:=[I 10000]) rfl rfl rfl rfl rfl<|.nil)) ?_;refine t_bs (α:=Line) T23 [.agg #[I (aw:Int),I ((aw:Int)+1),I 0,I 1000000,I 10000]] [(⟨(aw:Int),((aw:Int)+1:Int),(0:Int),(1000000:Int),(10000:Int)⟩:Line)] H rfl (.cons rfl (Flat.rep_enc _ (⟨(aw:Int),((aw:Int)+1:Int),(0:Int),(1000000:Int),(10000:Int)⟩:Line))<|.nil) rfl rfl rfl ?_;intro fq ow H;obtain ⟨ox,hM⟩:=M.e_gd hM;refine t_app (α:=Line) (k:=1) (l:=aW) (l2:=[(⟨(aw:Int),((aw:Int)+1:Int),(0:Int),(1000000:Int),(10000:Int)⟩:Line)]) (l':=aW++([(⟨(aw:Int),((aw:Int)+1:Int),(0:Int),(1000000:Int),(10000:Int)⟩:Line)])) (vy:=fq) T23 rfl H rfl rfl rfl (H.os 0) (H.ol 0) (rfl) (by first | omega | (simp only [List.length_nil] at *; omega)) ?_;intro cL oy H;replace H:=H.nf;refine kg 1 ?_;refine t_sw 2 1 [cL] cL H rfl rfl Sz23 (Sl.cells (H.os 1)) rfl rfl (by simp only [List.all_cons,List.all_nil,Bool.true_and,Bool.and_true,Sl.oc (H.os 1)]; try rfl) ?_;intro oz H;refine s_nil ?_;replace H:=H.pk [1,2];refine kg 4 ?_
  exact ⟨fo,fp,aw+1,aW++([(⟨(aw:Int),((aw:Int)+1:Int),(0:Int),(1000000:Int),(10000:Int)⟩:Line)]),cL,_,upds_of _ _ ⟨rfl,rfl,trivial⟩,M.e_inl hM db,H⟩
 replace hM:=M.e_f hM bp
 replace bp:=dI bp
 refine W.exit ?_
 have fu:=M.e_inr hM db
 subst fu;replace hM:=fm;(try dsimp only at hM);refine kg 3 ?_;obtain ⟨oA,fv,hM⟩:=M.e_bind hM;refine s_call cf9 [.agg #[I 12,bz],I 0,I 11] rfl (zcI 12 aW 0 11 (rdo 0) (H.os 0) fv _ (H.gt 2)) ?_
 rintro vq oB ⟨br,bt,bR,rfl,hvq,ao⟩
 subst vq;(try dsimp only at hM);replace H:=H.bk ao;clear ao;refine kg 3 ?_;refine t_alloc (cs:=[I 0,I 0]) H Al42 rfl ?_;intro oC oD H;refine t_sw 0 0 [I br,I bt] (.agg #[I br,I bt]) H rfl rfl Sz42 rfl rfl rfl rfl ?_;intro oE H;refine kg 5 ?_;refine s_val (x_bld (ps:=[(0,I 0),(1,I 1)]) (zs:=[I 0,I 0]) (L':=[I 0,I 1]) rfl Tryz.underlying31 Al31 rfl (Bd31 Tryz.underlying31) (.cons (cs:=[I 0]) rfl rfl rfl rfl rfl<|.cons (cs:=[I 1]) rfl rfl rfl rfl rfl<|.nil)) ?_;obtain ⟨oF,fw,hM⟩:=M.e_bind hM;refine s_call cf10 [.agg #[I 12,bz],.agg #[I 0,I 1]] rfl (zdg 12 aW (⟨(0:Int),(1:Int)⟩:Mv) (rdo 1) (H.os 1) fw _ (H.gt 3)) ?_
 rintro vq oG ⟨dc,oH,bS,dh,rfl,hvq,ao⟩
 subst vq;(try dsimp only at hM);replace H:=H.bk ao;clear ao;refine kg 3 ?_;refine t_alloc (cs:=[I 0,.slice none 0 0]) H Al25 rfl ?_;intro oI oJ H;refine t_sw 0 0 [I dc,dh] (.agg #[I dc,dh]) H rfl rfl Sz25 rfl rfl rfl (by simp only [List.all_cons,List.all_nil,Bool.true_and,Bool.and_true,Sl.oc (H.os 1)]; try rfl) ?_;intro oK H;refine kg 2 ?_;replace H:=H.pk [2];refine kg 10 ?_;refine g_val ((bR==0)&&(bS==3)) (gy_t rfl) (fun hg=>x_bld (ps:=[(0,I 10890000),(1,I 11110000)]) (zs:=[I 0,I 0]) (L':=[I 10890000,I 11110000]) rfl Tryz.underlying42 Al42 rfl (Bd42 Tryz.underlying42) (.cons (cs:=[I 10890000]) rfl rfl rfl rfl rfl<|.cons (cs:=[I 11110000]) rfl rfl rfl rfl rfl<|.nil))<|g_val ((bR==0)&&(bS==3)) (gy_t rfl) (fun hg=>x_eqS (eqT42 (⟨(br:Int),(bt:Int)⟩:Span) (⟨(10890000:Int),(11110000:Int)⟩:Span) _) gdT42 (gd_of hg (.agg #[I br,I bt])) (gd_of hg (.agg #[I 10890000,I 11110000]))) ?_;refine kg 2 ?_;obtain ⟨di,fx,hM⟩:=M.e_bind hM;refine t_gcall (((bR==0)&&(bS==3))&&(decide ((⟨(br:Int),(bt:Int)⟩:Span)=(⟨(10890000:Int),(11110000:Int)⟩:Span)))) (gy_t rfl) cf11 (B di) (fun _=>[]) (fun _=>rfl) H (fun hg=>(zau (M.e_opt fx hg) _ (H.give (A:=[]) rfl)).mono fun v_ w_ ⟨y_,am,ay,H_⟩=>by subst am; exact ⟨ay,H.via H_⟩) ?_;intro oL H;refine kg 3 ?_;replace H:=H.pk [];refine W.ret ?_
 have am:=M.e_pure hM
 exact ⟨_,resE_tmp rfl,⟨((((bR==0)&&(bS==3))&&(decide ((⟨(br:Int),(bt:Int)⟩:Span)=(⟨(10890000:Int),(11110000:Int)⟩:Span))))&&di),am,rfl,H⟩⟩

end Go.Proofs.YtfdgkdkfbaghpaaGreat
end
namespace Go.Proofs.YtfdgkdkfbaghpaaGreat
open Go Go.Nm
theorem j7_out (i:Nat) (a:Int) (l:List Line) (hs:List Int) (lg:List Leg) (b c d e:Int):(zab i a l hs lg b c d e).Out (fun x=>x = .inl (i+1)):=by
  unfold zab
  refine M.o_bindE (zcH a l hs) (M.o_bind (P:=fun z=>z=true) (M.o_opt (fun _=>⟨true,zcy a l d e lg,rfl⟩) (fun h=>by simp at h)) ?_)
  rintro _ rfl
  refine M.o_bind (P:=fun z=>z=true) (M.o_opt (fun _=>⟨true,zcB a l _,rfl⟩) (fun h=>by simp at h)) ?_
  rintro _ rfl
  exact M.o_f rfl (M.o_pure rfl)
theorem j8_out (s i:Nat) (a:Int) (l:List Line) (hl:l.length=3) (hi:i<14):(za8 s i a l).Out (fun x=>x = .inl (i+1)):=by
  unfold za8
  refine M.o_grd (decide_eq_true (by omega)) (M.o_grd (decide_eq_true (by omega)) (M.o_grd (by decide) (M.o_grd (by decide) (M.o_grd (by decide) (M.o_grd (decide_eq_true (by omega)) ?_)))))
  refine M.o_if (fun _=>M.o_grd (decide_eq_true (by omega)) (j7_out ..)) (fun h0=>?_)
  refine M.o_if (fun _=>M.o_grd (decide_eq_true (by omega)) (j7_out ..)) (fun h1=>?_)
  refine M.o_if (fun _=>M.o_grd (decide_eq_true (by omega)) (j7_out ..)) (fun h2=>?_)
  refine M.o_if (fun _=>M.o_grd (decide_eq_true (by omega)) (j7_out ..)) (fun h3=>?_)
  refine M.o_if (fun _=>M.o_grd (decide_eq_true (by omega)) (j7_out ..)) (fun h4=>?_)
  refine M.o_if (fun _=>M.o_grd (decide_eq_true (by omega)) (j7_out ..)) (fun h5=>?_)
  refine M.o_if (fun _=>M.o_grd (decide_eq_true (by omega)) (j7_out ..)) (fun h6=>?_)
  refine M.o_if (fun _=>M.o_grd (decide_eq_true (by omega)) (j7_out ..)) (fun h7=>?_)
  refine M.o_if (fun _=>M.o_grd (decide_eq_true (by omega)) (j7_out ..)) (fun h8=>?_)
  refine M.o_if (fun _=>M.o_grd (decide_eq_true (by omega)) (j7_out ..)) (fun h9=>?_)
  refine M.o_if (fun _=>M.o_grd (decide_eq_true (by omega)) (j7_out ..)) (fun h10=>?_)
  refine M.o_if (fun _=>M.o_grd (decide_eq_true (by omega)) (j7_out ..)) (fun h11=>?_)
  refine M.o_if (fun _=>M.o_grd (decide_eq_true (by omega)) (j7_out ..)) (fun h12=>?_)
  refine M.o_if (fun _=>M.o_grd (decide_eq_true (by omega)) (j7_out ..)) (fun h13=>?_)
  rw [beq_eq_false_iff_ne] at *
  omega
theorem b9_out (s:Nat):(M.iter (zbR s) 0).Out (fun r=>r = .inr ()):=by
  refine M.o_for 14 (fun i k=>k=i) ?_ ?_ rfl
  · rintro _ i hi rfl
    simp only [zbR]
    refine M.o_t (decide_eq_true (by omega)) (M.o_bindE (by unfold zag; exact M.i_pure) ?_)
    refine M.o_if (fun _=>M.o_bindE (by unfold zag; exact M.i_pure) ?_) (fun _=>?_)
    · exact M.o_mono (j8_out s i _ _ rfl hi) (fun x h=>by subst h; rfl)
    · exact M.o_mono (j8_out s i _ _ rfl hi) (fun x h=>by subst h; rfl)
  · rintro _ rfl
    simp only [zbR]
    exact M.o_f (by decide) (M.o_pure rfl)
theorem b10_out:(M.iter zbP 0).Out (fun r=>r = .inr ()):=by
  refine M.o_for 28 (fun i k=>k=i) ?_ ?_ rfl
  · rintro _ i hi rfl
    simp only [zbP]
    refine M.o_t (decide_eq_true (by simp only [List.length_cons,List.length_nil]; omega)) (M.o_grd (decide_eq_true (by simp only [List.length_cons,List.length_nil]; omega)) (M.o_bind (b9_out i) ?_))
    rintro _ rfl
    exact M.o_pure rfl
  · rintro _ rfl
    simp only [zbP]
    exact M.o_f (by decide) (M.o_pure rfl)
theorem b12_out {k:Nat} (hk:k<3000):(M.iter (zb9 k) (0,[])).Out (fun _=>True):=by
  refine M.o_for (1+k % 5) (fun i (s:Nat × List Line)=>s.1=i/\s.2.length=i) ?_ ?_ ⟨rfl,rfl⟩
  · rintro _ ⟨i,l⟩ hi ⟨rfl,hl⟩
    dsimp only at hl hi ⊢
    simp only [zb9]
    have q0:0<=(i:Int)*(i:Int):=Int.mul_nonneg (by omega) (by omega)
    have q1:(i:Int)*(i:Int)<=5*5:=Int.mul_le_mul (by omega) (by omega) (by omega) (by omega)
    have d1:0<=(k:Int) / ((i:Int)+2):=Int.ediv_nonneg (by omega) (by omega)
    have d2:0<=(k:Int) / (2*(i:Int)+3):=Int.ediv_nonneg (by omega) (by omega)
    have d3:0<=(k:Int) / ((i:Int)+5):=Int.ediv_nonneg (by omega) (by omega)
    have e1:=Int.emod_nonneg ((k:Int) / 3+(i:Int)*(i:Int)) (show (2+(k:Int) % 3) ≠ 0 by omega)
    have e2:=Int.emod_lt_of_pos ((k:Int) / 3+(i:Int)*(i:Int)) (show 0<2+(k:Int) % 3 by omega)
    have e3:=Int.emod_nonneg ((k:Int) / 7+(i:Int)) (show (2+(k:Int) % 3-1) ≠ 0 by omega)
    have e4:=Int.emod_lt_of_pos ((k:Int) / 7+(i:Int)) (show 0<2+(k:Int) % 3-1 by omega)
    refine M.o_t (decide_eq_true (by omega)) (M.o_grd (gA3 (by omega) (by omega) (by omega)) (M.o_grd (gA2 (by omega) (by omega)) (M.o_grd (gA2 (by omega) (by omega)) (M.o_grd (gA2 (by omega) (by omega)) (M.o_grd (gA2 (by omega) (by omega)) (M.o_grd (gA2 (by omega) (by omega)) (M.o_grd (gA2 (by omega) (by omega)) ?_)))))))
    refine M.o_grd (gA3 (by omega) (by omega) (by omega)) (M.o_grd (gA2 (by omega) (by omega)) (M.o_grd (gA2 (by omega) (by omega)) (M.o_grd (gA2 (by omega) (by omega)) (M.o_grd (gA3 (by omega) (by omega) (by omega)) (M.o_grd (gA2 (by omega) (by omega)) (M.o_grd (gA2 (by omega) (by omega)) ?_))))))
    refine M.o_grd (gA2 (by omega) (by omega)) (M.o_grd (gA3 (by omega) (by omega) (by omega)) (M.o_grd (gA2 (by omega) (by omega)) (M.o_grd (gA2 (by omega) (by omega)) (M.o_grd (gA2 (by omega) (by omega)) (M.o_grd (gA2 (by omega) (by omega)) (M.o_grd (gA2 (by omega) (by omega)) ?_))))))
    exact M.o_grd (decide_eq_true (by simp; omega)) (M.o_grd (gA2 (by omega) (by omega)) (M.o_pure ⟨rfl,by simp [hl]⟩))
  · rintro ⟨_,l⟩ ⟨rfl,hl⟩
    simp only [zb9]
    exact M.o_f (decide_eq_false (by omega)) (M.o_pure trivial)
theorem b13_out:(M.iter zbJ 0).Out (fun r=>r = .inr ()):=by
  refine M.o_for 3000 (fun i k=>k=i) ?_ ?_ rfl
  · rintro _ k hk rfl
    unfold zbJ
    refine M.o_t (decide_eq_true (by omega)) (M.o_grd (gA2 (by omega) (by omega)) (M.o_grd (gA2 (by omega) (by omega)) (M.o_grd (gA2 (by omega) (by omega)) (M.o_bind (b12_out hk) ?_))))
    rintro ⟨_,l⟩ _
    dsimp only
    refine M.o_grd (gA3 (by omega) (by omega) (by omega)) (M.o_grd (gA2 (by omega) (by omega)) (M.o_grd (gA2 (by omega) (by omega)) (M.o_grd (gA2 (by omega) (by omega)) (M.o_grd (gA2 (by omega) (by omega)) (M.o_grd (gA2 (by omega) (by omega)) (M.o_grd (gA2 (by omega) (by omega)) ?_))))))
    refine M.o_grd (gA2 (by omega) (by simp only [List.length_cons,List.length_nil]; omega)) (M.o_grd (gA2 (by omega) (by omega)) (M.o_grd (gA2 (by omega) (by omega)) (M.o_grd (gA2 (by omega) (by omega)) (M.o_grd (gA2 (by omega) (by omega)) (M.o_grd (gA2 (by omega) (by simp only [List.length_cons,List.length_nil]; omega)) ?_)))))
    refine M.o_bindE (zcH _ _ _) (M.o_grd ?_ (M.o_grd ?_ (M.o_bind (P:=fun z=>z=true) (M.o_opt (fun _=>⟨true,zcy _ _ _ _ _,rfl⟩) (fun h=>by simp at h)) ?_)))
    · rw [gA2 (by omega) (by omega)]; rfl
    · rw [gA2 (by omega) (by omega)]; rfl
    rintro _ rfl
    refine M.o_grd ?_ (M.o_bind (P:=fun z=>z=true) (M.o_opt (fun _=>⟨true,zcB _ _ _,rfl⟩) (fun h=>by simp at h)) ?_)
    · rw [gA2 (by omega) (by omega)]; rfl
    rintro _ rfl
    exact M.o_f rfl (M.o_pure rfl)
  · rintro _ rfl
    unfold zbJ
    exact M.o_f (by decide) (M.o_pure rfl)
/-- As many lines as there may be, and more. -/
def lst (k:Nat):List Line:=(List.range k).map fun i:Nat=>(⟨(i:Int) % max 1 (min (k:Int) 14),((i:Int)+1) % max 1 (min (k:Int) 14),i,1000000,10000⟩:Line)
theorem b17_out {k:Nat} (hk:k<33):(M.iter (zb2 k) (0,[])).Out (fun z=>z=(lst k,lst k)):=by
  refine M.o_for k (fun i (s:Nat × List Line)=>s=(i,(List.range i).map fun i:Nat=>(⟨(i:Int) % max 1 (min (k:Int) 14),((i:Int)+1) % max 1 (min (k:Int) 14),i,1000000,10000⟩:Line))) ?_ ?_ rfl
  · rintro _ i hi rfl
    simp only [zb2]
    refine M.o_t (decide_eq_true (by omega)) (M.o_grd (gA2 (by omega) (by omega)) (M.o_grd (gA2 (by omega) (by omega)) (M.o_grd (gA2 (by omega) (by omega)) (M.o_grd (decide_eq_true (by simp; omega)) (M.o_pure ?_)))))
    rw [List.range_succ,List.map_append]
    rfl
  · rintro _ rfl
    simp only [zb2]
    exact M.o_f (decide_eq_false (by omega)) (M.o_pure rfl)
theorem b18_out {k:Nat} (hk:k<33):(M.iter (zbG k) (List.replicate (Int.toNat (2*(k:Int))) (default:Leg),0)).Out (fun _=>True):=by
  refine M.o_for (2*k) (fun i (s:List Leg × Nat)=>s.2=i/\s.1.length=2*k) ?_ ?_ ⟨rfl,by simp; omega⟩
  · rintro _ ⟨l,i⟩ hi ⟨rfl,hl⟩
    dsimp only at hl hi ⊢
    simp only [zbG]
    exact M.o_t (decide_eq_true (by simp; omega)) (M.o_grd (gA2 (by omega) (by omega)) (M.o_grd (decide_eq_true (by omega)) (M.o_pure ⟨rfl,by simp [hl]⟩)))
  · rintro ⟨l,_⟩ ⟨rfl,hl⟩
    simp only [zbG]
    exact M.o_f (decide_eq_false (by simp; omega)) (M.o_pure trivial)
theorem b19_out {k:Nat} (hk:k<33):(M.iter (zc1 k) (List.replicate (Int.toNat (2*(k:Int))) (default:Leg),0)).Out (fun _=>True):=b18_out hk
theorem chk_all:∀ k:Nat,k<33->(((chkE (min (k:Int) 14) (bif decide ((min (k:Int) 14)<2) then [] else lst k))==0) != (decide (0<(k:Int))&&decide ((k:Int)<13)))=false:=by
  decide +kernel
theorem b20_out:(M.iter zbx 0).Out (fun r=>r = .inr ()):=by
  refine M.o_for 33 (fun i k=>k=i) ?_ ?_ rfl
  · rintro _ k hk rfl
    have hc:=chk_all k hk
    simp only [zbx]
    refine M.o_t (decide_eq_true (by omega)) (M.o_bind (b17_out hk) ?_)
    rintro _ rfl
    dsimp only
    refine M.o_if (fun h2=>?_) (fun h2=>?_)
    · rw [h2,cond_true] at hc
      refine M.o_grd (gA2 (by omega) (by omega)) (M.o_grd (gA3 (by omega) (by omega) (by omega)) (M.o_bind (b18_out hk) ?_))
      rintro ⟨_,l⟩ _
      refine M.o_grd (gA3 (by omega) (by omega) (by omega)) (M.o_bindE (zcH _ _ _) (M.o_grd ?_ (M.o_bind (P:=fun z=>z=true) (M.o_opt (fun _=>⟨true,zcy _ _ _ _ _,rfl⟩) (fun h=>by simp at h)) ?_)))
      · rw [gA2 (by omega) (by omega)]; rfl
      rintro _ rfl
      refine M.o_bind (P:=fun z=>z=true) (M.o_opt (fun _=>⟨true,zcB _ _ _,rfl⟩) (fun h=>by simp at h)) ?_
      rintro _ rfl
      exact M.o_f rfl (M.o_bindE (check_ends _ _) (M.o_f hc (M.o_pure rfl)))
    · rw [h2,cond_false] at hc
      refine M.o_grd (gA2 (by omega) (by omega)) (M.o_grd (gA3 (by omega) (by omega) (by omega)) (M.o_bind (b19_out hk) ?_))
      rintro ⟨_,l⟩ _
      refine M.o_grd (gA3 (by omega) (by omega) (by omega)) (M.o_bindE (zcH _ _ _) (M.o_grd ?_ (M.o_bind (P:=fun z=>z=true) (M.o_opt (fun _=>⟨true,zcy _ _ _ _ _,rfl⟩) (fun h=>by simp at h)) ?_)))
      · rw [gA2 (by omega) (by omega)]; rfl
      rintro _ rfl
      refine M.o_bind (P:=fun z=>z=true) (M.o_opt (fun _=>⟨true,zcB _ _ _,rfl⟩) (fun h=>by simp at h)) ?_
      rintro _ rfl
      exact M.o_f rfl (M.o_bindE (check_ends _ _) (M.o_f hc (M.o_pure rfl)))
  · rintro _ rfl
    simp only [zbx]
    exact M.o_f (by decide) (M.o_pure rfl)
/-- The greatest heights that there can be. -/
def lng:List Line:=(List.range 11).map fun i:Nat=>(⟨(i:Int),(i:Int)+1,0,1000000,10000⟩:Line)
theorem b21_ends:(M.iter zc3 (0,[])).Ends (lng,lng):=⟨60,by kernel_rfl⟩
theorem long_between:(zaj 12 lng 0 11).Ends (10890000,11110000,0):=⟨400,by kernel_rfl⟩
theorem long_part:(zba 12 lng ⟨0,1⟩).Ends (0,[],3):=⟨400,by kernel_rfl⟩
theorem zdR:zcA.Ends true:=by
  suffices zcA.Out (fun x=>x=true) by
    obtain ⟨_,h,rfl⟩:=this
    exact h
  unfold zcA
  refine M.o_bind b10_out ?_
  rintro _ rfl
  refine M.o_bind b13_out ?_
  rintro _ rfl
  refine M.o_bind b20_out ?_
  rintro _ rfl
  refine M.o_bindE b21_ends (M.o_bindE long_between (M.o_bindE long_part ?_))
  dsimp only
  refine M.o_bind (P:=fun z=>z=true) (M.o_opt (fun _=>⟨true,awake_ends,rfl⟩) (fun h=>by simp at h)) ?_
  rintro _ rfl
  exact M.o_pure rfl
end Go.Proofs.YtfdgkdkfbaghpaaGreat
