/- Part 8 of the texts on which the proof rests. Conditions: none. -/
import Derived.Test.YtbldmjejckjflaaGreatZA7
set_option linter.unusedVariables false
set_option linter.unusedSimpArgs false
set_option linter.unusedSectionVars false
namespace Go.Proofs.YtbldmjejckjflaaGreat
open Go Go.Nm
def k5 (i:Nat):Bool:=(List.range 30).all fun j=>decide ((a_nilometerlaw06_FloodSmall_b5 i j).run 600=some (.inl (j+1)))
theorem e5_0:k5 0=true:=by decide +kernel
theorem e5_1:k5 1=true:=by decide +kernel
theorem e5_2:k5 2=true:=by decide +kernel
theorem e5_3:k5 3=true:=by decide +kernel
theorem e5_4:k5 4=true:=by decide +kernel
theorem e5_5:k5 5=true:=by decide +kernel
theorem e5_6:k5 6=true:=by decide +kernel
theorem e5_7:k5 7=true:=by decide +kernel
theorem e5_8:k5 8=true:=by decide +kernel
theorem e5_9:k5 9=true:=by decide +kernel
theorem e5_10:k5 10=true:=by decide +kernel
theorem e5_11:k5 11=true:=by decide +kernel
theorem e5_12:k5 12=true:=by decide +kernel
theorem e5_13:k5 13=true:=by decide +kernel
theorem e5_14:k5 14=true:=by decide +kernel
theorem e5_15:k5 15=true:=by decide +kernel
theorem e5_16:k5 16=true:=by decide +kernel
theorem e5_17:k5 17=true:=by decide +kernel
theorem e5_18:k5 18=true:=by decide +kernel
theorem e5_19:k5 19=true:=by decide +kernel
theorem e5_20:k5 20=true:=by decide +kernel
theorem e5_21:k5 21=true:=by decide +kernel
theorem e5_22:k5 22=true:=by decide +kernel
theorem e5_23:k5 23=true:=by decide +kernel
theorem e5_24:k5 24=true:=by decide +kernel
theorem e5_25:k5 25=true:=by decide +kernel
theorem e5_26:k5 26=true:=by decide +kernel
theorem e5_27:k5 27=true:=by decide +kernel
theorem e5_28:k5 28=true:=by decide +kernel
theorem e5_29:k5 29=true:=by decide +kernel
theorem e5_30:k5 30=true:=by decide +kernel
theorem e5_31:k5 31=true:=by decide +kernel
theorem e5_32:k5 32=true:=by decide +kernel
theorem e5_33:k5 33=true:=by decide +kernel
theorem e5:∀ i,i<34->k5 i=true
  | 0,_=>e5_0
  | 1,_=>e5_1
  | 2,_=>e5_2
  | 3,_=>e5_3
  | 4,_=>e5_4
  | 5,_=>e5_5
  | 6,_=>e5_6
  | 7,_=>e5_7
  | 8,_=>e5_8
  | 9,_=>e5_9
  | 10,_=>e5_10
  | 11,_=>e5_11
  | 12,_=>e5_12
  | 13,_=>e5_13
  | 14,_=>e5_14
  | 15,_=>e5_15
  | 16,_=>e5_16
  | 17,_=>e5_17
  | 18,_=>e5_18
  | 19,_=>e5_19
  | 20,_=>e5_20
  | 21,_=>e5_21
  | 22,_=>e5_22
  | 23,_=>e5_23
  | 24,_=>e5_24
  | 25,_=>e5_25
  | 26,_=>e5_26
  | 27,_=>e5_27
  | 28,_=>e5_28
  | 29,_=>e5_29
  | 30,_=>e5_30
  | 31,_=>e5_31
  | 32,_=>e5_32
  | 33,_=>e5_33
  | _+34,h=>absurd h (by omega)
end Go.Proofs.YtbldmjejckjflaaGreat
