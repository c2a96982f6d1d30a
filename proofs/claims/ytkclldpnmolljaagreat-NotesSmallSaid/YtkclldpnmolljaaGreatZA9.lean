/- Part 9 of the texts on which the proof rests. Conditions: none. -/
import Derived.Test.YtkclldpnmolljaaGreatZA8
set_option linter.unusedVariables false
set_option linter.unusedSimpArgs false
set_option linter.unusedSectionVars false
namespace Go.Proofs.YtkclldpnmolljaaGreat
open Go Go.Nm
theorem e17_40:k17 40=true:=by decide +kernel
theorem e17_41:k17 41=true:=by decide +kernel
theorem e17_42:k17 42=true:=by decide +kernel
theorem e17_43:k17 43=true:=by decide +kernel
theorem e17_44:k17 44=true:=by decide +kernel
theorem e17_45:k17 45=true:=by decide +kernel
theorem e17_46:k17 46=true:=by decide +kernel
theorem e17_47:k17 47=true:=by decide +kernel
theorem e17_48:k17 48=true:=by decide +kernel
theorem e17_49:k17 49=true:=by decide +kernel
theorem e17_50:k17 50=true:=by decide +kernel
theorem e17_51:k17 51=true:=by decide +kernel
theorem e17_52:k17 52=true:=by decide +kernel
theorem e17_53:k17 53=true:=by decide +kernel
theorem e17_54:k17 54=true:=by decide +kernel
theorem e17_55:k17 55=true:=by decide +kernel
theorem e17_56:k17 56=true:=by decide +kernel
theorem e17_57:k17 57=true:=by decide +kernel
theorem e17_58:k17 58=true:=by decide +kernel
theorem e17_59:k17 59=true:=by decide +kernel
theorem e17:∀ i,i<60->k17 i=true
  | 0,_=>e17_0
  | 1,_=>e17_1
  | 2,_=>e17_2
  | 3,_=>e17_3
  | 4,_=>e17_4
  | 5,_=>e17_5
  | 6,_=>e17_6
  | 7,_=>e17_7
  | 8,_=>e17_8
  | 9,_=>e17_9
  | 10,_=>e17_10
  | 11,_=>e17_11
  | 12,_=>e17_12
  | 13,_=>e17_13
  | 14,_=>e17_14
  | 15,_=>e17_15
  | 16,_=>e17_16
  | 17,_=>e17_17
  | 18,_=>e17_18
  | 19,_=>e17_19
  | 20,_=>e17_20
  | 21,_=>e17_21
  | 22,_=>e17_22
  | 23,_=>e17_23
  | 24,_=>e17_24
  | 25,_=>e17_25
  | 26,_=>e17_26
  | 27,_=>e17_27
  | 28,_=>e17_28
  | 29,_=>e17_29
  | 30,_=>e17_30
  | 31,_=>e17_31
  | 32,_=>e17_32
  | 33,_=>e17_33
  | 34,_=>e17_34
  | 35,_=>e17_35
  | 36,_=>e17_36
  | 37,_=>e17_37
  | 38,_=>e17_38
  | 39,_=>e17_39
  | 40,_=>e17_40
  | 41,_=>e17_41
  | 42,_=>e17_42
  | 43,_=>e17_43
  | 44,_=>e17_44
  | 45,_=>e17_45
  | 46,_=>e17_46
  | 47,_=>e17_47
  | 48,_=>e17_48
  | 49,_=>e17_49
  | 50,_=>e17_50
  | 51,_=>e17_51
  | 52,_=>e17_52
  | 53,_=>e17_53
  | 54,_=>e17_54
  | 55,_=>e17_55
  | 56,_=>e17_56
  | 57,_=>e17_57
  | 58,_=>e17_58
  | 59,_=>e17_59
  | _+60,h=>absurd h (by omega)
end Go.Proofs.YtkclldpnmolljaaGreat
