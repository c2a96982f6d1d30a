/- Part 7 of the texts on which the proof rests. Conditions: none. -/
import Derived.Test.YtkclldpnmolljaaGreatZA6
set_option linter.unusedVariables false
set_option linter.unusedSimpArgs false
set_option linter.unusedSectionVars false
namespace Go.Proofs.YtkclldpnmolljaaGreat
open Go Go.Nm
def k17 (k:Nat):Bool:=(List.range 25).all fun j=>decide ((zd5 (25*k+j)).run 600=some (.inl (25*k+j+1)))
theorem e17_0:k17 0=true:=by decide +kernel
theorem e17_1:k17 1=true:=by decide +kernel
theorem e17_2:k17 2=true:=by decide +kernel
theorem e17_3:k17 3=true:=by decide +kernel
theorem e17_4:k17 4=true:=by decide +kernel
theorem e17_5:k17 5=true:=by decide +kernel
theorem e17_6:k17 6=true:=by decide +kernel
theorem e17_7:k17 7=true:=by decide +kernel
theorem e17_8:k17 8=true:=by decide +kernel
theorem e17_9:k17 9=true:=by decide +kernel
theorem e17_10:k17 10=true:=by decide +kernel
theorem e17_11:k17 11=true:=by decide +kernel
theorem e17_12:k17 12=true:=by decide +kernel
theorem e17_13:k17 13=true:=by decide +kernel
theorem e17_14:k17 14=true:=by decide +kernel
theorem e17_15:k17 15=true:=by decide +kernel
theorem e17_16:k17 16=true:=by decide +kernel
theorem e17_17:k17 17=true:=by decide +kernel
theorem e17_18:k17 18=true:=by decide +kernel
theorem e17_19:k17 19=true:=by decide +kernel
end Go.Proofs.YtkclldpnmolljaaGreat
