/- Part 8 of the texts on which the proof rests. Conditions: none. -/
import Derived.Test.YtkclldpnmolljaaGreatZA7
set_option linter.unusedVariables false
set_option linter.unusedSimpArgs false
set_option linter.unusedSectionVars false
namespace Go.Proofs.YtkclldpnmolljaaGreat
open Go Go.Nm
theorem e17_20:k17 20=true:=by decide +kernel
theorem e17_21:k17 21=true:=by decide +kernel
theorem e17_22:k17 22=true:=by decide +kernel
theorem e17_23:k17 23=true:=by decide +kernel
theorem e17_24:k17 24=true:=by decide +kernel
theorem e17_25:k17 25=true:=by decide +kernel
theorem e17_26:k17 26=true:=by decide +kernel
theorem e17_27:k17 27=true:=by decide +kernel
theorem e17_28:k17 28=true:=by decide +kernel
theorem e17_29:k17 29=true:=by decide +kernel
theorem e17_30:k17 30=true:=by decide +kernel
theorem e17_31:k17 31=true:=by decide +kernel
theorem e17_32:k17 32=true:=by decide +kernel
theorem e17_33:k17 33=true:=by decide +kernel
theorem e17_34:k17 34=true:=by decide +kernel
theorem e17_35:k17 35=true:=by decide +kernel
theorem e17_36:k17 36=true:=by decide +kernel
theorem e17_37:k17 37=true:=by decide +kernel
theorem e17_38:k17 38=true:=by decide +kernel
theorem e17_39:k17 39=true:=by decide +kernel
end Go.Proofs.YtkclldpnmolljaaGreat
