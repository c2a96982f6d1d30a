/- Part 9 of the texts on which the proof rests. Conditions: none. -/
import Derived.Test.YtbldmjejckjflabGreatZA8
set_option linter.unusedVariables false
set_option linter.unusedSimpArgs false
set_option linter.unusedSectionVars false
namespace Go.Proofs.YtbldmjejckjflabGreat
open Go Go.Nm
theorem e15_15:k15 15=true:=by decide +kernel
theorem e15_16:k15 16=true:=by decide +kernel
theorem e15_17:k15 17=true:=by decide +kernel
theorem e15_18:k15 18=true:=by decide +kernel
theorem e15_19:k15 19=true:=by decide +kernel
theorem e15_20:k15 20=true:=by decide +kernel
theorem e15_21:k15 21=true:=by decide +kernel
theorem e15_22:k15 22=true:=by decide +kernel
theorem e15_23:k15 23=true:=by decide +kernel
theorem e15_24:k15 24=true:=by decide +kernel
theorem e15_25:k15 25=true:=by decide +kernel
theorem e15_26:k15 26=true:=by decide +kernel
theorem e15_27:k15 27=true:=by decide +kernel
theorem e15_28:k15 28=true:=by decide +kernel
theorem e15_29:k15 29=true:=by decide +kernel
end Go.Proofs.YtbldmjejckjflabGreat
