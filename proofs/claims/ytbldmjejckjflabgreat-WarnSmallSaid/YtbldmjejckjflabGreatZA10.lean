/- Part 10 of the texts on which the proof rests. Conditions: none. -/
import Derived.Test.YtbldmjejckjflabGreatZA9
set_option linter.unusedVariables false
set_option linter.unusedSimpArgs false
set_option linter.unusedSectionVars false
namespace Go.Proofs.YtbldmjejckjflabGreat
open Go Go.Nm
theorem e15_30:k15 30=true:=by decide +kernel
theorem e15_31:k15 31=true:=by decide +kernel
theorem e15_32:k15 32=true:=by decide +kernel
theorem e15_33:k15 33=true:=by decide +kernel
theorem e15_34:k15 34=true:=by decide +kernel
theorem e15_35:k15 35=true:=by decide +kernel
theorem e15_36:k15 36=true:=by decide +kernel
theorem e15_37:k15 37=true:=by decide +kernel
theorem e15_38:k15 38=true:=by decide +kernel
theorem e15_39:k15 39=true:=by decide +kernel
theorem e15_40:k15 40=true:=by decide +kernel
theorem e15_41:k15 41=true:=by decide +kernel
theorem e15_42:k15 42=true:=by decide +kernel
theorem e15_43:k15 43=true:=by decide +kernel
theorem e15_44:k15 44=true:=by decide +kernel
end Go.Proofs.YtbldmjejckjflabGreat
