/- Part 11 of the texts on which the proof rests. Conditions: none. -/
import Derived.Test.YtbldmjejckjflabGreatZA10
set_option linter.unusedVariables false
set_option linter.unusedSimpArgs false
set_option linter.unusedSectionVars false
namespace Go.Proofs.YtbldmjejckjflabGreat
open Go Go.Nm
theorem e15_45:k15 45=true:=by decide +kernel
theorem e15_46:k15 46=true:=by decide +kernel
theorem e15_47:k15 47=true:=by decide +kernel
theorem e15_48:k15 48=true:=by decide +kernel
theorem e15_49:k15 49=true:=by decide +kernel
theorem e15_50:k15 50=true:=by decide +kernel
theorem e15_51:k15 51=true:=by decide +kernel
theorem e15_52:k15 52=true:=by decide +kernel
theorem e15_53:k15 53=true:=by decide +kernel
theorem e15_54:k15 54=true:=by decide +kernel
theorem e15_55:k15 55=true:=by decide +kernel
theorem e15_56:k15 56=true:=by decide +kernel
theorem e15_57:k15 57=true:=by decide +kernel
theorem e15_58:k15 58=true:=by decide +kernel
theorem e15_59:k15 59=true:=by decide +kernel
end Go.Proofs.YtbldmjejckjflabGreat
