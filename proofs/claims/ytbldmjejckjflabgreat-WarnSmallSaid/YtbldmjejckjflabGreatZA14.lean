/- Part 14 of the texts on which the proof rests. Conditions: none. -/
import Derived.Test.YtbldmjejckjflabGreatZA13
set_option linter.unusedVariables false
set_option linter.unusedSimpArgs false
set_option linter.unusedSectionVars false
namespace Go.Proofs.YtbldmjejckjflabGreat
open Go Go.Nm
theorem e15_90:k15 90=true:=by decide +kernel
theorem e15_91:k15 91=true:=by decide +kernel
theorem e15_92:k15 92=true:=by decide +kernel
theorem e15_93:k15 93=true:=by decide +kernel
theorem e15_94:k15 94=true:=by decide +kernel
theorem e15_95:k15 95=true:=by decide +kernel
theorem e15_96:k15 96=true:=by decide +kernel
theorem e15_97:k15 97=true:=by decide +kernel
theorem e15_98:k15 98=true:=by decide +kernel
theorem e15_99:k15 99=true:=by decide +kernel
theorem e15_100:k15 100=true:=by decide +kernel
theorem e15_101:k15 101=true:=by decide +kernel
theorem e15_102:k15 102=true:=by decide +kernel
theorem e15_103:k15 103=true:=by decide +kernel
theorem e15_104:k15 104=true:=by decide +kernel
end Go.Proofs.YtbldmjejckjflabGreat
