/- Part 13 of the texts on which the proof rests. Conditions: none. -/
import Derived.Test.YtbldmjejckjflabGreatZA12
set_option linter.unusedVariables false
set_option linter.unusedSimpArgs false
set_option linter.unusedSectionVars false
namespace Go.Proofs.YtbldmjejckjflabGreat
open Go Go.Nm
theorem e15_75:k15 75=true:=by decide +kernel
theorem e15_76:k15 76=true:=by decide +kernel
theorem e15_77:k15 77=true:=by decide +kernel
theorem e15_78:k15 78=true:=by decide +kernel
theorem e15_79:k15 79=true:=by decide +kernel
theorem e15_80:k15 80=true:=by decide +kernel
theorem e15_81:k15 81=true:=by decide +kernel
theorem e15_82:k15 82=true:=by decide +kernel
theorem e15_83:k15 83=true:=by decide +kernel
theorem e15_84:k15 84=true:=by decide +kernel
theorem e15_85:k15 85=true:=by decide +kernel
theorem e15_86:k15 86=true:=by decide +kernel
theorem e15_87:k15 87=true:=by decide +kernel
theorem e15_88:k15 88=true:=by decide +kernel
theorem e15_89:k15 89=true:=by decide +kernel
end Go.Proofs.YtbldmjejckjflabGreat
