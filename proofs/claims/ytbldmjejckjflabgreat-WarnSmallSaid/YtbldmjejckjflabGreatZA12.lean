/- Part 12 of the texts on which the proof rests. Conditions: none. -/
import Derived.Test.YtbldmjejckjflabGreatZA11
set_option linter.unusedVariables false
set_option linter.unusedSimpArgs false
set_option linter.unusedSectionVars false
namespace Go.Proofs.YtbldmjejckjflabGreat
open Go Go.Nm
theorem e15_60:k15 60=true:=by decide +kernel
theorem e15_61:k15 61=true:=by decide +kernel
theorem e15_62:k15 62=true:=by decide +kernel
theorem e15_63:k15 63=true:=by decide +kernel
theorem e15_64:k15 64=true:=by decide +kernel
theorem e15_65:k15 65=true:=by decide +kernel
theorem e15_66:k15 66=true:=by decide +kernel
theorem e15_67:k15 67=true:=by decide +kernel
theorem e15_68:k15 68=true:=by decide +kernel
theorem e15_69:k15 69=true:=by decide +kernel
theorem e15_70:k15 70=true:=by decide +kernel
theorem e15_71:k15 71=true:=by decide +kernel
theorem e15_72:k15 72=true:=by decide +kernel
theorem e15_73:k15 73=true:=by decide +kernel
theorem e15_74:k15 74=true:=by decide +kernel
end Go.Proofs.YtbldmjejckjflabGreat
