/- Part 8 of the texts on which the proof rests. Conditions: none. -/
import Derived.Test.YtbldmjejckjflabGreatZA7
set_option linter.unusedVariables false
set_option linter.unusedSimpArgs false
set_option linter.unusedSectionVars false
namespace Go.Proofs.YtbldmjejckjflabGreat
open Go Go.Nm
def k15 (k:Nat):Bool:=(List.range 25).all fun j=>decide ((zbN (25*k+j)).run 600=some (.inl (25*k+j+1)))
theorem e15_0:k15 0=true:=by decide +kernel
theorem e15_1:k15 1=true:=by decide +kernel
theorem e15_2:k15 2=true:=by decide +kernel
theorem e15_3:k15 3=true:=by decide +kernel
theorem e15_4:k15 4=true:=by decide +kernel
theorem e15_5:k15 5=true:=by decide +kernel
theorem e15_6:k15 6=true:=by decide +kernel
theorem e15_7:k15 7=true:=by decide +kernel
theorem e15_8:k15 8=true:=by decide +kernel
theorem e15_9:k15 9=true:=by decide +kernel
theorem e15_10:k15 10=true:=by decide +kernel
theorem e15_11:k15 11=true:=by decide +kernel
theorem e15_12:k15 12=true:=by decide +kernel
theorem e15_13:k15 13=true:=by decide +kernel
theorem e15_14:k15 14=true:=by decide +kernel
end Go.Proofs.YtbldmjejckjflabGreat
