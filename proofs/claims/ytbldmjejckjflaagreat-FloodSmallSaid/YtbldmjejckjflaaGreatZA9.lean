/- Part 9 of the texts on which the proof rests. Conditions: none. -/
import Derived.Test.YtbldmjejckjflaaGreatZA7
set_option linter.unusedVariables false
set_option linter.unusedSimpArgs false
set_option linter.unusedSectionVars false
namespace Go.Proofs.YtbldmjejckjflaaGreat
open Go Go.Nm
def k9 (k:Nat):Bool:=(List.range 25).all fun j=>decide ((a_nilometerlaw06_FloodSmall_b9 (25*k+j)).run 600=some (.inl (25*k+j+1)))
theorem e9_0:k9 0=true:=by decide +kernel
theorem e9_1:k9 1=true:=by decide +kernel
theorem e9_2:k9 2=true:=by decide +kernel
theorem e9_3:k9 3=true:=by decide +kernel
theorem e9_4:k9 4=true:=by decide +kernel
theorem e9_5:k9 5=true:=by decide +kernel
theorem e9_6:k9 6=true:=by decide +kernel
theorem e9_7:k9 7=true:=by decide +kernel
theorem e9_8:k9 8=true:=by decide +kernel
theorem e9_9:k9 9=true:=by decide +kernel
theorem e9_10:k9 10=true:=by decide +kernel
theorem e9_11:k9 11=true:=by decide +kernel
theorem e9_12:k9 12=true:=by decide +kernel
theorem e9_13:k9 13=true:=by decide +kernel
theorem e9_14:k9 14=true:=by decide +kernel
theorem e9_15:k9 15=true:=by decide +kernel
theorem e9_16:k9 16=true:=by decide +kernel
theorem e9_17:k9 17=true:=by decide +kernel
theorem e9_18:k9 18=true:=by decide +kernel
theorem e9_19:k9 19=true:=by decide +kernel
theorem e9_20:k9 20=true:=by decide +kernel
theorem e9_21:k9 21=true:=by decide +kernel
theorem e9_22:k9 22=true:=by decide +kernel
theorem e9_23:k9 23=true:=by decide +kernel
theorem e9_24:k9 24=true:=by decide +kernel
theorem e9_25:k9 25=true:=by decide +kernel
theorem e9_26:k9 26=true:=by decide +kernel
theorem e9_27:k9 27=true:=by decide +kernel
theorem e9_28:k9 28=true:=by decide +kernel
theorem e9_29:k9 29=true:=by decide +kernel
end Go.Proofs.YtbldmjejckjflaaGreat
