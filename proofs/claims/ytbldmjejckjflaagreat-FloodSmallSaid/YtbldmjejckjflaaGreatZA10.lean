/- Part 10 of the texts on which the proof rests. Conditions: none. -/
import Derived.Test.YtbldmjejckjflaaGreatZA9
set_option linter.unusedVariables false
set_option linter.unusedSimpArgs false
set_option linter.unusedSectionVars false
namespace Go.Proofs.YtbldmjejckjflaaGreat
open Go Go.Nm
theorem e9_30:k9 30=true:=by decide +kernel
theorem e9_31:k9 31=true:=by decide +kernel
theorem e9_32:k9 32=true:=by decide +kernel
theorem e9_33:k9 33=true:=by decide +kernel
theorem e9_34:k9 34=true:=by decide +kernel
theorem e9_35:k9 35=true:=by decide +kernel
theorem e9_36:k9 36=true:=by decide +kernel
theorem e9_37:k9 37=true:=by decide +kernel
theorem e9_38:k9 38=true:=by decide +kernel
theorem e9_39:k9 39=true:=by decide +kernel
theorem e9_40:k9 40=true:=by decide +kernel
theorem e9_41:k9 41=true:=by decide +kernel
theorem e9_42:k9 42=true:=by decide +kernel
theorem e9_43:k9 43=true:=by decide +kernel
theorem e9_44:k9 44=true:=by decide +kernel
theorem e9_45:k9 45=true:=by decide +kernel
theorem e9_46:k9 46=true:=by decide +kernel
theorem e9_47:k9 47=true:=by decide +kernel
theorem e9_48:k9 48=true:=by decide +kernel
theorem e9_49:k9 49=true:=by decide +kernel
theorem e9_50:k9 50=true:=by decide +kernel
theorem e9_51:k9 51=true:=by decide +kernel
theorem e9_52:k9 52=true:=by decide +kernel
theorem e9_53:k9 53=true:=by decide +kernel
theorem e9_54:k9 54=true:=by decide +kernel
theorem e9_55:k9 55=true:=by decide +kernel
theorem e9_56:k9 56=true:=by decide +kernel
theorem e9_57:k9 57=true:=by decide +kernel
theorem e9_58:k9 58=true:=by decide +kernel
theorem e9_59:k9 59=true:=by decide +kernel
end Go.Proofs.YtbldmjejckjflaaGreat
