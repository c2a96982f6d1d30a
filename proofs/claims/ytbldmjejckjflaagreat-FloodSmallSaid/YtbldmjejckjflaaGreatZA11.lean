/- Part 11 of the texts on which the proof rests. Conditions: none. -/
import Derived.Test.YtbldmjejckjflaaGreatZA9
set_option linter.unusedVariables false
set_option linter.unusedSimpArgs false
set_option linter.unusedSectionVars false
namespace Go.Proofs.YtbldmjejckjflaaGreat
open Go Go.Nm
theorem e9_60:k9 60=true:=by decide +kernel
theorem e9_61:k9 61=true:=by decide +kernel
theorem e9_62:k9 62=true:=by decide +kernel
theorem e9_63:k9 63=true:=by decide +kernel
theorem e9_64:k9 64=true:=by decide +kernel
theorem e9_65:k9 65=true:=by decide +kernel
theorem e9_66:k9 66=true:=by decide +kernel
theorem e9_67:k9 67=true:=by decide +kernel
theorem e9_68:k9 68=true:=by decide +kernel
theorem e9_69:k9 69=true:=by decide +kernel
theorem e9_70:k9 70=true:=by decide +kernel
theorem e9_71:k9 71=true:=by decide +kernel
theorem e9_72:k9 72=true:=by decide +kernel
theorem e9_73:k9 73=true:=by decide +kernel
theorem e9_74:k9 74=true:=by decide +kernel
theorem e9_75:k9 75=true:=by decide +kernel
theorem e9_76:k9 76=true:=by decide +kernel
theorem e9_77:k9 77=true:=by decide +kernel
theorem e9_78:k9 78=true:=by decide +kernel
theorem e9_79:k9 79=true:=by decide +kernel
theorem e9_80:k9 80=true:=by decide +kernel
theorem e9_81:k9 81=true:=by decide +kernel
theorem e9_82:k9 82=true:=by decide +kernel
theorem e9_83:k9 83=true:=by decide +kernel
theorem e9_84:k9 84=true:=by decide +kernel
theorem e9_85:k9 85=true:=by decide +kernel
theorem e9_86:k9 86=true:=by decide +kernel
theorem e9_87:k9 87=true:=by decide +kernel
theorem e9_88:k9 88=true:=by decide +kernel
theorem e9_89:k9 89=true:=by decide +kernel
end Go.Proofs.YtbldmjejckjflaaGreat
