/- Part 12 of the texts on which the proof rests. Conditions: none. -/
import Derived.Test.YtbldmjejckjflaaGreatZA9
set_option linter.unusedVariables false
set_option linter.unusedSimpArgs false
set_option linter.unusedSectionVars false
namespace Go.Proofs.YtbldmjejckjflaaGreat
open Go Go.Nm
theorem e9_90:k9 90=true:=by decide +kernel
theorem e9_91:k9 91=true:=by decide +kernel
theorem e9_92:k9 92=true:=by decide +kernel
theorem e9_93:k9 93=true:=by decide +kernel
theorem e9_94:k9 94=true:=by decide +kernel
theorem e9_95:k9 95=true:=by decide +kernel
theorem e9_96:k9 96=true:=by decide +kernel
theorem e9_97:k9 97=true:=by decide +kernel
theorem e9_98:k9 98=true:=by decide +kernel
theorem e9_99:k9 99=true:=by decide +kernel
theorem e9_100:k9 100=true:=by decide +kernel
theorem e9_101:k9 101=true:=by decide +kernel
theorem e9_102:k9 102=true:=by decide +kernel
theorem e9_103:k9 103=true:=by decide +kernel
theorem e9_104:k9 104=true:=by decide +kernel
theorem e9_105:k9 105=true:=by decide +kernel
theorem e9_106:k9 106=true:=by decide +kernel
theorem e9_107:k9 107=true:=by decide +kernel
theorem e9_108:k9 108=true:=by decide +kernel
theorem e9_109:k9 109=true:=by decide +kernel
theorem e9_110:k9 110=true:=by decide +kernel
theorem e9_111:k9 111=true:=by decide +kernel
theorem e9_112:k9 112=true:=by decide +kernel
theorem e9_113:k9 113=true:=by decide +kernel
theorem e9_114:k9 114=true:=by decide +kernel
theorem e9_115:k9 115=true:=by decide +kernel
theorem e9_116:k9 116=true:=by decide +kernel
theorem e9_117:k9 117=true:=by decide +kernel
theorem e9_118:k9 118=true:=by decide +kernel
theorem e9_119:k9 119=true:=by decide +kernel
end Go.Proofs.YtbldmjejckjflaaGreat
