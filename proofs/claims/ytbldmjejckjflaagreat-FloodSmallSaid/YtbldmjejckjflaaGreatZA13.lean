/- Part 13 of the texts on which the proof rests. Conditions: none. -/
import Derived.Test.YtbldmjejckjflaaGreatZA7
import Derived.Test.YtbldmjejckjflaaGreatZA9
import Derived.Test.YtbldmjejckjflaaGreatZA10
import Derived.Test.YtbldmjejckjflaaGreatZA11
import Derived.Test.YtbldmjejckjflaaGreatZA12
set_option linter.unusedVariables false
set_option linter.unusedSimpArgs false
set_option linter.unusedSectionVars false
namespace Go.Proofs.YtbldmjejckjflaaGreat
open Go Go.Nm
theorem e9:∀ i,i<120->k9 i=true
  | 0,_=>e9_0
  | 1,_=>e9_1
  | 2,_=>e9_2
  | 3,_=>e9_3
  | 4,_=>e9_4
  | 5,_=>e9_5
  | 6,_=>e9_6
  | 7,_=>e9_7
  | 8,_=>e9_8
  | 9,_=>e9_9
  | 10,_=>e9_10
  | 11,_=>e9_11
  | 12,_=>e9_12
  | 13,_=>e9_13
  | 14,_=>e9_14
  | 15,_=>e9_15
  | 16,_=>e9_16
  | 17,_=>e9_17
  | 18,_=>e9_18
  | 19,_=>e9_19
  | 20,_=>e9_20
  | 21,_=>e9_21
  | 22,_=>e9_22
  | 23,_=>e9_23
  | 24,_=>e9_24
  | 25,_=>e9_25
  | 26,_=>e9_26
  | 27,_=>e9_27
  | 28,_=>e9_28
  | 29,_=>e9_29
  | 30,_=>e9_30
  | 31,_=>e9_31
  | 32,_=>e9_32
  | 33,_=>e9_33
  | 34,_=>e9_34
  | 35,_=>e9_35
  | 36,_=>e9_36
  | 37,_=>e9_37
  | 38,_=>e9_38
  | 39,_=>e9_39
  | 40,_=>e9_40
  | 41,_=>e9_41
  | 42,_=>e9_42
  | 43,_=>e9_43
  | 44,_=>e9_44
  | 45,_=>e9_45
  | 46,_=>e9_46
  | 47,_=>e9_47
  | 48,_=>e9_48
  | 49,_=>e9_49
  | 50,_=>e9_50
  | 51,_=>e9_51
  | 52,_=>e9_52
  | 53,_=>e9_53
  | 54,_=>e9_54
  | 55,_=>e9_55
  | 56,_=>e9_56
  | 57,_=>e9_57
  | 58,_=>e9_58
  | 59,_=>e9_59
  | 60,_=>e9_60
  | 61,_=>e9_61
  | 62,_=>e9_62
  | 63,_=>e9_63
  | 64,_=>e9_64
  | 65,_=>e9_65
  | 66,_=>e9_66
  | 67,_=>e9_67
  | 68,_=>e9_68
  | 69,_=>e9_69
  | 70,_=>e9_70
  | 71,_=>e9_71
  | 72,_=>e9_72
  | 73,_=>e9_73
  | 74,_=>e9_74
  | 75,_=>e9_75
  | 76,_=>e9_76
  | 77,_=>e9_77
  | 78,_=>e9_78
  | 79,_=>e9_79
  | 80,_=>e9_80
  | 81,_=>e9_81
  | 82,_=>e9_82
  | 83,_=>e9_83
  | 84,_=>e9_84
  | 85,_=>e9_85
  | 86,_=>e9_86
  | 87,_=>e9_87
  | 88,_=>e9_88
  | 89,_=>e9_89
  | 90,_=>e9_90
  | 91,_=>e9_91
  | 92,_=>e9_92
  | 93,_=>e9_93
  | 94,_=>e9_94
  | 95,_=>e9_95
  | 96,_=>e9_96
  | 97,_=>e9_97
  | 98,_=>e9_98
  | 99,_=>e9_99
  | 100,_=>e9_100
  | 101,_=>e9_101
  | 102,_=>e9_102
  | 103,_=>e9_103
  | 104,_=>e9_104
  | 105,_=>e9_105
  | 106,_=>e9_106
  | 107,_=>e9_107
  | 108,_=>e9_108
  | 109,_=>e9_109
  | 110,_=>e9_110
  | 111,_=>e9_111
  | 112,_=>e9_112
  | 113,_=>e9_113
  | 114,_=>e9_114
  | 115,_=>e9_115
  | 116,_=>e9_116
  | 117,_=>e9_117
  | 118,_=>e9_118
  | 119,_=>e9_119
  | _+120,h=>absurd h (by omega)
def k16 (i:Nat):Bool:=decide ((a_nilometerlaw06_FloodSmall_b16 i).run 3000=some (.inl (i+1)))
theorem e16_0:k16 0=true:=by decide +kernel
theorem e16_1:k16 1=true:=by decide +kernel
theorem e16_2:k16 2=true:=by decide +kernel
theorem e16_3:k16 3=true:=by decide +kernel
theorem e16_4:k16 4=true:=by decide +kernel
theorem e16_5:k16 5=true:=by decide +kernel
theorem e16_6:k16 6=true:=by decide +kernel
theorem e16_7:k16 7=true:=by decide +kernel
theorem e16_8:k16 8=true:=by decide +kernel
theorem e16_9:k16 9=true:=by decide +kernel
theorem e16_10:k16 10=true:=by decide +kernel
theorem e16_11:k16 11=true:=by decide +kernel
theorem e16_12:k16 12=true:=by decide +kernel
theorem e16_13:k16 13=true:=by decide +kernel
theorem e16_14:k16 14=true:=by decide +kernel
theorem e16_15:k16 15=true:=by decide +kernel
theorem e16_16:k16 16=true:=by decide +kernel
theorem e16_17:k16 17=true:=by decide +kernel
theorem e16_18:k16 18=true:=by decide +kernel
theorem e16:∀ i,i<19->k16 i=true
  | 0,_=>e16_0
  | 1,_=>e16_1
  | 2,_=>e16_2
  | 3,_=>e16_3
  | 4,_=>e16_4
  | 5,_=>e16_5
  | 6,_=>e16_6
  | 7,_=>e16_7
  | 8,_=>e16_8
  | 9,_=>e16_9
  | 10,_=>e16_10
  | 11,_=>e16_11
  | 12,_=>e16_12
  | 13,_=>e16_13
  | 14,_=>e16_14
  | 15,_=>e16_15
  | 16,_=>e16_16
  | 17,_=>e16_17
  | 18,_=>e16_18
  | _+19,h=>absurd h (by omega)
end Go.Proofs.YtbldmjejckjflaaGreat
