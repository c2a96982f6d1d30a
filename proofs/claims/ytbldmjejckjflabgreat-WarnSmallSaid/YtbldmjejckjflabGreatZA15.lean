/- Part 15 of the texts on which the proof rests. Conditions: none. -/
import Derived.Test.YtbldmjejckjflabGreatZA14
set_option linter.unusedVariables false
set_option linter.unusedSimpArgs false
set_option linter.unusedSectionVars false
namespace Go.Proofs.YtbldmjejckjflabGreat
open Go Go.Nm
theorem e15_105:k15 105=true:=by decide +kernel
theorem e15_106:k15 106=true:=by decide +kernel
theorem e15_107:k15 107=true:=by decide +kernel
theorem e15_108:k15 108=true:=by decide +kernel
theorem e15_109:k15 109=true:=by decide +kernel
theorem e15_110:k15 110=true:=by decide +kernel
theorem e15_111:k15 111=true:=by decide +kernel
theorem e15_112:k15 112=true:=by decide +kernel
theorem e15_113:k15 113=true:=by decide +kernel
theorem e15_114:k15 114=true:=by decide +kernel
theorem e15_115:k15 115=true:=by decide +kernel
theorem e15_116:k15 116=true:=by decide +kernel
theorem e15_117:k15 117=true:=by decide +kernel
theorem e15_118:k15 118=true:=by decide +kernel
theorem e15_119:k15 119=true:=by decide +kernel
theorem e15:∀ i,i<120->k15 i=true
  | 0,_=>e15_0
  | 1,_=>e15_1
  | 2,_=>e15_2
  | 3,_=>e15_3
  | 4,_=>e15_4
  | 5,_=>e15_5
  | 6,_=>e15_6
  | 7,_=>e15_7
  | 8,_=>e15_8
  | 9,_=>e15_9
  | 10,_=>e15_10
  | 11,_=>e15_11
  | 12,_=>e15_12
  | 13,_=>e15_13
  | 14,_=>e15_14
  | 15,_=>e15_15
  | 16,_=>e15_16
  | 17,_=>e15_17
  | 18,_=>e15_18
  | 19,_=>e15_19
  | 20,_=>e15_20
  | 21,_=>e15_21
  | 22,_=>e15_22
  | 23,_=>e15_23
  | 24,_=>e15_24
  | 25,_=>e15_25
  | 26,_=>e15_26
  | 27,_=>e15_27
  | 28,_=>e15_28
  | 29,_=>e15_29
  | 30,_=>e15_30
  | 31,_=>e15_31
  | 32,_=>e15_32
  | 33,_=>e15_33
  | 34,_=>e15_34
  | 35,_=>e15_35
  | 36,_=>e15_36
  | 37,_=>e15_37
  | 38,_=>e15_38
  | 39,_=>e15_39
  | 40,_=>e15_40
  | 41,_=>e15_41
  | 42,_=>e15_42
  | 43,_=>e15_43
  | 44,_=>e15_44
  | 45,_=>e15_45
  | 46,_=>e15_46
  | 47,_=>e15_47
  | 48,_=>e15_48
  | 49,_=>e15_49
  | 50,_=>e15_50
  | 51,_=>e15_51
  | 52,_=>e15_52
  | 53,_=>e15_53
  | 54,_=>e15_54
  | 55,_=>e15_55
  | 56,_=>e15_56
  | 57,_=>e15_57
  | 58,_=>e15_58
  | 59,_=>e15_59
  | 60,_=>e15_60
  | 61,_=>e15_61
  | 62,_=>e15_62
  | 63,_=>e15_63
  | 64,_=>e15_64
  | 65,_=>e15_65
  | 66,_=>e15_66
  | 67,_=>e15_67
  | 68,_=>e15_68
  | 69,_=>e15_69
  | 70,_=>e15_70
  | 71,_=>e15_71
  | 72,_=>e15_72
  | 73,_=>e15_73
  | 74,_=>e15_74
  | 75,_=>e15_75
  | 76,_=>e15_76
  | 77,_=>e15_77
  | 78,_=>e15_78
  | 79,_=>e15_79
  | 80,_=>e15_80
  | 81,_=>e15_81
  | 82,_=>e15_82
  | 83,_=>e15_83
  | 84,_=>e15_84
  | 85,_=>e15_85
  | 86,_=>e15_86
  | 87,_=>e15_87
  | 88,_=>e15_88
  | 89,_=>e15_89
  | 90,_=>e15_90
  | 91,_=>e15_91
  | 92,_=>e15_92
  | 93,_=>e15_93
  | 94,_=>e15_94
  | 95,_=>e15_95
  | 96,_=>e15_96
  | 97,_=>e15_97
  | 98,_=>e15_98
  | 99,_=>e15_99
  | 100,_=>e15_100
  | 101,_=>e15_101
  | 102,_=>e15_102
  | 103,_=>e15_103
  | 104,_=>e15_104
  | 105,_=>e15_105
  | 106,_=>e15_106
  | 107,_=>e15_107
  | 108,_=>e15_108
  | 109,_=>e15_109
  | 110,_=>e15_110
  | 111,_=>e15_111
  | 112,_=>e15_112
  | 113,_=>e15_113
  | 114,_=>e15_114
  | 115,_=>e15_115
  | 116,_=>e15_116
  | 117,_=>e15_117
  | 118,_=>e15_118
  | 119,_=>e15_119
  | _+120,h=>absurd h (by omega)
end Go.Proofs.YtbldmjejckjflabGreat
