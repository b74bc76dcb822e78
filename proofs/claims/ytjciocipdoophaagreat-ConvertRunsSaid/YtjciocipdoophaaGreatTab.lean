/- The types of this translation, checked against it. Conditions: none. -/
import Derived.Test.YtjciocipdoophaaGreatVamInp
import Derived.Test.YtjciocipdoophaaGreatProg
set_option linter.unusedVariables false
namespace Go.Vam
open Go.Proofs

/-- The types of this translation. -/
def tt : TypeId → Option TI
  | 1 => some ⟨1, 8, false, [.d (.raw .nilFunc)], [], none, none, [], false, none⟩
  | 2 => some ⟨1, 8, false, [.d (.int .i64 0)], [], none, some .i64, [], false, none⟩
  | 3 => some ⟨1, 8, false, [.d (.int .i64 0)], [], none, some .i64, [], false, none⟩
  | 4 => some ⟨1, 1, false, [.d (.bool false)], [], none, none, [], true, none⟩
  | 5 => some ⟨1, 1, false, [.d (.int .u8 0)], [], none, some .u8, [], false, none⟩
  | 6 => some ⟨1, 1, false, [.d (.int .u8 0)], [], none, some .u8, [], false, none⟩
  | 7 => some ⟨4, 24, true, [.d (.int .i64 0), .d (.int .i64 0), .d (.bool false), .d (.int .u8 0)], [(0, 2), (1, 3), (2, 4), (3, 6)], none, none, [true, true, false, true], false, none⟩
  | 8 => some ⟨4, 24, true, [.d (.int .i64 0), .d (.int .i64 0), .d (.bool false), .d (.int .u8 0)], [(0, 2), (1, 3), (2, 4), (3, 6)], none, none, [true, true, false, true], false, none⟩
  | 12 => some ⟨1, 8, false, [.d (.int .u64 0)], [], none, some .u64, [], false, none⟩
  | 15 => some ⟨1, 8, false, [.d (.raw (.pointer none))], [], none, none, [], false, none⟩
  | 16 => some ⟨1, 8, false, [.d (.raw (.pointer none))], [], none, none, [], false, none⟩
  | 17 => some ⟨1, 8, false, [.d (.raw (.pointer none))], [], none, none, [], false, none⟩
  | 18 => some ⟨1, 8, true, [.d (.raw (.pointer none))], [(0, 17)], none, none, [], false, none⟩
  | 19 => some ⟨1, 8, true, [.d (.raw (.pointer none))], [(0, 17)], none, none, [], false, none⟩
  | 21 => some ⟨1, 4, false, [.d (.int .i32 0)], [], none, some .i32, [], false, none⟩
  | 22 => some ⟨1, 24, false, [.nil], [], some 5, none, [], false, none⟩
  | 23 => some ⟨1, 8, false, [.d (.raw .nilFunc)], [], none, none, [], false, none⟩
  | 24 => some ⟨1, 8, false, [.d (.raw (.pointer none))], [], none, none, [], false, none⟩
  | 25 => some ⟨1, 8, false, [.d (.raw .nilFunc)], [], none, none, [], false, none⟩
  | 26 => some ⟨1, 24, false, [.nil], [], some 3, none, [], false, none⟩
  | 27 => some ⟨3, 40, true, [.d (.int .i64 0), .d (.int .i64 0), .nil], [(0, 3), (1, 3), (2, 26)], none, none, [], false, none⟩
  | 28 => some ⟨3, 40, true, [.d (.int .i64 0), .d (.int .i64 0), .nil], [(0, 3), (1, 3), (2, 26)], none, none, [], false, none⟩
  | 30 => some ⟨1, 8, false, [.d (.raw .nilFunc)], [], none, none, [], false, none⟩
  | 31 => some ⟨3, 40, true, [.d (.int .i64 0), .d (.int .i64 0), .nil], [(0, 3), (1, 3), (2, 26)], none, none, [], false, none⟩
  | 32 => some ⟨3, 40, true, [.d (.int .i64 0), .d (.int .i64 0), .nil], [(0, 3), (1, 3), (2, 26)], none, none, [], false, none⟩
  | 33 => some ⟨2, 16, true, [.d (.int .i64 0), .d (.int .i64 0)], [(0, 2), (1, 2)], none, none, [true, true], false, none⟩
  | 34 => some ⟨2, 16, true, [.d (.int .i64 0), .d (.int .i64 0)], [(0, 2), (1, 2)], none, none, [true, true], false, none⟩
  | 35 => some ⟨5, 40, true, [.d (.int .i64 0), .d (.int .i64 0), .d (.int .i64 0), .d (.int .i64 0), .d (.int .i64 0)], [(0, 34), (2, 3), (3, 2), (4, 2)], none, none, [true, true, true, true, true], false, none⟩
  | 36 => some ⟨5, 40, true, [.d (.int .i64 0), .d (.int .i64 0), .d (.int .i64 0), .d (.int .i64 0), .d (.int .i64 0)], [(0, 34), (2, 3), (3, 2), (4, 2)], none, none, [true, true, true, true, true], false, none⟩
  | 37 => some ⟨1, 24, false, [.nil], [], some 21, none, [], false, none⟩
  | 38 => some ⟨7, 72, true, [.d (.int .i64 0), .d (.int .i64 0), .d (.int .i64 0), .d (.int .i64 0), .d (.int .i64 0), .d (.int .i64 0), .nil], [(0, 3), (1, 36), (6, 37)], none, none, [], false, none⟩
  | 39 => some ⟨7, 72, true, [.d (.int .i64 0), .d (.int .i64 0), .d (.int .i64 0), .d (.int .i64 0), .d (.int .i64 0), .d (.int .i64 0), .nil], [(0, 3), (1, 36), (6, 37)], none, none, [], false, none⟩
  | 40 => some ⟨16, 192, true, [.d (.int .i64 0), .d (.int .i64 0), .nil, .d (.int .i64 0), .d (.int .i64 0), .nil, .d (.int .i64 0), .d (.int .i64 0), .nil, .d (.int .i64 0), .d (.int .i64 0), .d (.int .i64 0), .d (.int .i64 0), .d (.int .i64 0), .d (.int .i64 0), .nil], [(0, 28), (3, 28), (6, 32), (9, 39)], none, none, [], false, none⟩
  | 41 => some ⟨16, 192, true, [.d (.int .i64 0), .d (.int .i64 0), .nil, .d (.int .i64 0), .d (.int .i64 0), .nil, .d (.int .i64 0), .d (.int .i64 0), .nil, .d (.int .i64 0), .d (.int .i64 0), .d (.int .i64 0), .d (.int .i64 0), .d (.int .i64 0), .d (.int .i64 0), .nil], [(0, 28), (3, 28), (6, 32), (9, 39)], none, none, [], false, none⟩
  | 42 => some ⟨1, 8, false, [.d (.int .i64 0)], [], none, some .i64, [], false, none⟩
  | 44 => some ⟨1, 8, false, [.d (.raw .nilFunc)], [], none, none, [], false, none⟩
  | 45 => some ⟨1, 8, false, [.d (.raw .nilFunc)], [], none, none, [], false, none⟩
  | 46 => some ⟨1, 24, false, [.nil], [], some 22, none, [], false, none⟩
  | 48 => some ⟨1, 8, false, [.d (.raw .nilFunc)], [], none, none, [], false, none⟩
  | 49 => some ⟨1, 8, false, [.d (.raw .nilFunc)], [], none, none, [], false, none⟩
  | 51 => some ⟨1, 8, false, [.d (.raw .nilFunc)], [], none, none, [], false, none⟩
  | 52 => some ⟨1, 8, false, [.d (.raw .nilFunc)], [], none, none, [], false, none⟩
  | 53 => some ⟨1, 8, false, [.d (.raw .nilFunc)], [], none, none, [], false, none⟩
  | 54 => some ⟨1, 8, false, [.d (.raw .nilFunc)], [], none, none, [], false, none⟩
  | 55 => some ⟨1, 24, true, [.nil], [(0, 22)], none, none, [], false, none⟩
  | 56 => some ⟨1, 24, true, [.nil], [(0, 22)], none, none, [], false, none⟩
  | 57 => some ⟨1, 8, false, [.d (.raw .nilFunc)], [], none, none, [], false, none⟩
  | 58 => some ⟨1, 8, false, [.d (.raw .nilFunc)], [], none, none, [], false, none⟩
  | 59 => some ⟨1, 8, false, [.d (.raw .nilFunc)], [], none, none, [], false, none⟩
  | 60 => some ⟨1, 8, false, [.d (.raw .nilFunc)], [], none, none, [], false, none⟩
  | 62 => some ⟨1, 8, false, [.d (.raw .nilFunc)], [], none, none, [], false, none⟩
  | 64 => some ⟨1, 8, false, [.d (.raw .nilFunc)], [], none, none, [], false, none⟩
  | 66 => some ⟨1, 8, false, [.d (.raw .nilFunc)], [], none, none, [], false, none⟩
  | 67 => some ⟨1, 8, false, [.d (.raw .nilFunc)], [], none, none, [], false, none⟩
  | 68 => some ⟨1, 8, false, [.d (.raw (.pointer none))], [], none, none, [], false, none⟩
  | 69 => some ⟨2, 32, true, [.d (.int .i64 0), .nil], [(0, 3), (1, 37)], none, none, [], false, none⟩
  | 70 => some ⟨2, 32, true, [.d (.int .i64 0), .nil], [(0, 3), (1, 37)], none, none, [], false, none⟩
  | 71 => some ⟨19, 248, true, [.d (.int .i64 0), .d (.int .i64 0), .nil, .d (.int .i64 0), .d (.int .i64 0), .nil, .d (.int .i64 0), .d (.int .i64 0), .nil, .d (.int .i64 0), .d (.int .i64 0), .d (.int .i64 0), .d (.int .i64 0), .d (.int .i64 0), .d (.int .i64 0), .nil, .nil, .d (.int .i64 0), .nil], [(0, 41), (16, 22), (17, 70)], none, none, [], false, none⟩
  | 72 => some ⟨19, 248, true, [.d (.int .i64 0), .d (.int .i64 0), .nil, .d (.int .i64 0), .d (.int .i64 0), .nil, .d (.int .i64 0), .d (.int .i64 0), .nil, .d (.int .i64 0), .d (.int .i64 0), .d (.int .i64 0), .d (.int .i64 0), .d (.int .i64 0), .d (.int .i64 0), .nil, .nil, .d (.int .i64 0), .nil], [(0, 41), (16, 22), (17, 70)], none, none, [], false, none⟩
  | 73 => some ⟨1, 8, false, [.d (.raw .nilFunc)], [], none, none, [], false, none⟩
  | 74 => some ⟨1, 24, false, [.nil], [], some 73, none, [], false, none⟩
  | 76 => some ⟨1, 8, false, [.d (.raw .nilFunc)], [], none, none, [], false, none⟩
  | 78 => some ⟨1, 8, false, [.d (.raw .nilFunc)], [], none, none, [], false, none⟩
  | 80 => some ⟨1, 8, false, [.d (.raw .nilFunc)], [], none, none, [], false, none⟩
  | 81 => some ⟨1, 8, false, [.d (.raw .nilFunc)], [], none, none, [], false, none⟩
  | 82 => some ⟨1, 8, false, [.d (.raw .nilFunc)], [], none, none, [], false, none⟩
  | 83 => some ⟨1, 8, false, [.d (.raw .nilFunc)], [], none, none, [], false, none⟩
  | 84 => some ⟨1, 8, false, [.d (.raw .nilFunc)], [], none, none, [], false, none⟩
  | 85 => some ⟨1, 8, false, [.d (.raw .nilFunc)], [], none, none, [], false, none⟩
  | 86 => some ⟨1, 8, false, [.d (.raw .nilFunc)], [], none, none, [], false, none⟩
  | 87 => some ⟨1, 8, false, [.d (.raw .nilFunc)], [], none, none, [], false, none⟩
  | 88 => some ⟨1, 24, false, [.nil], [], some 26, none, [], false, none⟩
  | 89 => some ⟨1, 8, false, [.d (.raw .nilFunc)], [], none, none, [], false, none⟩
  | 90 => some ⟨1, 8, false, [.d (.raw .nilFunc)], [], none, none, [], false, none⟩
  | 91 => some ⟨1, 8, false, [.d (.raw .nilFunc)], [], none, none, [], false, none⟩
  | 92 => some ⟨1, 8, false, [.d (.raw .nilFunc)], [], none, none, [], false, none⟩
  | 93 => some ⟨1, 8, false, [.d (.raw .nilFunc)], [], none, none, [], false, none⟩
  | 94 => some ⟨1, 8, false, [.d (.raw .nilFunc)], [], none, none, [], false, none⟩
  | 95 => some ⟨1, 8, false, [.d (.raw .nilFunc)], [], none, none, [], false, none⟩
  | 96 => some ⟨1, 8, false, [.d (.raw .nilFunc)], [], none, none, [], false, none⟩
  | 98 => some ⟨1, 8, false, [.d (.raw .nilFunc)], [], none, none, [], false, none⟩
  | 99 => some ⟨1, 8, false, [.d (.raw .nilFunc)], [], none, none, [], false, none⟩
  | 100 => some ⟨1, 8, false, [.d (.raw .nilFunc)], [], none, none, [], false, none⟩
  | 101 => some ⟨1, 8, false, [.d (.int .u64 0)], [], none, some .u64, [], false, none⟩
  | 102 => some ⟨1, 8, false, [.d (.raw .nilFunc)], [], none, none, [], false, none⟩
  | 103 => some ⟨1, 8, false, [.d (.raw .nilFunc)], [], none, none, [], false, none⟩
  | 104 => some ⟨1, 8, false, [.d (.raw .nilFunc)], [], none, none, [], false, none⟩
  | 105 => some ⟨1, 8, false, [.d (.raw .nilFunc)], [], none, none, [], false, none⟩
  | 107 => some ⟨1, 8, false, [.d (.raw .nilFunc)], [], none, none, [], false, none⟩
  | 108 => some ⟨1, 8, false, [.d (.raw .nilFunc)], [], none, none, [], false, none⟩
  | 109 => some ⟨1, 8, false, [.d (.raw .nilFunc)], [], none, none, [], false, none⟩
  | 110 => some ⟨1, 8, false, [.d (.raw .nilFunc)], [], none, none, [], false, none⟩
  | 111 => some ⟨1, 8, false, [.d (.raw .nilFunc)], [], none, none, [], false, none⟩
  | 112 => some ⟨1, 8, false, [.d (.raw .nilFunc)], [], none, none, [], false, none⟩
  | 113 => some ⟨2, 16, true, [.d (.int .i64 0), .d (.bool false)], [(0, 3), (1, 4)], none, none, [true, false], false, none⟩
  | 114 => some ⟨2, 16, true, [.d (.int .i64 0), .d (.bool false)], [(0, 3), (1, 4)], none, none, [true, false], false, none⟩
  | 115 => some ⟨1, 8, false, [.d (.raw .nilFunc)], [], none, none, [], false, none⟩
  | 116 => some ⟨1, 8, false, [.d (.raw .nilFunc)], [], none, none, [], false, none⟩
  | 118 => some ⟨1, 8, false, [.d (.raw .nilFunc)], [], none, none, [], false, none⟩
  | 119 => some ⟨1, 8, false, [.d (.raw .nilFunc)], [], none, none, [], false, none⟩
  | 120 => some ⟨1, 8, false, [.d (.raw .nilFunc)], [], none, none, [], false, none⟩
  | 121 => some ⟨1, 8, false, [.d (.raw .nilFunc)], [], none, none, [], false, none⟩
  | 122 => some ⟨1, 8, false, [.d (.raw .nilFunc)], [], none, none, [], false, none⟩
  | 123 => some ⟨1, 8, false, [.d (.raw .nilFunc)], [], none, none, [], false, none⟩
  | 124 => some ⟨1, 8, false, [.d (.raw .nilFunc)], [], none, none, [], false, none⟩
  | 126 => some ⟨1, 8, false, [.d (.raw .nilFunc)], [], none, none, [], false, none⟩
  | 127 => some ⟨1, 8, false, [.d (.raw .nilFunc)], [], none, none, [], false, none⟩
  | 128 => some ⟨1, 8, false, [.d (.raw .nilFunc)], [], none, none, [], false, none⟩
  | 129 => some ⟨1, 8, false, [.d (.raw .nilFunc)], [], none, none, [], false, none⟩
  | 130 => some ⟨3, 24, true, [.d (.int .i64 0), .d (.int .i64 0), .d (.bool false)], [(0, 3), (1, 114)], none, none, [true, true, false], false, none⟩
  | 131 => some ⟨1, 24, false, [.nil], [], some 130, none, [], false, none⟩
  | 132 => some ⟨1, 8, false, [.d (.raw .nilFunc)], [], none, none, [], false, none⟩
  | 133 => some ⟨1, 8, false, [.d (.raw .nilFunc)], [], none, none, [], false, none⟩
  | 134 => some ⟨1, 8, false, [.d (.raw .nilFunc)], [], none, none, [], false, none⟩
  | 135 => some ⟨1, 8, false, [.d (.raw .nilFunc)], [], none, none, [], false, none⟩
  | 136 => some ⟨1, 8, false, [.d (.raw .nilFunc)], [], none, none, [], false, none⟩
  | 137 => some ⟨1, 8, false, [.d (.raw .nilFunc)], [], none, none, [], false, none⟩
  | 138 => some ⟨1, 8, false, [.d (.raw .nilFunc)], [], none, none, [], false, none⟩
  | 139 => some ⟨1, 24, false, [.nil], [], some 37, none, [], false, none⟩
  | 140 => some ⟨1, 8, false, [.d (.raw .nilFunc)], [], none, none, [], false, none⟩
  | 141 => some ⟨1, 8, false, [.d (.raw .nilFunc)], [], none, none, [], false, none⟩
  | 144 => some ⟨0, 0, true, [], [], none, none, [], false, some 16⟩
  | 145 => some ⟨0, 0, true, [], [(0, 144)], none, none, [], false, none⟩
  | 146 => some ⟨0, 0, true, [], [(0, 144)], none, none, [], false, none⟩
  | 147 => some ⟨1, 8, false, [.d (.raw .nilFunc)], [], none, none, [], false, none⟩
  | 148 => some ⟨1, 4, false, [.d (.int .u32 0)], [], none, some .u32, [], false, none⟩
  | 149 => some ⟨1, 1, false, [.d (.int .u8 0)], [], none, some .u8, [], false, none⟩
  | 150 => some ⟨1, 1, false, [.d (.int .u8 0)], [], none, some .u8, [], false, none⟩
  | 151 => some ⟨1, 8, false, [.d (.raw .nilFunc)], [], none, none, [], false, none⟩
  | 152 => some ⟨1, 8, false, [.d (.raw (.pointer none))], [], none, none, [], false, none⟩
  | 153 => some ⟨1, 4, false, [.d (.int .i32 0)], [], none, some .i32, [], false, none⟩
  | 154 => some ⟨1, 4, false, [.d (.int .i32 0)], [], none, some .i32, [], false, none⟩
  | 155 => some ⟨11, 48, true, [.d (.int .u64 0), .d (.int .u64 0), .d (.int .u32 0), .d (.int .u8 0), .d (.int .u8 0), .d (.int .u8 0), .d (.int .u8 0), .d (.raw .nilFunc), .d (.raw (.pointer none)), .d (.int .i32 0), .d (.int .i32 0)], [(0, 12), (1, 12), (2, 148), (3, 149), (4, 5), (5, 5), (6, 150), (7, 151), (8, 152), (9, 153), (10, 154)], none, none, [], false, none⟩
  | 156 => some ⟨11, 48, true, [.d (.int .u64 0), .d (.int .u64 0), .d (.int .u32 0), .d (.int .u8 0), .d (.int .u8 0), .d (.int .u8 0), .d (.int .u8 0), .d (.raw .nilFunc), .d (.raw (.pointer none)), .d (.int .i32 0), .d (.int .i32 0)], [(0, 12), (1, 12), (2, 148), (3, 149), (4, 5), (5, 5), (6, 150), (7, 151), (8, 152), (9, 153), (10, 154)], none, none, [], false, none⟩
  | 157 => some ⟨1, 8, false, [.d (.raw (.pointer none))], [], none, none, [], false, none⟩
  | _ => none

theorem tt_1 : tt 1 = some ⟨1, 8, false, [.d (.raw .nilFunc)], [], none, none, [], false, none⟩ := rfl
theorem tt_2 : tt 2 = some ⟨1, 8, false, [.d (.int .i64 0)], [], none, some .i64, [], false, none⟩ := rfl
theorem tt_3 : tt 3 = some ⟨1, 8, false, [.d (.int .i64 0)], [], none, some .i64, [], false, none⟩ := rfl
theorem tt_4 : tt 4 = some ⟨1, 1, false, [.d (.bool false)], [], none, none, [], true, none⟩ := rfl
theorem tt_5 : tt 5 = some ⟨1, 1, false, [.d (.int .u8 0)], [], none, some .u8, [], false, none⟩ := rfl
theorem tt_6 : tt 6 = some ⟨1, 1, false, [.d (.int .u8 0)], [], none, some .u8, [], false, none⟩ := rfl
theorem tt_7 : tt 7 = some ⟨4, 24, true, [.d (.int .i64 0), .d (.int .i64 0), .d (.bool false), .d (.int .u8 0)], [(0, 2), (1, 3), (2, 4), (3, 6)], none, none, [true, true, false, true], false, none⟩ := rfl
theorem tt_8 : tt 8 = some ⟨4, 24, true, [.d (.int .i64 0), .d (.int .i64 0), .d (.bool false), .d (.int .u8 0)], [(0, 2), (1, 3), (2, 4), (3, 6)], none, none, [true, true, false, true], false, none⟩ := rfl
theorem tt_12 : tt 12 = some ⟨1, 8, false, [.d (.int .u64 0)], [], none, some .u64, [], false, none⟩ := rfl
theorem tt_15 : tt 15 = some ⟨1, 8, false, [.d (.raw (.pointer none))], [], none, none, [], false, none⟩ := rfl
theorem tt_16 : tt 16 = some ⟨1, 8, false, [.d (.raw (.pointer none))], [], none, none, [], false, none⟩ := rfl
theorem tt_17 : tt 17 = some ⟨1, 8, false, [.d (.raw (.pointer none))], [], none, none, [], false, none⟩ := rfl
theorem tt_18 : tt 18 = some ⟨1, 8, true, [.d (.raw (.pointer none))], [(0, 17)], none, none, [], false, none⟩ := rfl
theorem tt_19 : tt 19 = some ⟨1, 8, true, [.d (.raw (.pointer none))], [(0, 17)], none, none, [], false, none⟩ := rfl
theorem tt_21 : tt 21 = some ⟨1, 4, false, [.d (.int .i32 0)], [], none, some .i32, [], false, none⟩ := rfl
theorem tt_22 : tt 22 = some ⟨1, 24, false, [.nil], [], some 5, none, [], false, none⟩ := rfl
theorem tt_23 : tt 23 = some ⟨1, 8, false, [.d (.raw .nilFunc)], [], none, none, [], false, none⟩ := rfl
theorem tt_24 : tt 24 = some ⟨1, 8, false, [.d (.raw (.pointer none))], [], none, none, [], false, none⟩ := rfl
theorem tt_25 : tt 25 = some ⟨1, 8, false, [.d (.raw .nilFunc)], [], none, none, [], false, none⟩ := rfl
theorem tt_26 : tt 26 = some ⟨1, 24, false, [.nil], [], some 3, none, [], false, none⟩ := rfl
theorem tt_27 : tt 27 = some ⟨3, 40, true, [.d (.int .i64 0), .d (.int .i64 0), .nil], [(0, 3), (1, 3), (2, 26)], none, none, [], false, none⟩ := rfl
theorem tt_28 : tt 28 = some ⟨3, 40, true, [.d (.int .i64 0), .d (.int .i64 0), .nil], [(0, 3), (1, 3), (2, 26)], none, none, [], false, none⟩ := rfl
theorem tt_30 : tt 30 = some ⟨1, 8, false, [.d (.raw .nilFunc)], [], none, none, [], false, none⟩ := rfl
theorem tt_31 : tt 31 = some ⟨3, 40, true, [.d (.int .i64 0), .d (.int .i64 0), .nil], [(0, 3), (1, 3), (2, 26)], none, none, [], false, none⟩ := rfl
theorem tt_32 : tt 32 = some ⟨3, 40, true, [.d (.int .i64 0), .d (.int .i64 0), .nil], [(0, 3), (1, 3), (2, 26)], none, none, [], false, none⟩ := rfl
theorem tt_33 : tt 33 = some ⟨2, 16, true, [.d (.int .i64 0), .d (.int .i64 0)], [(0, 2), (1, 2)], none, none, [true, true], false, none⟩ := rfl
theorem tt_34 : tt 34 = some ⟨2, 16, true, [.d (.int .i64 0), .d (.int .i64 0)], [(0, 2), (1, 2)], none, none, [true, true], false, none⟩ := rfl
theorem tt_35 : tt 35 = some ⟨5, 40, true, [.d (.int .i64 0), .d (.int .i64 0), .d (.int .i64 0), .d (.int .i64 0), .d (.int .i64 0)], [(0, 34), (2, 3), (3, 2), (4, 2)], none, none, [true, true, true, true, true], false, none⟩ := rfl
theorem tt_36 : tt 36 = some ⟨5, 40, true, [.d (.int .i64 0), .d (.int .i64 0), .d (.int .i64 0), .d (.int .i64 0), .d (.int .i64 0)], [(0, 34), (2, 3), (3, 2), (4, 2)], none, none, [true, true, true, true, true], false, none⟩ := rfl
theorem tt_37 : tt 37 = some ⟨1, 24, false, [.nil], [], some 21, none, [], false, none⟩ := rfl
theorem tt_38 : tt 38 = some ⟨7, 72, true, [.d (.int .i64 0), .d (.int .i64 0), .d (.int .i64 0), .d (.int .i64 0), .d (.int .i64 0), .d (.int .i64 0), .nil], [(0, 3), (1, 36), (6, 37)], none, none, [], false, none⟩ := rfl
theorem tt_39 : tt 39 = some ⟨7, 72, true, [.d (.int .i64 0), .d (.int .i64 0), .d (.int .i64 0), .d (.int .i64 0), .d (.int .i64 0), .d (.int .i64 0), .nil], [(0, 3), (1, 36), (6, 37)], none, none, [], false, none⟩ := rfl
theorem tt_40 : tt 40 = some ⟨16, 192, true, [.d (.int .i64 0), .d (.int .i64 0), .nil, .d (.int .i64 0), .d (.int .i64 0), .nil, .d (.int .i64 0), .d (.int .i64 0), .nil, .d (.int .i64 0), .d (.int .i64 0), .d (.int .i64 0), .d (.int .i64 0), .d (.int .i64 0), .d (.int .i64 0), .nil], [(0, 28), (3, 28), (6, 32), (9, 39)], none, none, [], false, none⟩ := rfl
theorem tt_41 : tt 41 = some ⟨16, 192, true, [.d (.int .i64 0), .d (.int .i64 0), .nil, .d (.int .i64 0), .d (.int .i64 0), .nil, .d (.int .i64 0), .d (.int .i64 0), .nil, .d (.int .i64 0), .d (.int .i64 0), .d (.int .i64 0), .d (.int .i64 0), .d (.int .i64 0), .d (.int .i64 0), .nil], [(0, 28), (3, 28), (6, 32), (9, 39)], none, none, [], false, none⟩ := rfl
theorem tt_42 : tt 42 = some ⟨1, 8, false, [.d (.int .i64 0)], [], none, some .i64, [], false, none⟩ := rfl
theorem tt_44 : tt 44 = some ⟨1, 8, false, [.d (.raw .nilFunc)], [], none, none, [], false, none⟩ := rfl
theorem tt_45 : tt 45 = some ⟨1, 8, false, [.d (.raw .nilFunc)], [], none, none, [], false, none⟩ := rfl
theorem tt_46 : tt 46 = some ⟨1, 24, false, [.nil], [], some 22, none, [], false, none⟩ := rfl
theorem tt_48 : tt 48 = some ⟨1, 8, false, [.d (.raw .nilFunc)], [], none, none, [], false, none⟩ := rfl
theorem tt_49 : tt 49 = some ⟨1, 8, false, [.d (.raw .nilFunc)], [], none, none, [], false, none⟩ := rfl
theorem tt_51 : tt 51 = some ⟨1, 8, false, [.d (.raw .nilFunc)], [], none, none, [], false, none⟩ := rfl
theorem tt_52 : tt 52 = some ⟨1, 8, false, [.d (.raw .nilFunc)], [], none, none, [], false, none⟩ := rfl
theorem tt_53 : tt 53 = some ⟨1, 8, false, [.d (.raw .nilFunc)], [], none, none, [], false, none⟩ := rfl
theorem tt_54 : tt 54 = some ⟨1, 8, false, [.d (.raw .nilFunc)], [], none, none, [], false, none⟩ := rfl
theorem tt_55 : tt 55 = some ⟨1, 24, true, [.nil], [(0, 22)], none, none, [], false, none⟩ := rfl
theorem tt_56 : tt 56 = some ⟨1, 24, true, [.nil], [(0, 22)], none, none, [], false, none⟩ := rfl
theorem tt_57 : tt 57 = some ⟨1, 8, false, [.d (.raw .nilFunc)], [], none, none, [], false, none⟩ := rfl
theorem tt_58 : tt 58 = some ⟨1, 8, false, [.d (.raw .nilFunc)], [], none, none, [], false, none⟩ := rfl
theorem tt_59 : tt 59 = some ⟨1, 8, false, [.d (.raw .nilFunc)], [], none, none, [], false, none⟩ := rfl
theorem tt_60 : tt 60 = some ⟨1, 8, false, [.d (.raw .nilFunc)], [], none, none, [], false, none⟩ := rfl
theorem tt_62 : tt 62 = some ⟨1, 8, false, [.d (.raw .nilFunc)], [], none, none, [], false, none⟩ := rfl
theorem tt_64 : tt 64 = some ⟨1, 8, false, [.d (.raw .nilFunc)], [], none, none, [], false, none⟩ := rfl
theorem tt_66 : tt 66 = some ⟨1, 8, false, [.d (.raw .nilFunc)], [], none, none, [], false, none⟩ := rfl
theorem tt_67 : tt 67 = some ⟨1, 8, false, [.d (.raw .nilFunc)], [], none, none, [], false, none⟩ := rfl
theorem tt_68 : tt 68 = some ⟨1, 8, false, [.d (.raw (.pointer none))], [], none, none, [], false, none⟩ := rfl
theorem tt_69 : tt 69 = some ⟨2, 32, true, [.d (.int .i64 0), .nil], [(0, 3), (1, 37)], none, none, [], false, none⟩ := rfl
theorem tt_70 : tt 70 = some ⟨2, 32, true, [.d (.int .i64 0), .nil], [(0, 3), (1, 37)], none, none, [], false, none⟩ := rfl
theorem tt_71 : tt 71 = some ⟨19, 248, true, [.d (.int .i64 0), .d (.int .i64 0), .nil, .d (.int .i64 0), .d (.int .i64 0), .nil, .d (.int .i64 0), .d (.int .i64 0), .nil, .d (.int .i64 0), .d (.int .i64 0), .d (.int .i64 0), .d (.int .i64 0), .d (.int .i64 0), .d (.int .i64 0), .nil, .nil, .d (.int .i64 0), .nil], [(0, 41), (16, 22), (17, 70)], none, none, [], false, none⟩ := rfl
theorem tt_72 : tt 72 = some ⟨19, 248, true, [.d (.int .i64 0), .d (.int .i64 0), .nil, .d (.int .i64 0), .d (.int .i64 0), .nil, .d (.int .i64 0), .d (.int .i64 0), .nil, .d (.int .i64 0), .d (.int .i64 0), .d (.int .i64 0), .d (.int .i64 0), .d (.int .i64 0), .d (.int .i64 0), .nil, .nil, .d (.int .i64 0), .nil], [(0, 41), (16, 22), (17, 70)], none, none, [], false, none⟩ := rfl
theorem tt_73 : tt 73 = some ⟨1, 8, false, [.d (.raw .nilFunc)], [], none, none, [], false, none⟩ := rfl
theorem tt_74 : tt 74 = some ⟨1, 24, false, [.nil], [], some 73, none, [], false, none⟩ := rfl
theorem tt_76 : tt 76 = some ⟨1, 8, false, [.d (.raw .nilFunc)], [], none, none, [], false, none⟩ := rfl
theorem tt_78 : tt 78 = some ⟨1, 8, false, [.d (.raw .nilFunc)], [], none, none, [], false, none⟩ := rfl
theorem tt_80 : tt 80 = some ⟨1, 8, false, [.d (.raw .nilFunc)], [], none, none, [], false, none⟩ := rfl
theorem tt_81 : tt 81 = some ⟨1, 8, false, [.d (.raw .nilFunc)], [], none, none, [], false, none⟩ := rfl
theorem tt_82 : tt 82 = some ⟨1, 8, false, [.d (.raw .nilFunc)], [], none, none, [], false, none⟩ := rfl
theorem tt_83 : tt 83 = some ⟨1, 8, false, [.d (.raw .nilFunc)], [], none, none, [], false, none⟩ := rfl
theorem tt_84 : tt 84 = some ⟨1, 8, false, [.d (.raw .nilFunc)], [], none, none, [], false, none⟩ := rfl
theorem tt_85 : tt 85 = some ⟨1, 8, false, [.d (.raw .nilFunc)], [], none, none, [], false, none⟩ := rfl
theorem tt_86 : tt 86 = some ⟨1, 8, false, [.d (.raw .nilFunc)], [], none, none, [], false, none⟩ := rfl
theorem tt_87 : tt 87 = some ⟨1, 8, false, [.d (.raw .nilFunc)], [], none, none, [], false, none⟩ := rfl
theorem tt_88 : tt 88 = some ⟨1, 24, false, [.nil], [], some 26, none, [], false, none⟩ := rfl
theorem tt_89 : tt 89 = some ⟨1, 8, false, [.d (.raw .nilFunc)], [], none, none, [], false, none⟩ := rfl
theorem tt_90 : tt 90 = some ⟨1, 8, false, [.d (.raw .nilFunc)], [], none, none, [], false, none⟩ := rfl
theorem tt_91 : tt 91 = some ⟨1, 8, false, [.d (.raw .nilFunc)], [], none, none, [], false, none⟩ := rfl
theorem tt_92 : tt 92 = some ⟨1, 8, false, [.d (.raw .nilFunc)], [], none, none, [], false, none⟩ := rfl
theorem tt_93 : tt 93 = some ⟨1, 8, false, [.d (.raw .nilFunc)], [], none, none, [], false, none⟩ := rfl
theorem tt_94 : tt 94 = some ⟨1, 8, false, [.d (.raw .nilFunc)], [], none, none, [], false, none⟩ := rfl
theorem tt_95 : tt 95 = some ⟨1, 8, false, [.d (.raw .nilFunc)], [], none, none, [], false, none⟩ := rfl
theorem tt_96 : tt 96 = some ⟨1, 8, false, [.d (.raw .nilFunc)], [], none, none, [], false, none⟩ := rfl
theorem tt_98 : tt 98 = some ⟨1, 8, false, [.d (.raw .nilFunc)], [], none, none, [], false, none⟩ := rfl
theorem tt_99 : tt 99 = some ⟨1, 8, false, [.d (.raw .nilFunc)], [], none, none, [], false, none⟩ := rfl
theorem tt_100 : tt 100 = some ⟨1, 8, false, [.d (.raw .nilFunc)], [], none, none, [], false, none⟩ := rfl
theorem tt_101 : tt 101 = some ⟨1, 8, false, [.d (.int .u64 0)], [], none, some .u64, [], false, none⟩ := rfl
theorem tt_102 : tt 102 = some ⟨1, 8, false, [.d (.raw .nilFunc)], [], none, none, [], false, none⟩ := rfl
theorem tt_103 : tt 103 = some ⟨1, 8, false, [.d (.raw .nilFunc)], [], none, none, [], false, none⟩ := rfl
theorem tt_104 : tt 104 = some ⟨1, 8, false, [.d (.raw .nilFunc)], [], none, none, [], false, none⟩ := rfl
theorem tt_105 : tt 105 = some ⟨1, 8, false, [.d (.raw .nilFunc)], [], none, none, [], false, none⟩ := rfl
theorem tt_107 : tt 107 = some ⟨1, 8, false, [.d (.raw .nilFunc)], [], none, none, [], false, none⟩ := rfl
theorem tt_108 : tt 108 = some ⟨1, 8, false, [.d (.raw .nilFunc)], [], none, none, [], false, none⟩ := rfl
theorem tt_109 : tt 109 = some ⟨1, 8, false, [.d (.raw .nilFunc)], [], none, none, [], false, none⟩ := rfl
theorem tt_110 : tt 110 = some ⟨1, 8, false, [.d (.raw .nilFunc)], [], none, none, [], false, none⟩ := rfl
theorem tt_111 : tt 111 = some ⟨1, 8, false, [.d (.raw .nilFunc)], [], none, none, [], false, none⟩ := rfl
theorem tt_112 : tt 112 = some ⟨1, 8, false, [.d (.raw .nilFunc)], [], none, none, [], false, none⟩ := rfl
theorem tt_113 : tt 113 = some ⟨2, 16, true, [.d (.int .i64 0), .d (.bool false)], [(0, 3), (1, 4)], none, none, [true, false], false, none⟩ := rfl
theorem tt_114 : tt 114 = some ⟨2, 16, true, [.d (.int .i64 0), .d (.bool false)], [(0, 3), (1, 4)], none, none, [true, false], false, none⟩ := rfl
theorem tt_115 : tt 115 = some ⟨1, 8, false, [.d (.raw .nilFunc)], [], none, none, [], false, none⟩ := rfl
theorem tt_116 : tt 116 = some ⟨1, 8, false, [.d (.raw .nilFunc)], [], none, none, [], false, none⟩ := rfl
theorem tt_118 : tt 118 = some ⟨1, 8, false, [.d (.raw .nilFunc)], [], none, none, [], false, none⟩ := rfl
theorem tt_119 : tt 119 = some ⟨1, 8, false, [.d (.raw .nilFunc)], [], none, none, [], false, none⟩ := rfl
theorem tt_120 : tt 120 = some ⟨1, 8, false, [.d (.raw .nilFunc)], [], none, none, [], false, none⟩ := rfl
theorem tt_121 : tt 121 = some ⟨1, 8, false, [.d (.raw .nilFunc)], [], none, none, [], false, none⟩ := rfl
theorem tt_122 : tt 122 = some ⟨1, 8, false, [.d (.raw .nilFunc)], [], none, none, [], false, none⟩ := rfl
theorem tt_123 : tt 123 = some ⟨1, 8, false, [.d (.raw .nilFunc)], [], none, none, [], false, none⟩ := rfl
theorem tt_124 : tt 124 = some ⟨1, 8, false, [.d (.raw .nilFunc)], [], none, none, [], false, none⟩ := rfl
theorem tt_126 : tt 126 = some ⟨1, 8, false, [.d (.raw .nilFunc)], [], none, none, [], false, none⟩ := rfl
theorem tt_127 : tt 127 = some ⟨1, 8, false, [.d (.raw .nilFunc)], [], none, none, [], false, none⟩ := rfl
theorem tt_128 : tt 128 = some ⟨1, 8, false, [.d (.raw .nilFunc)], [], none, none, [], false, none⟩ := rfl
theorem tt_129 : tt 129 = some ⟨1, 8, false, [.d (.raw .nilFunc)], [], none, none, [], false, none⟩ := rfl
theorem tt_130 : tt 130 = some ⟨3, 24, true, [.d (.int .i64 0), .d (.int .i64 0), .d (.bool false)], [(0, 3), (1, 114)], none, none, [true, true, false], false, none⟩ := rfl
theorem tt_131 : tt 131 = some ⟨1, 24, false, [.nil], [], some 130, none, [], false, none⟩ := rfl
theorem tt_132 : tt 132 = some ⟨1, 8, false, [.d (.raw .nilFunc)], [], none, none, [], false, none⟩ := rfl
theorem tt_133 : tt 133 = some ⟨1, 8, false, [.d (.raw .nilFunc)], [], none, none, [], false, none⟩ := rfl
theorem tt_134 : tt 134 = some ⟨1, 8, false, [.d (.raw .nilFunc)], [], none, none, [], false, none⟩ := rfl
theorem tt_135 : tt 135 = some ⟨1, 8, false, [.d (.raw .nilFunc)], [], none, none, [], false, none⟩ := rfl
theorem tt_136 : tt 136 = some ⟨1, 8, false, [.d (.raw .nilFunc)], [], none, none, [], false, none⟩ := rfl
theorem tt_137 : tt 137 = some ⟨1, 8, false, [.d (.raw .nilFunc)], [], none, none, [], false, none⟩ := rfl
theorem tt_138 : tt 138 = some ⟨1, 8, false, [.d (.raw .nilFunc)], [], none, none, [], false, none⟩ := rfl
theorem tt_139 : tt 139 = some ⟨1, 24, false, [.nil], [], some 37, none, [], false, none⟩ := rfl
theorem tt_140 : tt 140 = some ⟨1, 8, false, [.d (.raw .nilFunc)], [], none, none, [], false, none⟩ := rfl
theorem tt_141 : tt 141 = some ⟨1, 8, false, [.d (.raw .nilFunc)], [], none, none, [], false, none⟩ := rfl
theorem tt_144 : tt 144 = some ⟨0, 0, true, [], [], none, none, [], false, some 16⟩ := rfl
theorem tt_145 : tt 145 = some ⟨0, 0, true, [], [(0, 144)], none, none, [], false, none⟩ := rfl
theorem tt_146 : tt 146 = some ⟨0, 0, true, [], [(0, 144)], none, none, [], false, none⟩ := rfl
theorem tt_147 : tt 147 = some ⟨1, 8, false, [.d (.raw .nilFunc)], [], none, none, [], false, none⟩ := rfl
theorem tt_148 : tt 148 = some ⟨1, 4, false, [.d (.int .u32 0)], [], none, some .u32, [], false, none⟩ := rfl
theorem tt_149 : tt 149 = some ⟨1, 1, false, [.d (.int .u8 0)], [], none, some .u8, [], false, none⟩ := rfl
theorem tt_150 : tt 150 = some ⟨1, 1, false, [.d (.int .u8 0)], [], none, some .u8, [], false, none⟩ := rfl
theorem tt_151 : tt 151 = some ⟨1, 8, false, [.d (.raw .nilFunc)], [], none, none, [], false, none⟩ := rfl
theorem tt_152 : tt 152 = some ⟨1, 8, false, [.d (.raw (.pointer none))], [], none, none, [], false, none⟩ := rfl
theorem tt_153 : tt 153 = some ⟨1, 4, false, [.d (.int .i32 0)], [], none, some .i32, [], false, none⟩ := rfl
theorem tt_154 : tt 154 = some ⟨1, 4, false, [.d (.int .i32 0)], [], none, some .i32, [], false, none⟩ := rfl
theorem tt_155 : tt 155 = some ⟨11, 48, true, [.d (.int .u64 0), .d (.int .u64 0), .d (.int .u32 0), .d (.int .u8 0), .d (.int .u8 0), .d (.int .u8 0), .d (.int .u8 0), .d (.raw .nilFunc), .d (.raw (.pointer none)), .d (.int .i32 0), .d (.int .i32 0)], [(0, 12), (1, 12), (2, 148), (3, 149), (4, 5), (5, 5), (6, 150), (7, 151), (8, 152), (9, 153), (10, 154)], none, none, [], false, none⟩ := rfl
theorem tt_156 : tt 156 = some ⟨11, 48, true, [.d (.int .u64 0), .d (.int .u64 0), .d (.int .u32 0), .d (.int .u8 0), .d (.int .u8 0), .d (.int .u8 0), .d (.int .u8 0), .d (.raw .nilFunc), .d (.raw (.pointer none)), .d (.int .i32 0), .d (.int .i32 0)], [(0, 12), (1, 12), (2, 148), (3, 149), (4, 5), (5, 5), (6, 150), (7, 151), (8, 152), (9, 153), (10, 154)], none, none, [], false, none⟩ := rfl
theorem tt_157 : tt 157 = some ⟨1, 8, false, [.d (.raw (.pointer none))], [], none, none, [], false, none⟩ := rfl

set_option linter.defProp false in
/-- The table's equations. -/
def gTT := And.intro (And.intro (And.intro (And.intro (And.intro (And.intro (And.intro (tt_1) (tt_2)) (And.intro (tt_3) (tt_4))) (And.intro (And.intro (tt_5) (tt_6)) (And.intro (tt_7) (tt_8)))) (And.intro (And.intro (And.intro (tt_12) (tt_15)) (And.intro (tt_16) (tt_17))) (And.intro (And.intro (tt_18) (tt_19)) (And.intro (tt_21) (tt_22))))) (And.intro (And.intro (And.intro (And.intro (tt_23) (tt_24)) (And.intro (tt_25) (tt_26))) (And.intro (And.intro (tt_27) (tt_28)) (And.intro (tt_30) (tt_31)))) (And.intro (And.intro (And.intro (tt_32) (tt_33)) (And.intro (tt_34) (tt_35))) (And.intro (And.intro (tt_36) (tt_37)) (And.intro (tt_38) (And.intro (tt_39) (tt_40))))))) (And.intro (And.intro (And.intro (And.intro (And.intro (tt_41) (tt_42)) (And.intro (tt_44) (tt_45))) (And.intro (And.intro (tt_46) (tt_48)) (And.intro (tt_49) (tt_51)))) (And.intro (And.intro (And.intro (tt_52) (tt_53)) (And.intro (tt_54) (tt_55))) (And.intro (And.intro (tt_56) (tt_57)) (And.intro (tt_58) (And.intro (tt_59) (tt_60)))))) (And.intro (And.intro (And.intro (And.intro (tt_62) (tt_64)) (And.intro (tt_66) (tt_67))) (And.intro (And.intro (tt_68) (tt_69)) (And.intro (tt_70) (tt_71)))) (And.intro (And.intro (And.intro (tt_72) (tt_73)) (And.intro (tt_74) (tt_76))) (And.intro (And.intro (tt_78) (tt_80)) (And.intro (tt_81) (And.intro (tt_82) (tt_83)))))))) (And.intro (And.intro (And.intro (And.intro (And.intro (And.intro (tt_84) (tt_85)) (And.intro (tt_86) (tt_87))) (And.intro (And.intro (tt_88) (tt_89)) (And.intro (tt_90) (tt_91)))) (And.intro (And.intro (And.intro (tt_92) (tt_93)) (And.intro (tt_94) (tt_95))) (And.intro (And.intro (tt_96) (tt_98)) (And.intro (tt_99) (And.intro (tt_100) (tt_101)))))) (And.intro (And.intro (And.intro (And.intro (tt_102) (tt_103)) (And.intro (tt_104) (tt_105))) (And.intro (And.intro (tt_107) (tt_108)) (And.intro (tt_109) (tt_110)))) (And.intro (And.intro (And.intro (tt_111) (tt_112)) (And.intro (tt_113) (tt_114))) (And.intro (And.intro (tt_115) (tt_116)) (And.intro (tt_118) (And.intro (tt_119) (tt_120))))))) (And.intro (And.intro (And.intro (And.intro (And.intro (tt_121) (tt_122)) (And.intro (tt_123) (tt_124))) (And.intro (And.intro (tt_126) (tt_127)) (And.intro (tt_128) (tt_129)))) (And.intro (And.intro (And.intro (tt_130) (tt_131)) (And.intro (tt_132) (tt_133))) (And.intro (And.intro (tt_134) (tt_135)) (And.intro (tt_136) (And.intro (tt_137) (tt_138)))))) (And.intro (And.intro (And.intro (And.intro (tt_139) (tt_140)) (And.intro (tt_141) (tt_144))) (And.intro (And.intro (tt_145) (tt_146)) (And.intro (tt_147) (tt_148)))) (And.intro (And.intro (And.intro (tt_149) (tt_150)) (And.intro (tt_151) (tt_152))) (And.intro (And.intro (tt_153) (tt_154)) (And.intro (tt_155) (And.intro (tt_156) (tt_157))))))))
theorem tt_ok : ∀ t ti, tt t = some ti → TI.check Tryz.prog t ti = true := by
  intro t ti h
  unfold tt at h
  split at h <;> first
    | (cases h; decide +kernel)
    | cases h
theorem tt_mixed : Tryz.prog.follows .mixedOrders = true := by decide +kernel
end Go.Vam
