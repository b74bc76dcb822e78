/- The types of this translation, checked against it. Conditions: none. -/
import Derived.Test.YtmliamkbpbdlbaaVamGrp
import Derived.Test.YtmliamkbpbdlbaaProg
set_option linter.unusedVariables false
namespace Go.Vam
open Go.Proofs

/-- The types of this translation. -/
def tt : TypeId → Option TI
  | 1 => some ⟨1, 8, false, [.d (.raw .nilFunc)], [], none, none, [], false, none⟩
  | 2 => some ⟨1, 8, false, [.d (.int .i64 0)], [], none, some .i64, [], false, none⟩
  | 3 => some ⟨1, 8, false, [.d (.int .i64 0)], [], none, some .i64, [], false, none⟩
  | 4 => some ⟨1, 1, false, [.d (.bool false)], [], none, none, [], true, none⟩
  | 5 => some ⟨1, 1, false, [.d (.int .u8 0)], [], none, some .u8, [], false, none⟩
  | 6 => some ⟨1, 1, false, [.d (.int .u8 0)], [], none, some .u8, [], false, none⟩
  | 7 => some ⟨4, 24, true, [.d (.int .i64 0), .d (.int .i64 0), .d (.bool false), .d (.int .u8 0)], [(0, 2), (1, 3), (2, 4), (3, 6)], none, none, [true, true, false, true], false, none⟩
  | 8 => some ⟨4, 24, true, [.d (.int .i64 0), .d (.int .i64 0), .d (.bool false), .d (.int .u8 0)], [(0, 2), (1, 3), (2, 4), (3, 6)], none, none, [true, true, false, true], false, none⟩
  | 12 => some ⟨1, 8, false, [.d (.int .u64 0)], [], none, some .u64, [], false, none⟩
  | 15 => some ⟨1, 8, false, [.d (.raw (.pointer none))], [], none, none, [], false, none⟩
  | 16 => some ⟨1, 8, false, [.d (.raw (.pointer none))], [], none, none, [], false, none⟩
  | 17 => some ⟨1, 8, false, [.d (.raw (.pointer none))], [], none, none, [], false, none⟩
  | 18 => some ⟨1, 8, true, [.d (.raw (.pointer none))], [(0, 17)], none, none, [], false, none⟩
  | 19 => some ⟨1, 8, true, [.d (.raw (.pointer none))], [(0, 17)], none, none, [], false, none⟩
  | 21 => some ⟨1, 4, false, [.d (.int .i32 0)], [], none, some .i32, [], false, none⟩
  | 22 => some ⟨1, 24, false, [.nil], [], some 5, none, [], false, none⟩
  | 23 => some ⟨1, 8, false, [.d (.raw .nilFunc)], [], none, none, [], false, none⟩
  | 24 => some ⟨1, 8, false, [.d (.raw (.pointer none))], [], none, none, [], false, none⟩
  | 25 => some ⟨1, 8, false, [.d (.raw .nilFunc)], [], none, none, [], false, none⟩
  | 26 => some ⟨1, 8, false, [.d (.raw .nilFunc)], [], none, none, [], false, none⟩
  | 27 => some ⟨1, 24, false, [.nil], [], some 41, none, [], false, none⟩
  | 28 => some ⟨1, 8, false, [.d (.raw .nilFunc)], [], none, none, [], false, none⟩
  | 29 => some ⟨3, 24, true, [.d (.int .i64 0), .d (.int .i64 0), .d (.int .i64 0)], [(0, 3), (1, 3), (2, 3)], none, none, [true, true, true], false, none⟩
  | 30 => some ⟨3, 24, true, [.d (.int .i64 0), .d (.int .i64 0), .d (.int .i64 0)], [(0, 3), (1, 3), (2, 3)], none, none, [true, true, true], false, none⟩
  | 31 => some ⟨1, 8, false, [.d (.raw .nilFunc)], [], none, none, [], false, none⟩
  | 32 => some ⟨1, 24, false, [.nil], [], some 21, none, [], false, none⟩
  | 33 => some ⟨2, 32, true, [.d (.int .i64 0), .nil], [(0, 3), (1, 32)], none, none, [], false, none⟩
  | 34 => some ⟨2, 32, true, [.d (.int .i64 0), .nil], [(0, 3), (1, 32)], none, none, [], false, none⟩
  | 35 => some ⟨1, 24, false, [.nil], [], some 3, none, [], false, none⟩
  | 36 => some ⟨3, 40, true, [.d (.int .i64 0), .d (.int .i64 0), .nil], [(0, 3), (1, 3), (2, 35)], none, none, [], false, none⟩
  | 37 => some ⟨3, 40, true, [.d (.int .i64 0), .d (.int .i64 0), .nil], [(0, 3), (1, 3), (2, 35)], none, none, [], false, none⟩
  | 38 => some ⟨4, 32, true, [.d (.int .i64 0), .d (.int .i64 0), .d (.int .i64 0), .d (.int .i64 0)], [(0, 3), (1, 3), (2, 3), (3, 3)], none, none, [true, true, true, true], false, none⟩
  | 39 => some ⟨4, 32, true, [.d (.int .i64 0), .d (.int .i64 0), .d (.int .i64 0), .d (.int .i64 0)], [(0, 3), (1, 3), (2, 3), (3, 3)], none, none, [true, true, true, true], false, none⟩
  | 40 => some ⟨9, 104, true, [.d (.int .i64 0), .nil, .d (.int .i64 0), .d (.int .i64 0), .nil, .d (.int .i64 0), .d (.int .i64 0), .d (.int .i64 0), .d (.int .i64 0)], [(0, 34), (2, 37), (5, 39)], none, none, [], false, none⟩
  | 41 => some ⟨9, 104, true, [.d (.int .i64 0), .nil, .d (.int .i64 0), .d (.int .i64 0), .nil, .d (.int .i64 0), .d (.int .i64 0), .d (.int .i64 0), .d (.int .i64 0)], [(0, 34), (2, 37), (5, 39)], none, none, [], false, none⟩
  | 42 => some ⟨1, 8, false, [.d (.raw .nilFunc)], [], none, none, [], false, none⟩
  | 43 => some ⟨1, 8, false, [.d (.int .i64 0)], [], none, some .i64, [], false, none⟩
  | 45 => some ⟨1, 8, false, [.d (.raw .nilFunc)], [], none, none, [], false, none⟩
  | 46 => some ⟨1, 8, false, [.d (.raw .nilFunc)], [], none, none, [], false, none⟩
  | 47 => some ⟨1, 8, false, [.d (.raw .nilFunc)], [], none, none, [], false, none⟩
  | 49 => some ⟨1, 8, false, [.d (.raw .nilFunc)], [], none, none, [], false, none⟩
  | 50 => some ⟨1, 8, false, [.d (.raw .nilFunc)], [], none, none, [], false, none⟩
  | 52 => some ⟨1, 8, false, [.d (.raw .nilFunc)], [], none, none, [], false, none⟩
  | 53 => some ⟨1, 24, false, [.nil], [], some 2, none, [], false, none⟩
  | 55 => some ⟨1, 8, false, [.d (.raw .nilFunc)], [], none, none, [], false, none⟩
  | 56 => some ⟨1, 8, false, [.d (.raw .nilFunc)], [], none, none, [], false, none⟩
  | 57 => some ⟨1, 8, false, [.d (.raw .nilFunc)], [], none, none, [], false, none⟩
  | 58 => some ⟨1, 24, false, [.nil], [], some 27, none, [], false, none⟩
  | 59 => some ⟨2, 16, true, [.d (.int .i64 0), .d (.int .i64 0)], [], none, none, [], false, some 3⟩
  | 60 => some ⟨1, 24, false, [.nil], [], some 59, none, [], false, none⟩
  | 61 => some ⟨1, 24, false, [.nil], [], some 30, none, [], false, none⟩
  | 62 => some ⟨1, 8, false, [.d (.raw .nilFunc)], [], none, none, [], false, none⟩
  | 64 => some ⟨1, 8, false, [.d (.raw .nilFunc)], [], none, none, [], false, none⟩
  | 65 => some ⟨1, 8, false, [.d (.raw .nilFunc)], [], none, none, [], false, none⟩
  | 66 => some ⟨1, 8, false, [.d (.raw .nilFunc)], [], none, none, [], false, none⟩
  | 67 => some ⟨1, 8, false, [.d (.raw .nilFunc)], [], none, none, [], false, none⟩
  | 68 => some ⟨1, 8, false, [.d (.raw .nilFunc)], [], none, none, [], false, none⟩
  | 69 => some ⟨1, 8, false, [.d (.raw .nilFunc)], [], none, none, [], false, none⟩
  | 70 => some ⟨1, 24, true, [.nil], [(0, 22)], none, none, [], false, none⟩
  | 71 => some ⟨1, 24, true, [.nil], [(0, 22)], none, none, [], false, none⟩
  | 72 => some ⟨1, 8, false, [.d (.raw .nilFunc)], [], none, none, [], false, none⟩
  | 73 => some ⟨1, 8, false, [.d (.raw .nilFunc)], [], none, none, [], false, none⟩
  | 74 => some ⟨1, 8, false, [.d (.raw .nilFunc)], [], none, none, [], false, none⟩
  | 75 => some ⟨1, 8, false, [.d (.raw .nilFunc)], [], none, none, [], false, none⟩
  | 76 => some ⟨1, 8, false, [.d (.raw .nilFunc)], [], none, none, [], false, none⟩
  | 77 => some ⟨1, 8, false, [.d (.raw .nilFunc)], [], none, none, [], false, none⟩
  | 78 => some ⟨1, 8, false, [.d (.raw .nilFunc)], [], none, none, [], false, none⟩
  | 80 => some ⟨1, 8, false, [.d (.raw .nilFunc)], [], none, none, [], false, none⟩
  | 81 => some ⟨1, 8, false, [.d (.raw .nilFunc)], [], none, none, [], false, none⟩
  | 82 => some ⟨1, 8, false, [.d (.raw .nilFunc)], [], none, none, [], false, none⟩
  | 83 => some ⟨1, 8, false, [.d (.raw .nilFunc)], [], none, none, [], false, none⟩
  | 85 => some ⟨1, 8, false, [.d (.raw .nilFunc)], [], none, none, [], false, none⟩
  | 86 => some ⟨1, 8, false, [.d (.raw .nilFunc)], [], none, none, [], false, none⟩
  | 87 => some ⟨1, 8, false, [.d (.raw .nilFunc)], [], none, none, [], false, none⟩
  | 88 => some ⟨1, 8, false, [.d (.raw .nilFunc)], [], none, none, [], false, none⟩
  | 89 => some ⟨1, 8, false, [.d (.raw .nilFunc)], [], none, none, [], false, none⟩
  | 90 => some ⟨1, 8, false, [.d (.raw .nilFunc)], [], none, none, [], false, none⟩
  | 91 => some ⟨1, 8, false, [.d (.raw .nilFunc)], [], none, none, [], false, none⟩
  | 92 => some ⟨1, 8, false, [.d (.int .u64 0)], [], none, some .u64, [], false, none⟩
  | 93 => some ⟨1, 8, false, [.d (.raw .nilFunc)], [], none, none, [], false, none⟩
  | 94 => some ⟨1, 8, false, [.d (.raw .nilFunc)], [], none, none, [], false, none⟩
  | 95 => some ⟨1, 8, false, [.d (.raw .nilFunc)], [], none, none, [], false, none⟩
  | 96 => some ⟨1, 8, false, [.d (.raw .nilFunc)], [], none, none, [], false, none⟩
  | 97 => some ⟨4, 32, true, [.d (.int .i64 0), .d (.int .i64 0), .d (.int .i64 0), .d (.int .i64 0)], [(0, 39)], none, none, [true, true, true, true], false, none⟩
  | 98 => some ⟨4, 32, true, [.d (.int .i64 0), .d (.int .i64 0), .d (.int .i64 0), .d (.int .i64 0)], [(0, 39)], none, none, [true, true, true, true], false, none⟩
  | 99 => some ⟨1, 8, false, [.d (.raw .nilFunc)], [], none, none, [], false, none⟩
  | 100 => some ⟨1, 8, false, [.d (.raw .nilFunc)], [], none, none, [], false, none⟩
  | 101 => some ⟨1, 24, false, [.nil], [], some 35, none, [], false, none⟩
  | 102 => some ⟨1, 8, false, [.d (.raw .nilFunc)], [], none, none, [], false, none⟩
  | 103 => some ⟨1, 8, false, [.d (.raw .nilFunc)], [], none, none, [], false, none⟩
  | 106 => some ⟨0, 0, true, [], [], none, none, [], false, some 16⟩
  | 107 => some ⟨0, 0, true, [], [(0, 106)], none, none, [], false, none⟩
  | 108 => some ⟨0, 0, true, [], [(0, 106)], none, none, [], false, none⟩
  | 109 => some ⟨1, 8, false, [.d (.raw .nilFunc)], [], none, none, [], false, none⟩
  | 110 => some ⟨1, 4, false, [.d (.int .u32 0)], [], none, some .u32, [], false, none⟩
  | 111 => some ⟨1, 1, false, [.d (.int .u8 0)], [], none, some .u8, [], false, none⟩
  | 112 => some ⟨1, 1, false, [.d (.int .u8 0)], [], none, some .u8, [], false, none⟩
  | 113 => some ⟨1, 8, false, [.d (.raw .nilFunc)], [], none, none, [], false, none⟩
  | 114 => some ⟨1, 8, false, [.d (.raw (.pointer none))], [], none, none, [], false, none⟩
  | 115 => some ⟨1, 4, false, [.d (.int .i32 0)], [], none, some .i32, [], false, none⟩
  | 116 => some ⟨1, 4, false, [.d (.int .i32 0)], [], none, some .i32, [], false, none⟩
  | 117 => some ⟨11, 48, true, [.d (.int .u64 0), .d (.int .u64 0), .d (.int .u32 0), .d (.int .u8 0), .d (.int .u8 0), .d (.int .u8 0), .d (.int .u8 0), .d (.raw .nilFunc), .d (.raw (.pointer none)), .d (.int .i32 0), .d (.int .i32 0)], [(0, 12), (1, 12), (2, 110), (3, 111), (4, 5), (5, 5), (6, 112), (7, 113), (8, 114), (9, 115), (10, 116)], none, none, [], false, none⟩
  | 118 => some ⟨11, 48, true, [.d (.int .u64 0), .d (.int .u64 0), .d (.int .u32 0), .d (.int .u8 0), .d (.int .u8 0), .d (.int .u8 0), .d (.int .u8 0), .d (.raw .nilFunc), .d (.raw (.pointer none)), .d (.int .i32 0), .d (.int .i32 0)], [(0, 12), (1, 12), (2, 110), (3, 111), (4, 5), (5, 5), (6, 112), (7, 113), (8, 114), (9, 115), (10, 116)], none, none, [], false, none⟩
  | 119 => some ⟨1, 8, false, [.d (.raw (.pointer none))], [], none, none, [], false, none⟩
  | _ => none

theorem tt_1 : tt 1 = some ⟨1, 8, false, [.d (.raw .nilFunc)], [], none, none, [], false, none⟩ := rfl
theorem tt_2 : tt 2 = some ⟨1, 8, false, [.d (.int .i64 0)], [], none, some .i64, [], false, none⟩ := rfl
theorem tt_3 : tt 3 = some ⟨1, 8, false, [.d (.int .i64 0)], [], none, some .i64, [], false, none⟩ := rfl
theorem tt_4 : tt 4 = some ⟨1, 1, false, [.d (.bool false)], [], none, none, [], true, none⟩ := rfl
theorem tt_5 : tt 5 = some ⟨1, 1, false, [.d (.int .u8 0)], [], none, some .u8, [], false, none⟩ := rfl
theorem tt_6 : tt 6 = some ⟨1, 1, false, [.d (.int .u8 0)], [], none, some .u8, [], false, none⟩ := rfl
theorem tt_7 : tt 7 = some ⟨4, 24, true, [.d (.int .i64 0), .d (.int .i64 0), .d (.bool false), .d (.int .u8 0)], [(0, 2), (1, 3), (2, 4), (3, 6)], none, none, [true, true, false, true], false, none⟩ := rfl
theorem tt_8 : tt 8 = some ⟨4, 24, true, [.d (.int .i64 0), .d (.int .i64 0), .d (.bool false), .d (.int .u8 0)], [(0, 2), (1, 3), (2, 4), (3, 6)], none, none, [true, true, false, true], false, none⟩ := rfl
theorem tt_12 : tt 12 = some ⟨1, 8, false, [.d (.int .u64 0)], [], none, some .u64, [], false, none⟩ := rfl
theorem tt_15 : tt 15 = some ⟨1, 8, false, [.d (.raw (.pointer none))], [], none, none, [], false, none⟩ := rfl
theorem tt_16 : tt 16 = some ⟨1, 8, false, [.d (.raw (.pointer none))], [], none, none, [], false, none⟩ := rfl
theorem tt_17 : tt 17 = some ⟨1, 8, false, [.d (.raw (.pointer none))], [], none, none, [], false, none⟩ := rfl
theorem tt_18 : tt 18 = some ⟨1, 8, true, [.d (.raw (.pointer none))], [(0, 17)], none, none, [], false, none⟩ := rfl
theorem tt_19 : tt 19 = some ⟨1, 8, true, [.d (.raw (.pointer none))], [(0, 17)], none, none, [], false, none⟩ := rfl
theorem tt_21 : tt 21 = some ⟨1, 4, false, [.d (.int .i32 0)], [], none, some .i32, [], false, none⟩ := rfl
theorem tt_22 : tt 22 = some ⟨1, 24, false, [.nil], [], some 5, none, [], false, none⟩ := rfl
theorem tt_23 : tt 23 = some ⟨1, 8, false, [.d (.raw .nilFunc)], [], none, none, [], false, none⟩ := rfl
theorem tt_24 : tt 24 = some ⟨1, 8, false, [.d (.raw (.pointer none))], [], none, none, [], false, none⟩ := rfl
theorem tt_25 : tt 25 = some ⟨1, 8, false, [.d (.raw .nilFunc)], [], none, none, [], false, none⟩ := rfl
theorem tt_26 : tt 26 = some ⟨1, 8, false, [.d (.raw .nilFunc)], [], none, none, [], false, none⟩ := rfl
theorem tt_27 : tt 27 = some ⟨1, 24, false, [.nil], [], some 41, none, [], false, none⟩ := rfl
theorem tt_28 : tt 28 = some ⟨1, 8, false, [.d (.raw .nilFunc)], [], none, none, [], false, none⟩ := rfl
theorem tt_29 : tt 29 = some ⟨3, 24, true, [.d (.int .i64 0), .d (.int .i64 0), .d (.int .i64 0)], [(0, 3), (1, 3), (2, 3)], none, none, [true, true, true], false, none⟩ := rfl
theorem tt_30 : tt 30 = some ⟨3, 24, true, [.d (.int .i64 0), .d (.int .i64 0), .d (.int .i64 0)], [(0, 3), (1, 3), (2, 3)], none, none, [true, true, true], false, none⟩ := rfl
theorem tt_31 : tt 31 = some ⟨1, 8, false, [.d (.raw .nilFunc)], [], none, none, [], false, none⟩ := rfl
theorem tt_32 : tt 32 = some ⟨1, 24, false, [.nil], [], some 21, none, [], false, none⟩ := rfl
theorem tt_33 : tt 33 = some ⟨2, 32, true, [.d (.int .i64 0), .nil], [(0, 3), (1, 32)], none, none, [], false, none⟩ := rfl
theorem tt_34 : tt 34 = some ⟨2, 32, true, [.d (.int .i64 0), .nil], [(0, 3), (1, 32)], none, none, [], false, none⟩ := rfl
theorem tt_35 : tt 35 = some ⟨1, 24, false, [.nil], [], some 3, none, [], false, none⟩ := rfl
theorem tt_36 : tt 36 = some ⟨3, 40, true, [.d (.int .i64 0), .d (.int .i64 0), .nil], [(0, 3), (1, 3), (2, 35)], none, none, [], false, none⟩ := rfl
theorem tt_37 : tt 37 = some ⟨3, 40, true, [.d (.int .i64 0), .d (.int .i64 0), .nil], [(0, 3), (1, 3), (2, 35)], none, none, [], false, none⟩ := rfl
theorem tt_38 : tt 38 = some ⟨4, 32, true, [.d (.int .i64 0), .d (.int .i64 0), .d (.int .i64 0), .d (.int .i64 0)], [(0, 3), (1, 3), (2, 3), (3, 3)], none, none, [true, true, true, true], false, none⟩ := rfl
theorem tt_39 : tt 39 = some ⟨4, 32, true, [.d (.int .i64 0), .d (.int .i64 0), .d (.int .i64 0), .d (.int .i64 0)], [(0, 3), (1, 3), (2, 3), (3, 3)], none, none, [true, true, true, true], false, none⟩ := rfl
theorem tt_40 : tt 40 = some ⟨9, 104, true, [.d (.int .i64 0), .nil, .d (.int .i64 0), .d (.int .i64 0), .nil, .d (.int .i64 0), .d (.int .i64 0), .d (.int .i64 0), .d (.int .i64 0)], [(0, 34), (2, 37), (5, 39)], none, none, [], false, none⟩ := rfl
theorem tt_41 : tt 41 = some ⟨9, 104, true, [.d (.int .i64 0), .nil, .d (.int .i64 0), .d (.int .i64 0), .nil, .d (.int .i64 0), .d (.int .i64 0), .d (.int .i64 0), .d (.int .i64 0)], [(0, 34), (2, 37), (5, 39)], none, none, [], false, none⟩ := rfl
theorem tt_42 : tt 42 = some ⟨1, 8, false, [.d (.raw .nilFunc)], [], none, none, [], false, none⟩ := rfl
theorem tt_43 : tt 43 = some ⟨1, 8, false, [.d (.int .i64 0)], [], none, some .i64, [], false, none⟩ := rfl
theorem tt_45 : tt 45 = some ⟨1, 8, false, [.d (.raw .nilFunc)], [], none, none, [], false, none⟩ := rfl
theorem tt_46 : tt 46 = some ⟨1, 8, false, [.d (.raw .nilFunc)], [], none, none, [], false, none⟩ := rfl
theorem tt_47 : tt 47 = some ⟨1, 8, false, [.d (.raw .nilFunc)], [], none, none, [], false, none⟩ := rfl
theorem tt_49 : tt 49 = some ⟨1, 8, false, [.d (.raw .nilFunc)], [], none, none, [], false, none⟩ := rfl
theorem tt_50 : tt 50 = some ⟨1, 8, false, [.d (.raw .nilFunc)], [], none, none, [], false, none⟩ := rfl
theorem tt_52 : tt 52 = some ⟨1, 8, false, [.d (.raw .nilFunc)], [], none, none, [], false, none⟩ := rfl
theorem tt_53 : tt 53 = some ⟨1, 24, false, [.nil], [], some 2, none, [], false, none⟩ := rfl
theorem tt_55 : tt 55 = some ⟨1, 8, false, [.d (.raw .nilFunc)], [], none, none, [], false, none⟩ := rfl
theorem tt_56 : tt 56 = some ⟨1, 8, false, [.d (.raw .nilFunc)], [], none, none, [], false, none⟩ := rfl
theorem tt_57 : tt 57 = some ⟨1, 8, false, [.d (.raw .nilFunc)], [], none, none, [], false, none⟩ := rfl
theorem tt_58 : tt 58 = some ⟨1, 24, false, [.nil], [], some 27, none, [], false, none⟩ := rfl
theorem tt_59 : tt 59 = some ⟨2, 16, true, [.d (.int .i64 0), .d (.int .i64 0)], [], none, none, [], false, some 3⟩ := rfl
theorem tt_60 : tt 60 = some ⟨1, 24, false, [.nil], [], some 59, none, [], false, none⟩ := rfl
theorem tt_61 : tt 61 = some ⟨1, 24, false, [.nil], [], some 30, none, [], false, none⟩ := rfl
theorem tt_62 : tt 62 = some ⟨1, 8, false, [.d (.raw .nilFunc)], [], none, none, [], false, none⟩ := rfl
theorem tt_64 : tt 64 = some ⟨1, 8, false, [.d (.raw .nilFunc)], [], none, none, [], false, none⟩ := rfl
theorem tt_65 : tt 65 = some ⟨1, 8, false, [.d (.raw .nilFunc)], [], none, none, [], false, none⟩ := rfl
theorem tt_66 : tt 66 = some ⟨1, 8, false, [.d (.raw .nilFunc)], [], none, none, [], false, none⟩ := rfl
theorem tt_67 : tt 67 = some ⟨1, 8, false, [.d (.raw .nilFunc)], [], none, none, [], false, none⟩ := rfl
theorem tt_68 : tt 68 = some ⟨1, 8, false, [.d (.raw .nilFunc)], [], none, none, [], false, none⟩ := rfl
theorem tt_69 : tt 69 = some ⟨1, 8, false, [.d (.raw .nilFunc)], [], none, none, [], false, none⟩ := rfl
theorem tt_70 : tt 70 = some ⟨1, 24, true, [.nil], [(0, 22)], none, none, [], false, none⟩ := rfl
theorem tt_71 : tt 71 = some ⟨1, 24, true, [.nil], [(0, 22)], none, none, [], false, none⟩ := rfl
theorem tt_72 : tt 72 = some ⟨1, 8, false, [.d (.raw .nilFunc)], [], none, none, [], false, none⟩ := rfl
theorem tt_73 : tt 73 = some ⟨1, 8, false, [.d (.raw .nilFunc)], [], none, none, [], false, none⟩ := rfl
theorem tt_74 : tt 74 = some ⟨1, 8, false, [.d (.raw .nilFunc)], [], none, none, [], false, none⟩ := rfl
theorem tt_75 : tt 75 = some ⟨1, 8, false, [.d (.raw .nilFunc)], [], none, none, [], false, none⟩ := rfl
theorem tt_76 : tt 76 = some ⟨1, 8, false, [.d (.raw .nilFunc)], [], none, none, [], false, none⟩ := rfl
theorem tt_77 : tt 77 = some ⟨1, 8, false, [.d (.raw .nilFunc)], [], none, none, [], false, none⟩ := rfl
theorem tt_78 : tt 78 = some ⟨1, 8, false, [.d (.raw .nilFunc)], [], none, none, [], false, none⟩ := rfl
theorem tt_80 : tt 80 = some ⟨1, 8, false, [.d (.raw .nilFunc)], [], none, none, [], false, none⟩ := rfl
theorem tt_81 : tt 81 = some ⟨1, 8, false, [.d (.raw .nilFunc)], [], none, none, [], false, none⟩ := rfl
theorem tt_82 : tt 82 = some ⟨1, 8, false, [.d (.raw .nilFunc)], [], none, none, [], false, none⟩ := rfl
theorem tt_83 : tt 83 = some ⟨1, 8, false, [.d (.raw .nilFunc)], [], none, none, [], false, none⟩ := rfl
theorem tt_85 : tt 85 = some ⟨1, 8, false, [.d (.raw .nilFunc)], [], none, none, [], false, none⟩ := rfl
theorem tt_86 : tt 86 = some ⟨1, 8, false, [.d (.raw .nilFunc)], [], none, none, [], false, none⟩ := rfl
theorem tt_87 : tt 87 = some ⟨1, 8, false, [.d (.raw .nilFunc)], [], none, none, [], false, none⟩ := rfl
theorem tt_88 : tt 88 = some ⟨1, 8, false, [.d (.raw .nilFunc)], [], none, none, [], false, none⟩ := rfl
theorem tt_89 : tt 89 = some ⟨1, 8, false, [.d (.raw .nilFunc)], [], none, none, [], false, none⟩ := rfl
theorem tt_90 : tt 90 = some ⟨1, 8, false, [.d (.raw .nilFunc)], [], none, none, [], false, none⟩ := rfl
theorem tt_91 : tt 91 = some ⟨1, 8, false, [.d (.raw .nilFunc)], [], none, none, [], false, none⟩ := rfl
theorem tt_92 : tt 92 = some ⟨1, 8, false, [.d (.int .u64 0)], [], none, some .u64, [], false, none⟩ := rfl
theorem tt_93 : tt 93 = some ⟨1, 8, false, [.d (.raw .nilFunc)], [], none, none, [], false, none⟩ := rfl
theorem tt_94 : tt 94 = some ⟨1, 8, false, [.d (.raw .nilFunc)], [], none, none, [], false, none⟩ := rfl
theorem tt_95 : tt 95 = some ⟨1, 8, false, [.d (.raw .nilFunc)], [], none, none, [], false, none⟩ := rfl
theorem tt_96 : tt 96 = some ⟨1, 8, false, [.d (.raw .nilFunc)], [], none, none, [], false, none⟩ := rfl
theorem tt_97 : tt 97 = some ⟨4, 32, true, [.d (.int .i64 0), .d (.int .i64 0), .d (.int .i64 0), .d (.int .i64 0)], [(0, 39)], none, none, [true, true, true, true], false, none⟩ := rfl
theorem tt_98 : tt 98 = some ⟨4, 32, true, [.d (.int .i64 0), .d (.int .i64 0), .d (.int .i64 0), .d (.int .i64 0)], [(0, 39)], none, none, [true, true, true, true], false, none⟩ := rfl
theorem tt_99 : tt 99 = some ⟨1, 8, false, [.d (.raw .nilFunc)], [], none, none, [], false, none⟩ := rfl
theorem tt_100 : tt 100 = some ⟨1, 8, false, [.d (.raw .nilFunc)], [], none, none, [], false, none⟩ := rfl
theorem tt_101 : tt 101 = some ⟨1, 24, false, [.nil], [], some 35, none, [], false, none⟩ := rfl
theorem tt_102 : tt 102 = some ⟨1, 8, false, [.d (.raw .nilFunc)], [], none, none, [], false, none⟩ := rfl
theorem tt_103 : tt 103 = some ⟨1, 8, false, [.d (.raw .nilFunc)], [], none, none, [], false, none⟩ := rfl
theorem tt_106 : tt 106 = some ⟨0, 0, true, [], [], none, none, [], false, some 16⟩ := rfl
theorem tt_107 : tt 107 = some ⟨0, 0, true, [], [(0, 106)], none, none, [], false, none⟩ := rfl
theorem tt_108 : tt 108 = some ⟨0, 0, true, [], [(0, 106)], none, none, [], false, none⟩ := rfl
theorem tt_109 : tt 109 = some ⟨1, 8, false, [.d (.raw .nilFunc)], [], none, none, [], false, none⟩ := rfl
theorem tt_110 : tt 110 = some ⟨1, 4, false, [.d (.int .u32 0)], [], none, some .u32, [], false, none⟩ := rfl
theorem tt_111 : tt 111 = some ⟨1, 1, false, [.d (.int .u8 0)], [], none, some .u8, [], false, none⟩ := rfl
theorem tt_112 : tt 112 = some ⟨1, 1, false, [.d (.int .u8 0)], [], none, some .u8, [], false, none⟩ := rfl
theorem tt_113 : tt 113 = some ⟨1, 8, false, [.d (.raw .nilFunc)], [], none, none, [], false, none⟩ := rfl
theorem tt_114 : tt 114 = some ⟨1, 8, false, [.d (.raw (.pointer none))], [], none, none, [], false, none⟩ := rfl
theorem tt_115 : tt 115 = some ⟨1, 4, false, [.d (.int .i32 0)], [], none, some .i32, [], false, none⟩ := rfl
theorem tt_116 : tt 116 = some ⟨1, 4, false, [.d (.int .i32 0)], [], none, some .i32, [], false, none⟩ := rfl
theorem tt_117 : tt 117 = some ⟨11, 48, true, [.d (.int .u64 0), .d (.int .u64 0), .d (.int .u32 0), .d (.int .u8 0), .d (.int .u8 0), .d (.int .u8 0), .d (.int .u8 0), .d (.raw .nilFunc), .d (.raw (.pointer none)), .d (.int .i32 0), .d (.int .i32 0)], [(0, 12), (1, 12), (2, 110), (3, 111), (4, 5), (5, 5), (6, 112), (7, 113), (8, 114), (9, 115), (10, 116)], none, none, [], false, none⟩ := rfl
theorem tt_118 : tt 118 = some ⟨11, 48, true, [.d (.int .u64 0), .d (.int .u64 0), .d (.int .u32 0), .d (.int .u8 0), .d (.int .u8 0), .d (.int .u8 0), .d (.int .u8 0), .d (.raw .nilFunc), .d (.raw (.pointer none)), .d (.int .i32 0), .d (.int .i32 0)], [(0, 12), (1, 12), (2, 110), (3, 111), (4, 5), (5, 5), (6, 112), (7, 113), (8, 114), (9, 115), (10, 116)], none, none, [], false, none⟩ := rfl
theorem tt_119 : tt 119 = some ⟨1, 8, false, [.d (.raw (.pointer none))], [], none, none, [], false, none⟩ := rfl

set_option linter.defProp false in
/-- The table's equations. -/
def gTT := And.intro (And.intro (And.intro (And.intro (And.intro (And.intro (tt_1) (And.intro (tt_2) (tt_3))) (And.intro (tt_4) (And.intro (tt_5) (tt_6)))) (And.intro (And.intro (tt_7) (And.intro (tt_8) (tt_12))) (And.intro (And.intro (tt_15) (tt_16)) (And.intro (tt_17) (tt_18))))) (And.intro (And.intro (And.intro (tt_19) (And.intro (tt_21) (tt_22))) (And.intro (tt_23) (And.intro (tt_24) (tt_25)))) (And.intro (And.intro (tt_26) (And.intro (tt_27) (tt_28))) (And.intro (And.intro (tt_29) (tt_30)) (And.intro (tt_31) (tt_32)))))) (And.intro (And.intro (And.intro (And.intro (tt_33) (And.intro (tt_34) (tt_35))) (And.intro (tt_36) (And.intro (tt_37) (tt_38)))) (And.intro (And.intro (tt_39) (And.intro (tt_40) (tt_41))) (And.intro (And.intro (tt_42) (tt_43)) (And.intro (tt_45) (tt_46))))) (And.intro (And.intro (And.intro (tt_47) (And.intro (tt_49) (tt_50))) (And.intro (tt_52) (And.intro (tt_53) (tt_55)))) (And.intro (And.intro (tt_56) (And.intro (tt_57) (tt_58))) (And.intro (And.intro (tt_59) (tt_60)) (And.intro (tt_61) (tt_62))))))) (And.intro (And.intro (And.intro (And.intro (And.intro (tt_64) (And.intro (tt_65) (tt_66))) (And.intro (tt_67) (And.intro (tt_68) (tt_69)))) (And.intro (And.intro (tt_70) (And.intro (tt_71) (tt_72))) (And.intro (And.intro (tt_73) (tt_74)) (And.intro (tt_75) (tt_76))))) (And.intro (And.intro (And.intro (tt_77) (And.intro (tt_78) (tt_80))) (And.intro (tt_81) (And.intro (tt_82) (tt_83)))) (And.intro (And.intro (tt_85) (And.intro (tt_86) (tt_87))) (And.intro (And.intro (tt_88) (tt_89)) (And.intro (tt_90) (tt_91)))))) (And.intro (And.intro (And.intro (And.intro (tt_92) (And.intro (tt_93) (tt_94))) (And.intro (tt_95) (And.intro (tt_96) (tt_97)))) (And.intro (And.intro (tt_98) (And.intro (tt_99) (tt_100))) (And.intro (And.intro (tt_101) (tt_102)) (And.intro (tt_103) (tt_106))))) (And.intro (And.intro (And.intro (tt_107) (And.intro (tt_108) (tt_109))) (And.intro (tt_110) (And.intro (tt_111) (tt_112)))) (And.intro (And.intro (tt_113) (And.intro (tt_114) (tt_115))) (And.intro (And.intro (tt_116) (tt_117)) (And.intro (tt_118) (tt_119)))))))
theorem tt_ok : ∀ t ti, tt t = some ti → TI.check Try.prog t ti = true := by
  intro t ti h
  unfold tt at h
  split at h <;> first
    | (cases h; decide +kernel)
    | cases h
theorem tt_mixed : Try.prog.follows .mixedOrders = true := by decide +kernel
end Go.Vam
