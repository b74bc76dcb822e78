/- The types of this translation, checked against it. Conditions: none. -/
import Derived.Test.YteignkkhmkenjaaVamBlk
import Derived.Test.YteignkkhmkenjaaProg
set_option linter.unusedVariables false
namespace Go.Vam
open Go.Proofs

/-- The types of this translation. -/
def tt : TypeId → Option TI
  | 1 => some ⟨1, 8, false, [.d (.raw .nilFunc)], [], none, none, [], false⟩
  | 2 => some ⟨1, 8, false, [.d (.int .i64 0)], [], none, some .i64, [], false⟩
  | 3 => some ⟨1, 8, false, [.d (.int .i64 0)], [], none, some .i64, [], false⟩
  | 4 => some ⟨1, 1, false, [.d (.bool false)], [], none, none, [], true⟩
  | 5 => some ⟨1, 1, false, [.d (.int .u8 0)], [], none, some .u8, [], false⟩
  | 6 => some ⟨1, 1, false, [.d (.int .u8 0)], [], none, some .u8, [], false⟩
  | 7 => some ⟨4, 24, true, [.d (.int .i64 0), .d (.int .i64 0), .d (.bool false), .d (.int .u8 0)], [(0, 2), (1, 3), (2, 4), (3, 6)], none, none, [true, true, false, true], false⟩
  | 8 => some ⟨4, 24, true, [.d (.int .i64 0), .d (.int .i64 0), .d (.bool false), .d (.int .u8 0)], [(0, 2), (1, 3), (2, 4), (3, 6)], none, none, [true, true, false, true], false⟩
  | 12 => some ⟨1, 8, false, [.d (.int .u64 0)], [], none, some .u64, [], false⟩
  | 15 => some ⟨1, 8, false, [.d (.raw (.pointer none))], [], none, none, [], false⟩
  | 16 => some ⟨1, 8, false, [.d (.raw (.pointer none))], [], none, none, [], false⟩
  | 17 => some ⟨1, 8, false, [.d (.raw (.pointer none))], [], none, none, [], false⟩
  | 18 => some ⟨1, 8, true, [.d (.raw (.pointer none))], [(0, 17)], none, none, [], false⟩
  | 19 => some ⟨1, 8, true, [.d (.raw (.pointer none))], [(0, 17)], none, none, [], false⟩
  | 21 => some ⟨1, 4, false, [.d (.int .i32 0)], [], none, some .i32, [], false⟩
  | 22 => some ⟨1, 8, false, [.d (.raw .nilFunc)], [], none, none, [], false⟩
  | 23 => some ⟨1, 24, false, [.nil], [], some 3, none, [], false⟩
  | 24 => some ⟨1, 8, false, [.d (.raw .nilFunc)], [], none, none, [], false⟩
  | 25 => some ⟨1, 24, false, [.nil], [], some 21, none, [], false⟩
  | 26 => some ⟨1, 8, false, [.d (.raw .nilFunc)], [], none, none, [], false⟩
  | 27 => some ⟨1, 8, false, [.d (.raw .nilFunc)], [], none, none, [], false⟩
  | 28 => some ⟨1, 8, false, [.d (.raw .nilFunc)], [], none, none, [], false⟩
  | 29 => some ⟨1, 8, false, [.d (.raw .nilFunc)], [], none, none, [], false⟩
  | 30 => some ⟨1, 2, false, [.d (.int .u16 0)], [], none, some .u16, [], false⟩
  | 31 => some ⟨1, 8, false, [.d (.raw .nilFunc)], [], none, none, [], false⟩
  | 32 => some ⟨1, 2, false, [.d (.int .i16 0)], [], none, some .i16, [], false⟩
  | 33 => some ⟨1, 8, false, [.d (.raw .nilFunc)], [], none, none, [], false⟩
  | 34 => some ⟨4, 32, true, [.d (.int .i64 0), .d (.int .i64 0), .d (.int .i64 0), .d (.int .i64 0)], [(0, 3), (1, 3), (2, 3), (3, 3)], none, none, [true, true, true, true], false⟩
  | 35 => some ⟨4, 32, true, [.d (.int .i64 0), .d (.int .i64 0), .d (.int .i64 0), .d (.int .i64 0)], [(0, 3), (1, 3), (2, 3), (3, 3)], none, none, [true, true, true, true], false⟩
  | 36 => some ⟨1, 24, false, [.nil], [], some 5, none, [], false⟩
  | 37 => some ⟨1, 8, false, [.d (.raw .nilFunc)], [], none, none, [], false⟩
  | 38 => some ⟨1, 8, false, [.d (.raw (.pointer none))], [], none, none, [], false⟩
  | 39 => some ⟨1, 8, false, [.d (.raw .nilFunc)], [], none, none, [], false⟩
  | 40 => some ⟨1, 24, false, [.nil], [], some 35, none, [], false⟩
  | 41 => some ⟨1, 8, false, [.d (.raw .nilFunc)], [], none, none, [], false⟩
  | 42 => some ⟨1, 8, false, [.d (.int .i64 0)], [], none, some .i64, [], false⟩
  | 44 => some ⟨1, 8, false, [.d (.raw .nilFunc)], [], none, none, [], false⟩
  | 45 => some ⟨1, 8, false, [.d (.raw .nilFunc)], [], none, none, [], false⟩
  | 46 => some ⟨1, 8, false, [.d (.raw .nilFunc)], [], none, none, [], false⟩
  | 47 => some ⟨1, 8, false, [.d (.raw .nilFunc)], [], none, none, [], false⟩
  | 48 => some ⟨2, 32, true, [.d (.int .i64 0), .nil], [(0, 3), (1, 25)], none, none, [], false⟩
  | 49 => some ⟨2, 32, true, [.d (.int .i64 0), .nil], [(0, 3), (1, 25)], none, none, [], false⟩
  | 50 => some ⟨1, 8, false, [.d (.raw .nilFunc)], [], none, none, [], false⟩
  | 51 => some ⟨1, 8, false, [.d (.raw .nilFunc)], [], none, none, [], false⟩
  | 52 => some ⟨1, 24, false, [.nil], [], some 49, none, [], false⟩
  | 54 => some ⟨1, 8, false, [.d (.raw .nilFunc)], [], none, none, [], false⟩
  | 55 => some ⟨1, 8, false, [.d (.raw .nilFunc)], [], none, none, [], false⟩
  | 56 => some ⟨1, 8, false, [.d (.raw .nilFunc)], [], none, none, [], false⟩
  | 57 => some ⟨1, 8, false, [.d (.raw .nilFunc)], [], none, none, [], false⟩
  | 58 => some ⟨1, 8, false, [.d (.raw .nilFunc)], [], none, none, [], false⟩
  | 59 => some ⟨1, 8, false, [.d (.raw .nilFunc)], [], none, none, [], false⟩
  | 60 => some ⟨1, 24, false, [.nil], [], some 30, none, [], false⟩
  | 61 => some ⟨1, 8, false, [.d (.raw .nilFunc)], [], none, none, [], false⟩
  | 62 => some ⟨1, 8, false, [.d (.raw .nilFunc)], [], none, none, [], false⟩
  | 63 => some ⟨1, 8, false, [.d (.int .u64 0)], [], none, some .u64, [], false⟩
  | 64 => some ⟨1, 24, true, [.nil], [(0, 36)], none, none, [], false⟩
  | 65 => some ⟨1, 24, true, [.nil], [(0, 36)], none, none, [], false⟩
  | 66 => some ⟨4, 32, true, [.d (.int .i64 0), .d (.int .i64 0), .d (.int .i64 0), .d (.int .i64 0)], [(0, 35)], none, none, [true, true, true, true], false⟩
  | 67 => some ⟨4, 32, true, [.d (.int .i64 0), .d (.int .i64 0), .d (.int .i64 0), .d (.int .i64 0)], [(0, 35)], none, none, [true, true, true, true], false⟩
  | 68 => some ⟨1, 8, false, [.d (.raw .nilFunc)], [], none, none, [], false⟩
  | 69 => some ⟨1, 8, false, [.d (.raw .nilFunc)], [], none, none, [], false⟩
  | 70 => some ⟨1, 8, false, [.d (.raw .nilFunc)], [], none, none, [], false⟩
  | 71 => some ⟨1, 8, false, [.d (.raw .nilFunc)], [], none, none, [], false⟩
  | 72 => some ⟨1, 8, false, [.d (.raw .nilFunc)], [], none, none, [], false⟩
  | 73 => some ⟨1, 8, false, [.d (.raw .nilFunc)], [], none, none, [], false⟩
  | 74 => some ⟨1, 8, false, [.d (.raw .nilFunc)], [], none, none, [], false⟩
  | 77 => some ⟨0, 0, true, [], [], none, none, [], false⟩
  | 78 => some ⟨0, 0, true, [], [(0, 77)], none, none, [], false⟩
  | 79 => some ⟨0, 0, true, [], [(0, 77)], none, none, [], false⟩
  | 80 => some ⟨1, 8, false, [.d (.raw .nilFunc)], [], none, none, [], false⟩
  | 81 => some ⟨1, 4, false, [.d (.int .u32 0)], [], none, some .u32, [], false⟩
  | 82 => some ⟨1, 1, false, [.d (.int .u8 0)], [], none, some .u8, [], false⟩
  | 83 => some ⟨1, 1, false, [.d (.int .u8 0)], [], none, some .u8, [], false⟩
  | 84 => some ⟨1, 8, false, [.d (.raw .nilFunc)], [], none, none, [], false⟩
  | 85 => some ⟨1, 8, false, [.d (.raw (.pointer none))], [], none, none, [], false⟩
  | 86 => some ⟨1, 4, false, [.d (.int .i32 0)], [], none, some .i32, [], false⟩
  | 87 => some ⟨1, 4, false, [.d (.int .i32 0)], [], none, some .i32, [], false⟩
  | 88 => some ⟨11, 48, true, [.d (.int .u64 0), .d (.int .u64 0), .d (.int .u32 0), .d (.int .u8 0), .d (.int .u8 0), .d (.int .u8 0), .d (.int .u8 0), .d (.raw .nilFunc), .d (.raw (.pointer none)), .d (.int .i32 0), .d (.int .i32 0)], [(0, 12), (1, 12), (2, 81), (3, 82), (4, 5), (5, 5), (6, 83), (7, 84), (8, 85), (9, 86), (10, 87)], none, none, [], false⟩
  | 89 => some ⟨11, 48, true, [.d (.int .u64 0), .d (.int .u64 0), .d (.int .u32 0), .d (.int .u8 0), .d (.int .u8 0), .d (.int .u8 0), .d (.int .u8 0), .d (.raw .nilFunc), .d (.raw (.pointer none)), .d (.int .i32 0), .d (.int .i32 0)], [(0, 12), (1, 12), (2, 81), (3, 82), (4, 5), (5, 5), (6, 83), (7, 84), (8, 85), (9, 86), (10, 87)], none, none, [], false⟩
  | 90 => some ⟨1, 8, false, [.d (.raw (.pointer none))], [], none, none, [], false⟩
  | _ => none

theorem tt_1 : tt 1 = some ⟨1, 8, false, [.d (.raw .nilFunc)], [], none, none, [], false⟩ := rfl
theorem tt_2 : tt 2 = some ⟨1, 8, false, [.d (.int .i64 0)], [], none, some .i64, [], false⟩ := rfl
theorem tt_3 : tt 3 = some ⟨1, 8, false, [.d (.int .i64 0)], [], none, some .i64, [], false⟩ := rfl
theorem tt_4 : tt 4 = some ⟨1, 1, false, [.d (.bool false)], [], none, none, [], true⟩ := rfl
theorem tt_5 : tt 5 = some ⟨1, 1, false, [.d (.int .u8 0)], [], none, some .u8, [], false⟩ := rfl
theorem tt_6 : tt 6 = some ⟨1, 1, false, [.d (.int .u8 0)], [], none, some .u8, [], false⟩ := rfl
theorem tt_7 : tt 7 = some ⟨4, 24, true, [.d (.int .i64 0), .d (.int .i64 0), .d (.bool false), .d (.int .u8 0)], [(0, 2), (1, 3), (2, 4), (3, 6)], none, none, [true, true, false, true], false⟩ := rfl
theorem tt_8 : tt 8 = some ⟨4, 24, true, [.d (.int .i64 0), .d (.int .i64 0), .d (.bool false), .d (.int .u8 0)], [(0, 2), (1, 3), (2, 4), (3, 6)], none, none, [true, true, false, true], false⟩ := rfl
theorem tt_12 : tt 12 = some ⟨1, 8, false, [.d (.int .u64 0)], [], none, some .u64, [], false⟩ := rfl
theorem tt_15 : tt 15 = some ⟨1, 8, false, [.d (.raw (.pointer none))], [], none, none, [], false⟩ := rfl
theorem tt_16 : tt 16 = some ⟨1, 8, false, [.d (.raw (.pointer none))], [], none, none, [], false⟩ := rfl
theorem tt_17 : tt 17 = some ⟨1, 8, false, [.d (.raw (.pointer none))], [], none, none, [], false⟩ := rfl
theorem tt_18 : tt 18 = some ⟨1, 8, true, [.d (.raw (.pointer none))], [(0, 17)], none, none, [], false⟩ := rfl
theorem tt_19 : tt 19 = some ⟨1, 8, true, [.d (.raw (.pointer none))], [(0, 17)], none, none, [], false⟩ := rfl
theorem tt_21 : tt 21 = some ⟨1, 4, false, [.d (.int .i32 0)], [], none, some .i32, [], false⟩ := rfl
theorem tt_22 : tt 22 = some ⟨1, 8, false, [.d (.raw .nilFunc)], [], none, none, [], false⟩ := rfl
theorem tt_23 : tt 23 = some ⟨1, 24, false, [.nil], [], some 3, none, [], false⟩ := rfl
theorem tt_24 : tt 24 = some ⟨1, 8, false, [.d (.raw .nilFunc)], [], none, none, [], false⟩ := rfl
theorem tt_25 : tt 25 = some ⟨1, 24, false, [.nil], [], some 21, none, [], false⟩ := rfl
theorem tt_26 : tt 26 = some ⟨1, 8, false, [.d (.raw .nilFunc)], [], none, none, [], false⟩ := rfl
theorem tt_27 : tt 27 = some ⟨1, 8, false, [.d (.raw .nilFunc)], [], none, none, [], false⟩ := rfl
theorem tt_28 : tt 28 = some ⟨1, 8, false, [.d (.raw .nilFunc)], [], none, none, [], false⟩ := rfl
theorem tt_29 : tt 29 = some ⟨1, 8, false, [.d (.raw .nilFunc)], [], none, none, [], false⟩ := rfl
theorem tt_30 : tt 30 = some ⟨1, 2, false, [.d (.int .u16 0)], [], none, some .u16, [], false⟩ := rfl
theorem tt_31 : tt 31 = some ⟨1, 8, false, [.d (.raw .nilFunc)], [], none, none, [], false⟩ := rfl
theorem tt_32 : tt 32 = some ⟨1, 2, false, [.d (.int .i16 0)], [], none, some .i16, [], false⟩ := rfl
theorem tt_33 : tt 33 = some ⟨1, 8, false, [.d (.raw .nilFunc)], [], none, none, [], false⟩ := rfl
theorem tt_34 : tt 34 = some ⟨4, 32, true, [.d (.int .i64 0), .d (.int .i64 0), .d (.int .i64 0), .d (.int .i64 0)], [(0, 3), (1, 3), (2, 3), (3, 3)], none, none, [true, true, true, true], false⟩ := rfl
theorem tt_35 : tt 35 = some ⟨4, 32, true, [.d (.int .i64 0), .d (.int .i64 0), .d (.int .i64 0), .d (.int .i64 0)], [(0, 3), (1, 3), (2, 3), (3, 3)], none, none, [true, true, true, true], false⟩ := rfl
theorem tt_36 : tt 36 = some ⟨1, 24, false, [.nil], [], some 5, none, [], false⟩ := rfl
theorem tt_37 : tt 37 = some ⟨1, 8, false, [.d (.raw .nilFunc)], [], none, none, [], false⟩ := rfl
theorem tt_38 : tt 38 = some ⟨1, 8, false, [.d (.raw (.pointer none))], [], none, none, [], false⟩ := rfl
theorem tt_39 : tt 39 = some ⟨1, 8, false, [.d (.raw .nilFunc)], [], none, none, [], false⟩ := rfl
theorem tt_40 : tt 40 = some ⟨1, 24, false, [.nil], [], some 35, none, [], false⟩ := rfl
theorem tt_41 : tt 41 = some ⟨1, 8, false, [.d (.raw .nilFunc)], [], none, none, [], false⟩ := rfl
theorem tt_42 : tt 42 = some ⟨1, 8, false, [.d (.int .i64 0)], [], none, some .i64, [], false⟩ := rfl
theorem tt_44 : tt 44 = some ⟨1, 8, false, [.d (.raw .nilFunc)], [], none, none, [], false⟩ := rfl
theorem tt_45 : tt 45 = some ⟨1, 8, false, [.d (.raw .nilFunc)], [], none, none, [], false⟩ := rfl
theorem tt_46 : tt 46 = some ⟨1, 8, false, [.d (.raw .nilFunc)], [], none, none, [], false⟩ := rfl
theorem tt_47 : tt 47 = some ⟨1, 8, false, [.d (.raw .nilFunc)], [], none, none, [], false⟩ := rfl
theorem tt_48 : tt 48 = some ⟨2, 32, true, [.d (.int .i64 0), .nil], [(0, 3), (1, 25)], none, none, [], false⟩ := rfl
theorem tt_49 : tt 49 = some ⟨2, 32, true, [.d (.int .i64 0), .nil], [(0, 3), (1, 25)], none, none, [], false⟩ := rfl
theorem tt_50 : tt 50 = some ⟨1, 8, false, [.d (.raw .nilFunc)], [], none, none, [], false⟩ := rfl
theorem tt_51 : tt 51 = some ⟨1, 8, false, [.d (.raw .nilFunc)], [], none, none, [], false⟩ := rfl
theorem tt_52 : tt 52 = some ⟨1, 24, false, [.nil], [], some 49, none, [], false⟩ := rfl
theorem tt_54 : tt 54 = some ⟨1, 8, false, [.d (.raw .nilFunc)], [], none, none, [], false⟩ := rfl
theorem tt_55 : tt 55 = some ⟨1, 8, false, [.d (.raw .nilFunc)], [], none, none, [], false⟩ := rfl
theorem tt_56 : tt 56 = some ⟨1, 8, false, [.d (.raw .nilFunc)], [], none, none, [], false⟩ := rfl
theorem tt_57 : tt 57 = some ⟨1, 8, false, [.d (.raw .nilFunc)], [], none, none, [], false⟩ := rfl
theorem tt_58 : tt 58 = some ⟨1, 8, false, [.d (.raw .nilFunc)], [], none, none, [], false⟩ := rfl
theorem tt_59 : tt 59 = some ⟨1, 8, false, [.d (.raw .nilFunc)], [], none, none, [], false⟩ := rfl
theorem tt_60 : tt 60 = some ⟨1, 24, false, [.nil], [], some 30, none, [], false⟩ := rfl
theorem tt_61 : tt 61 = some ⟨1, 8, false, [.d (.raw .nilFunc)], [], none, none, [], false⟩ := rfl
theorem tt_62 : tt 62 = some ⟨1, 8, false, [.d (.raw .nilFunc)], [], none, none, [], false⟩ := rfl
theorem tt_63 : tt 63 = some ⟨1, 8, false, [.d (.int .u64 0)], [], none, some .u64, [], false⟩ := rfl
theorem tt_64 : tt 64 = some ⟨1, 24, true, [.nil], [(0, 36)], none, none, [], false⟩ := rfl
theorem tt_65 : tt 65 = some ⟨1, 24, true, [.nil], [(0, 36)], none, none, [], false⟩ := rfl
theorem tt_66 : tt 66 = some ⟨4, 32, true, [.d (.int .i64 0), .d (.int .i64 0), .d (.int .i64 0), .d (.int .i64 0)], [(0, 35)], none, none, [true, true, true, true], false⟩ := rfl
theorem tt_67 : tt 67 = some ⟨4, 32, true, [.d (.int .i64 0), .d (.int .i64 0), .d (.int .i64 0), .d (.int .i64 0)], [(0, 35)], none, none, [true, true, true, true], false⟩ := rfl
theorem tt_68 : tt 68 = some ⟨1, 8, false, [.d (.raw .nilFunc)], [], none, none, [], false⟩ := rfl
theorem tt_69 : tt 69 = some ⟨1, 8, false, [.d (.raw .nilFunc)], [], none, none, [], false⟩ := rfl
theorem tt_70 : tt 70 = some ⟨1, 8, false, [.d (.raw .nilFunc)], [], none, none, [], false⟩ := rfl
theorem tt_71 : tt 71 = some ⟨1, 8, false, [.d (.raw .nilFunc)], [], none, none, [], false⟩ := rfl
theorem tt_72 : tt 72 = some ⟨1, 8, false, [.d (.raw .nilFunc)], [], none, none, [], false⟩ := rfl
theorem tt_73 : tt 73 = some ⟨1, 8, false, [.d (.raw .nilFunc)], [], none, none, [], false⟩ := rfl
theorem tt_74 : tt 74 = some ⟨1, 8, false, [.d (.raw .nilFunc)], [], none, none, [], false⟩ := rfl
theorem tt_77 : tt 77 = some ⟨0, 0, true, [], [], none, none, [], false⟩ := rfl
theorem tt_78 : tt 78 = some ⟨0, 0, true, [], [(0, 77)], none, none, [], false⟩ := rfl
theorem tt_79 : tt 79 = some ⟨0, 0, true, [], [(0, 77)], none, none, [], false⟩ := rfl
theorem tt_80 : tt 80 = some ⟨1, 8, false, [.d (.raw .nilFunc)], [], none, none, [], false⟩ := rfl
theorem tt_81 : tt 81 = some ⟨1, 4, false, [.d (.int .u32 0)], [], none, some .u32, [], false⟩ := rfl
theorem tt_82 : tt 82 = some ⟨1, 1, false, [.d (.int .u8 0)], [], none, some .u8, [], false⟩ := rfl
theorem tt_83 : tt 83 = some ⟨1, 1, false, [.d (.int .u8 0)], [], none, some .u8, [], false⟩ := rfl
theorem tt_84 : tt 84 = some ⟨1, 8, false, [.d (.raw .nilFunc)], [], none, none, [], false⟩ := rfl
theorem tt_85 : tt 85 = some ⟨1, 8, false, [.d (.raw (.pointer none))], [], none, none, [], false⟩ := rfl
theorem tt_86 : tt 86 = some ⟨1, 4, false, [.d (.int .i32 0)], [], none, some .i32, [], false⟩ := rfl
theorem tt_87 : tt 87 = some ⟨1, 4, false, [.d (.int .i32 0)], [], none, some .i32, [], false⟩ := rfl
theorem tt_88 : tt 88 = some ⟨11, 48, true, [.d (.int .u64 0), .d (.int .u64 0), .d (.int .u32 0), .d (.int .u8 0), .d (.int .u8 0), .d (.int .u8 0), .d (.int .u8 0), .d (.raw .nilFunc), .d (.raw (.pointer none)), .d (.int .i32 0), .d (.int .i32 0)], [(0, 12), (1, 12), (2, 81), (3, 82), (4, 5), (5, 5), (6, 83), (7, 84), (8, 85), (9, 86), (10, 87)], none, none, [], false⟩ := rfl
theorem tt_89 : tt 89 = some ⟨11, 48, true, [.d (.int .u64 0), .d (.int .u64 0), .d (.int .u32 0), .d (.int .u8 0), .d (.int .u8 0), .d (.int .u8 0), .d (.int .u8 0), .d (.raw .nilFunc), .d (.raw (.pointer none)), .d (.int .i32 0), .d (.int .i32 0)], [(0, 12), (1, 12), (2, 81), (3, 82), (4, 5), (5, 5), (6, 83), (7, 84), (8, 85), (9, 86), (10, 87)], none, none, [], false⟩ := rfl
theorem tt_90 : tt 90 = some ⟨1, 8, false, [.d (.raw (.pointer none))], [], none, none, [], false⟩ := rfl

theorem tt_ok : ∀ t ti, tt t = some ti → TI.check Try.prog t ti = true := by
  intro t ti h
  unfold tt at h
  split at h <;> first
    | (cases h; decide +kernel)
    | cases h
theorem tt_mixed : Try.prog.follows .mixedOrders = true := by decide +kernel
end Go.Vam
