/- The types of this translation, checked against it. Conditions: none. -/
import Derived.Test.YtmpbpijnbmpbhaaGreatVl
import Derived.Test.YtmpbpijnbmpbhaaGreatVm
import Derived.Test.YtmpbpijnbmpbhaaGreatProg
set_option linter.unusedVariables false
set_option linter.defProp false
set_option maxRecDepth 40000
namespace Go.Vam
open Go.Proofs
def tt0 : TypeId → Option TI
  | 1 => some ⟨1, 8, false, [.d (.raw .nilFunc)], [], none, none, [], false, none⟩
  | 2 => some ⟨1, 8, false, [.d (.int .i64 0)], [], none, some .i64, [], false, none⟩
  | 3 => some ⟨1, 8, false, [.d (.int .i64 0)], [], none, some .i64, [], false, none⟩
  | 4 => some ⟨1, 1, false, [.d (.bool false)], [], none, none, [], true, none⟩
  | 5 => some ⟨1, 1, false, [.d (.int .u8 0)], [], none, some .u8, [], false, none⟩
  | 6 => some ⟨1, 1, false, [.d (.int .u8 0)], [], none, some .u8, [], false, none⟩
  | 7 => some ⟨4, 24, true, [.d (.int .i64 0), .d (.int .i64 0), .d (.bool false), .d (.int .u8 0)], [(0, 2), (1, 3), (2, 4), (3, 6)], none, none, [true, true, false, true], false, none⟩
  | 8 => some ⟨4, 24, true, [.d (.int .i64 0), .d (.int .i64 0), .d (.bool false), .d (.int .u8 0)], [(0, 2), (1, 3), (2, 4), (3, 6)], none, none, [true, true, false, true], false, none⟩
  | 9 => some ⟨1, 16, false, [.d (.str ⟨#[]⟩)], [], none, none, [], false, none⟩
  | 10 => some ⟨1, 16, false, [.d (.str ⟨#[]⟩)], [], none, none, [], false, none⟩
  | 11 => some ⟨1, 16, false, [.d (.str ⟨#[]⟩)], [], none, none, [], false, none⟩
  | 12 => some ⟨1, 8, false, [.d (.int .u64 0)], [], none, some .u64, [], false, none⟩
  | 13 => some ⟨2, 24, true, [.d (.str ⟨#[]⟩), .d (.int .u64 0)], [(0, 9), (1, 12)], none, none, [], false, none⟩
  | 14 => some ⟨2, 24, true, [.d (.str ⟨#[]⟩), .d (.int .u64 0)], [(0, 9), (1, 12)], none, none, [], false, none⟩
  | 15 => some ⟨1, 8, false, [.d (.raw (.pointer none))], [], none, none, [], false, none⟩
  | 16 => some ⟨1, 8, false, [.d (.raw (.pointer none))], [], none, none, [], false, none⟩
  | 17 => some ⟨1, 8, false, [.d (.raw (.pointer none))], [], none, none, [], false, none⟩
  | 18 => some ⟨1, 8, true, [.d (.raw (.pointer none))], [(0, 17)], none, none, [], false, none⟩
  | 19 => some ⟨1, 8, true, [.d (.raw (.pointer none))], [(0, 17)], none, none, [], false, none⟩
  | 21 => some ⟨1, 4, false, [.d (.int .i32 0)], [], none, some .i32, [], false, none⟩
  | 22 => some ⟨1, 24, false, [.nil], [], some 5, none, [], false, none⟩
  | 23 => some ⟨1, 8, false, [.d (.raw .nilFunc)], [], none, none, [], false, none⟩
  | 24 => some ⟨1, 8, false, [.d (.raw (.pointer none))], [], none, none, [], false, none⟩
  | 25 => some ⟨1, 8, false, [.d (.raw .nilFunc)], [], none, none, [], false, none⟩
  | 26 => some ⟨1, 24, false, [.nil], [], some 3, none, [], false, none⟩
  | 27 => some ⟨1, 8, false, [.d (.raw .nilFunc)], [], none, none, [], false, none⟩
  | 28 => some ⟨1, 8, false, [.d (.int .u64 0)], [], none, some .u64, [], false, none⟩
  | 29 => some ⟨1, 24, false, [.nil], [], some 134, none, [], false, none⟩
  | 30 => some ⟨8, 88, true, [.d (.int .u64 0), .d (.str ⟨#[]⟩), .d (.int .i64 0), .d (.int .i64 0), .d (.int .i64 0), .d (.int .i64 0), .d (.int .i64 0), .nil], [(0, 28), (1, 9), (2, 3), (3, 3), (4, 3), (5, 3), (6, 3), (7, 29)], none, none, [], false, none⟩
  | 31 => some ⟨8, 88, true, [.d (.int .u64 0), .d (.str ⟨#[]⟩), .d (.int .i64 0), .d (.int .i64 0), .d (.int .i64 0), .d (.int .i64 0), .d (.int .i64 0), .nil], [(0, 28), (1, 9), (2, 3), (3, 3), (4, 3), (5, 3), (6, 3), (7, 29)], none, none, [], false, none⟩
  | 32 => some ⟨3, 40, true, [.d (.int .i64 0), .d (.int .i64 0), .nil], [(0, 3), (1, 3), (2, 26)], none, none, [], false, none⟩
  | 33 => some ⟨3, 40, true, [.d (.int .i64 0), .d (.int .i64 0), .nil], [(0, 3), (1, 3), (2, 26)], none, none, [], false, none⟩
  | 34 => some ⟨4, 48, true, [.d (.int .i64 0), .d (.int .i64 0), .nil, .d (.int .i64 0)], [(0, 33), (3, 3)], none, none, [], false, none⟩
  | 35 => some ⟨4, 48, true, [.d (.int .i64 0), .d (.int .i64 0), .nil, .d (.int .i64 0)], [(0, 33), (3, 3)], none, none, [], false, none⟩
  | 36 => some ⟨1, 24, false, [.nil], [], some 211, none, [], false, none⟩
  | 37 => some ⟨1, 24, true, [.nil], [(0, 36)], none, none, [], false, none⟩
  | 38 => some ⟨1, 24, true, [.nil], [(0, 36)], none, none, [], false, none⟩
  | 39 => some ⟨4, 32, true, [.d (.int .i64 0), .d (.int .i64 0), .d (.int .i64 0), .d (.int .i64 0)], [(0, 3), (1, 3), (2, 3), (3, 3)], none, none, [true, true, true, true], false, none⟩
  | 40 => some ⟨4, 32, true, [.d (.int .i64 0), .d (.int .i64 0), .d (.int .i64 0), .d (.int .i64 0)], [(0, 3), (1, 3), (2, 3), (3, 3)], none, none, [true, true, true, true], false, none⟩
  | 41 => some ⟨2, 16, true, [.d (.int .i64 0), .d (.int .i64 0)], [(0, 2), (1, 2)], none, none, [true, true], false, none⟩
  | 42 => some ⟨2, 16, true, [.d (.int .i64 0), .d (.int .i64 0)], [(0, 2), (1, 2)], none, none, [true, true], false, none⟩
  | 43 => some ⟨5, 40, true, [.d (.int .i64 0), .d (.int .i64 0), .d (.int .i64 0), .d (.int .i64 0), .d (.int .i64 0)], [(0, 42), (2, 3), (3, 2), (4, 2)], none, none, [true, true, true, true, true], false, none⟩
  | 44 => some ⟨5, 40, true, [.d (.int .i64 0), .d (.int .i64 0), .d (.int .i64 0), .d (.int .i64 0), .d (.int .i64 0)], [(0, 42), (2, 3), (3, 2), (4, 2)], none, none, [true, true, true, true, true], false, none⟩
  | 45 => some ⟨1, 24, false, [.nil], [], some 21, none, [], false, none⟩
  | 46 => some ⟨7, 72, true, [.d (.int .i64 0), .d (.int .i64 0), .d (.int .i64 0), .d (.int .i64 0), .d (.int .i64 0), .d (.int .i64 0), .nil], [(0, 3), (1, 44), (6, 45)], none, none, [], false, none⟩
  | 47 => some ⟨7, 72, true, [.d (.int .i64 0), .d (.int .i64 0), .d (.int .i64 0), .d (.int .i64 0), .d (.int .i64 0), .d (.int .i64 0), .nil], [(0, 3), (1, 44), (6, 45)], none, none, [], false, none⟩
  | 48 => some ⟨14, 128, true, [.d (.int .i64 0), .d (.int .i64 0), .d (.int .i64 0), .d (.int .i64 0), .d (.int .i64 0), .d (.int .i64 0), .d (.int .i64 0), .d (.int .i64 0), .d (.int .i64 0), .d (.int .i64 0), .d (.int .i64 0), .nil, .d (.int .i64 0), .d (.int .i64 0)], [(0, 3), (1, 40), (5, 47), (12, 3), (13, 3)], none, none, [], false, none⟩
  | 49 => some ⟨14, 128, true, [.d (.int .i64 0), .d (.int .i64 0), .d (.int .i64 0), .d (.int .i64 0), .d (.int .i64 0), .d (.int .i64 0), .d (.int .i64 0), .d (.int .i64 0), .d (.int .i64 0), .d (.int .i64 0), .d (.int .i64 0), .nil, .d (.int .i64 0), .d (.int .i64 0)], [(0, 3), (1, 40), (5, 47), (12, 3), (13, 3)], none, none, [], false, none⟩
  | 50 => some ⟨31, 320, true, [.d (.int .u64 0), .d (.str ⟨#[]⟩), .d (.int .i64 0), .d (.int .i64 0), .d (.int .i64 0), .d (.int .i64 0), .d (.int .i64 0), .nil, .d (.int .i64 0), .d (.int .i64 0), .nil, .d (.int .i64 0), .d (.int .i64 0), .d (.int .i64 0), .nil, .d (.bool false), .d (.int .i64 0), .d (.int .i64 0), .d (.int .i64 0), .d (.int .i64 0), .d (.int .i64 0), .d (.int .i64 0), .d (.int .i64 0), .d (.int .i64 0), .d (.int .i64 0), .d (.int .i64 0), .d (.int .i64 0), .d (.int .i64 0), .nil, .d (.int .i64 0), .d (.int .i64 0)], [(0, 31), (8, 35), (12, 3), (13, 3), (14, 38), (15, 4), (16, 2), (17, 49)], none, none, [], false, none⟩
  | 51 => some ⟨31, 320, true, [.d (.int .u64 0), .d (.str ⟨#[]⟩), .d (.int .i64 0), .d (.int .i64 0), .d (.int .i64 0), .d (.int .i64 0), .d (.int .i64 0), .nil, .d (.int .i64 0), .d (.int .i64 0), .nil, .d (.int .i64 0), .d (.int .i64 0), .d (.int .i64 0), .nil, .d (.bool false), .d (.int .i64 0), .d (.int .i64 0), .d (.int .i64 0), .d (.int .i64 0), .d (.int .i64 0), .d (.int .i64 0), .d (.int .i64 0), .d (.int .i64 0), .d (.int .i64 0), .d (.int .i64 0), .d (.int .i64 0), .d (.int .i64 0), .nil, .d (.int .i64 0), .d (.int .i64 0)], [(0, 31), (8, 35), (12, 3), (13, 3), (14, 38), (15, 4), (16, 2), (17, 49)], none, none, [], false, none⟩
  | 53 => some ⟨1, 8, false, [.d (.raw .nilFunc)], [], none, none, [], false, none⟩
  | 54 => some ⟨5, 56, true, [.d (.int .i64 0), .d (.int .i64 0), .d (.int .i64 0), .d (.int .i64 0), .nil], [(0, 3), (1, 3), (2, 2), (3, 2), (4, 45)], none, none, [], false, none⟩
  | 55 => some ⟨5, 56, true, [.d (.int .i64 0), .d (.int .i64 0), .d (.int .i64 0), .d (.int .i64 0), .nil], [(0, 3), (1, 3), (2, 2), (3, 2), (4, 45)], none, none, [], false, none⟩
  | 56 => some ⟨19, 184, true, [.d (.int .i64 0), .d (.int .i64 0), .d (.int .i64 0), .d (.int .i64 0), .d (.int .i64 0), .d (.int .i64 0), .d (.int .i64 0), .d (.int .i64 0), .d (.int .i64 0), .d (.int .i64 0), .nil, .d (.int .i64 0), .d (.int .i64 0), .d (.int .i64 0), .d (.int .i64 0), .nil, .d (.int .i64 0), .d (.int .i64 0), .d (.int .i64 0)], [(0, 3), (1, 3), (2, 3), (3, 3), (4, 47), (11, 55), (16, 2), (17, 2), (18, 2)], none, none, [], false, none⟩
  | 57 => some ⟨19, 184, true, [.d (.int .i64 0), .d (.int .i64 0), .d (.int .i64 0), .d (.int .i64 0), .d (.int .i64 0), .d (.int .i64 0), .d (.int .i64 0), .d (.int .i64 0), .d (.int .i64 0), .d (.int .i64 0), .nil, .d (.int .i64 0), .d (.int .i64 0), .d (.int .i64 0), .d (.int .i64 0), .nil, .d (.int .i64 0), .d (.int .i64 0), .d (.int .i64 0)], [(0, 3), (1, 3), (2, 3), (3, 3), (4, 47), (11, 55), (16, 2), (17, 2), (18, 2)], none, none, [], false, none⟩
  | 58 => some ⟨1, 8, false, [.d (.int .i64 0)], [], none, some .i64, [], false, none⟩
  | 60 => some ⟨1, 8, false, [.d (.raw .nilFunc)], [], none, none, [], false, none⟩
  | 61 => some ⟨1, 8, false, [.d (.raw .nilFunc)], [], none, none, [], false, none⟩
  | 62 => some ⟨2, 32, true, [.d (.int .i64 0), .nil], [(0, 3), (1, 45)], none, none, [], false, none⟩
  | 63 => some ⟨2, 32, true, [.d (.int .i64 0), .nil], [(0, 3), (1, 45)], none, none, [], false, none⟩
  | 65 => some ⟨1, 8, false, [.d (.raw .nilFunc)], [], none, none, [], false, none⟩
  | 66 => some ⟨1, 8, false, [.d (.raw .nilFunc)], [], none, none, [], false, none⟩
  | 67 => some ⟨1, 8, false, [.d (.raw .nilFunc)], [], none, none, [], false, none⟩
  | 69 => some ⟨1, 8, false, [.d (.raw .nilFunc)], [], none, none, [], false, none⟩
  | _ => none
def tt1 : TypeId → Option TI
  | 71 => some ⟨1, 8, false, [.d (.raw .nilFunc)], [], none, none, [], false, none⟩
  | 73 => some ⟨1, 8, false, [.d (.raw .nilFunc)], [], none, none, [], false, none⟩
  | 74 => some ⟨1, 8, false, [.d (.raw .nilFunc)], [], none, none, [], false, none⟩
  | 75 => some ⟨1, 8, false, [.d (.raw .nilFunc)], [], none, none, [], false, none⟩
  | 76 => some ⟨1, 8, false, [.d (.raw .nilFunc)], [], none, none, [], false, none⟩
  | 77 => some ⟨1, 8, false, [.d (.raw .nilFunc)], [], none, none, [], false, none⟩
  | 78 => some ⟨1, 24, false, [.nil], [], some 57, none, [], false, none⟩
  | 79 => some ⟨1, 8, false, [.d (.raw .nilFunc)], [], none, none, [], false, none⟩
  | 80 => some ⟨1, 8, false, [.d (.raw .nilFunc)], [], none, none, [], false, none⟩
  | 82 => some ⟨1, 8, false, [.d (.raw .nilFunc)], [], none, none, [], false, none⟩
  | 83 => some ⟨1, 8, false, [.d (.raw .nilFunc)], [], none, none, [], false, none⟩
  | 84 => some ⟨1, 8, false, [.d (.raw .nilFunc)], [], none, none, [], false, none⟩
  | 85 => some ⟨1, 8, false, [.d (.raw .nilFunc)], [], none, none, [], false, none⟩
  | 87 => some ⟨1, 8, false, [.d (.raw .nilFunc)], [], none, none, [], false, none⟩
  | 88 => some ⟨3, 40, true, [.d (.int .i64 0), .d (.int .i64 0), .nil], [(0, 3), (1, 3), (2, 26)], none, none, [], false, none⟩
  | 89 => some ⟨3, 40, true, [.d (.int .i64 0), .d (.int .i64 0), .nil], [(0, 3), (1, 3), (2, 26)], none, none, [], false, none⟩
  | 90 => some ⟨16, 192, true, [.d (.int .i64 0), .d (.int .i64 0), .nil, .d (.int .i64 0), .d (.int .i64 0), .nil, .d (.int .i64 0), .d (.int .i64 0), .nil, .d (.int .i64 0), .d (.int .i64 0), .d (.int .i64 0), .d (.int .i64 0), .d (.int .i64 0), .d (.int .i64 0), .nil], [(0, 33), (3, 33), (6, 89), (9, 47)], none, none, [], false, none⟩
  | 91 => some ⟨16, 192, true, [.d (.int .i64 0), .d (.int .i64 0), .nil, .d (.int .i64 0), .d (.int .i64 0), .nil, .d (.int .i64 0), .d (.int .i64 0), .nil, .d (.int .i64 0), .d (.int .i64 0), .d (.int .i64 0), .d (.int .i64 0), .d (.int .i64 0), .d (.int .i64 0), .nil], [(0, 33), (3, 33), (6, 89), (9, 47)], none, none, [], false, none⟩
  | 93 => some ⟨1, 8, false, [.d (.raw .nilFunc)], [], none, none, [], false, none⟩
  | 95 => some ⟨1, 8, false, [.d (.raw .nilFunc)], [], none, none, [], false, none⟩
  | 96 => some ⟨1, 8, false, [.d (.raw .nilFunc)], [], none, none, [], false, none⟩
  | 97 => some ⟨1, 24, false, [.nil], [], some 63, none, [], false, none⟩
  | 98 => some ⟨1, 8, false, [.d (.raw .nilFunc)], [], none, none, [], false, none⟩
  | 99 => some ⟨1, 8, false, [.d (.raw .nilFunc)], [], none, none, [], false, none⟩
  | 100 => some ⟨3, 24, true, [.d (.int .i64 0), .d (.int .i64 0), .d (.int .i64 0)], [(0, 3), (1, 3), (2, 3)], none, none, [true, true, true], false, none⟩
  | 101 => some ⟨3, 24, true, [.d (.int .i64 0), .d (.int .i64 0), .d (.int .i64 0)], [(0, 3), (1, 3), (2, 3)], none, none, [true, true, true], false, none⟩
  | 103 => some ⟨1, 8, false, [.d (.raw .nilFunc)], [], none, none, [], false, none⟩
  | 105 => some ⟨1, 8, false, [.d (.raw .nilFunc)], [], none, none, [], false, none⟩
  | 107 => some ⟨1, 8, false, [.d (.raw .nilFunc)], [], none, none, [], false, none⟩
  | 109 => some ⟨1, 8, false, [.d (.raw .nilFunc)], [], none, none, [], false, none⟩
  | 110 => some ⟨4, 32, true, [.d (.int .i64 0), .d (.int .i64 0), .d (.int .i64 0), .d (.int .i64 0)], [(0, 3), (1, 3), (2, 3), (3, 3)], none, none, [true, true, true, true], false, none⟩
  | 111 => some ⟨4, 32, true, [.d (.int .i64 0), .d (.int .i64 0), .d (.int .i64 0), .d (.int .i64 0)], [(0, 3), (1, 3), (2, 3), (3, 3)], none, none, [true, true, true, true], false, none⟩
  | 112 => some ⟨9, 104, true, [.d (.int .i64 0), .nil, .d (.int .i64 0), .d (.int .i64 0), .nil, .d (.int .i64 0), .d (.int .i64 0), .d (.int .i64 0), .d (.int .i64 0)], [(0, 63), (2, 89), (5, 111)], none, none, [], false, none⟩
  | 113 => some ⟨9, 104, true, [.d (.int .i64 0), .nil, .d (.int .i64 0), .d (.int .i64 0), .nil, .d (.int .i64 0), .d (.int .i64 0), .d (.int .i64 0), .d (.int .i64 0)], [(0, 63), (2, 89), (5, 111)], none, none, [], false, none⟩
  | 114 => some ⟨1, 24, false, [.nil], [], some 113, none, [], false, none⟩
  | 115 => some ⟨1, 8, false, [.d (.raw .nilFunc)], [], none, none, [], false, none⟩
  | 117 => some ⟨1, 8, false, [.d (.raw .nilFunc)], [], none, none, [], false, none⟩
  | 119 => some ⟨1, 8, false, [.d (.raw .nilFunc)], [], none, none, [], false, none⟩
  | 120 => some ⟨1, 8, false, [.d (.raw .nilFunc)], [], none, none, [], false, none⟩
  | 121 => some ⟨1, 24, false, [.nil], [], some 2, none, [], false, none⟩
  | 122 => some ⟨1, 8, false, [.d (.raw .nilFunc)], [], none, none, [], false, none⟩
  | 123 => some ⟨1, 8, false, [.d (.raw .nilFunc)], [], none, none, [], false, none⟩
  | 124 => some ⟨1, 24, true, [.nil], [(0, 22)], none, none, [], false, none⟩
  | 125 => some ⟨1, 24, true, [.nil], [(0, 22)], none, none, [], false, none⟩
  | 126 => some ⟨1, 24, false, [.nil], [], some 26, none, [], false, none⟩
  | 127 => some ⟨1, 8, false, [.d (.raw .nilFunc)], [], none, none, [], false, none⟩
  | 128 => some ⟨2, 16, true, [.d (.int .i64 0), .d (.int .i64 0)], [(0, 3), (1, 3)], none, none, [true, true], false, none⟩
  | 129 => some ⟨2, 16, true, [.d (.int .i64 0), .d (.int .i64 0)], [(0, 3), (1, 3)], none, none, [true, true], false, none⟩
  | 130 => some ⟨1, 24, false, [.nil], [], some 129, none, [], false, none⟩
  | 131 => some ⟨1, 24, true, [.nil], [(0, 130)], none, none, [], false, none⟩
  | 132 => some ⟨1, 24, true, [.nil], [(0, 130)], none, none, [], false, none⟩
  | 133 => some ⟨4, 80, true, [.d (.int .i64 0), .nil, .nil, .nil], [(0, 3), (1, 132), (2, 126), (3, 132)], none, none, [], false, none⟩
  | 134 => some ⟨4, 80, true, [.d (.int .i64 0), .nil, .nil, .nil], [(0, 3), (1, 132), (2, 126), (3, 132)], none, none, [], false, none⟩
  | 136 => some ⟨1, 8, false, [.d (.raw .nilFunc)], [], none, none, [], false, none⟩
  | 137 => some ⟨1, 8, false, [.d (.raw .nilFunc)], [], none, none, [], false, none⟩
  | 138 => some ⟨1, 8, false, [.d (.raw .nilFunc)], [], none, none, [], false, none⟩
  | 140 => some ⟨1, 8, false, [.d (.raw .nilFunc)], [], none, none, [], false, none⟩
  | 141 => some ⟨1, 8, false, [.d (.raw .nilFunc)], [], none, none, [], false, none⟩
  | 142 => some ⟨1, 8, false, [.d (.raw .nilFunc)], [], none, none, [], false, none⟩
  | 143 => some ⟨2, 32, true, [.nil, .d (.raw .nilFunc)], [(0, 26), (1, 142)], none, none, [], false, none⟩
  | 144 => some ⟨2, 32, true, [.nil, .d (.raw .nilFunc)], [(0, 26), (1, 142)], none, none, [], false, none⟩
  | 147 => some ⟨1, 8, false, [.d (.raw .nilFunc)], [], none, none, [], false, none⟩
  | 148 => some ⟨1, 8, false, [.d (.raw .nilFunc)], [], none, none, [], false, none⟩
  | 149 => some ⟨1, 8, false, [.d (.raw .nilFunc)], [], none, none, [], false, none⟩
  | _ => none
def tt2 : TypeId → Option TI
  | 150 => some ⟨1, 8, false, [.d (.raw .nilFunc)], [], none, none, [], false, none⟩
  | 151 => some ⟨1, 8, false, [.d (.raw .nilFunc)], [], none, none, [], false, none⟩
  | 152 => some ⟨1, 8, false, [.d (.raw .nilFunc)], [], none, none, [], false, none⟩
  | 153 => some ⟨1, 8, false, [.d (.raw .nilFunc)], [], none, none, [], false, none⟩
  | 154 => some ⟨1, 8, false, [.d (.raw .nilFunc)], [], none, none, [], false, none⟩
  | 155 => some ⟨1, 8, false, [.d (.raw .nilFunc)], [], none, none, [], false, none⟩
  | 156 => some ⟨1, 8, false, [.d (.raw .nilFunc)], [], none, none, [], false, none⟩
  | 158 => some ⟨1, 8, false, [.d (.raw .nilFunc)], [], none, none, [], false, none⟩
  | 159 => some ⟨1, 8, false, [.d (.raw .nilFunc)], [], none, none, [], false, none⟩
  | 161 => some ⟨1, 8, false, [.d (.raw .nilFunc)], [], none, none, [], false, none⟩
  | 162 => some ⟨1, 8, false, [.d (.raw .nilFunc)], [], none, none, [], false, none⟩
  | 163 => some ⟨1, 8, false, [.d (.raw .nilFunc)], [], none, none, [], false, none⟩
  | 164 => some ⟨1, 8, false, [.d (.raw .nilFunc)], [], none, none, [], false, none⟩
  | 165 => some ⟨1, 8, false, [.d (.raw .nilFunc)], [], none, none, [], false, none⟩
  | 166 => some ⟨1, 8, false, [.d (.raw .nilFunc)], [], none, none, [], false, none⟩
  | 167 => some ⟨1, 8, false, [.d (.raw .nilFunc)], [], none, none, [], false, none⟩
  | 168 => some ⟨2, 16, true, [.d (.int .i64 0), .d (.bool false)], [(0, 3), (1, 4)], none, none, [true, false], false, none⟩
  | 169 => some ⟨2, 16, true, [.d (.int .i64 0), .d (.bool false)], [(0, 3), (1, 4)], none, none, [true, false], false, none⟩
  | 170 => some ⟨1, 8, false, [.d (.raw .nilFunc)], [], none, none, [], false, none⟩
  | 171 => some ⟨1, 8, false, [.d (.raw .nilFunc)], [], none, none, [], false, none⟩
  | 172 => some ⟨1, 8, false, [.d (.int .u64 0)], [], none, some .u64, [], false, none⟩
  | 173 => some ⟨1, 8, false, [.d (.raw .nilFunc)], [], none, none, [], false, none⟩
  | 174 => some ⟨1, 8, false, [.d (.raw .nilFunc)], [], none, none, [], false, none⟩
  | 176 => some ⟨1, 8, false, [.d (.raw .nilFunc)], [], none, none, [], false, none⟩
  | 177 => some ⟨1, 8, false, [.d (.raw .nilFunc)], [], none, none, [], false, none⟩
  | 178 => some ⟨1, 8, false, [.d (.raw .nilFunc)], [], none, none, [], false, none⟩
  | 179 => some ⟨1, 8, false, [.d (.raw .nilFunc)], [], none, none, [], false, none⟩
  | 180 => some ⟨1, 8, false, [.d (.raw .nilFunc)], [], none, none, [], false, none⟩
  | 181 => some ⟨1, 8, false, [.d (.raw .nilFunc)], [], none, none, [], false, none⟩
  | 182 => some ⟨1, 8, false, [.d (.raw .nilFunc)], [], none, none, [], false, none⟩
  | 183 => some ⟨1, 8, false, [.d (.raw .nilFunc)], [], none, none, [], false, none⟩
  | 184 => some ⟨1, 8, false, [.d (.raw .nilFunc)], [], none, none, [], false, none⟩
  | 185 => some ⟨1, 8, false, [.d (.raw .nilFunc)], [], none, none, [], false, none⟩
  | 187 => some ⟨1, 8, false, [.d (.raw .nilFunc)], [], none, none, [], false, none⟩
  | 188 => some ⟨1, 8, false, [.d (.raw .nilFunc)], [], none, none, [], false, none⟩
  | 189 => some ⟨1, 8, false, [.d (.raw .nilFunc)], [], none, none, [], false, none⟩
  | 190 => some ⟨1, 8, false, [.d (.raw .nilFunc)], [], none, none, [], false, none⟩
  | 192 => some ⟨1, 8, false, [.d (.raw .nilFunc)], [], none, none, [], false, none⟩
  | 193 => some ⟨1, 8, false, [.d (.raw .nilFunc)], [], none, none, [], false, none⟩
  | 194 => some ⟨1, 8, false, [.d (.raw .nilFunc)], [], none, none, [], false, none⟩
  | 195 => some ⟨1, 8, false, [.d (.raw .nilFunc)], [], none, none, [], false, none⟩
  | 196 => some ⟨1, 8, false, [.d (.raw .nilFunc)], [], none, none, [], false, none⟩
  | 197 => some ⟨1, 8, false, [.d (.raw .nilFunc)], [], none, none, [], false, none⟩
  | 198 => some ⟨31, 320, true, [.d (.int .u64 0), .d (.str ⟨#[]⟩), .d (.int .i64 0), .d (.int .i64 0), .d (.int .i64 0), .d (.int .i64 0), .d (.int .i64 0), .nil, .d (.int .i64 0), .d (.int .i64 0), .nil, .d (.int .i64 0), .d (.int .i64 0), .d (.int .i64 0), .nil, .d (.bool false), .d (.int .i64 0), .d (.int .i64 0), .d (.int .i64 0), .d (.int .i64 0), .d (.int .i64 0), .d (.int .i64 0), .d (.int .i64 0), .d (.int .i64 0), .d (.int .i64 0), .d (.int .i64 0), .d (.int .i64 0), .d (.int .i64 0), .nil, .d (.int .i64 0), .d (.int .i64 0)], [(0, 51)], none, none, [], false, none⟩
  | 199 => some ⟨31, 320, true, [.d (.int .u64 0), .d (.str ⟨#[]⟩), .d (.int .i64 0), .d (.int .i64 0), .d (.int .i64 0), .d (.int .i64 0), .d (.int .i64 0), .nil, .d (.int .i64 0), .d (.int .i64 0), .nil, .d (.int .i64 0), .d (.int .i64 0), .d (.int .i64 0), .nil, .d (.bool false), .d (.int .i64 0), .d (.int .i64 0), .d (.int .i64 0), .d (.int .i64 0), .d (.int .i64 0), .d (.int .i64 0), .d (.int .i64 0), .d (.int .i64 0), .d (.int .i64 0), .d (.int .i64 0), .d (.int .i64 0), .d (.int .i64 0), .nil, .d (.int .i64 0), .d (.int .i64 0)], [(0, 51)], none, none, [], false, none⟩
  | 200 => some ⟨1, 8, false, [.d (.raw .nilFunc)], [], none, none, [], false, none⟩
  | 201 => some ⟨1, 8, false, [.d (.raw .nilFunc)], [], none, none, [], false, none⟩
  | 202 => some ⟨1, 8, false, [.d (.raw .nilFunc)], [], none, none, [], false, none⟩
  | 203 => some ⟨1, 8, false, [.d (.raw .nilFunc)], [], none, none, [], false, none⟩
  | 204 => some ⟨1, 8, false, [.d (.raw .nilFunc)], [], none, none, [], false, none⟩
  | 206 => some ⟨1, 8, false, [.d (.raw .nilFunc)], [], none, none, [], false, none⟩
  | 207 => some ⟨1, 8, false, [.d (.raw .nilFunc)], [], none, none, [], false, none⟩
  | 209 => some ⟨1, 8, false, [.d (.raw .nilFunc)], [], none, none, [], false, none⟩
  | 210 => some ⟨3, 24, true, [.d (.int .i64 0), .d (.int .i64 0), .d (.int .i64 0)], [(0, 2), (1, 42)], none, none, [true, true, true], false, none⟩
  | 211 => some ⟨3, 24, true, [.d (.int .i64 0), .d (.int .i64 0), .d (.int .i64 0)], [(0, 2), (1, 42)], none, none, [true, true, true], false, none⟩
  | 212 => some ⟨1, 8, false, [.d (.raw .nilFunc)], [], none, none, [], false, none⟩
  | 214 => some ⟨1, 8, false, [.d (.raw .nilFunc)], [], none, none, [], false, none⟩
  | 215 => some ⟨1, 8, false, [.d (.raw .nilFunc)], [], none, none, [], false, none⟩
  | 216 => some ⟨1, 8, false, [.d (.raw .nilFunc)], [], none, none, [], false, none⟩
  | 217 => some ⟨1, 8, false, [.d (.raw .nilFunc)], [], none, none, [], false, none⟩
  | 218 => some ⟨1, 8, false, [.d (.raw .nilFunc)], [], none, none, [], false, none⟩
  | 219 => some ⟨1, 8, false, [.d (.raw .nilFunc)], [], none, none, [], false, none⟩
  | 220 => some ⟨1, 8, false, [.d (.raw .nilFunc)], [], none, none, [], false, none⟩
  | 221 => some ⟨1, 8, false, [.d (.raw .nilFunc)], [], none, none, [], false, none⟩
  | _ => none
def tt3 : TypeId → Option TI
  | 222 => some ⟨1, 8, false, [.d (.raw .nilFunc)], [], none, none, [], false, none⟩
  | 223 => some ⟨1, 8, false, [.d (.raw .nilFunc)], [], none, none, [], false, none⟩
  | 224 => some ⟨1, 8, false, [.d (.raw .nilFunc)], [], none, none, [], false, none⟩
  | 225 => some ⟨1, 8, false, [.d (.raw .nilFunc)], [], none, none, [], false, none⟩
  | 227 => some ⟨1, 8, false, [.d (.raw .nilFunc)], [], none, none, [], false, none⟩
  | 229 => some ⟨1, 8, false, [.d (.raw .nilFunc)], [], none, none, [], false, none⟩
  | 230 => some ⟨1, 8, false, [.d (.raw .nilFunc)], [], none, none, [], false, none⟩
  | 231 => some ⟨1, 8, false, [.d (.raw .nilFunc)], [], none, none, [], false, none⟩
  | 232 => some ⟨3, 24, true, [.d (.int .i64 0), .d (.int .i64 0), .d (.bool false)], [(0, 3), (1, 169)], none, none, [true, true, false], false, none⟩
  | 233 => some ⟨1, 24, false, [.nil], [], some 232, none, [], false, none⟩
  | 234 => some ⟨1, 8, false, [.d (.raw .nilFunc)], [], none, none, [], false, none⟩
  | 235 => some ⟨1, 8, false, [.d (.raw .nilFunc)], [], none, none, [], false, none⟩
  | 236 => some ⟨1, 8, false, [.d (.raw .nilFunc)], [], none, none, [], false, none⟩
  | 237 => some ⟨1, 8, false, [.d (.raw .nilFunc)], [], none, none, [], false, none⟩
  | 238 => some ⟨1, 8, false, [.d (.raw .nilFunc)], [], none, none, [], false, none⟩
  | 239 => some ⟨1, 8, false, [.d (.raw .nilFunc)], [], none, none, [], false, none⟩
  | 240 => some ⟨1, 8, false, [.d (.raw .nilFunc)], [], none, none, [], false, none⟩
  | 241 => some ⟨1, 8, false, [.d (.raw .nilFunc)], [], none, none, [], false, none⟩
  | 242 => some ⟨1, 8, false, [.d (.raw .nilFunc)], [], none, none, [], false, none⟩
  | 243 => some ⟨1, 8, false, [.d (.raw .nilFunc)], [], none, none, [], false, none⟩
  | 244 => some ⟨1, 8, false, [.d (.raw .nilFunc)], [], none, none, [], false, none⟩
  | 245 => some ⟨1, 8, false, [.d (.raw .nilFunc)], [], none, none, [], false, none⟩
  | 246 => some ⟨1, 8, false, [.d (.raw .nilFunc)], [], none, none, [], false, none⟩
  | 247 => some ⟨1, 8, false, [.d (.raw .nilFunc)], [], none, none, [], false, none⟩
  | 248 => some ⟨1, 8, false, [.d (.raw .nilFunc)], [], none, none, [], false, none⟩
  | 249 => some ⟨1, 8, false, [.d (.raw .nilFunc)], [], none, none, [], false, none⟩
  | 250 => some ⟨1, 8, false, [.d (.raw .nilFunc)], [], none, none, [], false, none⟩
  | 251 => some ⟨1, 8, false, [.d (.raw .nilFunc)], [], none, none, [], false, none⟩
  | 252 => some ⟨1, 8, false, [.d (.raw .nilFunc)], [], none, none, [], false, none⟩
  | 253 => some ⟨1, 8, false, [.d (.raw .nilFunc)], [], none, none, [], false, none⟩
  | 254 => some ⟨1, 8, false, [.d (.raw .nilFunc)], [], none, none, [], false, none⟩
  | 255 => some ⟨1, 8, false, [.d (.raw .nilFunc)], [], none, none, [], false, none⟩
  | 257 => some ⟨1, 8, false, [.d (.raw .nilFunc)], [], none, none, [], false, none⟩
  | 258 => some ⟨1, 8, false, [.d (.raw .nilFunc)], [], none, none, [], false, none⟩
  | 259 => some ⟨1, 8, false, [.d (.raw .nilFunc)], [], none, none, [], false, none⟩
  | 260 => some ⟨1, 8, false, [.d (.raw .nilFunc)], [], none, none, [], false, none⟩
  | 261 => some ⟨1, 8, false, [.d (.raw .nilFunc)], [], none, none, [], false, none⟩
  | 262 => some ⟨1, 8, false, [.d (.raw .nilFunc)], [], none, none, [], false, none⟩
  | 263 => some ⟨1, 8, false, [.d (.raw .nilFunc)], [], none, none, [], false, none⟩
  | 264 => some ⟨1, 8, false, [.d (.raw .nilFunc)], [], none, none, [], false, none⟩
  | 265 => some ⟨1, 8, false, [.d (.raw .nilFunc)], [], none, none, [], false, none⟩
  | 266 => some ⟨1, 8, false, [.d (.raw .nilFunc)], [], none, none, [], false, none⟩
  | 267 => some ⟨1, 24, false, [.nil], [], some 45, none, [], false, none⟩
  | 268 => some ⟨1, 8, false, [.d (.raw .nilFunc)], [], none, none, [], false, none⟩
  | 269 => some ⟨1, 8, false, [.d (.raw .nilFunc)], [], none, none, [], false, none⟩
  | 270 => some ⟨1, 8, false, [.d (.raw .nilFunc)], [], none, none, [], false, none⟩
  | 272 => some ⟨1, 8, false, [.d (.raw .nilFunc)], [], none, none, [], false, none⟩
  | 273 => some ⟨1, 8, false, [.d (.raw .nilFunc)], [], none, none, [], false, none⟩
  | 274 => some ⟨1, 8, false, [.d (.raw .nilFunc)], [], none, none, [], false, none⟩
  | 276 => some ⟨1, 8, false, [.d (.raw .nilFunc)], [], none, none, [], false, none⟩
  | 277 => some ⟨1, 8, false, [.d (.raw .nilFunc)], [], none, none, [], false, none⟩
  | 278 => some ⟨1, 8, false, [.d (.raw .nilFunc)], [], none, none, [], false, none⟩
  | 279 => some ⟨1, 8, false, [.d (.raw .nilFunc)], [], none, none, [], false, none⟩
  | 280 => some ⟨1, 8, false, [.d (.raw .nilFunc)], [], none, none, [], false, none⟩
  | 281 => some ⟨1, 8, false, [.d (.raw .nilFunc)], [], none, none, [], false, none⟩
  | 282 => some ⟨1, 8, false, [.d (.raw .nilFunc)], [], none, none, [], false, none⟩
  | 283 => some ⟨1, 8, false, [.d (.raw .nilFunc)], [], none, none, [], false, none⟩
  | 285 => some ⟨1, 8, false, [.d (.raw .nilFunc)], [], none, none, [], false, none⟩
  | 286 => some ⟨1, 8, false, [.d (.raw .nilFunc)], [], none, none, [], false, none⟩
  | 287 => some ⟨1, 8, false, [.d (.raw .nilFunc)], [], none, none, [], false, none⟩
  | 288 => some ⟨1, 8, false, [.d (.raw .nilFunc)], [], none, none, [], false, none⟩
  | 289 => some ⟨1, 8, false, [.d (.raw .nilFunc)], [], none, none, [], false, none⟩
  | 290 => some ⟨4, 32, true, [.d (.int .i64 0), .d (.int .i64 0), .d (.int .i64 0), .d (.int .i64 0)], [(0, 111)], none, none, [true, true, true, true], false, none⟩
  | 291 => some ⟨4, 32, true, [.d (.int .i64 0), .d (.int .i64 0), .d (.int .i64 0), .d (.int .i64 0)], [(0, 111)], none, none, [true, true, true, true], false, none⟩
  | _ => none
def tt4 : TypeId → Option TI
  | 292 => some ⟨1, 8, false, [.d (.raw .nilFunc)], [], none, none, [], false, none⟩
  | 293 => some ⟨1, 8, false, [.d (.raw .nilFunc)], [], none, none, [], false, none⟩
  | 294 => some ⟨1, 8, false, [.d (.raw .nilFunc)], [], none, none, [], false, none⟩
  | 295 => some ⟨1, 8, false, [.d (.raw .nilFunc)], [], none, none, [], false, none⟩
  | 296 => some ⟨1, 8, false, [.d (.raw .nilFunc)], [], none, none, [], false, none⟩
  | 299 => some ⟨1, 8, false, [.d (.raw .nilFunc)], [], none, none, [], false, none⟩
  | 300 => some ⟨1, 8, false, [.d (.raw .nilFunc)], [], none, none, [], false, none⟩
  | 301 => some ⟨1, 8, false, [.d (.raw .nilFunc)], [], none, none, [], false, none⟩
  | 302 => some ⟨1, 8, false, [.d (.raw .nilFunc)], [], none, none, [], false, none⟩
  | 303 => some ⟨5, 40, true, [.d (.int .i64 0), .d (.int .i64 0), .d (.int .i64 0), .d (.int .i64 0), .d (.int .i64 0)], [(0, 211), (3, 2), (4, 2)], none, none, [true, true, true, true, true], false, none⟩
  | 304 => some ⟨5, 40, true, [.d (.int .i64 0), .d (.int .i64 0), .d (.int .i64 0), .d (.int .i64 0), .d (.int .i64 0)], [(0, 211), (3, 2), (4, 2)], none, none, [true, true, true, true, true], false, none⟩
  | 305 => some ⟨1, 8, false, [.d (.raw .nilFunc)], [], none, none, [], false, none⟩
  | 306 => some ⟨1, 8, false, [.d (.raw .nilFunc)], [], none, none, [], false, none⟩
  | 307 => some ⟨1, 8, false, [.d (.raw (.pointer none))], [], none, none, [], false, none⟩
  | 308 => some ⟨1, 8, false, [.d (.raw .nilFunc)], [], none, none, [], false, none⟩
  | 309 => some ⟨4, 40, true, [.d (.raw (.pointer none)), .d (.raw (.pointer none)), .d (.raw (.pointer none)), .d (.str ⟨#[]⟩)], [(0, 17), (1, 17), (2, 17), (3, 9)], none, none, [], false, none⟩
  | 310 => some ⟨4, 40, true, [.d (.raw (.pointer none)), .d (.raw (.pointer none)), .d (.raw (.pointer none)), .d (.str ⟨#[]⟩)], [(0, 17), (1, 17), (2, 17), (3, 9)], none, none, [], false, none⟩
  | 311 => some ⟨0, 0, true, [], [], none, none, [], false, some 16⟩
  | 312 => some ⟨0, 0, true, [], [(0, 311)], none, none, [], false, none⟩
  | 313 => some ⟨0, 0, true, [], [(0, 311)], none, none, [], false, none⟩
  | 314 => some ⟨1, 4, false, [.d (.int .u32 0)], [], none, some .u32, [], false, none⟩
  | 315 => some ⟨1, 1, false, [.d (.int .u8 0)], [], none, some .u8, [], false, none⟩
  | 316 => some ⟨1, 1, false, [.d (.int .u8 0)], [], none, some .u8, [], false, none⟩
  | 317 => some ⟨1, 8, false, [.d (.raw .nilFunc)], [], none, none, [], false, none⟩
  | 318 => some ⟨1, 8, false, [.d (.raw (.pointer none))], [], none, none, [], false, none⟩
  | 319 => some ⟨1, 4, false, [.d (.int .i32 0)], [], none, some .i32, [], false, none⟩
  | 320 => some ⟨1, 4, false, [.d (.int .i32 0)], [], none, some .i32, [], false, none⟩
  | 321 => some ⟨11, 48, true, [.d (.int .u64 0), .d (.int .u64 0), .d (.int .u32 0), .d (.int .u8 0), .d (.int .u8 0), .d (.int .u8 0), .d (.int .u8 0), .d (.raw .nilFunc), .d (.raw (.pointer none)), .d (.int .i32 0), .d (.int .i32 0)], [(0, 12), (1, 12), (2, 314), (3, 315), (4, 5), (5, 5), (6, 316), (7, 317), (8, 318), (9, 319), (10, 320)], none, none, [], false, none⟩
  | 322 => some ⟨11, 48, true, [.d (.int .u64 0), .d (.int .u64 0), .d (.int .u32 0), .d (.int .u8 0), .d (.int .u8 0), .d (.int .u8 0), .d (.int .u8 0), .d (.raw .nilFunc), .d (.raw (.pointer none)), .d (.int .i32 0), .d (.int .i32 0)], [(0, 12), (1, 12), (2, 314), (3, 315), (4, 5), (5, 5), (6, 316), (7, 317), (8, 318), (9, 319), (10, 320)], none, none, [], false, none⟩
  | 323 => some ⟨1, 16, true, [.d (.str ⟨#[]⟩)], [(0, 9)], none, none, [], false, none⟩
  | 324 => some ⟨1, 16, true, [.d (.str ⟨#[]⟩)], [(0, 9)], none, none, [], false, none⟩
  | 325 => some ⟨1, 8, false, [.d (.raw (.pointer none))], [], none, none, [], false, none⟩
  | _ => none
def tt (t : TypeId) : Option TI := (tt0 t).orElse fun _ => (tt1 t).orElse fun _ => (tt2 t).orElse fun _ => (tt3 t).orElse fun _ => (tt4 t).orElse fun _ => none
theorem tt_1 : tt 1 = some ⟨1, 8, false, [.d (.raw .nilFunc)], [], none, none, [], false, none⟩ := rfl
theorem tt_2 : tt 2 = some ⟨1, 8, false, [.d (.int .i64 0)], [], none, some .i64, [], false, none⟩ := rfl
theorem tt_3 : tt 3 = some ⟨1, 8, false, [.d (.int .i64 0)], [], none, some .i64, [], false, none⟩ := rfl
theorem tt_4 : tt 4 = some ⟨1, 1, false, [.d (.bool false)], [], none, none, [], true, none⟩ := rfl
theorem tt_5 : tt 5 = some ⟨1, 1, false, [.d (.int .u8 0)], [], none, some .u8, [], false, none⟩ := rfl
theorem tt_6 : tt 6 = some ⟨1, 1, false, [.d (.int .u8 0)], [], none, some .u8, [], false, none⟩ := rfl
theorem tt_7 : tt 7 = some ⟨4, 24, true, [.d (.int .i64 0), .d (.int .i64 0), .d (.bool false), .d (.int .u8 0)], [(0, 2), (1, 3), (2, 4), (3, 6)], none, none, [true, true, false, true], false, none⟩ := rfl
theorem tt_8 : tt 8 = some ⟨4, 24, true, [.d (.int .i64 0), .d (.int .i64 0), .d (.bool false), .d (.int .u8 0)], [(0, 2), (1, 3), (2, 4), (3, 6)], none, none, [true, true, false, true], false, none⟩ := rfl
theorem tt_9 : tt 9 = some ⟨1, 16, false, [.d (.str ⟨#[]⟩)], [], none, none, [], false, none⟩ := rfl
theorem tt_10 : tt 10 = some ⟨1, 16, false, [.d (.str ⟨#[]⟩)], [], none, none, [], false, none⟩ := rfl
theorem tt_11 : tt 11 = some ⟨1, 16, false, [.d (.str ⟨#[]⟩)], [], none, none, [], false, none⟩ := rfl
theorem tt_12 : tt 12 = some ⟨1, 8, false, [.d (.int .u64 0)], [], none, some .u64, [], false, none⟩ := rfl
theorem tt_13 : tt 13 = some ⟨2, 24, true, [.d (.str ⟨#[]⟩), .d (.int .u64 0)], [(0, 9), (1, 12)], none, none, [], false, none⟩ := rfl
theorem tt_14 : tt 14 = some ⟨2, 24, true, [.d (.str ⟨#[]⟩), .d (.int .u64 0)], [(0, 9), (1, 12)], none, none, [], false, none⟩ := rfl
theorem tt_15 : tt 15 = some ⟨1, 8, false, [.d (.raw (.pointer none))], [], none, none, [], false, none⟩ := rfl
theorem tt_16 : tt 16 = some ⟨1, 8, false, [.d (.raw (.pointer none))], [], none, none, [], false, none⟩ := rfl
theorem tt_17 : tt 17 = some ⟨1, 8, false, [.d (.raw (.pointer none))], [], none, none, [], false, none⟩ := rfl
theorem tt_18 : tt 18 = some ⟨1, 8, true, [.d (.raw (.pointer none))], [(0, 17)], none, none, [], false, none⟩ := rfl
theorem tt_19 : tt 19 = some ⟨1, 8, true, [.d (.raw (.pointer none))], [(0, 17)], none, none, [], false, none⟩ := rfl
theorem tt_21 : tt 21 = some ⟨1, 4, false, [.d (.int .i32 0)], [], none, some .i32, [], false, none⟩ := rfl
theorem tt_22 : tt 22 = some ⟨1, 24, false, [.nil], [], some 5, none, [], false, none⟩ := rfl
theorem tt_23 : tt 23 = some ⟨1, 8, false, [.d (.raw .nilFunc)], [], none, none, [], false, none⟩ := rfl
theorem tt_24 : tt 24 = some ⟨1, 8, false, [.d (.raw (.pointer none))], [], none, none, [], false, none⟩ := rfl
theorem tt_25 : tt 25 = some ⟨1, 8, false, [.d (.raw .nilFunc)], [], none, none, [], false, none⟩ := rfl
theorem tt_26 : tt 26 = some ⟨1, 24, false, [.nil], [], some 3, none, [], false, none⟩ := rfl
theorem tt_27 : tt 27 = some ⟨1, 8, false, [.d (.raw .nilFunc)], [], none, none, [], false, none⟩ := rfl
theorem tt_28 : tt 28 = some ⟨1, 8, false, [.d (.int .u64 0)], [], none, some .u64, [], false, none⟩ := rfl
theorem tt_29 : tt 29 = some ⟨1, 24, false, [.nil], [], some 134, none, [], false, none⟩ := rfl
theorem tt_30 : tt 30 = some ⟨8, 88, true, [.d (.int .u64 0), .d (.str ⟨#[]⟩), .d (.int .i64 0), .d (.int .i64 0), .d (.int .i64 0), .d (.int .i64 0), .d (.int .i64 0), .nil], [(0, 28), (1, 9), (2, 3), (3, 3), (4, 3), (5, 3), (6, 3), (7, 29)], none, none, [], false, none⟩ := rfl
theorem tt_31 : tt 31 = some ⟨8, 88, true, [.d (.int .u64 0), .d (.str ⟨#[]⟩), .d (.int .i64 0), .d (.int .i64 0), .d (.int .i64 0), .d (.int .i64 0), .d (.int .i64 0), .nil], [(0, 28), (1, 9), (2, 3), (3, 3), (4, 3), (5, 3), (6, 3), (7, 29)], none, none, [], false, none⟩ := rfl
theorem tt_32 : tt 32 = some ⟨3, 40, true, [.d (.int .i64 0), .d (.int .i64 0), .nil], [(0, 3), (1, 3), (2, 26)], none, none, [], false, none⟩ := rfl
theorem tt_33 : tt 33 = some ⟨3, 40, true, [.d (.int .i64 0), .d (.int .i64 0), .nil], [(0, 3), (1, 3), (2, 26)], none, none, [], false, none⟩ := rfl
theorem tt_34 : tt 34 = some ⟨4, 48, true, [.d (.int .i64 0), .d (.int .i64 0), .nil, .d (.int .i64 0)], [(0, 33), (3, 3)], none, none, [], false, none⟩ := rfl
theorem tt_35 : tt 35 = some ⟨4, 48, true, [.d (.int .i64 0), .d (.int .i64 0), .nil, .d (.int .i64 0)], [(0, 33), (3, 3)], none, none, [], false, none⟩ := rfl
theorem tt_36 : tt 36 = some ⟨1, 24, false, [.nil], [], some 211, none, [], false, none⟩ := rfl
theorem tt_37 : tt 37 = some ⟨1, 24, true, [.nil], [(0, 36)], none, none, [], false, none⟩ := rfl
theorem tt_38 : tt 38 = some ⟨1, 24, true, [.nil], [(0, 36)], none, none, [], false, none⟩ := rfl
theorem tt_39 : tt 39 = some ⟨4, 32, true, [.d (.int .i64 0), .d (.int .i64 0), .d (.int .i64 0), .d (.int .i64 0)], [(0, 3), (1, 3), (2, 3), (3, 3)], none, none, [true, true, true, true], false, none⟩ := rfl
theorem tt_40 : tt 40 = some ⟨4, 32, true, [.d (.int .i64 0), .d (.int .i64 0), .d (.int .i64 0), .d (.int .i64 0)], [(0, 3), (1, 3), (2, 3), (3, 3)], none, none, [true, true, true, true], false, none⟩ := rfl
theorem tt_41 : tt 41 = some ⟨2, 16, true, [.d (.int .i64 0), .d (.int .i64 0)], [(0, 2), (1, 2)], none, none, [true, true], false, none⟩ := rfl
theorem tt_42 : tt 42 = some ⟨2, 16, true, [.d (.int .i64 0), .d (.int .i64 0)], [(0, 2), (1, 2)], none, none, [true, true], false, none⟩ := rfl
theorem tt_43 : tt 43 = some ⟨5, 40, true, [.d (.int .i64 0), .d (.int .i64 0), .d (.int .i64 0), .d (.int .i64 0), .d (.int .i64 0)], [(0, 42), (2, 3), (3, 2), (4, 2)], none, none, [true, true, true, true, true], false, none⟩ := rfl
theorem tt_44 : tt 44 = some ⟨5, 40, true, [.d (.int .i64 0), .d (.int .i64 0), .d (.int .i64 0), .d (.int .i64 0), .d (.int .i64 0)], [(0, 42), (2, 3), (3, 2), (4, 2)], none, none, [true, true, true, true, true], false, none⟩ := rfl
theorem tt_45 : tt 45 = some ⟨1, 24, false, [.nil], [], some 21, none, [], false, none⟩ := rfl
theorem tt_46 : tt 46 = some ⟨7, 72, true, [.d (.int .i64 0), .d (.int .i64 0), .d (.int .i64 0), .d (.int .i64 0), .d (.int .i64 0), .d (.int .i64 0), .nil], [(0, 3), (1, 44), (6, 45)], none, none, [], false, none⟩ := rfl
theorem tt_47 : tt 47 = some ⟨7, 72, true, [.d (.int .i64 0), .d (.int .i64 0), .d (.int .i64 0), .d (.int .i64 0), .d (.int .i64 0), .d (.int .i64 0), .nil], [(0, 3), (1, 44), (6, 45)], none, none, [], false, none⟩ := rfl
theorem tt_48 : tt 48 = some ⟨14, 128, true, [.d (.int .i64 0), .d (.int .i64 0), .d (.int .i64 0), .d (.int .i64 0), .d (.int .i64 0), .d (.int .i64 0), .d (.int .i64 0), .d (.int .i64 0), .d (.int .i64 0), .d (.int .i64 0), .d (.int .i64 0), .nil, .d (.int .i64 0), .d (.int .i64 0)], [(0, 3), (1, 40), (5, 47), (12, 3), (13, 3)], none, none, [], false, none⟩ := rfl
theorem tt_49 : tt 49 = some ⟨14, 128, true, [.d (.int .i64 0), .d (.int .i64 0), .d (.int .i64 0), .d (.int .i64 0), .d (.int .i64 0), .d (.int .i64 0), .d (.int .i64 0), .d (.int .i64 0), .d (.int .i64 0), .d (.int .i64 0), .d (.int .i64 0), .nil, .d (.int .i64 0), .d (.int .i64 0)], [(0, 3), (1, 40), (5, 47), (12, 3), (13, 3)], none, none, [], false, none⟩ := rfl
theorem tt_50 : tt 50 = some ⟨31, 320, true, [.d (.int .u64 0), .d (.str ⟨#[]⟩), .d (.int .i64 0), .d (.int .i64 0), .d (.int .i64 0), .d (.int .i64 0), .d (.int .i64 0), .nil, .d (.int .i64 0), .d (.int .i64 0), .nil, .d (.int .i64 0), .d (.int .i64 0), .d (.int .i64 0), .nil, .d (.bool false), .d (.int .i64 0), .d (.int .i64 0), .d (.int .i64 0), .d (.int .i64 0), .d (.int .i64 0), .d (.int .i64 0), .d (.int .i64 0), .d (.int .i64 0), .d (.int .i64 0), .d (.int .i64 0), .d (.int .i64 0), .d (.int .i64 0), .nil, .d (.int .i64 0), .d (.int .i64 0)], [(0, 31), (8, 35), (12, 3), (13, 3), (14, 38), (15, 4), (16, 2), (17, 49)], none, none, [], false, none⟩ := rfl
theorem tt_51 : tt 51 = some ⟨31, 320, true, [.d (.int .u64 0), .d (.str ⟨#[]⟩), .d (.int .i64 0), .d (.int .i64 0), .d (.int .i64 0), .d (.int .i64 0), .d (.int .i64 0), .nil, .d (.int .i64 0), .d (.int .i64 0), .nil, .d (.int .i64 0), .d (.int .i64 0), .d (.int .i64 0), .nil, .d (.bool false), .d (.int .i64 0), .d (.int .i64 0), .d (.int .i64 0), .d (.int .i64 0), .d (.int .i64 0), .d (.int .i64 0), .d (.int .i64 0), .d (.int .i64 0), .d (.int .i64 0), .d (.int .i64 0), .d (.int .i64 0), .d (.int .i64 0), .nil, .d (.int .i64 0), .d (.int .i64 0)], [(0, 31), (8, 35), (12, 3), (13, 3), (14, 38), (15, 4), (16, 2), (17, 49)], none, none, [], false, none⟩ := rfl
theorem tt_53 : tt 53 = some ⟨1, 8, false, [.d (.raw .nilFunc)], [], none, none, [], false, none⟩ := rfl
theorem tt_54 : tt 54 = some ⟨5, 56, true, [.d (.int .i64 0), .d (.int .i64 0), .d (.int .i64 0), .d (.int .i64 0), .nil], [(0, 3), (1, 3), (2, 2), (3, 2), (4, 45)], none, none, [], false, none⟩ := rfl
theorem tt_55 : tt 55 = some ⟨5, 56, true, [.d (.int .i64 0), .d (.int .i64 0), .d (.int .i64 0), .d (.int .i64 0), .nil], [(0, 3), (1, 3), (2, 2), (3, 2), (4, 45)], none, none, [], false, none⟩ := rfl
theorem tt_56 : tt 56 = some ⟨19, 184, true, [.d (.int .i64 0), .d (.int .i64 0), .d (.int .i64 0), .d (.int .i64 0), .d (.int .i64 0), .d (.int .i64 0), .d (.int .i64 0), .d (.int .i64 0), .d (.int .i64 0), .d (.int .i64 0), .nil, .d (.int .i64 0), .d (.int .i64 0), .d (.int .i64 0), .d (.int .i64 0), .nil, .d (.int .i64 0), .d (.int .i64 0), .d (.int .i64 0)], [(0, 3), (1, 3), (2, 3), (3, 3), (4, 47), (11, 55), (16, 2), (17, 2), (18, 2)], none, none, [], false, none⟩ := rfl
theorem tt_57 : tt 57 = some ⟨19, 184, true, [.d (.int .i64 0), .d (.int .i64 0), .d (.int .i64 0), .d (.int .i64 0), .d (.int .i64 0), .d (.int .i64 0), .d (.int .i64 0), .d (.int .i64 0), .d (.int .i64 0), .d (.int .i64 0), .nil, .d (.int .i64 0), .d (.int .i64 0), .d (.int .i64 0), .d (.int .i64 0), .nil, .d (.int .i64 0), .d (.int .i64 0), .d (.int .i64 0)], [(0, 3), (1, 3), (2, 3), (3, 3), (4, 47), (11, 55), (16, 2), (17, 2), (18, 2)], none, none, [], false, none⟩ := rfl
theorem tt_58 : tt 58 = some ⟨1, 8, false, [.d (.int .i64 0)], [], none, some .i64, [], false, none⟩ := rfl
theorem tt_60 : tt 60 = some ⟨1, 8, false, [.d (.raw .nilFunc)], [], none, none, [], false, none⟩ := rfl
theorem tt_61 : tt 61 = some ⟨1, 8, false, [.d (.raw .nilFunc)], [], none, none, [], false, none⟩ := rfl
theorem tt_62 : tt 62 = some ⟨2, 32, true, [.d (.int .i64 0), .nil], [(0, 3), (1, 45)], none, none, [], false, none⟩ := rfl
theorem tt_63 : tt 63 = some ⟨2, 32, true, [.d (.int .i64 0), .nil], [(0, 3), (1, 45)], none, none, [], false, none⟩ := rfl
theorem tt_65 : tt 65 = some ⟨1, 8, false, [.d (.raw .nilFunc)], [], none, none, [], false, none⟩ := rfl
theorem tt_66 : tt 66 = some ⟨1, 8, false, [.d (.raw .nilFunc)], [], none, none, [], false, none⟩ := rfl
theorem tt_67 : tt 67 = some ⟨1, 8, false, [.d (.raw .nilFunc)], [], none, none, [], false, none⟩ := rfl
theorem tt_69 : tt 69 = some ⟨1, 8, false, [.d (.raw .nilFunc)], [], none, none, [], false, none⟩ := rfl
theorem tt_71 : tt 71 = some ⟨1, 8, false, [.d (.raw .nilFunc)], [], none, none, [], false, none⟩ := rfl
theorem tt_73 : tt 73 = some ⟨1, 8, false, [.d (.raw .nilFunc)], [], none, none, [], false, none⟩ := rfl
theorem tt_74 : tt 74 = some ⟨1, 8, false, [.d (.raw .nilFunc)], [], none, none, [], false, none⟩ := rfl
theorem tt_75 : tt 75 = some ⟨1, 8, false, [.d (.raw .nilFunc)], [], none, none, [], false, none⟩ := rfl
theorem tt_76 : tt 76 = some ⟨1, 8, false, [.d (.raw .nilFunc)], [], none, none, [], false, none⟩ := rfl
theorem tt_77 : tt 77 = some ⟨1, 8, false, [.d (.raw .nilFunc)], [], none, none, [], false, none⟩ := rfl
theorem tt_78 : tt 78 = some ⟨1, 24, false, [.nil], [], some 57, none, [], false, none⟩ := rfl
theorem tt_79 : tt 79 = some ⟨1, 8, false, [.d (.raw .nilFunc)], [], none, none, [], false, none⟩ := rfl
theorem tt_80 : tt 80 = some ⟨1, 8, false, [.d (.raw .nilFunc)], [], none, none, [], false, none⟩ := rfl
theorem tt_82 : tt 82 = some ⟨1, 8, false, [.d (.raw .nilFunc)], [], none, none, [], false, none⟩ := rfl
theorem tt_83 : tt 83 = some ⟨1, 8, false, [.d (.raw .nilFunc)], [], none, none, [], false, none⟩ := rfl
theorem tt_84 : tt 84 = some ⟨1, 8, false, [.d (.raw .nilFunc)], [], none, none, [], false, none⟩ := rfl
theorem tt_85 : tt 85 = some ⟨1, 8, false, [.d (.raw .nilFunc)], [], none, none, [], false, none⟩ := rfl
theorem tt_87 : tt 87 = some ⟨1, 8, false, [.d (.raw .nilFunc)], [], none, none, [], false, none⟩ := rfl
theorem tt_88 : tt 88 = some ⟨3, 40, true, [.d (.int .i64 0), .d (.int .i64 0), .nil], [(0, 3), (1, 3), (2, 26)], none, none, [], false, none⟩ := rfl
theorem tt_89 : tt 89 = some ⟨3, 40, true, [.d (.int .i64 0), .d (.int .i64 0), .nil], [(0, 3), (1, 3), (2, 26)], none, none, [], false, none⟩ := rfl
theorem tt_90 : tt 90 = some ⟨16, 192, true, [.d (.int .i64 0), .d (.int .i64 0), .nil, .d (.int .i64 0), .d (.int .i64 0), .nil, .d (.int .i64 0), .d (.int .i64 0), .nil, .d (.int .i64 0), .d (.int .i64 0), .d (.int .i64 0), .d (.int .i64 0), .d (.int .i64 0), .d (.int .i64 0), .nil], [(0, 33), (3, 33), (6, 89), (9, 47)], none, none, [], false, none⟩ := rfl
theorem tt_91 : tt 91 = some ⟨16, 192, true, [.d (.int .i64 0), .d (.int .i64 0), .nil, .d (.int .i64 0), .d (.int .i64 0), .nil, .d (.int .i64 0), .d (.int .i64 0), .nil, .d (.int .i64 0), .d (.int .i64 0), .d (.int .i64 0), .d (.int .i64 0), .d (.int .i64 0), .d (.int .i64 0), .nil], [(0, 33), (3, 33), (6, 89), (9, 47)], none, none, [], false, none⟩ := rfl
theorem tt_93 : tt 93 = some ⟨1, 8, false, [.d (.raw .nilFunc)], [], none, none, [], false, none⟩ := rfl
theorem tt_95 : tt 95 = some ⟨1, 8, false, [.d (.raw .nilFunc)], [], none, none, [], false, none⟩ := rfl
theorem tt_96 : tt 96 = some ⟨1, 8, false, [.d (.raw .nilFunc)], [], none, none, [], false, none⟩ := rfl
theorem tt_97 : tt 97 = some ⟨1, 24, false, [.nil], [], some 63, none, [], false, none⟩ := rfl
theorem tt_98 : tt 98 = some ⟨1, 8, false, [.d (.raw .nilFunc)], [], none, none, [], false, none⟩ := rfl
theorem tt_99 : tt 99 = some ⟨1, 8, false, [.d (.raw .nilFunc)], [], none, none, [], false, none⟩ := rfl
theorem tt_100 : tt 100 = some ⟨3, 24, true, [.d (.int .i64 0), .d (.int .i64 0), .d (.int .i64 0)], [(0, 3), (1, 3), (2, 3)], none, none, [true, true, true], false, none⟩ := rfl
theorem tt_101 : tt 101 = some ⟨3, 24, true, [.d (.int .i64 0), .d (.int .i64 0), .d (.int .i64 0)], [(0, 3), (1, 3), (2, 3)], none, none, [true, true, true], false, none⟩ := rfl
theorem tt_103 : tt 103 = some ⟨1, 8, false, [.d (.raw .nilFunc)], [], none, none, [], false, none⟩ := rfl
theorem tt_105 : tt 105 = some ⟨1, 8, false, [.d (.raw .nilFunc)], [], none, none, [], false, none⟩ := rfl
theorem tt_107 : tt 107 = some ⟨1, 8, false, [.d (.raw .nilFunc)], [], none, none, [], false, none⟩ := rfl
theorem tt_109 : tt 109 = some ⟨1, 8, false, [.d (.raw .nilFunc)], [], none, none, [], false, none⟩ := rfl
theorem tt_110 : tt 110 = some ⟨4, 32, true, [.d (.int .i64 0), .d (.int .i64 0), .d (.int .i64 0), .d (.int .i64 0)], [(0, 3), (1, 3), (2, 3), (3, 3)], none, none, [true, true, true, true], false, none⟩ := rfl
theorem tt_111 : tt 111 = some ⟨4, 32, true, [.d (.int .i64 0), .d (.int .i64 0), .d (.int .i64 0), .d (.int .i64 0)], [(0, 3), (1, 3), (2, 3), (3, 3)], none, none, [true, true, true, true], false, none⟩ := rfl
theorem tt_112 : tt 112 = some ⟨9, 104, true, [.d (.int .i64 0), .nil, .d (.int .i64 0), .d (.int .i64 0), .nil, .d (.int .i64 0), .d (.int .i64 0), .d (.int .i64 0), .d (.int .i64 0)], [(0, 63), (2, 89), (5, 111)], none, none, [], false, none⟩ := rfl
theorem tt_113 : tt 113 = some ⟨9, 104, true, [.d (.int .i64 0), .nil, .d (.int .i64 0), .d (.int .i64 0), .nil, .d (.int .i64 0), .d (.int .i64 0), .d (.int .i64 0), .d (.int .i64 0)], [(0, 63), (2, 89), (5, 111)], none, none, [], false, none⟩ := rfl
theorem tt_114 : tt 114 = some ⟨1, 24, false, [.nil], [], some 113, none, [], false, none⟩ := rfl
theorem tt_115 : tt 115 = some ⟨1, 8, false, [.d (.raw .nilFunc)], [], none, none, [], false, none⟩ := rfl
theorem tt_117 : tt 117 = some ⟨1, 8, false, [.d (.raw .nilFunc)], [], none, none, [], false, none⟩ := rfl
theorem tt_119 : tt 119 = some ⟨1, 8, false, [.d (.raw .nilFunc)], [], none, none, [], false, none⟩ := rfl
theorem tt_120 : tt 120 = some ⟨1, 8, false, [.d (.raw .nilFunc)], [], none, none, [], false, none⟩ := rfl
theorem tt_121 : tt 121 = some ⟨1, 24, false, [.nil], [], some 2, none, [], false, none⟩ := rfl
theorem tt_122 : tt 122 = some ⟨1, 8, false, [.d (.raw .nilFunc)], [], none, none, [], false, none⟩ := rfl
theorem tt_123 : tt 123 = some ⟨1, 8, false, [.d (.raw .nilFunc)], [], none, none, [], false, none⟩ := rfl
theorem tt_124 : tt 124 = some ⟨1, 24, true, [.nil], [(0, 22)], none, none, [], false, none⟩ := rfl
theorem tt_125 : tt 125 = some ⟨1, 24, true, [.nil], [(0, 22)], none, none, [], false, none⟩ := rfl
theorem tt_126 : tt 126 = some ⟨1, 24, false, [.nil], [], some 26, none, [], false, none⟩ := rfl
theorem tt_127 : tt 127 = some ⟨1, 8, false, [.d (.raw .nilFunc)], [], none, none, [], false, none⟩ := rfl
theorem tt_128 : tt 128 = some ⟨2, 16, true, [.d (.int .i64 0), .d (.int .i64 0)], [(0, 3), (1, 3)], none, none, [true, true], false, none⟩ := rfl
theorem tt_129 : tt 129 = some ⟨2, 16, true, [.d (.int .i64 0), .d (.int .i64 0)], [(0, 3), (1, 3)], none, none, [true, true], false, none⟩ := rfl
theorem tt_130 : tt 130 = some ⟨1, 24, false, [.nil], [], some 129, none, [], false, none⟩ := rfl
theorem tt_131 : tt 131 = some ⟨1, 24, true, [.nil], [(0, 130)], none, none, [], false, none⟩ := rfl
theorem tt_132 : tt 132 = some ⟨1, 24, true, [.nil], [(0, 130)], none, none, [], false, none⟩ := rfl
theorem tt_133 : tt 133 = some ⟨4, 80, true, [.d (.int .i64 0), .nil, .nil, .nil], [(0, 3), (1, 132), (2, 126), (3, 132)], none, none, [], false, none⟩ := rfl
theorem tt_134 : tt 134 = some ⟨4, 80, true, [.d (.int .i64 0), .nil, .nil, .nil], [(0, 3), (1, 132), (2, 126), (3, 132)], none, none, [], false, none⟩ := rfl
theorem tt_136 : tt 136 = some ⟨1, 8, false, [.d (.raw .nilFunc)], [], none, none, [], false, none⟩ := rfl
theorem tt_137 : tt 137 = some ⟨1, 8, false, [.d (.raw .nilFunc)], [], none, none, [], false, none⟩ := rfl
theorem tt_138 : tt 138 = some ⟨1, 8, false, [.d (.raw .nilFunc)], [], none, none, [], false, none⟩ := rfl
theorem tt_140 : tt 140 = some ⟨1, 8, false, [.d (.raw .nilFunc)], [], none, none, [], false, none⟩ := rfl
theorem tt_141 : tt 141 = some ⟨1, 8, false, [.d (.raw .nilFunc)], [], none, none, [], false, none⟩ := rfl
theorem tt_142 : tt 142 = some ⟨1, 8, false, [.d (.raw .nilFunc)], [], none, none, [], false, none⟩ := rfl
theorem tt_143 : tt 143 = some ⟨2, 32, true, [.nil, .d (.raw .nilFunc)], [(0, 26), (1, 142)], none, none, [], false, none⟩ := rfl
theorem tt_144 : tt 144 = some ⟨2, 32, true, [.nil, .d (.raw .nilFunc)], [(0, 26), (1, 142)], none, none, [], false, none⟩ := rfl
theorem tt_147 : tt 147 = some ⟨1, 8, false, [.d (.raw .nilFunc)], [], none, none, [], false, none⟩ := rfl
theorem tt_148 : tt 148 = some ⟨1, 8, false, [.d (.raw .nilFunc)], [], none, none, [], false, none⟩ := rfl
theorem tt_149 : tt 149 = some ⟨1, 8, false, [.d (.raw .nilFunc)], [], none, none, [], false, none⟩ := rfl
theorem tt_150 : tt 150 = some ⟨1, 8, false, [.d (.raw .nilFunc)], [], none, none, [], false, none⟩ := rfl
theorem tt_151 : tt 151 = some ⟨1, 8, false, [.d (.raw .nilFunc)], [], none, none, [], false, none⟩ := rfl
theorem tt_152 : tt 152 = some ⟨1, 8, false, [.d (.raw .nilFunc)], [], none, none, [], false, none⟩ := rfl
theorem tt_153 : tt 153 = some ⟨1, 8, false, [.d (.raw .nilFunc)], [], none, none, [], false, none⟩ := rfl
theorem tt_154 : tt 154 = some ⟨1, 8, false, [.d (.raw .nilFunc)], [], none, none, [], false, none⟩ := rfl
theorem tt_155 : tt 155 = some ⟨1, 8, false, [.d (.raw .nilFunc)], [], none, none, [], false, none⟩ := rfl
theorem tt_156 : tt 156 = some ⟨1, 8, false, [.d (.raw .nilFunc)], [], none, none, [], false, none⟩ := rfl
theorem tt_158 : tt 158 = some ⟨1, 8, false, [.d (.raw .nilFunc)], [], none, none, [], false, none⟩ := rfl
theorem tt_159 : tt 159 = some ⟨1, 8, false, [.d (.raw .nilFunc)], [], none, none, [], false, none⟩ := rfl
theorem tt_161 : tt 161 = some ⟨1, 8, false, [.d (.raw .nilFunc)], [], none, none, [], false, none⟩ := rfl
theorem tt_162 : tt 162 = some ⟨1, 8, false, [.d (.raw .nilFunc)], [], none, none, [], false, none⟩ := rfl
theorem tt_163 : tt 163 = some ⟨1, 8, false, [.d (.raw .nilFunc)], [], none, none, [], false, none⟩ := rfl
theorem tt_164 : tt 164 = some ⟨1, 8, false, [.d (.raw .nilFunc)], [], none, none, [], false, none⟩ := rfl
theorem tt_165 : tt 165 = some ⟨1, 8, false, [.d (.raw .nilFunc)], [], none, none, [], false, none⟩ := rfl
theorem tt_166 : tt 166 = some ⟨1, 8, false, [.d (.raw .nilFunc)], [], none, none, [], false, none⟩ := rfl
theorem tt_167 : tt 167 = some ⟨1, 8, false, [.d (.raw .nilFunc)], [], none, none, [], false, none⟩ := rfl
theorem tt_168 : tt 168 = some ⟨2, 16, true, [.d (.int .i64 0), .d (.bool false)], [(0, 3), (1, 4)], none, none, [true, false], false, none⟩ := rfl
theorem tt_169 : tt 169 = some ⟨2, 16, true, [.d (.int .i64 0), .d (.bool false)], [(0, 3), (1, 4)], none, none, [true, false], false, none⟩ := rfl
theorem tt_170 : tt 170 = some ⟨1, 8, false, [.d (.raw .nilFunc)], [], none, none, [], false, none⟩ := rfl
theorem tt_171 : tt 171 = some ⟨1, 8, false, [.d (.raw .nilFunc)], [], none, none, [], false, none⟩ := rfl
theorem tt_172 : tt 172 = some ⟨1, 8, false, [.d (.int .u64 0)], [], none, some .u64, [], false, none⟩ := rfl
theorem tt_173 : tt 173 = some ⟨1, 8, false, [.d (.raw .nilFunc)], [], none, none, [], false, none⟩ := rfl
theorem tt_174 : tt 174 = some ⟨1, 8, false, [.d (.raw .nilFunc)], [], none, none, [], false, none⟩ := rfl
theorem tt_176 : tt 176 = some ⟨1, 8, false, [.d (.raw .nilFunc)], [], none, none, [], false, none⟩ := rfl
theorem tt_177 : tt 177 = some ⟨1, 8, false, [.d (.raw .nilFunc)], [], none, none, [], false, none⟩ := rfl
theorem tt_178 : tt 178 = some ⟨1, 8, false, [.d (.raw .nilFunc)], [], none, none, [], false, none⟩ := rfl
theorem tt_179 : tt 179 = some ⟨1, 8, false, [.d (.raw .nilFunc)], [], none, none, [], false, none⟩ := rfl
theorem tt_180 : tt 180 = some ⟨1, 8, false, [.d (.raw .nilFunc)], [], none, none, [], false, none⟩ := rfl
theorem tt_181 : tt 181 = some ⟨1, 8, false, [.d (.raw .nilFunc)], [], none, none, [], false, none⟩ := rfl
theorem tt_182 : tt 182 = some ⟨1, 8, false, [.d (.raw .nilFunc)], [], none, none, [], false, none⟩ := rfl
theorem tt_183 : tt 183 = some ⟨1, 8, false, [.d (.raw .nilFunc)], [], none, none, [], false, none⟩ := rfl
theorem tt_184 : tt 184 = some ⟨1, 8, false, [.d (.raw .nilFunc)], [], none, none, [], false, none⟩ := rfl
theorem tt_185 : tt 185 = some ⟨1, 8, false, [.d (.raw .nilFunc)], [], none, none, [], false, none⟩ := rfl
theorem tt_187 : tt 187 = some ⟨1, 8, false, [.d (.raw .nilFunc)], [], none, none, [], false, none⟩ := rfl
theorem tt_188 : tt 188 = some ⟨1, 8, false, [.d (.raw .nilFunc)], [], none, none, [], false, none⟩ := rfl
theorem tt_189 : tt 189 = some ⟨1, 8, false, [.d (.raw .nilFunc)], [], none, none, [], false, none⟩ := rfl
theorem tt_190 : tt 190 = some ⟨1, 8, false, [.d (.raw .nilFunc)], [], none, none, [], false, none⟩ := rfl
theorem tt_192 : tt 192 = some ⟨1, 8, false, [.d (.raw .nilFunc)], [], none, none, [], false, none⟩ := rfl
theorem tt_193 : tt 193 = some ⟨1, 8, false, [.d (.raw .nilFunc)], [], none, none, [], false, none⟩ := rfl
theorem tt_194 : tt 194 = some ⟨1, 8, false, [.d (.raw .nilFunc)], [], none, none, [], false, none⟩ := rfl
theorem tt_195 : tt 195 = some ⟨1, 8, false, [.d (.raw .nilFunc)], [], none, none, [], false, none⟩ := rfl
theorem tt_196 : tt 196 = some ⟨1, 8, false, [.d (.raw .nilFunc)], [], none, none, [], false, none⟩ := rfl
theorem tt_197 : tt 197 = some ⟨1, 8, false, [.d (.raw .nilFunc)], [], none, none, [], false, none⟩ := rfl
theorem tt_198 : tt 198 = some ⟨31, 320, true, [.d (.int .u64 0), .d (.str ⟨#[]⟩), .d (.int .i64 0), .d (.int .i64 0), .d (.int .i64 0), .d (.int .i64 0), .d (.int .i64 0), .nil, .d (.int .i64 0), .d (.int .i64 0), .nil, .d (.int .i64 0), .d (.int .i64 0), .d (.int .i64 0), .nil, .d (.bool false), .d (.int .i64 0), .d (.int .i64 0), .d (.int .i64 0), .d (.int .i64 0), .d (.int .i64 0), .d (.int .i64 0), .d (.int .i64 0), .d (.int .i64 0), .d (.int .i64 0), .d (.int .i64 0), .d (.int .i64 0), .d (.int .i64 0), .nil, .d (.int .i64 0), .d (.int .i64 0)], [(0, 51)], none, none, [], false, none⟩ := rfl
theorem tt_199 : tt 199 = some ⟨31, 320, true, [.d (.int .u64 0), .d (.str ⟨#[]⟩), .d (.int .i64 0), .d (.int .i64 0), .d (.int .i64 0), .d (.int .i64 0), .d (.int .i64 0), .nil, .d (.int .i64 0), .d (.int .i64 0), .nil, .d (.int .i64 0), .d (.int .i64 0), .d (.int .i64 0), .nil, .d (.bool false), .d (.int .i64 0), .d (.int .i64 0), .d (.int .i64 0), .d (.int .i64 0), .d (.int .i64 0), .d (.int .i64 0), .d (.int .i64 0), .d (.int .i64 0), .d (.int .i64 0), .d (.int .i64 0), .d (.int .i64 0), .d (.int .i64 0), .nil, .d (.int .i64 0), .d (.int .i64 0)], [(0, 51)], none, none, [], false, none⟩ := rfl
theorem tt_200 : tt 200 = some ⟨1, 8, false, [.d (.raw .nilFunc)], [], none, none, [], false, none⟩ := rfl
theorem tt_201 : tt 201 = some ⟨1, 8, false, [.d (.raw .nilFunc)], [], none, none, [], false, none⟩ := rfl
theorem tt_202 : tt 202 = some ⟨1, 8, false, [.d (.raw .nilFunc)], [], none, none, [], false, none⟩ := rfl
theorem tt_203 : tt 203 = some ⟨1, 8, false, [.d (.raw .nilFunc)], [], none, none, [], false, none⟩ := rfl
theorem tt_204 : tt 204 = some ⟨1, 8, false, [.d (.raw .nilFunc)], [], none, none, [], false, none⟩ := rfl
theorem tt_206 : tt 206 = some ⟨1, 8, false, [.d (.raw .nilFunc)], [], none, none, [], false, none⟩ := rfl
theorem tt_207 : tt 207 = some ⟨1, 8, false, [.d (.raw .nilFunc)], [], none, none, [], false, none⟩ := rfl
theorem tt_209 : tt 209 = some ⟨1, 8, false, [.d (.raw .nilFunc)], [], none, none, [], false, none⟩ := rfl
theorem tt_210 : tt 210 = some ⟨3, 24, true, [.d (.int .i64 0), .d (.int .i64 0), .d (.int .i64 0)], [(0, 2), (1, 42)], none, none, [true, true, true], false, none⟩ := rfl
theorem tt_211 : tt 211 = some ⟨3, 24, true, [.d (.int .i64 0), .d (.int .i64 0), .d (.int .i64 0)], [(0, 2), (1, 42)], none, none, [true, true, true], false, none⟩ := rfl
theorem tt_212 : tt 212 = some ⟨1, 8, false, [.d (.raw .nilFunc)], [], none, none, [], false, none⟩ := rfl
theorem tt_214 : tt 214 = some ⟨1, 8, false, [.d (.raw .nilFunc)], [], none, none, [], false, none⟩ := rfl
theorem tt_215 : tt 215 = some ⟨1, 8, false, [.d (.raw .nilFunc)], [], none, none, [], false, none⟩ := rfl
theorem tt_216 : tt 216 = some ⟨1, 8, false, [.d (.raw .nilFunc)], [], none, none, [], false, none⟩ := rfl
theorem tt_217 : tt 217 = some ⟨1, 8, false, [.d (.raw .nilFunc)], [], none, none, [], false, none⟩ := rfl
theorem tt_218 : tt 218 = some ⟨1, 8, false, [.d (.raw .nilFunc)], [], none, none, [], false, none⟩ := rfl
theorem tt_219 : tt 219 = some ⟨1, 8, false, [.d (.raw .nilFunc)], [], none, none, [], false, none⟩ := rfl
theorem tt_220 : tt 220 = some ⟨1, 8, false, [.d (.raw .nilFunc)], [], none, none, [], false, none⟩ := rfl
theorem tt_221 : tt 221 = some ⟨1, 8, false, [.d (.raw .nilFunc)], [], none, none, [], false, none⟩ := rfl
theorem tt_222 : tt 222 = some ⟨1, 8, false, [.d (.raw .nilFunc)], [], none, none, [], false, none⟩ := rfl
theorem tt_223 : tt 223 = some ⟨1, 8, false, [.d (.raw .nilFunc)], [], none, none, [], false, none⟩ := rfl
theorem tt_224 : tt 224 = some ⟨1, 8, false, [.d (.raw .nilFunc)], [], none, none, [], false, none⟩ := rfl
theorem tt_225 : tt 225 = some ⟨1, 8, false, [.d (.raw .nilFunc)], [], none, none, [], false, none⟩ := rfl
theorem tt_227 : tt 227 = some ⟨1, 8, false, [.d (.raw .nilFunc)], [], none, none, [], false, none⟩ := rfl
theorem tt_229 : tt 229 = some ⟨1, 8, false, [.d (.raw .nilFunc)], [], none, none, [], false, none⟩ := rfl
theorem tt_230 : tt 230 = some ⟨1, 8, false, [.d (.raw .nilFunc)], [], none, none, [], false, none⟩ := rfl
theorem tt_231 : tt 231 = some ⟨1, 8, false, [.d (.raw .nilFunc)], [], none, none, [], false, none⟩ := rfl
theorem tt_232 : tt 232 = some ⟨3, 24, true, [.d (.int .i64 0), .d (.int .i64 0), .d (.bool false)], [(0, 3), (1, 169)], none, none, [true, true, false], false, none⟩ := rfl
theorem tt_233 : tt 233 = some ⟨1, 24, false, [.nil], [], some 232, none, [], false, none⟩ := rfl
theorem tt_234 : tt 234 = some ⟨1, 8, false, [.d (.raw .nilFunc)], [], none, none, [], false, none⟩ := rfl
theorem tt_235 : tt 235 = some ⟨1, 8, false, [.d (.raw .nilFunc)], [], none, none, [], false, none⟩ := rfl
theorem tt_236 : tt 236 = some ⟨1, 8, false, [.d (.raw .nilFunc)], [], none, none, [], false, none⟩ := rfl
theorem tt_237 : tt 237 = some ⟨1, 8, false, [.d (.raw .nilFunc)], [], none, none, [], false, none⟩ := rfl
theorem tt_238 : tt 238 = some ⟨1, 8, false, [.d (.raw .nilFunc)], [], none, none, [], false, none⟩ := rfl
theorem tt_239 : tt 239 = some ⟨1, 8, false, [.d (.raw .nilFunc)], [], none, none, [], false, none⟩ := rfl
theorem tt_240 : tt 240 = some ⟨1, 8, false, [.d (.raw .nilFunc)], [], none, none, [], false, none⟩ := rfl
theorem tt_241 : tt 241 = some ⟨1, 8, false, [.d (.raw .nilFunc)], [], none, none, [], false, none⟩ := rfl
theorem tt_242 : tt 242 = some ⟨1, 8, false, [.d (.raw .nilFunc)], [], none, none, [], false, none⟩ := rfl
theorem tt_243 : tt 243 = some ⟨1, 8, false, [.d (.raw .nilFunc)], [], none, none, [], false, none⟩ := rfl
theorem tt_244 : tt 244 = some ⟨1, 8, false, [.d (.raw .nilFunc)], [], none, none, [], false, none⟩ := rfl
theorem tt_245 : tt 245 = some ⟨1, 8, false, [.d (.raw .nilFunc)], [], none, none, [], false, none⟩ := rfl
theorem tt_246 : tt 246 = some ⟨1, 8, false, [.d (.raw .nilFunc)], [], none, none, [], false, none⟩ := rfl
theorem tt_247 : tt 247 = some ⟨1, 8, false, [.d (.raw .nilFunc)], [], none, none, [], false, none⟩ := rfl
theorem tt_248 : tt 248 = some ⟨1, 8, false, [.d (.raw .nilFunc)], [], none, none, [], false, none⟩ := rfl
theorem tt_249 : tt 249 = some ⟨1, 8, false, [.d (.raw .nilFunc)], [], none, none, [], false, none⟩ := rfl
theorem tt_250 : tt 250 = some ⟨1, 8, false, [.d (.raw .nilFunc)], [], none, none, [], false, none⟩ := rfl
theorem tt_251 : tt 251 = some ⟨1, 8, false, [.d (.raw .nilFunc)], [], none, none, [], false, none⟩ := rfl
theorem tt_252 : tt 252 = some ⟨1, 8, false, [.d (.raw .nilFunc)], [], none, none, [], false, none⟩ := rfl
theorem tt_253 : tt 253 = some ⟨1, 8, false, [.d (.raw .nilFunc)], [], none, none, [], false, none⟩ := rfl
theorem tt_254 : tt 254 = some ⟨1, 8, false, [.d (.raw .nilFunc)], [], none, none, [], false, none⟩ := rfl
theorem tt_255 : tt 255 = some ⟨1, 8, false, [.d (.raw .nilFunc)], [], none, none, [], false, none⟩ := rfl
theorem tt_257 : tt 257 = some ⟨1, 8, false, [.d (.raw .nilFunc)], [], none, none, [], false, none⟩ := rfl
theorem tt_258 : tt 258 = some ⟨1, 8, false, [.d (.raw .nilFunc)], [], none, none, [], false, none⟩ := rfl
theorem tt_259 : tt 259 = some ⟨1, 8, false, [.d (.raw .nilFunc)], [], none, none, [], false, none⟩ := rfl
theorem tt_260 : tt 260 = some ⟨1, 8, false, [.d (.raw .nilFunc)], [], none, none, [], false, none⟩ := rfl
theorem tt_261 : tt 261 = some ⟨1, 8, false, [.d (.raw .nilFunc)], [], none, none, [], false, none⟩ := rfl
theorem tt_262 : tt 262 = some ⟨1, 8, false, [.d (.raw .nilFunc)], [], none, none, [], false, none⟩ := rfl
theorem tt_263 : tt 263 = some ⟨1, 8, false, [.d (.raw .nilFunc)], [], none, none, [], false, none⟩ := rfl
theorem tt_264 : tt 264 = some ⟨1, 8, false, [.d (.raw .nilFunc)], [], none, none, [], false, none⟩ := rfl
theorem tt_265 : tt 265 = some ⟨1, 8, false, [.d (.raw .nilFunc)], [], none, none, [], false, none⟩ := rfl
theorem tt_266 : tt 266 = some ⟨1, 8, false, [.d (.raw .nilFunc)], [], none, none, [], false, none⟩ := rfl
theorem tt_267 : tt 267 = some ⟨1, 24, false, [.nil], [], some 45, none, [], false, none⟩ := rfl
theorem tt_268 : tt 268 = some ⟨1, 8, false, [.d (.raw .nilFunc)], [], none, none, [], false, none⟩ := rfl
theorem tt_269 : tt 269 = some ⟨1, 8, false, [.d (.raw .nilFunc)], [], none, none, [], false, none⟩ := rfl
theorem tt_270 : tt 270 = some ⟨1, 8, false, [.d (.raw .nilFunc)], [], none, none, [], false, none⟩ := rfl
theorem tt_272 : tt 272 = some ⟨1, 8, false, [.d (.raw .nilFunc)], [], none, none, [], false, none⟩ := rfl
theorem tt_273 : tt 273 = some ⟨1, 8, false, [.d (.raw .nilFunc)], [], none, none, [], false, none⟩ := rfl
theorem tt_274 : tt 274 = some ⟨1, 8, false, [.d (.raw .nilFunc)], [], none, none, [], false, none⟩ := rfl
theorem tt_276 : tt 276 = some ⟨1, 8, false, [.d (.raw .nilFunc)], [], none, none, [], false, none⟩ := rfl
theorem tt_277 : tt 277 = some ⟨1, 8, false, [.d (.raw .nilFunc)], [], none, none, [], false, none⟩ := rfl
theorem tt_278 : tt 278 = some ⟨1, 8, false, [.d (.raw .nilFunc)], [], none, none, [], false, none⟩ := rfl
theorem tt_279 : tt 279 = some ⟨1, 8, false, [.d (.raw .nilFunc)], [], none, none, [], false, none⟩ := rfl
theorem tt_280 : tt 280 = some ⟨1, 8, false, [.d (.raw .nilFunc)], [], none, none, [], false, none⟩ := rfl
theorem tt_281 : tt 281 = some ⟨1, 8, false, [.d (.raw .nilFunc)], [], none, none, [], false, none⟩ := rfl
theorem tt_282 : tt 282 = some ⟨1, 8, false, [.d (.raw .nilFunc)], [], none, none, [], false, none⟩ := rfl
theorem tt_283 : tt 283 = some ⟨1, 8, false, [.d (.raw .nilFunc)], [], none, none, [], false, none⟩ := rfl
theorem tt_285 : tt 285 = some ⟨1, 8, false, [.d (.raw .nilFunc)], [], none, none, [], false, none⟩ := rfl
theorem tt_286 : tt 286 = some ⟨1, 8, false, [.d (.raw .nilFunc)], [], none, none, [], false, none⟩ := rfl
theorem tt_287 : tt 287 = some ⟨1, 8, false, [.d (.raw .nilFunc)], [], none, none, [], false, none⟩ := rfl
theorem tt_288 : tt 288 = some ⟨1, 8, false, [.d (.raw .nilFunc)], [], none, none, [], false, none⟩ := rfl
theorem tt_289 : tt 289 = some ⟨1, 8, false, [.d (.raw .nilFunc)], [], none, none, [], false, none⟩ := rfl
theorem tt_290 : tt 290 = some ⟨4, 32, true, [.d (.int .i64 0), .d (.int .i64 0), .d (.int .i64 0), .d (.int .i64 0)], [(0, 111)], none, none, [true, true, true, true], false, none⟩ := rfl
theorem tt_291 : tt 291 = some ⟨4, 32, true, [.d (.int .i64 0), .d (.int .i64 0), .d (.int .i64 0), .d (.int .i64 0)], [(0, 111)], none, none, [true, true, true, true], false, none⟩ := rfl
theorem tt_292 : tt 292 = some ⟨1, 8, false, [.d (.raw .nilFunc)], [], none, none, [], false, none⟩ := rfl
theorem tt_293 : tt 293 = some ⟨1, 8, false, [.d (.raw .nilFunc)], [], none, none, [], false, none⟩ := rfl
theorem tt_294 : tt 294 = some ⟨1, 8, false, [.d (.raw .nilFunc)], [], none, none, [], false, none⟩ := rfl
theorem tt_295 : tt 295 = some ⟨1, 8, false, [.d (.raw .nilFunc)], [], none, none, [], false, none⟩ := rfl
theorem tt_296 : tt 296 = some ⟨1, 8, false, [.d (.raw .nilFunc)], [], none, none, [], false, none⟩ := rfl
theorem tt_299 : tt 299 = some ⟨1, 8, false, [.d (.raw .nilFunc)], [], none, none, [], false, none⟩ := rfl
theorem tt_300 : tt 300 = some ⟨1, 8, false, [.d (.raw .nilFunc)], [], none, none, [], false, none⟩ := rfl
theorem tt_301 : tt 301 = some ⟨1, 8, false, [.d (.raw .nilFunc)], [], none, none, [], false, none⟩ := rfl
theorem tt_302 : tt 302 = some ⟨1, 8, false, [.d (.raw .nilFunc)], [], none, none, [], false, none⟩ := rfl
theorem tt_303 : tt 303 = some ⟨5, 40, true, [.d (.int .i64 0), .d (.int .i64 0), .d (.int .i64 0), .d (.int .i64 0), .d (.int .i64 0)], [(0, 211), (3, 2), (4, 2)], none, none, [true, true, true, true, true], false, none⟩ := rfl
theorem tt_304 : tt 304 = some ⟨5, 40, true, [.d (.int .i64 0), .d (.int .i64 0), .d (.int .i64 0), .d (.int .i64 0), .d (.int .i64 0)], [(0, 211), (3, 2), (4, 2)], none, none, [true, true, true, true, true], false, none⟩ := rfl
theorem tt_305 : tt 305 = some ⟨1, 8, false, [.d (.raw .nilFunc)], [], none, none, [], false, none⟩ := rfl
theorem tt_306 : tt 306 = some ⟨1, 8, false, [.d (.raw .nilFunc)], [], none, none, [], false, none⟩ := rfl
theorem tt_307 : tt 307 = some ⟨1, 8, false, [.d (.raw (.pointer none))], [], none, none, [], false, none⟩ := rfl
theorem tt_308 : tt 308 = some ⟨1, 8, false, [.d (.raw .nilFunc)], [], none, none, [], false, none⟩ := rfl
theorem tt_309 : tt 309 = some ⟨4, 40, true, [.d (.raw (.pointer none)), .d (.raw (.pointer none)), .d (.raw (.pointer none)), .d (.str ⟨#[]⟩)], [(0, 17), (1, 17), (2, 17), (3, 9)], none, none, [], false, none⟩ := rfl
theorem tt_310 : tt 310 = some ⟨4, 40, true, [.d (.raw (.pointer none)), .d (.raw (.pointer none)), .d (.raw (.pointer none)), .d (.str ⟨#[]⟩)], [(0, 17), (1, 17), (2, 17), (3, 9)], none, none, [], false, none⟩ := rfl
theorem tt_311 : tt 311 = some ⟨0, 0, true, [], [], none, none, [], false, some 16⟩ := rfl
theorem tt_312 : tt 312 = some ⟨0, 0, true, [], [(0, 311)], none, none, [], false, none⟩ := rfl
theorem tt_313 : tt 313 = some ⟨0, 0, true, [], [(0, 311)], none, none, [], false, none⟩ := rfl
theorem tt_314 : tt 314 = some ⟨1, 4, false, [.d (.int .u32 0)], [], none, some .u32, [], false, none⟩ := rfl
theorem tt_315 : tt 315 = some ⟨1, 1, false, [.d (.int .u8 0)], [], none, some .u8, [], false, none⟩ := rfl
theorem tt_316 : tt 316 = some ⟨1, 1, false, [.d (.int .u8 0)], [], none, some .u8, [], false, none⟩ := rfl
theorem tt_317 : tt 317 = some ⟨1, 8, false, [.d (.raw .nilFunc)], [], none, none, [], false, none⟩ := rfl
theorem tt_318 : tt 318 = some ⟨1, 8, false, [.d (.raw (.pointer none))], [], none, none, [], false, none⟩ := rfl
theorem tt_319 : tt 319 = some ⟨1, 4, false, [.d (.int .i32 0)], [], none, some .i32, [], false, none⟩ := rfl
theorem tt_320 : tt 320 = some ⟨1, 4, false, [.d (.int .i32 0)], [], none, some .i32, [], false, none⟩ := rfl
theorem tt_321 : tt 321 = some ⟨11, 48, true, [.d (.int .u64 0), .d (.int .u64 0), .d (.int .u32 0), .d (.int .u8 0), .d (.int .u8 0), .d (.int .u8 0), .d (.int .u8 0), .d (.raw .nilFunc), .d (.raw (.pointer none)), .d (.int .i32 0), .d (.int .i32 0)], [(0, 12), (1, 12), (2, 314), (3, 315), (4, 5), (5, 5), (6, 316), (7, 317), (8, 318), (9, 319), (10, 320)], none, none, [], false, none⟩ := rfl
theorem tt_322 : tt 322 = some ⟨11, 48, true, [.d (.int .u64 0), .d (.int .u64 0), .d (.int .u32 0), .d (.int .u8 0), .d (.int .u8 0), .d (.int .u8 0), .d (.int .u8 0), .d (.raw .nilFunc), .d (.raw (.pointer none)), .d (.int .i32 0), .d (.int .i32 0)], [(0, 12), (1, 12), (2, 314), (3, 315), (4, 5), (5, 5), (6, 316), (7, 317), (8, 318), (9, 319), (10, 320)], none, none, [], false, none⟩ := rfl
theorem tt_323 : tt 323 = some ⟨1, 16, true, [.d (.str ⟨#[]⟩)], [(0, 9)], none, none, [], false, none⟩ := rfl
theorem tt_324 : tt 324 = some ⟨1, 16, true, [.d (.str ⟨#[]⟩)], [(0, 9)], none, none, [], false, none⟩ := rfl
theorem tt_325 : tt 325 = some ⟨1, 8, false, [.d (.raw (.pointer none))], [], none, none, [], false, none⟩ := rfl
theorem tt0_ok : ∀ t ti, tt0 t = some ti → TI.check Tryz.prog t ti = true := by
  intro t ti h
  unfold tt0 at h
  split at h <;> first
    | (cases h; decide +kernel)
    | cases h
theorem tt1_ok : ∀ t ti, tt1 t = some ti → TI.check Tryz.prog t ti = true := by
  intro t ti h
  unfold tt1 at h
  split at h <;> first
    | (cases h; decide +kernel)
    | cases h
theorem tt2_ok : ∀ t ti, tt2 t = some ti → TI.check Tryz.prog t ti = true := by
  intro t ti h
  unfold tt2 at h
  split at h <;> first
    | (cases h; decide +kernel)
    | cases h
theorem tt3_ok : ∀ t ti, tt3 t = some ti → TI.check Tryz.prog t ti = true := by
  intro t ti h
  unfold tt3 at h
  split at h <;> first
    | (cases h; decide +kernel)
    | cases h
theorem tt4_ok : ∀ t ti, tt4 t = some ti → TI.check Tryz.prog t ti = true := by
  intro t ti h
  unfold tt4 at h
  split at h <;> first
    | (cases h; decide +kernel)
    | cases h
set_option linter.defProp false in
def gTT := And.intro (And.intro (And.intro (And.intro (And.intro (And.intro (And.intro (And.intro (tt_1) (tt_2)) (And.intro (tt_3) (tt_4))) (And.intro (And.intro (tt_5) (tt_6)) (And.intro (tt_7) (And.intro (tt_8) (tt_9))))) (And.intro (And.intro (And.intro (tt_10) (tt_11)) (And.intro (tt_12) (tt_13))) (And.intro (And.intro (tt_14) (tt_15)) (And.intro (tt_16) (And.intro (tt_17) (tt_18)))))) (And.intro (And.intro (And.intro (And.intro (tt_19) (tt_21)) (And.intro (tt_22) (tt_23))) (And.intro (And.intro (tt_24) (tt_25)) (And.intro (tt_26) (And.intro (tt_27) (tt_28))))) (And.intro (And.intro (And.intro (tt_29) (tt_30)) (And.intro (tt_31) (tt_32))) (And.intro (And.intro (tt_33) (tt_34)) (And.intro (tt_35) (And.intro (tt_36) (tt_37))))))) (And.intro (And.intro (And.intro (And.intro (And.intro (tt_38) (tt_39)) (And.intro (tt_40) (tt_41))) (And.intro (And.intro (tt_42) (tt_43)) (And.intro (tt_44) (And.intro (tt_45) (tt_46))))) (And.intro (And.intro (And.intro (tt_47) (tt_48)) (And.intro (tt_49) (tt_50))) (And.intro (And.intro (tt_51) (tt_53)) (And.intro (tt_54) (And.intro (tt_55) (tt_56)))))) (And.intro (And.intro (And.intro (And.intro (tt_57) (tt_58)) (And.intro (tt_60) (tt_61))) (And.intro (And.intro (tt_62) (tt_63)) (And.intro (tt_65) (And.intro (tt_66) (tt_67))))) (And.intro (And.intro (And.intro (tt_69) (tt_71)) (And.intro (tt_73) (tt_74))) (And.intro (And.intro (tt_75) (tt_76)) (And.intro (tt_77) (And.intro (tt_78) (tt_79)))))))) (And.intro (And.intro (And.intro (And.intro (And.intro (And.intro (tt_80) (tt_82)) (And.intro (tt_83) (tt_84))) (And.intro (And.intro (tt_85) (tt_87)) (And.intro (tt_88) (And.intro (tt_89) (tt_90))))) (And.intro (And.intro (And.intro (tt_91) (tt_93)) (And.intro (tt_95) (tt_96))) (And.intro (And.intro (tt_97) (tt_98)) (And.intro (tt_99) (And.intro (tt_100) (tt_101)))))) (And.intro (And.intro (And.intro (And.intro (tt_103) (tt_105)) (And.intro (tt_107) (tt_109))) (And.intro (And.intro (tt_110) (tt_111)) (And.intro (tt_112) (And.intro (tt_113) (tt_114))))) (And.intro (And.intro (And.intro (tt_115) (tt_117)) (And.intro (tt_119) (tt_120))) (And.intro (And.intro (tt_121) (tt_122)) (And.intro (tt_123) (And.intro (tt_124) (tt_125))))))) (And.intro (And.intro (And.intro (And.intro (And.intro (tt_126) (tt_127)) (And.intro (tt_128) (tt_129))) (And.intro (And.intro (tt_130) (tt_131)) (And.intro (tt_132) (And.intro (tt_133) (tt_134))))) (And.intro (And.intro (And.intro (tt_136) (tt_137)) (And.intro (tt_138) (tt_140))) (And.intro (And.intro (tt_141) (tt_142)) (And.intro (tt_143) (And.intro (tt_144) (tt_147)))))) (And.intro (And.intro (And.intro (And.intro (tt_148) (tt_149)) (And.intro (tt_150) (tt_151))) (And.intro (And.intro (tt_152) (tt_153)) (And.intro (tt_154) (And.intro (tt_155) (tt_156))))) (And.intro (And.intro (And.intro (tt_158) (tt_159)) (And.intro (tt_161) (tt_162))) (And.intro (And.intro (tt_163) (tt_164)) (And.intro (tt_165) (And.intro (tt_166) (tt_167))))))))) (And.intro (And.intro (And.intro (And.intro (And.intro (And.intro (And.intro (tt_168) (tt_169)) (And.intro (tt_170) (tt_171))) (And.intro (And.intro (tt_172) (tt_173)) (And.intro (tt_174) (And.intro (tt_176) (tt_177))))) (And.intro (And.intro (And.intro (tt_178) (tt_179)) (And.intro (tt_180) (tt_181))) (And.intro (And.intro (tt_182) (tt_183)) (And.intro (tt_184) (And.intro (tt_185) (tt_187)))))) (And.intro (And.intro (And.intro (And.intro (tt_188) (tt_189)) (And.intro (tt_190) (tt_192))) (And.intro (And.intro (tt_193) (tt_194)) (And.intro (tt_195) (And.intro (tt_196) (tt_197))))) (And.intro (And.intro (And.intro (tt_198) (tt_199)) (And.intro (tt_200) (tt_201))) (And.intro (And.intro (tt_202) (tt_203)) (And.intro (tt_204) (And.intro (tt_206) (tt_207))))))) (And.intro (And.intro (And.intro (And.intro (And.intro (tt_209) (tt_210)) (And.intro (tt_211) (tt_212))) (And.intro (And.intro (tt_214) (tt_215)) (And.intro (tt_216) (And.intro (tt_217) (tt_218))))) (And.intro (And.intro (And.intro (tt_219) (tt_220)) (And.intro (tt_221) (tt_222))) (And.intro (And.intro (tt_223) (tt_224)) (And.intro (tt_225) (And.intro (tt_227) (tt_229)))))) (And.intro (And.intro (And.intro (And.intro (tt_230) (tt_231)) (And.intro (tt_232) (tt_233))) (And.intro (And.intro (tt_234) (tt_235)) (And.intro (tt_236) (And.intro (tt_237) (tt_238))))) (And.intro (And.intro (And.intro (tt_239) (tt_240)) (And.intro (tt_241) (tt_242))) (And.intro (And.intro (tt_243) (tt_244)) (And.intro (tt_245) (And.intro (tt_246) (tt_247)))))))) (And.intro (And.intro (And.intro (And.intro (And.intro (And.intro (tt_248) (tt_249)) (And.intro (tt_250) (tt_251))) (And.intro (And.intro (tt_252) (tt_253)) (And.intro (tt_254) (And.intro (tt_255) (tt_257))))) (And.intro (And.intro (And.intro (tt_258) (tt_259)) (And.intro (tt_260) (tt_261))) (And.intro (And.intro (tt_262) (tt_263)) (And.intro (tt_264) (And.intro (tt_265) (tt_266)))))) (And.intro (And.intro (And.intro (And.intro (tt_267) (tt_268)) (And.intro (tt_269) (tt_270))) (And.intro (And.intro (tt_272) (tt_273)) (And.intro (tt_274) (And.intro (tt_276) (tt_277))))) (And.intro (And.intro (And.intro (tt_278) (tt_279)) (And.intro (tt_280) (tt_281))) (And.intro (And.intro (tt_282) (tt_283)) (And.intro (tt_285) (And.intro (tt_286) (tt_287))))))) (And.intro (And.intro (And.intro (And.intro (And.intro (tt_288) (tt_289)) (And.intro (tt_290) (tt_291))) (And.intro (And.intro (tt_292) (tt_293)) (And.intro (tt_294) (And.intro (tt_295) (tt_296))))) (And.intro (And.intro (And.intro (tt_299) (tt_300)) (And.intro (tt_301) (tt_302))) (And.intro (And.intro (tt_303) (tt_304)) (And.intro (tt_305) (And.intro (tt_306) (tt_307)))))) (And.intro (And.intro (And.intro (And.intro (tt_308) (tt_309)) (And.intro (tt_310) (tt_311))) (And.intro (And.intro (tt_312) (tt_313)) (And.intro (tt_314) (And.intro (tt_315) (tt_316))))) (And.intro (And.intro (And.intro (tt_317) (tt_318)) (And.intro (tt_319) (tt_320))) (And.intro (And.intro (tt_321) (tt_322)) (And.intro (tt_323) (And.intro (tt_324) (tt_325)))))))))
theorem tt_ok : ∀ t ti, tt t = some ti → TI.check Tryz.prog t ti = true := by
  intro t ti h
  unfold tt at h
  cases h0 : tt0 t with
  | some x => rw [h0] at h; cases h; exact tt0_ok t _ h0
  | none =>
  rw [h0] at h
  change Option.orElse (tt1 t) (fun _ => Option.orElse (tt2 t) (fun _ => Option.orElse (tt3 t) (fun _ => Option.orElse (tt4 t) (fun _ => none)))) = some ti at h
  cases h1 : tt1 t with
  | some x => rw [h1] at h; cases h; exact tt1_ok t _ h1
  | none =>
  rw [h1] at h
  change Option.orElse (tt2 t) (fun _ => Option.orElse (tt3 t) (fun _ => Option.orElse (tt4 t) (fun _ => none))) = some ti at h
  cases h2 : tt2 t with
  | some x => rw [h2] at h; cases h; exact tt2_ok t _ h2
  | none =>
  rw [h2] at h
  change Option.orElse (tt3 t) (fun _ => Option.orElse (tt4 t) (fun _ => none)) = some ti at h
  cases h3 : tt3 t with
  | some x => rw [h3] at h; cases h; exact tt3_ok t _ h3
  | none =>
  rw [h3] at h
  change Option.orElse (tt4 t) (fun _ => none) = some ti at h
  cases h4 : tt4 t with
  | some x => rw [h4] at h; cases h; exact tt4_ok t _ h4
  | none =>
  rw [h4] at h
  change none = some ti at h
  cases h
theorem tt_mixed : Tryz.prog.follows .mixedOrders = true := by decide +kernel
universe u
def gSt := And.intro (@if_true.{u}) (And.intro (@if_false.{u}) (And.intro (@implies_true.{u}) (And.intro (@forall_const.{u}) (And.intro (@eq_self.{u}) (@ne_eq.{u})))))
def gS0 := And.intro (@not_true_eq_false) (And.intro (@not_false_eq_true) (@imp_self))
theorem lvp {r : V} (h : r.bare = true) : LvOK 0 r [] [] := ⟨fun m hm => (V.bare_has h m hm).elim, by simp, by simp⟩
theorem sE {md : Nat → Nat} {L : List (FuncId × Entry)} {f : FuncId} {fn : Func} {c : Code} {args : List V} {b : Boxes} {k : Toks} {r : V} (M : List (Nat × List Nat)) (m : Nat) (hs : Snds Tryz.prog L) (hf : Tryz.prog.funcs[f]? = some fn) (hb : fn.body = some c) (ha : Nat.ble args.length fn.ntmps = true) (hlv : r.bare = true) (h : evS ⟨argT 0 args, b, k⟩ (E ⟨Tryz.prog, tt, fn.ntmps, 1, md, tab L⟩ M m c (finQ ⟨Tryz.prog, tt, fn.ntmps, 1, md, tab L⟩ fn.results.toList r [] []))) (hname : (fn.name == "runtime.NumGoroutine") = false := by decide) : Spec Tryz.prog 0 f args b k r [] [] :=
  spec_of_E (X := ⟨Tryz.prog, tt, fn.ntmps, 1, md, tab L⟩) M m rfl rfl ⟨tt_ok, tab_ok hs _ rfl rfl⟩ tt_mixed hf hb hname (Nat.le_of_ble_eq_true ha) (lvp hlv) h
end Go.Vam
