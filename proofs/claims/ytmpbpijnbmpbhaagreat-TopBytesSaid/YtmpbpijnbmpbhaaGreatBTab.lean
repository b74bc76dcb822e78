/- The types of this translation, checked against it. Conditions: none. -/
import Derived.Test.YtmpbpijnbmpbhaaGreatBVl
import Derived.Test.YtmpbpijnbmpbhaaGreatBVm
import Derived.Test.YtmpbpijnbmpbhaaGreatProg
set_option linter.unusedVariables false
set_option linter.defProp false
set_option maxRecDepth 40000
namespace Go.Vam
open Go.Proofs
def tt0:TypeId→Option TI
 | 1=>some ⟨1,8,false,[.d (.raw .nilFunc)],[],none,none,[],false,none⟩
 | 2=>some ⟨1,8,false,[.d (.int .i64 0)],[],none,some .i64,[],false,none⟩
 | 3=>some ⟨1,8,false,[.d (.int .i64 0)],[],none,some .i64,[],false,none⟩
 | 4=>some ⟨1,1,false,[.d (.bool false)],[],none,none,[],true,none⟩
 | 5=>some ⟨1,1,false,[.d (.int .u8 0)],[],none,some .u8,[],false,none⟩
 | 6=>some ⟨1,1,false,[.d (.int .u8 0)],[],none,some .u8,[],false,none⟩
 | 7=>some ⟨4,24,true,[.d (.int .i64 0),.d (.int .i64 0),.d (.bool false),.d (.int .u8 0)],[(0,2),(1,3),(2,4),(3,6)],none,none,[true,true,false,true],false,none⟩
 | 8=>some ⟨4,24,true,[.d (.int .i64 0),.d (.int .i64 0),.d (.bool false),.d (.int .u8 0)],[(0,2),(1,3),(2,4),(3,6)],none,none,[true,true,false,true],false,none⟩
 | 9=>some ⟨1,16,false,[.d (.str ⟨#[]⟩)],[],none,none,[],false,none⟩
 | 10=>some ⟨1,16,false,[.d (.str ⟨#[]⟩)],[],none,none,[],false,none⟩
 | 11=>some ⟨1,16,false,[.d (.str ⟨#[]⟩)],[],none,none,[],false,none⟩
 | 12=>some ⟨1,8,false,[.d (.int .u64 0)],[],none,some .u64,[],false,none⟩
 | 13=>some ⟨2,24,true,[.d (.str ⟨#[]⟩),.d (.int .u64 0)],[(0,9),(1,12)],none,none,[],false,none⟩
 | 14=>some ⟨2,24,true,[.d (.str ⟨#[]⟩),.d (.int .u64 0)],[(0,9),(1,12)],none,none,[],false,none⟩
 | 15=>some ⟨1,8,false,[.d (.raw (.pointer none))],[],none,none,[],false,none⟩
 | 16=>some ⟨1,8,false,[.d (.raw (.pointer none))],[],none,none,[],false,none⟩
 | 17=>some ⟨1,8,false,[.d (.raw (.pointer none))],[],none,none,[],false,none⟩
 | 18=>some ⟨1,8,true,[.d (.raw (.pointer none))],[(0,17)],none,none,[],false,none⟩
 | 19=>some ⟨1,8,true,[.d (.raw (.pointer none))],[(0,17)],none,none,[],false,none⟩
 | 21=>some ⟨1,4,false,[.d (.int .i32 0)],[],none,some .i32,[],false,none⟩
 | 22=>some ⟨1,24,false,[.nil],[],some 5,none,[],false,none⟩
 | 23=>some ⟨1,8,false,[.d (.raw .nilFunc)],[],none,none,[],false,none⟩
 | 24=>some ⟨1,8,false,[.d (.raw (.pointer none))],[],none,none,[],false,none⟩
 | 25=>some ⟨1,8,false,[.d (.raw .nilFunc)],[],none,none,[],false,none⟩
 | 26=>some ⟨1,24,false,[.nil],[],some 3,none,[],false,none⟩
 | 27=>some ⟨1,8,false,[.d (.raw .nilFunc)],[],none,none,[],false,none⟩
 | 28=>some ⟨1,8,false,[.d (.int .u64 0)],[],none,some .u64,[],false,none⟩
 | 29=>some ⟨1,24,false,[.nil],[],some 134,none,[],false,none⟩
 | 30=>some ⟨8,88,true,[.d (.int .u64 0),.d (.str ⟨#[]⟩),.d (.int .i64 0),.d (.int .i64 0),.d (.int .i64 0),.d (.int .i64 0),.d (.int .i64 0),.nil],[(0,28),(1,9),(2,3),(3,3),(4,3),(5,3),(6,3),(7,29)],none,none,[],false,none⟩
 | 31=>some ⟨8,88,true,[.d (.int .u64 0),.d (.str ⟨#[]⟩),.d (.int .i64 0),.d (.int .i64 0),.d (.int .i64 0),.d (.int .i64 0),.d (.int .i64 0),.nil],[(0,28),(1,9),(2,3),(3,3),(4,3),(5,3),(6,3),(7,29)],none,none,[],false,none⟩
 | 32=>some ⟨3,40,true,[.d (.int .i64 0),.d (.int .i64 0),.nil],[(0,3),(1,3),(2,26)],none,none,[],false,none⟩
 | 33=>some ⟨3,40,true,[.d (.int .i64 0),.d (.int .i64 0),.nil],[(0,3),(1,3),(2,26)],none,none,[],false,none⟩
 | 34=>some ⟨4,48,true,[.d (.int .i64 0),.d (.int .i64 0),.nil,.d (.int .i64 0)],[(0,33),(3,3)],none,none,[],false,none⟩
 | 35=>some ⟨4,48,true,[.d (.int .i64 0),.d (.int .i64 0),.nil,.d (.int .i64 0)],[(0,33),(3,3)],none,none,[],false,none⟩
 | 36=>some ⟨1,24,false,[.nil],[],some 211,none,[],false,none⟩
 | 37=>some ⟨1,24,true,[.nil],[(0,36)],none,none,[],false,none⟩
 | 38=>some ⟨1,24,true,[.nil],[(0,36)],none,none,[],false,none⟩
 | 39=>some ⟨4,32,true,[.d (.int .i64 0),.d (.int .i64 0),.d (.int .i64 0),.d (.int .i64 0)],[(0,3),(1,3),(2,3),(3,3)],none,none,[true,true,true,true],false,none⟩
 | 40=>some ⟨4,32,true,[.d (.int .i64 0),.d (.int .i64 0),.d (.int .i64 0),.d (.int .i64 0)],[(0,3),(1,3),(2,3),(3,3)],none,none,[true,true,true,true],false,none⟩
 | 41=>some ⟨2,16,true,[.d (.int .i64 0),.d (.int .i64 0)],[(0,2),(1,2)],none,none,[true,true],false,none⟩
 | 42=>some ⟨2,16,true,[.d (.int .i64 0),.d (.int .i64 0)],[(0,2),(1,2)],none,none,[true,true],false,none⟩
 | 43=>some ⟨5,40,true,[.d (.int .i64 0),.d (.int .i64 0),.d (.int .i64 0),.d (.int .i64 0),.d (.int .i64 0)],[(0,42),(2,3),(3,2),(4,2)],none,none,[true,true,true,true,true],false,none⟩
 | 44=>some ⟨5,40,true,[.d (.int .i64 0),.d (.int .i64 0),.d (.int .i64 0),.d (.int .i64 0),.d (.int .i64 0)],[(0,42),(2,3),(3,2),(4,2)],none,none,[true,true,true,true,true],false,none⟩
 | 45=>some ⟨1,24,false,[.nil],[],some 21,none,[],false,none⟩
 | 46=>some ⟨7,72,true,[.d (.int .i64 0),.d (.int .i64 0),.d (.int .i64 0),.d (.int .i64 0),.d (.int .i64 0),.d (.int .i64 0),.nil],[(0,3),(1,44),(6,45)],none,none,[],false,none⟩
 | 47=>some ⟨7,72,true,[.d (.int .i64 0),.d (.int .i64 0),.d (.int .i64 0),.d (.int .i64 0),.d (.int .i64 0),.d (.int .i64 0),.nil],[(0,3),(1,44),(6,45)],none,none,[],false,none⟩
 | 48=>some ⟨14,128,true,[.d (.int .i64 0),.d (.int .i64 0),.d (.int .i64 0),.d (.int .i64 0),.d (.int .i64 0),.d (.int .i64 0),.d (.int .i64 0),.d (.int .i64 0),.d (.int .i64 0),.d (.int .i64 0),.d (.int .i64 0),.nil,.d (.int .i64 0),.d (.int .i64 0)],[(0,3),(1,40),(5,47),(12,3),(13,3)],none,none,[],false,none⟩
 | 49=>some ⟨14,128,true,[.d (.int .i64 0),.d (.int .i64 0),.d (.int .i64 0),.d (.int .i64 0),.d (.int .i64 0),.d (.int .i64 0),.d (.int .i64 0),.d (.int .i64 0),.d (.int .i64 0),.d (.int .i64 0),.d (.int .i64 0),.nil,.d (.int .i64 0),.d (.int .i64 0)],[(0,3),(1,40),(5,47),(12,3),(13,3)],none,none,[],false,none⟩
 | 50=>some ⟨31,320,true,[.d (.int .u64 0),.d (.str ⟨#[]⟩),.d (.int .i64 0),.d (.int .i64 0),.d (.int .i64 0),.d (.int .i64 0),.d (.int .i64 0),.nil,.d (.int .i64 0),.d (.int .i64 0),.nil,.d (.int .i64 0),.d (.int .i64 0),.d (.int .i64 0),.nil,.d (.bool false),.d (.int .i64 0),.d (.int .i64 0),.d (.int .i64 0),.d (.int .i64 0),.d (.int .i64 0),.d (.int .i64 0),.d (.int .i64 0),.d (.int .i64 0),.d (.int .i64 0),.d (.int .i64 0),.d (.int .i64 0),.d (.int .i64 0),.nil,.d (.int .i64 0),.d (.int .i64 0)],[(0,31),(8,35),(12,3),(13,3),(14,38),(15,4),(16,2),(17,49)],none,none,[],false,none⟩
 | 51=>some ⟨31,320,true,[.d (.int .u64 0),.d (.str ⟨#[]⟩),.d (.int .i64 0),.d (.int .i64 0),.d (.int .i64 0),.d (.int .i64 0),.d (.int .i64 0),.nil,.d (.int .i64 0),.d (.int .i64 0),.nil,.d (.int .i64 0),.d (.int .i64 0),.d (.int .i64 0),.nil,.d (.bool false),.d (.int .i64 0),.d (.int .i64 0),.d (.int .i64 0),.d (.int .i64 0),.d (.int .i64 0),.d (.int .i64 0),.d (.int .i64 0),.d (.int .i64 0),.d (.int .i64 0),.d (.int .i64 0),.d (.int .i64 0),.d (.int .i64 0),.nil,.d (.int .i64 0),.d (.int .i64 0)],[(0,31),(8,35),(12,3),(13,3),(14,38),(15,4),(16,2),(17,49)],none,none,[],false,none⟩
 | 53=>some ⟨1,8,false,[.d (.raw .nilFunc)],[],none,none,[],false,none⟩
 | 54=>some ⟨5,56,true,[.d (.int .i64 0),.d (.int .i64 0),.d (.int .i64 0),.d (.int .i64 0),.nil],[(0,3),(1,3),(2,2),(3,2),(4,45)],none,none,[],false,none⟩
 | 55=>some ⟨5,56,true,[.d (.int .i64 0),.d (.int .i64 0),.d (.int .i64 0),.d (.int .i64 0),.nil],[(0,3),(1,3),(2,2),(3,2),(4,45)],none,none,[],false,none⟩
 | 56=>some ⟨19,184,true,[.d (.int .i64 0),.d (.int .i64 0),.d (.int .i64 0),.d (.int .i64 0),.d (.int .i64 0),.d (.int .i64 0),.d (.int .i64 0),.d (.int .i64 0),.d (.int .i64 0),.d (.int .i64 0),.nil,.d (.int .i64 0),.d (.int .i64 0),.d (.int .i64 0),.d (.int .i64 0),.nil,.d (.int .i64 0),.d (.int .i64 0),.d (.int .i64 0)],[(0,3),(1,3),(2,3),(3,3),(4,47),(11,55),(16,2),(17,2),(18,2)],none,none,[],false,none⟩
 | 57=>some ⟨19,184,true,[.d (.int .i64 0),.d (.int .i64 0),.d (.int .i64 0),.d (.int .i64 0),.d (.int .i64 0),.d (.int .i64 0),.d (.int .i64 0),.d (.int .i64 0),.d (.int .i64 0),.d (.int .i64 0),.nil,.d (.int .i64 0),.d (.int .i64 0),.d (.int .i64 0),.d (.int .i64 0),.nil,.d (.int .i64 0),.d (.int .i64 0),.d (.int .i64 0)],[(0,3),(1,3),(2,3),(3,3),(4,47),(11,55),(16,2),(17,2),(18,2)],none,none,[],false,none⟩
 | 58=>some ⟨1,8,false,[.d (.int .i64 0)],[],none,some .i64,[],false,none⟩
 | 60=>some ⟨1,8,false,[.d (.raw .nilFunc)],[],none,none,[],false,none⟩
 | 61=>some ⟨1,8,false,[.d (.raw .nilFunc)],[],none,none,[],false,none⟩
 | 62=>some ⟨2,32,true,[.d (.int .i64 0),.nil],[(0,3),(1,45)],none,none,[],false,none⟩
 | 63=>some ⟨2,32,true,[.d (.int .i64 0),.nil],[(0,3),(1,45)],none,none,[],false,none⟩
 | 65=>some ⟨1,8,false,[.d (.raw .nilFunc)],[],none,none,[],false,none⟩
 | 66=>some ⟨1,8,false,[.d (.raw .nilFunc)],[],none,none,[],false,none⟩
 | 67=>some ⟨1,8,false,[.d (.raw .nilFunc)],[],none,none,[],false,none⟩
 | 69=>some ⟨1,8,false,[.d (.raw .nilFunc)],[],none,none,[],false,none⟩
 | _=>none
def tt1:TypeId→Option TI
 | 71=>some ⟨1,8,false,[.d (.raw .nilFunc)],[],none,none,[],false,none⟩
 | 73=>some ⟨1,8,false,[.d (.raw .nilFunc)],[],none,none,[],false,none⟩
 | 74=>some ⟨1,8,false,[.d (.raw .nilFunc)],[],none,none,[],false,none⟩
 | 75=>some ⟨1,8,false,[.d (.raw .nilFunc)],[],none,none,[],false,none⟩
 | 76=>some ⟨1,8,false,[.d (.raw .nilFunc)],[],none,none,[],false,none⟩
 | 77=>some ⟨1,8,false,[.d (.raw .nilFunc)],[],none,none,[],false,none⟩
 | 78=>some ⟨1,24,false,[.nil],[],some 57,none,[],false,none⟩
 | 79=>some ⟨1,8,false,[.d (.raw .nilFunc)],[],none,none,[],false,none⟩
 | 80=>some ⟨1,8,false,[.d (.raw .nilFunc)],[],none,none,[],false,none⟩
 | 82=>some ⟨1,8,false,[.d (.raw .nilFunc)],[],none,none,[],false,none⟩
 | 83=>some ⟨1,8,false,[.d (.raw .nilFunc)],[],none,none,[],false,none⟩
 | 84=>some ⟨1,8,false,[.d (.raw .nilFunc)],[],none,none,[],false,none⟩
 | 85=>some ⟨1,8,false,[.d (.raw .nilFunc)],[],none,none,[],false,none⟩
 | 87=>some ⟨1,8,false,[.d (.raw .nilFunc)],[],none,none,[],false,none⟩
 | 88=>some ⟨3,40,true,[.d (.int .i64 0),.d (.int .i64 0),.nil],[(0,3),(1,3),(2,26)],none,none,[],false,none⟩
 | 89=>some ⟨3,40,true,[.d (.int .i64 0),.d (.int .i64 0),.nil],[(0,3),(1,3),(2,26)],none,none,[],false,none⟩
 | 90=>some ⟨16,192,true,[.d (.int .i64 0),.d (.int .i64 0),.nil,.d (.int .i64 0),.d (.int .i64 0),.nil,.d (.int .i64 0),.d (.int .i64 0),.nil,.d (.int .i64 0),.d (.int .i64 0),.d (.int .i64 0),.d (.int .i64 0),.d (.int .i64 0),.d (.int .i64 0),.nil],[(0,33),(3,33),(6,89),(9,47)],none,none,[],false,none⟩
 | 91=>some ⟨16,192,true,[.d (.int .i64 0),.d (.int .i64 0),.nil,.d (.int .i64 0),.d (.int .i64 0),.nil,.d (.int .i64 0),.d (.int .i64 0),.nil,.d (.int .i64 0),.d (.int .i64 0),.d (.int .i64 0),.d (.int .i64 0),.d (.int .i64 0),.d (.int .i64 0),.nil],[(0,33),(3,33),(6,89),(9,47)],none,none,[],false,none⟩
 | 93=>some ⟨1,8,false,[.d (.raw .nilFunc)],[],none,none,[],false,none⟩
 | 95=>some ⟨1,8,false,[.d (.raw .nilFunc)],[],none,none,[],false,none⟩
 | 96=>some ⟨1,8,false,[.d (.raw .nilFunc)],[],none,none,[],false,none⟩
 | 97=>some ⟨1,24,false,[.nil],[],some 63,none,[],false,none⟩
 | 98=>some ⟨1,8,false,[.d (.raw .nilFunc)],[],none,none,[],false,none⟩
 | 99=>some ⟨1,8,false,[.d (.raw .nilFunc)],[],none,none,[],false,none⟩
 | 100=>some ⟨3,24,true,[.d (.int .i64 0),.d (.int .i64 0),.d (.int .i64 0)],[(0,3),(1,3),(2,3)],none,none,[true,true,true],false,none⟩
 | 101=>some ⟨3,24,true,[.d (.int .i64 0),.d (.int .i64 0),.d (.int .i64 0)],[(0,3),(1,3),(2,3)],none,none,[true,true,true],false,none⟩
 | 103=>some ⟨1,8,false,[.d (.raw .nilFunc)],[],none,none,[],false,none⟩
 | 105=>some ⟨1,8,false,[.d (.raw .nilFunc)],[],none,none,[],false,none⟩
 | 107=>some ⟨1,8,false,[.d (.raw .nilFunc)],[],none,none,[],false,none⟩
 | 109=>some ⟨1,8,false,[.d (.raw .nilFunc)],[],none,none,[],false,none⟩
 | 110=>some ⟨4,32,true,[.d (.int .i64 0),.d (.int .i64 0),.d (.int .i64 0),.d (.int .i64 0)],[(0,3),(1,3),(2,3),(3,3)],none,none,[true,true,true,true],false,none⟩
 | 111=>some ⟨4,32,true,[.d (.int .i64 0),.d (.int .i64 0),.d (.int .i64 0),.d (.int .i64 0)],[(0,3),(1,3),(2,3),(3,3)],none,none,[true,true,true,true],false,none⟩
 | 112=>some ⟨9,104,true,[.d (.int .i64 0),.nil,.d (.int .i64 0),.d (.int .i64 0),.nil,.d (.int .i64 0),.d (.int .i64 0),.d (.int .i64 0),.d (.int .i64 0)],[(0,63),(2,89),(5,111)],none,none,[],false,none⟩
 | 113=>some ⟨9,104,true,[.d (.int .i64 0),.nil,.d (.int .i64 0),.d (.int .i64 0),.nil,.d (.int .i64 0),.d (.int .i64 0),.d (.int .i64 0),.d (.int .i64 0)],[(0,63),(2,89),(5,111)],none,none,[],false,none⟩
 | 114=>some ⟨1,24,false,[.nil],[],some 113,none,[],false,none⟩
 | 115=>some ⟨1,8,false,[.d (.raw .nilFunc)],[],none,none,[],false,none⟩
 | 117=>some ⟨1,8,false,[.d (.raw .nilFunc)],[],none,none,[],false,none⟩
 | 119=>some ⟨1,8,false,[.d (.raw .nilFunc)],[],none,none,[],false,none⟩
 | 120=>some ⟨1,8,false,[.d (.raw .nilFunc)],[],none,none,[],false,none⟩
 | 121=>some ⟨1,24,false,[.nil],[],some 2,none,[],false,none⟩
 | 122=>some ⟨1,8,false,[.d (.raw .nilFunc)],[],none,none,[],false,none⟩
 | 123=>some ⟨1,8,false,[.d (.raw .nilFunc)],[],none,none,[],false,none⟩
 | 124=>some ⟨1,24,true,[.nil],[(0,22)],none,none,[],false,none⟩
 | 125=>some ⟨1,24,true,[.nil],[(0,22)],none,none,[],false,none⟩
 | 126=>some ⟨1,24,false,[.nil],[],some 26,none,[],false,none⟩
 | 127=>some ⟨1,8,false,[.d (.raw .nilFunc)],[],none,none,[],false,none⟩
 | 128=>some ⟨2,16,true,[.d (.int .i64 0),.d (.int .i64 0)],[(0,3),(1,3)],none,none,[true,true],false,none⟩
 | 129=>some ⟨2,16,true,[.d (.int .i64 0),.d (.int .i64 0)],[(0,3),(1,3)],none,none,[true,true],false,none⟩
 | 130=>some ⟨1,24,false,[.nil],[],some 129,none,[],false,none⟩
 | 131=>some ⟨1,24,true,[.nil],[(0,130)],none,none,[],false,none⟩
 | 132=>some ⟨1,24,true,[.nil],[(0,130)],none,none,[],false,none⟩
 | 133=>some ⟨4,80,true,[.d (.int .i64 0),.nil,.nil,.nil],[(0,3),(1,132),(2,126),(3,132)],none,none,[],false,none⟩
 | 134=>some ⟨4,80,true,[.d (.int .i64 0),.nil,.nil,.nil],[(0,3),(1,132),(2,126),(3,132)],none,none,[],false,none⟩
 | 136=>some ⟨1,8,false,[.d (.raw .nilFunc)],[],none,none,[],false,none⟩
 | 137=>some ⟨1,8,false,[.d (.raw .nilFunc)],[],none,none,[],false,none⟩
 | 138=>some ⟨1,8,false,[.d (.raw .nilFunc)],[],none,none,[],false,none⟩
 | 140=>some ⟨1,8,false,[.d (.raw .nilFunc)],[],none,none,[],false,none⟩
 | 141=>some ⟨1,8,false,[.d (.raw .nilFunc)],[],none,none,[],false,none⟩
 | 142=>some ⟨1,8,false,[.d (.raw .nilFunc)],[],none,none,[],false,none⟩
 | 143=>some ⟨2,32,true,[.nil,.d (.raw .nilFunc)],[(0,26),(1,142)],none,none,[],false,none⟩
 | 144=>some ⟨2,32,true,[.nil,.d (.raw .nilFunc)],[(0,26),(1,142)],none,none,[],false,none⟩
 | 147=>some ⟨1,8,false,[.d (.raw .nilFunc)],[],none,none,[],false,none⟩
 | 148=>some ⟨1,8,false,[.d (.raw .nilFunc)],[],none,none,[],false,none⟩
 | 149=>some ⟨1,8,false,[.d (.raw .nilFunc)],[],none,none,[],false,none⟩
 | _=>none
def tt2:TypeId→Option TI
 | 150=>some ⟨1,8,false,[.d (.raw .nilFunc)],[],none,none,[],false,none⟩
 | 151=>some ⟨1,8,false,[.d (.raw .nilFunc)],[],none,none,[],false,none⟩
 | 152=>some ⟨1,8,false,[.d (.raw .nilFunc)],[],none,none,[],false,none⟩
 | 153=>some ⟨1,8,false,[.d (.raw .nilFunc)],[],none,none,[],false,none⟩
 | 154=>some ⟨1,8,false,[.d (.raw .nilFunc)],[],none,none,[],false,none⟩
 | 155=>some ⟨1,8,false,[.d (.raw .nilFunc)],[],none,none,[],false,none⟩
 | 156=>some ⟨1,8,false,[.d (.raw .nilFunc)],[],none,none,[],false,none⟩
 | 158=>some ⟨1,8,false,[.d (.raw .nilFunc)],[],none,none,[],false,none⟩
 | 159=>some ⟨1,8,false,[.d (.raw .nilFunc)],[],none,none,[],false,none⟩
 | 161=>some ⟨1,8,false,[.d (.raw .nilFunc)],[],none,none,[],false,none⟩
 | 162=>some ⟨1,8,false,[.d (.raw .nilFunc)],[],none,none,[],false,none⟩
 | 163=>some ⟨1,8,false,[.d (.raw .nilFunc)],[],none,none,[],false,none⟩
 | 164=>some ⟨1,8,false,[.d (.raw .nilFunc)],[],none,none,[],false,none⟩
 | 165=>some ⟨1,8,false,[.d (.raw .nilFunc)],[],none,none,[],false,none⟩
 | 166=>some ⟨1,8,false,[.d (.raw .nilFunc)],[],none,none,[],false,none⟩
 | 167=>some ⟨1,8,false,[.d (.raw .nilFunc)],[],none,none,[],false,none⟩
 | 168=>some ⟨2,16,true,[.d (.int .i64 0),.d (.bool false)],[(0,3),(1,4)],none,none,[true,false],false,none⟩
 | 169=>some ⟨2,16,true,[.d (.int .i64 0),.d (.bool false)],[(0,3),(1,4)],none,none,[true,false],false,none⟩
 | 170=>some ⟨1,8,false,[.d (.raw .nilFunc)],[],none,none,[],false,none⟩
 | 171=>some ⟨1,8,false,[.d (.raw .nilFunc)],[],none,none,[],false,none⟩
 | 172=>some ⟨1,8,false,[.d (.int .u64 0)],[],none,some .u64,[],false,none⟩
 | 173=>some ⟨1,8,false,[.d (.raw .nilFunc)],[],none,none,[],false,none⟩
 | 174=>some ⟨1,8,false,[.d (.raw .nilFunc)],[],none,none,[],false,none⟩
 | 176=>some ⟨1,8,false,[.d (.raw .nilFunc)],[],none,none,[],false,none⟩
 | 177=>some ⟨1,8,false,[.d (.raw .nilFunc)],[],none,none,[],false,none⟩
 | 178=>some ⟨1,8,false,[.d (.raw .nilFunc)],[],none,none,[],false,none⟩
 | 179=>some ⟨1,8,false,[.d (.raw .nilFunc)],[],none,none,[],false,none⟩
 | 180=>some ⟨1,8,false,[.d (.raw .nilFunc)],[],none,none,[],false,none⟩
 | 181=>some ⟨1,8,false,[.d (.raw .nilFunc)],[],none,none,[],false,none⟩
 | 182=>some ⟨1,8,false,[.d (.raw .nilFunc)],[],none,none,[],false,none⟩
 | 183=>some ⟨1,8,false,[.d (.raw .nilFunc)],[],none,none,[],false,none⟩
 | 184=>some ⟨1,8,false,[.d (.raw .nilFunc)],[],none,none,[],false,none⟩
 | 185=>some ⟨1,8,false,[.d (.raw .nilFunc)],[],none,none,[],false,none⟩
 | 187=>some ⟨1,8,false,[.d (.raw .nilFunc)],[],none,none,[],false,none⟩
 | 188=>some ⟨1,8,false,[.d (.raw .nilFunc)],[],none,none,[],false,none⟩
 | 189=>some ⟨1,8,false,[.d (.raw .nilFunc)],[],none,none,[],false,none⟩
 | 190=>some ⟨1,8,false,[.d (.raw .nilFunc)],[],none,none,[],false,none⟩
 | 192=>some ⟨1,8,false,[.d (.raw .nilFunc)],[],none,none,[],false,none⟩
 | 193=>some ⟨1,8,false,[.d (.raw .nilFunc)],[],none,none,[],false,none⟩
 | 194=>some ⟨1,8,false,[.d (.raw .nilFunc)],[],none,none,[],false,none⟩
 | 195=>some ⟨1,8,false,[.d (.raw .nilFunc)],[],none,none,[],false,none⟩
 | 196=>some ⟨1,8,false,[.d (.raw .nilFunc)],[],none,none,[],false,none⟩
 | 197=>some ⟨1,8,false,[.d (.raw .nilFunc)],[],none,none,[],false,none⟩
 | 198=>some ⟨31,320,true,[.d (.int .u64 0),.d (.str ⟨#[]⟩),.d (.int .i64 0),.d (.int .i64 0),.d (.int .i64 0),.d (.int .i64 0),.d (.int .i64 0),.nil,.d (.int .i64 0),.d (.int .i64 0),.nil,.d (.int .i64 0),.d (.int .i64 0),.d (.int .i64 0),.nil,.d (.bool false),.d (.int .i64 0),.d (.int .i64 0),.d (.int .i64 0),.d (.int .i64 0),.d (.int .i64 0),.d (.int .i64 0),.d (.int .i64 0),.d (.int .i64 0),.d (.int .i64 0),.d (.int .i64 0),.d (.int .i64 0),.d (.int .i64 0),.nil,.d (.int .i64 0),.d (.int .i64 0)],[(0,51)],none,none,[],false,none⟩
 | 199=>some ⟨31,320,true,[.d (.int .u64 0),.d (.str ⟨#[]⟩),.d (.int .i64 0),.d (.int .i64 0),.d (.int .i64 0),.d (.int .i64 0),.d (.int .i64 0),.nil,.d (.int .i64 0),.d (.int .i64 0),.nil,.d (.int .i64 0),.d (.int .i64 0),.d (.int .i64 0),.nil,.d (.bool false),.d (.int .i64 0),.d (.int .i64 0),.d (.int .i64 0),.d (.int .i64 0),.d (.int .i64 0),.d (.int .i64 0),.d (.int .i64 0),.d (.int .i64 0),.d (.int .i64 0),.d (.int .i64 0),.d (.int .i64 0),.d (.int .i64 0),.nil,.d (.int .i64 0),.d (.int .i64 0)],[(0,51)],none,none,[],false,none⟩
 | 200=>some ⟨1,8,false,[.d (.raw .nilFunc)],[],none,none,[],false,none⟩
 | 201=>some ⟨1,8,false,[.d (.raw .nilFunc)],[],none,none,[],false,none⟩
 | 202=>some ⟨1,8,false,[.d (.raw .nilFunc)],[],none,none,[],false,none⟩
 | 203=>some ⟨1,8,false,[.d (.raw .nilFunc)],[],none,none,[],false,none⟩
 | 204=>some ⟨1,8,false,[.d (.raw .nilFunc)],[],none,none,[],false,none⟩
 | 206=>some ⟨1,8,false,[.d (.raw .nilFunc)],[],none,none,[],false,none⟩
 | 207=>some ⟨1,8,false,[.d (.raw .nilFunc)],[],none,none,[],false,none⟩
 | 209=>some ⟨1,8,false,[.d (.raw .nilFunc)],[],none,none,[],false,none⟩
 | 210=>some ⟨3,24,true,[.d (.int .i64 0),.d (.int .i64 0),.d (.int .i64 0)],[(0,2),(1,42)],none,none,[true,true,true],false,none⟩
 | 211=>some ⟨3,24,true,[.d (.int .i64 0),.d (.int .i64 0),.d (.int .i64 0)],[(0,2),(1,42)],none,none,[true,true,true],false,none⟩
 | 212=>some ⟨1,8,false,[.d (.raw .nilFunc)],[],none,none,[],false,none⟩
 | 214=>some ⟨1,8,false,[.d (.raw .nilFunc)],[],none,none,[],false,none⟩
 | 215=>some ⟨1,8,false,[.d (.raw .nilFunc)],[],none,none,[],false,none⟩
 | 216=>some ⟨1,8,false,[.d (.raw .nilFunc)],[],none,none,[],false,none⟩
 | 217=>some ⟨1,8,false,[.d (.raw .nilFunc)],[],none,none,[],false,none⟩
 | 218=>some ⟨1,8,false,[.d (.raw .nilFunc)],[],none,none,[],false,none⟩
 | 219=>some ⟨1,8,false,[.d (.raw .nilFunc)],[],none,none,[],false,none⟩
 | 220=>some ⟨1,8,false,[.d (.raw .nilFunc)],[],none,none,[],false,none⟩
 | 221=>some ⟨1,8,false,[.d (.raw .nilFunc)],[],none,none,[],false,none⟩
 | _=>none
def tt3:TypeId→Option TI
 | 222=>some ⟨1,8,false,[.d (.raw .nilFunc)],[],none,none,[],false,none⟩
 | 223=>some ⟨1,8,false,[.d (.raw .nilFunc)],[],none,none,[],false,none⟩
 | 224=>some ⟨1,8,false,[.d (.raw .nilFunc)],[],none,none,[],false,none⟩
 | 225=>some ⟨1,8,false,[.d (.raw .nilFunc)],[],none,none,[],false,none⟩
 | 227=>some ⟨1,8,false,[.d (.raw .nilFunc)],[],none,none,[],false,none⟩
 | 229=>some ⟨1,8,false,[.d (.raw .nilFunc)],[],none,none,[],false,none⟩
 | 230=>some ⟨1,8,false,[.d (.raw .nilFunc)],[],none,none,[],false,none⟩
 | 231=>some ⟨1,8,false,[.d (.raw .nilFunc)],[],none,none,[],false,none⟩
 | 232=>some ⟨3,24,true,[.d (.int .i64 0),.d (.int .i64 0),.d (.bool false)],[(0,3),(1,169)],none,none,[true,true,false],false,none⟩
 | 233=>some ⟨1,24,false,[.nil],[],some 232,none,[],false,none⟩
 | 234=>some ⟨1,8,false,[.d (.raw .nilFunc)],[],none,none,[],false,none⟩
 | 235=>some ⟨1,8,false,[.d (.raw .nilFunc)],[],none,none,[],false,none⟩
 | 236=>some ⟨1,8,false,[.d (.raw .nilFunc)],[],none,none,[],false,none⟩
 | 237=>some ⟨1,8,false,[.d (.raw .nilFunc)],[],none,none,[],false,none⟩
 | 238=>some ⟨1,8,false,[.d (.raw .nilFunc)],[],none,none,[],false,none⟩
 | 239=>some ⟨1,8,false,[.d (.raw .nilFunc)],[],none,none,[],false,none⟩
 | 240=>some ⟨1,8,false,[.d (.raw .nilFunc)],[],none,none,[],false,none⟩
 | 241=>some ⟨1,8,false,[.d (.raw .nilFunc)],[],none,none,[],false,none⟩
 | 242=>some ⟨1,8,false,[.d (.raw .nilFunc)],[],none,none,[],false,none⟩
 | 243=>some ⟨1,8,false,[.d (.raw .nilFunc)],[],none,none,[],false,none⟩
 | 244=>some ⟨1,8,false,[.d (.raw .nilFunc)],[],none,none,[],false,none⟩
 | 245=>some ⟨1,8,false,[.d (.raw .nilFunc)],[],none,none,[],false,none⟩
 | 246=>some ⟨1,8,false,[.d (.raw .nilFunc)],[],none,none,[],false,none⟩
 | 247=>some ⟨1,8,false,[.d (.raw .nilFunc)],[],none,none,[],false,none⟩
 | 248=>some ⟨1,8,false,[.d (.raw .nilFunc)],[],none,none,[],false,none⟩
 | 249=>some ⟨1,8,false,[.d (.raw .nilFunc)],[],none,none,[],false,none⟩
 | 250=>some ⟨1,8,false,[.d (.raw .nilFunc)],[],none,none,[],false,none⟩
 | 251=>some ⟨1,8,false,[.d (.raw .nilFunc)],[],none,none,[],false,none⟩
 | 252=>some ⟨1,8,false,[.d (.raw .nilFunc)],[],none,none,[],false,none⟩
 | 253=>some ⟨1,8,false,[.d (.raw .nilFunc)],[],none,none,[],false,none⟩
 | 254=>some ⟨1,8,false,[.d (.raw .nilFunc)],[],none,none,[],false,none⟩
 | 255=>some ⟨1,8,false,[.d (.raw .nilFunc)],[],none,none,[],false,none⟩
 | 257=>some ⟨1,8,false,[.d (.raw .nilFunc)],[],none,none,[],false,none⟩
 | 258=>some ⟨1,8,false,[.d (.raw .nilFunc)],[],none,none,[],false,none⟩
 | 259=>some ⟨1,8,false,[.d (.raw .nilFunc)],[],none,none,[],false,none⟩
 | 260=>some ⟨1,8,false,[.d (.raw .nilFunc)],[],none,none,[],false,none⟩
 | 261=>some ⟨1,8,false,[.d (.raw .nilFunc)],[],none,none,[],false,none⟩
 | 262=>some ⟨1,8,false,[.d (.raw .nilFunc)],[],none,none,[],false,none⟩
 | 263=>some ⟨1,8,false,[.d (.raw .nilFunc)],[],none,none,[],false,none⟩
 | 264=>some ⟨1,8,false,[.d (.raw .nilFunc)],[],none,none,[],false,none⟩
 | 265=>some ⟨1,8,false,[.d (.raw .nilFunc)],[],none,none,[],false,none⟩
 | 266=>some ⟨1,8,false,[.d (.raw .nilFunc)],[],none,none,[],false,none⟩
 | 267=>some ⟨1,24,false,[.nil],[],some 45,none,[],false,none⟩
 | 268=>some ⟨1,8,false,[.d (.raw .nilFunc)],[],none,none,[],false,none⟩
 | 269=>some ⟨1,8,false,[.d (.raw .nilFunc)],[],none,none,[],false,none⟩
 | 270=>some ⟨1,8,false,[.d (.raw .nilFunc)],[],none,none,[],false,none⟩
 | 272=>some ⟨1,8,false,[.d (.raw .nilFunc)],[],none,none,[],false,none⟩
 | 273=>some ⟨1,8,false,[.d (.raw .nilFunc)],[],none,none,[],false,none⟩
 | 274=>some ⟨1,8,false,[.d (.raw .nilFunc)],[],none,none,[],false,none⟩
 | 276=>some ⟨1,8,false,[.d (.raw .nilFunc)],[],none,none,[],false,none⟩
 | 277=>some ⟨1,8,false,[.d (.raw .nilFunc)],[],none,none,[],false,none⟩
 | 278=>some ⟨1,8,false,[.d (.raw .nilFunc)],[],none,none,[],false,none⟩
 | 279=>some ⟨1,8,false,[.d (.raw .nilFunc)],[],none,none,[],false,none⟩
 | 280=>some ⟨1,8,false,[.d (.raw .nilFunc)],[],none,none,[],false,none⟩
 | 281=>some ⟨1,8,false,[.d (.raw .nilFunc)],[],none,none,[],false,none⟩
 | 282=>some ⟨1,8,false,[.d (.raw .nilFunc)],[],none,none,[],false,none⟩
 | 283=>some ⟨1,8,false,[.d (.raw .nilFunc)],[],none,none,[],false,none⟩
 | 285=>some ⟨1,8,false,[.d (.raw .nilFunc)],[],none,none,[],false,none⟩
 | 286=>some ⟨1,8,false,[.d (.raw .nilFunc)],[],none,none,[],false,none⟩
 | 287=>some ⟨1,8,false,[.d (.raw .nilFunc)],[],none,none,[],false,none⟩
 | 288=>some ⟨1,8,false,[.d (.raw .nilFunc)],[],none,none,[],false,none⟩
 | 289=>some ⟨1,8,false,[.d (.raw .nilFunc)],[],none,none,[],false,none⟩
 | 290=>some ⟨4,32,true,[.d (.int .i64 0),.d (.int .i64 0),.d (.int .i64 0),.d (.int .i64 0)],[(0,111)],none,none,[true,true,true,true],false,none⟩
 | 291=>some ⟨4,32,true,[.d (.int .i64 0),.d (.int .i64 0),.d (.int .i64 0),.d (.int .i64 0)],[(0,111)],none,none,[true,true,true,true],false,none⟩
 | _=>none
def tt4:TypeId→Option TI
 | 292=>some ⟨1,8,false,[.d (.raw .nilFunc)],[],none,none,[],false,none⟩
 | 293=>some ⟨1,8,false,[.d (.raw .nilFunc)],[],none,none,[],false,none⟩
 | 294=>some ⟨1,8,false,[.d (.raw .nilFunc)],[],none,none,[],false,none⟩
 | 295=>some ⟨1,8,false,[.d (.raw .nilFunc)],[],none,none,[],false,none⟩
 | 296=>some ⟨1,8,false,[.d (.raw .nilFunc)],[],none,none,[],false,none⟩
 | 299=>some ⟨1,8,false,[.d (.raw .nilFunc)],[],none,none,[],false,none⟩
 | 300=>some ⟨1,8,false,[.d (.raw .nilFunc)],[],none,none,[],false,none⟩
 | 301=>some ⟨1,8,false,[.d (.raw .nilFunc)],[],none,none,[],false,none⟩
 | 302=>some ⟨1,8,false,[.d (.raw .nilFunc)],[],none,none,[],false,none⟩
 | 303=>some ⟨5,40,true,[.d (.int .i64 0),.d (.int .i64 0),.d (.int .i64 0),.d (.int .i64 0),.d (.int .i64 0)],[(0,211),(3,2),(4,2)],none,none,[true,true,true,true,true],false,none⟩
 | 304=>some ⟨5,40,true,[.d (.int .i64 0),.d (.int .i64 0),.d (.int .i64 0),.d (.int .i64 0),.d (.int .i64 0)],[(0,211),(3,2),(4,2)],none,none,[true,true,true,true,true],false,none⟩
 | 305=>some ⟨1,8,false,[.d (.raw .nilFunc)],[],none,none,[],false,none⟩
 | 306=>some ⟨1,8,false,[.d (.raw .nilFunc)],[],none,none,[],false,none⟩
 | 307=>some ⟨1,8,false,[.d (.raw (.pointer none))],[],none,none,[],false,none⟩
 | 308=>some ⟨1,8,false,[.d (.raw .nilFunc)],[],none,none,[],false,none⟩
 | 309=>some ⟨4,40,true,[.d (.raw (.pointer none)),.d (.raw (.pointer none)),.d (.raw (.pointer none)),.d (.str ⟨#[]⟩)],[(0,17),(1,17),(2,17),(3,9)],none,none,[],false,none⟩
 | 310=>some ⟨4,40,true,[.d (.raw (.pointer none)),.d (.raw (.pointer none)),.d (.raw (.pointer none)),.d (.str ⟨#[]⟩)],[(0,17),(1,17),(2,17),(3,9)],none,none,[],false,none⟩
 | 311=>some ⟨0,0,true,[],[],none,none,[],false,some 16⟩
 | 312=>some ⟨0,0,true,[],[(0,311)],none,none,[],false,none⟩
 | 313=>some ⟨0,0,true,[],[(0,311)],none,none,[],false,none⟩
 | 314=>some ⟨1,4,false,[.d (.int .u32 0)],[],none,some .u32,[],false,none⟩
 | 315=>some ⟨1,1,false,[.d (.int .u8 0)],[],none,some .u8,[],false,none⟩
 | 316=>some ⟨1,1,false,[.d (.int .u8 0)],[],none,some .u8,[],false,none⟩
 | 317=>some ⟨1,8,false,[.d (.raw .nilFunc)],[],none,none,[],false,none⟩
 | 318=>some ⟨1,8,false,[.d (.raw (.pointer none))],[],none,none,[],false,none⟩
 | 319=>some ⟨1,4,false,[.d (.int .i32 0)],[],none,some .i32,[],false,none⟩
 | 320=>some ⟨1,4,false,[.d (.int .i32 0)],[],none,some .i32,[],false,none⟩
 | 321=>some ⟨11,48,true,[.d (.int .u64 0),.d (.int .u64 0),.d (.int .u32 0),.d (.int .u8 0),.d (.int .u8 0),.d (.int .u8 0),.d (.int .u8 0),.d (.raw .nilFunc),.d (.raw (.pointer none)),.d (.int .i32 0),.d (.int .i32 0)],[(0,12),(1,12),(2,314),(3,315),(4,5),(5,5),(6,316),(7,317),(8,318),(9,319),(10,320)],none,none,[],false,none⟩
 | 322=>some ⟨11,48,true,[.d (.int .u64 0),.d (.int .u64 0),.d (.int .u32 0),.d (.int .u8 0),.d (.int .u8 0),.d (.int .u8 0),.d (.int .u8 0),.d (.raw .nilFunc),.d (.raw (.pointer none)),.d (.int .i32 0),.d (.int .i32 0)],[(0,12),(1,12),(2,314),(3,315),(4,5),(5,5),(6,316),(7,317),(8,318),(9,319),(10,320)],none,none,[],false,none⟩
 | 323=>some ⟨1,16,true,[.d (.str ⟨#[]⟩)],[(0,9)],none,none,[],false,none⟩
 | 324=>some ⟨1,16,true,[.d (.str ⟨#[]⟩)],[(0,9)],none,none,[],false,none⟩
 | 325=>some ⟨1,8,false,[.d (.raw (.pointer none))],[],none,none,[],false,none⟩
 | _=>none
def tt (t:TypeId):Option TI:=(tt0 t).orElse fun _=>(tt1 t).orElse fun _=>(tt2 t).orElse fun _=>(tt3 t).orElse fun _=>(tt4 t).orElse fun _=>none
theorem ZNZ:tt 1=some ⟨1,8,false,[.d (.raw .nilFunc)],[],none,none,[],false,none⟩:=rfl
theorem ZN0:tt 2=some ⟨1,8,false,[.d (.int .i64 0)],[],none,some .i64,[],false,none⟩:=rfl
theorem ZN1:tt 3=some ⟨1,8,false,[.d (.int .i64 0)],[],none,some .i64,[],false,none⟩:=rfl
theorem ZN2:tt 4=some ⟨1,1,false,[.d (.bool false)],[],none,none,[],true,none⟩:=rfl
theorem ZN3:tt 5=some ⟨1,1,false,[.d (.int .u8 0)],[],none,some .u8,[],false,none⟩:=rfl
theorem ZN4:tt 6=some ⟨1,1,false,[.d (.int .u8 0)],[],none,some .u8,[],false,none⟩:=rfl
theorem ZN5:tt 7=some ⟨4,24,true,[.d (.int .i64 0),.d (.int .i64 0),.d (.bool false),.d (.int .u8 0)],[(0,2),(1,3),(2,4),(3,6)],none,none,[true,true,false,true],false,none⟩:=rfl
theorem ZN6:tt 8=some ⟨4,24,true,[.d (.int .i64 0),.d (.int .i64 0),.d (.bool false),.d (.int .u8 0)],[(0,2),(1,3),(2,4),(3,6)],none,none,[true,true,false,true],false,none⟩:=rfl
theorem ZN7:tt 9=some ⟨1,16,false,[.d (.str ⟨#[]⟩)],[],none,none,[],false,none⟩:=rfl
theorem ZL8:tt 10=some ⟨1,16,false,[.d (.str ⟨#[]⟩)],[],none,none,[],false,none⟩:=rfl
theorem ZL9:tt 11=some ⟨1,16,false,[.d (.str ⟨#[]⟩)],[],none,none,[],false,none⟩:=rfl
theorem ZMa:tt 12=some ⟨1,8,false,[.d (.int .u64 0)],[],none,some .u64,[],false,none⟩:=rfl
theorem ZMb:tt 13=some ⟨2,24,true,[.d (.str ⟨#[]⟩),.d (.int .u64 0)],[(0,9),(1,12)],none,none,[],false,none⟩:=rfl
theorem ZMc:tt 14=some ⟨2,24,true,[.d (.str ⟨#[]⟩),.d (.int .u64 0)],[(0,9),(1,12)],none,none,[],false,none⟩:=rfl
theorem ZMd:tt 15=some ⟨1,8,false,[.d (.raw (.pointer none))],[],none,none,[],false,none⟩:=rfl
theorem ZMe:tt 16=some ⟨1,8,false,[.d (.raw (.pointer none))],[],none,none,[],false,none⟩:=rfl
theorem ZMf:tt 17=some ⟨1,8,false,[.d (.raw (.pointer none))],[],none,none,[],false,none⟩:=rfl
theorem ZMg:tt 18=some ⟨1,8,true,[.d (.raw (.pointer none))],[(0,17)],none,none,[],false,none⟩:=rfl
theorem ZMh:tt 19=some ⟨1,8,true,[.d (.raw (.pointer none))],[(0,17)],none,none,[],false,none⟩:=rfl
theorem ZMi:tt 21=some ⟨1,4,false,[.d (.int .i32 0)],[],none,some .i32,[],false,none⟩:=rfl
theorem ZMj:tt 22=some ⟨1,24,false,[.nil],[],some 5,none,[],false,none⟩:=rfl
theorem ZMk:tt 23=some ⟨1,8,false,[.d (.raw .nilFunc)],[],none,none,[],false,none⟩:=rfl
theorem ZMl:tt 24=some ⟨1,8,false,[.d (.raw (.pointer none))],[],none,none,[],false,none⟩:=rfl
theorem ZMm:tt 25=some ⟨1,8,false,[.d (.raw .nilFunc)],[],none,none,[],false,none⟩:=rfl
theorem ZMn:tt 26=some ⟨1,24,false,[.nil],[],some 3,none,[],false,none⟩:=rfl
theorem ZMo:tt 27=some ⟨1,8,false,[.d (.raw .nilFunc)],[],none,none,[],false,none⟩:=rfl
theorem ZMp:tt 28=some ⟨1,8,false,[.d (.int .u64 0)],[],none,some .u64,[],false,none⟩:=rfl
theorem ZMq:tt 29=some ⟨1,24,false,[.nil],[],some 134,none,[],false,none⟩:=rfl
theorem ZMr:tt 30=some ⟨8,88,true,[.d (.int .u64 0),.d (.str ⟨#[]⟩),.d (.int .i64 0),.d (.int .i64 0),.d (.int .i64 0),.d (.int .i64 0),.d (.int .i64 0),.nil],[(0,28),(1,9),(2,3),(3,3),(4,3),(5,3),(6,3),(7,29)],none,none,[],false,none⟩:=rfl
theorem ZMs:tt 31=some ⟨8,88,true,[.d (.int .u64 0),.d (.str ⟨#[]⟩),.d (.int .i64 0),.d (.int .i64 0),.d (.int .i64 0),.d (.int .i64 0),.d (.int .i64 0),.nil],[(0,28),(1,9),(2,3),(3,3),(4,3),(5,3),(6,3),(7,29)],none,none,[],false,none⟩:=rfl
theorem ZMt:tt 32=some ⟨3,40,true,[.d (.int .i64 0),.d (.int .i64 0),.nil],[(0,3),(1,3),(2,26)],none,none,[],false,none⟩:=rfl
theorem ZMu:tt 33=some ⟨3,40,true,[.d (.int .i64 0),.d (.int .i64 0),.nil],[(0,3),(1,3),(2,26)],none,none,[],false,none⟩:=rfl
theorem ZMv:tt 34=some ⟨4,48,true,[.d (.int .i64 0),.d (.int .i64 0),.nil,.d (.int .i64 0)],[(0,33),(3,3)],none,none,[],false,none⟩:=rfl
theorem ZMw:tt 35=some ⟨4,48,true,[.d (.int .i64 0),.d (.int .i64 0),.nil,.d (.int .i64 0)],[(0,33),(3,3)],none,none,[],false,none⟩:=rfl
theorem ZMx:tt 36=some ⟨1,24,false,[.nil],[],some 211,none,[],false,none⟩:=rfl
theorem ZMy:tt 37=some ⟨1,24,true,[.nil],[(0,36)],none,none,[],false,none⟩:=rfl
theorem ZMz:tt 38=some ⟨1,24,true,[.nil],[(0,36)],none,none,[],false,none⟩:=rfl
theorem ZMA:tt 39=some ⟨4,32,true,[.d (.int .i64 0),.d (.int .i64 0),.d (.int .i64 0),.d (.int .i64 0)],[(0,3),(1,3),(2,3),(3,3)],none,none,[true,true,true,true],false,none⟩:=rfl
theorem ZMB:tt 40=some ⟨4,32,true,[.d (.int .i64 0),.d (.int .i64 0),.d (.int .i64 0),.d (.int .i64 0)],[(0,3),(1,3),(2,3),(3,3)],none,none,[true,true,true,true],false,none⟩:=rfl
theorem ZMC:tt 41=some ⟨2,16,true,[.d (.int .i64 0),.d (.int .i64 0)],[(0,2),(1,2)],none,none,[true,true],false,none⟩:=rfl
theorem ZMD:tt 42=some ⟨2,16,true,[.d (.int .i64 0),.d (.int .i64 0)],[(0,2),(1,2)],none,none,[true,true],false,none⟩:=rfl
theorem ZME:tt 43=some ⟨5,40,true,[.d (.int .i64 0),.d (.int .i64 0),.d (.int .i64 0),.d (.int .i64 0),.d (.int .i64 0)],[(0,42),(2,3),(3,2),(4,2)],none,none,[true,true,true,true,true],false,none⟩:=rfl
theorem ZMF:tt 44=some ⟨5,40,true,[.d (.int .i64 0),.d (.int .i64 0),.d (.int .i64 0),.d (.int .i64 0),.d (.int .i64 0)],[(0,42),(2,3),(3,2),(4,2)],none,none,[true,true,true,true,true],false,none⟩:=rfl
theorem ZMG:tt 45=some ⟨1,24,false,[.nil],[],some 21,none,[],false,none⟩:=rfl
theorem ZMH:tt 46=some ⟨7,72,true,[.d (.int .i64 0),.d (.int .i64 0),.d (.int .i64 0),.d (.int .i64 0),.d (.int .i64 0),.d (.int .i64 0),.nil],[(0,3),(1,44),(6,45)],none,none,[],false,none⟩:=rfl
theorem ZMI:tt 47=some ⟨7,72,true,[.d (.int .i64 0),.d (.int .i64 0),.d (.int .i64 0),.d (.int .i64 0),.d (.int .i64 0),.d (.int .i64 0),.nil],[(0,3),(1,44),(6,45)],none,none,[],false,none⟩:=rfl
theorem ZMJ:tt 48=some ⟨14,128,true,[.d (.int .i64 0),.d (.int .i64 0),.d (.int .i64 0),.d (.int .i64 0),.d (.int .i64 0),.d (.int .i64 0),.d (.int .i64 0),.d (.int .i64 0),.d (.int .i64 0),.d (.int .i64 0),.d (.int .i64 0),.nil,.d (.int .i64 0),.d (.int .i64 0)],[(0,3),(1,40),(5,47),(12,3),(13,3)],none,none,[],false,none⟩:=rfl
theorem ZMK:tt 49=some ⟨14,128,true,[.d (.int .i64 0),.d (.int .i64 0),.d (.int .i64 0),.d (.int .i64 0),.d (.int .i64 0),.d (.int .i64 0),.d (.int .i64 0),.d (.int .i64 0),.d (.int .i64 0),.d (.int .i64 0),.d (.int .i64 0),.nil,.d (.int .i64 0),.d (.int .i64 0)],[(0,3),(1,40),(5,47),(12,3),(13,3)],none,none,[],false,none⟩:=rfl
theorem ZML:tt 50=some ⟨31,320,true,[.d (.int .u64 0),.d (.str ⟨#[]⟩),.d (.int .i64 0),.d (.int .i64 0),.d (.int .i64 0),.d (.int .i64 0),.d (.int .i64 0),.nil,.d (.int .i64 0),.d (.int .i64 0),.nil,.d (.int .i64 0),.d (.int .i64 0),.d (.int .i64 0),.nil,.d (.bool false),.d (.int .i64 0),.d (.int .i64 0),.d (.int .i64 0),.d (.int .i64 0),.d (.int .i64 0),.d (.int .i64 0),.d (.int .i64 0),.d (.int .i64 0),.d (.int .i64 0),.d (.int .i64 0),.d (.int .i64 0),.d (.int .i64 0),.nil,.d (.int .i64 0),.d (.int .i64 0)],[(0,31),(8,35),(12,3),(13,3),(14,38),(15,4),(16,2),(17,49)],none,none,[],false,none⟩:=rfl
theorem ZMM:tt 51=some ⟨31,320,true,[.d (.int .u64 0),.d (.str ⟨#[]⟩),.d (.int .i64 0),.d (.int .i64 0),.d (.int .i64 0),.d (.int .i64 0),.d (.int .i64 0),.nil,.d (.int .i64 0),.d (.int .i64 0),.nil,.d (.int .i64 0),.d (.int .i64 0),.d (.int .i64 0),.nil,.d (.bool false),.d (.int .i64 0),.d (.int .i64 0),.d (.int .i64 0),.d (.int .i64 0),.d (.int .i64 0),.d (.int .i64 0),.d (.int .i64 0),.d (.int .i64 0),.d (.int .i64 0),.d (.int .i64 0),.d (.int .i64 0),.d (.int .i64 0),.nil,.d (.int .i64 0),.d (.int .i64 0)],[(0,31),(8,35),(12,3),(13,3),(14,38),(15,4),(16,2),(17,49)],none,none,[],false,none⟩:=rfl
theorem ZMN:tt 53=some ⟨1,8,false,[.d (.raw .nilFunc)],[],none,none,[],false,none⟩:=rfl
theorem ZMO:tt 54=some ⟨5,56,true,[.d (.int .i64 0),.d (.int .i64 0),.d (.int .i64 0),.d (.int .i64 0),.nil],[(0,3),(1,3),(2,2),(3,2),(4,45)],none,none,[],false,none⟩:=rfl
theorem ZMP:tt 55=some ⟨5,56,true,[.d (.int .i64 0),.d (.int .i64 0),.d (.int .i64 0),.d (.int .i64 0),.nil],[(0,3),(1,3),(2,2),(3,2),(4,45)],none,none,[],false,none⟩:=rfl
theorem ZMQ:tt 56=some ⟨19,184,true,[.d (.int .i64 0),.d (.int .i64 0),.d (.int .i64 0),.d (.int .i64 0),.d (.int .i64 0),.d (.int .i64 0),.d (.int .i64 0),.d (.int .i64 0),.d (.int .i64 0),.d (.int .i64 0),.nil,.d (.int .i64 0),.d (.int .i64 0),.d (.int .i64 0),.d (.int .i64 0),.nil,.d (.int .i64 0),.d (.int .i64 0),.d (.int .i64 0)],[(0,3),(1,3),(2,3),(3,3),(4,47),(11,55),(16,2),(17,2),(18,2)],none,none,[],false,none⟩:=rfl
theorem ZMR:tt 57=some ⟨19,184,true,[.d (.int .i64 0),.d (.int .i64 0),.d (.int .i64 0),.d (.int .i64 0),.d (.int .i64 0),.d (.int .i64 0),.d (.int .i64 0),.d (.int .i64 0),.d (.int .i64 0),.d (.int .i64 0),.nil,.d (.int .i64 0),.d (.int .i64 0),.d (.int .i64 0),.d (.int .i64 0),.nil,.d (.int .i64 0),.d (.int .i64 0),.d (.int .i64 0)],[(0,3),(1,3),(2,3),(3,3),(4,47),(11,55),(16,2),(17,2),(18,2)],none,none,[],false,none⟩:=rfl
theorem ZMS:tt 58=some ⟨1,8,false,[.d (.int .i64 0)],[],none,some .i64,[],false,none⟩:=rfl
theorem ZMT:tt 60=some ⟨1,8,false,[.d (.raw .nilFunc)],[],none,none,[],false,none⟩:=rfl
theorem ZMU:tt 61=some ⟨1,8,false,[.d (.raw .nilFunc)],[],none,none,[],false,none⟩:=rfl
theorem ZMV:tt 62=some ⟨2,32,true,[.d (.int .i64 0),.nil],[(0,3),(1,45)],none,none,[],false,none⟩:=rfl
theorem ZMW:tt 63=some ⟨2,32,true,[.d (.int .i64 0),.nil],[(0,3),(1,45)],none,none,[],false,none⟩:=rfl
theorem ZMX:tt 65=some ⟨1,8,false,[.d (.raw .nilFunc)],[],none,none,[],false,none⟩:=rfl
theorem ZMY:tt 66=some ⟨1,8,false,[.d (.raw .nilFunc)],[],none,none,[],false,none⟩:=rfl
theorem ZMZ:tt 67=some ⟨1,8,false,[.d (.raw .nilFunc)],[],none,none,[],false,none⟩:=rfl
theorem ZM0:tt 69=some ⟨1,8,false,[.d (.raw .nilFunc)],[],none,none,[],false,none⟩:=rfl
theorem ZM1:tt 71=some ⟨1,8,false,[.d (.raw .nilFunc)],[],none,none,[],false,none⟩:=rfl
theorem ZM2:tt 73=some ⟨1,8,false,[.d (.raw .nilFunc)],[],none,none,[],false,none⟩:=rfl
theorem ZM3:tt 74=some ⟨1,8,false,[.d (.raw .nilFunc)],[],none,none,[],false,none⟩:=rfl
theorem ZM4:tt 75=some ⟨1,8,false,[.d (.raw .nilFunc)],[],none,none,[],false,none⟩:=rfl
theorem ZM5:tt 76=some ⟨1,8,false,[.d (.raw .nilFunc)],[],none,none,[],false,none⟩:=rfl
theorem ZM6:tt 77=some ⟨1,8,false,[.d (.raw .nilFunc)],[],none,none,[],false,none⟩:=rfl
theorem ZM7:tt 78=some ⟨1,24,false,[.nil],[],some 57,none,[],false,none⟩:=rfl
theorem ZM8:tt 79=some ⟨1,8,false,[.d (.raw .nilFunc)],[],none,none,[],false,none⟩:=rfl
theorem ZM9:tt 80=some ⟨1,8,false,[.d (.raw .nilFunc)],[],none,none,[],false,none⟩:=rfl
theorem ZNa:tt 82=some ⟨1,8,false,[.d (.raw .nilFunc)],[],none,none,[],false,none⟩:=rfl
theorem ZNb:tt 83=some ⟨1,8,false,[.d (.raw .nilFunc)],[],none,none,[],false,none⟩:=rfl
theorem ZNc:tt 84=some ⟨1,8,false,[.d (.raw .nilFunc)],[],none,none,[],false,none⟩:=rfl
theorem ZNd:tt 85=some ⟨1,8,false,[.d (.raw .nilFunc)],[],none,none,[],false,none⟩:=rfl
theorem ZNe:tt 87=some ⟨1,8,false,[.d (.raw .nilFunc)],[],none,none,[],false,none⟩:=rfl
theorem ZNf:tt 88=some ⟨3,40,true,[.d (.int .i64 0),.d (.int .i64 0),.nil],[(0,3),(1,3),(2,26)],none,none,[],false,none⟩:=rfl
theorem ZNg:tt 89=some ⟨3,40,true,[.d (.int .i64 0),.d (.int .i64 0),.nil],[(0,3),(1,3),(2,26)],none,none,[],false,none⟩:=rfl
theorem ZNh:tt 90=some ⟨16,192,true,[.d (.int .i64 0),.d (.int .i64 0),.nil,.d (.int .i64 0),.d (.int .i64 0),.nil,.d (.int .i64 0),.d (.int .i64 0),.nil,.d (.int .i64 0),.d (.int .i64 0),.d (.int .i64 0),.d (.int .i64 0),.d (.int .i64 0),.d (.int .i64 0),.nil],[(0,33),(3,33),(6,89),(9,47)],none,none,[],false,none⟩:=rfl
theorem ZNi:tt 91=some ⟨16,192,true,[.d (.int .i64 0),.d (.int .i64 0),.nil,.d (.int .i64 0),.d (.int .i64 0),.nil,.d (.int .i64 0),.d (.int .i64 0),.nil,.d (.int .i64 0),.d (.int .i64 0),.d (.int .i64 0),.d (.int .i64 0),.d (.int .i64 0),.d (.int .i64 0),.nil],[(0,33),(3,33),(6,89),(9,47)],none,none,[],false,none⟩:=rfl
theorem ZNj:tt 93=some ⟨1,8,false,[.d (.raw .nilFunc)],[],none,none,[],false,none⟩:=rfl
theorem ZNk:tt 95=some ⟨1,8,false,[.d (.raw .nilFunc)],[],none,none,[],false,none⟩:=rfl
theorem ZNl:tt 96=some ⟨1,8,false,[.d (.raw .nilFunc)],[],none,none,[],false,none⟩:=rfl
theorem ZNm:tt 97=some ⟨1,24,false,[.nil],[],some 63,none,[],false,none⟩:=rfl
theorem ZNn:tt 98=some ⟨1,8,false,[.d (.raw .nilFunc)],[],none,none,[],false,none⟩:=rfl
theorem ZNo:tt 99=some ⟨1,8,false,[.d (.raw .nilFunc)],[],none,none,[],false,none⟩:=rfl
theorem ZIh:tt 100=some ⟨3,24,true,[.d (.int .i64 0),.d (.int .i64 0),.d (.int .i64 0)],[(0,3),(1,3),(2,3)],none,none,[true,true,true],false,none⟩:=rfl
theorem ZIi:tt 101=some ⟨3,24,true,[.d (.int .i64 0),.d (.int .i64 0),.d (.int .i64 0)],[(0,3),(1,3),(2,3)],none,none,[true,true,true],false,none⟩:=rfl
theorem ZIj:tt 103=some ⟨1,8,false,[.d (.raw .nilFunc)],[],none,none,[],false,none⟩:=rfl
theorem ZIk:tt 105=some ⟨1,8,false,[.d (.raw .nilFunc)],[],none,none,[],false,none⟩:=rfl
theorem ZIl:tt 107=some ⟨1,8,false,[.d (.raw .nilFunc)],[],none,none,[],false,none⟩:=rfl
theorem ZIm:tt 109=some ⟨1,8,false,[.d (.raw .nilFunc)],[],none,none,[],false,none⟩:=rfl
theorem ZIn:tt 110=some ⟨4,32,true,[.d (.int .i64 0),.d (.int .i64 0),.d (.int .i64 0),.d (.int .i64 0)],[(0,3),(1,3),(2,3),(3,3)],none,none,[true,true,true,true],false,none⟩:=rfl
theorem ZIo:tt 111=some ⟨4,32,true,[.d (.int .i64 0),.d (.int .i64 0),.d (.int .i64 0),.d (.int .i64 0)],[(0,3),(1,3),(2,3),(3,3)],none,none,[true,true,true,true],false,none⟩:=rfl
theorem ZIp:tt 112=some ⟨9,104,true,[.d (.int .i64 0),.nil,.d (.int .i64 0),.d (.int .i64 0),.nil,.d (.int .i64 0),.d (.int .i64 0),.d (.int .i64 0),.d (.int .i64 0)],[(0,63),(2,89),(5,111)],none,none,[],false,none⟩:=rfl
theorem ZIq:tt 113=some ⟨9,104,true,[.d (.int .i64 0),.nil,.d (.int .i64 0),.d (.int .i64 0),.nil,.d (.int .i64 0),.d (.int .i64 0),.d (.int .i64 0),.d (.int .i64 0)],[(0,63),(2,89),(5,111)],none,none,[],false,none⟩:=rfl
theorem ZIr:tt 114=some ⟨1,24,false,[.nil],[],some 113,none,[],false,none⟩:=rfl
theorem ZIs:tt 115=some ⟨1,8,false,[.d (.raw .nilFunc)],[],none,none,[],false,none⟩:=rfl
theorem ZIt:tt 117=some ⟨1,8,false,[.d (.raw .nilFunc)],[],none,none,[],false,none⟩:=rfl
theorem ZIu:tt 119=some ⟨1,8,false,[.d (.raw .nilFunc)],[],none,none,[],false,none⟩:=rfl
theorem ZIv:tt 120=some ⟨1,8,false,[.d (.raw .nilFunc)],[],none,none,[],false,none⟩:=rfl
theorem ZIw:tt 121=some ⟨1,24,false,[.nil],[],some 2,none,[],false,none⟩:=rfl
theorem ZIx:tt 122=some ⟨1,8,false,[.d (.raw .nilFunc)],[],none,none,[],false,none⟩:=rfl
theorem ZIy:tt 123=some ⟨1,8,false,[.d (.raw .nilFunc)],[],none,none,[],false,none⟩:=rfl
theorem ZIz:tt 124=some ⟨1,24,true,[.nil],[(0,22)],none,none,[],false,none⟩:=rfl
theorem ZIA:tt 125=some ⟨1,24,true,[.nil],[(0,22)],none,none,[],false,none⟩:=rfl
theorem ZIB:tt 126=some ⟨1,24,false,[.nil],[],some 26,none,[],false,none⟩:=rfl
theorem ZIC:tt 127=some ⟨1,8,false,[.d (.raw .nilFunc)],[],none,none,[],false,none⟩:=rfl
theorem ZID:tt 128=some ⟨2,16,true,[.d (.int .i64 0),.d (.int .i64 0)],[(0,3),(1,3)],none,none,[true,true],false,none⟩:=rfl
theorem ZIE:tt 129=some ⟨2,16,true,[.d (.int .i64 0),.d (.int .i64 0)],[(0,3),(1,3)],none,none,[true,true],false,none⟩:=rfl
theorem ZIF:tt 130=some ⟨1,24,false,[.nil],[],some 129,none,[],false,none⟩:=rfl
theorem ZIG:tt 131=some ⟨1,24,true,[.nil],[(0,130)],none,none,[],false,none⟩:=rfl
theorem ZIH:tt 132=some ⟨1,24,true,[.nil],[(0,130)],none,none,[],false,none⟩:=rfl
theorem ZII:tt 133=some ⟨4,80,true,[.d (.int .i64 0),.nil,.nil,.nil],[(0,3),(1,132),(2,126),(3,132)],none,none,[],false,none⟩:=rfl
theorem ZIJ:tt 134=some ⟨4,80,true,[.d (.int .i64 0),.nil,.nil,.nil],[(0,3),(1,132),(2,126),(3,132)],none,none,[],false,none⟩:=rfl
theorem ZIK:tt 136=some ⟨1,8,false,[.d (.raw .nilFunc)],[],none,none,[],false,none⟩:=rfl
theorem ZIL:tt 137=some ⟨1,8,false,[.d (.raw .nilFunc)],[],none,none,[],false,none⟩:=rfl
theorem ZIM:tt 138=some ⟨1,8,false,[.d (.raw .nilFunc)],[],none,none,[],false,none⟩:=rfl
theorem ZIN:tt 140=some ⟨1,8,false,[.d (.raw .nilFunc)],[],none,none,[],false,none⟩:=rfl
theorem ZIO:tt 141=some ⟨1,8,false,[.d (.raw .nilFunc)],[],none,none,[],false,none⟩:=rfl
theorem ZIP:tt 142=some ⟨1,8,false,[.d (.raw .nilFunc)],[],none,none,[],false,none⟩:=rfl
theorem ZIQ:tt 143=some ⟨2,32,true,[.nil,.d (.raw .nilFunc)],[(0,26),(1,142)],none,none,[],false,none⟩:=rfl
theorem ZIR:tt 144=some ⟨2,32,true,[.nil,.d (.raw .nilFunc)],[(0,26),(1,142)],none,none,[],false,none⟩:=rfl
theorem ZIS:tt 147=some ⟨1,8,false,[.d (.raw .nilFunc)],[],none,none,[],false,none⟩:=rfl
theorem ZIT:tt 148=some ⟨1,8,false,[.d (.raw .nilFunc)],[],none,none,[],false,none⟩:=rfl
theorem ZIU:tt 149=some ⟨1,8,false,[.d (.raw .nilFunc)],[],none,none,[],false,none⟩:=rfl
theorem ZIV:tt 150=some ⟨1,8,false,[.d (.raw .nilFunc)],[],none,none,[],false,none⟩:=rfl
theorem ZIW:tt 151=some ⟨1,8,false,[.d (.raw .nilFunc)],[],none,none,[],false,none⟩:=rfl
theorem ZIX:tt 152=some ⟨1,8,false,[.d (.raw .nilFunc)],[],none,none,[],false,none⟩:=rfl
theorem ZIY:tt 153=some ⟨1,8,false,[.d (.raw .nilFunc)],[],none,none,[],false,none⟩:=rfl
theorem ZIZ:tt 154=some ⟨1,8,false,[.d (.raw .nilFunc)],[],none,none,[],false,none⟩:=rfl
theorem ZI0:tt 155=some ⟨1,8,false,[.d (.raw .nilFunc)],[],none,none,[],false,none⟩:=rfl
theorem ZI1:tt 156=some ⟨1,8,false,[.d (.raw .nilFunc)],[],none,none,[],false,none⟩:=rfl
theorem ZI2:tt 158=some ⟨1,8,false,[.d (.raw .nilFunc)],[],none,none,[],false,none⟩:=rfl
theorem ZI3:tt 159=some ⟨1,8,false,[.d (.raw .nilFunc)],[],none,none,[],false,none⟩:=rfl
theorem ZI4:tt 161=some ⟨1,8,false,[.d (.raw .nilFunc)],[],none,none,[],false,none⟩:=rfl
theorem ZI5:tt 162=some ⟨1,8,false,[.d (.raw .nilFunc)],[],none,none,[],false,none⟩:=rfl
theorem ZI6:tt 163=some ⟨1,8,false,[.d (.raw .nilFunc)],[],none,none,[],false,none⟩:=rfl
theorem ZI7:tt 164=some ⟨1,8,false,[.d (.raw .nilFunc)],[],none,none,[],false,none⟩:=rfl
theorem ZI8:tt 165=some ⟨1,8,false,[.d (.raw .nilFunc)],[],none,none,[],false,none⟩:=rfl
theorem ZI9:tt 166=some ⟨1,8,false,[.d (.raw .nilFunc)],[],none,none,[],false,none⟩:=rfl
theorem ZJa:tt 167=some ⟨1,8,false,[.d (.raw .nilFunc)],[],none,none,[],false,none⟩:=rfl
theorem ZJb:tt 168=some ⟨2,16,true,[.d (.int .i64 0),.d (.bool false)],[(0,3),(1,4)],none,none,[true,false],false,none⟩:=rfl
theorem ZJc:tt 169=some ⟨2,16,true,[.d (.int .i64 0),.d (.bool false)],[(0,3),(1,4)],none,none,[true,false],false,none⟩:=rfl
theorem ZJd:tt 170=some ⟨1,8,false,[.d (.raw .nilFunc)],[],none,none,[],false,none⟩:=rfl
theorem ZJe:tt 171=some ⟨1,8,false,[.d (.raw .nilFunc)],[],none,none,[],false,none⟩:=rfl
theorem ZJf:tt 172=some ⟨1,8,false,[.d (.int .u64 0)],[],none,some .u64,[],false,none⟩:=rfl
theorem ZJg:tt 173=some ⟨1,8,false,[.d (.raw .nilFunc)],[],none,none,[],false,none⟩:=rfl
theorem ZJh:tt 174=some ⟨1,8,false,[.d (.raw .nilFunc)],[],none,none,[],false,none⟩:=rfl
theorem ZJi:tt 176=some ⟨1,8,false,[.d (.raw .nilFunc)],[],none,none,[],false,none⟩:=rfl
theorem ZJj:tt 177=some ⟨1,8,false,[.d (.raw .nilFunc)],[],none,none,[],false,none⟩:=rfl
theorem ZJk:tt 178=some ⟨1,8,false,[.d (.raw .nilFunc)],[],none,none,[],false,none⟩:=rfl
theorem ZJl:tt 179=some ⟨1,8,false,[.d (.raw .nilFunc)],[],none,none,[],false,none⟩:=rfl
theorem ZJm:tt 180=some ⟨1,8,false,[.d (.raw .nilFunc)],[],none,none,[],false,none⟩:=rfl
theorem ZJn:tt 181=some ⟨1,8,false,[.d (.raw .nilFunc)],[],none,none,[],false,none⟩:=rfl
theorem ZJo:tt 182=some ⟨1,8,false,[.d (.raw .nilFunc)],[],none,none,[],false,none⟩:=rfl
theorem ZJp:tt 183=some ⟨1,8,false,[.d (.raw .nilFunc)],[],none,none,[],false,none⟩:=rfl
theorem ZJq:tt 184=some ⟨1,8,false,[.d (.raw .nilFunc)],[],none,none,[],false,none⟩:=rfl
theorem ZJr:tt 185=some ⟨1,8,false,[.d (.raw .nilFunc)],[],none,none,[],false,none⟩:=rfl
theorem ZJs:tt 187=some ⟨1,8,false,[.d (.raw .nilFunc)],[],none,none,[],false,none⟩:=rfl
theorem ZJt:tt 188=some ⟨1,8,false,[.d (.raw .nilFunc)],[],none,none,[],false,none⟩:=rfl
theorem ZJu:tt 189=some ⟨1,8,false,[.d (.raw .nilFunc)],[],none,none,[],false,none⟩:=rfl
theorem ZJv:tt 190=some ⟨1,8,false,[.d (.raw .nilFunc)],[],none,none,[],false,none⟩:=rfl
theorem ZJw:tt 192=some ⟨1,8,false,[.d (.raw .nilFunc)],[],none,none,[],false,none⟩:=rfl
theorem ZJx:tt 193=some ⟨1,8,false,[.d (.raw .nilFunc)],[],none,none,[],false,none⟩:=rfl
theorem ZJy:tt 194=some ⟨1,8,false,[.d (.raw .nilFunc)],[],none,none,[],false,none⟩:=rfl
theorem ZJz:tt 195=some ⟨1,8,false,[.d (.raw .nilFunc)],[],none,none,[],false,none⟩:=rfl
theorem ZJA:tt 196=some ⟨1,8,false,[.d (.raw .nilFunc)],[],none,none,[],false,none⟩:=rfl
theorem ZJB:tt 197=some ⟨1,8,false,[.d (.raw .nilFunc)],[],none,none,[],false,none⟩:=rfl
theorem ZJC:tt 198=some ⟨31,320,true,[.d (.int .u64 0),.d (.str ⟨#[]⟩),.d (.int .i64 0),.d (.int .i64 0),.d (.int .i64 0),.d (.int .i64 0),.d (.int .i64 0),.nil,.d (.int .i64 0),.d (.int .i64 0),.nil,.d (.int .i64 0),.d (.int .i64 0),.d (.int .i64 0),.nil,.d (.bool false),.d (.int .i64 0),.d (.int .i64 0),.d (.int .i64 0),.d (.int .i64 0),.d (.int .i64 0),.d (.int .i64 0),.d (.int .i64 0),.d (.int .i64 0),.d (.int .i64 0),.d (.int .i64 0),.d (.int .i64 0),.d (.int .i64 0),.nil,.d (.int .i64 0),.d (.int .i64 0)],[(0,51)],none,none,[],false,none⟩:=rfl
theorem ZJD:tt 199=some ⟨31,320,true,[.d (.int .u64 0),.d (.str ⟨#[]⟩),.d (.int .i64 0),.d (.int .i64 0),.d (.int .i64 0),.d (.int .i64 0),.d (.int .i64 0),.nil,.d (.int .i64 0),.d (.int .i64 0),.nil,.d (.int .i64 0),.d (.int .i64 0),.d (.int .i64 0),.nil,.d (.bool false),.d (.int .i64 0),.d (.int .i64 0),.d (.int .i64 0),.d (.int .i64 0),.d (.int .i64 0),.d (.int .i64 0),.d (.int .i64 0),.d (.int .i64 0),.d (.int .i64 0),.d (.int .i64 0),.d (.int .i64 0),.d (.int .i64 0),.nil,.d (.int .i64 0),.d (.int .i64 0)],[(0,51)],none,none,[],false,none⟩:=rfl
theorem ZJE:tt 200=some ⟨1,8,false,[.d (.raw .nilFunc)],[],none,none,[],false,none⟩:=rfl
theorem ZJF:tt 201=some ⟨1,8,false,[.d (.raw .nilFunc)],[],none,none,[],false,none⟩:=rfl
theorem ZJG:tt 202=some ⟨1,8,false,[.d (.raw .nilFunc)],[],none,none,[],false,none⟩:=rfl
theorem ZJH:tt 203=some ⟨1,8,false,[.d (.raw .nilFunc)],[],none,none,[],false,none⟩:=rfl
theorem ZJI:tt 204=some ⟨1,8,false,[.d (.raw .nilFunc)],[],none,none,[],false,none⟩:=rfl
theorem ZJJ:tt 206=some ⟨1,8,false,[.d (.raw .nilFunc)],[],none,none,[],false,none⟩:=rfl
theorem ZJK:tt 207=some ⟨1,8,false,[.d (.raw .nilFunc)],[],none,none,[],false,none⟩:=rfl
theorem ZJL:tt 209=some ⟨1,8,false,[.d (.raw .nilFunc)],[],none,none,[],false,none⟩:=rfl
theorem ZJM:tt 210=some ⟨3,24,true,[.d (.int .i64 0),.d (.int .i64 0),.d (.int .i64 0)],[(0,2),(1,42)],none,none,[true,true,true],false,none⟩:=rfl
theorem ZJN:tt 211=some ⟨3,24,true,[.d (.int .i64 0),.d (.int .i64 0),.d (.int .i64 0)],[(0,2),(1,42)],none,none,[true,true,true],false,none⟩:=rfl
theorem ZJO:tt 212=some ⟨1,8,false,[.d (.raw .nilFunc)],[],none,none,[],false,none⟩:=rfl
theorem ZJP:tt 214=some ⟨1,8,false,[.d (.raw .nilFunc)],[],none,none,[],false,none⟩:=rfl
theorem ZJQ:tt 215=some ⟨1,8,false,[.d (.raw .nilFunc)],[],none,none,[],false,none⟩:=rfl
theorem ZJR:tt 216=some ⟨1,8,false,[.d (.raw .nilFunc)],[],none,none,[],false,none⟩:=rfl
theorem ZJS:tt 217=some ⟨1,8,false,[.d (.raw .nilFunc)],[],none,none,[],false,none⟩:=rfl
theorem ZJT:tt 218=some ⟨1,8,false,[.d (.raw .nilFunc)],[],none,none,[],false,none⟩:=rfl
theorem ZJU:tt 219=some ⟨1,8,false,[.d (.raw .nilFunc)],[],none,none,[],false,none⟩:=rfl
theorem ZJV:tt 220=some ⟨1,8,false,[.d (.raw .nilFunc)],[],none,none,[],false,none⟩:=rfl
theorem ZJW:tt 221=some ⟨1,8,false,[.d (.raw .nilFunc)],[],none,none,[],false,none⟩:=rfl
theorem ZJX:tt 222=some ⟨1,8,false,[.d (.raw .nilFunc)],[],none,none,[],false,none⟩:=rfl
theorem ZJY:tt 223=some ⟨1,8,false,[.d (.raw .nilFunc)],[],none,none,[],false,none⟩:=rfl
theorem ZJZ:tt 224=some ⟨1,8,false,[.d (.raw .nilFunc)],[],none,none,[],false,none⟩:=rfl
theorem ZJ0:tt 225=some ⟨1,8,false,[.d (.raw .nilFunc)],[],none,none,[],false,none⟩:=rfl
theorem ZJ1:tt 227=some ⟨1,8,false,[.d (.raw .nilFunc)],[],none,none,[],false,none⟩:=rfl
theorem ZJ2:tt 229=some ⟨1,8,false,[.d (.raw .nilFunc)],[],none,none,[],false,none⟩:=rfl
theorem ZJ3:tt 230=some ⟨1,8,false,[.d (.raw .nilFunc)],[],none,none,[],false,none⟩:=rfl
theorem ZJ4:tt 231=some ⟨1,8,false,[.d (.raw .nilFunc)],[],none,none,[],false,none⟩:=rfl
theorem ZJ5:tt 232=some ⟨3,24,true,[.d (.int .i64 0),.d (.int .i64 0),.d (.bool false)],[(0,3),(1,169)],none,none,[true,true,false],false,none⟩:=rfl
theorem ZJ6:tt 233=some ⟨1,24,false,[.nil],[],some 232,none,[],false,none⟩:=rfl
theorem ZJ7:tt 234=some ⟨1,8,false,[.d (.raw .nilFunc)],[],none,none,[],false,none⟩:=rfl
theorem ZJ8:tt 235=some ⟨1,8,false,[.d (.raw .nilFunc)],[],none,none,[],false,none⟩:=rfl
theorem ZJ9:tt 236=some ⟨1,8,false,[.d (.raw .nilFunc)],[],none,none,[],false,none⟩:=rfl
theorem ZKa:tt 237=some ⟨1,8,false,[.d (.raw .nilFunc)],[],none,none,[],false,none⟩:=rfl
theorem ZKb:tt 238=some ⟨1,8,false,[.d (.raw .nilFunc)],[],none,none,[],false,none⟩:=rfl
theorem ZKc:tt 239=some ⟨1,8,false,[.d (.raw .nilFunc)],[],none,none,[],false,none⟩:=rfl
theorem ZKd:tt 240=some ⟨1,8,false,[.d (.raw .nilFunc)],[],none,none,[],false,none⟩:=rfl
theorem ZKe:tt 241=some ⟨1,8,false,[.d (.raw .nilFunc)],[],none,none,[],false,none⟩:=rfl
theorem ZKf:tt 242=some ⟨1,8,false,[.d (.raw .nilFunc)],[],none,none,[],false,none⟩:=rfl
theorem ZKg:tt 243=some ⟨1,8,false,[.d (.raw .nilFunc)],[],none,none,[],false,none⟩:=rfl
theorem ZKh:tt 244=some ⟨1,8,false,[.d (.raw .nilFunc)],[],none,none,[],false,none⟩:=rfl
theorem ZKi:tt 245=some ⟨1,8,false,[.d (.raw .nilFunc)],[],none,none,[],false,none⟩:=rfl
theorem ZKj:tt 246=some ⟨1,8,false,[.d (.raw .nilFunc)],[],none,none,[],false,none⟩:=rfl
theorem ZKk:tt 247=some ⟨1,8,false,[.d (.raw .nilFunc)],[],none,none,[],false,none⟩:=rfl
theorem ZKl:tt 248=some ⟨1,8,false,[.d (.raw .nilFunc)],[],none,none,[],false,none⟩:=rfl
theorem ZKm:tt 249=some ⟨1,8,false,[.d (.raw .nilFunc)],[],none,none,[],false,none⟩:=rfl
theorem ZKn:tt 250=some ⟨1,8,false,[.d (.raw .nilFunc)],[],none,none,[],false,none⟩:=rfl
theorem ZKo:tt 251=some ⟨1,8,false,[.d (.raw .nilFunc)],[],none,none,[],false,none⟩:=rfl
theorem ZKp:tt 252=some ⟨1,8,false,[.d (.raw .nilFunc)],[],none,none,[],false,none⟩:=rfl
theorem ZKq:tt 253=some ⟨1,8,false,[.d (.raw .nilFunc)],[],none,none,[],false,none⟩:=rfl
theorem ZKr:tt 254=some ⟨1,8,false,[.d (.raw .nilFunc)],[],none,none,[],false,none⟩:=rfl
theorem ZKs:tt 255=some ⟨1,8,false,[.d (.raw .nilFunc)],[],none,none,[],false,none⟩:=rfl
theorem ZKt:tt 257=some ⟨1,8,false,[.d (.raw .nilFunc)],[],none,none,[],false,none⟩:=rfl
theorem ZKu:tt 258=some ⟨1,8,false,[.d (.raw .nilFunc)],[],none,none,[],false,none⟩:=rfl
theorem ZKv:tt 259=some ⟨1,8,false,[.d (.raw .nilFunc)],[],none,none,[],false,none⟩:=rfl
theorem ZKw:tt 260=some ⟨1,8,false,[.d (.raw .nilFunc)],[],none,none,[],false,none⟩:=rfl
theorem ZKx:tt 261=some ⟨1,8,false,[.d (.raw .nilFunc)],[],none,none,[],false,none⟩:=rfl
theorem ZKy:tt 262=some ⟨1,8,false,[.d (.raw .nilFunc)],[],none,none,[],false,none⟩:=rfl
theorem ZKz:tt 263=some ⟨1,8,false,[.d (.raw .nilFunc)],[],none,none,[],false,none⟩:=rfl
theorem ZKA:tt 264=some ⟨1,8,false,[.d (.raw .nilFunc)],[],none,none,[],false,none⟩:=rfl
theorem ZKB:tt 265=some ⟨1,8,false,[.d (.raw .nilFunc)],[],none,none,[],false,none⟩:=rfl
theorem ZKC:tt 266=some ⟨1,8,false,[.d (.raw .nilFunc)],[],none,none,[],false,none⟩:=rfl
theorem ZKD:tt 267=some ⟨1,24,false,[.nil],[],some 45,none,[],false,none⟩:=rfl
theorem ZKE:tt 268=some ⟨1,8,false,[.d (.raw .nilFunc)],[],none,none,[],false,none⟩:=rfl
theorem ZKF:tt 269=some ⟨1,8,false,[.d (.raw .nilFunc)],[],none,none,[],false,none⟩:=rfl
theorem ZKG:tt 270=some ⟨1,8,false,[.d (.raw .nilFunc)],[],none,none,[],false,none⟩:=rfl
theorem ZKH:tt 272=some ⟨1,8,false,[.d (.raw .nilFunc)],[],none,none,[],false,none⟩:=rfl
theorem ZKI:tt 273=some ⟨1,8,false,[.d (.raw .nilFunc)],[],none,none,[],false,none⟩:=rfl
theorem ZKJ:tt 274=some ⟨1,8,false,[.d (.raw .nilFunc)],[],none,none,[],false,none⟩:=rfl
theorem ZKK:tt 276=some ⟨1,8,false,[.d (.raw .nilFunc)],[],none,none,[],false,none⟩:=rfl
theorem ZKL:tt 277=some ⟨1,8,false,[.d (.raw .nilFunc)],[],none,none,[],false,none⟩:=rfl
theorem ZKM:tt 278=some ⟨1,8,false,[.d (.raw .nilFunc)],[],none,none,[],false,none⟩:=rfl
theorem ZKN:tt 279=some ⟨1,8,false,[.d (.raw .nilFunc)],[],none,none,[],false,none⟩:=rfl
theorem ZKO:tt 280=some ⟨1,8,false,[.d (.raw .nilFunc)],[],none,none,[],false,none⟩:=rfl
theorem ZKP:tt 281=some ⟨1,8,false,[.d (.raw .nilFunc)],[],none,none,[],false,none⟩:=rfl
theorem ZKQ:tt 282=some ⟨1,8,false,[.d (.raw .nilFunc)],[],none,none,[],false,none⟩:=rfl
theorem ZKR:tt 283=some ⟨1,8,false,[.d (.raw .nilFunc)],[],none,none,[],false,none⟩:=rfl
theorem ZKS:tt 285=some ⟨1,8,false,[.d (.raw .nilFunc)],[],none,none,[],false,none⟩:=rfl
theorem ZKT:tt 286=some ⟨1,8,false,[.d (.raw .nilFunc)],[],none,none,[],false,none⟩:=rfl
theorem ZKU:tt 287=some ⟨1,8,false,[.d (.raw .nilFunc)],[],none,none,[],false,none⟩:=rfl
theorem ZKV:tt 288=some ⟨1,8,false,[.d (.raw .nilFunc)],[],none,none,[],false,none⟩:=rfl
theorem ZKW:tt 289=some ⟨1,8,false,[.d (.raw .nilFunc)],[],none,none,[],false,none⟩:=rfl
theorem ZKX:tt 290=some ⟨4,32,true,[.d (.int .i64 0),.d (.int .i64 0),.d (.int .i64 0),.d (.int .i64 0)],[(0,111)],none,none,[true,true,true,true],false,none⟩:=rfl
theorem ZKY:tt 291=some ⟨4,32,true,[.d (.int .i64 0),.d (.int .i64 0),.d (.int .i64 0),.d (.int .i64 0)],[(0,111)],none,none,[true,true,true,true],false,none⟩:=rfl
theorem ZKZ:tt 292=some ⟨1,8,false,[.d (.raw .nilFunc)],[],none,none,[],false,none⟩:=rfl
theorem ZK0:tt 293=some ⟨1,8,false,[.d (.raw .nilFunc)],[],none,none,[],false,none⟩:=rfl
theorem ZK1:tt 294=some ⟨1,8,false,[.d (.raw .nilFunc)],[],none,none,[],false,none⟩:=rfl
theorem ZK2:tt 295=some ⟨1,8,false,[.d (.raw .nilFunc)],[],none,none,[],false,none⟩:=rfl
theorem ZK3:tt 296=some ⟨1,8,false,[.d (.raw .nilFunc)],[],none,none,[],false,none⟩:=rfl
theorem ZK4:tt 299=some ⟨1,8,false,[.d (.raw .nilFunc)],[],none,none,[],false,none⟩:=rfl
theorem ZK5:tt 300=some ⟨1,8,false,[.d (.raw .nilFunc)],[],none,none,[],false,none⟩:=rfl
theorem ZK6:tt 301=some ⟨1,8,false,[.d (.raw .nilFunc)],[],none,none,[],false,none⟩:=rfl
theorem ZK7:tt 302=some ⟨1,8,false,[.d (.raw .nilFunc)],[],none,none,[],false,none⟩:=rfl
theorem ZK8:tt 303=some ⟨5,40,true,[.d (.int .i64 0),.d (.int .i64 0),.d (.int .i64 0),.d (.int .i64 0),.d (.int .i64 0)],[(0,211),(3,2),(4,2)],none,none,[true,true,true,true,true],false,none⟩:=rfl
theorem ZK9:tt 304=some ⟨5,40,true,[.d (.int .i64 0),.d (.int .i64 0),.d (.int .i64 0),.d (.int .i64 0),.d (.int .i64 0)],[(0,211),(3,2),(4,2)],none,none,[true,true,true,true,true],false,none⟩:=rfl
theorem ZLa:tt 305=some ⟨1,8,false,[.d (.raw .nilFunc)],[],none,none,[],false,none⟩:=rfl
theorem ZLb:tt 306=some ⟨1,8,false,[.d (.raw .nilFunc)],[],none,none,[],false,none⟩:=rfl
theorem ZLc:tt 307=some ⟨1,8,false,[.d (.raw (.pointer none))],[],none,none,[],false,none⟩:=rfl
theorem ZLd:tt 308=some ⟨1,8,false,[.d (.raw .nilFunc)],[],none,none,[],false,none⟩:=rfl
theorem ZLe:tt 309=some ⟨4,40,true,[.d (.raw (.pointer none)),.d (.raw (.pointer none)),.d (.raw (.pointer none)),.d (.str ⟨#[]⟩)],[(0,17),(1,17),(2,17),(3,9)],none,none,[],false,none⟩:=rfl
theorem ZLf:tt 310=some ⟨4,40,true,[.d (.raw (.pointer none)),.d (.raw (.pointer none)),.d (.raw (.pointer none)),.d (.str ⟨#[]⟩)],[(0,17),(1,17),(2,17),(3,9)],none,none,[],false,none⟩:=rfl
theorem ZLg:tt 311=some ⟨0,0,true,[],[],none,none,[],false,some 16⟩:=rfl
theorem ZLh:tt 312=some ⟨0,0,true,[],[(0,311)],none,none,[],false,none⟩:=rfl
theorem ZLi:tt 313=some ⟨0,0,true,[],[(0,311)],none,none,[],false,none⟩:=rfl
theorem ZLj:tt 314=some ⟨1,4,false,[.d (.int .u32 0)],[],none,some .u32,[],false,none⟩:=rfl
theorem ZLk:tt 315=some ⟨1,1,false,[.d (.int .u8 0)],[],none,some .u8,[],false,none⟩:=rfl
theorem ZLl:tt 316=some ⟨1,1,false,[.d (.int .u8 0)],[],none,some .u8,[],false,none⟩:=rfl
theorem ZLm:tt 317=some ⟨1,8,false,[.d (.raw .nilFunc)],[],none,none,[],false,none⟩:=rfl
theorem ZLn:tt 318=some ⟨1,8,false,[.d (.raw (.pointer none))],[],none,none,[],false,none⟩:=rfl
theorem ZLo:tt 319=some ⟨1,4,false,[.d (.int .i32 0)],[],none,some .i32,[],false,none⟩:=rfl
theorem ZLp:tt 320=some ⟨1,4,false,[.d (.int .i32 0)],[],none,some .i32,[],false,none⟩:=rfl
theorem ZLq:tt 321=some ⟨11,48,true,[.d (.int .u64 0),.d (.int .u64 0),.d (.int .u32 0),.d (.int .u8 0),.d (.int .u8 0),.d (.int .u8 0),.d (.int .u8 0),.d (.raw .nilFunc),.d (.raw (.pointer none)),.d (.int .i32 0),.d (.int .i32 0)],[(0,12),(1,12),(2,314),(3,315),(4,5),(5,5),(6,316),(7,317),(8,318),(9,319),(10,320)],none,none,[],false,none⟩:=rfl
theorem ZLr:tt 322=some ⟨11,48,true,[.d (.int .u64 0),.d (.int .u64 0),.d (.int .u32 0),.d (.int .u8 0),.d (.int .u8 0),.d (.int .u8 0),.d (.int .u8 0),.d (.raw .nilFunc),.d (.raw (.pointer none)),.d (.int .i32 0),.d (.int .i32 0)],[(0,12),(1,12),(2,314),(3,315),(4,5),(5,5),(6,316),(7,317),(8,318),(9,319),(10,320)],none,none,[],false,none⟩:=rfl
theorem ZLs:tt 323=some ⟨1,16,true,[.d (.str ⟨#[]⟩)],[(0,9)],none,none,[],false,none⟩:=rfl
theorem ZLt:tt 324=some ⟨1,16,true,[.d (.str ⟨#[]⟩)],[(0,9)],none,none,[],false,none⟩:=rfl
theorem ZLu:tt 325=some ⟨1,8,false,[.d (.raw (.pointer none))],[],none,none,[],false,none⟩:=rfl
theorem ZIc:∀ t ti,tt0 t=some ti→TI.check Tryz.prog t ti=true:=by
 intro t ti h
 unfold tt0 at h
 split at h <;> first
  | (cases h; decide +kernel)
  | cases h
theorem ZId:∀ t ti,tt1 t=some ti→TI.check Tryz.prog t ti=true:=by
 intro t ti h
 unfold tt1 at h
 split at h <;> first
  | (cases h; decide +kernel)
  | cases h
theorem ZIe:∀ t ti,tt2 t=some ti→TI.check Tryz.prog t ti=true:=by
 intro t ti h
 unfold tt2 at h
 split at h <;> first
  | (cases h; decide +kernel)
  | cases h
theorem ZIf:∀ t ti,tt3 t=some ti→TI.check Tryz.prog t ti=true:=by
 intro t ti h
 unfold tt3 at h
 split at h <;> first
  | (cases h; decide +kernel)
  | cases h
theorem ZIg:∀ t ti,tt4 t=some ti→TI.check Tryz.prog t ti=true:=by
 intro t ti h
 unfold tt4 at h
 split at h <;> first
  | (cases h; decide +kernel)
  | cases h
set_option linter.defProp false in
def gTT:=And.intro (And.intro (And.intro (And.intro (And.intro (And.intro (And.intro (And.intro (ZNZ) (ZN0)) (And.intro (ZN1) (ZN2))) (And.intro (And.intro (ZN3) (ZN4)) (And.intro (ZN5) (And.intro (ZN6) (ZN7))))) (And.intro (And.intro (And.intro (ZL8) (ZL9)) (And.intro (ZMa) (ZMb))) (And.intro (And.intro (ZMc) (ZMd)) (And.intro (ZMe) (And.intro (ZMf) (ZMg)))))) (And.intro (And.intro (And.intro (And.intro (ZMh) (ZMi)) (And.intro (ZMj) (ZMk))) (And.intro (And.intro (ZMl) (ZMm)) (And.intro (ZMn) (And.intro (ZMo) (ZMp))))) (And.intro (And.intro (And.intro (ZMq) (ZMr)) (And.intro (ZMs) (ZMt))) (And.intro (And.intro (ZMu) (ZMv)) (And.intro (ZMw) (And.intro (ZMx) (ZMy))))))) (And.intro (And.intro (And.intro (And.intro (And.intro (ZMz) (ZMA)) (And.intro (ZMB) (ZMC))) (And.intro (And.intro (ZMD) (ZME)) (And.intro (ZMF) (And.intro (ZMG) (ZMH))))) (And.intro (And.intro (And.intro (ZMI) (ZMJ)) (And.intro (ZMK) (ZML))) (And.intro (And.intro (ZMM) (ZMN)) (And.intro (ZMO) (And.intro (ZMP) (ZMQ)))))) (And.intro (And.intro (And.intro (And.intro (ZMR) (ZMS)) (And.intro (ZMT) (ZMU))) (And.intro (And.intro (ZMV) (ZMW)) (And.intro (ZMX) (And.intro (ZMY) (ZMZ))))) (And.intro (And.intro (And.intro (ZM0) (ZM1)) (And.intro (ZM2) (ZM3))) (And.intro (And.intro (ZM4) (ZM5)) (And.intro (ZM6) (And.intro (ZM7) (ZM8)))))))) (And.intro (And.intro (And.intro (And.intro (And.intro (And.intro (ZM9) (ZNa)) (And.intro (ZNb) (ZNc))) (And.intro (And.intro (ZNd) (ZNe)) (And.intro (ZNf) (And.intro (ZNg) (ZNh))))) (And.intro (And.intro (And.intro (ZNi) (ZNj)) (And.intro (ZNk) (ZNl))) (And.intro (And.intro (ZNm) (ZNn)) (And.intro (ZNo) (And.intro (ZIh) (ZIi)))))) (And.intro (And.intro (And.intro (And.intro (ZIj) (ZIk)) (And.intro (ZIl) (ZIm))) (And.intro (And.intro (ZIn) (ZIo)) (And.intro (ZIp) (And.intro (ZIq) (ZIr))))) (And.intro (And.intro (And.intro (ZIs) (ZIt)) (And.intro (ZIu) (ZIv))) (And.intro (And.intro (ZIw) (ZIx)) (And.intro (ZIy) (And.intro (ZIz) (ZIA))))))) (And.intro (And.intro (And.intro (And.intro (And.intro (ZIB) (ZIC)) (And.intro (ZID) (ZIE))) (And.intro (And.intro (ZIF) (ZIG)) (And.intro (ZIH) (And.intro (ZII) (ZIJ))))) (And.intro (And.intro (And.intro (ZIK) (ZIL)) (And.intro (ZIM) (ZIN))) (And.intro (And.intro (ZIO) (ZIP)) (And.intro (ZIQ) (And.intro (ZIR) (ZIS)))))) (And.intro (And.intro (And.intro (And.intro (ZIT) (ZIU)) (And.intro (ZIV) (ZIW))) (And.intro (And.intro (ZIX) (ZIY)) (And.intro (ZIZ) (And.intro (ZI0) (ZI1))))) (And.intro (And.intro (And.intro (ZI2) (ZI3)) (And.intro (ZI4) (ZI5))) (And.intro (And.intro (ZI6) (ZI7)) (And.intro (ZI8) (And.intro (ZI9) (ZJa))))))))) (And.intro (And.intro (And.intro (And.intro (And.intro (And.intro (And.intro (ZJb) (ZJc)) (And.intro (ZJd) (ZJe))) (And.intro (And.intro (ZJf) (ZJg)) (And.intro (ZJh) (And.intro (ZJi) (ZJj))))) (And.intro (And.intro (And.intro (ZJk) (ZJl)) (And.intro (ZJm) (ZJn))) (And.intro (And.intro (ZJo) (ZJp)) (And.intro (ZJq) (And.intro (ZJr) (ZJs)))))) (And.intro (And.intro (And.intro (And.intro (ZJt) (ZJu)) (And.intro (ZJv) (ZJw))) (And.intro (And.intro (ZJx) (ZJy)) (And.intro (ZJz) (And.intro (ZJA) (ZJB))))) (And.intro (And.intro (And.intro (ZJC) (ZJD)) (And.intro (ZJE) (ZJF))) (And.intro (And.intro (ZJG) (ZJH)) (And.intro (ZJI) (And.intro (ZJJ) (ZJK))))))) (And.intro (And.intro (And.intro (And.intro (And.intro (ZJL) (ZJM)) (And.intro (ZJN) (ZJO))) (And.intro (And.intro (ZJP) (ZJQ)) (And.intro (ZJR) (And.intro (ZJS) (ZJT))))) (And.intro (And.intro (And.intro (ZJU) (ZJV)) (And.intro (ZJW) (ZJX))) (And.intro (And.intro (ZJY) (ZJZ)) (And.intro (ZJ0) (And.intro (ZJ1) (ZJ2)))))) (And.intro (And.intro (And.intro (And.intro (ZJ3) (ZJ4)) (And.intro (ZJ5) (ZJ6))) (And.intro (And.intro (ZJ7) (ZJ8)) (And.intro (ZJ9) (And.intro (ZKa) (ZKb))))) (And.intro (And.intro (And.intro (ZKc) (ZKd)) (And.intro (ZKe) (ZKf))) (And.intro (And.intro (ZKg) (ZKh)) (And.intro (ZKi) (And.intro (ZKj) (ZKk)))))))) (And.intro (And.intro (And.intro (And.intro (And.intro (And.intro (ZKl) (ZKm)) (And.intro (ZKn) (ZKo))) (And.intro (And.intro (ZKp) (ZKq)) (And.intro (ZKr) (And.intro (ZKs) (ZKt))))) (And.intro (And.intro (And.intro (ZKu) (ZKv)) (And.intro (ZKw) (ZKx))) (And.intro (And.intro (ZKy) (ZKz)) (And.intro (ZKA) (And.intro (ZKB) (ZKC)))))) (And.intro (And.intro (And.intro (And.intro (ZKD) (ZKE)) (And.intro (ZKF) (ZKG))) (And.intro (And.intro (ZKH) (ZKI)) (And.intro (ZKJ) (And.intro (ZKK) (ZKL))))) (And.intro (And.intro (And.intro (ZKM) (ZKN)) (And.intro (ZKO) (ZKP))) (And.intro (And.intro (ZKQ) (ZKR)) (And.intro (ZKS) (And.intro (ZKT) (ZKU))))))) (And.intro (And.intro (And.intro (And.intro (And.intro (ZKV) (ZKW)) (And.intro (ZKX) (ZKY))) (And.intro (And.intro (ZKZ) (ZK0)) (And.intro (ZK1) (And.intro (ZK2) (ZK3))))) (And.intro (And.intro (And.intro (ZK4) (ZK5)) (And.intro (ZK6) (ZK7))) (And.intro (And.intro (ZK8) (ZK9)) (And.intro (ZLa) (And.intro (ZLb) (ZLc)))))) (And.intro (And.intro (And.intro (And.intro (ZLd) (ZLe)) (And.intro (ZLf) (ZLg))) (And.intro (And.intro (ZLh) (ZLi)) (And.intro (ZLj) (And.intro (ZLk) (ZLl))))) (And.intro (And.intro (And.intro (ZLm) (ZLn)) (And.intro (ZLo) (ZLp))) (And.intro (And.intro (ZLq) (ZLr)) (And.intro (ZLs) (And.intro (ZLt) (ZLu)))))))))
theorem Z7:∀ t ti,tt t=some ti→TI.check Tryz.prog t ti=true:=by
 intro t ti h
 unfold tt at h
 cases h0:tt0 t with
 | some x=>rw [h0] at h; cases h; exact ZIc t _ h0
 | none =>
 rw [h0] at h
 change Option.orElse (tt1 t) (fun _=>Option.orElse (tt2 t) (fun _=>Option.orElse (tt3 t) (fun _=>Option.orElse (tt4 t) (fun _=>none))))=some ti at h
 cases h1:tt1 t with
 | some x=>rw [h1] at h; cases h; exact ZId t _ h1
 | none =>
 rw [h1] at h
 change Option.orElse (tt2 t) (fun _=>Option.orElse (tt3 t) (fun _=>Option.orElse (tt4 t) (fun _=>none)))=some ti at h
 cases h2:tt2 t with
 | some x=>rw [h2] at h; cases h; exact ZIe t _ h2
 | none =>
 rw [h2] at h
 change Option.orElse (tt3 t) (fun _=>Option.orElse (tt4 t) (fun _=>none))=some ti at h
 cases h3:tt3 t with
 | some x=>rw [h3] at h; cases h; exact ZIf t _ h3
 | none =>
 rw [h3] at h
 change Option.orElse (tt4 t) (fun _=>none)=some ti at h
 cases h4:tt4 t with
 | some x=>rw [h4] at h; cases h; exact ZIg t _ h4
 | none =>
 rw [h4] at h
 change none=some ti at h
 cases h
theorem Zs:Tryz.prog.follows .mixedOrders=true:=by decide +kernel
universe u
def gSt:=And.intro (@if_true.{u}) (And.intro (@if_false.{u}) (And.intro (@implies_true.{u}) (And.intro (@forall_const.{u}) (And.intro (@eq_self.{u}) (@ne_eq.{u})))))
def gS0:=And.intro (@not_true_eq_false) (And.intro (@not_false_eq_true) (@imp_self))
theorem lvp {r:V} (h:r.bare=true):ZC2 0 r [] []:=⟨fun m hm=>(V.bare_has h m hm).elim,by simp,by simp⟩
theorem sE {md:Nat→Nat} {L:List (FuncId×ZmN)} {f:FuncId} {fn:Func} {c:Code} {args:List V} {b:Zf} {k:Zr} {r:V} (M:List (Nat×List Nat)) (m:Nat) (hs:ZHg Tryz.prog L) (hf:Tryz.prog.funcs[f]?=some fn) (hb:fn.body=some c) (ha:Nat.ble args.length fn.ntmps=true) (hlv:r.bare=true) (h:evS ⟨Zuf 0 args,b,k⟩ (E ⟨Tryz.prog,tt,fn.ntmps,1,md,tab L⟩ M m c (ZES ⟨Tryz.prog,tt,fn.ntmps,1,md,tab L⟩ fn.results.toList r [] []))) (hname:(fn.name == "runtime.NumGoroutine")=false:=by decide):Spec Tryz.prog 0 f args b k r [] [] :=
 spec_of_E (X:=⟨Tryz.prog,tt,fn.ntmps,1,md,tab L⟩) M m rfl rfl ⟨Z7,ZI hs _ rfl rfl⟩ Zs hf hb hname (Nat.le_of_ble_eq_true ha) (lvp hlv) h
end Go.Vam
