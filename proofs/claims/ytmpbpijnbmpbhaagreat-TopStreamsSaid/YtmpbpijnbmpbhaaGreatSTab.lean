/- The types of this translation, checked against it. Conditions: none. -/
import Derived.Test.YtmpbpijnbmpbhaaGreatSVl
import Derived.Test.YtmpbpijnbmpbhaaGreatSVm
import Derived.Test.YtmpbpijnbmpbhaaGreatProg
set_option linter.unusedVariables false
set_option linter.defProp false
set_option maxRecDepth 40000
namespace Go.Vam
open Go.Proofs
def tt0:TypeId→Option TI
 | 1=>some ⟨1,8,false,[.d (.raw .nilFunc)],[],none,none,[],false,none⟩
 | 2=>some ⟨1,8,false,[.d (.int .i64 0)],[],none,some .i64,[],false,none⟩
 | 3=>some ⟨1,8,false,[.d (.int .i64 0)],[],none,some .i64,[],false,none⟩
 | 4=>some ⟨1,1,false,[.d (.bool false)],[],none,none,[],true,none⟩
 | 5=>some ⟨1,1,false,[.d (.int .u8 0)],[],none,some .u8,[],false,none⟩
 | 6=>some ⟨1,1,false,[.d (.int .u8 0)],[],none,some .u8,[],false,none⟩
 | 7=>some ⟨4,24,true,[.d (.int .i64 0),.d (.int .i64 0),.d (.bool false),.d (.int .u8 0)],[(0,2),(1,3),(2,4),(3,6)],none,none,[true,true,false,true],false,none⟩
 | 8=>some ⟨4,24,true,[.d (.int .i64 0),.d (.int .i64 0),.d (.bool false),.d (.int .u8 0)],[(0,2),(1,3),(2,4),(3,6)],none,none,[true,true,false,true],false,none⟩
 | 9=>some ⟨1,16,false,[.d (.str ⟨#[]⟩)],[],none,none,[],false,none⟩
 | 10=>some ⟨1,16,false,[.d (.str ⟨#[]⟩)],[],none,none,[],false,none⟩
 | 11=>some ⟨1,16,false,[.d (.str ⟨#[]⟩)],[],none,none,[],false,none⟩
 | 12=>some ⟨1,8,false,[.d (.int .u64 0)],[],none,some .u64,[],false,none⟩
 | 13=>some ⟨2,24,true,[.d (.str ⟨#[]⟩),.d (.int .u64 0)],[(0,9),(1,12)],none,none,[],false,none⟩
 | 14=>some ⟨2,24,true,[.d (.str ⟨#[]⟩),.d (.int .u64 0)],[(0,9),(1,12)],none,none,[],false,none⟩
 | 15=>some ⟨1,8,false,[.d (.raw (.pointer none))],[],none,none,[],false,none⟩
 | 16=>some ⟨1,8,false,[.d (.raw (.pointer none))],[],none,none,[],false,none⟩
 | 17=>some ⟨1,8,false,[.d (.raw (.pointer none))],[],none,none,[],false,none⟩
 | 18=>some ⟨1,8,true,[.d (.raw (.pointer none))],[(0,17)],none,none,[],false,none⟩
 | 19=>some ⟨1,8,true,[.d (.raw (.pointer none))],[(0,17)],none,none,[],false,none⟩
 | 21=>some ⟨1,4,false,[.d (.int .i32 0)],[],none,some .i32,[],false,none⟩
 | 22=>some ⟨1,24,false,[.nil],[],some 5,none,[],false,none⟩
 | 23=>some ⟨1,8,false,[.d (.raw .nilFunc)],[],none,none,[],false,none⟩
 | 24=>some ⟨1,8,false,[.d (.raw (.pointer none))],[],none,none,[],false,none⟩
 | 25=>some ⟨1,8,false,[.d (.raw .nilFunc)],[],none,none,[],false,none⟩
 | 26=>some ⟨1,24,false,[.nil],[],some 3,none,[],false,none⟩
 | 27=>some ⟨1,8,false,[.d (.raw .nilFunc)],[],none,none,[],false,none⟩
 | 28=>some ⟨1,8,false,[.d (.int .u64 0)],[],none,some .u64,[],false,none⟩
 | 29=>some ⟨1,24,false,[.nil],[],some 134,none,[],false,none⟩
 | 30=>some ⟨8,88,true,[.d (.int .u64 0),.d (.str ⟨#[]⟩),.d (.int .i64 0),.d (.int .i64 0),.d (.int .i64 0),.d (.int .i64 0),.d (.int .i64 0),.nil],[(0,28),(1,9),(2,3),(3,3),(4,3),(5,3),(6,3),(7,29)],none,none,[],false,none⟩
 | 31=>some ⟨8,88,true,[.d (.int .u64 0),.d (.str ⟨#[]⟩),.d (.int .i64 0),.d (.int .i64 0),.d (.int .i64 0),.d (.int .i64 0),.d (.int .i64 0),.nil],[(0,28),(1,9),(2,3),(3,3),(4,3),(5,3),(6,3),(7,29)],none,none,[],false,none⟩
 | 32=>some ⟨3,40,true,[.d (.int .i64 0),.d (.int .i64 0),.nil],[(0,3),(1,3),(2,26)],none,none,[],false,none⟩
 | 33=>some ⟨3,40,true,[.d (.int .i64 0),.d (.int .i64 0),.nil],[(0,3),(1,3),(2,26)],none,none,[],false,none⟩
 | 34=>some ⟨4,48,true,[.d (.int .i64 0),.d (.int .i64 0),.nil,.d (.int .i64 0)],[(0,33),(3,3)],none,none,[],false,none⟩
 | 35=>some ⟨4,48,true,[.d (.int .i64 0),.d (.int .i64 0),.nil,.d (.int .i64 0)],[(0,33),(3,3)],none,none,[],false,none⟩
 | 36=>some ⟨1,24,false,[.nil],[],some 211,none,[],false,none⟩
 | 37=>some ⟨1,24,true,[.nil],[(0,36)],none,none,[],false,none⟩
 | 38=>some ⟨1,24,true,[.nil],[(0,36)],none,none,[],false,none⟩
 | 39=>some ⟨4,32,true,[.d (.int .i64 0),.d (.int .i64 0),.d (.int .i64 0),.d (.int .i64 0)],[(0,3),(1,3),(2,3),(3,3)],none,none,[true,true,true,true],false,none⟩
 | 40=>some ⟨4,32,true,[.d (.int .i64 0),.d (.int .i64 0),.d (.int .i64 0),.d (.int .i64 0)],[(0,3),(1,3),(2,3),(3,3)],none,none,[true,true,true,true],false,none⟩
 | 41=>some ⟨2,16,true,[.d (.int .i64 0),.d (.int .i64 0)],[(0,2),(1,2)],none,none,[true,true],false,none⟩
 | 42=>some ⟨2,16,true,[.d (.int .i64 0),.d (.int .i64 0)],[(0,2),(1,2)],none,none,[true,true],false,none⟩
 | 43=>some ⟨5,40,true,[.d (.int .i64 0),.d (.int .i64 0),.d (.int .i64 0),.d (.int .i64 0),.d (.int .i64 0)],[(0,42),(2,3),(3,2),(4,2)],none,none,[true,true,true,true,true],false,none⟩
 | 44=>some ⟨5,40,true,[.d (.int .i64 0),.d (.int .i64 0),.d (.int .i64 0),.d (.int .i64 0),.d (.int .i64 0)],[(0,42),(2,3),(3,2),(4,2)],none,none,[true,true,true,true,true],false,none⟩
 | 45=>some ⟨1,24,false,[.nil],[],some 21,none,[],false,none⟩
 | 46=>some ⟨7,72,true,[.d (.int .i64 0),.d (.int .i64 0),.d (.int .i64 0),.d (.int .i64 0),.d (.int .i64 0),.d (.int .i64 0),.nil],[(0,3),(1,44),(6,45)],none,none,[],false,none⟩
 | 47=>some ⟨7,72,true,[.d (.int .i64 0),.d (.int .i64 0),.d (.int .i64 0),.d (.int .i64 0),.d (.int .i64 0),.d (.int .i64 0),.nil],[(0,3),(1,44),(6,45)],none,none,[],false,none⟩
 | 48=>some ⟨14,128,true,[.d (.int .i64 0),.d (.int .i64 0),.d (.int .i64 0),.d (.int .i64 0),.d (.int .i64 0),.d (.int .i64 0),.d (.int .i64 0),.d (.int .i64 0),.d (.int .i64 0),.d (.int .i64 0),.d (.int .i64 0),.nil,.d (.int .i64 0),.d (.int .i64 0)],[(0,3),(1,40),(5,47),(12,3),(13,3)],none,none,[],false,none⟩
 | 49=>some ⟨14,128,true,[.d (.int .i64 0),.d (.int .i64 0),.d (.int .i64 0),.d (.int .i64 0),.d (.int .i64 0),.d (.int .i64 0),.d (.int .i64 0),.d (.int .i64 0),.d (.int .i64 0),.d (.int .i64 0),.d (.int .i64 0),.nil,.d (.int .i64 0),.d (.int .i64 0)],[(0,3),(1,40),(5,47),(12,3),(13,3)],none,none,[],false,none⟩
 | 50=>some ⟨31,320,true,[.d (.int .u64 0),.d (.str ⟨#[]⟩),.d (.int .i64 0),.d (.int .i64 0),.d (.int .i64 0),.d (.int .i64 0),.d (.int .i64 0),.nil,.d (.int .i64 0),.d (.int .i64 0),.nil,.d (.int .i64 0),.d (.int .i64 0),.d (.int .i64 0),.nil,.d (.bool false),.d (.int .i64 0),.d (.int .i64 0),.d (.int .i64 0),.d (.int .i64 0),.d (.int .i64 0),.d (.int .i64 0),.d (.int .i64 0),.d (.int .i64 0),.d (.int .i64 0),.d (.int .i64 0),.d (.int .i64 0),.d (.int .i64 0),.nil,.d (.int .i64 0),.d (.int .i64 0)],[(0,31),(8,35),(12,3),(13,3),(14,38),(15,4),(16,2),(17,49)],none,none,[],false,none⟩
 | 51=>some ⟨31,320,true,[.d (.int .u64 0),.d (.str ⟨#[]⟩),.d (.int .i64 0),.d (.int .i64 0),.d (.int .i64 0),.d (.int .i64 0),.d (.int .i64 0),.nil,.d (.int .i64 0),.d (.int .i64 0),.nil,.d (.int .i64 0),.d (.int .i64 0),.d (.int .i64 0),.nil,.d (.bool false),.d (.int .i64 0),.d (.int .i64 0),.d (.int .i64 0),.d (.int .i64 0),.d (.int .i64 0),.d (.int .i64 0),.d (.int .i64 0),.d (.int .i64 0),.d (.int .i64 0),.d (.int .i64 0),.d (.int .i64 0),.d (.int .i64 0),.nil,.d (.int .i64 0),.d (.int .i64 0)],[(0,31),(8,35),(12,3),(13,3),(14,38),(15,4),(16,2),(17,49)],none,none,[],false,none⟩
 | 53=>some ⟨1,8,false,[.d (.raw .nilFunc)],[],none,none,[],false,none⟩
 | 54=>some ⟨5,56,true,[.d (.int .i64 0),.d (.int .i64 0),.d (.int .i64 0),.d (.int .i64 0),.nil],[(0,3),(1,3),(2,2),(3,2),(4,45)],none,none,[],false,none⟩
 | 55=>some ⟨5,56,true,[.d (.int .i64 0),.d (.int .i64 0),.d (.int .i64 0),.d (.int .i64 0),.nil],[(0,3),(1,3),(2,2),(3,2),(4,45)],none,none,[],false,none⟩
 | 56=>some ⟨19,184,true,[.d (.int .i64 0),.d (.int .i64 0),.d (.int .i64 0),.d (.int .i64 0),.d (.int .i64 0),.d (.int .i64 0),.d (.int .i64 0),.d (.int .i64 0),.d (.int .i64 0),.d (.int .i64 0),.nil,.d (.int .i64 0),.d (.int .i64 0),.d (.int .i64 0),.d (.int .i64 0),.nil,.d (.int .i64 0),.d (.int .i64 0),.d (.int .i64 0)],[(0,3),(1,3),(2,3),(3,3),(4,47),(11,55),(16,2),(17,2),(18,2)],none,none,[],false,none⟩
 | 57=>some ⟨19,184,true,[.d (.int .i64 0),.d (.int .i64 0),.d (.int .i64 0),.d (.int .i64 0),.d (.int .i64 0),.d (.int .i64 0),.d (.int .i64 0),.d (.int .i64 0),.d (.int .i64 0),.d (.int .i64 0),.nil,.d (.int .i64 0),.d (.int .i64 0),.d (.int .i64 0),.d (.int .i64 0),.nil,.d (.int .i64 0),.d (.int .i64 0),.d (.int .i64 0)],[(0,3),(1,3),(2,3),(3,3),(4,47),(11,55),(16,2),(17,2),(18,2)],none,none,[],false,none⟩
 | 58=>some ⟨1,8,false,[.d (.int .i64 0)],[],none,some .i64,[],false,none⟩
 | 60=>some ⟨1,8,false,[.d (.raw .nilFunc)],[],none,none,[],false,none⟩
 | 61=>some ⟨1,8,false,[.d (.raw .nilFunc)],[],none,none,[],false,none⟩
 | 62=>some ⟨2,32,true,[.d (.int .i64 0),.nil],[(0,3),(1,45)],none,none,[],false,none⟩
 | 63=>some ⟨2,32,true,[.d (.int .i64 0),.nil],[(0,3),(1,45)],none,none,[],false,none⟩
 | 65=>some ⟨1,8,false,[.d (.raw .nilFunc)],[],none,none,[],false,none⟩
 | 66=>some ⟨1,8,false,[.d (.raw .nilFunc)],[],none,none,[],false,none⟩
 | 67=>some ⟨1,8,false,[.d (.raw .nilFunc)],[],none,none,[],false,none⟩
 | 69=>some ⟨1,8,false,[.d (.raw .nilFunc)],[],none,none,[],false,none⟩
 | _=>none
def tt1:TypeId→Option TI
 | 71=>some ⟨1,8,false,[.d (.raw .nilFunc)],[],none,none,[],false,none⟩
 | 73=>some ⟨1,8,false,[.d (.raw .nilFunc)],[],none,none,[],false,none⟩
 | 74=>some ⟨1,8,false,[.d (.raw .nilFunc)],[],none,none,[],false,none⟩
 | 75=>some ⟨1,8,false,[.d (.raw .nilFunc)],[],none,none,[],false,none⟩
 | 76=>some ⟨1,8,false,[.d (.raw .nilFunc)],[],none,none,[],false,none⟩
 | 77=>some ⟨1,8,false,[.d (.raw .nilFunc)],[],none,none,[],false,none⟩
 | 78=>some ⟨1,24,false,[.nil],[],some 57,none,[],false,none⟩
 | 79=>some ⟨1,8,false,[.d (.raw .nilFunc)],[],none,none,[],false,none⟩
 | 80=>some ⟨1,8,false,[.d (.raw .nilFunc)],[],none,none,[],false,none⟩
 | 82=>some ⟨1,8,false,[.d (.raw .nilFunc)],[],none,none,[],false,none⟩
 | 83=>some ⟨1,8,false,[.d (.raw .nilFunc)],[],none,none,[],false,none⟩
 | 84=>some ⟨1,8,false,[.d (.raw .nilFunc)],[],none,none,[],false,none⟩
 | 85=>some ⟨1,8,false,[.d (.raw .nilFunc)],[],none,none,[],false,none⟩
 | 87=>some ⟨1,8,false,[.d (.raw .nilFunc)],[],none,none,[],false,none⟩
 | 88=>some ⟨3,40,true,[.d (.int .i64 0),.d (.int .i64 0),.nil],[(0,3),(1,3),(2,26)],none,none,[],false,none⟩
 | 89=>some ⟨3,40,true,[.d (.int .i64 0),.d (.int .i64 0),.nil],[(0,3),(1,3),(2,26)],none,none,[],false,none⟩
 | 90=>some ⟨16,192,true,[.d (.int .i64 0),.d (.int .i64 0),.nil,.d (.int .i64 0),.d (.int .i64 0),.nil,.d (.int .i64 0),.d (.int .i64 0),.nil,.d (.int .i64 0),.d (.int .i64 0),.d (.int .i64 0),.d (.int .i64 0),.d (.int .i64 0),.d (.int .i64 0),.nil],[(0,33),(3,33),(6,89),(9,47)],none,none,[],false,none⟩
 | 91=>some ⟨16,192,true,[.d (.int .i64 0),.d (.int .i64 0),.nil,.d (.int .i64 0),.d (.int .i64 0),.nil,.d (.int .i64 0),.d (.int .i64 0),.nil,.d (.int .i64 0),.d (.int .i64 0),.d (.int .i64 0),.d (.int .i64 0),.d (.int .i64 0),.d (.int .i64 0),.nil],[(0,33),(3,33),(6,89),(9,47)],none,none,[],false,none⟩
 | 93=>some ⟨1,8,false,[.d (.raw .nilFunc)],[],none,none,[],false,none⟩
 | 95=>some ⟨1,8,false,[.d (.raw .nilFunc)],[],none,none,[],false,none⟩
 | 96=>some ⟨1,8,false,[.d (.raw .nilFunc)],[],none,none,[],false,none⟩
 | 97=>some ⟨1,24,false,[.nil],[],some 63,none,[],false,none⟩
 | 98=>some ⟨1,8,false,[.d (.raw .nilFunc)],[],none,none,[],false,none⟩
 | 99=>some ⟨1,8,false,[.d (.raw .nilFunc)],[],none,none,[],false,none⟩
 | 100=>some ⟨3,24,true,[.d (.int .i64 0),.d (.int .i64 0),.d (.int .i64 0)],[(0,3),(1,3),(2,3)],none,none,[true,true,true],false,none⟩
 | 101=>some ⟨3,24,true,[.d (.int .i64 0),.d (.int .i64 0),.d (.int .i64 0)],[(0,3),(1,3),(2,3)],none,none,[true,true,true],false,none⟩
 | 103=>some ⟨1,8,false,[.d (.raw .nilFunc)],[],none,none,[],false,none⟩
 | 105=>some ⟨1,8,false,[.d (.raw .nilFunc)],[],none,none,[],false,none⟩
 | 107=>some ⟨1,8,false,[.d (.raw .nilFunc)],[],none,none,[],false,none⟩
 | 109=>some ⟨1,8,false,[.d (.raw .nilFunc)],[],none,none,[],false,none⟩
 | 110=>some ⟨4,32,true,[.d (.int .i64 0),.d (.int .i64 0),.d (.int .i64 0),.d (.int .i64 0)],[(0,3),(1,3),(2,3),(3,3)],none,none,[true,true,true,true],false,none⟩
 | 111=>some ⟨4,32,true,[.d (.int .i64 0),.d (.int .i64 0),.d (.int .i64 0),.d (.int .i64 0)],[(0,3),(1,3),(2,3),(3,3)],none,none,[true,true,true,true],false,none⟩
 | 112=>some ⟨9,104,true,[.d (.int .i64 0),.nil,.d (.int .i64 0),.d (.int .i64 0),.nil,.d (.int .i64 0),.d (.int .i64 0),.d (.int .i64 0),.d (.int .i64 0)],[(0,63),(2,89),(5,111)],none,none,[],false,none⟩
 | 113=>some ⟨9,104,true,[.d (.int .i64 0),.nil,.d (.int .i64 0),.d (.int .i64 0),.nil,.d (.int .i64 0),.d (.int .i64 0),.d (.int .i64 0),.d (.int .i64 0)],[(0,63),(2,89),(5,111)],none,none,[],false,none⟩
 | 114=>some ⟨1,24,false,[.nil],[],some 113,none,[],false,none⟩
 | 115=>some ⟨1,8,false,[.d (.raw .nilFunc)],[],none,none,[],false,none⟩
 | 117=>some ⟨1,8,false,[.d (.raw .nilFunc)],[],none,none,[],false,none⟩
 | 119=>some ⟨1,8,false,[.d (.raw .nilFunc)],[],none,none,[],false,none⟩
 | 120=>some ⟨1,8,false,[.d (.raw .nilFunc)],[],none,none,[],false,none⟩
 | 121=>some ⟨1,24,false,[.nil],[],some 2,none,[],false,none⟩
 | 122=>some ⟨1,8,false,[.d (.raw .nilFunc)],[],none,none,[],false,none⟩
 | 123=>some ⟨1,8,false,[.d (.raw .nilFunc)],[],none,none,[],false,none⟩
 | 124=>some ⟨1,24,true,[.nil],[(0,22)],none,none,[],false,none⟩
 | 125=>some ⟨1,24,true,[.nil],[(0,22)],none,none,[],false,none⟩
 | 126=>some ⟨1,24,false,[.nil],[],some 26,none,[],false,none⟩
 | 127=>some ⟨1,8,false,[.d (.raw .nilFunc)],[],none,none,[],false,none⟩
 | 128=>some ⟨2,16,true,[.d (.int .i64 0),.d (.int .i64 0)],[(0,3),(1,3)],none,none,[true,true],false,none⟩
 | 129=>some ⟨2,16,true,[.d (.int .i64 0),.d (.int .i64 0)],[(0,3),(1,3)],none,none,[true,true],false,none⟩
 | 130=>some ⟨1,24,false,[.nil],[],some 129,none,[],false,none⟩
 | 131=>some ⟨1,24,true,[.nil],[(0,130)],none,none,[],false,none⟩
 | 132=>some ⟨1,24,true,[.nil],[(0,130)],none,none,[],false,none⟩
 | 133=>some ⟨4,80,true,[.d (.int .i64 0),.nil,.nil,.nil],[(0,3),(1,132),(2,126),(3,132)],none,none,[],false,none⟩
 | 134=>some ⟨4,80,true,[.d (.int .i64 0),.nil,.nil,.nil],[(0,3),(1,132),(2,126),(3,132)],none,none,[],false,none⟩
 | 136=>some ⟨1,8,false,[.d (.raw .nilFunc)],[],none,none,[],false,none⟩
 | 137=>some ⟨1,8,false,[.d (.raw .nilFunc)],[],none,none,[],false,none⟩
 | 138=>some ⟨1,8,false,[.d (.raw .nilFunc)],[],none,none,[],false,none⟩
 | 140=>some ⟨1,8,false,[.d (.raw .nilFunc)],[],none,none,[],false,none⟩
 | 141=>some ⟨1,8,false,[.d (.raw .nilFunc)],[],none,none,[],false,none⟩
 | 142=>some ⟨1,8,false,[.d (.raw .nilFunc)],[],none,none,[],false,none⟩
 | 143=>some ⟨2,32,true,[.nil,.d (.raw .nilFunc)],[(0,26),(1,142)],none,none,[],false,none⟩
 | 144=>some ⟨2,32,true,[.nil,.d (.raw .nilFunc)],[(0,26),(1,142)],none,none,[],false,none⟩
 | 147=>some ⟨1,8,false,[.d (.raw .nilFunc)],[],none,none,[],false,none⟩
 | 148=>some ⟨1,8,false,[.d (.raw .nilFunc)],[],none,none,[],false,none⟩
 | 149=>some ⟨1,8,false,[.d (.raw .nilFunc)],[],none,none,[],false,none⟩
 | _=>none
def tt2:TypeId→Option TI
 | 150=>some ⟨1,8,false,[.d (.raw .nilFunc)],[],none,none,[],false,none⟩
 | 151=>some ⟨1,8,false,[.d (.raw .nilFunc)],[],none,none,[],false,none⟩
 | 152=>some ⟨1,8,false,[.d (.raw .nilFunc)],[],none,none,[],false,none⟩
 | 153=>some ⟨1,8,false,[.d (.raw .nilFunc)],[],none,none,[],false,none⟩
 | 154=>some ⟨1,8,false,[.d (.raw .nilFunc)],[],none,none,[],false,none⟩
 | 155=>some ⟨1,8,false,[.d (.raw .nilFunc)],[],none,none,[],false,none⟩
 | 156=>some ⟨1,8,false,[.d (.raw .nilFunc)],[],none,none,[],false,none⟩
 | 158=>some ⟨1,8,false,[.d (.raw .nilFunc)],[],none,none,[],false,none⟩
 | 159=>some ⟨1,8,false,[.d (.raw .nilFunc)],[],none,none,[],false,none⟩
 | 161=>some ⟨1,8,false,[.d (.raw .nilFunc)],[],none,none,[],false,none⟩
 | 162=>some ⟨1,8,false,[.d (.raw .nilFunc)],[],none,none,[],false,none⟩
 | 163=>some ⟨1,8,false,[.d (.raw .nilFunc)],[],none,none,[],false,none⟩
 | 164=>some ⟨1,8,false,[.d (.raw .nilFunc)],[],none,none,[],false,none⟩
 | 165=>some ⟨1,8,false,[.d (.raw .nilFunc)],[],none,none,[],false,none⟩
 | 166=>some ⟨1,8,false,[.d (.raw .nilFunc)],[],none,none,[],false,none⟩
 | 167=>some ⟨1,8,false,[.d (.raw .nilFunc)],[],none,none,[],false,none⟩
 | 168=>some ⟨2,16,true,[.d (.int .i64 0),.d (.bool false)],[(0,3),(1,4)],none,none,[true,false],false,none⟩
 | 169=>some ⟨2,16,true,[.d (.int .i64 0),.d (.bool false)],[(0,3),(1,4)],none,none,[true,false],false,none⟩
 | 170=>some ⟨1,8,false,[.d (.raw .nilFunc)],[],none,none,[],false,none⟩
 | 171=>some ⟨1,8,false,[.d (.raw .nilFunc)],[],none,none,[],false,none⟩
 | 172=>some ⟨1,8,false,[.d (.int .u64 0)],[],none,some .u64,[],false,none⟩
 | 173=>some ⟨1,8,false,[.d (.raw .nilFunc)],[],none,none,[],false,none⟩
 | 174=>some ⟨1,8,false,[.d (.raw .nilFunc)],[],none,none,[],false,none⟩
 | 176=>some ⟨1,8,false,[.d (.raw .nilFunc)],[],none,none,[],false,none⟩
 | 177=>some ⟨1,8,false,[.d (.raw .nilFunc)],[],none,none,[],false,none⟩
 | 178=>some ⟨1,8,false,[.d (.raw .nilFunc)],[],none,none,[],false,none⟩
 | 179=>some ⟨1,8,false,[.d (.raw .nilFunc)],[],none,none,[],false,none⟩
 | 180=>some ⟨1,8,false,[.d (.raw .nilFunc)],[],none,none,[],false,none⟩
 | 181=>some ⟨1,8,false,[.d (.raw .nilFunc)],[],none,none,[],false,none⟩
 | 182=>some ⟨1,8,false,[.d (.raw .nilFunc)],[],none,none,[],false,none⟩
 | 183=>some ⟨1,8,false,[.d (.raw .nilFunc)],[],none,none,[],false,none⟩
 | 184=>some ⟨1,8,false,[.d (.raw .nilFunc)],[],none,none,[],false,none⟩
 | 185=>some ⟨1,8,false,[.d (.raw .nilFunc)],[],none,none,[],false,none⟩
 | 187=>some ⟨1,8,false,[.d (.raw .nilFunc)],[],none,none,[],false,none⟩
 | 188=>some ⟨1,8,false,[.d (.raw .nilFunc)],[],none,none,[],false,none⟩
 | 189=>some ⟨1,8,false,[.d (.raw .nilFunc)],[],none,none,[],false,none⟩
 | 190=>some ⟨1,8,false,[.d (.raw .nilFunc)],[],none,none,[],false,none⟩
 | 192=>some ⟨1,8,false,[.d (.raw .nilFunc)],[],none,none,[],false,none⟩
 | 193=>some ⟨1,8,false,[.d (.raw .nilFunc)],[],none,none,[],false,none⟩
 | 194=>some ⟨1,8,false,[.d (.raw .nilFunc)],[],none,none,[],false,none⟩
 | 195=>some ⟨1,8,false,[.d (.raw .nilFunc)],[],none,none,[],false,none⟩
 | 196=>some ⟨1,8,false,[.d (.raw .nilFunc)],[],none,none,[],false,none⟩
 | 197=>some ⟨1,8,false,[.d (.raw .nilFunc)],[],none,none,[],false,none⟩
 | 198=>some ⟨31,320,true,[.d (.int .u64 0),.d (.str ⟨#[]⟩),.d (.int .i64 0),.d (.int .i64 0),.d (.int .i64 0),.d (.int .i64 0),.d (.int .i64 0),.nil,.d (.int .i64 0),.d (.int .i64 0),.nil,.d (.int .i64 0),.d (.int .i64 0),.d (.int .i64 0),.nil,.d (.bool false),.d (.int .i64 0),.d (.int .i64 0),.d (.int .i64 0),.d (.int .i64 0),.d (.int .i64 0),.d (.int .i64 0),.d (.int .i64 0),.d (.int .i64 0),.d (.int .i64 0),.d (.int .i64 0),.d (.int .i64 0),.d (.int .i64 0),.nil,.d (.int .i64 0),.d (.int .i64 0)],[(0,51)],none,none,[],false,none⟩
 | 199=>some ⟨31,320,true,[.d (.int .u64 0),.d (.str ⟨#[]⟩),.d (.int .i64 0),.d (.int .i64 0),.d (.int .i64 0),.d (.int .i64 0),.d (.int .i64 0),.nil,.d (.int .i64 0),.d (.int .i64 0),.nil,.d (.int .i64 0),.d (.int .i64 0),.d (.int .i64 0),.nil,.d (.bool false),.d (.int .i64 0),.d (.int .i64 0),.d (.int .i64 0),.d (.int .i64 0),.d (.int .i64 0),.d (.int .i64 0),.d (.int .i64 0),.d (.int .i64 0),.d (.int .i64 0),.d (.int .i64 0),.d (.int .i64 0),.d (.int .i64 0),.nil,.d (.int .i64 0),.d (.int .i64 0)],[(0,51)],none,none,[],false,none⟩
 | 200=>some ⟨1,8,false,[.d (.raw .nilFunc)],[],none,none,[],false,none⟩
 | 201=>some ⟨1,8,false,[.d (.raw .nilFunc)],[],none,none,[],false,none⟩
 | 202=>some ⟨1,8,false,[.d (.raw .nilFunc)],[],none,none,[],false,none⟩
 | 203=>some ⟨1,8,false,[.d (.raw .nilFunc)],[],none,none,[],false,none⟩
 | 204=>some ⟨1,8,false,[.d (.raw .nilFunc)],[],none,none,[],false,none⟩
 | 206=>some ⟨1,8,false,[.d (.raw .nilFunc)],[],none,none,[],false,none⟩
 | 207=>some ⟨1,8,false,[.d (.raw .nilFunc)],[],none,none,[],false,none⟩
 | 209=>some ⟨1,8,false,[.d (.raw .nilFunc)],[],none,none,[],false,none⟩
 | 210=>some ⟨3,24,true,[.d (.int .i64 0),.d (.int .i64 0),.d (.int .i64 0)],[(0,2),(1,42)],none,none,[true,true,true],false,none⟩
 | 211=>some ⟨3,24,true,[.d (.int .i64 0),.d (.int .i64 0),.d (.int .i64 0)],[(0,2),(1,42)],none,none,[true,true,true],false,none⟩
 | 212=>some ⟨1,8,false,[.d (.raw .nilFunc)],[],none,none,[],false,none⟩
 | 214=>some ⟨1,8,false,[.d (.raw .nilFunc)],[],none,none,[],false,none⟩
 | 215=>some ⟨1,8,false,[.d (.raw .nilFunc)],[],none,none,[],false,none⟩
 | 216=>some ⟨1,8,false,[.d (.raw .nilFunc)],[],none,none,[],false,none⟩
 | 217=>some ⟨1,8,false,[.d (.raw .nilFunc)],[],none,none,[],false,none⟩
 | 218=>some ⟨1,8,false,[.d (.raw .nilFunc)],[],none,none,[],false,none⟩
 | 219=>some ⟨1,8,false,[.d (.raw .nilFunc)],[],none,none,[],false,none⟩
 | 220=>some ⟨1,8,false,[.d (.raw .nilFunc)],[],none,none,[],false,none⟩
 | 221=>some ⟨1,8,false,[.d (.raw .nilFunc)],[],none,none,[],false,none⟩
 | _=>none
def tt3:TypeId→Option TI
 | 222=>some ⟨1,8,false,[.d (.raw .nilFunc)],[],none,none,[],false,none⟩
 | 223=>some ⟨1,8,false,[.d (.raw .nilFunc)],[],none,none,[],false,none⟩
 | 224=>some ⟨1,8,false,[.d (.raw .nilFunc)],[],none,none,[],false,none⟩
 | 225=>some ⟨1,8,false,[.d (.raw .nilFunc)],[],none,none,[],false,none⟩
 | 227=>some ⟨1,8,false,[.d (.raw .nilFunc)],[],none,none,[],false,none⟩
 | 229=>some ⟨1,8,false,[.d (.raw .nilFunc)],[],none,none,[],false,none⟩
 | 230=>some ⟨1,8,false,[.d (.raw .nilFunc)],[],none,none,[],false,none⟩
 | 231=>some ⟨1,8,false,[.d (.raw .nilFunc)],[],none,none,[],false,none⟩
 | 232=>some ⟨3,24,true,[.d (.int .i64 0),.d (.int .i64 0),.d (.bool false)],[(0,3),(1,169)],none,none,[true,true,false],false,none⟩
 | 233=>some ⟨1,24,false,[.nil],[],some 232,none,[],false,none⟩
 | 234=>some ⟨1,8,false,[.d (.raw .nilFunc)],[],none,none,[],false,none⟩
 | 235=>some ⟨1,8,false,[.d (.raw .nilFunc)],[],none,none,[],false,none⟩
 | 236=>some ⟨1,8,false,[.d (.raw .nilFunc)],[],none,none,[],false,none⟩
 | 237=>some ⟨1,8,false,[.d (.raw .nilFunc)],[],none,none,[],false,none⟩
 | 238=>some ⟨1,8,false,[.d (.raw .nilFunc)],[],none,none,[],false,none⟩
 | 239=>some ⟨1,8,false,[.d (.raw .nilFunc)],[],none,none,[],false,none⟩
 | 240=>some ⟨1,8,false,[.d (.raw .nilFunc)],[],none,none,[],false,none⟩
 | 241=>some ⟨1,8,false,[.d (.raw .nilFunc)],[],none,none,[],false,none⟩
 | 242=>some ⟨1,8,false,[.d (.raw .nilFunc)],[],none,none,[],false,none⟩
 | 243=>some ⟨1,8,false,[.d (.raw .nilFunc)],[],none,none,[],false,none⟩
 | 244=>some ⟨1,8,false,[.d (.raw .nilFunc)],[],none,none,[],false,none⟩
 | 245=>some ⟨1,8,false,[.d (.raw .nilFunc)],[],none,none,[],false,none⟩
 | 246=>some ⟨1,8,false,[.d (.raw .nilFunc)],[],none,none,[],false,none⟩
 | 247=>some ⟨1,8,false,[.d (.raw .nilFunc)],[],none,none,[],false,none⟩
 | 248=>some ⟨1,8,false,[.d (.raw .nilFunc)],[],none,none,[],false,none⟩
 | 249=>some ⟨1,8,false,[.d (.raw .nilFunc)],[],none,none,[],false,none⟩
 | 250=>some ⟨1,8,false,[.d (.raw .nilFunc)],[],none,none,[],false,none⟩
 | 251=>some ⟨1,8,false,[.d (.raw .nilFunc)],[],none,none,[],false,none⟩
 | 252=>some ⟨1,8,false,[.d (.raw .nilFunc)],[],none,none,[],false,none⟩
 | 253=>some ⟨1,8,false,[.d (.raw .nilFunc)],[],none,none,[],false,none⟩
 | 254=>some ⟨1,8,false,[.d (.raw .nilFunc)],[],none,none,[],false,none⟩
 | 255=>some ⟨1,8,false,[.d (.raw .nilFunc)],[],none,none,[],false,none⟩
 | 257=>some ⟨1,8,false,[.d (.raw .nilFunc)],[],none,none,[],false,none⟩
 | 258=>some ⟨1,8,false,[.d (.raw .nilFunc)],[],none,none,[],false,none⟩
 | 259=>some ⟨1,8,false,[.d (.raw .nilFunc)],[],none,none,[],false,none⟩
 | 260=>some ⟨1,8,false,[.d (.raw .nilFunc)],[],none,none,[],false,none⟩
 | 261=>some ⟨1,8,false,[.d (.raw .nilFunc)],[],none,none,[],false,none⟩
 | 262=>some ⟨1,8,false,[.d (.raw .nilFunc)],[],none,none,[],false,none⟩
 | 263=>some ⟨1,8,false,[.d (.raw .nilFunc)],[],none,none,[],false,none⟩
 | 264=>some ⟨1,8,false,[.d (.raw .nilFunc)],[],none,none,[],false,none⟩
 | 265=>some ⟨1,8,false,[.d (.raw .nilFunc)],[],none,none,[],false,none⟩
 | 266=>some ⟨1,8,false,[.d (.raw .nilFunc)],[],none,none,[],false,none⟩
 | 267=>some ⟨1,24,false,[.nil],[],some 45,none,[],false,none⟩
 | 268=>some ⟨1,8,false,[.d (.raw .nilFunc)],[],none,none,[],false,none⟩
 | 269=>some ⟨1,8,false,[.d (.raw .nilFunc)],[],none,none,[],false,none⟩
 | 270=>some ⟨1,8,false,[.d (.raw .nilFunc)],[],none,none,[],false,none⟩
 | 272=>some ⟨1,8,false,[.d (.raw .nilFunc)],[],none,none,[],false,none⟩
 | 273=>some ⟨1,8,false,[.d (.raw .nilFunc)],[],none,none,[],false,none⟩
 | 274=>some ⟨1,8,false,[.d (.raw .nilFunc)],[],none,none,[],false,none⟩
 | 276=>some ⟨1,8,false,[.d (.raw .nilFunc)],[],none,none,[],false,none⟩
 | 277=>some ⟨1,8,false,[.d (.raw .nilFunc)],[],none,none,[],false,none⟩
 | 278=>some ⟨1,8,false,[.d (.raw .nilFunc)],[],none,none,[],false,none⟩
 | 279=>some ⟨1,8,false,[.d (.raw .nilFunc)],[],none,none,[],false,none⟩
 | 280=>some ⟨1,8,false,[.d (.raw .nilFunc)],[],none,none,[],false,none⟩
 | 281=>some ⟨1,8,false,[.d (.raw .nilFunc)],[],none,none,[],false,none⟩
 | 282=>some ⟨1,8,false,[.d (.raw .nilFunc)],[],none,none,[],false,none⟩
 | 283=>some ⟨1,8,false,[.d (.raw .nilFunc)],[],none,none,[],false,none⟩
 | 285=>some ⟨1,8,false,[.d (.raw .nilFunc)],[],none,none,[],false,none⟩
 | 286=>some ⟨1,8,false,[.d (.raw .nilFunc)],[],none,none,[],false,none⟩
 | 287=>some ⟨1,8,false,[.d (.raw .nilFunc)],[],none,none,[],false,none⟩
 | 288=>some ⟨1,8,false,[.d (.raw .nilFunc)],[],none,none,[],false,none⟩
 | 289=>some ⟨1,8,false,[.d (.raw .nilFunc)],[],none,none,[],false,none⟩
 | 290=>some ⟨4,32,true,[.d (.int .i64 0),.d (.int .i64 0),.d (.int .i64 0),.d (.int .i64 0)],[(0,111)],none,none,[true,true,true,true],false,none⟩
 | 291=>some ⟨4,32,true,[.d (.int .i64 0),.d (.int .i64 0),.d (.int .i64 0),.d (.int .i64 0)],[(0,111)],none,none,[true,true,true,true],false,none⟩
 | _=>none
def tt4:TypeId→Option TI
 | 292=>some ⟨1,8,false,[.d (.raw .nilFunc)],[],none,none,[],false,none⟩
 | 293=>some ⟨1,8,false,[.d (.raw .nilFunc)],[],none,none,[],false,none⟩
 | 294=>some ⟨1,8,false,[.d (.raw .nilFunc)],[],none,none,[],false,none⟩
 | 295=>some ⟨1,8,false,[.d (.raw .nilFunc)],[],none,none,[],false,none⟩
 | 296=>some ⟨1,8,false,[.d (.raw .nilFunc)],[],none,none,[],false,none⟩
 | 299=>some ⟨1,8,false,[.d (.raw .nilFunc)],[],none,none,[],false,none⟩
 | 300=>some ⟨1,8,false,[.d (.raw .nilFunc)],[],none,none,[],false,none⟩
 | 301=>some ⟨1,8,false,[.d (.raw .nilFunc)],[],none,none,[],false,none⟩
 | 302=>some ⟨1,8,false,[.d (.raw .nilFunc)],[],none,none,[],false,none⟩
 | 303=>some ⟨5,40,true,[.d (.int .i64 0),.d (.int .i64 0),.d (.int .i64 0),.d (.int .i64 0),.d (.int .i64 0)],[(0,211),(3,2),(4,2)],none,none,[true,true,true,true,true],false,none⟩
 | 304=>some ⟨5,40,true,[.d (.int .i64 0),.d (.int .i64 0),.d (.int .i64 0),.d (.int .i64 0),.d (.int .i64 0)],[(0,211),(3,2),(4,2)],none,none,[true,true,true,true,true],false,none⟩
 | 305=>some ⟨1,8,false,[.d (.raw .nilFunc)],[],none,none,[],false,none⟩
 | 306=>some ⟨1,8,false,[.d (.raw .nilFunc)],[],none,none,[],false,none⟩
 | 307=>some ⟨1,8,false,[.d (.raw (.pointer none))],[],none,none,[],false,none⟩
 | 308=>some ⟨1,8,false,[.d (.raw .nilFunc)],[],none,none,[],false,none⟩
 | 309=>some ⟨4,40,true,[.d (.raw (.pointer none)),.d (.raw (.pointer none)),.d (.raw (.pointer none)),.d (.str ⟨#[]⟩)],[(0,17),(1,17),(2,17),(3,9)],none,none,[],false,none⟩
 | 310=>some ⟨4,40,true,[.d (.raw (.pointer none)),.d (.raw (.pointer none)),.d (.raw (.pointer none)),.d (.str ⟨#[]⟩)],[(0,17),(1,17),(2,17),(3,9)],none,none,[],false,none⟩
 | 311=>some ⟨0,0,true,[],[],none,none,[],false,some 16⟩
 | 312=>some ⟨0,0,true,[],[(0,311)],none,none,[],false,none⟩
 | 313=>some ⟨0,0,true,[],[(0,311)],none,none,[],false,none⟩
 | 314=>some ⟨1,4,false,[.d (.int .u32 0)],[],none,some .u32,[],false,none⟩
 | 315=>some ⟨1,1,false,[.d (.int .u8 0)],[],none,some .u8,[],false,none⟩
 | 316=>some ⟨1,1,false,[.d (.int .u8 0)],[],none,some .u8,[],false,none⟩
 | 317=>some ⟨1,8,false,[.d (.raw .nilFunc)],[],none,none,[],false,none⟩
 | 318=>some ⟨1,8,false,[.d (.raw (.pointer none))],[],none,none,[],false,none⟩
 | 319=>some ⟨1,4,false,[.d (.int .i32 0)],[],none,some .i32,[],false,none⟩
 | 320=>some ⟨1,4,false,[.d (.int .i32 0)],[],none,some .i32,[],false,none⟩
 | 321=>some ⟨11,48,true,[.d (.int .u64 0),.d (.int .u64 0),.d (.int .u32 0),.d (.int .u8 0),.d (.int .u8 0),.d (.int .u8 0),.d (.int .u8 0),.d (.raw .nilFunc),.d (.raw (.pointer none)),.d (.int .i32 0),.d (.int .i32 0)],[(0,12),(1,12),(2,314),(3,315),(4,5),(5,5),(6,316),(7,317),(8,318),(9,319),(10,320)],none,none,[],false,none⟩
 | 322=>some ⟨11,48,true,[.d (.int .u64 0),.d (.int .u64 0),.d (.int .u32 0),.d (.int .u8 0),.d (.int .u8 0),.d (.int .u8 0),.d (.int .u8 0),.d (.raw .nilFunc),.d (.raw (.pointer none)),.d (.int .i32 0),.d (.int .i32 0)],[(0,12),(1,12),(2,314),(3,315),(4,5),(5,5),(6,316),(7,317),(8,318),(9,319),(10,320)],none,none,[],false,none⟩
 | 323=>some ⟨1,16,true,[.d (.str ⟨#[]⟩)],[(0,9)],none,none,[],false,none⟩
 | 324=>some ⟨1,16,true,[.d (.str ⟨#[]⟩)],[(0,9)],none,none,[],false,none⟩
 | 325=>some ⟨1,8,false,[.d (.raw (.pointer none))],[],none,none,[],false,none⟩
 | _=>none
def tt (t:TypeId):Option TI:=(tt0 t).orElse fun _=>(tt1 t).orElse fun _=>(tt2 t).orElse fun _=>(tt3 t).orElse fun _=>(tt4 t).orElse fun _=>none
theorem ZML:tt 1=some ⟨1,8,false,[.d (.raw .nilFunc)],[],none,none,[],false,none⟩:=rfl
theorem ZMM:tt 2=some ⟨1,8,false,[.d (.int .i64 0)],[],none,some .i64,[],false,none⟩:=rfl
theorem ZMN:tt 3=some ⟨1,8,false,[.d (.int .i64 0)],[],none,some .i64,[],false,none⟩:=rfl
theorem ZMO:tt 4=some ⟨1,1,false,[.d (.bool false)],[],none,none,[],true,none⟩:=rfl
theorem ZMP:tt 5=some ⟨1,1,false,[.d (.int .u8 0)],[],none,some .u8,[],false,none⟩:=rfl
theorem ZMQ:tt 6=some ⟨1,1,false,[.d (.int .u8 0)],[],none,some .u8,[],false,none⟩:=rfl
theorem ZMR:tt 7=some ⟨4,24,true,[.d (.int .i64 0),.d (.int .i64 0),.d (.bool false),.d (.int .u8 0)],[(0,2),(1,3),(2,4),(3,6)],none,none,[true,true,false,true],false,none⟩:=rfl
theorem ZMS:tt 8=some ⟨4,24,true,[.d (.int .i64 0),.d (.int .i64 0),.d (.bool false),.d (.int .u8 0)],[(0,2),(1,3),(2,4),(3,6)],none,none,[true,true,false,true],false,none⟩:=rfl
theorem ZMT:tt 9=some ⟨1,16,false,[.d (.str ⟨#[]⟩)],[],none,none,[],false,none⟩:=rfl
theorem ZK8:tt 10=some ⟨1,16,false,[.d (.str ⟨#[]⟩)],[],none,none,[],false,none⟩:=rfl
theorem ZK9:tt 11=some ⟨1,16,false,[.d (.str ⟨#[]⟩)],[],none,none,[],false,none⟩:=rfl
theorem ZLa:tt 12=some ⟨1,8,false,[.d (.int .u64 0)],[],none,some .u64,[],false,none⟩:=rfl
theorem ZLb:tt 13=some ⟨2,24,true,[.d (.str ⟨#[]⟩),.d (.int .u64 0)],[(0,9),(1,12)],none,none,[],false,none⟩:=rfl
theorem ZLc:tt 14=some ⟨2,24,true,[.d (.str ⟨#[]⟩),.d (.int .u64 0)],[(0,9),(1,12)],none,none,[],false,none⟩:=rfl
theorem ZLd:tt 15=some ⟨1,8,false,[.d (.raw (.pointer none))],[],none,none,[],false,none⟩:=rfl
theorem ZLe:tt 16=some ⟨1,8,false,[.d (.raw (.pointer none))],[],none,none,[],false,none⟩:=rfl
theorem ZLf:tt 17=some ⟨1,8,false,[.d (.raw (.pointer none))],[],none,none,[],false,none⟩:=rfl
theorem ZLg:tt 18=some ⟨1,8,true,[.d (.raw (.pointer none))],[(0,17)],none,none,[],false,none⟩:=rfl
theorem ZLh:tt 19=some ⟨1,8,true,[.d (.raw (.pointer none))],[(0,17)],none,none,[],false,none⟩:=rfl
theorem ZLi:tt 21=some ⟨1,4,false,[.d (.int .i32 0)],[],none,some .i32,[],false,none⟩:=rfl
theorem ZLj:tt 22=some ⟨1,24,false,[.nil],[],some 5,none,[],false,none⟩:=rfl
theorem ZLk:tt 23=some ⟨1,8,false,[.d (.raw .nilFunc)],[],none,none,[],false,none⟩:=rfl
theorem ZLl:tt 24=some ⟨1,8,false,[.d (.raw (.pointer none))],[],none,none,[],false,none⟩:=rfl
theorem ZLm:tt 25=some ⟨1,8,false,[.d (.raw .nilFunc)],[],none,none,[],false,none⟩:=rfl
theorem ZLn:tt 26=some ⟨1,24,false,[.nil],[],some 3,none,[],false,none⟩:=rfl
theorem ZLo:tt 27=some ⟨1,8,false,[.d (.raw .nilFunc)],[],none,none,[],false,none⟩:=rfl
theorem ZLp:tt 28=some ⟨1,8,false,[.d (.int .u64 0)],[],none,some .u64,[],false,none⟩:=rfl
theorem ZLq:tt 29=some ⟨1,24,false,[.nil],[],some 134,none,[],false,none⟩:=rfl
theorem ZLr:tt 30=some ⟨8,88,true,[.d (.int .u64 0),.d (.str ⟨#[]⟩),.d (.int .i64 0),.d (.int .i64 0),.d (.int .i64 0),.d (.int .i64 0),.d (.int .i64 0),.nil],[(0,28),(1,9),(2,3),(3,3),(4,3),(5,3),(6,3),(7,29)],none,none,[],false,none⟩:=rfl
theorem ZLs:tt 31=some ⟨8,88,true,[.d (.int .u64 0),.d (.str ⟨#[]⟩),.d (.int .i64 0),.d (.int .i64 0),.d (.int .i64 0),.d (.int .i64 0),.d (.int .i64 0),.nil],[(0,28),(1,9),(2,3),(3,3),(4,3),(5,3),(6,3),(7,29)],none,none,[],false,none⟩:=rfl
theorem ZLt:tt 32=some ⟨3,40,true,[.d (.int .i64 0),.d (.int .i64 0),.nil],[(0,3),(1,3),(2,26)],none,none,[],false,none⟩:=rfl
theorem ZLu:tt 33=some ⟨3,40,true,[.d (.int .i64 0),.d (.int .i64 0),.nil],[(0,3),(1,3),(2,26)],none,none,[],false,none⟩:=rfl
theorem ZLv:tt 34=some ⟨4,48,true,[.d (.int .i64 0),.d (.int .i64 0),.nil,.d (.int .i64 0)],[(0,33),(3,3)],none,none,[],false,none⟩:=rfl
theorem ZLw:tt 35=some ⟨4,48,true,[.d (.int .i64 0),.d (.int .i64 0),.nil,.d (.int .i64 0)],[(0,33),(3,3)],none,none,[],false,none⟩:=rfl
theorem ZLx:tt 36=some ⟨1,24,false,[.nil],[],some 211,none,[],false,none⟩:=rfl
theorem ZLy:tt 37=some ⟨1,24,true,[.nil],[(0,36)],none,none,[],false,none⟩:=rfl
theorem ZLz:tt 38=some ⟨1,24,true,[.nil],[(0,36)],none,none,[],false,none⟩:=rfl
theorem ZLA:tt 39=some ⟨4,32,true,[.d (.int .i64 0),.d (.int .i64 0),.d (.int .i64 0),.d (.int .i64 0)],[(0,3),(1,3),(2,3),(3,3)],none,none,[true,true,true,true],false,none⟩:=rfl
theorem ZLB:tt 40=some ⟨4,32,true,[.d (.int .i64 0),.d (.int .i64 0),.d (.int .i64 0),.d (.int .i64 0)],[(0,3),(1,3),(2,3),(3,3)],none,none,[true,true,true,true],false,none⟩:=rfl
theorem ZLC:tt 41=some ⟨2,16,true,[.d (.int .i64 0),.d (.int .i64 0)],[(0,2),(1,2)],none,none,[true,true],false,none⟩:=rfl
theorem ZLD:tt 42=some ⟨2,16,true,[.d (.int .i64 0),.d (.int .i64 0)],[(0,2),(1,2)],none,none,[true,true],false,none⟩:=rfl
theorem ZLE:tt 43=some ⟨5,40,true,[.d (.int .i64 0),.d (.int .i64 0),.d (.int .i64 0),.d (.int .i64 0),.d (.int .i64 0)],[(0,42),(2,3),(3,2),(4,2)],none,none,[true,true,true,true,true],false,none⟩:=rfl
theorem ZLF:tt 44=some ⟨5,40,true,[.d (.int .i64 0),.d (.int .i64 0),.d (.int .i64 0),.d (.int .i64 0),.d (.int .i64 0)],[(0,42),(2,3),(3,2),(4,2)],none,none,[true,true,true,true,true],false,none⟩:=rfl
theorem ZLG:tt 45=some ⟨1,24,false,[.nil],[],some 21,none,[],false,none⟩:=rfl
theorem ZLH:tt 46=some ⟨7,72,true,[.d (.int .i64 0),.d (.int .i64 0),.d (.int .i64 0),.d (.int .i64 0),.d (.int .i64 0),.d (.int .i64 0),.nil],[(0,3),(1,44),(6,45)],none,none,[],false,none⟩:=rfl
theorem ZLI:tt 47=some ⟨7,72,true,[.d (.int .i64 0),.d (.int .i64 0),.d (.int .i64 0),.d (.int .i64 0),.d (.int .i64 0),.d (.int .i64 0),.nil],[(0,3),(1,44),(6,45)],none,none,[],false,none⟩:=rfl
theorem ZLJ:tt 48=some ⟨14,128,true,[.d (.int .i64 0),.d (.int .i64 0),.d (.int .i64 0),.d (.int .i64 0),.d (.int .i64 0),.d (.int .i64 0),.d (.int .i64 0),.d (.int .i64 0),.d (.int .i64 0),.d (.int .i64 0),.d (.int .i64 0),.nil,.d (.int .i64 0),.d (.int .i64 0)],[(0,3),(1,40),(5,47),(12,3),(13,3)],none,none,[],false,none⟩:=rfl
theorem ZLK:tt 49=some ⟨14,128,true,[.d (.int .i64 0),.d (.int .i64 0),.d (.int .i64 0),.d (.int .i64 0),.d (.int .i64 0),.d (.int .i64 0),.d (.int .i64 0),.d (.int .i64 0),.d (.int .i64 0),.d (.int .i64 0),.d (.int .i64 0),.nil,.d (.int .i64 0),.d (.int .i64 0)],[(0,3),(1,40),(5,47),(12,3),(13,3)],none,none,[],false,none⟩:=rfl
theorem ZLL:tt 50=some ⟨31,320,true,[.d (.int .u64 0),.d (.str ⟨#[]⟩),.d (.int .i64 0),.d (.int .i64 0),.d (.int .i64 0),.d (.int .i64 0),.d (.int .i64 0),.nil,.d (.int .i64 0),.d (.int .i64 0),.nil,.d (.int .i64 0),.d (.int .i64 0),.d (.int .i64 0),.nil,.d (.bool false),.d (.int .i64 0),.d (.int .i64 0),.d (.int .i64 0),.d (.int .i64 0),.d (.int .i64 0),.d (.int .i64 0),.d (.int .i64 0),.d (.int .i64 0),.d (.int .i64 0),.d (.int .i64 0),.d (.int .i64 0),.d (.int .i64 0),.nil,.d (.int .i64 0),.d (.int .i64 0)],[(0,31),(8,35),(12,3),(13,3),(14,38),(15,4),(16,2),(17,49)],none,none,[],false,none⟩:=rfl
theorem ZLM:tt 51=some ⟨31,320,true,[.d (.int .u64 0),.d (.str ⟨#[]⟩),.d (.int .i64 0),.d (.int .i64 0),.d (.int .i64 0),.d (.int .i64 0),.d (.int .i64 0),.nil,.d (.int .i64 0),.d (.int .i64 0),.nil,.d (.int .i64 0),.d (.int .i64 0),.d (.int .i64 0),.nil,.d (.bool false),.d (.int .i64 0),.d (.int .i64 0),.d (.int .i64 0),.d (.int .i64 0),.d (.int .i64 0),.d (.int .i64 0),.d (.int .i64 0),.d (.int .i64 0),.d (.int .i64 0),.d (.int .i64 0),.d (.int .i64 0),.d (.int .i64 0),.nil,.d (.int .i64 0),.d (.int .i64 0)],[(0,31),(8,35),(12,3),(13,3),(14,38),(15,4),(16,2),(17,49)],none,none,[],false,none⟩:=rfl
theorem ZLN:tt 53=some ⟨1,8,false,[.d (.raw .nilFunc)],[],none,none,[],false,none⟩:=rfl
theorem ZLO:tt 54=some ⟨5,56,true,[.d (.int .i64 0),.d (.int .i64 0),.d (.int .i64 0),.d (.int .i64 0),.nil],[(0,3),(1,3),(2,2),(3,2),(4,45)],none,none,[],false,none⟩:=rfl
theorem ZLP:tt 55=some ⟨5,56,true,[.d (.int .i64 0),.d (.int .i64 0),.d (.int .i64 0),.d (.int .i64 0),.nil],[(0,3),(1,3),(2,2),(3,2),(4,45)],none,none,[],false,none⟩:=rfl
theorem ZLQ:tt 56=some ⟨19,184,true,[.d (.int .i64 0),.d (.int .i64 0),.d (.int .i64 0),.d (.int .i64 0),.d (.int .i64 0),.d (.int .i64 0),.d (.int .i64 0),.d (.int .i64 0),.d (.int .i64 0),.d (.int .i64 0),.nil,.d (.int .i64 0),.d (.int .i64 0),.d (.int .i64 0),.d (.int .i64 0),.nil,.d (.int .i64 0),.d (.int .i64 0),.d (.int .i64 0)],[(0,3),(1,3),(2,3),(3,3),(4,47),(11,55),(16,2),(17,2),(18,2)],none,none,[],false,none⟩:=rfl
theorem ZLR:tt 57=some ⟨19,184,true,[.d (.int .i64 0),.d (.int .i64 0),.d (.int .i64 0),.d (.int .i64 0),.d (.int .i64 0),.d (.int .i64 0),.d (.int .i64 0),.d (.int .i64 0),.d (.int .i64 0),.d (.int .i64 0),.nil,.d (.int .i64 0),.d (.int .i64 0),.d (.int .i64 0),.d (.int .i64 0),.nil,.d (.int .i64 0),.d (.int .i64 0),.d (.int .i64 0)],[(0,3),(1,3),(2,3),(3,3),(4,47),(11,55),(16,2),(17,2),(18,2)],none,none,[],false,none⟩:=rfl
theorem ZLS:tt 58=some ⟨1,8,false,[.d (.int .i64 0)],[],none,some .i64,[],false,none⟩:=rfl
theorem ZLT:tt 60=some ⟨1,8,false,[.d (.raw .nilFunc)],[],none,none,[],false,none⟩:=rfl
theorem ZLU:tt 61=some ⟨1,8,false,[.d (.raw .nilFunc)],[],none,none,[],false,none⟩:=rfl
theorem ZLV:tt 62=some ⟨2,32,true,[.d (.int .i64 0),.nil],[(0,3),(1,45)],none,none,[],false,none⟩:=rfl
theorem ZLW:tt 63=some ⟨2,32,true,[.d (.int .i64 0),.nil],[(0,3),(1,45)],none,none,[],false,none⟩:=rfl
theorem ZLX:tt 65=some ⟨1,8,false,[.d (.raw .nilFunc)],[],none,none,[],false,none⟩:=rfl
theorem ZLY:tt 66=some ⟨1,8,false,[.d (.raw .nilFunc)],[],none,none,[],false,none⟩:=rfl
theorem ZLZ:tt 67=some ⟨1,8,false,[.d (.raw .nilFunc)],[],none,none,[],false,none⟩:=rfl
theorem ZL0:tt 69=some ⟨1,8,false,[.d (.raw .nilFunc)],[],none,none,[],false,none⟩:=rfl
theorem ZL1:tt 71=some ⟨1,8,false,[.d (.raw .nilFunc)],[],none,none,[],false,none⟩:=rfl
theorem ZL2:tt 73=some ⟨1,8,false,[.d (.raw .nilFunc)],[],none,none,[],false,none⟩:=rfl
theorem ZL3:tt 74=some ⟨1,8,false,[.d (.raw .nilFunc)],[],none,none,[],false,none⟩:=rfl
theorem ZL4:tt 75=some ⟨1,8,false,[.d (.raw .nilFunc)],[],none,none,[],false,none⟩:=rfl
theorem ZL5:tt 76=some ⟨1,8,false,[.d (.raw .nilFunc)],[],none,none,[],false,none⟩:=rfl
theorem ZL6:tt 77=some ⟨1,8,false,[.d (.raw .nilFunc)],[],none,none,[],false,none⟩:=rfl
theorem ZL7:tt 78=some ⟨1,24,false,[.nil],[],some 57,none,[],false,none⟩:=rfl
theorem ZL8:tt 79=some ⟨1,8,false,[.d (.raw .nilFunc)],[],none,none,[],false,none⟩:=rfl
theorem ZL9:tt 80=some ⟨1,8,false,[.d (.raw .nilFunc)],[],none,none,[],false,none⟩:=rfl
theorem ZMa:tt 82=some ⟨1,8,false,[.d (.raw .nilFunc)],[],none,none,[],false,none⟩:=rfl
theorem ZMb:tt 83=some ⟨1,8,false,[.d (.raw .nilFunc)],[],none,none,[],false,none⟩:=rfl
theorem ZMc:tt 84=some ⟨1,8,false,[.d (.raw .nilFunc)],[],none,none,[],false,none⟩:=rfl
theorem ZMd:tt 85=some ⟨1,8,false,[.d (.raw .nilFunc)],[],none,none,[],false,none⟩:=rfl
theorem ZMe:tt 87=some ⟨1,8,false,[.d (.raw .nilFunc)],[],none,none,[],false,none⟩:=rfl
theorem ZMf:tt 88=some ⟨3,40,true,[.d (.int .i64 0),.d (.int .i64 0),.nil],[(0,3),(1,3),(2,26)],none,none,[],false,none⟩:=rfl
theorem ZMg:tt 89=some ⟨3,40,true,[.d (.int .i64 0),.d (.int .i64 0),.nil],[(0,3),(1,3),(2,26)],none,none,[],false,none⟩:=rfl
theorem ZMh:tt 90=some ⟨16,192,true,[.d (.int .i64 0),.d (.int .i64 0),.nil,.d (.int .i64 0),.d (.int .i64 0),.nil,.d (.int .i64 0),.d (.int .i64 0),.nil,.d (.int .i64 0),.d (.int .i64 0),.d (.int .i64 0),.d (.int .i64 0),.d (.int .i64 0),.d (.int .i64 0),.nil],[(0,33),(3,33),(6,89),(9,47)],none,none,[],false,none⟩:=rfl
theorem ZMi:tt 91=some ⟨16,192,true,[.d (.int .i64 0),.d (.int .i64 0),.nil,.d (.int .i64 0),.d (.int .i64 0),.nil,.d (.int .i64 0),.d (.int .i64 0),.nil,.d (.int .i64 0),.d (.int .i64 0),.d (.int .i64 0),.d (.int .i64 0),.d (.int .i64 0),.d (.int .i64 0),.nil],[(0,33),(3,33),(6,89),(9,47)],none,none,[],false,none⟩:=rfl
theorem ZMj:tt 93=some ⟨1,8,false,[.d (.raw .nilFunc)],[],none,none,[],false,none⟩:=rfl
theorem ZMk:tt 95=some ⟨1,8,false,[.d (.raw .nilFunc)],[],none,none,[],false,none⟩:=rfl
theorem ZMl:tt 96=some ⟨1,8,false,[.d (.raw .nilFunc)],[],none,none,[],false,none⟩:=rfl
theorem ZMm:tt 97=some ⟨1,24,false,[.nil],[],some 63,none,[],false,none⟩:=rfl
theorem ZMn:tt 98=some ⟨1,8,false,[.d (.raw .nilFunc)],[],none,none,[],false,none⟩:=rfl
theorem ZMo:tt 99=some ⟨1,8,false,[.d (.raw .nilFunc)],[],none,none,[],false,none⟩:=rfl
theorem ZG8:tt 100=some ⟨3,24,true,[.d (.int .i64 0),.d (.int .i64 0),.d (.int .i64 0)],[(0,3),(1,3),(2,3)],none,none,[true,true,true],false,none⟩:=rfl
theorem ZG9:tt 101=some ⟨3,24,true,[.d (.int .i64 0),.d (.int .i64 0),.d (.int .i64 0)],[(0,3),(1,3),(2,3)],none,none,[true,true,true],false,none⟩:=rfl
theorem ZHa:tt 103=some ⟨1,8,false,[.d (.raw .nilFunc)],[],none,none,[],false,none⟩:=rfl
theorem ZHb:tt 105=some ⟨1,8,false,[.d (.raw .nilFunc)],[],none,none,[],false,none⟩:=rfl
theorem ZHc:tt 107=some ⟨1,8,false,[.d (.raw .nilFunc)],[],none,none,[],false,none⟩:=rfl
theorem ZHd:tt 109=some ⟨1,8,false,[.d (.raw .nilFunc)],[],none,none,[],false,none⟩:=rfl
theorem ZHe:tt 110=some ⟨4,32,true,[.d (.int .i64 0),.d (.int .i64 0),.d (.int .i64 0),.d (.int .i64 0)],[(0,3),(1,3),(2,3),(3,3)],none,none,[true,true,true,true],false,none⟩:=rfl
theorem ZHf:tt 111=some ⟨4,32,true,[.d (.int .i64 0),.d (.int .i64 0),.d (.int .i64 0),.d (.int .i64 0)],[(0,3),(1,3),(2,3),(3,3)],none,none,[true,true,true,true],false,none⟩:=rfl
theorem ZHg:tt 112=some ⟨9,104,true,[.d (.int .i64 0),.nil,.d (.int .i64 0),.d (.int .i64 0),.nil,.d (.int .i64 0),.d (.int .i64 0),.d (.int .i64 0),.d (.int .i64 0)],[(0,63),(2,89),(5,111)],none,none,[],false,none⟩:=rfl
theorem ZHh:tt 113=some ⟨9,104,true,[.d (.int .i64 0),.nil,.d (.int .i64 0),.d (.int .i64 0),.nil,.d (.int .i64 0),.d (.int .i64 0),.d (.int .i64 0),.d (.int .i64 0)],[(0,63),(2,89),(5,111)],none,none,[],false,none⟩:=rfl
theorem ZHi:tt 114=some ⟨1,24,false,[.nil],[],some 113,none,[],false,none⟩:=rfl
theorem ZHj:tt 115=some ⟨1,8,false,[.d (.raw .nilFunc)],[],none,none,[],false,none⟩:=rfl
theorem ZHk:tt 117=some ⟨1,8,false,[.d (.raw .nilFunc)],[],none,none,[],false,none⟩:=rfl
theorem ZHl:tt 119=some ⟨1,8,false,[.d (.raw .nilFunc)],[],none,none,[],false,none⟩:=rfl
theorem ZHm:tt 120=some ⟨1,8,false,[.d (.raw .nilFunc)],[],none,none,[],false,none⟩:=rfl
theorem ZHn:tt 121=some ⟨1,24,false,[.nil],[],some 2,none,[],false,none⟩:=rfl
theorem ZHo:tt 122=some ⟨1,8,false,[.d (.raw .nilFunc)],[],none,none,[],false,none⟩:=rfl
theorem ZHp:tt 123=some ⟨1,8,false,[.d (.raw .nilFunc)],[],none,none,[],false,none⟩:=rfl
theorem ZHq:tt 124=some ⟨1,24,true,[.nil],[(0,22)],none,none,[],false,none⟩:=rfl
theorem ZHr:tt 125=some ⟨1,24,true,[.nil],[(0,22)],none,none,[],false,none⟩:=rfl
theorem ZHs:tt 126=some ⟨1,24,false,[.nil],[],some 26,none,[],false,none⟩:=rfl
theorem ZHt:tt 127=some ⟨1,8,false,[.d (.raw .nilFunc)],[],none,none,[],false,none⟩:=rfl
theorem ZHu:tt 128=some ⟨2,16,true,[.d (.int .i64 0),.d (.int .i64 0)],[(0,3),(1,3)],none,none,[true,true],false,none⟩:=rfl
theorem ZHv:tt 129=some ⟨2,16,true,[.d (.int .i64 0),.d (.int .i64 0)],[(0,3),(1,3)],none,none,[true,true],false,none⟩:=rfl
theorem ZHw:tt 130=some ⟨1,24,false,[.nil],[],some 129,none,[],false,none⟩:=rfl
theorem ZHx:tt 131=some ⟨1,24,true,[.nil],[(0,130)],none,none,[],false,none⟩:=rfl
theorem ZHy:tt 132=some ⟨1,24,true,[.nil],[(0,130)],none,none,[],false,none⟩:=rfl
theorem ZHz:tt 133=some ⟨4,80,true,[.d (.int .i64 0),.nil,.nil,.nil],[(0,3),(1,132),(2,126),(3,132)],none,none,[],false,none⟩:=rfl
theorem ZHA:tt 134=some ⟨4,80,true,[.d (.int .i64 0),.nil,.nil,.nil],[(0,3),(1,132),(2,126),(3,132)],none,none,[],false,none⟩:=rfl
theorem ZHB:tt 136=some ⟨1,8,false,[.d (.raw .nilFunc)],[],none,none,[],false,none⟩:=rfl
theorem ZHC:tt 137=some ⟨1,8,false,[.d (.raw .nilFunc)],[],none,none,[],false,none⟩:=rfl
theorem ZHD:tt 138=some ⟨1,8,false,[.d (.raw .nilFunc)],[],none,none,[],false,none⟩:=rfl
theorem ZHE:tt 140=some ⟨1,8,false,[.d (.raw .nilFunc)],[],none,none,[],false,none⟩:=rfl
theorem ZHF:tt 141=some ⟨1,8,false,[.d (.raw .nilFunc)],[],none,none,[],false,none⟩:=rfl
theorem ZHG:tt 142=some ⟨1,8,false,[.d (.raw .nilFunc)],[],none,none,[],false,none⟩:=rfl
theorem ZHH:tt 143=some ⟨2,32,true,[.nil,.d (.raw .nilFunc)],[(0,26),(1,142)],none,none,[],false,none⟩:=rfl
theorem ZHI:tt 144=some ⟨2,32,true,[.nil,.d (.raw .nilFunc)],[(0,26),(1,142)],none,none,[],false,none⟩:=rfl
theorem ZHJ:tt 147=some ⟨1,8,false,[.d (.raw .nilFunc)],[],none,none,[],false,none⟩:=rfl
theorem ZHK:tt 148=some ⟨1,8,false,[.d (.raw .nilFunc)],[],none,none,[],false,none⟩:=rfl
theorem ZHL:tt 149=some ⟨1,8,false,[.d (.raw .nilFunc)],[],none,none,[],false,none⟩:=rfl
theorem ZHM:tt 150=some ⟨1,8,false,[.d (.raw .nilFunc)],[],none,none,[],false,none⟩:=rfl
theorem ZHN:tt 151=some ⟨1,8,false,[.d (.raw .nilFunc)],[],none,none,[],false,none⟩:=rfl
theorem ZHO:tt 152=some ⟨1,8,false,[.d (.raw .nilFunc)],[],none,none,[],false,none⟩:=rfl
theorem ZHP:tt 153=some ⟨1,8,false,[.d (.raw .nilFunc)],[],none,none,[],false,none⟩:=rfl
theorem ZHQ:tt 154=some ⟨1,8,false,[.d (.raw .nilFunc)],[],none,none,[],false,none⟩:=rfl
theorem ZHR:tt 155=some ⟨1,8,false,[.d (.raw .nilFunc)],[],none,none,[],false,none⟩:=rfl
theorem ZHS:tt 156=some ⟨1,8,false,[.d (.raw .nilFunc)],[],none,none,[],false,none⟩:=rfl
theorem ZHT:tt 158=some ⟨1,8,false,[.d (.raw .nilFunc)],[],none,none,[],false,none⟩:=rfl
theorem ZHU:tt 159=some ⟨1,8,false,[.d (.raw .nilFunc)],[],none,none,[],false,none⟩:=rfl
theorem ZHV:tt 161=some ⟨1,8,false,[.d (.raw .nilFunc)],[],none,none,[],false,none⟩:=rfl
theorem ZHW:tt 162=some ⟨1,8,false,[.d (.raw .nilFunc)],[],none,none,[],false,none⟩:=rfl
theorem ZHX:tt 163=some ⟨1,8,false,[.d (.raw .nilFunc)],[],none,none,[],false,none⟩:=rfl
theorem ZHY:tt 164=some ⟨1,8,false,[.d (.raw .nilFunc)],[],none,none,[],false,none⟩:=rfl
theorem ZHZ:tt 165=some ⟨1,8,false,[.d (.raw .nilFunc)],[],none,none,[],false,none⟩:=rfl
theorem ZH0:tt 166=some ⟨1,8,false,[.d (.raw .nilFunc)],[],none,none,[],false,none⟩:=rfl
theorem ZH1:tt 167=some ⟨1,8,false,[.d (.raw .nilFunc)],[],none,none,[],false,none⟩:=rfl
theorem ZH2:tt 168=some ⟨2,16,true,[.d (.int .i64 0),.d (.bool false)],[(0,3),(1,4)],none,none,[true,false],false,none⟩:=rfl
theorem ZH3:tt 169=some ⟨2,16,true,[.d (.int .i64 0),.d (.bool false)],[(0,3),(1,4)],none,none,[true,false],false,none⟩:=rfl
theorem ZH4:tt 170=some ⟨1,8,false,[.d (.raw .nilFunc)],[],none,none,[],false,none⟩:=rfl
theorem ZH5:tt 171=some ⟨1,8,false,[.d (.raw .nilFunc)],[],none,none,[],false,none⟩:=rfl
theorem ZH6:tt 172=some ⟨1,8,false,[.d (.int .u64 0)],[],none,some .u64,[],false,none⟩:=rfl
theorem ZH7:tt 173=some ⟨1,8,false,[.d (.raw .nilFunc)],[],none,none,[],false,none⟩:=rfl
theorem ZH8:tt 174=some ⟨1,8,false,[.d (.raw .nilFunc)],[],none,none,[],false,none⟩:=rfl
theorem ZH9:tt 176=some ⟨1,8,false,[.d (.raw .nilFunc)],[],none,none,[],false,none⟩:=rfl
theorem ZIa:tt 177=some ⟨1,8,false,[.d (.raw .nilFunc)],[],none,none,[],false,none⟩:=rfl
theorem ZIb:tt 178=some ⟨1,8,false,[.d (.raw .nilFunc)],[],none,none,[],false,none⟩:=rfl
theorem ZIc:tt 179=some ⟨1,8,false,[.d (.raw .nilFunc)],[],none,none,[],false,none⟩:=rfl
theorem ZId:tt 180=some ⟨1,8,false,[.d (.raw .nilFunc)],[],none,none,[],false,none⟩:=rfl
theorem ZIe:tt 181=some ⟨1,8,false,[.d (.raw .nilFunc)],[],none,none,[],false,none⟩:=rfl
theorem ZIf:tt 182=some ⟨1,8,false,[.d (.raw .nilFunc)],[],none,none,[],false,none⟩:=rfl
theorem ZIg:tt 183=some ⟨1,8,false,[.d (.raw .nilFunc)],[],none,none,[],false,none⟩:=rfl
theorem ZIh:tt 184=some ⟨1,8,false,[.d (.raw .nilFunc)],[],none,none,[],false,none⟩:=rfl
theorem ZIi:tt 185=some ⟨1,8,false,[.d (.raw .nilFunc)],[],none,none,[],false,none⟩:=rfl
theorem ZIj:tt 187=some ⟨1,8,false,[.d (.raw .nilFunc)],[],none,none,[],false,none⟩:=rfl
theorem ZIk:tt 188=some ⟨1,8,false,[.d (.raw .nilFunc)],[],none,none,[],false,none⟩:=rfl
theorem ZIl:tt 189=some ⟨1,8,false,[.d (.raw .nilFunc)],[],none,none,[],false,none⟩:=rfl
theorem ZIm:tt 190=some ⟨1,8,false,[.d (.raw .nilFunc)],[],none,none,[],false,none⟩:=rfl
theorem ZIn:tt 192=some ⟨1,8,false,[.d (.raw .nilFunc)],[],none,none,[],false,none⟩:=rfl
theorem ZIo:tt 193=some ⟨1,8,false,[.d (.raw .nilFunc)],[],none,none,[],false,none⟩:=rfl
theorem ZIp:tt 194=some ⟨1,8,false,[.d (.raw .nilFunc)],[],none,none,[],false,none⟩:=rfl
theorem ZIq:tt 195=some ⟨1,8,false,[.d (.raw .nilFunc)],[],none,none,[],false,none⟩:=rfl
theorem ZIr:tt 196=some ⟨1,8,false,[.d (.raw .nilFunc)],[],none,none,[],false,none⟩:=rfl
theorem ZIs:tt 197=some ⟨1,8,false,[.d (.raw .nilFunc)],[],none,none,[],false,none⟩:=rfl
theorem ZIt:tt 198=some ⟨31,320,true,[.d (.int .u64 0),.d (.str ⟨#[]⟩),.d (.int .i64 0),.d (.int .i64 0),.d (.int .i64 0),.d (.int .i64 0),.d (.int .i64 0),.nil,.d (.int .i64 0),.d (.int .i64 0),.nil,.d (.int .i64 0),.d (.int .i64 0),.d (.int .i64 0),.nil,.d (.bool false),.d (.int .i64 0),.d (.int .i64 0),.d (.int .i64 0),.d (.int .i64 0),.d (.int .i64 0),.d (.int .i64 0),.d (.int .i64 0),.d (.int .i64 0),.d (.int .i64 0),.d (.int .i64 0),.d (.int .i64 0),.d (.int .i64 0),.nil,.d (.int .i64 0),.d (.int .i64 0)],[(0,51)],none,none,[],false,none⟩:=rfl
theorem ZIu:tt 199=some ⟨31,320,true,[.d (.int .u64 0),.d (.str ⟨#[]⟩),.d (.int .i64 0),.d (.int .i64 0),.d (.int .i64 0),.d (.int .i64 0),.d (.int .i64 0),.nil,.d (.int .i64 0),.d (.int .i64 0),.nil,.d (.int .i64 0),.d (.int .i64 0),.d (.int .i64 0),.nil,.d (.bool false),.d (.int .i64 0),.d (.int .i64 0),.d (.int .i64 0),.d (.int .i64 0),.d (.int .i64 0),.d (.int .i64 0),.d (.int .i64 0),.d (.int .i64 0),.d (.int .i64 0),.d (.int .i64 0),.d (.int .i64 0),.d (.int .i64 0),.nil,.d (.int .i64 0),.d (.int .i64 0)],[(0,51)],none,none,[],false,none⟩:=rfl
theorem ZIv:tt 200=some ⟨1,8,false,[.d (.raw .nilFunc)],[],none,none,[],false,none⟩:=rfl
theorem ZIw:tt 201=some ⟨1,8,false,[.d (.raw .nilFunc)],[],none,none,[],false,none⟩:=rfl
theorem ZIx:tt 202=some ⟨1,8,false,[.d (.raw .nilFunc)],[],none,none,[],false,none⟩:=rfl
theorem ZIy:tt 203=some ⟨1,8,false,[.d (.raw .nilFunc)],[],none,none,[],false,none⟩:=rfl
theorem ZIz:tt 204=some ⟨1,8,false,[.d (.raw .nilFunc)],[],none,none,[],false,none⟩:=rfl
theorem ZIA:tt 206=some ⟨1,8,false,[.d (.raw .nilFunc)],[],none,none,[],false,none⟩:=rfl
theorem ZIB:tt 207=some ⟨1,8,false,[.d (.raw .nilFunc)],[],none,none,[],false,none⟩:=rfl
theorem ZIC:tt 209=some ⟨1,8,false,[.d (.raw .nilFunc)],[],none,none,[],false,none⟩:=rfl
theorem ZID:tt 210=some ⟨3,24,true,[.d (.int .i64 0),.d (.int .i64 0),.d (.int .i64 0)],[(0,2),(1,42)],none,none,[true,true,true],false,none⟩:=rfl
theorem ZIE:tt 211=some ⟨3,24,true,[.d (.int .i64 0),.d (.int .i64 0),.d (.int .i64 0)],[(0,2),(1,42)],none,none,[true,true,true],false,none⟩:=rfl
theorem ZIF:tt 212=some ⟨1,8,false,[.d (.raw .nilFunc)],[],none,none,[],false,none⟩:=rfl
theorem ZIG:tt 214=some ⟨1,8,false,[.d (.raw .nilFunc)],[],none,none,[],false,none⟩:=rfl
theorem ZIH:tt 215=some ⟨1,8,false,[.d (.raw .nilFunc)],[],none,none,[],false,none⟩:=rfl
theorem ZII:tt 216=some ⟨1,8,false,[.d (.raw .nilFunc)],[],none,none,[],false,none⟩:=rfl
theorem ZIJ:tt 217=some ⟨1,8,false,[.d (.raw .nilFunc)],[],none,none,[],false,none⟩:=rfl
theorem ZIK:tt 218=some ⟨1,8,false,[.d (.raw .nilFunc)],[],none,none,[],false,none⟩:=rfl
theorem ZIL:tt 219=some ⟨1,8,false,[.d (.raw .nilFunc)],[],none,none,[],false,none⟩:=rfl
theorem ZIM:tt 220=some ⟨1,8,false,[.d (.raw .nilFunc)],[],none,none,[],false,none⟩:=rfl
theorem ZIN:tt 221=some ⟨1,8,false,[.d (.raw .nilFunc)],[],none,none,[],false,none⟩:=rfl
theorem ZIO:tt 222=some ⟨1,8,false,[.d (.raw .nilFunc)],[],none,none,[],false,none⟩:=rfl
theorem ZIP:tt 223=some ⟨1,8,false,[.d (.raw .nilFunc)],[],none,none,[],false,none⟩:=rfl
theorem ZIQ:tt 224=some ⟨1,8,false,[.d (.raw .nilFunc)],[],none,none,[],false,none⟩:=rfl
theorem ZIR:tt 225=some ⟨1,8,false,[.d (.raw .nilFunc)],[],none,none,[],false,none⟩:=rfl
theorem ZIS:tt 227=some ⟨1,8,false,[.d (.raw .nilFunc)],[],none,none,[],false,none⟩:=rfl
theorem ZIT:tt 229=some ⟨1,8,false,[.d (.raw .nilFunc)],[],none,none,[],false,none⟩:=rfl
theorem ZIU:tt 230=some ⟨1,8,false,[.d (.raw .nilFunc)],[],none,none,[],false,none⟩:=rfl
theorem ZIV:tt 231=some ⟨1,8,false,[.d (.raw .nilFunc)],[],none,none,[],false,none⟩:=rfl
theorem ZIW:tt 232=some ⟨3,24,true,[.d (.int .i64 0),.d (.int .i64 0),.d (.bool false)],[(0,3),(1,169)],none,none,[true,true,false],false,none⟩:=rfl
theorem ZIX:tt 233=some ⟨1,24,false,[.nil],[],some 232,none,[],false,none⟩:=rfl
theorem ZIY:tt 234=some ⟨1,8,false,[.d (.raw .nilFunc)],[],none,none,[],false,none⟩:=rfl
theorem ZIZ:tt 235=some ⟨1,8,false,[.d (.raw .nilFunc)],[],none,none,[],false,none⟩:=rfl
theorem ZI0:tt 236=some ⟨1,8,false,[.d (.raw .nilFunc)],[],none,none,[],false,none⟩:=rfl
theorem ZI1:tt 237=some ⟨1,8,false,[.d (.raw .nilFunc)],[],none,none,[],false,none⟩:=rfl
theorem ZI2:tt 238=some ⟨1,8,false,[.d (.raw .nilFunc)],[],none,none,[],false,none⟩:=rfl
theorem ZI3:tt 239=some ⟨1,8,false,[.d (.raw .nilFunc)],[],none,none,[],false,none⟩:=rfl
theorem ZI4:tt 240=some ⟨1,8,false,[.d (.raw .nilFunc)],[],none,none,[],false,none⟩:=rfl
theorem ZI5:tt 241=some ⟨1,8,false,[.d (.raw .nilFunc)],[],none,none,[],false,none⟩:=rfl
theorem ZI6:tt 242=some ⟨1,8,false,[.d (.raw .nilFunc)],[],none,none,[],false,none⟩:=rfl
theorem ZI7:tt 243=some ⟨1,8,false,[.d (.raw .nilFunc)],[],none,none,[],false,none⟩:=rfl
theorem ZI8:tt 244=some ⟨1,8,false,[.d (.raw .nilFunc)],[],none,none,[],false,none⟩:=rfl
theorem ZI9:tt 245=some ⟨1,8,false,[.d (.raw .nilFunc)],[],none,none,[],false,none⟩:=rfl
theorem ZJa:tt 246=some ⟨1,8,false,[.d (.raw .nilFunc)],[],none,none,[],false,none⟩:=rfl
theorem ZJb:tt 247=some ⟨1,8,false,[.d (.raw .nilFunc)],[],none,none,[],false,none⟩:=rfl
theorem ZJc:tt 248=some ⟨1,8,false,[.d (.raw .nilFunc)],[],none,none,[],false,none⟩:=rfl
theorem ZJd:tt 249=some ⟨1,8,false,[.d (.raw .nilFunc)],[],none,none,[],false,none⟩:=rfl
theorem ZJe:tt 250=some ⟨1,8,false,[.d (.raw .nilFunc)],[],none,none,[],false,none⟩:=rfl
theorem ZJf:tt 251=some ⟨1,8,false,[.d (.raw .nilFunc)],[],none,none,[],false,none⟩:=rfl
theorem ZJg:tt 252=some ⟨1,8,false,[.d (.raw .nilFunc)],[],none,none,[],false,none⟩:=rfl
theorem ZJh:tt 253=some ⟨1,8,false,[.d (.raw .nilFunc)],[],none,none,[],false,none⟩:=rfl
theorem ZJi:tt 254=some ⟨1,8,false,[.d (.raw .nilFunc)],[],none,none,[],false,none⟩:=rfl
theorem ZJj:tt 255=some ⟨1,8,false,[.d (.raw .nilFunc)],[],none,none,[],false,none⟩:=rfl
theorem ZJk:tt 257=some ⟨1,8,false,[.d (.raw .nilFunc)],[],none,none,[],false,none⟩:=rfl
theorem ZJl:tt 258=some ⟨1,8,false,[.d (.raw .nilFunc)],[],none,none,[],false,none⟩:=rfl
theorem ZJm:tt 259=some ⟨1,8,false,[.d (.raw .nilFunc)],[],none,none,[],false,none⟩:=rfl
theorem ZJn:tt 260=some ⟨1,8,false,[.d (.raw .nilFunc)],[],none,none,[],false,none⟩:=rfl
theorem ZJo:tt 261=some ⟨1,8,false,[.d (.raw .nilFunc)],[],none,none,[],false,none⟩:=rfl
theorem ZJp:tt 262=some ⟨1,8,false,[.d (.raw .nilFunc)],[],none,none,[],false,none⟩:=rfl
theorem ZJq:tt 263=some ⟨1,8,false,[.d (.raw .nilFunc)],[],none,none,[],false,none⟩:=rfl
theorem ZJr:tt 264=some ⟨1,8,false,[.d (.raw .nilFunc)],[],none,none,[],false,none⟩:=rfl
theorem ZJs:tt 265=some ⟨1,8,false,[.d (.raw .nilFunc)],[],none,none,[],false,none⟩:=rfl
theorem ZJt:tt 266=some ⟨1,8,false,[.d (.raw .nilFunc)],[],none,none,[],false,none⟩:=rfl
theorem ZJu:tt 267=some ⟨1,24,false,[.nil],[],some 45,none,[],false,none⟩:=rfl
theorem ZJv:tt 268=some ⟨1,8,false,[.d (.raw .nilFunc)],[],none,none,[],false,none⟩:=rfl
theorem ZJw:tt 269=some ⟨1,8,false,[.d (.raw .nilFunc)],[],none,none,[],false,none⟩:=rfl
theorem ZJx:tt 270=some ⟨1,8,false,[.d (.raw .nilFunc)],[],none,none,[],false,none⟩:=rfl
theorem ZJy:tt 272=some ⟨1,8,false,[.d (.raw .nilFunc)],[],none,none,[],false,none⟩:=rfl
theorem ZJz:tt 273=some ⟨1,8,false,[.d (.raw .nilFunc)],[],none,none,[],false,none⟩:=rfl
theorem ZJA:tt 274=some ⟨1,8,false,[.d (.raw .nilFunc)],[],none,none,[],false,none⟩:=rfl
theorem ZJB:tt 276=some ⟨1,8,false,[.d (.raw .nilFunc)],[],none,none,[],false,none⟩:=rfl
theorem ZJC:tt 277=some ⟨1,8,false,[.d (.raw .nilFunc)],[],none,none,[],false,none⟩:=rfl
theorem ZJD:tt 278=some ⟨1,8,false,[.d (.raw .nilFunc)],[],none,none,[],false,none⟩:=rfl
theorem ZJE:tt 279=some ⟨1,8,false,[.d (.raw .nilFunc)],[],none,none,[],false,none⟩:=rfl
theorem ZJF:tt 280=some ⟨1,8,false,[.d (.raw .nilFunc)],[],none,none,[],false,none⟩:=rfl
theorem ZJG:tt 281=some ⟨1,8,false,[.d (.raw .nilFunc)],[],none,none,[],false,none⟩:=rfl
theorem ZJH:tt 282=some ⟨1,8,false,[.d (.raw .nilFunc)],[],none,none,[],false,none⟩:=rfl
theorem ZJI:tt 283=some ⟨1,8,false,[.d (.raw .nilFunc)],[],none,none,[],false,none⟩:=rfl
theorem ZJJ:tt 285=some ⟨1,8,false,[.d (.raw .nilFunc)],[],none,none,[],false,none⟩:=rfl
theorem ZJK:tt 286=some ⟨1,8,false,[.d (.raw .nilFunc)],[],none,none,[],false,none⟩:=rfl
theorem ZJL:tt 287=some ⟨1,8,false,[.d (.raw .nilFunc)],[],none,none,[],false,none⟩:=rfl
theorem ZJM:tt 288=some ⟨1,8,false,[.d (.raw .nilFunc)],[],none,none,[],false,none⟩:=rfl
theorem ZJN:tt 289=some ⟨1,8,false,[.d (.raw .nilFunc)],[],none,none,[],false,none⟩:=rfl
theorem ZJO:tt 290=some ⟨4,32,true,[.d (.int .i64 0),.d (.int .i64 0),.d (.int .i64 0),.d (.int .i64 0)],[(0,111)],none,none,[true,true,true,true],false,none⟩:=rfl
theorem ZJP:tt 291=some ⟨4,32,true,[.d (.int .i64 0),.d (.int .i64 0),.d (.int .i64 0),.d (.int .i64 0)],[(0,111)],none,none,[true,true,true,true],false,none⟩:=rfl
theorem ZJQ:tt 292=some ⟨1,8,false,[.d (.raw .nilFunc)],[],none,none,[],false,none⟩:=rfl
theorem ZJR:tt 293=some ⟨1,8,false,[.d (.raw .nilFunc)],[],none,none,[],false,none⟩:=rfl
theorem ZJS:tt 294=some ⟨1,8,false,[.d (.raw .nilFunc)],[],none,none,[],false,none⟩:=rfl
theorem ZJT:tt 295=some ⟨1,8,false,[.d (.raw .nilFunc)],[],none,none,[],false,none⟩:=rfl
theorem ZJU:tt 296=some ⟨1,8,false,[.d (.raw .nilFunc)],[],none,none,[],false,none⟩:=rfl
theorem ZJV:tt 299=some ⟨1,8,false,[.d (.raw .nilFunc)],[],none,none,[],false,none⟩:=rfl
theorem ZJW:tt 300=some ⟨1,8,false,[.d (.raw .nilFunc)],[],none,none,[],false,none⟩:=rfl
theorem ZJX:tt 301=some ⟨1,8,false,[.d (.raw .nilFunc)],[],none,none,[],false,none⟩:=rfl
theorem ZJY:tt 302=some ⟨1,8,false,[.d (.raw .nilFunc)],[],none,none,[],false,none⟩:=rfl
theorem ZJZ:tt 303=some ⟨5,40,true,[.d (.int .i64 0),.d (.int .i64 0),.d (.int .i64 0),.d (.int .i64 0),.d (.int .i64 0)],[(0,211),(3,2),(4,2)],none,none,[true,true,true,true,true],false,none⟩:=rfl
theorem ZJ0:tt 304=some ⟨5,40,true,[.d (.int .i64 0),.d (.int .i64 0),.d (.int .i64 0),.d (.int .i64 0),.d (.int .i64 0)],[(0,211),(3,2),(4,2)],none,none,[true,true,true,true,true],false,none⟩:=rfl
theorem ZJ1:tt 305=some ⟨1,8,false,[.d (.raw .nilFunc)],[],none,none,[],false,none⟩:=rfl
theorem ZJ2:tt 306=some ⟨1,8,false,[.d (.raw .nilFunc)],[],none,none,[],false,none⟩:=rfl
theorem ZJ3:tt 307=some ⟨1,8,false,[.d (.raw (.pointer none))],[],none,none,[],false,none⟩:=rfl
theorem ZJ4:tt 308=some ⟨1,8,false,[.d (.raw .nilFunc)],[],none,none,[],false,none⟩:=rfl
theorem ZJ5:tt 309=some ⟨4,40,true,[.d (.raw (.pointer none)),.d (.raw (.pointer none)),.d (.raw (.pointer none)),.d (.str ⟨#[]⟩)],[(0,17),(1,17),(2,17),(3,9)],none,none,[],false,none⟩:=rfl
theorem ZJ6:tt 310=some ⟨4,40,true,[.d (.raw (.pointer none)),.d (.raw (.pointer none)),.d (.raw (.pointer none)),.d (.str ⟨#[]⟩)],[(0,17),(1,17),(2,17),(3,9)],none,none,[],false,none⟩:=rfl
theorem ZJ7:tt 311=some ⟨0,0,true,[],[],none,none,[],false,some 16⟩:=rfl
theorem ZJ8:tt 312=some ⟨0,0,true,[],[(0,311)],none,none,[],false,none⟩:=rfl
theorem ZJ9:tt 313=some ⟨0,0,true,[],[(0,311)],none,none,[],false,none⟩:=rfl
theorem ZKa:tt 314=some ⟨1,4,false,[.d (.int .u32 0)],[],none,some .u32,[],false,none⟩:=rfl
theorem ZKb:tt 315=some ⟨1,1,false,[.d (.int .u8 0)],[],none,some .u8,[],false,none⟩:=rfl
theorem ZKc:tt 316=some ⟨1,1,false,[.d (.int .u8 0)],[],none,some .u8,[],false,none⟩:=rfl
theorem ZKd:tt 317=some ⟨1,8,false,[.d (.raw .nilFunc)],[],none,none,[],false,none⟩:=rfl
theorem ZKe:tt 318=some ⟨1,8,false,[.d (.raw (.pointer none))],[],none,none,[],false,none⟩:=rfl
theorem ZKf:tt 319=some ⟨1,4,false,[.d (.int .i32 0)],[],none,some .i32,[],false,none⟩:=rfl
theorem ZKg:tt 320=some ⟨1,4,false,[.d (.int .i32 0)],[],none,some .i32,[],false,none⟩:=rfl
theorem ZKh:tt 321=some ⟨11,48,true,[.d (.int .u64 0),.d (.int .u64 0),.d (.int .u32 0),.d (.int .u8 0),.d (.int .u8 0),.d (.int .u8 0),.d (.int .u8 0),.d (.raw .nilFunc),.d (.raw (.pointer none)),.d (.int .i32 0),.d (.int .i32 0)],[(0,12),(1,12),(2,314),(3,315),(4,5),(5,5),(6,316),(7,317),(8,318),(9,319),(10,320)],none,none,[],false,none⟩:=rfl
theorem ZKi:tt 322=some ⟨11,48,true,[.d (.int .u64 0),.d (.int .u64 0),.d (.int .u32 0),.d (.int .u8 0),.d (.int .u8 0),.d (.int .u8 0),.d (.int .u8 0),.d (.raw .nilFunc),.d (.raw (.pointer none)),.d (.int .i32 0),.d (.int .i32 0)],[(0,12),(1,12),(2,314),(3,315),(4,5),(5,5),(6,316),(7,317),(8,318),(9,319),(10,320)],none,none,[],false,none⟩:=rfl
theorem ZKj:tt 323=some ⟨1,16,true,[.d (.str ⟨#[]⟩)],[(0,9)],none,none,[],false,none⟩:=rfl
theorem ZKk:tt 324=some ⟨1,16,true,[.d (.str ⟨#[]⟩)],[(0,9)],none,none,[],false,none⟩:=rfl
theorem ZKl:tt 325=some ⟨1,8,false,[.d (.raw (.pointer none))],[],none,none,[],false,none⟩:=rfl
theorem ZG3:∀ t ti,tt0 t=some ti→TI.check Tryz.prog t ti=true:=by
 intro t ti h
 unfold tt0 at h
 split at h <;> first
  | (cases h; decide +kernel)
  | cases h
theorem ZG4:∀ t ti,tt1 t=some ti→TI.check Tryz.prog t ti=true:=by
 intro t ti h
 unfold tt1 at h
 split at h <;> first
  | (cases h; decide +kernel)
  | cases h
theorem ZG5:∀ t ti,tt2 t=some ti→TI.check Tryz.prog t ti=true:=by
 intro t ti h
 unfold tt2 at h
 split at h <;> first
  | (cases h; decide +kernel)
  | cases h
theorem ZG6:∀ t ti,tt3 t=some ti→TI.check Tryz.prog t ti=true:=by
 intro t ti h
 unfold tt3 at h
 split at h <;> first
  | (cases h; decide +kernel)
  | cases h
theorem ZG7:∀ t ti,tt4 t=some ti→TI.check Tryz.prog t ti=true:=by
 intro t ti h
 unfold tt4 at h
 split at h <;> first
  | (cases h; decide +kernel)
  | cases h
set_option linter.defProp false in
def gTT:=And.intro (And.intro (And.intro (And.intro (And.intro (And.intro (And.intro (And.intro (ZML) (ZMM)) (And.intro (ZMN) (ZMO))) (And.intro (And.intro (ZMP) (ZMQ)) (And.intro (ZMR) (And.intro (ZMS) (ZMT))))) (And.intro (And.intro (And.intro (ZK8) (ZK9)) (And.intro (ZLa) (ZLb))) (And.intro (And.intro (ZLc) (ZLd)) (And.intro (ZLe) (And.intro (ZLf) (ZLg)))))) (And.intro (And.intro (And.intro (And.intro (ZLh) (ZLi)) (And.intro (ZLj) (ZLk))) (And.intro (And.intro (ZLl) (ZLm)) (And.intro (ZLn) (And.intro (ZLo) (ZLp))))) (And.intro (And.intro (And.intro (ZLq) (ZLr)) (And.intro (ZLs) (ZLt))) (And.intro (And.intro (ZLu) (ZLv)) (And.intro (ZLw) (And.intro (ZLx) (ZLy))))))) (And.intro (And.intro (And.intro (And.intro (And.intro (ZLz) (ZLA)) (And.intro (ZLB) (ZLC))) (And.intro (And.intro (ZLD) (ZLE)) (And.intro (ZLF) (And.intro (ZLG) (ZLH))))) (And.intro (And.intro (And.intro (ZLI) (ZLJ)) (And.intro (ZLK) (ZLL))) (And.intro (And.intro (ZLM) (ZLN)) (And.intro (ZLO) (And.intro (ZLP) (ZLQ)))))) (And.intro (And.intro (And.intro (And.intro (ZLR) (ZLS)) (And.intro (ZLT) (ZLU))) (And.intro (And.intro (ZLV) (ZLW)) (And.intro (ZLX) (And.intro (ZLY) (ZLZ))))) (And.intro (And.intro (And.intro (ZL0) (ZL1)) (And.intro (ZL2) (ZL3))) (And.intro (And.intro (ZL4) (ZL5)) (And.intro (ZL6) (And.intro (ZL7) (ZL8)))))))) (And.intro (And.intro (And.intro (And.intro (And.intro (And.intro (ZL9) (ZMa)) (And.intro (ZMb) (ZMc))) (And.intro (And.intro (ZMd) (ZMe)) (And.intro (ZMf) (And.intro (ZMg) (ZMh))))) (And.intro (And.intro (And.intro (ZMi) (ZMj)) (And.intro (ZMk) (ZMl))) (And.intro (And.intro (ZMm) (ZMn)) (And.intro (ZMo) (And.intro (ZG8) (ZG9)))))) (And.intro (And.intro (And.intro (And.intro (ZHa) (ZHb)) (And.intro (ZHc) (ZHd))) (And.intro (And.intro (ZHe) (ZHf)) (And.intro (ZHg) (And.intro (ZHh) (ZHi))))) (And.intro (And.intro (And.intro (ZHj) (ZHk)) (And.intro (ZHl) (ZHm))) (And.intro (And.intro (ZHn) (ZHo)) (And.intro (ZHp) (And.intro (ZHq) (ZHr))))))) (And.intro (And.intro (And.intro (And.intro (And.intro (ZHs) (ZHt)) (And.intro (ZHu) (ZHv))) (And.intro (And.intro (ZHw) (ZHx)) (And.intro (ZHy) (And.intro (ZHz) (ZHA))))) (And.intro (And.intro (And.intro (ZHB) (ZHC)) (And.intro (ZHD) (ZHE))) (And.intro (And.intro (ZHF) (ZHG)) (And.intro (ZHH) (And.intro (ZHI) (ZHJ)))))) (And.intro (And.intro (And.intro (And.intro (ZHK) (ZHL)) (And.intro (ZHM) (ZHN))) (And.intro (And.intro (ZHO) (ZHP)) (And.intro (ZHQ) (And.intro (ZHR) (ZHS))))) (And.intro (And.intro (And.intro (ZHT) (ZHU)) (And.intro (ZHV) (ZHW))) (And.intro (And.intro (ZHX) (ZHY)) (And.intro (ZHZ) (And.intro (ZH0) (ZH1))))))))) (And.intro (And.intro (And.intro (And.intro (And.intro (And.intro (And.intro (ZH2) (ZH3)) (And.intro (ZH4) (ZH5))) (And.intro (And.intro (ZH6) (ZH7)) (And.intro (ZH8) (And.intro (ZH9) (ZIa))))) (And.intro (And.intro (And.intro (ZIb) (ZIc)) (And.intro (ZId) (ZIe))) (And.intro (And.intro (ZIf) (ZIg)) (And.intro (ZIh) (And.intro (ZIi) (ZIj)))))) (And.intro (And.intro (And.intro (And.intro (ZIk) (ZIl)) (And.intro (ZIm) (ZIn))) (And.intro (And.intro (ZIo) (ZIp)) (And.intro (ZIq) (And.intro (ZIr) (ZIs))))) (And.intro (And.intro (And.intro (ZIt) (ZIu)) (And.intro (ZIv) (ZIw))) (And.intro (And.intro (ZIx) (ZIy)) (And.intro (ZIz) (And.intro (ZIA) (ZIB))))))) (And.intro (And.intro (And.intro (And.intro (And.intro (ZIC) (ZID)) (And.intro (ZIE) (ZIF))) (And.intro (And.intro (ZIG) (ZIH)) (And.intro (ZII) (And.intro (ZIJ) (ZIK))))) (And.intro (And.intro (And.intro (ZIL) (ZIM)) (And.intro (ZIN) (ZIO))) (And.intro (And.intro (ZIP) (ZIQ)) (And.intro (ZIR) (And.intro (ZIS) (ZIT)))))) (And.intro (And.intro (And.intro (And.intro (ZIU) (ZIV)) (And.intro (ZIW) (ZIX))) (And.intro (And.intro (ZIY) (ZIZ)) (And.intro (ZI0) (And.intro (ZI1) (ZI2))))) (And.intro (And.intro (And.intro (ZI3) (ZI4)) (And.intro (ZI5) (ZI6))) (And.intro (And.intro (ZI7) (ZI8)) (And.intro (ZI9) (And.intro (ZJa) (ZJb)))))))) (And.intro (And.intro (And.intro (And.intro (And.intro (And.intro (ZJc) (ZJd)) (And.intro (ZJe) (ZJf))) (And.intro (And.intro (ZJg) (ZJh)) (And.intro (ZJi) (And.intro (ZJj) (ZJk))))) (And.intro (And.intro (And.intro (ZJl) (ZJm)) (And.intro (ZJn) (ZJo))) (And.intro (And.intro (ZJp) (ZJq)) (And.intro (ZJr) (And.intro (ZJs) (ZJt)))))) (And.intro (And.intro (And.intro (And.intro (ZJu) (ZJv)) (And.intro (ZJw) (ZJx))) (And.intro (And.intro (ZJy) (ZJz)) (And.intro (ZJA) (And.intro (ZJB) (ZJC))))) (And.intro (And.intro (And.intro (ZJD) (ZJE)) (And.intro (ZJF) (ZJG))) (And.intro (And.intro (ZJH) (ZJI)) (And.intro (ZJJ) (And.intro (ZJK) (ZJL))))))) (And.intro (And.intro (And.intro (And.intro (And.intro (ZJM) (ZJN)) (And.intro (ZJO) (ZJP))) (And.intro (And.intro (ZJQ) (ZJR)) (And.intro (ZJS) (And.intro (ZJT) (ZJU))))) (And.intro (And.intro (And.intro (ZJV) (ZJW)) (And.intro (ZJX) (ZJY))) (And.intro (And.intro (ZJZ) (ZJ0)) (And.intro (ZJ1) (And.intro (ZJ2) (ZJ3)))))) (And.intro (And.intro (And.intro (And.intro (ZJ4) (ZJ5)) (And.intro (ZJ6) (ZJ7))) (And.intro (And.intro (ZJ8) (ZJ9)) (And.intro (ZKa) (And.intro (ZKb) (ZKc))))) (And.intro (And.intro (And.intro (ZKd) (ZKe)) (And.intro (ZKf) (ZKg))) (And.intro (And.intro (ZKh) (ZKi)) (And.intro (ZKj) (And.intro (ZKk) (ZKl)))))))))
theorem Zah:∀ t ti,tt t=some ti→TI.check Tryz.prog t ti=true:=by
 intro t ti h
 unfold tt at h
 cases h0:tt0 t with
 | some x=>rw [h0] at h; cases h; exact ZG3 t _ h0
 | none =>
 rw [h0] at h
 change Option.orElse (tt1 t) (fun _=>Option.orElse (tt2 t) (fun _=>Option.orElse (tt3 t) (fun _=>Option.orElse (tt4 t) (fun _=>none))))=some ti at h
 cases h1:tt1 t with
 | some x=>rw [h1] at h; cases h; exact ZG4 t _ h1
 | none =>
 rw [h1] at h
 change Option.orElse (tt2 t) (fun _=>Option.orElse (tt3 t) (fun _=>Option.orElse (tt4 t) (fun _=>none)))=some ti at h
 cases h2:tt2 t with
 | some x=>rw [h2] at h; cases h; exact ZG5 t _ h2
 | none =>
 rw [h2] at h
 change Option.orElse (tt3 t) (fun _=>Option.orElse (tt4 t) (fun _=>none))=some ti at h
 cases h3:tt3 t with
 | some x=>rw [h3] at h; cases h; exact ZG6 t _ h3
 | none =>
 rw [h3] at h
 change Option.orElse (tt4 t) (fun _=>none)=some ti at h
 cases h4:tt4 t with
 | some x=>rw [h4] at h; cases h; exact ZG7 t _ h4
 | none =>
 rw [h4] at h
 change none=some ti at h
 cases h
theorem ZB:Tryz.prog.follows .mixedOrders=true:=by decide +kernel
universe u
def gSt:=And.intro (@if_true.{u}) (And.intro (@if_false.{u}) (And.intro (@implies_true.{u}) (And.intro (@forall_const.{u}) (And.intro (@eq_self.{u}) (@ne_eq.{u})))))
def gS0:=And.intro (@not_true_eq_false) (And.intro (@not_false_eq_true) (@imp_self))
theorem lvp {r:V} (h:r.bare=true):ZEo 0 r [] []:=⟨fun m hm=>(V.bare_has h m hm).elim,by simp,by simp⟩
theorem sE {md:Nat→Nat} {L:List (FuncId×Zmx)} {f:FuncId} {fn:Func} {c:Code} {args:List V} {b:Zf} {k:Zw} {r:V} (M:List (Nat×List Nat)) (m:Nat) (hs:ZGa Tryz.prog L) (hf:Tryz.prog.funcs[f]?=some fn) (hb:fn.body=some c) (ha:Nat.ble args.length fn.ntmps=true) (hlv:r.bare=true) (h:evS ⟨Ztr 0 args,b,k⟩ (E ⟨Tryz.prog,tt,fn.ntmps,1,md,tab L⟩ M m c (ZDD ⟨Tryz.prog,tt,fn.ntmps,1,md,tab L⟩ fn.results.toList r [] []))) (hname:(fn.name == "runtime.NumGoroutine")=false:=by decide):Spec Tryz.prog 0 f args b k r [] [] :=
 spec_of_E (X:=⟨Tryz.prog,tt,fn.ntmps,1,md,tab L⟩) M m rfl rfl ⟨Zah,ZU hs _ rfl rfl⟩ ZB hf hb hname (Nat.le_of_ble_eq_true ha) (lvp hlv) h
end Go.Vam
