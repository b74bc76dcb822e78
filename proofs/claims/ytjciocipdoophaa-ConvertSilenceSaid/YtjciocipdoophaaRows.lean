/-
  No cell of these rows narrows 'for every input' (looked for: loops, veiled, ifaces, maps, wideKeys, modest, calm, conditions, laid).
  DERIVED. THE GIVEN ROWS OF THIS SEAT. 5 by the template 'for every input the law returns true; each argument reads behind the call as it read before'; 0 by the template 'total and deterministic' (their statements: YtjciocipdoophaaTotals.lean).
  GIVEN WITH THE SEED: the statements are not yours to turn. If you find one false, say at which input.
  Laid BY PROGRAM, IN A SANDBOX (cutbox-rows.mjs): the forced cells as the released guide's own fill.sh prints them over the translation 89d845c8658a2871… (all of the seat's roots in one cut). By AI agents, Wed Nov 11 2026. No macro, syntax, notation, axiom, sorry.
-/
import Derived.Test.YtjciocipdoophaaChecked
import GoSem.Claim
import GoSem.ClaimJoined
import GoSem.ClaimMapViews
import Derived.JoinedTies
import Derived.KernelRfl
namespace Go.Proofs.Ytjciocipdoophaa
/- THE CELL 'sum', in the pinned program and in every row, IS THE sha256 OF THE DUMP (.gsa) THAT YtjciocipdoophaaProg.lean LOADS. Nothing in Lean hashes anything: it is a label: what it is worth is what the hold of that sum in a sandbox is worth. -/
noncomputable def Try.pinned : Pinned := { name := "ytjciocipdoophaa", sum := "89d845c8658a2871cf1910a19a14c33b0880753782849b92b361aab61b6d21d6", checked := Try.checked }
namespace Rows
def none {H : Type} : Left H := { results := [], args := [] }

/-- 'soundservicelaw16.ConvertMakes': WHATEVER THE INPUT: true; the input reads as it did. -/
def convertMakesSpec : ChangeSpec := { name := "convertMakes", fn := fun _ => fun
  | [d1, d2, d3, d4] => { results := [.lit (.bool true)], args := [d1, d2, d3, d4] }
  | _ => none }
def convertMakesRow : OpenClaim := { program := "ytjciocipdoophaa", sum := "89d845c8658a2871cf1910a19a14c33b0880753782849b92b361aab61b6d21d6", func := "soundservice/soundservicelaw16.ConvertMakes", spec := "convertMakes", unfollowed := true, recurses := true, apart := false }
def ConvertMakesSaid : Prop := convertMakesRow.holds Try.pinned (OpenSpec.ofChange convertMakesSpec)

/-- ITS FALSE NEIGHBOUR: 'it returns false'. Refute it at one input. -/
def convertMakesWrong : ChangeSpec := { name := "convertMakes", fn := fun _ => fun
  | [d1, d2, d3, d4] => { results := [.lit (.bool false)], args := [d1, d2, d3, d4] }
  | _ => none }
def ConvertMakesWrongFalsely : Prop := convertMakesRow.holds Try.pinned (OpenSpec.ofChange convertMakesWrong)

/-- 'soundservicelaw16.ConvertPieces': WHATEVER THE INPUT: true; the input reads as it did. -/
def convertPiecesSpec : ChangeSpec := { name := "convertPieces", fn := fun _ => fun
  | [d1, d2, d3] => { results := [.lit (.bool true)], args := [d1, d2, d3] }
  | _ => none }
def convertPiecesRow : OpenClaim := { program := "ytjciocipdoophaa", sum := "89d845c8658a2871cf1910a19a14c33b0880753782849b92b361aab61b6d21d6", func := "soundservice/soundservicelaw16.ConvertPieces", spec := "convertPieces", unfollowed := true, recurses := true, apart := false }
def ConvertPiecesSaid : Prop := convertPiecesRow.holds Try.pinned (OpenSpec.ofChange convertPiecesSpec)

/-- ITS FALSE NEIGHBOUR: 'it returns false'. Refute it at one input. -/
def convertPiecesWrong : ChangeSpec := { name := "convertPieces", fn := fun _ => fun
  | [d1, d2, d3] => { results := [.lit (.bool false)], args := [d1, d2, d3] }
  | _ => none }
def ConvertPiecesWrongFalsely : Prop := convertPiecesRow.holds Try.pinned (OpenSpec.ofChange convertPiecesWrong)

/-- 'soundservicelaw16.ConvertSame': WHATEVER THE INPUT: true; the input reads as it did. -/
def convertSameSpec : ChangeSpec := { name := "convertSame", fn := fun _ => fun
  | [d1, d2] => { results := [.lit (.bool true)], args := [d1, d2] }
  | _ => none }
def convertSameRow : OpenClaim := { program := "ytjciocipdoophaa", sum := "89d845c8658a2871cf1910a19a14c33b0880753782849b92b361aab61b6d21d6", func := "soundservice/soundservicelaw16.ConvertSame", spec := "convertSame", unfollowed := true, recurses := true, apart := false }
def ConvertSameSaid : Prop := convertSameRow.holds Try.pinned (OpenSpec.ofChange convertSameSpec)

/-- ITS FALSE NEIGHBOUR: 'it returns false'. Refute it at one input. -/
def convertSameWrong : ChangeSpec := { name := "convertSame", fn := fun _ => fun
  | [d1, d2] => { results := [.lit (.bool false)], args := [d1, d2] }
  | _ => none }
def ConvertSameWrongFalsely : Prop := convertSameRow.holds Try.pinned (OpenSpec.ofChange convertSameWrong)

/-- 'soundservicelaw16.ConvertThere': WHATEVER THE INPUT: true; the input reads as it did. -/
def convertThereSpec : ChangeSpec := { name := "convertThere", fn := fun _ => fun
  | [d1, d2, d3] => { results := [.lit (.bool true)], args := [d1, d2, d3] }
  | _ => none }
def convertThereRow : OpenClaim := { program := "ytjciocipdoophaa", sum := "89d845c8658a2871cf1910a19a14c33b0880753782849b92b361aab61b6d21d6", func := "soundservice/soundservicelaw16.ConvertThere", spec := "convertThere", unfollowed := true, recurses := true, apart := false }
def ConvertThereSaid : Prop := convertThereRow.holds Try.pinned (OpenSpec.ofChange convertThereSpec)

/-- ITS FALSE NEIGHBOUR: 'it returns false'. Refute it at one input. -/
def convertThereWrong : ChangeSpec := { name := "convertThere", fn := fun _ => fun
  | [d1, d2, d3] => { results := [.lit (.bool false)], args := [d1, d2, d3] }
  | _ => none }
def ConvertThereWrongFalsely : Prop := convertThereRow.holds Try.pinned (OpenSpec.ofChange convertThereWrong)

/-- 'soundservicelaw16.ConvertSilence': WHATEVER THE INPUT: true; the input reads as it did. -/
def convertSilenceSpec : ChangeSpec := { name := "convertSilence", fn := fun _ => fun
  | [d1, d2] => { results := [.lit (.bool true)], args := [d1, d2] }
  | _ => none }
def convertSilenceRow : OpenClaim := { program := "ytjciocipdoophaa", sum := "89d845c8658a2871cf1910a19a14c33b0880753782849b92b361aab61b6d21d6", func := "soundservice/soundservicelaw16.ConvertSilence", spec := "convertSilence", unfollowed := true, recurses := true, apart := false }
def ConvertSilenceSaid : Prop := convertSilenceRow.holds Try.pinned (OpenSpec.ofChange convertSilenceSpec)

/-- ITS FALSE NEIGHBOUR: 'it returns false'. Refute it at one input. -/
def convertSilenceWrong : ChangeSpec := { name := "convertSilence", fn := fun _ => fun
  | [d1, d2] => { results := [.lit (.bool false)], args := [d1, d2] }
  | _ => none }
def ConvertSilenceWrongFalsely : Prop := convertSilenceRow.holds Try.pinned (OpenSpec.ofChange convertSilenceWrong)

/- THE SECOND FORM. 'bulk': how many values and letters a reading holds, each counted each time it is reached (what is shared counts as often as it is met; a slice's spare places count too). A statement '..UptoSaid' is the law's where the arguments, and the package variables that the reading takes, are together of bulk at most 1048576: NARROWER than '..Said'. Prove '..Said' where nothing that the law and all that it calls make is longer than what came in: it says more and counts as full. Else prove '..UptoSaid'. A law counts once. -/
mutual
def uptoBulk {H : Type} : DataW H → Nat
  | .lit (.string bytes) => bytes.length + 1
  | .lit _ => 1
  | .nil => 1
  | .ptr d => uptoBulk d + 1
  | .slice elems spare => uptoBulkAll elems + uptoBulkAll spare + 1
  | .agg parts => uptoBulkAll parts + 1
  | .iface _ d => uptoBulk d + 1
  | .map entries => uptoBulkEntries entries + 1
  | .held _ => 1
def uptoBulkAll {H : Type} : List (DataW H) → Nat
  | [] => 0
  | d :: r => uptoBulk d + uptoBulkAll r
def uptoBulkEntries {H : Type} : List (Lit × DataW H) → Nat
  | [] => 0
  | x :: r => uptoBulkEntry x + uptoBulkEntries r
def uptoBulkEntry {H : Type} : Lit × DataW H → Nat
  | (.string bytes, d) => bytes.length + uptoBulk d + 1
  | (_, d) => uptoBulk d + 1
 end
def uptoSmall : (H : Type) → List (DataW H) → Bool := fun _ ds => decide (uptoBulkAll ds ≤ 1048576)
def OpenSpec.upto (s : _root_.Go.ChangeSpec) : _root_.Go.OpenSpec := { _root_.Go.OpenSpec.ofChange s with cond := some uptoSmall }

/-- 'soundservicelaw16.ConvertMakes', WHERE WHAT IT READS IS OF BULK AT MOST 1048576: true; the input reads as it did. -/
def convertMakesUptoRow : OpenClaim := { program := "ytjciocipdoophaa", sum := "89d845c8658a2871cf1910a19a14c33b0880753782849b92b361aab61b6d21d6", func := "soundservice/soundservicelaw16.ConvertMakes", spec := "convertMakes", unfollowed := true, recurses := true, apart := false, narrowed := true }
def ConvertMakesUptoSaid : Prop := convertMakesUptoRow.holds Try.pinned (OpenSpec.upto convertMakesSpec)

/-- 'soundservicelaw16.ConvertPieces', WHERE WHAT IT READS IS OF BULK AT MOST 1048576: true; the input reads as it did. -/
def convertPiecesUptoRow : OpenClaim := { program := "ytjciocipdoophaa", sum := "89d845c8658a2871cf1910a19a14c33b0880753782849b92b361aab61b6d21d6", func := "soundservice/soundservicelaw16.ConvertPieces", spec := "convertPieces", unfollowed := true, recurses := true, apart := false, narrowed := true }
def ConvertPiecesUptoSaid : Prop := convertPiecesUptoRow.holds Try.pinned (OpenSpec.upto convertPiecesSpec)

/-- 'soundservicelaw16.ConvertSame', WHERE WHAT IT READS IS OF BULK AT MOST 1048576: true; the input reads as it did. -/
def convertSameUptoRow : OpenClaim := { program := "ytjciocipdoophaa", sum := "89d845c8658a2871cf1910a19a14c33b0880753782849b92b361aab61b6d21d6", func := "soundservice/soundservicelaw16.ConvertSame", spec := "convertSame", unfollowed := true, recurses := true, apart := false, narrowed := true }
def ConvertSameUptoSaid : Prop := convertSameUptoRow.holds Try.pinned (OpenSpec.upto convertSameSpec)

/-- 'soundservicelaw16.ConvertThere', WHERE WHAT IT READS IS OF BULK AT MOST 1048576: true; the input reads as it did. -/
def convertThereUptoRow : OpenClaim := { program := "ytjciocipdoophaa", sum := "89d845c8658a2871cf1910a19a14c33b0880753782849b92b361aab61b6d21d6", func := "soundservice/soundservicelaw16.ConvertThere", spec := "convertThere", unfollowed := true, recurses := true, apart := false, narrowed := true }
def ConvertThereUptoSaid : Prop := convertThereUptoRow.holds Try.pinned (OpenSpec.upto convertThereSpec)

/-- 'soundservicelaw16.ConvertSilence', WHERE WHAT IT READS IS OF BULK AT MOST 1048576: true; the input reads as it did. -/
def convertSilenceUptoRow : OpenClaim := { program := "ytjciocipdoophaa", sum := "89d845c8658a2871cf1910a19a14c33b0880753782849b92b361aab61b6d21d6", func := "soundservice/soundservicelaw16.ConvertSilence", spec := "convertSilence", unfollowed := true, recurses := true, apart := false, narrowed := true }
def ConvertSilenceUptoSaid : Prop := convertSilenceUptoRow.holds Try.pinned (OpenSpec.upto convertSilenceSpec)

end Rows
end Go.Proofs.Ytjciocipdoophaa
