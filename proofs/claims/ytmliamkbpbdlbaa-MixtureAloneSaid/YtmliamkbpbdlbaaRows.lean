/-
  No cell of these rows narrows 'for every input' (looked for: loops, veiled, ifaces, maps, wideKeys, modest, calm, conditions, laid).
  DERIVED. THE GIVEN ROWS OF THIS SEAT. 5 by the template 'for every input the law returns true; each argument reads behind the call as it read before'; 0 by the template 'total and deterministic' (their statements: YtmliamkbpbdlbaaTotals.lean).
  GIVEN WITH THE SEED: the statements are not yours to turn. If you find one false, say at which input.
  Laid BY PROGRAM, IN A SANDBOX (cutbox-rows.mjs): the forced cells as the released guide's own fill.sh prints them over the translation a9f28a3bc9429b95… (all of the seat's roots in one cut). By AI agents, Wed Nov 11 2026. No macro, syntax, notation, axiom, sorry.
-/
import Derived.Test.YtmliamkbpbdlbaaChecked
import GoSem.Claim
import GoSem.ClaimJoined
import GoSem.ClaimMapViews
import Derived.JoinedTies
import Derived.KernelRfl
namespace Go.Proofs.Ytmliamkbpbdlbaa
/- THE CELL 'sum', in the pinned program and in every row, IS THE sha256 OF THE DUMP (.gsa) THAT YtmliamkbpbdlbaaProg.lean LOADS. Nothing in Lean hashes anything: it is a label: what it is worth is what the hold of that sum in a sandbox is worth. -/
noncomputable def Try.pinned : Pinned := { name := "ytmliamkbpbdlbaa", sum := "a9f28a3bc9429b9533bd24ce8a39ef6bace16911215d863f1eb4b4edd019dddd", checked := Try.checked }
namespace Rows
def none {H : Type} : Left H := { results := [], args := [] }

/-- 'soundservicelaw23.MixtureOrder': WHATEVER THE INPUT: true; the input reads as it did. -/
def mixtureOrderSpec : ChangeSpec := { name := "mixtureOrder", fn := fun _ => fun
  | [d1, d2] => { results := [.lit (.bool true)], args := [d1, d2] }
  | _ => none }
def mixtureOrderRow : OpenClaim := { program := "ytmliamkbpbdlbaa", sum := "a9f28a3bc9429b9533bd24ce8a39ef6bace16911215d863f1eb4b4edd019dddd", func := "soundservice/soundservicelaw23.MixtureOrder", spec := "mixtureOrder", unfollowed := true, recurses := true, apart := false }
def MixtureOrderSaid : Prop := mixtureOrderRow.holds Try.pinned (OpenSpec.ofChange mixtureOrderSpec)

/-- ITS FALSE NEIGHBOUR: 'it returns false'. Refute it at one input. -/
def mixtureOrderWrong : ChangeSpec := { name := "mixtureOrder", fn := fun _ => fun
  | [d1, d2] => { results := [.lit (.bool false)], args := [d1, d2] }
  | _ => none }
def MixtureOrderWrongFalsely : Prop := mixtureOrderRow.holds Try.pinned (OpenSpec.ofChange mixtureOrderWrong)

/-- 'soundservicelaw23.MixtureAlone': WHATEVER THE INPUT: true; the input reads as it did. -/
def mixtureAloneSpec : ChangeSpec := { name := "mixtureAlone", fn := fun _ => fun
  | [d] => { results := [.lit (.bool true)], args := [d] }
  | _ => none }
def mixtureAloneRow : OpenClaim := { program := "ytmliamkbpbdlbaa", sum := "a9f28a3bc9429b9533bd24ce8a39ef6bace16911215d863f1eb4b4edd019dddd", func := "soundservice/soundservicelaw23.MixtureAlone", spec := "mixtureAlone", unfollowed := true, recurses := true, apart := false }
def MixtureAloneSaid : Prop := mixtureAloneRow.holds Try.pinned (OpenSpec.ofChange mixtureAloneSpec)

/-- ITS FALSE NEIGHBOUR: 'it returns false'. Refute it at one input. -/
def mixtureAloneWrong : ChangeSpec := { name := "mixtureAlone", fn := fun _ => fun
  | [d] => { results := [.lit (.bool false)], args := [d] }
  | _ => none }
def MixtureAloneWrongFalsely : Prop := mixtureAloneRow.holds Try.pinned (OpenSpec.ofChange mixtureAloneWrong)

/-- 'soundservicelaw23.MixtureTurns': WHATEVER THE INPUT: true; the input reads as it did. -/
def mixtureTurnsSpec : ChangeSpec := { name := "mixtureTurns", fn := fun _ => fun
  | [d1, d2] => { results := [.lit (.bool true)], args := [d1, d2] }
  | _ => none }
def mixtureTurnsRow : OpenClaim := { program := "ytmliamkbpbdlbaa", sum := "a9f28a3bc9429b9533bd24ce8a39ef6bace16911215d863f1eb4b4edd019dddd", func := "soundservice/soundservicelaw23.MixtureTurns", spec := "mixtureTurns", unfollowed := true, recurses := true, apart := false }
def MixtureTurnsSaid : Prop := mixtureTurnsRow.holds Try.pinned (OpenSpec.ofChange mixtureTurnsSpec)

/-- ITS FALSE NEIGHBOUR: 'it returns false'. Refute it at one input. -/
def mixtureTurnsWrong : ChangeSpec := { name := "mixtureTurns", fn := fun _ => fun
  | [d1, d2] => { results := [.lit (.bool false)], args := [d1, d2] }
  | _ => none }
def MixtureTurnsWrongFalsely : Prop := mixtureTurnsRow.holds Try.pinned (OpenSpec.ofChange mixtureTurnsWrong)

/-- 'soundservicelaw23.MixtureSums': WHATEVER THE INPUT: true; the input reads as it did. -/
def mixtureSumsSpec : ChangeSpec := { name := "mixtureSums", fn := fun _ => fun
  | [d1, d2, d3, d4, d5] => { results := [.lit (.bool true)], args := [d1, d2, d3, d4, d5] }
  | _ => none }
def mixtureSumsRow : OpenClaim := { program := "ytmliamkbpbdlbaa", sum := "a9f28a3bc9429b9533bd24ce8a39ef6bace16911215d863f1eb4b4edd019dddd", func := "soundservice/soundservicelaw23.MixtureSums", spec := "mixtureSums", unfollowed := true, recurses := true, apart := false }
def MixtureSumsSaid : Prop := mixtureSumsRow.holds Try.pinned (OpenSpec.ofChange mixtureSumsSpec)

/-- ITS FALSE NEIGHBOUR: 'it returns false'. Refute it at one input. -/
def mixtureSumsWrong : ChangeSpec := { name := "mixtureSums", fn := fun _ => fun
  | [d1, d2, d3, d4, d5] => { results := [.lit (.bool false)], args := [d1, d2, d3, d4, d5] }
  | _ => none }
def MixtureSumsWrongFalsely : Prop := mixtureSumsRow.holds Try.pinned (OpenSpec.ofChange mixtureSumsWrong)

/-- 'soundservicelaw23.MixturePieces': WHATEVER THE INPUT: true; the input reads as it did. -/
def mixturePiecesSpec : ChangeSpec := { name := "mixturePieces", fn := fun _ => fun
  | [d1, d2] => { results := [.lit (.bool true)], args := [d1, d2] }
  | _ => none }
def mixturePiecesRow : OpenClaim := { program := "ytmliamkbpbdlbaa", sum := "a9f28a3bc9429b9533bd24ce8a39ef6bace16911215d863f1eb4b4edd019dddd", func := "soundservice/soundservicelaw23.MixturePieces", spec := "mixturePieces", unfollowed := true, recurses := true, apart := false }
def MixturePiecesSaid : Prop := mixturePiecesRow.holds Try.pinned (OpenSpec.ofChange mixturePiecesSpec)

/-- ITS FALSE NEIGHBOUR: 'it returns false'. Refute it at one input. -/
def mixturePiecesWrong : ChangeSpec := { name := "mixturePieces", fn := fun _ => fun
  | [d1, d2] => { results := [.lit (.bool false)], args := [d1, d2] }
  | _ => none }
def MixturePiecesWrongFalsely : Prop := mixturePiecesRow.holds Try.pinned (OpenSpec.ofChange mixturePiecesWrong)

/- THE SECOND FORM. 'bulk': how many values and letters a reading holds, each counted each time it is reached (what is shared counts as often as it is met; a slice's spare places count too). A statement '..UptoSaid' is the law's where the arguments, and the package variables that the reading takes, are together of bulk at most 1048576: NARROWER than '..Said'. Prove '..Said' where nothing that the law and all that it calls make is longer than what came in: it says more and counts as full. Else prove '..UptoSaid'. A law counts once. -/
mutual
def uptoBulk {H : Type} : DataW H → Nat
  | .lit (.string bytes) => bytes.length + 1
  | .lit _ => 1
  | .nil => 1
  | .ptr d => uptoBulk d + 1
  | .slice elems spare => uptoBulkAll elems + uptoBulkAll spare + 1
  | .agg parts => uptoBulkAll parts + 1
  | .iface _ d => uptoBulk d + 1
  | .map entries => uptoBulkEntries entries + 1
  | .held _ => 1
def uptoBulkAll {H : Type} : List (DataW H) → Nat
  | [] => 0
  | d :: r => uptoBulk d + uptoBulkAll r
def uptoBulkEntries {H : Type} : List (Lit × DataW H) → Nat
  | [] => 0
  | x :: r => uptoBulkEntry x + uptoBulkEntries r
def uptoBulkEntry {H : Type} : Lit × DataW H → Nat
  | (.string bytes, d) => bytes.length + uptoBulk d + 1
  | (_, d) => uptoBulk d + 1
 end
def uptoSmall : (H : Type) → List (DataW H) → Bool := fun _ ds => decide (uptoBulkAll ds ≤ 1048576)
def OpenSpec.upto (s : _root_.Go.ChangeSpec) : _root_.Go.OpenSpec := { _root_.Go.OpenSpec.ofChange s with cond := some uptoSmall }

/-- 'soundservicelaw23.MixtureOrder', WHERE WHAT IT READS IS OF BULK AT MOST 1048576: true; the input reads as it did. -/
def mixtureOrderUptoRow : OpenClaim := { program := "ytmliamkbpbdlbaa", sum := "a9f28a3bc9429b9533bd24ce8a39ef6bace16911215d863f1eb4b4edd019dddd", func := "soundservice/soundservicelaw23.MixtureOrder", spec := "mixtureOrder", unfollowed := true, recurses := true, apart := false, narrowed := true }
def MixtureOrderUptoSaid : Prop := mixtureOrderUptoRow.holds Try.pinned (OpenSpec.upto mixtureOrderSpec)

/-- 'soundservicelaw23.MixtureAlone', WHERE WHAT IT READS IS OF BULK AT MOST 1048576: true; the input reads as it did. -/
def mixtureAloneUptoRow : OpenClaim := { program := "ytmliamkbpbdlbaa", sum := "a9f28a3bc9429b9533bd24ce8a39ef6bace16911215d863f1eb4b4edd019dddd", func := "soundservice/soundservicelaw23.MixtureAlone", spec := "mixtureAlone", unfollowed := true, recurses := true, apart := false, narrowed := true }
def MixtureAloneUptoSaid : Prop := mixtureAloneUptoRow.holds Try.pinned (OpenSpec.upto mixtureAloneSpec)

/-- 'soundservicelaw23.MixtureTurns', WHERE WHAT IT READS IS OF BULK AT MOST 1048576: true; the input reads as it did. -/
def mixtureTurnsUptoRow : OpenClaim := { program := "ytmliamkbpbdlbaa", sum := "a9f28a3bc9429b9533bd24ce8a39ef6bace16911215d863f1eb4b4edd019dddd", func := "soundservice/soundservicelaw23.MixtureTurns", spec := "mixtureTurns", unfollowed := true, recurses := true, apart := false, narrowed := true }
def MixtureTurnsUptoSaid : Prop := mixtureTurnsUptoRow.holds Try.pinned (OpenSpec.upto mixtureTurnsSpec)

/-- 'soundservicelaw23.MixtureSums', WHERE WHAT IT READS IS OF BULK AT MOST 1048576: true; the input reads as it did. -/
def mixtureSumsUptoRow : OpenClaim := { program := "ytmliamkbpbdlbaa", sum := "a9f28a3bc9429b9533bd24ce8a39ef6bace16911215d863f1eb4b4edd019dddd", func := "soundservice/soundservicelaw23.MixtureSums", spec := "mixtureSums", unfollowed := true, recurses := true, apart := false, narrowed := true }
def MixtureSumsUptoSaid : Prop := mixtureSumsUptoRow.holds Try.pinned (OpenSpec.upto mixtureSumsSpec)

/-- 'soundservicelaw23.MixturePieces', WHERE WHAT IT READS IS OF BULK AT MOST 1048576: true; the input reads as it did. -/
def mixturePiecesUptoRow : OpenClaim := { program := "ytmliamkbpbdlbaa", sum := "a9f28a3bc9429b9533bd24ce8a39ef6bace16911215d863f1eb4b4edd019dddd", func := "soundservice/soundservicelaw23.MixturePieces", spec := "mixturePieces", unfollowed := true, recurses := true, apart := false, narrowed := true }
def MixturePiecesUptoSaid : Prop := mixturePiecesUptoRow.holds Try.pinned (OpenSpec.upto mixturePiecesSpec)

end Rows
end Go.Proofs.Ytmliamkbpbdlbaa
