/-
  No cell of these rows narrows 'for every input' (looked for: loops, veiled, ifaces, maps, wideKeys, modest, calm, conditions, laid).
  DERIVED. THE GIVEN ROWS OF THIS SEAT. 4 by the template 'for every input the law returns true; each argument reads behind the call as it read before'; 0 by the template 'total and deterministic' (their statements: YtdhhjfnmocimmaaTotals.lean).
  GIVEN WITH THE SEED: the statements are not yours to turn. If you find one false, say at which input.
  Laid BY PROGRAM, IN A SANDBOX (cutbox-rows.mjs): the forced cells as the released guide's own fill.sh prints them over the translation 484708b54d838d26… (all of the seat's roots in one cut). By AI agents, Wed Nov 11 2026. No macro, syntax, notation, axiom, sorry.
-/
import Derived.Test.YtdhhjfnmocimmaaChecked
import GoSem.Claim
import GoSem.ClaimJoined
import GoSem.ClaimMapViews
import Derived.JoinedTies
import Derived.KernelRfl
namespace Go.Proofs.Ytdhhjfnmocimmaa
/- THE CELL 'sum', in the pinned program and in every row, IS THE sha256 OF THE DUMP (.gsa) THAT YtdhhjfnmocimmaaProg.lean LOADS. Nothing in Lean hashes anything: it is a label: what it is worth is what the hold of that sum in a sandbox is worth. -/
noncomputable def Try.pinned : Pinned := { name := "ytdhhjfnmocimmaa", sum := "484708b54d838d266ac8ab25cfdcbd400255785dd785910537a7560eb0a2830a", checked := Try.checked }
namespace Rows
def none {H : Type} : Left H := { results := [], args := [] }

/-- 'soundservicelaw20.StreamPieces': WHATEVER THE INPUT: true; the input reads as it did. -/
def streamPiecesSpec : ChangeSpec := { name := "streamPieces", fn := fun _ => fun
  | [d1, d2, d3] => { results := [.lit (.bool true)], args := [d1, d2, d3] }
  | _ => none }
def streamPiecesRow : OpenClaim := { program := "ytdhhjfnmocimmaa", sum := "484708b54d838d266ac8ab25cfdcbd400255785dd785910537a7560eb0a2830a", func := "soundservice/soundservicelaw20.StreamPieces", spec := "streamPieces", unfollowed := true, recurses := true, apart := false }
def StreamPiecesSaid : Prop := streamPiecesRow.holds Try.pinned (OpenSpec.ofChange streamPiecesSpec)

/-- ITS FALSE NEIGHBOUR: 'it returns false'. Refute it at one input. -/
def streamPiecesWrong : ChangeSpec := { name := "streamPieces", fn := fun _ => fun
  | [d1, d2, d3] => { results := [.lit (.bool false)], args := [d1, d2, d3] }
  | _ => none }
def StreamPiecesWrongFalsely : Prop := streamPiecesRow.holds Try.pinned (OpenSpec.ofChange streamPiecesWrong)

/-- 'soundservicelaw20.StreamDrains': WHATEVER THE INPUT: true; the input reads as it did. -/
def streamDrainsSpec : ChangeSpec := { name := "streamDrains", fn := fun _ => fun
  | [d1, d2, d3] => { results := [.lit (.bool true)], args := [d1, d2, d3] }
  | _ => none }
def streamDrainsRow : OpenClaim := { program := "ytdhhjfnmocimmaa", sum := "484708b54d838d266ac8ab25cfdcbd400255785dd785910537a7560eb0a2830a", func := "soundservice/soundservicelaw20.StreamDrains", spec := "streamDrains", unfollowed := true, recurses := true, apart := false }
def StreamDrainsSaid : Prop := streamDrainsRow.holds Try.pinned (OpenSpec.ofChange streamDrainsSpec)

/-- ITS FALSE NEIGHBOUR: 'it returns false'. Refute it at one input. -/
def streamDrainsWrong : ChangeSpec := { name := "streamDrains", fn := fun _ => fun
  | [d1, d2, d3] => { results := [.lit (.bool false)], args := [d1, d2, d3] }
  | _ => none }
def StreamDrainsWrongFalsely : Prop := streamDrainsRow.holds Try.pinned (OpenSpec.ofChange streamDrainsWrong)

/-- 'soundservicelaw20.StreamCounts': WHATEVER THE INPUT: true; the input reads as it did. -/
def streamCountsSpec : ChangeSpec := { name := "streamCounts", fn := fun _ => fun
  | [d1, d2] => { results := [.lit (.bool true)], args := [d1, d2] }
  | _ => none }
def streamCountsRow : OpenClaim := { program := "ytdhhjfnmocimmaa", sum := "484708b54d838d266ac8ab25cfdcbd400255785dd785910537a7560eb0a2830a", func := "soundservice/soundservicelaw20.StreamCounts", spec := "streamCounts", unfollowed := true, recurses := true, apart := false }
def StreamCountsSaid : Prop := streamCountsRow.holds Try.pinned (OpenSpec.ofChange streamCountsSpec)

/-- ITS FALSE NEIGHBOUR: 'it returns false'. Refute it at one input. -/
def streamCountsWrong : ChangeSpec := { name := "streamCounts", fn := fun _ => fun
  | [d1, d2] => { results := [.lit (.bool false)], args := [d1, d2] }
  | _ => none }
def StreamCountsWrongFalsely : Prop := streamCountsRow.holds Try.pinned (OpenSpec.ofChange streamCountsWrong)

/-- 'soundservicelaw20.StreamGives': WHATEVER THE INPUT: true; the input reads as it did. -/
def streamGivesSpec : ChangeSpec := { name := "streamGives", fn := fun _ => fun
  | [d1, d2, d3, d4] => { results := [.lit (.bool true)], args := [d1, d2, d3, d4] }
  | _ => none }
def streamGivesRow : OpenClaim := { program := "ytdhhjfnmocimmaa", sum := "484708b54d838d266ac8ab25cfdcbd400255785dd785910537a7560eb0a2830a", func := "soundservice/soundservicelaw20.StreamGives", spec := "streamGives", unfollowed := true, recurses := true, apart := false }
def StreamGivesSaid : Prop := streamGivesRow.holds Try.pinned (OpenSpec.ofChange streamGivesSpec)

/-- ITS FALSE NEIGHBOUR: 'it returns false'. Refute it at one input. -/
def streamGivesWrong : ChangeSpec := { name := "streamGives", fn := fun _ => fun
  | [d1, d2, d3, d4] => { results := [.lit (.bool false)], args := [d1, d2, d3, d4] }
  | _ => none }
def StreamGivesWrongFalsely : Prop := streamGivesRow.holds Try.pinned (OpenSpec.ofChange streamGivesWrong)

/- THE SECOND FORM. 'bulk': how many values and letters a reading holds, each counted each time it is reached (what is shared counts as often as it is met; a slice's spare places count too). A statement '..UptoSaid' is the law's where the arguments, and the package variables that the reading takes, are together of bulk at most 1048576: NARROWER than '..Said'. Prove '..Said' where nothing that the law and all that it calls make is longer than what came in: it says more and counts as full. Else prove '..UptoSaid'. A law counts once. -/
mutual
def uptoBulk {H : Type} : DataW H → Nat
  | .lit (.string bytes) => bytes.length + 1
  | .lit _ => 1
  | .nil => 1
  | .ptr d => uptoBulk d + 1
  | .slice elems spare => uptoBulkAll elems + uptoBulkAll spare + 1
  | .agg parts => uptoBulkAll parts + 1
  | .iface _ d => uptoBulk d + 1
  | .map entries => uptoBulkEntries entries + 1
  | .held _ => 1
def uptoBulkAll {H : Type} : List (DataW H) → Nat
  | [] => 0
  | d :: r => uptoBulk d + uptoBulkAll r
def uptoBulkEntries {H : Type} : List (Lit × DataW H) → Nat
  | [] => 0
  | x :: r => uptoBulkEntry x + uptoBulkEntries r
def uptoBulkEntry {H : Type} : Lit × DataW H → Nat
  | (.string bytes, d) => bytes.length + uptoBulk d + 1
  | (_, d) => uptoBulk d + 1
 end
def uptoSmall : (H : Type) → List (DataW H) → Bool := fun _ ds => decide (uptoBulkAll ds ≤ 1048576)
def OpenSpec.upto (s : _root_.Go.ChangeSpec) : _root_.Go.OpenSpec := { _root_.Go.OpenSpec.ofChange s with cond := some uptoSmall }

/-- 'soundservicelaw20.StreamPieces', WHERE WHAT IT READS IS OF BULK AT MOST 1048576: true; the input reads as it did. -/
def streamPiecesUptoRow : OpenClaim := { program := "ytdhhjfnmocimmaa", sum := "484708b54d838d266ac8ab25cfdcbd400255785dd785910537a7560eb0a2830a", func := "soundservice/soundservicelaw20.StreamPieces", spec := "streamPieces", unfollowed := true, recurses := true, apart := false, narrowed := true }
def StreamPiecesUptoSaid : Prop := streamPiecesUptoRow.holds Try.pinned (OpenSpec.upto streamPiecesSpec)

/-- 'soundservicelaw20.StreamDrains', WHERE WHAT IT READS IS OF BULK AT MOST 1048576: true; the input reads as it did. -/
def streamDrainsUptoRow : OpenClaim := { program := "ytdhhjfnmocimmaa", sum := "484708b54d838d266ac8ab25cfdcbd400255785dd785910537a7560eb0a2830a", func := "soundservice/soundservicelaw20.StreamDrains", spec := "streamDrains", unfollowed := true, recurses := true, apart := false, narrowed := true }
def StreamDrainsUptoSaid : Prop := streamDrainsUptoRow.holds Try.pinned (OpenSpec.upto streamDrainsSpec)

/-- 'soundservicelaw20.StreamCounts', WHERE WHAT IT READS IS OF BULK AT MOST 1048576: true; the input reads as it did. -/
def streamCountsUptoRow : OpenClaim := { program := "ytdhhjfnmocimmaa", sum := "484708b54d838d266ac8ab25cfdcbd400255785dd785910537a7560eb0a2830a", func := "soundservice/soundservicelaw20.StreamCounts", spec := "streamCounts", unfollowed := true, recurses := true, apart := false, narrowed := true }
def StreamCountsUptoSaid : Prop := streamCountsUptoRow.holds Try.pinned (OpenSpec.upto streamCountsSpec)

/-- 'soundservicelaw20.StreamGives', WHERE WHAT IT READS IS OF BULK AT MOST 1048576: true; the input reads as it did. -/
def streamGivesUptoRow : OpenClaim := { program := "ytdhhjfnmocimmaa", sum := "484708b54d838d266ac8ab25cfdcbd400255785dd785910537a7560eb0a2830a", func := "soundservice/soundservicelaw20.StreamGives", spec := "streamGives", unfollowed := true, recurses := true, apart := false, narrowed := true }
def StreamGivesUptoSaid : Prop := streamGivesUptoRow.holds Try.pinned (OpenSpec.upto streamGivesSpec)

end Rows
end Go.Proofs.Ytdhhjfnmocimmaa
