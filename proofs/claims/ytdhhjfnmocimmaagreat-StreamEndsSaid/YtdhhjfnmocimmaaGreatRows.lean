/-
  No cell of these rows narrows 'for every input' (looked for: loops, veiled, ifaces, maps, wideKeys, modest, calm, conditions, laid).
  DERIVED. THE GIVEN ROWS OF THIS SEAT. 6 by the template 'for every input the law returns true; each argument reads behind the call as it read before'; 0 by the template 'total and deterministic' (their statements: YtdhhjfnmocimmaaGreatTotals.lean).
  GIVEN WITH THE SEED: the statements are not yours to turn. If you find one false, say at which input.
  Laid BY PROGRAM, IN A SANDBOX (cutbox-rows.mjs): the forced cells as the released guide's own fill.sh prints them over the translation 96419fe186829b60… (all of the seat's roots in one cut). By AI agents, Wed Nov 11 2026. No macro, syntax, notation, axiom, sorry.
-/
import Derived.Test.YtdhhjfnmocimmaaGreatChecked
import GoSem.Claim
import GoSem.ClaimJoined
import GoSem.ClaimMapViews
import Derived.JoinedTies
import Derived.KernelRfl
namespace Go.Proofs.YtdhhjfnmocimmaaGreat
/- THE CELL 'sum', in the pinned program and in every row, IS THE sha256 OF THE DUMP (.gsa) THAT YtdhhjfnmocimmaaGreatProg.lean LOADS. Nothing in Lean hashes anything: it is a label: what it is worth is what the hold of that sum in a sandbox is worth. -/
noncomputable def Tryz.pinned : Pinned := { name := "ytdhhjfnmocimmaagreat", sum := "96419fe186829b601813122e7c7f8a3c79826b3ee6fc8ef335176acf757a800d", checked := Tryz.checked }
namespace Rows
def none {H : Type} : Left H := { results := [], args := [] }

/-- 'soundservicelaw20.StreamMakes': WHATEVER THE INPUT: true; the input reads as it did. -/
def streamMakesSpec : ChangeSpec := { name := "streamMakes", fn := fun _ => fun
  | [d1, d2, d3, d4, d5, d6, d7, d8] => { results := [.lit (.bool true)], args := [d1, d2, d3, d4, d5, d6, d7, d8] }
  | _ => none }
def streamMakesRow : OpenClaim := { program := "ytdhhjfnmocimmaagreat", sum := "96419fe186829b601813122e7c7f8a3c79826b3ee6fc8ef335176acf757a800d", func := "soundservice/soundservicelaw20.StreamMakes", spec := "streamMakes", unfollowed := true, recurses := true, apart := false }
def StreamMakesSaid : Prop := streamMakesRow.holds Tryz.pinned (OpenSpec.ofChange streamMakesSpec)

/-- ITS FALSE NEIGHBOUR: 'it returns false'. Refute it at one input. -/
def streamMakesWrong : ChangeSpec := { name := "streamMakes", fn := fun _ => fun
  | [d1, d2, d3, d4, d5, d6, d7, d8] => { results := [.lit (.bool false)], args := [d1, d2, d3, d4, d5, d6, d7, d8] }
  | _ => none }
def StreamMakesWrongFalsely : Prop := streamMakesRow.holds Tryz.pinned (OpenSpec.ofChange streamMakesWrong)

/-- 'soundservicelaw20.StreamOwing': WHATEVER THE INPUT: true; the input reads as it did. -/
def streamOwingSpec : ChangeSpec := { name := "streamOwing", fn := fun _ => fun
  | [d1, d2] => { results := [.lit (.bool true)], args := [d1, d2] }
  | _ => none }
def streamOwingRow : OpenClaim := { program := "ytdhhjfnmocimmaagreat", sum := "96419fe186829b601813122e7c7f8a3c79826b3ee6fc8ef335176acf757a800d", func := "soundservice/soundservicelaw20.StreamOwing", spec := "streamOwing", unfollowed := true, recurses := true, apart := false }
def StreamOwingSaid : Prop := streamOwingRow.holds Tryz.pinned (OpenSpec.ofChange streamOwingSpec)

/-- ITS FALSE NEIGHBOUR: 'it returns false'. Refute it at one input. -/
def streamOwingWrong : ChangeSpec := { name := "streamOwing", fn := fun _ => fun
  | [d1, d2] => { results := [.lit (.bool false)], args := [d1, d2] }
  | _ => none }
def StreamOwingWrongFalsely : Prop := streamOwingRow.holds Tryz.pinned (OpenSpec.ofChange streamOwingWrong)

/-- 'soundservicelaw20.StreamRewinds': WHATEVER THE INPUT: true; the input reads as it did. -/
def streamRewindsSpec : ChangeSpec := { name := "streamRewinds", fn := fun _ => fun
  | [d1, d2, d3] => { results := [.lit (.bool true)], args := [d1, d2, d3] }
  | _ => none }
def streamRewindsRow : OpenClaim := { program := "ytdhhjfnmocimmaagreat", sum := "96419fe186829b601813122e7c7f8a3c79826b3ee6fc8ef335176acf757a800d", func := "soundservice/soundservicelaw20.StreamRewinds", spec := "streamRewinds", unfollowed := true, recurses := true, apart := false }
def StreamRewindsSaid : Prop := streamRewindsRow.holds Tryz.pinned (OpenSpec.ofChange streamRewindsSpec)

/-- ITS FALSE NEIGHBOUR: 'it returns false'. Refute it at one input. -/
def streamRewindsWrong : ChangeSpec := { name := "streamRewinds", fn := fun _ => fun
  | [d1, d2, d3] => { results := [.lit (.bool false)], args := [d1, d2, d3] }
  | _ => none }
def StreamRewindsWrongFalsely : Prop := streamRewindsRow.holds Tryz.pinned (OpenSpec.ofChange streamRewindsWrong)

/-- 'soundservicelaw20.StreamWrites': WHATEVER THE INPUT: true; the input reads as it did. -/
def streamWritesSpec : ChangeSpec := { name := "streamWrites", fn := fun _ => fun
  | [d1, d2, d3, d4, d5] => { results := [.lit (.bool true)], args := [d1, d2, d3, d4, d5] }
  | _ => none }
def streamWritesRow : OpenClaim := { program := "ytdhhjfnmocimmaagreat", sum := "96419fe186829b601813122e7c7f8a3c79826b3ee6fc8ef335176acf757a800d", func := "soundservice/soundservicelaw20.StreamWrites", spec := "streamWrites", unfollowed := true, recurses := true, apart := false }
def StreamWritesSaid : Prop := streamWritesRow.holds Tryz.pinned (OpenSpec.ofChange streamWritesSpec)

/-- ITS FALSE NEIGHBOUR: 'it returns false'. Refute it at one input. -/
def streamWritesWrong : ChangeSpec := { name := "streamWrites", fn := fun _ => fun
  | [d1, d2, d3, d4, d5] => { results := [.lit (.bool false)], args := [d1, d2, d3, d4, d5] }
  | _ => none }
def StreamWritesWrongFalsely : Prop := streamWritesRow.holds Tryz.pinned (OpenSpec.ofChange streamWritesWrong)

/-- 'soundservicelaw20.StreamMoves': WHATEVER THE INPUT: true; the input reads as it did. -/
def streamMovesSpec : ChangeSpec := { name := "streamMoves", fn := fun _ => fun
  | [d1, d2, d3, d4] => { results := [.lit (.bool true)], args := [d1, d2, d3, d4] }
  | _ => none }
def streamMovesRow : OpenClaim := { program := "ytdhhjfnmocimmaagreat", sum := "96419fe186829b601813122e7c7f8a3c79826b3ee6fc8ef335176acf757a800d", func := "soundservice/soundservicelaw20.StreamMoves", spec := "streamMoves", unfollowed := true, recurses := true, apart := false }
def StreamMovesSaid : Prop := streamMovesRow.holds Tryz.pinned (OpenSpec.ofChange streamMovesSpec)

/-- ITS FALSE NEIGHBOUR: 'it returns false'. Refute it at one input. -/
def streamMovesWrong : ChangeSpec := { name := "streamMoves", fn := fun _ => fun
  | [d1, d2, d3, d4] => { results := [.lit (.bool false)], args := [d1, d2, d3, d4] }
  | _ => none }
def StreamMovesWrongFalsely : Prop := streamMovesRow.holds Tryz.pinned (OpenSpec.ofChange streamMovesWrong)

/-- 'soundservicelaw20.StreamEnds': WHATEVER THE INPUT: true; the input reads as it did. -/
def streamEndsSpec : ChangeSpec := { name := "streamEnds", fn := fun _ => fun
  | [d1, d2, d3] => { results := [.lit (.bool true)], args := [d1, d2, d3] }
  | _ => none }
def streamEndsRow : OpenClaim := { program := "ytdhhjfnmocimmaagreat", sum := "96419fe186829b601813122e7c7f8a3c79826b3ee6fc8ef335176acf757a800d", func := "soundservice/soundservicelaw20.StreamEnds", spec := "streamEnds", unfollowed := true, recurses := true, apart := false }
def StreamEndsSaid : Prop := streamEndsRow.holds Tryz.pinned (OpenSpec.ofChange streamEndsSpec)

/-- ITS FALSE NEIGHBOUR: 'it returns false'. Refute it at one input. -/
def streamEndsWrong : ChangeSpec := { name := "streamEnds", fn := fun _ => fun
  | [d1, d2, d3] => { results := [.lit (.bool false)], args := [d1, d2, d3] }
  | _ => none }
def StreamEndsWrongFalsely : Prop := streamEndsRow.holds Tryz.pinned (OpenSpec.ofChange streamEndsWrong)

/- THE SECOND FORM. 'bulk': how many values and letters a reading holds, each counted each time it is reached (what is shared counts as often as it is met; a slice's spare places count too). A statement '..UptoSaid' is the law's where the arguments, and the package variables that the reading takes, are together of bulk at most 1048576: NARROWER than '..Said'. Prove '..Said' where nothing that the law and all that it calls make is longer than what came in: it says more and counts as full. Else prove '..UptoSaid'. A law counts once. -/
mutual
def uptoBulk {H : Type} : DataW H → Nat
  | .lit (.string bytes) => bytes.length + 1
  | .lit _ => 1
  | .nil => 1
  | .ptr d => uptoBulk d + 1
  | .slice elems spare => uptoBulkAll elems + uptoBulkAll spare + 1
  | .agg parts => uptoBulkAll parts + 1
  | .iface _ d => uptoBulk d + 1
  | .map entries => uptoBulkEntries entries + 1
  | .held _ => 1
def uptoBulkAll {H : Type} : List (DataW H) → Nat
  | [] => 0
  | d :: r => uptoBulk d + uptoBulkAll r
def uptoBulkEntries {H : Type} : List (Lit × DataW H) → Nat
  | [] => 0
  | x :: r => uptoBulkEntry x + uptoBulkEntries r
def uptoBulkEntry {H : Type} : Lit × DataW H → Nat
  | (.string bytes, d) => bytes.length + uptoBulk d + 1
  | (_, d) => uptoBulk d + 1
 end
def uptoSmall : (H : Type) → List (DataW H) → Bool := fun _ ds => decide (uptoBulkAll ds ≤ 1048576)
def OpenSpec.upto (s : _root_.Go.ChangeSpec) : _root_.Go.OpenSpec := { _root_.Go.OpenSpec.ofChange s with cond := some uptoSmall }

/-- 'soundservicelaw20.StreamMakes', WHERE WHAT IT READS IS OF BULK AT MOST 1048576: true; the input reads as it did. -/
def streamMakesUptoRow : OpenClaim := { program := "ytdhhjfnmocimmaagreat", sum := "96419fe186829b601813122e7c7f8a3c79826b3ee6fc8ef335176acf757a800d", func := "soundservice/soundservicelaw20.StreamMakes", spec := "streamMakes", unfollowed := true, recurses := true, apart := false, narrowed := true }
def StreamMakesUptoSaid : Prop := streamMakesUptoRow.holds Tryz.pinned (OpenSpec.upto streamMakesSpec)

/-- 'soundservicelaw20.StreamOwing', WHERE WHAT IT READS IS OF BULK AT MOST 1048576: true; the input reads as it did. -/
def streamOwingUptoRow : OpenClaim := { program := "ytdhhjfnmocimmaagreat", sum := "96419fe186829b601813122e7c7f8a3c79826b3ee6fc8ef335176acf757a800d", func := "soundservice/soundservicelaw20.StreamOwing", spec := "streamOwing", unfollowed := true, recurses := true, apart := false, narrowed := true }
def StreamOwingUptoSaid : Prop := streamOwingUptoRow.holds Tryz.pinned (OpenSpec.upto streamOwingSpec)

/-- 'soundservicelaw20.StreamRewinds', WHERE WHAT IT READS IS OF BULK AT MOST 1048576: true; the input reads as it did. -/
def streamRewindsUptoRow : OpenClaim := { program := "ytdhhjfnmocimmaagreat", sum := "96419fe186829b601813122e7c7f8a3c79826b3ee6fc8ef335176acf757a800d", func := "soundservice/soundservicelaw20.StreamRewinds", spec := "streamRewinds", unfollowed := true, recurses := true, apart := false, narrowed := true }
def StreamRewindsUptoSaid : Prop := streamRewindsUptoRow.holds Tryz.pinned (OpenSpec.upto streamRewindsSpec)

/-- 'soundservicelaw20.StreamWrites', WHERE WHAT IT READS IS OF BULK AT MOST 1048576: true; the input reads as it did. -/
def streamWritesUptoRow : OpenClaim := { program := "ytdhhjfnmocimmaagreat", sum := "96419fe186829b601813122e7c7f8a3c79826b3ee6fc8ef335176acf757a800d", func := "soundservice/soundservicelaw20.StreamWrites", spec := "streamWrites", unfollowed := true, recurses := true, apart := false, narrowed := true }
def StreamWritesUptoSaid : Prop := streamWritesUptoRow.holds Tryz.pinned (OpenSpec.upto streamWritesSpec)

/-- 'soundservicelaw20.StreamMoves', WHERE WHAT IT READS IS OF BULK AT MOST 1048576: true; the input reads as it did. -/
def streamMovesUptoRow : OpenClaim := { program := "ytdhhjfnmocimmaagreat", sum := "96419fe186829b601813122e7c7f8a3c79826b3ee6fc8ef335176acf757a800d", func := "soundservice/soundservicelaw20.StreamMoves", spec := "streamMoves", unfollowed := true, recurses := true, apart := false, narrowed := true }
def StreamMovesUptoSaid : Prop := streamMovesUptoRow.holds Tryz.pinned (OpenSpec.upto streamMovesSpec)

/-- 'soundservicelaw20.StreamEnds', WHERE WHAT IT READS IS OF BULK AT MOST 1048576: true; the input reads as it did. -/
def streamEndsUptoRow : OpenClaim := { program := "ytdhhjfnmocimmaagreat", sum := "96419fe186829b601813122e7c7f8a3c79826b3ee6fc8ef335176acf757a800d", func := "soundservice/soundservicelaw20.StreamEnds", spec := "streamEnds", unfollowed := true, recurses := true, apart := false, narrowed := true }
def StreamEndsUptoSaid : Prop := streamEndsUptoRow.holds Tryz.pinned (OpenSpec.upto streamEndsSpec)

end Rows
end Go.Proofs.YtdhhjfnmocimmaaGreat
