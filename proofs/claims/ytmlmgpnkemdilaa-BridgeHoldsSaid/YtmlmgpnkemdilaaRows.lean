/-
  No cell of these rows narrows 'for every input' (looked for: loops, veiled, ifaces, maps, wideKeys, modest, calm, conditions, laid).
  DERIVED. THE GIVEN ROWS OF THIS SEAT. 5 by the template 'for every input the law returns true; each argument reads behind the call as it read before'; 0 by the template 'total and deterministic' (their statements: YtmlmgpnkemdilaaTotals.lean).
  GIVEN WITH THE SEED: the statements are not yours to turn. If you find one false, say at which input.
  Laid BY PROGRAM, IN A SANDBOX (cutbox-rows.mjs): the forced cells as the released guide's own fill.sh prints them over the translation b35931bcca735065… (all of the seat's roots in one cut). By AI agents, Wed Nov 11 2026. No macro, syntax, notation, axiom, sorry.
-/
import Derived.Test.YtmlmgpnkemdilaaChecked
import GoSem.Claim
import GoSem.ClaimJoined
import GoSem.ClaimMapViews
import Derived.JoinedTies
import Derived.KernelRfl
namespace Go.Proofs.Ytmlmgpnkemdilaa
/- THE CELL 'sum', in the pinned program and in every row, IS THE sha256 OF THE DUMP (.gsa) THAT YtmlmgpnkemdilaaProg.lean LOADS. Nothing in Lean hashes anything: it is a label: what it is worth is what the hold of that sum in a sandbox is worth. -/
noncomputable def Try.pinned : Pinned := { name := "ytmlmgpnkemdilaa", sum := "b35931bcca73506570af3a75e3dc57f0054c9c00581fc3af3cb0f62b48d017db", checked := Try.checked }
namespace Rows
def none {H : Type} : Left H := { results := [], args := [] }

/-- 'soundservicelaw19.BridgeMoves': WHATEVER THE INPUT: true; the input reads as it did. -/
def bridgeMovesSpec : ChangeSpec := { name := "bridgeMoves", fn := fun _ => fun
  | [d1, d2, d3, d4, d5, d6, d7, d8] => { results := [.lit (.bool true)], args := [d1, d2, d3, d4, d5, d6, d7, d8] }
  | _ => none }
def bridgeMovesRow : OpenClaim := { program := "ytmlmgpnkemdilaa", sum := "b35931bcca73506570af3a75e3dc57f0054c9c00581fc3af3cb0f62b48d017db", func := "soundservice/soundservicelaw19.BridgeMoves", spec := "bridgeMoves", unfollowed := true, recurses := true, apart := false }
def BridgeMovesSaid : Prop := bridgeMovesRow.holds Try.pinned (OpenSpec.ofChange bridgeMovesSpec)

/-- ITS FALSE NEIGHBOUR: 'it returns false'. Refute it at one input. -/
def bridgeMovesWrong : ChangeSpec := { name := "bridgeMoves", fn := fun _ => fun
  | [d1, d2, d3, d4, d5, d6, d7, d8] => { results := [.lit (.bool false)], args := [d1, d2, d3, d4, d5, d6, d7, d8] }
  | _ => none }
def BridgeMovesWrongFalsely : Prop := bridgeMovesRow.holds Try.pinned (OpenSpec.ofChange bridgeMovesWrong)

/-- 'soundservicelaw19.BridgeCounts': WHATEVER THE INPUT: true; the input reads as it did. -/
def bridgeCountsSpec : ChangeSpec := { name := "bridgeCounts", fn := fun _ => fun
  | [d1, d2] => { results := [.lit (.bool true)], args := [d1, d2] }
  | _ => none }
def bridgeCountsRow : OpenClaim := { program := "ytmlmgpnkemdilaa", sum := "b35931bcca73506570af3a75e3dc57f0054c9c00581fc3af3cb0f62b48d017db", func := "soundservice/soundservicelaw19.BridgeCounts", spec := "bridgeCounts", unfollowed := true, recurses := true, apart := false }
def BridgeCountsSaid : Prop := bridgeCountsRow.holds Try.pinned (OpenSpec.ofChange bridgeCountsSpec)

/-- ITS FALSE NEIGHBOUR: 'it returns false'. Refute it at one input. -/
def bridgeCountsWrong : ChangeSpec := { name := "bridgeCounts", fn := fun _ => fun
  | [d1, d2] => { results := [.lit (.bool false)], args := [d1, d2] }
  | _ => none }
def BridgeCountsWrongFalsely : Prop := bridgeCountsRow.holds Try.pinned (OpenSpec.ofChange bridgeCountsWrong)

/-- 'soundservicelaw19.BridgeEqual': WHATEVER THE INPUT: true; the input reads as it did. -/
def bridgeEqualSpec : ChangeSpec := { name := "bridgeEqual", fn := fun _ => fun
  | [d1, d2] => { results := [.lit (.bool true)], args := [d1, d2] }
  | _ => none }
def bridgeEqualRow : OpenClaim := { program := "ytmlmgpnkemdilaa", sum := "b35931bcca73506570af3a75e3dc57f0054c9c00581fc3af3cb0f62b48d017db", func := "soundservice/soundservicelaw19.BridgeEqual", spec := "bridgeEqual", unfollowed := true, recurses := true, apart := false }
def BridgeEqualSaid : Prop := bridgeEqualRow.holds Try.pinned (OpenSpec.ofChange bridgeEqualSpec)

/-- ITS FALSE NEIGHBOUR: 'it returns false'. Refute it at one input. -/
def bridgeEqualWrong : ChangeSpec := { name := "bridgeEqual", fn := fun _ => fun
  | [d1, d2] => { results := [.lit (.bool false)], args := [d1, d2] }
  | _ => none }
def BridgeEqualWrongFalsely : Prop := bridgeEqualRow.holds Try.pinned (OpenSpec.ofChange bridgeEqualWrong)

/-- 'soundservicelaw19.BridgeParts': WHATEVER THE INPUT: true; the input reads as it did. -/
def bridgePartsSpec : ChangeSpec := { name := "bridgeParts", fn := fun _ => fun
  | [d1, d2, d3, d4] => { results := [.lit (.bool true)], args := [d1, d2, d3, d4] }
  | _ => none }
def bridgePartsRow : OpenClaim := { program := "ytmlmgpnkemdilaa", sum := "b35931bcca73506570af3a75e3dc57f0054c9c00581fc3af3cb0f62b48d017db", func := "soundservice/soundservicelaw19.BridgeParts", spec := "bridgeParts", unfollowed := true, recurses := true, apart := false }
def BridgePartsSaid : Prop := bridgePartsRow.holds Try.pinned (OpenSpec.ofChange bridgePartsSpec)

/-- ITS FALSE NEIGHBOUR: 'it returns false'. Refute it at one input. -/
def bridgePartsWrong : ChangeSpec := { name := "bridgeParts", fn := fun _ => fun
  | [d1, d2, d3, d4] => { results := [.lit (.bool false)], args := [d1, d2, d3, d4] }
  | _ => none }
def BridgePartsWrongFalsely : Prop := bridgePartsRow.holds Try.pinned (OpenSpec.ofChange bridgePartsWrong)

/-- 'soundservicelaw19.BridgeHolds': WHATEVER THE INPUT: true; the input reads as it did. -/
def bridgeHoldsSpec : ChangeSpec := { name := "bridgeHolds", fn := fun _ => fun
  | [d1, d2, d3, d4] => { results := [.lit (.bool true)], args := [d1, d2, d3, d4] }
  | _ => none }
def bridgeHoldsRow : OpenClaim := { program := "ytmlmgpnkemdilaa", sum := "b35931bcca73506570af3a75e3dc57f0054c9c00581fc3af3cb0f62b48d017db", func := "soundservice/soundservicelaw19.BridgeHolds", spec := "bridgeHolds", inPlace := ["math/bits.Add64"], unfollowed := true, recurses := true, apart := false }
def BridgeHoldsSaid : Prop := bridgeHoldsRow.holds Try.pinned (OpenSpec.ofChange bridgeHoldsSpec)

/-- ITS FALSE NEIGHBOUR: 'it returns false'. Refute it at one input. -/
def bridgeHoldsWrong : ChangeSpec := { name := "bridgeHolds", fn := fun _ => fun
  | [d1, d2, d3, d4] => { results := [.lit (.bool false)], args := [d1, d2, d3, d4] }
  | _ => none }
def BridgeHoldsWrongFalsely : Prop := bridgeHoldsRow.holds Try.pinned (OpenSpec.ofChange bridgeHoldsWrong)

/- THE SECOND FORM. 'bulk': how many values and letters a reading holds, each counted each time it is reached (what is shared counts as often as it is met; a slice's spare places count too). A statement '..UptoSaid' is the law's where the arguments, and the package variables that the reading takes, are together of bulk at most 1048576: NARROWER than '..Said'. Prove '..Said' where nothing that the law and all that it calls make is longer than what came in: it says more and counts as full. Else prove '..UptoSaid'. A law counts once. -/
mutual
def uptoBulk {H : Type} : DataW H → Nat
  | .lit (.string bytes) => bytes.length + 1
  | .lit _ => 1
  | .nil => 1
  | .ptr d => uptoBulk d + 1
  | .slice elems spare => uptoBulkAll elems + uptoBulkAll spare + 1
  | .agg parts => uptoBulkAll parts + 1
  | .iface _ d => uptoBulk d + 1
  | .map entries => uptoBulkEntries entries + 1
  | .held _ => 1
def uptoBulkAll {H : Type} : List (DataW H) → Nat
  | [] => 0
  | d :: r => uptoBulk d + uptoBulkAll r
def uptoBulkEntries {H : Type} : List (Lit × DataW H) → Nat
  | [] => 0
  | x :: r => uptoBulkEntry x + uptoBulkEntries r
def uptoBulkEntry {H : Type} : Lit × DataW H → Nat
  | (.string bytes, d) => bytes.length + uptoBulk d + 1
  | (_, d) => uptoBulk d + 1
 end
def uptoSmall : (H : Type) → List (DataW H) → Bool := fun _ ds => decide (uptoBulkAll ds ≤ 1048576)
def OpenSpec.upto (s : _root_.Go.ChangeSpec) : _root_.Go.OpenSpec := { _root_.Go.OpenSpec.ofChange s with cond := some uptoSmall }

/-- 'soundservicelaw19.BridgeMoves', WHERE WHAT IT READS IS OF BULK AT MOST 1048576: true; the input reads as it did. -/
def bridgeMovesUptoRow : OpenClaim := { program := "ytmlmgpnkemdilaa", sum := "b35931bcca73506570af3a75e3dc57f0054c9c00581fc3af3cb0f62b48d017db", func := "soundservice/soundservicelaw19.BridgeMoves", spec := "bridgeMoves", unfollowed := true, recurses := true, apart := false, narrowed := true }
def BridgeMovesUptoSaid : Prop := bridgeMovesUptoRow.holds Try.pinned (OpenSpec.upto bridgeMovesSpec)

/-- 'soundservicelaw19.BridgeCounts', WHERE WHAT IT READS IS OF BULK AT MOST 1048576: true; the input reads as it did. -/
def bridgeCountsUptoRow : OpenClaim := { program := "ytmlmgpnkemdilaa", sum := "b35931bcca73506570af3a75e3dc57f0054c9c00581fc3af3cb0f62b48d017db", func := "soundservice/soundservicelaw19.BridgeCounts", spec := "bridgeCounts", unfollowed := true, recurses := true, apart := false, narrowed := true }
def BridgeCountsUptoSaid : Prop := bridgeCountsUptoRow.holds Try.pinned (OpenSpec.upto bridgeCountsSpec)

/-- 'soundservicelaw19.BridgeEqual', WHERE WHAT IT READS IS OF BULK AT MOST 1048576: true; the input reads as it did. -/
def bridgeEqualUptoRow : OpenClaim := { program := "ytmlmgpnkemdilaa", sum := "b35931bcca73506570af3a75e3dc57f0054c9c00581fc3af3cb0f62b48d017db", func := "soundservice/soundservicelaw19.BridgeEqual", spec := "bridgeEqual", unfollowed := true, recurses := true, apart := false, narrowed := true }
def BridgeEqualUptoSaid : Prop := bridgeEqualUptoRow.holds Try.pinned (OpenSpec.upto bridgeEqualSpec)

/-- 'soundservicelaw19.BridgeParts', WHERE WHAT IT READS IS OF BULK AT MOST 1048576: true; the input reads as it did. -/
def bridgePartsUptoRow : OpenClaim := { program := "ytmlmgpnkemdilaa", sum := "b35931bcca73506570af3a75e3dc57f0054c9c00581fc3af3cb0f62b48d017db", func := "soundservice/soundservicelaw19.BridgeParts", spec := "bridgeParts", unfollowed := true, recurses := true, apart := false, narrowed := true }
def BridgePartsUptoSaid : Prop := bridgePartsUptoRow.holds Try.pinned (OpenSpec.upto bridgePartsSpec)

/-- 'soundservicelaw19.BridgeHolds', WHERE WHAT IT READS IS OF BULK AT MOST 1048576: true; the input reads as it did. -/
def bridgeHoldsUptoRow : OpenClaim := { program := "ytmlmgpnkemdilaa", sum := "b35931bcca73506570af3a75e3dc57f0054c9c00581fc3af3cb0f62b48d017db", func := "soundservice/soundservicelaw19.BridgeHolds", spec := "bridgeHolds", inPlace := ["math/bits.Add64"], unfollowed := true, recurses := true, apart := false, narrowed := true }
def BridgeHoldsUptoSaid : Prop := bridgeHoldsUptoRow.holds Try.pinned (OpenSpec.upto bridgeHoldsSpec)

end Rows
end Go.Proofs.Ytmlmgpnkemdilaa
