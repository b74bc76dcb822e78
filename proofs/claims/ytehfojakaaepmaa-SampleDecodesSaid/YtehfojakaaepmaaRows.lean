/-
  No cell of these rows narrows 'for every input' (looked for: loops, veiled, ifaces, maps, wideKeys, modest, calm, conditions, laid).
  DERIVED. THE GIVEN ROWS OF THIS SEAT. 6 by the template 'for every input the law returns true; each argument reads behind the call as it read before'; 0 by the template 'total and deterministic' (their statements: YtehfojakaaepmaaTotals.lean).
  GIVEN WITH THE SEED: the statements are not yours to turn. If you find one false, say at which input.
  Laid BY PROGRAM, IN A SANDBOX (cutbox-rows.mjs): the forced cells as the released guide's own fill.sh prints them over the translation e7bb7ef74b225967… (all of the seat's roots in one cut). By AI agents, Wed Nov 11 2026. No macro, syntax, notation, axiom, sorry.
-/
import Derived.Test.YtehfojakaaepmaaChecked
import GoSem.Claim
import GoSem.ClaimJoined
import GoSem.ClaimMapViews
import Derived.JoinedTies
import Derived.KernelRfl
namespace Go.Proofs.Ytehfojakaaepmaa
/- THE CELL 'sum', in the pinned program and in every row, IS THE sha256 OF THE DUMP (.gsa) THAT YtehfojakaaepmaaProg.lean LOADS. Nothing in Lean hashes anything: it is a label: what it is worth is what the hold of that sum in a sandbox is worth. -/
noncomputable def Try.pinned : Pinned := { name := "ytehfojakaaepmaa", sum := "e7bb7ef74b225967526d093a9bffb44970bcec21e601c26961f6c4ea70db44d6", checked := Try.checked }
namespace Rows
def none {H : Type} : Left H := { results := [], args := [] }

/-- 'soundservicelaw04.SampleEncodes': WHATEVER THE INPUT: true; the input reads as it did. -/
def sampleEncodesSpec : ChangeSpec := { name := "sampleEncodes", fn := fun _ => fun
  | [d1, d2, d3] => { results := [.lit (.bool true)], args := [d1, d2, d3] }
  | _ => none }
def sampleEncodesRow : OpenClaim := { program := "ytehfojakaaepmaa", sum := "e7bb7ef74b225967526d093a9bffb44970bcec21e601c26961f6c4ea70db44d6", func := "soundservice/soundservicelaw04.SampleEncodes", spec := "sampleEncodes", apart := false }
def SampleEncodesSaid : Prop := sampleEncodesRow.holds Try.pinned (OpenSpec.ofChange sampleEncodesSpec)

/-- ITS FALSE NEIGHBOUR: 'it returns false'. Refute it at one input. -/
def sampleEncodesWrong : ChangeSpec := { name := "sampleEncodes", fn := fun _ => fun
  | [d1, d2, d3] => { results := [.lit (.bool false)], args := [d1, d2, d3] }
  | _ => none }
def SampleEncodesWrongFalsely : Prop := sampleEncodesRow.holds Try.pinned (OpenSpec.ofChange sampleEncodesWrong)

/-- 'soundservicelaw04.SampleBack': WHATEVER THE INPUT: true; the input reads as it did. -/
def sampleBackSpec : ChangeSpec := { name := "sampleBack", fn := fun _ => fun
  | [d1, d2] => { results := [.lit (.bool true)], args := [d1, d2] }
  | _ => none }
def sampleBackRow : OpenClaim := { program := "ytehfojakaaepmaa", sum := "e7bb7ef74b225967526d093a9bffb44970bcec21e601c26961f6c4ea70db44d6", func := "soundservice/soundservicelaw04.SampleBack", spec := "sampleBack", apart := false }
def SampleBackSaid : Prop := sampleBackRow.holds Try.pinned (OpenSpec.ofChange sampleBackSpec)

/-- ITS FALSE NEIGHBOUR: 'it returns false'. Refute it at one input. -/
def sampleBackWrong : ChangeSpec := { name := "sampleBack", fn := fun _ => fun
  | [d1, d2] => { results := [.lit (.bool false)], args := [d1, d2] }
  | _ => none }
def SampleBackWrongFalsely : Prop := sampleBackRow.holds Try.pinned (OpenSpec.ofChange sampleBackWrong)

/-- 'soundservicelaw04.SampleOrder': WHATEVER THE INPUT: true; the input reads as it did. -/
def sampleOrderSpec : ChangeSpec := { name := "sampleOrder", fn := fun _ => fun
  | [d1, d2, d3] => { results := [.lit (.bool true)], args := [d1, d2, d3] }
  | _ => none }
def sampleOrderRow : OpenClaim := { program := "ytehfojakaaepmaa", sum := "e7bb7ef74b225967526d093a9bffb44970bcec21e601c26961f6c4ea70db44d6", func := "soundservice/soundservicelaw04.SampleOrder", spec := "sampleOrder", apart := false }
def SampleOrderSaid : Prop := sampleOrderRow.holds Try.pinned (OpenSpec.ofChange sampleOrderSpec)

/-- ITS FALSE NEIGHBOUR: 'it returns false'. Refute it at one input. -/
def sampleOrderWrong : ChangeSpec := { name := "sampleOrder", fn := fun _ => fun
  | [d1, d2, d3] => { results := [.lit (.bool false)], args := [d1, d2, d3] }
  | _ => none }
def SampleOrderWrongFalsely : Prop := sampleOrderRow.holds Try.pinned (OpenSpec.ofChange sampleOrderWrong)

/-- 'soundservicelaw04.SampleReverses': WHATEVER THE INPUT: true; the input reads as it did. -/
def sampleReversesSpec : ChangeSpec := { name := "sampleReverses", fn := fun _ => fun
  | [d1, d2] => { results := [.lit (.bool true)], args := [d1, d2] }
  | _ => none }
def sampleReversesRow : OpenClaim := { program := "ytehfojakaaepmaa", sum := "e7bb7ef74b225967526d093a9bffb44970bcec21e601c26961f6c4ea70db44d6", func := "soundservice/soundservicelaw04.SampleReverses", spec := "sampleReverses", apart := false }
def SampleReversesSaid : Prop := sampleReversesRow.holds Try.pinned (OpenSpec.ofChange sampleReversesSpec)

/-- ITS FALSE NEIGHBOUR: 'it returns false'. Refute it at one input. -/
def sampleReversesWrong : ChangeSpec := { name := "sampleReverses", fn := fun _ => fun
  | [d1, d2] => { results := [.lit (.bool false)], args := [d1, d2] }
  | _ => none }
def SampleReversesWrongFalsely : Prop := sampleReversesRow.holds Try.pinned (OpenSpec.ofChange sampleReversesWrong)

/-- 'soundservicelaw04.SampleDecodes': WHATEVER THE INPUT: true; the input reads as it did. -/
def sampleDecodesSpec : ChangeSpec := { name := "sampleDecodes", fn := fun _ => fun
  | [d1, d2, d3] => { results := [.lit (.bool true)], args := [d1, d2, d3] }
  | _ => none }
def sampleDecodesRow : OpenClaim := { program := "ytehfojakaaepmaa", sum := "e7bb7ef74b225967526d093a9bffb44970bcec21e601c26961f6c4ea70db44d6", func := "soundservice/soundservicelaw04.SampleDecodes", spec := "sampleDecodes", apart := false }
def SampleDecodesSaid : Prop := sampleDecodesRow.holds Try.pinned (OpenSpec.ofChange sampleDecodesSpec)

/-- ITS FALSE NEIGHBOUR: 'it returns false'. Refute it at one input. -/
def sampleDecodesWrong : ChangeSpec := { name := "sampleDecodes", fn := fun _ => fun
  | [d1, d2, d3] => { results := [.lit (.bool false)], args := [d1, d2, d3] }
  | _ => none }
def SampleDecodesWrongFalsely : Prop := sampleDecodesRow.holds Try.pinned (OpenSpec.ofChange sampleDecodesWrong)

/-- 'soundservicelaw04.SampleBlocks': WHATEVER THE INPUT: true; the input reads as it did. -/
def sampleBlocksSpec : ChangeSpec := { name := "sampleBlocks", fn := fun _ => fun
  | [d1, d2, d3] => { results := [.lit (.bool true)], args := [d1, d2, d3] }
  | _ => none }
def sampleBlocksRow : OpenClaim := { program := "ytehfojakaaepmaa", sum := "e7bb7ef74b225967526d093a9bffb44970bcec21e601c26961f6c4ea70db44d6", func := "soundservice/soundservicelaw04.SampleBlocks", spec := "sampleBlocks", apart := false }
def SampleBlocksSaid : Prop := sampleBlocksRow.holds Try.pinned (OpenSpec.ofChange sampleBlocksSpec)

/-- ITS FALSE NEIGHBOUR: 'it returns false'. Refute it at one input. -/
def sampleBlocksWrong : ChangeSpec := { name := "sampleBlocks", fn := fun _ => fun
  | [d1, d2, d3] => { results := [.lit (.bool false)], args := [d1, d2, d3] }
  | _ => none }
def SampleBlocksWrongFalsely : Prop := sampleBlocksRow.holds Try.pinned (OpenSpec.ofChange sampleBlocksWrong)

/- THE SECOND FORM. 'bulk': how many values and letters a reading holds, each counted each time it is reached (what is shared counts as often as it is met; a slice's spare places count too). A statement '..UptoSaid' is the law's where the arguments, and the package variables that the reading takes, are together of bulk at most 1048576: NARROWER than '..Said'. Prove '..Said' where nothing that the law and all that it calls make is longer than what came in: it says more and counts as full. Else prove '..UptoSaid'. A law counts once. -/
mutual
def uptoBulk {H : Type} : DataW H → Nat
  | .lit (.string bytes) => bytes.length + 1
  | .lit _ => 1
  | .nil => 1
  | .ptr d => uptoBulk d + 1
  | .slice elems spare => uptoBulkAll elems + uptoBulkAll spare + 1
  | .agg parts => uptoBulkAll parts + 1
  | .iface _ d => uptoBulk d + 1
  | .map entries => uptoBulkEntries entries + 1
  | .held _ => 1
def uptoBulkAll {H : Type} : List (DataW H) → Nat
  | [] => 0
  | d :: r => uptoBulk d + uptoBulkAll r
def uptoBulkEntries {H : Type} : List (Lit × DataW H) → Nat
  | [] => 0
  | x :: r => uptoBulkEntry x + uptoBulkEntries r
def uptoBulkEntry {H : Type} : Lit × DataW H → Nat
  | (.string bytes, d) => bytes.length + uptoBulk d + 1
  | (_, d) => uptoBulk d + 1
 end
def uptoSmall : (H : Type) → List (DataW H) → Bool := fun _ ds => decide (uptoBulkAll ds ≤ 1048576)
def OpenSpec.upto (s : _root_.Go.ChangeSpec) : _root_.Go.OpenSpec := { _root_.Go.OpenSpec.ofChange s with cond := some uptoSmall }

/-- 'soundservicelaw04.SampleEncodes', WHERE WHAT IT READS IS OF BULK AT MOST 1048576: true; the input reads as it did. -/
def sampleEncodesUptoRow : OpenClaim := { program := "ytehfojakaaepmaa", sum := "e7bb7ef74b225967526d093a9bffb44970bcec21e601c26961f6c4ea70db44d6", func := "soundservice/soundservicelaw04.SampleEncodes", spec := "sampleEncodes", apart := false, narrowed := true }
def SampleEncodesUptoSaid : Prop := sampleEncodesUptoRow.holds Try.pinned (OpenSpec.upto sampleEncodesSpec)

/-- 'soundservicelaw04.SampleBack', WHERE WHAT IT READS IS OF BULK AT MOST 1048576: true; the input reads as it did. -/
def sampleBackUptoRow : OpenClaim := { program := "ytehfojakaaepmaa", sum := "e7bb7ef74b225967526d093a9bffb44970bcec21e601c26961f6c4ea70db44d6", func := "soundservice/soundservicelaw04.SampleBack", spec := "sampleBack", apart := false, narrowed := true }
def SampleBackUptoSaid : Prop := sampleBackUptoRow.holds Try.pinned (OpenSpec.upto sampleBackSpec)

/-- 'soundservicelaw04.SampleOrder', WHERE WHAT IT READS IS OF BULK AT MOST 1048576: true; the input reads as it did. -/
def sampleOrderUptoRow : OpenClaim := { program := "ytehfojakaaepmaa", sum := "e7bb7ef74b225967526d093a9bffb44970bcec21e601c26961f6c4ea70db44d6", func := "soundservice/soundservicelaw04.SampleOrder", spec := "sampleOrder", apart := false, narrowed := true }
def SampleOrderUptoSaid : Prop := sampleOrderUptoRow.holds Try.pinned (OpenSpec.upto sampleOrderSpec)

/-- 'soundservicelaw04.SampleReverses', WHERE WHAT IT READS IS OF BULK AT MOST 1048576: true; the input reads as it did. -/
def sampleReversesUptoRow : OpenClaim := { program := "ytehfojakaaepmaa", sum := "e7bb7ef74b225967526d093a9bffb44970bcec21e601c26961f6c4ea70db44d6", func := "soundservice/soundservicelaw04.SampleReverses", spec := "sampleReverses", apart := false, narrowed := true }
def SampleReversesUptoSaid : Prop := sampleReversesUptoRow.holds Try.pinned (OpenSpec.upto sampleReversesSpec)

/-- 'soundservicelaw04.SampleDecodes', WHERE WHAT IT READS IS OF BULK AT MOST 1048576: true; the input reads as it did. -/
def sampleDecodesUptoRow : OpenClaim := { program := "ytehfojakaaepmaa", sum := "e7bb7ef74b225967526d093a9bffb44970bcec21e601c26961f6c4ea70db44d6", func := "soundservice/soundservicelaw04.SampleDecodes", spec := "sampleDecodes", apart := false, narrowed := true }
def SampleDecodesUptoSaid : Prop := sampleDecodesUptoRow.holds Try.pinned (OpenSpec.upto sampleDecodesSpec)

/-- 'soundservicelaw04.SampleBlocks', WHERE WHAT IT READS IS OF BULK AT MOST 1048576: true; the input reads as it did. -/
def sampleBlocksUptoRow : OpenClaim := { program := "ytehfojakaaepmaa", sum := "e7bb7ef74b225967526d093a9bffb44970bcec21e601c26961f6c4ea70db44d6", func := "soundservice/soundservicelaw04.SampleBlocks", spec := "sampleBlocks", apart := false, narrowed := true }
def SampleBlocksUptoSaid : Prop := sampleBlocksUptoRow.holds Try.pinned (OpenSpec.upto sampleBlocksSpec)

end Rows
end Go.Proofs.Ytehfojakaaepmaa
