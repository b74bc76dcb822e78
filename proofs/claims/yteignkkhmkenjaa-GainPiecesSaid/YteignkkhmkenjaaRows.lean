/-
  No cell of these rows narrows 'for every input' (looked for: loops, veiled, ifaces, maps, wideKeys, modest, calm, conditions, laid).
  DERIVED. THE GIVEN ROWS OF THIS SEAT. 9 by the template 'for every input the law returns true; each argument reads behind the call as it read before'; 0 by the template 'total and deterministic' (their statements: YteignkkhmkenjaaTotals.lean).
  GIVEN WITH THE SEED: the statements are not yours to turn. If you find one false, say at which input.
  Laid BY PROGRAM, IN A SANDBOX (cutbox-rows.mjs): the forced cells as the released guide's own fill.sh prints them over the translation a1b5db5e0f76a7fa… (all of the seat's roots in one cut). By AI agents, Wed Nov 11 2026. No macro, syntax, notation, axiom, sorry.
-/
import Derived.Test.YteignkkhmkenjaaChecked
import GoSem.Claim
import GoSem.ClaimJoined
import GoSem.ClaimMapViews
import Derived.JoinedTies
import Derived.KernelRfl
namespace Go.Proofs.Yteignkkhmkenjaa
/- THE CELL 'sum', in the pinned program and in every row, IS THE sha256 OF THE DUMP (.gsa) THAT YteignkkhmkenjaaProg.lean LOADS. Nothing in Lean hashes anything: it is a label: what it is worth is what the hold of that sum in a sandbox is worth. -/
noncomputable def Try.pinned : Pinned := { name := "yteignkkhmkenjaa", sum := "a1b5db5e0f76a7fae0aae953473793a75d34095dd4f758d91501c9cd2ef6e0fc", checked := Try.checked }
namespace Rows
def none {H : Type} : Left H := { results := [], args := [] }

/-- 'soundservicelaw05.GainApplies': WHATEVER THE INPUT: true; the input reads as it did. -/
def gainAppliesSpec : ChangeSpec := { name := "gainApplies", fn := fun _ => fun
  | [d1, d2, d3, d4] => { results := [.lit (.bool true)], args := [d1, d2, d3, d4] }
  | _ => none }
def gainAppliesRow : OpenClaim := { program := "yteignkkhmkenjaa", sum := "a1b5db5e0f76a7fae0aae953473793a75d34095dd4f758d91501c9cd2ef6e0fc", func := "soundservice/soundservicelaw05.GainApplies", spec := "gainApplies", apart := false }
def GainAppliesSaid : Prop := gainAppliesRow.holds Try.pinned (OpenSpec.ofChange gainAppliesSpec)

/-- ITS FALSE NEIGHBOUR: 'it returns false'. Refute it at one input. -/
def gainAppliesWrong : ChangeSpec := { name := "gainApplies", fn := fun _ => fun
  | [d1, d2, d3, d4] => { results := [.lit (.bool false)], args := [d1, d2, d3, d4] }
  | _ => none }
def GainAppliesWrongFalsely : Prop := gainAppliesRow.holds Try.pinned (OpenSpec.ofChange gainAppliesWrong)

/-- 'soundservicelaw05.GainUnit': WHATEVER THE INPUT: true; the input reads as it did. -/
def gainUnitSpec : ChangeSpec := { name := "gainUnit", fn := fun _ => fun
  | [d1, d2, d3] => { results := [.lit (.bool true)], args := [d1, d2, d3] }
  | _ => none }
def gainUnitRow : OpenClaim := { program := "yteignkkhmkenjaa", sum := "a1b5db5e0f76a7fae0aae953473793a75d34095dd4f758d91501c9cd2ef6e0fc", func := "soundservice/soundservicelaw05.GainUnit", spec := "gainUnit", apart := false }
def GainUnitSaid : Prop := gainUnitRow.holds Try.pinned (OpenSpec.ofChange gainUnitSpec)

/-- ITS FALSE NEIGHBOUR: 'it returns false'. Refute it at one input. -/
def gainUnitWrong : ChangeSpec := { name := "gainUnit", fn := fun _ => fun
  | [d1, d2, d3] => { results := [.lit (.bool false)], args := [d1, d2, d3] }
  | _ => none }
def GainUnitWrongFalsely : Prop := gainUnitRow.holds Try.pinned (OpenSpec.ofChange gainUnitWrong)

/-- 'soundservicelaw05.GainProducts': WHATEVER THE INPUT: true; the input reads as it did. -/
def gainProductsSpec : ChangeSpec := { name := "gainProducts", fn := fun _ => fun
  | [d1, d2, d3] => { results := [.lit (.bool true)], args := [d1, d2, d3] }
  | _ => none }
def gainProductsRow : OpenClaim := { program := "yteignkkhmkenjaa", sum := "a1b5db5e0f76a7fae0aae953473793a75d34095dd4f758d91501c9cd2ef6e0fc", func := "soundservice/soundservicelaw05.GainProducts", spec := "gainProducts", apart := false }
def GainProductsSaid : Prop := gainProductsRow.holds Try.pinned (OpenSpec.ofChange gainProductsSpec)

/-- ITS FALSE NEIGHBOUR: 'it returns false'. Refute it at one input. -/
def gainProductsWrong : ChangeSpec := { name := "gainProducts", fn := fun _ => fun
  | [d1, d2, d3] => { results := [.lit (.bool false)], args := [d1, d2, d3] }
  | _ => none }
def GainProductsWrongFalsely : Prop := gainProductsRow.holds Try.pinned (OpenSpec.ofChange gainProductsWrong)

/-- 'soundservicelaw05.GainVolumes': WHATEVER THE INPUT: true; the input reads as it did. -/
def gainVolumesSpec : ChangeSpec := { name := "gainVolumes", fn := fun _ => fun
  | [d] => { results := [.lit (.bool true)], args := [d] }
  | _ => none }
def gainVolumesRow : OpenClaim := { program := "yteignkkhmkenjaa", sum := "a1b5db5e0f76a7fae0aae953473793a75d34095dd4f758d91501c9cd2ef6e0fc", func := "soundservice/soundservicelaw05.GainVolumes", spec := "gainVolumes", apart := false }
def GainVolumesSaid : Prop := gainVolumesRow.holds Try.pinned (OpenSpec.ofChange gainVolumesSpec)

/-- ITS FALSE NEIGHBOUR: 'it returns false'. Refute it at one input. -/
def gainVolumesWrong : ChangeSpec := { name := "gainVolumes", fn := fun _ => fun
  | [d] => { results := [.lit (.bool false)], args := [d] }
  | _ => none }
def GainVolumesWrongFalsely : Prop := gainVolumesRow.holds Try.pinned (OpenSpec.ofChange gainVolumesWrong)

/-- 'soundservicelaw05.GainRamps': WHATEVER THE INPUT: true; the input reads as it did. -/
def gainRampsSpec : ChangeSpec := { name := "gainRamps", fn := fun _ => fun
  | [d1, d2, d3, d4, d5] => { results := [.lit (.bool true)], args := [d1, d2, d3, d4, d5] }
  | _ => none }
def gainRampsRow : OpenClaim := { program := "yteignkkhmkenjaa", sum := "a1b5db5e0f76a7fae0aae953473793a75d34095dd4f758d91501c9cd2ef6e0fc", func := "soundservice/soundservicelaw05.GainRamps", spec := "gainRamps", apart := false }
def GainRampsSaid : Prop := gainRampsRow.holds Try.pinned (OpenSpec.ofChange gainRampsSpec)

/-- ITS FALSE NEIGHBOUR: 'it returns false'. Refute it at one input. -/
def gainRampsWrong : ChangeSpec := { name := "gainRamps", fn := fun _ => fun
  | [d1, d2, d3, d4, d5] => { results := [.lit (.bool false)], args := [d1, d2, d3, d4, d5] }
  | _ => none }
def GainRampsWrongFalsely : Prop := gainRampsRow.holds Try.pinned (OpenSpec.ofChange gainRampsWrong)

/-- 'soundservicelaw05.GainMoves': WHATEVER THE INPUT: true; the input reads as it did. -/
def gainMovesSpec : ChangeSpec := { name := "gainMoves", fn := fun _ => fun
  | [d1, d2, d3, d4] => { results := [.lit (.bool true)], args := [d1, d2, d3, d4] }
  | _ => none }
def gainMovesRow : OpenClaim := { program := "yteignkkhmkenjaa", sum := "a1b5db5e0f76a7fae0aae953473793a75d34095dd4f758d91501c9cd2ef6e0fc", func := "soundservice/soundservicelaw05.GainMoves", spec := "gainMoves", apart := false }
def GainMovesSaid : Prop := gainMovesRow.holds Try.pinned (OpenSpec.ofChange gainMovesSpec)

/-- ITS FALSE NEIGHBOUR: 'it returns false'. Refute it at one input. -/
def gainMovesWrong : ChangeSpec := { name := "gainMoves", fn := fun _ => fun
  | [d1, d2, d3, d4] => { results := [.lit (.bool false)], args := [d1, d2, d3, d4] }
  | _ => none }
def GainMovesWrongFalsely : Prop := gainMovesRow.holds Try.pinned (OpenSpec.ofChange gainMovesWrong)

/-- 'soundservicelaw05.GainRuns': WHATEVER THE INPUT: true; the input reads as it did. -/
def gainRunsSpec : ChangeSpec := { name := "gainRuns", fn := fun _ => fun
  | [d1, d2, d3] => { results := [.lit (.bool true)], args := [d1, d2, d3] }
  | _ => none }
def gainRunsRow : OpenClaim := { program := "yteignkkhmkenjaa", sum := "a1b5db5e0f76a7fae0aae953473793a75d34095dd4f758d91501c9cd2ef6e0fc", func := "soundservice/soundservicelaw05.GainRuns", spec := "gainRuns", apart := false }
def GainRunsSaid : Prop := gainRunsRow.holds Try.pinned (OpenSpec.ofChange gainRunsSpec)

/-- ITS FALSE NEIGHBOUR: 'it returns false'. Refute it at one input. -/
def gainRunsWrong : ChangeSpec := { name := "gainRuns", fn := fun _ => fun
  | [d1, d2, d3] => { results := [.lit (.bool false)], args := [d1, d2, d3] }
  | _ => none }
def GainRunsWrongFalsely : Prop := gainRunsRow.holds Try.pinned (OpenSpec.ofChange gainRunsWrong)

/-- 'soundservicelaw05.GainPieces': WHATEVER THE INPUT: true; the input reads as it did. -/
def gainPiecesSpec : ChangeSpec := { name := "gainPieces", fn := fun _ => fun
  | [d1, d2] => { results := [.lit (.bool true)], args := [d1, d2] }
  | _ => none }
def gainPiecesRow : OpenClaim := { program := "yteignkkhmkenjaa", sum := "a1b5db5e0f76a7fae0aae953473793a75d34095dd4f758d91501c9cd2ef6e0fc", func := "soundservice/soundservicelaw05.GainPieces", spec := "gainPieces", apart := false }
def GainPiecesSaid : Prop := gainPiecesRow.holds Try.pinned (OpenSpec.ofChange gainPiecesSpec)

/-- ITS FALSE NEIGHBOUR: 'it returns false'. Refute it at one input. -/
def gainPiecesWrong : ChangeSpec := { name := "gainPieces", fn := fun _ => fun
  | [d1, d2] => { results := [.lit (.bool false)], args := [d1, d2] }
  | _ => none }
def GainPiecesWrongFalsely : Prop := gainPiecesRow.holds Try.pinned (OpenSpec.ofChange gainPiecesWrong)

/-- 'soundservicelaw05.GainRetargets': WHATEVER THE INPUT: true; the input reads as it did. -/
def gainRetargetsSpec : ChangeSpec := { name := "gainRetargets", fn := fun _ => fun
  | [d1, d2] => { results := [.lit (.bool true)], args := [d1, d2] }
  | _ => none }
def gainRetargetsRow : OpenClaim := { program := "yteignkkhmkenjaa", sum := "a1b5db5e0f76a7fae0aae953473793a75d34095dd4f758d91501c9cd2ef6e0fc", func := "soundservice/soundservicelaw05.GainRetargets", spec := "gainRetargets", apart := false }
def GainRetargetsSaid : Prop := gainRetargetsRow.holds Try.pinned (OpenSpec.ofChange gainRetargetsSpec)

/-- ITS FALSE NEIGHBOUR: 'it returns false'. Refute it at one input. -/
def gainRetargetsWrong : ChangeSpec := { name := "gainRetargets", fn := fun _ => fun
  | [d1, d2] => { results := [.lit (.bool false)], args := [d1, d2] }
  | _ => none }
def GainRetargetsWrongFalsely : Prop := gainRetargetsRow.holds Try.pinned (OpenSpec.ofChange gainRetargetsWrong)

/- THE SECOND FORM. 'bulk': how many values and letters a reading holds, each counted each time it is reached (what is shared counts as often as it is met; a slice's spare places count too). A statement '..UptoSaid' is the law's where the arguments, and the package variables that the reading takes, are together of bulk at most 1048576: NARROWER than '..Said'. Prove '..Said' where nothing that the law and all that it calls make is longer than what came in: it says more and counts as full. Else prove '..UptoSaid'. A law counts once. -/
mutual
def uptoBulk {H : Type} : DataW H → Nat
  | .lit (.string bytes) => bytes.length + 1
  | .lit _ => 1
  | .nil => 1
  | .ptr d => uptoBulk d + 1
  | .slice elems spare => uptoBulkAll elems + uptoBulkAll spare + 1
  | .agg parts => uptoBulkAll parts + 1
  | .iface _ d => uptoBulk d + 1
  | .map entries => uptoBulkEntries entries + 1
  | .held _ => 1
def uptoBulkAll {H : Type} : List (DataW H) → Nat
  | [] => 0
  | d :: r => uptoBulk d + uptoBulkAll r
def uptoBulkEntries {H : Type} : List (Lit × DataW H) → Nat
  | [] => 0
  | x :: r => uptoBulkEntry x + uptoBulkEntries r
def uptoBulkEntry {H : Type} : Lit × DataW H → Nat
  | (.string bytes, d) => bytes.length + uptoBulk d + 1
  | (_, d) => uptoBulk d + 1
 end
def uptoSmall : (H : Type) → List (DataW H) → Bool := fun _ ds => decide (uptoBulkAll ds ≤ 1048576)
def OpenSpec.upto (s : _root_.Go.ChangeSpec) : _root_.Go.OpenSpec := { _root_.Go.OpenSpec.ofChange s with cond := some uptoSmall }

/-- 'soundservicelaw05.GainApplies', WHERE WHAT IT READS IS OF BULK AT MOST 1048576: true; the input reads as it did. -/
def gainAppliesUptoRow : OpenClaim := { program := "yteignkkhmkenjaa", sum := "a1b5db5e0f76a7fae0aae953473793a75d34095dd4f758d91501c9cd2ef6e0fc", func := "soundservice/soundservicelaw05.GainApplies", spec := "gainApplies", apart := false, narrowed := true }
def GainAppliesUptoSaid : Prop := gainAppliesUptoRow.holds Try.pinned (OpenSpec.upto gainAppliesSpec)

/-- 'soundservicelaw05.GainUnit', WHERE WHAT IT READS IS OF BULK AT MOST 1048576: true; the input reads as it did. -/
def gainUnitUptoRow : OpenClaim := { program := "yteignkkhmkenjaa", sum := "a1b5db5e0f76a7fae0aae953473793a75d34095dd4f758d91501c9cd2ef6e0fc", func := "soundservice/soundservicelaw05.GainUnit", spec := "gainUnit", apart := false, narrowed := true }
def GainUnitUptoSaid : Prop := gainUnitUptoRow.holds Try.pinned (OpenSpec.upto gainUnitSpec)

/-- 'soundservicelaw05.GainProducts', WHERE WHAT IT READS IS OF BULK AT MOST 1048576: true; the input reads as it did. -/
def gainProductsUptoRow : OpenClaim := { program := "yteignkkhmkenjaa", sum := "a1b5db5e0f76a7fae0aae953473793a75d34095dd4f758d91501c9cd2ef6e0fc", func := "soundservice/soundservicelaw05.GainProducts", spec := "gainProducts", apart := false, narrowed := true }
def GainProductsUptoSaid : Prop := gainProductsUptoRow.holds Try.pinned (OpenSpec.upto gainProductsSpec)

/-- 'soundservicelaw05.GainVolumes', WHERE WHAT IT READS IS OF BULK AT MOST 1048576: true; the input reads as it did. -/
def gainVolumesUptoRow : OpenClaim := { program := "yteignkkhmkenjaa", sum := "a1b5db5e0f76a7fae0aae953473793a75d34095dd4f758d91501c9cd2ef6e0fc", func := "soundservice/soundservicelaw05.GainVolumes", spec := "gainVolumes", apart := false, narrowed := true }
def GainVolumesUptoSaid : Prop := gainVolumesUptoRow.holds Try.pinned (OpenSpec.upto gainVolumesSpec)

/-- 'soundservicelaw05.GainRamps', WHERE WHAT IT READS IS OF BULK AT MOST 1048576: true; the input reads as it did. -/
def gainRampsUptoRow : OpenClaim := { program := "yteignkkhmkenjaa", sum := "a1b5db5e0f76a7fae0aae953473793a75d34095dd4f758d91501c9cd2ef6e0fc", func := "soundservice/soundservicelaw05.GainRamps", spec := "gainRamps", apart := false, narrowed := true }
def GainRampsUptoSaid : Prop := gainRampsUptoRow.holds Try.pinned (OpenSpec.upto gainRampsSpec)

/-- 'soundservicelaw05.GainMoves', WHERE WHAT IT READS IS OF BULK AT MOST 1048576: true; the input reads as it did. -/
def gainMovesUptoRow : OpenClaim := { program := "yteignkkhmkenjaa", sum := "a1b5db5e0f76a7fae0aae953473793a75d34095dd4f758d91501c9cd2ef6e0fc", func := "soundservice/soundservicelaw05.GainMoves", spec := "gainMoves", apart := false, narrowed := true }
def GainMovesUptoSaid : Prop := gainMovesUptoRow.holds Try.pinned (OpenSpec.upto gainMovesSpec)

/-- 'soundservicelaw05.GainRuns', WHERE WHAT IT READS IS OF BULK AT MOST 1048576: true; the input reads as it did. -/
def gainRunsUptoRow : OpenClaim := { program := "yteignkkhmkenjaa", sum := "a1b5db5e0f76a7fae0aae953473793a75d34095dd4f758d91501c9cd2ef6e0fc", func := "soundservice/soundservicelaw05.GainRuns", spec := "gainRuns", apart := false, narrowed := true }
def GainRunsUptoSaid : Prop := gainRunsUptoRow.holds Try.pinned (OpenSpec.upto gainRunsSpec)

/-- 'soundservicelaw05.GainPieces', WHERE WHAT IT READS IS OF BULK AT MOST 1048576: true; the input reads as it did. -/
def gainPiecesUptoRow : OpenClaim := { program := "yteignkkhmkenjaa", sum := "a1b5db5e0f76a7fae0aae953473793a75d34095dd4f758d91501c9cd2ef6e0fc", func := "soundservice/soundservicelaw05.GainPieces", spec := "gainPieces", apart := false, narrowed := true }
def GainPiecesUptoSaid : Prop := gainPiecesUptoRow.holds Try.pinned (OpenSpec.upto gainPiecesSpec)

/-- 'soundservicelaw05.GainRetargets', WHERE WHAT IT READS IS OF BULK AT MOST 1048576: true; the input reads as it did. -/
def gainRetargetsUptoRow : OpenClaim := { program := "yteignkkhmkenjaa", sum := "a1b5db5e0f76a7fae0aae953473793a75d34095dd4f758d91501c9cd2ef6e0fc", func := "soundservice/soundservicelaw05.GainRetargets", spec := "gainRetargets", apart := false, narrowed := true }
def GainRetargetsUptoSaid : Prop := gainRetargetsUptoRow.holds Try.pinned (OpenSpec.upto gainRetargetsSpec)

end Rows
end Go.Proofs.Yteignkkhmkenjaa
