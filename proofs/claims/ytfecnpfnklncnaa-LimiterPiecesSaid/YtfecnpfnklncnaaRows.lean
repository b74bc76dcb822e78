/-
  No cell of these rows narrows 'for every input' (looked for: loops, veiled, ifaces, maps, wideKeys, modest, calm, conditions, laid).
  DERIVED. THE GIVEN ROWS OF THIS SEAT. 5 by the template 'for every input the law returns true; each argument reads behind the call as it read before'; 0 by the template 'total and deterministic' (their statements: YtfecnpfnklncnaaTotals.lean).
  GIVEN WITH THE SEED: the statements are not yours to turn. If you find one false, say at which input.
  Laid BY PROGRAM, IN A SANDBOX (cutbox-rows.mjs): the forced cells as the released guide's own fill.sh prints them over the translation 253576e283461e0f… (all of the seat's roots in one cut). By AI agents, Wed Nov 11 2026. No macro, syntax, notation, axiom, sorry.
-/
import Derived.Test.YtfecnpfnklncnaaChecked
import GoSem.Claim
import GoSem.ClaimJoined
import GoSem.ClaimMapViews
import Derived.JoinedTies
import Derived.KernelRfl
namespace Go.Proofs.Ytfecnpfnklncnaa
/- THE CELL 'sum', in the pinned program and in every row, IS THE sha256 OF THE DUMP (.gsa) THAT YtfecnpfnklncnaaProg.lean LOADS. Nothing in Lean hashes anything: it is a label: what it is worth is what the hold of that sum in a sandbox is worth. -/
noncomputable def Try.pinned : Pinned := { name := "ytfecnpfnklncnaa", sum := "253576e283461e0fde32fabc875ce741ca07609647b9060ce4cdbe4d3352f644", checked := Try.checked }
namespace Rows
def none {H : Type} : Left H := { results := [], args := [] }

/-- 'soundservicelaw08.LimiterRuns': WHATEVER THE INPUT: true; the input reads as it did. -/
def limiterRunsSpec : ChangeSpec := { name := "limiterRuns", fn := fun _ => fun
  | [d1, d2, d3, d4, d5, d6] => { results := [.lit (.bool true)], args := [d1, d2, d3, d4, d5, d6] }
  | _ => none }
def limiterRunsRow : OpenClaim := { program := "ytfecnpfnklncnaa", sum := "253576e283461e0fde32fabc875ce741ca07609647b9060ce4cdbe4d3352f644", func := "soundservice/soundservicelaw08.LimiterRuns", spec := "limiterRuns", unfollowed := true, recurses := true, apart := false }
def LimiterRunsSaid : Prop := limiterRunsRow.holds Try.pinned (OpenSpec.ofChange limiterRunsSpec)

/-- ITS FALSE NEIGHBOUR: 'it returns false'. Refute it at one input. -/
def limiterRunsWrong : ChangeSpec := { name := "limiterRuns", fn := fun _ => fun
  | [d1, d2, d3, d4, d5, d6] => { results := [.lit (.bool false)], args := [d1, d2, d3, d4, d5, d6] }
  | _ => none }
def LimiterRunsWrongFalsely : Prop := limiterRunsRow.holds Try.pinned (OpenSpec.ofChange limiterRunsWrong)

/-- 'soundservicelaw08.LimiterHolds': WHATEVER THE INPUT: true; the input reads as it did. -/
def limiterHoldsSpec : ChangeSpec := { name := "limiterHolds", fn := fun _ => fun
  | [d] => { results := [.lit (.bool true)], args := [d] }
  | _ => none }
def limiterHoldsRow : OpenClaim := { program := "ytfecnpfnklncnaa", sum := "253576e283461e0fde32fabc875ce741ca07609647b9060ce4cdbe4d3352f644", func := "soundservice/soundservicelaw08.LimiterHolds", spec := "limiterHolds", unfollowed := true, recurses := true, apart := false }
def LimiterHoldsSaid : Prop := limiterHoldsRow.holds Try.pinned (OpenSpec.ofChange limiterHoldsSpec)

/-- ITS FALSE NEIGHBOUR: 'it returns false'. Refute it at one input. -/
def limiterHoldsWrong : ChangeSpec := { name := "limiterHolds", fn := fun _ => fun
  | [d] => { results := [.lit (.bool false)], args := [d] }
  | _ => none }
def LimiterHoldsWrongFalsely : Prop := limiterHoldsRow.holds Try.pinned (OpenSpec.ofChange limiterHoldsWrong)

/-- 'soundservicelaw08.LimiterPieces': WHATEVER THE INPUT: true; the input reads as it did. -/
def limiterPiecesSpec : ChangeSpec := { name := "limiterPieces", fn := fun _ => fun
  | [d1, d2] => { results := [.lit (.bool true)], args := [d1, d2] }
  | _ => none }
def limiterPiecesRow : OpenClaim := { program := "ytfecnpfnklncnaa", sum := "253576e283461e0fde32fabc875ce741ca07609647b9060ce4cdbe4d3352f644", func := "soundservice/soundservicelaw08.LimiterPieces", spec := "limiterPieces", unfollowed := true, recurses := true, apart := false }
def LimiterPiecesSaid : Prop := limiterPiecesRow.holds Try.pinned (OpenSpec.ofChange limiterPiecesSpec)

/-- ITS FALSE NEIGHBOUR: 'it returns false'. Refute it at one input. -/
def limiterPiecesWrong : ChangeSpec := { name := "limiterPieces", fn := fun _ => fun
  | [d1, d2] => { results := [.lit (.bool false)], args := [d1, d2] }
  | _ => none }
def LimiterPiecesWrongFalsely : Prop := limiterPiecesRow.holds Try.pinned (OpenSpec.ofChange limiterPiecesWrong)

/-- 'soundservicelaw08.LimiterQuiet': WHATEVER THE INPUT: true; the input reads as it did. -/
def limiterQuietSpec : ChangeSpec := { name := "limiterQuiet", fn := fun _ => fun
  | [d1, d2] => { results := [.lit (.bool true)], args := [d1, d2] }
  | _ => none }
def limiterQuietRow : OpenClaim := { program := "ytfecnpfnklncnaa", sum := "253576e283461e0fde32fabc875ce741ca07609647b9060ce4cdbe4d3352f644", func := "soundservice/soundservicelaw08.LimiterQuiet", spec := "limiterQuiet", unfollowed := true, recurses := true, apart := false }
def LimiterQuietSaid : Prop := limiterQuietRow.holds Try.pinned (OpenSpec.ofChange limiterQuietSpec)

/-- ITS FALSE NEIGHBOUR: 'it returns false'. Refute it at one input. -/
def limiterQuietWrong : ChangeSpec := { name := "limiterQuiet", fn := fun _ => fun
  | [d1, d2] => { results := [.lit (.bool false)], args := [d1, d2] }
  | _ => none }
def LimiterQuietWrongFalsely : Prop := limiterQuietRow.holds Try.pinned (OpenSpec.ofChange limiterQuietWrong)

/-- 'soundservicelaw08.LimiterThresholds': WHATEVER THE INPUT: true; the input reads as it did. -/
def limiterThresholdsSpec : ChangeSpec := { name := "limiterThresholds", fn := fun _ => fun
  | [d1, d2, d3, d4, d5] => { results := [.lit (.bool true)], args := [d1, d2, d3, d4, d5] }
  | _ => none }
def limiterThresholdsRow : OpenClaim := { program := "ytfecnpfnklncnaa", sum := "253576e283461e0fde32fabc875ce741ca07609647b9060ce4cdbe4d3352f644", func := "soundservice/soundservicelaw08.LimiterThresholds", spec := "limiterThresholds", unfollowed := true, recurses := true, apart := false }
def LimiterThresholdsSaid : Prop := limiterThresholdsRow.holds Try.pinned (OpenSpec.ofChange limiterThresholdsSpec)

/-- ITS FALSE NEIGHBOUR: 'it returns false'. Refute it at one input. -/
def limiterThresholdsWrong : ChangeSpec := { name := "limiterThresholds", fn := fun _ => fun
  | [d1, d2, d3, d4, d5] => { results := [.lit (.bool false)], args := [d1, d2, d3, d4, d5] }
  | _ => none }
def LimiterThresholdsWrongFalsely : Prop := limiterThresholdsRow.holds Try.pinned (OpenSpec.ofChange limiterThresholdsWrong)

/- THE SECOND FORM. 'bulk': how many values and letters a reading holds, each counted each time it is reached (what is shared counts as often as it is met; a slice's spare places count too). A statement '..UptoSaid' is the law's where the arguments, and the package variables that the reading takes, are together of bulk at most 1048576: NARROWER than '..Said'. Prove '..Said' where nothing that the law and all that it calls make is longer than what came in: it says more and counts as full. Else prove '..UptoSaid'. A law counts once. -/
mutual
def uptoBulk {H : Type} : DataW H → Nat
  | .lit (.string bytes) => bytes.length + 1
  | .lit _ => 1
  | .nil => 1
  | .ptr d => uptoBulk d + 1
  | .slice elems spare => uptoBulkAll elems + uptoBulkAll spare + 1
  | .agg parts => uptoBulkAll parts + 1
  | .iface _ d => uptoBulk d + 1
  | .map entries => uptoBulkEntries entries + 1
  | .held _ => 1
def uptoBulkAll {H : Type} : List (DataW H) → Nat
  | [] => 0
  | d :: r => uptoBulk d + uptoBulkAll r
def uptoBulkEntries {H : Type} : List (Lit × DataW H) → Nat
  | [] => 0
  | x :: r => uptoBulkEntry x + uptoBulkEntries r
def uptoBulkEntry {H : Type} : Lit × DataW H → Nat
  | (.string bytes, d) => bytes.length + uptoBulk d + 1
  | (_, d) => uptoBulk d + 1
 end
def uptoSmall : (H : Type) → List (DataW H) → Bool := fun _ ds => decide (uptoBulkAll ds ≤ 1048576)
def OpenSpec.upto (s : _root_.Go.ChangeSpec) : _root_.Go.OpenSpec := { _root_.Go.OpenSpec.ofChange s with cond := some uptoSmall }

/-- 'soundservicelaw08.LimiterRuns', WHERE WHAT IT READS IS OF BULK AT MOST 1048576: true; the input reads as it did. -/
def limiterRunsUptoRow : OpenClaim := { program := "ytfecnpfnklncnaa", sum := "253576e283461e0fde32fabc875ce741ca07609647b9060ce4cdbe4d3352f644", func := "soundservice/soundservicelaw08.LimiterRuns", spec := "limiterRuns", unfollowed := true, recurses := true, apart := false, narrowed := true }
def LimiterRunsUptoSaid : Prop := limiterRunsUptoRow.holds Try.pinned (OpenSpec.upto limiterRunsSpec)

/-- 'soundservicelaw08.LimiterHolds', WHERE WHAT IT READS IS OF BULK AT MOST 1048576: true; the input reads as it did. -/
def limiterHoldsUptoRow : OpenClaim := { program := "ytfecnpfnklncnaa", sum := "253576e283461e0fde32fabc875ce741ca07609647b9060ce4cdbe4d3352f644", func := "soundservice/soundservicelaw08.LimiterHolds", spec := "limiterHolds", unfollowed := true, recurses := true, apart := false, narrowed := true }
def LimiterHoldsUptoSaid : Prop := limiterHoldsUptoRow.holds Try.pinned (OpenSpec.upto limiterHoldsSpec)

/-- 'soundservicelaw08.LimiterPieces', WHERE WHAT IT READS IS OF BULK AT MOST 1048576: true; the input reads as it did. -/
def limiterPiecesUptoRow : OpenClaim := { program := "ytfecnpfnklncnaa", sum := "253576e283461e0fde32fabc875ce741ca07609647b9060ce4cdbe4d3352f644", func := "soundservice/soundservicelaw08.LimiterPieces", spec := "limiterPieces", unfollowed := true, recurses := true, apart := false, narrowed := true }
def LimiterPiecesUptoSaid : Prop := limiterPiecesUptoRow.holds Try.pinned (OpenSpec.upto limiterPiecesSpec)

/-- 'soundservicelaw08.LimiterQuiet', WHERE WHAT IT READS IS OF BULK AT MOST 1048576: true; the input reads as it did. -/
def limiterQuietUptoRow : OpenClaim := { program := "ytfecnpfnklncnaa", sum := "253576e283461e0fde32fabc875ce741ca07609647b9060ce4cdbe4d3352f644", func := "soundservice/soundservicelaw08.LimiterQuiet", spec := "limiterQuiet", unfollowed := true, recurses := true, apart := false, narrowed := true }
def LimiterQuietUptoSaid : Prop := limiterQuietUptoRow.holds Try.pinned (OpenSpec.upto limiterQuietSpec)

/-- 'soundservicelaw08.LimiterThresholds', WHERE WHAT IT READS IS OF BULK AT MOST 1048576: true; the input reads as it did. -/
def limiterThresholdsUptoRow : OpenClaim := { program := "ytfecnpfnklncnaa", sum := "253576e283461e0fde32fabc875ce741ca07609647b9060ce4cdbe4d3352f644", func := "soundservice/soundservicelaw08.LimiterThresholds", spec := "limiterThresholds", unfollowed := true, recurses := true, apart := false, narrowed := true }
def LimiterThresholdsUptoSaid : Prop := limiterThresholdsUptoRow.holds Try.pinned (OpenSpec.upto limiterThresholdsSpec)

end Rows
end Go.Proofs.Ytfecnpfnklncnaa
