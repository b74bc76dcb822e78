/-
  No cell of these rows narrows 'for every input' (looked for: loops, veiled, ifaces, maps, wideKeys, modest, calm, conditions, laid).
  DERIVED. THE GIVEN ROWS OF THIS SEAT. 7 by the template 'for every input the law returns true; each argument reads behind the call as it read before'; 0 by the template 'total and deterministic' (their statements: YtebppfjalgenhaaTotals.lean).
  GIVEN WITH THE SEED: the statements are not yours to turn. If you find one false, say at which input.
  Laid BY PROGRAM, IN A SANDBOX (cutbox-rows.mjs): the forced cells as the released guide's own fill.sh prints them over the translation 375d487a935b5c8a… (all of the seat's roots in one cut). By AI agents, Wed Nov 11 2026. No macro, syntax, notation, axiom, sorry.
-/
import Derived.Test.YtebppfjalgenhaaChecked
import GoSem.Claim
import GoSem.ClaimJoined
import GoSem.ClaimMapViews
import Derived.JoinedTies
import Derived.KernelRfl
namespace Go.Proofs.Ytebppfjalgenhaa
/- THE CELL 'sum', in the pinned program and in every row, IS THE sha256 OF THE DUMP (.gsa) THAT YtebppfjalgenhaaProg.lean LOADS. Nothing in Lean hashes anything: it is a label: what it is worth is what the hold of that sum in a sandbox is worth. -/
noncomputable def Try.pinned : Pinned := { name := "ytebppfjalgenhaa", sum := "375d487a935b5c8a753f204ccd46f10a6aa39ab0f48e53c83c3fd29a404b325f", checked := Try.checked }
namespace Rows
def none {H : Type} : Left H := { results := [], args := [] }

/-- 'soundservicelaw15.ResampleFeeds': WHATEVER THE INPUT: true; the input reads as it did. -/
def resampleFeedsSpec : ChangeSpec := { name := "resampleFeeds", fn := fun _ => fun
  | [d1, d2, d3, d4, d5] => { results := [.lit (.bool true)], args := [d1, d2, d3, d4, d5] }
  | _ => none }
def resampleFeedsRow : OpenClaim := { program := "ytebppfjalgenhaa", sum := "375d487a935b5c8a753f204ccd46f10a6aa39ab0f48e53c83c3fd29a404b325f", func := "soundservice/soundservicelaw15.ResampleFeeds", spec := "resampleFeeds", unfollowed := true, recurses := true, apart := false }
def ResampleFeedsSaid : Prop := resampleFeedsRow.holds Try.pinned (OpenSpec.ofChange resampleFeedsSpec)

/-- ITS FALSE NEIGHBOUR: 'it returns false'. Refute it at one input. -/
def resampleFeedsWrong : ChangeSpec := { name := "resampleFeeds", fn := fun _ => fun
  | [d1, d2, d3, d4, d5] => { results := [.lit (.bool false)], args := [d1, d2, d3, d4, d5] }
  | _ => none }
def ResampleFeedsWrongFalsely : Prop := resampleFeedsRow.holds Try.pinned (OpenSpec.ofChange resampleFeedsWrong)

/-- 'soundservicelaw15.ResampleTakes': WHATEVER THE INPUT: true; the input reads as it did. -/
def resampleTakesSpec : ChangeSpec := { name := "resampleTakes", fn := fun _ => fun
  | [d1, d2, d3, d4] => { results := [.lit (.bool true)], args := [d1, d2, d3, d4] }
  | _ => none }
def resampleTakesRow : OpenClaim := { program := "ytebppfjalgenhaa", sum := "375d487a935b5c8a753f204ccd46f10a6aa39ab0f48e53c83c3fd29a404b325f", func := "soundservice/soundservicelaw15.ResampleTakes", spec := "resampleTakes", unfollowed := true, recurses := true, apart := false }
def ResampleTakesSaid : Prop := resampleTakesRow.holds Try.pinned (OpenSpec.ofChange resampleTakesSpec)

/-- ITS FALSE NEIGHBOUR: 'it returns false'. Refute it at one input. -/
def resampleTakesWrong : ChangeSpec := { name := "resampleTakes", fn := fun _ => fun
  | [d1, d2, d3, d4] => { results := [.lit (.bool false)], args := [d1, d2, d3, d4] }
  | _ => none }
def ResampleTakesWrongFalsely : Prop := resampleTakesRow.holds Try.pinned (OpenSpec.ofChange resampleTakesWrong)

/-- 'soundservicelaw15.ResamplePieces': WHATEVER THE INPUT: true; the input reads as it did. -/
def resamplePiecesSpec : ChangeSpec := { name := "resamplePieces", fn := fun _ => fun
  | [d1, d2, d3] => { results := [.lit (.bool true)], args := [d1, d2, d3] }
  | _ => none }
def resamplePiecesRow : OpenClaim := { program := "ytebppfjalgenhaa", sum := "375d487a935b5c8a753f204ccd46f10a6aa39ab0f48e53c83c3fd29a404b325f", func := "soundservice/soundservicelaw15.ResamplePieces", spec := "resamplePieces", unfollowed := true, recurses := true, apart := false }
def ResamplePiecesSaid : Prop := resamplePiecesRow.holds Try.pinned (OpenSpec.ofChange resamplePiecesSpec)

/-- ITS FALSE NEIGHBOUR: 'it returns false'. Refute it at one input. -/
def resamplePiecesWrong : ChangeSpec := { name := "resamplePieces", fn := fun _ => fun
  | [d1, d2, d3] => { results := [.lit (.bool false)], args := [d1, d2, d3] }
  | _ => none }
def ResamplePiecesWrongFalsely : Prop := resamplePiecesRow.holds Try.pinned (OpenSpec.ofChange resamplePiecesWrong)

/-- 'soundservicelaw15.ResampleSame': WHATEVER THE INPUT: true; the input reads as it did. -/
def resampleSameSpec : ChangeSpec := { name := "resampleSame", fn := fun _ => fun
  | [d1, d2, d3] => { results := [.lit (.bool true)], args := [d1, d2, d3] }
  | _ => none }
def resampleSameRow : OpenClaim := { program := "ytebppfjalgenhaa", sum := "375d487a935b5c8a753f204ccd46f10a6aa39ab0f48e53c83c3fd29a404b325f", func := "soundservice/soundservicelaw15.ResampleSame", spec := "resampleSame", unfollowed := true, recurses := true, apart := false }
def ResampleSameSaid : Prop := resampleSameRow.holds Try.pinned (OpenSpec.ofChange resampleSameSpec)

/-- ITS FALSE NEIGHBOUR: 'it returns false'. Refute it at one input. -/
def resampleSameWrong : ChangeSpec := { name := "resampleSame", fn := fun _ => fun
  | [d1, d2, d3] => { results := [.lit (.bool false)], args := [d1, d2, d3] }
  | _ => none }
def ResampleSameWrongFalsely : Prop := resampleSameRow.holds Try.pinned (OpenSpec.ofChange resampleSameWrong)

/-- 'soundservicelaw15.ResampleBetween': WHATEVER THE INPUT: true; the input reads as it did. -/
def resampleBetweenSpec : ChangeSpec := { name := "resampleBetween", fn := fun _ => fun
  | [d1, d2] => { results := [.lit (.bool true)], args := [d1, d2] }
  | _ => none }
def resampleBetweenRow : OpenClaim := { program := "ytebppfjalgenhaa", sum := "375d487a935b5c8a753f204ccd46f10a6aa39ab0f48e53c83c3fd29a404b325f", func := "soundservice/soundservicelaw15.ResampleBetween", spec := "resampleBetween", unfollowed := true, recurses := true, apart := false }
def ResampleBetweenSaid : Prop := resampleBetweenRow.holds Try.pinned (OpenSpec.ofChange resampleBetweenSpec)

/-- ITS FALSE NEIGHBOUR: 'it returns false'. Refute it at one input. -/
def resampleBetweenWrong : ChangeSpec := { name := "resampleBetween", fn := fun _ => fun
  | [d1, d2] => { results := [.lit (.bool false)], args := [d1, d2] }
  | _ => none }
def ResampleBetweenWrongFalsely : Prop := resampleBetweenRow.holds Try.pinned (OpenSpec.ofChange resampleBetweenWrong)

/-- 'soundservicelaw15.ResampleCounts': WHATEVER THE INPUT: true; the input reads as it did. -/
def resampleCountsSpec : ChangeSpec := { name := "resampleCounts", fn := fun _ => fun
  | [d1, d2] => { results := [.lit (.bool true)], args := [d1, d2] }
  | _ => none }
def resampleCountsRow : OpenClaim := { program := "ytebppfjalgenhaa", sum := "375d487a935b5c8a753f204ccd46f10a6aa39ab0f48e53c83c3fd29a404b325f", func := "soundservice/soundservicelaw15.ResampleCounts", spec := "resampleCounts", unfollowed := true, recurses := true, apart := false }
def ResampleCountsSaid : Prop := resampleCountsRow.holds Try.pinned (OpenSpec.ofChange resampleCountsSpec)

/-- ITS FALSE NEIGHBOUR: 'it returns false'. Refute it at one input. -/
def resampleCountsWrong : ChangeSpec := { name := "resampleCounts", fn := fun _ => fun
  | [d1, d2] => { results := [.lit (.bool false)], args := [d1, d2] }
  | _ => none }
def ResampleCountsWrongFalsely : Prop := resampleCountsRow.holds Try.pinned (OpenSpec.ofChange resampleCountsWrong)

/-- 'soundservicelaw15.ResampleChannels': WHATEVER THE INPUT: true; the input reads as it did. -/
def resampleChannelsSpec : ChangeSpec := { name := "resampleChannels", fn := fun _ => fun
  | [d1, d2, d3] => { results := [.lit (.bool true)], args := [d1, d2, d3] }
  | _ => none }
def resampleChannelsRow : OpenClaim := { program := "ytebppfjalgenhaa", sum := "375d487a935b5c8a753f204ccd46f10a6aa39ab0f48e53c83c3fd29a404b325f", func := "soundservice/soundservicelaw15.ResampleChannels", spec := "resampleChannels", unfollowed := true, recurses := true, apart := false }
def ResampleChannelsSaid : Prop := resampleChannelsRow.holds Try.pinned (OpenSpec.ofChange resampleChannelsSpec)

/-- ITS FALSE NEIGHBOUR: 'it returns false'. Refute it at one input. -/
def resampleChannelsWrong : ChangeSpec := { name := "resampleChannels", fn := fun _ => fun
  | [d1, d2, d3] => { results := [.lit (.bool false)], args := [d1, d2, d3] }
  | _ => none }
def ResampleChannelsWrongFalsely : Prop := resampleChannelsRow.holds Try.pinned (OpenSpec.ofChange resampleChannelsWrong)

/- THE SECOND FORM. 'bulk': how many values and letters a reading holds, each counted each time it is reached (what is shared counts as often as it is met; a slice's spare places count too). A statement '..UptoSaid' is the law's where the arguments, and the package variables that the reading takes, are together of bulk at most 1048576: NARROWER than '..Said'. Prove '..Said' where nothing that the law and all that it calls make is longer than what came in: it says more and counts as full. Else prove '..UptoSaid'. A law counts once. -/
mutual
def uptoBulk {H : Type} : DataW H → Nat
  | .lit (.string bytes) => bytes.length + 1
  | .lit _ => 1
  | .nil => 1
  | .ptr d => uptoBulk d + 1
  | .slice elems spare => uptoBulkAll elems + uptoBulkAll spare + 1
  | .agg parts => uptoBulkAll parts + 1
  | .iface _ d => uptoBulk d + 1
  | .map entries => uptoBulkEntries entries + 1
  | .held _ => 1
def uptoBulkAll {H : Type} : List (DataW H) → Nat
  | [] => 0
  | d :: r => uptoBulk d + uptoBulkAll r
def uptoBulkEntries {H : Type} : List (Lit × DataW H) → Nat
  | [] => 0
  | x :: r => uptoBulkEntry x + uptoBulkEntries r
def uptoBulkEntry {H : Type} : Lit × DataW H → Nat
  | (.string bytes, d) => bytes.length + uptoBulk d + 1
  | (_, d) => uptoBulk d + 1
 end
def uptoSmall : (H : Type) → List (DataW H) → Bool := fun _ ds => decide (uptoBulkAll ds ≤ 1048576)
def OpenSpec.upto (s : _root_.Go.ChangeSpec) : _root_.Go.OpenSpec := { _root_.Go.OpenSpec.ofChange s with cond := some uptoSmall }

/-- 'soundservicelaw15.ResampleFeeds', WHERE WHAT IT READS IS OF BULK AT MOST 1048576: true; the input reads as it did. -/
def resampleFeedsUptoRow : OpenClaim := { program := "ytebppfjalgenhaa", sum := "375d487a935b5c8a753f204ccd46f10a6aa39ab0f48e53c83c3fd29a404b325f", func := "soundservice/soundservicelaw15.ResampleFeeds", spec := "resampleFeeds", unfollowed := true, recurses := true, apart := false, narrowed := true }
def ResampleFeedsUptoSaid : Prop := resampleFeedsUptoRow.holds Try.pinned (OpenSpec.upto resampleFeedsSpec)

/-- 'soundservicelaw15.ResampleTakes', WHERE WHAT IT READS IS OF BULK AT MOST 1048576: true; the input reads as it did. -/
def resampleTakesUptoRow : OpenClaim := { program := "ytebppfjalgenhaa", sum := "375d487a935b5c8a753f204ccd46f10a6aa39ab0f48e53c83c3fd29a404b325f", func := "soundservice/soundservicelaw15.ResampleTakes", spec := "resampleTakes", unfollowed := true, recurses := true, apart := false, narrowed := true }
def ResampleTakesUptoSaid : Prop := resampleTakesUptoRow.holds Try.pinned (OpenSpec.upto resampleTakesSpec)

/-- 'soundservicelaw15.ResamplePieces', WHERE WHAT IT READS IS OF BULK AT MOST 1048576: true; the input reads as it did. -/
def resamplePiecesUptoRow : OpenClaim := { program := "ytebppfjalgenhaa", sum := "375d487a935b5c8a753f204ccd46f10a6aa39ab0f48e53c83c3fd29a404b325f", func := "soundservice/soundservicelaw15.ResamplePieces", spec := "resamplePieces", unfollowed := true, recurses := true, apart := false, narrowed := true }
def ResamplePiecesUptoSaid : Prop := resamplePiecesUptoRow.holds Try.pinned (OpenSpec.upto resamplePiecesSpec)

/-- 'soundservicelaw15.ResampleSame', WHERE WHAT IT READS IS OF BULK AT MOST 1048576: true; the input reads as it did. -/
def resampleSameUptoRow : OpenClaim := { program := "ytebppfjalgenhaa", sum := "375d487a935b5c8a753f204ccd46f10a6aa39ab0f48e53c83c3fd29a404b325f", func := "soundservice/soundservicelaw15.ResampleSame", spec := "resampleSame", unfollowed := true, recurses := true, apart := false, narrowed := true }
def ResampleSameUptoSaid : Prop := resampleSameUptoRow.holds Try.pinned (OpenSpec.upto resampleSameSpec)

/-- 'soundservicelaw15.ResampleBetween', WHERE WHAT IT READS IS OF BULK AT MOST 1048576: true; the input reads as it did. -/
def resampleBetweenUptoRow : OpenClaim := { program := "ytebppfjalgenhaa", sum := "375d487a935b5c8a753f204ccd46f10a6aa39ab0f48e53c83c3fd29a404b325f", func := "soundservice/soundservicelaw15.ResampleBetween", spec := "resampleBetween", unfollowed := true, recurses := true, apart := false, narrowed := true }
def ResampleBetweenUptoSaid : Prop := resampleBetweenUptoRow.holds Try.pinned (OpenSpec.upto resampleBetweenSpec)

/-- 'soundservicelaw15.ResampleCounts', WHERE WHAT IT READS IS OF BULK AT MOST 1048576: true; the input reads as it did. -/
def resampleCountsUptoRow : OpenClaim := { program := "ytebppfjalgenhaa", sum := "375d487a935b5c8a753f204ccd46f10a6aa39ab0f48e53c83c3fd29a404b325f", func := "soundservice/soundservicelaw15.ResampleCounts", spec := "resampleCounts", unfollowed := true, recurses := true, apart := false, narrowed := true }
def ResampleCountsUptoSaid : Prop := resampleCountsUptoRow.holds Try.pinned (OpenSpec.upto resampleCountsSpec)

/-- 'soundservicelaw15.ResampleChannels', WHERE WHAT IT READS IS OF BULK AT MOST 1048576: true; the input reads as it did. -/
def resampleChannelsUptoRow : OpenClaim := { program := "ytebppfjalgenhaa", sum := "375d487a935b5c8a753f204ccd46f10a6aa39ab0f48e53c83c3fd29a404b325f", func := "soundservice/soundservicelaw15.ResampleChannels", spec := "resampleChannels", unfollowed := true, recurses := true, apart := false, narrowed := true }
def ResampleChannelsUptoSaid : Prop := resampleChannelsUptoRow.holds Try.pinned (OpenSpec.upto resampleChannelsSpec)

end Rows
end Go.Proofs.Ytebppfjalgenhaa
