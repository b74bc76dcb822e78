/- The value-level machine, part 28: lists of blocks (a number and samples). Conditions: none. -/
import Derived.Test.YtmliamkbpbdlbaaVamMore
set_option linter.unusedVariables false
set_option linter.unusedSimpArgs false
namespace Go.Vam

def blkD (p : Int × List Int) : D := .agg [.int .i64 p.1, .list (LI .i32 p.2)]
def LK (l : List (Int × List Int)) : List D := l.map blkD
def dBlk : D → Int × List Int
  | .agg [.int _ n, .list l] => (n, ints l)
  | _ => (0, [])
def blks (l : List D) : List (Int × List Int) := l.map dBlk

section
variable {l m : List (Int × List Int)} {n : Nat} {c : Int} {x : List Int}
theorem blks_LK : blks (LK l) = l := by
  simp only [blks, LK, List.map_map]
  rw [show (dBlk ∘ blkD) = id from ?_, List.map_id]
  funext p
  simp [dBlk, blkD, ints_LI]
theorem LK_ex {q : List D} (e : q = LK (blks q)) : ∃ l, q = LK l := ⟨_, e⟩
theorem LK_nil : LK [] = [] := rfl
theorem LK_length : (LK l).length = l.length := List.length_map ..
theorem LK_getD : ((LK l)[n]?).getD (D.agg [.int .i64 0, .list []]) = .agg [.int .i64 (l[n]?.getD (0, [])).1, .list (LI .i32 (l[n]?.getD (0, [])).2)] := by
  simp only [LK, List.getElem?_map]
  cases l[n]? <;> rfl
theorem LK_append : LK l ++ LK m = LK (l ++ m) := (List.map_append ..).symm
theorem LK_snoc : LK l ++ [D.agg [.int .i64 c, .list (LI .i32 x)]] = LK (l ++ [(c, x)]) := by simp [LK, blkD]
theorem LK_cells : (∀ y ∈ LK l, y.cells.length = 2) = True := by
  refine eq_true fun y hy => ?_
  obtain ⟨x, _, rfl⟩ := List.mem_map.1 hy
  rfl
theorem LK_inj : (LK l = LK m) = (l = m) := by
  refine propext ⟨fun h => ?_, fun h => by rw [h]⟩
  have := congrArg blks h
  rwa [blks_LK, blks_LK] at this
theorem LK_nil_eq : (LK l = []) = (l = []) := by cases l <;> simp [LK]
theorem LK_blks_LK : (LK l = LK (blks (LK l))) = True := by rw [blks_LK]; exact eq_self _
end

end Go.Vam
