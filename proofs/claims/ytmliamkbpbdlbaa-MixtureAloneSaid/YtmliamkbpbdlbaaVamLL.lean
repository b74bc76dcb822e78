/- The value-level machine, part 29: lists of lists of numbers. Conditions: none. -/
import Derived.Test.YtmliamkbpbdlbaaVamBlk
set_option linter.unusedVariables false
set_option linter.unusedSimpArgs false
namespace Go.Vam

def LL (k : IntKind) (l : List (List Int)) : List D := l.map fun x => D.list (LI k x)
def lls (q : List D) : List (List Int) := q.map fun d => ints d.toL

section
variable {k : IntKind} {l m : List (List Int)} {n : Nat} {x : List Int}
theorem lls_LL : lls (LL k l) = l := by
  simp only [lls, LL, List.map_map]
  rw [show ((fun d : D => ints d.toL) ∘ fun x => D.list (LI k x)) = id from ?_, List.map_id]
  funext p
  simp [D.toL, ints_LI]
theorem LL_ex {q : List D} (e : q = LL k (lls q)) : ∃ l, q = LL k l := ⟨_, e⟩
theorem LL_nil : LL k [] = [] := rfl
theorem LL_length : (LL k l).length = l.length := List.length_map ..
theorem LL_getD : ((LL k l)[n]?).getD (D.list []) = .list (LI k (l[n]?.getD [])) := by
  simp only [LL, List.getElem?_map]
  cases l[n]? <;> rfl
theorem LL_append : LL k l ++ LL k m = LL k (l ++ m) := (List.map_append ..).symm
theorem LL_snoc : LL k l ++ [D.list (LI k x)] = LL k (l ++ [x]) := by simp [LL]
theorem LL_set : (LL k l).set n (D.list (LI k x)) = LL k (l.set n x) := (List.map_set ..).symm
theorem LL_take : (LL k l).take n = LL k (l.take n) := (List.map_take ..).symm
theorem LL_drop : (LL k l).drop n = LL k (l.drop n) := (List.map_drop ..).symm
theorem LL_cells : (∀ y ∈ LL k l, y.cells.length = 1) = True := by
  refine eq_true fun y hy => ?_
  obtain ⟨x, _, rfl⟩ := List.mem_map.1 hy
  rfl
theorem LL_inj : (LL k l = LL k m) = (l = m) := by
  refine propext ⟨fun h => ?_, fun h => by rw [h]⟩
  have := congrArg lls h
  rwa [lls_LL, lls_LL] at this
theorem LL_nil_eq : (LL k l = []) = (l = []) := by cases l <;> simp [LL]
theorem LL_lls_LL : (LL k l = LL k (lls (LL k l))) = True := by rw [lls_LL]; exact eq_self _
theorem LL_cons : LL k (x :: l) = D.list (LI k x) :: LL k l := Eq.trans rfl rfl
theorem LL_rep : LL k (List.replicate n []) = List.replicate n (D.list []) := by simp [LL, LI]
end

end Go.Vam
