/- The value-level machine, part 31: lists of inputs of a mixture (a block, a matrix, a ramp). Conditions: none. -/
import Derived.Test.YtmliamkbpbdlbaaVamGrp
set_option linter.unusedVariables false
set_option linter.unusedSimpArgs false
namespace Go.Vam

def ren4 (i j l o : Nat) (n m p q : Name) (x : Name) : Name := bif Nat.beq x.s i then n else bif Nat.beq x.s j then m else bif Nat.beq x.s l then p else q
theorem Spec.ren4 {P : Program} {f : FuncId} {args : List V} {b b' : Boxes} {k k' : Toks} {r : V} {lv : Nat} (h : Spec P 0 f args b k r b' k') (i j l o : Nat) {n m p q : Name}
    (hs : supOK [⟨0, i⟩, ⟨0, j⟩, ⟨0, l⟩, ⟨0, o⟩] args b k r b' k') (hn : n.lv ≤ lv) (hm : m.lv ≤ lv) (hp : p.lv ≤ lv) (hq : q.lv ≤ lv) (hd : m ≠ n) (hd2 : p ≠ n) (hd3 : p ≠ m) (hd4 : q ≠ n) (hd5 : q ≠ m) (hd6 : q ≠ p) (hij : (Nat.beq j i || Nat.beq l i || Nat.beq l j || Nat.beq o i || Nat.beq o j || Nat.beq o l) = false := by rfl) :
    Spec P lv f (args.map (V.ren (ren4 i j l o n m p q))) (renB (ren4 i j l o n m p q) b) (renK (ren4 i j l o n m p q) k) (r.ren (ren4 i j l o n m p q)) (renB (ren4 i j l o n m p q) b') (renK (ren4 i j l o n m p q) k') := by
  simp only [Bool.or_eq_false_iff] at hij
  have e1 : Go.Vam.ren4 i j l o n m p q ⟨0, i⟩ = n := by simp [Go.Vam.ren4]
  have e2 : Go.Vam.ren4 i j l o n m p q ⟨0, j⟩ = m := by simp [Go.Vam.ren4, hij]
  have e3 : Go.Vam.ren4 i j l o n m p q ⟨0, l⟩ = p := by simp [Go.Vam.ren4, hij]
  have e4 : Go.Vam.ren4 i j l o n m p q ⟨0, o⟩ = q := by simp [Go.Vam.ren4, hij]
  refine h.ren lv _ [⟨0, i⟩, ⟨0, j⟩, ⟨0, l⟩, ⟨0, o⟩] hs (by simp) ?_ ?_
  · simp only [List.map_cons, List.map_nil, e1, e2, e3, e4, List.nodup_cons, List.mem_cons, List.not_mem_nil, or_false, not_false_eq_true, List.nodup_nil, and_true, not_or]
    exact ⟨⟨hd.symm, hd2.symm, hd4.symm⟩, ⟨hd3.symm, hd5.symm⟩, hd6.symm⟩
  · intro x hx
    simp only [List.mem_cons, List.not_mem_nil, or_false] at hx
    rcases hx with rfl | rfl | rfl | rfl
    · rw [e1]; exact hn
    · rw [e2]; exact hm
    · rw [e3]; exact hp
    · rw [e4]; exact hq

/-- An input: a block (c, l), a matrix (a, b, m), a ramp (f, t, n, i). -/
structure Inp where
  c : Int
  l : List Int
  a : Int
  b : Int
  m : List Int
  f : Int
  t : Int
  n : Int
  i : Int
def inp0 : Inp := ⟨0, [], 0, 0, [], 0, 0, 0, 0⟩
def inpD (x : Inp) : D := .agg [.int .i64 x.c, .list (LI .i32 x.l), .int .i64 x.a, .int .i64 x.b, .list (LI .i64 x.m), .int .i64 x.f, .int .i64 x.t, .int .i64 x.n, .int .i64 x.i]
def LX (l : List Inp) : List D := l.map inpD
def dInp : D → Inp
  | .agg [.int _ c, .list l, .int _ a, .int _ b, .list m, .int _ f, .int _ t, .int _ n, .int _ i] => ⟨c, ints l, a, b, ints m, f, t, n, i⟩
  | _ => inp0
def inps (l : List D) : List Inp := l.map dInp

section
variable {l m : List Inp} {n : Nat} {c a b f t k i : Int} {x y : List Int}
theorem inps_LX : inps (LX l) = l := by
  simp only [inps, LX, List.map_map]
  rw [show (dInp ∘ inpD) = id from ?_, List.map_id]
  funext p
  simp [dInp, inpD, ints_LI]
theorem LX_ex {q : List D} (e : q = LX (inps q)) : ∃ l, q = LX l := ⟨_, e⟩
theorem LX_nil : LX [] = [] := rfl
theorem LX_length : (LX l).length = l.length := List.length_map ..
theorem LX_getD : ((LX l)[n]?).getD (D.agg [.int .i64 0, .list [], .int .i64 0, .int .i64 0, .list [], .int .i64 0, .int .i64 0, .int .i64 0, .int .i64 0]) = .agg [.int .i64 (l[n]?.getD inp0).c, .list (LI .i32 (l[n]?.getD inp0).l), .int .i64 (l[n]?.getD inp0).a, .int .i64 (l[n]?.getD inp0).b, .list (LI .i64 (l[n]?.getD inp0).m), .int .i64 (l[n]?.getD inp0).f, .int .i64 (l[n]?.getD inp0).t, .int .i64 (l[n]?.getD inp0).n, .int .i64 (l[n]?.getD inp0).i] := by
  simp only [LX, List.getElem?_map]
  cases l[n]? <;> rfl
theorem LX_append : LX l ++ LX m = LX (l ++ m) := (List.map_append ..).symm
theorem LX_one : [D.agg [.int .i64 c, .list (LI .i32 x), .int .i64 a, .int .i64 b, .list (LI .i64 y), .int .i64 f, .int .i64 t, .int .i64 k, .int .i64 i]] = LX [⟨c, x, a, b, y, f, t, k, i⟩] := rfl
theorem LX_cells : (∀ y ∈ LX l, y.cells.length = 9) = True := by
  refine eq_true fun y hy => ?_
  obtain ⟨x, _, rfl⟩ := List.mem_map.1 hy
  rfl
theorem LX_inj : (LX l = LX m) = (l = m) := by
  refine propext ⟨fun h => ?_, fun h => by rw [h]⟩
  have := congrArg inps h
  rwa [inps_LX, inps_LX] at this
theorem LX_nil_eq : (LX l = []) = (l = []) := by cases l <;> simp [LX]
theorem LX_inps_LX : (LX l = LX (inps (LX l))) = True := by rw [inps_LX]; exact eq_self _
theorem LX_take : (LX l).take n = LX (l.take n) := (List.map_take ..).symm
theorem LX_drop : (LX l).drop n = LX (l.drop n) := (List.map_drop ..).symm
end

end Go.Vam
