/- The value-level machine, part 27: contracts over three names; loops from weaker states. Conditions: none. -/
import Derived.Test.YtmliamkbpbdlbaaVamOpen
set_option linter.unusedVariables false
set_option linter.unusedSimpArgs false
namespace Go.Vam

def ren3 (i j : Nat) (n m p : Name) (x : Name) : Name := bif Nat.beq x.s i then n else bif Nat.beq x.s j then m else p
theorem Spec.ren3 {P : Program} {f : FuncId} {args : List V} {b b' : Boxes} {k k' : Toks} {r : V} {lv : Nat} (h : Spec P 0 f args b k r b' k') (i j l : Nat) {n m p : Name}
    (hs : supOK [⟨0, i⟩, ⟨0, j⟩, ⟨0, l⟩] args b k r b' k') (hn : n.lv ≤ lv) (hm : m.lv ≤ lv) (hp : p.lv ≤ lv) (hd : m ≠ n) (hd2 : p ≠ n) (hd3 : p ≠ m) (hij : (Nat.beq j i || Nat.beq l i || Nat.beq l j) = false := by rfl) :
    Spec P lv f (args.map (V.ren (ren3 i j n m p))) (renB (ren3 i j n m p) b) (renK (ren3 i j n m p) k) (r.ren (ren3 i j n m p)) (renB (ren3 i j n m p) b') (renK (ren3 i j n m p) k') := by
  simp only [Bool.or_eq_false_iff] at hij
  have e1 : Go.Vam.ren3 i j n m p ⟨0, i⟩ = n := by simp [Go.Vam.ren3]
  have e2 : Go.Vam.ren3 i j n m p ⟨0, j⟩ = m := by simp [Go.Vam.ren3, hij]
  have e3 : Go.Vam.ren3 i j n m p ⟨0, l⟩ = p := by simp [Go.Vam.ren3, hij]
  refine h.ren lv _ [⟨0, i⟩, ⟨0, j⟩, ⟨0, l⟩] hs (by simp) ?_ ?_
  · simp only [List.map_cons, List.map_nil, e1, e2, e3, List.nodup_cons, List.mem_cons, List.not_mem_nil, or_false, not_false_eq_true, List.nodup_nil, and_true, not_or]
    exact ⟨⟨hd.symm, hd2.symm⟩, hd3.symm⟩
  · intro x hx
    simp only [List.mem_cons, List.not_mem_nil, or_false] at hx
    rcases hx with rfl | rfl | rfl
    · rw [e1]; exact hn
    · rw [e2]; exact hm
    · rw [e3]; exact hp

theorem ELoop_sub {X : Ctx} {M : List (Nat × List Nat)} {m : Nat} {c : Code} {Q : Exit → St → Prop} {st st' : St} (h : Sub X st' st) (hl : ELoop X M m c Q st') : ELoop X M m c Q st := by
  obtain ⟨G, T, J, μ, ⟨g, hg, hs⟩, hr⟩ := hl
  exact ⟨G, T, J, μ, ⟨g, hg, hs.trans h⟩, hr⟩

/-- A slice without room in a box becomes a buffer ahead of a loop. -/
theorem ELoop_nilB {X : Ctx} {M : List (Nat × List Nat)} {m : Nat} {c : Code} {Q : Exit → St → Prop} {t : List (Nat × V)} {b : Boxes} {k : Toks} (a : Name) (j sz : Nat) (n : Name) {cs : List C} (hm : lk b a = some cs) (hj : cs[j]? = some .nil) (hf : FreeB ⟨t, b, k⟩ n) (hn : X.L ≤ n.lv)
    (hl : evS ⟨t, (a, cs.set j (.own n [])) :: b, (n, ⟨false, sz, []⟩) :: k⟩ (ELoop X M m c Q)) : ELoop X M m c Q ⟨t, b, k⟩ :=
  ELoop_sub (Sub.nilB sz hm hj hf hn) hl
/-- .. in a slot. -/
theorem ELoop_nilT {X : Ctx} {M : List (Nat × List Nat)} {m : Nat} {c : Code} {Q : Exit → St → Prop} {t : List (Nat × V)} {b : Boxes} {k : Toks} (a sz : Nat) (n : Name) (hm : lk t a = some (.c .nil)) (hf : FreeB ⟨t, b, k⟩ n) (hn : X.L ≤ n.lv)
    (hl : evS ⟨(a, .c (.own n [])) :: t, b, (n, ⟨false, sz, []⟩) :: k⟩ (ELoop X M m c Q)) : ELoop X M m c Q ⟨t, b, k⟩ :=
  ELoop_sub (Sub.nilT sz hm hf hn) hl

theorem ints_cons {k : IntKind} {a : Int} {l : List D} : ints (D.int k a :: l) = a :: ints l := Eq.trans rfl rfl
theorem ints_nil : ints [] = [] := Eq.trans rfl rfl
theorem LI_cons {k : IntKind} {a : Int} {l : List Int} : LI k (a :: l) = D.int k a :: LI k l := Eq.trans rfl rfl

end Go.Vam
