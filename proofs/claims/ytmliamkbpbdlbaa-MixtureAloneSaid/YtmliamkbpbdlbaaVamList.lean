/- The value-level machine, part 23: lists of numbers. Conditions: none. -/
import Derived.Test.YtmliamkbpbdlbaaVamRen
set_option linter.unusedVariables false
set_option linter.unusedSimpArgs false
namespace Go.Vam

def ints (l : List D) : List Int := l.map D.toI
/-- Numbers of a kind. -/
def LI (k : IntKind) (l : List Int) : List D := l.map (D.int k)

section
variable {k : IntKind} {l m : List Int} {n : Nat} {x z : Int}
theorem ints_LI : ints (LI k l) = l := by
  simp only [ints, LI, List.map_map]
  rw [show (D.toI ∘ D.int k) = id from rfl, List.map_id]
theorem LI_ex {q : List D} (e : q = LI k (ints q)) : ∃ l, q = LI k l := ⟨_, e⟩
theorem LI_nil : LI k [] = [] := rfl
theorem LI_one : LI k [x] = [D.int k x] := rfl
theorem LI_length : (LI k l).length = l.length := List.length_map ..
theorem LI_getD : ((LI k l)[n]?).getD (D.int k z) = D.int k (l[n]?.getD z) := by
  simp only [LI, List.getElem?_map]
  cases l[n]? <;> rfl
theorem LI_take : (LI k l).take n = LI k (l.take n) := (List.map_take ..).symm
theorem LI_drop : (LI k l).drop n = LI k (l.drop n) := (List.map_drop ..).symm
theorem LI_append : LI k l ++ LI k m = LI k (l ++ m) := (List.map_append ..).symm
theorem LI_snoc : LI k l ++ [D.int k x] = LI k (l ++ [x]) := by simp [LI]
theorem LI_cells : (∀ y ∈ LI k l, y.cells.length = 1) = True := by
  refine eq_true fun y hy => ?_
  obtain ⟨x, _, rfl⟩ := List.mem_map.1 hy
  rfl
theorem LI_inj : (LI k l = LI k m) = (l = m) := by
  refine propext ⟨fun h => ?_, fun h => by rw [h]⟩
  have := congrArg ints h
  rwa [ints_LI, ints_LI] at this
theorem LI_nil_eq : (LI k l = []) = (l = []) := by
  cases l <;> simp [LI]
theorem LI_set {i : Nat} : (LI k l).set i (D.int k x) = LI k (l.set i x) := (List.map_set ..).symm
theorem LI_replicate : List.replicate n (D.int k x) = LI k (List.replicate n x) := by simp [LI]
theorem LI_ints {q : List D} (h : q = LI k (ints q)) : (q = LI k (ints q)) = True := eq_true h
theorem LI_ints_LI : (LI k l = LI k (ints (LI k l))) = True := by rw [ints_LI]; exact eq_self _
theorem LI_ints_nil : (([] : List D) = LI k (ints [])) = True := by simp [LI, ints]
end

/-! ### Lists of bytes -/
def LB (l : List UInt8) : List D := l.map fun b => D.int .u8 b.toNat
def bys (q : List D) : List UInt8 := q.map fun d => UInt8.ofNat d.toI.toNat
section
variable {l m : List UInt8} {n : Nat} {x : Int}
theorem bys_LB : bys (LB l) = l := by
  simp only [bys, LB, List.map_map]
  rw [show ((fun d : D => UInt8.ofNat d.toI.toNat) ∘ fun b : UInt8 => D.int .u8 b.toNat) = id from ?_, List.map_id]
  funext b
  simp [D.toI]
theorem LB_ex {q : List D} (e : q = LB (bys q)) : ∃ l, q = LB l := ⟨_, e⟩
theorem LB_nil : LB [] = [] := rfl
theorem LB_length : (LB l).length = l.length := List.length_map ..
theorem LB_getD : ((LB l)[n]?).getD (D.int .u8 0) = D.int .u8 ((l[n]?.getD 0).toNat) := by
  simp only [LB, List.getElem?_map]
  cases l[n]? <;> rfl
theorem LB_take : (LB l).take n = LB (l.take n) := (List.map_take ..).symm
theorem LB_drop : (LB l).drop n = LB (l.drop n) := (List.map_drop ..).symm
theorem LB_append : LB l ++ LB m = LB (l ++ m) := (List.map_append ..).symm
theorem LB_cells : (∀ y ∈ LB l, y.cells.length = 1) = True := by
  refine eq_true fun y hy => ?_
  obtain ⟨x, _, rfl⟩ := List.mem_map.1 hy
  rfl
theorem LB_inj : (LB l = LB m) = (l = m) := by
  refine propext ⟨fun h => ?_, fun h => by rw [h]⟩
  have := congrArg bys h
  rwa [bys_LB, bys_LB] at this
theorem LB_nil_eq : (LB l = []) = (l = []) := by
  cases l <;> simp [LB]
theorem LB_bys_LB : (LB l = LB (bys (LB l))) = True := by rw [bys_LB]; exact eq_self _
def strB (l : List UInt8) : ByteArray := ⟨l.toArray⟩
theorem strD_LB : strD (LB l) = strB l := by
  simp only [strD, strOfNums, strB, LB, List.map_map]
  congr 2
  conv => rhs; rw [← List.map_id l]
  apply List.map_congr_left
  intro b _
  simp [D.toI]
theorem strD_nil : strD [] = strB [] := Eq.trans rfl rfl
theorem strB_toList : (strB l).toList = l := by rw [ByteArray.toList_eq]; rfl
theorem strB_app : strB l ++ strB m = strB (l ++ m) := by
  apply ByteArray.ext
  simp [strB]
theorem strB_size : (strB l).size = l.length := Eq.trans rfl rfl
theorem ba_toList {a : List UInt8} : (ByteArray.mk a.toArray).toList = a := by rw [ByteArray.toList_eq]
theorem LB_u8 : (∀ y ∈ LB l, y.isU8 = true) = True := by
  refine eq_true fun y hy => ?_
  obtain ⟨x, _, rfl⟩ := List.mem_map.1 hy
  rfl
theorem LB_snoc {b : UInt8} : LB l ++ [D.int .u8 b.toNat] = LB (l ++ [b]) := by simp [LB]
theorem LB_replicate : List.replicate n (D.int .u8 0) = LB (List.replicate n 0) := by simp [LB]
theorem LB_set {i : Nat} {b : UInt8} : (LB l).set i (D.int .u8 b.toNat) = LB (l.set i b) := (List.map_set ..).symm
theorem LI_LB (l : List Int) (h : ∀ x ∈ l, 0 ≤ x ∧ x ≤ 255) : ∃ m : List UInt8, LI .u8 l = LB m := by
  refine ⟨l.map fun x => UInt8.ofNat x.toNat, ?_⟩
  simp only [LI, LB, List.map_map]
  apply List.map_congr_left
  intro x hx
  have := h x hx
  simp only [Function.comp_apply]
  congr 1
  have e : (UInt8.ofNat x.toNat).toNat = x.toNat := by
    rw [UInt8.toNat_ofNat']
    omega
  rw [e]; omega
theorem u8_lt (b : UInt8) : ((b.toNat : Nat) : Int) ≤ 255 := by have := b.toNat_lt; omega
theorem u8_ge (b : UInt8) : (0 : Int) ≤ ((b.toNat : Nat) : Int) := by omega
end

/-! ### Dice -/
def dN (l : List UInt8) (n : Int) : Int := if n ≤ 1 then 0 else ((l.headD 0).toNat : Int) % n
def dT (l : List UInt8) (n : Int) : List UInt8 := if n ≤ 1 then l else l.tail
theorem dN_ge (l : List UInt8) (n : Int) : 0 ≤ dN l n := by
  unfold dN; split
  · exact Int.le_refl _
  · exact Int.emod_nonneg _ (by omega)
theorem dN_lt (l : List UInt8) (n : Int) (h : 0 < n) : dN l n < n := by
  unfold dN; split
  · exact h
  · exact Int.emod_lt_of_pos _ h

end Go.Vam
