/- Bytes and samples in plain terms. Conditions: none. -/
import Derived.Test.YtehfojakaaepmaaSmpA
set_option linter.unusedVariables false
set_option linter.unusedSimpArgs false
set_option maxRecDepth 40000
set_option maxHeartbeats 4000000
namespace Go.Vam
open Go.Proofs

theorem rdF_in {s : Int} {g : Bool} {b : List UInt8} (hs : 1 ≤ s ∧ s ≤ 4) (hb : b.length = s.toNat) : -2147483648 ≤ rdF s g b ∧ rdF s g b ≤ 2147483647 := by
  have h := sgn_rd (g := g) hs hb
  generalize hR : rdU g b = R at h
  unfold rdF sgn
  rw [hR]
  have : s = 1 ∨ s = 2 ∨ s = 3 ∨ s = 4 := by omega
  rcases this with rfl | rfl | rfl | rfl
  · have e : halfS 1 = 128 := rfl
    rw [e] at h ⊢; rw [if_pos rfl]; omega
  · have e : halfS 2 = 32768 := rfl
    rw [e] at h ⊢; rw [if_neg (by decide)]; omega
  · have e : halfS 3 = 8388608 := rfl
    rw [e] at h ⊢; rw [if_neg (by decide)]; omega
  · have e : halfS 4 = 2147483648 := rfl
    rw [e] at h ⊢; rw [if_neg (by decide)]; omega

theorem byt_eq {n : Int} {c : UInt8} (h : n % 256 = (c.toNat : Int)) : byt n = c := by
  apply UInt8.toNat_inj.1
  have := byt_toNat n
  omega
theorem numB1 (a : UInt8) : numB [a] = a.toNat := by simp [numB]
theorem numB2 (a b : UInt8) : numB [a, b] = a.toNat * 256 + b.toNat := by simp [numB]
theorem numB3 (a b c : UInt8) : numB [a, b, c] = (a.toNat * 256 + b.toNat) * 256 + c.toNat := by simp [numB]
theorem numB4 (a b c d : UInt8) : numB [a, b, c, d] = ((a.toNat * 256 + b.toNat) * 256 + c.toNat) * 256 + d.toNat := by simp [numB]
theorem wrB1 (g : Bool) (n : Int) : wrB 1 g n = [byt n] := by cases g <;> simp [wrB, List.range_succ]
theorem wrB2 (g : Bool) (n : Int) : wrB 2 g n = if g = true then [byt (n / 256), byt n] else [byt n, byt (n / 256)] := by
  cases g <;> simp [wrB, List.range_succ]
theorem wrB3 (g : Bool) (n : Int) : wrB 3 g n = if g = true then [byt (n / 65536), byt (n / 256), byt n] else [byt n, byt (n / 256), byt (n / 65536)] := by
  cases g <;> simp [wrB, List.range_succ]
theorem wrB4 (g : Bool) (n : Int) : wrB 4 g n = if g = true then [byt (n / 16777216), byt (n / 65536), byt (n / 256), byt n] else [byt n, byt (n / 256), byt (n / 65536), byt (n / 16777216)] := by
  cases g <;> simp [wrB, List.range_succ]
theorem ordB_len1 {g : Bool} {c : List UInt8} (h : c.length = 1) : ∃ a, ordB g c = [a] ∧ c = [a] := by
  match c, h with
  | [a], _ => exact ⟨a, by cases g <;> rfl, rfl⟩
theorem len2_ex {c : List UInt8} (h : c.length = 2) : ∃ a b, c = [a, b] := by
  match c, h with
  | [a, b], _ => exact ⟨a, b, rfl⟩
theorem len3_ex {c : List UInt8} (h : c.length = 3) : ∃ a b d, c = [a, b, d] := by
  match c, h with
  | [a, b, d], _ => exact ⟨a, b, d, rfl⟩
/-- What is written of what was read. -/
theorem wr_rd {s : Int} {g : Bool} {c : List UInt8} (hs : s = 1 ∨ s = 2 ∨ s = 3) (hl : c.length = s.toNat) : wrB s g (rdF s g c) = c := by
  rcases hs with rfl | rfl | rfl
  · obtain ⟨a, h1, rfl⟩ := ordB_len1 (g := g) hl
    rw [wrB1]
    unfold rdF rdU
    rw [if_pos rfl, h1, numB1]
    have := a.toNat_lt
    rw [byt_eq (c := a) (by omega)]
  · obtain ⟨a, b, rfl⟩ := len2_ex hl
    have ha := a.toNat_lt
    have hb := b.toNat_lt
    rw [wrB2]
    unfold rdF sgn rdU halfS ordB
    cases g
    · simp only [Bool.false_eq_true, if_false, List.reverse_cons, List.reverse_nil, List.nil_append, List.cons_append, numB2]
      rw [byt_eq (c := a), byt_eq (c := b)] <;> (simp only [show ¬ ((2 : Int) = 1) by decide, if_false, if_true]; split <;> omega)
    · simp only [if_true, numB2]
      rw [byt_eq (c := a), byt_eq (c := b)] <;> (simp only [show ¬ ((2 : Int) = 1) by decide, if_false, if_true]; split <;> omega)
  · obtain ⟨a, b, d, rfl⟩ := len3_ex hl
    have ha := a.toNat_lt
    have hb := b.toNat_lt
    have hd := d.toNat_lt
    rw [wrB3]
    unfold rdF sgn rdU halfS ordB
    cases g
    · simp only [Bool.false_eq_true, if_false, List.reverse_cons, List.reverse_nil, List.nil_append, List.cons_append, numB3]
      rw [byt_eq (c := a), byt_eq (c := b), byt_eq (c := d)] <;> (simp only [show ¬ ((3 : Int) = 1) by decide, show ¬ ((3 : Int) = 2) by decide, if_false, if_true]; split <;> omega)
    · simp only [if_true, numB3]
      rw [byt_eq (c := a), byt_eq (c := b), byt_eq (c := d)] <;> (simp only [show ¬ ((3 : Int) = 1) by decide, show ¬ ((3 : Int) = 2) by decide, if_false, if_true]; split <;> omega)
def fitS (s n : Int) : Prop := (s = 1 ∧ 0 ≤ n ∧ n ≤ 255) ∨ (s = 2 ∧ -32768 ≤ n ∧ n ≤ 32767) ∨ (s = 3 ∧ -8388608 ≤ n ∧ n ≤ 8388607) ∨ (s = 4 ∧ -2147483648 ≤ n ∧ n ≤ 2147483647)
/-- What is read of what was written. -/
theorem rd_wr {s : Int} {g : Bool} {n : Int} (h : fitS s n) : rdF s g (wrB s g n) = n := by
  have b0 := byt_toNat n
  have b1 := byt_toNat (n / 256)
  have b2 := byt_toNat (n / 65536)
  have b3 := byt_toNat (n / 16777216)
  rcases h with ⟨rfl, h⟩ | ⟨rfl, h⟩ | ⟨rfl, h⟩ | ⟨rfl, h⟩
  · rw [wrB1]
    unfold rdF rdU
    rw [if_pos rfl, show ordB g [byt n] = [byt n] by cases g <;> rfl, numB1]
    omega
  · rw [wrB2]
    unfold rdF sgn rdU halfS ordB
    cases g
    · simp only [Bool.false_eq_true, if_false, List.reverse_cons, List.reverse_nil, List.nil_append, List.cons_append, numB2, show ¬ ((2 : Int) = 1) by decide, if_true]
      split <;> omega
    · simp only [if_true, numB2, show ¬ ((2 : Int) = 1) by decide, if_false]
      split <;> omega
  · rw [wrB3]
    unfold rdF sgn rdU halfS ordB
    cases g
    · simp only [Bool.false_eq_true, if_false, List.reverse_cons, List.reverse_nil, List.nil_append, List.cons_append, numB3, show ¬ ((3 : Int) = 1) by decide, show ¬ ((3 : Int) = 2) by decide, if_true]
      split <;> omega
    · simp only [if_true, numB3, show ¬ ((3 : Int) = 1) by decide, show ¬ ((3 : Int) = 2) by decide, if_false]
      split <;> omega
  · rw [wrB4]
    unfold rdF sgn rdU halfS ordB
    cases g
    · simp only [Bool.false_eq_true, if_false, List.reverse_cons, List.reverse_nil, List.nil_append, List.cons_append, numB4, show ¬ ((4 : Int) = 1) by decide, show ¬ ((4 : Int) = 2) by decide, show ¬ ((4 : Int) = 3) by decide]
      split <;> omega
    · simp only [if_true, numB4, show ¬ ((4 : Int) = 1) by decide, show ¬ ((4 : Int) = 2) by decide, show ¬ ((4 : Int) = 3) by decide, if_false]
      split <;> omega
theorem encV_fit {k x : Int} (hk : szK k ≠ 0) (h : smpX x = true) : fitS (szK k) (encV (szK k) x) := by
  have hx := smpX_in h
  have e1 : encV 1 x = min 255 (128 + (x + 32768) / 65536) := by simp [encV]
  have e2 : encV 2 x = min 32767 ((x + 128) / 256) := by simp [encV]
  have e3 : encV 3 x = x := by simp [encV]
  have e4 : encV 4 x = x * 256 := by simp [encV]
  have := szK_in k
  rcases this with h | h | h | h | h <;> rw [h] at hk ⊢
  · exact absurd rfl hk
  · rw [e1]; left; omega
  · rw [e2]; right; left; omega
  · rw [e3]; right; right; left; omega
  · rw [e4]; right; right; right; omega
theorem satG_id {n : Int} (h : -8388608 ≤ n ∧ n ≤ 8388607) : satG n = n := by unfold satG; omega
/-- The sample that comes back. -/
def rtS (s x : Int) : Int := satG (decV s (encV s x))
theorem chunks_take (s : Nat) (b : List UInt8) : ∀ n, (List.range n).flatMap (fun i => chk s b i) = b.take (n * s)
  | 0 => by simp
  | n + 1 => by
    rw [List.range_succ, List.flatMap_append, chunks_take s b n]
    simp only [List.flatMap_cons, List.flatMap_nil, List.append_nil, chk]
    rw [Nat.add_mul, Nat.one_mul, List.take_add]
theorem chk_len {s n i : Nat} {b : List UInt8} (h : b.length = n * s) (hi : i < n) : (chk s b i).length = s := by
  unfold chk
  rw [List.length_take, List.length_drop, h]
  have : (i + 1) * s ≤ n * s := Nat.mul_le_mul_right _ hi
  rw [Nat.add_mul, Nat.one_mul] at this
  omega
theorem chk_flat {s : Nat} {f : Int → List UInt8} (hf : ∀ x, (f x).length = s) : ∀ (l : List Int) (i : Nat), (hi : i < l.length) → chk s (l.flatMap f) i = f l[i]
  | [], i, hi => absurd hi (Nat.not_lt_zero _)
  | x :: l, 0, _ => by
    simp only [chk, List.flatMap_cons, Nat.zero_mul, List.drop_zero]
    rw [List.take_left' (hf x)]
    rfl
  | x :: l, i + 1, hi => by
    have ih := chk_flat hf l i (by simpa using hi)
    simp only [chk, List.flatMap_cons] at ih ⊢
    rw [show (i + 1) * s = (f x).length + i * s by rw [hf, Nat.add_mul, Nat.one_mul, Nat.add_comm], ← List.drop_drop, List.drop_left]
    simpa using ih
theorem decL_encL {k : Int} (hk : szK k ≠ 0) {l : List Int} (hl : l.all smpX = true) : decL k (encL k l) l.length = l.map (rtS (szK k)) := by
  unfold decL
  apply List.ext_getElem
  · simp
  · intro i h1 h2
    have hi : i < l.length := by simpa using h2
    have hx := List.all_eq_true.1 hl _ (List.getElem_mem hi)
    simp only [List.getElem_map, List.getElem_range]
    have e : chk (szK k).toNat (encL k l) i = wrB (szK k) (bigK k) (encV (szK k) l[i]) := chk_flat (fun x => wrB_len _ _ _) l i hi
    rw [e, rd_wr (encV_fit hk hx)]
    rfl
theorem encL_decL {k : Int} (hk : szK k = 1 ∨ szK k = 2 ∨ szK k = 3) {b : List UInt8} {n : Nat} (hb : b.length = n * (szK k).toNat) : encL k (decL k b n) = b ∧ (decL k b n).all smpX = true := by
  have key : ∀ i, i < n → satG (decV (szK k) (rdF (szK k) (bigK k) (chk (szK k).toNat b i))) = decV (szK k) (rdF (szK k) (bigK k) (chk (szK k).toNat b i)) ∧ encV (szK k) (decV (szK k) (rdF (szK k) (bigK k) (chk (szK k).toNat b i))) = rdF (szK k) (bigK k) (chk (szK k).toNat b i) := by
    intro i hi
    have hc := chk_len hb hi
    have hr := rdU_in (bigK k) (chk (szK k).toNat b i)
    rw [hc] at hr
    unfold rdF sgn halfS decV encV satG
    rcases hk with h | h | h <;> rw [h] at hr ⊢
    · simp only [if_true]
      have h2 : (256 : Int) ^ (1 : Int).toNat = 256 := by decide
      omega
    · simp only [show ¬ ((2 : Int) = 1) by decide, if_false, if_true]
      have h2 : (256 : Int) ^ (2 : Int).toNat = 65536 := by decide
      omega
    · simp only [show ¬ ((3 : Int) = 1) by decide, show ¬ ((3 : Int) = 2) by decide, show ¬ ((3 : Int) = 4) by decide, if_false, if_true, ↓reduceIte]
      have h2 : (256 : Int) ^ (3 : Int).toNat = 16777216 := by decide
      generalize rdU (bigK k) (chk (3 : Int).toNat b i) = R at *
      refine ⟨?_, trivial⟩
      by_cases hh : 8388608 ≤ R
      · simp only [if_pos hh]; omega
      · simp only [if_neg hh]; omega
  refine ⟨?_, ?_⟩
  · unfold encL decL
    rw [List.flatMap_map]
    have e : (List.range n).flatMap (fun i => wrB (szK k) (bigK k) (encV (szK k) (satG (decV (szK k) (rdF (szK k) (bigK k) (chk (szK k).toNat b i)))))) = (List.range n).flatMap (fun i => chk (szK k).toNat b i) := by
      rw [List.flatMap_def, List.flatMap_def]
      congr 1
      apply List.map_congr_left
      intro i hi
      rw [List.mem_range] at hi
      obtain ⟨k1, k2⟩ := key i hi
      rw [k1, k2, wr_rd hk (chk_len hb hi)]
    rw [e, chunks_take, List.take_of_length_le (by omega)]
  · rw [List.all_eq_true]
    intro x hx
    unfold decL at hx
    obtain ⟨i, _, rfl⟩ := List.mem_map.1 hx
    have := satG_in (decV (szK k) (rdF (szK k) (bigK k) (chk (szK k).toNat b i)))
    simp only [smpX, Bool.and_eq_true, decide_eq_true_eq]
    exact this

end Go.Vam
