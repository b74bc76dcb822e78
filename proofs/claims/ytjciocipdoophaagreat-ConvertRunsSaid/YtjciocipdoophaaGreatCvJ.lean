/- Bytes of samples. Conditions: none. -/
import Derived.Test.YtjciocipdoophaaGreatCvI
set_option linter.unusedVariables false
set_option linter.defProp false
set_option linter.unusedSimpArgs false
set_option maxRecDepth 40000
set_option maxHeartbeats 4000000
namespace Go.Vam
open Go.Proofs

/-- Bytes of a kind; the order of its bytes. -/
def szK (k : Int) : Int := if k = 1 then 1 else if k = 2 then 2 else if k = 3 then 2 else if k = 4 then 3 else if k = 5 then 3 else if k = 6 then 4 else if k = 7 then 4 else 0
def bigK (k : Int) : Bool := k == 3 || k == 5 || k == 7
theorem szK_in (k : Int) : szK k = 0 ∨ szK k = 1 ∨ szK k = 2 ∨ szK k = 3 ∨ szK k = 4 := by unfold szK; omega
def ordB (g : Bool) (b : List UInt8) : List UInt8 := if g = true then b else b.reverse
def numB (b : List UInt8) : Nat := b.foldl (fun n c => n * 256 + c.toNat) 0
def rdU (g : Bool) (b : List UInt8) : Int := (numB (ordB g b) : Nat)
def halfS (s : Int) : Int := if s = 1 then 128 else if s = 2 then 32768 else if s = 3 then 8388608 else 2147483648
def sgn (s n : Int) : Int := if halfS s ≤ n then n - 2 * halfS s else n
def rdF (s : Int) (g : Bool) (b : List UInt8) : Int := if s = 1 then rdU g b else sgn s (rdU g b)
/-- The sample of an integer of so many bytes, and the integer of a sample. -/
def decV (s n : Int) : Int := if s = 1 then (n - 128) * 65536 else if s = 2 then n * 256 else if s = 4 then (n + 128) / 256 else n
def encV (s x : Int) : Int := if s = 1 then min 255 (128 + (x + 32768) / 65536) else if s = 2 then min 32767 ((x + 128) / 256) else if s = 4 then x * 256 else x
def byt (n : Int) : UInt8 := UInt8.ofNat (n % 256).toNat
theorem byt_toNat (n : Int) : ((byt n).toNat : Int) = n % 256 := by
  unfold byt
  have h0 := Int.emod_nonneg n (show (256 : Int) ≠ 0 by decide)
  have h1 := Int.emod_lt_of_pos n (show (0 : Int) < 256 by decide)
  rw [UInt8.toNat_ofNat']
  omega
def wrB (s : Int) (g : Bool) (n : Int) : List UInt8 := (List.range s.toNat).map fun i => byt (n / 2 ^ (8 * (if g = true then s.toNat - 1 - i else i)))
theorem wrB_len (s : Int) (g : Bool) (n : Int) : (wrB s g n).length = s.toNat := by simp [wrB]
def chk (s : Nat) (b : List UInt8) (i : Nat) : List UInt8 := (b.drop (i * s)).take s
def decE (k : Int) (n : Nat) : Int := if szK k = 0 then 1 else if 524288 < n / (szK k).toNat then 3 else if n % (szK k).toNat ≠ 0 then 4 else 0
def decL (k : Int) (b : List UInt8) (n : Nat) : List Int := (List.range n).map fun i => satG (decV (szK k) (rdF (szK k) (bigK k) (chk (szK k).toNat b i)))
def decO (k : Int) (b : List UInt8) : List Int := if decE k b.length = 0 then decL k b (b.length / (szK k).toNat) else []
def encE (k : Int) (l : List Int) : Int := if szK k = 0 then 1 else if 524288 < l.length then 3 else if l.all smpX = true then 0 else 2
def encL (k : Int) (l : List Int) : List UInt8 := l.flatMap fun x => wrB (szK k) (bigK k) (encV (szK k) x)
def encO (k : Int) (l : List Int) : List UInt8 := if encE k l = 0 then encL k l else []
theorem numB_lt : ∀ (b : List UInt8) (a : Nat), b.foldl (fun n c => n * 256 + c.toNat) a < (a + 1) * 256 ^ b.length
  | [], a => by simp
  | c :: b, a => by
    have h := numB_lt b (a * 256 + c.toNat)
    have hc := c.toNat_lt
    rw [List.foldl_cons, List.length_cons, Nat.pow_succ]
    refine Nat.lt_of_lt_of_le h ?_
    rw [Nat.mul_comm (256 ^ b.length), ← Nat.mul_assoc]
    exact Nat.mul_le_mul_right _ (by omega)
theorem ordB_len (g : Bool) (b : List UInt8) : (ordB g b).length = b.length := by unfold ordB; split <;> simp
theorem rdU_in (g : Bool) (b : List UInt8) : 0 ≤ rdU g b ∧ rdU g b < 256 ^ b.length := by
  have h := numB_lt (ordB g b) 0
  rw [ordB_len] at h
  unfold rdU numB
  refine ⟨Int.natCast_nonneg _, ?_⟩
  have : ((256 ^ b.length : Nat) : Int) = 256 ^ b.length := by simp
  omega
theorem ordB_get {g : Bool} {b : List UInt8} {i : Nat} (hi : i < b.length) : (ordB g b)[i]? = b[if g = true then i else b.length - 1 - i]? := by
  unfold ordB
  split
  · rfl
  · rw [List.getElem?_reverse hi]
theorem numB_succ {b : List UInt8} {i : Nat} (hi : i < b.length) : numB (b.take (i + 1)) = numB (b.take i) * 256 + (b[i]).toNat := by
  unfold numB
  rw [List.take_add_one, List.getElem?_eq_getElem hi, List.foldl_append]
  rfl
theorem or8 {n b : Int} (h0 : 0 ≤ n) (h1 : n < 16777216) (hb0 : 0 ≤ b) (hb1 : b < 256) : IntKind.i64.wrap ((BitVec.ofInt IntKind.i64.bits (IntKind.i64.wrap (n * 2 ^ Nat.min (8 : Int).toNat IntKind.i64.bits)) ||| BitVec.ofInt IntKind.i64.bits b).toNat) = n * 256 + b := by
  have e : (2 : Int) ^ Nat.min (8 : Int).toNat IntKind.i64.bits = 256 := by decide
  rw [e, IntWalk.i64_in (n * 256) (by omega)]
  obtain ⟨m, rfl⟩ := Int.eq_ofNat_of_zero_le h0
  obtain ⟨c, rfl⟩ := Int.eq_ofNat_of_zero_le hb0
  have e2 : IntKind.i64.bits = 64 := rfl
  rw [e2]
  have h3 : (BitVec.ofInt 64 ((m : Int) * 256)).toNat = m * 256 := by
    rw [BitVec.toNat_ofInt]
    omega
  have h4 : (BitVec.ofInt 64 (c : Int)).toNat = c := by
    rw [BitVec.toNat_ofInt]
    omega
  rw [BitVec.toNat_or, h3, h4]
  have h5 : m * 256 ||| c = m * 256 + c := by
    have := Nat.shiftLeft_add_eq_or_of_lt (show c < 2 ^ 8 by omega) m
    rw [Nat.shiftLeft_eq] at this
    exact this.symm
  rw [h5, IntWalk.i64_in _ (by omega)]
  simp
theorem fdiv_pow2 (n : Int) (k : Nat) : n.fdiv (2 ^ k) = n / 2 ^ k := Int.fdiv_eq_ediv_of_nonneg n (Int.pow_nonneg (by decide))
theorem u8_wrap (n : Int) : IntKind.u8.wrap n = ((byt n).toNat : Int) := by
  rw [byt_toNat]
  exact IntKind.wrap_u8 n
theorem shr8 (n : Int) : n.fdiv (2 ^ Nat.min 8 IntKind.i64.bits) = n / 256 := Int.fdiv_eq_ediv_of_nonneg n (show (0 : Int) ≤ 256 by decide)
theorem shr16 (n : Int) : n.fdiv (2 ^ Nat.min 16 IntKind.i64.bits) = n / 65536 := Int.fdiv_eq_ediv_of_nonneg n (show (0 : Int) ≤ 65536 by decide)
theorem allSnoc {l : List Int} {n : Nat} (h : n < l.length) (ha : (l.take n).all smpX = true) (hx : smpX l[n] = true) : (l.take (n + 1)).all smpX = true := by
  rw [List.take_add_one, List.getElem?_eq_getElem h, List.all_append, ha]
  simpa using hx
theorem allBad {l : List Int} {n : Nat} (h : n < l.length) (hx : smpX l[n] = false) : l.all smpX = false := by
  rw [List.all_eq_false]
  exact ⟨l[n], List.getElem_mem h, by simp [hx]⟩
theorem decE_ok {k : Int} {n : Nat} (h : decE k n = 0) : 1 ≤ szK k ∧ szK k ≤ 4 ∧ n = n / (szK k).toNat * (szK k).toNat ∧ n / (szK k).toNat ≤ 524288 := by
  unfold decE at h
  split at h
  · cases h
  · rename_i h0
    split at h
    · cases h
    · rename_i h1
      split at h
      · cases h
      · rename_i h2
        have := szK_in k
        refine ⟨by omega, by omega, ?_, by omega⟩
        have h3 : n % (szK k).toNat = 0 := by simpa using h2
        exact (Nat.div_mul_cancel (Nat.dvd_of_mod_eq_zero h3)).symm
theorem decL_len (k : Int) (b : List UInt8) (n : Nat) : (decL k b n).length = n := by simp [decL]
theorem decL_succ (k : Int) (b : List UInt8) (n : Nat) : decL k b (n + 1) = decL k b n ++ [satG (decV (szK k) (rdF (szK k) (bigK k) (chk (szK k).toNat b n)))] := by simp [decL, List.range_succ]
theorem encL_take {k : Int} {l : List Int} {n : Nat} (h : n < l.length) : encL k (l.take (n + 1)) = encL k (l.take n) ++ wrB (szK k) (bigK k) (encV (szK k) l[n]) := by
  unfold encL
  rw [List.take_add_one, List.getElem?_eq_getElem h, List.flatMap_append]
  simp
theorem encL_len (k : Int) : ∀ l : List Int, (encL k l).length = l.length * (szK k).toNat
  | [] => by simp [encL]
  | x :: l => by
    have := encL_len k l
    unfold encL at this ⊢
    rw [List.flatMap_cons, List.length_append, wrB_len, this, List.length_cons, Nat.add_mul]
    omega

theorem spec_find (k : Int) : Spec Tryz.prog 0 82 [vI .i64 k] [] [] (.agg [.d (.int .i64 (szK k)), .d (.bool (bigK k))]) [] [] := by
  refine spec_of_E (X := ⟨Tryz.prog, tt, Tryz.f82.ntmps, 1, fun _ => 0, (tab [])⟩) (M := [(1, [0, 0, 0, 0, 0, 1107294893, 0, 0, 0, 0, 0, 1107208877, 0, 0, 0, 0])]) (m := 1105199149) rfl rfl ⟨tt_ok, tab_ok tabs_nil _ rfl rfl⟩ tt_mixed Tryz.func82 rfl (by decide) (by show (1 : Nat) ≤ _; exact Nat.le_of_ble_eq_true rfl) ⟨fun m hm => (V.bare_has rfl m hm).elim, by simp, by simp⟩ ?_
  simp only [↓gPre, gPost, gCore, gDef, Nat.reduceShiftRight, Nat.reduceMod, if_true, if_false, ↓reduceIte, reduceCtorEq, Nat.reduceEqDiff, Nat.reduceLT, Nat.reduceLeDiff, implies_true, forall_const, eq_self, ne_eq, not_true_eq_false, not_false_eq_true, imp_self, Nat.reduceAdd, Nat.reduceMul, Int.reduceLE, Int.reduceLT, Int.reduceNeg, Int.reduceAdd, Int.reduceToNat, Tryz.ntmps82, Tryz.results82, gTT]
  refine ELoop_keep (fun g => ⟨[(23, vI .i64 (g : Nat))], [], []⟩) (fun g => g ≤ 7 ∧ (k < 1 ∨ (g : Int) < k)) (fun g => 7 - g) (· + 1) 0 ⟨by decide, by omega⟩ ?_ ?_
  · simp only [↓gPre, gPost, gCore, gDef, Nat.reduceShiftRight, Nat.reduceMod, if_true, if_false, ↓reduceIte, reduceCtorEq, Nat.reduceEqDiff, Nat.reduceLT, Nat.reduceLeDiff, implies_true, forall_const, eq_self, ne_eq, not_true_eq_false, not_false_eq_true, imp_self, Nat.reduceAdd, Nat.reduceMul, Int.reduceLE, Int.reduceLT, Int.reduceNeg, Int.reduceAdd, Int.reduceToNat, Tryz.ntmps82, Tryz.results82, gTT]
    rfl
  rintro g ⟨h1, h2⟩
  match g, h1, h2 with
  | 0, h1, h2 =>
    simp only [↓gPre, gPost, gCore, gDef, Nat.reduceShiftRight, Nat.reduceMod, if_true, if_false, ↓reduceIte, reduceCtorEq, Nat.reduceEqDiff, Nat.reduceLT, Nat.reduceLeDiff, implies_true, forall_const, eq_self, ne_eq, not_true_eq_false, not_false_eq_true, imp_self, Nat.reduceAdd, Nat.reduceMul, Int.reduceLE, Int.reduceLT, Int.reduceNeg, Int.reduceAdd, Int.reduceToNat, Tryz.ntmps82, Tryz.results82, gTT]
    refine ⟨fun _ => ⟨by omega, fun e => ?_, fun e => ?_⟩, fun e => by simp at e⟩
    · have e1 := beq_iff_eq.1 e
      subst e1
      decide
    · have e1 : ¬ (1 = k) := by simpa using e
      exact ⟨rfl, by omega, by decide⟩
  | 1, h1, h2 =>
    simp only [↓gPre, gPost, gCore, gDef, Nat.reduceShiftRight, Nat.reduceMod, if_true, if_false, ↓reduceIte, reduceCtorEq, Nat.reduceEqDiff, Nat.reduceLT, Nat.reduceLeDiff, implies_true, forall_const, eq_self, ne_eq, not_true_eq_false, not_false_eq_true, imp_self, Nat.reduceAdd, Nat.reduceMul, Int.reduceLE, Int.reduceLT, Int.reduceNeg, Int.reduceAdd, Int.reduceToNat, Tryz.ntmps82, Tryz.results82, gTT]
    refine ⟨fun _ => ⟨by omega, fun e => ?_, fun e => ?_⟩, fun e => by simp at e⟩
    · have e1 := beq_iff_eq.1 e
      subst e1
      decide
    · have e1 : ¬ (2 = k) := by simpa using e
      exact ⟨rfl, by omega, by decide⟩
  | 2, h1, h2 =>
    simp only [↓gPre, gPost, gCore, gDef, Nat.reduceShiftRight, Nat.reduceMod, if_true, if_false, ↓reduceIte, reduceCtorEq, Nat.reduceEqDiff, Nat.reduceLT, Nat.reduceLeDiff, implies_true, forall_const, eq_self, ne_eq, not_true_eq_false, not_false_eq_true, imp_self, Nat.reduceAdd, Nat.reduceMul, Int.reduceLE, Int.reduceLT, Int.reduceNeg, Int.reduceAdd, Int.reduceToNat, Tryz.ntmps82, Tryz.results82, gTT]
    refine ⟨fun _ => ⟨by omega, fun e => ?_, fun e => ?_⟩, fun e => by simp at e⟩
    · have e1 := beq_iff_eq.1 e
      subst e1
      decide
    · have e1 : ¬ (3 = k) := by simpa using e
      exact ⟨rfl, by omega, by decide⟩
  | 3, h1, h2 =>
    simp only [↓gPre, gPost, gCore, gDef, Nat.reduceShiftRight, Nat.reduceMod, if_true, if_false, ↓reduceIte, reduceCtorEq, Nat.reduceEqDiff, Nat.reduceLT, Nat.reduceLeDiff, implies_true, forall_const, eq_self, ne_eq, not_true_eq_false, not_false_eq_true, imp_self, Nat.reduceAdd, Nat.reduceMul, Int.reduceLE, Int.reduceLT, Int.reduceNeg, Int.reduceAdd, Int.reduceToNat, Tryz.ntmps82, Tryz.results82, gTT]
    refine ⟨fun _ => ⟨by omega, fun e => ?_, fun e => ?_⟩, fun e => by simp at e⟩
    · have e1 := beq_iff_eq.1 e
      subst e1
      decide
    · have e1 : ¬ (4 = k) := by simpa using e
      exact ⟨rfl, by omega, by decide⟩
  | 4, h1, h2 =>
    simp only [↓gPre, gPost, gCore, gDef, Nat.reduceShiftRight, Nat.reduceMod, if_true, if_false, ↓reduceIte, reduceCtorEq, Nat.reduceEqDiff, Nat.reduceLT, Nat.reduceLeDiff, implies_true, forall_const, eq_self, ne_eq, not_true_eq_false, not_false_eq_true, imp_self, Nat.reduceAdd, Nat.reduceMul, Int.reduceLE, Int.reduceLT, Int.reduceNeg, Int.reduceAdd, Int.reduceToNat, Tryz.ntmps82, Tryz.results82, gTT]
    refine ⟨fun _ => ⟨by omega, fun e => ?_, fun e => ?_⟩, fun e => by simp at e⟩
    · have e1 := beq_iff_eq.1 e
      subst e1
      decide
    · have e1 : ¬ (5 = k) := by simpa using e
      exact ⟨rfl, by omega, by decide⟩
  | 5, h1, h2 =>
    simp only [↓gPre, gPost, gCore, gDef, Nat.reduceShiftRight, Nat.reduceMod, if_true, if_false, ↓reduceIte, reduceCtorEq, Nat.reduceEqDiff, Nat.reduceLT, Nat.reduceLeDiff, implies_true, forall_const, eq_self, ne_eq, not_true_eq_false, not_false_eq_true, imp_self, Nat.reduceAdd, Nat.reduceMul, Int.reduceLE, Int.reduceLT, Int.reduceNeg, Int.reduceAdd, Int.reduceToNat, Tryz.ntmps82, Tryz.results82, gTT]
    refine ⟨fun _ => ⟨by omega, fun e => ?_, fun e => ?_⟩, fun e => by simp at e⟩
    · have e1 := beq_iff_eq.1 e
      subst e1
      decide
    · have e1 : ¬ (6 = k) := by simpa using e
      exact ⟨rfl, by omega, by decide⟩
  | 6, h1, h2 =>
    simp only [↓gPre, gPost, gCore, gDef, Nat.reduceShiftRight, Nat.reduceMod, if_true, if_false, ↓reduceIte, reduceCtorEq, Nat.reduceEqDiff, Nat.reduceLT, Nat.reduceLeDiff, implies_true, forall_const, eq_self, ne_eq, not_true_eq_false, not_false_eq_true, imp_self, Nat.reduceAdd, Nat.reduceMul, Int.reduceLE, Int.reduceLT, Int.reduceNeg, Int.reduceAdd, Int.reduceToNat, Tryz.ntmps82, Tryz.results82, gTT]
    refine ⟨fun _ => ⟨by omega, fun e => ?_, fun e => ?_⟩, fun e => by simp at e⟩
    · have e1 := beq_iff_eq.1 e
      subst e1
      decide
    · have e1 : ¬ (7 = k) := by simpa using e
      exact ⟨rfl, by omega, by decide⟩
  | 7, h1, h2 =>
    simp only [↓gPre, gPost, gCore, gDef, Nat.reduceShiftRight, Nat.reduceMod, if_true, if_false, ↓reduceIte, reduceCtorEq, Nat.reduceEqDiff, Nat.reduceLT, Nat.reduceLeDiff, implies_true, forall_const, eq_self, ne_eq, not_true_eq_false, not_false_eq_true, imp_self, Nat.reduceAdd, Nat.reduceMul, Int.reduceLE, Int.reduceLT, Int.reduceNeg, Int.reduceAdd, Int.reduceToNat, Tryz.ntmps82, Tryz.results82, gTT]
    refine ⟨fun e => by simp at e, fun _ => ⟨by unfold szK; omega, ?_⟩⟩
    simp only [bigK, Bool.or_eq_false_iff, beq_eq_false_iff_ne]
    omega
  | g + 8, h1, h2 => omega
def E_find : List V → Boxes → Toks → Name → Option Ent
  | [.c (.d (.int .i64 k))], [], [], _ => some ⟨True, .agg [.d (.int .i64 (szK k)), .d (.bool (bigK k))], [], []⟩
  | _, _, _, _ => none
def E_find_eq := And.intro (@E_find.eq_1) (@E_find.eq_1)
theorem E_find_ok : Snd Tryz.prog 82 E_find := by
  intro vs b k n e h hn hp
  unfold E_find at h
  split at h
  · cases h; exact (spec_find _).lift rfl _
  · cases h

theorem spec_size (k : Int) : Spec Tryz.prog 0 47 [vI .i64 k] [] [] (vI .i64 (szK k)) [] [] := by
  refine spec_of_E (X := ⟨Tryz.prog, tt, Tryz.f47.ntmps, 1, fun _ => 0, (tab [(82, E_find)])⟩) (M := []) (m := 5) rfl rfl ⟨tt_ok, tab_ok (tabs_cons E_find_ok tabs_nil) _ rfl rfl⟩ tt_mixed Tryz.func47 rfl (by decide) (by show (1 : Nat) ≤ _; exact Nat.le_of_ble_eq_true rfl) ⟨fun m hm => (V.bare_has rfl m hm).elim, by simp, by simp⟩ ?_
  simp only [↓gPre, gPost, gCore, gDef, Nat.reduceShiftRight, Nat.reduceMod, if_true, if_false, ↓reduceIte, reduceCtorEq, Nat.reduceEqDiff, Nat.reduceLT, Nat.reduceLeDiff, implies_true, forall_const, eq_self, ne_eq, not_true_eq_false, not_false_eq_true, imp_self, Nat.reduceAdd, Nat.reduceMul, Int.reduceLE, Int.reduceLT, Int.reduceNeg, Int.reduceAdd, Int.reduceToNat, E_find_eq, Tryz.ntmps47, Tryz.results47, gTT]

def E_size : List V → Boxes → Toks → Name → Option Ent
  | [.c (.d (.int .i64 k))], [], [], _ => some ⟨True, vI .i64 (szK k), [], []⟩
  | _, _, _, _ => none
def E_size_eq := And.intro (@E_size.eq_1) (@E_size.eq_1)
theorem E_size_ok : Snd Tryz.prog 47 E_size := by
  intro vs b k n e h hn hp
  unfold E_size at h
  split at h
  · cases h; exact (spec_size _).lift rfl _
  · cases h

theorem spec_write (s : Int) (g : Bool) (l : List UInt8) (n : Int) (hs : 1 ≤ s ∧ s ≤ 4) (hl : l.length ≤ 10000000) : Spec Tryz.prog 0 84 [.agg [.d (.int .i64 s), .d (.bool g)], .c (.own ⟨0, 0⟩ (LB l)), vI .i64 n] [] [(⟨0, 0⟩, ⟨false, 1, (LB l)⟩)] (.c (.own ⟨0, 0⟩ (LB (l ++ wrB s g n)))) [] [(⟨0, 0⟩, ⟨false, 1, LB (l ++ wrB s g n)⟩)] := by
  refine spec_of_E (X := ⟨Tryz.prog, tt, Tryz.f84.ntmps, 1, fun _ => 0, (tab [])⟩) (M := []) (m := 73167) rfl rfl ⟨tt_ok, tab_ok tabs_nil _ rfl rfl⟩ tt_mixed Tryz.func84 rfl (by decide) (by show (3 : Nat) ≤ _; exact Nat.le_of_ble_eq_true rfl) ⟨by simp [V.has, C.has], by simp [C.has], by simp⟩ ?_
  simp only [↓gPre, gPost, gCore, gDef, Nat.reduceShiftRight, Nat.reduceMod, if_true, if_false, ↓reduceIte, reduceCtorEq, Nat.reduceEqDiff, Nat.reduceLT, Nat.reduceLeDiff, implies_true, forall_const, eq_self, ne_eq, not_true_eq_false, not_false_eq_true, imp_self, Nat.reduceAdd, Nat.reduceMul, Int.reduceLE, Int.reduceLT, Int.reduceNeg, Int.reduceAdd, Int.reduceToNat, Tryz.ntmps84, Tryz.results84, gTT]
  refine ELoop_keep (fun i => ⟨[(11, vI .i64 (i : Nat)), (1, .c (.own ⟨0, 0⟩ (LB (l ++ (wrB s g n).take i))))], [], [(⟨0, 0⟩, ⟨false, 1, LB (l ++ (wrB s g n).take i)⟩)]⟩) (fun i => i ≤ s.toNat) (fun i => s.toNat - i) (· + 1) 0 (Nat.zero_le _) ?_ ?_
  · simp only [↓gPre, gPost, gCore, gDef, Nat.reduceShiftRight, Nat.reduceMod, if_true, if_false, ↓reduceIte, reduceCtorEq, Nat.reduceEqDiff, Nat.reduceLT, Nat.reduceLeDiff, implies_true, forall_const, eq_self, ne_eq, not_true_eq_false, not_false_eq_true, imp_self, Nat.reduceAdd, Nat.reduceMul, Int.reduceLE, Int.reduceLT, Int.reduceNeg, Int.reduceAdd, Int.reduceToNat, Tryz.ntmps84, Tryz.results84, gTT]
    rfl
  intro i hi
  simp only [↓gPre, gPost, gCore, gDef, Nat.reduceShiftRight, Nat.reduceMod, if_true, if_false, ↓reduceIte, reduceCtorEq, Nat.reduceEqDiff, Nat.reduceLT, Nat.reduceLeDiff, implies_true, forall_const, eq_self, ne_eq, not_true_eq_false, not_false_eq_true, imp_self, Nat.reduceAdd, Nat.reduceMul, Int.reduceLE, Int.reduceLT, Int.reduceNeg, Int.reduceAdd, Int.reduceToNat, Tryz.ntmps84, Tryz.results84, gTT]
  have hlen := wrB_len s g n
  have hll : (l ++ List.take i (wrB s g n)).length ≤ 10000004 := by rw [List.length_append, List.length_take]; omega
  refine ⟨fun h1 => ?_, fun h1 => ?_⟩
  · have hlt : i < s.toNat := by have := of_decide_eq_true h1; omega
    have key : (wrB s g n).take (i + 1) = (wrB s g n).take i ++ [byt (n / 2 ^ (8 * (if g = true then s.toNat - 1 - i else i)))] := by
      rw [List.take_add_one]
      congr 1
      unfold wrB
      rw [List.getElem?_map, List.getElem?_range hlt]
      rfl
    rw [key, ← List.append_assoc, ← LB_snoc]
    refine ⟨fun hg => ?_, fun hg => ?_⟩
    · subst hg
      rw [if_pos rfl, IntWalk.i64_in (s - 1) (by omega), IntWalk.i64_in (s - 1 - (i : Int)) (by omega), IntWalk.i64_in (8 * (s - 1 - (i : Int))) (by omega)]
      have e : (8 * (s - 1 - (i : Int))).toNat.min IntKind.i64.bits = 8 * (s.toNat - 1 - i) := by
        show min _ 64 = _
        omega
      rw [e, fdiv_pow2, u8_wrap]
      exact ⟨by omega, by unfold roomOK; omega, ⟨⟨(wrapN _ (by omega)).symm, rfl⟩, rfl⟩, by omega, by omega⟩
    · subst hg
      rw [if_neg (by decide), IntWalk.i64_in (8 * (i : Int)) (by omega)]
      have e : (8 * (i : Int)).toNat.min IntKind.i64.bits = 8 * i := by
        show min _ 64 = _
        omega
      rw [e, fdiv_pow2, u8_wrap]
      exact ⟨by omega, by unfold roomOK; omega, ⟨⟨(wrapN _ (by omega)).symm, rfl⟩, rfl⟩, by omega, by omega⟩
  · have h2 : i = s.toNat := by have := of_decide_eq_false h1; omega
    rw [h2, List.take_of_length_le (by omega)]
    exact ⟨rfl, rfl⟩
def E_write : List V → Boxes → Toks → Name → Option Ent
  | [.agg [.d (.int .i64 s), .d (.bool g)], .c (.own n0 q_l), .c (.d (.int .i64 n))], [], [(j0, ⟨false, 1, q_l_1⟩)], _ => some ⟨q_l_1 = q_l ∧ (1 ≤ s ∧ s ≤ 4) ∧ (bys q_l).length ≤ 10000000 ∧ n0.lv ≤ 1 ∧ j0 = n0 ∧ q_l = LB (bys q_l), .c (.own n0 (LB ((bys q_l) ++ wrB s g n))), [], [(n0, ⟨false, 1, LB ((bys q_l) ++ wrB s g n)⟩)]⟩
  | _, _, _, _ => none
def E_write_eq := And.intro (@E_write.eq_1) (@E_write.eq_1)
theorem E_write_ok : Snd Tryz.prog 84 E_write := by
  intro vs b k n e h hn hp
  unfold E_write at h
  split at h
  · cases h; obtain ⟨rfl, hp0, hp1, hl0, rfl, hq0⟩ := hp; obtain ⟨_, rfl⟩ := LB_ex hq0; simp only [ints_LI, bys_LB, blks_LK, lls_LL] at hp0 hp1 ⊢; exact Spec.ren1 (spec_write _ _ _ _ hp0 hp1) 0 (by simp [supOK, V.names, C.names, namesB, namesK]) hl0 
  · cases h

theorem rd_step {g : Bool} {b : List UInt8} {i : Nat} (hi : i < b.length) (h4 : b.length ≤ 4) : ((numB ((ordB g b).take (i + 1)) : Nat) : Int) = IntKind.i64.wrap ((BitVec.ofInt IntKind.i64.bits (IntKind.i64.wrap ((numB ((ordB g b).take i) : Nat) * 2 ^ Nat.min (8 : Int).toNat IntKind.i64.bits)) ||| BitVec.ofInt IntKind.i64.bits (IntKind.i64.wrap ((b[if g = true then i else b.length - 1 - i]?.getD 0).toNat : Nat))).toNat) := by
  have hl := ordB_len g b
  have hio : i < (ordB g b).length := by omega
  have hg := ordB_get (g := g) hi
  rw [List.getElem?_eq_getElem hio] at hg
  rw [← hg, Option.getD_some, numB_succ hio]
  have hc := ((ordB g b)[i]).toNat_lt
  have hb : numB ((ordB g b).take i) < 16777216 := by
    have h := numB_lt ((ordB g b).take i) 0
    have hlt : ((ordB g b).take i).length ≤ 3 := by rw [List.length_take]; omega
    have := Nat.pow_le_pow_right (show 0 < 256 by decide) hlt
    unfold numB
    omega
  rw [IntWalk.i64_in (((ordB g b)[i]).toNat : Int) (by omega), or8 (by omega) (by omega) (by omega) (by omega)]
  omega
theorem sgn_rd {s : Int} {g : Bool} {b : List UInt8} (hs : 1 ≤ s ∧ s ≤ 4) (hb : b.length = s.toNat) : 0 ≤ rdU g b ∧ rdU g b < 2 * halfS s := by
  have h := rdU_in g b
  rw [hb] at h
  refine ⟨h.1, ?_⟩
  have : s = 1 ∨ s = 2 ∨ s = 3 ∨ s = 4 := by omega
  rcases this with rfl | rfl | rfl | rfl
  · exact h.2
  · exact h.2
  · exact h.2
  · exact h.2

theorem spec_read (s : Int) (g : Bool) (b : List UInt8) (hs : 1 ≤ s ∧ s ≤ 4) (hb : b.length = s.toNat) : Spec Tryz.prog 0 95 [.agg [.d (.int .i64 s), .d (.bool g)], vL (LB b)] [] [] (vI .i64 (rdF s g b)) [] [] := by
  refine spec_of_E (X := ⟨Tryz.prog, tt, Tryz.f95.ntmps, 1, fun _ => 0, (tab [])⟩) (M := [(10, [0, 0, 0, 0, 0, 8778913222391, 0, 0, 0, 0, 0, 0])]) (m := 4398046580471) rfl rfl ⟨tt_ok, tab_ok tabs_nil _ rfl rfl⟩ tt_mixed Tryz.func95 rfl (by decide) (by show (2 : Nat) ≤ _; exact Nat.le_of_ble_eq_true rfl) ⟨fun m hm => (V.bare_has rfl m hm).elim, by simp, by simp⟩ ?_
  simp only [↓gPre, gPost, gCore, gDef, Nat.reduceShiftRight, Nat.reduceMod, if_true, if_false, ↓reduceIte, reduceCtorEq, Nat.reduceEqDiff, Nat.reduceLT, Nat.reduceLeDiff, implies_true, forall_const, eq_self, ne_eq, not_true_eq_false, not_false_eq_true, imp_self, Nat.reduceAdd, Nat.reduceMul, Int.reduceLE, Int.reduceLT, Int.reduceNeg, Int.reduceAdd, Int.reduceToNat, Tryz.ntmps95, Tryz.results95, gTT]
  refine ELoop_keep (fun i => ⟨[(10, vI .i64 (i : Nat)), (5, vI .i64 (numB ((ordB g b).take i) : Nat))], [], []⟩) (fun i => i ≤ s.toNat) (fun i => s.toNat - i) (· + 1) 0 (Nat.zero_le _) ?_ ?_
  · simp only [↓gPre, gPost, gCore, gDef, Nat.reduceShiftRight, Nat.reduceMod, if_true, if_false, ↓reduceIte, reduceCtorEq, Nat.reduceEqDiff, Nat.reduceLT, Nat.reduceLeDiff, implies_true, forall_const, eq_self, ne_eq, not_true_eq_false, not_false_eq_true, imp_self, Nat.reduceAdd, Nat.reduceMul, Int.reduceLE, Int.reduceLT, Int.reduceNeg, Int.reduceAdd, Int.reduceToNat, Tryz.ntmps95, Tryz.results95, gTT]
    exact ⟨rfl, rfl⟩
  intro i hi
  simp only [↓gPre, gPost, gCore, gDef, Nat.reduceShiftRight, Nat.reduceMod, if_true, if_false, ↓reduceIte, reduceCtorEq, Nat.reduceEqDiff, Nat.reduceLT, Nat.reduceLeDiff, implies_true, forall_const, eq_self, ne_eq, not_true_eq_false, not_false_eq_true, imp_self, Nat.reduceAdd, Nat.reduceMul, Int.reduceLE, Int.reduceLT, Int.reduceNeg, Int.reduceAdd, Int.reduceToNat, Tryz.ntmps95, Tryz.results95, gTT]
  refine ⟨fun h1 => ?_, fun h1 => ?_⟩
  · have hlt : i < b.length := by have := of_decide_eq_true h1; omega
    have hst := rd_step (g := g) hlt (by omega)
    refine ⟨fun hg => ?_, fun hg => ?_⟩
    · subst hg
      rw [if_neg (by decide)] at hst
      rw [IntWalk.i64_in (s - 1) (by omega), IntWalk.i64_in (s - 1 - (i : Int)) (by omega)]
      have e : (s - 1 - (i : Int)).toNat = b.length - 1 - i := by omega
      rw [e]
      exact ⟨by omega, ⟨(wrapN _ (by omega)).symm, hst⟩, by omega, by omega⟩
    · have hg' : g = true := by simpa using hg
      subst hg'
      rw [if_pos rfl] at hst
      exact ⟨by omega, ⟨(wrapN _ (by omega)).symm, hst⟩, by omega, by omega⟩
  · have h2 : i = s.toNat := by have := of_decide_eq_false h1; omega
    rw [h2, List.take_of_length_le (by rw [ordB_len]; omega)]
    have hr := sgn_rd (g := g) hs hb
    have hrd : ((numB (ordB g b) : Nat) : Int) = rdU g b := rfl
    rw [hrd]
    generalize hR : rdU g b = R at *
    unfold rdF sgn
    rw [hR]
    have : s = 1 ∨ s = 2 ∨ s = 3 ∨ s = 4 := by omega
    rcases this with rfl | rfl | rfl | rfl
    · refine ⟨fun e => by simp at e, fun e => by simp at e, fun _ => rfl⟩
    · have p1 : IntKind.i64.wrap (1 * 2 ^ (IntKind.i64.wrap (IntKind.i64.wrap (8 * 2) - 1)).toNat.min IntKind.i64.bits) = 32768 := by decide
      have p2 : IntKind.i64.wrap (1 * 2 ^ (IntKind.i64.wrap (8 * 2)).toNat.min IntKind.i64.bits) = 65536 := by decide
      have p3 : halfS 2 = 32768 := rfl
      rw [p3] at hr
      rw [p1, p2, p3, if_neg (by decide)]
      refine ⟨fun e => by decide, fun e => ⟨by decide, ?_⟩, fun e => ?_⟩
      · have h3 : 32768 ≤ R := by simpa using e
        rw [if_pos h3, IntWalk.i64_in _ (by omega)]
        omega
      · have h3 : ¬ 32768 ≤ R := by simpa using e
        rw [if_neg h3]
    · have p1 : IntKind.i64.wrap (1 * 2 ^ (IntKind.i64.wrap (IntKind.i64.wrap (8 * 3) - 1)).toNat.min IntKind.i64.bits) = 8388608 := by decide
      have p2 : IntKind.i64.wrap (1 * 2 ^ (IntKind.i64.wrap (8 * 3)).toNat.min IntKind.i64.bits) = 16777216 := by decide
      have p3 : halfS 3 = 8388608 := rfl
      rw [p3] at hr
      rw [p1, p2, p3, if_neg (by decide)]
      refine ⟨fun e => by decide, fun e => ⟨by decide, ?_⟩, fun e => ?_⟩
      · have h3 : 8388608 ≤ R := by simpa using e
        rw [if_pos h3, IntWalk.i64_in _ (by omega)]
        omega
      · have h3 : ¬ 8388608 ≤ R := by simpa using e
        rw [if_neg h3]
    · have p1 : IntKind.i64.wrap (1 * 2 ^ (IntKind.i64.wrap (IntKind.i64.wrap (8 * 4) - 1)).toNat.min IntKind.i64.bits) = 2147483648 := by decide
      have p2 : IntKind.i64.wrap (1 * 2 ^ (IntKind.i64.wrap (8 * 4)).toNat.min IntKind.i64.bits) = 4294967296 := by decide
      have p3 : halfS 4 = 2147483648 := rfl
      rw [p3] at hr
      rw [p1, p2, p3, if_neg (by decide)]
      refine ⟨fun e => by decide, fun e => ⟨by decide, ?_⟩, fun e => ?_⟩
      · have h3 : 2147483648 ≤ R := by simpa using e
        rw [if_pos h3, IntWalk.i64_in _ (by omega)]
        omega
      · have h3 : ¬ 2147483648 ≤ R := by simpa using e
        rw [if_neg h3]
def E_read : List V → Boxes → Toks → Name → Option Ent
  | [.agg [.d (.int .i64 s), .d (.bool g)], .c (.d (.list q_b))], [], [], _ => some ⟨(1 ≤ s ∧ s ≤ 4) ∧ (bys q_b).length = s.toNat ∧ q_b = LB (bys q_b), vI .i64 (rdF s g (bys q_b)), [], []⟩
  | _, _, _, _ => none
def E_read_eq := And.intro (@E_read.eq_1) (@E_read.eq_1)
theorem E_read_ok : Snd Tryz.prog 95 E_read := by
  intro vs b k n e h hn hp
  unfold E_read at h
  split at h
  · cases h; obtain ⟨hp0, hp1, hq0⟩ := hp; obtain ⟨_, rfl⟩ := LB_ex hq0; simp only [ints_LI, bys_LB, blks_LK, lls_LL] at hp0 hp1 ⊢; exact (spec_read _ _ _ hp0 hp1).lift rfl _
  · cases h

theorem rdF_in {s : Int} {g : Bool} {b : List UInt8} (hs : 1 ≤ s ∧ s ≤ 4) (hb : b.length = s.toNat) : -2147483648 ≤ rdF s g b ∧ rdF s g b ≤ 2147483647 := by
  have h := sgn_rd (g := g) hs hb
  generalize hR : rdU g b = R at h
  unfold rdF sgn
  rw [hR]
  have : s = 1 ∨ s = 2 ∨ s = 3 ∨ s = 4 := by omega
  rcases this with rfl | rfl | rfl | rfl
  · have e : halfS 1 = 128 := rfl
    rw [e] at h ⊢; rw [if_pos rfl]; omega
  · have e : halfS 2 = 32768 := rfl
    rw [e] at h ⊢; rw [if_neg (by decide)]; omega
  · have e : halfS 3 = 8388608 := rfl
    rw [e] at h ⊢; rw [if_neg (by decide)]; omega
  · have e : halfS 4 = 2147483648 := rfl
    rw [e] at h ⊢; rw [if_neg (by decide)]; omega

theorem byt_eq {n : Int} {c : UInt8} (h : n % 256 = (c.toNat : Int)) : byt n = c := by
  apply UInt8.toNat_inj.1
  have := byt_toNat n
  omega
theorem numB1 (a : UInt8) : numB [a] = a.toNat := by simp [numB]
theorem numB2 (a b : UInt8) : numB [a, b] = a.toNat * 256 + b.toNat := by simp [numB]
theorem numB3 (a b c : UInt8) : numB [a, b, c] = (a.toNat * 256 + b.toNat) * 256 + c.toNat := by simp [numB]
theorem numB4 (a b c d : UInt8) : numB [a, b, c, d] = ((a.toNat * 256 + b.toNat) * 256 + c.toNat) * 256 + d.toNat := by simp [numB]
theorem wrB1 (g : Bool) (n : Int) : wrB 1 g n = [byt n] := by cases g <;> simp [wrB, List.range_succ]
theorem wrB2 (g : Bool) (n : Int) : wrB 2 g n = if g = true then [byt (n / 256), byt n] else [byt n, byt (n / 256)] := by
  cases g <;> simp [wrB, List.range_succ]
theorem wrB3 (g : Bool) (n : Int) : wrB 3 g n = if g = true then [byt (n / 65536), byt (n / 256), byt n] else [byt n, byt (n / 256), byt (n / 65536)] := by
  cases g <;> simp [wrB, List.range_succ]
theorem wrB4 (g : Bool) (n : Int) : wrB 4 g n = if g = true then [byt (n / 16777216), byt (n / 65536), byt (n / 256), byt n] else [byt n, byt (n / 256), byt (n / 65536), byt (n / 16777216)] := by
  cases g <;> simp [wrB, List.range_succ]
theorem ordB_len1 {g : Bool} {c : List UInt8} (h : c.length = 1) : ∃ a, ordB g c = [a] ∧ c = [a] := by
  match c, h with
  | [a], _ => exact ⟨a, by cases g <;> rfl, rfl⟩
theorem len2_ex {c : List UInt8} (h : c.length = 2) : ∃ a b, c = [a, b] := by
  match c, h with
  | [a, b], _ => exact ⟨a, b, rfl⟩
theorem len3_ex {c : List UInt8} (h : c.length = 3) : ∃ a b d, c = [a, b, d] := by
  match c, h with
  | [a, b, d], _ => exact ⟨a, b, d, rfl⟩
/-- What is written of what was read. -/
theorem wr_rd {s : Int} {g : Bool} {c : List UInt8} (hs : s = 1 ∨ s = 2 ∨ s = 3) (hl : c.length = s.toNat) : wrB s g (rdF s g c) = c := by
  rcases hs with rfl | rfl | rfl
  · obtain ⟨a, h1, rfl⟩ := ordB_len1 (g := g) hl
    rw [wrB1]
    unfold rdF rdU
    rw [if_pos rfl, h1, numB1]
    have := a.toNat_lt
    rw [byt_eq (c := a) (by omega)]
  · obtain ⟨a, b, rfl⟩ := len2_ex hl
    have ha := a.toNat_lt
    have hb := b.toNat_lt
    rw [wrB2]
    unfold rdF sgn rdU halfS ordB
    cases g
    · simp only [Bool.false_eq_true, if_false, List.reverse_cons, List.reverse_nil, List.nil_append, List.cons_append, numB2]
      rw [byt_eq (c := a), byt_eq (c := b)] <;> (simp only [show ¬ ((2 : Int) = 1) by decide, if_false, if_true]; split <;> omega)
    · simp only [if_true, numB2]
      rw [byt_eq (c := a), byt_eq (c := b)] <;> (simp only [show ¬ ((2 : Int) = 1) by decide, if_false, if_true]; split <;> omega)
  · obtain ⟨a, b, d, rfl⟩ := len3_ex hl
    have ha := a.toNat_lt
    have hb := b.toNat_lt
    have hd := d.toNat_lt
    rw [wrB3]
    unfold rdF sgn rdU halfS ordB
    cases g
    · simp only [Bool.false_eq_true, if_false, List.reverse_cons, List.reverse_nil, List.nil_append, List.cons_append, numB3]
      rw [byt_eq (c := a), byt_eq (c := b), byt_eq (c := d)] <;> (simp only [show ¬ ((3 : Int) = 1) by decide, show ¬ ((3 : Int) = 2) by decide, if_false, if_true]; split <;> omega)
    · simp only [if_true, numB3]
      rw [byt_eq (c := a), byt_eq (c := b), byt_eq (c := d)] <;> (simp only [show ¬ ((3 : Int) = 1) by decide, show ¬ ((3 : Int) = 2) by decide, if_false, if_true]; split <;> omega)
def fitS (s n : Int) : Prop := (s = 1 ∧ 0 ≤ n ∧ n ≤ 255) ∨ (s = 2 ∧ -32768 ≤ n ∧ n ≤ 32767) ∨ (s = 3 ∧ -8388608 ≤ n ∧ n ≤ 8388607) ∨ (s = 4 ∧ -2147483648 ≤ n ∧ n ≤ 2147483647)
/-- What is read of what was written. -/
theorem rd_wr {s : Int} {g : Bool} {n : Int} (h : fitS s n) : rdF s g (wrB s g n) = n := by
  have b0 := byt_toNat n
  have b1 := byt_toNat (n / 256)
  have b2 := byt_toNat (n / 65536)
  have b3 := byt_toNat (n / 16777216)
  rcases h with ⟨rfl, h⟩ | ⟨rfl, h⟩ | ⟨rfl, h⟩ | ⟨rfl, h⟩
  · rw [wrB1]
    unfold rdF rdU
    rw [if_pos rfl, show ordB g [byt n] = [byt n] by cases g <;> rfl, numB1]
    omega
  · rw [wrB2]
    unfold rdF sgn rdU halfS ordB
    cases g
    · simp only [Bool.false_eq_true, if_false, List.reverse_cons, List.reverse_nil, List.nil_append, List.cons_append, numB2, show ¬ ((2 : Int) = 1) by decide, if_true]
      split <;> omega
    · simp only [if_true, numB2, show ¬ ((2 : Int) = 1) by decide, if_false]
      split <;> omega
  · rw [wrB3]
    unfold rdF sgn rdU halfS ordB
    cases g
    · simp only [Bool.false_eq_true, if_false, List.reverse_cons, List.reverse_nil, List.nil_append, List.cons_append, numB3, show ¬ ((3 : Int) = 1) by decide, show ¬ ((3 : Int) = 2) by decide, if_true]
      split <;> omega
    · simp only [if_true, numB3, show ¬ ((3 : Int) = 1) by decide, show ¬ ((3 : Int) = 2) by decide, if_false]
      split <;> omega
  · rw [wrB4]
    unfold rdF sgn rdU halfS ordB
    cases g
    · simp only [Bool.false_eq_true, if_false, List.reverse_cons, List.reverse_nil, List.nil_append, List.cons_append, numB4, show ¬ ((4 : Int) = 1) by decide, show ¬ ((4 : Int) = 2) by decide, show ¬ ((4 : Int) = 3) by decide]
      split <;> omega
    · simp only [if_true, numB4, show ¬ ((4 : Int) = 1) by decide, show ¬ ((4 : Int) = 2) by decide, show ¬ ((4 : Int) = 3) by decide, if_false]
      split <;> omega
theorem encV_fit {k x : Int} (hk : szK k ≠ 0) (h : smpX x = true) : fitS (szK k) (encV (szK k) x) := by
  have hx := smpX_in h
  have e1 : encV 1 x = min 255 (128 + (x + 32768) / 65536) := by simp [encV]
  have e2 : encV 2 x = min 32767 ((x + 128) / 256) := by simp [encV]
  have e3 : encV 3 x = x := by simp [encV]
  have e4 : encV 4 x = x * 256 := by simp [encV]
  have := szK_in k
  rcases this with h | h | h | h | h <;> rw [h] at hk ⊢
  · exact absurd rfl hk
  · rw [e1]; left; omega
  · rw [e2]; right; left; omega
  · rw [e3]; right; right; left; omega
  · rw [e4]; right; right; right; omega
theorem satG_id {n : Int} (h : -8388608 ≤ n ∧ n ≤ 8388607) : satG n = n := by unfold satG; omega
/-- The sample that comes back. -/
def rtS (s x : Int) : Int := satG (decV s (encV s x))
theorem chunks_take (s : Nat) (b : List UInt8) : ∀ n, (List.range n).flatMap (fun i => chk s b i) = b.take (n * s)
  | 0 => by simp
  | n + 1 => by
    rw [List.range_succ, List.flatMap_append, chunks_take s b n]
    simp only [List.flatMap_cons, List.flatMap_nil, List.append_nil, chk]
    rw [Nat.add_mul, Nat.one_mul, List.take_add]
theorem chk_len {s n i : Nat} {b : List UInt8} (h : b.length = n * s) (hi : i < n) : (chk s b i).length = s := by
  unfold chk
  rw [List.length_take, List.length_drop, h]
  have : (i + 1) * s ≤ n * s := Nat.mul_le_mul_right _ hi
  rw [Nat.add_mul, Nat.one_mul] at this
  omega
theorem chk_flat {s : Nat} {f : Int → List UInt8} (hf : ∀ x, (f x).length = s) : ∀ (l : List Int) (i : Nat), (hi : i < l.length) → chk s (l.flatMap f) i = f l[i]
  | [], i, hi => absurd hi (Nat.not_lt_zero _)
  | x :: l, 0, _ => by
    simp only [chk, List.flatMap_cons, Nat.zero_mul, List.drop_zero]
    rw [List.take_left' (hf x)]
    rfl
  | x :: l, i + 1, hi => by
    have ih := chk_flat hf l i (by simpa using hi)
    simp only [chk, List.flatMap_cons] at ih ⊢
    rw [show (i + 1) * s = (f x).length + i * s by rw [hf, Nat.add_mul, Nat.one_mul, Nat.add_comm], ← List.drop_drop, List.drop_left]
    simpa using ih
theorem decL_encL {k : Int} (hk : szK k ≠ 0) {l : List Int} (hl : l.all smpX = true) : decL k (encL k l) l.length = l.map (rtS (szK k)) := by
  unfold decL
  apply List.ext_getElem
  · simp
  · intro i h1 h2
    have hi : i < l.length := by simpa using h2
    have hx := List.all_eq_true.1 hl _ (List.getElem_mem hi)
    simp only [List.getElem_map, List.getElem_range]
    have e : chk (szK k).toNat (encL k l) i = wrB (szK k) (bigK k) (encV (szK k) l[i]) := chk_flat (fun x => wrB_len _ _ _) l i hi
    rw [e, rd_wr (encV_fit hk hx)]
    rfl
theorem encL_decL {k : Int} (hk : szK k = 1 ∨ szK k = 2 ∨ szK k = 3) {b : List UInt8} {n : Nat} (hb : b.length = n * (szK k).toNat) : encL k (decL k b n) = b ∧ (decL k b n).all smpX = true := by
  have key : ∀ i, i < n → satG (decV (szK k) (rdF (szK k) (bigK k) (chk (szK k).toNat b i))) = decV (szK k) (rdF (szK k) (bigK k) (chk (szK k).toNat b i)) ∧ encV (szK k) (decV (szK k) (rdF (szK k) (bigK k) (chk (szK k).toNat b i))) = rdF (szK k) (bigK k) (chk (szK k).toNat b i) := by
    intro i hi
    have hc := chk_len hb hi
    have hr := rdU_in (bigK k) (chk (szK k).toNat b i)
    rw [hc] at hr
    unfold rdF sgn halfS decV encV satG
    rcases hk with h | h | h <;> rw [h] at hr ⊢
    · simp only [if_true]
      have h2 : (256 : Int) ^ (1 : Int).toNat = 256 := by decide
      omega
    · simp only [show ¬ ((2 : Int) = 1) by decide, if_false, if_true]
      have h2 : (256 : Int) ^ (2 : Int).toNat = 65536 := by decide
      omega
    · simp only [show ¬ ((3 : Int) = 1) by decide, show ¬ ((3 : Int) = 2) by decide, show ¬ ((3 : Int) = 4) by decide, if_false, if_true, ↓reduceIte]
      have h2 : (256 : Int) ^ (3 : Int).toNat = 16777216 := by decide
      generalize rdU (bigK k) (chk (3 : Int).toNat b i) = R at *
      refine ⟨?_, trivial⟩
      by_cases hh : 8388608 ≤ R
      · simp only [if_pos hh]; omega
      · simp only [if_neg hh]; omega
  refine ⟨?_, ?_⟩
  · unfold encL decL
    rw [List.flatMap_map]
    have e : (List.range n).flatMap (fun i => wrB (szK k) (bigK k) (encV (szK k) (satG (decV (szK k) (rdF (szK k) (bigK k) (chk (szK k).toNat b i)))))) = (List.range n).flatMap (fun i => chk (szK k).toNat b i) := by
      rw [List.flatMap_def, List.flatMap_def]
      congr 1
      apply List.map_congr_left
      intro i hi
      rw [List.mem_range] at hi
      obtain ⟨k1, k2⟩ := key i hi
      rw [k1, k2, wr_rd hk (chk_len hb hi)]
    rw [e, chunks_take, List.take_of_length_le (by omega)]
  · rw [List.all_eq_true]
    intro x hx
    unfold decL at hx
    obtain ⟨i, _, rfl⟩ := List.mem_map.1 hx
    have := satG_in (decV (szK k) (rdF (szK k) (bigK k) (chk (szK k).toNat b i)))
    simp only [smpX, Bool.and_eq_true, decide_eq_true_eq]
    exact this

theorem spec_encode (k : Int) (l : List Int) (hl : l.length ≤ 1000000) : Spec Tryz.prog 0 43 [vI .i64 k, vL (LI .i32 l)] [] [] (.tup [.list (LB (encO k l)), .int .i64 (encE k l)]) [] [] := by
  refine spec_of_E (X := ⟨Tryz.prog, tt, Tryz.f43.ntmps, 1, fun s => if s = 26 then 1 else if s = 60 then 3 else 0, (tab [(82, E_find), (83, E_sis), (84, E_write)])⟩) (M := []) (m := 9149622383683315) rfl rfl ⟨tt_ok, tab_ok (tabs_cons E_find_ok (tabs_cons E_sis_ok (tabs_cons E_write_ok tabs_nil))) _ rfl rfl⟩ tt_mixed Tryz.func43 rfl (by decide) (by show (2 : Nat) ≤ _; exact Nat.le_of_ble_eq_true rfl) ⟨fun m hm => (V.bare_has rfl m hm).elim, by simp, by simp⟩ ?_
  simp only [↓gPre, gPost, gCore, gDef, Nat.reduceShiftRight, Nat.reduceMod, if_true, if_false, ↓reduceIte, reduceCtorEq, Nat.reduceEqDiff, Nat.reduceLT, Nat.reduceLeDiff, implies_true, forall_const, eq_self, ne_eq, not_true_eq_false, not_false_eq_true, imp_self, Nat.reduceAdd, Nat.reduceMul, Int.reduceLE, Int.reduceLT, Int.reduceNeg, Int.reduceAdd, Int.reduceToNat, E_find_eq, E_sis_eq, E_write_eq, Tryz.ntmps43, Tryz.results43, gTT]
  refine ⟨fun h => ?_, fun h => ⟨fun h1 => ?_, fun h1 => ?_⟩⟩
  · have h0 : szK k = 0 := by simpa using h
    have e : encE k l = 1 := by simp [encE, h0]
    simp [encO, e, LB_nil]
  · have h0 : ¬ szK k = 0 := by simpa using h
    have h2 := of_decide_eq_true h1
    have e : encE k l = 3 := by unfold encE; rw [if_neg h0, if_pos (by omega)]
    simp [encO, e, LB_nil]
  have h0 : ¬ szK k = 0 := by simpa using h
  have h2 := of_decide_eq_false h1
  have hsz := szK_in k
  have hmul : 0 ≤ (l.length : Int) * szK k ∧ (l.length : Int) * szK k ≤ 4000000 := by
    rcases hsz with e | e | e | e | e <;> rw [e] <;> omega
  rw [IntWalk.i64_in ((l.length : Int) * szK k) (by omega)]
  refine ⟨⟨hmul.1, by omega, by omega⟩, ?_⟩
  refine ELoop_keep (fun n => ⟨[(29, vI .i64 (n : Nat)), (7, .c (.own ⟨1, 26⟩ (LB (encL k (l.take n)))))], [], [(⟨1, 26⟩, ⟨false, 1, LB (encL k (l.take n))⟩)]⟩) (fun n => n ≤ l.length ∧ (l.take n).all smpX = true) (fun n => l.length - n) (· + 1) 0 ⟨Nat.zero_le _, rfl⟩ ?_ ?_
  · simp only [↓gPre, gPost, gCore, gDef, Nat.reduceShiftRight, Nat.reduceMod, if_true, if_false, ↓reduceIte, reduceCtorEq, Nat.reduceEqDiff, Nat.reduceLT, Nat.reduceLeDiff, implies_true, forall_const, eq_self, ne_eq, not_true_eq_false, not_false_eq_true, imp_self, Nat.reduceAdd, Nat.reduceMul, Int.reduceLE, Int.reduceLT, Int.reduceNeg, Int.reduceAdd, Int.reduceToNat, E_find_eq, E_sis_eq, E_write_eq, Tryz.ntmps43, Tryz.results43, gTT]
    exact ⟨⟨rfl, rfl⟩, rfl⟩
  rintro n ⟨hn, ha⟩
  simp only [↓gPre, gPost, gCore, gDef, Nat.reduceShiftRight, Nat.reduceMod, if_true, if_false, ↓reduceIte, reduceCtorEq, Nat.reduceEqDiff, Nat.reduceLT, Nat.reduceLeDiff, implies_true, forall_const, eq_self, ne_eq, not_true_eq_false, not_false_eq_true, imp_self, Nat.reduceAdd, Nat.reduceMul, Int.reduceLE, Int.reduceLT, Int.reduceNeg, Int.reduceAdd, Int.reduceToNat, E_find_eq, E_sis_eq, E_write_eq, Tryz.ntmps43, Tryz.results43, gTT]
  refine ⟨fun h3 => ⟨by have := of_decide_eq_true h3; omega, fun h4 => ?_, fun h4 => ?_⟩, fun h3 => ?_⟩
  · have hlt : n < l.length := by have := of_decide_eq_true h3; omega
    rw [List.getElem?_eq_getElem hlt, Option.getD_some] at h4
    have hb := allBad hlt h4
    have e : encE k l = 2 := by unfold encE; rw [if_neg h0, if_neg (by omega), hb]; rfl
    simp [encO, e, LB_nil]
  · have hlt : n < l.length := by have := of_decide_eq_true h3; omega
    rw [List.getElem?_eq_getElem hlt, Option.getD_some] at h4 ⊢
    have hx : smpX l[n] = true := by simpa using h4
    have hxx := smpX_in hx
    have hst := encL_take (k := k) hlt
    have hall := allSnoc hlt ha hx
    have hlen := encL_len k (l.take n)
    have hlen2 : (encL k (l.take n)).length ≤ 4000000 := by
      rw [hlen, List.length_take]
      rcases hsz with e | e | e | e | e <;> rw [e] <;> simp <;> omega
    generalize l[n] = x at *
    rw [shr16, shr8, IntWalk.i64_in x (by omega), IntWalk.i64_in (x + 32768) (by omega), IntWalk.i64_in (128 + (x + 32768) / 65536) (by omega), IntWalk.i64_in (x + 128) (by omega), IntWalk.i64_in (x * 256) (by omega)]
    refine ⟨fun e1 => ?_, fun e1 => ⟨fun e2 => ?_, fun e2 => ⟨fun e4 => ?_, fun e4 => ?_⟩⟩⟩
    · have hs : szK k = 1 := by simpa using e1
      have hv : encV (szK k) x = if 128 + (x + 32768) / 65536 < 255 then 128 + (x + 32768) / 65536 else 255 := by unfold encV; rw [hs, if_pos rfl]; omega
      rw [hst, hv]
      exact ⟨⟨by omega, by omega⟩, ⟨⟨(wrapN _ (by omega)).symm, rfl⟩, rfl⟩, ⟨by omega, hall⟩, by omega⟩
    · have hs : szK k = 2 := by simpa using e2
      have hv : encV (szK k) x = if (x + 128) / 256 < 32767 then (x + 128) / 256 else 32767 := by unfold encV; rw [hs, if_neg (by decide), if_pos rfl]; omega
      rw [hst, hv]
      exact ⟨⟨by omega, by omega⟩, ⟨⟨(wrapN _ (by omega)).symm, rfl⟩, rfl⟩, ⟨by omega, hall⟩, by omega⟩
    · have hs : szK k = 4 := by simpa using e4
      have hv : encV (szK k) x = x * 256 := by unfold encV; rw [hs, if_neg (by decide), if_neg (by decide), if_pos rfl]
      rw [hst, hv]
      exact ⟨⟨by omega, by omega⟩, ⟨⟨(wrapN _ (by omega)).symm, rfl⟩, rfl⟩, ⟨by omega, hall⟩, by omega⟩
    · have hs : szK k ≠ 1 ∧ szK k ≠ 2 ∧ szK k ≠ 4 := by simpa using And.intro e1 (And.intro e2 e4)
      have hv : encV (szK k) x = x := by unfold encV; rw [if_neg hs.1, if_neg hs.2.1, if_neg hs.2.2]
      rw [hst, hv]
      exact ⟨⟨by omega, by omega⟩, ⟨⟨(wrapN _ (by omega)).symm, rfl⟩, rfl⟩, ⟨by omega, hall⟩, by omega⟩
  · have hnl : n = l.length := by have := of_decide_eq_false h3; omega
    rw [hnl, List.take_length] at ha ⊢
    have e : encE k l = 0 := by unfold encE; rw [if_neg h0, if_neg (by omega), if_pos ha]
    simp [encO, e]
def E_encode : List V → Boxes → Toks → Name → Option Ent
  | [.c (.d (.int .i64 k)), .c (.d (.list q_l))], [], [], _ => some ⟨(ints q_l).length ≤ 1000000 ∧ q_l = LI .i32 (ints q_l), .tup [.list (LB (encO k (ints q_l))), .int .i64 (encE k (ints q_l))], [], []⟩
  | _, _, _, _ => none
def E_encode_eq := And.intro (@E_encode.eq_1) (@E_encode.eq_1)
theorem E_encode_ok : Snd Tryz.prog 43 E_encode := by
  intro vs b k n e h hn hp
  unfold E_encode at h
  split at h
  · cases h; obtain ⟨hp0, hq0⟩ := hp; obtain ⟨_, rfl⟩ := LI_ex hq0; simp only [ints_LI, bys_LB, blks_LK, lls_LL] at hp0 ⊢; exact (spec_encode _ _ hp0).lift rfl _
  · cases h

theorem spec_decode (k : Int) (b : List UInt8) (hb : b.length ≤ 1000000) : Spec Tryz.prog 0 64 [vI .i64 k, vL (LB b)] [] [] (.tup [.list (LI .i32 (decO k b)), .int .i64 (decE k b.length)]) [] [] := by
  refine spec_of_E (X := ⟨Tryz.prog, tt, Tryz.f64.ntmps, 1, fun s => if s = 35 then 1 else 0, (tab [(82, E_find), (95, E_read), (96, E_sat)])⟩) (M := []) (m := 19653709323609117683) rfl rfl ⟨tt_ok, tab_ok (tabs_cons E_find_ok (tabs_cons E_read_ok (tabs_cons E_sat_ok tabs_nil))) _ rfl rfl⟩ tt_mixed Tryz.func64 rfl (by decide) (by show (2 : Nat) ≤ _; exact Nat.le_of_ble_eq_true rfl) ⟨fun m hm => (V.bare_has rfl m hm).elim, by simp, by simp⟩ ?_
  simp only [↓gPre, gPost, gCore, gDef, Nat.reduceShiftRight, Nat.reduceMod, if_true, if_false, ↓reduceIte, reduceCtorEq, Nat.reduceEqDiff, Nat.reduceLT, Nat.reduceLeDiff, implies_true, forall_const, eq_self, ne_eq, not_true_eq_false, not_false_eq_true, imp_self, Nat.reduceAdd, Nat.reduceMul, Int.reduceLE, Int.reduceLT, Int.reduceNeg, Int.reduceAdd, Int.reduceToNat, E_find_eq, E_read_eq, E_sat_eq, Tryz.ntmps64, Tryz.results64, gTT]
  refine ⟨fun h => ?_, fun h => ?_⟩
  · have h0 : szK k = 0 := by simpa using h
    have e : decE k b.length = 1 := by simp [decE, h0]
    simp [decO, e, LI_nil]
  have h0 : ¬ szK k = 0 := by simpa using h
  have hsz := szK_in k
  have hs1 : 1 ≤ szK k ∧ szK k ≤ 4 := by omega
  rw [tdivN _ (by omega), tmodN _ (by omega)]
  have hzl : b.length / (szK k).toNat ≤ b.length := Nat.div_le_self ..
  have hd : decE k b.length = if 524288 < b.length / (szK k).toNat then 3 else if b.length % (szK k).toNat ≠ 0 then 4 else 0 := by unfold decE; rw [if_neg h0]
  have hok := decE_ok (k := k) (n := b.length)
  have hO : decE k b.length = 0 → decO k b = decL k b (b.length / (szK k).toNat) := fun hE => by simp [decO, hE]
  have hO2 : decE k b.length ≠ 0 → decO k b = [] := fun hE => by simp [decO, hE]
  have hsm : ((szK k).toNat : Int) = szK k := by omega
  generalize hs : (szK k).toNat = s at *
  generalize hz0 : b.length / s = z at *
  generalize hm0 : b.length % s = m at *
  rw [IntWalk.i64_in (z : Int) (by omega)]
  refine ⟨h0, fun h1 => ?_, fun h1 => ⟨h0, fun h2 => ?_, fun h2 => ⟨h0, ⟨by omega, by omega, by omega⟩, ?_⟩⟩⟩
  · have h3 := of_decide_eq_true h1
    rw [if_pos (by omega)] at hd
    rw [hO2 (by omega), hd, LI_nil]
  · have h3 := of_decide_eq_false h1
    have h4 : m ≠ 0 := by simpa using h2
    rw [if_neg (by omega), if_pos h4] at hd
    rw [hO2 (by omega), hd, LI_nil]
  have h3 := of_decide_eq_false h1
  have h4 : m = 0 := by simpa using h2
  rw [if_neg (by omega), if_neg (by omega)] at hd
  obtain ⟨_, _, hz, _⟩ := hok hd
  rw [hO hd, hd]
  refine ELoop_keep (fun g => ⟨[(8, vI .i64 ((g * s : Nat) : Int)), (7, .c (.own ⟨1, 35⟩ (LI .i32 (decL k b g))))], [], [(⟨1, 35⟩, ⟨false, 1, LI .i32 (decL k b g)⟩)]⟩) (fun g => g ≤ z) (fun g => z - g) (· + 1) 0 (Nat.zero_le _) ?_ ?_
  · simp only [↓gPre, gPost, gCore, gDef, Nat.reduceShiftRight, Nat.reduceMod, if_true, if_false, ↓reduceIte, reduceCtorEq, Nat.reduceEqDiff, Nat.reduceLT, Nat.reduceLeDiff, implies_true, forall_const, eq_self, ne_eq, not_true_eq_false, not_false_eq_true, imp_self, Nat.reduceAdd, Nat.reduceMul, Int.reduceLE, Int.reduceLT, Int.reduceNeg, Int.reduceAdd, Int.reduceToNat, E_find_eq, E_read_eq, E_sat_eq, Tryz.ntmps64, Tryz.results64, gTT]
    simp [decL, LI_nil]
  intro g hg
  simp only [↓gPre, gPost, gCore, gDef, Nat.reduceShiftRight, Nat.reduceMod, if_true, if_false, ↓reduceIte, reduceCtorEq, Nat.reduceEqDiff, Nat.reduceLT, Nat.reduceLeDiff, implies_true, forall_const, eq_self, ne_eq, not_true_eq_false, not_false_eq_true, imp_self, Nat.reduceAdd, Nat.reduceMul, Int.reduceLE, Int.reduceLT, Int.reduceNeg, Int.reduceAdd, Int.reduceToNat, E_find_eq, E_read_eq, E_sat_eq, Tryz.ntmps64, Tryz.results64, gTT]
  refine ⟨fun h5 => ⟨by kernel_rfl, ?_⟩, fun h5 => ?_⟩
  · have h6 := of_decide_eq_true h5
    have hgz : g < z := by
      rcases Nat.lt_or_ge g z with h | h
      · exact h
      · have := Nat.mul_le_mul_right s h
        omega
    have hst := decL_succ k b g
    have hcl := chk_len hz hgz
    have hch : List.take s (List.drop (g * s) b) = chk s b g := rfl
    have hle := Nat.mul_le_mul_right s (show g + 1 ≤ z from hgz)
    have hgs : (g + 1) * s = g * s + s := by rw [Nat.add_mul, Nat.one_mul]
    have hll := decL_len k b g
    have hr := rdF_in (g := bigK k) hs1 (show (chk s b g).length = (szK k).toNat by omega)
    rw [hs] at hst
    rw [hgs] at hle ⊢
    generalize g * s = q at *
    have hw : IntKind.i64.wrap ((q : Int) + szK k) = ((q + s : Nat) : Int) := by rw [IntWalk.i64_in _ (by omega)]; omega
    rw [hw, Int.toNat_natCast, Nat.add_sub_cancel_left, hch]
    generalize rdF (szK k) (bigK k) (chk s b g) = R at *
    rw [shr8, IntWalk.i64_in (R - 128) (by omega), IntWalk.i64_in ((R - 128) * 65536) (by omega), IntWalk.i64_in (R * 256) (by omega), IntWalk.i64_in (R + 128) (by omega)]
    refine ⟨⟨by omega, by omega, by omega, by omega⟩, ⟨hs1, by omega⟩, fun e1 => ?_, fun e1 => ⟨fun e2 => ?_, fun e2 => ⟨fun e4 => ?_, fun e4 => ?_⟩⟩⟩
    · have hv : decV (szK k) R = (R - 128) * 65536 := by unfold decV; rw [if_pos (by simpa using e1)]
      rw [hst, hv]
      exact ⟨by unfold roomOK; omega, ⟨⟨rfl, rfl⟩, rfl⟩, by omega, by omega⟩
    · have hv : decV (szK k) R = R * 256 := by unfold decV; rw [if_neg (by simpa using e1), if_pos (by simpa using e2)]
      rw [hst, hv]
      exact ⟨by unfold roomOK; omega, ⟨⟨rfl, rfl⟩, rfl⟩, by omega, by omega⟩
    · have hv : decV (szK k) R = (R + 128) / 256 := by unfold decV; rw [if_neg (by simpa using e1), if_neg (by simpa using e2), if_pos (by simpa using e4)]
      rw [hst, hv]
      exact ⟨by unfold roomOK; omega, ⟨⟨rfl, rfl⟩, rfl⟩, by omega, by omega⟩
    · have hv : decV (szK k) R = R := by unfold decV; rw [if_neg (by simpa using e1), if_neg (by simpa using e2), if_neg (by simpa using e4)]
      rw [hst, hv]
      exact ⟨by unfold roomOK; omega, ⟨⟨rfl, rfl⟩, rfl⟩, by omega, by omega⟩
  · have h6 := of_decide_eq_false h5
    have : g = z := by
      rcases Nat.lt_or_ge g z with h | h
      · have := Nat.mul_lt_mul_of_pos_right h (show 0 < s by omega)
        omega
      · omega
    rw [this]
def E_decode : List V → Boxes → Toks → Name → Option Ent
  | [.c (.d (.int .i64 k)), .c (.d (.list q_b))], [], [], _ => some ⟨(bys q_b).length ≤ 1000000 ∧ q_b = LB (bys q_b), .tup [.list (LI .i32 (decO k (bys q_b))), .int .i64 (decE k (bys q_b).length)], [], []⟩
  | _, _, _, _ => none
def E_decode_eq := And.intro (@E_decode.eq_1) (@E_decode.eq_1)
theorem E_decode_ok : Snd Tryz.prog 64 E_decode := by
  intro vs b k n e h hn hp
  unfold E_decode at h
  split at h
  · cases h; obtain ⟨hp0, hq0⟩ := hp; obtain ⟨_, rfl⟩ := LB_ex hq0; simp only [ints_LI, bys_LB, blks_LK, lls_LL] at hp0 ⊢; exact (spec_decode _ _ hp0).lift rfl _
  · cases h

theorem spec_rbig (k : Int) : Spec Tryz.prog 0 68 [vI .i64 k] [] [] (vB (bigK k)) [] [] := by
  refine spec_of_E (X := ⟨Tryz.prog, tt, Tryz.f68.ntmps, 1, fun _ => 0, (tab [])⟩) (M := []) (m := 5) rfl rfl ⟨tt_ok, tab_ok tabs_nil _ rfl rfl⟩ tt_mixed Tryz.func68 rfl (by decide) (by show (1 : Nat) ≤ _; exact Nat.le_of_ble_eq_true rfl) ⟨fun m hm => (V.bare_has rfl m hm).elim, by simp, by simp⟩ ?_
  simp only [↓gPre, gPost, gCore, gDef, Nat.reduceShiftRight, Nat.reduceMod, if_true, if_false, ↓reduceIte, reduceCtorEq, Nat.reduceEqDiff, Nat.reduceLT, Nat.reduceLeDiff, implies_true, forall_const, eq_self, ne_eq, not_true_eq_false, not_false_eq_true, imp_self, Nat.reduceAdd, Nat.reduceMul, Int.reduceLE, Int.reduceLT, Int.reduceNeg, Int.reduceAdd, Int.reduceToNat, Tryz.ntmps68, Tryz.results68, gTT]
  rfl
def E_rbig : List V → Boxes → Toks → Name → Option Ent
  | [.c (.d (.int .i64 k))], [], [], _ => some ⟨True, vB (bigK k), [], []⟩
  | _, _, _, _ => none
def E_rbig_eq := And.intro (@E_rbig.eq_1) (@E_rbig.eq_1)
theorem E_rbig_ok : Snd Tryz.prog 68 E_rbig := by
  intro vs b k n e h hn hp
  unfold E_rbig at h
  split at h
  · cases h; exact (spec_rbig _).lift rfl _
  · cases h

theorem spec_rsize (k : Int) : Spec Tryz.prog 0 57 [vI .i64 k] [] [] (vI .i64 (szK k)) [] [] := by
  refine spec_of_E (X := ⟨Tryz.prog, tt, Tryz.f57.ntmps, 1, fun _ => 0, (tab [])⟩) (M := []) (m := 4701) rfl rfl ⟨tt_ok, tab_ok tabs_nil _ rfl rfl⟩ tt_mixed Tryz.func57 rfl (by decide) (by show (1 : Nat) ≤ _; exact Nat.le_of_ble_eq_true rfl) ⟨fun m hm => (V.bare_has rfl m hm).elim, by simp, by simp⟩ ?_
  simp only [↓gPre, gPost, gCore, gDef, Nat.reduceShiftRight, Nat.reduceMod, if_true, if_false, ↓reduceIte, reduceCtorEq, Nat.reduceEqDiff, Nat.reduceLT, Nat.reduceLeDiff, implies_true, forall_const, eq_self, ne_eq, not_true_eq_false, not_false_eq_true, imp_self, Nat.reduceAdd, Nat.reduceMul, Int.reduceLE, Int.reduceLT, Int.reduceNeg, Int.reduceAdd, Int.reduceToNat, Tryz.ntmps57, Tryz.results57, gTT]
  simp only [beq_iff_eq, beq_eq_false_iff_ne, ne_eq]
  unfold szK
  omega
def E_rsize : List V → Boxes → Toks → Name → Option Ent
  | [.c (.d (.int .i64 k))], [], [], _ => some ⟨True, vI .i64 (szK k), [], []⟩
  | _, _, _, _ => none
def E_rsize_eq := And.intro (@E_rsize.eq_1) (@E_rsize.eq_1)
theorem E_rsize_ok : Snd Tryz.prog 57 E_rsize := by
  intro vs b k n e h hn hp
  unfold E_rsize at h
  split at h
  · cases h; exact (spec_rsize _).lift rfl _
  · cases h

theorem spec_number (s x : Int) (hx : -2147483648 ≤ x ∧ x ≤ 2147483647) : Spec Tryz.prog 0 77 [vI .i64 s, vI .i64 x] [] [] (vI .i64 (encV s x)) [] [] := by
  refine spec_of_E (X := ⟨Tryz.prog, tt, Tryz.f77.ntmps, 1, fun _ => 0, (tab [])⟩) (M := []) (m := 532595) rfl rfl ⟨tt_ok, tab_ok tabs_nil _ rfl rfl⟩ tt_mixed Tryz.func77 rfl (by decide) (by show (2 : Nat) ≤ _; exact Nat.le_of_ble_eq_true rfl) ⟨fun m hm => (V.bare_has rfl m hm).elim, by simp, by simp⟩ ?_
  simp only [↓gPre, gPost, gCore, gDef, Nat.reduceShiftRight, Nat.reduceMod, if_true, if_false, ↓reduceIte, reduceCtorEq, Nat.reduceEqDiff, Nat.reduceLT, Nat.reduceLeDiff, implies_true, forall_const, eq_self, ne_eq, not_true_eq_false, not_false_eq_true, imp_self, Nat.reduceAdd, Nat.reduceMul, Int.reduceLE, Int.reduceLT, Int.reduceNeg, Int.reduceAdd, Int.reduceToNat, Tryz.ntmps77, Tryz.results77, gTT]
  rw [shr16, shr8, IntWalk.i64_in (x + 32768) (by omega), IntWalk.i64_in (128 + (x + 32768) / 65536) (by omega), IntWalk.i64_in (x + 128) (by omega), IntWalk.i64_in (x * 256) (by omega)]
  refine ⟨fun e1 => ?_, fun e1 => ⟨fun e2 => ?_, fun e2 => ⟨fun e4 => ?_, fun e4 => ?_⟩⟩⟩
  · unfold encV; rw [if_pos (by simpa using e1)]; omega
  · unfold encV; rw [if_neg (by simpa using e1), if_pos (by simpa using e2)]; omega
  · unfold encV; rw [if_neg (by simpa using e1), if_neg (by simpa using e2), if_pos (by simpa using e4)]
  · unfold encV; rw [if_neg (by simpa using e1), if_neg (by simpa using e2), if_neg (by simpa using e4)]
def E_number : List V → Boxes → Toks → Name → Option Ent
  | [.c (.d (.int .i64 s)), .c (.d (.int .i64 x))], [], [], _ => some ⟨(-2147483648 ≤ x ∧ x ≤ 2147483647), vI .i64 (encV s x), [], []⟩
  | _, _, _, _ => none
def E_number_eq := And.intro (@E_number.eq_1) (@E_number.eq_1)
theorem E_number_ok : Snd Tryz.prog 77 E_number := by
  intro vs b k n e h hn hp
  unfold E_number at h
  split at h
  · cases h; have hp0 := hp; exact (spec_number _ _ hp0).lift rfl _
  · cases h

theorem spec_integer (b : List UInt8) (g : Bool) (hb : 1 ≤ b.length ∧ b.length ≤ 4) : Spec Tryz.prog 0 67 [vL (LB b), vB g] [] [] (vI .i64 (sgn b.length (rdU g b))) [] [] := by
  refine spec_of_E (X := ⟨Tryz.prog, tt, Tryz.f67.ntmps, 1, fun _ => 0, (tab [])⟩) (M := []) (m := 1099515829747) rfl rfl ⟨tt_ok, tab_ok tabs_nil _ rfl rfl⟩ tt_mixed Tryz.func67 rfl (by decide) (by show (2 : Nat) ≤ _; exact Nat.le_of_ble_eq_true rfl) ⟨fun m hm => (V.bare_has rfl m hm).elim, by simp, by simp⟩ ?_
  simp only [↓gPre, gPost, gCore, gDef, Nat.reduceShiftRight, Nat.reduceMod, if_true, if_false, ↓reduceIte, reduceCtorEq, Nat.reduceEqDiff, Nat.reduceLT, Nat.reduceLeDiff, implies_true, forall_const, eq_self, ne_eq, not_true_eq_false, not_false_eq_true, imp_self, Nat.reduceAdd, Nat.reduceMul, Int.reduceLE, Int.reduceLT, Int.reduceNeg, Int.reduceAdd, Int.reduceToNat, Tryz.ntmps67, Tryz.results67, gTT]
  refine ELoop_keep (fun i => ⟨[(11, vI .i64 (i : Nat)), (5, vI .i64 (numB ((ordB g b).take i) : Nat))], [], []⟩) (fun i => i ≤ b.length) (fun i => b.length - i) (· + 1) 0 (Nat.zero_le _) ?_ ?_
  · simp only [↓gPre, gPost, gCore, gDef, Nat.reduceShiftRight, Nat.reduceMod, if_true, if_false, ↓reduceIte, reduceCtorEq, Nat.reduceEqDiff, Nat.reduceLT, Nat.reduceLeDiff, implies_true, forall_const, eq_self, ne_eq, not_true_eq_false, not_false_eq_true, imp_self, Nat.reduceAdd, Nat.reduceMul, Int.reduceLE, Int.reduceLT, Int.reduceNeg, Int.reduceAdd, Int.reduceToNat, Tryz.ntmps67, Tryz.results67, gTT]
    exact ⟨rfl, rfl⟩
  intro i hi
  simp only [↓gPre, gPost, gCore, gDef, Nat.reduceShiftRight, Nat.reduceMod, if_true, if_false, ↓reduceIte, reduceCtorEq, Nat.reduceEqDiff, Nat.reduceLT, Nat.reduceLeDiff, implies_true, forall_const, eq_self, ne_eq, not_true_eq_false, not_false_eq_true, imp_self, Nat.reduceAdd, Nat.reduceMul, Int.reduceLE, Int.reduceLT, Int.reduceNeg, Int.reduceAdd, Int.reduceToNat, Tryz.ntmps67, Tryz.results67, gTT]
  refine ⟨fun h1 => ?_, fun h1 => ?_⟩
  · have hlt : i < b.length := by have := of_decide_eq_true h1; omega
    have hst := rd_step (g := g) hlt (by omega)
    rw [IntWalk.i64_in ((b.length : Int) - 1) (by omega), IntWalk.i64_in ((b.length : Int) - 1 - (i : Int)) (by omega)]
    have e : ((b.length : Int) - 1 - (i : Int)).toNat = b.length - 1 - i := by omega
    rw [e]
    refine ⟨by omega, fun hg => ?_, fun hg => ?_⟩
    · subst hg
      rw [if_pos rfl] at hst
      exact ⟨by omega, ⟨(wrapN _ (by omega)).symm, hst⟩, by omega, by omega⟩
    · subst hg
      rw [if_neg (by decide)] at hst
      exact ⟨⟨(wrapN _ (by omega)).symm, hst⟩, by omega, by omega⟩
  · have h2 : i = b.length := by have := of_decide_eq_false h1; omega
    rw [h2, List.take_of_length_le (by rw [ordB_len]; omega)]
    have hr := sgn_rd (s := b.length) (g := g) (b := b) (by omega) (by omega)
    have hrd : ((numB (ordB g b) : Nat) : Int) = rdU g b := rfl
    rw [hrd]
    generalize rdU g b = R at *
    unfold sgn
    have : b.length = 1 ∨ b.length = 2 ∨ b.length = 3 ∨ b.length = 4 := by omega
    rcases this with hq | hq | hq | hq
    · rw [hq] at hr ⊢
      have p1 : IntKind.i64.wrap (1 * 2 ^ (IntKind.i64.wrap (IntKind.i64.wrap (8 * ((1 : Nat) : Int)) - 1)).toNat.min IntKind.i64.bits) = 128 := by decide
      have p3 : halfS ((1 : Nat) : Int) = 128 := rfl
      rw [p3] at hr
      rw [p1, p3]
      refine ⟨by decide, fun e => ?_, fun e => ?_⟩
      · have h3 : 128 ≤ R := by simpa using e
        rw [if_pos h3, IntWalk.i64_in (2 * 128) (by omega), IntWalk.i64_in _ (by omega)]
      · have h3 : ¬ 128 ≤ R := by simpa using e
        rw [if_neg h3]
    · rw [hq] at hr ⊢
      have p1 : IntKind.i64.wrap (1 * 2 ^ (IntKind.i64.wrap (IntKind.i64.wrap (8 * ((2 : Nat) : Int)) - 1)).toNat.min IntKind.i64.bits) = 32768 := by decide
      have p3 : halfS ((2 : Nat) : Int) = 32768 := rfl
      rw [p3] at hr
      rw [p1, p3]
      refine ⟨by decide, fun e => ?_, fun e => ?_⟩
      · have h3 : 32768 ≤ R := by simpa using e
        rw [if_pos h3, IntWalk.i64_in (2 * 32768) (by omega), IntWalk.i64_in _ (by omega)]
      · have h3 : ¬ 32768 ≤ R := by simpa using e
        rw [if_neg h3]
    · rw [hq] at hr ⊢
      have p1 : IntKind.i64.wrap (1 * 2 ^ (IntKind.i64.wrap (IntKind.i64.wrap (8 * ((3 : Nat) : Int)) - 1)).toNat.min IntKind.i64.bits) = 8388608 := by decide
      have p3 : halfS ((3 : Nat) : Int) = 8388608 := rfl
      rw [p3] at hr
      rw [p1, p3]
      refine ⟨by decide, fun e => ?_, fun e => ?_⟩
      · have h3 : 8388608 ≤ R := by simpa using e
        rw [if_pos h3, IntWalk.i64_in (2 * 8388608) (by omega), IntWalk.i64_in _ (by omega)]
      · have h3 : ¬ 8388608 ≤ R := by simpa using e
        rw [if_neg h3]
    · rw [hq] at hr ⊢
      have p1 : IntKind.i64.wrap (1 * 2 ^ (IntKind.i64.wrap (IntKind.i64.wrap (8 * ((4 : Nat) : Int)) - 1)).toNat.min IntKind.i64.bits) = 2147483648 := by decide
      have p3 : halfS ((4 : Nat) : Int) = 2147483648 := rfl
      rw [p3] at hr
      rw [p1, p3]
      refine ⟨by decide, fun e => ?_, fun e => ?_⟩
      · have h3 : 2147483648 ≤ R := by simpa using e
        rw [if_pos h3, IntWalk.i64_in (2 * 2147483648) (by omega), IntWalk.i64_in _ (by omega)]
      · have h3 : ¬ 2147483648 ≤ R := by simpa using e
        rw [if_neg h3]
def E_integer : List V → Boxes → Toks → Name → Option Ent
  | [.c (.d (.list q_b)), .c (.d (.bool g))], [], [], _ => some ⟨(1 ≤ (bys q_b).length ∧ (bys q_b).length ≤ 4) ∧ q_b = LB (bys q_b), vI .i64 (sgn (bys q_b).length (rdU g (bys q_b))), [], []⟩
  | _, _, _, _ => none
def E_integer_eq := And.intro (@E_integer.eq_1) (@E_integer.eq_1)
theorem E_integer_ok : Snd Tryz.prog 67 E_integer := by
  intro vs b k n e h hn hp
  unfold E_integer at h
  split at h
  · cases h; obtain ⟨hp0, hq0⟩ := hp; obtain ⟨_, rfl⟩ := LB_ex hq0; simp only [ints_LI, bys_LB, blks_LK, lls_LL] at hp0 ⊢; exact (spec_integer _ _ hp0).lift rfl _
  · cases h

theorem spec_rencode (k : Int) (l : List Int) (hl : l.length ≤ 1000000) : Spec Tryz.prog 0 38 [vI .i64 k, vL (LI .i32 l)] [] [] (.tup [.list (LB (encO k l)), .int .i64 (encE k l)]) [] [] := by
  refine spec_of_E (X := ⟨Tryz.prog, tt, Tryz.f38.ntmps, 1, fun _ => 0, (tab [(57, E_rsize), (76, E_rsmp), (77, E_number), (68, E_rbig)])⟩) (M := []) (m := 2233667755763) rfl rfl ⟨tt_ok, tab_ok (tabs_cons E_rsize_ok (tabs_cons E_rsmp_ok (tabs_cons E_number_ok (tabs_cons E_rbig_ok tabs_nil)))) _ rfl rfl⟩ tt_mixed Tryz.func38 rfl (by decide) (by show (2 : Nat) ≤ _; exact Nat.le_of_ble_eq_true rfl) ⟨fun m hm => (V.bare_has rfl m hm).elim, by simp, by simp⟩ ?_
  simp only [↓gPre, gPost, gCore, gDef, Nat.reduceShiftRight, Nat.reduceMod, if_true, if_false, ↓reduceIte, reduceCtorEq, Nat.reduceEqDiff, Nat.reduceLT, Nat.reduceLeDiff, implies_true, forall_const, eq_self, ne_eq, not_true_eq_false, not_false_eq_true, imp_self, Nat.reduceAdd, Nat.reduceMul, Int.reduceLE, Int.reduceLT, Int.reduceNeg, Int.reduceAdd, Int.reduceToNat, E_rsize_eq, E_rsmp_eq, E_number_eq, E_rbig_eq, Tryz.ntmps38, Tryz.results38, gTT]
  refine ⟨fun h => ?_, fun h => ⟨fun h1 => ?_, fun h1 => ?_⟩⟩
  · have h0 : szK k = 0 := by simpa using h
    have e : encE k l = 1 := by simp [encE, h0]
    simp [encO, e, LB_nil]
  · have h0 : ¬ szK k = 0 := by simpa using h
    have h2 := of_decide_eq_true h1
    have e : encE k l = 3 := by unfold encE; rw [if_neg h0, if_pos (by omega)]
    simp [encO, e, LB_nil]
  have h0 : ¬ szK k = 0 := by simpa using h
  have h2 := of_decide_eq_false h1
  have hsz := szK_in k
  refine ELoop_nilT 7 1 ⟨1, 99⟩ rfl (by simp only [↓gPre, gPost, gCore, gDef, Nat.reduceShiftRight, Nat.reduceMod, if_true, if_false, ↓reduceIte, reduceCtorEq, Nat.reduceEqDiff, Nat.reduceLT, Nat.reduceLeDiff, implies_true, forall_const, eq_self, ne_eq, not_true_eq_false, not_false_eq_true, imp_self, Nat.reduceAdd, Nat.reduceMul, Int.reduceLE, Int.reduceLT, Int.reduceNeg, Int.reduceAdd, Int.reduceToNat, E_rsize_eq, E_rsmp_eq, E_number_eq, E_rbig_eq, Tryz.ntmps38, Tryz.results38, gTT]) (Nat.le_refl _) ?_
  simp only [↓gPre, gPost, gCore, gDef, Nat.reduceShiftRight, Nat.reduceMod, if_true, if_false, ↓reduceIte, reduceCtorEq, Nat.reduceEqDiff, Nat.reduceLT, Nat.reduceLeDiff, implies_true, forall_const, eq_self, ne_eq, not_true_eq_false, not_false_eq_true, imp_self, Nat.reduceAdd, Nat.reduceMul, Int.reduceLE, Int.reduceLT, Int.reduceNeg, Int.reduceAdd, Int.reduceToNat, E_rsize_eq, E_rsmp_eq, E_number_eq, E_rbig_eq, Tryz.ntmps38, Tryz.results38, gTT]
  refine ELoop_keep (fun n => ⟨[(22, vI .i64 (n : Nat)), (7, .c (.own ⟨1, 99⟩ (LB (encL k (l.take n)))))], [], [(⟨1, 99⟩, ⟨false, 1, LB (encL k (l.take n))⟩)]⟩) (fun n => n ≤ l.length ∧ (l.take n).all smpX = true) (fun n => l.length - n) (· + 1) 0 ⟨Nat.zero_le _, rfl⟩ ?_ ?_
  · simp only [↓gPre, gPost, gCore, gDef, Nat.reduceShiftRight, Nat.reduceMod, if_true, if_false, ↓reduceIte, reduceCtorEq, Nat.reduceEqDiff, Nat.reduceLT, Nat.reduceLeDiff, implies_true, forall_const, eq_self, ne_eq, not_true_eq_false, not_false_eq_true, imp_self, Nat.reduceAdd, Nat.reduceMul, Int.reduceLE, Int.reduceLT, Int.reduceNeg, Int.reduceAdd, Int.reduceToNat, E_rsize_eq, E_rsmp_eq, E_number_eq, E_rbig_eq, Tryz.ntmps38, Tryz.results38, gTT]
    exact ⟨⟨rfl, rfl⟩, rfl⟩
  rintro n ⟨hn, ha⟩
  simp only [↓gPre, gPost, gCore, gDef, Nat.reduceShiftRight, Nat.reduceMod, if_true, if_false, ↓reduceIte, reduceCtorEq, Nat.reduceEqDiff, Nat.reduceLT, Nat.reduceLeDiff, implies_true, forall_const, eq_self, ne_eq, not_true_eq_false, not_false_eq_true, imp_self, Nat.reduceAdd, Nat.reduceMul, Int.reduceLE, Int.reduceLT, Int.reduceNeg, Int.reduceAdd, Int.reduceToNat, E_rsize_eq, E_rsmp_eq, E_number_eq, E_rbig_eq, Tryz.ntmps38, Tryz.results38, gTT]
  refine ⟨fun h3 => ⟨by have := of_decide_eq_true h3; omega, fun h4 => ?_, fun h4 => ⟨?_, ?_⟩⟩, fun h3 => ?_⟩
  · have hlt : n < l.length := by have := of_decide_eq_true h3; omega
    rw [List.getElem?_eq_getElem hlt, Option.getD_some] at h4
    have hb := allBad hlt h4
    have e : encE k l = 2 := by unfold encE; rw [if_neg h0, if_neg (by omega), hb]; rfl
    simp [encO, e, LB_nil]
  · have hlt : n < l.length := by have := of_decide_eq_true h3; omega
    rw [List.getElem?_eq_getElem hlt, Option.getD_some] at h4 ⊢
    have hxx := smpX_in (show smpX l[n] = true by simpa using h4)
    rw [IntWalk.i64_in l[n] (by omega)]
    omega
  · have hlt : n < l.length := by have := of_decide_eq_true h3; omega
    rw [List.getElem?_eq_getElem hlt, Option.getD_some] at h4 ⊢
    have hx : smpX l[n] = true := by simpa using h4
    have hxx := smpX_in hx
    have hst := encL_take (k := k) hlt
    have hall := allSnoc hlt ha hx
    have hlen := encL_len k (l.take n)
    have hlen2 : (encL k (l.take n)).length ≤ 4000000 := by
      rw [hlen, List.length_take]
      rcases hsz with e | e | e | e | e <;> rw [e] <;> simp <;> omega
    rw [IntWalk.i64_in l[n] (by omega)]
    have hwl := wrB_len (szK k) (bigK k) (encV (szK k) l[n])
    generalize encV (szK k) l[n] = vv at *
    refine ELoop_keep (fun i => ⟨[(11, vI .i64 (i : Nat)), (7, .c (.own ⟨1, 99⟩ (LB (encL k (l.take n) ++ (wrB (szK k) (bigK k) vv).take i))))], [], [(⟨1, 99⟩, ⟨false, 1, LB (encL k (l.take n) ++ (wrB (szK k) (bigK k) vv).take i)⟩)]⟩) (fun i => i ≤ (szK k).toNat) (fun i => (szK k).toNat - i) (· + 1) 0 (Nat.zero_le _) ?_ ?_
    · simp only [↓gPre, gPost, gCore, gDef, Nat.reduceShiftRight, Nat.reduceMod, if_true, if_false, ↓reduceIte, reduceCtorEq, Nat.reduceEqDiff, Nat.reduceLT, Nat.reduceLeDiff, implies_true, forall_const, eq_self, ne_eq, not_true_eq_false, not_false_eq_true, imp_self, Nat.reduceAdd, Nat.reduceMul, Int.reduceLE, Int.reduceLT, Int.reduceNeg, Int.reduceAdd, Int.reduceToNat, E_rsize_eq, E_rsmp_eq, E_number_eq, E_rbig_eq, Tryz.ntmps38, Tryz.results38, gTT]
      rfl
    intro i hi
    simp only [↓gPre, gPost, gCore, gDef, Nat.reduceShiftRight, Nat.reduceMod, if_true, if_false, ↓reduceIte, reduceCtorEq, Nat.reduceEqDiff, Nat.reduceLT, Nat.reduceLeDiff, implies_true, forall_const, eq_self, ne_eq, not_true_eq_false, not_false_eq_true, imp_self, Nat.reduceAdd, Nat.reduceMul, Int.reduceLE, Int.reduceLT, Int.reduceNeg, Int.reduceAdd, Int.reduceToNat, E_rsize_eq, E_rsmp_eq, E_number_eq, E_rbig_eq, Tryz.ntmps38, Tryz.results38, gTT]
    have hll : (encL k (List.take n l) ++ List.take i (wrB (szK k) (bigK k) vv)).length ≤ 4000004 := by rw [List.length_append, List.length_take]; omega
    refine ⟨fun h1 => ?_, fun h1 => ?_⟩
    · have hli : i < (szK k).toNat := by have := of_decide_eq_true h1; omega
      have key : (wrB (szK k) (bigK k) vv).take (i + 1) = (wrB (szK k) (bigK k) vv).take i ++ [byt (vv / 2 ^ (8 * (if bigK k = true then (szK k).toNat - 1 - i else i)))] := by
        rw [List.take_add_one]
        congr 1
        unfold wrB
        rw [List.getElem?_map, List.getElem?_range hli]
        rfl
      rw [key, ← List.append_assoc, ← LB_snoc]
      refine ⟨fun hg => ?_, fun hg => ?_⟩
      · rw [hg] at hll ⊢
        rw [if_pos rfl, IntWalk.i64_in (szK k - 1) (by omega), IntWalk.i64_in (szK k - 1 - (i : Int)) (by omega), IntWalk.i64_in (8 * (szK k - 1 - (i : Int))) (by omega)]
        have e : (8 * (szK k - 1 - (i : Int))).toNat.min IntKind.i64.bits = 8 * ((szK k).toNat - 1 - i) := by
          show min _ 64 = _
          omega
        rw [e, fdiv_pow2, u8_wrap]
        exact ⟨by omega, by unfold roomOK; omega, ⟨⟨(wrapN _ (by omega)).symm, rfl⟩, rfl⟩, by omega, by omega⟩
      · rw [hg] at hll ⊢
        rw [if_neg (by decide), IntWalk.i64_in (8 * (i : Int)) (by omega)]
        have e : (8 * (i : Int)).toNat.min IntKind.i64.bits = 8 * i := by
          show min _ 64 = _
          omega
        rw [e, fdiv_pow2, u8_wrap]
        exact ⟨by omega, by unfold roomOK; omega, ⟨⟨(wrapN _ (by omega)).symm, rfl⟩, rfl⟩, by omega, by omega⟩
    · have h6 : i = (szK k).toNat := by have := of_decide_eq_false h1; omega
      have ht : List.take (szK k).toNat (wrB (szK k) (bigK k) vv) = wrB (szK k) (bigK k) vv := List.take_of_length_le (by omega)
      rw [h6, ht, ← hst]
      exact ⟨⟨⟨(wrapN _ (by omega)).symm, rfl⟩, rfl⟩, ⟨by omega, hall⟩, by omega⟩
  · have hnl : n = l.length := by have := of_decide_eq_false h3; omega
    rw [hnl, List.take_length] at ha ⊢
    have e : encE k l = 0 := by unfold encE; rw [if_neg h0, if_neg (by omega), if_pos ha]
    simp [encO, e]
def E_rencode : List V → Boxes → Toks → Name → Option Ent
  | [.c (.d (.int .i64 k)), .c (.d (.list q_l))], [], [], _ => some ⟨(ints q_l).length ≤ 1000000 ∧ q_l = LI .i32 (ints q_l), .tup [.list (LB (encO k (ints q_l))), .int .i64 (encE k (ints q_l))], [], []⟩
  | _, _, _, _ => none
def E_rencode_eq := And.intro (@E_rencode.eq_1) (@E_rencode.eq_1)
theorem E_rencode_ok : Snd Tryz.prog 38 E_rencode := by
  intro vs b k n e h hn hp
  unfold E_rencode at h
  split at h
  · cases h; obtain ⟨hp0, hq0⟩ := hp; obtain ⟨_, rfl⟩ := LI_ex hq0; simp only [ints_LI, bys_LB, blks_LK, lls_LL] at hp0 ⊢; exact (spec_rencode _ _ hp0).lift rfl _
  · cases h

theorem rd1 {g : Bool} {c : List UInt8} (h : c.length = 1) : rdU g c = ((c[0]?.getD 0).toNat : Int) := by
  obtain ⟨a, h1, rfl⟩ := ordB_len1 (g := g) h
  unfold rdU
  rw [h1, numB1]
  rfl

theorem spec_rdecode (k : Int) (b : List UInt8) (hb : b.length ≤ 1000000) : Spec Tryz.prog 0 35 [vI .i64 k, vL (LB b)] [] [] (.tup [.list (LI .i32 (decO k b)), .int .i64 (decE k b.length)]) [] [] := by
  refine spec_of_E (X := ⟨Tryz.prog, tt, Tryz.f35.ntmps, 1, fun _ => 0, (tab [(57, E_rsize), (68, E_rbig), (67, E_integer), (69, E_rsat)])⟩) (M := []) (m := 153148776685540339) rfl rfl ⟨tt_ok, tab_ok (tabs_cons E_rsize_ok (tabs_cons E_rbig_ok (tabs_cons E_integer_ok (tabs_cons E_rsat_ok tabs_nil)))) _ rfl rfl⟩ tt_mixed Tryz.func35 rfl (by decide) (by show (2 : Nat) ≤ _; exact Nat.le_of_ble_eq_true rfl) ⟨fun m hm => (V.bare_has rfl m hm).elim, by simp, by simp⟩ ?_
  simp only [↓gPre, gPost, gCore, gDef, Nat.reduceShiftRight, Nat.reduceMod, if_true, if_false, ↓reduceIte, reduceCtorEq, Nat.reduceEqDiff, Nat.reduceLT, Nat.reduceLeDiff, implies_true, forall_const, eq_self, ne_eq, not_true_eq_false, not_false_eq_true, imp_self, Nat.reduceAdd, Nat.reduceMul, Int.reduceLE, Int.reduceLT, Int.reduceNeg, Int.reduceAdd, Int.reduceToNat, E_rsize_eq, E_rbig_eq, E_integer_eq, E_rsat_eq, Tryz.ntmps35, Tryz.results35, gTT]
  refine ⟨fun h => ?_, fun h => ?_⟩
  · have h0 : szK k = 0 := by simpa using h
    have e : decE k b.length = 1 := by simp [decE, h0]
    simp [decO, e, LI_nil]
  have h0 : ¬ szK k = 0 := by simpa using h
  have hsz := szK_in k
  have hs1 : 1 ≤ szK k ∧ szK k ≤ 4 := by omega
  rw [tdivN _ (by omega), tmodN _ (by omega)]
  have hzl : b.length / (szK k).toNat ≤ b.length := Nat.div_le_self ..
  have hd : decE k b.length = if 524288 < b.length / (szK k).toNat then 3 else if b.length % (szK k).toNat ≠ 0 then 4 else 0 := by unfold decE; rw [if_neg h0]
  have hok := decE_ok (k := k) (n := b.length)
  have hO : decE k b.length = 0 → decO k b = decL k b (b.length / (szK k).toNat) := fun hE => by simp [decO, hE]
  have hO2 : decE k b.length ≠ 0 → decO k b = [] := fun hE => by simp [decO, hE]
  have hsm : ((szK k).toNat : Int) = szK k := by omega
  generalize hs : (szK k).toNat = s at *
  generalize hz0 : b.length / s = z at *
  generalize hm0 : b.length % s = m at *
  rw [IntWalk.i64_in (z : Int) (by omega)]
  refine ⟨h0, fun h1 => ?_, fun h1 => ⟨h0, fun h2 => ?_, fun h2 => ?_⟩⟩
  · have h3 := of_decide_eq_true h1
    rw [if_pos (by omega)] at hd
    rw [hO2 (by omega), hd, LI_nil]
  · have h3 := of_decide_eq_false h1
    have h4 : m ≠ 0 := by simpa using h2
    rw [if_neg (by omega), if_pos h4] at hd
    rw [hO2 (by omega), hd, LI_nil]
  have h3 := of_decide_eq_false h1
  have h4 : m = 0 := by simpa using h2
  rw [if_neg (by omega), if_neg (by omega)] at hd
  obtain ⟨_, _, hz, _⟩ := hok hd
  rw [hO hd, hd]
  refine ELoop_nilT 7 1 ⟨1, 99⟩ rfl (by simp only [↓gPre, gPost, gCore, gDef, Nat.reduceShiftRight, Nat.reduceMod, if_true, if_false, ↓reduceIte, reduceCtorEq, Nat.reduceEqDiff, Nat.reduceLT, Nat.reduceLeDiff, implies_true, forall_const, eq_self, ne_eq, not_true_eq_false, not_false_eq_true, imp_self, Nat.reduceAdd, Nat.reduceMul, Int.reduceLE, Int.reduceLT, Int.reduceNeg, Int.reduceAdd, Int.reduceToNat, E_rsize_eq, E_rbig_eq, E_integer_eq, E_rsat_eq, Tryz.ntmps35, Tryz.results35, gTT]) (Nat.le_refl _) ?_
  simp only [↓gPre, gPost, gCore, gDef, Nat.reduceShiftRight, Nat.reduceMod, if_true, if_false, ↓reduceIte, reduceCtorEq, Nat.reduceEqDiff, Nat.reduceLT, Nat.reduceLeDiff, implies_true, forall_const, eq_self, ne_eq, not_true_eq_false, not_false_eq_true, imp_self, Nat.reduceAdd, Nat.reduceMul, Int.reduceLE, Int.reduceLT, Int.reduceNeg, Int.reduceAdd, Int.reduceToNat, E_rsize_eq, E_rbig_eq, E_integer_eq, E_rsat_eq, Tryz.ntmps35, Tryz.results35, gTT]
  refine ELoop_keep (fun g => ⟨[(8, vI .i64 ((g * s : Nat) : Int)), (7, .c (.own ⟨1, 99⟩ (LI .i32 (decL k b g))))], [], [(⟨1, 99⟩, ⟨false, 1, LI .i32 (decL k b g)⟩)]⟩) (fun g => g ≤ z) (fun g => z - g) (· + 1) 0 (Nat.zero_le _) ?_ ?_
  · simp only [↓gPre, gPost, gCore, gDef, Nat.reduceShiftRight, Nat.reduceMod, if_true, if_false, ↓reduceIte, reduceCtorEq, Nat.reduceEqDiff, Nat.reduceLT, Nat.reduceLeDiff, implies_true, forall_const, eq_self, ne_eq, not_true_eq_false, not_false_eq_true, imp_self, Nat.reduceAdd, Nat.reduceMul, Int.reduceLE, Int.reduceLT, Int.reduceNeg, Int.reduceAdd, Int.reduceToNat, E_rsize_eq, E_rbig_eq, E_integer_eq, E_rsat_eq, Tryz.ntmps35, Tryz.results35, gTT]
    simp [decL, LI_nil]
  intro g hg
  simp only [↓gPre, gPost, gCore, gDef, Nat.reduceShiftRight, Nat.reduceMod, if_true, if_false, ↓reduceIte, reduceCtorEq, Nat.reduceEqDiff, Nat.reduceLT, Nat.reduceLeDiff, implies_true, forall_const, eq_self, ne_eq, not_true_eq_false, not_false_eq_true, imp_self, Nat.reduceAdd, Nat.reduceMul, Int.reduceLE, Int.reduceLT, Int.reduceNeg, Int.reduceAdd, Int.reduceToNat, E_rsize_eq, E_rbig_eq, E_integer_eq, E_rsat_eq, Tryz.ntmps35, Tryz.results35, gTT]
  refine ⟨fun h5 => ⟨by kernel_rfl, ?_⟩, fun h5 => ?_⟩
  · have h6 := of_decide_eq_true h5
    have hgz : g < z := by
      rcases Nat.lt_or_ge g z with h | h
      · exact h
      · have := Nat.mul_le_mul_right s h
        omega
    have hst := decL_succ k b g
    have hcl := chk_len hz hgz
    have hch : List.take s (List.drop (g * s) b) = chk s b g := rfl
    have hle := Nat.mul_le_mul_right s (show g + 1 ≤ z from hgz)
    have hgs : (g + 1) * s = g * s + s := by rw [Nat.add_mul, Nat.one_mul]
    have hll := decL_len k b g
    have hr := rdF_in (g := bigK k) hs1 (show (chk s b g).length = (szK k).toNat by omega)
    have hsr := sgn_rd (s := szK k) (g := bigK k) hs1 (show (chk s b g).length = (szK k).toNat by omega)
    have hb0 : b[g * s]?.getD 0 = (chk s b g)[0]?.getD 0 := by
      rw [← hch, List.getElem?_take_of_lt (by omega), List.getElem?_drop, Nat.add_zero]
    rw [hs] at hst
    rw [hgs] at hle ⊢
    generalize g * s = q at *
    have hw : IntKind.i64.wrap ((q : Int) + szK k) = ((q + s : Nat) : Int) := by rw [IntWalk.i64_in _ (by omega)]; omega
    rw [hw, Int.toNat_natCast, Nat.add_sub_cancel_left, hch]
    have hl4 : (((chk s b g).length : Nat) : Int) = szK k := by omega
    rw [hl4]
    refine ⟨⟨by omega, by omega, by omega, by omega⟩, by omega, fun e1 => ⟨by omega, ?_⟩, fun e1 => ?_⟩
    · have e1' : szK k = 1 := by simpa using e1
      have hrd := rd1 (g := bigK k) (show (chk s b g).length = 1 by omega)
      rw [hb0]
      have hc0 := ((chk s b g)[0]?.getD 0).toNat_lt
      have hF : rdF (szK k) (bigK k) (chk s b g) = (((chk s b g)[0]?.getD 0).toNat : Int) := by unfold rdF; rw [if_pos e1', hrd]
      rw [hF] at hst
      generalize ((chk s b g)[0]?.getD 0).toNat = c0 at *
      rw [IntWalk.i64_in (c0 : Int) (by omega), IntWalk.i64_in ((c0 : Int) - 128) (by omega), IntWalk.i64_in (((c0 : Int) - 128) * 65536) (by omega)]
      have hv : decV (szK k) (c0 : Int) = ((c0 : Int) - 128) * 65536 := by unfold decV; rw [if_pos e1']
      rw [hst, hv]
      exact ⟨by unfold roomOK; omega, ⟨⟨rfl, rfl⟩, rfl⟩, by omega, by omega⟩
    · have e1' : ¬ szK k = 1 := by simpa using e1
      have hF : rdF (szK k) (bigK k) (chk s b g) = sgn (szK k) (rdU (bigK k) (chk s b g)) := by unfold rdF; rw [if_neg e1']
      rw [hF] at hst hr
      generalize sgn (szK k) (rdU (bigK k) (chk s b g)) = R at *
      rw [shr8, IntWalk.i64_in (R * 256) (by omega), IntWalk.i64_in (R + 128) (by omega)]
      refine ⟨fun e2 => ?_, fun e2 => ⟨fun e4 => ?_, fun e4 => ?_⟩⟩
      · have hv : decV (szK k) R = R * 256 := by unfold decV; rw [if_neg e1', if_pos (by simpa using e2)]
        rw [hst, hv]
        exact ⟨by unfold roomOK; omega, ⟨⟨rfl, rfl⟩, rfl⟩, by omega, by omega⟩
      · have hv : decV (szK k) R = (R + 128) / 256 := by unfold decV; rw [if_neg e1', if_neg (by simpa using e2), if_pos (by simpa using e4)]
        rw [hst, hv]
        exact ⟨by unfold roomOK; omega, ⟨⟨rfl, rfl⟩, rfl⟩, by omega, by omega⟩
      · have hv : decV (szK k) R = R := by unfold decV; rw [if_neg e1', if_neg (by simpa using e2), if_neg (by simpa using e4)]
        rw [hst, hv]
        exact ⟨by unfold roomOK; omega, ⟨⟨rfl, rfl⟩, rfl⟩, by omega, by omega⟩
  · have h6 := of_decide_eq_false h5
    have : g = z := by
      rcases Nat.lt_or_ge g z with h | h
      · have := Nat.mul_lt_mul_of_pos_right h (show 0 < s by omega)
        omega
      · omega
    rw [this]
def E_rdecode : List V → Boxes → Toks → Name → Option Ent
  | [.c (.d (.int .i64 k)), .c (.d (.list q_b))], [], [], _ => some ⟨(bys q_b).length ≤ 1000000 ∧ q_b = LB (bys q_b), .tup [.list (LI .i32 (decO k (bys q_b))), .int .i64 (decE k (bys q_b).length)], [], []⟩
  | _, _, _, _ => none
def E_rdecode_eq := And.intro (@E_rdecode.eq_1) (@E_rdecode.eq_1)
theorem E_rdecode_ok : Snd Tryz.prog 35 E_rdecode := by
  intro vs b k n e h hn hp
  unfold E_rdecode at h
  split at h
  · cases h; obtain ⟨hp0, hq0⟩ := hp; obtain ⟨_, rfl⟩ := LB_ex hq0; simp only [ints_LI, bys_LB, blks_LK, lls_LL] at hp0 ⊢; exact (spec_rdecode _ _ hp0).lift rfl _
  · cases h

end Go.Vam
