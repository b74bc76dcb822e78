/- Bridges: Valid, Fill, Push, Pull, program and reference: the same. Conditions: none. -/
import Derived.Test.YtmlmgpnkemdilaaBdgH
set_option linter.unusedVariables false
set_option linter.unusedSimpArgs false
set_option maxRecDepth 40000
set_option maxHeartbeats 4000000
namespace Go.Vam
open Go.Proofs

def silB (c n : Int) : Bool := decide (c < 1) || decide (8 < c) || decide (n < 0) || decide (65536 < n)
def silC (c n : Int) : Int := if silB c n = true then 0 else c
def silO (c n : Int) : List Int := if silB c n = true then [] else List.replicate (c * n).toNat 0
def silE (c n : Int) : Int := if silB c n = true then 2 else 0
theorem silO_len (c n : Int) : (silO c n).length ≤ 524288 := by
  unfold silO
  split
  · exact Nat.zero_le _
  · rename_i h
    simp only [silB, Bool.or_eq_true, decide_eq_true_eq, not_or] at h
    have h1 : c * n ≤ 8 * 65536 := Int.mul_le_mul (by omega) (by omega) (by omega) (by decide)
    rw [List.length_replicate]
    omega

theorem spec_silence (c n : Int) : Spec Try.prog 0 61 [vI .i64 c, vI .i64 n] [] [] (.tup [.agg [.int .i64 (silC c n), .list (LI .i32 (silO c n))], .int .i64 (silE c n)]) [] [] := by
  refine spec_of_E (X := ⟨Try.prog, tt, Try.f61.ntmps, 1, fun _ => 0, (tab [])⟩) (M := [(1, [0, 0, 0, 0, 0, 1046579, 0, 0, 0, 0, 0, 983091, 0, 0])]) (m := 524339) rfl rfl ⟨tt_ok, tab_ok tabs_nil _ rfl rfl⟩ tt_mixed Try.func61 rfl (by decide) (by show (2 : Nat) ≤ _; exact Nat.le_of_ble_eq_true rfl) ⟨fun m hm => (V.bare_has rfl m hm).elim, by simp, by simp⟩ ?_
  simp only [↓gPre, gPost, gCore, handV, V.bufs, buildArr, toCs, Nat.reduceShiftRight, Nat.reduceMod, addB, addK, zeroOp, callSem, resName, keepsB, newB, V.pure, C.pure, V.ptrs, C.ptrs, C.bufs, appendSem, appendTo, appendZ, dstOk, lk, V.cells, Op.eff, partV, partD, cut, lay, zeroD, C.toDs, C.toD, V.toD, toDs, buildCells, if_true, if_false, ↓reduceIte, reduceCtorEq, Nat.reduceEqDiff, Nat.reduceLT, Nat.reduceLeDiff, implies_true, forall_const, eq_self, ne_eq, not_true_eq_false, not_false_eq_true, imp_self, Nat.reduceAdd, Nat.reduceMul, Int.reduceLE, Int.reduceLT, Int.reduceNeg, Int.reduceAdd, Int.reduceToNat, Try.ntmps61, Try.results61, gTT]
  refine ⟨fun h => ?_, fun h => ?_⟩
  · have e : silB c n = true := h
    simp only [silC, silO, silE, e, if_true, LI_nil]
  · have e : silB c n = false := h
    have h2 := e
    simp only [silB, Bool.or_eq_false_iff, decide_eq_false_iff_not] at h2
    have h0 : 0 ≤ c * n := Int.mul_nonneg (by omega) (by omega)
    have h1 : c * n ≤ 8 * 65536 := Int.mul_le_mul (by omega) (by omega) (by omega) (by decide)
    rw [IntWalk.i64_in (c * n) (by omega)]
    refine ⟨⟨h0, by omega, by omega⟩, ?_⟩
    simp [silC, silO, silE, e]
def E_silence : List V → Boxes → Toks → Name → Option Ent
  | [.c (.d (.int .i64 c)), .c (.d (.int .i64 n))], [], [], _ => some ⟨True, .tup [.agg [.int .i64 (silC c n), .list (LI .i32 (silO c n))], .int .i64 (silE c n)], [], []⟩
  | _, _, _, _ => none
theorem E_silence_eq {c n : Int}  {nF : Name} : E_silence [.c (.d (.int .i64 c)), .c (.d (.int .i64 n))] [] [] nF = some ⟨True, .tup [.agg [.int .i64 (silC c n), .list (LI .i32 (silO c n))], .int .i64 (silE c n)], [], []⟩ := Eq.trans rfl rfl
theorem E_silence_ok : Snd Try.prog 61 E_silence := by
  intro vs b k n e h hn hp
  unfold E_silence at h
  split at h
  · cases h; exact (spec_silence _ _).lift rfl _
  · cases h

theorem spec_rsilence (c n : Int) : Spec Try.prog 0 28 [vI .i64 c, vI .i64 n] [] [] (.tup [.agg [.int .i64 (silC c n), .list (LI .i32 (silO c n))], .int .i64 (silE c n)]) [] [] := by
  refine spec_of_E (X := ⟨Try.prog, tt, Try.f28.ntmps, 1, fun _ => 0, (tab [])⟩) (M := [(1, [0, 0, 0, 0, 0, 1046579, 0, 0, 0, 0, 0, 983091, 0, 0])]) (m := 524339) rfl rfl ⟨tt_ok, tab_ok tabs_nil _ rfl rfl⟩ tt_mixed Try.func28 rfl (by decide) (by show (2 : Nat) ≤ _; exact Nat.le_of_ble_eq_true rfl) ⟨fun m hm => (V.bare_has rfl m hm).elim, by simp, by simp⟩ ?_
  simp only [↓gPre, gPost, gCore, handV, V.bufs, buildArr, toCs, Nat.reduceShiftRight, Nat.reduceMod, addB, addK, zeroOp, callSem, resName, keepsB, newB, V.pure, C.pure, V.ptrs, C.ptrs, C.bufs, appendSem, appendTo, appendZ, dstOk, lk, V.cells, Op.eff, partV, partD, cut, lay, zeroD, C.toDs, C.toD, V.toD, toDs, buildCells, if_true, if_false, ↓reduceIte, reduceCtorEq, Nat.reduceEqDiff, Nat.reduceLT, Nat.reduceLeDiff, implies_true, forall_const, eq_self, ne_eq, not_true_eq_false, not_false_eq_true, imp_self, Nat.reduceAdd, Nat.reduceMul, Int.reduceLE, Int.reduceLT, Int.reduceNeg, Int.reduceAdd, Int.reduceToNat, Try.ntmps28, Try.results28, gTT]
  refine ⟨fun h => ?_, fun h => ?_⟩
  · have e : silB c n = true := h
    simp only [silC, silO, silE, e, if_true, LI_nil]
  · have e : silB c n = false := h
    have h2 := e
    simp only [silB, Bool.or_eq_false_iff, decide_eq_false_iff_not] at h2
    have h0 : 0 ≤ c * n := Int.mul_nonneg (by omega) (by omega)
    have h1 : c * n ≤ 8 * 65536 := Int.mul_le_mul (by omega) (by omega) (by omega) (by decide)
    rw [IntWalk.i64_in (c * n) (by omega)]
    refine ⟨⟨h0, by omega, by omega⟩, ?_⟩
    simp [silC, silO, silE, e]
def E_rsilence : List V → Boxes → Toks → Name → Option Ent
  | [.c (.d (.int .i64 c)), .c (.d (.int .i64 n))], [], [], _ => some ⟨True, .tup [.agg [.int .i64 (silC c n), .list (LI .i32 (silO c n))], .int .i64 (silE c n)], [], []⟩
  | _, _, _, _ => none
theorem E_rsilence_eq {c n : Int}  {nF : Name} : E_rsilence [.c (.d (.int .i64 c)), .c (.d (.int .i64 n))] [] [] nF = some ⟨True, .tup [.agg [.int .i64 (silC c n), .list (LI .i32 (silO c n))], .int .i64 (silE c n)], [], []⟩ := Eq.trans rfl rfl
theorem E_rsilence_ok : Snd Try.prog 28 E_rsilence := by
  intro vs b k n e h hn hp
  unfold E_rsilence at h
  split at h
  · cases h; exact (spec_rsilence _ _).lift rfl _
  · cases h

theorem spec_join (c d : Int) (a b : List Int) (hl : a.length + b.length ≤ 1000000) : Spec Try.prog 0 30 [.agg [.d (.int .i64 c), .d (.list (LI .i32 a))], .agg [.d (.int .i64 d), .d (.list (LI .i32 b))]] [] [] (.agg [.d (.int .i64 c), .d (.list (LI .i32 (a ++ b)))]) [] [] := by
  refine spec_of_E (X := ⟨Try.prog, tt, Try.f30.ntmps, 1, fun _ => 0, (tab [])⟩) (M := []) (m := 31) rfl rfl ⟨tt_ok, tab_ok tabs_nil _ rfl rfl⟩ tt_mixed Try.func30 rfl (by decide) (by show (2 : Nat) ≤ _; exact Nat.le_of_ble_eq_true rfl) ⟨fun m hm => (V.bare_has rfl m hm).elim, by simp, by simp⟩ ?_
  simp only [↓gPre, gPost, gCore, handV, V.bufs, buildArr, toCs, Nat.reduceShiftRight, Nat.reduceMod, addB, addK, zeroOp, callSem, resName, keepsB, newB, V.pure, C.pure, V.ptrs, C.ptrs, C.bufs, appendSem, appendTo, appendZ, dstOk, lk, V.cells, Op.eff, partV, partD, cut, lay, zeroD, C.toDs, C.toD, V.toD, toDs, buildCells, if_true, if_false, ↓reduceIte, reduceCtorEq, Nat.reduceEqDiff, Nat.reduceLT, Nat.reduceLeDiff, implies_true, forall_const, eq_self, ne_eq, not_true_eq_false, not_false_eq_true, imp_self, Nat.reduceAdd, Nat.reduceMul, Int.reduceLE, Int.reduceLT, Int.reduceNeg, Int.reduceAdd, Int.reduceToNat, Try.ntmps30, Try.results30, gTT]
  exact ⟨by kernel_rfl, by unfold roomOK; omega, by unfold roomOK; omega⟩
def E_join : List V → Boxes → Toks → Name → Option Ent
  | [.agg [.d (.int .i64 c), .d (.list q_a)], .agg [.d (.int .i64 d), .d (.list q_b)]], [], [], _ => some ⟨(ints q_a).length + (ints q_b).length ≤ 1000000 ∧ q_a = LI .i32 (ints q_a) ∧ q_b = LI .i32 (ints q_b), .agg [.d (.int .i64 c), .d (.list (LI .i32 ((ints q_a) ++ (ints q_b))))], [], []⟩
  | _, _, _, _ => none
theorem E_join_eq {c d : Int}  {q_a : List D} {q_b : List D} {nF : Name} : E_join [.agg [.d (.int .i64 c), .d (.list q_a)], .agg [.d (.int .i64 d), .d (.list q_b)]] [] [] nF = some ⟨(ints q_a).length + (ints q_b).length ≤ 1000000 ∧ q_a = LI .i32 (ints q_a) ∧ q_b = LI .i32 (ints q_b), .agg [.d (.int .i64 c), .d (.list (LI .i32 ((ints q_a) ++ (ints q_b))))], [], []⟩ := Eq.trans rfl rfl
theorem E_join_ok : Snd Try.prog 30 E_join := by
  intro vs b k n e h hn hp
  unfold E_join at h
  split at h
  · cases h; obtain ⟨hp0, hq0, hq1⟩ := hp; obtain ⟨_, rfl⟩ := LI_ex hq0; obtain ⟨_, rfl⟩ := LI_ex hq1; simp only [ints_LI, bys_LB, blks_LK, lls_LL] at hp0 ⊢; exact (spec_join _ _ _ _ hp0).lift rfl _
  · cases h

/-- Frames of a block. -/
def cutK (k : Int) (l : List Int) (f t : Nat) : List Int := (l.drop (f * k.toNat)).take ((t - f) * k.toNat)

theorem spec_cut (k : Int) (l : List Int) (f t : Int) (hl : l.length ≤ 1000000) (hk : 1 ≤ k ∧ k ≤ 8) (hf : 0 ≤ f ∧ f ≤ t) (ht : t.toNat * k.toNat ≤ l.length) : Spec Try.prog 0 44 [.agg [.d (.int .i64 k), .d (.list (LI .i32 l))], vI .i64 f, vI .i64 t] [] [] (.agg [.d (.int .i64 k), .d (.list (LI .i32 (cutK k l f.toNat t.toNat)))]) [] [] := by
  refine spec_of_E (X := ⟨Try.prog, tt, Try.f44.ntmps, 1, fun _ => 0, (tab [])⟩) (M := [(1, [0, 0, 0, 0, 0, 4193615, 0, 0, 0, 0, 0, 3949903, 0, 0, 0, 0])]) (m := 79) rfl rfl ⟨tt_ok, tab_ok tabs_nil _ rfl rfl⟩ tt_mixed Try.func44 rfl (by decide) (by show (3 : Nat) ≤ _; exact Nat.le_of_ble_eq_true rfl) ⟨by simp [V.has, C.has], by simp [C.has], by simp⟩ ?_
  simp only [↓gPre, gPost, gCore, handV, V.bufs, buildArr, toCs, Nat.reduceShiftRight, Nat.reduceMod, addB, addK, zeroOp, callSem, resName, keepsB, newB, V.pure, C.pure, V.ptrs, C.ptrs, C.bufs, appendSem, appendTo, appendZ, dstOk, lk, V.cells, Op.eff, partV, partD, cut, lay, zeroD, C.toDs, C.toD, V.toD, toDs, buildCells, if_true, if_false, ↓reduceIte, reduceCtorEq, Nat.reduceEqDiff, Nat.reduceLT, Nat.reduceLeDiff, implies_true, forall_const, eq_self, ne_eq, not_true_eq_false, not_false_eq_true, imp_self, Nat.reduceAdd, Nat.reduceMul, Int.reduceLE, Int.reduceLT, Int.reduceNeg, Int.reduceAdd, Int.reduceToNat, Try.ntmps44, Try.results44, gTT]
  have hkm : (k.toNat : Int) = k := by omega
  have hfm : (f.toNat : Int) = f := by omega
  have htm : (t.toNat : Int) = t := by omega
  have hle : f.toNat * k.toNat ≤ t.toNat * k.toNat := Nat.mul_le_mul_right _ (by omega)
  have c1 : f * k = ((f.toNat * k.toNat : Nat) : Int) := by rw [Int.natCast_mul, hkm, hfm]
  have c2 : t * k = ((t.toNat * k.toNat : Nat) : Int) := by rw [Int.natCast_mul, hkm, htm]
  have hsub : (t.toNat - f.toNat) * k.toNat = t.toNat * k.toNat - f.toNat * k.toNat := Nat.sub_mul ..
  refine ⟨by kernel_rfl, ?_⟩
  unfold cutK
  rw [c1, c2, hsub]
  generalize f.toNat * k.toNat = x at *
  generalize t.toNat * k.toNat = y at *
  rw [IntWalk.i64_in (x : Int) (by omega), IntWalk.i64_in (y : Int) (by omega)]
  refine ⟨by omega, ?_, rfl⟩
  have : (List.take ((y : Int).toNat - (x : Int).toNat) (List.drop (x : Int).toNat l)).length ≤ l.length := by rw [List.length_take, List.length_drop]; omega
  unfold roomOK
  omega
def E_cut : List V → Boxes → Toks → Name → Option Ent
  | [.agg [.d (.int .i64 k), .d (.list q_l)], .c (.d (.int .i64 f)), .c (.d (.int .i64 t))], [], [], _ => some ⟨(ints q_l).length ≤ 1000000 ∧ (1 ≤ k ∧ k ≤ 8) ∧ (0 ≤ f ∧ f ≤ t) ∧ t.toNat * k.toNat ≤ (ints q_l).length ∧ q_l = LI .i32 (ints q_l), .agg [.d (.int .i64 k), .d (.list (LI .i32 (cutK k (ints q_l) f.toNat t.toNat)))], [], []⟩
  | _, _, _, _ => none
theorem E_cut_eq {k : Int} {f t : Int}  {q_l : List D} {nF : Name} : E_cut [.agg [.d (.int .i64 k), .d (.list q_l)], .c (.d (.int .i64 f)), .c (.d (.int .i64 t))] [] [] nF = some ⟨(ints q_l).length ≤ 1000000 ∧ (1 ≤ k ∧ k ≤ 8) ∧ (0 ≤ f ∧ f ≤ t) ∧ t.toNat * k.toNat ≤ (ints q_l).length ∧ q_l = LI .i32 (ints q_l), .agg [.d (.int .i64 k), .d (.list (LI .i32 (cutK k (ints q_l) f.toNat t.toNat)))], [], []⟩ := Eq.trans rfl rfl
theorem E_cut_ok : Snd Try.prog 44 E_cut := by
  intro vs b k n e h hn hp
  unfold E_cut at h
  split at h
  · cases h; obtain ⟨hp0, hp1, hp2, hp3, hq0⟩ := hp; obtain ⟨_, rfl⟩ := LI_ex hq0; simp only [ints_LI, bys_LB, blks_LK, lls_LL] at hp0 hp1 hp2 hp3 ⊢; exact (spec_cut _ _ _ _ hp0 hp1 hp2 hp3).lift rfl _
  · cases h

/-- Where a block is cut, and the parts. -/
def cqP (n : Nat) (p : List UInt8) : Nat → Nat
  | 0 => 0
  | i + 1 => if cqP n p i + (p[i]?.getD 0).toNat % 8 ≤ n then cqP n p i + (p[i]?.getD 0).toNat % 8 else cqP n p i
def cqL (k : Int) (l : List Int) (n : Nat) (p : List UInt8) : Nat → List (Int × List Int)
  | 0 => []
  | i + 1 => if cqP n p i + (p[i]?.getD 0).toNat % 8 ≤ n then cqL k l n p i ++ [(k, cutK k l (cqP n p i) (cqP n p i + (p[i]?.getD 0).toNat % 8))] else cqL k l n p i
theorem cqP_le (n : Nat) (p : List UInt8) : ∀ i, cqP n p i ≤ n
  | 0 => Nat.zero_le _
  | i + 1 => by have := cqP_le n p i; unfold cqP; split <;> omega
theorem cqL_len (k : Int) (l : List Int) (n : Nat) (p : List UInt8) : ∀ i, (cqL k l n p i).length ≤ i
  | 0 => Nat.le_refl _
  | i + 1 => by
    have := cqL_len k l n p i
    unfold cqL
    split
    · rw [List.length_append]; simp; omega
    · omega

theorem spec_mcut (k : Int) (l : List Int) (p : List UInt8) (hl : l.length ≤ 1000000) (hb : blkV k l = true) (hp : p.length ≤ 1000) : Spec Try.prog 0 32 [.agg [.d (.int .i64 k), .d (.list (LI .i32 l))], vL (LB p)] [] [] (vL (LK (cqL k l (l.length / k.toNat) p p.length ++ [(k, cutK k l (cqP (l.length / k.toNat) p p.length) (l.length / k.toNat))]))) [] [] := by
  refine spec_of_E (X := ⟨Try.prog, tt, Try.f32.ntmps, 1, fun _ => 0, (tab [(27, E_frames), (44, E_cut)])⟩) (M := []) (m := 67233527) rfl rfl ⟨tt_ok, tab_ok (tabs_cons E_frames_ok (tabs_cons E_cut_ok tabs_nil)) _ rfl rfl⟩ tt_mixed Try.func32 rfl (by decide) (by show (2 : Nat) ≤ _; exact Nat.le_of_ble_eq_true rfl) ⟨by simp [V.has, C.has], by simp [C.has], by simp⟩ ?_
  simp only [↓gPre, gPost, gCore, handV, V.bufs, buildArr, toCs, Nat.reduceShiftRight, Nat.reduceMod, addB, addK, zeroOp, callSem, resName, keepsB, newB, V.pure, C.pure, V.ptrs, C.ptrs, C.bufs, appendSem, appendTo, appendZ, dstOk, lk, V.cells, Op.eff, partV, partD, cut, lay, zeroD, C.toDs, C.toD, V.toD, toDs, buildCells, if_true, if_false, ↓reduceIte, reduceCtorEq, Nat.reduceEqDiff, Nat.reduceLT, Nat.reduceLeDiff, implies_true, forall_const, eq_self, ne_eq, not_true_eq_false, not_false_eq_true, imp_self, Nat.reduceAdd, Nat.reduceMul, Int.reduceLE, Int.reduceLT, Int.reduceNeg, Int.reduceAdd, Int.reduceToNat, E_frames_eq, E_cut_eq, Try.ntmps32, Try.results32, gTT]
  obtain ⟨hc, _⟩ := blkV_in hb
  obtain ⟨k1, k2, k3⟩ := chBk_in hc
  refine ⟨hl, ?_⟩
  rw [if_pos hb]
  generalize hn : l.length / k.toNat = n at *
  have hnl : n ≤ l.length := by rw [← hn]; exact Nat.div_le_self ..
  refine ELoop_nilT 5 2 ⟨1, 99⟩ rfl (by simp only [↓gPre, gPost, gCore, handV, V.bufs, buildArr, toCs, Nat.reduceShiftRight, Nat.reduceMod, addB, addK, zeroOp, callSem, resName, keepsB, newB, V.pure, C.pure, V.ptrs, C.ptrs, C.bufs, appendSem, appendTo, appendZ, dstOk, lk, V.cells, Op.eff, partV, partD, cut, lay, zeroD, C.toDs, C.toD, V.toD, toDs, buildCells, if_true, if_false, ↓reduceIte, reduceCtorEq, Nat.reduceEqDiff, Nat.reduceLT, Nat.reduceLeDiff, implies_true, forall_const, eq_self, ne_eq, not_true_eq_false, not_false_eq_true, imp_self, Nat.reduceAdd, Nat.reduceMul, Int.reduceLE, Int.reduceLT, Int.reduceNeg, Int.reduceAdd, Int.reduceToNat, E_frames_eq, E_cut_eq, Try.ntmps32, Try.results32, gTT]) (Nat.le_refl _) ?_
  simp only [↓gPre, gPost, gCore, handV, V.bufs, buildArr, toCs, Nat.reduceShiftRight, Nat.reduceMod, addB, addK, zeroOp, callSem, resName, keepsB, newB, V.pure, C.pure, V.ptrs, C.ptrs, C.bufs, appendSem, appendTo, appendZ, dstOk, lk, V.cells, Op.eff, partV, partD, cut, lay, zeroD, C.toDs, C.toD, V.toD, toDs, buildCells, if_true, if_false, ↓reduceIte, reduceCtorEq, Nat.reduceEqDiff, Nat.reduceLT, Nat.reduceLeDiff, implies_true, forall_const, eq_self, ne_eq, not_true_eq_false, not_false_eq_true, imp_self, Nat.reduceAdd, Nat.reduceMul, Int.reduceLE, Int.reduceLT, Int.reduceNeg, Int.reduceAdd, Int.reduceToNat, E_frames_eq, E_cut_eq, Try.ntmps32, Try.results32, gTT]
  refine ELoop_keep (fun i => ⟨[(15, vI .i64 (i : Nat)), (6, vI .i64 ((cqP n p i : Nat) : Int)), (5, .c (.own ⟨1, 99⟩ (LK (cqL k l n p i))))], [], [(⟨1, 99⟩, ⟨false, 2, LK (cqL k l n p i)⟩)]⟩) (fun i => i ≤ p.length) (fun i => p.length - i) (· + 1) 0 (Nat.zero_le _) ?_ ?_
  · simp only [↓gPre, gPost, gCore, handV, V.bufs, buildArr, toCs, Nat.reduceShiftRight, Nat.reduceMod, addB, addK, zeroOp, callSem, resName, keepsB, newB, V.pure, C.pure, V.ptrs, C.ptrs, C.bufs, appendSem, appendTo, appendZ, dstOk, lk, V.cells, Op.eff, partV, partD, cut, lay, zeroD, C.toDs, C.toD, V.toD, toDs, buildCells, if_true, if_false, ↓reduceIte, reduceCtorEq, Nat.reduceEqDiff, Nat.reduceLT, Nat.reduceLeDiff, implies_true, forall_const, eq_self, ne_eq, not_true_eq_false, not_false_eq_true, imp_self, Nat.reduceAdd, Nat.reduceMul, Int.reduceLE, Int.reduceLT, Int.reduceNeg, Int.reduceAdd, Int.reduceToNat, E_frames_eq, E_cut_eq, Try.ntmps32, Try.results32, gTT]
    exact ⟨⟨rfl, rfl, rfl⟩, rfl⟩
  intro i hi
  simp only [↓gPre, gPost, gCore, handV, V.bufs, buildArr, toCs, Nat.reduceShiftRight, Nat.reduceMod, addB, addK, zeroOp, callSem, resName, keepsB, newB, V.pure, C.pure, V.ptrs, C.ptrs, C.bufs, appendSem, appendTo, appendZ, dstOk, lk, V.cells, Op.eff, partV, partD, cut, lay, zeroD, C.toDs, C.toD, V.toD, toDs, buildCells, if_true, if_false, ↓reduceIte, reduceCtorEq, Nat.reduceEqDiff, Nat.reduceLT, Nat.reduceLeDiff, implies_true, forall_const, eq_self, ne_eq, not_true_eq_false, not_false_eq_true, imp_self, Nat.reduceAdd, Nat.reduceMul, Int.reduceLE, Int.reduceLT, Int.reduceNeg, Int.reduceAdd, Int.reduceToNat, E_frames_eq, E_cut_eq, Try.ntmps32, Try.results32, gTT]
  have hb8 : (IntKind.i64.wrap (((p[i]?.getD 0).toNat : Nat) : Int)).tmod 8 = (((p[i]?.getD 0).toNat % 8 : Nat) : Int) := by
    have := (p[i]?.getD 0).toNat_lt
    rw [IntWalk.i64_in _ (by omega), Int.tmod_eq_emod_of_nonneg (by omega)]
    omega
  have hb7 : (p[i]?.getD 0).toNat % 8 < 8 := Nat.mod_lt _ (by decide)
  have hq := cqP_le n p i
  have hql := cqL_len k l n p i
  have hP : cqP n p (i + 1) = if cqP n p i + (p[i]?.getD 0).toNat % 8 ≤ n then cqP n p i + (p[i]?.getD 0).toNat % 8 else cqP n p i := rfl
  have hL : cqL k l n p (i + 1) = if cqP n p i + (p[i]?.getD 0).toNat % 8 ≤ n then cqL k l n p i ++ [(k, cutK k l (cqP n p i) (cqP n p i + (p[i]?.getD 0).toNat % 8))] else cqL k l n p i := rfl
  rw [hb8]
  generalize (p[i]?.getD 0).toNat % 8 = b at *
  rw [IntWalk.i64_in (((cqP n p i : Nat) : Int) + (b : Int)) (by omega)]
  have en : ((cqP n p i : Nat) : Int) + (b : Int) = ((cqP n p i + b : Nat) : Int) := by omega
  rw [en, Int.toNat_natCast]
  refine ⟨fun h1 => ⟨by have := of_decide_eq_true h1; omega, by decide, fun h2 => ?_, fun h2 => ?_⟩, fun h1 => ?_⟩
  · have h3 : cqP n p i + b ≤ n := by have := of_decide_eq_true h2; omega
    have h4 := of_decide_eq_true h1
    rw [hP, hL, if_pos h3, if_pos h3]
    refine ⟨⟨hl, ⟨k1, k2⟩, by omega, ?_⟩, by unfold roomOK; omega, ⟨⟨(wrapN _ (by omega)).symm, rfl, rfl⟩, rfl⟩, by omega, by omega⟩
    rw [k3]
    exact Nat.mul_le_mul_right _ h3
  · have h3 : ¬ (cqP n p i + b ≤ n) := by have := of_decide_eq_false h2; omega
    have h4 := of_decide_eq_true h1
    rw [hP, hL, if_neg h3, if_neg h3]
    exact ⟨⟨⟨(wrapN _ (by omega)).symm, rfl, rfl⟩, rfl⟩, by omega, by omega⟩
  · have h4 := of_decide_eq_false h1
    have hi2 : p.length = i := by omega
    rw [hi2]
    exact ⟨⟨hl, ⟨k1, k2⟩, by omega, by omega⟩, by unfold roomOK; omega, rfl⟩
def E_mcut : List V → Boxes → Toks → Name → Option Ent
  | [.agg [.d (.int .i64 k), .d (.list q_l)], .c (.d (.list q_p))], [], [], _ => some ⟨(ints q_l).length ≤ 1000000 ∧ blkV k (ints q_l) = true ∧ (bys q_p).length ≤ 1000 ∧ q_l = LI .i32 (ints q_l) ∧ q_p = LB (bys q_p), vL (LK (cqL k (ints q_l) ((ints q_l).length / k.toNat) (bys q_p) (bys q_p).length ++ [(k, cutK k (ints q_l) (cqP ((ints q_l).length / k.toNat) (bys q_p) (bys q_p).length) ((ints q_l).length / k.toNat))])), [], []⟩
  | _, _, _, _ => none
theorem E_mcut_eq {k : Int}  {q_l : List D} {q_p : List D} {nF : Name} : E_mcut [.agg [.d (.int .i64 k), .d (.list q_l)], .c (.d (.list q_p))] [] [] nF = some ⟨(ints q_l).length ≤ 1000000 ∧ blkV k (ints q_l) = true ∧ (bys q_p).length ≤ 1000 ∧ q_l = LI .i32 (ints q_l) ∧ q_p = LB (bys q_p), vL (LK (cqL k (ints q_l) ((ints q_l).length / k.toNat) (bys q_p) (bys q_p).length ++ [(k, cutK k (ints q_l) (cqP ((ints q_l).length / k.toNat) (bys q_p) (bys q_p).length) ((ints q_l).length / k.toNat))])), [], []⟩ := Eq.trans rfl rfl
theorem E_mcut_ok : Snd Try.prog 32 E_mcut := by
  intro vs b k n e h hn hp
  unfold E_mcut at h
  split at h
  · cases h; obtain ⟨hp0, hp1, hp2, hq0, hq1⟩ := hp; obtain ⟨_, rfl⟩ := LI_ex hq0; obtain ⟨_, rfl⟩ := LB_ex hq1; simp only [ints_LI, bys_LB, blks_LK, lls_LL] at hp0 hp1 hp2 ⊢; exact (spec_mcut _ _ _ hp0 hp1 hp2).lift rfl _
  · cases h

/-- Parts in a row, from one frame to another. -/
def chain (k : Int) (l : List Int) (n : Nat) : Nat → List (Int × List Int) → Prop
  | q, [] => q = n
  | q, x :: xs => ∃ m, q ≤ m ∧ m ≤ n ∧ x = (k, cutK k l q m) ∧ chain k l n m xs
theorem chain_snoc {k : Int} {l : List Int} {n m : Nat} (h : m ≤ n) : ∀ {xs : List (Int × List Int)} {q : Nat}, chain k l m q xs → chain k l n q (xs ++ [(k, cutK k l m n)])
  | [], q, e => ⟨n, by cases e; exact h, Nat.le_refl _, by cases e; rfl, rfl⟩
  | x :: xs, q, ⟨m', h1, h2, h3, h4⟩ => ⟨m', h1, by omega, h3, chain_snoc h h4⟩
theorem cqP_mono (n : Nat) (p : List UInt8) (i : Nat) : cqP n p i ≤ cqP n p (i + 1) := by
  have e : cqP n p (i + 1) = if cqP n p i + (p[i]?.getD 0).toNat % 8 ≤ n then cqP n p i + (p[i]?.getD 0).toNat % 8 else cqP n p i := rfl
  rw [e]
  split
  · exact Nat.le_add_right _ _
  · exact Nat.le_refl _
theorem chain_cq (k : Int) (l : List Int) (n : Nat) (p : List UInt8) : ∀ i, chain k l (cqP n p i) 0 (cqL k l n p i)
  | 0 => rfl
  | i + 1 => by
    have ih := chain_cq k l n p i
    show chain k l (if _ then _ else _) 0 (if _ then _ else _)
    split
    · exact chain_snoc (Nat.le_add_right _ _) ih
    · exact ih
theorem chain_parts (k : Int) (l : List Int) (n : Nat) (p : List UInt8) (i : Nat) : chain k l n 0 (cqL k l n p i ++ [(k, cutK k l (cqP n p i) n)]) :=
  chain_snoc (cqP_le n p i) (chain_cq k l n p i)
theorem cutK_len {k : Int} {l : List Int} {f t : Nat} (h : t * k.toNat ≤ l.length) : (cutK k l f t).length = (t - f) * k.toNat := by
  unfold cutK
  rw [List.length_take, List.length_drop, Nat.sub_mul]
  omega
theorem cutK_get {k : Int} {l : List Int} {f t j : Nat} (hj : j < (t - f) * k.toNat) : (cutK k l f t)[j]? = l[f * k.toNat + j]? := by
  unfold cutK
  rw [List.getElem?_take_of_lt hj, List.getElem?_drop]


theorem blkV_cut {k : Int} {s : List Int} {q m : Nat} (hb : blkV k s = true) (hq : q ≤ m) (hm : m * k.toNat ≤ s.length) (hl : s.length ≤ 65536) : blkV k (cutK k s q m) = true := by
  obtain ⟨hc, ha⟩ := blkV_in hb
  obtain ⟨k1, k2, k3⟩ := chBk_in hc
  have hlen := cutK_len (f := q) hm
  have hle : (cutK k s q m).length ≤ s.length := by unfold cutK; rw [List.length_take, List.length_drop]; omega
  unfold blkV
  have hch : chBk k (cutK k s q m).length = false := by
    rw [hlen] at hle ⊢
    unfold chBk
    have e : (((m - q) * k.toNat : Nat) : Int) = ((m - q : Nat) : Int) * k := by
      rw [Int.natCast_mul]; congr 1; omega
    have hdl : m - q ≤ (m - q) * k.toNat := Nat.le_mul_of_pos_right _ (by omega)
    rw [e, Int.mul_tmod_left, Int.mul_tdiv_cancel _ (by omega), IntWalk.i64_in _ (by omega)]
    simp only [Bool.or_eq_false_iff, decide_eq_false_iff_not, bne_self_eq_false, and_true]
    omega
  rw [hch]
  simp only [Bool.not_false, Bool.true_and, List.all_eq_true]
  intro x hx
  exact List.all_eq_true.1 ha x (List.mem_of_mem_drop (List.mem_of_mem_take hx))

theorem spec_brvalid (q ct cd cg cm c n d a p f : Int) (l : List Int) (lo mi : Int) (hl : l.length ≤ 1000000) : Spec Try.prog 0 21 [.agg [.d (.int .i64 q), .d (.int .i64 ct), .d (.int .i64 cd), .d (.int .i64 cg), .d (.int .i64 cm), .d (.int .i64 c), .d (.int .i64 n), .d (.int .i64 d), .d (.int .i64 a), .d (.int .i64 p), .d (.int .i64 f), .d (.list (LI .i32 l)), .d (.int .i64 lo), .d (.int .i64 mi)]] [] [] (vB (brV ⟨q, ⟨ct, cd, cg, cm⟩, ⟨c, ⟨n, d, a, p, f⟩, l⟩, lo, mi⟩)) [] [] := by
  refine spec_of_E (X := ⟨Try.prog, tt, Try.f21.ntmps, 1, fun _ => 0, (tab [(56, E_rsvalid), (57, E_ctvalid), (40, E_waiting)])⟩) (M := [(1, [0, 0, 0, 0, 0, 549755813703, 0, 0, 0, 0, 0, 549755799559, 0, 0, 0, 0, 0, 549754765319, 0, 0, 0, 0, 0, 549707579399, 0, 0, 0, 0, 0, 545997717511, 0, 0, 0, 0, 0, 274877906951, 0])]) (m := 7) rfl rfl ⟨tt_ok, tab_ok (tabs_cons E_rsvalid_ok (tabs_cons E_ctvalid_ok (tabs_cons E_waiting_ok tabs_nil))) _ rfl rfl⟩ tt_mixed Try.func21 rfl (by decide) (by show (1 : Nat) ≤ _; exact Nat.le_of_ble_eq_true rfl) ⟨fun m hm => (V.bare_has rfl m hm).elim, by simp, by simp⟩ ?_
  simp only [↓gPre, gPost, gCore, handV, V.bufs, buildArr, toCs, Nat.reduceShiftRight, Nat.reduceMod, addB, addK, zeroOp, callSem, resName, keepsB, newB, V.pure, C.pure, V.ptrs, C.ptrs, C.bufs, appendSem, appendTo, appendZ, dstOk, lk, V.cells, Op.eff, partV, partD, cut, lay, zeroD, C.toDs, C.toD, V.toD, toDs, buildCells, if_true, if_false, ↓reduceIte, reduceCtorEq, Nat.reduceEqDiff, Nat.reduceLT, Nat.reduceLeDiff, implies_true, forall_const, eq_self, ne_eq, not_true_eq_false, not_false_eq_true, imp_self, Nat.reduceAdd, Nat.reduceMul, Int.reduceLE, Int.reduceLT, Int.reduceNeg, Int.reduceAdd, Int.reduceToNat, E_rsvalid_eq, E_ctvalid_eq, E_waiting_eq, Try.ntmps21, Try.results21, gTT]
  exact ⟨by kernel_rfl, hl, fun _ => hl, rfl⟩
def E_brvalid : List V → Boxes → Toks → Name → Option Ent
  | [.agg [.d (.int .i64 q), .d (.int .i64 ct), .d (.int .i64 cd), .d (.int .i64 cg), .d (.int .i64 cm), .d (.int .i64 c), .d (.int .i64 n), .d (.int .i64 d), .d (.int .i64 a), .d (.int .i64 p), .d (.int .i64 f), .d (.list q_l), .d (.int .i64 lo), .d (.int .i64 mi)]], [], [], _ => some ⟨(ints q_l).length ≤ 1000000 ∧ q_l = LI .i32 (ints q_l), vB (brV ⟨q, ⟨ct, cd, cg, cm⟩, ⟨c, ⟨n, d, a, p, f⟩, (ints q_l)⟩, lo, mi⟩), [], []⟩
  | _, _, _, _ => none
theorem E_brvalid_eq {q ct cd cg cm c n d a p f : Int} {lo mi : Int}  {q_l : List D} {nF : Name} : E_brvalid [.agg [.d (.int .i64 q), .d (.int .i64 ct), .d (.int .i64 cd), .d (.int .i64 cg), .d (.int .i64 cm), .d (.int .i64 c), .d (.int .i64 n), .d (.int .i64 d), .d (.int .i64 a), .d (.int .i64 p), .d (.int .i64 f), .d (.list q_l), .d (.int .i64 lo), .d (.int .i64 mi)]] [] [] nF = some ⟨(ints q_l).length ≤ 1000000 ∧ q_l = LI .i32 (ints q_l), vB (brV ⟨q, ⟨ct, cd, cg, cm⟩, ⟨c, ⟨n, d, a, p, f⟩, (ints q_l)⟩, lo, mi⟩), [], []⟩ := Eq.trans rfl rfl
theorem E_brvalid_ok : Snd Try.prog 21 E_brvalid := by
  intro vs b k n e h hn hp
  unfold E_brvalid at h
  split at h
  · cases h; obtain ⟨hp0, hq0⟩ := hp; obtain ⟨_, rfl⟩ := LI_ex hq0; simp only [ints_LI, bys_LB, blks_LK, lls_LL] at hp0 ⊢; exact (spec_brvalid _ _ _ _ _ _ _ _ _ _ _ _ _ _ hp0).lift rfl _
  · cases h

theorem spec_rbrvalid (q ct cd cg cm c n d a p f : Int) (l : List Int) (lo mi : Int) (hl : l.length ≤ 1000000) : Spec Try.prog 0 22 [.agg [.d (.int .i64 q), .d (.int .i64 ct), .d (.int .i64 cd), .d (.int .i64 cg), .d (.int .i64 cm), .d (.int .i64 c), .d (.int .i64 n), .d (.int .i64 d), .d (.int .i64 a), .d (.int .i64 p), .d (.int .i64 f), .d (.list (LI .i32 l)), .d (.int .i64 lo), .d (.int .i64 mi)]] [] [] (vB (brV ⟨q, ⟨ct, cd, cg, cm⟩, ⟨c, ⟨n, d, a, p, f⟩, l⟩, lo, mi⟩)) [] [] := by
  refine spec_of_E (X := ⟨Try.prog, tt, Try.f22.ntmps, 1, fun _ => 0, (tab [(58, E_rrsvalid), (59, E_rctvalid), (53, E_rwaiting)])⟩) (M := [(1, [0, 0, 0, 0, 0, 549755813703, 0, 0, 0, 0, 0, 549755799559, 0, 0, 0, 0, 0, 549754765319, 0, 0, 0, 0, 0, 549707579399, 0, 0, 0, 0, 0, 545997717511, 0, 0, 0, 0, 0, 274877906951, 0])]) (m := 7) rfl rfl ⟨tt_ok, tab_ok (tabs_cons E_rrsvalid_ok (tabs_cons E_rctvalid_ok (tabs_cons E_rwaiting_ok tabs_nil))) _ rfl rfl⟩ tt_mixed Try.func22 rfl (by decide) (by show (1 : Nat) ≤ _; exact Nat.le_of_ble_eq_true rfl) ⟨fun m hm => (V.bare_has rfl m hm).elim, by simp, by simp⟩ ?_
  simp only [↓gPre, gPost, gCore, handV, V.bufs, buildArr, toCs, Nat.reduceShiftRight, Nat.reduceMod, addB, addK, zeroOp, callSem, resName, keepsB, newB, V.pure, C.pure, V.ptrs, C.ptrs, C.bufs, appendSem, appendTo, appendZ, dstOk, lk, V.cells, Op.eff, partV, partD, cut, lay, zeroD, C.toDs, C.toD, V.toD, toDs, buildCells, if_true, if_false, ↓reduceIte, reduceCtorEq, Nat.reduceEqDiff, Nat.reduceLT, Nat.reduceLeDiff, implies_true, forall_const, eq_self, ne_eq, not_true_eq_false, not_false_eq_true, imp_self, Nat.reduceAdd, Nat.reduceMul, Int.reduceLE, Int.reduceLT, Int.reduceNeg, Int.reduceAdd, Int.reduceToNat, E_rrsvalid_eq, E_rctvalid_eq, E_rwaiting_eq, Try.ntmps22, Try.results22, gTT]
  exact ⟨by kernel_rfl, hl, fun _ => hl, rfl⟩
def E_rbrvalid : List V → Boxes → Toks → Name → Option Ent
  | [.agg [.d (.int .i64 q), .d (.int .i64 ct), .d (.int .i64 cd), .d (.int .i64 cg), .d (.int .i64 cm), .d (.int .i64 c), .d (.int .i64 n), .d (.int .i64 d), .d (.int .i64 a), .d (.int .i64 p), .d (.int .i64 f), .d (.list q_l), .d (.int .i64 lo), .d (.int .i64 mi)]], [], [], _ => some ⟨(ints q_l).length ≤ 1000000 ∧ q_l = LI .i32 (ints q_l), vB (brV ⟨q, ⟨ct, cd, cg, cm⟩, ⟨c, ⟨n, d, a, p, f⟩, (ints q_l)⟩, lo, mi⟩), [], []⟩
  | _, _, _, _ => none
theorem E_rbrvalid_eq {q ct cd cg cm c n d a p f : Int} {lo mi : Int}  {q_l : List D} {nF : Name} : E_rbrvalid [.agg [.d (.int .i64 q), .d (.int .i64 ct), .d (.int .i64 cd), .d (.int .i64 cg), .d (.int .i64 cm), .d (.int .i64 c), .d (.int .i64 n), .d (.int .i64 d), .d (.int .i64 a), .d (.int .i64 p), .d (.int .i64 f), .d (.list q_l), .d (.int .i64 lo), .d (.int .i64 mi)]] [] [] nF = some ⟨(ints q_l).length ≤ 1000000 ∧ q_l = LI .i32 (ints q_l), vB (brV ⟨q, ⟨ct, cd, cg, cm⟩, ⟨c, ⟨n, d, a, p, f⟩, (ints q_l)⟩, lo, mi⟩), [], []⟩ := Eq.trans rfl rfl
theorem E_rbrvalid_ok : Snd Try.prog 22 E_rbrvalid := by
  intro vs b k n e h hn hp
  unfold E_rbrvalid at h
  split at h
  · cases h; obtain ⟨hp0, hq0⟩ := hp; obtain ⟨_, rfl⟩ := LI_ex hq0; simp only [ints_LI, bys_LB, blks_LK, lls_LL] at hp0 ⊢; exact (spec_rbrvalid _ _ _ _ _ _ _ _ _ _ _ _ _ _ hp0).lift rfl _
  · cases h

theorem spec_brfill (q ct cd cg cm c n d a p f : Int) (l : List Int) (lo mi : Int) (hl : l.length ≤ 1000000) : Spec Try.prog 0 23 [.agg [.d (.int .i64 q), .d (.int .i64 ct), .d (.int .i64 cd), .d (.int .i64 cg), .d (.int .i64 cm), .d (.int .i64 c), .d (.int .i64 n), .d (.int .i64 d), .d (.int .i64 a), .d (.int .i64 p), .d (.int .i64 f), .d (.list (LI .i32 l)), .d (.int .i64 lo), .d (.int .i64 mi)]] [] [] (vI .i64 (biN ⟨q, ⟨ct, cd, cg, cm⟩, ⟨c, ⟨n, d, a, p, f⟩, l⟩, lo, mi⟩)) [] [] := by
  refine spec_of_E (X := ⟨Try.prog, tt, Try.f23.ntmps, 1, fun _ => 0, (tab [(21, E_brvalid), (40, E_waiting)])⟩) (M := []) (m := 39) rfl rfl ⟨tt_ok, tab_ok (tabs_cons E_brvalid_ok (tabs_cons E_waiting_ok tabs_nil)) _ rfl rfl⟩ tt_mixed Try.func23 rfl (by decide) (by show (1 : Nat) ≤ _; exact Nat.le_of_ble_eq_true rfl) ⟨by simp [V.has, C.has], by simp [C.has], by simp⟩ ?_
  simp only [↓gPre, gPost, gCore, handV, V.bufs, buildArr, toCs, Nat.reduceShiftRight, Nat.reduceMod, addB, addK, zeroOp, callSem, resName, keepsB, newB, V.pure, C.pure, V.ptrs, C.ptrs, C.bufs, appendSem, appendTo, appendZ, dstOk, lk, V.cells, Op.eff, partV, partD, cut, lay, zeroD, C.toDs, C.toD, V.toD, toDs, buildCells, if_true, if_false, ↓reduceIte, reduceCtorEq, Nat.reduceEqDiff, Nat.reduceLT, Nat.reduceLeDiff, implies_true, forall_const, eq_self, ne_eq, not_true_eq_false, not_false_eq_true, imp_self, Nat.reduceAdd, Nat.reduceMul, Int.reduceLE, Int.reduceLT, Int.reduceNeg, Int.reduceAdd, Int.reduceToNat, E_brvalid_eq, E_waiting_eq, Try.ntmps23, Try.results23, gTT]
  refine ⟨hl, fun h => by simp [biN, h], fun h => ⟨hl, ?_⟩⟩
  have hv : brV ⟨q, ⟨ct, cd, cg, cm⟩, ⟨c, ⟨n, d, a, p, f⟩, l⟩, lo, mi⟩ = true := by simpa using h
  simp [biN, hv]
def E_brfill : List V → Boxes → Toks → Name → Option Ent
  | [.agg [.d (.int .i64 q), .d (.int .i64 ct), .d (.int .i64 cd), .d (.int .i64 cg), .d (.int .i64 cm), .d (.int .i64 c), .d (.int .i64 n), .d (.int .i64 d), .d (.int .i64 a), .d (.int .i64 p), .d (.int .i64 f), .d (.list q_l), .d (.int .i64 lo), .d (.int .i64 mi)]], [], [], _ => some ⟨(ints q_l).length ≤ 1000000 ∧ q_l = LI .i32 (ints q_l), vI .i64 (biN ⟨q, ⟨ct, cd, cg, cm⟩, ⟨c, ⟨n, d, a, p, f⟩, (ints q_l)⟩, lo, mi⟩), [], []⟩
  | _, _, _, _ => none
theorem E_brfill_eq {q ct cd cg cm c n d a p f : Int} {lo mi : Int}  {q_l : List D} {nF : Name} : E_brfill [.agg [.d (.int .i64 q), .d (.int .i64 ct), .d (.int .i64 cd), .d (.int .i64 cg), .d (.int .i64 cm), .d (.int .i64 c), .d (.int .i64 n), .d (.int .i64 d), .d (.int .i64 a), .d (.int .i64 p), .d (.int .i64 f), .d (.list q_l), .d (.int .i64 lo), .d (.int .i64 mi)]] [] [] nF = some ⟨(ints q_l).length ≤ 1000000 ∧ q_l = LI .i32 (ints q_l), vI .i64 (biN ⟨q, ⟨ct, cd, cg, cm⟩, ⟨c, ⟨n, d, a, p, f⟩, (ints q_l)⟩, lo, mi⟩), [], []⟩ := Eq.trans rfl rfl
theorem E_brfill_ok : Snd Try.prog 23 E_brfill := by
  intro vs b k n e h hn hp
  unfold E_brfill at h
  split at h
  · cases h; obtain ⟨hp0, hq0⟩ := hp; obtain ⟨_, rfl⟩ := LI_ex hq0; simp only [ints_LI, bys_LB, blks_LK, lls_LL] at hp0 ⊢; exact (spec_brfill _ _ _ _ _ _ _ _ _ _ _ _ _ _ hp0).lift rfl _
  · cases h

theorem spec_rbrfill (q ct cd cg cm c n d a p f : Int) (l : List Int) (lo mi : Int) (hl : l.length ≤ 1000000) : Spec Try.prog 0 24 [.agg [.d (.int .i64 q), .d (.int .i64 ct), .d (.int .i64 cd), .d (.int .i64 cg), .d (.int .i64 cm), .d (.int .i64 c), .d (.int .i64 n), .d (.int .i64 d), .d (.int .i64 a), .d (.int .i64 p), .d (.int .i64 f), .d (.list (LI .i32 l)), .d (.int .i64 lo), .d (.int .i64 mi)]] [] [] (vI .i64 (biN ⟨q, ⟨ct, cd, cg, cm⟩, ⟨c, ⟨n, d, a, p, f⟩, l⟩, lo, mi⟩)) [] [] := by
  refine spec_of_E (X := ⟨Try.prog, tt, Try.f24.ntmps, 1, fun _ => 0, (tab [(22, E_rbrvalid), (53, E_rwaiting)])⟩) (M := []) (m := 39) rfl rfl ⟨tt_ok, tab_ok (tabs_cons E_rbrvalid_ok (tabs_cons E_rwaiting_ok tabs_nil)) _ rfl rfl⟩ tt_mixed Try.func24 rfl (by decide) (by show (1 : Nat) ≤ _; exact Nat.le_of_ble_eq_true rfl) ⟨by simp [V.has, C.has], by simp [C.has], by simp⟩ ?_
  simp only [↓gPre, gPost, gCore, handV, V.bufs, buildArr, toCs, Nat.reduceShiftRight, Nat.reduceMod, addB, addK, zeroOp, callSem, resName, keepsB, newB, V.pure, C.pure, V.ptrs, C.ptrs, C.bufs, appendSem, appendTo, appendZ, dstOk, lk, V.cells, Op.eff, partV, partD, cut, lay, zeroD, C.toDs, C.toD, V.toD, toDs, buildCells, if_true, if_false, ↓reduceIte, reduceCtorEq, Nat.reduceEqDiff, Nat.reduceLT, Nat.reduceLeDiff, implies_true, forall_const, eq_self, ne_eq, not_true_eq_false, not_false_eq_true, imp_self, Nat.reduceAdd, Nat.reduceMul, Int.reduceLE, Int.reduceLT, Int.reduceNeg, Int.reduceAdd, Int.reduceToNat, E_rbrvalid_eq, E_rwaiting_eq, Try.ntmps24, Try.results24, gTT]
  refine ⟨hl, fun h => by simp [biN, h], fun h => ⟨hl, ?_⟩⟩
  have hv : brV ⟨q, ⟨ct, cd, cg, cm⟩, ⟨c, ⟨n, d, a, p, f⟩, l⟩, lo, mi⟩ = true := by simpa using h
  simp [biN, hv]
def E_rbrfill : List V → Boxes → Toks → Name → Option Ent
  | [.agg [.d (.int .i64 q), .d (.int .i64 ct), .d (.int .i64 cd), .d (.int .i64 cg), .d (.int .i64 cm), .d (.int .i64 c), .d (.int .i64 n), .d (.int .i64 d), .d (.int .i64 a), .d (.int .i64 p), .d (.int .i64 f), .d (.list q_l), .d (.int .i64 lo), .d (.int .i64 mi)]], [], [], _ => some ⟨(ints q_l).length ≤ 1000000 ∧ q_l = LI .i32 (ints q_l), vI .i64 (biN ⟨q, ⟨ct, cd, cg, cm⟩, ⟨c, ⟨n, d, a, p, f⟩, (ints q_l)⟩, lo, mi⟩), [], []⟩
  | _, _, _, _ => none
theorem E_rbrfill_eq {q ct cd cg cm c n d a p f : Int} {lo mi : Int}  {q_l : List D} {nF : Name} : E_rbrfill [.agg [.d (.int .i64 q), .d (.int .i64 ct), .d (.int .i64 cd), .d (.int .i64 cg), .d (.int .i64 cm), .d (.int .i64 c), .d (.int .i64 n), .d (.int .i64 d), .d (.int .i64 a), .d (.int .i64 p), .d (.int .i64 f), .d (.list q_l), .d (.int .i64 lo), .d (.int .i64 mi)]] [] [] nF = some ⟨(ints q_l).length ≤ 1000000 ∧ q_l = LI .i32 (ints q_l), vI .i64 (biN ⟨q, ⟨ct, cd, cg, cm⟩, ⟨c, ⟨n, d, a, p, f⟩, (ints q_l)⟩, lo, mi⟩), [], []⟩ := Eq.trans rfl rfl
theorem E_rbrfill_ok : Snd Try.prog 24 E_rbrfill := by
  intro vs b k n e h hn hp
  unfold E_rbrfill at h
  split at h
  · cases h; obtain ⟨hp0, hq0⟩ := hp; obtain ⟨_, rfl⟩ := LI_ex hq0; simp only [ints_LI, bys_LB, blks_LK, lls_LL] at hp0 ⊢; exact (spec_rbrfill _ _ _ _ _ _ _ _ _ _ _ _ _ _ hp0).lift rfl _
  · cases h

theorem spec_push (q ct cd cg cm c n d a p f : Int) (l : List Int) (lo mi : Int) (k : Int) (y : List Int) (hl : l.length ≤ 1000000) (hy : y.length ≤ 1000000) : Spec Try.prog 0 15 [.agg [.d (.int .i64 q), .d (.int .i64 ct), .d (.int .i64 cd), .d (.int .i64 cg), .d (.int .i64 cm), .d (.int .i64 c), .d (.int .i64 n), .d (.int .i64 d), .d (.int .i64 a), .d (.int .i64 p), .d (.int .i64 f), .d (.list (LI .i32 l)), .d (.int .i64 lo), .d (.int .i64 mi)], .agg [.d (.int .i64 k), .d (.list (LI .i32 y))]] [] [] (.tup [.agg [.int .i64 (puR ⟨q, ⟨ct, cd, cg, cm⟩, ⟨c, ⟨n, d, a, p, f⟩, l⟩, lo, mi⟩ k y).q, .int .i64 (puR ⟨q, ⟨ct, cd, cg, cm⟩, ⟨c, ⟨n, d, a, p, f⟩, l⟩, lo, mi⟩ k y).c.t, .int .i64 (puR ⟨q, ⟨ct, cd, cg, cm⟩, ⟨c, ⟨n, d, a, p, f⟩, l⟩, lo, mi⟩ k y).c.d, .int .i64 (puR ⟨q, ⟨ct, cd, cg, cm⟩, ⟨c, ⟨n, d, a, p, f⟩, l⟩, lo, mi⟩ k y).c.g, .int .i64 (puR ⟨q, ⟨ct, cd, cg, cm⟩, ⟨c, ⟨n, d, a, p, f⟩, l⟩, lo, mi⟩ k y).c.m, .int .i64 (puR ⟨q, ⟨ct, cd, cg, cm⟩, ⟨c, ⟨n, d, a, p, f⟩, l⟩, lo, mi⟩ k y).r.c, .int .i64 (puR ⟨q, ⟨ct, cd, cg, cm⟩, ⟨c, ⟨n, d, a, p, f⟩, l⟩, lo, mi⟩ k y).r.p.n, .int .i64 (puR ⟨q, ⟨ct, cd, cg, cm⟩, ⟨c, ⟨n, d, a, p, f⟩, l⟩, lo, mi⟩ k y).r.p.d, .int .i64 (puR ⟨q, ⟨ct, cd, cg, cm⟩, ⟨c, ⟨n, d, a, p, f⟩, l⟩, lo, mi⟩ k y).r.p.a, .int .i64 (puR ⟨q, ⟨ct, cd, cg, cm⟩, ⟨c, ⟨n, d, a, p, f⟩, l⟩, lo, mi⟩ k y).r.p.p, .int .i64 (puR ⟨q, ⟨ct, cd, cg, cm⟩, ⟨c, ⟨n, d, a, p, f⟩, l⟩, lo, mi⟩ k y).r.p.f, .list (LI .i32 (puR ⟨q, ⟨ct, cd, cg, cm⟩, ⟨c, ⟨n, d, a, p, f⟩, l⟩, lo, mi⟩ k y).r.l), .int .i64 (puR ⟨q, ⟨ct, cd, cg, cm⟩, ⟨c, ⟨n, d, a, p, f⟩, l⟩, lo, mi⟩ k y).lo, .int .i64 (puR ⟨q, ⟨ct, cd, cg, cm⟩, ⟨c, ⟨n, d, a, p, f⟩, l⟩, lo, mi⟩ k y).mi], .int .i64 (puL ⟨q, ⟨ct, cd, cg, cm⟩, ⟨c, ⟨n, d, a, p, f⟩, l⟩, lo, mi⟩ k y), .int .i64 (puE ⟨q, ⟨ct, cd, cg, cm⟩, ⟨c, ⟨n, d, a, p, f⟩, l⟩, lo, mi⟩ k y)]) [] [] := by
  refine spec_of_E (X := ⟨Try.prog, tt, Try.f15.ntmps, 1, fun _ => 0, (tab [(21, E_brvalid), (39, E_bvalid), (40, E_waiting), (41, E_feed)])⟩) (M := [(7, [0, 0, 0, 0, 0, 2235307147723263, 0, 0, 0, 0, 0, 1688849868718591, 0])]) (m := 8454655) rfl rfl ⟨tt_ok, tab_ok (tabs_cons E_brvalid_ok (tabs_cons E_bvalid_ok (tabs_cons E_waiting_ok (tabs_cons E_feed_ok tabs_nil)))) _ rfl rfl⟩ tt_mixed Try.func15 rfl (by decide) (by show (2 : Nat) ≤ _; exact Nat.le_of_ble_eq_true rfl) ⟨fun m hm => (V.bare_has rfl m hm).elim, by simp, by simp⟩ ?_
  simp only [↓gPre, gPost, gCore, handV, V.bufs, buildArr, toCs, Nat.reduceShiftRight, Nat.reduceMod, addB, addK, zeroOp, callSem, resName, keepsB, newB, V.pure, C.pure, V.ptrs, C.ptrs, C.bufs, appendSem, appendTo, appendZ, dstOk, lk, V.cells, Op.eff, partV, partD, cut, lay, zeroD, C.toDs, C.toD, V.toD, toDs, buildCells, if_true, if_false, ↓reduceIte, reduceCtorEq, Nat.reduceEqDiff, Nat.reduceLT, Nat.reduceLeDiff, implies_true, forall_const, eq_self, ne_eq, not_true_eq_false, not_false_eq_true, imp_self, Nat.reduceAdd, Nat.reduceMul, Int.reduceLE, Int.reduceLT, Int.reduceNeg, Int.reduceAdd, Int.reduceToNat, E_brvalid_eq, E_bvalid_eq, E_waiting_eq, E_feed_eq, Try.ntmps15, Try.results15, gTT]
  refine ⟨hl, fun _ => hy, fun h => ?_, fun h => ⟨fun h2 => ?_, fun h2 => ?_⟩⟩
  · have e : puE ⟨q, ⟨ct, cd, cg, cm⟩, ⟨c, ⟨n, d, a, p, f⟩, l⟩, lo, mi⟩ k y = 1 := by unfold puE; rw [if_pos h]
    simp [puR, puL, e, br0, rs0, LI_nil]
  · have hk : k ≠ c := by simpa using h2
    have e : puE ⟨q, ⟨ct, cd, cg, cm⟩, ⟨c, ⟨n, d, a, p, f⟩, l⟩, lo, mi⟩ k y = 11 := by unfold puE; rw [if_neg (by rw [h]; decide), if_pos hk]
    simp [puR, puL, e, br0, rs0, LI_nil]
  have hk : k = c := by simpa using h2
  have hvb : brV ⟨q, ⟨ct, cd, cg, cm⟩, ⟨c, ⟨n, d, a, p, f⟩, l⟩, lo, mi⟩ = true ∧ blkV k y = true := by
    simp only [Bool.or_eq_false_iff, Bool.not_eq_false'] at h
    exact h
  obtain ⟨hv, hby⟩ := hvb
  have e : puE ⟨q, ⟨ct, cd, cg, cm⟩, ⟨c, ⟨n, d, a, p, f⟩, l⟩, lo, mi⟩ k y = 0 := by unfold puE; rw [if_neg (by rw [h]; decide), if_neg (by simpa using hk)]
  obtain ⟨b1, b2, b3, b4, b5, b6⟩ := brV_in hv
  simp only at b1 b3 b4 b5 b6
  obtain ⟨w1, w2, w3⟩ := waN_V b1 hl
  obtain ⟨⟨k1, k2⟩, k3, k4, k5⟩ := blk_in hby hy
  have hN : puN ⟨q, ⟨ct, cd, cg, cm⟩, ⟨c, ⟨n, d, a, p, f⟩, l⟩, lo, mi⟩ k y = min ((y.length / k.toNat : Nat) : Int) (q - waN ⟨c, ⟨n, d, a, p, f⟩, l⟩) := rfl
  have hz : ((y.length / k.toNat : Nat) : Int) ≤ 65536 := Int.ofNat_le.2 k4
  have hz0 : 0 ≤ ((y.length / k.toNat : Nat) : Int) := Int.natCast_nonneg _
  have hzk : (puN ⟨q, ⟨ct, cd, cg, cm⟩, ⟨c, ⟨n, d, a, p, f⟩, l⟩, lo, mi⟩ k y).toNat * k.toNat ≤ y.length / k.toNat * k.toNat := Nat.mul_le_mul_right _ (by omega)
  have hkk : (k.toNat : Int) = k := by omega
  have hm : puN ⟨q, ⟨ct, cd, cg, cm⟩, ⟨c, ⟨n, d, a, p, f⟩, l⟩, lo, mi⟩ k y * k = (((puN ⟨q, ⟨ct, cd, cg, cm⟩, ⟨c, ⟨n, d, a, p, f⟩, l⟩, lo, mi⟩ k y).toNat * k.toNat : Nat) : Int) := by rw [Int.natCast_mul, hkk]; congr 1; omega
  refine ⟨by omega, by kernel_rfl, hl, ?_⟩
  have eN : (if IntKind.i64.wrap (q - waN ⟨c, ⟨n, d, a, p, f⟩, l⟩) < IntKind.i64.wrap ((y.length : Int).tdiv k) then IntKind.i64.wrap (q - waN ⟨c, ⟨n, d, a, p, f⟩, l⟩) else IntKind.i64.wrap ((y.length : Int).tdiv k)) = puN ⟨q, ⟨ct, cd, cg, cm⟩, ⟨c, ⟨n, d, a, p, f⟩, l⟩, lo, mi⟩ k y := by
    rw [IntWalk.i64_in (q - _) (by omega), len_div k1 (by omega), hN]
    split <;> omega
  rw [eN, len_div k1 (by omega), IntWalk.i64_in (puN ⟨q, ⟨ct, cd, cg, cm⟩, ⟨c, ⟨n, d, a, p, f⟩, l⟩, lo, mi⟩ k y * k) (by omega), hm, Int.toNat_natCast, Nat.sub_zero, IntWalk.i64_in (_ - puN ⟨q, ⟨ct, cd, cg, cm⟩, ⟨c, ⟨n, d, a, p, f⟩, l⟩, lo, mi⟩ k y) (by omega)]
  refine ⟨⟨by omega, by omega, by omega⟩, ⟨hl, by rw [List.length_take]; omega⟩, ?_⟩
  simp [puR, puL, e]
def E_push : List V → Boxes → Toks → Name → Option Ent
  | [.agg [.d (.int .i64 q), .d (.int .i64 ct), .d (.int .i64 cd), .d (.int .i64 cg), .d (.int .i64 cm), .d (.int .i64 c), .d (.int .i64 n), .d (.int .i64 d), .d (.int .i64 a), .d (.int .i64 p), .d (.int .i64 f), .d (.list q_l), .d (.int .i64 lo), .d (.int .i64 mi)], .agg [.d (.int .i64 k), .d (.list q_y)]], [], [], _ => some ⟨(ints q_l).length ≤ 1000000 ∧ (ints q_y).length ≤ 1000000 ∧ q_l = LI .i32 (ints q_l) ∧ q_y = LI .i32 (ints q_y), .tup [.agg [.int .i64 (puR ⟨q, ⟨ct, cd, cg, cm⟩, ⟨c, ⟨n, d, a, p, f⟩, (ints q_l)⟩, lo, mi⟩ k (ints q_y)).q, .int .i64 (puR ⟨q, ⟨ct, cd, cg, cm⟩, ⟨c, ⟨n, d, a, p, f⟩, (ints q_l)⟩, lo, mi⟩ k (ints q_y)).c.t, .int .i64 (puR ⟨q, ⟨ct, cd, cg, cm⟩, ⟨c, ⟨n, d, a, p, f⟩, (ints q_l)⟩, lo, mi⟩ k (ints q_y)).c.d, .int .i64 (puR ⟨q, ⟨ct, cd, cg, cm⟩, ⟨c, ⟨n, d, a, p, f⟩, (ints q_l)⟩, lo, mi⟩ k (ints q_y)).c.g, .int .i64 (puR ⟨q, ⟨ct, cd, cg, cm⟩, ⟨c, ⟨n, d, a, p, f⟩, (ints q_l)⟩, lo, mi⟩ k (ints q_y)).c.m, .int .i64 (puR ⟨q, ⟨ct, cd, cg, cm⟩, ⟨c, ⟨n, d, a, p, f⟩, (ints q_l)⟩, lo, mi⟩ k (ints q_y)).r.c, .int .i64 (puR ⟨q, ⟨ct, cd, cg, cm⟩, ⟨c, ⟨n, d, a, p, f⟩, (ints q_l)⟩, lo, mi⟩ k (ints q_y)).r.p.n, .int .i64 (puR ⟨q, ⟨ct, cd, cg, cm⟩, ⟨c, ⟨n, d, a, p, f⟩, (ints q_l)⟩, lo, mi⟩ k (ints q_y)).r.p.d, .int .i64 (puR ⟨q, ⟨ct, cd, cg, cm⟩, ⟨c, ⟨n, d, a, p, f⟩, (ints q_l)⟩, lo, mi⟩ k (ints q_y)).r.p.a, .int .i64 (puR ⟨q, ⟨ct, cd, cg, cm⟩, ⟨c, ⟨n, d, a, p, f⟩, (ints q_l)⟩, lo, mi⟩ k (ints q_y)).r.p.p, .int .i64 (puR ⟨q, ⟨ct, cd, cg, cm⟩, ⟨c, ⟨n, d, a, p, f⟩, (ints q_l)⟩, lo, mi⟩ k (ints q_y)).r.p.f, .list (LI .i32 (puR ⟨q, ⟨ct, cd, cg, cm⟩, ⟨c, ⟨n, d, a, p, f⟩, (ints q_l)⟩, lo, mi⟩ k (ints q_y)).r.l), .int .i64 (puR ⟨q, ⟨ct, cd, cg, cm⟩, ⟨c, ⟨n, d, a, p, f⟩, (ints q_l)⟩, lo, mi⟩ k (ints q_y)).lo, .int .i64 (puR ⟨q, ⟨ct, cd, cg, cm⟩, ⟨c, ⟨n, d, a, p, f⟩, (ints q_l)⟩, lo, mi⟩ k (ints q_y)).mi], .int .i64 (puL ⟨q, ⟨ct, cd, cg, cm⟩, ⟨c, ⟨n, d, a, p, f⟩, (ints q_l)⟩, lo, mi⟩ k (ints q_y)), .int .i64 (puE ⟨q, ⟨ct, cd, cg, cm⟩, ⟨c, ⟨n, d, a, p, f⟩, (ints q_l)⟩, lo, mi⟩ k (ints q_y))], [], []⟩
  | _, _, _, _ => none
theorem E_push_eq {q ct cd cg cm c n d a p f : Int} {lo mi : Int} {k : Int}  {q_l : List D} {q_y : List D} {nF : Name} : E_push [.agg [.d (.int .i64 q), .d (.int .i64 ct), .d (.int .i64 cd), .d (.int .i64 cg), .d (.int .i64 cm), .d (.int .i64 c), .d (.int .i64 n), .d (.int .i64 d), .d (.int .i64 a), .d (.int .i64 p), .d (.int .i64 f), .d (.list q_l), .d (.int .i64 lo), .d (.int .i64 mi)], .agg [.d (.int .i64 k), .d (.list q_y)]] [] [] nF = some ⟨(ints q_l).length ≤ 1000000 ∧ (ints q_y).length ≤ 1000000 ∧ q_l = LI .i32 (ints q_l) ∧ q_y = LI .i32 (ints q_y), .tup [.agg [.int .i64 (puR ⟨q, ⟨ct, cd, cg, cm⟩, ⟨c, ⟨n, d, a, p, f⟩, (ints q_l)⟩, lo, mi⟩ k (ints q_y)).q, .int .i64 (puR ⟨q, ⟨ct, cd, cg, cm⟩, ⟨c, ⟨n, d, a, p, f⟩, (ints q_l)⟩, lo, mi⟩ k (ints q_y)).c.t, .int .i64 (puR ⟨q, ⟨ct, cd, cg, cm⟩, ⟨c, ⟨n, d, a, p, f⟩, (ints q_l)⟩, lo, mi⟩ k (ints q_y)).c.d, .int .i64 (puR ⟨q, ⟨ct, cd, cg, cm⟩, ⟨c, ⟨n, d, a, p, f⟩, (ints q_l)⟩, lo, mi⟩ k (ints q_y)).c.g, .int .i64 (puR ⟨q, ⟨ct, cd, cg, cm⟩, ⟨c, ⟨n, d, a, p, f⟩, (ints q_l)⟩, lo, mi⟩ k (ints q_y)).c.m, .int .i64 (puR ⟨q, ⟨ct, cd, cg, cm⟩, ⟨c, ⟨n, d, a, p, f⟩, (ints q_l)⟩, lo, mi⟩ k (ints q_y)).r.c, .int .i64 (puR ⟨q, ⟨ct, cd, cg, cm⟩, ⟨c, ⟨n, d, a, p, f⟩, (ints q_l)⟩, lo, mi⟩ k (ints q_y)).r.p.n, .int .i64 (puR ⟨q, ⟨ct, cd, cg, cm⟩, ⟨c, ⟨n, d, a, p, f⟩, (ints q_l)⟩, lo, mi⟩ k (ints q_y)).r.p.d, .int .i64 (puR ⟨q, ⟨ct, cd, cg, cm⟩, ⟨c, ⟨n, d, a, p, f⟩, (ints q_l)⟩, lo, mi⟩ k (ints q_y)).r.p.a, .int .i64 (puR ⟨q, ⟨ct, cd, cg, cm⟩, ⟨c, ⟨n, d, a, p, f⟩, (ints q_l)⟩, lo, mi⟩ k (ints q_y)).r.p.p, .int .i64 (puR ⟨q, ⟨ct, cd, cg, cm⟩, ⟨c, ⟨n, d, a, p, f⟩, (ints q_l)⟩, lo, mi⟩ k (ints q_y)).r.p.f, .list (LI .i32 (puR ⟨q, ⟨ct, cd, cg, cm⟩, ⟨c, ⟨n, d, a, p, f⟩, (ints q_l)⟩, lo, mi⟩ k (ints q_y)).r.l), .int .i64 (puR ⟨q, ⟨ct, cd, cg, cm⟩, ⟨c, ⟨n, d, a, p, f⟩, (ints q_l)⟩, lo, mi⟩ k (ints q_y)).lo, .int .i64 (puR ⟨q, ⟨ct, cd, cg, cm⟩, ⟨c, ⟨n, d, a, p, f⟩, (ints q_l)⟩, lo, mi⟩ k (ints q_y)).mi], .int .i64 (puL ⟨q, ⟨ct, cd, cg, cm⟩, ⟨c, ⟨n, d, a, p, f⟩, (ints q_l)⟩, lo, mi⟩ k (ints q_y)), .int .i64 (puE ⟨q, ⟨ct, cd, cg, cm⟩, ⟨c, ⟨n, d, a, p, f⟩, (ints q_l)⟩, lo, mi⟩ k (ints q_y))], [], []⟩ := Eq.trans rfl rfl
theorem E_push_ok : Snd Try.prog 15 E_push := by
  intro vs b k n e h hn hp
  unfold E_push at h
  split at h
  · cases h; obtain ⟨hp0, hp1, hq0, hq1⟩ := hp; obtain ⟨_, rfl⟩ := LI_ex hq0; obtain ⟨_, rfl⟩ := LI_ex hq1; simp only [ints_LI, bys_LB, blks_LK, lls_LL] at hp0 hp1 ⊢; exact (spec_push _ _ _ _ _ _ _ _ _ _ _ _ _ _ _ _ hp0 hp1).lift rfl _
  · cases h

theorem spec_rpush (q ct cd cg cm c n d a p f : Int) (l : List Int) (lo mi : Int) (k : Int) (y : List Int) (hl : l.length ≤ 1000000) (hy : y.length ≤ 1000000) : Spec Try.prog 0 16 [.agg [.d (.int .i64 q), .d (.int .i64 ct), .d (.int .i64 cd), .d (.int .i64 cg), .d (.int .i64 cm), .d (.int .i64 c), .d (.int .i64 n), .d (.int .i64 d), .d (.int .i64 a), .d (.int .i64 p), .d (.int .i64 f), .d (.list (LI .i32 l)), .d (.int .i64 lo), .d (.int .i64 mi)], .agg [.d (.int .i64 k), .d (.list (LI .i32 y))]] [] [] (.tup [.agg [.int .i64 (puR ⟨q, ⟨ct, cd, cg, cm⟩, ⟨c, ⟨n, d, a, p, f⟩, l⟩, lo, mi⟩ k y).q, .int .i64 (puR ⟨q, ⟨ct, cd, cg, cm⟩, ⟨c, ⟨n, d, a, p, f⟩, l⟩, lo, mi⟩ k y).c.t, .int .i64 (puR ⟨q, ⟨ct, cd, cg, cm⟩, ⟨c, ⟨n, d, a, p, f⟩, l⟩, lo, mi⟩ k y).c.d, .int .i64 (puR ⟨q, ⟨ct, cd, cg, cm⟩, ⟨c, ⟨n, d, a, p, f⟩, l⟩, lo, mi⟩ k y).c.g, .int .i64 (puR ⟨q, ⟨ct, cd, cg, cm⟩, ⟨c, ⟨n, d, a, p, f⟩, l⟩, lo, mi⟩ k y).c.m, .int .i64 (puR ⟨q, ⟨ct, cd, cg, cm⟩, ⟨c, ⟨n, d, a, p, f⟩, l⟩, lo, mi⟩ k y).r.c, .int .i64 (puR ⟨q, ⟨ct, cd, cg, cm⟩, ⟨c, ⟨n, d, a, p, f⟩, l⟩, lo, mi⟩ k y).r.p.n, .int .i64 (puR ⟨q, ⟨ct, cd, cg, cm⟩, ⟨c, ⟨n, d, a, p, f⟩, l⟩, lo, mi⟩ k y).r.p.d, .int .i64 (puR ⟨q, ⟨ct, cd, cg, cm⟩, ⟨c, ⟨n, d, a, p, f⟩, l⟩, lo, mi⟩ k y).r.p.a, .int .i64 (puR ⟨q, ⟨ct, cd, cg, cm⟩, ⟨c, ⟨n, d, a, p, f⟩, l⟩, lo, mi⟩ k y).r.p.p, .int .i64 (puR ⟨q, ⟨ct, cd, cg, cm⟩, ⟨c, ⟨n, d, a, p, f⟩, l⟩, lo, mi⟩ k y).r.p.f, .list (LI .i32 (puR ⟨q, ⟨ct, cd, cg, cm⟩, ⟨c, ⟨n, d, a, p, f⟩, l⟩, lo, mi⟩ k y).r.l), .int .i64 (puR ⟨q, ⟨ct, cd, cg, cm⟩, ⟨c, ⟨n, d, a, p, f⟩, l⟩, lo, mi⟩ k y).lo, .int .i64 (puR ⟨q, ⟨ct, cd, cg, cm⟩, ⟨c, ⟨n, d, a, p, f⟩, l⟩, lo, mi⟩ k y).mi], .int .i64 (puL ⟨q, ⟨ct, cd, cg, cm⟩, ⟨c, ⟨n, d, a, p, f⟩, l⟩, lo, mi⟩ k y), .int .i64 (puE ⟨q, ⟨ct, cd, cg, cm⟩, ⟨c, ⟨n, d, a, p, f⟩, l⟩, lo, mi⟩ k y)]) [] [] := by
  refine spec_of_E (X := ⟨Try.prog, tt, Try.f16.ntmps, 1, fun _ => 0, (tab [(22, E_rbrvalid), (42, E_rbvalid), (27, E_frames), (24, E_rbrfill), (44, E_cut), (43, E_rfeed)])⟩) (M := []) (m := 8454655) rfl rfl ⟨tt_ok, tab_ok (tabs_cons E_rbrvalid_ok (tabs_cons E_rbvalid_ok (tabs_cons E_frames_ok (tabs_cons E_rbrfill_ok (tabs_cons E_cut_ok (tabs_cons E_rfeed_ok tabs_nil)))))) _ rfl rfl⟩ tt_mixed Try.func16 rfl (by decide) (by show (2 : Nat) ≤ _; exact Nat.le_of_ble_eq_true rfl) ⟨fun m hm => (V.bare_has rfl m hm).elim, by simp, by simp⟩ ?_
  simp only [↓gPre, gPost, gCore, handV, V.bufs, buildArr, toCs, Nat.reduceShiftRight, Nat.reduceMod, addB, addK, zeroOp, callSem, resName, keepsB, newB, V.pure, C.pure, V.ptrs, C.ptrs, C.bufs, appendSem, appendTo, appendZ, dstOk, lk, V.cells, Op.eff, partV, partD, cut, lay, zeroD, C.toDs, C.toD, V.toD, toDs, buildCells, if_true, if_false, ↓reduceIte, reduceCtorEq, Nat.reduceEqDiff, Nat.reduceLT, Nat.reduceLeDiff, implies_true, forall_const, eq_self, ne_eq, not_true_eq_false, not_false_eq_true, imp_self, Nat.reduceAdd, Nat.reduceMul, Int.reduceLE, Int.reduceLT, Int.reduceNeg, Int.reduceAdd, Int.reduceToNat, E_rbrvalid_eq, E_rbvalid_eq, E_frames_eq, E_rbrfill_eq, E_cut_eq, E_rfeed_eq, Try.ntmps16, Try.results16, gTT]
  refine ⟨hl, fun _ => hy, fun h => ?_, fun h => ⟨fun h2 => ?_, fun h2 => ?_⟩⟩
  · have e : puE ⟨q, ⟨ct, cd, cg, cm⟩, ⟨c, ⟨n, d, a, p, f⟩, l⟩, lo, mi⟩ k y = 1 := by unfold puE; rw [if_pos h]
    simp [puR, puL, e, br0, rs0, LI_nil]
  · have hk : k ≠ c := by simpa using h2
    have e : puE ⟨q, ⟨ct, cd, cg, cm⟩, ⟨c, ⟨n, d, a, p, f⟩, l⟩, lo, mi⟩ k y = 11 := by unfold puE; rw [if_neg (by rw [h]; decide), if_pos hk]
    simp [puR, puL, e, br0, rs0, LI_nil]
  have hk : k = c := by simpa using h2
  have hvb : brV ⟨q, ⟨ct, cd, cg, cm⟩, ⟨c, ⟨n, d, a, p, f⟩, l⟩, lo, mi⟩ = true ∧ blkV k y = true := by
    simp only [Bool.or_eq_false_iff, Bool.not_eq_false'] at h
    exact h
  obtain ⟨hv, hby⟩ := hvb
  have e : puE ⟨q, ⟨ct, cd, cg, cm⟩, ⟨c, ⟨n, d, a, p, f⟩, l⟩, lo, mi⟩ k y = 0 := by unfold puE; rw [if_neg (by rw [h]; decide), if_neg (by simpa using hk)]
  obtain ⟨b1, b2, b3, b4, b5, b6⟩ := brV_in hv
  simp only at b1 b3 b4 b5 b6
  obtain ⟨w1, w2, w3⟩ := waN_V b1 hl
  obtain ⟨⟨k1, k2⟩, k3, k4, k5⟩ := blk_in hby hy
  have hN : puN ⟨q, ⟨ct, cd, cg, cm⟩, ⟨c, ⟨n, d, a, p, f⟩, l⟩, lo, mi⟩ k y = min ((y.length / k.toNat : Nat) : Int) (q - waN ⟨c, ⟨n, d, a, p, f⟩, l⟩) := rfl
  have hz : ((y.length / k.toNat : Nat) : Int) ≤ 65536 := Int.ofNat_le.2 k4
  have hz0 : 0 ≤ ((y.length / k.toNat : Nat) : Int) := Int.natCast_nonneg _
  have hzk : (puN ⟨q, ⟨ct, cd, cg, cm⟩, ⟨c, ⟨n, d, a, p, f⟩, l⟩, lo, mi⟩ k y).toNat * k.toNat ≤ y.length / k.toNat * k.toNat := Nat.mul_le_mul_right _ (by omega)
  have hkk : (k.toNat : Int) = k := by omega
  have hm : puN ⟨q, ⟨ct, cd, cg, cm⟩, ⟨c, ⟨n, d, a, p, f⟩, l⟩, lo, mi⟩ k y * k = (((puN ⟨q, ⟨ct, cd, cg, cm⟩, ⟨c, ⟨n, d, a, p, f⟩, l⟩, lo, mi⟩ k y).toNat * k.toNat : Nat) : Int) := by rw [Int.natCast_mul, hkk]; congr 1; omega
  refine ⟨hy, by kernel_rfl, hl, by kernel_rfl, ?_⟩
  have eB : biN ⟨q, ⟨ct, cd, cg, cm⟩, ⟨c, ⟨n, d, a, p, f⟩, l⟩, lo, mi⟩ = waN ⟨c, ⟨n, d, a, p, f⟩, l⟩ := by unfold biN; rw [if_pos hv]
  have eN : (if IntKind.i64.wrap (q - biN ⟨q, ⟨ct, cd, cg, cm⟩, ⟨c, ⟨n, d, a, p, f⟩, l⟩, lo, mi⟩) < (if blkV k y = true then ((y.length / k.toNat : Nat) : Int) else 0) then IntKind.i64.wrap (q - biN ⟨q, ⟨ct, cd, cg, cm⟩, ⟨c, ⟨n, d, a, p, f⟩, l⟩, lo, mi⟩) else (if blkV k y = true then ((y.length / k.toNat : Nat) : Int) else 0)) = puN ⟨q, ⟨ct, cd, cg, cm⟩, ⟨c, ⟨n, d, a, p, f⟩, l⟩, lo, mi⟩ k y := by
    rw [if_pos hby, eB, IntWalk.i64_in (q - _) (by omega), hN]
    split <;> omega
  rw [eN, if_pos hby, IntWalk.i64_in (_ - puN ⟨q, ⟨ct, cd, cg, cm⟩, ⟨c, ⟨n, d, a, p, f⟩, l⟩, lo, mi⟩ k y) (by omega)]
  have ec : cutK k y 0 (puN ⟨q, ⟨ct, cd, cg, cm⟩, ⟨c, ⟨n, d, a, p, f⟩, l⟩, lo, mi⟩ k y).toNat = y.take ((puN ⟨q, ⟨ct, cd, cg, cm⟩, ⟨c, ⟨n, d, a, p, f⟩, l⟩, lo, mi⟩ k y).toNat * k.toNat) := by simp [cutK]
  rw [ec]
  refine ⟨⟨hy, ⟨k1, k2⟩, by omega, by omega⟩, ⟨hl, by rw [List.length_take]; omega⟩, ?_⟩
  simp [puR, puL, e]
def E_rpush : List V → Boxes → Toks → Name → Option Ent
  | [.agg [.d (.int .i64 q), .d (.int .i64 ct), .d (.int .i64 cd), .d (.int .i64 cg), .d (.int .i64 cm), .d (.int .i64 c), .d (.int .i64 n), .d (.int .i64 d), .d (.int .i64 a), .d (.int .i64 p), .d (.int .i64 f), .d (.list q_l), .d (.int .i64 lo), .d (.int .i64 mi)], .agg [.d (.int .i64 k), .d (.list q_y)]], [], [], _ => some ⟨(ints q_l).length ≤ 1000000 ∧ (ints q_y).length ≤ 1000000 ∧ q_l = LI .i32 (ints q_l) ∧ q_y = LI .i32 (ints q_y), .tup [.agg [.int .i64 (puR ⟨q, ⟨ct, cd, cg, cm⟩, ⟨c, ⟨n, d, a, p, f⟩, (ints q_l)⟩, lo, mi⟩ k (ints q_y)).q, .int .i64 (puR ⟨q, ⟨ct, cd, cg, cm⟩, ⟨c, ⟨n, d, a, p, f⟩, (ints q_l)⟩, lo, mi⟩ k (ints q_y)).c.t, .int .i64 (puR ⟨q, ⟨ct, cd, cg, cm⟩, ⟨c, ⟨n, d, a, p, f⟩, (ints q_l)⟩, lo, mi⟩ k (ints q_y)).c.d, .int .i64 (puR ⟨q, ⟨ct, cd, cg, cm⟩, ⟨c, ⟨n, d, a, p, f⟩, (ints q_l)⟩, lo, mi⟩ k (ints q_y)).c.g, .int .i64 (puR ⟨q, ⟨ct, cd, cg, cm⟩, ⟨c, ⟨n, d, a, p, f⟩, (ints q_l)⟩, lo, mi⟩ k (ints q_y)).c.m, .int .i64 (puR ⟨q, ⟨ct, cd, cg, cm⟩, ⟨c, ⟨n, d, a, p, f⟩, (ints q_l)⟩, lo, mi⟩ k (ints q_y)).r.c, .int .i64 (puR ⟨q, ⟨ct, cd, cg, cm⟩, ⟨c, ⟨n, d, a, p, f⟩, (ints q_l)⟩, lo, mi⟩ k (ints q_y)).r.p.n, .int .i64 (puR ⟨q, ⟨ct, cd, cg, cm⟩, ⟨c, ⟨n, d, a, p, f⟩, (ints q_l)⟩, lo, mi⟩ k (ints q_y)).r.p.d, .int .i64 (puR ⟨q, ⟨ct, cd, cg, cm⟩, ⟨c, ⟨n, d, a, p, f⟩, (ints q_l)⟩, lo, mi⟩ k (ints q_y)).r.p.a, .int .i64 (puR ⟨q, ⟨ct, cd, cg, cm⟩, ⟨c, ⟨n, d, a, p, f⟩, (ints q_l)⟩, lo, mi⟩ k (ints q_y)).r.p.p, .int .i64 (puR ⟨q, ⟨ct, cd, cg, cm⟩, ⟨c, ⟨n, d, a, p, f⟩, (ints q_l)⟩, lo, mi⟩ k (ints q_y)).r.p.f, .list (LI .i32 (puR ⟨q, ⟨ct, cd, cg, cm⟩, ⟨c, ⟨n, d, a, p, f⟩, (ints q_l)⟩, lo, mi⟩ k (ints q_y)).r.l), .int .i64 (puR ⟨q, ⟨ct, cd, cg, cm⟩, ⟨c, ⟨n, d, a, p, f⟩, (ints q_l)⟩, lo, mi⟩ k (ints q_y)).lo, .int .i64 (puR ⟨q, ⟨ct, cd, cg, cm⟩, ⟨c, ⟨n, d, a, p, f⟩, (ints q_l)⟩, lo, mi⟩ k (ints q_y)).mi], .int .i64 (puL ⟨q, ⟨ct, cd, cg, cm⟩, ⟨c, ⟨n, d, a, p, f⟩, (ints q_l)⟩, lo, mi⟩ k (ints q_y)), .int .i64 (puE ⟨q, ⟨ct, cd, cg, cm⟩, ⟨c, ⟨n, d, a, p, f⟩, (ints q_l)⟩, lo, mi⟩ k (ints q_y))], [], []⟩
  | _, _, _, _ => none
theorem E_rpush_eq {q ct cd cg cm c n d a p f : Int} {lo mi : Int} {k : Int}  {q_l : List D} {q_y : List D} {nF : Name} : E_rpush [.agg [.d (.int .i64 q), .d (.int .i64 ct), .d (.int .i64 cd), .d (.int .i64 cg), .d (.int .i64 cm), .d (.int .i64 c), .d (.int .i64 n), .d (.int .i64 d), .d (.int .i64 a), .d (.int .i64 p), .d (.int .i64 f), .d (.list q_l), .d (.int .i64 lo), .d (.int .i64 mi)], .agg [.d (.int .i64 k), .d (.list q_y)]] [] [] nF = some ⟨(ints q_l).length ≤ 1000000 ∧ (ints q_y).length ≤ 1000000 ∧ q_l = LI .i32 (ints q_l) ∧ q_y = LI .i32 (ints q_y), .tup [.agg [.int .i64 (puR ⟨q, ⟨ct, cd, cg, cm⟩, ⟨c, ⟨n, d, a, p, f⟩, (ints q_l)⟩, lo, mi⟩ k (ints q_y)).q, .int .i64 (puR ⟨q, ⟨ct, cd, cg, cm⟩, ⟨c, ⟨n, d, a, p, f⟩, (ints q_l)⟩, lo, mi⟩ k (ints q_y)).c.t, .int .i64 (puR ⟨q, ⟨ct, cd, cg, cm⟩, ⟨c, ⟨n, d, a, p, f⟩, (ints q_l)⟩, lo, mi⟩ k (ints q_y)).c.d, .int .i64 (puR ⟨q, ⟨ct, cd, cg, cm⟩, ⟨c, ⟨n, d, a, p, f⟩, (ints q_l)⟩, lo, mi⟩ k (ints q_y)).c.g, .int .i64 (puR ⟨q, ⟨ct, cd, cg, cm⟩, ⟨c, ⟨n, d, a, p, f⟩, (ints q_l)⟩, lo, mi⟩ k (ints q_y)).c.m, .int .i64 (puR ⟨q, ⟨ct, cd, cg, cm⟩, ⟨c, ⟨n, d, a, p, f⟩, (ints q_l)⟩, lo, mi⟩ k (ints q_y)).r.c, .int .i64 (puR ⟨q, ⟨ct, cd, cg, cm⟩, ⟨c, ⟨n, d, a, p, f⟩, (ints q_l)⟩, lo, mi⟩ k (ints q_y)).r.p.n, .int .i64 (puR ⟨q, ⟨ct, cd, cg, cm⟩, ⟨c, ⟨n, d, a, p, f⟩, (ints q_l)⟩, lo, mi⟩ k (ints q_y)).r.p.d, .int .i64 (puR ⟨q, ⟨ct, cd, cg, cm⟩, ⟨c, ⟨n, d, a, p, f⟩, (ints q_l)⟩, lo, mi⟩ k (ints q_y)).r.p.a, .int .i64 (puR ⟨q, ⟨ct, cd, cg, cm⟩, ⟨c, ⟨n, d, a, p, f⟩, (ints q_l)⟩, lo, mi⟩ k (ints q_y)).r.p.p, .int .i64 (puR ⟨q, ⟨ct, cd, cg, cm⟩, ⟨c, ⟨n, d, a, p, f⟩, (ints q_l)⟩, lo, mi⟩ k (ints q_y)).r.p.f, .list (LI .i32 (puR ⟨q, ⟨ct, cd, cg, cm⟩, ⟨c, ⟨n, d, a, p, f⟩, (ints q_l)⟩, lo, mi⟩ k (ints q_y)).r.l), .int .i64 (puR ⟨q, ⟨ct, cd, cg, cm⟩, ⟨c, ⟨n, d, a, p, f⟩, (ints q_l)⟩, lo, mi⟩ k (ints q_y)).lo, .int .i64 (puR ⟨q, ⟨ct, cd, cg, cm⟩, ⟨c, ⟨n, d, a, p, f⟩, (ints q_l)⟩, lo, mi⟩ k (ints q_y)).mi], .int .i64 (puL ⟨q, ⟨ct, cd, cg, cm⟩, ⟨c, ⟨n, d, a, p, f⟩, (ints q_l)⟩, lo, mi⟩ k (ints q_y)), .int .i64 (puE ⟨q, ⟨ct, cd, cg, cm⟩, ⟨c, ⟨n, d, a, p, f⟩, (ints q_l)⟩, lo, mi⟩ k (ints q_y))], [], []⟩ := Eq.trans rfl rfl
theorem E_rpush_ok : Snd Try.prog 16 E_rpush := by
  intro vs b k n e h hn hp
  unfold E_rpush at h
  split at h
  · cases h; obtain ⟨hp0, hp1, hq0, hq1⟩ := hp; obtain ⟨_, rfl⟩ := LI_ex hq0; obtain ⟨_, rfl⟩ := LI_ex hq1; simp only [ints_LI, bys_LB, blks_LK, lls_LL] at hp0 hp1 ⊢; exact (spec_rpush _ _ _ _ _ _ _ _ _ _ _ _ _ _ _ _ hp0 hp1).lift rfl _
  · cases h

theorem spec_pullA (q ct cd cg cm c n d a p f : Int) (l : List Int) (lo mi : Int) (i : Int) (hl : l.length ≤ 1000000) (ht : tkE (plA ⟨q, ⟨ct, cd, cg, cm⟩, ⟨c, ⟨n, d, a, p, f⟩, l⟩, lo, mi⟩) (plK ⟨q, ⟨ct, cd, cg, cm⟩, ⟨c, ⟨n, d, a, p, f⟩, l⟩, lo, mi⟩ i) ≠ 0) : Spec Try.prog 0 18 [.agg [.d (.int .i64 q), .d (.int .i64 ct), .d (.int .i64 cd), .d (.int .i64 cg), .d (.int .i64 cm), .d (.int .i64 c), .d (.int .i64 n), .d (.int .i64 d), .d (.int .i64 a), .d (.int .i64 p), .d (.int .i64 f), .d (.list (LI .i32 l)), .d (.int .i64 lo), .d (.int .i64 mi)], vI .i64 i] [] [] (.tup [.agg [.int .i64 (plC ⟨q, ⟨ct, cd, cg, cm⟩, ⟨c, ⟨n, d, a, p, f⟩, l⟩, lo, mi⟩ i), .list (LI .i32 (plO ⟨q, ⟨ct, cd, cg, cm⟩, ⟨c, ⟨n, d, a, p, f⟩, l⟩, lo, mi⟩ i))], .int .i64 (plM ⟨q, ⟨ct, cd, cg, cm⟩, ⟨c, ⟨n, d, a, p, f⟩, l⟩, lo, mi⟩ i), .agg [.int .i64 (plR ⟨q, ⟨ct, cd, cg, cm⟩, ⟨c, ⟨n, d, a, p, f⟩, l⟩, lo, mi⟩ i).q, .int .i64 (plR ⟨q, ⟨ct, cd, cg, cm⟩, ⟨c, ⟨n, d, a, p, f⟩, l⟩, lo, mi⟩ i).c.t, .int .i64 (plR ⟨q, ⟨ct, cd, cg, cm⟩, ⟨c, ⟨n, d, a, p, f⟩, l⟩, lo, mi⟩ i).c.d, .int .i64 (plR ⟨q, ⟨ct, cd, cg, cm⟩, ⟨c, ⟨n, d, a, p, f⟩, l⟩, lo, mi⟩ i).c.g, .int .i64 (plR ⟨q, ⟨ct, cd, cg, cm⟩, ⟨c, ⟨n, d, a, p, f⟩, l⟩, lo, mi⟩ i).c.m, .int .i64 (plR ⟨q, ⟨ct, cd, cg, cm⟩, ⟨c, ⟨n, d, a, p, f⟩, l⟩, lo, mi⟩ i).r.c, .int .i64 (plR ⟨q, ⟨ct, cd, cg, cm⟩, ⟨c, ⟨n, d, a, p, f⟩, l⟩, lo, mi⟩ i).r.p.n, .int .i64 (plR ⟨q, ⟨ct, cd, cg, cm⟩, ⟨c, ⟨n, d, a, p, f⟩, l⟩, lo, mi⟩ i).r.p.d, .int .i64 (plR ⟨q, ⟨ct, cd, cg, cm⟩, ⟨c, ⟨n, d, a, p, f⟩, l⟩, lo, mi⟩ i).r.p.a, .int .i64 (plR ⟨q, ⟨ct, cd, cg, cm⟩, ⟨c, ⟨n, d, a, p, f⟩, l⟩, lo, mi⟩ i).r.p.p, .int .i64 (plR ⟨q, ⟨ct, cd, cg, cm⟩, ⟨c, ⟨n, d, a, p, f⟩, l⟩, lo, mi⟩ i).r.p.f, .list (LI .i32 (plR ⟨q, ⟨ct, cd, cg, cm⟩, ⟨c, ⟨n, d, a, p, f⟩, l⟩, lo, mi⟩ i).r.l), .int .i64 (plR ⟨q, ⟨ct, cd, cg, cm⟩, ⟨c, ⟨n, d, a, p, f⟩, l⟩, lo, mi⟩ i).lo, .int .i64 (plR ⟨q, ⟨ct, cd, cg, cm⟩, ⟨c, ⟨n, d, a, p, f⟩, l⟩, lo, mi⟩ i).mi], .int .i64 (plE ⟨q, ⟨ct, cd, cg, cm⟩, ⟨c, ⟨n, d, a, p, f⟩, l⟩, lo, mi⟩ i)]) [] [] := by
  refine spec_of_E (X := ⟨Try.prog, tt, Try.f18.ntmps, 1, fun _ => 0, (tab [(21, E_brvalid), (40, E_waiting), (47, E_adjust), (46, E_retune), (48, E_pmake), (49, E_take)])⟩) (M := [(6, [0, 0, 0, 0, 0, 9223379708756966391, 0, 0, 0, 0, 0, 9223379183697214455, 0, 0]), (9, [0, 0, 0, 0, 0, 13276611701505080311, 0, 0, 0, 0, 0, 11529215046085327863, 0])]) (m := 9223372036871633911) rfl rfl ⟨tt_ok, tab_ok (tabs_cons E_brvalid_ok (tabs_cons E_waiting_ok (tabs_cons E_adjust_ok (tabs_cons E_retune_ok (tabs_cons E_pmake_ok (tabs_cons E_take_ok tabs_nil)))))) _ rfl rfl⟩ tt_mixed Try.func18 rfl (by decide) (by show (2 : Nat) ≤ _; exact Nat.le_of_ble_eq_true rfl) ⟨fun m hm => (V.bare_has rfl m hm).elim, by simp, by simp⟩ ?_
  simp only [↓gPre, gPost, gCore, handV, V.bufs, buildArr, toCs, Nat.reduceShiftRight, Nat.reduceMod, addB, addK, zeroOp, callSem, resName, keepsB, newB, V.pure, C.pure, V.ptrs, C.ptrs, C.bufs, appendSem, appendTo, appendZ, dstOk, lk, V.cells, Op.eff, partV, partD, cut, lay, zeroD, C.toDs, C.toD, V.toD, toDs, buildCells, if_true, if_false, ↓reduceIte, reduceCtorEq, Nat.reduceEqDiff, Nat.reduceLT, Nat.reduceLeDiff, implies_true, forall_const, eq_self, ne_eq, not_true_eq_false, not_false_eq_true, imp_self, Nat.reduceAdd, Nat.reduceMul, Int.reduceLE, Int.reduceLT, Int.reduceNeg, Int.reduceAdd, Int.reduceToNat, E_brvalid_eq, E_waiting_eq, E_adjust_eq, E_retune_eq, E_pmake_eq, E_take_eq, ph_eta, Try.ntmps18, Try.results18, gTT]
  refine ⟨hl, fun h => ?_, fun h => ⟨fun h2 => ?_, fun h2 => ⟨hl, by kernel_rfl, hl, ?_⟩⟩⟩
  · have e : plE ⟨q, ⟨ct, cd, cg, cm⟩, ⟨c, ⟨n, d, a, p, f⟩, l⟩, lo, mi⟩ i = 1 := by unfold plE; rw [if_pos h]
    simp [plC, plO, plM, plR, e, br0, rs0, LI_nil]
  · have hv : brV ⟨q, ⟨ct, cd, cg, cm⟩, ⟨c, ⟨n, d, a, p, f⟩, l⟩, lo, mi⟩ = true := by simpa using h
    have e : plE ⟨q, ⟨ct, cd, cg, cm⟩, ⟨c, ⟨n, d, a, p, f⟩, l⟩, lo, mi⟩ i = 2 := by unfold plE; rw [if_neg (by rw [hv]; decide), if_pos h2]
    simp [plC, plO, plM, plR, e, br0, rs0, LI_nil]
  have hv : brV ⟨q, ⟨ct, cd, cg, cm⟩, ⟨c, ⟨n, d, a, p, f⟩, l⟩, lo, mi⟩ = true := by simpa using h
  have hi : 0 ≤ i ∧ i ≤ 65536 := by simp only [Bool.or_eq_false_iff, decide_eq_false_iff_not] at h2; omega
  obtain ⟨b1, b2, b3, b4, b5, b6⟩ := brV_in hv
  simp only at b1 b2 b3 b4 b5 b6
  obtain ⟨w1, w2, w3⟩ := waN_V b1 hl
  have hA := plA_V hv
  have hp := (rsV_in hA).1
  have hK := plK_in hv hl hi
  have hrt : rtP ⟨n, d, a, p, f⟩ (ajX ⟨ct, cd, cg, cm⟩ (waN ⟨c, ⟨n, d, a, p, f⟩, l⟩)) = (plA ⟨q, ⟨ct, cd, cg, cm⟩, ⟨c, ⟨n, d, a, p, f⟩, l⟩, lo, mi⟩).p := by
    have h0 : rtE ⟨n, d, a, p, f⟩ (ajX ⟨ct, cd, cg, cm⟩ (waN ⟨c, ⟨n, d, a, p, f⟩, l⟩)) = 0 := by
      unfold rtE
      have h3 := ajX_in ⟨ct, cd, cg, cm⟩ (waN ⟨c, ⟨n, d, a, p, f⟩, l⟩)
      have h4 : tuX (ajX ⟨ct, cd, cg, cm⟩ (waN ⟨c, ⟨n, d, a, p, f⟩, l⟩)) = true := by simp only [tuX, Bool.and_eq_true, decide_eq_true_eq]; exact h3
      rw [if_neg (by rw [(rsV_in b1).1]; decide), if_neg (by rw [h4]; decide)]
    unfold rtP
    rw [if_pos h0]
    rfl
  have hma : maN (plA ⟨q, ⟨ct, cd, cg, cm⟩, ⟨c, ⟨n, d, a, p, f⟩, l⟩, lo, mi⟩).p (waN ⟨c, ⟨n, d, a, p, f⟩, l⟩) = ((mkN (plA ⟨q, ⟨ct, cd, cg, cm⟩, ⟨c, ⟨n, d, a, p, f⟩, l⟩, lo, mi⟩).p (waN ⟨c, ⟨n, d, a, p, f⟩, l⟩) : Nat) : Int) := by
    have h0 : maE (plA ⟨q, ⟨ct, cd, cg, cm⟩, ⟨c, ⟨n, d, a, p, f⟩, l⟩, lo, mi⟩).p (waN ⟨c, ⟨n, d, a, p, f⟩, l⟩) = 0 := by
      unfold maE
      rw [if_neg (by rw [hp]; decide), if_neg (by simp only [Bool.or_eq_true, decide_eq_true_eq]; omega)]
    unfold maN
    rw [if_pos h0]
  have hpk : plK ⟨q, ⟨ct, cd, cg, cm⟩, ⟨c, ⟨n, d, a, p, f⟩, l⟩, lo, mi⟩ i = min ((mkN (plA ⟨q, ⟨ct, cd, cg, cm⟩, ⟨c, ⟨n, d, a, p, f⟩, l⟩, lo, mi⟩).p (waN ⟨c, ⟨n, d, a, p, f⟩, l⟩) : Nat) : Int) i := rfl
  have hKe : (if i < ((mkN (plA ⟨q, ⟨ct, cd, cg, cm⟩, ⟨c, ⟨n, d, a, p, f⟩, l⟩, lo, mi⟩).p (waN ⟨c, ⟨n, d, a, p, f⟩, l⟩) : Nat) : Int) then i else ((mkN (plA ⟨q, ⟨ct, cd, cg, cm⟩, ⟨c, ⟨n, d, a, p, f⟩, l⟩, lo, mi⟩).p (waN ⟨c, ⟨n, d, a, p, f⟩, l⟩) : Nat) : Int)) = plK ⟨q, ⟨ct, cd, cg, cm⟩, ⟨c, ⟨n, d, a, p, f⟩, l⟩, lo, mi⟩ i := by
    rw [hpk]
    split <;> omega
  have hAe : (⟨c, (plA ⟨q, ⟨ct, cd, cg, cm⟩, ⟨c, ⟨n, d, a, p, f⟩, l⟩, lo, mi⟩).p, l⟩ : Rs) = plA ⟨q, ⟨ct, cd, cg, cm⟩, ⟨c, ⟨n, d, a, p, f⟩, l⟩, lo, mi⟩ := rfl
  have eE : plE ⟨q, ⟨ct, cd, cg, cm⟩, ⟨c, ⟨n, d, a, p, f⟩, l⟩, lo, mi⟩ i = tkE (plA ⟨q, ⟨ct, cd, cg, cm⟩, ⟨c, ⟨n, d, a, p, f⟩, l⟩, lo, mi⟩) (plK ⟨q, ⟨ct, cd, cg, cm⟩, ⟨c, ⟨n, d, a, p, f⟩, l⟩, lo, mi⟩ i) := by unfold plE; rw [if_neg (by rw [hv]; decide), if_neg (by rw [h2]; decide)]
  rw [hrt, hma, hKe, hAe]
  refine ⟨fun h3 => ?_, fun h3 => absurd (by simpa using h3) ht⟩
  have e : plE ⟨q, ⟨ct, cd, cg, cm⟩, ⟨c, ⟨n, d, a, p, f⟩, l⟩, lo, mi⟩ i ≠ 0 := by rw [eE]; exact ht
  rw [← eE]
  simp [plC, plO, plM, plR, e, br0, rs0, LI_nil]

theorem spec_pullB (q ct cd cg cm c n d a p f : Int) (l : List Int) (lo mi : Int) (i : Int) (hl : l.length ≤ 1000000) (ht : tkE (plA ⟨q, ⟨ct, cd, cg, cm⟩, ⟨c, ⟨n, d, a, p, f⟩, l⟩, lo, mi⟩) (plK ⟨q, ⟨ct, cd, cg, cm⟩, ⟨c, ⟨n, d, a, p, f⟩, l⟩, lo, mi⟩ i) = 0) : Spec Try.prog 0 18 [.agg [.d (.int .i64 q), .d (.int .i64 ct), .d (.int .i64 cd), .d (.int .i64 cg), .d (.int .i64 cm), .d (.int .i64 c), .d (.int .i64 n), .d (.int .i64 d), .d (.int .i64 a), .d (.int .i64 p), .d (.int .i64 f), .d (.list (LI .i32 l)), .d (.int .i64 lo), .d (.int .i64 mi)], vI .i64 i] [] [] (.tup [.agg [.int .i64 (plC ⟨q, ⟨ct, cd, cg, cm⟩, ⟨c, ⟨n, d, a, p, f⟩, l⟩, lo, mi⟩ i), .list (LI .i32 (plO ⟨q, ⟨ct, cd, cg, cm⟩, ⟨c, ⟨n, d, a, p, f⟩, l⟩, lo, mi⟩ i))], .int .i64 (plM ⟨q, ⟨ct, cd, cg, cm⟩, ⟨c, ⟨n, d, a, p, f⟩, l⟩, lo, mi⟩ i), .agg [.int .i64 (plR ⟨q, ⟨ct, cd, cg, cm⟩, ⟨c, ⟨n, d, a, p, f⟩, l⟩, lo, mi⟩ i).q, .int .i64 (plR ⟨q, ⟨ct, cd, cg, cm⟩, ⟨c, ⟨n, d, a, p, f⟩, l⟩, lo, mi⟩ i).c.t, .int .i64 (plR ⟨q, ⟨ct, cd, cg, cm⟩, ⟨c, ⟨n, d, a, p, f⟩, l⟩, lo, mi⟩ i).c.d, .int .i64 (plR ⟨q, ⟨ct, cd, cg, cm⟩, ⟨c, ⟨n, d, a, p, f⟩, l⟩, lo, mi⟩ i).c.g, .int .i64 (plR ⟨q, ⟨ct, cd, cg, cm⟩, ⟨c, ⟨n, d, a, p, f⟩, l⟩, lo, mi⟩ i).c.m, .int .i64 (plR ⟨q, ⟨ct, cd, cg, cm⟩, ⟨c, ⟨n, d, a, p, f⟩, l⟩, lo, mi⟩ i).r.c, .int .i64 (plR ⟨q, ⟨ct, cd, cg, cm⟩, ⟨c, ⟨n, d, a, p, f⟩, l⟩, lo, mi⟩ i).r.p.n, .int .i64 (plR ⟨q, ⟨ct, cd, cg, cm⟩, ⟨c, ⟨n, d, a, p, f⟩, l⟩, lo, mi⟩ i).r.p.d, .int .i64 (plR ⟨q, ⟨ct, cd, cg, cm⟩, ⟨c, ⟨n, d, a, p, f⟩, l⟩, lo, mi⟩ i).r.p.a, .int .i64 (plR ⟨q, ⟨ct, cd, cg, cm⟩, ⟨c, ⟨n, d, a, p, f⟩, l⟩, lo, mi⟩ i).r.p.p, .int .i64 (plR ⟨q, ⟨ct, cd, cg, cm⟩, ⟨c, ⟨n, d, a, p, f⟩, l⟩, lo, mi⟩ i).r.p.f, .list (LI .i32 (plR ⟨q, ⟨ct, cd, cg, cm⟩, ⟨c, ⟨n, d, a, p, f⟩, l⟩, lo, mi⟩ i).r.l), .int .i64 (plR ⟨q, ⟨ct, cd, cg, cm⟩, ⟨c, ⟨n, d, a, p, f⟩, l⟩, lo, mi⟩ i).lo, .int .i64 (plR ⟨q, ⟨ct, cd, cg, cm⟩, ⟨c, ⟨n, d, a, p, f⟩, l⟩, lo, mi⟩ i).mi], .int .i64 (plE ⟨q, ⟨ct, cd, cg, cm⟩, ⟨c, ⟨n, d, a, p, f⟩, l⟩, lo, mi⟩ i)]) [] [] := by
  refine spec_of_E (X := ⟨Try.prog, tt, Try.f18.ntmps, 1, fun _ => 0, (tab [(21, E_brvalid), (40, E_waiting), (47, E_adjust), (46, E_retune), (48, E_pmake), (49, E_takeO)])⟩) (M := [(6, [0, 0, 0, 0, 0, 9223379708756966391, 0, 0, 0, 0, 0, 9223379183697214455, 0, 0]), (9, [0, 0, 0, 0, 0, 13276611701505080311, 0, 0, 0, 0, 0, 11529215046085327863, 0])]) (m := 9223372036871633911) rfl rfl ⟨tt_ok, tab_ok (tabs_cons E_brvalid_ok (tabs_cons E_waiting_ok (tabs_cons E_adjust_ok (tabs_cons E_retune_ok (tabs_cons E_pmake_ok (tabs_cons E_takeO_ok tabs_nil)))))) _ rfl rfl⟩ tt_mixed Try.func18 rfl (by decide) (by show (2 : Nat) ≤ _; exact Nat.le_of_ble_eq_true rfl) ⟨fun m hm => (V.bare_has rfl m hm).elim, by simp, by simp⟩ ?_
  simp only [↓gPre, gPost, gCore, handV, V.bufs, buildArr, toCs, Nat.reduceShiftRight, Nat.reduceMod, addB, addK, zeroOp, callSem, resName, keepsB, newB, V.pure, C.pure, V.ptrs, C.ptrs, C.bufs, appendSem, appendTo, appendZ, dstOk, lk, V.cells, Op.eff, partV, partD, cut, lay, zeroD, C.toDs, C.toD, V.toD, toDs, buildCells, if_true, if_false, ↓reduceIte, reduceCtorEq, Nat.reduceEqDiff, Nat.reduceLT, Nat.reduceLeDiff, implies_true, forall_const, eq_self, ne_eq, not_true_eq_false, not_false_eq_true, imp_self, Nat.reduceAdd, Nat.reduceMul, Int.reduceLE, Int.reduceLT, Int.reduceNeg, Int.reduceAdd, Int.reduceToNat, E_brvalid_eq, E_waiting_eq, E_adjust_eq, E_retune_eq, E_pmake_eq, E_takeO_eq, ph_eta, Try.ntmps18, Try.results18, gTT]
  refine ⟨hl, fun h => ?_, fun h => ⟨fun h2 => ?_, fun h2 => ⟨hl, by kernel_rfl, ?_⟩⟩⟩
  · have e : plE ⟨q, ⟨ct, cd, cg, cm⟩, ⟨c, ⟨n, d, a, p, f⟩, l⟩, lo, mi⟩ i = 1 := by unfold plE; rw [if_pos h]
    simp [plC, plO, plM, plR, e, br0, rs0, LI_nil]
  · have hv : brV ⟨q, ⟨ct, cd, cg, cm⟩, ⟨c, ⟨n, d, a, p, f⟩, l⟩, lo, mi⟩ = true := by simpa using h
    have e : plE ⟨q, ⟨ct, cd, cg, cm⟩, ⟨c, ⟨n, d, a, p, f⟩, l⟩, lo, mi⟩ i = 2 := by unfold plE; rw [if_neg (by rw [hv]; decide), if_pos h2]
    simp [plC, plO, plM, plR, e, br0, rs0, LI_nil]
  have hv : brV ⟨q, ⟨ct, cd, cg, cm⟩, ⟨c, ⟨n, d, a, p, f⟩, l⟩, lo, mi⟩ = true := by simpa using h
  have hi : 0 ≤ i ∧ i ≤ 65536 := by simp only [Bool.or_eq_false_iff, decide_eq_false_iff_not] at h2; omega
  obtain ⟨b1, b2, b3, b4, b5, b6⟩ := brV_in hv
  simp only at b1 b2 b3 b4 b5 b6
  obtain ⟨w1, w2, w3⟩ := waN_V b1 hl
  have hA := plA_V hv
  have hp := (rsV_in hA).1
  have hK := plK_in hv hl hi
  have hrt : rtP ⟨n, d, a, p, f⟩ (ajX ⟨ct, cd, cg, cm⟩ (waN ⟨c, ⟨n, d, a, p, f⟩, l⟩)) = (plA ⟨q, ⟨ct, cd, cg, cm⟩, ⟨c, ⟨n, d, a, p, f⟩, l⟩, lo, mi⟩).p := by
    have h0 : rtE ⟨n, d, a, p, f⟩ (ajX ⟨ct, cd, cg, cm⟩ (waN ⟨c, ⟨n, d, a, p, f⟩, l⟩)) = 0 := by
      unfold rtE
      have h3 := ajX_in ⟨ct, cd, cg, cm⟩ (waN ⟨c, ⟨n, d, a, p, f⟩, l⟩)
      have h4 : tuX (ajX ⟨ct, cd, cg, cm⟩ (waN ⟨c, ⟨n, d, a, p, f⟩, l⟩)) = true := by simp only [tuX, Bool.and_eq_true, decide_eq_true_eq]; exact h3
      rw [if_neg (by rw [(rsV_in b1).1]; decide), if_neg (by rw [h4]; decide)]
    unfold rtP
    rw [if_pos h0]
    rfl
  have hma : maN (plA ⟨q, ⟨ct, cd, cg, cm⟩, ⟨c, ⟨n, d, a, p, f⟩, l⟩, lo, mi⟩).p (waN ⟨c, ⟨n, d, a, p, f⟩, l⟩) = ((mkN (plA ⟨q, ⟨ct, cd, cg, cm⟩, ⟨c, ⟨n, d, a, p, f⟩, l⟩, lo, mi⟩).p (waN ⟨c, ⟨n, d, a, p, f⟩, l⟩) : Nat) : Int) := by
    have h0 : maE (plA ⟨q, ⟨ct, cd, cg, cm⟩, ⟨c, ⟨n, d, a, p, f⟩, l⟩, lo, mi⟩).p (waN ⟨c, ⟨n, d, a, p, f⟩, l⟩) = 0 := by
      unfold maE
      rw [if_neg (by rw [hp]; decide), if_neg (by simp only [Bool.or_eq_true, decide_eq_true_eq]; omega)]
    unfold maN
    rw [if_pos h0]
  have hpk : plK ⟨q, ⟨ct, cd, cg, cm⟩, ⟨c, ⟨n, d, a, p, f⟩, l⟩, lo, mi⟩ i = min ((mkN (plA ⟨q, ⟨ct, cd, cg, cm⟩, ⟨c, ⟨n, d, a, p, f⟩, l⟩, lo, mi⟩).p (waN ⟨c, ⟨n, d, a, p, f⟩, l⟩) : Nat) : Int) i := rfl
  have hKe : (if i < ((mkN (plA ⟨q, ⟨ct, cd, cg, cm⟩, ⟨c, ⟨n, d, a, p, f⟩, l⟩, lo, mi⟩).p (waN ⟨c, ⟨n, d, a, p, f⟩, l⟩) : Nat) : Int) then i else ((mkN (plA ⟨q, ⟨ct, cd, cg, cm⟩, ⟨c, ⟨n, d, a, p, f⟩, l⟩, lo, mi⟩).p (waN ⟨c, ⟨n, d, a, p, f⟩, l⟩) : Nat) : Int)) = plK ⟨q, ⟨ct, cd, cg, cm⟩, ⟨c, ⟨n, d, a, p, f⟩, l⟩, lo, mi⟩ i := by
    rw [hpk]
    split <;> omega
  have hAe : (⟨c, (plA ⟨q, ⟨ct, cd, cg, cm⟩, ⟨c, ⟨n, d, a, p, f⟩, l⟩, lo, mi⟩).p, l⟩ : Rs) = plA ⟨q, ⟨ct, cd, cg, cm⟩, ⟨c, ⟨n, d, a, p, f⟩, l⟩, lo, mi⟩ := rfl
  have eE : plE ⟨q, ⟨ct, cd, cg, cm⟩, ⟨c, ⟨n, d, a, p, f⟩, l⟩, lo, mi⟩ i = tkE (plA ⟨q, ⟨ct, cd, cg, cm⟩, ⟨c, ⟨n, d, a, p, f⟩, l⟩, lo, mi⟩) (plK ⟨q, ⟨ct, cd, cg, cm⟩, ⟨c, ⟨n, d, a, p, f⟩, l⟩, lo, mi⟩ i) := by unfold plE; rw [if_neg (by rw [hv]; decide), if_neg (by rw [h2]; decide)]
  rw [hrt, hma, hKe, hAe]
  refine ⟨⟨hl, ht⟩, fun h3 => absurd ht (by simpa using h3), fun h3 => ?_⟩
  obtain ⟨⟨k1, k2⟩, k3, k4, k5⟩ := blk_in (rsV_in b1).2 hl
  simp only at k1 k2
  have hcc : (c.toNat : Int) = c := by omega
  have hC : tkC (plA ⟨q, ⟨ct, cd, cg, cm⟩, ⟨c, ⟨n, d, a, p, f⟩, l⟩, lo, mi⟩) (plK ⟨q, ⟨ct, cd, cg, cm⟩, ⟨c, ⟨n, d, a, p, f⟩, l⟩, lo, mi⟩ i) = c := by unfold tkC; rw [if_pos ht]; rfl
  have hO : tkO (plA ⟨q, ⟨ct, cd, cg, cm⟩, ⟨c, ⟨n, d, a, p, f⟩, l⟩, lo, mi⟩) (plK ⟨q, ⟨ct, cd, cg, cm⟩, ⟨c, ⟨n, d, a, p, f⟩, l⟩, lo, mi⟩ i) = outO (plA ⟨q, ⟨ct, cd, cg, cm⟩, ⟨c, ⟨n, d, a, p, f⟩, l⟩, lo, mi⟩) (plK ⟨q, ⟨ct, cd, cg, cm⟩, ⟨c, ⟨n, d, a, p, f⟩, l⟩, lo, mi⟩ i).toNat := by unfold tkO; rw [if_pos ht]
  have hR : tkR (plA ⟨q, ⟨ct, cd, cg, cm⟩, ⟨c, ⟨n, d, a, p, f⟩, l⟩, lo, mi⟩) (plK ⟨q, ⟨ct, cd, cg, cm⟩, ⟨c, ⟨n, d, a, p, f⟩, l⟩, lo, mi⟩ i) = poR (plA ⟨q, ⟨ct, cd, cg, cm⟩, ⟨c, ⟨n, d, a, p, f⟩, l⟩, lo, mi⟩) (plK ⟨q, ⟨ct, cd, cg, cm⟩, ⟨c, ⟨n, d, a, p, f⟩, l⟩, lo, mi⟩ i) := by unfold tkR; rw [if_pos ht]
  have hol : (outO (plA ⟨q, ⟨ct, cd, cg, cm⟩, ⟨c, ⟨n, d, a, p, f⟩, l⟩, lo, mi⟩) (plK ⟨q, ⟨ct, cd, cg, cm⟩, ⟨c, ⟨n, d, a, p, f⟩, l⟩, lo, mi⟩ i).toNat).length = (plK ⟨q, ⟨ct, cd, cg, cm⟩, ⟨c, ⟨n, d, a, p, f⟩, l⟩, lo, mi⟩ i).toNat * c.toNat := outO_len (plA ⟨q, ⟨ct, cd, cg, cm⟩, ⟨c, ⟨n, d, a, p, f⟩, l⟩, lo, mi⟩) (plK ⟨q, ⟨ct, cd, cg, cm⟩, ⟨c, ⟨n, d, a, p, f⟩, l⟩, lo, mi⟩ i).toNat
  have hmul : (i - plK ⟨q, ⟨ct, cd, cg, cm⟩, ⟨c, ⟨n, d, a, p, f⟩, l⟩, lo, mi⟩ i) * c = (((i.toNat - (plK ⟨q, ⟨ct, cd, cg, cm⟩, ⟨c, ⟨n, d, a, p, f⟩, l⟩, lo, mi⟩ i).toNat) * c.toNat : Nat) : Int) := by rw [Int.natCast_mul, hcc]; congr 1; omega
  have hmb := Nat.mul_le_mul (show i.toNat - (plK ⟨q, ⟨ct, cd, cg, cm⟩, ⟨c, ⟨n, d, a, p, f⟩, l⟩, lo, mi⟩ i).toNat ≤ 65536 by omega) (show c.toNat ≤ 8 by omega)
  have hmb2 := Nat.mul_le_mul (show (plK ⟨q, ⟨ct, cd, cg, cm⟩, ⟨c, ⟨n, d, a, p, f⟩, l⟩, lo, mi⟩ i).toNat ≤ 65536 by omega) (show c.toNat ≤ 8 by omega)
  have e : plE ⟨q, ⟨ct, cd, cg, cm⟩, ⟨c, ⟨n, d, a, p, f⟩, l⟩, lo, mi⟩ i = 0 := by rw [eE]; exact ht
  rw [hC, hO, hR, IntWalk.i64_in (i - plK ⟨q, ⟨ct, cd, cg, cm⟩, ⟨c, ⟨n, d, a, p, f⟩, l⟩, lo, mi⟩ i) (by omega), hmul, IntWalk.i64_in _ (by omega), Int.toNat_natCast]
  refine ⟨⟨by omega, by omega, by omega⟩, by unfold roomOK; rw [List.length_replicate, hol]; omega, by kernel_rfl, ?_⟩
  simp [plC, plO, plM, plR, e]

theorem spec_rpull (q ct cd cg cm c n d a p f : Int) (l : List Int) (lo mi : Int) (i : Int) (hl : l.length ≤ 1000000) : Spec Try.prog 0 19 [.agg [.d (.int .i64 q), .d (.int .i64 ct), .d (.int .i64 cd), .d (.int .i64 cg), .d (.int .i64 cm), .d (.int .i64 c), .d (.int .i64 n), .d (.int .i64 d), .d (.int .i64 a), .d (.int .i64 p), .d (.int .i64 f), .d (.list (LI .i32 l)), .d (.int .i64 lo), .d (.int .i64 mi)], vI .i64 i] [] [] (.tup [.agg [.int .i64 (plC ⟨q, ⟨ct, cd, cg, cm⟩, ⟨c, ⟨n, d, a, p, f⟩, l⟩, lo, mi⟩ i), .list (LI .i32 (plO ⟨q, ⟨ct, cd, cg, cm⟩, ⟨c, ⟨n, d, a, p, f⟩, l⟩, lo, mi⟩ i))], .int .i64 (plM ⟨q, ⟨ct, cd, cg, cm⟩, ⟨c, ⟨n, d, a, p, f⟩, l⟩, lo, mi⟩ i), .agg [.int .i64 (plR ⟨q, ⟨ct, cd, cg, cm⟩, ⟨c, ⟨n, d, a, p, f⟩, l⟩, lo, mi⟩ i).q, .int .i64 (plR ⟨q, ⟨ct, cd, cg, cm⟩, ⟨c, ⟨n, d, a, p, f⟩, l⟩, lo, mi⟩ i).c.t, .int .i64 (plR ⟨q, ⟨ct, cd, cg, cm⟩, ⟨c, ⟨n, d, a, p, f⟩, l⟩, lo, mi⟩ i).c.d, .int .i64 (plR ⟨q, ⟨ct, cd, cg, cm⟩, ⟨c, ⟨n, d, a, p, f⟩, l⟩, lo, mi⟩ i).c.g, .int .i64 (plR ⟨q, ⟨ct, cd, cg, cm⟩, ⟨c, ⟨n, d, a, p, f⟩, l⟩, lo, mi⟩ i).c.m, .int .i64 (plR ⟨q, ⟨ct, cd, cg, cm⟩, ⟨c, ⟨n, d, a, p, f⟩, l⟩, lo, mi⟩ i).r.c, .int .i64 (plR ⟨q, ⟨ct, cd, cg, cm⟩, ⟨c, ⟨n, d, a, p, f⟩, l⟩, lo, mi⟩ i).r.p.n, .int .i64 (plR ⟨q, ⟨ct, cd, cg, cm⟩, ⟨c, ⟨n, d, a, p, f⟩, l⟩, lo, mi⟩ i).r.p.d, .int .i64 (plR ⟨q, ⟨ct, cd, cg, cm⟩, ⟨c, ⟨n, d, a, p, f⟩, l⟩, lo, mi⟩ i).r.p.a, .int .i64 (plR ⟨q, ⟨ct, cd, cg, cm⟩, ⟨c, ⟨n, d, a, p, f⟩, l⟩, lo, mi⟩ i).r.p.p, .int .i64 (plR ⟨q, ⟨ct, cd, cg, cm⟩, ⟨c, ⟨n, d, a, p, f⟩, l⟩, lo, mi⟩ i).r.p.f, .list (LI .i32 (plR ⟨q, ⟨ct, cd, cg, cm⟩, ⟨c, ⟨n, d, a, p, f⟩, l⟩, lo, mi⟩ i).r.l), .int .i64 (plR ⟨q, ⟨ct, cd, cg, cm⟩, ⟨c, ⟨n, d, a, p, f⟩, l⟩, lo, mi⟩ i).lo, .int .i64 (plR ⟨q, ⟨ct, cd, cg, cm⟩, ⟨c, ⟨n, d, a, p, f⟩, l⟩, lo, mi⟩ i).mi], .int .i64 (plE ⟨q, ⟨ct, cd, cg, cm⟩, ⟨c, ⟨n, d, a, p, f⟩, l⟩, lo, mi⟩ i)]) [] [] := by
  refine spec_of_E (X := ⟨Try.prog, tt, Try.f19.ntmps, 1, fun _ => 0, (tab [(22, E_rbrvalid), (24, E_rbrfill), (53, E_rwaiting), (51, E_radjust), (50, E_rretune), (52, E_rpmake), (54, E_rtake), (28, E_rsilence), (30, E_join)])⟩) (M := [(6, [0, 0, 0, 0, 0, 2305846261611379703, 0, 0, 0, 0, 0, 2305845758026464247, 0]), (12, [0, 0, 0, 0, 0, 16567482021200424745975, 0, 0, 0, 0, 0, 0])]) (m := 2305843009247394807) rfl rfl ⟨tt_ok, tab_ok (tabs_cons E_rbrvalid_ok (tabs_cons E_rbrfill_ok (tabs_cons E_rwaiting_ok (tabs_cons E_radjust_ok (tabs_cons E_rretune_ok (tabs_cons E_rpmake_ok (tabs_cons E_rtake_ok (tabs_cons E_rsilence_ok (tabs_cons E_join_ok tabs_nil))))))))) _ rfl rfl⟩ tt_mixed Try.func19 rfl (by decide) (by show (2 : Nat) ≤ _; exact Nat.le_of_ble_eq_true rfl) ⟨fun m hm => (V.bare_has rfl m hm).elim, by simp, by simp⟩ ?_
  simp only [↓gPre, gPost, gCore, handV, V.bufs, buildArr, toCs, Nat.reduceShiftRight, Nat.reduceMod, addB, addK, zeroOp, callSem, resName, keepsB, newB, V.pure, C.pure, V.ptrs, C.ptrs, C.bufs, appendSem, appendTo, appendZ, dstOk, lk, V.cells, Op.eff, partV, partD, cut, lay, zeroD, C.toDs, C.toD, V.toD, toDs, buildCells, if_true, if_false, ↓reduceIte, reduceCtorEq, Nat.reduceEqDiff, Nat.reduceLT, Nat.reduceLeDiff, implies_true, forall_const, eq_self, ne_eq, not_true_eq_false, not_false_eq_true, imp_self, Nat.reduceAdd, Nat.reduceMul, Int.reduceLE, Int.reduceLT, Int.reduceNeg, Int.reduceAdd, Int.reduceToNat, E_rbrvalid_eq, E_rbrfill_eq, E_rwaiting_eq, E_radjust_eq, E_rretune_eq, E_rpmake_eq, E_rtake_eq, E_rsilence_eq, E_join_eq, ph_eta, Try.ntmps19, Try.results19, gTT]
  refine ⟨hl, fun h => ?_, fun h => ⟨fun h2 => ?_, fun h2 => ⟨by kernel_rfl, hl, by kernel_rfl, hl, hl, ?_⟩⟩⟩
  · have e : plE ⟨q, ⟨ct, cd, cg, cm⟩, ⟨c, ⟨n, d, a, p, f⟩, l⟩, lo, mi⟩ i = 1 := by unfold plE; rw [if_pos h]
    simp [plC, plO, plM, plR, e, br0, rs0, LI_nil]
  · have hv : brV ⟨q, ⟨ct, cd, cg, cm⟩, ⟨c, ⟨n, d, a, p, f⟩, l⟩, lo, mi⟩ = true := by simpa using h
    have e : plE ⟨q, ⟨ct, cd, cg, cm⟩, ⟨c, ⟨n, d, a, p, f⟩, l⟩, lo, mi⟩ i = 2 := by unfold plE; rw [if_neg (by rw [hv]; decide), if_pos h2]
    simp [plC, plO, plM, plR, e, br0, rs0, LI_nil]
  have hv : brV ⟨q, ⟨ct, cd, cg, cm⟩, ⟨c, ⟨n, d, a, p, f⟩, l⟩, lo, mi⟩ = true := by simpa using h
  have hi : 0 ≤ i ∧ i ≤ 65536 := by simp only [Bool.or_eq_false_iff, decide_eq_false_iff_not] at h2; omega
  obtain ⟨b1, b2, b3, b4, b5, b6⟩ := brV_in hv
  simp only at b1 b2 b3 b4 b5 b6
  obtain ⟨w1, w2, w3⟩ := waN_V b1 hl
  have hA := plA_V hv
  have hp := (rsV_in hA).1
  have hK := plK_in hv hl hi
  have hrt : rtP ⟨n, d, a, p, f⟩ (ajX ⟨ct, cd, cg, cm⟩ (waN ⟨c, ⟨n, d, a, p, f⟩, l⟩)) = (plA ⟨q, ⟨ct, cd, cg, cm⟩, ⟨c, ⟨n, d, a, p, f⟩, l⟩, lo, mi⟩).p := by
    have h0 : rtE ⟨n, d, a, p, f⟩ (ajX ⟨ct, cd, cg, cm⟩ (waN ⟨c, ⟨n, d, a, p, f⟩, l⟩)) = 0 := by
      unfold rtE
      have h3 := ajX_in ⟨ct, cd, cg, cm⟩ (waN ⟨c, ⟨n, d, a, p, f⟩, l⟩)
      have h4 : tuX (ajX ⟨ct, cd, cg, cm⟩ (waN ⟨c, ⟨n, d, a, p, f⟩, l⟩)) = true := by simp only [tuX, Bool.and_eq_true, decide_eq_true_eq]; exact h3
      rw [if_neg (by rw [(rsV_in b1).1]; decide), if_neg (by rw [h4]; decide)]
    unfold rtP
    rw [if_pos h0]
    rfl
  have hma : maN (plA ⟨q, ⟨ct, cd, cg, cm⟩, ⟨c, ⟨n, d, a, p, f⟩, l⟩, lo, mi⟩).p (waN ⟨c, ⟨n, d, a, p, f⟩, l⟩) = ((mkN (plA ⟨q, ⟨ct, cd, cg, cm⟩, ⟨c, ⟨n, d, a, p, f⟩, l⟩, lo, mi⟩).p (waN ⟨c, ⟨n, d, a, p, f⟩, l⟩) : Nat) : Int) := by
    have h0 : maE (plA ⟨q, ⟨ct, cd, cg, cm⟩, ⟨c, ⟨n, d, a, p, f⟩, l⟩, lo, mi⟩).p (waN ⟨c, ⟨n, d, a, p, f⟩, l⟩) = 0 := by
      unfold maE
      rw [if_neg (by rw [hp]; decide), if_neg (by simp only [Bool.or_eq_true, decide_eq_true_eq]; omega)]
    unfold maN
    rw [if_pos h0]
  have hpk : plK ⟨q, ⟨ct, cd, cg, cm⟩, ⟨c, ⟨n, d, a, p, f⟩, l⟩, lo, mi⟩ i = min ((mkN (plA ⟨q, ⟨ct, cd, cg, cm⟩, ⟨c, ⟨n, d, a, p, f⟩, l⟩, lo, mi⟩).p (waN ⟨c, ⟨n, d, a, p, f⟩, l⟩) : Nat) : Int) i := rfl
  have hKe : (if i < ((mkN (plA ⟨q, ⟨ct, cd, cg, cm⟩, ⟨c, ⟨n, d, a, p, f⟩, l⟩, lo, mi⟩).p (waN ⟨c, ⟨n, d, a, p, f⟩, l⟩) : Nat) : Int) then i else ((mkN (plA ⟨q, ⟨ct, cd, cg, cm⟩, ⟨c, ⟨n, d, a, p, f⟩, l⟩, lo, mi⟩).p (waN ⟨c, ⟨n, d, a, p, f⟩, l⟩) : Nat) : Int)) = plK ⟨q, ⟨ct, cd, cg, cm⟩, ⟨c, ⟨n, d, a, p, f⟩, l⟩, lo, mi⟩ i := by
    rw [hpk]
    split <;> omega
  have hAe : (⟨c, (plA ⟨q, ⟨ct, cd, cg, cm⟩, ⟨c, ⟨n, d, a, p, f⟩, l⟩, lo, mi⟩).p, l⟩ : Rs) = plA ⟨q, ⟨ct, cd, cg, cm⟩, ⟨c, ⟨n, d, a, p, f⟩, l⟩, lo, mi⟩ := rfl
  have eE : plE ⟨q, ⟨ct, cd, cg, cm⟩, ⟨c, ⟨n, d, a, p, f⟩, l⟩, lo, mi⟩ i = tkE (plA ⟨q, ⟨ct, cd, cg, cm⟩, ⟨c, ⟨n, d, a, p, f⟩, l⟩, lo, mi⟩) (plK ⟨q, ⟨ct, cd, cg, cm⟩, ⟨c, ⟨n, d, a, p, f⟩, l⟩, lo, mi⟩ i) := by unfold plE; rw [if_neg (by rw [hv]; decide), if_neg (by rw [h2]; decide)]
  have hbi : biN ⟨q, ⟨ct, cd, cg, cm⟩, ⟨c, ⟨n, d, a, p, f⟩, l⟩, lo, mi⟩ = waN ⟨c, ⟨n, d, a, p, f⟩, l⟩ := by unfold biN; rw [if_pos hv]
  have hw2 : waN (plA ⟨q, ⟨ct, cd, cg, cm⟩, ⟨c, ⟨n, d, a, p, f⟩, l⟩, lo, mi⟩) = waN ⟨c, ⟨n, d, a, p, f⟩, l⟩ := by rw [w1]; unfold waN; rw [if_pos hA]; rfl
  rw [hbi, hrt, hAe, hw2, hma, hKe]
  refine ⟨fun h3 => ?_, fun h3 => ?_⟩
  · have ht : tkE (plA ⟨q, ⟨ct, cd, cg, cm⟩, ⟨c, ⟨n, d, a, p, f⟩, l⟩, lo, mi⟩) (plK ⟨q, ⟨ct, cd, cg, cm⟩, ⟨c, ⟨n, d, a, p, f⟩, l⟩, lo, mi⟩ i) ≠ 0 := by simpa using h3
    have e : plE ⟨q, ⟨ct, cd, cg, cm⟩, ⟨c, ⟨n, d, a, p, f⟩, l⟩, lo, mi⟩ i ≠ 0 := by rw [eE]; exact ht
    rw [← eE]
    simp [plC, plO, plM, plR, e, br0, rs0, LI_nil]
  have ht : tkE (plA ⟨q, ⟨ct, cd, cg, cm⟩, ⟨c, ⟨n, d, a, p, f⟩, l⟩, lo, mi⟩) (plK ⟨q, ⟨ct, cd, cg, cm⟩, ⟨c, ⟨n, d, a, p, f⟩, l⟩, lo, mi⟩ i) = 0 := by simpa using h3
  obtain ⟨⟨k1, k2⟩, k3, k4, k5⟩ := blk_in (rsV_in b1).2 hl
  simp only at k1 k2
  have hcc : (c.toNat : Int) = c := by omega
  have hC : tkC (plA ⟨q, ⟨ct, cd, cg, cm⟩, ⟨c, ⟨n, d, a, p, f⟩, l⟩, lo, mi⟩) (plK ⟨q, ⟨ct, cd, cg, cm⟩, ⟨c, ⟨n, d, a, p, f⟩, l⟩, lo, mi⟩ i) = c := by unfold tkC; rw [if_pos ht]; rfl
  have hO : tkO (plA ⟨q, ⟨ct, cd, cg, cm⟩, ⟨c, ⟨n, d, a, p, f⟩, l⟩, lo, mi⟩) (plK ⟨q, ⟨ct, cd, cg, cm⟩, ⟨c, ⟨n, d, a, p, f⟩, l⟩, lo, mi⟩ i) = outO (plA ⟨q, ⟨ct, cd, cg, cm⟩, ⟨c, ⟨n, d, a, p, f⟩, l⟩, lo, mi⟩) (plK ⟨q, ⟨ct, cd, cg, cm⟩, ⟨c, ⟨n, d, a, p, f⟩, l⟩, lo, mi⟩ i).toNat := by unfold tkO; rw [if_pos ht]
  have hR : tkR (plA ⟨q, ⟨ct, cd, cg, cm⟩, ⟨c, ⟨n, d, a, p, f⟩, l⟩, lo, mi⟩) (plK ⟨q, ⟨ct, cd, cg, cm⟩, ⟨c, ⟨n, d, a, p, f⟩, l⟩, lo, mi⟩ i) = poR (plA ⟨q, ⟨ct, cd, cg, cm⟩, ⟨c, ⟨n, d, a, p, f⟩, l⟩, lo, mi⟩) (plK ⟨q, ⟨ct, cd, cg, cm⟩, ⟨c, ⟨n, d, a, p, f⟩, l⟩, lo, mi⟩ i) := by unfold tkR; rw [if_pos ht]
  have hol : (outO (plA ⟨q, ⟨ct, cd, cg, cm⟩, ⟨c, ⟨n, d, a, p, f⟩, l⟩, lo, mi⟩) (plK ⟨q, ⟨ct, cd, cg, cm⟩, ⟨c, ⟨n, d, a, p, f⟩, l⟩, lo, mi⟩ i).toNat).length = (plK ⟨q, ⟨ct, cd, cg, cm⟩, ⟨c, ⟨n, d, a, p, f⟩, l⟩, lo, mi⟩ i).toNat * c.toNat := outO_len (plA ⟨q, ⟨ct, cd, cg, cm⟩, ⟨c, ⟨n, d, a, p, f⟩, l⟩, lo, mi⟩) (plK ⟨q, ⟨ct, cd, cg, cm⟩, ⟨c, ⟨n, d, a, p, f⟩, l⟩, lo, mi⟩ i).toNat
  have hmul : (i - plK ⟨q, ⟨ct, cd, cg, cm⟩, ⟨c, ⟨n, d, a, p, f⟩, l⟩, lo, mi⟩ i) * c = (((i.toNat - (plK ⟨q, ⟨ct, cd, cg, cm⟩, ⟨c, ⟨n, d, a, p, f⟩, l⟩, lo, mi⟩ i).toNat) * c.toNat : Nat) : Int) := by rw [Int.natCast_mul, hcc]; congr 1; omega
  have hmb := Nat.mul_le_mul (show i.toNat - (plK ⟨q, ⟨ct, cd, cg, cm⟩, ⟨c, ⟨n, d, a, p, f⟩, l⟩, lo, mi⟩ i).toNat ≤ 65536 by omega) (show c.toNat ≤ 8 by omega)
  have hmb2 := Nat.mul_le_mul (show (plK ⟨q, ⟨ct, cd, cg, cm⟩, ⟨c, ⟨n, d, a, p, f⟩, l⟩, lo, mi⟩ i).toNat ≤ 65536 by omega) (show c.toNat ≤ 8 by omega)
  have e : plE ⟨q, ⟨ct, cd, cg, cm⟩, ⟨c, ⟨n, d, a, p, f⟩, l⟩, lo, mi⟩ i = 0 := by rw [eE]; exact ht
  have hpo := (tkE_po ht).2.1
  have hpc : (poR (plA ⟨q, ⟨ct, cd, cg, cm⟩, ⟨c, ⟨n, d, a, p, f⟩, l⟩, lo, mi⟩) (plK ⟨q, ⟨ct, cd, cg, cm⟩, ⟨c, ⟨n, d, a, p, f⟩, l⟩, lo, mi⟩ i)).c = c := (po_ok hA (show l.length ≤ 1000000 from hl) hpo).2.1
  have htot : (plK ⟨q, ⟨ct, cd, cg, cm⟩, ⟨c, ⟨n, d, a, p, f⟩, l⟩, lo, mi⟩ i).toNat * c.toNat + (i.toNat - (plK ⟨q, ⟨ct, cd, cg, cm⟩, ⟨c, ⟨n, d, a, p, f⟩, l⟩, lo, mi⟩ i).toNat) * c.toNat ≤ 524288 := by
    rw [← Nat.add_mul]
    exact Nat.mul_le_mul (show _ ≤ 65536 by omega) (show c.toNat ≤ 8 by omega)
  have hs : silO c (i - plK ⟨q, ⟨ct, cd, cg, cm⟩, ⟨c, ⟨n, d, a, p, f⟩, l⟩, lo, mi⟩ i) = List.replicate ((i.toNat - (plK ⟨q, ⟨ct, cd, cg, cm⟩, ⟨c, ⟨n, d, a, p, f⟩, l⟩, lo, mi⟩ i).toNat) * c.toNat) 0 := by
    have hsb : silB c (i - plK ⟨q, ⟨ct, cd, cg, cm⟩, ⟨c, ⟨n, d, a, p, f⟩, l⟩, lo, mi⟩ i) = false := by
      simp only [silB, Bool.or_eq_false_iff, decide_eq_false_iff_not]
      omega
    unfold silO
    rw [if_neg (by rw [hsb]; decide), Int.mul_comm, hmul, Int.toNat_natCast]
  rw [hC, hO, hR, hpc, IntWalk.i64_in (i - plK ⟨q, ⟨ct, cd, cg, cm⟩, ⟨c, ⟨n, d, a, p, f⟩, l⟩, lo, mi⟩ i) (by omega), hs]
  refine ⟨by kernel_rfl, by rw [List.length_replicate, hol]; omega, ?_⟩
  simp [plC, plO, plM, plR, e, hpc]
def E_rpull : List V → Boxes → Toks → Name → Option Ent
  | [.agg [.d (.int .i64 q), .d (.int .i64 ct), .d (.int .i64 cd), .d (.int .i64 cg), .d (.int .i64 cm), .d (.int .i64 c), .d (.int .i64 n), .d (.int .i64 d), .d (.int .i64 a), .d (.int .i64 p), .d (.int .i64 f), .d (.list q_l), .d (.int .i64 lo), .d (.int .i64 mi)], .c (.d (.int .i64 i))], [], [], _ => some ⟨(ints q_l).length ≤ 1000000 ∧ q_l = LI .i32 (ints q_l), .tup [.agg [.int .i64 (plC ⟨q, ⟨ct, cd, cg, cm⟩, ⟨c, ⟨n, d, a, p, f⟩, (ints q_l)⟩, lo, mi⟩ i), .list (LI .i32 (plO ⟨q, ⟨ct, cd, cg, cm⟩, ⟨c, ⟨n, d, a, p, f⟩, (ints q_l)⟩, lo, mi⟩ i))], .int .i64 (plM ⟨q, ⟨ct, cd, cg, cm⟩, ⟨c, ⟨n, d, a, p, f⟩, (ints q_l)⟩, lo, mi⟩ i), .agg [.int .i64 (plR ⟨q, ⟨ct, cd, cg, cm⟩, ⟨c, ⟨n, d, a, p, f⟩, (ints q_l)⟩, lo, mi⟩ i).q, .int .i64 (plR ⟨q, ⟨ct, cd, cg, cm⟩, ⟨c, ⟨n, d, a, p, f⟩, (ints q_l)⟩, lo, mi⟩ i).c.t, .int .i64 (plR ⟨q, ⟨ct, cd, cg, cm⟩, ⟨c, ⟨n, d, a, p, f⟩, (ints q_l)⟩, lo, mi⟩ i).c.d, .int .i64 (plR ⟨q, ⟨ct, cd, cg, cm⟩, ⟨c, ⟨n, d, a, p, f⟩, (ints q_l)⟩, lo, mi⟩ i).c.g, .int .i64 (plR ⟨q, ⟨ct, cd, cg, cm⟩, ⟨c, ⟨n, d, a, p, f⟩, (ints q_l)⟩, lo, mi⟩ i).c.m, .int .i64 (plR ⟨q, ⟨ct, cd, cg, cm⟩, ⟨c, ⟨n, d, a, p, f⟩, (ints q_l)⟩, lo, mi⟩ i).r.c, .int .i64 (plR ⟨q, ⟨ct, cd, cg, cm⟩, ⟨c, ⟨n, d, a, p, f⟩, (ints q_l)⟩, lo, mi⟩ i).r.p.n, .int .i64 (plR ⟨q, ⟨ct, cd, cg, cm⟩, ⟨c, ⟨n, d, a, p, f⟩, (ints q_l)⟩, lo, mi⟩ i).r.p.d, .int .i64 (plR ⟨q, ⟨ct, cd, cg, cm⟩, ⟨c, ⟨n, d, a, p, f⟩, (ints q_l)⟩, lo, mi⟩ i).r.p.a, .int .i64 (plR ⟨q, ⟨ct, cd, cg, cm⟩, ⟨c, ⟨n, d, a, p, f⟩, (ints q_l)⟩, lo, mi⟩ i).r.p.p, .int .i64 (plR ⟨q, ⟨ct, cd, cg, cm⟩, ⟨c, ⟨n, d, a, p, f⟩, (ints q_l)⟩, lo, mi⟩ i).r.p.f, .list (LI .i32 (plR ⟨q, ⟨ct, cd, cg, cm⟩, ⟨c, ⟨n, d, a, p, f⟩, (ints q_l)⟩, lo, mi⟩ i).r.l), .int .i64 (plR ⟨q, ⟨ct, cd, cg, cm⟩, ⟨c, ⟨n, d, a, p, f⟩, (ints q_l)⟩, lo, mi⟩ i).lo, .int .i64 (plR ⟨q, ⟨ct, cd, cg, cm⟩, ⟨c, ⟨n, d, a, p, f⟩, (ints q_l)⟩, lo, mi⟩ i).mi], .int .i64 (plE ⟨q, ⟨ct, cd, cg, cm⟩, ⟨c, ⟨n, d, a, p, f⟩, (ints q_l)⟩, lo, mi⟩ i)], [], []⟩
  | _, _, _, _ => none
theorem E_rpull_eq {q ct cd cg cm c n d a p f : Int} {lo mi : Int} {i : Int}  {q_l : List D} {nF : Name} : E_rpull [.agg [.d (.int .i64 q), .d (.int .i64 ct), .d (.int .i64 cd), .d (.int .i64 cg), .d (.int .i64 cm), .d (.int .i64 c), .d (.int .i64 n), .d (.int .i64 d), .d (.int .i64 a), .d (.int .i64 p), .d (.int .i64 f), .d (.list q_l), .d (.int .i64 lo), .d (.int .i64 mi)], .c (.d (.int .i64 i))] [] [] nF = some ⟨(ints q_l).length ≤ 1000000 ∧ q_l = LI .i32 (ints q_l), .tup [.agg [.int .i64 (plC ⟨q, ⟨ct, cd, cg, cm⟩, ⟨c, ⟨n, d, a, p, f⟩, (ints q_l)⟩, lo, mi⟩ i), .list (LI .i32 (plO ⟨q, ⟨ct, cd, cg, cm⟩, ⟨c, ⟨n, d, a, p, f⟩, (ints q_l)⟩, lo, mi⟩ i))], .int .i64 (plM ⟨q, ⟨ct, cd, cg, cm⟩, ⟨c, ⟨n, d, a, p, f⟩, (ints q_l)⟩, lo, mi⟩ i), .agg [.int .i64 (plR ⟨q, ⟨ct, cd, cg, cm⟩, ⟨c, ⟨n, d, a, p, f⟩, (ints q_l)⟩, lo, mi⟩ i).q, .int .i64 (plR ⟨q, ⟨ct, cd, cg, cm⟩, ⟨c, ⟨n, d, a, p, f⟩, (ints q_l)⟩, lo, mi⟩ i).c.t, .int .i64 (plR ⟨q, ⟨ct, cd, cg, cm⟩, ⟨c, ⟨n, d, a, p, f⟩, (ints q_l)⟩, lo, mi⟩ i).c.d, .int .i64 (plR ⟨q, ⟨ct, cd, cg, cm⟩, ⟨c, ⟨n, d, a, p, f⟩, (ints q_l)⟩, lo, mi⟩ i).c.g, .int .i64 (plR ⟨q, ⟨ct, cd, cg, cm⟩, ⟨c, ⟨n, d, a, p, f⟩, (ints q_l)⟩, lo, mi⟩ i).c.m, .int .i64 (plR ⟨q, ⟨ct, cd, cg, cm⟩, ⟨c, ⟨n, d, a, p, f⟩, (ints q_l)⟩, lo, mi⟩ i).r.c, .int .i64 (plR ⟨q, ⟨ct, cd, cg, cm⟩, ⟨c, ⟨n, d, a, p, f⟩, (ints q_l)⟩, lo, mi⟩ i).r.p.n, .int .i64 (plR ⟨q, ⟨ct, cd, cg, cm⟩, ⟨c, ⟨n, d, a, p, f⟩, (ints q_l)⟩, lo, mi⟩ i).r.p.d, .int .i64 (plR ⟨q, ⟨ct, cd, cg, cm⟩, ⟨c, ⟨n, d, a, p, f⟩, (ints q_l)⟩, lo, mi⟩ i).r.p.a, .int .i64 (plR ⟨q, ⟨ct, cd, cg, cm⟩, ⟨c, ⟨n, d, a, p, f⟩, (ints q_l)⟩, lo, mi⟩ i).r.p.p, .int .i64 (plR ⟨q, ⟨ct, cd, cg, cm⟩, ⟨c, ⟨n, d, a, p, f⟩, (ints q_l)⟩, lo, mi⟩ i).r.p.f, .list (LI .i32 (plR ⟨q, ⟨ct, cd, cg, cm⟩, ⟨c, ⟨n, d, a, p, f⟩, (ints q_l)⟩, lo, mi⟩ i).r.l), .int .i64 (plR ⟨q, ⟨ct, cd, cg, cm⟩, ⟨c, ⟨n, d, a, p, f⟩, (ints q_l)⟩, lo, mi⟩ i).lo, .int .i64 (plR ⟨q, ⟨ct, cd, cg, cm⟩, ⟨c, ⟨n, d, a, p, f⟩, (ints q_l)⟩, lo, mi⟩ i).mi], .int .i64 (plE ⟨q, ⟨ct, cd, cg, cm⟩, ⟨c, ⟨n, d, a, p, f⟩, (ints q_l)⟩, lo, mi⟩ i)], [], []⟩ := Eq.trans rfl rfl
theorem E_rpull_ok : Snd Try.prog 19 E_rpull := by
  intro vs b k n e h hn hp
  unfold E_rpull at h
  split at h
  · cases h; obtain ⟨hp0, hq0⟩ := hp; obtain ⟨_, rfl⟩ := LI_ex hq0; simp only [ints_LI, bys_LB, blks_LK, lls_LL] at hp0 ⊢; exact (spec_rpull _ _ _ _ _ _ _ _ _ _ _ _ _ _ _ hp0).lift rfl _
  · cases h

theorem spec_pull (q ct cd cg cm c n d a p f : Int) (l : List Int) (lo mi : Int) (i : Int) (hl : l.length ≤ 1000000) : Spec Try.prog 0 18 [.agg [.d (.int .i64 q), .d (.int .i64 ct), .d (.int .i64 cd), .d (.int .i64 cg), .d (.int .i64 cm), .d (.int .i64 c), .d (.int .i64 n), .d (.int .i64 d), .d (.int .i64 a), .d (.int .i64 p), .d (.int .i64 f), .d (.list (LI .i32 l)), .d (.int .i64 lo), .d (.int .i64 mi)], .c (.d (.int .i64 i))] [] [] (.tup [.agg [.int .i64 (plC ⟨q, ⟨ct, cd, cg, cm⟩, ⟨c, ⟨n, d, a, p, f⟩, l⟩, lo, mi⟩ i), .list (LI .i32 (plO ⟨q, ⟨ct, cd, cg, cm⟩, ⟨c, ⟨n, d, a, p, f⟩, l⟩, lo, mi⟩ i))], .int .i64 (plM ⟨q, ⟨ct, cd, cg, cm⟩, ⟨c, ⟨n, d, a, p, f⟩, l⟩, lo, mi⟩ i), .agg [.int .i64 (plR ⟨q, ⟨ct, cd, cg, cm⟩, ⟨c, ⟨n, d, a, p, f⟩, l⟩, lo, mi⟩ i).q, .int .i64 (plR ⟨q, ⟨ct, cd, cg, cm⟩, ⟨c, ⟨n, d, a, p, f⟩, l⟩, lo, mi⟩ i).c.t, .int .i64 (plR ⟨q, ⟨ct, cd, cg, cm⟩, ⟨c, ⟨n, d, a, p, f⟩, l⟩, lo, mi⟩ i).c.d, .int .i64 (plR ⟨q, ⟨ct, cd, cg, cm⟩, ⟨c, ⟨n, d, a, p, f⟩, l⟩, lo, mi⟩ i).c.g, .int .i64 (plR ⟨q, ⟨ct, cd, cg, cm⟩, ⟨c, ⟨n, d, a, p, f⟩, l⟩, lo, mi⟩ i).c.m, .int .i64 (plR ⟨q, ⟨ct, cd, cg, cm⟩, ⟨c, ⟨n, d, a, p, f⟩, l⟩, lo, mi⟩ i).r.c, .int .i64 (plR ⟨q, ⟨ct, cd, cg, cm⟩, ⟨c, ⟨n, d, a, p, f⟩, l⟩, lo, mi⟩ i).r.p.n, .int .i64 (plR ⟨q, ⟨ct, cd, cg, cm⟩, ⟨c, ⟨n, d, a, p, f⟩, l⟩, lo, mi⟩ i).r.p.d, .int .i64 (plR ⟨q, ⟨ct, cd, cg, cm⟩, ⟨c, ⟨n, d, a, p, f⟩, l⟩, lo, mi⟩ i).r.p.a, .int .i64 (plR ⟨q, ⟨ct, cd, cg, cm⟩, ⟨c, ⟨n, d, a, p, f⟩, l⟩, lo, mi⟩ i).r.p.p, .int .i64 (plR ⟨q, ⟨ct, cd, cg, cm⟩, ⟨c, ⟨n, d, a, p, f⟩, l⟩, lo, mi⟩ i).r.p.f, .list (LI .i32 (plR ⟨q, ⟨ct, cd, cg, cm⟩, ⟨c, ⟨n, d, a, p, f⟩, l⟩, lo, mi⟩ i).r.l), .int .i64 (plR ⟨q, ⟨ct, cd, cg, cm⟩, ⟨c, ⟨n, d, a, p, f⟩, l⟩, lo, mi⟩ i).lo, .int .i64 (plR ⟨q, ⟨ct, cd, cg, cm⟩, ⟨c, ⟨n, d, a, p, f⟩, l⟩, lo, mi⟩ i).mi], .int .i64 (plE ⟨q, ⟨ct, cd, cg, cm⟩, ⟨c, ⟨n, d, a, p, f⟩, l⟩, lo, mi⟩ i)]) [] [] := by
  by_cases ht : tkE (plA ⟨q, ⟨ct, cd, cg, cm⟩, ⟨c, ⟨n, d, a, p, f⟩, l⟩, lo, mi⟩) (plK ⟨q, ⟨ct, cd, cg, cm⟩, ⟨c, ⟨n, d, a, p, f⟩, l⟩, lo, mi⟩ i) = 0
  · exact spec_pullB q ct cd cg cm c n d a p f l lo mi i hl ht
  · exact spec_pullA q ct cd cg cm c n d a p f l lo mi i hl ht

def E_pull : List V → Boxes → Toks → Name → Option Ent
  | [.agg [.d (.int .i64 q), .d (.int .i64 ct), .d (.int .i64 cd), .d (.int .i64 cg), .d (.int .i64 cm), .d (.int .i64 c), .d (.int .i64 n), .d (.int .i64 d), .d (.int .i64 a), .d (.int .i64 p), .d (.int .i64 f), .d (.list q_l), .d (.int .i64 lo), .d (.int .i64 mi)], .c (.d (.int .i64 i))], [], [], _ => some ⟨(ints q_l).length ≤ 1000000 ∧ q_l = LI .i32 (ints q_l), .tup [.agg [.int .i64 (plC ⟨q, ⟨ct, cd, cg, cm⟩, ⟨c, ⟨n, d, a, p, f⟩, (ints q_l)⟩, lo, mi⟩ i), .list (LI .i32 (plO ⟨q, ⟨ct, cd, cg, cm⟩, ⟨c, ⟨n, d, a, p, f⟩, (ints q_l)⟩, lo, mi⟩ i))], .int .i64 (plM ⟨q, ⟨ct, cd, cg, cm⟩, ⟨c, ⟨n, d, a, p, f⟩, (ints q_l)⟩, lo, mi⟩ i), .agg [.int .i64 (plR ⟨q, ⟨ct, cd, cg, cm⟩, ⟨c, ⟨n, d, a, p, f⟩, (ints q_l)⟩, lo, mi⟩ i).q, .int .i64 (plR ⟨q, ⟨ct, cd, cg, cm⟩, ⟨c, ⟨n, d, a, p, f⟩, (ints q_l)⟩, lo, mi⟩ i).c.t, .int .i64 (plR ⟨q, ⟨ct, cd, cg, cm⟩, ⟨c, ⟨n, d, a, p, f⟩, (ints q_l)⟩, lo, mi⟩ i).c.d, .int .i64 (plR ⟨q, ⟨ct, cd, cg, cm⟩, ⟨c, ⟨n, d, a, p, f⟩, (ints q_l)⟩, lo, mi⟩ i).c.g, .int .i64 (plR ⟨q, ⟨ct, cd, cg, cm⟩, ⟨c, ⟨n, d, a, p, f⟩, (ints q_l)⟩, lo, mi⟩ i).c.m, .int .i64 (plR ⟨q, ⟨ct, cd, cg, cm⟩, ⟨c, ⟨n, d, a, p, f⟩, (ints q_l)⟩, lo, mi⟩ i).r.c, .int .i64 (plR ⟨q, ⟨ct, cd, cg, cm⟩, ⟨c, ⟨n, d, a, p, f⟩, (ints q_l)⟩, lo, mi⟩ i).r.p.n, .int .i64 (plR ⟨q, ⟨ct, cd, cg, cm⟩, ⟨c, ⟨n, d, a, p, f⟩, (ints q_l)⟩, lo, mi⟩ i).r.p.d, .int .i64 (plR ⟨q, ⟨ct, cd, cg, cm⟩, ⟨c, ⟨n, d, a, p, f⟩, (ints q_l)⟩, lo, mi⟩ i).r.p.a, .int .i64 (plR ⟨q, ⟨ct, cd, cg, cm⟩, ⟨c, ⟨n, d, a, p, f⟩, (ints q_l)⟩, lo, mi⟩ i).r.p.p, .int .i64 (plR ⟨q, ⟨ct, cd, cg, cm⟩, ⟨c, ⟨n, d, a, p, f⟩, (ints q_l)⟩, lo, mi⟩ i).r.p.f, .list (LI .i32 (plR ⟨q, ⟨ct, cd, cg, cm⟩, ⟨c, ⟨n, d, a, p, f⟩, (ints q_l)⟩, lo, mi⟩ i).r.l), .int .i64 (plR ⟨q, ⟨ct, cd, cg, cm⟩, ⟨c, ⟨n, d, a, p, f⟩, (ints q_l)⟩, lo, mi⟩ i).lo, .int .i64 (plR ⟨q, ⟨ct, cd, cg, cm⟩, ⟨c, ⟨n, d, a, p, f⟩, (ints q_l)⟩, lo, mi⟩ i).mi], .int .i64 (plE ⟨q, ⟨ct, cd, cg, cm⟩, ⟨c, ⟨n, d, a, p, f⟩, (ints q_l)⟩, lo, mi⟩ i)], [], []⟩
  | _, _, _, _ => none
theorem E_pull_eq {q ct cd cg cm c n d a p f : Int} {lo mi : Int} {i : Int}  {q_l : List D} {nF : Name} : E_pull [.agg [.d (.int .i64 q), .d (.int .i64 ct), .d (.int .i64 cd), .d (.int .i64 cg), .d (.int .i64 cm), .d (.int .i64 c), .d (.int .i64 n), .d (.int .i64 d), .d (.int .i64 a), .d (.int .i64 p), .d (.int .i64 f), .d (.list q_l), .d (.int .i64 lo), .d (.int .i64 mi)], .c (.d (.int .i64 i))] [] [] nF = some ⟨(ints q_l).length ≤ 1000000 ∧ q_l = LI .i32 (ints q_l), .tup [.agg [.int .i64 (plC ⟨q, ⟨ct, cd, cg, cm⟩, ⟨c, ⟨n, d, a, p, f⟩, (ints q_l)⟩, lo, mi⟩ i), .list (LI .i32 (plO ⟨q, ⟨ct, cd, cg, cm⟩, ⟨c, ⟨n, d, a, p, f⟩, (ints q_l)⟩, lo, mi⟩ i))], .int .i64 (plM ⟨q, ⟨ct, cd, cg, cm⟩, ⟨c, ⟨n, d, a, p, f⟩, (ints q_l)⟩, lo, mi⟩ i), .agg [.int .i64 (plR ⟨q, ⟨ct, cd, cg, cm⟩, ⟨c, ⟨n, d, a, p, f⟩, (ints q_l)⟩, lo, mi⟩ i).q, .int .i64 (plR ⟨q, ⟨ct, cd, cg, cm⟩, ⟨c, ⟨n, d, a, p, f⟩, (ints q_l)⟩, lo, mi⟩ i).c.t, .int .i64 (plR ⟨q, ⟨ct, cd, cg, cm⟩, ⟨c, ⟨n, d, a, p, f⟩, (ints q_l)⟩, lo, mi⟩ i).c.d, .int .i64 (plR ⟨q, ⟨ct, cd, cg, cm⟩, ⟨c, ⟨n, d, a, p, f⟩, (ints q_l)⟩, lo, mi⟩ i).c.g, .int .i64 (plR ⟨q, ⟨ct, cd, cg, cm⟩, ⟨c, ⟨n, d, a, p, f⟩, (ints q_l)⟩, lo, mi⟩ i).c.m, .int .i64 (plR ⟨q, ⟨ct, cd, cg, cm⟩, ⟨c, ⟨n, d, a, p, f⟩, (ints q_l)⟩, lo, mi⟩ i).r.c, .int .i64 (plR ⟨q, ⟨ct, cd, cg, cm⟩, ⟨c, ⟨n, d, a, p, f⟩, (ints q_l)⟩, lo, mi⟩ i).r.p.n, .int .i64 (plR ⟨q, ⟨ct, cd, cg, cm⟩, ⟨c, ⟨n, d, a, p, f⟩, (ints q_l)⟩, lo, mi⟩ i).r.p.d, .int .i64 (plR ⟨q, ⟨ct, cd, cg, cm⟩, ⟨c, ⟨n, d, a, p, f⟩, (ints q_l)⟩, lo, mi⟩ i).r.p.a, .int .i64 (plR ⟨q, ⟨ct, cd, cg, cm⟩, ⟨c, ⟨n, d, a, p, f⟩, (ints q_l)⟩, lo, mi⟩ i).r.p.p, .int .i64 (plR ⟨q, ⟨ct, cd, cg, cm⟩, ⟨c, ⟨n, d, a, p, f⟩, (ints q_l)⟩, lo, mi⟩ i).r.p.f, .list (LI .i32 (plR ⟨q, ⟨ct, cd, cg, cm⟩, ⟨c, ⟨n, d, a, p, f⟩, (ints q_l)⟩, lo, mi⟩ i).r.l), .int .i64 (plR ⟨q, ⟨ct, cd, cg, cm⟩, ⟨c, ⟨n, d, a, p, f⟩, (ints q_l)⟩, lo, mi⟩ i).lo, .int .i64 (plR ⟨q, ⟨ct, cd, cg, cm⟩, ⟨c, ⟨n, d, a, p, f⟩, (ints q_l)⟩, lo, mi⟩ i).mi], .int .i64 (plE ⟨q, ⟨ct, cd, cg, cm⟩, ⟨c, ⟨n, d, a, p, f⟩, (ints q_l)⟩, lo, mi⟩ i)], [], []⟩ := Eq.trans rfl rfl
theorem E_pull_ok : Snd Try.prog 18 E_pull := by
  intro vs b k n e h hn hp
  unfold E_pull at h
  split at h
  · cases h; obtain ⟨hp0, hq0⟩ := hp; obtain ⟨_, rfl⟩ := LI_ex hq0; simp only [ints_LI, bys_LB, blks_LK, lls_LL] at hp0 ⊢; exact (spec_pull _ _ _ _ _ _ _ _ _ _ _ _ _ _ _ hp0).lift rfl _
  · cases h

end Go.Vam
