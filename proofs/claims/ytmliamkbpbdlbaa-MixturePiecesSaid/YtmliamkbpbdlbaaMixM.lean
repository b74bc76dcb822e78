/- The law MixturePieces gives true. Conditions: none. -/
import Derived.Test.YtmliamkbpbdlbaaMixL
set_option linter.unusedVariables false
set_option linter.unusedSimpArgs false
set_option maxRecDepth 40000
set_option maxHeartbeats 4000000
namespace Go.Vam
open Go.Proofs

theorem spec_join (c d : Int) (a b : List Int) (hl : a.length + b.length ≤ 1000000) : Spec Try.prog 0 28 [.agg [.d (.int .i64 c), .d (.list (LI .i32 a))], .agg [.d (.int .i64 d), .d (.list (LI .i32 b))]] [] [] (.agg [.d (.int .i64 c), .d (.list (LI .i32 (a ++ b)))]) [] [] := by
  refine spec_of_E (X := ⟨Try.prog, tt, Try.f28.ntmps, 1, fun _ => 0, (tab [])⟩) (M := []) (m := 31) rfl rfl ⟨tt_ok, tab_ok tabs_nil _ rfl rfl⟩ tt_mixed Try.func28 rfl (by decide) (by show (2 : Nat) ≤ _; exact Nat.le_of_ble_eq_true rfl) ⟨fun m hm => (V.bare_has rfl m hm).elim, by simp, by simp⟩ ?_
  simp only [↓gPre, gPost, handV, V.bufs, buildArr, toCs, List.set_cons_succ, List.set_cons_zero, List.foldr_cons, List.foldr_nil, List.append_eq, Nat.reduceShiftRight, Nat.reduceMod, List.mem_cons, addB, addK, zeroOp, callSem, resName, keepsB, newB, V.pure, C.pure, V.ptrs, C.ptrs, C.bufs, appendSem, dstOk, lk, V.cells, Op.eff, partV, partD, cut, lay, zeroD, C.toDs, C.toD, V.toD, toDs, buildCells, List.flatMap_nil, List.flatMap_cons, List.all_nil, List.all_cons, List.map_nil, List.map_cons, List.zip_cons_cons, List.zip_nil_left, List.nil_append, List.append_nil, List.cons_append, List.drop_zero, List.drop_succ_cons, List.take_succ_cons, List.take_zero, List.length_cons, List.length_nil, List.getElem?_cons_succ, List.getElem?_cons_zero, Option.getD_some, Option.getD_none, Option.map_some, Option.map_none, Option.some.injEq, Option.isSome_none, Option.isSome_some, Option.toList_some, Option.toList_none, if_true, if_false, ↓reduceIte, reduceCtorEq, Nat.reduceEqDiff, Nat.reduceLT, Nat.reduceLeDiff, List.not_mem_nil, false_implies, implies_true, true_and, and_true, forall_const, Nat.succ_ne_self, Bool.false_eq_true, Bool.true_and, Bool.and_true, eq_self, ne_eq, not_true_eq_false, not_false_eq_true, or_true, true_or, and_self, imp_self, bne_self_eq_false, beq_self_eq_true, Bool.or_false, Bool.false_or, Bool.and_false, Bool.false_and, false_or, or_false, Nat.reduceAdd, Nat.reduceMul, beq_true, beq_false, Name.mk.injEq, decide_true, decide_false, Bool.or_true, Bool.true_or, Bool.or_self, Bool.not_eq_true', Bool.not_true, Bool.not_false, Bool.true_eq_false, Bool.cond_true_left, Bool.cond_false_right, Nat.zero_add, Int.reduceLE, Int.reduceLT, Int.reduceNeg, Int.reduceAdd, Int.reduceToNat, List.range_succ, List.range_zero, Int.toNat_natCast, List.mem_nil_iff, List.mem_append, LX_nil, LX_length, LX_getD, LX_append, LX_one, LX_cells, LX_inj, LX_nil_eq, LX_inps_LX, LX_take, LX_drop, inps_LX, Try.ntmps28, Try.results28, tt_1, tt_2, tt_3, tt_4, tt_5, tt_6, tt_7, tt_8, tt_12, tt_15, tt_16, tt_17, tt_18, tt_19, tt_21, tt_22, tt_23, tt_24, tt_25, tt_26, tt_27, tt_28, tt_29, tt_30, tt_31, tt_32, tt_33, tt_34, tt_35, tt_36, tt_37, tt_38, tt_39, tt_40, tt_41, tt_42, tt_43, tt_45, tt_46, tt_47, tt_49, tt_50, tt_52, tt_53, tt_55, tt_56, tt_57, tt_58, tt_59, tt_60, tt_61, tt_62, tt_64, tt_65, tt_66, tt_67, tt_68, tt_69, tt_70, tt_71, tt_72, tt_73, tt_74, tt_75, tt_76, tt_77, tt_78, tt_80, tt_81, tt_82, tt_83, tt_85, tt_86, tt_87, tt_88, tt_89, tt_90, tt_91, tt_92, tt_93, tt_94, tt_95, tt_96, tt_97, tt_98, tt_99, tt_100, tt_101, tt_102, tt_103, tt_106, tt_107, tt_108, tt_109, tt_110, tt_111, tt_112, tt_113, tt_114, tt_115, tt_116, tt_117, tt_118, tt_119]
  exact ⟨by kernel_rfl, by unfold roomOK; omega, by unfold roomOK; omega⟩
def E_join : List V → Boxes → Toks → Name → Option Ent
  | [.agg [.d (.int .i64 c), .d (.list q_a)], .agg [.d (.int .i64 d), .d (.list q_b)]], [], [], _ => some ⟨(ints q_a).length + (ints q_b).length ≤ 1000000 ∧ q_a = LI .i32 (ints q_a) ∧ q_b = LI .i32 (ints q_b), .agg [.d (.int .i64 c), .d (.list (LI .i32 ((ints q_a) ++ (ints q_b))))], [], []⟩
  | _, _, _, _ => none
theorem E_join_eq {c d : Int}  {q_a : List D} {q_b : List D} {nF : Name} : E_join [.agg [.d (.int .i64 c), .d (.list q_a)], .agg [.d (.int .i64 d), .d (.list q_b)]] [] [] nF = some ⟨(ints q_a).length + (ints q_b).length ≤ 1000000 ∧ q_a = LI .i32 (ints q_a) ∧ q_b = LI .i32 (ints q_b), .agg [.d (.int .i64 c), .d (.list (LI .i32 ((ints q_a) ++ (ints q_b))))], [], []⟩ := Eq.trans rfl rfl
theorem E_join_ok : Snd Try.prog 28 E_join := by
  intro vs b k n e h hn hp
  unfold E_join at h
  split at h
  · cases h; obtain ⟨hp0, hq0, hq1⟩ := hp; obtain ⟨_, rfl⟩ := LI_ex hq0; obtain ⟨_, rfl⟩ := LI_ex hq1; simp only [ints_LI, bys_LB, blks_LK, lls_LL] at hp0 ⊢; exact (spec_join _ _ _ _ hp0).lift rfl _
  · cases h

/-- Frames of a block. -/
def cutK (k : Int) (l : List Int) (f t : Nat) : List Int := (l.drop (f * k.toNat)).take ((t - f) * k.toNat)

theorem spec_cut (k : Int) (l : List Int) (f t : Int) (hl : l.length ≤ 1000000) (hk : 1 ≤ k ∧ k ≤ 8) (hf : 0 ≤ f ∧ f ≤ t) (ht : t.toNat * k.toNat ≤ l.length) : Spec Try.prog 0 27 [.agg [.d (.int .i64 k), .d (.list (LI .i32 l))], vI .i64 f, vI .i64 t] [] [] (.agg [.d (.int .i64 k), .d (.list (LI .i32 (cutK k l f.toNat t.toNat)))]) [] [] := by
  refine spec_of_E (X := ⟨Try.prog, tt, Try.f27.ntmps, 1, fun _ => 0, (tab [])⟩) (M := [(1, [0, 0, 0, 0, 0, 4193615, 0, 0, 0, 0, 0, 3949903, 0, 0, 0, 0])]) (m := 79) rfl rfl ⟨tt_ok, tab_ok tabs_nil _ rfl rfl⟩ tt_mixed Try.func27 rfl (by decide) (by show (3 : Nat) ≤ _; exact Nat.le_of_ble_eq_true rfl) ⟨by simp [V.has, C.has], by simp [C.has], by simp⟩ ?_
  simp only [↓gPre, gPost, handV, V.bufs, buildArr, toCs, List.set_cons_succ, List.set_cons_zero, List.foldr_cons, List.foldr_nil, List.append_eq, Nat.reduceShiftRight, Nat.reduceMod, List.mem_cons, addB, addK, zeroOp, callSem, resName, keepsB, newB, V.pure, C.pure, V.ptrs, C.ptrs, C.bufs, appendSem, dstOk, lk, V.cells, Op.eff, partV, partD, cut, lay, zeroD, C.toDs, C.toD, V.toD, toDs, buildCells, List.flatMap_nil, List.flatMap_cons, List.all_nil, List.all_cons, List.map_nil, List.map_cons, List.zip_cons_cons, List.zip_nil_left, List.nil_append, List.append_nil, List.cons_append, List.drop_zero, List.drop_succ_cons, List.take_succ_cons, List.take_zero, List.length_cons, List.length_nil, List.getElem?_cons_succ, List.getElem?_cons_zero, Option.getD_some, Option.getD_none, Option.map_some, Option.map_none, Option.some.injEq, Option.isSome_none, Option.isSome_some, Option.toList_some, Option.toList_none, if_true, if_false, ↓reduceIte, reduceCtorEq, Nat.reduceEqDiff, Nat.reduceLT, Nat.reduceLeDiff, List.not_mem_nil, false_implies, implies_true, true_and, and_true, forall_const, Nat.succ_ne_self, Bool.false_eq_true, Bool.true_and, Bool.and_true, eq_self, ne_eq, not_true_eq_false, not_false_eq_true, or_true, true_or, and_self, imp_self, bne_self_eq_false, beq_self_eq_true, Bool.or_false, Bool.false_or, Bool.and_false, Bool.false_and, false_or, or_false, Nat.reduceAdd, Nat.reduceMul, beq_true, beq_false, Name.mk.injEq, decide_true, decide_false, Bool.or_true, Bool.true_or, Bool.or_self, Bool.not_eq_true', Bool.not_true, Bool.not_false, Bool.true_eq_false, Bool.cond_true_left, Bool.cond_false_right, Nat.zero_add, Int.reduceLE, Int.reduceLT, Int.reduceNeg, Int.reduceAdd, Int.reduceToNat, List.range_succ, List.range_zero, Int.toNat_natCast, List.mem_nil_iff, List.mem_append, LX_nil, LX_length, LX_getD, LX_append, LX_one, LX_cells, LX_inj, LX_nil_eq, LX_inps_LX, LX_take, LX_drop, inps_LX, Try.ntmps27, Try.results27, tt_1, tt_2, tt_3, tt_4, tt_5, tt_6, tt_7, tt_8, tt_12, tt_15, tt_16, tt_17, tt_18, tt_19, tt_21, tt_22, tt_23, tt_24, tt_25, tt_26, tt_27, tt_28, tt_29, tt_30, tt_31, tt_32, tt_33, tt_34, tt_35, tt_36, tt_37, tt_38, tt_39, tt_40, tt_41, tt_42, tt_43, tt_45, tt_46, tt_47, tt_49, tt_50, tt_52, tt_53, tt_55, tt_56, tt_57, tt_58, tt_59, tt_60, tt_61, tt_62, tt_64, tt_65, tt_66, tt_67, tt_68, tt_69, tt_70, tt_71, tt_72, tt_73, tt_74, tt_75, tt_76, tt_77, tt_78, tt_80, tt_81, tt_82, tt_83, tt_85, tt_86, tt_87, tt_88, tt_89, tt_90, tt_91, tt_92, tt_93, tt_94, tt_95, tt_96, tt_97, tt_98, tt_99, tt_100, tt_101, tt_102, tt_103, tt_106, tt_107, tt_108, tt_109, tt_110, tt_111, tt_112, tt_113, tt_114, tt_115, tt_116, tt_117, tt_118, tt_119]
  have hkm : (k.toNat : Int) = k := by omega
  have hfm : (f.toNat : Int) = f := by omega
  have htm : (t.toNat : Int) = t := by omega
  have hle : f.toNat * k.toNat ≤ t.toNat * k.toNat := Nat.mul_le_mul_right _ (by omega)
  have c1 : f * k = ((f.toNat * k.toNat : Nat) : Int) := by rw [Int.natCast_mul, hkm, hfm]
  have c2 : t * k = ((t.toNat * k.toNat : Nat) : Int) := by rw [Int.natCast_mul, hkm, htm]
  have hsub : (t.toNat - f.toNat) * k.toNat = t.toNat * k.toNat - f.toNat * k.toNat := Nat.sub_mul ..
  refine ⟨by kernel_rfl, ?_⟩
  unfold cutK
  rw [c1, c2, hsub]
  generalize f.toNat * k.toNat = x at *
  generalize t.toNat * k.toNat = y at *
  rw [IntWalk.i64_in (x : Int) (by omega), IntWalk.i64_in (y : Int) (by omega)]
  refine ⟨by omega, ?_, rfl⟩
  have : (List.take ((y : Int).toNat - (x : Int).toNat) (List.drop (x : Int).toNat l)).length ≤ l.length := by rw [List.length_take, List.length_drop]; omega
  unfold roomOK
  omega
def E_cut : List V → Boxes → Toks → Name → Option Ent
  | [.agg [.d (.int .i64 k), .d (.list q_l)], .c (.d (.int .i64 f)), .c (.d (.int .i64 t))], [], [], _ => some ⟨(ints q_l).length ≤ 1000000 ∧ (1 ≤ k ∧ k ≤ 8) ∧ (0 ≤ f ∧ f ≤ t) ∧ t.toNat * k.toNat ≤ (ints q_l).length ∧ q_l = LI .i32 (ints q_l), .agg [.d (.int .i64 k), .d (.list (LI .i32 (cutK k (ints q_l) f.toNat t.toNat)))], [], []⟩
  | _, _, _, _ => none
theorem E_cut_eq {k : Int} {f t : Int}  {q_l : List D} {nF : Name} : E_cut [.agg [.d (.int .i64 k), .d (.list q_l)], .c (.d (.int .i64 f)), .c (.d (.int .i64 t))] [] [] nF = some ⟨(ints q_l).length ≤ 1000000 ∧ (1 ≤ k ∧ k ≤ 8) ∧ (0 ≤ f ∧ f ≤ t) ∧ t.toNat * k.toNat ≤ (ints q_l).length ∧ q_l = LI .i32 (ints q_l), .agg [.d (.int .i64 k), .d (.list (LI .i32 (cutK k (ints q_l) f.toNat t.toNat)))], [], []⟩ := Eq.trans rfl rfl
theorem E_cut_ok : Snd Try.prog 27 E_cut := by
  intro vs b k n e h hn hp
  unfold E_cut at h
  split at h
  · cases h; obtain ⟨hp0, hp1, hp2, hp3, hq0⟩ := hp; obtain ⟨_, rfl⟩ := LI_ex hq0; simp only [ints_LI, bys_LB, blks_LK, lls_LL] at hp0 hp1 hp2 hp3 ⊢; exact (spec_cut _ _ _ _ hp0 hp1 hp2 hp3).lift rfl _
  · cases h

/-- Where a block is cut, and the parts. -/
def cqP (n : Nat) (p : List UInt8) : Nat → Nat
  | 0 => 0
  | i + 1 => if cqP n p i + (p[i]?.getD 0).toNat % 8 ≤ n then cqP n p i + (p[i]?.getD 0).toNat % 8 else cqP n p i
def cqL (k : Int) (l : List Int) (n : Nat) (p : List UInt8) : Nat → List (Int × List Int)
  | 0 => []
  | i + 1 => if cqP n p i + (p[i]?.getD 0).toNat % 8 ≤ n then cqL k l n p i ++ [(k, cutK k l (cqP n p i) (cqP n p i + (p[i]?.getD 0).toNat % 8))] else cqL k l n p i
theorem cqP_le (n : Nat) (p : List UInt8) : ∀ i, cqP n p i ≤ n
  | 0 => Nat.zero_le _
  | i + 1 => by have := cqP_le n p i; unfold cqP; split <;> omega
theorem cqL_len (k : Int) (l : List Int) (n : Nat) (p : List UInt8) : ∀ i, (cqL k l n p i).length ≤ i
  | 0 => Nat.le_refl _
  | i + 1 => by
    have := cqL_len k l n p i
    unfold cqL
    split
    · rw [List.length_append]; simp; omega
    · omega

/-- Parts in a row, from one frame to another. -/
def chain (k : Int) (l : List Int) (n : Nat) : Nat → List (Int × List Int) → Prop
  | q, [] => q = n
  | q, x :: xs => ∃ m, q ≤ m ∧ m ≤ n ∧ x = (k, cutK k l q m) ∧ chain k l n m xs
theorem chain_snoc {k : Int} {l : List Int} {n m : Nat} (h : m ≤ n) : ∀ {xs : List (Int × List Int)} {q : Nat}, chain k l m q xs → chain k l n q (xs ++ [(k, cutK k l m n)])
  | [], q, e => ⟨n, by cases e; exact h, Nat.le_refl _, by cases e; rfl, rfl⟩
  | x :: xs, q, ⟨m', h1, h2, h3, h4⟩ => ⟨m', h1, by omega, h3, chain_snoc h h4⟩
theorem cqP_mono (n : Nat) (p : List UInt8) (i : Nat) : cqP n p i ≤ cqP n p (i + 1) := by
  have e : cqP n p (i + 1) = if cqP n p i + (p[i]?.getD 0).toNat % 8 ≤ n then cqP n p i + (p[i]?.getD 0).toNat % 8 else cqP n p i := rfl
  rw [e]
  split
  · exact Nat.le_add_right _ _
  · exact Nat.le_refl _
theorem chain_cq (k : Int) (l : List Int) (n : Nat) (p : List UInt8) : ∀ i, chain k l (cqP n p i) 0 (cqL k l n p i)
  | 0 => rfl
  | i + 1 => by
    have ih := chain_cq k l n p i
    show chain k l (if _ then _ else _) 0 (if _ then _ else _)
    split
    · exact chain_snoc (Nat.le_add_right _ _) ih
    · exact ih
theorem chain_parts (k : Int) (l : List Int) (n : Nat) (p : List UInt8) (i : Nat) : chain k l n 0 (cqL k l n p i ++ [(k, cutK k l (cqP n p i) n)]) :=
  chain_snoc (cqP_le n p i) (chain_cq k l n p i)
theorem cutK_len {k : Int} {l : List Int} {f t : Nat} (h : t * k.toNat ≤ l.length) : (cutK k l f t).length = (t - f) * k.toNat := by
  unfold cutK
  rw [List.length_take, List.length_drop, Nat.sub_mul]
  omega
theorem cutK_get {k : Int} {l : List Int} {f t j : Nat} (hj : j < (t - f) * k.toNat) : (cutK k l f t)[j]? = l[f * k.toNat + j]? := by
  unfold cutK
  rw [List.getElem?_take_of_lt hj, List.getElem?_drop]


theorem blkV_cut {k : Int} {s : List Int} {q m : Nat} (hb : blkV k s = true) (hq : q ≤ m) (hm : m * k.toNat ≤ s.length) (hl : s.length ≤ 65536) : blkV k (cutK k s q m) = true := by
  obtain ⟨hc, ha⟩ := blkV_in hb
  obtain ⟨k1, k2, k3⟩ := chBk_in hc
  have hlen := cutK_len (f := q) hm
  have hle : (cutK k s q m).length ≤ s.length := by unfold cutK; rw [List.length_take, List.length_drop]; omega
  unfold blkV
  have hch : chBk k (cutK k s q m).length = false := by
    rw [hlen] at hle ⊢
    unfold chBk
    have e : (((m - q) * k.toNat : Nat) : Int) = ((m - q : Nat) : Int) * k := by
      rw [Int.natCast_mul]; congr 1; omega
    have hdl : m - q ≤ (m - q) * k.toNat := Nat.le_mul_of_pos_right _ (by omega)
    rw [e, Int.mul_tmod_left, Int.mul_tdiv_cancel _ (by omega), IntWalk.i64_in _ (by omega)]
    simp only [Bool.or_eq_false_iff, decide_eq_false_iff_not, bne_self_eq_false, and_true]
    omega
  rw [hch]
  simp only [Bool.not_false, Bool.true_and, List.all_eq_true]
  intro x hx
  exact List.all_eq_true.1 ha x (List.mem_of_mem_drop (List.mem_of_mem_take hx))

theorem chB_of {c : Int} {s : List Int} (h1 : 1 ≤ c) (h2 : c ≤ 8) (h3 : s.length % c.toNat = 0) (h4 : s.length ≤ 65536) : chB c s = false := by
  have e : c = (c.toNat : Int) := by omega
  have t1 : (s.length : Int).tmod c = 0 := by
    rw [e, Int.tmod_eq_emod_of_nonneg (by omega)]
    exact_mod_cast h3
  have t2 : 0 ≤ (s.length : Int).tdiv c ∧ (s.length : Int).tdiv c ≤ 65536 := by
    rw [Int.tdiv_eq_ediv_of_nonneg (by omega)]
    exact ⟨Int.ediv_nonneg (by omega) (by omega), Int.le_trans (Int.ediv_le_self _ (by omega)) (by omega)⟩
  simp only [chB, t1, Bool.or_eq_false_iff, decide_eq_false_iff_not, bne_self_eq_false, and_true]
  rw [IntWalk.i64_in _ (by omega)]
  omega
/-- A run that succeeds. -/
theorem run_ok {t r g c : Int} {s : List Int} (hv : validL t r g = true) (hc : chB c s = false) (ha : s.all okX = true) :
    runE t r g c s = 0 ∧ runO t r g c s = oAt t r g c s (s.length / c.toNat) ∧ runG t r g c s = gAt t r g c s (s.length / c.toNat) ∧ runT t r g c s = t ∧ runR t r g c s = r ∧ runC t r g c s = c := by
  have e := runE_ok hv hc ha
  simp [runO, runG, runT, runR, runC, e]

def subL (c : Nat) (s : List Int) (q m : Nat) : List Int := (s.drop (q * c)).take (m * c)
theorem frL_sub {c : Int} {s : List Int} {q m j : Nat} (hj : j < m) : frL c (subL c.toNat s q m) j = frL c s (q + j) := by
  unfold frL subL
  rw [List.drop_take, List.drop_drop, List.take_take, ← Nat.add_mul]
  congr 1
  have : j * c.toNat + c.toNat ≤ m * c.toNat := by
    have := Nat.mul_le_mul_right c.toNat (show j + 1 ≤ m from hj)
    rw [Nat.add_mul, Nat.one_mul] at this
    exact this
  omega
theorem gAt_sub {t r g c : Int} {s : List Int} {q m : Nat} : ∀ j, j ≤ m → gAt t r (gAt t r g c s q) c (subL c.toNat s q m) j = gAt t r g c s (q + j)
  | 0, _ => rfl
  | j + 1, h => by
    show gainL t r (gAt t r (gAt t r g c s q) c (subL c.toNat s q m) j) (frL c (subL c.toNat s q m) j) = gainL t r (gAt t r g c s (q + j)) (frL c s (q + j))
    rw [gAt_sub j (by omega), frL_sub (by omega)]
theorem oAt_sub {t r g c : Int} {s : List Int} {q m : Nat} : ∀ j, j ≤ m → oAt t r g c s q ++ oAt t r (gAt t r g c s q) c (subL c.toNat s q m) j = oAt t r g c s (q + j)
  | 0, _ => by simp [oAt]
  | j + 1, h => by
    have e : oAt t r g c s (q + (j + 1)) = oAt t r g c s (q + j) ++ (frL c s (q + j)).map (ampL (gAt t r g c s (q + j + 1))) := rfl
    have e2 : oAt t r (gAt t r g c s q) c (subL c.toNat s q m) (j + 1) = oAt t r (gAt t r g c s q) c (subL c.toNat s q m) j ++ (frL c (subL c.toNat s q m) j).map (ampL (gAt t r (gAt t r g c s q) c (subL c.toNat s q m) (j + 1))) := rfl
    rw [e, e2, ← List.append_assoc, oAt_sub j (by omega), frL_sub (by omega), gAt_sub (j + 1) h]
    rfl
theorem run_sub {t r g c : Int} {s : List Int} (hv : validL t r g = true) (hc : chB c s = false) (ha : s.all okX = true) (hl : s.length ≤ 65536) {q q' : Nat} (h1 : q ≤ q') (h2 : q' ≤ s.length / c.toNat) :
    runE t r (gAt t r g c s q) c (subL c.toNat s q (q' - q)) = 0 ∧ oAt t r g c s q ++ runO t r (gAt t r g c s q) c (subL c.toNat s q (q' - q)) = oAt t r g c s q' ∧ runG t r (gAt t r g c s q) c (subL c.toNat s q (q' - q)) = gAt t r g c s q'
      ∧ runT t r (gAt t r g c s q) c (subL c.toNat s q (q' - q)) = t ∧ runR t r (gAt t r g c s q) c (subL c.toNat s q (q' - q)) = r ∧ (subL c.toNat s q (q' - q)).length = (q' - q) * c.toNat := by
  obtain ⟨c1, c2, c3⟩ := chB_in hc
  have hq' : q' * c.toNat ≤ s.length := by
    have := Nat.mul_le_mul_right c.toNat h2
    omega
  have hlen : (subL c.toNat s q (q' - q)).length = (q' - q) * c.toNat := by
    unfold subL
    rw [List.length_take, List.length_drop]
    have e : (q' - q) * c.toNat = q' * c.toNat - q * c.toNat := Nat.sub_mul ..
    omega
  have hcs : chB c (subL c.toNat s q (q' - q)) = false := chB_of c1 c2 (by rw [hlen]; exact Nat.mul_mod_left _ _) (by
    have : (subL c.toNat s q (q' - q)).length ≤ s.length := by unfold subL; rw [List.length_take, List.length_drop]; omega
    omega)
  have has : (subL c.toNat s q (q' - q)).all okX = true := by
    rw [List.all_eq_true] at ha ⊢
    intro x hx
    exact ha x (List.mem_of_mem_drop (List.mem_of_mem_take hx))
  obtain ⟨q1, q2, q3, q4, q5, _⟩ := run_ok (gAt_in (c := c) (s := s) hv q) hcs has
  have hd : (subL c.toNat s q (q' - q)).length / c.toNat = q' - q := by rw [hlen]; exact Nat.mul_div_cancel _ (by omega)
  rw [q2, q3, hd, gAt_sub _ (Nat.le_refl _), oAt_sub _ (Nat.le_refl _), show q + (q' - q) = q' by omega]
  exact ⟨q1, rfl, rfl, q4, q5, hlen⟩

/-- The ramp behind so many frames. -/
def rampA (c d : Int) (q : Nat) : Int := if d + (q : Int) < c then d + (q : Int) else c
theorem rampA_zero {a b c d : Int} (h : validG a b c d = true) : rampA c d 0 = d := by
  have := validG_in h
  unfold rampA; split <;> omega
theorem rampA_valid {a b c d : Int} (h : validG a b c d = true) (q : Nat) : validG a b c (rampA c d q) = true := by
  have := validG_in h
  refine validG_of this.1 this.2.1 (by omega) ?_
  unfold rampA; split <;> omega
theorem rampA_add {c d : Int} {q m : Nat} : rampA c (rampA c d q) m = rampA c d (q + m) := by
  unfold rampA; split <;> split <;> omega
theorem gainG_ramp {a b c d : Int} {q : Nat} {i : Int} (hi : 0 ≤ i) : gainG a b c (rampA c d q) i = gainG a b c d (q + i) := by
  unfold gainG rampA
  by_cases h : d + (q : Int) < c
  · rw [if_pos h]
    have e1 : (c - (d + (q : Int)) ≤ i) = (c - d ≤ (q : Int) + i) := by apply propext; constructor <;> intro h <;> omega
    have e2 : d + (q : Int) + i = d + ((q : Int) + i) := by omega
    simp only [e1, e2]
  · rw [if_neg h, if_pos (by omega), if_pos (by omega)]

def cutA (k : Nat) (x : Inp) : Inp := { x with l := cutK x.c x.l 0 (min (x.l.length / x.c.toNat) k) }
def cutB (k : Nat) (x : Inp) : Inp := { x with l := cutK x.c x.l (min (x.l.length / x.c.toNat) k) (x.l.length / x.c.toNat), i := rampA x.n x.i k }
theorem cut_blk {c : Int} {l : List Int} {f t : Nat} (hb : blkV c l = true) (hl : l.length ≤ 1000000) (ht : t ≤ l.length / c.toNat) : blkV c (cutK c l f t) = true ∧ (cutK c l f t).length = (t - f) * c.toNat := by
  obtain ⟨hc, ha⟩ := blkV_in hb
  obtain ⟨k1, k2, k3⟩ := chBk_in hc
  have hz := blkV_frames hb hl
  have hlen : (cutK c l f t).length = (t - f) * c.toNat := cutK_len (by rw [k3]; exact Nat.mul_le_mul_right _ ht)
  refine ⟨blkV_mk ⟨k1, k2⟩ hlen (by omega) ?_, hlen⟩
  rw [List.all_eq_true] at ha ⊢
  intro x hx
  exact ha x (List.mem_of_mem_drop (List.mem_of_mem_take hx))
theorem cutK_at {k : Int} {l : List Int} {f t A z j : Nat} (hA : k.toNat = A) (hj : j < A) (hz : z < t - f) : atL (cutK k l f t) (z * A + j) = atL l ((f + z) * A + j) := by
  have hcell := cell_lt hj hz
  unfold atL
  rw [cutK_get (by rw [hA, Nat.mul_comm (t - f) A]; exact hcell), hA, Nat.add_mul, Nat.add_assoc]
theorem inE_mk {ch fr : Int} {x : Inp} (h1 : blkV x.c x.l = true) (h2 : mxV x.a x.b x.m = true) (h3 : validG x.f x.t x.n x.i = true) (h4 : x.a = x.c) (h5 : x.b = ch) (h6 : ((x.l.length / x.c.toNat : Nat) : Int) ≤ fr) : inE ch fr x = 0 := by
  unfold inE
  rw [if_neg (by rw [h1, h2, h3]; decide), if_neg (by rw [h4, h5]; simp), if_neg (by omega)]
theorem cutA_ok {ch fr : Int} {x : Inp} {k : Nat} (h : inE ch fr x = 0) (hl : x.l.length ≤ 1000000) : inE ch (k : Int) (cutA k x) = 0 ∧ (cutA k x).l.length ≤ x.l.length ∧ (cutA k x).l.length / (cutA k x).c.toNat = min (x.l.length / x.c.toNat) k := by
  obtain ⟨h1, h2, h3, h4, h5, h6⟩ := inE_ok h
  obtain ⟨hc, ha⟩ := blkV_in h1
  obtain ⟨k1, k2, k3⟩ := chBk_in hc
  obtain ⟨b1, b2⟩ := cut_blk (f := 0) (t := min (x.l.length / x.c.toNat) k) h1 hl (Nat.min_le_left _ _)
  have hd : (cutA k x).l.length / (cutA k x).c.toNat = min (x.l.length / x.c.toNat) k := by
    show (cutK x.c x.l 0 (min (x.l.length / x.c.toNat) k)).length / x.c.toNat = _
    rw [b2, Nat.sub_zero, Nat.mul_div_cancel _ (by omega)]
  refine ⟨inE_mk (x := cutA k x) b1 h2 h3 h4 h5 (by rw [hd]; omega), ?_, hd⟩
  show (cutK x.c x.l 0 (min (x.l.length / x.c.toNat) k)).length ≤ _
  unfold cutK
  rw [List.length_take, List.length_drop]
  omega
theorem cutB_ok {ch fr : Int} {x : Inp} {k : Nat} (h : inE ch fr x = 0) (hl : x.l.length ≤ 1000000) (hk : (k : Int) ≤ fr) : inE ch (fr - k) (cutB k x) = 0 ∧ (cutB k x).l.length ≤ x.l.length ∧ (cutB k x).l.length / (cutB k x).c.toNat = x.l.length / x.c.toNat - min (x.l.length / x.c.toNat) k := by
  obtain ⟨h1, h2, h3, h4, h5, h6⟩ := inE_ok h
  obtain ⟨hc, ha⟩ := blkV_in h1
  obtain ⟨k1, k2, k3⟩ := chBk_in hc
  obtain ⟨b1, b2⟩ := cut_blk (f := min (x.l.length / x.c.toNat) k) (t := x.l.length / x.c.toNat) h1 hl (Nat.le_refl _)
  have hd : (cutB k x).l.length / (cutB k x).c.toNat = x.l.length / x.c.toNat - min (x.l.length / x.c.toNat) k := by
    show (cutK x.c x.l (min (x.l.length / x.c.toNat) k) (x.l.length / x.c.toNat)).length / x.c.toNat = _
    rw [b2, Nat.mul_div_cancel _ (by omega)]
  refine ⟨inE_mk (x := cutB k x) b1 h2 (rampA_valid h3 k) h4 h5 (by rw [hd]; omega), ?_, hd⟩
  show (cutK x.c x.l (min (x.l.length / x.c.toNat) k) (x.l.length / x.c.toNat)).length ≤ _
  unfold cutK
  rw [List.length_take, List.length_drop]
  omega
theorem paO_cutA {ch fr : Int} {x : Inp} {k : Nat} (h : inE ch fr x = 0) (hl : x.l.length ≤ 1000000) {z r : Nat} (hr : r < ch.toNat) (hz : z < k) : (paO ch k (cutA k x))[z * ch.toNat + r]?.getD 0 = (paO ch fr x)[z * ch.toNat + r]?.getD 0 := by
  obtain ⟨a1, a2, a3⟩ := cutA_ok (k := k) h hl
  rw [paO_at a1 (by omega) hr, paO_at h hl hr, a3]
  obtain ⟨h1, h2, h3, h4, h5, h6⟩ := inE_ok h
  by_cases hzn : z < x.l.length / x.c.toNat
  · rw [if_pos (by omega), if_pos hzn]
    have e : dotN (fun c => atL (cutA k x).m (r * (cutA k x).a.toNat + c)) (fun c => atL (cutA k x).l (z * (cutA k x).a.toNat + c)) (cutA k x).a.toNat = dotN (fun c => atL x.m (r * x.a.toNat + c)) (fun c => atL x.l (z * x.a.toNat + c)) x.a.toNat :=
      dotN_congr _ fun c hc => ⟨rfl, by
        have := cutK_at (k := x.c) (l := x.l) (f := 0) (t := min (x.l.length / x.c.toNat) k) (A := x.a.toNat) (z := z) (by rw [h4]) hc (by omega)
        rw [Nat.zero_add] at this
        exact this⟩
    rw [e]; rfl
  · rw [if_neg (by omega), if_neg hzn]
theorem paO_cutB {ch fr : Int} {x : Inp} {k : Nat} (h : inE ch fr x = 0) (hl : x.l.length ≤ 1000000) (hk : (k : Int) ≤ fr) {z r : Nat} (hr : r < ch.toNat) : (paO ch (fr - k) (cutB k x))[z * ch.toNat + r]?.getD 0 = (paO ch fr x)[(k + z) * ch.toNat + r]?.getD 0 := by
  obtain ⟨a1, a2, a3⟩ := cutB_ok (k := k) h hl hk
  rw [paO_at a1 (by omega) hr, paO_at h hl hr, a3]
  obtain ⟨h1, h2, h3, h4, h5, h6⟩ := inE_ok h
  by_cases hzn : k + z < x.l.length / x.c.toNat
  · rw [if_pos (by omega), if_pos hzn]
    have hm : min (x.l.length / x.c.toNat) k = k := by omega
    have e : dotN (fun c => atL (cutB k x).m (r * (cutB k x).a.toNat + c)) (fun c => atL (cutB k x).l (z * (cutB k x).a.toNat + c)) (cutB k x).a.toNat = dotN (fun c => atL x.m (r * x.a.toNat + c)) (fun c => atL x.l ((k + z) * x.a.toNat + c)) x.a.toNat :=
      dotN_congr _ fun c hc => ⟨rfl, by
        have := cutK_at (k := x.c) (l := x.l) (f := min (x.l.length / x.c.toNat) k) (t := x.l.length / x.c.toNat) (A := x.a.toNat) (z := z) (by rw [h4]) hc (by omega)
        rw [hm] at this
        show atL (cutK x.c x.l (min (x.l.length / x.c.toNat) k) (x.l.length / x.c.toNat)) (z * x.a.toNat + c) = _
        rw [hm]
        exact this⟩
    have eg : gainG (cutB k x).f (cutB k x).t (cutB k x).n (cutB k x).i (z : Int) = gainG x.f x.t x.n x.i ((k + z : Nat) : Int) := by
      show gainG x.f x.t x.n (rampA x.n x.i k) (z : Int) = _
      rw [gainG_ramp (by omega)]; rfl
    rw [e, eg]
  · rw [if_neg (by omega), if_neg hzn]
theorem sumP_cutA {ch fr : Int} {k : Nat} {z r : Nat} (hr : r < ch.toNat) (hz : z < k) : ∀ {A : List Inp}, keptI A → (∀ x ∈ A, inE ch fr x = 0) → sumP ch k (A.map (cutA k)) (z * ch.toNat + r) = sumP ch fr A (z * ch.toNat + r)
  | [], _, _ => rfl
  | x :: A, hA, hE => by
    rw [List.map_cons, sumP_cons, sumP_cons, paO_cutA (hE x List.mem_cons_self) (hA x List.mem_cons_self).1 hr hz, sumP_cutA hr hz (fun y hy => hA y (List.mem_cons_of_mem _ hy)) (fun y hy => hE y (List.mem_cons_of_mem _ hy))]
theorem sumP_cutB {ch fr : Int} {k : Nat} (hk : (k : Int) ≤ fr) {z r : Nat} (hr : r < ch.toNat) : ∀ {A : List Inp}, keptI A → (∀ x ∈ A, inE ch fr x = 0) → sumP ch (fr - k) (A.map (cutB k)) (z * ch.toNat + r) = sumP ch fr A ((k + z) * ch.toNat + r)
  | [], _, _ => rfl
  | x :: A, hA, hE => by
    rw [List.map_cons, sumP_cons, sumP_cons, paO_cutB (hE x List.mem_cons_self) (hA x List.mem_cons_self).1 hk hr, sumP_cutB hk hr (fun y hy => hA y (List.mem_cons_of_mem _ hy)) (fun y hy => hE y (List.mem_cons_of_mem _ hy))]
/-- Cell by cell in frames. -/
theorem ext_cells {l m : List Int} {B : Nat} (hB : 0 < B) (h : l.length = m.length) (h2 : ∀ z r, r < B → atL l (z * B + r) = atL m (z * B + r)) : l = m := by
  refine ext_getD h fun j => ?_
  have := h2 (j / B) (j % B) (Nat.mod_lt _ hB)
  have e : j / B * B + j % B = j := by rw [Nat.mul_comm]; exact Nat.div_add_mod j B
  rw [e] at this
  exact this
theorem subL_two {s : List Int} {c k n : Nat} (hl : s.length = n * c) (hk : k ≤ n) (s1 s2 : List Int) (h1 : s1.length = k * c) (h : s1 ++ s2 = s) : subL c s 0 k = s1 ∧ subL c s k (n - k) = s2 := by
  subst h
  unfold subL
  rw [Nat.zero_mul, List.drop_zero]
  constructor
  · rw [← h1]; exact List.take_left' rfl
  · rw [← h1, List.drop_left' rfl, List.take_of_length_le]
    rw [List.length_append, h1] at hl
    rw [Nat.sub_mul]
    omega


theorem spec_pieces (s : List UInt8) (w : Int) (hw : 0 ≤ w ∧ w ≤ 255) : Spec Try.prog 0 7 [vL (LB s), vI .u8 w] [] [] (vB true) [] [] := by
  refine spec_of_E (X := ⟨Try.prog, tt, Try.f7.ntmps, 1, fun _ => 0, (tab [(8, E_sane), (9, E_new), (10, E_next), (11, E_made), (12, E_limit), (14, E_mix), (26, E_frames), (27, E_cut), (24, E_after), (28, E_join), (15, E_same)])⟩) (M := [(7, [0, 0, 0, 0, 0, 2475880083146980722770640883, 0, 0, 0, 0, 0, 2475880083110388975798255603, 0, 0]), (22, [0, 0, 0, 0, 0, 4553403431899882904392351598182387, 0, 0, 0, 0, 0, 3894225119781203615614065931386867, 0, 0]), (23, [0, 0, 0, 0, 0, 10566324109594254306953776223647367155, 0, 0, 0, 0, 0, 9304595972970291193220865615646883827, 0, 0, 0, 0]), (24, [0, 0, 0, 0, 0, 44601150114694327820488056064905484928221171, 0, 0, 0, 0, 0, 44590601361319778728120691452075100113666035, 0, 0, 0, 0, 0, 44253041253334207772365023841502786047901683, 0, 0, 0, 0, 0])]) (m := 2475880082894216193684471795) rfl rfl ⟨tt_ok, tab_ok (tabs_cons E_sane_ok (tabs_cons E_new_ok (tabs_cons E_next_ok (tabs_cons E_made_ok (tabs_cons E_limit_ok (tabs_cons E_mix_ok (tabs_cons E_frames_ok (tabs_cons E_cut_ok (tabs_cons E_after_ok (tabs_cons E_join_ok (tabs_cons E_same_ok tabs_nil))))))))))) _ rfl rfl⟩ tt_mixed Try.func7 rfl (by decide) (by show (2 : Nat) ≤ _; exact Nat.le_of_ble_eq_true rfl) ⟨fun m hm => (V.bare_has rfl m hm).elim, by simp, by simp⟩ ?_
  simp only [↓gPre, gPost, handV, V.bufs, buildArr, toCs, List.set_cons_succ, List.set_cons_zero, List.foldr_cons, List.foldr_nil, List.append_eq, Nat.reduceShiftRight, Nat.reduceMod, List.mem_cons, addB, addK, zeroOp, callSem, resName, keepsB, newB, V.pure, C.pure, V.ptrs, C.ptrs, C.bufs, appendSem, dstOk, lk, V.cells, Op.eff, partV, partD, cut, lay, zeroD, C.toDs, C.toD, V.toD, toDs, buildCells, List.flatMap_nil, List.flatMap_cons, List.all_nil, List.all_cons, List.map_nil, List.map_cons, List.zip_cons_cons, List.zip_nil_left, List.nil_append, List.append_nil, List.cons_append, List.drop_zero, List.drop_succ_cons, List.take_succ_cons, List.take_zero, List.length_cons, List.length_nil, List.getElem?_cons_succ, List.getElem?_cons_zero, Option.getD_some, Option.getD_none, Option.map_some, Option.map_none, Option.some.injEq, Option.isSome_none, Option.isSome_some, Option.toList_some, Option.toList_none, if_true, if_false, ↓reduceIte, reduceCtorEq, Nat.reduceEqDiff, Nat.reduceLT, Nat.reduceLeDiff, List.not_mem_nil, false_implies, implies_true, true_and, and_true, forall_const, Nat.succ_ne_self, Bool.false_eq_true, Bool.true_and, Bool.and_true, eq_self, ne_eq, not_true_eq_false, not_false_eq_true, or_true, true_or, and_self, imp_self, bne_self_eq_false, beq_self_eq_true, Bool.or_false, Bool.false_or, Bool.and_false, Bool.false_and, false_or, or_false, Nat.reduceAdd, Nat.reduceMul, beq_true, beq_false, Name.mk.injEq, decide_true, decide_false, Bool.or_true, Bool.true_or, Bool.or_self, Bool.not_eq_true', Bool.not_true, Bool.not_false, Bool.true_eq_false, Bool.cond_true_left, Bool.cond_false_right, Nat.zero_add, Int.reduceLE, Int.reduceLT, Int.reduceNeg, Int.reduceAdd, Int.reduceToNat, List.range_succ, List.range_zero, Int.toNat_natCast, List.mem_nil_iff, List.mem_append, E_sane_eq, E_new_eq, E_next_eq, E_made_eq, E_limit_eq, E_mix_eq, E_frames_eq, E_cut_eq, E_after_eq, E_join_eq, E_same_eq, LX_nil, LX_length, LX_getD, LX_append, LX_one, LX_cells, LX_inj, LX_nil_eq, LX_inps_LX, LX_take, LX_drop, inps_LX, Try.ntmps7, Try.results7, tt_1, tt_2, tt_3, tt_4, tt_5, tt_6, tt_7, tt_8, tt_12, tt_15, tt_16, tt_17, tt_18, tt_19, tt_21, tt_22, tt_23, tt_24, tt_25, tt_26, tt_27, tt_28, tt_29, tt_30, tt_31, tt_32, tt_33, tt_34, tt_35, tt_36, tt_37, tt_38, tt_39, tt_40, tt_41, tt_42, tt_43, tt_45, tt_46, tt_47, tt_49, tt_50, tt_52, tt_53, tt_55, tt_56, tt_57, tt_58, tt_59, tt_60, tt_61, tt_62, tt_64, tt_65, tt_66, tt_67, tt_68, tt_69, tt_70, tt_71, tt_72, tt_73, tt_74, tt_75, tt_76, tt_77, tt_78, tt_80, tt_81, tt_82, tt_83, tt_85, tt_86, tt_87, tt_88, tt_89, tt_90, tt_91, tt_92, tt_93, tt_94, tt_95, tt_96, tt_97, tt_98, tt_99, tt_100, tt_101, tt_102, tt_103, tt_106, tt_107, tt_108, tt_109, tt_110, tt_111, tt_112, tt_113, tt_114, tt_115, tt_116, tt_117, tt_118, tt_119]
  have p0 := dN_ge (List.take 300 s) 3
  have p1 := dN_lt (List.take 300 s) 3 (by decide)
  have q0 := dN_ge (dT (List.take 300 s) 3) 12
  have q1 := dN_lt (dT (List.take 300 s) 3) 12 (by decide)
  rw [IntWalk.i64_in (1 + dN (List.take 300 s) 3) (by omega)]
  generalize dT (dT (List.take 300 s) 3) 12 = s1 at *
  generalize dN (dT (List.take 300 s) 3) 12 = q at *
  generalize hp : 1 + dN (List.take 300 s) 3 = p at *
  have hpb : 1 ≤ p ∧ p ≤ 8 := by omega
  have hqb : 0 ≤ q ∧ q ≤ 100 := by omega
  have n1 := mdL_len s1 p q (dN s1 5).toNat
  have kA := kept_mdL s1 (ch := p) (fr := q) hpb hqb (dN s1 5).toNat
  have oA := md_ok s1 (ch := p) (fr := q) hpb hqb (dN s1 5).toNat
  have u0 := dN_ge s1 5
  have u1 := dN_lt s1 5 (by decide)
  generalize mdL s1 p q (dN s1 5).toNat = A at *
  generalize mdR s1 p q (dN s1 5).toNat = s2 at *
  have hv := lim_ok s2
  generalize newT (lmT s2) (lmR s2) = T at *
  generalize newR (lmT s2) (lmR s2) = R at *
  generalize newG (lmT s2) (lmR s2) = G at *
  have hA4 : A.length ≤ 4 := by omega
  rw [IntWalk.i64_in w (by omega), IntWalk.i64_in (q + 1) (by omega)]
  have tm : w.tmod (q + 1) = ((w.toNat % (q + 1).toNat : Nat) : Int) := by
    have := tmodN w.toNat (s := q + 1) (by omega)
    rw [← this]
    congr 1
    omega
  rw [tm]
  have hmod : w.toNat % (q + 1).toNat < (q + 1).toNat := Nat.mod_lt _ (by omega)
  generalize w.toNat % (q + 1).toNat = k at *
  have hkq : (k : Int) ≤ q := by omega
  refine ⟨⟨hpb, by omega⟩, by omega, kA, ?_⟩
  refine ELoop_nilT 14 9 ⟨1, 99⟩ rfl (by simp only [↓gPre, gPost, handV, V.bufs, buildArr, toCs, List.set_cons_succ, List.set_cons_zero, List.foldr_cons, List.foldr_nil, List.append_eq, Nat.reduceShiftRight, Nat.reduceMod, List.mem_cons, addB, addK, zeroOp, callSem, resName, keepsB, newB, V.pure, C.pure, V.ptrs, C.ptrs, C.bufs, appendSem, dstOk, lk, V.cells, Op.eff, partV, partD, cut, lay, zeroD, C.toDs, C.toD, V.toD, toDs, buildCells, List.flatMap_nil, List.flatMap_cons, List.all_nil, List.all_cons, List.map_nil, List.map_cons, List.zip_cons_cons, List.zip_nil_left, List.nil_append, List.append_nil, List.cons_append, List.drop_zero, List.drop_succ_cons, List.take_succ_cons, List.take_zero, List.length_cons, List.length_nil, List.getElem?_cons_succ, List.getElem?_cons_zero, Option.getD_some, Option.getD_none, Option.map_some, Option.map_none, Option.some.injEq, Option.isSome_none, Option.isSome_some, Option.toList_some, Option.toList_none, if_true, if_false, ↓reduceIte, reduceCtorEq, Nat.reduceEqDiff, Nat.reduceLT, Nat.reduceLeDiff, List.not_mem_nil, false_implies, implies_true, true_and, and_true, forall_const, Nat.succ_ne_self, Bool.false_eq_true, Bool.true_and, Bool.and_true, eq_self, ne_eq, not_true_eq_false, not_false_eq_true, or_true, true_or, and_self, imp_self, bne_self_eq_false, beq_self_eq_true, Bool.or_false, Bool.false_or, Bool.and_false, Bool.false_and, false_or, or_false, Nat.reduceAdd, Nat.reduceMul, beq_true, beq_false, Name.mk.injEq, decide_true, decide_false, Bool.or_true, Bool.true_or, Bool.or_self, Bool.not_eq_true', Bool.not_true, Bool.not_false, Bool.true_eq_false, Bool.cond_true_left, Bool.cond_false_right, Nat.zero_add, Int.reduceLE, Int.reduceLT, Int.reduceNeg, Int.reduceAdd, Int.reduceToNat, List.range_succ, List.range_zero, Int.toNat_natCast, List.mem_nil_iff, List.mem_append, E_sane_eq, E_new_eq, E_next_eq, E_made_eq, E_limit_eq, E_mix_eq, E_frames_eq, E_cut_eq, E_after_eq, E_join_eq, E_same_eq, LX_nil, LX_length, LX_getD, LX_append, LX_one, LX_cells, LX_inj, LX_nil_eq, LX_inps_LX, LX_take, LX_drop, inps_LX, Try.ntmps7, Try.results7, tt_1, tt_2, tt_3, tt_4, tt_5, tt_6, tt_7, tt_8, tt_12, tt_15, tt_16, tt_17, tt_18, tt_19, tt_21, tt_22, tt_23, tt_24, tt_25, tt_26, tt_27, tt_28, tt_29, tt_30, tt_31, tt_32, tt_33, tt_34, tt_35, tt_36, tt_37, tt_38, tt_39, tt_40, tt_41, tt_42, tt_43, tt_45, tt_46, tt_47, tt_49, tt_50, tt_52, tt_53, tt_55, tt_56, tt_57, tt_58, tt_59, tt_60, tt_61, tt_62, tt_64, tt_65, tt_66, tt_67, tt_68, tt_69, tt_70, tt_71, tt_72, tt_73, tt_74, tt_75, tt_76, tt_77, tt_78, tt_80, tt_81, tt_82, tt_83, tt_85, tt_86, tt_87, tt_88, tt_89, tt_90, tt_91, tt_92, tt_93, tt_94, tt_95, tt_96, tt_97, tt_98, tt_99, tt_100, tt_101, tt_102, tt_103, tt_106, tt_107, tt_108, tt_109, tt_110, tt_111, tt_112, tt_113, tt_114, tt_115, tt_116, tt_117, tt_118, tt_119]) (Nat.le_refl _) ?_
  simp only [↓gPre, gPost, handV, V.bufs, buildArr, toCs, List.set_cons_succ, List.set_cons_zero, List.foldr_cons, List.foldr_nil, List.append_eq, Nat.reduceShiftRight, Nat.reduceMod, List.mem_cons, addB, addK, zeroOp, callSem, resName, keepsB, newB, V.pure, C.pure, V.ptrs, C.ptrs, C.bufs, appendSem, dstOk, lk, V.cells, Op.eff, partV, partD, cut, lay, zeroD, C.toDs, C.toD, V.toD, toDs, buildCells, List.flatMap_nil, List.flatMap_cons, List.all_nil, List.all_cons, List.map_nil, List.map_cons, List.zip_cons_cons, List.zip_nil_left, List.nil_append, List.append_nil, List.cons_append, List.drop_zero, List.drop_succ_cons, List.take_succ_cons, List.take_zero, List.length_cons, List.length_nil, List.getElem?_cons_succ, List.getElem?_cons_zero, Option.getD_some, Option.getD_none, Option.map_some, Option.map_none, Option.some.injEq, Option.isSome_none, Option.isSome_some, Option.toList_some, Option.toList_none, if_true, if_false, ↓reduceIte, reduceCtorEq, Nat.reduceEqDiff, Nat.reduceLT, Nat.reduceLeDiff, List.not_mem_nil, false_implies, implies_true, true_and, and_true, forall_const, Nat.succ_ne_self, Bool.false_eq_true, Bool.true_and, Bool.and_true, eq_self, ne_eq, not_true_eq_false, not_false_eq_true, or_true, true_or, and_self, imp_self, bne_self_eq_false, beq_self_eq_true, Bool.or_false, Bool.false_or, Bool.and_false, Bool.false_and, false_or, or_false, Nat.reduceAdd, Nat.reduceMul, beq_true, beq_false, Name.mk.injEq, decide_true, decide_false, Bool.or_true, Bool.true_or, Bool.or_self, Bool.not_eq_true', Bool.not_true, Bool.not_false, Bool.true_eq_false, Bool.cond_true_left, Bool.cond_false_right, Nat.zero_add, Int.reduceLE, Int.reduceLT, Int.reduceNeg, Int.reduceAdd, Int.reduceToNat, List.range_succ, List.range_zero, Int.toNat_natCast, List.mem_nil_iff, List.mem_append, E_sane_eq, E_new_eq, E_next_eq, E_made_eq, E_limit_eq, E_mix_eq, E_frames_eq, E_cut_eq, E_after_eq, E_join_eq, E_same_eq, LX_nil, LX_length, LX_getD, LX_append, LX_one, LX_cells, LX_inj, LX_nil_eq, LX_inps_LX, LX_take, LX_drop, inps_LX, Try.ntmps7, Try.results7, tt_1, tt_2, tt_3, tt_4, tt_5, tt_6, tt_7, tt_8, tt_12, tt_15, tt_16, tt_17, tt_18, tt_19, tt_21, tt_22, tt_23, tt_24, tt_25, tt_26, tt_27, tt_28, tt_29, tt_30, tt_31, tt_32, tt_33, tt_34, tt_35, tt_36, tt_37, tt_38, tt_39, tt_40, tt_41, tt_42, tt_43, tt_45, tt_46, tt_47, tt_49, tt_50, tt_52, tt_53, tt_55, tt_56, tt_57, tt_58, tt_59, tt_60, tt_61, tt_62, tt_64, tt_65, tt_66, tt_67, tt_68, tt_69, tt_70, tt_71, tt_72, tt_73, tt_74, tt_75, tt_76, tt_77, tt_78, tt_80, tt_81, tt_82, tt_83, tt_85, tt_86, tt_87, tt_88, tt_89, tt_90, tt_91, tt_92, tt_93, tt_94, tt_95, tt_96, tt_97, tt_98, tt_99, tt_100, tt_101, tt_102, tt_103, tt_106, tt_107, tt_108, tt_109, tt_110, tt_111, tt_112, tt_113, tt_114, tt_115, tt_116, tt_117, tt_118, tt_119]
  refine ELoop_nilT 15 9 ⟨1, 98⟩ rfl (by simp only [↓gPre, gPost, handV, V.bufs, buildArr, toCs, List.set_cons_succ, List.set_cons_zero, List.foldr_cons, List.foldr_nil, List.append_eq, Nat.reduceShiftRight, Nat.reduceMod, List.mem_cons, addB, addK, zeroOp, callSem, resName, keepsB, newB, V.pure, C.pure, V.ptrs, C.ptrs, C.bufs, appendSem, dstOk, lk, V.cells, Op.eff, partV, partD, cut, lay, zeroD, C.toDs, C.toD, V.toD, toDs, buildCells, List.flatMap_nil, List.flatMap_cons, List.all_nil, List.all_cons, List.map_nil, List.map_cons, List.zip_cons_cons, List.zip_nil_left, List.nil_append, List.append_nil, List.cons_append, List.drop_zero, List.drop_succ_cons, List.take_succ_cons, List.take_zero, List.length_cons, List.length_nil, List.getElem?_cons_succ, List.getElem?_cons_zero, Option.getD_some, Option.getD_none, Option.map_some, Option.map_none, Option.some.injEq, Option.isSome_none, Option.isSome_some, Option.toList_some, Option.toList_none, if_true, if_false, ↓reduceIte, reduceCtorEq, Nat.reduceEqDiff, Nat.reduceLT, Nat.reduceLeDiff, List.not_mem_nil, false_implies, implies_true, true_and, and_true, forall_const, Nat.succ_ne_self, Bool.false_eq_true, Bool.true_and, Bool.and_true, eq_self, ne_eq, not_true_eq_false, not_false_eq_true, or_true, true_or, and_self, imp_self, bne_self_eq_false, beq_self_eq_true, Bool.or_false, Bool.false_or, Bool.and_false, Bool.false_and, false_or, or_false, Nat.reduceAdd, Nat.reduceMul, beq_true, beq_false, Name.mk.injEq, decide_true, decide_false, Bool.or_true, Bool.true_or, Bool.or_self, Bool.not_eq_true', Bool.not_true, Bool.not_false, Bool.true_eq_false, Bool.cond_true_left, Bool.cond_false_right, Nat.zero_add, Int.reduceLE, Int.reduceLT, Int.reduceNeg, Int.reduceAdd, Int.reduceToNat, List.range_succ, List.range_zero, Int.toNat_natCast, List.mem_nil_iff, List.mem_append, E_sane_eq, E_new_eq, E_next_eq, E_made_eq, E_limit_eq, E_mix_eq, E_frames_eq, E_cut_eq, E_after_eq, E_join_eq, E_same_eq, LX_nil, LX_length, LX_getD, LX_append, LX_one, LX_cells, LX_inj, LX_nil_eq, LX_inps_LX, LX_take, LX_drop, inps_LX, Try.ntmps7, Try.results7, tt_1, tt_2, tt_3, tt_4, tt_5, tt_6, tt_7, tt_8, tt_12, tt_15, tt_16, tt_17, tt_18, tt_19, tt_21, tt_22, tt_23, tt_24, tt_25, tt_26, tt_27, tt_28, tt_29, tt_30, tt_31, tt_32, tt_33, tt_34, tt_35, tt_36, tt_37, tt_38, tt_39, tt_40, tt_41, tt_42, tt_43, tt_45, tt_46, tt_47, tt_49, tt_50, tt_52, tt_53, tt_55, tt_56, tt_57, tt_58, tt_59, tt_60, tt_61, tt_62, tt_64, tt_65, tt_66, tt_67, tt_68, tt_69, tt_70, tt_71, tt_72, tt_73, tt_74, tt_75, tt_76, tt_77, tt_78, tt_80, tt_81, tt_82, tt_83, tt_85, tt_86, tt_87, tt_88, tt_89, tt_90, tt_91, tt_92, tt_93, tt_94, tt_95, tt_96, tt_97, tt_98, tt_99, tt_100, tt_101, tt_102, tt_103, tt_106, tt_107, tt_108, tt_109, tt_110, tt_111, tt_112, tt_113, tt_114, tt_115, tt_116, tt_117, tt_118, tt_119]) (Nat.le_refl _) ?_
  simp only [↓gPre, gPost, handV, V.bufs, buildArr, toCs, List.set_cons_succ, List.set_cons_zero, List.foldr_cons, List.foldr_nil, List.append_eq, Nat.reduceShiftRight, Nat.reduceMod, List.mem_cons, addB, addK, zeroOp, callSem, resName, keepsB, newB, V.pure, C.pure, V.ptrs, C.ptrs, C.bufs, appendSem, dstOk, lk, V.cells, Op.eff, partV, partD, cut, lay, zeroD, C.toDs, C.toD, V.toD, toDs, buildCells, List.flatMap_nil, List.flatMap_cons, List.all_nil, List.all_cons, List.map_nil, List.map_cons, List.zip_cons_cons, List.zip_nil_left, List.nil_append, List.append_nil, List.cons_append, List.drop_zero, List.drop_succ_cons, List.take_succ_cons, List.take_zero, List.length_cons, List.length_nil, List.getElem?_cons_succ, List.getElem?_cons_zero, Option.getD_some, Option.getD_none, Option.map_some, Option.map_none, Option.some.injEq, Option.isSome_none, Option.isSome_some, Option.toList_some, Option.toList_none, if_true, if_false, ↓reduceIte, reduceCtorEq, Nat.reduceEqDiff, Nat.reduceLT, Nat.reduceLeDiff, List.not_mem_nil, false_implies, implies_true, true_and, and_true, forall_const, Nat.succ_ne_self, Bool.false_eq_true, Bool.true_and, Bool.and_true, eq_self, ne_eq, not_true_eq_false, not_false_eq_true, or_true, true_or, and_self, imp_self, bne_self_eq_false, beq_self_eq_true, Bool.or_false, Bool.false_or, Bool.and_false, Bool.false_and, false_or, or_false, Nat.reduceAdd, Nat.reduceMul, beq_true, beq_false, Name.mk.injEq, decide_true, decide_false, Bool.or_true, Bool.true_or, Bool.or_self, Bool.not_eq_true', Bool.not_true, Bool.not_false, Bool.true_eq_false, Bool.cond_true_left, Bool.cond_false_right, Nat.zero_add, Int.reduceLE, Int.reduceLT, Int.reduceNeg, Int.reduceAdd, Int.reduceToNat, List.range_succ, List.range_zero, Int.toNat_natCast, List.mem_nil_iff, List.mem_append, E_sane_eq, E_new_eq, E_next_eq, E_made_eq, E_limit_eq, E_mix_eq, E_frames_eq, E_cut_eq, E_after_eq, E_join_eq, E_same_eq, LX_nil, LX_length, LX_getD, LX_append, LX_one, LX_cells, LX_inj, LX_nil_eq, LX_inps_LX, LX_take, LX_drop, inps_LX, Try.ntmps7, Try.results7, tt_1, tt_2, tt_3, tt_4, tt_5, tt_6, tt_7, tt_8, tt_12, tt_15, tt_16, tt_17, tt_18, tt_19, tt_21, tt_22, tt_23, tt_24, tt_25, tt_26, tt_27, tt_28, tt_29, tt_30, tt_31, tt_32, tt_33, tt_34, tt_35, tt_36, tt_37, tt_38, tt_39, tt_40, tt_41, tt_42, tt_43, tt_45, tt_46, tt_47, tt_49, tt_50, tt_52, tt_53, tt_55, tt_56, tt_57, tt_58, tt_59, tt_60, tt_61, tt_62, tt_64, tt_65, tt_66, tt_67, tt_68, tt_69, tt_70, tt_71, tt_72, tt_73, tt_74, tt_75, tt_76, tt_77, tt_78, tt_80, tt_81, tt_82, tt_83, tt_85, tt_86, tt_87, tt_88, tt_89, tt_90, tt_91, tt_92, tt_93, tt_94, tt_95, tt_96, tt_97, tt_98, tt_99, tt_100, tt_101, tt_102, tt_103, tt_106, tt_107, tt_108, tt_109, tt_110, tt_111, tt_112, tt_113, tt_114, tt_115, tt_116, tt_117, tt_118, tt_119]
  refine ELoop_keep (fun g => ⟨[(60, vI .i64 (g : Nat)), (14, .c (.own ⟨1, 99⟩ (LX ((A.take g).map (cutA k))))), (15, .c (.own ⟨1, 98⟩ (LX ((A.take g).map (cutB k)))))], [], [(⟨1, 99⟩, ⟨false, 9, LX ((A.take g).map (cutA k))⟩), (⟨1, 98⟩, ⟨false, 9, LX ((A.take g).map (cutB k))⟩)]⟩) (fun g => g ≤ A.length) (fun g => A.length - g) (· + 1) 0 (Nat.zero_le _) ?_ ?_
  · simp only [↓gPre, gPost, handV, V.bufs, buildArr, toCs, List.set_cons_succ, List.set_cons_zero, List.foldr_cons, List.foldr_nil, List.append_eq, Nat.reduceShiftRight, Nat.reduceMod, List.mem_cons, addB, addK, zeroOp, callSem, resName, keepsB, newB, V.pure, C.pure, V.ptrs, C.ptrs, C.bufs, appendSem, dstOk, lk, V.cells, Op.eff, partV, partD, cut, lay, zeroD, C.toDs, C.toD, V.toD, toDs, buildCells, List.flatMap_nil, List.flatMap_cons, List.all_nil, List.all_cons, List.map_nil, List.map_cons, List.zip_cons_cons, List.zip_nil_left, List.nil_append, List.append_nil, List.cons_append, List.drop_zero, List.drop_succ_cons, List.take_succ_cons, List.take_zero, List.length_cons, List.length_nil, List.getElem?_cons_succ, List.getElem?_cons_zero, Option.getD_some, Option.getD_none, Option.map_some, Option.map_none, Option.some.injEq, Option.isSome_none, Option.isSome_some, Option.toList_some, Option.toList_none, if_true, if_false, ↓reduceIte, reduceCtorEq, Nat.reduceEqDiff, Nat.reduceLT, Nat.reduceLeDiff, List.not_mem_nil, false_implies, implies_true, true_and, and_true, forall_const, Nat.succ_ne_self, Bool.false_eq_true, Bool.true_and, Bool.and_true, eq_self, ne_eq, not_true_eq_false, not_false_eq_true, or_true, true_or, and_self, imp_self, bne_self_eq_false, beq_self_eq_true, Bool.or_false, Bool.false_or, Bool.and_false, Bool.false_and, false_or, or_false, Nat.reduceAdd, Nat.reduceMul, beq_true, beq_false, Name.mk.injEq, decide_true, decide_false, Bool.or_true, Bool.true_or, Bool.or_self, Bool.not_eq_true', Bool.not_true, Bool.not_false, Bool.true_eq_false, Bool.cond_true_left, Bool.cond_false_right, Nat.zero_add, Int.reduceLE, Int.reduceLT, Int.reduceNeg, Int.reduceAdd, Int.reduceToNat, List.range_succ, List.range_zero, Int.toNat_natCast, List.mem_nil_iff, List.mem_append, E_sane_eq, E_new_eq, E_next_eq, E_made_eq, E_limit_eq, E_mix_eq, E_frames_eq, E_cut_eq, E_after_eq, E_join_eq, E_same_eq, LX_nil, LX_length, LX_getD, LX_append, LX_one, LX_cells, LX_inj, LX_nil_eq, LX_inps_LX, LX_take, LX_drop, inps_LX, Try.ntmps7, Try.results7, tt_1, tt_2, tt_3, tt_4, tt_5, tt_6, tt_7, tt_8, tt_12, tt_15, tt_16, tt_17, tt_18, tt_19, tt_21, tt_22, tt_23, tt_24, tt_25, tt_26, tt_27, tt_28, tt_29, tt_30, tt_31, tt_32, tt_33, tt_34, tt_35, tt_36, tt_37, tt_38, tt_39, tt_40, tt_41, tt_42, tt_43, tt_45, tt_46, tt_47, tt_49, tt_50, tt_52, tt_53, tt_55, tt_56, tt_57, tt_58, tt_59, tt_60, tt_61, tt_62, tt_64, tt_65, tt_66, tt_67, tt_68, tt_69, tt_70, tt_71, tt_72, tt_73, tt_74, tt_75, tt_76, tt_77, tt_78, tt_80, tt_81, tt_82, tt_83, tt_85, tt_86, tt_87, tt_88, tt_89, tt_90, tt_91, tt_92, tt_93, tt_94, tt_95, tt_96, tt_97, tt_98, tt_99, tt_100, tt_101, tt_102, tt_103, tt_106, tt_107, tt_108, tt_109, tt_110, tt_111, tt_112, tt_113, tt_114, tt_115, tt_116, tt_117, tt_118, tt_119]
    simp [LX_nil]
  intro g hg
  simp only [↓gPre, gPost, handV, V.bufs, buildArr, toCs, List.set_cons_succ, List.set_cons_zero, List.foldr_cons, List.foldr_nil, List.append_eq, Nat.reduceShiftRight, Nat.reduceMod, List.mem_cons, addB, addK, zeroOp, callSem, resName, keepsB, newB, V.pure, C.pure, V.ptrs, C.ptrs, C.bufs, appendSem, dstOk, lk, V.cells, Op.eff, partV, partD, cut, lay, zeroD, C.toDs, C.toD, V.toD, toDs, buildCells, List.flatMap_nil, List.flatMap_cons, List.all_nil, List.all_cons, List.map_nil, List.map_cons, List.zip_cons_cons, List.zip_nil_left, List.nil_append, List.append_nil, List.cons_append, List.drop_zero, List.drop_succ_cons, List.take_succ_cons, List.take_zero, List.length_cons, List.length_nil, List.getElem?_cons_succ, List.getElem?_cons_zero, Option.getD_some, Option.getD_none, Option.map_some, Option.map_none, Option.some.injEq, Option.isSome_none, Option.isSome_some, Option.toList_some, Option.toList_none, if_true, if_false, ↓reduceIte, reduceCtorEq, Nat.reduceEqDiff, Nat.reduceLT, Nat.reduceLeDiff, List.not_mem_nil, false_implies, implies_true, true_and, and_true, forall_const, Nat.succ_ne_self, Bool.false_eq_true, Bool.true_and, Bool.and_true, eq_self, ne_eq, not_true_eq_false, not_false_eq_true, or_true, true_or, and_self, imp_self, bne_self_eq_false, beq_self_eq_true, Bool.or_false, Bool.false_or, Bool.and_false, Bool.false_and, false_or, or_false, Nat.reduceAdd, Nat.reduceMul, beq_true, beq_false, Name.mk.injEq, decide_true, decide_false, Bool.or_true, Bool.true_or, Bool.or_self, Bool.not_eq_true', Bool.not_true, Bool.not_false, Bool.true_eq_false, Bool.cond_true_left, Bool.cond_false_right, Nat.zero_add, Int.reduceLE, Int.reduceLT, Int.reduceNeg, Int.reduceAdd, Int.reduceToNat, List.range_succ, List.range_zero, Int.toNat_natCast, List.mem_nil_iff, List.mem_append, E_sane_eq, E_new_eq, E_next_eq, E_made_eq, E_limit_eq, E_mix_eq, E_frames_eq, E_cut_eq, E_after_eq, E_join_eq, E_same_eq, LX_nil, LX_length, LX_getD, LX_append, LX_one, LX_cells, LX_inj, LX_nil_eq, LX_inps_LX, LX_take, LX_drop, inps_LX, Try.ntmps7, Try.results7, tt_1, tt_2, tt_3, tt_4, tt_5, tt_6, tt_7, tt_8, tt_12, tt_15, tt_16, tt_17, tt_18, tt_19, tt_21, tt_22, tt_23, tt_24, tt_25, tt_26, tt_27, tt_28, tt_29, tt_30, tt_31, tt_32, tt_33, tt_34, tt_35, tt_36, tt_37, tt_38, tt_39, tt_40, tt_41, tt_42, tt_43, tt_45, tt_46, tt_47, tt_49, tt_50, tt_52, tt_53, tt_55, tt_56, tt_57, tt_58, tt_59, tt_60, tt_61, tt_62, tt_64, tt_65, tt_66, tt_67, tt_68, tt_69, tt_70, tt_71, tt_72, tt_73, tt_74, tt_75, tt_76, tt_77, tt_78, tt_80, tt_81, tt_82, tt_83, tt_85, tt_86, tt_87, tt_88, tt_89, tt_90, tt_91, tt_92, tt_93, tt_94, tt_95, tt_96, tt_97, tt_98, tt_99, tt_100, tt_101, tt_102, tt_103, tt_106, tt_107, tt_108, tt_109, tt_110, tt_111, tt_112, tt_113, tt_114, tt_115, tt_116, tt_117, tt_118, tt_119]
  refine ⟨fun h1 => ?_, fun h1 => ?_⟩
  · have hgl : g < A.length := by have := of_decide_eq_true h1; omega
    have hgx : A[g]?.getD inp0 = A[g] := by rw [List.getElem?_eq_getElem hgl]; rfl
    rw [hgx]
    have hgm := List.getElem_mem hgl
    have hok := oA _ hgm
    have hkx := kA _ hgm
    have htA : List.map (cutA k) (List.take (g + 1) A) = List.map (cutA k) (List.take g A) ++ [cutA k A[g]] := by
      rw [List.take_add_one, List.getElem?_eq_getElem hgl, List.map_append]; rfl
    have htB : List.map (cutB k) (List.take (g + 1) A) = List.map (cutB k) (List.take g A) ++ [cutB k A[g]] := by
      rw [List.take_add_one, List.getElem?_eq_getElem hgl, List.map_append]; rfl
    have hlA : (List.map (cutA k) (List.take g A)).length ≤ 4 := by rw [List.length_map, List.length_take]; omega
    have hlB : (List.map (cutB k) (List.take g A)).length ≤ 4 := by rw [List.length_map, List.length_take]; omega
    refine ⟨by omega, hkx.1, by kernel_rfl, ?_⟩
    rw [htA, htB]
    clear htA htB
    generalize A[g] = x at *
    obtain ⟨i1, i2, i3, i4, i5, i6⟩ := inE_ok hok
    obtain ⟨hc, ha⟩ := blkV_in i1
    obtain ⟨k1, k2, k3⟩ := chBk_in hc
    have hmin : (if (k : Int) < (if blkV x.c x.l = true then ((x.l.length / x.c.toNat : Nat) : Int) else 0) then (k : Int) else (if blkV x.c x.l = true then ((x.l.length / x.c.toNat : Nat) : Int) else 0)) = ((min (x.l.length / x.c.toNat) k : Nat) : Int) := by
      rw [if_pos i1]; split <;> omega
    have hall : (if blkV x.c x.l = true then ((x.l.length / x.c.toNat : Nat) : Int) else 0) = ((x.l.length / x.c.toNat : Nat) : Int) := if_pos i1
    have hmu : min (x.l.length / x.c.toNat) k * x.c.toNat ≤ x.l.length := by
      have := Nat.mul_le_mul_right x.c.toNat (Nat.min_le_left (x.l.length / x.c.toNat) k)
      omega
    have hAf : afE x.f x.t x.n x.i (k : Int) = 0 := by unfold afE; rw [if_neg (by rw [i3]; decide), if_neg (by simp only [Bool.or_eq_true, decide_eq_true_eq]; omega)]
    have hAF : afF x.f x.t x.n x.i (k : Int) = x.f := by simp [afF, hAf]
    have hAT : afT x.f x.t x.n x.i (k : Int) = x.t := by simp [afT, hAf]
    have hAN : afN x.f x.t x.n x.i (k : Int) = x.n := by simp [afN, hAf]
    have hAI : afI x.f x.t x.n x.i (k : Int) = rampA x.n x.i k := by simp [afI, hAf, rampA]
    refine ⟨⟨hkx.1, ⟨k1, k2⟩, by rw [hmin]; exact Int.natCast_nonneg _, by rw [hmin]; exact hmu⟩, ⟨hkx.1, ⟨k1, k2⟩, by rw [hmin, hall]; exact ⟨Int.natCast_nonneg _, Int.ofNat_le.2 (Nat.min_le_left _ _)⟩, by rw [hall]; exact Nat.le_of_eq k3.symm⟩, fun h => by rw [hAf] at h; exact absurd h (by decide), fun _ => ⟨by kernel_rfl, ?_⟩⟩
    rw [hAF, hAT, hAN, hAI, hmin, hall, Int.toNat_natCast, Int.toNat_natCast]
    exact ⟨by unfold roomOK; omega, by unfold roomOK; omega, ⟨⟨(wrapN _ (by omega)).symm, rfl, rfl⟩, rfl, rfl⟩, by omega, by omega⟩
  · have hgl : g = A.length := by have := of_decide_eq_false h1; omega
    rw [hgl, List.take_length]
    have hqk : (q - (k : Int)).toNat = q.toNat - k := by omega
    have hB : muB p q = false := by simp only [muB, Bool.or_eq_false_iff, decide_eq_false_iff_not]; omega
    have hB1 : muB p (k : Int) = false := by simp only [muB, Bool.or_eq_false_iff, decide_eq_false_iff_not]; omega
    have hB2 : muB p (q - (k : Int)) = false := by simp only [muB, Bool.or_eq_false_iff, decide_eq_false_iff_not]; omega
    have cA : ∀ x ∈ A.map (cutA k), inE p (k : Int) x = 0 := fun x hx => by
      obtain ⟨y, hy, rfl⟩ := List.mem_map.1 hx
      exact (cutA_ok (oA y hy) (kA y hy).1).1
    have cB : ∀ x ∈ A.map (cutB k), inE p (q - (k : Int)) x = 0 := fun x hx => by
      obtain ⟨y, hy, rfl⟩ := List.mem_map.1 hx
      exact (cutB_ok (oA y hy) (kA y hy).1 hkq).1
    have kcA : keptI (A.map (cutA k)) := fun x hx => by
      obtain ⟨y, hy, rfl⟩ := List.mem_map.1 hx
      exact ⟨Nat.le_trans (cutA_ok (oA y hy) (kA y hy).1).2.1 (kA y hy).1, (kA y hy).2⟩
    have kcB : keptI (A.map (cutB k)) := fun x hx => by
      obtain ⟨y, hy, rfl⟩ := List.mem_map.1 hx
      exact ⟨Nat.le_trans (cutB_ok (oA y hy) (kA y hy).1 hkq).2.1 (kA y hy).1, (kA y hy).2⟩
    obtain ⟨e0, l0, g0⟩ := muS_ok hB kA oA (by omega)
    obtain ⟨e1, l1, g1⟩ := muS_ok hB1 kcA cA (by rw [List.length_map]; omega)
    obtain ⟨e2, l2, g2⟩ := muS_ok hB2 kcB cB (by rw [List.length_map]; omega)
    rw [Int.toNat_natCast] at l1
    rw [hqk] at l2
    have hkq2 : k ≤ q.toNat := by omega
    have hS : muS p (k : Int) (A.map (cutA k)) ++ muS p (q - (k : Int)) (A.map (cutB k)) = muS p q A := by
      refine ext_cells (B := p.toNat) (by omega) (by rw [List.length_append, l0, l1, l2, ← Nat.mul_add]; congr 1; omega) (fun z r hr => ?_)
      by_cases hz : z < k
      · have hcl := cell_lt hr hz
        unfold atL
        rw [List.getElem?_append_left (by rw [l1]; exact hcl), g1, g0, sumP_cutA hr hz kA oA]
      · have h6 : p.toNat * k ≤ z * p.toNat := by rw [Nat.mul_comm]; exact Nat.mul_le_mul_right _ (by omega)
        have h7 : z * p.toNat + r - p.toNat * k = (z - k) * p.toNat + r := by rw [Nat.sub_mul, Nat.mul_comm p.toNat]; rw [Nat.mul_comm p.toNat] at h6; omega
        unfold atL
        rw [List.getElem?_append_right (by rw [l1]; omega), l1, h7, g2, g0, sumP_cutB hkq hr kA oA, show k + (z - k) = z by omega]
    have hR := muS_run hB kA (by omega) e0 hv
    have ho := mxO_len p q A T R G
    refine ⟨kcA, kcB, by kernel_rfl, ?_⟩
    rw [IntWalk.i64_in (q - (k : Int)) (by omega)]
    simp only [mxE, mxT, mxR, mxG, mxC, mxO, e0, e1, e2, if_true] at ho ⊢
    generalize muS p (k : Int) (A.map (cutA k)) = S1 at *
    generalize muS p (q - (k : Int)) (A.map (cutB k)) = S2 at *
    generalize muS p q A = S0 at *
    have hc0 : chB p S0 = false := by
      cases h : chB p S0 with
      | false => rfl
      | true => simp [runE, hv, h] at hR
    have ha0 : S0.all okX = true := by
      cases h : S0.all okX with
      | true => rfl
      | false => simp [runE, hv, hc0, h] at hR
    have hdiv : S0.length / p.toNat = q.toNat := by rw [l0]; exact Nat.mul_div_cancel_left _ (by omega)
    have hl0 : S0.length ≤ 65536 := by
      have := Nat.mul_le_mul (show p.toNat ≤ 8 by omega) (show q.toNat ≤ 100 by omega)
      omega
    obtain ⟨s1, s2⟩ := subL_two (s := S0) (c := p.toNat) (k := k) (n := q.toNat) (by rw [l0, Nat.mul_comm]) hkq2 S1 S2 (by rw [l1, Nat.mul_comm]) hS
    have r1 := run_sub (t := T) (r := R) (g := G) (c := p) (s := S0) hv hc0 ha0 hl0 (q := 0) (q' := k) (Nat.zero_le _) (by rw [hdiv]; exact hkq2)
    have r2 := run_sub (t := T) (r := R) (g := G) (c := p) (s := S0) hv hc0 ha0 hl0 (q := k) (q' := q.toNat) hkq2 (by rw [hdiv]; exact Nat.le_refl _)
    rw [Nat.sub_zero, s1] at r1
    rw [s2] at r2
    replace r1 : runE T R G p S1 = 0 ∧ [] ++ runO T R G p S1 = oAt T R G p S0 k ∧ runG T R G p S1 = gAt T R G p S0 k ∧ runT T R G p S1 = T ∧ runR T R G p S1 = R ∧ _ := r1
    rw [List.nil_append] at r1
    obtain ⟨a1, a2, a3, a4, a5, _⟩ := r1
    obtain ⟨b1, b2, b3, b4, b5, _⟩ := r2
    have hO1 := oAt_len (t := T) (r := R) (g := G) hc0 k (by rw [hdiv]; exact hkq2)
    have hO0 := oAt_len (t := T) (r := R) (g := G) hc0 q.toNat (by rw [hdiv]; exact Nat.le_refl _)
    have hm1 := Nat.mul_le_mul (show k ≤ 100 by omega) (show p.toNat ≤ 8 by omega)
    have hm0 := Nat.mul_le_mul (show q.toNat ≤ 100 by omega) (show p.toNat ≤ 8 by omega)
    have hsum : (runO T R G p S1).length + (runO T R (gAt T R G p S0 k) p S2).length = q.toNat * p.toNat := by
      rw [a2, ← hO0, ← b2, List.length_append]
    simp only [a3, a4, a5, a1, b1, b3, b4, b5, hR, if_true]
    have cC : runC T R G p S1 = p := by simp [runC, a1]
    have cC0 : runC T R G p S0 = p := by simp [runC, hR]
    have cT0 : runT T R G p S0 = T := by simp [runT, hR]
    have cR0 : runR T R G p S0 = R := by simp [runR, hR]
    have cG0 : runG T R G p S0 = gAt T R G p S0 q.toNat := by simp [runG, hR, hdiv]
    have cO0 : runO T R G p S0 = oAt T R G p S0 q.toNat := by simp [runO, hR, hdiv]
    rw [cC, cC0, cT0, cR0, cG0, cO0, a2, b2]
    rw [a2] at hsum
    refine ⟨by omega, fun _ => by omega, by simp⟩

end Go.Vam
