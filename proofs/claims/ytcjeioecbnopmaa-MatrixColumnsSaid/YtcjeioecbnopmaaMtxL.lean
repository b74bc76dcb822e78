/- Cut, Join, parts in a row. Conditions: none. -/
import Derived.Test.YtcjeioecbnopmaaMtxJ
set_option linter.unusedVariables false
set_option linter.unusedSimpArgs false
set_option maxRecDepth 40000
set_option maxHeartbeats 4000000
namespace Go.Vam
open Go.Proofs

theorem spec_join (c d : Int) (a b : List Int) (hl : a.length + b.length ≤ 1000000) : Spec Try.prog 0 29 [.agg [.d (.int .i64 c), .d (.list (LI .i32 a))], .agg [.d (.int .i64 d), .d (.list (LI .i32 b))]] [] [] (.agg [.d (.int .i64 c), .d (.list (LI .i32 (a ++ b)))]) [] [] := by
  refine spec_of_E (X := ⟨Try.prog, tt, Try.f29.ntmps, 1, fun _ => 0, (tab [])⟩) (M := []) (m := 31) rfl rfl ⟨tt_ok, tab_ok tabs_nil _ rfl rfl⟩ tt_mixed Try.func29 rfl (by decide) (by show (2 : Nat) ≤ _; exact Nat.le_of_ble_eq_true rfl) ⟨fun m hm => (V.bare_has rfl m hm).elim, by simp, by simp⟩ ?_
  simp only [↓gPre, gPost, handV, V.bufs, buildArr, toCs, List.set_cons_succ, List.set_cons_zero, List.foldr_cons, List.foldr_nil, List.append_eq, Nat.reduceShiftRight, Nat.reduceMod, List.mem_cons, addB, addK, zeroOp, callSem, resName, keepsB, newB, V.pure, C.pure, V.ptrs, C.ptrs, C.bufs, appendSem, dstOk, lk, V.cells, Op.eff, partV, partD, cut, lay, zeroD, C.toDs, C.toD, V.toD, toDs, buildCells, List.flatMap_nil, List.flatMap_cons, List.all_nil, List.all_cons, List.map_nil, List.map_cons, List.zip_cons_cons, List.zip_nil_left, List.nil_append, List.append_nil, List.cons_append, List.drop_zero, List.drop_succ_cons, List.take_succ_cons, List.take_zero, List.length_cons, List.length_nil, List.getElem?_cons_succ, List.getElem?_cons_zero, Option.getD_some, Option.getD_none, Option.map_some, Option.map_none, Option.some.injEq, Option.isSome_none, Option.isSome_some, Option.toList_some, Option.toList_none, if_true, if_false, ↓reduceIte, reduceCtorEq, Nat.reduceEqDiff, Nat.reduceLT, Nat.reduceLeDiff, List.not_mem_nil, false_implies, implies_true, true_and, and_true, forall_const, Nat.succ_ne_self, Bool.false_eq_true, Bool.true_and, Bool.and_true, eq_self, ne_eq, not_true_eq_false, not_false_eq_true, or_true, true_or, and_self, imp_self, bne_self_eq_false, beq_self_eq_true, Bool.or_false, Bool.false_or, Bool.and_false, Bool.false_and, false_or, or_false, Nat.reduceAdd, Nat.reduceMul, beq_true, beq_false, Name.mk.injEq, decide_true, decide_false, Bool.or_true, Bool.true_or, Bool.or_self, Bool.not_eq_true', Bool.not_true, Bool.not_false, Bool.true_eq_false, Bool.cond_true_left, Bool.cond_false_right, Nat.zero_add, Int.reduceLE, Int.reduceLT, Int.reduceNeg, Int.reduceAdd, Int.reduceToNat, List.range_succ, List.range_zero, Int.toNat_natCast, List.mem_nil_iff, List.mem_append, Try.ntmps29, Try.results29, tt_1, tt_2, tt_3, tt_4, tt_5, tt_6, tt_7, tt_8, tt_12, tt_15, tt_16, tt_17, tt_18, tt_19, tt_21, tt_22, tt_23, tt_24, tt_25, tt_26, tt_27, tt_28, tt_29, tt_30, tt_31, tt_32, tt_33, tt_34, tt_35, tt_36, tt_37, tt_38, tt_39, tt_41, tt_42, tt_44, tt_45, tt_46, tt_47, tt_48, tt_49, tt_50, tt_51, tt_52, tt_53, tt_54, tt_55, tt_56, tt_57, tt_58, tt_59, tt_60, tt_61, tt_62, tt_63, tt_64, tt_65, tt_66, tt_67, tt_68, tt_69, tt_70, tt_71, tt_72, tt_73, tt_74, tt_75, tt_78, tt_79, tt_80, tt_81, tt_82, tt_83, tt_84, tt_85, tt_86, tt_87, tt_88, tt_89, tt_90, tt_91]
  exact ⟨by kernel_rfl, by unfold roomOK; omega, by unfold roomOK; omega⟩
def E_join : List V → Boxes → Toks → Name → Option Ent
  | [.agg [.d (.int .i64 c), .d (.list q_a)], .agg [.d (.int .i64 d), .d (.list q_b)]], [], [], _ => some ⟨(ints q_a).length + (ints q_b).length ≤ 1000000 ∧ q_a = LI .i32 (ints q_a) ∧ q_b = LI .i32 (ints q_b), .agg [.d (.int .i64 c), .d (.list (LI .i32 ((ints q_a) ++ (ints q_b))))], [], []⟩
  | _, _, _, _ => none
theorem E_join_eq {c d : Int}  {q_a : List D} {q_b : List D} {nF : Name} : E_join [.agg [.d (.int .i64 c), .d (.list q_a)], .agg [.d (.int .i64 d), .d (.list q_b)]] [] [] nF = some ⟨(ints q_a).length + (ints q_b).length ≤ 1000000 ∧ q_a = LI .i32 (ints q_a) ∧ q_b = LI .i32 (ints q_b), .agg [.d (.int .i64 c), .d (.list (LI .i32 ((ints q_a) ++ (ints q_b))))], [], []⟩ := Eq.trans rfl rfl
theorem E_join_ok : Snd Try.prog 29 E_join := by
  intro vs b k n e h hn hp
  unfold E_join at h
  split at h
  · cases h; obtain ⟨hp0, hq0, hq1⟩ := hp; obtain ⟨_, rfl⟩ := LI_ex hq0; obtain ⟨_, rfl⟩ := LI_ex hq1; simp only [ints_LI, bys_LB, blks_LK, lls_LL] at hp0 ⊢; exact (spec_join _ _ _ _ hp0).lift rfl _
  · cases h

/-- Frames of a block. -/
def cutK (k : Int) (l : List Int) (f t : Nat) : List Int := (l.drop (f * k.toNat)).take ((t - f) * k.toNat)

theorem spec_cut (k : Int) (l : List Int) (f t : Int) (hl : l.length ≤ 1000000) (hk : 1 ≤ k ∧ k ≤ 8) (hf : 0 ≤ f ∧ f ≤ t) (ht : t.toNat * k.toNat ≤ l.length) : Spec Try.prog 0 50 [.agg [.d (.int .i64 k), .d (.list (LI .i32 l))], vI .i64 f, vI .i64 t] [] [] (.agg [.d (.int .i64 k), .d (.list (LI .i32 (cutK k l f.toNat t.toNat)))]) [] [] := by
  refine spec_of_E (X := ⟨Try.prog, tt, Try.f50.ntmps, 1, fun _ => 0, (tab [])⟩) (M := [(1, [0, 0, 0, 0, 0, 4193615, 0, 0, 0, 0, 0, 3949903, 0, 0, 0, 0])]) (m := 79) rfl rfl ⟨tt_ok, tab_ok tabs_nil _ rfl rfl⟩ tt_mixed Try.func50 rfl (by decide) (by show (3 : Nat) ≤ _; exact Nat.le_of_ble_eq_true rfl) ⟨by simp [V.has, C.has], by simp [C.has], by simp⟩ ?_
  simp only [↓gPre, gPost, handV, V.bufs, buildArr, toCs, List.set_cons_succ, List.set_cons_zero, List.foldr_cons, List.foldr_nil, List.append_eq, Nat.reduceShiftRight, Nat.reduceMod, List.mem_cons, addB, addK, zeroOp, callSem, resName, keepsB, newB, V.pure, C.pure, V.ptrs, C.ptrs, C.bufs, appendSem, dstOk, lk, V.cells, Op.eff, partV, partD, cut, lay, zeroD, C.toDs, C.toD, V.toD, toDs, buildCells, List.flatMap_nil, List.flatMap_cons, List.all_nil, List.all_cons, List.map_nil, List.map_cons, List.zip_cons_cons, List.zip_nil_left, List.nil_append, List.append_nil, List.cons_append, List.drop_zero, List.drop_succ_cons, List.take_succ_cons, List.take_zero, List.length_cons, List.length_nil, List.getElem?_cons_succ, List.getElem?_cons_zero, Option.getD_some, Option.getD_none, Option.map_some, Option.map_none, Option.some.injEq, Option.isSome_none, Option.isSome_some, Option.toList_some, Option.toList_none, if_true, if_false, ↓reduceIte, reduceCtorEq, Nat.reduceEqDiff, Nat.reduceLT, Nat.reduceLeDiff, List.not_mem_nil, false_implies, implies_true, true_and, and_true, forall_const, Nat.succ_ne_self, Bool.false_eq_true, Bool.true_and, Bool.and_true, eq_self, ne_eq, not_true_eq_false, not_false_eq_true, or_true, true_or, and_self, imp_self, bne_self_eq_false, beq_self_eq_true, Bool.or_false, Bool.false_or, Bool.and_false, Bool.false_and, false_or, or_false, Nat.reduceAdd, Nat.reduceMul, beq_true, beq_false, Name.mk.injEq, decide_true, decide_false, Bool.or_true, Bool.true_or, Bool.or_self, Bool.not_eq_true', Bool.not_true, Bool.not_false, Bool.true_eq_false, Bool.cond_true_left, Bool.cond_false_right, Nat.zero_add, Int.reduceLE, Int.reduceLT, Int.reduceNeg, Int.reduceAdd, Int.reduceToNat, List.range_succ, List.range_zero, Int.toNat_natCast, List.mem_nil_iff, List.mem_append, Try.ntmps50, Try.results50, tt_1, tt_2, tt_3, tt_4, tt_5, tt_6, tt_7, tt_8, tt_12, tt_15, tt_16, tt_17, tt_18, tt_19, tt_21, tt_22, tt_23, tt_24, tt_25, tt_26, tt_27, tt_28, tt_29, tt_30, tt_31, tt_32, tt_33, tt_34, tt_35, tt_36, tt_37, tt_38, tt_39, tt_41, tt_42, tt_44, tt_45, tt_46, tt_47, tt_48, tt_49, tt_50, tt_51, tt_52, tt_53, tt_54, tt_55, tt_56, tt_57, tt_58, tt_59, tt_60, tt_61, tt_62, tt_63, tt_64, tt_65, tt_66, tt_67, tt_68, tt_69, tt_70, tt_71, tt_72, tt_73, tt_74, tt_75, tt_78, tt_79, tt_80, tt_81, tt_82, tt_83, tt_84, tt_85, tt_86, tt_87, tt_88, tt_89, tt_90, tt_91]
  have hkm : (k.toNat : Int) = k := by omega
  have hfm : (f.toNat : Int) = f := by omega
  have htm : (t.toNat : Int) = t := by omega
  have hle : f.toNat * k.toNat ≤ t.toNat * k.toNat := Nat.mul_le_mul_right _ (by omega)
  have c1 : f * k = ((f.toNat * k.toNat : Nat) : Int) := by rw [Int.natCast_mul, hkm, hfm]
  have c2 : t * k = ((t.toNat * k.toNat : Nat) : Int) := by rw [Int.natCast_mul, hkm, htm]
  have hsub : (t.toNat - f.toNat) * k.toNat = t.toNat * k.toNat - f.toNat * k.toNat := Nat.sub_mul ..
  refine ⟨by kernel_rfl, ?_⟩
  unfold cutK
  rw [c1, c2, hsub]
  generalize f.toNat * k.toNat = x at *
  generalize t.toNat * k.toNat = y at *
  rw [IntWalk.i64_in (x : Int) (by omega), IntWalk.i64_in (y : Int) (by omega)]
  refine ⟨by omega, ?_, rfl⟩
  have : (List.take ((y : Int).toNat - (x : Int).toNat) (List.drop (x : Int).toNat l)).length ≤ l.length := by rw [List.length_take, List.length_drop]; omega
  unfold roomOK
  omega
def E_cut : List V → Boxes → Toks → Name → Option Ent
  | [.agg [.d (.int .i64 k), .d (.list q_l)], .c (.d (.int .i64 f)), .c (.d (.int .i64 t))], [], [], _ => some ⟨(ints q_l).length ≤ 1000000 ∧ (1 ≤ k ∧ k ≤ 8) ∧ (0 ≤ f ∧ f ≤ t) ∧ t.toNat * k.toNat ≤ (ints q_l).length ∧ q_l = LI .i32 (ints q_l), .agg [.d (.int .i64 k), .d (.list (LI .i32 (cutK k (ints q_l) f.toNat t.toNat)))], [], []⟩
  | _, _, _, _ => none
theorem E_cut_eq {k : Int} {f t : Int}  {q_l : List D} {nF : Name} : E_cut [.agg [.d (.int .i64 k), .d (.list q_l)], .c (.d (.int .i64 f)), .c (.d (.int .i64 t))] [] [] nF = some ⟨(ints q_l).length ≤ 1000000 ∧ (1 ≤ k ∧ k ≤ 8) ∧ (0 ≤ f ∧ f ≤ t) ∧ t.toNat * k.toNat ≤ (ints q_l).length ∧ q_l = LI .i32 (ints q_l), .agg [.d (.int .i64 k), .d (.list (LI .i32 (cutK k (ints q_l) f.toNat t.toNat)))], [], []⟩ := Eq.trans rfl rfl
theorem E_cut_ok : Snd Try.prog 50 E_cut := by
  intro vs b k n e h hn hp
  unfold E_cut at h
  split at h
  · cases h; obtain ⟨hp0, hp1, hp2, hp3, hq0⟩ := hp; obtain ⟨_, rfl⟩ := LI_ex hq0; simp only [ints_LI, bys_LB, blks_LK, lls_LL] at hp0 hp1 hp2 hp3 ⊢; exact (spec_cut _ _ _ _ hp0 hp1 hp2 hp3).lift rfl _
  · cases h

/-- Where a block is cut, and the parts. -/
def cqP (n : Nat) (p : List UInt8) : Nat → Nat
  | 0 => 0
  | i + 1 => if cqP n p i + (p[i]?.getD 0).toNat % 8 ≤ n then cqP n p i + (p[i]?.getD 0).toNat % 8 else cqP n p i
def cqL (k : Int) (l : List Int) (n : Nat) (p : List UInt8) : Nat → List (Int × List Int)
  | 0 => []
  | i + 1 => if cqP n p i + (p[i]?.getD 0).toNat % 8 ≤ n then cqL k l n p i ++ [(k, cutK k l (cqP n p i) (cqP n p i + (p[i]?.getD 0).toNat % 8))] else cqL k l n p i
theorem cqP_le (n : Nat) (p : List UInt8) : ∀ i, cqP n p i ≤ n
  | 0 => Nat.zero_le _
  | i + 1 => by have := cqP_le n p i; unfold cqP; split <;> omega
theorem cqL_len (k : Int) (l : List Int) (n : Nat) (p : List UInt8) : ∀ i, (cqL k l n p i).length ≤ i
  | 0 => Nat.le_refl _
  | i + 1 => by
    have := cqL_len k l n p i
    unfold cqL
    split
    · rw [List.length_append]; simp; omega
    · omega

theorem spec_mcut (k : Int) (l : List Int) (p : List UInt8) (hl : l.length ≤ 1000000) (hb : blkV k l = true) (hp : p.length ≤ 1000) : Spec Try.prog 0 28 [.agg [.d (.int .i64 k), .d (.list (LI .i32 l))], vL (LB p)] [] [] (vL (LK (cqL k l (l.length / k.toNat) p p.length ++ [(k, cutK k l (cqP (l.length / k.toNat) p p.length) (l.length / k.toNat))]))) [] [] := by
  refine spec_of_E (X := ⟨Try.prog, tt, Try.f28.ntmps, 1, fun _ => 0, (tab [(49, E_frames), (50, E_cut)])⟩) (M := []) (m := 67233527) rfl rfl ⟨tt_ok, tab_ok (tabs_cons E_frames_ok (tabs_cons E_cut_ok tabs_nil)) _ rfl rfl⟩ tt_mixed Try.func28 rfl (by decide) (by show (2 : Nat) ≤ _; exact Nat.le_of_ble_eq_true rfl) ⟨by simp [V.has, C.has], by simp [C.has], by simp⟩ ?_
  simp only [↓gPre, gPost, handV, V.bufs, buildArr, toCs, List.set_cons_succ, List.set_cons_zero, List.foldr_cons, List.foldr_nil, List.append_eq, Nat.reduceShiftRight, Nat.reduceMod, List.mem_cons, addB, addK, zeroOp, callSem, resName, keepsB, newB, V.pure, C.pure, V.ptrs, C.ptrs, C.bufs, appendSem, dstOk, lk, V.cells, Op.eff, partV, partD, cut, lay, zeroD, C.toDs, C.toD, V.toD, toDs, buildCells, List.flatMap_nil, List.flatMap_cons, List.all_nil, List.all_cons, List.map_nil, List.map_cons, List.zip_cons_cons, List.zip_nil_left, List.nil_append, List.append_nil, List.cons_append, List.drop_zero, List.drop_succ_cons, List.take_succ_cons, List.take_zero, List.length_cons, List.length_nil, List.getElem?_cons_succ, List.getElem?_cons_zero, Option.getD_some, Option.getD_none, Option.map_some, Option.map_none, Option.some.injEq, Option.isSome_none, Option.isSome_some, Option.toList_some, Option.toList_none, if_true, if_false, ↓reduceIte, reduceCtorEq, Nat.reduceEqDiff, Nat.reduceLT, Nat.reduceLeDiff, List.not_mem_nil, false_implies, implies_true, true_and, and_true, forall_const, Nat.succ_ne_self, Bool.false_eq_true, Bool.true_and, Bool.and_true, eq_self, ne_eq, not_true_eq_false, not_false_eq_true, or_true, true_or, and_self, imp_self, bne_self_eq_false, beq_self_eq_true, Bool.or_false, Bool.false_or, Bool.and_false, Bool.false_and, false_or, or_false, Nat.reduceAdd, Nat.reduceMul, beq_true, beq_false, Name.mk.injEq, decide_true, decide_false, Bool.or_true, Bool.true_or, Bool.or_self, Bool.not_eq_true', Bool.not_true, Bool.not_false, Bool.true_eq_false, Bool.cond_true_left, Bool.cond_false_right, Nat.zero_add, Int.reduceLE, Int.reduceLT, Int.reduceNeg, Int.reduceAdd, Int.reduceToNat, List.range_succ, List.range_zero, Int.toNat_natCast, List.mem_nil_iff, List.mem_append, E_frames_eq, E_cut_eq, Try.ntmps28, Try.results28, tt_1, tt_2, tt_3, tt_4, tt_5, tt_6, tt_7, tt_8, tt_12, tt_15, tt_16, tt_17, tt_18, tt_19, tt_21, tt_22, tt_23, tt_24, tt_25, tt_26, tt_27, tt_28, tt_29, tt_30, tt_31, tt_32, tt_33, tt_34, tt_35, tt_36, tt_37, tt_38, tt_39, tt_41, tt_42, tt_44, tt_45, tt_46, tt_47, tt_48, tt_49, tt_50, tt_51, tt_52, tt_53, tt_54, tt_55, tt_56, tt_57, tt_58, tt_59, tt_60, tt_61, tt_62, tt_63, tt_64, tt_65, tt_66, tt_67, tt_68, tt_69, tt_70, tt_71, tt_72, tt_73, tt_74, tt_75, tt_78, tt_79, tt_80, tt_81, tt_82, tt_83, tt_84, tt_85, tt_86, tt_87, tt_88, tt_89, tt_90, tt_91]
  obtain ⟨hc, _⟩ := blkV_in hb
  obtain ⟨k1, k2, k3⟩ := chBk_in hc
  refine ⟨hl, ?_⟩
  rw [if_pos hb]
  generalize hn : l.length / k.toNat = n at *
  have hnl : n ≤ l.length := by rw [← hn]; exact Nat.div_le_self ..
  refine ELoop_nilT 5 2 ⟨1, 99⟩ rfl (by simp only [↓gPre, gPost, handV, V.bufs, buildArr, toCs, List.set_cons_succ, List.set_cons_zero, List.foldr_cons, List.foldr_nil, List.append_eq, Nat.reduceShiftRight, Nat.reduceMod, List.mem_cons, addB, addK, zeroOp, callSem, resName, keepsB, newB, V.pure, C.pure, V.ptrs, C.ptrs, C.bufs, appendSem, dstOk, lk, V.cells, Op.eff, partV, partD, cut, lay, zeroD, C.toDs, C.toD, V.toD, toDs, buildCells, List.flatMap_nil, List.flatMap_cons, List.all_nil, List.all_cons, List.map_nil, List.map_cons, List.zip_cons_cons, List.zip_nil_left, List.nil_append, List.append_nil, List.cons_append, List.drop_zero, List.drop_succ_cons, List.take_succ_cons, List.take_zero, List.length_cons, List.length_nil, List.getElem?_cons_succ, List.getElem?_cons_zero, Option.getD_some, Option.getD_none, Option.map_some, Option.map_none, Option.some.injEq, Option.isSome_none, Option.isSome_some, Option.toList_some, Option.toList_none, if_true, if_false, ↓reduceIte, reduceCtorEq, Nat.reduceEqDiff, Nat.reduceLT, Nat.reduceLeDiff, List.not_mem_nil, false_implies, implies_true, true_and, and_true, forall_const, Nat.succ_ne_self, Bool.false_eq_true, Bool.true_and, Bool.and_true, eq_self, ne_eq, not_true_eq_false, not_false_eq_true, or_true, true_or, and_self, imp_self, bne_self_eq_false, beq_self_eq_true, Bool.or_false, Bool.false_or, Bool.and_false, Bool.false_and, false_or, or_false, Nat.reduceAdd, Nat.reduceMul, beq_true, beq_false, Name.mk.injEq, decide_true, decide_false, Bool.or_true, Bool.true_or, Bool.or_self, Bool.not_eq_true', Bool.not_true, Bool.not_false, Bool.true_eq_false, Bool.cond_true_left, Bool.cond_false_right, Nat.zero_add, Int.reduceLE, Int.reduceLT, Int.reduceNeg, Int.reduceAdd, Int.reduceToNat, List.range_succ, List.range_zero, Int.toNat_natCast, List.mem_nil_iff, List.mem_append, E_frames_eq, E_cut_eq, Try.ntmps28, Try.results28, tt_1, tt_2, tt_3, tt_4, tt_5, tt_6, tt_7, tt_8, tt_12, tt_15, tt_16, tt_17, tt_18, tt_19, tt_21, tt_22, tt_23, tt_24, tt_25, tt_26, tt_27, tt_28, tt_29, tt_30, tt_31, tt_32, tt_33, tt_34, tt_35, tt_36, tt_37, tt_38, tt_39, tt_41, tt_42, tt_44, tt_45, tt_46, tt_47, tt_48, tt_49, tt_50, tt_51, tt_52, tt_53, tt_54, tt_55, tt_56, tt_57, tt_58, tt_59, tt_60, tt_61, tt_62, tt_63, tt_64, tt_65, tt_66, tt_67, tt_68, tt_69, tt_70, tt_71, tt_72, tt_73, tt_74, tt_75, tt_78, tt_79, tt_80, tt_81, tt_82, tt_83, tt_84, tt_85, tt_86, tt_87, tt_88, tt_89, tt_90, tt_91]) (Nat.le_refl _) ?_
  simp only [↓gPre, gPost, handV, V.bufs, buildArr, toCs, List.set_cons_succ, List.set_cons_zero, List.foldr_cons, List.foldr_nil, List.append_eq, Nat.reduceShiftRight, Nat.reduceMod, List.mem_cons, addB, addK, zeroOp, callSem, resName, keepsB, newB, V.pure, C.pure, V.ptrs, C.ptrs, C.bufs, appendSem, dstOk, lk, V.cells, Op.eff, partV, partD, cut, lay, zeroD, C.toDs, C.toD, V.toD, toDs, buildCells, List.flatMap_nil, List.flatMap_cons, List.all_nil, List.all_cons, List.map_nil, List.map_cons, List.zip_cons_cons, List.zip_nil_left, List.nil_append, List.append_nil, List.cons_append, List.drop_zero, List.drop_succ_cons, List.take_succ_cons, List.take_zero, List.length_cons, List.length_nil, List.getElem?_cons_succ, List.getElem?_cons_zero, Option.getD_some, Option.getD_none, Option.map_some, Option.map_none, Option.some.injEq, Option.isSome_none, Option.isSome_some, Option.toList_some, Option.toList_none, if_true, if_false, ↓reduceIte, reduceCtorEq, Nat.reduceEqDiff, Nat.reduceLT, Nat.reduceLeDiff, List.not_mem_nil, false_implies, implies_true, true_and, and_true, forall_const, Nat.succ_ne_self, Bool.false_eq_true, Bool.true_and, Bool.and_true, eq_self, ne_eq, not_true_eq_false, not_false_eq_true, or_true, true_or, and_self, imp_self, bne_self_eq_false, beq_self_eq_true, Bool.or_false, Bool.false_or, Bool.and_false, Bool.false_and, false_or, or_false, Nat.reduceAdd, Nat.reduceMul, beq_true, beq_false, Name.mk.injEq, decide_true, decide_false, Bool.or_true, Bool.true_or, Bool.or_self, Bool.not_eq_true', Bool.not_true, Bool.not_false, Bool.true_eq_false, Bool.cond_true_left, Bool.cond_false_right, Nat.zero_add, Int.reduceLE, Int.reduceLT, Int.reduceNeg, Int.reduceAdd, Int.reduceToNat, List.range_succ, List.range_zero, Int.toNat_natCast, List.mem_nil_iff, List.mem_append, E_frames_eq, E_cut_eq, Try.ntmps28, Try.results28, tt_1, tt_2, tt_3, tt_4, tt_5, tt_6, tt_7, tt_8, tt_12, tt_15, tt_16, tt_17, tt_18, tt_19, tt_21, tt_22, tt_23, tt_24, tt_25, tt_26, tt_27, tt_28, tt_29, tt_30, tt_31, tt_32, tt_33, tt_34, tt_35, tt_36, tt_37, tt_38, tt_39, tt_41, tt_42, tt_44, tt_45, tt_46, tt_47, tt_48, tt_49, tt_50, tt_51, tt_52, tt_53, tt_54, tt_55, tt_56, tt_57, tt_58, tt_59, tt_60, tt_61, tt_62, tt_63, tt_64, tt_65, tt_66, tt_67, tt_68, tt_69, tt_70, tt_71, tt_72, tt_73, tt_74, tt_75, tt_78, tt_79, tt_80, tt_81, tt_82, tt_83, tt_84, tt_85, tt_86, tt_87, tt_88, tt_89, tt_90, tt_91]
  refine ELoop_keep (fun i => ⟨[(15, vI .i64 (i : Nat)), (6, vI .i64 ((cqP n p i : Nat) : Int)), (5, .c (.own ⟨1, 99⟩ (LK (cqL k l n p i))))], [], [(⟨1, 99⟩, ⟨false, 2, LK (cqL k l n p i)⟩)]⟩) (fun i => i ≤ p.length) (fun i => p.length - i) (· + 1) 0 (Nat.zero_le _) ?_ ?_
  · simp only [↓gPre, gPost, handV, V.bufs, buildArr, toCs, List.set_cons_succ, List.set_cons_zero, List.foldr_cons, List.foldr_nil, List.append_eq, Nat.reduceShiftRight, Nat.reduceMod, List.mem_cons, addB, addK, zeroOp, callSem, resName, keepsB, newB, V.pure, C.pure, V.ptrs, C.ptrs, C.bufs, appendSem, dstOk, lk, V.cells, Op.eff, partV, partD, cut, lay, zeroD, C.toDs, C.toD, V.toD, toDs, buildCells, List.flatMap_nil, List.flatMap_cons, List.all_nil, List.all_cons, List.map_nil, List.map_cons, List.zip_cons_cons, List.zip_nil_left, List.nil_append, List.append_nil, List.cons_append, List.drop_zero, List.drop_succ_cons, List.take_succ_cons, List.take_zero, List.length_cons, List.length_nil, List.getElem?_cons_succ, List.getElem?_cons_zero, Option.getD_some, Option.getD_none, Option.map_some, Option.map_none, Option.some.injEq, Option.isSome_none, Option.isSome_some, Option.toList_some, Option.toList_none, if_true, if_false, ↓reduceIte, reduceCtorEq, Nat.reduceEqDiff, Nat.reduceLT, Nat.reduceLeDiff, List.not_mem_nil, false_implies, implies_true, true_and, and_true, forall_const, Nat.succ_ne_self, Bool.false_eq_true, Bool.true_and, Bool.and_true, eq_self, ne_eq, not_true_eq_false, not_false_eq_true, or_true, true_or, and_self, imp_self, bne_self_eq_false, beq_self_eq_true, Bool.or_false, Bool.false_or, Bool.and_false, Bool.false_and, false_or, or_false, Nat.reduceAdd, Nat.reduceMul, beq_true, beq_false, Name.mk.injEq, decide_true, decide_false, Bool.or_true, Bool.true_or, Bool.or_self, Bool.not_eq_true', Bool.not_true, Bool.not_false, Bool.true_eq_false, Bool.cond_true_left, Bool.cond_false_right, Nat.zero_add, Int.reduceLE, Int.reduceLT, Int.reduceNeg, Int.reduceAdd, Int.reduceToNat, List.range_succ, List.range_zero, Int.toNat_natCast, List.mem_nil_iff, List.mem_append, E_frames_eq, E_cut_eq, Try.ntmps28, Try.results28, tt_1, tt_2, tt_3, tt_4, tt_5, tt_6, tt_7, tt_8, tt_12, tt_15, tt_16, tt_17, tt_18, tt_19, tt_21, tt_22, tt_23, tt_24, tt_25, tt_26, tt_27, tt_28, tt_29, tt_30, tt_31, tt_32, tt_33, tt_34, tt_35, tt_36, tt_37, tt_38, tt_39, tt_41, tt_42, tt_44, tt_45, tt_46, tt_47, tt_48, tt_49, tt_50, tt_51, tt_52, tt_53, tt_54, tt_55, tt_56, tt_57, tt_58, tt_59, tt_60, tt_61, tt_62, tt_63, tt_64, tt_65, tt_66, tt_67, tt_68, tt_69, tt_70, tt_71, tt_72, tt_73, tt_74, tt_75, tt_78, tt_79, tt_80, tt_81, tt_82, tt_83, tt_84, tt_85, tt_86, tt_87, tt_88, tt_89, tt_90, tt_91]
    exact ⟨⟨rfl, rfl, rfl⟩, rfl⟩
  intro i hi
  simp only [↓gPre, gPost, handV, V.bufs, buildArr, toCs, List.set_cons_succ, List.set_cons_zero, List.foldr_cons, List.foldr_nil, List.append_eq, Nat.reduceShiftRight, Nat.reduceMod, List.mem_cons, addB, addK, zeroOp, callSem, resName, keepsB, newB, V.pure, C.pure, V.ptrs, C.ptrs, C.bufs, appendSem, dstOk, lk, V.cells, Op.eff, partV, partD, cut, lay, zeroD, C.toDs, C.toD, V.toD, toDs, buildCells, List.flatMap_nil, List.flatMap_cons, List.all_nil, List.all_cons, List.map_nil, List.map_cons, List.zip_cons_cons, List.zip_nil_left, List.nil_append, List.append_nil, List.cons_append, List.drop_zero, List.drop_succ_cons, List.take_succ_cons, List.take_zero, List.length_cons, List.length_nil, List.getElem?_cons_succ, List.getElem?_cons_zero, Option.getD_some, Option.getD_none, Option.map_some, Option.map_none, Option.some.injEq, Option.isSome_none, Option.isSome_some, Option.toList_some, Option.toList_none, if_true, if_false, ↓reduceIte, reduceCtorEq, Nat.reduceEqDiff, Nat.reduceLT, Nat.reduceLeDiff, List.not_mem_nil, false_implies, implies_true, true_and, and_true, forall_const, Nat.succ_ne_self, Bool.false_eq_true, Bool.true_and, Bool.and_true, eq_self, ne_eq, not_true_eq_false, not_false_eq_true, or_true, true_or, and_self, imp_self, bne_self_eq_false, beq_self_eq_true, Bool.or_false, Bool.false_or, Bool.and_false, Bool.false_and, false_or, or_false, Nat.reduceAdd, Nat.reduceMul, beq_true, beq_false, Name.mk.injEq, decide_true, decide_false, Bool.or_true, Bool.true_or, Bool.or_self, Bool.not_eq_true', Bool.not_true, Bool.not_false, Bool.true_eq_false, Bool.cond_true_left, Bool.cond_false_right, Nat.zero_add, Int.reduceLE, Int.reduceLT, Int.reduceNeg, Int.reduceAdd, Int.reduceToNat, List.range_succ, List.range_zero, Int.toNat_natCast, List.mem_nil_iff, List.mem_append, E_frames_eq, E_cut_eq, Try.ntmps28, Try.results28, tt_1, tt_2, tt_3, tt_4, tt_5, tt_6, tt_7, tt_8, tt_12, tt_15, tt_16, tt_17, tt_18, tt_19, tt_21, tt_22, tt_23, tt_24, tt_25, tt_26, tt_27, tt_28, tt_29, tt_30, tt_31, tt_32, tt_33, tt_34, tt_35, tt_36, tt_37, tt_38, tt_39, tt_41, tt_42, tt_44, tt_45, tt_46, tt_47, tt_48, tt_49, tt_50, tt_51, tt_52, tt_53, tt_54, tt_55, tt_56, tt_57, tt_58, tt_59, tt_60, tt_61, tt_62, tt_63, tt_64, tt_65, tt_66, tt_67, tt_68, tt_69, tt_70, tt_71, tt_72, tt_73, tt_74, tt_75, tt_78, tt_79, tt_80, tt_81, tt_82, tt_83, tt_84, tt_85, tt_86, tt_87, tt_88, tt_89, tt_90, tt_91]
  have hb8 : (IntKind.i64.wrap (((p[i]?.getD 0).toNat : Nat) : Int)).tmod 8 = (((p[i]?.getD 0).toNat % 8 : Nat) : Int) := by
    have := (p[i]?.getD 0).toNat_lt
    rw [IntWalk.i64_in _ (by omega), Int.tmod_eq_emod_of_nonneg (by omega)]
    omega
  have hb7 : (p[i]?.getD 0).toNat % 8 < 8 := Nat.mod_lt _ (by decide)
  have hq := cqP_le n p i
  have hql := cqL_len k l n p i
  have hP : cqP n p (i + 1) = if cqP n p i + (p[i]?.getD 0).toNat % 8 ≤ n then cqP n p i + (p[i]?.getD 0).toNat % 8 else cqP n p i := rfl
  have hL : cqL k l n p (i + 1) = if cqP n p i + (p[i]?.getD 0).toNat % 8 ≤ n then cqL k l n p i ++ [(k, cutK k l (cqP n p i) (cqP n p i + (p[i]?.getD 0).toNat % 8))] else cqL k l n p i := rfl
  rw [hb8]
  generalize (p[i]?.getD 0).toNat % 8 = b at *
  rw [IntWalk.i64_in (((cqP n p i : Nat) : Int) + (b : Int)) (by omega)]
  have en : ((cqP n p i : Nat) : Int) + (b : Int) = ((cqP n p i + b : Nat) : Int) := by omega
  rw [en, Int.toNat_natCast]
  refine ⟨fun h1 => ⟨by have := of_decide_eq_true h1; omega, by decide, fun h2 => ?_, fun h2 => ?_⟩, fun h1 => ?_⟩
  · have h3 : cqP n p i + b ≤ n := by have := of_decide_eq_true h2; omega
    have h4 := of_decide_eq_true h1
    rw [hP, hL, if_pos h3, if_pos h3]
    refine ⟨⟨hl, ⟨k1, k2⟩, by omega, ?_⟩, by unfold roomOK; omega, ⟨⟨(wrapN _ (by omega)).symm, rfl, rfl⟩, rfl⟩, by omega, by omega⟩
    rw [k3]
    exact Nat.mul_le_mul_right _ h3
  · have h3 : ¬ (cqP n p i + b ≤ n) := by have := of_decide_eq_false h2; omega
    have h4 := of_decide_eq_true h1
    rw [hP, hL, if_neg h3, if_neg h3]
    exact ⟨⟨⟨(wrapN _ (by omega)).symm, rfl, rfl⟩, rfl⟩, by omega, by omega⟩
  · have h4 := of_decide_eq_false h1
    have hi2 : p.length = i := by omega
    rw [hi2]
    exact ⟨⟨hl, ⟨k1, k2⟩, by omega, by omega⟩, by unfold roomOK; omega, rfl⟩
def E_mcut : List V → Boxes → Toks → Name → Option Ent
  | [.agg [.d (.int .i64 k), .d (.list q_l)], .c (.d (.list q_p))], [], [], _ => some ⟨(ints q_l).length ≤ 1000000 ∧ blkV k (ints q_l) = true ∧ (bys q_p).length ≤ 1000 ∧ q_l = LI .i32 (ints q_l) ∧ q_p = LB (bys q_p), vL (LK (cqL k (ints q_l) ((ints q_l).length / k.toNat) (bys q_p) (bys q_p).length ++ [(k, cutK k (ints q_l) (cqP ((ints q_l).length / k.toNat) (bys q_p) (bys q_p).length) ((ints q_l).length / k.toNat))])), [], []⟩
  | _, _, _, _ => none
theorem E_mcut_eq {k : Int}  {q_l : List D} {q_p : List D} {nF : Name} : E_mcut [.agg [.d (.int .i64 k), .d (.list q_l)], .c (.d (.list q_p))] [] [] nF = some ⟨(ints q_l).length ≤ 1000000 ∧ blkV k (ints q_l) = true ∧ (bys q_p).length ≤ 1000 ∧ q_l = LI .i32 (ints q_l) ∧ q_p = LB (bys q_p), vL (LK (cqL k (ints q_l) ((ints q_l).length / k.toNat) (bys q_p) (bys q_p).length ++ [(k, cutK k (ints q_l) (cqP ((ints q_l).length / k.toNat) (bys q_p) (bys q_p).length) ((ints q_l).length / k.toNat))])), [], []⟩ := Eq.trans rfl rfl
theorem E_mcut_ok : Snd Try.prog 28 E_mcut := by
  intro vs b k n e h hn hp
  unfold E_mcut at h
  split at h
  · cases h; obtain ⟨hp0, hp1, hp2, hq0, hq1⟩ := hp; obtain ⟨_, rfl⟩ := LI_ex hq0; obtain ⟨_, rfl⟩ := LB_ex hq1; simp only [ints_LI, bys_LB, blks_LK, lls_LL] at hp0 hp1 hp2 ⊢; exact (spec_mcut _ _ _ hp0 hp1 hp2).lift rfl _
  · cases h

/-- Parts in a row, from one frame to another. -/
def chain (k : Int) (l : List Int) (n : Nat) : Nat → List (Int × List Int) → Prop
  | q, [] => q = n
  | q, x :: xs => ∃ m, q ≤ m ∧ m ≤ n ∧ x = (k, cutK k l q m) ∧ chain k l n m xs
theorem chain_snoc {k : Int} {l : List Int} {n m : Nat} (h : m ≤ n) : ∀ {xs : List (Int × List Int)} {q : Nat}, chain k l m q xs → chain k l n q (xs ++ [(k, cutK k l m n)])
  | [], q, e => ⟨n, by cases e; exact h, Nat.le_refl _, by cases e; rfl, rfl⟩
  | x :: xs, q, ⟨m', h1, h2, h3, h4⟩ => ⟨m', h1, by omega, h3, chain_snoc h h4⟩
theorem cqP_mono (n : Nat) (p : List UInt8) (i : Nat) : cqP n p i ≤ cqP n p (i + 1) := by
  have e : cqP n p (i + 1) = if cqP n p i + (p[i]?.getD 0).toNat % 8 ≤ n then cqP n p i + (p[i]?.getD 0).toNat % 8 else cqP n p i := rfl
  rw [e]
  split
  · exact Nat.le_add_right _ _
  · exact Nat.le_refl _
theorem chain_cq (k : Int) (l : List Int) (n : Nat) (p : List UInt8) : ∀ i, chain k l (cqP n p i) 0 (cqL k l n p i)
  | 0 => rfl
  | i + 1 => by
    have ih := chain_cq k l n p i
    show chain k l (if _ then _ else _) 0 (if _ then _ else _)
    split
    · exact chain_snoc (Nat.le_add_right _ _) ih
    · exact ih
theorem chain_parts (k : Int) (l : List Int) (n : Nat) (p : List UInt8) (i : Nat) : chain k l n 0 (cqL k l n p i ++ [(k, cutK k l (cqP n p i) n)]) :=
  chain_snoc (cqP_le n p i) (chain_cq k l n p i)
theorem cutK_len {k : Int} {l : List Int} {f t : Nat} (h : t * k.toNat ≤ l.length) : (cutK k l f t).length = (t - f) * k.toNat := by
  unfold cutK
  rw [List.length_take, List.length_drop, Nat.sub_mul]
  omega
theorem cutK_get {k : Int} {l : List Int} {f t j : Nat} (hj : j < (t - f) * k.toNat) : (cutK k l f t)[j]? = l[f * k.toNat + j]? := by
  unfold cutK
  rw [List.getElem?_take_of_lt hj, List.getElem?_drop]


theorem blkV_cut {k : Int} {s : List Int} {q m : Nat} (hb : blkV k s = true) (hq : q ≤ m) (hm : m * k.toNat ≤ s.length) (hl : s.length ≤ 65536) : blkV k (cutK k s q m) = true := by
  obtain ⟨hc, ha⟩ := blkV_in hb
  obtain ⟨k1, k2, k3⟩ := chBk_in hc
  have hlen := cutK_len (f := q) hm
  have hle : (cutK k s q m).length ≤ s.length := by unfold cutK; rw [List.length_take, List.length_drop]; omega
  unfold blkV
  have hch : chBk k (cutK k s q m).length = false := by
    rw [hlen] at hle ⊢
    unfold chBk
    have e : (((m - q) * k.toNat : Nat) : Int) = ((m - q : Nat) : Int) * k := by
      rw [Int.natCast_mul]; congr 1; omega
    have hdl : m - q ≤ (m - q) * k.toNat := Nat.le_mul_of_pos_right _ (by omega)
    rw [e, Int.mul_tmod_left, Int.mul_tdiv_cancel _ (by omega), IntWalk.i64_in _ (by omega)]
    simp only [Bool.or_eq_false_iff, decide_eq_false_iff_not, bne_self_eq_false, and_true]
    omega
  rw [hch]
  simp only [Bool.not_false, Bool.true_and, List.all_eq_true]
  intro x hx
  exact List.all_eq_true.1 ha x (List.mem_of_mem_drop (List.mem_of_mem_take hx))

end Go.Vam
