/- The law GainMoves gives true. Conditions: none. -/
import Derived.Test.YteignkkhmkenjaaGainE
set_option linter.unusedVariables false
set_option linter.unusedSimpArgs false
set_option maxRecDepth 40000
set_option maxHeartbeats 4000000
namespace Go.Vam
open Go.Proofs

theorem gainG_up {a b c d i : Int} (hv : validG a b c d = true) (hi : 0 ≤ i) (h : a ≤ b) : a ≤ gainG a b c d i ∧ gainG a b c d i ≤ b ∧ gainG a b c d i ≤ gainG a b c d (i + 1) := by
  obtain ⟨ha, hb, hc0, hc, hd0, hd⟩ := validG_in hv
  have key : ∀ j : Int, 0 ≤ j → ¬ (c - d ≤ j) → 0 ≤ (b - a) * (d + j) / c ∧ (b - a) * (d + j) / c ≤ b - a := by
    intro j hj hlt
    have hcp : 0 < c := by omega
    refine ⟨Int.ediv_nonneg (Int.mul_nonneg (by omega) (by omega)) (by omega), Int.ediv_le_of_le_mul hcp ?_⟩
    exact Int.mul_le_mul_of_nonneg_left (by omega) (by omega)
  unfold gainG
  by_cases h1 : c - d ≤ i
  · rw [if_pos h1, if_pos (by omega)]; omega
  · have k1 := key i hi h1
    rw [if_neg h1]
    by_cases h2 : c - d ≤ i + 1
    · rw [if_pos h2]; omega
    · rw [if_neg h2]
      have hcp : 0 < c := by omega
      have : (b - a) * (d + i) / c ≤ (b - a) * (d + (i + 1)) / c := Int.ediv_le_ediv hcp (Int.mul_le_mul_of_nonneg_left (by omega) (by omega))
      omega
theorem gainG_down {a b c d i : Int} (hv : validG a b c d = true) (hi : 0 ≤ i) (h : b ≤ a) : b ≤ gainG a b c d i ∧ gainG a b c d i ≤ a ∧ gainG a b c d (i + 1) ≤ gainG a b c d i := by
  obtain ⟨ha, hb, hc0, hc, hd0, hd⟩ := validG_in hv
  have hmono : ∀ x y : Int, x ≤ y → (b - a) * y ≤ (b - a) * x := fun x y hxy => Int.mul_le_mul_of_nonpos_left (by omega) hxy
  have key : ∀ j : Int, 0 ≤ j → ¬ (c - d ≤ j) → b - a ≤ (b - a) * (d + j) / c ∧ (b - a) * (d + j) / c ≤ 0 := by
    intro j hj hlt
    have hcp : 0 < c := by omega
    refine ⟨Int.le_ediv_of_mul_le hcp (hmono (d + j) c (by omega)), Int.ediv_le_of_le_mul hcp ?_⟩
    have := hmono 0 (d + j) (by omega)
    simpa using this
  unfold gainG
  by_cases h1 : c - d ≤ i
  · rw [if_pos h1, if_pos (by omega)]; omega
  · have k1 := key i hi h1
    rw [if_neg h1]
    by_cases h2 : c - d ≤ i + 1
    · rw [if_pos h2]; omega
    · rw [if_neg h2]
      have hcp : 0 < c := by omega
      have : (b - a) * (d + (i + 1)) / c ≤ (b - a) * (d + i) / c := Int.ediv_le_ediv hcp (hmono _ _ (by omega))
      omega
theorem atG_of {a b c d i : Int} (hv : validG a b c d = true) (hi : 0 ≤ i) : atG a b c d i = gainG a b c d i := by
  have : ¬ (i < 0) := by omega
  simp [atG, hv, this]
theorem validG_of {a b c d : Int} (ha : 0 ≤ a ∧ a ≤ 262144) (hb : 0 ≤ b ∧ b ≤ 262144) (hc : 0 ≤ c ∧ c ≤ 4194304) (hd : 0 ≤ d ∧ d ≤ c) : validG a b c d = true := by
  simp only [validG, isG, Bool.and_eq_true, decide_eq_true_eq]
  omega
theorem rV (l : List UInt8) : validG (rF l) (rT l) (rN l) (rA l) = true :=
  validG_of (rF_in l) (rT_in l) (by have := rN_in l; omega) (rA_in l)

theorem spec_moves (l : List UInt8) (i t n : Int) (hi : 0 ≤ i ∧ i ≤ 255) (ht : 0 ≤ t ∧ t ≤ 65535) (hn : 0 ≤ n ∧ n ≤ 65535) : Spec Try.prog 0 8 [vL (LB l), vI .u8 i, vI .u16 t, vI .u16 n] [] [] (vB true) [] [] := by
  refine spec_of_E (X := ⟨Try.prog, tt, Try.f8.ntmps, 1, fun _ => 0, (tab [(12, E_sane), (21, E_new), (20, E_ramp), (22, E_At), (24, E_retarget)])⟩) (M := [(6, [0, 0, 0, 0, 0, 1928440708879, 0, 0, 0, 0, 0, 0]), (7, [0, 0, 0, 0, 0, 2216615441989391, 0, 0, 0, 0, 0, 0]), (8, [0, 0, 0, 0, 0, 1329227995784915872885792661771255567, 0, 0, 0, 0, 0, 1329227995784915871174424803370467087, 0, 0, 0, 0, 0, 1329227995784915670566083001779093263, 0, 0, 0, 0, 0, 1329227995784898183052701125124161295, 0, 0, 0, 0, 0, 1329227995783708146699017974530309903, 0, 0, 0, 0, 0, 1329227995726887433562304859894841103, 0, 0, 0, 0, 0, 1329227994566318646732260852176912143, 0, 0, 0, 0, 0, 1329227758100428330110794279648886543, 0, 0, 0, 0, 0, 1329219122230714275297996583358299919, 0, 0, 0, 0, 0, 1327929921570282165996674436198432527, 0, 0, 0, 0, 0, 1290285769345904665689828337811586831, 0, 0, 0, 0])]) (m := 392975) rfl rfl ⟨tt_ok, tab_ok (tabs_cons E_sane_ok (tabs_cons E_new_ok (tabs_cons E_ramp_ok (tabs_cons E_At_ok (tabs_cons E_retarget_ok tabs_nil))))) _ rfl rfl⟩ tt_mixed Try.func8 rfl (by decide) (by show (4 : Nat) ≤ _; exact Nat.le_of_ble_eq_true rfl) ⟨fun m hm => (V.bare_has rfl m hm).elim, by simp, by simp⟩ ?_
  simp only [↓oel_some, ↓oel_none, ↓wp_ret, ↓wp_fail, ↓wp_getT, ↓wp_getB, ↓wp_getK, ↓wp_need, ↓wp_exD, ↓wp_case, ↓wp_ite, ↓wp_unG_g, ↓wp_unG_c, ↓wp_unG_agg, ↓wp_unG_tup, ↓wp_rawO_tmp, ↓wp_rawO_const, ↓wp_rawO_func, ↓wp_opnd, ↓wp_opnds_nil, ↓wp_opnds_cons, ↓wp_asI, ↓wp_asB, ↓wp_asL_nil, ↓wp_asL_own, ↓wp_asL_list, ↓wp_orFail, ↓wp_gNeed, ↓wp_noGd_none, ↓wp_optI_none, ↓wp_optI_some, ↓wp_getBs_nil, ↓wp_getBs_cons, ↓wp_getKs_nil, ↓wp_getKs_cons, ↓wp_bindR, ↓thenS_normal, ↓thenS_ret, ↓thenS_exit, ↓inBlockS_normal, ↓inBlockS_ret, ↓inBlockS_exit, ↓loadV_lp, ↓loadV_agg, ↓loadV_int, ↓loadV_bool, ↓loadV_list, ↓loadV_ap, ↓storeV_lp, ↓nilV_lp, ↓nilV_pd, ↓nilV_ap, ↓nilV_fn, ↓faddrV_lp, ↓faddrV_pd, ↓faddrV_ap, ↓fieldV_agg, ↓idxV_arr, ↓idxV_own, ↓idxV_list, ↓extV_tup, ↓bi_len_arr, ↓bi_len_own, ↓bi_len_nil, ↓bi_len_list, ↓bi_min, ↓bi_max, ↓bi_max3, ↓bi_append, ↓gdst_zero, ↓gdst_succ, ↓opRun_none, ↓opRun_some, ↓opSem_move, ↓opSem_assign, ↓opSem_pick, ↓opSem_alloc, ↓opSem_box, ↓opSem_build, ↓opSem_buildSlice, ↓opSem_load, ↓opSem_store, ↓opSem_nilCheck, ↓opSem_binOp, ↓opSem_neg, ↓opSem_not, ↓opSem_convert, ↓opSem_makeSlice, ↓opSem_slice, ↓opSem_fieldAddr, ↓opSem_field, ↓opSem_indexAddr, ↓opSem_extract, ↓opSem_makeFunc, ↓opSem_builtin, ↓opSem_call, ↓callV_fn, ↓binV_add, ↓binV_sub, ↓binV_mul, ↓binV_quo, ↓binV_rem, ↓binV_and, ↓binV_or, ↓binV_xor, ↓binV_andNot, ↓binV_eql, ↓binV_neq, ↓binV_lss, ↓binV_leq, ↓binV_gtr, ↓binV_geq, ↓binV_shl, ↓binV_shr, ↓binV_beq, ↓binV_bne, ↓binV_aeq, ↓binV_ane, ↓allD_nil, ↓allD_cons, ↓FreeB_mk, ↓frT_nil, ↓frT_cons, ↓frB_nil, ↓frB_cons, ↓frK_nil, ↓frK_cons, ↓frCs_nil, ↓frCs_cons, ↓frV_c, ↓frV_agg, ↓frV_tup, ↓frV_g, ↓frC_d, ↓frC_nil, ↓frC_pd, ↓frC_own, ↓frC_arr, ↓frC_lp, ↓frC_ap, ↓frC_fn, ↓finQ_normal, ↓finQ_ret, ↓E_skip, ↓E_region, ↓E_drawn, ↓runP_nil, ↓runP_cons0, ↓runP_cons, ↓runN_nil, ↓runN_cons0, ↓runN_cons, ↓E_seq, ↓E_cond, ↓E_block, ↓E_exit, ↓E_ret, ↓E_label, ↓E_loop, oel_some, oel_none, wp_ret, wp_fail, wp_getT, wp_getB, wp_getK, wp_need, wp_exD, wp_case, wp_ite, wp_unG_g, wp_unG_c, wp_unG_agg, wp_unG_tup, wp_rawO_tmp, wp_rawO_const, wp_rawO_func, wp_opnd, wp_opnds_nil, wp_opnds_cons, wp_asI, wp_asB, wp_asL_nil, wp_asL_own, wp_asL_list, wp_orFail, wp_gNeed, wp_noGd_none, wp_optI_none, wp_optI_some, wp_getBs_nil, wp_getBs_cons, wp_getKs_nil, wp_getKs_cons, wp_bindR, newsOk_nil, newsOk_one, thenS_normal, thenS_ret, thenS_exit, inBlockS_normal, inBlockS_ret, inBlockS_exit, loadV_lp, loadV_agg, loadV_int, loadV_bool, loadV_list, loadV_ap, storeV_lp, nilV_lp, nilV_pd, nilV_ap, nilV_fn, faddrV_lp, faddrV_pd, faddrV_ap, fieldV_agg, like_int, like_bool, like_list, like_agg, like1_int, like1_bool, like1_list, likes_nil, likes_cons, toI_int, toB_bool, toL_list, cellsEq_nil, cellsEq_int, cellsEq_bool, cellKinds_nil, cellKinds_int, cellKinds_bool, idxV_arr, idxV_own, idxV_list, extV_tup, bi_len_arr, bi_len_own, bi_len_nil, bi_len_list, bi_min, bi_max, bi_max3, bi_append, gdst_zero, gdst_succ, opRun_none, opRun_some, opSem_move, opSem_assign, opSem_pick, opSem_alloc, opSem_box, opSem_build, opSem_buildSlice, opSem_load, opSem_store, opSem_nilCheck, opSem_binOp, opSem_neg, opSem_not, opSem_convert, opSem_makeSlice, opSem_slice, opSem_fieldAddr, opSem_field, opSem_indexAddr, opSem_extract, opSem_makeFunc, opSem_builtin, opSem_call, callV_fn, apply_some, apply_g, apply_none, boolG_b, boolG_g, condS_tmp, condS_const, obind_some, constV_int, constV_bool, constV_nil, constV_str, constV_nilF, constV_nilP, argT_nil, argT_cons, binV_add, binV_sub, binV_mul, binV_quo, binV_rem, binV_and, binV_or, binV_xor, binV_andNot, binV_eql, binV_neq, binV_lss, binV_leq, binV_gtr, binV_geq, binV_shl, binV_shr, binV_beq, binV_bne, binV_aeq, binV_ane, cells_int, cells_bool, cells_list, cells_agg, toV_int, toV_bool, toV_list, toV_agg, okV_int, okV_bool, okV_list, okV_agg, allD_nil, allD_cons, exD_some, FreeB_mk, allN_nil, allN_one, frT_nil, frT_cons, frB_nil, frB_cons, frK_nil, frK_cons, frCs_nil, frCs_cons, frV_c, frV_agg, frV_tup, frV_g, frC_d, frC_nil, frC_pd, frC_own, frC_arr, frC_lp, frC_ap, frC_fn, finQ_normal, finQ_ret, retC_lp, resV_tmp, resV_cell, resVs_nil, resVs_cons, retV_cell, retV_two, retV_tmp, subB_nil, subK_nil, subB_cons, subK_cons, leV_c, leV_agg, leV_tup, leCs_nil, leCs_cons, leC_int, leC_bool, leC_list, leC_list_own, leC_list_nil, leC_own, leC_nil, leC_lp, evS_mk, E_skip, E_region, E_drawn, runP_nil, runP_cons0, runP_cons, runN_nil, runN_cons0, runN_cons, msk_nil, msk_cons, prM_0, prM_m, E_seq, E_cond, E_block, E_exit, E_ret, E_label, E_loop, pruneT_nil, pruneT_cons, prune_mk, List.append_eq, Nat.reduceShiftRight, Nat.reduceMod, keep_nil, keep_cons, List.mem_cons, addB, addK, zeroOp, callSem, resName, keepsB, newB, V.pure, C.pure, V.ptrs, C.ptrs, C.bufs, appendSem, dstOk, lk, V.cells, Op.eff, partV, partD, cut, lay, zeroD, C.toDs, C.toD, V.toD, toDs, buildCells, List.flatMap_nil, List.flatMap_cons, List.all_nil, List.all_cons, List.map_nil, List.map_cons, List.zip_cons_cons, List.zip_nil_left, List.nil_append, List.append_nil, List.cons_append, List.drop_zero, List.drop_succ_cons, List.take_succ_cons, List.take_zero, List.length_cons, List.length_nil, List.getElem?_cons_succ, List.getElem?_cons_zero, Option.getD_some, Option.getD_none, Option.map_some, Option.map_none, Option.some.injEq, Option.isSome_none, Option.isSome_some, Option.toList_some, Option.toList_none, if_true, if_false, ↓reduceIte, reduceCtorEq, Nat.reduceEqDiff, Nat.reduceLT, Nat.reduceLeDiff, List.not_mem_nil, false_implies, implies_true, true_and, and_true, forall_const, Nat.succ_ne_self, Bool.false_eq_true, Bool.true_and, Bool.and_true, eq_self, ne_eq, not_true_eq_false, not_false_eq_true, or_true, true_or, and_self, imp_self, bne_self_eq_false, beq_self_eq_true, Bool.or_false, Bool.false_or, Bool.and_false, Bool.false_and, false_or, or_false, Nat.reduceAdd, Nat.reduceMul, beq_true, beq_false, Name.mk.injEq, decide_true, decide_false, Bool.or_true, Bool.true_or, Bool.or_self, Bool.not_eq_true', Bool.not_true, Bool.not_false, Bool.true_eq_false, Bool.cond_true_left, Bool.cond_false_right, Nat.zero_add, Int.reduceLE, Int.reduceLT, Int.reduceNeg, Int.reduceAdd, Int.reduceToNat, List.range_succ, List.range_zero, tab_nil, tab_cons, bys_LB, LB_nil, LB_length, LB_getD, LB_take, LB_drop, LB_append, LB_cells, LB_inj, LB_nil_eq, LB_bys_LB, ints_LI, LI_nil, LI_length, LI_getD, LI_take, LI_drop, LI_append, LI_snoc, LI_cells, LI_inj, LI_nil_eq, LI_ints_LI, LI_ints_nil, gi1, gi2, gi3, gi4, gi5, gi6, gi7, gi8, gi9, gi10, Int.toNat_natCast, keep_nil, keep_cons, dstL_nil, dstL_cons, dsts_region, dsts_seq, dsts_cond, dsts_block, dsts_loop, dsts_skip, dsts_exit, dsts_ret, leV_same, leCs_same, subT_nil, subT_cons, List.mem_cons, List.mem_nil_iff, List.mem_append, E_sane_eq, E_new_eq, E_ramp_eq, E_At_eq, E_retarget_eq, Try.ntmps8, Try.results8, tt_2, tt_3, tt_4, tt_5, tt_12, tt_21, tt_23, tt_25, tt_30, tt_32, tt_34, tt_35, tt_36, tt_40, tt_42, tt_48, tt_49, tt_52, tt_60, tt_63, tt_64, tt_65, tt_66, tt_67]
  refine ⟨by decide, by kernel_rfl, by kernel_rfl, by kernel_rfl, ?_⟩
  have hv := rV (List.take 300 l)
  generalize rF (List.take 300 l) = F at *
  generalize rT (List.take 300 l) = T at *
  generalize rN (List.take 300 l) = N at *
  generalize rA (List.take 300 l) = A at *
  have hk : 0 ≤ i.tmod 16 ∧ i.tmod 16 < 16 := ⟨Int.tmod_nonneg 16 hi.1, Int.tmod_lt_of_pos i (by decide)⟩
  rw [IntWalk.i64_in (i.tmod 16) (by omega), IntWalk.i64_in (i.tmod 16 + 1) (by omega), IntWalk.i64_in t (by omega), IntWalk.i64_in n (by omega)]
  generalize i.tmod 16 = k at *
  have hvr := validG_in hv
  have e0 : retE F T N A t n = false := by
    have e1 : isG t = true := by simp only [isG, Bool.and_eq_true, decide_eq_true_eq]; omega
    have e2 : ¬ (n < 0) := by omega
    have e3 : ¬ (4194304 < n) := by omega
    simp [retE, hv, e1, e2, e3]
  have g0 : 0 ≤ gainG F T N A 0 ∧ gainG F T N A 0 ≤ 262144 := by
    rcases Int.le_total F T with h | h
    · have := gainG_up hv (Int.le_refl 0) h; omega
    · have := gainG_down hv (Int.le_refl 0) h; omega
  have hv2 : validG (gainG F T N A 0) t n 0 = true := validG_of g0 (by omega) (by omega) (by omega)
  have x0 : n ≠ 0 → atG (gainG F T N A 0) t n 0 0 = gainG F T N A 0 := by
    intro hn0
    rw [atG_of hv2 (Int.le_refl 0)]
    unfold gainG
    rw [if_neg (by omega)]
    simp
  have x1 : atG (gainG F T N A 0) t n 0 n = t := by
    rw [atG_of hv2 hn.1]
    unfold gainG
    rw [if_pos (by omega)]
  simp only [retF, retT, retN, retX, e0, Bool.false_eq_true, if_false, x1, atG_of hv (Int.le_refl 0), atG_of hv hk.1, atG_of hv (show 0 ≤ k + 1 by omega)]
  have y0 : (n == 0 || atG (gainG F T N A 0) t n 0 0 == gainG F T N A 0) = true := by
    by_cases h : n = 0
    · simp [h]
    · rw [x0 h]; simp
  have y1 : (n == 0) = false → atG (gainG F T N A 0) t n 0 0 = gainG F T N A 0 := fun h => x0 (by simpa using h)
  rcases Int.lt_trichotomy F T with h | h | h
  · have u := gainG_up hv hk.1 (Int.le_of_lt h)
    have b1 : (T == F) = false := by simp; omega
    have b2 : decide (F < T) = true := decide_eq_true h
    have b3 : decide (F ≤ T) = true := decide_eq_true (by omega)
    have b4 : ¬ (T < F) := by omega
    simp only [if_neg b4, if_pos h, b1, b2, b3, decide_eq_true u.1, decide_eq_true u.2.1, decide_eq_true u.2.2, y0]
    simp
  · have u := gainG_up hv hk.1 (Int.le_of_eq h)
    have v := gainG_down hv hk.1 (Int.le_of_eq h.symm)
    have b1 : (T == F) = true := by simp; omega
    have b2 : decide (F < T) = false := decide_eq_false (by omega)
    have b3 : decide (F ≤ T) = true := decide_eq_true (by omega)
    have b4 : ¬ (T < F) := by omega
    simp only [if_neg b4, if_neg (show ¬ (F < T) by omega), b1, b2, b3, decide_eq_true u.1, decide_eq_true v.2.1, decide_eq_true u.2.2, decide_eq_true v.2.2, y0]
    simp
  · have v := gainG_down hv hk.1 (Int.le_of_lt h)
    have b1 : (T == F) = false := by simp; omega
    have b2 : decide (F < T) = false := decide_eq_false (by omega)
    have b3 : decide (F ≤ T) = false := decide_eq_false (by omega)
    simp only [if_pos h, if_neg (show ¬ (F < T) by omega), b1, b2, b3, decide_eq_true v.1, decide_eq_true v.2.1, decide_eq_true v.2.2, y0]
    simp

end Go.Vam
