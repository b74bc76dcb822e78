/- The laws GainUnit, GainVolumes, GainProducts give true. Conditions: none. -/
import Derived.Test.YteignkkhmkenjaaGainA
set_option linter.unusedVariables false
set_option linter.unusedSimpArgs false
set_option maxRecDepth 4000
namespace Go.Vam
open Go.Proofs

theorem ediv_mono65536 {x y : Int} (h : x ≤ y) : (x + 32768) / 65536 ≤ (y + 32768) / 65536 := by omega
theorem clampG_mono {x y : Int} (h : x ≤ y) : clampG x ≤ clampG y := by unfold clampG; omega
theorem cube_mono {x y : Int} (h0 : 0 ≤ x) (h : x ≤ y) : x * x * x ≤ y * y * y := by
  have h1 : x * x ≤ y * y := Int.mul_le_mul h h h0 (by omega)
  exact Int.mul_le_mul h1 h h0 (Int.mul_nonneg (by omega) (by omega))
theorem volG_mono {x y : Int} (h : x ≤ y) : volG x ≤ volG y := by
  have h1 := cube_mono (clampG_in x).1 (clampG_mono h)
  unfold volG
  omega
theorem volG_in (n : Int) : 0 ≤ volG n ∧ volG n ≤ 65536 := by
  have h := clampG_in n
  have h1 := cube_mono h.1 h.2
  have h0 := cube_mono (show (0 : Int) ≤ 0 by decide) h.1
  unfold volG
  omega
theorem satG_id {x : Int} (h : -8388608 ≤ x ∧ x ≤ 8388607) : satG x = x := by unfold satG; omega
theorem satG_mono {x y : Int} (h : x ≤ y) : satG x ≤ satG y := by unfold satG; omega
theorem isG_of {n : Int} (h : 0 ≤ n ∧ n ≤ 262144) : isG n = true := by simp [isG, h]
theorem applyG_eq {s n : Int} (hs : -8388608 ≤ s ∧ s ≤ 8388607) (hn : 0 ≤ n ∧ n ≤ 262144) : applyG s n = satG ((s * n + 32768) / 65536) := by
  have e : ¬ ((decide (s < -8388608) || decide (8388607 < s) || !isG n) = true) := by
    simp only [isG_of hn, Bool.or_eq_true, decide_eq_true_eq, Bool.not_true, Bool.false_eq_true, or_false]
    omega
  simp only [applyG, if_neg e]
theorem mulG_eq {s n : Int} (hs : 0 ≤ s ∧ s ≤ 262144) (hn : 0 ≤ n ∧ n ≤ 262144) : mulG s n = if (s * n + 32768) / 65536 < 262144 then (s * n + 32768) / 65536 else 262144 := by
  simp only [mulG, isG_of hs, isG_of hn, Bool.not_true, Bool.or_self, Bool.false_eq_true, if_false]
theorem unit_true {s g m : Int} (hg : 0 ≤ g ∧ g ≤ 65535) (hm : 0 ≤ m ∧ m ≤ 65535) (hs : -8388608 ≤ s ∧ s ≤ 8388607) :
    (applyG s 65536 == s) = true ∧ (applyG s 0 == 0) = true ∧ (0 ≤ s → applyG s g ≤ applyG s (g + m)) ∧ (s ≤ 0 → applyG s (g + m) ≤ applyG s g) := by
  rw [applyG_eq hs (by omega), applyG_eq hs (by omega), applyG_eq hs (by omega), applyG_eq hs (by omega)]
  refine ⟨?_, ?_, fun h => ?_, fun h => ?_⟩
  · rw [beq_iff_eq, show (s * 65536 + 32768) / 65536 = s by omega, satG_id hs]
  · rw [beq_iff_eq]; simp only [Int.mul_zero]; decide
  · exact satG_mono (ediv_mono65536 (Int.mul_le_mul_of_nonneg_left (by omega) h))
  · refine satG_mono (ediv_mono65536 ?_)
    have := Int.mul_nonneg (show 0 ≤ -s by omega) hm.1
    rw [Int.mul_add]
    rw [Int.neg_mul] at this
    omega
theorem mul_bd2 {x y A B : Int} (h1 : -A ≤ x) (h2 : x ≤ A) (h3 : -B ≤ y) (h4 : y ≤ B) (hA : 0 ≤ A) : -(A * B) ≤ x * y ∧ x * y ≤ A * B := by
  by_cases h : 0 ≤ y
  · exact mul_bd h1 h2 h h4 hA
  · have h5 := mul_bd (x := x) (y := -y) (A := A) (B := B) h1 h2 (by omega) (by omega) hA
    rw [Int.mul_neg] at h5
    omega
theorem prod_true {x a b : Int} (hx : -8388608 ≤ x ∧ x ≤ 8388607) (ha : 0 ≤ a ∧ a ≤ 65535) (hb : 0 ≤ b ∧ b ≤ 65535) :
    (-66 ≤ applyG (applyG x a) b - applyG x (mulG a b) ∧ applyG (applyG x a) b - applyG x (mulG a b) ≤ 66) ∧ mulG a b ≤ a := by
  have hab := mul_bd (x := a) (y := b) (A := 65535) (B := 65535) (by omega) ha.2 hb.1 hb.2 (by decide)
  have hab0 : 0 ≤ a * b := Int.mul_nonneg ha.1 hb.1
  have haB : a * b ≤ a * 65535 := Int.mul_le_mul_of_nonneg_left hb.2 ha.1
  have hxa := mul_bd (x := x) (y := a) (A := 8388608) (B := 65535) (by omega) (by omega) ha.1 ha.2 (by decide)
  have em : mulG a b = (a * b + 32768) / 65536 := by rw [mulG_eq (by omega) (by omega), if_pos (by omega)]
  have ep : applyG x a = (x * a + 32768) / 65536 := by rw [applyG_eq hx (by omega), satG_id (by omega)]
  rw [em, ep]
  generalize hp : (x * a + 32768) / 65536 = p
  generalize hm : (a * b + 32768) / 65536 = m
  have hpb := mul_bd (x := p) (y := b) (A := 8388608) (B := 65535) (by omega) (by omega) hb.1 hb.2 (by decide)
  have hxm := mul_bd (x := x) (y := m) (A := 8388608) (B := 65535) (by omega) (by omega) (by omega) (by omega) (by decide)
  rw [applyG_eq (s := p) (by omega) (by omega), applyG_eq hx (by omega), satG_id (by omega), satG_id (by omega)]
  have e1 := mul_bd2 (x := 65536 * p - x * a) (y := b) (A := 32768) (B := 65535) (by omega) (by omega) (by omega) (by omega) (by decide)
  have e3 := mul_bd2 (x := x) (y := 65536 * m - a * b) (A := 8388608) (B := 32768) (by omega) (by omega) (by omega) (by omega) (by decide)
  rw [Int.sub_mul, Int.mul_assoc] at e1
  rw [Int.mul_sub, Int.mul_left_comm, ← Int.mul_assoc x a b] at e3
  omega

def G_unit : FuncId → List V → Boxes → Toks → Name → Option Ent
  | 12, [], [], [], _ => some ⟨True, vB true, [], []⟩
  | 13, [.c (.d (.int .i64 n))], [], [], _ => some ⟨True, vI .i32 (satG n), [], []⟩
  | 14, [.c (.d (.int .i32 s)), .c (.d (.int .i64 n))], [], [], _ => some ⟨True, vI .i32 (applyG s n), [], []⟩
  | _, _, _, _, _ => none
theorem G_unit_ok (P0 : Ctx) (hP : P0.P = Try.prog) : ∀ f vs b k n e, G_unit f vs b k n = some e → n.lv = P0.L → e.pre → Spec P0.P P0.L f vs b k e.r e.b e.k := by
  intro f vs b k n e h hn hp
  rw [hP]
  unfold G_unit at h
  split at h
  · cases h; exact (spec_sane ).lift rfl _
  · cases h; exact (spec_rsat _).lift rfl _
  · cases h; exact (spec_apply _ _).lift rfl _
  · cases h
theorem spec_unit (s g m : Int) (hs : -2147483648 ≤ s ∧ s ≤ 2147483647) (hg : 0 ≤ g ∧ g ≤ 65535) (hm : 0 ≤ m ∧ m ≤ 65535) : Spec Try.prog 0 4 [vI .i32 s, vI .u16 g, vI .u16 m] [] [] (vB true) [] [] := by
  refine spec_of_W (X := ⟨Try.prog, tt, Try.f4.ntmps, 1, fun _ => 0, G_unit⟩) rfl rfl ⟨tt_ok, G_unit_ok _ rfl⟩ tt_mixed Try.func4 rfl (by decide) (by show (3 : Nat) ≤ _; exact Nat.le_of_ble_eq_true rfl) ⟨fun m hm => (V.bare_has rfl m hm).elim, by simp, by simp⟩ finQ_ok ?_
  simp only [↓oel_some, ↓oel_none, ↓wp_ret, ↓wp_fail, ↓wp_getT, ↓wp_getB, ↓wp_getK, ↓wp_need, ↓wp_exD, ↓wp_case, ↓wp_ite, ↓wp_unG_g, ↓wp_unG_c, ↓wp_unG_agg, ↓wp_unG_tup, ↓wp_rawO_tmp, ↓wp_rawO_const, ↓wp_rawO_func, ↓wp_opnd, ↓wp_opnds_nil, ↓wp_opnds_cons, ↓wp_asI, ↓wp_asB, ↓wp_asL_nil, ↓wp_asL_own, ↓wp_asL_list, ↓wp_orFail, ↓wp_gNeed, ↓wp_noGd_none, ↓wp_optI_none, ↓wp_optI_some, ↓wp_getBs_nil, ↓wp_getBs_cons, ↓wp_getKs_nil, ↓wp_getKs_cons, ↓wp_bindR, ↓runOps_nil, ↓runOps_cons, ↓W_skip, ↓W_region, ↓W_drawn, ↓W_seq, ↓W_cond, ↓W_block, ↓W_exit, ↓W_ret, ↓W_label, ↓W_loop, ↓thenS_normal, ↓thenS_ret, ↓thenS_exit, ↓inBlockS_normal, ↓inBlockS_ret, ↓inBlockS_exit, ↓loadV_lp, ↓loadV_agg, ↓loadV_int, ↓loadV_bool, ↓loadV_list, ↓loadV_ap, ↓storeV_lp, ↓nilV_lp, ↓nilV_pd, ↓nilV_ap, ↓nilV_fn, ↓faddrV_lp, ↓faddrV_pd, ↓faddrV_ap, ↓fieldV_agg, ↓idxV_arr, ↓idxV_own, ↓idxV_list, ↓extV_tup, ↓bi_len_arr, ↓bi_len_own, ↓bi_len_nil, ↓bi_len_list, ↓bi_min, ↓bi_max, ↓bi_max3, ↓bi_append, ↓gdst_zero, ↓gdst_succ, ↓opRun_none, ↓opRun_some, ↓opSem_move, ↓opSem_assign, ↓opSem_pick, ↓opSem_alloc, ↓opSem_box, ↓opSem_build, ↓opSem_buildSlice, ↓opSem_load, ↓opSem_store, ↓opSem_nilCheck, ↓opSem_binOp, ↓opSem_neg, ↓opSem_not, ↓opSem_convert, ↓opSem_makeSlice, ↓opSem_slice, ↓opSem_fieldAddr, ↓opSem_field, ↓opSem_indexAddr, ↓opSem_extract, ↓opSem_makeFunc, ↓opSem_builtin, ↓opSem_call, ↓callV_fn, ↓binV_add, ↓binV_sub, ↓binV_mul, ↓binV_quo, ↓binV_rem, ↓binV_and, ↓binV_or, ↓binV_xor, ↓binV_andNot, ↓binV_eql, ↓binV_neq, ↓binV_lss, ↓binV_leq, ↓binV_gtr, ↓binV_geq, ↓binV_shl, ↓binV_shr, ↓binV_beq, ↓binV_bne, ↓binV_aeq, ↓binV_ane, ↓FreeB_mk, ↓allN_nil, ↓allN_one, ↓frT_nil, ↓frT_cons, ↓frB_nil, ↓frB_cons, ↓frK_nil, ↓frK_cons, ↓frCs_nil, ↓frCs_cons, ↓frV_c, ↓frV_agg, ↓frV_tup, ↓frV_g, ↓frC_d, ↓frC_nil, ↓frC_pd, ↓frC_own, ↓frC_arr, ↓frC_lp, ↓frC_ap, ↓frC_fn, ↓finQ_normal, ↓finQ_ret, oel_some, oel_none, wp_ret, wp_fail, wp_getT, wp_getB, wp_getK, wp_need, wp_exD, wp_case, wp_ite, wp_unG_g, wp_unG_c, wp_unG_agg, wp_unG_tup, wp_rawO_tmp, wp_rawO_const, wp_rawO_func, wp_opnd, wp_opnds_nil, wp_opnds_cons, wp_asI, wp_asB, wp_asL_nil, wp_asL_own, wp_asL_list, wp_orFail, wp_gNeed, wp_noGd_none, wp_optI_none, wp_optI_some, wp_getBs_nil, wp_getBs_cons, wp_getKs_nil, wp_getKs_cons, wpL_ret, wpL_fail, wpL_getT, wpL_getB, wpL_getK, wpL_need, wpL_exD, wpL_case, wpL_ite, wpL_unG_g, wpL_unG_c, wpL_unG_agg, wpL_unG_tup, wpL_rawO_tmp, wpL_rawO_const, wpL_rawO_func, wpL_opnd, wpL_opnds_nil, wpL_opnds_cons, wpL_asI, wpL_asB, wpL_asL_nil, wpL_asL_own, wpL_asL_list, wpL_orFail, wpL_gNeed, wpL_noGd_none, wpL_optI_none, wpL_optI_some, wpL_getBs_nil, wpL_getBs_cons, wpL_getKs_nil, wpL_getKs_cons, wp_bindR, wpL_bindR, runOps_nil, runOps_cons, runOpsL_nil, runOpsL_cons, W_skip, W_region, W_drawn, W_seq, W_cond, W_block, W_exit, W_ret, W_label, W_loop, thenS_normal, thenS_ret, thenS_exit, inBlockS_normal, inBlockS_ret, inBlockS_exit, loadV_lp, loadV_agg, loadV_int, loadV_bool, loadV_list, loadV_ap, storeV_lp, nilV_lp, nilV_pd, nilV_ap, nilV_fn, faddrV_lp, faddrV_pd, faddrV_ap, fieldV_agg, idxV_arr, idxV_own, idxV_list, extV_tup, bi_len_arr, bi_len_own, bi_len_nil, bi_len_list, bi_min, bi_max, bi_max3, bi_append, gdst_zero, gdst_succ, opRun_none, opRun_some, opSem_move, opSem_assign, opSem_pick, opSem_alloc, opSem_box, opSem_build, opSem_buildSlice, opSem_load, opSem_store, opSem_nilCheck, opSem_binOp, opSem_neg, opSem_not, opSem_convert, opSem_makeSlice, opSem_slice, opSem_fieldAddr, opSem_field, opSem_indexAddr, opSem_extract, opSem_makeFunc, opSem_builtin, opSem_call, callV_fn, apply_some, apply_g, apply_none, boolG_b, boolG_g, condS_tmp, condS_const, obind_some, constV_int, constV_bool, constV_nil, constV_str, constV_nilF, constV_nilP, argT_nil, argT_cons, binV_add, binV_sub, binV_mul, binV_quo, binV_rem, binV_and, binV_or, binV_xor, binV_andNot, binV_eql, binV_neq, binV_lss, binV_leq, binV_gtr, binV_geq, binV_shl, binV_shr, binV_beq, binV_bne, binV_aeq, binV_ane, FreeB_mk, allN_nil, allN_one, frT_nil, frT_cons, frB_nil, frB_cons, frK_nil, frK_cons, frCs_nil, frCs_cons, frV_c, frV_agg, frV_tup, frV_g, frC_d, frC_nil, frC_pd, frC_own, frC_arr, frC_lp, frC_ap, frC_fn, finQ_normal, finQ_ret, retV_tmp, subB_nil, subK_nil, subB_cons, subK_cons, leV_c, leV_agg, leV_tup, leCs_nil, leCs_cons, leC_int, leC_bool, leC_list, leC_list_own, leC_list_nil, leC_own, leC_nil, leC_lp, callSem, resName, keepsB, newB, V.pure, C.pure, V.ptrs, C.ptrs, C.bufs, appendSem, dstOk, lk, V.cells, Op.eff, partV, partD, cut, lay, zeroD, C.toDs, C.toD, V.toD, toDs, D.cells, D.toV, D.okV, buildCells, List.flatMap_nil, List.flatMap_cons, List.all_nil, List.all_cons, List.map_nil, List.map_cons, List.zip_cons_cons, List.zip_nil_left, List.nil_append, List.append_nil, List.cons_append, List.drop_zero, List.drop_succ_cons, List.take_succ_cons, List.take_zero, List.length_cons, List.length_nil, List.getElem?_cons_succ, List.getElem?_cons_zero, Option.getD_some, Option.getD_none, Option.map_some, Option.map_none, Option.some.injEq, Option.isSome_none, Option.isSome_some, Option.toList_some, Option.toList_none, if_true, if_false, ↓reduceIte, reduceCtorEq, Nat.reduceEqDiff, Nat.reduceLT, Nat.reduceLeDiff, List.not_mem_nil, false_implies, implies_true, true_and, and_true, forall_const, Nat.succ_ne_self, Bool.false_eq_true, Bool.true_and, Bool.and_true, eq_self, ne_eq, not_true_eq_false, not_false_eq_true, or_true, true_or, and_self, imp_self, Nat.reduceAdd, Nat.reduceMul, beq_true, beq_false, Name.mk.injEq, decide_true, decide_false, Bool.or_true, Bool.true_or, Bool.or_self, Bool.not_eq_true', Bool.not_true, Bool.not_false, Bool.true_eq_false, Bool.cond_true_left, Bool.cond_false_right, Nat.zero_add, Int.reduceLE, Int.reduceLT, Int.reduceNeg, List.range_succ, List.range_zero, G_unit, if_true, Try.ntmps4, Try.results4, tt_2, tt_3, tt_4, tt_5, tt_12, tt_21, tt_23, tt_25, tt_30, tt_32, tt_34, tt_35, tt_36, tt_40, tt_42, tt_48, tt_49, tt_52, tt_60, tt_63, tt_64, tt_65, tt_66, tt_67]
  rw [IntWalk.i64_in s (by omega), IntWalk.i64_in g (by omega), IntWalk.i64_in m (by omega), IntWalk.i64_in (g + m) (by omega)]
  obtain ⟨h1, h2, h3, h4⟩ := unit_true hg hm (satG_in s)
  rw [h1, h2]
  by_cases e1 : satG s < 0
  · have h5 := h4 (by omega)
    have e2 : ¬ 0 < satG s := by omega
    simp [e1, e2, h5]
  · have h5 := h3 (by omega)
    by_cases e2 : 0 < satG s
    · simp [e1, e2, h5]
    · have h6 := h4 (by omega)
      simp [e1, e2, h5, h6]

def G_volumes : FuncId → List V → Boxes → Toks → Name → Option Ent
  | 12, [], [], [], _ => some ⟨True, vB true, [], []⟩
  | 18, [.c (.d (.int .i64 n))], [], [], _ => some ⟨True, vI .i64 (volG n), [], []⟩
  | _, _, _, _, _ => none
theorem G_volumes_ok (P0 : Ctx) (hP : P0.P = Try.prog) : ∀ f vs b k n e, G_volumes f vs b k n = some e → n.lv = P0.L → e.pre → Spec P0.P P0.L f vs b k e.r e.b e.k := by
  intro f vs b k n e h hn hp
  rw [hP]
  unfold G_volumes at h
  split at h
  · cases h; exact (spec_sane ).lift rfl _
  · cases h; exact (spec_volume _).lift rfl _
  · cases h
theorem spec_volumes (v : Int) (hv : -32768 ≤ v ∧ v ≤ 32767) : Spec Try.prog 0 6 [vI .i16 v] [] [] (vB true) [] [] := by
  refine spec_of_W (X := ⟨Try.prog, tt, Try.f6.ntmps, 1, fun _ => 0, G_volumes⟩) rfl rfl ⟨tt_ok, G_volumes_ok _ rfl⟩ tt_mixed Try.func6 rfl (by decide) (by show (1 : Nat) ≤ _; exact Nat.le_of_ble_eq_true rfl) ⟨fun m hm => (V.bare_has rfl m hm).elim, by simp, by simp⟩ finQ_ok ?_
  simp only [↓oel_some, ↓oel_none, ↓wp_ret, ↓wp_fail, ↓wp_getT, ↓wp_getB, ↓wp_getK, ↓wp_need, ↓wp_exD, ↓wp_case, ↓wp_ite, ↓wp_unG_g, ↓wp_unG_c, ↓wp_unG_agg, ↓wp_unG_tup, ↓wp_rawO_tmp, ↓wp_rawO_const, ↓wp_rawO_func, ↓wp_opnd, ↓wp_opnds_nil, ↓wp_opnds_cons, ↓wp_asI, ↓wp_asB, ↓wp_asL_nil, ↓wp_asL_own, ↓wp_asL_list, ↓wp_orFail, ↓wp_gNeed, ↓wp_noGd_none, ↓wp_optI_none, ↓wp_optI_some, ↓wp_getBs_nil, ↓wp_getBs_cons, ↓wp_getKs_nil, ↓wp_getKs_cons, ↓wp_bindR, ↓runOps_nil, ↓runOps_cons, ↓W_skip, ↓W_region, ↓W_drawn, ↓W_seq, ↓W_cond, ↓W_block, ↓W_exit, ↓W_ret, ↓W_label, ↓W_loop, ↓thenS_normal, ↓thenS_ret, ↓thenS_exit, ↓inBlockS_normal, ↓inBlockS_ret, ↓inBlockS_exit, ↓loadV_lp, ↓loadV_agg, ↓loadV_int, ↓loadV_bool, ↓loadV_list, ↓loadV_ap, ↓storeV_lp, ↓nilV_lp, ↓nilV_pd, ↓nilV_ap, ↓nilV_fn, ↓faddrV_lp, ↓faddrV_pd, ↓faddrV_ap, ↓fieldV_agg, ↓idxV_arr, ↓idxV_own, ↓idxV_list, ↓extV_tup, ↓bi_len_arr, ↓bi_len_own, ↓bi_len_nil, ↓bi_len_list, ↓bi_min, ↓bi_max, ↓bi_max3, ↓bi_append, ↓gdst_zero, ↓gdst_succ, ↓opRun_none, ↓opRun_some, ↓opSem_move, ↓opSem_assign, ↓opSem_pick, ↓opSem_alloc, ↓opSem_box, ↓opSem_build, ↓opSem_buildSlice, ↓opSem_load, ↓opSem_store, ↓opSem_nilCheck, ↓opSem_binOp, ↓opSem_neg, ↓opSem_not, ↓opSem_convert, ↓opSem_makeSlice, ↓opSem_slice, ↓opSem_fieldAddr, ↓opSem_field, ↓opSem_indexAddr, ↓opSem_extract, ↓opSem_makeFunc, ↓opSem_builtin, ↓opSem_call, ↓callV_fn, ↓binV_add, ↓binV_sub, ↓binV_mul, ↓binV_quo, ↓binV_rem, ↓binV_and, ↓binV_or, ↓binV_xor, ↓binV_andNot, ↓binV_eql, ↓binV_neq, ↓binV_lss, ↓binV_leq, ↓binV_gtr, ↓binV_geq, ↓binV_shl, ↓binV_shr, ↓binV_beq, ↓binV_bne, ↓binV_aeq, ↓binV_ane, ↓FreeB_mk, ↓allN_nil, ↓allN_one, ↓frT_nil, ↓frT_cons, ↓frB_nil, ↓frB_cons, ↓frK_nil, ↓frK_cons, ↓frCs_nil, ↓frCs_cons, ↓frV_c, ↓frV_agg, ↓frV_tup, ↓frV_g, ↓frC_d, ↓frC_nil, ↓frC_pd, ↓frC_own, ↓frC_arr, ↓frC_lp, ↓frC_ap, ↓frC_fn, ↓finQ_normal, ↓finQ_ret, oel_some, oel_none, wp_ret, wp_fail, wp_getT, wp_getB, wp_getK, wp_need, wp_exD, wp_case, wp_ite, wp_unG_g, wp_unG_c, wp_unG_agg, wp_unG_tup, wp_rawO_tmp, wp_rawO_const, wp_rawO_func, wp_opnd, wp_opnds_nil, wp_opnds_cons, wp_asI, wp_asB, wp_asL_nil, wp_asL_own, wp_asL_list, wp_orFail, wp_gNeed, wp_noGd_none, wp_optI_none, wp_optI_some, wp_getBs_nil, wp_getBs_cons, wp_getKs_nil, wp_getKs_cons, wpL_ret, wpL_fail, wpL_getT, wpL_getB, wpL_getK, wpL_need, wpL_exD, wpL_case, wpL_ite, wpL_unG_g, wpL_unG_c, wpL_unG_agg, wpL_unG_tup, wpL_rawO_tmp, wpL_rawO_const, wpL_rawO_func, wpL_opnd, wpL_opnds_nil, wpL_opnds_cons, wpL_asI, wpL_asB, wpL_asL_nil, wpL_asL_own, wpL_asL_list, wpL_orFail, wpL_gNeed, wpL_noGd_none, wpL_optI_none, wpL_optI_some, wpL_getBs_nil, wpL_getBs_cons, wpL_getKs_nil, wpL_getKs_cons, wp_bindR, wpL_bindR, runOps_nil, runOps_cons, runOpsL_nil, runOpsL_cons, W_skip, W_region, W_drawn, W_seq, W_cond, W_block, W_exit, W_ret, W_label, W_loop, thenS_normal, thenS_ret, thenS_exit, inBlockS_normal, inBlockS_ret, inBlockS_exit, loadV_lp, loadV_agg, loadV_int, loadV_bool, loadV_list, loadV_ap, storeV_lp, nilV_lp, nilV_pd, nilV_ap, nilV_fn, faddrV_lp, faddrV_pd, faddrV_ap, fieldV_agg, idxV_arr, idxV_own, idxV_list, extV_tup, bi_len_arr, bi_len_own, bi_len_nil, bi_len_list, bi_min, bi_max, bi_max3, bi_append, gdst_zero, gdst_succ, opRun_none, opRun_some, opSem_move, opSem_assign, opSem_pick, opSem_alloc, opSem_box, opSem_build, opSem_buildSlice, opSem_load, opSem_store, opSem_nilCheck, opSem_binOp, opSem_neg, opSem_not, opSem_convert, opSem_makeSlice, opSem_slice, opSem_fieldAddr, opSem_field, opSem_indexAddr, opSem_extract, opSem_makeFunc, opSem_builtin, opSem_call, callV_fn, apply_some, apply_g, apply_none, boolG_b, boolG_g, condS_tmp, condS_const, obind_some, constV_int, constV_bool, constV_nil, constV_str, constV_nilF, constV_nilP, argT_nil, argT_cons, binV_add, binV_sub, binV_mul, binV_quo, binV_rem, binV_and, binV_or, binV_xor, binV_andNot, binV_eql, binV_neq, binV_lss, binV_leq, binV_gtr, binV_geq, binV_shl, binV_shr, binV_beq, binV_bne, binV_aeq, binV_ane, FreeB_mk, allN_nil, allN_one, frT_nil, frT_cons, frB_nil, frB_cons, frK_nil, frK_cons, frCs_nil, frCs_cons, frV_c, frV_agg, frV_tup, frV_g, frC_d, frC_nil, frC_pd, frC_own, frC_arr, frC_lp, frC_ap, frC_fn, finQ_normal, finQ_ret, retV_tmp, subB_nil, subK_nil, subB_cons, subK_cons, leV_c, leV_agg, leV_tup, leCs_nil, leCs_cons, leC_int, leC_bool, leC_list, leC_list_own, leC_list_nil, leC_own, leC_nil, leC_lp, callSem, resName, keepsB, newB, V.pure, C.pure, V.ptrs, C.ptrs, C.bufs, appendSem, dstOk, lk, V.cells, Op.eff, partV, partD, cut, lay, zeroD, C.toDs, C.toD, V.toD, toDs, D.cells, D.toV, D.okV, buildCells, List.flatMap_nil, List.flatMap_cons, List.all_nil, List.all_cons, List.map_nil, List.map_cons, List.zip_cons_cons, List.zip_nil_left, List.nil_append, List.append_nil, List.cons_append, List.drop_zero, List.drop_succ_cons, List.take_succ_cons, List.take_zero, List.length_cons, List.length_nil, List.getElem?_cons_succ, List.getElem?_cons_zero, Option.getD_some, Option.getD_none, Option.map_some, Option.map_none, Option.some.injEq, Option.isSome_none, Option.isSome_some, Option.toList_some, Option.toList_none, if_true, if_false, ↓reduceIte, reduceCtorEq, Nat.reduceEqDiff, Nat.reduceLT, Nat.reduceLeDiff, List.not_mem_nil, false_implies, implies_true, true_and, and_true, forall_const, Nat.succ_ne_self, Bool.false_eq_true, Bool.true_and, Bool.and_true, eq_self, ne_eq, not_true_eq_false, not_false_eq_true, or_true, true_or, and_self, imp_self, Nat.reduceAdd, Nat.reduceMul, beq_true, beq_false, Name.mk.injEq, decide_true, decide_false, Bool.or_true, Bool.true_or, Bool.or_self, Bool.not_eq_true', Bool.not_true, Bool.not_false, Bool.true_eq_false, Bool.cond_true_left, Bool.cond_false_right, Nat.zero_add, Int.reduceLE, Int.reduceLT, Int.reduceNeg, List.range_succ, List.range_zero, G_volumes, if_true, Try.ntmps6, Try.results6, tt_2, tt_3, tt_4, tt_5, tt_12, tt_21, tt_23, tt_25, tt_30, tt_32, tt_34, tt_35, tt_36, tt_40, tt_42, tt_48, tt_49, tt_52, tt_60, tt_63, tt_64, tt_65, tt_66, tt_67]
  rw [IntWalk.i64_in v (by omega), IntWalk.i64_in (v + 1) (by omega)]
  have h1 := volG_mono (show v ≤ v + 1 by omega)
  have h2 := volG_in v
  have h3 := volG_in (v + 1)
  have h4 : (volG 0 == 0) = true := by decide
  have h5 : (volG 100 == 65536) = true := by decide
  rw [h4, h5]
  simp [h1, h2.1, h3.2]

def G_products : FuncId → List V → Boxes → Toks → Name → Option Ent
  | 12, [], [], [], _ => some ⟨True, vB true, [], []⟩
  | 13, [.c (.d (.int .i64 n))], [], [], _ => some ⟨True, vI .i32 (satG n), [], []⟩
  | 14, [.c (.d (.int .i32 s)), .c (.d (.int .i64 n))], [], [], _ => some ⟨True, vI .i32 (applyG s n), [], []⟩
  | 16, [.c (.d (.int .i64 s)), .c (.d (.int .i64 n))], [], [], _ => some ⟨True, vI .i64 (mulG s n), [], []⟩
  | _, _, _, _, _ => none
theorem G_products_ok (P0 : Ctx) (hP : P0.P = Try.prog) : ∀ f vs b k n e, G_products f vs b k n = some e → n.lv = P0.L → e.pre → Spec P0.P P0.L f vs b k e.r e.b e.k := by
  intro f vs b k n e h hn hp
  rw [hP]
  unfold G_products at h
  split at h
  · cases h; exact (spec_sane ).lift rfl _
  · cases h; exact (spec_rsat _).lift rfl _
  · cases h; exact (spec_apply _ _).lift rfl _
  · cases h; exact (spec_mul _ _).lift rfl _
  · cases h
theorem spec_products (s a b : Int) (hs : -2147483648 ≤ s ∧ s ≤ 2147483647) (ha : 0 ≤ a ∧ a ≤ 65535) (hb : 0 ≤ b ∧ b ≤ 65535) : Spec Try.prog 0 5 [vI .i32 s, vI .u16 a, vI .u16 b] [] [] (vB true) [] [] := by
  refine spec_of_W (X := ⟨Try.prog, tt, Try.f5.ntmps, 1, fun _ => 0, G_products⟩) rfl rfl ⟨tt_ok, G_products_ok _ rfl⟩ tt_mixed Try.func5 rfl (by decide) (by show (3 : Nat) ≤ _; exact Nat.le_of_ble_eq_true rfl) ⟨fun m hm => (V.bare_has rfl m hm).elim, by simp, by simp⟩ finQ_ok ?_
  simp only [↓oel_some, ↓oel_none, ↓wp_ret, ↓wp_fail, ↓wp_getT, ↓wp_getB, ↓wp_getK, ↓wp_need, ↓wp_exD, ↓wp_case, ↓wp_ite, ↓wp_unG_g, ↓wp_unG_c, ↓wp_unG_agg, ↓wp_unG_tup, ↓wp_rawO_tmp, ↓wp_rawO_const, ↓wp_rawO_func, ↓wp_opnd, ↓wp_opnds_nil, ↓wp_opnds_cons, ↓wp_asI, ↓wp_asB, ↓wp_asL_nil, ↓wp_asL_own, ↓wp_asL_list, ↓wp_orFail, ↓wp_gNeed, ↓wp_noGd_none, ↓wp_optI_none, ↓wp_optI_some, ↓wp_getBs_nil, ↓wp_getBs_cons, ↓wp_getKs_nil, ↓wp_getKs_cons, ↓wp_bindR, ↓runOps_nil, ↓runOps_cons, ↓W_skip, ↓W_region, ↓W_drawn, ↓W_seq, ↓W_cond, ↓W_block, ↓W_exit, ↓W_ret, ↓W_label, ↓W_loop, ↓thenS_normal, ↓thenS_ret, ↓thenS_exit, ↓inBlockS_normal, ↓inBlockS_ret, ↓inBlockS_exit, ↓loadV_lp, ↓loadV_agg, ↓loadV_int, ↓loadV_bool, ↓loadV_list, ↓loadV_ap, ↓storeV_lp, ↓nilV_lp, ↓nilV_pd, ↓nilV_ap, ↓nilV_fn, ↓faddrV_lp, ↓faddrV_pd, ↓faddrV_ap, ↓fieldV_agg, ↓idxV_arr, ↓idxV_own, ↓idxV_list, ↓extV_tup, ↓bi_len_arr, ↓bi_len_own, ↓bi_len_nil, ↓bi_len_list, ↓bi_min, ↓bi_max, ↓bi_max3, ↓bi_append, ↓gdst_zero, ↓gdst_succ, ↓opRun_none, ↓opRun_some, ↓opSem_move, ↓opSem_assign, ↓opSem_pick, ↓opSem_alloc, ↓opSem_box, ↓opSem_build, ↓opSem_buildSlice, ↓opSem_load, ↓opSem_store, ↓opSem_nilCheck, ↓opSem_binOp, ↓opSem_neg, ↓opSem_not, ↓opSem_convert, ↓opSem_makeSlice, ↓opSem_slice, ↓opSem_fieldAddr, ↓opSem_field, ↓opSem_indexAddr, ↓opSem_extract, ↓opSem_makeFunc, ↓opSem_builtin, ↓opSem_call, ↓callV_fn, ↓binV_add, ↓binV_sub, ↓binV_mul, ↓binV_quo, ↓binV_rem, ↓binV_and, ↓binV_or, ↓binV_xor, ↓binV_andNot, ↓binV_eql, ↓binV_neq, ↓binV_lss, ↓binV_leq, ↓binV_gtr, ↓binV_geq, ↓binV_shl, ↓binV_shr, ↓binV_beq, ↓binV_bne, ↓binV_aeq, ↓binV_ane, ↓FreeB_mk, ↓allN_nil, ↓allN_one, ↓frT_nil, ↓frT_cons, ↓frB_nil, ↓frB_cons, ↓frK_nil, ↓frK_cons, ↓frCs_nil, ↓frCs_cons, ↓frV_c, ↓frV_agg, ↓frV_tup, ↓frV_g, ↓frC_d, ↓frC_nil, ↓frC_pd, ↓frC_own, ↓frC_arr, ↓frC_lp, ↓frC_ap, ↓frC_fn, ↓finQ_normal, ↓finQ_ret, oel_some, oel_none, wp_ret, wp_fail, wp_getT, wp_getB, wp_getK, wp_need, wp_exD, wp_case, wp_ite, wp_unG_g, wp_unG_c, wp_unG_agg, wp_unG_tup, wp_rawO_tmp, wp_rawO_const, wp_rawO_func, wp_opnd, wp_opnds_nil, wp_opnds_cons, wp_asI, wp_asB, wp_asL_nil, wp_asL_own, wp_asL_list, wp_orFail, wp_gNeed, wp_noGd_none, wp_optI_none, wp_optI_some, wp_getBs_nil, wp_getBs_cons, wp_getKs_nil, wp_getKs_cons, wpL_ret, wpL_fail, wpL_getT, wpL_getB, wpL_getK, wpL_need, wpL_exD, wpL_case, wpL_ite, wpL_unG_g, wpL_unG_c, wpL_unG_agg, wpL_unG_tup, wpL_rawO_tmp, wpL_rawO_const, wpL_rawO_func, wpL_opnd, wpL_opnds_nil, wpL_opnds_cons, wpL_asI, wpL_asB, wpL_asL_nil, wpL_asL_own, wpL_asL_list, wpL_orFail, wpL_gNeed, wpL_noGd_none, wpL_optI_none, wpL_optI_some, wpL_getBs_nil, wpL_getBs_cons, wpL_getKs_nil, wpL_getKs_cons, wp_bindR, wpL_bindR, runOps_nil, runOps_cons, runOpsL_nil, runOpsL_cons, W_skip, W_region, W_drawn, W_seq, W_cond, W_block, W_exit, W_ret, W_label, W_loop, thenS_normal, thenS_ret, thenS_exit, inBlockS_normal, inBlockS_ret, inBlockS_exit, loadV_lp, loadV_agg, loadV_int, loadV_bool, loadV_list, loadV_ap, storeV_lp, nilV_lp, nilV_pd, nilV_ap, nilV_fn, faddrV_lp, faddrV_pd, faddrV_ap, fieldV_agg, idxV_arr, idxV_own, idxV_list, extV_tup, bi_len_arr, bi_len_own, bi_len_nil, bi_len_list, bi_min, bi_max, bi_max3, bi_append, gdst_zero, gdst_succ, opRun_none, opRun_some, opSem_move, opSem_assign, opSem_pick, opSem_alloc, opSem_box, opSem_build, opSem_buildSlice, opSem_load, opSem_store, opSem_nilCheck, opSem_binOp, opSem_neg, opSem_not, opSem_convert, opSem_makeSlice, opSem_slice, opSem_fieldAddr, opSem_field, opSem_indexAddr, opSem_extract, opSem_makeFunc, opSem_builtin, opSem_call, callV_fn, apply_some, apply_g, apply_none, boolG_b, boolG_g, condS_tmp, condS_const, obind_some, constV_int, constV_bool, constV_nil, constV_str, constV_nilF, constV_nilP, argT_nil, argT_cons, binV_add, binV_sub, binV_mul, binV_quo, binV_rem, binV_and, binV_or, binV_xor, binV_andNot, binV_eql, binV_neq, binV_lss, binV_leq, binV_gtr, binV_geq, binV_shl, binV_shr, binV_beq, binV_bne, binV_aeq, binV_ane, FreeB_mk, allN_nil, allN_one, frT_nil, frT_cons, frB_nil, frB_cons, frK_nil, frK_cons, frCs_nil, frCs_cons, frV_c, frV_agg, frV_tup, frV_g, frC_d, frC_nil, frC_pd, frC_own, frC_arr, frC_lp, frC_ap, frC_fn, finQ_normal, finQ_ret, retV_tmp, subB_nil, subK_nil, subB_cons, subK_cons, leV_c, leV_agg, leV_tup, leCs_nil, leCs_cons, leC_int, leC_bool, leC_list, leC_list_own, leC_list_nil, leC_own, leC_nil, leC_lp, callSem, resName, keepsB, newB, V.pure, C.pure, V.ptrs, C.ptrs, C.bufs, appendSem, dstOk, lk, V.cells, Op.eff, partV, partD, cut, lay, zeroD, C.toDs, C.toD, V.toD, toDs, D.cells, D.toV, D.okV, buildCells, List.flatMap_nil, List.flatMap_cons, List.all_nil, List.all_cons, List.map_nil, List.map_cons, List.zip_cons_cons, List.zip_nil_left, List.nil_append, List.append_nil, List.cons_append, List.drop_zero, List.drop_succ_cons, List.take_succ_cons, List.take_zero, List.length_cons, List.length_nil, List.getElem?_cons_succ, List.getElem?_cons_zero, Option.getD_some, Option.getD_none, Option.map_some, Option.map_none, Option.some.injEq, Option.isSome_none, Option.isSome_some, Option.toList_some, Option.toList_none, if_true, if_false, ↓reduceIte, reduceCtorEq, Nat.reduceEqDiff, Nat.reduceLT, Nat.reduceLeDiff, List.not_mem_nil, false_implies, implies_true, true_and, and_true, forall_const, Nat.succ_ne_self, Bool.false_eq_true, Bool.true_and, Bool.and_true, eq_self, ne_eq, not_true_eq_false, not_false_eq_true, or_true, true_or, and_self, imp_self, Nat.reduceAdd, Nat.reduceMul, beq_true, beq_false, Name.mk.injEq, decide_true, decide_false, Bool.or_true, Bool.true_or, Bool.or_self, Bool.not_eq_true', Bool.not_true, Bool.not_false, Bool.true_eq_false, Bool.cond_true_left, Bool.cond_false_right, Nat.zero_add, Int.reduceLE, Int.reduceLT, Int.reduceNeg, List.range_succ, List.range_zero, G_products, if_true, Try.ntmps5, Try.results5, tt_2, tt_3, tt_4, tt_5, tt_12, tt_21, tt_23, tt_25, tt_30, tt_32, tt_34, tt_35, tt_36, tt_40, tt_42, tt_48, tt_49, tt_52, tt_60, tt_63, tt_64, tt_65, tt_66, tt_67]
  rw [IntWalk.i64_in s (by omega), IntWalk.i64_in a (by omega), IntWalk.i64_in b (by omega)]
  obtain ⟨⟨h1, h2⟩, h3⟩ := prod_true (satG_in s) ha hb
  rw [IntWalk.i32_in (applyG (applyG (satG s) a) b - applyG (satG s) (mulG a b)) (by omega)]
  have h4 : (mulG a b == mulG b a) = true := by
    rw [beq_iff_eq, mulG_eq (by omega) (by omega), mulG_eq (by omega) (by omega), Int.mul_comm]
  rw [h4]
  simp [h1, h2, h3]

end Go.Vam
