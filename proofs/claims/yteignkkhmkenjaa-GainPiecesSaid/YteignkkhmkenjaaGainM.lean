/- The law GainPieces gives true. Conditions: none. -/
import Derived.Test.YteignkkhmkenjaaGainL
set_option linter.unusedVariables false
set_option linter.unusedSimpArgs false
set_option maxRecDepth 40000
set_option maxHeartbeats 4000000
namespace Go.Vam
open Go.Proofs

/-- Parts in a row, from one frame to another. -/
def chain (k : Int) (l : List Int) (n : Nat) : Nat → List (Int × List Int) → Prop
  | q, [] => q = n
  | q, x :: xs => ∃ m, q ≤ m ∧ m ≤ n ∧ x = (k, cutK k l q m) ∧ chain k l n m xs
theorem chain_snoc {k : Int} {l : List Int} {n m : Nat} (h : m ≤ n) : ∀ {xs : List (Int × List Int)} {q : Nat}, chain k l m q xs → chain k l n q (xs ++ [(k, cutK k l m n)])
  | [], q, e => ⟨n, by cases e; exact h, Nat.le_refl _, by cases e; rfl, rfl⟩
  | x :: xs, q, ⟨m', h1, h2, h3, h4⟩ => ⟨m', h1, by omega, h3, chain_snoc h h4⟩
theorem cqP_mono (n : Nat) (p : List UInt8) (i : Nat) : cqP n p i ≤ cqP n p (i + 1) := by
  have e : cqP n p (i + 1) = if cqP n p i + (p[i]?.getD 0).toNat % 8 ≤ n then cqP n p i + (p[i]?.getD 0).toNat % 8 else cqP n p i := rfl
  rw [e]
  split
  · exact Nat.le_add_right _ _
  · exact Nat.le_refl _
theorem chain_cq (k : Int) (l : List Int) (n : Nat) (p : List UInt8) : ∀ i, chain k l (cqP n p i) 0 (cqL k l n p i)
  | 0 => rfl
  | i + 1 => by
    have ih := chain_cq k l n p i
    show chain k l (if _ then _ else _) 0 (if _ then _ else _)
    split
    · exact chain_snoc (Nat.le_add_right _ _) ih
    · exact ih
theorem chain_parts (k : Int) (l : List Int) (n : Nat) (p : List UInt8) (i : Nat) : chain k l n 0 (cqL k l n p i ++ [(k, cutK k l (cqP n p i) n)]) :=
  chain_snoc (cqP_le n p i) (chain_cq k l n p i)
theorem cutK_len {k : Int} {l : List Int} {f t : Nat} (h : t * k.toNat ≤ l.length) : (cutK k l f t).length = (t - f) * k.toNat := by
  unfold cutK
  rw [List.length_take, List.length_drop, Nat.sub_mul]
  omega
theorem cutK_get {k : Int} {l : List Int} {f t j : Nat} (hj : j < (t - f) * k.toNat) : (cutK k l f t)[j]? = l[f * k.toNat + j]? := by
  unfold cutK
  rw [List.getElem?_take_of_lt hj, List.getElem?_drop]
/-- The ramp behind so many frames. -/
def rampA (c d : Int) (q : Nat) : Int := if d + (q : Int) < c then d + (q : Int) else c
theorem rampA_zero {a b c d : Int} (h : validG a b c d = true) : rampA c d 0 = d := by
  have := validG_in h
  unfold rampA; split <;> omega
theorem rampA_valid {a b c d : Int} (h : validG a b c d = true) (q : Nat) : validG a b c (rampA c d q) = true := by
  have := validG_in h
  refine validG_of this.1 this.2.1 (by omega) ?_
  unfold rampA; split <;> omega
theorem rampA_add {c d : Int} {q m : Nat} : rampA c (rampA c d q) m = rampA c d (q + m) := by
  unfold rampA; split <;> split <;> omega
theorem gainG_ramp {a b c d : Int} {q : Nat} {i : Int} (hi : 0 ≤ i) : gainG a b c (rampA c d q) i = gainG a b c d (q + i) := by
  unfold gainG rampA
  by_cases h : d + (q : Int) < c
  · rw [if_pos h]
    have e1 : (c - (d + (q : Int)) ≤ i) = (c - d ≤ (q : Int) + i) := by apply propext; constructor <;> intro h <;> omega
    have e2 : d + (q : Int) + i = d + ((q : Int) + i) := by omega
    simp only [e1, e2]
  · rw [if_neg h, if_pos (by omega), if_pos (by omega)]
theorem gO_parts {a b c d k : Int} {l : List Int} {q m : Nat} (hk : 1 ≤ k) (hq : q ≤ m) (hm : m * k.toNat ≤ l.length) :
    gO a b c d k l (q * k.toNat) ++ gO a b c (rampA c d q) k (cutK k l q m) ((m - q) * k.toNat) = gO a b c d k l (m * k.toNat) := by
  have e : m * k.toNat = q * k.toNat + (m - q) * k.toNat := by rw [← Nat.add_mul]; congr 1; omega
  rw [e]
  unfold gO
  rw [List.range_add, List.map_append, List.map_map]
  congr 1
  apply List.map_congr_left
  intro j hj
  rw [List.mem_range] at hj
  have hkp : 0 < k.toNat := by omega
  simp only [Function.comp_apply, gV]
  rw [cutK_get hj, gainG_ramp (Int.natCast_nonneg _)]
  congr 2
  rw [Nat.add_comm (q * k.toNat), Nat.add_mul_div_right _ _ hkp]
  omega

theorem blkV_bkO (l : List UInt8) {c n : Int} (hc : 1 ≤ c ∧ c ≤ 8) (hn : 0 ≤ n ∧ n ≤ 1000) : blkV c (bkO l (c * n).toNat) = true := by
  have hl : (bkO l (c * n).toNat).length = (c * n).toNat := by simp [bkO]
  have h0 : 0 ≤ c * n := Int.mul_nonneg (by omega) hn.1
  have h1 : c * n ≤ 8 * 1000 := Int.mul_le_mul hc.2 hn.2 hn.1 (by decide)
  unfold blkV
  rw [hl]
  have hch : chBk c (c * n).toNat = false := by
    unfold chBk
    have e : (((c * n).toNat : Nat) : Int) = c * n := by omega
    rw [e, Int.mul_tmod_right, Int.mul_tdiv_cancel_left _ (by omega), IntWalk.i64_in n (by omega)]
    simp only [Bool.or_eq_false_iff, decide_eq_false_iff_not, bne_self_eq_false, and_true]
    omega
  rw [hch]
  simp only [Bool.not_false, Bool.true_and, List.all_eq_true]
  intro x hx
  simp only [bkO, List.mem_map] at hx
  obtain ⟨i, _, rfl⟩ := hx
  have := sV_in (bkR l i)
  simp only [smpX, Bool.and_eq_true, decide_eq_true_eq]
  exact this
theorem blkV_cut {k : Int} {s : List Int} {q m : Nat} (hb : blkV k s = true) (hq : q ≤ m) (hm : m * k.toNat ≤ s.length) (hl : s.length ≤ 65536) : blkV k (cutK k s q m) = true := by
  obtain ⟨hc, ha⟩ := blkV_in hb
  obtain ⟨k1, k2, k3⟩ := chBk_in hc
  have hlen := cutK_len (f := q) hm
  have hle : (cutK k s q m).length ≤ s.length := by unfold cutK; rw [List.length_take, List.length_drop]; omega
  unfold blkV
  have hch : chBk k (cutK k s q m).length = false := by
    rw [hlen] at hle ⊢
    unfold chBk
    have e : (((m - q) * k.toNat : Nat) : Int) = ((m - q : Nat) : Int) * k := by
      rw [Int.natCast_mul]; congr 1; omega
    have hdl : m - q ≤ (m - q) * k.toNat := Nat.le_mul_of_pos_right _ (by omega)
    rw [e, Int.mul_tmod_left, Int.mul_tdiv_cancel _ (by omega), IntWalk.i64_in _ (by omega)]
    simp only [Bool.or_eq_false_iff, decide_eq_false_iff_not, bne_self_eq_false, and_true]
    omega
  rw [hch]
  simp only [Bool.not_false, Bool.true_and, List.all_eq_true]
  intro x hx
  exact List.all_eq_true.1 ha x (List.mem_of_mem_drop (List.mem_of_mem_take hx))

theorem spec_pieces (l p : List UInt8) : Spec Try.prog 0 10 [vL (LB l), vL (LB p)] [] [] (vB true) [] [] := by
  refine spec_of_E (X := ⟨Try.prog, tt, Try.f10.ntmps, 1, fun _ => 0, (tab [(12, E_sane), (21, E_new), (20, E_ramp), (30, E_next), (29, E_mblock), (31, E_grun), (34, E_mcut), (35, E_join), (33, E_same)])⟩) (M := [(6, [0, 0, 0, 0, 0, 576988526040969203, 0, 0, 0, 0, 0, 576988522182209523, 0]), (7, [0, 0, 0, 0, 0, 576989488549851123, 0, 0, 0, 0, 0, 0]), (12, [0, 0, 0, 0, 0, 831441896833675251, 0, 0, 0, 0, 0, 0]), (17, [0, 0, 0, 0, 0, 150083286772218799190003, 0, 0, 0, 0, 0, 75558440714432210661363, 0])]) (m := 576988517887242227) rfl rfl ⟨tt_ok, tab_ok (tabs_cons E_sane_ok (tabs_cons E_new_ok (tabs_cons E_ramp_ok (tabs_cons E_next_ok (tabs_cons E_mblock_ok (tabs_cons E_grun_ok (tabs_cons E_mcut_ok (tabs_cons E_join_ok (tabs_cons E_same_ok tabs_nil))))))))) _ rfl rfl⟩ tt_mixed Try.func10 rfl (by decide) (by show (2 : Nat) ≤ _; exact Nat.le_of_ble_eq_true rfl) ⟨fun m hm => (V.bare_has rfl m hm).elim, by simp, by simp⟩ ?_
  simp only [↓oel_some, ↓oel_none, ↓wp_ret, ↓wp_fail, ↓wp_getT, ↓wp_getB, ↓wp_getK, ↓wp_need, ↓wp_exD, ↓wp_case, ↓wp_ite, ↓wp_unG_g, ↓wp_unG_c, ↓wp_unG_agg, ↓wp_unG_tup, ↓wp_rawO_tmp, ↓wp_rawO_const, ↓wp_rawO_func, ↓wp_opnd, ↓wp_opnds_nil, ↓wp_opnds_cons, ↓wp_asI, ↓wp_asB, ↓wp_asL_nil, ↓wp_asL_own, ↓wp_asL_list, ↓wp_orFail, ↓wp_gNeed, ↓wp_noGd_none, ↓wp_optI_none, ↓wp_optI_some, ↓wp_getBs_nil, ↓wp_getBs_cons, ↓wp_getKs_nil, ↓wp_getKs_cons, ↓wp_bindR, ↓thenS_normal, ↓thenS_ret, ↓thenS_exit, ↓inBlockS_normal, ↓inBlockS_ret, ↓inBlockS_exit, ↓loadV_lp, ↓loadV_agg, ↓loadV_int, ↓loadV_bool, ↓loadV_list, ↓loadV_ap, ↓storeV_lp, ↓storeV_ap, ↓scR_int, ↓scR_bool, ↓scR_list, ↓nilV_lp, ↓nilV_pd, ↓nilV_ap, ↓nilV_fn, ↓faddrV_lp, ↓faddrV_pd, ↓faddrV_ap, ↓fieldV_agg, ↓idxV_arr, ↓idxV_own, ↓idxV_list, ↓extV_tup, ↓bi_len_arr, ↓bi_len_own, ↓bi_len_nil, ↓bi_len_list, ↓bi_min, ↓bi_max, ↓bi_max3, ↓bi_append, ↓gdst_zero, ↓gdst_succ, ↓opRun_none, ↓opRun_some, ↓opSem_move, ↓opSem_assign, ↓opSem_pick, ↓opSem_alloc, ↓opSem_box, ↓opSem_build, ↓opSem_buildSlice, ↓opSem_load, ↓opSem_store, ↓opSem_nilCheck, ↓opSem_binOp, ↓opSem_neg, ↓opSem_not, ↓opSem_convert, ↓convV_int, ↓convV_list, ↓convV_own, ↓convV_nil, ↓opSem_makeSlice, ↓opSem_slice, ↓opSem_fieldAddr, ↓opSem_field, ↓opSem_indexAddr, ↓opSem_extract, ↓opSem_makeFunc, ↓opSem_builtin, ↓opSem_call, ↓callV_fn, ↓binV_add, ↓binV_sub, ↓binV_mul, ↓binV_quo, ↓binV_rem, ↓binV_and, ↓binV_or, ↓binV_xor, ↓binV_andNot, ↓binV_eql, ↓binV_neq, ↓binV_lss, ↓binV_leq, ↓binV_gtr, ↓binV_geq, ↓binV_shl, ↓binV_shr, ↓binV_beq, ↓binV_bne, ↓binV_seq, ↓binV_sne, ↓binV_aeq, ↓binV_ane, ↓allD_nil, ↓allD_cons, ↓FreeB_mk, ↓frT_nil, ↓frT_cons, ↓frB_nil, ↓frB_cons, ↓frK_nil, ↓frK_cons, ↓frCs_nil, ↓frCs_cons, ↓frV_c, ↓frV_agg, ↓frV_tup, ↓frV_g, ↓frC_d, ↓frC_nil, ↓frC_pd, ↓frC_own, ↓frC_arr, ↓frC_lp, ↓frC_ap, ↓frC_fn, ↓finQ_normal, ↓finQ_ret, ↓E_skip, ↓E_region, ↓E_drawn, ↓runP_nil, ↓runP_cons0, ↓runP_cons, ↓runN_nil, ↓runN_cons0, ↓runN_cons, ↓frzs_nil, ↓frzs_cons, ↓frz_mk, ↓frzT_arr, ↓frzB_arr, ↓E_seq, ↓E_cond, ↓E_block, ↓E_exit, ↓E_ret, ↓E_label, ↓E_loop, oel_some, oel_none, wp_ret, wp_fail, wp_getT, wp_getB, wp_getK, wp_need, wp_exD, wp_case, wp_ite, wp_unG_g, wp_unG_c, wp_unG_agg, wp_unG_tup, wp_rawO_tmp, wp_rawO_const, wp_rawO_func, wp_opnd, wp_opnds_nil, wp_opnds_cons, wp_asI, wp_asB, wp_asL_nil, wp_asL_own, wp_asL_list, wp_orFail, wp_gNeed, wp_noGd_none, wp_optI_none, wp_optI_some, wp_getBs_nil, wp_getBs_cons, wp_getKs_nil, wp_getKs_cons, wp_bindR, newsOk_nil, newsOk_one, thenS_normal, thenS_ret, thenS_exit, inBlockS_normal, inBlockS_ret, inBlockS_exit, loadV_lp, loadV_agg, loadV_int, loadV_bool, loadV_list, loadV_ap, storeV_lp, storeV_ap, scR_int, scR_bool, scR_list, nilV_lp, nilV_pd, nilV_ap, nilV_fn, faddrV_lp, faddrV_pd, faddrV_ap, fieldV_agg, like_int, like_bool, like_list, like_agg, like1_int, like1_bool, like1_list, likes_nil, likes_cons, toI_int, toB_bool, toL_list, cellsEq_nil, cellsEq_int, cellsEq_bool, cellKinds_nil, cellKinds_int, cellKinds_bool, idxV_arr, idxV_own, idxV_list, extV_tup, bi_len_arr, bi_len_own, bi_len_nil, bi_len_list, bi_min, bi_max, bi_max3, bi_append, gdst_zero, gdst_succ, opRun_none, opRun_some, opSem_move, opSem_assign, opSem_pick, opSem_alloc, opSem_box, opSem_build, opSem_buildSlice, opSem_load, opSem_store, opSem_nilCheck, opSem_binOp, opSem_neg, opSem_not, opSem_convert, convV_int, convV_list, convV_own, convV_nil, opSem_makeSlice, opSem_slice, opSem_fieldAddr, opSem_field, opSem_indexAddr, opSem_extract, opSem_makeFunc, opSem_builtin, opSem_call, callV_fn, apply_some, apply_g, apply_none, boolG_b, boolG_g, condS_tmp, condS_const, obind_some, constV_int, constV_bool, constV_nil, constV_str, constV_nilF, constV_nilP, argT_nil, argT_cons, binV_add, binV_sub, binV_mul, binV_quo, binV_rem, binV_and, binV_or, binV_xor, binV_andNot, binV_eql, binV_neq, binV_lss, binV_leq, binV_gtr, binV_geq, binV_shl, binV_shr, binV_beq, binV_bne, binV_seq, binV_sne, binV_aeq, binV_ane, cells_int, cells_bool, cells_list, cells_str, toV_str, okV_str, cells_agg, toV_int, toV_bool, toV_list, toV_agg, okV_int, okV_bool, okV_list, okV_agg, allD_nil, allD_cons, exD_some, FreeB_mk, allN_nil, allN_one, frT_nil, frT_cons, frB_nil, frB_cons, frK_nil, frK_cons, frCs_nil, frCs_cons, frV_c, frV_agg, frV_tup, frV_g, frC_d, frC_nil, frC_pd, frC_own, frC_arr, frC_lp, frC_ap, frC_fn, finQ_normal, finQ_ret, retC_lp, resV_tmp, resV_cell, resVs_nil, resVs_cons, retV_cell, retV_two, retV_none, retV_tmp, subB_nil, subK_nil, subB_cons, subK_cons, leV_c, leV_agg, leV_tup, leCs_nil, leCs_cons, leC_int, leC_bool, leC_list, leC_list_own, leC_list_nil, leC_own, leC_nil, leC_lp, evS_mk, E_skip, E_region, E_drawn, runP_nil, runP_cons0, runP_cons, runN_nil, runN_cons0, runN_cons, frzs_nil, frzs_cons, frz_mk, frzT_arr, frzB_arr, rm_nil, rm_cons, msk_nil, msk_cons, prM_0, prM_m, E_seq, E_cond, E_block, E_exit, E_ret, E_label, E_loop, pruneT_nil, pruneT_cons, prune_mk, handV, V.bufs, List.set_cons_succ, List.set_cons_zero, List.foldr_cons, List.foldr_nil, List.append_eq, Nat.reduceShiftRight, Nat.reduceMod, keep_nil, keep_cons, List.mem_cons, addB, addK, zeroOp, callSem, resName, keepsB, newB, V.pure, C.pure, V.ptrs, C.ptrs, C.bufs, appendSem, dstOk, lk, V.cells, Op.eff, partV, partD, cut, lay, zeroD, C.toDs, C.toD, V.toD, toDs, buildCells, List.flatMap_nil, List.flatMap_cons, List.all_nil, List.all_cons, List.map_nil, List.map_cons, List.zip_cons_cons, List.zip_nil_left, List.nil_append, List.append_nil, List.cons_append, List.drop_zero, List.drop_succ_cons, List.take_succ_cons, List.take_zero, List.length_cons, List.length_nil, List.getElem?_cons_succ, List.getElem?_cons_zero, Option.getD_some, Option.getD_none, Option.map_some, Option.map_none, Option.some.injEq, Option.isSome_none, Option.isSome_some, Option.toList_some, Option.toList_none, if_true, if_false, ↓reduceIte, reduceCtorEq, Nat.reduceEqDiff, Nat.reduceLT, Nat.reduceLeDiff, List.not_mem_nil, false_implies, implies_true, true_and, and_true, forall_const, Nat.succ_ne_self, Bool.false_eq_true, Bool.true_and, Bool.and_true, eq_self, ne_eq, not_true_eq_false, not_false_eq_true, or_true, true_or, and_self, imp_self, bne_self_eq_false, beq_self_eq_true, Bool.or_false, Bool.false_or, Bool.and_false, Bool.false_and, false_or, or_false, Nat.reduceAdd, Nat.reduceMul, beq_true, beq_false, Name.mk.injEq, decide_true, decide_false, Bool.or_true, Bool.true_or, Bool.or_self, Bool.not_eq_true', Bool.not_true, Bool.not_false, Bool.true_eq_false, Bool.cond_true_left, Bool.cond_false_right, Nat.zero_add, Int.reduceLE, Int.reduceLT, Int.reduceNeg, Int.reduceAdd, Int.reduceToNat, List.range_succ, List.range_zero, rm_nil, rm_cons, strD_LB, strD_nil, strB_toList, ba_toList, LB_u8, LB_replicate, LB_set, LI_set, blks_LK, LK_nil, LK_length, LK_getD, LK_append, LK_snoc, LK_cells, LK_inj, LK_nil_eq, LK_blks_LK, LI_replicate, ints_cons, ints_nil, LI_cons, tab_nil, tab_cons, bys_LB, LB_nil, LB_length, LB_getD, LB_take, LB_drop, LB_append, LB_cells, LB_inj, LB_nil_eq, LB_bys_LB, ints_LI, LI_nil, LI_length, LI_getD, LI_take, LI_drop, LI_append, LI_snoc, LI_cells, LI_inj, LI_nil_eq, LI_ints_LI, LI_ints_nil, gi1, gi2, gi3, gi4, gi5, gi6, gi7, gi8, gi9, gi10, Int.toNat_natCast, keep_nil, keep_cons, dstL_nil, dstL_cons, dsts_region, dsts_seq, dsts_cond, dsts_block, dsts_loop, dsts_skip, dsts_exit, dsts_ret, leV_same, leCs_same, subT_nil, subT_cons, List.mem_cons, List.mem_nil_iff, List.mem_append, E_sane_eq, E_new_eq, E_ramp_eq, E_next_eq, E_mblock_eq, E_grun_eq, E_mcut_eq, E_join_eq, E_same_eq, Try.ntmps10, Try.results10, tt_2, tt_3, tt_4, tt_5, tt_12, tt_21, tt_23, tt_25, tt_30, tt_32, tt_34, tt_35, tt_36, tt_40, tt_42, tt_48, tt_49, tt_52, tt_60, tt_63, tt_64, tt_65, tt_66, tt_67]
  intro hp
  have hp10 : p.length ≤ 10 := by have := of_decide_eq_false hp; omega
  have p1 := dN_ge (rR (List.take 300 l)) 2
  have p2 := dN_lt (rR (List.take 300 l)) 2 (by decide)
  have p3 := dN_ge (dT (rR (List.take 300 l)) 2) 25
  have p4 := dN_lt (dT (rR (List.take 300 l)) 2) 25 (by decide)
  rw [IntWalk.i64_in (1 + dN (rR (List.take 300 l)) 2) (by omega)]
  have hv : validG (rF (List.take 300 l)) (rT (List.take 300 l)) (rN (List.take 300 l)) (rA (List.take 300 l)) = true := by
    have a1 := rF_in (List.take 300 l)
    have a2 := rT_in (List.take 300 l)
    have a3 := rN_in (List.take 300 l)
    have a4 := rA_in (List.take 300 l)
    exact validG_of a1 a2 (by omega) a4
  have hblk := blkV_bkO (dT (dT (rR (List.take 300 l)) 2) 25) (c := 1 + dN (rR (List.take 300 l)) 2) (n := dN (dT (rR (List.take 300 l)) 2) 25) (by omega) (by omega)
  have hlen : (bkO (dT (dT (rR (List.take 300 l)) 2) 25) ((1 + dN (rR (List.take 300 l)) 2) * dN (dT (rR (List.take 300 l)) 2) 25).toNat).length ≤ 1000 := by
    have hm := mul_bd (x := 1 + dN (rR (List.take 300 l)) 2) (y := dN (dT (rR (List.take 300 l)) 2) 25) (A := 2) (B := 25) (by omega) (by omega) p3 (by omega) (by decide)
    simp only [bkO, List.length_map, List.length_range]
    omega
  have hk : 1 ≤ 1 + dN (rR (List.take 300 l)) 2 := by omega
  have hk8 : 1 + dN (rR (List.take 300 l)) 2 ≤ 8 := by omega
  refine ⟨⟨⟨by omega, by omega⟩, by omega, by omega⟩, by omega, ⟨by omega, hblk, by omega⟩, ?_⟩
  generalize bkO (dT (dT (rR (List.take 300 l)) 2) 25) ((1 + dN (rR (List.take 300 l)) 2) * dN (dT (rR (List.take 300 l)) 2) 25).toNat = s at *
  clear p1 p2 p3 p4
  generalize 1 + dN (rR (List.take 300 l)) 2 = k at *
  generalize rF (List.take 300 l) = a at *
  generalize rT (List.take 300 l) = b at *
  generalize rN (List.take 300 l) = c at *
  generalize rA (List.take 300 l) = d at *
  have hch := chain_parts k s (s.length / k.toNat) p p.length
  have hpl : (cqL k s (s.length / k.toNat) p p.length ++ [(k, cutK k s (cqP (s.length / k.toNat) p p.length) (s.length / k.toNat))]).length ≤ 11 := by
    have := cqL_len k s (s.length / k.toNat) p p.length
    rw [List.length_append, List.length_singleton]
    omega
  generalize cqL k s (s.length / k.toNat) p p.length ++ [(k, cutK k s (cqP (s.length / k.toNat) p p.length) (s.length / k.toNat))] = L at *
  obtain ⟨hc0, hsm⟩ := blkV_in hblk
  obtain ⟨k1, k2, k3⟩ := chBk_in hc0
  generalize hn : s.length / k.toNat = n at *
  refine ELoop_keep (fun g : Nat × Nat => ⟨[(47, vI .i64 (g.1 : Nat))], [(⟨1, 6⟩, [.d (.int .i64 a), .d (.int .i64 b), .d (.int .i64 c), .d (.int .i64 (rampA c d g.2))]), (⟨1, 11⟩, [.d (.int .i64 k), .d (.list (LI .i32 (gO a b c d k s (g.2 * k.toNat))))])], []⟩) (fun g => g.1 ≤ L.length ∧ g.2 ≤ n ∧ chain k s n g.2 (L.drop g.1)) (fun g => L.length - g.1) (fun g => (g.1 + 1, g.2 + (L[g.1]?.getD (0, [])).2.length / k.toNat)) (0, 0) ⟨Nat.zero_le _, Nat.zero_le _, hch⟩ ?_ ?_
  · simp only [↓oel_some, ↓oel_none, ↓wp_ret, ↓wp_fail, ↓wp_getT, ↓wp_getB, ↓wp_getK, ↓wp_need, ↓wp_exD, ↓wp_case, ↓wp_ite, ↓wp_unG_g, ↓wp_unG_c, ↓wp_unG_agg, ↓wp_unG_tup, ↓wp_rawO_tmp, ↓wp_rawO_const, ↓wp_rawO_func, ↓wp_opnd, ↓wp_opnds_nil, ↓wp_opnds_cons, ↓wp_asI, ↓wp_asB, ↓wp_asL_nil, ↓wp_asL_own, ↓wp_asL_list, ↓wp_orFail, ↓wp_gNeed, ↓wp_noGd_none, ↓wp_optI_none, ↓wp_optI_some, ↓wp_getBs_nil, ↓wp_getBs_cons, ↓wp_getKs_nil, ↓wp_getKs_cons, ↓wp_bindR, ↓thenS_normal, ↓thenS_ret, ↓thenS_exit, ↓inBlockS_normal, ↓inBlockS_ret, ↓inBlockS_exit, ↓loadV_lp, ↓loadV_agg, ↓loadV_int, ↓loadV_bool, ↓loadV_list, ↓loadV_ap, ↓storeV_lp, ↓storeV_ap, ↓scR_int, ↓scR_bool, ↓scR_list, ↓nilV_lp, ↓nilV_pd, ↓nilV_ap, ↓nilV_fn, ↓faddrV_lp, ↓faddrV_pd, ↓faddrV_ap, ↓fieldV_agg, ↓idxV_arr, ↓idxV_own, ↓idxV_list, ↓extV_tup, ↓bi_len_arr, ↓bi_len_own, ↓bi_len_nil, ↓bi_len_list, ↓bi_min, ↓bi_max, ↓bi_max3, ↓bi_append, ↓gdst_zero, ↓gdst_succ, ↓opRun_none, ↓opRun_some, ↓opSem_move, ↓opSem_assign, ↓opSem_pick, ↓opSem_alloc, ↓opSem_box, ↓opSem_build, ↓opSem_buildSlice, ↓opSem_load, ↓opSem_store, ↓opSem_nilCheck, ↓opSem_binOp, ↓opSem_neg, ↓opSem_not, ↓opSem_convert, ↓convV_int, ↓convV_list, ↓convV_own, ↓convV_nil, ↓opSem_makeSlice, ↓opSem_slice, ↓opSem_fieldAddr, ↓opSem_field, ↓opSem_indexAddr, ↓opSem_extract, ↓opSem_makeFunc, ↓opSem_builtin, ↓opSem_call, ↓callV_fn, ↓binV_add, ↓binV_sub, ↓binV_mul, ↓binV_quo, ↓binV_rem, ↓binV_and, ↓binV_or, ↓binV_xor, ↓binV_andNot, ↓binV_eql, ↓binV_neq, ↓binV_lss, ↓binV_leq, ↓binV_gtr, ↓binV_geq, ↓binV_shl, ↓binV_shr, ↓binV_beq, ↓binV_bne, ↓binV_seq, ↓binV_sne, ↓binV_aeq, ↓binV_ane, ↓allD_nil, ↓allD_cons, ↓FreeB_mk, ↓frT_nil, ↓frT_cons, ↓frB_nil, ↓frB_cons, ↓frK_nil, ↓frK_cons, ↓frCs_nil, ↓frCs_cons, ↓frV_c, ↓frV_agg, ↓frV_tup, ↓frV_g, ↓frC_d, ↓frC_nil, ↓frC_pd, ↓frC_own, ↓frC_arr, ↓frC_lp, ↓frC_ap, ↓frC_fn, ↓finQ_normal, ↓finQ_ret, ↓E_skip, ↓E_region, ↓E_drawn, ↓runP_nil, ↓runP_cons0, ↓runP_cons, ↓runN_nil, ↓runN_cons0, ↓runN_cons, ↓frzs_nil, ↓frzs_cons, ↓frz_mk, ↓frzT_arr, ↓frzB_arr, ↓E_seq, ↓E_cond, ↓E_block, ↓E_exit, ↓E_ret, ↓E_label, ↓E_loop, oel_some, oel_none, wp_ret, wp_fail, wp_getT, wp_getB, wp_getK, wp_need, wp_exD, wp_case, wp_ite, wp_unG_g, wp_unG_c, wp_unG_agg, wp_unG_tup, wp_rawO_tmp, wp_rawO_const, wp_rawO_func, wp_opnd, wp_opnds_nil, wp_opnds_cons, wp_asI, wp_asB, wp_asL_nil, wp_asL_own, wp_asL_list, wp_orFail, wp_gNeed, wp_noGd_none, wp_optI_none, wp_optI_some, wp_getBs_nil, wp_getBs_cons, wp_getKs_nil, wp_getKs_cons, wp_bindR, newsOk_nil, newsOk_one, thenS_normal, thenS_ret, thenS_exit, inBlockS_normal, inBlockS_ret, inBlockS_exit, loadV_lp, loadV_agg, loadV_int, loadV_bool, loadV_list, loadV_ap, storeV_lp, storeV_ap, scR_int, scR_bool, scR_list, nilV_lp, nilV_pd, nilV_ap, nilV_fn, faddrV_lp, faddrV_pd, faddrV_ap, fieldV_agg, like_int, like_bool, like_list, like_agg, like1_int, like1_bool, like1_list, likes_nil, likes_cons, toI_int, toB_bool, toL_list, cellsEq_nil, cellsEq_int, cellsEq_bool, cellKinds_nil, cellKinds_int, cellKinds_bool, idxV_arr, idxV_own, idxV_list, extV_tup, bi_len_arr, bi_len_own, bi_len_nil, bi_len_list, bi_min, bi_max, bi_max3, bi_append, gdst_zero, gdst_succ, opRun_none, opRun_some, opSem_move, opSem_assign, opSem_pick, opSem_alloc, opSem_box, opSem_build, opSem_buildSlice, opSem_load, opSem_store, opSem_nilCheck, opSem_binOp, opSem_neg, opSem_not, opSem_convert, convV_int, convV_list, convV_own, convV_nil, opSem_makeSlice, opSem_slice, opSem_fieldAddr, opSem_field, opSem_indexAddr, opSem_extract, opSem_makeFunc, opSem_builtin, opSem_call, callV_fn, apply_some, apply_g, apply_none, boolG_b, boolG_g, condS_tmp, condS_const, obind_some, constV_int, constV_bool, constV_nil, constV_str, constV_nilF, constV_nilP, argT_nil, argT_cons, binV_add, binV_sub, binV_mul, binV_quo, binV_rem, binV_and, binV_or, binV_xor, binV_andNot, binV_eql, binV_neq, binV_lss, binV_leq, binV_gtr, binV_geq, binV_shl, binV_shr, binV_beq, binV_bne, binV_seq, binV_sne, binV_aeq, binV_ane, cells_int, cells_bool, cells_list, cells_str, toV_str, okV_str, cells_agg, toV_int, toV_bool, toV_list, toV_agg, okV_int, okV_bool, okV_list, okV_agg, allD_nil, allD_cons, exD_some, FreeB_mk, allN_nil, allN_one, frT_nil, frT_cons, frB_nil, frB_cons, frK_nil, frK_cons, frCs_nil, frCs_cons, frV_c, frV_agg, frV_tup, frV_g, frC_d, frC_nil, frC_pd, frC_own, frC_arr, frC_lp, frC_ap, frC_fn, finQ_normal, finQ_ret, retC_lp, resV_tmp, resV_cell, resVs_nil, resVs_cons, retV_cell, retV_two, retV_none, retV_tmp, subB_nil, subK_nil, subB_cons, subK_cons, leV_c, leV_agg, leV_tup, leCs_nil, leCs_cons, leC_int, leC_bool, leC_list, leC_list_own, leC_list_nil, leC_own, leC_nil, leC_lp, evS_mk, E_skip, E_region, E_drawn, runP_nil, runP_cons0, runP_cons, runN_nil, runN_cons0, runN_cons, frzs_nil, frzs_cons, frz_mk, frzT_arr, frzB_arr, rm_nil, rm_cons, msk_nil, msk_cons, prM_0, prM_m, E_seq, E_cond, E_block, E_exit, E_ret, E_label, E_loop, pruneT_nil, pruneT_cons, prune_mk, handV, V.bufs, List.set_cons_succ, List.set_cons_zero, List.foldr_cons, List.foldr_nil, List.append_eq, Nat.reduceShiftRight, Nat.reduceMod, keep_nil, keep_cons, List.mem_cons, addB, addK, zeroOp, callSem, resName, keepsB, newB, V.pure, C.pure, V.ptrs, C.ptrs, C.bufs, appendSem, dstOk, lk, V.cells, Op.eff, partV, partD, cut, lay, zeroD, C.toDs, C.toD, V.toD, toDs, buildCells, List.flatMap_nil, List.flatMap_cons, List.all_nil, List.all_cons, List.map_nil, List.map_cons, List.zip_cons_cons, List.zip_nil_left, List.nil_append, List.append_nil, List.cons_append, List.drop_zero, List.drop_succ_cons, List.take_succ_cons, List.take_zero, List.length_cons, List.length_nil, List.getElem?_cons_succ, List.getElem?_cons_zero, Option.getD_some, Option.getD_none, Option.map_some, Option.map_none, Option.some.injEq, Option.isSome_none, Option.isSome_some, Option.toList_some, Option.toList_none, if_true, if_false, ↓reduceIte, reduceCtorEq, Nat.reduceEqDiff, Nat.reduceLT, Nat.reduceLeDiff, List.not_mem_nil, false_implies, implies_true, true_and, and_true, forall_const, Nat.succ_ne_self, Bool.false_eq_true, Bool.true_and, Bool.and_true, eq_self, ne_eq, not_true_eq_false, not_false_eq_true, or_true, true_or, and_self, imp_self, bne_self_eq_false, beq_self_eq_true, Bool.or_false, Bool.false_or, Bool.and_false, Bool.false_and, false_or, or_false, Nat.reduceAdd, Nat.reduceMul, beq_true, beq_false, Name.mk.injEq, decide_true, decide_false, Bool.or_true, Bool.true_or, Bool.or_self, Bool.not_eq_true', Bool.not_true, Bool.not_false, Bool.true_eq_false, Bool.cond_true_left, Bool.cond_false_right, Nat.zero_add, Int.reduceLE, Int.reduceLT, Int.reduceNeg, Int.reduceAdd, Int.reduceToNat, List.range_succ, List.range_zero, rm_nil, rm_cons, strD_LB, strD_nil, strB_toList, ba_toList, LB_u8, LB_replicate, LB_set, LI_set, blks_LK, LK_nil, LK_length, LK_getD, LK_append, LK_snoc, LK_cells, LK_inj, LK_nil_eq, LK_blks_LK, LI_replicate, ints_cons, ints_nil, LI_cons, tab_nil, tab_cons, bys_LB, LB_nil, LB_length, LB_getD, LB_take, LB_drop, LB_append, LB_cells, LB_inj, LB_nil_eq, LB_bys_LB, ints_LI, LI_nil, LI_length, LI_getD, LI_take, LI_drop, LI_append, LI_snoc, LI_cells, LI_inj, LI_nil_eq, LI_ints_LI, LI_ints_nil, gi1, gi2, gi3, gi4, gi5, gi6, gi7, gi8, gi9, gi10, Int.toNat_natCast, keep_nil, keep_cons, dstL_nil, dstL_cons, dsts_region, dsts_seq, dsts_cond, dsts_block, dsts_loop, dsts_skip, dsts_exit, dsts_ret, leV_same, leCs_same, subT_nil, subT_cons, List.mem_cons, List.mem_nil_iff, List.mem_append, E_sane_eq, E_new_eq, E_ramp_eq, E_next_eq, E_mblock_eq, E_grun_eq, E_mcut_eq, E_join_eq, E_same_eq, Try.ntmps10, Try.results10, tt_2, tt_3, tt_4, tt_5, tt_12, tt_21, tt_23, tt_25, tt_30, tt_32, tt_34, tt_35, tt_36, tt_40, tt_42, tt_48, tt_49, tt_52, tt_60, tt_63, tt_64, tt_65, tt_66, tt_67]
    rw [rampA_zero hv]
    simp [gO]
  rintro ⟨i, q⟩ ⟨hi, hq, hc⟩
  simp only [↓oel_some, ↓oel_none, ↓wp_ret, ↓wp_fail, ↓wp_getT, ↓wp_getB, ↓wp_getK, ↓wp_need, ↓wp_exD, ↓wp_case, ↓wp_ite, ↓wp_unG_g, ↓wp_unG_c, ↓wp_unG_agg, ↓wp_unG_tup, ↓wp_rawO_tmp, ↓wp_rawO_const, ↓wp_rawO_func, ↓wp_opnd, ↓wp_opnds_nil, ↓wp_opnds_cons, ↓wp_asI, ↓wp_asB, ↓wp_asL_nil, ↓wp_asL_own, ↓wp_asL_list, ↓wp_orFail, ↓wp_gNeed, ↓wp_noGd_none, ↓wp_optI_none, ↓wp_optI_some, ↓wp_getBs_nil, ↓wp_getBs_cons, ↓wp_getKs_nil, ↓wp_getKs_cons, ↓wp_bindR, ↓thenS_normal, ↓thenS_ret, ↓thenS_exit, ↓inBlockS_normal, ↓inBlockS_ret, ↓inBlockS_exit, ↓loadV_lp, ↓loadV_agg, ↓loadV_int, ↓loadV_bool, ↓loadV_list, ↓loadV_ap, ↓storeV_lp, ↓storeV_ap, ↓scR_int, ↓scR_bool, ↓scR_list, ↓nilV_lp, ↓nilV_pd, ↓nilV_ap, ↓nilV_fn, ↓faddrV_lp, ↓faddrV_pd, ↓faddrV_ap, ↓fieldV_agg, ↓idxV_arr, ↓idxV_own, ↓idxV_list, ↓extV_tup, ↓bi_len_arr, ↓bi_len_own, ↓bi_len_nil, ↓bi_len_list, ↓bi_min, ↓bi_max, ↓bi_max3, ↓bi_append, ↓gdst_zero, ↓gdst_succ, ↓opRun_none, ↓opRun_some, ↓opSem_move, ↓opSem_assign, ↓opSem_pick, ↓opSem_alloc, ↓opSem_box, ↓opSem_build, ↓opSem_buildSlice, ↓opSem_load, ↓opSem_store, ↓opSem_nilCheck, ↓opSem_binOp, ↓opSem_neg, ↓opSem_not, ↓opSem_convert, ↓convV_int, ↓convV_list, ↓convV_own, ↓convV_nil, ↓opSem_makeSlice, ↓opSem_slice, ↓opSem_fieldAddr, ↓opSem_field, ↓opSem_indexAddr, ↓opSem_extract, ↓opSem_makeFunc, ↓opSem_builtin, ↓opSem_call, ↓callV_fn, ↓binV_add, ↓binV_sub, ↓binV_mul, ↓binV_quo, ↓binV_rem, ↓binV_and, ↓binV_or, ↓binV_xor, ↓binV_andNot, ↓binV_eql, ↓binV_neq, ↓binV_lss, ↓binV_leq, ↓binV_gtr, ↓binV_geq, ↓binV_shl, ↓binV_shr, ↓binV_beq, ↓binV_bne, ↓binV_seq, ↓binV_sne, ↓binV_aeq, ↓binV_ane, ↓allD_nil, ↓allD_cons, ↓FreeB_mk, ↓frT_nil, ↓frT_cons, ↓frB_nil, ↓frB_cons, ↓frK_nil, ↓frK_cons, ↓frCs_nil, ↓frCs_cons, ↓frV_c, ↓frV_agg, ↓frV_tup, ↓frV_g, ↓frC_d, ↓frC_nil, ↓frC_pd, ↓frC_own, ↓frC_arr, ↓frC_lp, ↓frC_ap, ↓frC_fn, ↓finQ_normal, ↓finQ_ret, ↓E_skip, ↓E_region, ↓E_drawn, ↓runP_nil, ↓runP_cons0, ↓runP_cons, ↓runN_nil, ↓runN_cons0, ↓runN_cons, ↓frzs_nil, ↓frzs_cons, ↓frz_mk, ↓frzT_arr, ↓frzB_arr, ↓E_seq, ↓E_cond, ↓E_block, ↓E_exit, ↓E_ret, ↓E_label, ↓E_loop, oel_some, oel_none, wp_ret, wp_fail, wp_getT, wp_getB, wp_getK, wp_need, wp_exD, wp_case, wp_ite, wp_unG_g, wp_unG_c, wp_unG_agg, wp_unG_tup, wp_rawO_tmp, wp_rawO_const, wp_rawO_func, wp_opnd, wp_opnds_nil, wp_opnds_cons, wp_asI, wp_asB, wp_asL_nil, wp_asL_own, wp_asL_list, wp_orFail, wp_gNeed, wp_noGd_none, wp_optI_none, wp_optI_some, wp_getBs_nil, wp_getBs_cons, wp_getKs_nil, wp_getKs_cons, wp_bindR, newsOk_nil, newsOk_one, thenS_normal, thenS_ret, thenS_exit, inBlockS_normal, inBlockS_ret, inBlockS_exit, loadV_lp, loadV_agg, loadV_int, loadV_bool, loadV_list, loadV_ap, storeV_lp, storeV_ap, scR_int, scR_bool, scR_list, nilV_lp, nilV_pd, nilV_ap, nilV_fn, faddrV_lp, faddrV_pd, faddrV_ap, fieldV_agg, like_int, like_bool, like_list, like_agg, like1_int, like1_bool, like1_list, likes_nil, likes_cons, toI_int, toB_bool, toL_list, cellsEq_nil, cellsEq_int, cellsEq_bool, cellKinds_nil, cellKinds_int, cellKinds_bool, idxV_arr, idxV_own, idxV_list, extV_tup, bi_len_arr, bi_len_own, bi_len_nil, bi_len_list, bi_min, bi_max, bi_max3, bi_append, gdst_zero, gdst_succ, opRun_none, opRun_some, opSem_move, opSem_assign, opSem_pick, opSem_alloc, opSem_box, opSem_build, opSem_buildSlice, opSem_load, opSem_store, opSem_nilCheck, opSem_binOp, opSem_neg, opSem_not, opSem_convert, convV_int, convV_list, convV_own, convV_nil, opSem_makeSlice, opSem_slice, opSem_fieldAddr, opSem_field, opSem_indexAddr, opSem_extract, opSem_makeFunc, opSem_builtin, opSem_call, callV_fn, apply_some, apply_g, apply_none, boolG_b, boolG_g, condS_tmp, condS_const, obind_some, constV_int, constV_bool, constV_nil, constV_str, constV_nilF, constV_nilP, argT_nil, argT_cons, binV_add, binV_sub, binV_mul, binV_quo, binV_rem, binV_and, binV_or, binV_xor, binV_andNot, binV_eql, binV_neq, binV_lss, binV_leq, binV_gtr, binV_geq, binV_shl, binV_shr, binV_beq, binV_bne, binV_seq, binV_sne, binV_aeq, binV_ane, cells_int, cells_bool, cells_list, cells_str, toV_str, okV_str, cells_agg, toV_int, toV_bool, toV_list, toV_agg, okV_int, okV_bool, okV_list, okV_agg, allD_nil, allD_cons, exD_some, FreeB_mk, allN_nil, allN_one, frT_nil, frT_cons, frB_nil, frB_cons, frK_nil, frK_cons, frCs_nil, frCs_cons, frV_c, frV_agg, frV_tup, frV_g, frC_d, frC_nil, frC_pd, frC_own, frC_arr, frC_lp, frC_ap, frC_fn, finQ_normal, finQ_ret, retC_lp, resV_tmp, resV_cell, resVs_nil, resVs_cons, retV_cell, retV_two, retV_none, retV_tmp, subB_nil, subK_nil, subB_cons, subK_cons, leV_c, leV_agg, leV_tup, leCs_nil, leCs_cons, leC_int, leC_bool, leC_list, leC_list_own, leC_list_nil, leC_own, leC_nil, leC_lp, evS_mk, E_skip, E_region, E_drawn, runP_nil, runP_cons0, runP_cons, runN_nil, runN_cons0, runN_cons, frzs_nil, frzs_cons, frz_mk, frzT_arr, frzB_arr, rm_nil, rm_cons, msk_nil, msk_cons, prM_0, prM_m, E_seq, E_cond, E_block, E_exit, E_ret, E_label, E_loop, pruneT_nil, pruneT_cons, prune_mk, handV, V.bufs, List.set_cons_succ, List.set_cons_zero, List.foldr_cons, List.foldr_nil, List.append_eq, Nat.reduceShiftRight, Nat.reduceMod, keep_nil, keep_cons, List.mem_cons, addB, addK, zeroOp, callSem, resName, keepsB, newB, V.pure, C.pure, V.ptrs, C.ptrs, C.bufs, appendSem, dstOk, lk, V.cells, Op.eff, partV, partD, cut, lay, zeroD, C.toDs, C.toD, V.toD, toDs, buildCells, List.flatMap_nil, List.flatMap_cons, List.all_nil, List.all_cons, List.map_nil, List.map_cons, List.zip_cons_cons, List.zip_nil_left, List.nil_append, List.append_nil, List.cons_append, List.drop_zero, List.drop_succ_cons, List.take_succ_cons, List.take_zero, List.length_cons, List.length_nil, List.getElem?_cons_succ, List.getElem?_cons_zero, Option.getD_some, Option.getD_none, Option.map_some, Option.map_none, Option.some.injEq, Option.isSome_none, Option.isSome_some, Option.toList_some, Option.toList_none, if_true, if_false, ↓reduceIte, reduceCtorEq, Nat.reduceEqDiff, Nat.reduceLT, Nat.reduceLeDiff, List.not_mem_nil, false_implies, implies_true, true_and, and_true, forall_const, Nat.succ_ne_self, Bool.false_eq_true, Bool.true_and, Bool.and_true, eq_self, ne_eq, not_true_eq_false, not_false_eq_true, or_true, true_or, and_self, imp_self, bne_self_eq_false, beq_self_eq_true, Bool.or_false, Bool.false_or, Bool.and_false, Bool.false_and, false_or, or_false, Nat.reduceAdd, Nat.reduceMul, beq_true, beq_false, Name.mk.injEq, decide_true, decide_false, Bool.or_true, Bool.true_or, Bool.or_self, Bool.not_eq_true', Bool.not_true, Bool.not_false, Bool.true_eq_false, Bool.cond_true_left, Bool.cond_false_right, Nat.zero_add, Int.reduceLE, Int.reduceLT, Int.reduceNeg, Int.reduceAdd, Int.reduceToNat, List.range_succ, List.range_zero, rm_nil, rm_cons, strD_LB, strD_nil, strB_toList, ba_toList, LB_u8, LB_replicate, LB_set, LI_set, blks_LK, LK_nil, LK_length, LK_getD, LK_append, LK_snoc, LK_cells, LK_inj, LK_nil_eq, LK_blks_LK, LI_replicate, ints_cons, ints_nil, LI_cons, tab_nil, tab_cons, bys_LB, LB_nil, LB_length, LB_getD, LB_take, LB_drop, LB_append, LB_cells, LB_inj, LB_nil_eq, LB_bys_LB, ints_LI, LI_nil, LI_length, LI_getD, LI_take, LI_drop, LI_append, LI_snoc, LI_cells, LI_inj, LI_nil_eq, LI_ints_LI, LI_ints_nil, gi1, gi2, gi3, gi4, gi5, gi6, gi7, gi8, gi9, gi10, Int.toNat_natCast, keep_nil, keep_cons, dstL_nil, dstL_cons, dsts_region, dsts_seq, dsts_cond, dsts_block, dsts_loop, dsts_skip, dsts_exit, dsts_ret, leV_same, leCs_same, subT_nil, subT_cons, List.mem_cons, List.mem_nil_iff, List.mem_append, E_sane_eq, E_new_eq, E_ramp_eq, E_next_eq, E_mblock_eq, E_grun_eq, E_mcut_eq, E_join_eq, E_same_eq, Try.ntmps10, Try.results10, tt_2, tt_3, tt_4, tt_5, tt_12, tt_21, tt_23, tt_25, tt_30, tt_32, tt_34, tt_35, tt_36, tt_40, tt_42, tt_48, tt_49, tt_52, tt_60, tt_63, tt_64, tt_65, tt_66, tt_67]
  have hE0 : grE a b c d k s = 0 := by simp [grE, hv, hblk]
  refine ⟨fun h1 => ?_, fun h1 => ?_⟩
  · have hlt : i < L.length := by have := of_decide_eq_true h1; omega
    have hx : L.drop i = L[i] :: L.drop (i + 1) := List.drop_eq_getElem_cons hlt
    replace hc : chain k s n q (L.drop i) := hc
    rw [hx] at hc
    obtain ⟨m, m1, m2, m3, m4⟩ := hc
    have hg : L[i]?.getD (0, []) = (k, cutK k s q m) := by rw [List.getElem?_eq_getElem hlt]; exact m3
    rw [hg]
    have hmk : m * k.toNat ≤ s.length := by rw [k3]; exact Nat.mul_le_mul_right _ m2
    have hcl := cutK_len (f := q) hmk
    have hcle : (cutK k s q m).length ≤ s.length := by unfold cutK; rw [List.length_take, List.length_drop]; omega
    have hb2 := blkV_cut hblk m1 hmk (by omega)
    have hE : grE a b c (rampA c d q) k (cutK k s q m) = 0 := by simp [grE, rampA_valid hv q, hb2]
    have hdl : (cutK k s q m).length / k.toNat = m - q := by rw [hcl]; exact Nat.mul_div_cancel _ (by omega)
    have hA : grA a b c (rampA c d q) k (cutK k s q m) = rampA c d m := by
      unfold grA
      rw [if_pos hE, hdl]
      have := rampA_add (c := c) (d := d) (q := q) (m := m - q)
      rw [show q + (m - q) = m by omega] at this
      exact this
    have hF : grF a b c (rampA c d q) k (cutK k s q m) = a := by simp [grF, hE]
    have hT : grT a b c (rampA c d q) k (cutK k s q m) = b := by simp [grT, hE]
    have hN : grN a b c (rampA c d q) k (cutK k s q m) = c := by simp [grN, hE]
    have hC : grC a b c (rampA c d q) k (cutK k s q m) = k := by simp [grC, hE]
    have hO : grO a b c (rampA c d q) k (cutK k s q m) = gO a b c (rampA c d q) k (cutK k s q m) ((m - q) * k.toNat) := by simp [grO, hE, hcl]
    have hqk : q * k.toNat ≤ s.length := by rw [k3]; exact Nat.mul_le_mul_right _ hq
    have hmq : (m - q) * k.toNat ≤ s.length := by rw [← hcl]; exact hcle
    have hsum : q + (m - q) = m := by omega
    show _ ∧ _
    simp only [hE, hF, hT, hN, hC, hO, hA, hdl, gO_parts hk m1 hmk, gO_len, hsum]
    refine ⟨by omega, by omega, fun e => by simp at e, fun _ => ⟨by kernel_rfl, by omega, ?_⟩⟩
    exact ⟨⟨(wrapN _ (by omega)).symm, ⟨trivial, trivial, trivial, trivial⟩, trivial⟩, ⟨by omega, m2, m4⟩, by omega⟩
  · have hil : i = L.length := by have := of_decide_eq_false h1; omega
    rw [hil, List.drop_length] at hc
    have hqn : q = n := hc
    have hA : grA a b c d k s = rampA c d n := by
      unfold grA
      rw [if_pos hE0, hn]
      rfl
    have hO : grO a b c d k s = gO a b c d k s (n * k.toNat) := by simp [grO, hE0, ← k3]
    rw [hqn, hA, hO, hE0]
    simp only [grF, grT, grN, grC, hE0, if_true, gO_len]
    refine ⟨fun _ => by omega, by simp⟩

end Go.Vam
